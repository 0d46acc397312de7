import Derived.Test.YtfcbjcohepkkfaaGreatG2
import Derived.Test.YtfcbjcohepkkfaaGreatSepY
namespace Go.Proofs.YtfcbjcohepkkfaaGreat.B
open Go.RowKit Go.Maps Go.Sort Go.Shelf Go.Proofs.YtfcbjcohepkkfaaGreat.Sep Go.Proofs.YtfcbjcohepkkfaaGreat.P
set_option linter.unusedVariables false
set_option linter.unusedSimpArgs false
def lastI : Option (Nat × Ev) → Int
 | none => -1
 | some z => (z.1 : Int)
theorem lastI_some {o : Option (Nat × Ev)} (h : ¬ lastI o < 0) : ∃ z, o = some z := by
 cases o with
 | none => exact absurd (by decide) h
 | some z => exact ⟨z, rfl⟩
theorem lastI_none {o : Option (Nat × Ev)} (h : lastI o < 0) : o = none := by
 cases o with
 | none => rfl
 | some z => exact absurd (show ((z.1 : Nat) : Int) < 0 from h) (by omega)
theorem lastR_at {p : List Ev} {id : Int} {z : Nat × Ev} (h : lastR p id = some z) : p[z.1]? = some z.2 := by
 have : ∀ (m : List (Nat × Ev)) (o : Option (Nat × Ev)), (∀ y ∈ m, p[y.1]? = some y.2) → (∀ y, o = some y → p[y.1]? = some y.2) → ∀ z, m.foldl (lastStep id) o = some z → p[z.1]? = some z.2 := by
  intro m
  induction m with
  | nil => intro o _ ho z hz; exact ho z hz
  | cons y m ih =>
   intro o hm ho z hz
   refine ih _ (fun q hq => hm q (by simp [hq])) (fun q hq => ?_) z hz
   have hy := hm y (by simp)
   unfold lastStep at hq
   by_cases h1 : hasB y.2 ∧ y.2.id = id ∧ y.2.kind ≠ 4
   ·
    simp only [if_pos h1] at hq
    split at hq <;> (cases hq; exact hy)
   simp only [if_neg h1] at hq
   cases o with
   | none => cases hq
   | some v =>
    simp only at hq
    split at hq
    ·
     cases hq; exact hy
    cases hq; exact ho _ rfl
 exact this (numd p) none (fun y hy => numd_mem hy) (fun y hy => by cases hy) z h
theorem lastR_l {l : List Ev} {k : Nat} {id : Int} {z : Nat × Ev} (h : lastR (l.take k) id = some z) : l[z.1]? = some z.2 ∧ z.1 < l.length := by
 have h1 := lastR_at h
 rw [List.getElem?_take] at h1
 split at h1
 ·
  exact ⟨h1, (List.getElem?_eq_some_iff.1 h1).1⟩
 cases h1
theorem last_snoc {l : List Ev} {k : Nat} {y : Ev} (hk : k ≤ l.length) (hy : l[k]? = some y) (id : Int) : lastR (l.take (k + 1)) id = lastStep id (lastR (l.take k) id) (k, y) := by
 rw [take_snoc hy, lastR_snoc, List.length_take, Nat.min_eq_left hk]
theorem run_stampne {o : Oper} {E : Env} {u v : Operand} {a b c d : Int} {yt : TypeId} (ho : o.op = .binOp .neq 35 u v yt) (hx : evalE E u = .agg #[.int .i64 a, .int .i64 b]) (hy : evalE E v = .agg #[.int .i64 c, .int .i64 d]) :
  ∀ w, (execOp (evalE E) o).run Tryz.prog w = .ok (.value (.bool (!decide ((a, b) = (c, d))))) w := by
 intro w
 have hm : Tryz.prog.eqGuardType Tryz.prog.depth 35 = false := by kernel_rfl
 have g : ∀ op a b u v, (eqGuard op 35 a b (.agg u) (.agg v)).run Tryz.prog w = .ok () w := fun op a b u v => run_eqGuard_agg w op 35 a b _ _ hm
 simp [execOp, ho, hx, hy, run_neq_struct, eqSt, g]

theorem rlast_any (W : World) (L : List Chunk) (w : World) (ad : Addr) (ca : Nat) (l : List Ev) (hr : Knows L (EvsIn (some ad) l)) (hn : l.length ≤ 5000) (i : Nat) (x : Ev) (hx : l[i]? = some x) (s : St W L w) :
  Calls Tryz.prog 45 #[.slice (some ad) l.length ca, .int .i64 ((i : Nat) : Int)] w fun e w' => e = .returned (.int .i64 (lastI (lastR (l.take i) x.id))) ∧ St W L w' := by
 have hil := (List.getElem?_eq_some_iff.1 hx).1
 refine enter_args (l := [.slice (some ad) l.length ca, .int .i64 ((i : Nat) : Int)]) Tryz.func45 rfl rfl (Nat.le_of_ble_eq_true rfl) ?_
 intro a ha; replace ha : Has a 54 [(0, .slice (some ad) l.length ca), (1, .int .i64 ((i : Nat) : Int))] := ha
 refine zn1 ?_
 refine zv (.int .i64 0) ha ?_; clear ha; intro a ha
 refine zn4 ?_
 refine zv (.int .i64 (-1)) ha ?_; clear ha; intro a ha
 refine zn2 ?_
 refine wp_seq ?_
 refine zn1 ?_
 refine zv (.int .i64 0) ha ?_; clear ha; intro a ha
 refine zn2 ?_
 refine wp_block ?_
 refine wp_loopG (G := Nat) (fun k a w => Has a 54 [(0, .slice (some ad) l.length ca), (1, .int .i64 ((i : Nat) : Int)), (5, .int .i64 (lastI (lastR (l.take k) x.id))), (6, .int .i64 ((k : Nat) : Int))] ∧ St W (L) w ∧ (k ≤ i)) (fun k => i - k) 0 ?_ ?_
 ·
  exact ⟨(Has.cons ha (by kernel_rfl) (by kernel_rfl) (Has.cons ha (by kernel_rfl) (by kernel_rfl) (Has.cons ha (by kernel_rfl) (by kernel_rfl) (Has.cons ha (by kernel_rfl) (by kernel_rfl) (Has.nil ha))))), s, Nat.zero_le _⟩
 clear ha s; rintro k a w ⟨ha, s, hp⟩
 refine wp_seq ?_
 refine zn1 ?_
 refine zv (.int .i64 ((k : Nat) : Int)) ha ?_
 refine zzv (.int .i64 ((i : Nat) : Int)) ?_
 refine zzv (.bool (decide (((k : Nat) : Int) < ((i : Nat) : Int)))) ?_; clear ha; intro a ha
 refine zn2 ?_
 refine zzh (decide (((k : Nat) : Int) < ((i : Nat) : Int))) ha ?_ ?_ <;> intro hb
 ·
  rw [hb] at ha; replace hb : (((k : Nat) : Int) < ((i : Nat) : Int)) := of_decide_eq_true hb
  have ht0 := hb
  obtain ⟨y, hy⟩ : ∃ y, l[k]? = some y := ⟨_, List.getElem?_eq_getElem (by omega)⟩
  refine wp_skip ?_
  refine then_normal ?_
  refine wp_seq ?_
  refine wp_block ?_
  refine zn1 ?_
  refine zv (.slice (some ad) l.length ca) ha ?_
  refine zzv (.int .i64 ((k : Nat) : Int)) ?_
  refine zzw (.pointer (some (ad.add (k * 16)))) (run_indexAddr' (kd := .i64) (i := ((k : Nat) : Int)) (n := l.length) (c := ca) k rfl Tryz.underlying22 Tryz.sizeOf37 (by kernel_rfl) (by kernel_rfl) rfl (by first | assumption | omega) _) ?_
  refine zzw (.agg (evv y).toArray) (run_loadAtN (i := k * 16) (evv y) ((hr _ s.sat).1) rfl (by kernel_rfl) Tryz.isAgg37 Tryz.sizeOf37 (fun q_ hq_ => evs_at hy hq_) rfl) ?_; clear ha; intro a ha
  refine zze ha (ex_alloc (evv ⟨0, 0, 0, 0, 0, 0, [], [], [], [], false, [], none, 0, 0, 0, 0, 0⟩) s rfl (Tryz.zeroValue37 _) (by kernel_rfl)) ?_
  clear ha; rintro _ w a ⟨g1, rfl, s⟩ ha
  refine zzd ha (ex_store (of_ := 0) 0 (evv y) s rfl rfl (by kernel_rfl) (by kernel_rfl) (Tryz.sizeOf37 _) rfl (by simp [evv, txv, Value.oneCell']) (Nat.le_of_ble_eq_true rfl)) ?_
  clear ha; rintro w a s ha
  replace s : St W (.blk g1 (evv y) 37 :: L) w := s
  refine zn2 ?_
  refine wp_seq ?_
  refine wp_seq ?_
  refine wp_region_head 10 (fun w => BlkIs g1 (evv y) w ∧ Reads w 16 (some ad) l.length (evs l) ∧ True) (by kernel_rfl) (by decide) ?_
  replace s := s.drew; generalize _root_.Go.World.drew _ = w at s ⊢
  have hS : (fun w => BlkIs g1 (evv y) w ∧ Reads w 16 (some ad) l.length (evs l) ∧ True) w := ⟨s.blkIs 0 rfl, (hr _ s.sat.tail).1, trivial⟩
  refine yv (i := 0) (.agg (evv y).toArray) ha (fun w hS => run_loadN (of_ := 0) (evv y) hS.1 rfl (by kernel_rfl) Tryz.isAgg37 Tryz.sizeOf37 rfl (Nat.le_of_ble_eq_true rfl)) hS ?_; clear ha; intro a ha
  refine hd_call (i := 1) ha rfl (by kernel_rfl) (by kernel_rfl) (by kernel_rfl) (rhas_any W _ w y s) ?_
  clear hS; rintro _ w ⟨rfl, s⟩
  have hS : (fun w => BlkIs g1 (evv y) w ∧ Reads w 16 (some ad) l.length (evs l) ∧ True) w := ⟨s.blkIs 0 rfl, (hr _ s.sat.tail).1, trivial⟩
  refine ⟨_, rfl, hS, ?_⟩; clear ha; intro a ha
  refine yk (i := 2) (.bool (hasB y)) ha hS ?_; clear ha; intro a ha
  rcases Bool.eq_false_or_eq_true (hasB y) with hb | hb
  ·
   rw [hb] at ha; skip
   have ht1 := hb
   have hhk := has_kind.1 hb
   refine yk (i := 3) (.pointer (some ⟨g1, 3, none⟩)) ha hS ?_
   refine yyv (i := 4) (.int .i64 y.id) (fun w hS => run_load1 (of_ := 3) hS.1 rfl (by kernel_rfl) Tryz.isAgg3 rfl) hS ?_
   refine yyk (i := 5) (.slice (some ad) l.length ca) hS ?_
   refine yyk (i := 6) (.int .i64 ((i : Nat) : Int)) hS ?_
   refine yyv (i := 7) (.pointer (some (ad.add (i * 16)))) (fun w hS => (run_indexAddr' (kd := .i64) (i := ((i : Nat) : Int)) (n := l.length) (c := ca) i rfl Tryz.underlying22 Tryz.sizeOf37 (by kernel_rfl) (by kernel_rfl) rfl (by first | assumption | omega) _)) hS ?_
   refine yyfa (i := 8) (.pointer (some (ad.add (i * 16 + 3)))) 3 hS ?_
   refine yyla (i := 9) (.int .i64 x.id) (i * 16 + 3) (fun _ hS => hS.2.1) (by rw [evs_at hx (by omega)]; rfl) hS ?_; clear ha; intro a ha
   refine Head.done (by kernel_rfl) ?_
   clear hS; simp only [List.drop_succ_cons, List.drop_zero]
   refine zv (.bool (y.id == x.id)) ha ?_
   refine zzv (.bool (y.id == x.id)) ?_
   refine zzv (.bool (y.id == x.id)) ?_; clear ha; intro a ha
   rcases Bool.eq_false_or_eq_true (y.id == x.id) with hb | hb
   ·
    rw [hb] at ha; replace hb := eq_of_beq hb
    have ht2 := hb
    refine zv (.pointer (some ⟨g1, 1, none⟩)) ha ?_
    refine zzw (.int .i64 y.kind) (zl1 0 1) ?_
    refine zzv (.bool (y.kind != (4 : Int))) ?_
    refine zzv (.bool (y.kind != (4 : Int))) ?_; clear ha; intro a ha
    refine zn2 ?_
    refine zzh (y.kind != (4 : Int)) ha ?_ ?_ <;> intro hb
    ·
     rw [hb] at ha; replace hb := zbn hb
     have ht3 := hb
     refine wp_region_lit ?_
     refine zv (.int .i64 ((k : Nat) : Int)) ha ?_
     refine zzv (.int .i64 ((k : Nat) : Int)) ?_; clear ha; intro a ha
     refine zn2 ?_
     refine wp_seq ?_
     refine wp_region_head 15 (fun w => BlkIs g1 (evv y) w ∧ True) (by kernel_rfl) (by decide) ?_
     replace s := s.drew; generalize _root_.Go.World.drew _ = w at s ⊢
     have hS : (fun w => BlkIs g1 (evv y) w ∧ True) w := ⟨s.blkIs 0 rfl, trivial⟩
     refine yk (i := 0) (.pointer (some ⟨g1, 1, none⟩)) ha hS ?_
     refine yyv (i := 1) (.int .i64 y.kind) (fun w hS => run_load1 (of_ := 1) hS.1 rfl (by kernel_rfl) Tryz.isAgg3 rfl) hS ?_
     refine yyv (i := 2) (.bool false) (fun w hS => (run_known (show (y.kind == (5 : Int)) = false from beq_eq_false_iff_ne.2 (by omega)) (by kernel_rfl))) hS ?_
     refine yyk (i := 3) (.bool false) hS ?_
     refine yyp (i := 4) hS ?_
     refine yyp (i := 5) hS ?_
     refine yyk (i := 6) (.bool false) hS ?_
     refine yyk (i := 7) (.bool false) hS ?_
     refine yyp (i := 8) hS ?_
     refine yyp (i := 9) hS ?_
     refine yyp (i := 10) hS ?_
     refine yyp (i := 11) hS ?_
     refine yyp (i := 12) hS ?_
     refine yyp (i := 13) hS ?_
     refine yyp (i := 14) hS ?_; clear ha; intro a ha
     refine Head.done (by kernel_rfl) ?_
     clear hS; simp only [List.drop_succ_cons, List.drop_zero]
     refine zp ha ?_
     refine zzv (.bool false) ?_; clear ha; intro a ha
     refine zn2 ?_
     refine wp_false ha rfl (by kernel_rfl) ?_
     refine wp_skip ?_
     refine block_normal ?_
     refine then_normal ?_
     refine wp_region_lit ?_
     refine zv (.int .i64 ((k : Nat) : Int)) ha ?_
     refine zzw (.int .i64 ((k + 1 : Nat) : Int)) zar ?_
     refine zzv (.int .i64 ((k + 1 : Nat) : Int)) ?_; clear ha; intro a ha
     refine zn2 ?_
     replace s := s.tail
     replace s : St W (L) w := s
     have hu : lastI (lastR (l.take (k + 1)) x.id) = ((k : Nat) : Int) := by rw [last_snoc (by omega) hy]; rw [lastStep_own ⟨ht1, ht2, ht3⟩]; rfl
     exact ⟨k + 1, (show i - (k + 1) < i - k by omega), by rw [hu]; exact (Has.cons ha (by kernel_rfl) (by kernel_rfl) (Has.cons ha (by kernel_rfl) (by kernel_rfl) (Has.cons ha (by kernel_rfl) (by kernel_rfl) (Has.cons ha (by kernel_rfl) (by kernel_rfl) (Has.nil ha))))), s, (show k + 1 ≤ i by omega)⟩
    rw [hb] at ha; replace hb := zbq hb
    have ht3 := hb
    refine wp_skip ?_
    refine then_normal ?_
    refine wp_seq ?_
    refine wp_region_head 15 (fun w => BlkIs g1 (evv y) w ∧ True) (by kernel_rfl) (by decide) ?_
    replace s := s.drew; generalize _root_.Go.World.drew _ = w at s ⊢
    have hS : (fun w => BlkIs g1 (evv y) w ∧ True) w := ⟨s.blkIs 0 rfl, trivial⟩
    refine yk (i := 0) (.pointer (some ⟨g1, 1, none⟩)) ha hS ?_
    refine yyv (i := 1) (.int .i64 y.kind) (fun w hS => run_load1 (of_ := 1) hS.1 rfl (by kernel_rfl) Tryz.isAgg3 rfl) hS ?_
    refine yyv (i := 2) (.bool false) (fun w hS => (run_known (show (y.kind == (5 : Int)) = false from beq_eq_false_iff_ne.2 (by omega)) (by kernel_rfl))) hS ?_
    refine yyk (i := 3) (.bool false) hS ?_
    refine yyp (i := 4) hS ?_
    refine yyp (i := 5) hS ?_
    refine yyk (i := 6) (.bool false) hS ?_
    refine yyk (i := 7) (.bool false) hS ?_
    refine yyp (i := 8) hS ?_
    refine yyp (i := 9) hS ?_
    refine yyp (i := 10) hS ?_
    refine yyp (i := 11) hS ?_
    refine yyp (i := 12) hS ?_
    refine yyp (i := 13) hS ?_
    refine yyp (i := 14) hS ?_; clear ha; intro a ha
    refine Head.done (by kernel_rfl) ?_
    clear hS; simp only [List.drop_succ_cons, List.drop_zero]
    refine zp ha ?_
    refine zzv (.bool false) ?_; clear ha; intro a ha
    refine zn2 ?_
    refine wp_false ha rfl (by kernel_rfl) ?_
    refine wp_skip ?_
    refine block_normal ?_
    refine then_normal ?_
    refine wp_region_lit ?_
    refine zv (.int .i64 ((k : Nat) : Int)) ha ?_
    refine zzw (.int .i64 ((k + 1 : Nat) : Int)) zar ?_
    refine zzv (.int .i64 ((k + 1 : Nat) : Int)) ?_; clear ha; intro a ha
    refine zn2 ?_
    replace s := s.tail
    replace s : St W (L) w := s
    have hu : lastI (lastR (l.take (k + 1)) x.id) = (lastI (lastR (l.take k) x.id)) := by rw [last_snoc (by omega) hy]; rw [lastStep_other (fun h => h.2.2 ht3) (by omega)]
    exact ⟨k + 1, (show i - (k + 1) < i - k by omega), by rw [hu]; exact (Has.cons ha (by kernel_rfl) (by kernel_rfl) (Has.cons ha (by kernel_rfl) (by kernel_rfl) (Has.cons ha (by kernel_rfl) (by kernel_rfl) (Has.cons ha (by kernel_rfl) (by kernel_rfl) (Has.nil ha))))), s, (show k + 1 ≤ i by omega)⟩
   rw [hb] at ha; replace hb := ne_of_beq_false hb
   have ht2 := hb
   refine zp ha ?_
   iterate 2 refine zzp ?_
   refine zzv (.bool false) ?_; clear ha; intro a ha
   refine zn2 ?_
   refine wp_false ha rfl (by kernel_rfl) ?_
   refine wp_skip ?_
   refine then_normal ?_
   refine wp_seq ?_
   refine wp_region_head 15 (fun w => BlkIs g1 (evv y) w ∧ True) (by kernel_rfl) (by decide) ?_
   replace s := s.drew; generalize _root_.Go.World.drew _ = w at s ⊢
   have hS : (fun w => BlkIs g1 (evv y) w ∧ True) w := ⟨s.blkIs 0 rfl, trivial⟩
   refine yk (i := 0) (.pointer (some ⟨g1, 1, none⟩)) ha hS ?_
   refine yyv (i := 1) (.int .i64 y.kind) (fun w hS => run_load1 (of_ := 1) hS.1 rfl (by kernel_rfl) Tryz.isAgg3 rfl) hS ?_
   refine yyv (i := 2) (.bool false) (fun w hS => (run_known (show (y.kind == (5 : Int)) = false from beq_eq_false_iff_ne.2 (by omega)) (by kernel_rfl))) hS ?_
   refine yyk (i := 3) (.bool false) hS ?_
   refine yyp (i := 4) hS ?_
   refine yyp (i := 5) hS ?_
   refine yyk (i := 6) (.bool false) hS ?_
   refine yyk (i := 7) (.bool false) hS ?_
   refine yyp (i := 8) hS ?_
   refine yyp (i := 9) hS ?_
   refine yyp (i := 10) hS ?_
   refine yyp (i := 11) hS ?_
   refine yyp (i := 12) hS ?_
   refine yyp (i := 13) hS ?_
   refine yyp (i := 14) hS ?_; clear ha; intro a ha
   refine Head.done (by kernel_rfl) ?_
   clear hS; simp only [List.drop_succ_cons, List.drop_zero]
   refine zp ha ?_
   refine zzv (.bool false) ?_; clear ha; intro a ha
   refine zn2 ?_
   refine wp_false ha rfl (by kernel_rfl) ?_
   refine wp_skip ?_
   refine block_normal ?_
   refine then_normal ?_
   refine wp_region_lit ?_
   refine zv (.int .i64 ((k : Nat) : Int)) ha ?_
   refine zzw (.int .i64 ((k + 1 : Nat) : Int)) zar ?_
   refine zzv (.int .i64 ((k + 1 : Nat) : Int)) ?_; clear ha; intro a ha
   refine zn2 ?_
   replace s := s.tail
   replace s : St W (L) w := s
   have hu : lastI (lastR (l.take (k + 1)) x.id) = (lastI (lastR (l.take k) x.id)) := by rw [last_snoc (by omega) hy]; rw [lastStep_other (fun h => ht2 h.2.1) (by omega)]
   exact ⟨k + 1, (show i - (k + 1) < i - k by omega), by rw [hu]; exact (Has.cons ha (by kernel_rfl) (by kernel_rfl) (Has.cons ha (by kernel_rfl) (by kernel_rfl) (Has.cons ha (by kernel_rfl) (by kernel_rfl) (Has.cons ha (by kernel_rfl) (by kernel_rfl) (Has.nil ha))))), s, (show k + 1 ≤ i by omega)⟩
  rw [hb] at ha; skip
  have ht1 := hb
  refine yp (i := 3) ha hS ?_
  refine yyp (i := 4) hS ?_
  refine yyp (i := 5) hS ?_
  refine yyp (i := 6) hS ?_
  refine yyp (i := 7) hS ?_
  refine yyp (i := 8) hS ?_
  refine yyp (i := 9) hS ?_; clear ha; intro a ha
  refine Head.done (by kernel_rfl) ?_
  clear hS; simp only [List.drop_succ_cons, List.drop_zero]
  refine zp ha ?_
  refine zzv (.bool false) ?_
  refine zzv (.bool false) ?_
  iterate 3 refine zzp ?_
  refine zzv (.bool false) ?_; clear ha; intro a ha
  refine zn2 ?_
  refine wp_false ha rfl (by kernel_rfl) ?_
  refine wp_skip ?_
  refine then_normal ?_
  refine wp_seq ?_
  refine wp_region_head 15 (fun w => BlkIs g1 (evv y) w ∧ Reads w 16 (some ad) l.length (evs l) ∧ True) (by kernel_rfl) (by decide) ?_
  replace s := s.drew; generalize _root_.Go.World.drew _ = w at s ⊢
  have hS : (fun w => BlkIs g1 (evv y) w ∧ Reads w 16 (some ad) l.length (evs l) ∧ True) w := ⟨s.blkIs 0 rfl, (hr _ s.sat.tail).1, trivial⟩
  refine yk (i := 0) (.pointer (some ⟨g1, 1, none⟩)) ha hS ?_
  refine yyv (i := 1) (.int .i64 y.kind) (fun w hS => run_load1 (of_ := 1) hS.1 rfl (by kernel_rfl) Tryz.isAgg3 rfl) hS ?_
  refine yyk (i := 2) (.bool (y.kind == (5 : Int))) hS ?_
  refine yyk (i := 3) (.bool (y.kind == (5 : Int))) hS ?_; clear ha; intro a ha
  rcases Bool.eq_false_or_eq_true (y.kind == (5 : Int)) with hb | hb
  ·
   rw [hb] at ha; replace hb := eq_of_beq hb
   have ht2 := hb
   refine yk (i := 4) (.int .i64 (lastI (lastR (l.take k) x.id))) ha hS ?_
   refine yyk (i := 5) (.bool (decide ((lastI (lastR (l.take k) x.id)) ≥ (0 : Int)))) hS ?_
   refine yyk (i := 6) (.bool (decide ((lastI (lastR (l.take k) x.id)) ≥ (0 : Int)))) hS ?_
   refine yyk (i := 7) (.bool (decide ((lastI (lastR (l.take k) x.id)) ≥ (0 : Int)))) hS ?_; clear ha; intro a ha
   rcases Bool.eq_false_or_eq_true (decide ((lastI (lastR (l.take k) x.id)) ≥ (0 : Int))) with hb | hb
   ·
    rw [hb] at ha; replace hb : ((lastI (lastR (l.take k) x.id)) ≥ (0 : Int)) := of_decide_eq_true hb
    have ht3 := hb
    obtain ⟨z, hz⟩ := lastI_some (show ¬ lastI (lastR (l.take k) x.id) < 0 by omega)
    obtain ⟨hzl, hzn⟩ := lastR_l hz
    refine yk (i := 8) (.slice (some ad) l.length ca) ha hS ?_
    refine yyk (i := 9) (.int .i64 (lastI (lastR (l.take k) x.id))) hS ?_
    refine yyv (i := 10) (.pointer (some (ad.add (z.1 * 16)))) (fun w hS => (run_indexAddr' (kd := .i64) (i := (lastI (lastR (l.take k) x.id))) (n := l.length) (c := ca) z.1 rfl Tryz.underlying22 Tryz.sizeOf37 (by kernel_rfl) (by kernel_rfl) (by rw [hz]; rfl) (by first | assumption | omega) _)) hS ?_
    refine yyfa (i := 11) (.pointer (some (ad.add (z.1 * 16 + 2)))) 3 hS ?_
    refine yyla (i := 12) (.int .i64 z.2.node) (z.1 * 16 + 2) (fun _ hS => hS.2.1) (by rw [evs_at hzl (by omega)]; rfl) hS ?_
    refine yyk (i := 13) (.pointer (some ⟨g1, 2, none⟩)) hS ?_
    refine yyv (i := 14) (.int .i64 y.node) (fun w hS => run_load1 (of_ := 2) hS.1 rfl (by kernel_rfl) Tryz.isAgg3 rfl) hS ?_; clear ha; intro a ha
    refine Head.done (by kernel_rfl) ?_
    clear hS; simp only [List.drop_succ_cons, List.drop_zero]
    refine zv (.bool (z.2.node == y.node)) ha ?_
    refine zzv (.bool (z.2.node == y.node)) ?_; clear ha; intro a ha
    refine zn2 ?_
    refine zzh (z.2.node == y.node) ha ?_ ?_ <;> intro hb
    ·
     rw [hb] at ha; replace hb := eq_of_beq hb
     have ht4 := hb
     refine wp_region_lit ?_
     refine zv (.int .i64 ((k : Nat) : Int)) ha ?_
     refine zzv (.int .i64 ((k : Nat) : Int)) ?_; clear ha; intro a ha
     refine wpList_nil ?_
     refine block_normal ?_
     refine then_normal ?_
     refine wp_region_lit ?_
     refine zv (.int .i64 ((k : Nat) : Int)) ha ?_
     refine zzw (.int .i64 ((k + 1 : Nat) : Int)) zar ?_
     refine zzv (.int .i64 ((k + 1 : Nat) : Int)) ?_; clear ha; intro a ha
     refine zn2 ?_
     replace s := s.tail
     replace s : St W (L) w := s
     have hu : lastI (lastR (l.take (k + 1)) x.id) = ((k : Nat) : Int) := by rw [last_snoc (by omega) hy]; rw [lastStep_fall ht2, hz]; simp only; rw [if_pos ht4] <;> rfl
     exact ⟨k + 1, (show i - (k + 1) < i - k by omega), by rw [hu]; exact (Has.cons ha (by kernel_rfl) (by kernel_rfl) (Has.cons ha (by kernel_rfl) (by kernel_rfl) (Has.cons ha (by kernel_rfl) (by kernel_rfl) (Has.cons ha (by kernel_rfl) (by kernel_rfl) (Has.nil ha))))), s, (show k + 1 ≤ i by omega)⟩
    rw [hb] at ha; replace hb := ne_of_beq_false hb
    have ht4 := hb
    refine wp_skip ?_
    refine block_normal ?_
    refine then_normal ?_
    refine wp_region_lit ?_
    refine zv (.int .i64 ((k : Nat) : Int)) ha ?_
    refine zzw (.int .i64 ((k + 1 : Nat) : Int)) zar ?_
    refine zzv (.int .i64 ((k + 1 : Nat) : Int)) ?_; clear ha; intro a ha
    refine zn2 ?_
    replace s := s.tail
    replace s : St W (L) w := s
    have hu : lastI (lastR (l.take (k + 1)) x.id) = (lastI (lastR (l.take k) x.id)) := by rw [last_snoc (by omega) hy]; rw [lastStep_fall ht2, hz]; simp only; rw [if_neg ht4] <;> rfl
    exact ⟨k + 1, (show i - (k + 1) < i - k by omega), by rw [hu]; exact (Has.cons ha (by kernel_rfl) (by kernel_rfl) (Has.cons ha (by kernel_rfl) (by kernel_rfl) (Has.cons ha (by kernel_rfl) (by kernel_rfl) (Has.cons ha (by kernel_rfl) (by kernel_rfl) (Has.nil ha))))), s, (show k + 1 ≤ i by omega)⟩
   rw [hb] at ha; replace hb : ¬ ((lastI (lastR (l.take k) x.id)) ≥ (0 : Int)) := of_decide_eq_false hb
   have ht3 := hb
   have hzn := lastI_none (show lastI (lastR (l.take k) x.id) < 0 by omega)
   refine yp (i := 8) ha hS ?_
   refine yyp (i := 9) hS ?_
   refine yyp (i := 10) hS ?_
   refine yyp (i := 11) hS ?_
   refine yyp (i := 12) hS ?_
   refine yyp (i := 13) hS ?_
   refine yyp (i := 14) hS ?_; clear ha; intro a ha
   refine Head.done (by kernel_rfl) ?_
   clear hS; simp only [List.drop_succ_cons, List.drop_zero]
   refine zp ha ?_
   refine zzv (.bool false) ?_; clear ha; intro a ha
   refine zn2 ?_
   refine wp_false ha rfl (by kernel_rfl) ?_
   refine wp_skip ?_
   refine block_normal ?_
   refine then_normal ?_
   refine wp_region_lit ?_
   refine zv (.int .i64 ((k : Nat) : Int)) ha ?_
   refine zzw (.int .i64 ((k + 1 : Nat) : Int)) zar ?_
   refine zzv (.int .i64 ((k + 1 : Nat) : Int)) ?_; clear ha; intro a ha
   refine zn2 ?_
   replace s := s.tail
   replace s : St W (L) w := s
   have hu : lastI (lastR (l.take (k + 1)) x.id) = (lastI (lastR (l.take k) x.id)) := by rw [last_snoc (by omega) hy]; rw [lastStep_fall ht2, hzn] <;> rfl
   exact ⟨k + 1, (show i - (k + 1) < i - k by omega), by rw [hu]; exact (Has.cons ha (by kernel_rfl) (by kernel_rfl) (Has.cons ha (by kernel_rfl) (by kernel_rfl) (Has.cons ha (by kernel_rfl) (by kernel_rfl) (Has.cons ha (by kernel_rfl) (by kernel_rfl) (Has.nil ha))))), s, (show k + 1 ≤ i by omega)⟩
  rw [hb] at ha; replace hb := ne_of_beq_false hb
  have ht2 := hb
  refine yp (i := 4) ha hS ?_
  refine yyp (i := 5) hS ?_
  refine yyk (i := 6) (.bool false) hS ?_
  refine yyk (i := 7) (.bool false) hS ?_
  refine yyp (i := 8) hS ?_
  refine yyp (i := 9) hS ?_
  refine yyp (i := 10) hS ?_
  refine yyp (i := 11) hS ?_
  refine yyp (i := 12) hS ?_
  refine yyp (i := 13) hS ?_
  refine yyp (i := 14) hS ?_; clear ha; intro a ha
  refine Head.done (by kernel_rfl) ?_
  clear hS; simp only [List.drop_succ_cons, List.drop_zero]
  refine zp ha ?_
  refine zzv (.bool false) ?_; clear ha; intro a ha
  refine zn2 ?_
  refine wp_false ha rfl (by kernel_rfl) ?_
  refine wp_skip ?_
  refine block_normal ?_
  refine then_normal ?_
  refine wp_region_lit ?_
  refine zv (.int .i64 ((k : Nat) : Int)) ha ?_
  refine zzw (.int .i64 ((k + 1 : Nat) : Int)) zar ?_
  refine zzv (.int .i64 ((k + 1 : Nat) : Int)) ?_; clear ha; intro a ha
  refine zn2 ?_
  replace s := s.tail
  replace s : St W (L) w := s
  have hu : lastI (lastR (l.take (k + 1)) x.id) = (lastI (lastR (l.take k) x.id)) := by rw [last_snoc (by omega) hy]; rw [lastStep_other (fun h => by rw [ht1] at h; cases h.1) (by omega)]
  exact ⟨k + 1, (show i - (k + 1) < i - k by omega), by rw [hu]; exact (Has.cons ha (by kernel_rfl) (by kernel_rfl) (Has.cons ha (by kernel_rfl) (by kernel_rfl) (Has.cons ha (by kernel_rfl) (by kernel_rfl) (Has.cons ha (by kernel_rfl) (by kernel_rfl) (Has.nil ha))))), s, (show k + 1 ≤ i by omega)⟩
 rw [hb] at ha; replace hb : ¬ (((k : Nat) : Int) < ((i : Nat) : Int)) := of_decide_eq_false hb
 have ht0 := hb
 refine wp_exit ?_
 refine then_exit ?_
 refine then_exit ?_
 refine block_hit ?_
 refine then_normal ?_
 refine zn1 ?_
 refine zv (.int .i64 (lastI (lastR (l.take k) x.id))) ha ?_
 refine zzv (.int .i64 (lastI (lastR (l.take k) x.id))) ?_; clear ha; intro a ha
 refine zn2 ?_
 refine wp_ret ?_
 refine zzr (v := .int .i64 (lastI (lastR (l.take k) x.id))) ha ?_
 obtain rfl : i = k := by omega
 exact ⟨rfl, s⟩

end Go.Proofs.YtfcbjcohepkkfaaGreat.B

import Derived.Test.YtfcbjcohepkkfaaGreatG4
import Derived.Test.YtfcbjcohepkkfaaGreatSepY
namespace Go.Proofs.YtfcbjcohepkkfaaGreat.B
open Go.RowKit Go.Maps Go.Sort Go.Shelf Go.Proofs.YtfcbjcohepkkfaaGreat.Sep Go.Proofs.YtfcbjcohepkkfaaGreat.P
set_option linter.unusedVariables false
set_option linter.unusedSimpArgs false
/-! ### the reference's order -/
structure OrdS (acc : List Pl) (ds : List Dn) (rs : List At) : Prop where
 all : ds.map (fun d => (d.id, d.wall, d.logic, d.l)) = acc.map fun q => (q.id, q.wall, q.logic, q.th.map fun p => didOf p.2)
 at_ : rs.map (·.l) = acc.map fun q => q.th.map (·.1)
theorem OrdS.start : OrdS [] [] [] := ⟨rfl, rfl⟩
theorem OrdS.len {acc : List Pl} {ds : List Dn} {rs : List At} (h : OrdS acc ds rs) : ds.length = acc.length ∧ rs.length = acc.length := by
 have h1 := congrArg List.length h.all
 have h2 := congrArg List.length h.at_
 simp only [List.length_map] at h1 h2
 exact ⟨h1, h2⟩
theorem OrdS.snoc {acc : List Pl} {ds : List Dn} {rs : List At} (h : OrdS acc ds rs) (q : Pl) (A B : Option Addr) (c c2 : Nat) : OrdS (acc ++ [q]) (ds ++ [⟨q.id, q.wall, q.logic, A, c, q.th.map fun p => didOf p.2⟩]) (rs ++ [⟨q.th.map (·.1), B, c2⟩]) :=
 ⟨by rw [List.map_append, List.map_append, h.all]; rfl, by rw [List.map_append, List.map_append, h.at_]; rfl⟩
theorem OrdS.ids {acc : List Pl} {ds : List Dn} {rs : List At} (h : OrdS acc ds rs) (i : Int) : (ds.any fun d => decide (d.id = i)) = acc.any fun q => decide (q.id = i) := by
 have h1 := congrArg (List.map fun z : Int × Int × Int × List Dd => z.1) h.all
 rw [List.map_map, List.map_map] at h1
 have e1 : (ds.any fun d => decide (d.id = i)) = (ds.map (·.id)).any fun z => decide (z = i) := by rw [List.any_map]; rfl
 have e2 : (acc.any fun d => decide (d.id = i)) = (acc.map (·.id)).any fun z => decide (z = i) := by rw [List.any_map]; rfl
 have h2 : ds.map (·.id) = acc.map (·.id) := h1
 rw [e1, e2, h2]
theorem acc_len (l : List Ev) : ∀ i, i ≤ l.length → ((l.take i).foldl (orderStepR l) []).length ≤ i := by
 intro i
 induction i with
 | zero => intro _; simp
 | succ i ih =>
  intro hi
  have hx : l[i]? = some l[i] := List.getElem?_eq_getElem (by omega)
  rw [orderR_snoc hx]
  have := ih (by omega)
  generalize (l.take i).foldl (orderStepR l) [] = acc at this ⊢
  unfold orderStepR
  split
  ·
   rw [List.length_append]; simp; omega
  omega
def thP (l : List Ev) (id ep : Int) (k : Nat) : List (Nat × Ev) := (numd (l.take k)).filter fun p => didR id ep p.2
theorem thP_next {l : List Ev} {k : Nat} {y : Ev} (hy : l[k]? = some y) (id ep : Int) : thP l id ep (k + 1) = if didR id ep y then thP l id ep k ++ [(k, y)] else thP l id ep k := by
 unfold thP
 rw [numd_take hy, List.filter_append]
 by_cases h : didR id ep y = true
 ·
  rw [if_pos h]; simp [h]
 rw [if_neg h]; simp [h]
theorem thP_len (l : List Ev) (id ep : Int) (k : Nat) : (thP l id ep k).length ≤ k := by
 unfold thP
 refine Nat.le_trans (List.length_filter_le _ _) ?_
 simp [numd]; omega
theorem endR_at {l : List Ev} {k : Nat} {y : Ev} {id : Int} (h0 : ((l.take k).find? fun y => ofB id y && comB y) = none) (hy : l[k]? = some y) (h : (ofB id y && comB y) = true) : endR l id = some y := by
 obtain ⟨hk, e⟩ := List.getElem?_eq_some_iff.1 hy
 have e2 : l = l.take k ++ (y :: l.drop (k + 1)) := by rw [← e, ← List.drop_eq_getElem_cons hk, List.take_append_drop]
 unfold endR
 conv => lhs; rw [e2]
 rw [List.find?_append, h0, Option.none_or, List.find?_cons_of_pos (p := fun y => ofB id y && comB y) h]
theorem endR_next {l : List Ev} {k : Nat} {y : Ev} {id : Int} (h0 : ((l.take k).find? fun y => ofB id y && comB y) = none) (hy : l[k]? = some y) (h : (ofB id y && comB y) = false) : ((l.take (k + 1)).find? fun y => ofB id y && comB y) = none := by
 rw [take_snoc hy, List.find?_append, h0, Option.none_or, List.find?_cons_of_neg (p := fun y => ofB id y && comB y) (by rw [h]; decide)]; rfl

theorem rseen_any (W : World) (L : List Chunk) (w : World) (A : Option Addr) (ca : Nat) (ds : List Dn) (hrd : Knows L fun w => Reads w 4 A ds.length (nvs ds)) (hn : ds.length ≤ 5000) (id : Int) (s : St W L w) :
  Calls Tryz.prog 48 #[.slice A ds.length ca, .int .i64 id] w fun e w' => e = .returned (.bool (ds.any fun d => decide (d.id = id))) ∧ St W L w' := by
 refine enter_args (l := [.slice A ds.length ca, .int .i64 id]) Tryz.func48 rfl rfl (Nat.le_of_ble_eq_true rfl) ?_
 intro a ha; replace ha : Has a 19 [(0, .slice A ds.length ca), (1, .int .i64 id)] := ha
 refine zn1 ?_
 refine zv (.bool false) ha ?_; clear ha; intro a ha
 refine zn2 ?_
 refine wp_seq ?_
 refine zn1 ?_
 refine zv (.int .i64 0) ha ?_; clear ha; intro a ha
 refine zn2 ?_
 refine wp_block ?_
 refine wp_loopG (G := Nat) (fun k a w => Has a 19 [(0, .slice A ds.length ca), (1, .int .i64 id), (5, .int .i64 ((k : Nat) : Int))] ∧ St W (L) w ∧ (k ≤ ds.length ∧ ((ds.take k).any fun d => decide (d.id = id)) = false)) (fun k => ds.length - k) 0 ?_ ?_
 ·
  exact ⟨(Has.cons ha (by kernel_rfl) (by kernel_rfl) (Has.cons ha (by kernel_rfl) (by kernel_rfl) (Has.cons ha (by kernel_rfl) (by kernel_rfl) (Has.nil ha)))), s, ⟨Nat.zero_le _, rfl⟩⟩
 clear ha s; rintro k a w ⟨ha, s, hp⟩
 refine wp_seq ?_
 refine zn1 ?_
 refine zv (.int .i64 ((k : Nat) : Int)) ha ?_
 refine zzv (.slice A ds.length ca) ?_
 refine zzv (.int .i64 ((ds.length : Nat) : Int)) ?_
 refine zzv (.bool (decide (((k : Nat) : Int) < ((ds.length : Nat) : Int)))) ?_; clear ha; intro a ha
 refine zn2 ?_
 refine zzh (decide (((k : Nat) : Int) < ((ds.length : Nat) : Int))) ha ?_ ?_ <;> intro hb
 ·
  rw [hb] at ha; replace hb : (((k : Nat) : Int) < ((ds.length : Nat) : Int)) := of_decide_eq_true hb
  have ht0 := hb
  obtain ⟨d, hd⟩ : ∃ d, ds[k]? = some d := ⟨_, List.getElem?_eq_getElem (by omega)⟩
  obtain ⟨dd, hA⟩ := Reads.addr ((hrd _ s.sat)) (by omega)
  subst hA
  refine wp_skip ?_
  refine then_normal ?_
  refine wp_seq ?_
  refine wp_block ?_
  refine zn1 ?_
  refine zv (.slice (some dd) ds.length ca) ha ?_
  refine zzv (.int .i64 ((k : Nat) : Int)) ?_
  refine zzw (.pointer (some (dd.add (k * 4)))) (run_indexAddr' (kd := .i64) (i := ((k : Nat) : Int)) (n := ds.length) (c := ca) k rfl Tryz.underlying58 Tryz.sizeOf97 (by kernel_rfl) (by kernel_rfl) rfl (by first | assumption | omega) _) ?_
  refine zzw (.pointer (some (dd.add (k * 4 + 0)))) (zfa 3) ?_
  refine zzw (.int .i64 d.id) (zla (k * 4 + 0) ((hrd _ s.sat)) (by rw [nvs_at hd (by omega)]; rfl)) ?_
  refine zzv (.int .i64 id) ?_
  refine zzv (.bool (d.id == id)) ?_; clear ha; intro a ha
  refine zn2 ?_
  refine zzh (d.id == id) ha ?_ ?_ <;> intro hb
  ·
   rw [hb] at ha; replace hb := eq_of_beq hb
   have ht1 := hb
   refine zn1 ?_
   refine zv (.bool true) ha ?_; clear ha; intro a ha
   refine zn2 ?_
   refine wp_ret ?_
   refine block_ret ?_
   refine then_ret ?_
   refine then_ret ?_
   refine block_ret ?_
   refine then_ret ?_
   refine zzr (v := .bool true) ha ?_
   have hh : (ds.any fun d => decide (d.id = id)) = true := List.any_eq_true.2 ⟨d, List.mem_of_getElem? hd, by simp [ht1]⟩
   exact ⟨by rw [hh], s⟩
  rw [hb] at ha; replace hb := ne_of_beq_false hb
  have ht1 := hb
  refine wp_skip ?_
  refine block_normal ?_
  refine then_normal ?_
  refine wp_region_lit ?_
  refine zv (.int .i64 ((k : Nat) : Int)) ha ?_
  refine zzw (.int .i64 ((k + 1 : Nat) : Int)) zar ?_
  refine zzv (.int .i64 ((k + 1 : Nat) : Int)) ?_; clear ha; intro a ha
  refine zn2 ?_
  exact ⟨k + 1, (show ds.length - (k + 1) < ds.length - k by omega), (Has.cons ha (by kernel_rfl) (by kernel_rfl) (Has.cons ha (by kernel_rfl) (by kernel_rfl) (Has.cons ha (by kernel_rfl) (by kernel_rfl) (Has.nil ha)))), s, (show k + 1 ≤ ds.length by omega), by rw [take_snoc hd, List.any_append, hp.2]; simp [ht1]⟩
 rw [hb] at ha; replace hb : ¬ (((k : Nat) : Int) < ((ds.length : Nat) : Int)) := of_decide_eq_false hb
 have ht0 := hb
 refine wp_exit ?_
 refine then_exit ?_
 refine then_exit ?_
 refine block_hit ?_
 refine then_normal ?_
 refine zn1 ?_
 refine zv (.bool false) ha ?_; clear ha; intro a ha
 refine zn2 ?_
 refine wp_ret ?_
 refine zzr (v := .bool false) ha ?_
 have h := hp.2
 rw [List.take_of_length_le (by omega)] at h
 exact ⟨by rw [h], s⟩

theorem rend_any (W : World) (L : List Chunk) (w : World) (ad : Addr) (ca : Nat) (l : List Ev) (hr : Knows L (EvsIn (some ad) l)) (hn : l.length ≤ 5000) (id : Int) (s : St W L w) :
  Calls Tryz.prog 49 #[.slice (some ad) l.length ca, .int .i64 id] w fun e w' => e = .returned (.agg #[.bool (endR l id).isSome, .int .i64 (endE l id).epoch, .int .i64 (endE l id).wall, .int .i64 (endE l id).logic]) ∧ St W L w' := by
 refine enter_args (l := [.slice (some ad) l.length ca, .int .i64 id]) Tryz.func49 rfl rfl (Nat.le_of_ble_eq_true rfl) ?_
 intro a ha; replace ha : Has a 45 [(0, .slice (some ad) l.length ca), (1, .int .i64 id)] := ha
 refine zn1 ?_
 refine zze ha (ex_alloc [.bool false, .int .i64 0, .int .i64 0, .int .i64 0] s rfl (Tryz.zeroValue93 _) (by kernel_rfl)) ?_
 clear ha; rintro _ w a ⟨g1, rfl, s⟩ ha
 refine zn2 ?_
 refine wp_seq ?_
 refine zn1 ?_
 refine zv (.int .i64 0) ha ?_; clear ha; intro a ha
 refine zn2 ?_
 refine wp_block ?_
 refine wp_loopG (G := Nat) (fun k a w => Has a 45 [(0, .slice (some ad) l.length ca), (1, .int .i64 id), (5, .int .i64 ((k : Nat) : Int)), (4, .pointer (some ⟨g1, 0, none⟩))] ∧ St W (.blk g1 [.bool false, .int .i64 0, .int .i64 0, .int .i64 0] 93 :: L) w ∧ (k ≤ l.length ∧ ((l.take k).find? fun y => ofB id y && comB y) = none)) (fun k => l.length - k) 0 ?_ ?_
 ·
  exact ⟨(Has.cons ha (by kernel_rfl) (by kernel_rfl) (Has.cons ha (by kernel_rfl) (by kernel_rfl) (Has.cons ha (by kernel_rfl) (by kernel_rfl) (Has.cons ha (by kernel_rfl) (by kernel_rfl) (Has.nil ha))))), s, ⟨Nat.zero_le _, rfl⟩⟩
 clear ha s; rintro k a w ⟨ha, s, hp⟩
 refine wp_seq ?_
 refine zn1 ?_
 refine zv (.int .i64 ((k : Nat) : Int)) ha ?_
 refine zzv (.slice (some ad) l.length ca) ?_
 refine zzv (.int .i64 ((l.length : Nat) : Int)) ?_
 refine zzv (.bool (decide (((k : Nat) : Int) < ((l.length : Nat) : Int)))) ?_; clear ha; intro a ha
 refine zn2 ?_
 refine zzh (decide (((k : Nat) : Int) < ((l.length : Nat) : Int))) ha ?_ ?_ <;> intro hb
 ·
  rw [hb] at ha; replace hb : (((k : Nat) : Int) < ((l.length : Nat) : Int)) := of_decide_eq_true hb
  have ht0 := hb
  obtain ⟨y, hy⟩ : ∃ y, l[k]? = some y := ⟨_, List.getElem?_eq_getElem (by omega)⟩
  refine wp_skip ?_
  refine then_normal ?_
  refine wp_seq ?_
  refine wp_block ?_
  refine zn1 ?_
  refine zv (.slice (some ad) l.length ca) ha ?_
  refine zzv (.int .i64 ((k : Nat) : Int)) ?_
  refine zzw (.pointer (some (ad.add (k * 16)))) (run_indexAddr' (kd := .i64) (i := ((k : Nat) : Int)) (n := l.length) (c := ca) k rfl Tryz.underlying22 Tryz.sizeOf37 (by kernel_rfl) (by kernel_rfl) rfl (by first | assumption | omega) _) ?_
  refine zzw (.agg (evv y).toArray) (run_loadAtN (i := k * 16) (evv y) ((hr _ s.sat.tail).1) rfl (by kernel_rfl) Tryz.isAgg37 Tryz.sizeOf37 (fun q_ hq_ => evs_at hy hq_) rfl) ?_; clear ha; intro a ha
  refine zzc ha (rhas_any W _ w y s) ?_
  rintro _ w ⟨rfl, s⟩
  refine ⟨_, rfl, ?_⟩; clear ha; intro a ha
  refine zv (.bool (hasB y)) ha ?_; clear ha; intro a ha
  rcases Bool.eq_false_or_eq_true (hasB y) with hb | hb
  ·
   rw [hb] at ha; skip
   have ht1 := hb
   refine zv (.slice (some ad) l.length ca) ha ?_
   refine zzv (.int .i64 ((k : Nat) : Int)) ?_
   refine zzw (.pointer (some (ad.add (k * 16)))) (run_indexAddr' (kd := .i64) (i := ((k : Nat) : Int)) (n := l.length) (c := ca) k rfl Tryz.underlying22 Tryz.sizeOf37 (by kernel_rfl) (by kernel_rfl) rfl (by first | assumption | omega) _) ?_
   refine zzw (.pointer (some (ad.add (k * 16 + 3)))) (zfa 3) ?_
   refine zzw (.int .i64 y.id) (zla (k * 16 + 3) ((hr _ s.sat.tail).1) (by rw [evs_at hy (by omega)]; rfl)) ?_
   refine zzv (.int .i64 id) ?_
   refine zzv (.bool (y.id == id)) ?_
   refine zzv (.bool (y.id == id)) ?_
   refine zzv (.bool (y.id == id)) ?_; clear ha; intro a ha
   rcases Bool.eq_false_or_eq_true (y.id == id) with hb | hb
   ·
    rw [hb] at ha; replace hb := eq_of_beq hb
    have ht2 := hb
    refine zv (.slice (some ad) l.length ca) ha ?_
    refine zzv (.int .i64 ((k : Nat) : Int)) ?_
    refine zzw (.pointer (some (ad.add (k * 16)))) (run_indexAddr' (kd := .i64) (i := ((k : Nat) : Int)) (n := l.length) (c := ca) k rfl Tryz.underlying22 Tryz.sizeOf37 (by kernel_rfl) (by kernel_rfl) rfl (by first | assumption | omega) _) ?_
    refine zzw (.agg (evv y).toArray) (run_loadAtN (i := k * 16) (evv y) ((hr _ s.sat.tail).1) rfl (by kernel_rfl) Tryz.isAgg37 Tryz.sizeOf37 (fun q_ hq_ => evs_at hy hq_) rfl) ?_; clear ha; intro a ha
    refine zzc ha (rcom_any W _ w y s) ?_
    rintro _ w ⟨rfl, s⟩
    refine ⟨_, rfl, ?_⟩; clear ha; intro a ha
    refine zv (.bool (comB y)) ha ?_; clear ha; intro a ha
    refine zn2 ?_
    refine zzh (comB y) ha ?_ ?_ <;> intro hb
    ·
     rw [hb] at ha; skip
     have ht3 := hb
     refine wp_seq ?_
     refine wp_region_head 10 (fun w => Reads w 16 (some ad) l.length (evs l) ∧ True) (by kernel_rfl) (by decide) ?_
     replace s := s.drew; generalize _root_.Go.World.drew _ = w at s ⊢
     have hS : (fun w => Reads w 16 (some ad) l.length (evs l) ∧ True) w := ⟨(hr _ s.sat.tail).1, trivial⟩
     refine yk (i := 0) (.slice (some ad) l.length ca) ha hS ?_
     refine yyk (i := 1) (.int .i64 ((k : Nat) : Int)) hS ?_
     refine yyv (i := 2) (.pointer (some (ad.add (k * 16)))) (fun w hS => (run_indexAddr' (kd := .i64) (i := ((k : Nat) : Int)) (n := l.length) (c := ca) k rfl Tryz.underlying22 Tryz.sizeOf37 (by kernel_rfl) (by kernel_rfl) rfl (by first | assumption | omega) _)) hS ?_
     refine yyfa (i := 3) (.pointer (some (ad.add (k * 16 + 4)))) 3 hS ?_
     refine yyla (i := 4) (.int .i64 y.epoch) (k * 16 + 4) (fun _ hS => hS.1) (by rw [evs_at hy (by omega)]; rfl) hS ?_
     refine yyk (i := 5) (.slice (some ad) l.length ca) hS ?_
     refine yyk (i := 6) (.int .i64 ((k : Nat) : Int)) hS ?_
     refine yyv (i := 7) (.pointer (some (ad.add (k * 16)))) (fun w hS => (run_indexAddr' (kd := .i64) (i := ((k : Nat) : Int)) (n := l.length) (c := ca) k rfl Tryz.underlying22 Tryz.sizeOf37 (by kernel_rfl) (by kernel_rfl) rfl (by first | assumption | omega) _)) hS ?_
     refine yyfa (i := 8) (.pointer (some (ad.add (k * 16 + 12)))) 35 hS ?_
     refine yyv (i := 9) (.agg #[.int .i64 y.wall, .int .i64 y.logic]) (fun w hS => run_loadAtN (i := k * 16 + 12) [.int .i64 y.wall, .int .i64 y.logic] hS.1 rfl (by kernel_rfl) Tryz.isAgg35 Tryz.sizeOf35 (fun q_ hq_ => by rw [Nat.add_assoc, evs_at hy (by omega)]; match q_, hq_ with | 0, _ => rfl | 1, _ => rfl) rfl) hS ?_; clear ha; intro a ha
     refine Head.done (by kernel_rfl) ?_
     clear hS; simp only [List.drop_succ_cons, List.drop_zero]
     refine zv (.agg #[.bool true, .int .i64 y.epoch, .int .i64 y.wall, .int .i64 y.logic]) ha ?_; clear ha; intro a ha
     refine zzd ha (ex_store (of_ := 0) 0 [.bool true, .int .i64 y.epoch, .int .i64 y.wall, .int .i64 y.logic] s rfl rfl (by kernel_rfl) (by kernel_rfl) (Tryz.sizeOf93 _) rfl (by simp [Value.oneCell']) (Nat.le_of_ble_eq_true rfl)) ?_
     clear ha; rintro w a s ha
     dsimp only [List.set, putAt] at s
     refine zn2 ?_
     refine wp_ret ?_
     refine block_ret ?_
     refine then_ret ?_
     refine then_ret ?_
     refine block_ret ?_
     refine then_ret ?_
     refine ret_with (v := .agg #[.bool true, .int .i64 y.epoch, .int .i64 y.wall, .int .i64 y.logic]) ha (results_1 rfl ha (res_cellN (s.blkIs 0 rfl) (by kernel_rfl) (by kernel_rfl) Tryz.isAgg93 Tryz.sizeOf93 rfl)) ?_
     replace s := s.tail
     replace s : St W (L) w := s
     have hyes : (ofB id y && comB y) = true := by unfold ofB; simp [ht1, ht2, ht3]
     have he := endR_at hp.2 hy hyes
     refine ⟨?_, s⟩
     unfold endE
     rw [he]
     rfl
    rw [hb] at ha; skip
    have ht3 := hb
    refine wp_skip ?_
    refine block_normal ?_
    refine then_normal ?_
    refine wp_region_lit ?_
    refine zv (.int .i64 ((k : Nat) : Int)) ha ?_
    refine zzw (.int .i64 ((k + 1 : Nat) : Int)) zar ?_
    refine zzv (.int .i64 ((k + 1 : Nat) : Int)) ?_; clear ha; intro a ha
    refine zn2 ?_
    have hno : (ofB id y && comB y) = false := by unfold ofB; simp [ht1, ht2, ht3]
    exact ⟨k + 1, (show l.length - (k + 1) < l.length - k by omega), (Has.cons ha (by kernel_rfl) (by kernel_rfl) (Has.cons ha (by kernel_rfl) (by kernel_rfl) (Has.cons ha (by kernel_rfl) (by kernel_rfl) (Has.cons ha (by kernel_rfl) (by kernel_rfl) (Has.nil ha))))), s, (show k + 1 ≤ l.length by omega), endR_next hp.2 hy hno⟩
   rw [hb] at ha; replace hb := ne_of_beq_false hb
   have ht2 := hb
   refine zp ha ?_
   iterate 4 refine zzp ?_
   refine zzv (.bool false) ?_; clear ha; intro a ha
   refine zn2 ?_
   refine wp_false ha rfl (by kernel_rfl) ?_
   refine wp_skip ?_
   refine block_normal ?_
   refine then_normal ?_
   refine wp_region_lit ?_
   refine zv (.int .i64 ((k : Nat) : Int)) ha ?_
   refine zzw (.int .i64 ((k + 1 : Nat) : Int)) zar ?_
   refine zzv (.int .i64 ((k + 1 : Nat) : Int)) ?_; clear ha; intro a ha
   refine zn2 ?_
   have hno : (ofB id y && comB y) = false := by unfold ofB; simp [ht1, ht2]
   exact ⟨k + 1, (show l.length - (k + 1) < l.length - k by omega), (Has.cons ha (by kernel_rfl) (by kernel_rfl) (Has.cons ha (by kernel_rfl) (by kernel_rfl) (Has.cons ha (by kernel_rfl) (by kernel_rfl) (Has.cons ha (by kernel_rfl) (by kernel_rfl) (Has.nil ha))))), s, (show k + 1 ≤ l.length by omega), endR_next hp.2 hy hno⟩
  rw [hb] at ha; skip
  have ht1 := hb
  refine zp ha ?_
  iterate 6 refine zzp ?_
  refine zzv (.bool false) ?_
  refine zzv (.bool false) ?_
  iterate 5 refine zzp ?_
  refine zzv (.bool false) ?_; clear ha; intro a ha
  refine zn2 ?_
  refine wp_false ha rfl (by kernel_rfl) ?_
  refine wp_skip ?_
  refine block_normal ?_
  refine then_normal ?_
  refine wp_region_lit ?_
  refine zv (.int .i64 ((k : Nat) : Int)) ha ?_
  refine zzw (.int .i64 ((k + 1 : Nat) : Int)) zar ?_
  refine zzv (.int .i64 ((k + 1 : Nat) : Int)) ?_; clear ha; intro a ha
  refine zn2 ?_
  have hno : (ofB id y && comB y) = false := by unfold ofB; simp [ht1]
  exact ⟨k + 1, (show l.length - (k + 1) < l.length - k by omega), (Has.cons ha (by kernel_rfl) (by kernel_rfl) (Has.cons ha (by kernel_rfl) (by kernel_rfl) (Has.cons ha (by kernel_rfl) (by kernel_rfl) (Has.cons ha (by kernel_rfl) (by kernel_rfl) (Has.nil ha))))), s, (show k + 1 ≤ l.length by omega), endR_next hp.2 hy hno⟩
 rw [hb] at ha; replace hb : ¬ (((k : Nat) : Int) < ((l.length : Nat) : Int)) := of_decide_eq_false hb
 have ht0 := hb
 refine wp_exit ?_
 refine then_exit ?_
 refine then_exit ?_
 refine block_hit ?_
 refine then_normal ?_
 refine zn1 ?_
 refine zv (.agg #[.bool false, .int .i64 0, .int .i64 0, .int .i64 0]) ha ?_; clear ha; intro a ha
 refine zzd ha (ex_store (of_ := 0) 0 [.bool false, .int .i64 0, .int .i64 0, .int .i64 0] s rfl rfl (by kernel_rfl) (by kernel_rfl) (Tryz.sizeOf93 _) rfl (by simp [Value.oneCell']) (Nat.le_of_ble_eq_true rfl)) ?_
 clear ha; rintro w a s ha
 dsimp only [List.set, putAt] at s
 refine zn2 ?_
 refine wp_ret ?_
 refine ret_with (v := .agg #[.bool false, .int .i64 0, .int .i64 0, .int .i64 0]) ha (results_1 rfl ha (res_cellN (s.blkIs 0 rfl) (by kernel_rfl) (by kernel_rfl) Tryz.isAgg93 Tryz.sizeOf93 rfl)) ?_
 replace s := s.tail
 replace s : St W (L) w := s
 have h := hp.2
 rw [List.take_of_length_le (by omega)] at h
 have he : endR l id = none := h
 refine ⟨?_, s⟩
 unfold endE
 rw [he]
 rfl

theorem rdid_any (W : World) (L : List Chunk) (w : World) (x : Ev) (id ep : Int) (s : St W L w) :
  Calls Tryz.prog 50 #[.agg (evv x).toArray, .int .i64 id, .int .i64 ep] w fun e w' => e = .returned (.bool (didR id ep x)) ∧ St W L w' := by
 refine enter_args (l := [.agg (evv x).toArray, .int .i64 id, .int .i64 ep]) Tryz.func50 rfl rfl (Nat.le_of_ble_eq_true rfl) ?_
 intro a ha; replace ha : Has a 32 [(0, .agg (evv x).toArray), (1, .int .i64 id), (2, .int .i64 ep)] := ha
 refine zn1 ?_
 refine zze ha (ex_box (evv x) s rfl (by kernel_rfl)) ?_
 clear ha; rintro _ w a ⟨g1, rfl, s⟩ ha
 refine zv (.bool false) ha ?_; clear ha; intro a ha
 refine zn4 ?_
 refine zv (.pointer (some ⟨g1, 1, none⟩)) ha ?_
 refine zzw (.int .i64 x.kind) (zl1 0 1) ?_
 refine zzv (.bool (x.kind == (3 : Int))) ?_
 refine zzv (.bool (x.kind == (3 : Int))) ?_; clear ha; intro a ha
 rcases Bool.eq_false_or_eq_true (x.kind == (3 : Int)) with hb | hb
 ·
  rw [hb] at ha; replace hb := eq_of_beq hb
  have ht0 := hb
  refine zv (.pointer (some ⟨g1, 3, none⟩)) ha ?_
  refine zzw (.int .i64 x.id) (zl1 0 3) ?_
  refine zzv (.int .i64 id) ?_
  refine zzv (.bool (x.id == id)) ?_
  refine zzv (.bool (x.id == id)) ?_
  refine zzv (.bool (x.id == id)) ?_; clear ha; intro a ha
  rcases Bool.eq_false_or_eq_true (x.id == id) with hb | hb
  ·
   rw [hb] at ha; replace hb := eq_of_beq hb
   have ht1 := hb
   refine zv (.pointer (some ⟨g1, 4, none⟩)) ha ?_
   refine zzw (.int .i64 x.epoch) (zl1 0 4) ?_
   refine zzv (.int .i64 ep) ?_
   refine zzv (.bool (x.epoch == ep)) ?_
   refine zzv (.bool (x.epoch == ep)) ?_
   refine zzv (.bool (x.epoch == ep)) ?_; clear ha; intro a ha
   rcases Bool.eq_false_or_eq_true (x.epoch == ep) with hb | hb
   ·
    rw [hb] at ha; replace hb := eq_of_beq hb
    have ht2 := hb
    refine zv (.pointer (some ⟨g1, 14, none⟩)) ha ?_
    refine zzw (.int .i64 x.err) (zl1 0 14) ?_
    refine zzv (.bool (x.err == (0 : Int))) ?_
    refine zzv (.bool (x.err == (0 : Int))) ?_
    refine zzv (.bool (x.err == (0 : Int))) ?_; clear ha; intro a ha
    rcases Bool.eq_false_or_eq_true (x.err == (0 : Int)) with hb | hb
    ·
     rw [hb] at ha; replace hb := eq_of_beq hb
     have ht3 := hb
     refine zv (.pointer (some ⟨g1, 5, none⟩)) ha ?_
     refine zzw (.int .i64 x.op) (zl1 0 5) ?_
     refine zzv (.bool (decide (x.op ≤ (5 : Int)))) ?_
     refine zzv (.bool (decide (x.op ≤ (5 : Int)))) ?_
     refine zzv (.bool (decide (x.op ≤ (5 : Int)))) ?_; clear ha; intro a ha
     refine zn2 ?_
     refine wp_ret ?_
     refine zzr (v := .bool (decide (x.op ≤ (5 : Int)))) ha ?_
     replace s := s.tail
     replace s : St W (L) w := s
     refine ⟨?_, s⟩
     congr 2
     clear s ha
     unfold didR
     first | (simp [*]; done) | (simp_all; done) | (simp [*]; omega)
    rw [hb] at ha; replace hb := ne_of_beq_false hb
    have ht3 := hb
    refine zp ha ?_
    iterate 2 refine zzp ?_
    refine zzv (.bool false) ?_
    refine zzv (.bool false) ?_; clear ha; intro a ha
    refine zn2 ?_
    refine wp_ret ?_
    refine zzr (v := .bool false) ha ?_
    replace s := s.tail
    replace s : St W (L) w := s
    refine ⟨?_, s⟩
    congr 2
    clear s ha
    unfold didR
    first | (simp [*]; done) | (simp_all; done) | (simp [*]; omega)
   rw [hb] at ha; replace hb := ne_of_beq_false hb
   have ht2 := hb
   refine zp ha ?_
   iterate 2 refine zzp ?_
   refine zzv (.bool false) ?_
   refine zzv (.bool false) ?_
   iterate 3 refine zzp ?_
   refine zzv (.bool false) ?_
   refine zzv (.bool false) ?_; clear ha; intro a ha
   refine zn2 ?_
   refine wp_ret ?_
   refine zzr (v := .bool false) ha ?_
   replace s := s.tail
   replace s : St W (L) w := s
   refine ⟨?_, s⟩
   congr 2
   clear s ha
   unfold didR
   first | (simp [*]; done) | (simp_all; done) | (simp [*]; omega)
  rw [hb] at ha; replace hb := ne_of_beq_false hb
  have ht1 := hb
  refine zp ha ?_
  iterate 3 refine zzp ?_
  refine zzv (.bool false) ?_
  refine zzv (.bool false) ?_
  iterate 3 refine zzp ?_
  refine zzv (.bool false) ?_
  refine zzv (.bool false) ?_
  iterate 3 refine zzp ?_
  refine zzv (.bool false) ?_
  refine zzv (.bool false) ?_; clear ha; intro a ha
  refine zn2 ?_
  refine wp_ret ?_
  refine zzr (v := .bool false) ha ?_
  replace s := s.tail
  replace s : St W (L) w := s
  refine ⟨?_, s⟩
  congr 2
  clear s ha
  unfold didR
  first | (simp [*]; done) | (simp_all; done) | (simp [*]; omega)
 rw [hb] at ha; replace hb := ne_of_beq_false hb
 have ht0 := hb
 refine zp ha ?_
 iterate 3 refine zzp ?_
 refine zzv (.bool false) ?_
 refine zzv (.bool false) ?_
 iterate 4 refine zzp ?_
 refine zzv (.bool false) ?_
 refine zzv (.bool false) ?_
 iterate 3 refine zzp ?_
 refine zzv (.bool false) ?_
 refine zzv (.bool false) ?_
 iterate 3 refine zzp ?_
 refine zzv (.bool false) ?_
 refine zzv (.bool false) ?_; clear ha; intro a ha
 refine zn2 ?_
 refine wp_ret ?_
 refine zzr (v := .bool false) ha ?_
 replace s := s.tail
 replace s : St W (L) w := s
 refine ⟨?_, s⟩
 congr 2
 clear s ha
 unfold didR
 first | (simp [*]; done) | (simp_all; done) | (simp [*]; omega)

end Go.Proofs.YtfcbjcohepkkfaaGreat.B

import Derived.Test.YtfcbjcohepkkfaaGreatG3
import Derived.Test.YtfcbjcohepkkfaaGreatSepY
namespace Go.Proofs.YtfcbjcohepkkfaaGreat.B
open Go.RowKit Go.Maps Go.Sort Go.Shelf Go.Proofs.YtfcbjcohepkkfaaGreat.Sep Go.Proofs.YtfcbjcohepkkfaaGreat.P
set_option linter.unusedVariables false
set_option linter.unusedSimpArgs false
theorem setR_in {l : List Ev} {i k : Nat} {y : Ev} {id : Int} (hk : k < i) (hy : l[k]? = some y) (h : setB id y = true) : setR (l.take i) id = true :=
 List.any_eq_true.2 ⟨y, List.mem_of_getElem? (i := k) (by rw [List.getElem?_take, if_pos hk]; exact hy), h⟩
theorem setR_next {l : List Ev} {k : Nat} {y : Ev} {id : Int} (hy : l[k]? = some y) (h0 : setR (l.take k) id = false) (h : setB id y = false) : setR (l.take (k + 1)) id = false := by
 rw [take_snoc hy, setR_snoc, h0, h]; rfl
theorem agreesR_in {l : List Ev} {i k : Nat} {x y : Ev} (hk : k < i) (hy : l[k]? = some y) (h : (ofB x.id y && clash x y) = true) : agreesR (l.take i) x = false := by
 cases e : agreesR (l.take i) x with
 | false => rfl
 | true =>
  have := List.all_eq_true.1 e y (List.mem_of_getElem? (i := k) (by rw [List.getElem?_take, if_pos hk]; exact hy))
  rw [h] at this; cases this
theorem agreesR_next {l : List Ev} {k : Nat} {x y : Ev} (hy : l[k]? = some y) (h0 : agreesR (l.take k) x = true) (h : (ofB x.id y && clash x y) = false) : agreesR (l.take (k + 1)) x = true := by
 unfold agreesR at h0 ⊢
 rw [take_snoc hy, List.all_append, h0]
 simp only [List.all_cons, List.all_nil, h]; rfl

set_option maxHeartbeats 4000000 in
theorem rasks_any (W : World) (L : List Chunk) (w : World) (ad : Addr) (ca : Nat) (l : List Ev) (hr : Knows L (EvsIn (some ad) l)) (hn : l.length ≤ 5000) (i : Nat) (x : Ev) (hx : l[i]? = some x) (s : St W L w) :
  Calls Tryz.prog 24 #[.slice (some ad) l.length ca, .int .i64 ((i : Nat) : Int)] w fun e w' => e = .returned (.bool (asksR (l.take i) x)) ∧ St W L w' := by
 have hil := (List.getElem?_eq_some_iff.1 hx).1
 refine enter_args (l := [.slice (some ad) l.length ca, .int .i64 ((i : Nat) : Int)]) Tryz.func24 rfl rfl (Nat.le_of_ble_eq_true rfl) ?_
 intro a ha; replace ha : Has a 84 [(0, .slice (some ad) l.length ca), (1, .int .i64 ((i : Nat) : Int))] := ha
 refine zn1 ?_
 refine zv (.bool false) ha ?_; clear ha; intro a ha
 refine zn2 ?_
 refine wp_seq ?_
 refine zn1 ?_
 refine zv (.slice (some ad) l.length ca) ha ?_
 refine zzv (.int .i64 ((i : Nat) : Int)) ?_
 refine zzw (.pointer (some (ad.add (i * 16)))) (run_indexAddr' (kd := .i64) (i := ((i : Nat) : Int)) (n := l.length) (c := ca) i rfl Tryz.underlying22 Tryz.sizeOf37 (by kernel_rfl) (by kernel_rfl) rfl (by first | assumption | omega) _) ?_
 refine zzw (.pointer (some (ad.add (i * 16 + 1)))) (zfa 3) ?_
 refine zzw (.int .i64 x.kind) (zla (i * 16 + 1) ((hr _ s.sat).1) (by rw [evs_at hx (by omega)]; rfl)) ?_
 refine zzv (.bool (x.kind != (2 : Int))) ?_; clear ha; intro a ha
 refine zn2 ?_
 refine zzh (x.kind != (2 : Int)) ha ?_ ?_ <;> intro hb
 ·
  rw [hb] at ha; replace hb := zbn hb
  have ht0 := hb
  refine zn1 ?_
  refine zv (.bool true) ha ?_; clear ha; intro a ha
  refine zn2 ?_
  refine zzt ?_
  refine zzr (v := .bool true) ha ?_
  refine ⟨?_, s⟩
  congr 2
  clear s ha
  unfold asksR
  first | (simp [ht0]; done) | (simp_all; done)
 rw [hb] at ha; replace hb := zbq hb
 have ht0 := hb
 refine wp_skip ?_
 refine then_normal ?_
 refine zn1 ?_
 refine zv (.slice (some ad) l.length ca) ha ?_
 refine zzv (.int .i64 ((i : Nat) : Int)) ?_; clear ha; intro a ha
 refine zzc ha (rlast_any W _ w ad ca l (fun w s => hr w s) hn i x hx s) ?_
 rintro _ w ⟨rfl, s⟩
 refine ⟨_, rfl, ?_⟩; clear ha; intro a ha
 refine zv (.int .i64 (lastI (lastR (l.take i) x.id))) ha ?_; clear ha; intro a ha
 refine zn2 ?_
 refine wp_seq ?_
 refine wp_seq ?_
 refine wp_region_head 25 (fun w => Reads w 16 (some ad) l.length (evs l) ∧ True) (by kernel_rfl) (by decide) ?_
 replace s := s.drew; generalize _root_.Go.World.drew _ = w at s ⊢
 have hS : (fun w => Reads w 16 (some ad) l.length (evs l) ∧ True) w := ⟨(hr _ s.sat).1, trivial⟩
 refine yk (i := 0) (.int .i64 (lastI (lastR (l.take i) x.id))) ha hS ?_
 refine yyk (i := 1) (.bool (decide ((lastI (lastR (l.take i) x.id)) < (0 : Int)))) hS ?_
 refine yyk (i := 2) (.bool (decide ((lastI (lastR (l.take i) x.id)) < (0 : Int)))) hS ?_; clear ha; intro a ha
 rcases Bool.eq_false_or_eq_true (decide ((lastI (lastR (l.take i) x.id)) < (0 : Int))) with hb | hb
 ·
  rw [hb] at ha; replace hb : ((lastI (lastR (l.take i) x.id)) < (0 : Int)) := of_decide_eq_true hb
  have ht1 := hb
  have hzn := lastI_none (show lastI (lastR (l.take i) x.id) < 0 by omega)
  refine yp (i := 3) ha hS ?_
  refine yyp (i := 4) hS ?_
  refine yyp (i := 5) hS ?_
  refine yyp (i := 6) hS ?_
  refine yyp (i := 7) hS ?_
  refine yyp (i := 8) hS ?_
  refine yyp (i := 9) hS ?_
  refine yyp (i := 10) hS ?_
  refine yyp (i := 11) hS ?_
  refine yyp (i := 12) hS ?_
  refine yyp (i := 13) hS ?_
  refine yyk (i := 14) (.bool true) hS ?_
  refine yyk (i := 15) (.bool true) hS ?_
  refine yyp (i := 16) hS ?_
  refine yyp (i := 17) hS ?_
  refine yyp (i := 18) hS ?_
  refine yyp (i := 19) hS ?_
  refine yyp (i := 20) hS ?_
  refine yyp (i := 21) hS ?_
  refine yyp (i := 22) hS ?_
  refine yyp (i := 23) hS ?_
  refine yyp (i := 24) hS ?_; clear ha; intro a ha
  refine Head.done (by kernel_rfl) ?_
  clear hS; simp only [List.drop_succ_cons, List.drop_zero]
  refine zp ha ?_
  iterate 4 refine zzp ?_
  refine zzv (.bool true) ?_; clear ha; intro a ha
  refine zn2 ?_
  refine wp_true ha rfl (by kernel_rfl) ?_
  refine zn1 ?_
  refine zv (.bool false) ha ?_; clear ha; intro a ha
  refine zn2 ?_
  refine zzt ?_
  refine zzr (v := .bool false) ha ?_
  refine ⟨?_, s⟩
  congr 2
  clear s ha
  unfold asksR
  rw [hzn]
  first | (simp [ht0]; done) | (simp_all; done)
 rw [hb] at ha; replace hb : ¬ ((lastI (lastR (l.take i) x.id)) < (0 : Int)) := of_decide_eq_false hb
 have ht1 := hb
 obtain ⟨z, hz⟩ := lastI_some (show ¬ lastI (lastR (l.take i) x.id) < 0 by omega)
 obtain ⟨hzl, hzn⟩ := lastR_l hz
 refine yk (i := 3) (.slice (some ad) l.length ca) ha hS ?_
 refine yyk (i := 4) (.int .i64 (lastI (lastR (l.take i) x.id))) hS ?_
 refine yyv (i := 5) (.pointer (some (ad.add (z.1 * 16)))) (fun w hS => (run_indexAddr' (kd := .i64) (i := (lastI (lastR (l.take i) x.id))) (n := l.length) (c := ca) z.1 rfl Tryz.underlying22 Tryz.sizeOf37 (by kernel_rfl) (by kernel_rfl) (by rw [hz]; rfl) (by first | assumption | omega) _)) hS ?_
 refine yyfa (i := 6) (.pointer (some (ad.add (z.1 * 16 + 2)))) 3 hS ?_
 refine yyla (i := 7) (.int .i64 z.2.node) (z.1 * 16 + 2) (fun _ hS => hS.1) (by rw [evs_at hzl (by omega)]; rfl) hS ?_
 refine yyk (i := 8) (.slice (some ad) l.length ca) hS ?_
 refine yyk (i := 9) (.int .i64 ((i : Nat) : Int)) hS ?_
 refine yyv (i := 10) (.pointer (some (ad.add (i * 16)))) (fun w hS => (run_indexAddr' (kd := .i64) (i := ((i : Nat) : Int)) (n := l.length) (c := ca) i rfl Tryz.underlying22 Tryz.sizeOf37 (by kernel_rfl) (by kernel_rfl) rfl (by first | assumption | omega) _)) hS ?_
 refine yyfa (i := 11) (.pointer (some (ad.add (i * 16 + 2)))) 3 hS ?_
 refine yyla (i := 12) (.int .i64 x.node) (i * 16 + 2) (fun _ hS => hS.1) (by rw [evs_at hx (by omega)]; rfl) hS ?_
 refine yyk (i := 13) (.bool (z.2.node != x.node)) hS ?_
 refine yyk (i := 14) (.bool (z.2.node != x.node)) hS ?_
 refine yyk (i := 15) (.bool (z.2.node != x.node)) hS ?_; clear ha; intro a ha
 rcases Bool.eq_false_or_eq_true (z.2.node != x.node) with hb | hb
 ·
  rw [hb] at ha; replace hb := zbn hb
  have ht2 := hb
  refine yp (i := 16) ha hS ?_
  refine yyp (i := 17) hS ?_
  refine yyp (i := 18) hS ?_
  refine yyp (i := 19) hS ?_
  refine yyp (i := 20) hS ?_
  refine yyp (i := 21) hS ?_
  refine yyp (i := 22) hS ?_
  refine yyp (i := 23) hS ?_
  refine yyp (i := 24) hS ?_; clear ha; intro a ha
  refine Head.done (by kernel_rfl) ?_
  clear hS; simp only [List.drop_succ_cons, List.drop_zero]
  refine zp ha ?_
  iterate 4 refine zzp ?_
  refine zzv (.bool true) ?_; clear ha; intro a ha
  refine zn2 ?_
  refine wp_true ha rfl (by kernel_rfl) ?_
  refine zn1 ?_
  refine zv (.bool false) ha ?_; clear ha; intro a ha
  refine zn2 ?_
  refine zzt ?_
  refine zzr (v := .bool false) ha ?_
  refine ⟨?_, s⟩
  congr 2
  clear s ha
  unfold asksR
  rw [hz]
  first | (simp [ht0, ht2]; done) | (simp_all; done)
 rw [hb] at ha; replace hb := zbq hb
 have ht2 := hb
 refine yk (i := 16) (.slice (some ad) l.length ca) ha hS ?_
 refine yyk (i := 17) (.int .i64 (lastI (lastR (l.take i) x.id))) hS ?_
 refine yyv (i := 18) (.pointer (some (ad.add (z.1 * 16)))) (fun w hS => (run_indexAddr' (kd := .i64) (i := (lastI (lastR (l.take i) x.id))) (n := l.length) (c := ca) z.1 rfl Tryz.underlying22 Tryz.sizeOf37 (by kernel_rfl) (by kernel_rfl) (by rw [hz]; rfl) (by first | assumption | omega) _)) hS ?_
 refine yyfa (i := 19) (.pointer (some (ad.add (z.1 * 16 + 1)))) 3 hS ?_
 refine yyla (i := 20) (.int .i64 z.2.kind) (z.1 * 16 + 1) (fun _ hS => hS.1) (by rw [evs_at hzl (by omega)]; rfl) hS ?_
 refine yyk (i := 21) (.bool (z.2.kind != (1 : Int))) hS ?_
 refine yyk (i := 22) (.bool (z.2.kind != (1 : Int))) hS ?_; clear ha; intro a ha
 rcases Bool.eq_false_or_eq_true (z.2.kind != (1 : Int)) with hb | hb
 ·
  rw [hb] at ha; replace hb := zbn hb
  have ht3 := hb
  refine yk (i := 23) (.slice (some ad) l.length ca) ha hS ?_
  refine yyk (i := 24) (.int .i64 (lastI (lastR (l.take i) x.id))) hS ?_; clear ha; intro a ha
  refine Head.done (by kernel_rfl) ?_
  clear hS; simp only [List.drop_succ_cons, List.drop_zero]
  refine zw (.pointer (some (ad.add (z.1 * 16)))) ha (run_indexAddr' (kd := .i64) (i := (lastI (lastR (l.take i) x.id))) (n := l.length) (c := ca) z.1 rfl Tryz.underlying22 Tryz.sizeOf37 (by kernel_rfl) (by kernel_rfl) (by rw [hz]; rfl) (by first | assumption | omega) _) ?_
  refine zzw (.pointer (some (ad.add (z.1 * 16 + 1)))) (zfa 3) ?_
  refine zzw (.int .i64 z.2.kind) (zla (z.1 * 16 + 1) ((hr _ s.sat).1) (by rw [evs_at hzl (by omega)]; rfl)) ?_
  refine zzv (.bool (z.2.kind != (3 : Int))) ?_
  refine zzv (.bool (z.2.kind != (3 : Int))) ?_
  refine zzv (.bool (z.2.kind != (3 : Int))) ?_; clear ha; intro a ha
  refine zn2 ?_
  refine zzh (z.2.kind != (3 : Int)) ha ?_ ?_ <;> intro hb
  ·
   rw [hb] at ha; replace hb := zbn hb
   have ht4 := hb
   refine zn1 ?_
   refine zv (.bool false) ha ?_; clear ha; intro a ha
   refine zn2 ?_
   refine zzt ?_
   refine zzr (v := .bool false) ha ?_
   refine ⟨?_, s⟩
   congr 2
   clear s ha
   unfold asksR
   rw [hz]
   first | (simp [ht0, ht2, ht3, ht4]; done) | (simp_all; done)
  rw [hb] at ha; replace hb := zbq hb
  have ht4 := hb
  refine wp_skip ?_
  refine then_normal ?_
  refine wp_seq ?_
  refine zn1 ?_
  refine zv (.int .i64 0) ha ?_; clear ha; intro a ha
  refine zn2 ?_
  refine wp_block ?_
  refine wp_loopG (G := Nat) (fun k a w => Has a 84 [(0, .slice (some ad) l.length ca), (1, .int .i64 ((i : Nat) : Int)), (6, .int .i64 ((k : Nat) : Int))] ∧ St W (L) w ∧ (k ≤ i ∧ setR (l.take k) x.id = false)) (fun k => i - k) 0 ?_ ?_
  ·
   exact ⟨(Has.cons ha (by kernel_rfl) (by kernel_rfl) (Has.cons ha (by kernel_rfl) (by kernel_rfl) (Has.cons ha (by kernel_rfl) (by kernel_rfl) (Has.nil ha)))), s, ⟨Nat.zero_le _, rfl⟩⟩
  clear ha s; rintro k a w ⟨ha, s, hp⟩
  refine wp_seq ?_
  refine zn1 ?_
  refine zv (.int .i64 ((k : Nat) : Int)) ha ?_
  refine zzv (.int .i64 ((i : Nat) : Int)) ?_
  refine zzv (.bool (decide (((k : Nat) : Int) < ((i : Nat) : Int)))) ?_; clear ha; intro a ha
  refine zn2 ?_
  refine zzh (decide (((k : Nat) : Int) < ((i : Nat) : Int))) ha ?_ ?_ <;> intro hb
  ·
   rw [hb] at ha; replace hb : (((k : Nat) : Int) < ((i : Nat) : Int)) := of_decide_eq_true hb
   have ht5 := hb
   obtain ⟨y, hy⟩ : ∃ y, l[k]? = some y := ⟨_, List.getElem?_eq_getElem (by omega)⟩
   refine wp_skip ?_
   refine then_normal ?_
   refine wp_seq ?_
   refine wp_block ?_
   refine zn1 ?_
   refine zv (.slice (some ad) l.length ca) ha ?_
   refine zzv (.int .i64 ((k : Nat) : Int)) ?_
   refine zzw (.pointer (some (ad.add (k * 16)))) (run_indexAddr' (kd := .i64) (i := ((k : Nat) : Int)) (n := l.length) (c := ca) k rfl Tryz.underlying22 Tryz.sizeOf37 (by kernel_rfl) (by kernel_rfl) rfl (by first | assumption | omega) _) ?_
   refine zzw (.agg (evv y).toArray) (run_loadAtN (i := k * 16) (evv y) ((hr _ s.sat).1) rfl (by kernel_rfl) Tryz.isAgg37 Tryz.sizeOf37 (fun q_ hq_ => evs_at hy hq_) rfl) ?_; clear ha; intro a ha
   refine zze ha (ex_alloc (evv ⟨0, 0, 0, 0, 0, 0, [], [], [], [], false, [], none, 0, 0, 0, 0, 0⟩) s rfl (Tryz.zeroValue37 _) (by kernel_rfl)) ?_
   clear ha; rintro _ w a ⟨g1, rfl, s⟩ ha
   refine zzd ha (ex_store (of_ := 0) 0 (evv y) s rfl rfl (by kernel_rfl) (by kernel_rfl) (Tryz.sizeOf37 _) rfl (by simp [evv, txv, Value.oneCell']) (Nat.le_of_ble_eq_true rfl)) ?_
   clear ha; rintro w a s ha
   dsimp only [List.set, putAt] at s
   refine zn2 ?_
   refine wp_seq ?_
   refine wp_region_head 11 (fun w => BlkIs g1 (evv y) w ∧ Reads w 16 (some ad) l.length (evs l) ∧ True) (by kernel_rfl) (by decide) ?_
   replace s := s.drew; generalize _root_.Go.World.drew _ = w at s ⊢
   have hS : (fun w => BlkIs g1 (evv y) w ∧ Reads w 16 (some ad) l.length (evs l) ∧ True) w := ⟨s.blkIs 0 rfl, (hr _ s.sat.tail).1, trivial⟩
   refine yk (i := 0) (.pointer (some ⟨g1, 1, none⟩)) ha hS ?_
   refine yyv (i := 1) (.int .i64 y.kind) (fun w hS => run_load1 (of_ := 1) hS.1 rfl (by kernel_rfl) Tryz.isAgg3 rfl) hS ?_
   refine yyk (i := 2) (.bool (y.kind == (3 : Int))) hS ?_
   refine yyk (i := 3) (.bool (y.kind == (3 : Int))) hS ?_; clear ha; intro a ha
   rcases Bool.eq_false_or_eq_true (y.kind == (3 : Int)) with hb | hb
   ·
    rw [hb] at ha; replace hb := eq_of_beq hb
    have ht6 := hb
    refine yk (i := 4) (.pointer (some ⟨g1, 3, none⟩)) ha hS ?_
    refine yyv (i := 5) (.int .i64 y.id) (fun w hS => run_load1 (of_ := 3) hS.1 rfl (by kernel_rfl) Tryz.isAgg3 rfl) hS ?_
    refine yyk (i := 6) (.slice (some ad) l.length ca) hS ?_
    refine yyk (i := 7) (.int .i64 ((i : Nat) : Int)) hS ?_
    refine yyv (i := 8) (.pointer (some (ad.add (i * 16)))) (fun w hS => (run_indexAddr' (kd := .i64) (i := ((i : Nat) : Int)) (n := l.length) (c := ca) i rfl Tryz.underlying22 Tryz.sizeOf37 (by kernel_rfl) (by kernel_rfl) rfl (by first | assumption | omega) _)) hS ?_
    refine yyfa (i := 9) (.pointer (some (ad.add (i * 16 + 3)))) 3 hS ?_
    refine yyla (i := 10) (.int .i64 x.id) (i * 16 + 3) (fun _ hS => hS.2.1) (by rw [evs_at hx (by omega)]; rfl) hS ?_; clear ha; intro a ha
    refine Head.done (by kernel_rfl) ?_
    clear hS; simp only [List.drop_succ_cons, List.drop_zero]
    refine zv (.bool (y.id == x.id)) ha ?_
    refine zzv (.bool (y.id == x.id)) ?_
    refine zzv (.bool (y.id == x.id)) ?_; clear ha; intro a ha
    rcases Bool.eq_false_or_eq_true (y.id == x.id) with hb | hb
    ·
     rw [hb] at ha; replace hb := eq_of_beq hb
     have ht7 := hb
     refine zw (.agg (evv y).toArray) ha (zln 0 0) ?_; clear ha; intro a ha
     refine zzc ha (rcom_any W _ w y s) ?_
     rintro _ w ⟨rfl, s⟩
     refine ⟨_, rfl, ?_⟩; clear ha; intro a ha
     refine zv (.bool (comB y)) ha ?_; clear ha; intro a ha
     rcases Bool.eq_false_or_eq_true (comB y) with hb | hb
     ·
      rw [hb] at ha; skip
      have ht8 := hb
      refine zp ha ?_
      iterate 7 refine zzp ?_
      refine zzv (.bool true) ?_
      refine zzv (.bool true) ?_; clear ha; intro a ha
      refine zn2 ?_
      refine wp_true ha rfl (by kernel_rfl) ?_
      refine zn1 ?_
      refine zv (.bool false) ha ?_; clear ha; intro a ha
      refine zn2 ?_
      refine wp_ret ?_
      refine block_ret ?_
      refine then_ret ?_
      refine then_ret ?_
      refine block_ret ?_
      refine then_ret ?_
      refine zzr (v := .bool false) ha ?_
      replace s := s.tail
      replace s : St W (L) w := s
      have hset : setR (l.take i) x.id = true := setR_in (by omega) hy (by unfold setB; simp [ht6, ht7, ht8])
      refine ⟨?_, s⟩
      congr 2
      clear s ha
      unfold asksR
      rw [hz]
      first | (simp [ht0, ht2, ht3, ht4, hset]; done) | (simp_all; done)
     rw [hb] at ha; skip
     have ht8 := hb
     refine zv (.pointer (some ⟨g1, 5, none⟩)) ha ?_
     refine zzw (.int .i64 y.op) (zl1 0 5) ?_
     refine zzv (.bool (y.op == (7 : Int))) ?_
     refine zzv (.bool (y.op == (7 : Int))) ?_; clear ha; intro a ha
     rcases Bool.eq_false_or_eq_true (y.op == (7 : Int)) with hb | hb
     ·
      rw [hb] at ha; replace hb := eq_of_beq hb
      have ht9 := hb
      refine zv (.pointer (some ⟨g1, 14, none⟩)) ha ?_
      refine zzw (.int .i64 y.err) (zl1 0 14) ?_
      refine zzv (.bool (y.err == (0 : Int))) ?_
      refine zzv (.bool (y.err == (0 : Int))) ?_
      refine zzv (.bool (y.err == (0 : Int))) ?_
      refine zzv (.bool (y.err == (0 : Int))) ?_; clear ha; intro a ha
      refine zn2 ?_
      refine zzh (y.err == (0 : Int)) ha ?_ ?_ <;> intro hb
      ·
       rw [hb] at ha; replace hb := eq_of_beq hb
       have ht10 := hb
       refine zn1 ?_
       refine zv (.bool false) ha ?_; clear ha; intro a ha
       refine zn2 ?_
       refine wp_ret ?_
       refine block_ret ?_
       refine then_ret ?_
       refine then_ret ?_
       refine block_ret ?_
       refine then_ret ?_
       refine zzr (v := .bool false) ha ?_
       replace s := s.tail
       replace s : St W (L) w := s
       have hset : setR (l.take i) x.id = true := setR_in (by omega) hy (by unfold setB; simp [ht6, ht7, ht8, ht9, ht10])
       refine ⟨?_, s⟩
       congr 2
       clear s ha
       unfold asksR
       rw [hz]
       first | (simp [ht0, ht2, ht3, ht4, hset]; done) | (simp_all; done)
      rw [hb] at ha; replace hb := ne_of_beq_false hb
      have ht10 := hb
      refine wp_skip ?_
      refine block_normal ?_
      refine then_normal ?_
      refine wp_region_lit ?_
      refine zv (.int .i64 ((k : Nat) : Int)) ha ?_
      refine zzw (.int .i64 ((k + 1 : Nat) : Int)) zar ?_
      refine zzv (.int .i64 ((k + 1 : Nat) : Int)) ?_; clear ha; intro a ha
      refine zn2 ?_
      replace s := s.tail
      replace s : St W (L) w := s
      have hsb : setB x.id y = false := by unfold setB; simp [ht6, ht7, ht8, ht9, ht10]
      exact ⟨k + 1, (show i - (k + 1) < i - k by omega), (Has.cons ha (by kernel_rfl) (by kernel_rfl) (Has.cons ha (by kernel_rfl) (by kernel_rfl) (Has.cons ha (by kernel_rfl) (by kernel_rfl) (Has.nil ha)))), s, (show k + 1 ≤ i by omega), setR_next hy hp.2 hsb⟩
     rw [hb] at ha; replace hb := ne_of_beq_false hb
     have ht9 := hb
     refine zp ha ?_
     iterate 2 refine zzp ?_
     refine zzv (.bool false) ?_
     refine zzv (.bool false) ?_
     refine zzv (.bool false) ?_; clear ha; intro a ha
     refine zn2 ?_
     refine wp_false ha rfl (by kernel_rfl) ?_
     refine wp_skip ?_
     refine block_normal ?_
     refine then_normal ?_
     refine wp_region_lit ?_
     refine zv (.int .i64 ((k : Nat) : Int)) ha ?_
     refine zzw (.int .i64 ((k + 1 : Nat) : Int)) zar ?_
     refine zzv (.int .i64 ((k + 1 : Nat) : Int)) ?_; clear ha; intro a ha
     refine zn2 ?_
     replace s := s.tail
     replace s : St W (L) w := s
     have hsb : setB x.id y = false := by unfold setB; simp [ht6, ht7, ht8, ht9]
     exact ⟨k + 1, (show i - (k + 1) < i - k by omega), (Has.cons ha (by kernel_rfl) (by kernel_rfl) (Has.cons ha (by kernel_rfl) (by kernel_rfl) (Has.cons ha (by kernel_rfl) (by kernel_rfl) (Has.nil ha)))), s, (show k + 1 ≤ i by omega), setR_next hy hp.2 hsb⟩
    rw [hb] at ha; replace hb := ne_of_beq_false hb
    have ht7 := hb
    refine zp ha ?_
    iterate 11 refine zzp ?_
    refine zzv (.bool false) ?_; clear ha; intro a ha
    refine zn2 ?_
    refine wp_false ha rfl (by kernel_rfl) ?_
    refine wp_skip ?_
    refine block_normal ?_
    refine then_normal ?_
    refine wp_region_lit ?_
    refine zv (.int .i64 ((k : Nat) : Int)) ha ?_
    refine zzw (.int .i64 ((k + 1 : Nat) : Int)) zar ?_
    refine zzv (.int .i64 ((k + 1 : Nat) : Int)) ?_; clear ha; intro a ha
    refine zn2 ?_
    replace s := s.tail
    replace s : St W (L) w := s
    have hsb : setB x.id y = false := by unfold setB; simp [ht6, ht7]
    exact ⟨k + 1, (show i - (k + 1) < i - k by omega), (Has.cons ha (by kernel_rfl) (by kernel_rfl) (Has.cons ha (by kernel_rfl) (by kernel_rfl) (Has.cons ha (by kernel_rfl) (by kernel_rfl) (Has.nil ha)))), s, (show k + 1 ≤ i by omega), setR_next hy hp.2 hsb⟩
   rw [hb] at ha; replace hb := ne_of_beq_false hb
   have ht6 := hb
   refine yp (i := 4) ha hS ?_
   refine yyp (i := 5) hS ?_
   refine yyp (i := 6) hS ?_
   refine yyp (i := 7) hS ?_
   refine yyp (i := 8) hS ?_
   refine yyp (i := 9) hS ?_
   refine yyp (i := 10) hS ?_; clear ha; intro a ha
   refine Head.done (by kernel_rfl) ?_
   clear hS; simp only [List.drop_succ_cons, List.drop_zero]
   refine zp ha ?_
   refine zzv (.bool false) ?_
   refine zzv (.bool false) ?_
   iterate 12 refine zzp ?_
   refine zzv (.bool false) ?_; clear ha; intro a ha
   refine zn2 ?_
   refine wp_false ha rfl (by kernel_rfl) ?_
   refine wp_skip ?_
   refine block_normal ?_
   refine then_normal ?_
   refine wp_region_lit ?_
   refine zv (.int .i64 ((k : Nat) : Int)) ha ?_
   refine zzw (.int .i64 ((k + 1 : Nat) : Int)) zar ?_
   refine zzv (.int .i64 ((k + 1 : Nat) : Int)) ?_; clear ha; intro a ha
   refine zn2 ?_
   replace s := s.tail
   replace s : St W (L) w := s
   have hsb : setB x.id y = false := by unfold setB; simp [ht6]
   exact ⟨k + 1, (show i - (k + 1) < i - k by omega), (Has.cons ha (by kernel_rfl) (by kernel_rfl) (Has.cons ha (by kernel_rfl) (by kernel_rfl) (Has.cons ha (by kernel_rfl) (by kernel_rfl) (Has.nil ha)))), s, (show k + 1 ≤ i by omega), setR_next hy hp.2 hsb⟩
  rw [hb] at ha; replace hb : ¬ (((k : Nat) : Int) < ((i : Nat) : Int)) := of_decide_eq_false hb
  have ht5 := hb
  refine wp_exit ?_
  refine then_exit ?_
  refine then_exit ?_
  refine block_hit ?_
  refine then_normal ?_
  refine zn1 ?_
  refine zv (.bool true) ha ?_; clear ha; intro a ha
  refine zn2 ?_
  refine wp_ret ?_
  refine zzr (v := .bool true) ha ?_
  have hset : setR (l.take i) x.id = false := by have h := hp.2; rwa [show k = i by omega] at h
  refine ⟨?_, s⟩
  congr 2
  clear s ha
  unfold asksR
  rw [hz]
  first | (simp [ht0, ht2, ht3, ht4, hset]; done) | (simp_all; done)
 rw [hb] at ha; replace hb := zbq hb
 have ht3 := hb
 refine yp (i := 23) ha hS ?_
 refine yyp (i := 24) hS ?_; clear ha; intro a ha
 refine Head.done (by kernel_rfl) ?_
 clear hS; simp only [List.drop_succ_cons, List.drop_zero]
 refine zp ha ?_
 iterate 3 refine zzp ?_
 refine zzv (.bool false) ?_
 refine zzv (.bool false) ?_; clear ha; intro a ha
 refine zn2 ?_
 refine wp_false ha rfl (by kernel_rfl) ?_
 refine wp_skip ?_
 refine then_normal ?_
 refine wp_seq ?_
 refine zn1 ?_
 refine zv (.int .i64 0) ha ?_; clear ha; intro a ha
 refine zn2 ?_
 refine wp_block ?_
 refine wp_loopG (G := Nat) (fun k a w => Has a 84 [(0, .slice (some ad) l.length ca), (1, .int .i64 ((i : Nat) : Int)), (6, .int .i64 ((k : Nat) : Int))] ∧ St W (L) w ∧ (k ≤ i ∧ setR (l.take k) x.id = false)) (fun k => i - k) 0 ?_ ?_
 ·
  exact ⟨(Has.cons ha (by kernel_rfl) (by kernel_rfl) (Has.cons ha (by kernel_rfl) (by kernel_rfl) (Has.cons ha (by kernel_rfl) (by kernel_rfl) (Has.nil ha)))), s, ⟨Nat.zero_le _, rfl⟩⟩
 clear ha s; rintro k a w ⟨ha, s, hp⟩
 refine wp_seq ?_
 refine zn1 ?_
 refine zv (.int .i64 ((k : Nat) : Int)) ha ?_
 refine zzv (.int .i64 ((i : Nat) : Int)) ?_
 refine zzv (.bool (decide (((k : Nat) : Int) < ((i : Nat) : Int)))) ?_; clear ha; intro a ha
 refine zn2 ?_
 refine zzh (decide (((k : Nat) : Int) < ((i : Nat) : Int))) ha ?_ ?_ <;> intro hb
 ·
  rw [hb] at ha; replace hb : (((k : Nat) : Int) < ((i : Nat) : Int)) := of_decide_eq_true hb
  have ht4 := hb
  obtain ⟨y, hy⟩ : ∃ y, l[k]? = some y := ⟨_, List.getElem?_eq_getElem (by omega)⟩
  refine wp_skip ?_
  refine then_normal ?_
  refine wp_seq ?_
  refine wp_block ?_
  refine zn1 ?_
  refine zv (.slice (some ad) l.length ca) ha ?_
  refine zzv (.int .i64 ((k : Nat) : Int)) ?_
  refine zzw (.pointer (some (ad.add (k * 16)))) (run_indexAddr' (kd := .i64) (i := ((k : Nat) : Int)) (n := l.length) (c := ca) k rfl Tryz.underlying22 Tryz.sizeOf37 (by kernel_rfl) (by kernel_rfl) rfl (by first | assumption | omega) _) ?_
  refine zzw (.agg (evv y).toArray) (run_loadAtN (i := k * 16) (evv y) ((hr _ s.sat).1) rfl (by kernel_rfl) Tryz.isAgg37 Tryz.sizeOf37 (fun q_ hq_ => evs_at hy hq_) rfl) ?_; clear ha; intro a ha
  refine zze ha (ex_alloc (evv ⟨0, 0, 0, 0, 0, 0, [], [], [], [], false, [], none, 0, 0, 0, 0, 0⟩) s rfl (Tryz.zeroValue37 _) (by kernel_rfl)) ?_
  clear ha; rintro _ w a ⟨g2, rfl, s⟩ ha
  refine zzd ha (ex_store (of_ := 0) 0 (evv y) s rfl rfl (by kernel_rfl) (by kernel_rfl) (Tryz.sizeOf37 _) rfl (by simp [evv, txv, Value.oneCell']) (Nat.le_of_ble_eq_true rfl)) ?_
  clear ha; rintro w a s ha
  dsimp only [List.set, putAt] at s
  refine zn2 ?_
  refine wp_seq ?_
  refine wp_region_head 11 (fun w => BlkIs g2 (evv y) w ∧ Reads w 16 (some ad) l.length (evs l) ∧ True) (by kernel_rfl) (by decide) ?_
  replace s := s.drew; generalize _root_.Go.World.drew _ = w at s ⊢
  have hS : (fun w => BlkIs g2 (evv y) w ∧ Reads w 16 (some ad) l.length (evs l) ∧ True) w := ⟨s.blkIs 0 rfl, (hr _ s.sat.tail).1, trivial⟩
  refine yk (i := 0) (.pointer (some ⟨g2, 1, none⟩)) ha hS ?_
  refine yyv (i := 1) (.int .i64 y.kind) (fun w hS => run_load1 (of_ := 1) hS.1 rfl (by kernel_rfl) Tryz.isAgg3 rfl) hS ?_
  refine yyk (i := 2) (.bool (y.kind == (3 : Int))) hS ?_
  refine yyk (i := 3) (.bool (y.kind == (3 : Int))) hS ?_; clear ha; intro a ha
  rcases Bool.eq_false_or_eq_true (y.kind == (3 : Int)) with hb | hb
  ·
   rw [hb] at ha; replace hb := eq_of_beq hb
   have ht5 := hb
   refine yk (i := 4) (.pointer (some ⟨g2, 3, none⟩)) ha hS ?_
   refine yyv (i := 5) (.int .i64 y.id) (fun w hS => run_load1 (of_ := 3) hS.1 rfl (by kernel_rfl) Tryz.isAgg3 rfl) hS ?_
   refine yyk (i := 6) (.slice (some ad) l.length ca) hS ?_
   refine yyk (i := 7) (.int .i64 ((i : Nat) : Int)) hS ?_
   refine yyv (i := 8) (.pointer (some (ad.add (i * 16)))) (fun w hS => (run_indexAddr' (kd := .i64) (i := ((i : Nat) : Int)) (n := l.length) (c := ca) i rfl Tryz.underlying22 Tryz.sizeOf37 (by kernel_rfl) (by kernel_rfl) rfl (by first | assumption | omega) _)) hS ?_
   refine yyfa (i := 9) (.pointer (some (ad.add (i * 16 + 3)))) 3 hS ?_
   refine yyla (i := 10) (.int .i64 x.id) (i * 16 + 3) (fun _ hS => hS.2.1) (by rw [evs_at hx (by omega)]; rfl) hS ?_; clear ha; intro a ha
   refine Head.done (by kernel_rfl) ?_
   clear hS; simp only [List.drop_succ_cons, List.drop_zero]
   refine zv (.bool (y.id == x.id)) ha ?_
   refine zzv (.bool (y.id == x.id)) ?_
   refine zzv (.bool (y.id == x.id)) ?_; clear ha; intro a ha
   rcases Bool.eq_false_or_eq_true (y.id == x.id) with hb | hb
   ·
    rw [hb] at ha; replace hb := eq_of_beq hb
    have ht6 := hb
    refine zw (.agg (evv y).toArray) ha (zln 0 0) ?_; clear ha; intro a ha
    refine zzc ha (rcom_any W _ w y s) ?_
    rintro _ w ⟨rfl, s⟩
    refine ⟨_, rfl, ?_⟩; clear ha; intro a ha
    refine zv (.bool (comB y)) ha ?_; clear ha; intro a ha
    rcases Bool.eq_false_or_eq_true (comB y) with hb | hb
    ·
     rw [hb] at ha; skip
     have ht7 := hb
     refine zp ha ?_
     iterate 7 refine zzp ?_
     refine zzv (.bool true) ?_
     refine zzv (.bool true) ?_; clear ha; intro a ha
     refine zn2 ?_
     refine wp_true ha rfl (by kernel_rfl) ?_
     refine zn1 ?_
     refine zv (.bool false) ha ?_; clear ha; intro a ha
     refine zn2 ?_
     refine wp_ret ?_
     refine block_ret ?_
     refine then_ret ?_
     refine then_ret ?_
     refine block_ret ?_
     refine then_ret ?_
     refine zzr (v := .bool false) ha ?_
     replace s := s.tail
     replace s : St W (L) w := s
     have hset : setR (l.take i) x.id = true := setR_in (by omega) hy (by unfold setB; simp [ht5, ht6, ht7])
     refine ⟨?_, s⟩
     congr 2
     clear s ha
     unfold asksR
     rw [hz]
     first | (simp [ht0, ht2, ht3, hset]; done) | (simp_all; done)
    rw [hb] at ha; skip
    have ht7 := hb
    refine zv (.pointer (some ⟨g2, 5, none⟩)) ha ?_
    refine zzw (.int .i64 y.op) (zl1 0 5) ?_
    refine zzv (.bool (y.op == (7 : Int))) ?_
    refine zzv (.bool (y.op == (7 : Int))) ?_; clear ha; intro a ha
    rcases Bool.eq_false_or_eq_true (y.op == (7 : Int)) with hb | hb
    ·
     rw [hb] at ha; replace hb := eq_of_beq hb
     have ht8 := hb
     refine zv (.pointer (some ⟨g2, 14, none⟩)) ha ?_
     refine zzw (.int .i64 y.err) (zl1 0 14) ?_
     refine zzv (.bool (y.err == (0 : Int))) ?_
     refine zzv (.bool (y.err == (0 : Int))) ?_
     refine zzv (.bool (y.err == (0 : Int))) ?_
     refine zzv (.bool (y.err == (0 : Int))) ?_; clear ha; intro a ha
     refine zn2 ?_
     refine zzh (y.err == (0 : Int)) ha ?_ ?_ <;> intro hb
     ·
      rw [hb] at ha; replace hb := eq_of_beq hb
      have ht9 := hb
      refine zn1 ?_
      refine zv (.bool false) ha ?_; clear ha; intro a ha
      refine zn2 ?_
      refine wp_ret ?_
      refine block_ret ?_
      refine then_ret ?_
      refine then_ret ?_
      refine block_ret ?_
      refine then_ret ?_
      refine zzr (v := .bool false) ha ?_
      replace s := s.tail
      replace s : St W (L) w := s
      have hset : setR (l.take i) x.id = true := setR_in (by omega) hy (by unfold setB; simp [ht5, ht6, ht7, ht8, ht9])
      refine ⟨?_, s⟩
      congr 2
      clear s ha
      unfold asksR
      rw [hz]
      first | (simp [ht0, ht2, ht3, hset]; done) | (simp_all; done)
     rw [hb] at ha; replace hb := ne_of_beq_false hb
     have ht9 := hb
     refine wp_skip ?_
     refine block_normal ?_
     refine then_normal ?_
     refine wp_region_lit ?_
     refine zv (.int .i64 ((k : Nat) : Int)) ha ?_
     refine zzw (.int .i64 ((k + 1 : Nat) : Int)) zar ?_
     refine zzv (.int .i64 ((k + 1 : Nat) : Int)) ?_; clear ha; intro a ha
     refine zn2 ?_
     replace s := s.tail
     replace s : St W (L) w := s
     have hsb : setB x.id y = false := by unfold setB; simp [ht5, ht6, ht7, ht8, ht9]
     exact ⟨k + 1, (show i - (k + 1) < i - k by omega), (Has.cons ha (by kernel_rfl) (by kernel_rfl) (Has.cons ha (by kernel_rfl) (by kernel_rfl) (Has.cons ha (by kernel_rfl) (by kernel_rfl) (Has.nil ha)))), s, (show k + 1 ≤ i by omega), setR_next hy hp.2 hsb⟩
    rw [hb] at ha; replace hb := ne_of_beq_false hb
    have ht8 := hb
    refine zp ha ?_
    iterate 2 refine zzp ?_
    refine zzv (.bool false) ?_
    refine zzv (.bool false) ?_
    refine zzv (.bool false) ?_; clear ha; intro a ha
    refine zn2 ?_
    refine wp_false ha rfl (by kernel_rfl) ?_
    refine wp_skip ?_
    refine block_normal ?_
    refine then_normal ?_
    refine wp_region_lit ?_
    refine zv (.int .i64 ((k : Nat) : Int)) ha ?_
    refine zzw (.int .i64 ((k + 1 : Nat) : Int)) zar ?_
    refine zzv (.int .i64 ((k + 1 : Nat) : Int)) ?_; clear ha; intro a ha
    refine zn2 ?_
    replace s := s.tail
    replace s : St W (L) w := s
    have hsb : setB x.id y = false := by unfold setB; simp [ht5, ht6, ht7, ht8]
    exact ⟨k + 1, (show i - (k + 1) < i - k by omega), (Has.cons ha (by kernel_rfl) (by kernel_rfl) (Has.cons ha (by kernel_rfl) (by kernel_rfl) (Has.cons ha (by kernel_rfl) (by kernel_rfl) (Has.nil ha)))), s, (show k + 1 ≤ i by omega), setR_next hy hp.2 hsb⟩
   rw [hb] at ha; replace hb := ne_of_beq_false hb
   have ht6 := hb
   refine zp ha ?_
   iterate 11 refine zzp ?_
   refine zzv (.bool false) ?_; clear ha; intro a ha
   refine zn2 ?_
   refine wp_false ha rfl (by kernel_rfl) ?_
   refine wp_skip ?_
   refine block_normal ?_
   refine then_normal ?_
   refine wp_region_lit ?_
   refine zv (.int .i64 ((k : Nat) : Int)) ha ?_
   refine zzw (.int .i64 ((k + 1 : Nat) : Int)) zar ?_
   refine zzv (.int .i64 ((k + 1 : Nat) : Int)) ?_; clear ha; intro a ha
   refine zn2 ?_
   replace s := s.tail
   replace s : St W (L) w := s
   have hsb : setB x.id y = false := by unfold setB; simp [ht5, ht6]
   exact ⟨k + 1, (show i - (k + 1) < i - k by omega), (Has.cons ha (by kernel_rfl) (by kernel_rfl) (Has.cons ha (by kernel_rfl) (by kernel_rfl) (Has.cons ha (by kernel_rfl) (by kernel_rfl) (Has.nil ha)))), s, (show k + 1 ≤ i by omega), setR_next hy hp.2 hsb⟩
  rw [hb] at ha; replace hb := ne_of_beq_false hb
  have ht5 := hb
  refine yp (i := 4) ha hS ?_
  refine yyp (i := 5) hS ?_
  refine yyp (i := 6) hS ?_
  refine yyp (i := 7) hS ?_
  refine yyp (i := 8) hS ?_
  refine yyp (i := 9) hS ?_
  refine yyp (i := 10) hS ?_; clear ha; intro a ha
  refine Head.done (by kernel_rfl) ?_
  clear hS; simp only [List.drop_succ_cons, List.drop_zero]
  refine zp ha ?_
  refine zzv (.bool false) ?_
  refine zzv (.bool false) ?_
  iterate 12 refine zzp ?_
  refine zzv (.bool false) ?_; clear ha; intro a ha
  refine zn2 ?_
  refine wp_false ha rfl (by kernel_rfl) ?_
  refine wp_skip ?_
  refine block_normal ?_
  refine then_normal ?_
  refine wp_region_lit ?_
  refine zv (.int .i64 ((k : Nat) : Int)) ha ?_
  refine zzw (.int .i64 ((k + 1 : Nat) : Int)) zar ?_
  refine zzv (.int .i64 ((k + 1 : Nat) : Int)) ?_; clear ha; intro a ha
  refine zn2 ?_
  replace s := s.tail
  replace s : St W (L) w := s
  have hsb : setB x.id y = false := by unfold setB; simp [ht5]
  exact ⟨k + 1, (show i - (k + 1) < i - k by omega), (Has.cons ha (by kernel_rfl) (by kernel_rfl) (Has.cons ha (by kernel_rfl) (by kernel_rfl) (Has.cons ha (by kernel_rfl) (by kernel_rfl) (Has.nil ha)))), s, (show k + 1 ≤ i by omega), setR_next hy hp.2 hsb⟩
 rw [hb] at ha; replace hb : ¬ (((k : Nat) : Int) < ((i : Nat) : Int)) := of_decide_eq_false hb
 have ht4 := hb
 refine wp_exit ?_
 refine then_exit ?_
 refine then_exit ?_
 refine block_hit ?_
 refine then_normal ?_
 refine zn1 ?_
 refine zv (.bool true) ha ?_; clear ha; intro a ha
 refine zn2 ?_
 refine wp_ret ?_
 refine zzr (v := .bool true) ha ?_
 have hset : setR (l.take i) x.id = false := by have h := hp.2; rwa [show k = i by omega] at h
 refine ⟨?_, s⟩
 congr 2
 clear s ha
 unfold asksR
 rw [hz]
 first | (simp [ht0, ht2, ht3, hset]; done) | (simp_all; done)

set_option maxHeartbeats 4000000 in
theorem ranswers_any (W : World) (L : List Chunk) (w : World) (ad : Addr) (ca : Nat) (l : List Ev) (hr : Knows L (EvsIn (some ad) l)) (hn : l.length ≤ 5000) (i : Nat) (x : Ev) (hx : l[i]? = some x) (s : St W L w) :
  Calls Tryz.prog 25 #[.slice (some ad) l.length ca, .int .i64 ((i : Nat) : Int)] w fun e w' => e = .returned (.bool (answersR (l.take i) x)) ∧ St W L w' := by
 have hil := (List.getElem?_eq_some_iff.1 hx).1
 refine enter_args (l := [.slice (some ad) l.length ca, .int .i64 ((i : Nat) : Int)]) Tryz.func25 rfl rfl (Nat.le_of_ble_eq_true rfl) ?_
 intro a ha; replace ha : Has a 77 [(0, .slice (some ad) l.length ca), (1, .int .i64 ((i : Nat) : Int))] := ha
 refine zn1 ?_
 refine zv (.bool false) ha ?_; clear ha; intro a ha
 refine zn4 ?_
 refine zv (.slice (some ad) l.length ca) ha ?_
 refine zzv (.int .i64 ((i : Nat) : Int)) ?_
 refine zzw (.pointer (some (ad.add (i * 16)))) (run_indexAddr' (kd := .i64) (i := ((i : Nat) : Int)) (n := l.length) (c := ca) i rfl Tryz.underlying22 Tryz.sizeOf37 (by kernel_rfl) (by kernel_rfl) rfl (by first | assumption | omega) _) ?_
 refine zzw (.agg (evv x).toArray) (run_loadAtN (i := i * 16) (evv x) ((hr _ s.sat).1) rfl (by kernel_rfl) Tryz.isAgg37 Tryz.sizeOf37 (fun q_ hq_ => evs_at hx hq_) rfl) ?_; clear ha; intro a ha
 refine zze ha (ex_alloc (evv ⟨0, 0, 0, 0, 0, 0, [], [], [], [], false, [], none, 0, 0, 0, 0, 0⟩) s rfl (Tryz.zeroValue37 _) (by kernel_rfl)) ?_
 clear ha; rintro _ w a ⟨g1, rfl, s⟩ ha
 refine zzd ha (ex_store (of_ := 0) 0 (evv x) s rfl rfl (by kernel_rfl) (by kernel_rfl) (Tryz.sizeOf37 _) rfl (by simp [evv, txv, Value.oneCell']) (Nat.le_of_ble_eq_true rfl)) ?_
 clear ha; rintro w a s ha
 dsimp only [List.set, putAt] at s
 refine zn2 ?_
 refine wp_seq ?_
 refine zn1 ?_
 refine zv (.pointer (some ⟨g1, 1, none⟩)) ha ?_
 refine zzw (.int .i64 x.kind) (zl1 0 1) ?_
 refine zzv (.bool (x.kind != (3 : Int))) ?_; clear ha; intro a ha
 refine zn2 ?_
 refine zzh (x.kind != (3 : Int)) ha ?_ ?_ <;> intro hb
 ·
  rw [hb] at ha; replace hb := zbn hb
  have ht0 := hb
  refine zn1 ?_
  refine zv (.bool true) ha ?_; clear ha; intro a ha
  refine zn2 ?_
  refine zzt ?_
  refine zzr (v := .bool true) ha ?_
  replace s := s.tail
  replace s : St W (L) w := s
  refine ⟨?_, s⟩
  congr 2
  clear s ha
  unfold answersR
  first | (simp [ht0]; done) | (simp_all; done)
 rw [hb] at ha; replace hb := zbq hb
 have ht0 := hb
 refine wp_skip ?_
 refine then_normal ?_
 refine zn1 ?_
 refine zv (.slice (some ad) l.length ca) ha ?_
 refine zzv (.int .i64 ((i : Nat) : Int)) ?_; clear ha; intro a ha
 refine zzc ha (rlast_any W _ w ad ca l (fun w s => hr w s.tail) hn i x hx s) ?_
 rintro _ w ⟨rfl, s⟩
 refine ⟨_, rfl, ?_⟩; clear ha; intro a ha
 refine zv (.int .i64 (lastI (lastR (l.take i) x.id))) ha ?_; clear ha; intro a ha
 refine zn2 ?_
 refine wp_seq ?_
 refine wp_region_head 58 (fun w => Reads w 16 (some ad) l.length (evs l) ∧ BlkIs g1 (evv x) w ∧ True) (by kernel_rfl) (by decide) ?_
 replace s := s.drew; generalize _root_.Go.World.drew _ = w at s ⊢
 have hS : (fun w => Reads w 16 (some ad) l.length (evs l) ∧ BlkIs g1 (evv x) w ∧ True) w := ⟨(hr _ s.sat.tail).1, s.blkIs 0 rfl, trivial⟩
 refine yk (i := 0) (.int .i64 (lastI (lastR (l.take i) x.id))) ha hS ?_
 refine yyk (i := 1) (.bool (decide ((lastI (lastR (l.take i) x.id)) ≥ (0 : Int)))) hS ?_
 refine yyk (i := 2) (.bool (decide ((lastI (lastR (l.take i) x.id)) ≥ (0 : Int)))) hS ?_; clear ha; intro a ha
 rcases Bool.eq_false_or_eq_true (decide ((lastI (lastR (l.take i) x.id)) ≥ (0 : Int))) with hb | hb
 ·
  rw [hb] at ha; replace hb : ((lastI (lastR (l.take i) x.id)) ≥ (0 : Int)) := of_decide_eq_true hb
  have ht1 := hb
  obtain ⟨z, hz⟩ := lastI_some (show ¬ lastI (lastR (l.take i) x.id) < 0 by omega)
  obtain ⟨hzl, hzn⟩ := lastR_l hz
  refine yk (i := 3) (.slice (some ad) l.length ca) ha hS ?_
  refine yyk (i := 4) (.int .i64 (lastI (lastR (l.take i) x.id))) hS ?_
  refine yyv (i := 5) (.pointer (some (ad.add (z.1 * 16)))) (fun w hS => (run_indexAddr' (kd := .i64) (i := (lastI (lastR (l.take i) x.id))) (n := l.length) (c := ca) z.1 rfl Tryz.underlying22 Tryz.sizeOf37 (by kernel_rfl) (by kernel_rfl) (by rw [hz]; rfl) (by first | assumption | omega) _)) hS ?_
  refine yyfa (i := 6) (.pointer (some (ad.add (z.1 * 16 + 1)))) 3 hS ?_
  refine yyla (i := 7) (.int .i64 z.2.kind) (z.1 * 16 + 1) (fun _ hS => hS.1) (by rw [evs_at hzl (by omega)]; rfl) hS ?_
  refine yyk (i := 8) (.bool (z.2.kind == (2 : Int))) hS ?_
  refine yyk (i := 9) (.bool (z.2.kind == (2 : Int))) hS ?_
  refine yyk (i := 10) (.bool (z.2.kind == (2 : Int))) hS ?_; clear ha; intro a ha
  rcases Bool.eq_false_or_eq_true (z.2.kind == (2 : Int)) with hb | hb
  ·
   rw [hb] at ha; replace hb := eq_of_beq hb
   have ht2 := hb
   refine yk (i := 11) (.slice (some ad) l.length ca) ha hS ?_
   refine yyk (i := 12) (.int .i64 (lastI (lastR (l.take i) x.id))) hS ?_
   refine yyv (i := 13) (.pointer (some (ad.add (z.1 * 16)))) (fun w hS => (run_indexAddr' (kd := .i64) (i := (lastI (lastR (l.take i) x.id))) (n := l.length) (c := ca) z.1 rfl Tryz.underlying22 Tryz.sizeOf37 (by kernel_rfl) (by kernel_rfl) (by rw [hz]; rfl) (by first | assumption | omega) _)) hS ?_
   refine yyfa (i := 14) (.pointer (some (ad.add (z.1 * 16 + 2)))) 3 hS ?_
   refine yyla (i := 15) (.int .i64 z.2.node) (z.1 * 16 + 2) (fun _ hS => hS.1) (by rw [evs_at hzl (by omega)]; rfl) hS ?_
   refine yyk (i := 16) (.pointer (some ⟨g1, 2, none⟩)) hS ?_
   refine yyv (i := 17) (.int .i64 x.node) (fun w hS => run_load1 (of_ := 2) hS.2.1 rfl (by kernel_rfl) Tryz.isAgg3 rfl) hS ?_
   refine yyk (i := 18) (.bool (z.2.node == x.node)) hS ?_
   refine yyk (i := 19) (.bool (z.2.node == x.node)) hS ?_
   refine yyk (i := 20) (.bool (z.2.node == x.node)) hS ?_; clear ha; intro a ha
   rcases Bool.eq_false_or_eq_true (z.2.node == x.node) with hb | hb
   ·
    rw [hb] at ha; replace hb := eq_of_beq hb
    have ht3 := hb
    refine yk (i := 21) (.slice (some ad) l.length ca) ha hS ?_
    refine yyk (i := 22) (.int .i64 (lastI (lastR (l.take i) x.id))) hS ?_
    refine yyv (i := 23) (.pointer (some (ad.add (z.1 * 16)))) (fun w hS => (run_indexAddr' (kd := .i64) (i := (lastI (lastR (l.take i) x.id))) (n := l.length) (c := ca) z.1 rfl Tryz.underlying22 Tryz.sizeOf37 (by kernel_rfl) (by kernel_rfl) (by rw [hz]; rfl) (by first | assumption | omega) _)) hS ?_
    refine yyfa (i := 24) (.pointer (some (ad.add (z.1 * 16 + 5)))) 3 hS ?_
    refine yyla (i := 25) (.int .i64 z.2.op) (z.1 * 16 + 5) (fun _ hS => hS.1) (by rw [evs_at hzl (by omega)]; rfl) hS ?_
    refine yyk (i := 26) (.pointer (some ⟨g1, 5, none⟩)) hS ?_
    refine yyv (i := 27) (.int .i64 x.op) (fun w hS => run_load1 (of_ := 5) hS.2.1 rfl (by kernel_rfl) Tryz.isAgg3 rfl) hS ?_
    refine yyk (i := 28) (.bool (z.2.op == x.op)) hS ?_
    refine yyk (i := 29) (.bool (z.2.op == x.op)) hS ?_
    refine yyk (i := 30) (.bool (z.2.op == x.op)) hS ?_; clear ha; intro a ha
    rcases Bool.eq_false_or_eq_true (z.2.op == x.op) with hb | hb
    ·
     rw [hb] at ha; replace hb := eq_of_beq hb
     have ht4 := hb
     refine yk (i := 31) (.slice (some ad) l.length ca) ha hS ?_
     refine yyk (i := 32) (.int .i64 (lastI (lastR (l.take i) x.id))) hS ?_
     refine yyv (i := 33) (.pointer (some (ad.add (z.1 * 16)))) (fun w hS => (run_indexAddr' (kd := .i64) (i := (lastI (lastR (l.take i) x.id))) (n := l.length) (c := ca) z.1 rfl Tryz.underlying22 Tryz.sizeOf37 (by kernel_rfl) (by kernel_rfl) (by rw [hz]; rfl) (by first | assumption | omega) _)) hS ?_
     refine yyfa (i := 34) (.pointer (some (ad.add (z.1 * 16 + 6)))) 9 hS ?_
     refine yyla (i := 35) (.string (str z.2.key)) (z.1 * 16 + 6) (fun _ hS => hS.1) (by rw [evs_at hzl (by omega)]; rfl) hS ?_
     refine yyk (i := 36) (.pointer (some ⟨g1, 6, none⟩)) hS ?_
     refine yyv (i := 37) (.string (str x.key)) (fun w hS => run_load1 (of_ := 6) hS.2.1 rfl (by kernel_rfl) Tryz.isAgg9 rfl) hS ?_
     refine yyv (i := 38) (.bool (decide (z.2.key = x.key))) (fun w hS => (run_seql (p := z.2.key) (q := x.key) rfl (by kernel_rfl) (by kernel_rfl) _)) hS ?_
     refine yyk (i := 39) (.bool (decide (z.2.key = x.key))) hS ?_
     refine yyk (i := 40) (.bool (decide (z.2.key = x.key))) hS ?_; clear ha; intro a ha
     rcases Bool.eq_false_or_eq_true (decide (z.2.key = x.key)) with hb | hb
     ·
      rw [hb] at ha; replace hb : (z.2.key = x.key) := of_decide_eq_true hb
      have ht5 := hb
      refine yk (i := 41) (.slice (some ad) l.length ca) ha hS ?_
      refine yyk (i := 42) (.int .i64 (lastI (lastR (l.take i) x.id))) hS ?_
      refine yyv (i := 43) (.pointer (some (ad.add (z.1 * 16)))) (fun w hS => (run_indexAddr' (kd := .i64) (i := (lastI (lastR (l.take i) x.id))) (n := l.length) (c := ca) z.1 rfl Tryz.underlying22 Tryz.sizeOf37 (by kernel_rfl) (by kernel_rfl) (by rw [hz]; rfl) (by first | assumption | omega) _)) hS ?_
      refine yyfa (i := 44) (.pointer (some (ad.add (z.1 * 16 + 8)))) 32 hS ?_
      refine yyv (i := 45) (.agg #[.string (str z.2.frm), .string (str z.2.to)]) (fun w hS => run_loadAtN (i := z.1 * 16 + 8) [.string (str z.2.frm), .string (str z.2.to)] hS.1 rfl (by kernel_rfl) Tryz.isAgg32 Tryz.sizeOf32 (fun q_ hq_ => by rw [Nat.add_assoc, evs_at hzl (by omega)]; match q_, hq_ with | 0, _ => rfl | 1, _ => rfl) rfl) hS ?_
      refine yyk (i := 46) (.pointer (some ⟨g1, 8, none⟩)) hS ?_
      refine yyv (i := 47) (.agg #[.string (str x.frm), .string (str x.to)]) (fun w hS => run_loadN (of_ := 8) [.string (str x.frm), .string (str x.to)] hS.2.1 rfl (by kernel_rfl) Tryz.isAgg32 Tryz.sizeOf32 rfl (Nat.le_of_ble_eq_true rfl)) hS ?_
      refine yyv (i := 48) (.bool (decide ((z.2.frm, z.2.to) = (x.frm, x.to)))) (fun w hS => (run_spaneq rfl (by kernel_rfl) (by kernel_rfl) _)) hS ?_
      refine yyk (i := 49) (.bool (decide ((z.2.frm, z.2.to) = (x.frm, x.to)))) hS ?_
      refine yyk (i := 50) (.bool (decide ((z.2.frm, z.2.to) = (x.frm, x.to)))) hS ?_; clear ha; intro a ha
      rcases Bool.eq_false_or_eq_true (decide ((z.2.frm, z.2.to) = (x.frm, x.to))) with hb | hb
      ·
       rw [hb] at ha; replace hb : ((z.2.frm, z.2.to) = (x.frm, x.to)) := of_decide_eq_true hb
       have ht6 := hb
       refine yk (i := 51) (.pointer (some ⟨g1, 4, none⟩)) ha hS ?_
       refine yyv (i := 52) (.int .i64 x.epoch) (fun w hS => run_load1 (of_ := 4) hS.2.1 rfl (by kernel_rfl) Tryz.isAgg3 rfl) hS ?_
       refine yyk (i := 53) (.slice (some ad) l.length ca) hS ?_
       refine yyk (i := 54) (.int .i64 (lastI (lastR (l.take i) x.id))) hS ?_
       refine yyv (i := 55) (.pointer (some (ad.add (z.1 * 16)))) (fun w hS => (run_indexAddr' (kd := .i64) (i := (lastI (lastR (l.take i) x.id))) (n := l.length) (c := ca) z.1 rfl Tryz.underlying22 Tryz.sizeOf37 (by kernel_rfl) (by kernel_rfl) (by rw [hz]; rfl) (by first | assumption | omega) _)) hS ?_
       refine yyfa (i := 56) (.pointer (some (ad.add (z.1 * 16 + 4)))) 3 hS ?_
       refine yyla (i := 57) (.int .i64 z.2.epoch) (z.1 * 16 + 4) (fun _ hS => hS.1) (by rw [evs_at hzl (by omega)]; rfl) hS ?_; clear ha; intro a ha
       refine Head.done (by kernel_rfl) ?_
       clear hS; simp only [List.drop_succ_cons, List.drop_zero]
       refine zv (.bool (decide (x.epoch ≥ z.2.epoch))) ha ?_
       refine zzv (.bool (decide (x.epoch ≥ z.2.epoch))) ?_
       refine zzv (.bool (decide (x.epoch ≥ z.2.epoch))) ?_; clear ha; intro a ha
       refine zn2 ?_
       refine wp_ret ?_
       refine zzr (v := .bool (decide (x.epoch ≥ z.2.epoch))) ha ?_
       replace s := s.tail
       replace s : St W (L) w := s
       refine ⟨?_, s⟩
       congr 2
       clear s ha
       unfold answersR
       rw [hz]
       first | (simp [ht0, ht2, ht3, ht4, ht5, ht6]; done) | (simp_all; done)
      rw [hb] at ha; replace hb : ¬ ((z.2.frm, z.2.to) = (x.frm, x.to)) := of_decide_eq_false hb
      have ht6 := hb
      refine yp (i := 51) ha hS ?_
      refine yyp (i := 52) hS ?_
      refine yyp (i := 53) hS ?_
      refine yyp (i := 54) hS ?_
      refine yyp (i := 55) hS ?_
      refine yyp (i := 56) hS ?_
      refine yyp (i := 57) hS ?_; clear ha; intro a ha
      refine Head.done (by kernel_rfl) ?_
      clear hS; simp only [List.drop_succ_cons, List.drop_zero]
      refine zp ha ?_
      refine zzv (.bool false) ?_
      refine zzv (.bool false) ?_; clear ha; intro a ha
      refine zn2 ?_
      refine wp_ret ?_
      refine zzr (v := .bool false) ha ?_
      replace s := s.tail
      replace s : St W (L) w := s
      refine ⟨?_, s⟩
      congr 2
      clear s ha
      unfold answersR
      rw [hz]
      first | (simp [ht0, ht2, ht3, ht4, ht5, ht6]; done) | (simp_all; done)
     rw [hb] at ha; replace hb : ¬ (z.2.key = x.key) := of_decide_eq_false hb
     have ht5 := hb
     refine yp (i := 41) ha hS ?_
     refine yyp (i := 42) hS ?_
     refine yyp (i := 43) hS ?_
     refine yyp (i := 44) hS ?_
     refine yyp (i := 45) hS ?_
     refine yyp (i := 46) hS ?_
     refine yyp (i := 47) hS ?_
     refine yyp (i := 48) hS ?_
     refine yyk (i := 49) (.bool false) hS ?_
     refine yyk (i := 50) (.bool false) hS ?_
     refine yyp (i := 51) hS ?_
     refine yyp (i := 52) hS ?_
     refine yyp (i := 53) hS ?_
     refine yyp (i := 54) hS ?_
     refine yyp (i := 55) hS ?_
     refine yyp (i := 56) hS ?_
     refine yyp (i := 57) hS ?_; clear ha; intro a ha
     refine Head.done (by kernel_rfl) ?_
     clear hS; simp only [List.drop_succ_cons, List.drop_zero]
     refine zp ha ?_
     refine zzv (.bool false) ?_
     refine zzv (.bool false) ?_; clear ha; intro a ha
     refine zn2 ?_
     refine wp_ret ?_
     refine zzr (v := .bool false) ha ?_
     replace s := s.tail
     replace s : St W (L) w := s
     refine ⟨?_, s⟩
     congr 2
     clear s ha
     unfold answersR
     rw [hz]
     first | (simp [ht0, ht2, ht3, ht4, ht5]; done) | (simp_all; done)
    rw [hb] at ha; replace hb := ne_of_beq_false hb
    have ht4 := hb
    refine yp (i := 31) ha hS ?_
    refine yyp (i := 32) hS ?_
    refine yyp (i := 33) hS ?_
    refine yyp (i := 34) hS ?_
    refine yyp (i := 35) hS ?_
    refine yyp (i := 36) hS ?_
    refine yyp (i := 37) hS ?_
    refine yyp (i := 38) hS ?_
    refine yyk (i := 39) (.bool false) hS ?_
    refine yyk (i := 40) (.bool false) hS ?_
    refine yyp (i := 41) hS ?_
    refine yyp (i := 42) hS ?_
    refine yyp (i := 43) hS ?_
    refine yyp (i := 44) hS ?_
    refine yyp (i := 45) hS ?_
    refine yyp (i := 46) hS ?_
    refine yyp (i := 47) hS ?_
    refine yyp (i := 48) hS ?_
    refine yyk (i := 49) (.bool false) hS ?_
    refine yyk (i := 50) (.bool false) hS ?_
    refine yyp (i := 51) hS ?_
    refine yyp (i := 52) hS ?_
    refine yyp (i := 53) hS ?_
    refine yyp (i := 54) hS ?_
    refine yyp (i := 55) hS ?_
    refine yyp (i := 56) hS ?_
    refine yyp (i := 57) hS ?_; clear ha; intro a ha
    refine Head.done (by kernel_rfl) ?_
    clear hS; simp only [List.drop_succ_cons, List.drop_zero]
    refine zp ha ?_
    refine zzv (.bool false) ?_
    refine zzv (.bool false) ?_; clear ha; intro a ha
    refine zn2 ?_
    refine wp_ret ?_
    refine zzr (v := .bool false) ha ?_
    replace s := s.tail
    replace s : St W (L) w := s
    refine ⟨?_, s⟩
    congr 2
    clear s ha
    unfold answersR
    rw [hz]
    first | (simp [ht0, ht2, ht3, ht4]; done) | (simp_all; done)
   rw [hb] at ha; replace hb := ne_of_beq_false hb
   have ht3 := hb
   refine yp (i := 21) ha hS ?_
   refine yyp (i := 22) hS ?_
   refine yyp (i := 23) hS ?_
   refine yyp (i := 24) hS ?_
   refine yyp (i := 25) hS ?_
   refine yyp (i := 26) hS ?_
   refine yyp (i := 27) hS ?_
   refine yyp (i := 28) hS ?_
   refine yyk (i := 29) (.bool false) hS ?_
   refine yyk (i := 30) (.bool false) hS ?_
   refine yyp (i := 31) hS ?_
   refine yyp (i := 32) hS ?_
   refine yyp (i := 33) hS ?_
   refine yyp (i := 34) hS ?_
   refine yyp (i := 35) hS ?_
   refine yyp (i := 36) hS ?_
   refine yyp (i := 37) hS ?_
   refine yyp (i := 38) hS ?_
   refine yyk (i := 39) (.bool false) hS ?_
   refine yyk (i := 40) (.bool false) hS ?_
   refine yyp (i := 41) hS ?_
   refine yyp (i := 42) hS ?_
   refine yyp (i := 43) hS ?_
   refine yyp (i := 44) hS ?_
   refine yyp (i := 45) hS ?_
   refine yyp (i := 46) hS ?_
   refine yyp (i := 47) hS ?_
   refine yyp (i := 48) hS ?_
   refine yyk (i := 49) (.bool false) hS ?_
   refine yyk (i := 50) (.bool false) hS ?_
   refine yyp (i := 51) hS ?_
   refine yyp (i := 52) hS ?_
   refine yyp (i := 53) hS ?_
   refine yyp (i := 54) hS ?_
   refine yyp (i := 55) hS ?_
   refine yyp (i := 56) hS ?_
   refine yyp (i := 57) hS ?_; clear ha; intro a ha
   refine Head.done (by kernel_rfl) ?_
   clear hS; simp only [List.drop_succ_cons, List.drop_zero]
   refine zp ha ?_
   refine zzv (.bool false) ?_
   refine zzv (.bool false) ?_; clear ha; intro a ha
   refine zn2 ?_
   refine wp_ret ?_
   refine zzr (v := .bool false) ha ?_
   replace s := s.tail
   replace s : St W (L) w := s
   refine ⟨?_, s⟩
   congr 2
   clear s ha
   unfold answersR
   rw [hz]
   first | (simp [ht0, ht2, ht3]; done) | (simp_all; done)
  rw [hb] at ha; replace hb := ne_of_beq_false hb
  have ht2 := hb
  refine yp (i := 11) ha hS ?_
  refine yyp (i := 12) hS ?_
  refine yyp (i := 13) hS ?_
  refine yyp (i := 14) hS ?_
  refine yyp (i := 15) hS ?_
  refine yyp (i := 16) hS ?_
  refine yyp (i := 17) hS ?_
  refine yyp (i := 18) hS ?_
  refine yyk (i := 19) (.bool false) hS ?_
  refine yyk (i := 20) (.bool false) hS ?_
  refine yyp (i := 21) hS ?_
  refine yyp (i := 22) hS ?_
  refine yyp (i := 23) hS ?_
  refine yyp (i := 24) hS ?_
  refine yyp (i := 25) hS ?_
  refine yyp (i := 26) hS ?_
  refine yyp (i := 27) hS ?_
  refine yyp (i := 28) hS ?_
  refine yyk (i := 29) (.bool false) hS ?_
  refine yyk (i := 30) (.bool false) hS ?_
  refine yyp (i := 31) hS ?_
  refine yyp (i := 32) hS ?_
  refine yyp (i := 33) hS ?_
  refine yyp (i := 34) hS ?_
  refine yyp (i := 35) hS ?_
  refine yyp (i := 36) hS ?_
  refine yyp (i := 37) hS ?_
  refine yyp (i := 38) hS ?_
  refine yyk (i := 39) (.bool false) hS ?_
  refine yyk (i := 40) (.bool false) hS ?_
  refine yyp (i := 41) hS ?_
  refine yyp (i := 42) hS ?_
  refine yyp (i := 43) hS ?_
  refine yyp (i := 44) hS ?_
  refine yyp (i := 45) hS ?_
  refine yyp (i := 46) hS ?_
  refine yyp (i := 47) hS ?_
  refine yyp (i := 48) hS ?_
  refine yyk (i := 49) (.bool false) hS ?_
  refine yyk (i := 50) (.bool false) hS ?_
  refine yyp (i := 51) hS ?_
  refine yyp (i := 52) hS ?_
  refine yyp (i := 53) hS ?_
  refine yyp (i := 54) hS ?_
  refine yyp (i := 55) hS ?_
  refine yyp (i := 56) hS ?_
  refine yyp (i := 57) hS ?_; clear ha; intro a ha
  refine Head.done (by kernel_rfl) ?_
  clear hS; simp only [List.drop_succ_cons, List.drop_zero]
  refine zp ha ?_
  refine zzv (.bool false) ?_
  refine zzv (.bool false) ?_; clear ha; intro a ha
  refine zn2 ?_
  refine wp_ret ?_
  refine zzr (v := .bool false) ha ?_
  replace s := s.tail
  replace s : St W (L) w := s
  refine ⟨?_, s⟩
  congr 2
  clear s ha
  unfold answersR
  rw [hz]
  first | (simp [ht0, ht2]; done) | (simp_all; done)
 rw [hb] at ha; replace hb : ¬ ((lastI (lastR (l.take i) x.id)) ≥ (0 : Int)) := of_decide_eq_false hb
 have ht1 := hb
 have hzn := lastI_none (show lastI (lastR (l.take i) x.id) < 0 by omega)
 refine yp (i := 3) ha hS ?_
 refine yyp (i := 4) hS ?_
 refine yyp (i := 5) hS ?_
 refine yyp (i := 6) hS ?_
 refine yyp (i := 7) hS ?_
 refine yyp (i := 8) hS ?_
 refine yyk (i := 9) (.bool false) hS ?_
 refine yyk (i := 10) (.bool false) hS ?_
 refine yyp (i := 11) hS ?_
 refine yyp (i := 12) hS ?_
 refine yyp (i := 13) hS ?_
 refine yyp (i := 14) hS ?_
 refine yyp (i := 15) hS ?_
 refine yyp (i := 16) hS ?_
 refine yyp (i := 17) hS ?_
 refine yyp (i := 18) hS ?_
 refine yyk (i := 19) (.bool false) hS ?_
 refine yyk (i := 20) (.bool false) hS ?_
 refine yyp (i := 21) hS ?_
 refine yyp (i := 22) hS ?_
 refine yyp (i := 23) hS ?_
 refine yyp (i := 24) hS ?_
 refine yyp (i := 25) hS ?_
 refine yyp (i := 26) hS ?_
 refine yyp (i := 27) hS ?_
 refine yyp (i := 28) hS ?_
 refine yyk (i := 29) (.bool false) hS ?_
 refine yyk (i := 30) (.bool false) hS ?_
 refine yyp (i := 31) hS ?_
 refine yyp (i := 32) hS ?_
 refine yyp (i := 33) hS ?_
 refine yyp (i := 34) hS ?_
 refine yyp (i := 35) hS ?_
 refine yyp (i := 36) hS ?_
 refine yyp (i := 37) hS ?_
 refine yyp (i := 38) hS ?_
 refine yyk (i := 39) (.bool false) hS ?_
 refine yyk (i := 40) (.bool false) hS ?_
 refine yyp (i := 41) hS ?_
 refine yyp (i := 42) hS ?_
 refine yyp (i := 43) hS ?_
 refine yyp (i := 44) hS ?_
 refine yyp (i := 45) hS ?_
 refine yyp (i := 46) hS ?_
 refine yyp (i := 47) hS ?_
 refine yyp (i := 48) hS ?_
 refine yyk (i := 49) (.bool false) hS ?_
 refine yyk (i := 50) (.bool false) hS ?_
 refine yyp (i := 51) hS ?_
 refine yyp (i := 52) hS ?_
 refine yyp (i := 53) hS ?_
 refine yyp (i := 54) hS ?_
 refine yyp (i := 55) hS ?_
 refine yyp (i := 56) hS ?_
 refine yyp (i := 57) hS ?_; clear ha; intro a ha
 refine Head.done (by kernel_rfl) ?_
 clear hS; simp only [List.drop_succ_cons, List.drop_zero]
 refine zp ha ?_
 refine zzv (.bool false) ?_
 refine zzv (.bool false) ?_; clear ha; intro a ha
 refine zn2 ?_
 refine wp_ret ?_
 refine zzr (v := .bool false) ha ?_
 replace s := s.tail
 replace s : St W (L) w := s
 refine ⟨?_, s⟩
 congr 2
 clear s ha
 unfold answersR
 rw [hzn]
 first | (simp [ht0]; done) | (simp_all; done)

set_option maxHeartbeats 4000000 in
theorem ragrees_any (W : World) (L : List Chunk) (w : World) (ad : Addr) (ca : Nat) (l : List Ev) (hr : Knows L (EvsIn (some ad) l)) (hn : l.length ≤ 5000) (i : Nat) (x : Ev) (hx : l[i]? = some x) (s : St W L w) :
  Calls Tryz.prog 26 #[.slice (some ad) l.length ca, .int .i64 ((i : Nat) : Int)] w fun e w' => e = .returned (.bool (agreesR (l.take i) x)) ∧ St W L w' := by
 have hil := (List.getElem?_eq_some_iff.1 hx).1
 refine enter_args (l := [.slice (some ad) l.length ca, .int .i64 ((i : Nat) : Int)]) Tryz.func26 rfl rfl (Nat.le_of_ble_eq_true rfl) ?_
 intro a ha; replace ha : Has a 63 [(0, .slice (some ad) l.length ca), (1, .int .i64 ((i : Nat) : Int))] := ha
 refine zn1 ?_
 refine zv (.bool false) ha ?_; clear ha; intro a ha
 refine zn4 ?_
 refine zv (.slice (some ad) l.length ca) ha ?_
 refine zzv (.int .i64 ((i : Nat) : Int)) ?_
 refine zzw (.pointer (some (ad.add (i * 16)))) (run_indexAddr' (kd := .i64) (i := ((i : Nat) : Int)) (n := l.length) (c := ca) i rfl Tryz.underlying22 Tryz.sizeOf37 (by kernel_rfl) (by kernel_rfl) rfl (by first | assumption | omega) _) ?_
 refine zzw (.agg (evv x).toArray) (run_loadAtN (i := i * 16) (evv x) ((hr _ s.sat).1) rfl (by kernel_rfl) Tryz.isAgg37 Tryz.sizeOf37 (fun q_ hq_ => evs_at hx hq_) rfl) ?_; clear ha; intro a ha
 refine zze ha (ex_alloc (evv ⟨0, 0, 0, 0, 0, 0, [], [], [], [], false, [], none, 0, 0, 0, 0, 0⟩) s rfl (Tryz.zeroValue37 _) (by kernel_rfl)) ?_
 clear ha; rintro _ w a ⟨g1, rfl, s⟩ ha
 refine zzd ha (ex_store (of_ := 0) 0 (evv x) s rfl rfl (by kernel_rfl) (by kernel_rfl) (Tryz.sizeOf37 _) rfl (by simp [evv, txv, Value.oneCell']) (Nat.le_of_ble_eq_true rfl)) ?_
 clear ha; rintro w a s ha
 dsimp only [List.set, putAt] at s
 refine zn2 ?_
 refine wp_seq ?_
 refine zn1 ?_
 refine zv (.int .i64 0) ha ?_; clear ha; intro a ha
 refine zn2 ?_
 refine wp_block ?_
 refine wp_loopG (G := Nat) (fun k a w => Has a 63 [(0, .slice (some ad) l.length ca), (1, .int .i64 ((i : Nat) : Int)), (5, .pointer (some ⟨g1, 0, none⟩)), (6, .int .i64 ((k : Nat) : Int))] ∧ St W (.blk g1 (evv x) 37 :: L) w ∧ (k ≤ i ∧ agreesR (l.take k) x = true)) (fun k => i - k) 0 ?_ ?_
 ·
  exact ⟨(Has.cons ha (by kernel_rfl) (by kernel_rfl) (Has.cons ha (by kernel_rfl) (by kernel_rfl) (Has.cons ha (by kernel_rfl) (by kernel_rfl) (Has.cons ha (by kernel_rfl) (by kernel_rfl) (Has.nil ha))))), s, ⟨Nat.zero_le _, rfl⟩⟩
 clear ha s; rintro k a w ⟨ha, s, hp⟩
 refine wp_seq ?_
 refine zn1 ?_
 refine zv (.int .i64 ((k : Nat) : Int)) ha ?_
 refine zzv (.int .i64 ((i : Nat) : Int)) ?_
 refine zzv (.bool (decide (((k : Nat) : Int) < ((i : Nat) : Int)))) ?_; clear ha; intro a ha
 refine zn2 ?_
 refine zzh (decide (((k : Nat) : Int) < ((i : Nat) : Int))) ha ?_ ?_ <;> intro hb
 ·
  rw [hb] at ha; replace hb : (((k : Nat) : Int) < ((i : Nat) : Int)) := of_decide_eq_true hb
  have ht0 := hb
  obtain ⟨y, hy⟩ : ∃ y, l[k]? = some y := ⟨_, List.getElem?_eq_getElem (by omega)⟩
  refine wp_skip ?_
  refine then_normal ?_
  refine wp_seq ?_
  refine wp_block ?_
  refine zn1 ?_
  refine zv (.slice (some ad) l.length ca) ha ?_
  refine zzv (.int .i64 ((k : Nat) : Int)) ?_
  refine zzw (.pointer (some (ad.add (k * 16)))) (run_indexAddr' (kd := .i64) (i := ((k : Nat) : Int)) (n := l.length) (c := ca) k rfl Tryz.underlying22 Tryz.sizeOf37 (by kernel_rfl) (by kernel_rfl) rfl (by first | assumption | omega) _) ?_
  refine zzw (.agg (evv y).toArray) (run_loadAtN (i := k * 16) (evv y) ((hr _ s.sat.tail).1) rfl (by kernel_rfl) Tryz.isAgg37 Tryz.sizeOf37 (fun q_ hq_ => evs_at hy hq_) rfl) ?_; clear ha; intro a ha
  refine zze ha (ex_alloc (evv ⟨0, 0, 0, 0, 0, 0, [], [], [], [], false, [], none, 0, 0, 0, 0, 0⟩) s rfl (Tryz.zeroValue37 _) (by kernel_rfl)) ?_
  clear ha; rintro _ w a ⟨g2, rfl, s⟩ ha
  refine zzd ha (ex_store (of_ := 0) 0 (evv y) s rfl rfl (by kernel_rfl) (by kernel_rfl) (Tryz.sizeOf37 _) rfl (by simp [evv, txv, Value.oneCell']) (Nat.le_of_ble_eq_true rfl)) ?_
  clear ha; rintro w a s ha
  dsimp only [List.set, putAt] at s
  refine zn2 ?_
  refine wp_seq ?_
  refine zn1 ?_
  refine zw (.agg (evv y).toArray) ha (zln 0 0) ?_; clear ha; intro a ha
  refine zzc ha (rhas_any W _ w y s) ?_
  rintro _ w ⟨rfl, s⟩
  refine ⟨_, rfl, ?_⟩; clear ha; intro a ha
  refine zv (.bool (!(hasB y))) ha ?_
  refine zzv (.bool (!(hasB y))) ?_; clear ha; intro a ha
  rcases Bool.eq_false_or_eq_true (!(hasB y)) with hb | hb
  ·
   rw [hb] at ha; skip
   have ht1 : hasB y = false := by simpa using hb
   refine zp ha ?_
   iterate 4 refine zzp ?_
   refine zzv (.bool true) ?_; clear ha; intro a ha
   refine zn2 ?_
   refine wp_true ha rfl (by kernel_rfl) ?_
   refine wp_exit ?_
   refine then_exit ?_
   refine block_hit ?_
   refine then_normal ?_
   refine wp_region_lit ?_
   refine zv (.int .i64 ((k : Nat) : Int)) ha ?_
   refine zzw (.int .i64 ((k + 1 : Nat) : Int)) zar ?_
   refine zzv (.int .i64 ((k + 1 : Nat) : Int)) ?_; clear ha; intro a ha
   refine zn2 ?_
   replace s := s.at_ (j := 1) rfl
   replace s := s.k1_1
   have hcl : (ofB x.id y && clash x y) = false := by unfold ofB clash; first | (simp [ht1]; done) | (simp_all; done)
   exact ⟨k + 1, (show i - (k + 1) < i - k by omega), (Has.cons ha (by kernel_rfl) (by kernel_rfl) (Has.cons ha (by kernel_rfl) (by kernel_rfl) (Has.cons ha (by kernel_rfl) (by kernel_rfl) (Has.cons ha (by kernel_rfl) (by kernel_rfl) (Has.nil ha))))), s, (show k + 1 ≤ i by omega), agreesR_next hy hp.2 hcl⟩
  rw [hb] at ha; skip
  have ht1 : hasB y = true := by simpa using hb
  refine zv (.pointer (some ⟨g2, 3, none⟩)) ha ?_
  refine zzw (.int .i64 y.id) (zl1 0 3) ?_
  refine zzv (.pointer (some ⟨g1, 3, none⟩)) ?_
  refine zzw (.int .i64 x.id) (zl1 1 3) ?_
  refine zzv (.bool (y.id != x.id)) ?_
  refine zzv (.bool (y.id != x.id)) ?_; clear ha; intro a ha
  refine zn2 ?_
  refine zzh (y.id != x.id) ha ?_ ?_ <;> intro hb
  ·
   rw [hb] at ha; replace hb := zbn hb
   have ht2 := hb
   refine wp_exit ?_
   refine then_exit ?_
   refine block_hit ?_
   refine then_normal ?_
   refine wp_region_lit ?_
   refine zv (.int .i64 ((k : Nat) : Int)) ha ?_
   refine zzw (.int .i64 ((k + 1 : Nat) : Int)) zar ?_
   refine zzv (.int .i64 ((k + 1 : Nat) : Int)) ?_; clear ha; intro a ha
   refine zn2 ?_
   replace s := s.at_ (j := 1) rfl
   replace s := s.k1_1
   have hcl : (ofB x.id y && clash x y) = false := by unfold ofB clash; first | (simp [ht1, ht2]; done) | (simp_all; done)
   exact ⟨k + 1, (show i - (k + 1) < i - k by omega), (Has.cons ha (by kernel_rfl) (by kernel_rfl) (Has.cons ha (by kernel_rfl) (by kernel_rfl) (Has.cons ha (by kernel_rfl) (by kernel_rfl) (Has.cons ha (by kernel_rfl) (by kernel_rfl) (Has.nil ha))))), s, (show k + 1 ≤ i by omega), agreesR_next hy hp.2 hcl⟩
  rw [hb] at ha; replace hb := zbq hb
  have ht2 := hb
  refine wp_skip ?_
  refine then_normal ?_
  refine zn1 ?_
  refine zw (.agg (evv x).toArray) ha (zln 1 0) ?_; clear ha; intro a ha
  refine zzc ha (rcom_any W _ w x s) ?_
  rintro _ w ⟨rfl, s⟩
  refine ⟨_, rfl, ?_⟩; clear ha; intro a ha
  refine zv (.bool (comB x)) ha ?_; clear ha; intro a ha
  rcases Bool.eq_false_or_eq_true (comB x) with hb | hb
  ·
   rw [hb] at ha; skip
   have ht3 := hb
   refine zw (.agg (evv y).toArray) ha (zln 0 0) ?_; clear ha; intro a ha
   refine zzc ha (rabr_any W _ w y s) ?_
   rintro _ w ⟨rfl, s⟩
   refine ⟨_, rfl, ?_⟩; clear ha; intro a ha
   refine zv (.bool (abrB y)) ha ?_; clear ha; intro a ha
   rcases Bool.eq_false_or_eq_true (abrB y) with hb | hb
   ·
    rw [hb] at ha; skip
    have ht4 := hb
    refine zp ha ?_
    iterate 15 refine zzp ?_
    refine zzv (.bool true) ?_
    refine zzv (.bool true) ?_
    refine zzv (.bool true) ?_
    iterate 6 refine zzp ?_
    refine zzv (.bool true) ?_; clear ha; intro a ha
    refine zn2 ?_
    refine wp_true ha rfl (by kernel_rfl) ?_
    refine zn1 ?_
    refine zv (.bool false) ha ?_; clear ha; intro a ha
    refine zn2 ?_
    refine wp_ret ?_
    refine block_ret ?_
    refine then_ret ?_
    refine then_ret ?_
    refine block_ret ?_
    refine then_ret ?_
    refine zzr (v := .bool false) ha ?_
    replace s := s.tail.tail
    replace s : St W (L) w := s
    have hcl : (ofB x.id y && clash x y) = true := by unfold ofB clash; first | (simp [ht1, ht2, ht3, ht4]; done) | (simp_all; done)
    refine ⟨?_, s⟩
    rw [agreesR_in (by omega) hy hcl]
   rw [hb] at ha; skip
   have ht4 := hb
   refine zw (.agg (evv y).toArray) ha (zln 0 0) ?_; clear ha; intro a ha
   refine zzc ha (rcom_any W _ w y s) ?_
   rintro _ w ⟨rfl, s⟩
   refine ⟨_, rfl, ?_⟩; clear ha; intro a ha
   refine zv (.bool (comB y)) ha ?_; clear ha; intro a ha
   rcases Bool.eq_false_or_eq_true (comB y) with hb | hb
   ·
    rw [hb] at ha; skip
    have ht5 := hb
    refine zv (.pointer (some ⟨g1, 4, none⟩)) ha ?_
    refine zzw (.int .i64 x.epoch) (zl1 1 4) ?_
    refine zzv (.pointer (some ⟨g2, 4, none⟩)) ?_
    refine zzw (.int .i64 y.epoch) (zl1 0 4) ?_
    refine zzv (.bool (x.epoch != y.epoch)) ?_
    refine zzv (.bool (x.epoch != y.epoch)) ?_; clear ha; intro a ha
    rcases Bool.eq_false_or_eq_true (x.epoch != y.epoch) with hb | hb
    ·
     rw [hb] at ha; replace hb := zbn hb
     have ht6 := hb
     refine zp ha ?_
     iterate 4 refine zzp ?_
     refine zzv (.bool true) ?_
     refine zzv (.bool true) ?_
     refine zzv (.bool true) ?_
     refine zzv (.bool true) ?_
     refine zzv (.bool true) ?_
     iterate 6 refine zzp ?_
     refine zzv (.bool true) ?_; clear ha; intro a ha
     refine zn2 ?_
     refine wp_true ha rfl (by kernel_rfl) ?_
     refine zn1 ?_
     refine zv (.bool false) ha ?_; clear ha; intro a ha
     refine zn2 ?_
     refine wp_ret ?_
     refine block_ret ?_
     refine then_ret ?_
     refine then_ret ?_
     refine block_ret ?_
     refine then_ret ?_
     refine zzr (v := .bool false) ha ?_
     replace s := s.tail.tail
     replace s : St W (L) w := s
     have hcl : (ofB x.id y && clash x y) = true := by unfold ofB clash; first | (simp [ht1, ht2, ht3, ht4, ht5, ht6]; done) | (simp_all; done)
     refine ⟨?_, s⟩
     rw [agreesR_in (by omega) hy hcl]
    rw [hb] at ha; replace hb := zbq hb
    have ht6 := hb
    refine zv (.pointer (some ⟨g1, 12, none⟩)) ha ?_
    refine zzw (.agg #[.int .i64 x.wall, .int .i64 x.logic]) (zln 1 12) ?_
    refine zzv (.pointer (some ⟨g2, 12, none⟩)) ?_
    refine zzw (.agg #[.int .i64 y.wall, .int .i64 y.logic]) (zln 0 12) ?_
    refine zzw (.bool (!(decide ((x.wall, x.logic) = (y.wall, y.logic))))) (run_stampne rfl (by kernel_rfl) (by kernel_rfl) _) ?_
    refine zzv (.bool (!(decide ((x.wall, x.logic) = (y.wall, y.logic))))) ?_
    refine zzv (.bool (!(decide ((x.wall, x.logic) = (y.wall, y.logic))))) ?_
    refine zzv (.bool (!(decide ((x.wall, x.logic) = (y.wall, y.logic))))) ?_
    refine zzv (.bool (!(decide ((x.wall, x.logic) = (y.wall, y.logic))))) ?_
    refine zzv (.bool (!(decide ((x.wall, x.logic) = (y.wall, y.logic))))) ?_; clear ha; intro a ha
    rcases Bool.eq_false_or_eq_true (!(decide ((x.wall, x.logic) = (y.wall, y.logic)))) with hb | hb
    ·
     rw [hb] at ha; skip
     have ht7 := hb
     refine zp ha ?_
     iterate 5 refine zzp ?_
     refine zzv (.bool true) ?_; clear ha; intro a ha
     refine zn2 ?_
     refine wp_true ha rfl (by kernel_rfl) ?_
     refine zn1 ?_
     refine zv (.bool false) ha ?_; clear ha; intro a ha
     refine zn2 ?_
     refine wp_ret ?_
     refine block_ret ?_
     refine then_ret ?_
     refine then_ret ?_
     refine block_ret ?_
     refine then_ret ?_
     refine zzr (v := .bool false) ha ?_
     replace s := s.tail.tail
     replace s : St W (L) w := s
     have hcl : (ofB x.id y && clash x y) = true := by unfold ofB clash; first | (simp [ht1, ht2, ht3, ht4, ht5, ht6, ht7]; done) | (simp_all; done)
     refine ⟨?_, s⟩
     rw [agreesR_in (by omega) hy hcl]
    rw [hb] at ha; skip
    have ht7 := hb
    refine zw (.agg (evv x).toArray) ha (zln 1 0) ?_; clear ha; intro a ha
    refine zzc ha (rabr_any W _ w x s) ?_
    rintro _ w ⟨rfl, s⟩
    refine ⟨_, rfl, ?_⟩; clear ha; intro a ha
    refine zv (.bool (abrB x)) ha ?_; clear ha; intro a ha
    rcases Bool.eq_false_or_eq_true (abrB x) with hb | hb
    ·
     rw [hb] at ha; skip
     have ht8 := hb
     refine zw (.agg (evv y).toArray) ha (zln 0 0) ?_; clear ha; intro a ha
     refine zzc ha ((by have := rcom_any W _ w y s; rwa [ht5] at this)) ?_
     rintro _ w ⟨rfl, s⟩
     refine ⟨_, rfl, ?_⟩; clear ha; intro a ha
     refine zv (.bool true) ha ?_
     refine zzv (.bool true) ?_; clear ha; intro a ha
     refine zn2 ?_
     refine wp_true ha rfl (by kernel_rfl) ?_
     refine zn1 ?_
     refine zv (.bool false) ha ?_; clear ha; intro a ha
     refine zn2 ?_
     refine wp_ret ?_
     refine block_ret ?_
     refine then_ret ?_
     refine then_ret ?_
     refine block_ret ?_
     refine then_ret ?_
     refine zzr (v := .bool false) ha ?_
     replace s := s.tail.tail
     replace s : St W (L) w := s
     have hcl : (ofB x.id y && clash x y) = true := by unfold ofB clash; first | (simp [ht1, ht2, ht3, ht4, ht5, ht6, ht7, ht8]; done) | (simp_all; done)
     refine ⟨?_, s⟩
     rw [agreesR_in (by omega) hy hcl]
    rw [hb] at ha; skip
    have ht8 := hb
    refine zp ha ?_
    refine zzp ?_
    refine zzv (.bool false) ?_
    refine zzv (.bool false) ?_; clear ha; intro a ha
    refine zn2 ?_
    refine wp_false ha rfl (by kernel_rfl) ?_
    refine wp_skip ?_
    refine block_normal ?_
    refine then_normal ?_
    refine wp_region_lit ?_
    refine zv (.int .i64 ((k : Nat) : Int)) ha ?_
    refine zzw (.int .i64 ((k + 1 : Nat) : Int)) zar ?_
    refine zzv (.int .i64 ((k + 1 : Nat) : Int)) ?_; clear ha; intro a ha
    refine zn2 ?_
    replace s := s.at_ (j := 1) rfl
    replace s := s.k1_1
    have hcl : (ofB x.id y && clash x y) = false := by unfold ofB clash; first | (simp [ht1, ht2, ht3, ht4, ht5, ht6, ht7, ht8]; done) | (simp_all; done)
    exact ⟨k + 1, (show i - (k + 1) < i - k by omega), (Has.cons ha (by kernel_rfl) (by kernel_rfl) (Has.cons ha (by kernel_rfl) (by kernel_rfl) (Has.cons ha (by kernel_rfl) (by kernel_rfl) (Has.cons ha (by kernel_rfl) (by kernel_rfl) (Has.nil ha))))), s, (show k + 1 ≤ i by omega), agreesR_next hy hp.2 hcl⟩
   rw [hb] at ha; skip
   have ht5 := hb
   refine zp ha ?_
   iterate 11 refine zzp ?_
   refine zzv (.bool false) ?_
   refine zzv (.bool false) ?_
   refine zzv (.bool false) ?_
   refine zzv (.bool false) ?_
   refine zzw (.agg (evv x).toArray) (zln 1 0) ?_; clear ha; intro a ha
   refine zzc ha (rabr_any W _ w x s) ?_
   rintro _ w ⟨rfl, s⟩
   refine ⟨_, rfl, ?_⟩; clear ha; intro a ha
   refine zv (.bool (abrB x)) ha ?_; clear ha; intro a ha
   rcases Bool.eq_false_or_eq_true (abrB x) with hb | hb
   ·
    rw [hb] at ha; skip
    have ht6 := hb
    refine zw (.agg (evv y).toArray) ha (zln 0 0) ?_; clear ha; intro a ha
    refine zzc ha ((by have := rcom_any W _ w y s; rwa [ht5] at this)) ?_
    rintro _ w ⟨rfl, s⟩
    refine ⟨_, rfl, ?_⟩; clear ha; intro a ha
    refine zv (.bool false) ha ?_
    refine zzv (.bool false) ?_; clear ha; intro a ha
    refine zn2 ?_
    refine wp_false ha rfl (by kernel_rfl) ?_
    refine wp_skip ?_
    refine block_normal ?_
    refine then_normal ?_
    refine wp_region_lit ?_
    refine zv (.int .i64 ((k : Nat) : Int)) ha ?_
    refine zzw (.int .i64 ((k + 1 : Nat) : Int)) zar ?_
    refine zzv (.int .i64 ((k + 1 : Nat) : Int)) ?_; clear ha; intro a ha
    refine zn2 ?_
    replace s := s.at_ (j := 1) rfl
    replace s := s.k1_1
    have hcl : (ofB x.id y && clash x y) = false := by unfold ofB clash; first | (simp [ht1, ht2, ht3, ht4, ht5, ht6]; done) | (simp_all; done)
    exact ⟨k + 1, (show i - (k + 1) < i - k by omega), (Has.cons ha (by kernel_rfl) (by kernel_rfl) (Has.cons ha (by kernel_rfl) (by kernel_rfl) (Has.cons ha (by kernel_rfl) (by kernel_rfl) (Has.cons ha (by kernel_rfl) (by kernel_rfl) (Has.nil ha))))), s, (show k + 1 ≤ i by omega), agreesR_next hy hp.2 hcl⟩
   rw [hb] at ha; skip
   have ht6 := hb
   refine zp ha ?_
   refine zzp ?_
   refine zzv (.bool false) ?_
   refine zzv (.bool false) ?_; clear ha; intro a ha
   refine zn2 ?_
   refine wp_false ha rfl (by kernel_rfl) ?_
   refine wp_skip ?_
   refine block_normal ?_
   refine then_normal ?_
   refine wp_region_lit ?_
   refine zv (.int .i64 ((k : Nat) : Int)) ha ?_
   refine zzw (.int .i64 ((k + 1 : Nat) : Int)) zar ?_
   refine zzv (.int .i64 ((k + 1 : Nat) : Int)) ?_; clear ha; intro a ha
   refine zn2 ?_
   replace s := s.at_ (j := 1) rfl
   replace s := s.k1_1
   have hcl : (ofB x.id y && clash x y) = false := by unfold ofB clash; first | (simp [ht1, ht2, ht3, ht4, ht5, ht6]; done) | (simp_all; done)
   exact ⟨k + 1, (show i - (k + 1) < i - k by omega), (Has.cons ha (by kernel_rfl) (by kernel_rfl) (Has.cons ha (by kernel_rfl) (by kernel_rfl) (Has.cons ha (by kernel_rfl) (by kernel_rfl) (Has.cons ha (by kernel_rfl) (by kernel_rfl) (Has.nil ha))))), s, (show k + 1 ≤ i by omega), agreesR_next hy hp.2 hcl⟩
  rw [hb] at ha; skip
  have ht3 := hb
  refine zp ha ?_
  iterate 19 refine zzp ?_
  refine zzv (.bool false) ?_
  refine zzv (.bool false) ?_
  refine zzw (.agg (evv x).toArray) (zln 1 0) ?_; clear ha; intro a ha
  refine zzc ha (rabr_any W _ w x s) ?_
  rintro _ w ⟨rfl, s⟩
  refine ⟨_, rfl, ?_⟩; clear ha; intro a ha
  refine zv (.bool (abrB x)) ha ?_; clear ha; intro a ha
  rcases Bool.eq_false_or_eq_true (abrB x) with hb | hb
  ·
   rw [hb] at ha; skip
   have ht4 := hb
   refine zw (.agg (evv y).toArray) ha (zln 0 0) ?_; clear ha; intro a ha
   refine zzc ha (rcom_any W _ w y s) ?_
   rintro _ w ⟨rfl, s⟩
   refine ⟨_, rfl, ?_⟩; clear ha; intro a ha
   refine zv (.bool (comB y)) ha ?_
   refine zzv (.bool (comB y)) ?_; clear ha; intro a ha
   refine zn2 ?_
   refine zzh (comB y) ha ?_ ?_ <;> intro hb
   ·
    rw [hb] at ha; skip
    have ht5 := hb
    refine zn1 ?_
    refine zv (.bool false) ha ?_; clear ha; intro a ha
    refine zn2 ?_
    refine wp_ret ?_
    refine block_ret ?_
    refine then_ret ?_
    refine then_ret ?_
    refine block_ret ?_
    refine then_ret ?_
    refine zzr (v := .bool false) ha ?_
    replace s := s.tail.tail
    replace s : St W (L) w := s
    have hcl : (ofB x.id y && clash x y) = true := by unfold ofB clash; first | (simp [ht1, ht2, ht3, ht5, ht4]; done) | (simp_all; done)
    refine ⟨?_, s⟩
    rw [agreesR_in (by omega) hy hcl]
   rw [hb] at ha; skip
   have ht5 := hb
   refine wp_skip ?_
   refine block_normal ?_
   refine then_normal ?_
   refine wp_region_lit ?_
   refine zv (.int .i64 ((k : Nat) : Int)) ha ?_
   refine zzw (.int .i64 ((k + 1 : Nat) : Int)) zar ?_
   refine zzv (.int .i64 ((k + 1 : Nat) : Int)) ?_; clear ha; intro a ha
   refine zn2 ?_
   replace s := s.at_ (j := 1) rfl
   replace s := s.k1_1
   have hcl : (ofB x.id y && clash x y) = false := by unfold ofB clash; first | (simp [ht1, ht2, ht3, ht5, ht4]; done) | (simp_all; done)
   exact ⟨k + 1, (show i - (k + 1) < i - k by omega), (Has.cons ha (by kernel_rfl) (by kernel_rfl) (Has.cons ha (by kernel_rfl) (by kernel_rfl) (Has.cons ha (by kernel_rfl) (by kernel_rfl) (Has.cons ha (by kernel_rfl) (by kernel_rfl) (Has.nil ha))))), s, (show k + 1 ≤ i by omega), agreesR_next hy hp.2 hcl⟩
  rw [hb] at ha; skip
  have ht4 := hb
  refine zp ha ?_
  refine zzp ?_
  refine zzv (.bool false) ?_
  refine zzv (.bool false) ?_; clear ha; intro a ha
  refine zn2 ?_
  refine wp_false ha rfl (by kernel_rfl) ?_
  refine wp_skip ?_
  refine block_normal ?_
  refine then_normal ?_
  refine wp_region_lit ?_
  refine zv (.int .i64 ((k : Nat) : Int)) ha ?_
  refine zzw (.int .i64 ((k + 1 : Nat) : Int)) zar ?_
  refine zzv (.int .i64 ((k + 1 : Nat) : Int)) ?_; clear ha; intro a ha
  refine zn2 ?_
  replace s := s.at_ (j := 1) rfl
  replace s := s.k1_1
  have hcl : (ofB x.id y && clash x y) = false := by unfold ofB clash; first | (simp [ht1, ht2, ht3, ht4]; done) | (simp_all; done)
  exact ⟨k + 1, (show i - (k + 1) < i - k by omega), (Has.cons ha (by kernel_rfl) (by kernel_rfl) (Has.cons ha (by kernel_rfl) (by kernel_rfl) (Has.cons ha (by kernel_rfl) (by kernel_rfl) (Has.cons ha (by kernel_rfl) (by kernel_rfl) (Has.nil ha))))), s, (show k + 1 ≤ i by omega), agreesR_next hy hp.2 hcl⟩
 rw [hb] at ha; replace hb : ¬ (((k : Nat) : Int) < ((i : Nat) : Int)) := of_decide_eq_false hb
 have ht0 := hb
 refine wp_exit ?_
 refine then_exit ?_
 refine then_exit ?_
 refine block_hit ?_
 refine then_normal ?_
 refine zn1 ?_
 refine zv (.bool true) ha ?_; clear ha; intro a ha
 refine zn2 ?_
 refine wp_ret ?_
 refine zzr (v := .bool true) ha ?_
 replace s := s.tail
 replace s : St W (L) w := s
 refine ⟨?_, s⟩
 have h := hp.2
 rw [show k = i by omega] at h
 rw [h]

end Go.Proofs.YtfcbjcohepkkfaaGreat.B

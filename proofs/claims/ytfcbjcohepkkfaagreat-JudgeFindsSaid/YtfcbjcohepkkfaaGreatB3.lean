import Derived.Test.YtfcbjcohepkkfaaGreatB2
import Derived.Test.YtfcbjcohepkkfaaGreatSepY
namespace Go.Proofs.YtfcbjcohepkkfaaGreat.B
open Go.RowKit Go.Maps Go.Sort Go.Shelf Go.Proofs.YtfcbjcohepkkfaaGreat.Sep Go.Proofs.YtfcbjcohepkkfaaGreat.P
set_option linter.unusedVariables false
set_option linter.unusedSimpArgs false
def cfT (x y : Tn) : Int := if ltS x.wall x.logic y.wall y.logic then -1 else if ltS y.wall y.logic x.wall x.logic then 1 else cmpI x.id y.id
theorem cfT_lt (x y : Tn) : cfT x y < 0 ↔ less x y := by
 unfold cfT
 by_cases h1 : ltS x.wall x.logic y.wall y.logic
 ·
  rw [if_pos h1]; unfold ltS at h1; unfold less; omega
 rw [if_neg h1]
 by_cases h2 : ltS y.wall y.logic x.wall x.logic
 ·
  rw [if_pos h2]; unfold ltS at h2; unfold less; omega
 rw [if_neg h2]; unfold cmpI ltS less at *
 by_cases h3 : x.id < y.id
 ·
  rw [if_pos h3]; omega
 rw [if_neg h3]
 by_cases h4 : y.id < x.id
 ·
  rw [if_pos h4]; omega
 rw [if_neg h4]; omega
abbrev nats (l : List Nat) : List Value := l.map fun i => .int .i64 ((i : Nat) : Int)
theorem nats_at {l : List Nat} {i x : Nat} (h : l[i]? = some x) : (nats l)[i]? = some (.int .i64 ((x : Nat) : Int)) := by simp [nats, h]
/-- A row into which places are put, one behind the other. -/
def fillTo (n k : Nat) : List Value := nats (List.range k) ++ List.replicate (n - k) (.int .i64 0)
theorem fillTo_len {n k : Nat} (h : k ≤ n) : (fillTo n k).length = n := by simp [fillTo]; omega
theorem fillTo_put {n k : Nat} (h : k < n) : putAt (fillTo n k) (0 + k * 1) [.int .i64 ((k : Nat) : Int)] = fillTo n (k + 1) := by
 show (fillTo n k).set (0 + k * 1) _ = _
 unfold fillTo
 rw [show 0 + k * 1 = (nats (List.range k)).length by simp, List.set_append_right _ _ (Nat.le_refl _), Nat.sub_self, show n - k = (n - (k + 1)) + 1 by omega, List.replicate_succ, List.set_cons_zero, List.range_succ]
 simp [nats]
theorem fillTo_zero (n : Nat) : fillTo n 0 = List.replicate n (.int .i64 0) := by simp [fillTo, nats]
theorem fillTo_all (n : Nat) : fillTo n n = nats (List.range n) := by simp [fillTo]

theorem cf_any (W : World) (L : List Chunk) (w : World) (gl : Nat) (ad : Addr) (A : Option Addr) (hA : A = some ad) (ca : Nat) (ds : List Dn) (hr : Knows L fun w => BlkIs gl [.slice A ds.length ca] w ∧ DonesIn A ds w) (i k : Nat) (x y : Dn) (hx : ds[i]? = some x) (hy : ds[k]? = some y) (s : St W L w) :
  Calls Tryz.prog 63 #[.int .i64 ((i : Nat) : Int), .int .i64 ((k : Nat) : Int), .pointer (some ⟨gl, 0, none⟩)] w fun e w' => e = .returned (.int .i64 (cfT x.t y.t)) ∧ St W L w' := by
 subst hA
 have hil : i < ds.length := (List.getElem?_eq_some_iff.1 hx).1
 have hkl : k < ds.length := (List.getElem?_eq_some_iff.1 hy).1
 refine enter_args (l := [.int .i64 ((i : Nat) : Int), .int .i64 ((k : Nat) : Int), .pointer (some ⟨gl, 0, none⟩)]) Tryz.func63 rfl rfl (Nat.le_of_ble_eq_true rfl) ?_
 intro a ha; replace ha : Has a 33 [(0, .int .i64 ((i : Nat) : Int)), (1, .int .i64 ((k : Nat) : Int)), (2, .pointer (some ⟨gl, 0, none⟩))] := ha
 refine zn1 ?_
 refine zv (.int .i64 0) ha ?_; clear ha; intro a ha
 refine zn2 ?_
 refine wp_seq ?_
 refine wp_region_head 11 (fun w => BlkIs gl [.slice (some ad) ds.length ca] w ∧ Reads w 4 (some ad) ds.length (nvs ds) ∧ True) (by kernel_rfl) (by decide) ?_
 replace s := s.drew; generalize _root_.Go.World.drew _ = w at s ⊢
 have hS : (fun w => BlkIs gl [.slice (some ad) ds.length ca] w ∧ Reads w 4 (some ad) ds.length (nvs ds) ∧ True) w := ⟨(hr _ s.sat).1, (hr _ s.sat).2.1, trivial⟩
 refine yv (i := 0) (.slice (some ad) ds.length ca) ha (fun w hS => run_load1 (of_ := 0) hS.1 rfl (by kernel_rfl) Tryz.isAgg48 rfl) hS ?_
 refine yyk (i := 1) (.int .i64 ((i : Nat) : Int)) hS ?_
 refine yyv (i := 2) (.pointer (some (ad.add (i * 4)))) (fun w hS => (run_indexAddr' (kd := .i64) (i := ((i : Nat) : Int)) (n := ds.length) (c := ca) i rfl Tryz.underlying48 Tryz.sizeOf77 (by kernel_rfl) (by kernel_rfl) rfl (by first | assumption | omega) _)) hS ?_
 refine yyv (i := 3) (.agg (nv x).toArray) (fun w hS => run_loadAtN (i := i * 4) (nv x) hS.2.1 rfl (by kernel_rfl) Tryz.isAgg77 Tryz.sizeOf77 (fun q_ hq_ => nvs_at hx hq_) rfl) hS ?_
 refine yyv (i := 4) (.slice (some ad) ds.length ca) (fun w hS => run_load1 (of_ := 0) hS.1 rfl (by kernel_rfl) Tryz.isAgg48 rfl) hS ?_
 refine yyk (i := 5) (.int .i64 ((k : Nat) : Int)) hS ?_
 refine yyv (i := 6) (.pointer (some (ad.add (k * 4)))) (fun w hS => (run_indexAddr' (kd := .i64) (i := ((k : Nat) : Int)) (n := ds.length) (c := ca) k rfl Tryz.underlying48 Tryz.sizeOf77 (by kernel_rfl) (by kernel_rfl) rfl (by first | assumption | omega) _)) hS ?_
 refine yyv (i := 7) (.agg (nv y).toArray) (fun w hS => run_loadAtN (i := k * 4) (nv y) hS.2.1 rfl (by kernel_rfl) Tryz.isAgg77 Tryz.sizeOf77 (fun q_ hq_ => nvs_at hy hq_) rfl) hS ?_; clear ha; intro a ha
 refine Head.two (i := 8) (j := 9) (by kernel_rfl) ?_ ?_
 ·
  skip
  refine hat_ex (i := 8) ha rfl (by kernel_rfl) (ex_alloc [.int .i64 0, .int .i64 0, .int .i64 0, .slice none 0 0] s rfl (Tryz.zeroValue77 _) (by kernel_rfl)) ?_
  clear hS; rintro _ w ⟨g1, rfl, s⟩
  have hS : (fun w => BlkIs gl [.slice (some ad) ds.length ca] w ∧ Reads w 4 (some ad) ds.length (nvs ds) ∧ True) w := ⟨(hr _ s.sat.tail).1, (hr _ s.sat.tail).2.1, trivial⟩
  refine ⟨hS, ?_⟩; clear ha; intro a ha
  refine hd_ex (i := 9) ha rfl (by kernel_rfl) (by kernel_rfl) (ex_alloc [.int .i64 0, .int .i64 0, .int .i64 0, .slice none 0 0] s rfl (Tryz.zeroValue77 _) (by kernel_rfl)) ?_
  clear hS; rintro _ w ⟨g2, rfl, s⟩
  have hS : (fun w => BlkIs gl [.slice (some ad) ds.length ca] w ∧ Reads w 4 (some ad) ds.length (nvs ds) ∧ True) w := ⟨(hr _ s.sat.tail.tail).1, (hr _ s.sat.tail.tail).2.1, trivial⟩
  refine ⟨hS, ?_⟩; clear ha; intro a ha
  refine hd_exd (i := 10) ha rfl (by kernel_rfl) (by kernel_rfl) (ex_store (of_ := 0) 1 (nv x) s rfl rfl (by kernel_rfl) (by kernel_rfl) (Tryz.sizeOf77 _) rfl (by simp [Value.oneCell']) (Nat.le_of_ble_eq_true rfl)) ?_
  clear hS; rintro w s
  dsimp only [List.set, putAt] at s
  have hS : (fun w => BlkIs gl [.slice (some ad) ds.length ca] w ∧ Reads w 4 (some ad) ds.length (nvs ds) ∧ True) w := ⟨(hr _ s.sat.tail.tail).1, (hr _ s.sat.tail.tail).2.1, trivial⟩
  refine ⟨hS, ?_⟩; clear ha; intro a ha
  refine Head.done (by kernel_rfl) ?_
  clear hS; simp only [List.drop_succ_cons, List.drop_zero]
  refine zzd ha (ex_store (of_ := 0) 0 (nv y) s rfl rfl (by kernel_rfl) (by kernel_rfl) (Tryz.sizeOf77 _) rfl (by simp [Value.oneCell']) (Nat.le_of_ble_eq_true rfl)) ?_
  clear ha; rintro w a s ha
  dsimp only [List.set, putAt] at s
  refine zn2 ?_
  refine wp_seq ?_
  refine wp_block ?_
  refine zn1 ?_
  refine zv (.pointer (some ⟨g1, 1, none⟩)) ha ?_
  refine zzw (.agg #[.int .i64 x.wall, .int .i64 x.logic]) (zln 1 1) ?_
  refine zzv (.pointer (some ⟨g2, 1, none⟩)) ?_
  refine zzw (.agg #[.int .i64 y.wall, .int .i64 y.logic]) (zln 0 1) ?_; clear ha; intro a ha
  refine zzc ha (less_any W _ w x.wall x.logic y.wall y.logic s) ?_
  rintro _ w ⟨rfl, s⟩
  refine ⟨_, rfl, ?_⟩; clear ha; intro a ha
  refine zv (.bool (decide (ltS x.wall x.logic y.wall y.logic))) ha ?_; clear ha; intro a ha
  refine zn2 ?_
  refine zzh (decide (ltS x.wall x.logic y.wall y.logic)) ha ?_ ?_ <;> intro hb
  ·
   rw [hb] at ha; replace hb : (ltS x.wall x.logic y.wall y.logic) := of_decide_eq_true hb
   refine zn1 ?_
   refine zv (.int .i64 (-1)) ha ?_; clear ha; intro a ha
   refine zn2 ?_
   refine wp_ret ?_
   refine block_ret ?_
   refine then_ret ?_
   refine zzr (v := .int .i64 (-1)) ha ?_
   replace s := s.tail.tail
   replace s : St W (L) w := s
   refine ⟨?_, s⟩
   show _ = Ending.returned (.int .i64 (cfT x.t y.t))
   unfold cfT
   first | rw [if_pos (show ltS x.t.wall x.t.logic y.t.wall y.t.logic from hb)] | rw [if_neg (show ¬ ltS x.t.wall x.t.logic y.t.wall y.t.logic by assumption), if_pos (show ltS y.t.wall y.t.logic x.t.wall x.t.logic from hb)] | (rw [if_neg (show ¬ ltS x.t.wall x.t.logic y.t.wall y.t.logic by assumption), if_neg (show ¬ ltS y.t.wall y.t.logic x.t.wall x.t.logic by assumption)]; rfl)
  rw [hb] at ha; replace hb : ¬ (ltS x.wall x.logic y.wall y.logic) := of_decide_eq_false hb
  refine zn1 ?_
  refine zv (.pointer (some ⟨g2, 1, none⟩)) ha ?_
  refine zzw (.agg #[.int .i64 y.wall, .int .i64 y.logic]) (zln 0 1) ?_
  refine zzv (.pointer (some ⟨g1, 1, none⟩)) ?_
  refine zzw (.agg #[.int .i64 x.wall, .int .i64 x.logic]) (zln 1 1) ?_; clear ha; intro a ha
  refine zzc ha (less_any W _ w y.wall y.logic x.wall x.logic s) ?_
  rintro _ w ⟨rfl, s⟩
  refine ⟨_, rfl, ?_⟩; clear ha; intro a ha
  refine zv (.bool (decide (ltS y.wall y.logic x.wall x.logic))) ha ?_; clear ha; intro a ha
  refine zn2 ?_
  refine zzh (decide (ltS y.wall y.logic x.wall x.logic)) ha ?_ ?_ <;> intro hb
  ·
   rw [hb] at ha; replace hb : (ltS y.wall y.logic x.wall x.logic) := of_decide_eq_true hb
   refine zn1 ?_
   refine zv (.int .i64 1) ha ?_; clear ha; intro a ha
   refine zn2 ?_
   refine wp_ret ?_
   refine block_ret ?_
   refine then_ret ?_
   refine zzr (v := .int .i64 1) ha ?_
   replace s := s.tail.tail
   replace s : St W (L) w := s
   refine ⟨?_, s⟩
   show _ = Ending.returned (.int .i64 (cfT x.t y.t))
   unfold cfT
   first | rw [if_pos (show ltS x.t.wall x.t.logic y.t.wall y.t.logic from hb)] | rw [if_neg (show ¬ ltS x.t.wall x.t.logic y.t.wall y.t.logic by assumption), if_pos (show ltS y.t.wall y.t.logic x.t.wall x.t.logic from hb)] | (rw [if_neg (show ¬ ltS x.t.wall x.t.logic y.t.wall y.t.logic by assumption), if_neg (show ¬ ltS y.t.wall y.t.logic x.t.wall x.t.logic by assumption)]; rfl)
  rw [hb] at ha; replace hb : ¬ (ltS y.wall y.logic x.wall x.logic) := of_decide_eq_false hb
  refine wp_skip ?_
  refine block_normal ?_
  refine then_normal ?_
  refine zn1 ?_
  refine zv (.pointer (some ⟨g1, 0, none⟩)) ha ?_
  refine zzw (.int .i64 x.id) (zl1 1 0) ?_
  refine zzv (.pointer (some ⟨g2, 0, none⟩)) ?_
  refine zzw (.int .i64 y.id) (zl1 0 0) ?_; clear ha; intro a ha
  refine zzc ha (cmp_any W _ w x.id y.id s) ?_
  rintro _ w ⟨rfl, s⟩
  refine ⟨_, rfl, ?_⟩; clear ha; intro a ha
  refine zv (.int .i64 (cmpI x.id y.id)) ha ?_; clear ha; intro a ha
  refine zn2 ?_
  refine wp_ret ?_
  refine zzr (v := .int .i64 (cmpI x.id y.id)) ha ?_
  replace s := s.tail.tail
  replace s : St W (L) w := s
  refine ⟨?_, s⟩
  show _ = Ending.returned (.int .i64 (cfT x.t y.t))
  unfold cfT
  first | rw [if_pos (show ltS x.t.wall x.t.logic y.t.wall y.t.logic from hb)] | rw [if_neg (show ¬ ltS x.t.wall x.t.logic y.t.wall y.t.logic by assumption), if_pos (show ltS y.t.wall y.t.logic x.t.wall x.t.logic from hb)] | (rw [if_neg (show ¬ ltS x.t.wall x.t.logic y.t.wall y.t.logic by assumption), if_neg (show ¬ ltS y.t.wall y.t.logic x.t.wall x.t.logic by assumption)]; rfl)
 skip
 refine hat_ex (i := 9) ha rfl (by kernel_rfl) (ex_alloc [.int .i64 0, .int .i64 0, .int .i64 0, .slice none 0 0] s rfl (Tryz.zeroValue77 _) (by kernel_rfl)) ?_
 clear hS; rintro _ w ⟨g3, rfl, s⟩
 have hS : (fun w => BlkIs gl [.slice (some ad) ds.length ca] w ∧ Reads w 4 (some ad) ds.length (nvs ds) ∧ True) w := ⟨(hr _ s.sat.tail).1, (hr _ s.sat.tail).2.1, trivial⟩
 refine ⟨hS, ?_⟩; clear ha; intro a ha
 refine hd_ex (i := 8) ha rfl (by kernel_rfl) (by kernel_rfl) (ex_alloc [.int .i64 0, .int .i64 0, .int .i64 0, .slice none 0 0] s rfl (Tryz.zeroValue77 _) (by kernel_rfl)) ?_
 clear hS; rintro _ w ⟨g4, rfl, s⟩
 have hS : (fun w => BlkIs gl [.slice (some ad) ds.length ca] w ∧ Reads w 4 (some ad) ds.length (nvs ds) ∧ True) w := ⟨(hr _ s.sat.tail.tail).1, (hr _ s.sat.tail.tail).2.1, trivial⟩
 refine ⟨hS, ?_⟩; clear ha; intro a ha
 refine hd_exd (i := 10) ha rfl (by kernel_rfl) (by kernel_rfl) (ex_store (of_ := 0) 0 (nv x) s rfl rfl (by kernel_rfl) (by kernel_rfl) (Tryz.sizeOf77 _) rfl (by simp [Value.oneCell']) (Nat.le_of_ble_eq_true rfl)) ?_
 clear hS; rintro w s
 dsimp only [List.set, putAt] at s
 have hS : (fun w => BlkIs gl [.slice (some ad) ds.length ca] w ∧ Reads w 4 (some ad) ds.length (nvs ds) ∧ True) w := ⟨(hr _ s.sat.tail.tail).1, (hr _ s.sat.tail.tail).2.1, trivial⟩
 refine ⟨hS, ?_⟩; clear ha; intro a ha
 refine Head.done (by kernel_rfl) ?_
 clear hS; simp only [List.drop_succ_cons, List.drop_zero]
 refine zzd ha (ex_store (of_ := 0) 1 (nv y) s rfl rfl (by kernel_rfl) (by kernel_rfl) (Tryz.sizeOf77 _) rfl (by simp [Value.oneCell']) (Nat.le_of_ble_eq_true rfl)) ?_
 clear ha; rintro w a s ha
 dsimp only [List.set, putAt] at s
 refine zn2 ?_
 refine wp_seq ?_
 refine wp_block ?_
 refine zn1 ?_
 refine zv (.pointer (some ⟨g4, 1, none⟩)) ha ?_
 refine zzw (.agg #[.int .i64 x.wall, .int .i64 x.logic]) (zln 0 1) ?_
 refine zzv (.pointer (some ⟨g3, 1, none⟩)) ?_
 refine zzw (.agg #[.int .i64 y.wall, .int .i64 y.logic]) (zln 1 1) ?_; clear ha; intro a ha
 refine zzc ha (less_any W _ w x.wall x.logic y.wall y.logic s) ?_
 rintro _ w ⟨rfl, s⟩
 refine ⟨_, rfl, ?_⟩; clear ha; intro a ha
 refine zv (.bool (decide (ltS x.wall x.logic y.wall y.logic))) ha ?_; clear ha; intro a ha
 refine zn2 ?_
 refine zzh (decide (ltS x.wall x.logic y.wall y.logic)) ha ?_ ?_ <;> intro hb
 ·
  rw [hb] at ha; replace hb : (ltS x.wall x.logic y.wall y.logic) := of_decide_eq_true hb
  refine zn1 ?_
  refine zv (.int .i64 (-1)) ha ?_; clear ha; intro a ha
  refine zn2 ?_
  refine wp_ret ?_
  refine block_ret ?_
  refine then_ret ?_
  refine zzr (v := .int .i64 (-1)) ha ?_
  replace s := s.tail.tail
  replace s : St W (L) w := s
  refine ⟨?_, s⟩
  show _ = Ending.returned (.int .i64 (cfT x.t y.t))
  unfold cfT
  first | rw [if_pos (show ltS x.t.wall x.t.logic y.t.wall y.t.logic from hb)] | rw [if_neg (show ¬ ltS x.t.wall x.t.logic y.t.wall y.t.logic by assumption), if_pos (show ltS y.t.wall y.t.logic x.t.wall x.t.logic from hb)] | (rw [if_neg (show ¬ ltS x.t.wall x.t.logic y.t.wall y.t.logic by assumption), if_neg (show ¬ ltS y.t.wall y.t.logic x.t.wall x.t.logic by assumption)]; rfl)
 rw [hb] at ha; replace hb : ¬ (ltS x.wall x.logic y.wall y.logic) := of_decide_eq_false hb
 refine zn1 ?_
 refine zv (.pointer (some ⟨g3, 1, none⟩)) ha ?_
 refine zzw (.agg #[.int .i64 y.wall, .int .i64 y.logic]) (zln 1 1) ?_
 refine zzv (.pointer (some ⟨g4, 1, none⟩)) ?_
 refine zzw (.agg #[.int .i64 x.wall, .int .i64 x.logic]) (zln 0 1) ?_; clear ha; intro a ha
 refine zzc ha (less_any W _ w y.wall y.logic x.wall x.logic s) ?_
 rintro _ w ⟨rfl, s⟩
 refine ⟨_, rfl, ?_⟩; clear ha; intro a ha
 refine zv (.bool (decide (ltS y.wall y.logic x.wall x.logic))) ha ?_; clear ha; intro a ha
 refine zn2 ?_
 refine zzh (decide (ltS y.wall y.logic x.wall x.logic)) ha ?_ ?_ <;> intro hb
 ·
  rw [hb] at ha; replace hb : (ltS y.wall y.logic x.wall x.logic) := of_decide_eq_true hb
  refine zn1 ?_
  refine zv (.int .i64 1) ha ?_; clear ha; intro a ha
  refine zn2 ?_
  refine wp_ret ?_
  refine block_ret ?_
  refine then_ret ?_
  refine zzr (v := .int .i64 1) ha ?_
  replace s := s.tail.tail
  replace s : St W (L) w := s
  refine ⟨?_, s⟩
  show _ = Ending.returned (.int .i64 (cfT x.t y.t))
  unfold cfT
  first | rw [if_pos (show ltS x.t.wall x.t.logic y.t.wall y.t.logic from hb)] | rw [if_neg (show ¬ ltS x.t.wall x.t.logic y.t.wall y.t.logic by assumption), if_pos (show ltS y.t.wall y.t.logic x.t.wall x.t.logic from hb)] | (rw [if_neg (show ¬ ltS x.t.wall x.t.logic y.t.wall y.t.logic by assumption), if_neg (show ¬ ltS y.t.wall y.t.logic x.t.wall x.t.logic by assumption)]; rfl)
 rw [hb] at ha; replace hb : ¬ (ltS y.wall y.logic x.wall x.logic) := of_decide_eq_false hb
 refine wp_skip ?_
 refine block_normal ?_
 refine then_normal ?_
 refine zn1 ?_
 refine zv (.pointer (some ⟨g4, 0, none⟩)) ha ?_
 refine zzw (.int .i64 x.id) (zl1 0 0) ?_
 refine zzv (.pointer (some ⟨g3, 0, none⟩)) ?_
 refine zzw (.int .i64 y.id) (zl1 1 0) ?_; clear ha; intro a ha
 refine zzc ha (cmp_any W _ w x.id y.id s) ?_
 rintro _ w ⟨rfl, s⟩
 refine ⟨_, rfl, ?_⟩; clear ha; intro a ha
 refine zv (.int .i64 (cmpI x.id y.id)) ha ?_; clear ha; intro a ha
 refine zn2 ?_
 refine wp_ret ?_
 refine zzr (v := .int .i64 (cmpI x.id y.id)) ha ?_
 replace s := s.tail.tail
 replace s : St W (L) w := s
 refine ⟨?_, s⟩
 show _ = Ending.returned (.int .i64 (cfT x.t y.t))
 unfold cfT
 first | rw [if_pos (show ltS x.t.wall x.t.logic y.t.wall y.t.logic from hb)] | rw [if_neg (show ¬ ltS x.t.wall x.t.logic y.t.wall y.t.logic by assumption), if_pos (show ltS y.t.wall y.t.logic x.t.wall x.t.logic from hb)] | (rw [if_neg (show ¬ ltS x.t.wall x.t.logic y.t.wall y.t.logic by assumption), if_neg (show ¬ ltS y.t.wall y.t.logic x.t.wall x.t.logic by assumption)]; rfl)

theorem swoT (n : Nat) (f : Fin n → Tn) : SWO (Go.Proofs.ltOf fun i k => cfT (f i) (f k)) := by
 have e : ∀ i k, Go.Proofs.ltOf (fun i k => cfT (f i) (f k)) i k = decide (less (f i) (f k)) := fun i k => by
  unfold Go.Proofs.ltOf; exact decide_eq_decide.2 (cfT_lt _ _)
 refine ⟨fun x => ?_, fun x y z h1 h2 => ?_, fun x y z h1 h2 => ?_⟩
 ·
  rw [e]; exact decide_eq_false (less_irrefl _)
 ·
  rw [e] at *; simp only [decide_eq_true_eq] at *; exact less_trans h1 h2
 rw [e] at *; simp only [decide_eq_false_iff_not] at *; unfold less at *; omega
def tF (ds : List Dn) (i : Fin ds.length) : Tn := (ds[i.val]'i.2).t
def encF {n : Nat} (i : Fin n) : Value := .int .i64 ((i.val : Nat) : Int)
theorem encF_one {n : Nat} : OneCell (encF (n := n)) := fun x => by simp [encF, Value.oneCell']
theorem nats_fin {n : Nat} (l : List (Fin n)) : nats (l.map (·.val)) = l.map encF := by simp [nats, encF]
theorem Old.blkIs {W w : World} {L : List Chunk} {g : Nat} {cs : List Value} (s : Sat (Old W :: L) w) (hg : g < W.heap.size) (h : BlkIs g cs W) : BlkIs g cs w := fun i => by
 have := Old.block s g hg
 rw [← h i]
 unfold World.cell?
 simp only [this]
theorem lt_of_blkIs {b : Nat} {v : Value} {cs : List Value} {w : World} (h : BlkIs b (v :: cs) w) : b < w.heap.size := by
 have := h 0
 unfold World.cell? at this
 cases e : w.heap[b]? with
 | none => rw [e] at this; cases this
 | some o => exact lt_of_blk e
theorem Old.dids {W : World} {L : List Chunk} {A : Option Addr} {l : List Dd} (h : DidsIn A l W) : Knows (Old W :: L) (DidsIn A l) := fun w s => ⟨Old.reads h.1 w s, fun x hx => Old.reads (h.2 x hx) w s⟩
theorem Old.dones {W : World} {L : List Chunk} {A : Option Addr} {ds : List Dn} (h : DonesIn A ds W) : Knows (Old W :: L) (DonesIn A ds) := fun w s => ⟨Old.reads h.1 w s, fun d hd => Old.dids (h.2 d hd) w s⟩
theorem sort_idx (W : World) (L : List Chunk) (w : World) (gl : Nat) (A : Option Addr) (ca : Nat) (ds : List Dn) (hr : Knows L fun w => BlkIs gl [.slice A ds.length ca] w ∧ DonesIn A ds w) (hnd : (ids (tns ds)).Nodup) (hsz : ds.length ≤ 1000) (B : Option Addr) (c c0 : Nat)
  (s : St W (Own 3 1 B ds.length c (nats (List.range ds.length)) :: L) w) :
  Calls Tryz.prog 62 #[.slice B ds.length c0, .func (.func 63) #[] #[.pointer (some ⟨gl, 0, none⟩)]] w fun e w' => e = .returned (.tuple #[]) ∧ ∃ o : List Nat, IsOrd (tns ds) o ∧ St W (Own 3 1 B ds.length c (nats o) :: L) w' := by
 by_cases hne : ds = []
 ·
  subst hne
  refine (Go.Proofs.AnyF.slices_SortFunc_none Tryz.sortN B c0 _ w).mono ?_
  rintro e w' ⟨rfl, rfl⟩
  exact ⟨rfl, [], ⟨List.Perm.refl _, List.Pairwise.nil⟩, s⟩
 have hpos : 0 < ds.length := List.length_pos_iff.2 hne
 haveI : Inhabited (Fin ds.length) := ⟨⟨0, hpos⟩⟩
 have hrange : List.range ds.length = (List.finRange ds.length).map (·.val) := by
  apply List.ext_getElem
  ·
   simp
  intro i h1 h2; simp
 rw [hrange, nats_fin] at s
 obtain ⟨ad, hA⟩ : ∃ ad, A = some ad := Reads.addr (hr _ s.1.tail).2.1 (by omega)
 have con := sort_one Tryz.sortI (e := 3) (encF (n := ds.length)) encF_one (fun i k => cfT (tF ds i) (tF ds k)) (swoT _ (tF ds)) 63 #[.pointer (some ⟨gl, 0, none⟩)] (enters_of Tryz.func63 (by kernel_rfl) rfl)
  (fun V hV x y => cf_any V [Old V] V gl ad A hA ca ds (fun w s => ⟨Old.blkIs s (lt_of_blkIs (hr V hV).1) (hr V hV).1, Old.dones (hr V hV).2 w s⟩) x.val y.val _ _ (List.getElem?_eq_getElem x.2) (List.getElem?_eq_getElem y.2) (Old.start V)) (cap := c0) (by simp) (by intro h; have h2 := congrArg List.length h; rw [List.length_finRange, List.length_nil] at h2; omega) (by rw [List.length_finRange]; omega) s
 refine con.mono ?_
 rintro e w' ⟨rfl, d', hp, hs, hl, s⟩
 rw [← nats_fin] at s
 have hp2 : (d'.map (·.val)).Perm (List.range ds.length) := by rw [hrange]; exact hp.map _
 refine ⟨rfl, d'.map (·.val), ⟨by simpa using hp2, ?_⟩, s⟩
 have hnd' : d'.Nodup := hp.nodup_iff.2 (List.nodup_finRange _)
 rw [List.pairwise_map]
 refine (hs.and hnd').imp ?_
 rintro x y ⟨h, hxy⟩
 have hx : tAt (tns ds) x.val = tF ds x := tAt_of (List.getElem?_eq_getElem x.2)
 have hy : tAt (tns ds) y.val = tF ds y := tAt_of (List.getElem?_eq_getElem y.2)
 rw [hx, hy]
 unfold Go.Proofs.ltOf at h
 simp only [decide_eq_false_iff_not] at h
 rw [cfT_lt] at h
 refine (less_total ?_).resolve_right h
 intro e
 refine hxy (Fin.ext ?_)
 have h1 : (ids (tns ds))[x.val]? = some (tF ds x).id := by simp [ids, tns, tF]
 have h2 : (ids (tns ds))[y.val]? = some (tF ds y).id := by simp [ids, tns, tF]
 obtain ⟨l1, e1⟩ := List.getElem?_eq_some_iff.1 h1
 obtain ⟨l2, e2⟩ := List.getElem?_eq_some_iff.1 h2
 exact (List.getElem_inj hnd).1 (by rw [e1, e2, e])

end Go.Proofs.YtfcbjcohepkkfaaGreat.B

import Derived.Test.YtfcbjcohepkkfaaGreatG9
import Derived.Test.YtfcbjcohepkkfaaGreatB10
import Derived.Test.YtfcbjcohepkkfaaGreatSepY
namespace Go.Proofs.YtfcbjcohepkkfaaGreat.B
open Go.RowKit Go.Maps Go.Sort Go.Shelf Go.Proofs.YtfcbjcohepkkfaaGreat.Sep Go.Proofs.YtfcbjcohepkkfaaGreat.P
set_option linter.unusedVariables false
set_option linter.unusedSimpArgs false

theorem elt57 : Elt Tryz.prog 57 4 1 1 := ⟨by kernel_rfl, by kernel_rfl⟩
theorem zs57 : (Tryz.prog.info? 4).bind (fun i => i.zero.map (·.cells)) = some #[.bool false] := by kernel_rfl
set_option maxRecDepth 100000 in
set_option maxHeartbeats 4000000 in
theorem rfind_any (W : World) (L : List Chunk) (w : World) (A : Option Addr) (ca : Nat) (l : List Ev) (hr : Knows L (EvsIn A l)) (hn : l.length ≤ 5000) (hbe : Be l) (well : Bool) (s : St W L w) :
  Calls Tryz.prog 6 #[.slice A l.length ca, .bool well] w fun e w' => ∃ o, (code (tnsP (orderR l)) = 0 → well = true → findR (startL l).ti [] l = none → IsOrd (tnsP (orderR l)) o) ∧ e = .returned (resV (resR l well o)) ∧ St W L w' := by
 refine enter_args (l := [.slice A l.length ca, .bool well]) Tryz.func6 rfl rfl (Nat.le_of_ble_eq_true rfl) ?_
 intro a ha; replace ha : Has a 96 [(0, .slice A l.length ca), (1, .bool well)] := ha
 refine zn1 ?_
 refine zv (.int .i64 0) ha ?_
 refine zzv (.int .i64 0) ?_
 refine zzv (.int .i64 0) ?_; clear ha; intro a ha
 refine zn2 ?_
 refine wp_seq ?_
 refine zn1 ?_
 refine zv (.slice A l.length ca) ha ?_
 refine zzv (.int .i64 ((l.length : Nat) : Int)) ?_
 refine zzw (.bool false) (run_known (show (decide (((l.length : Nat) : Int) > (5000 : Int))) = false from decide_eq_false (by omega)) (by kernel_rfl)) ?_; clear ha; intro a ha
 refine zn2 ?_
 refine wp_false ha rfl (by kernel_rfl) ?_
 refine wp_skip ?_
 refine then_normal ?_
 refine wp_seq ?_
 refine zn1 ?_
 refine zv (.int .i64 0) ha ?_; clear ha; intro a ha
 refine zn2 ?_
 refine wp_block ?_
 refine wp_loopG (G := Nat) (fun i a w => Has a 96 [(0, .slice A l.length ca), (1, .bool well), (7, .int .i64 ((i : Nat) : Int))] ∧ St W (L) w ∧ (i ≤ l.length ∧ passed l i)) (fun i => l.length - i) 0 ?_ ?_
 ·
  exact ⟨(Has.cons ha (by kernel_rfl) (by kernel_rfl) (Has.cons ha (by kernel_rfl) (by kernel_rfl) (Has.cons ha (by kernel_rfl) (by kernel_rfl) (Has.nil ha)))), s, ⟨Nat.zero_le _, fun j y hj _ => by omega⟩⟩
 clear ha s; rintro i a w ⟨ha, s, hp⟩
 refine wp_seq ?_
 refine zn1 ?_
 refine zv (.int .i64 ((i : Nat) : Int)) ha ?_
 refine zzv (.slice A l.length ca) ?_
 refine zzv (.int .i64 ((l.length : Nat) : Int)) ?_
 refine zzv (.bool (decide (((i : Nat) : Int) < ((l.length : Nat) : Int)))) ?_; clear ha; intro a ha
 refine zn2 ?_
 refine zzh (decide (((i : Nat) : Int) < ((l.length : Nat) : Int))) ha ?_ ?_ <;> intro hb
 ·
  rw [hb] at ha; replace hb : (((i : Nat) : Int) < ((l.length : Nat) : Int)) := of_decide_eq_true hb
  have ht0 := hb
  obtain ⟨x, hx⟩ : ∃ x, l[i]? = some x := ⟨_, List.getElem?_eq_getElem (by omega)⟩
  obtain ⟨ad, hA⟩ := Reads.addr (hr _ s.sat).1 (by omega)
  subst hA
  refine wp_skip ?_
  refine then_normal ?_
  refine wp_seq ?_
  refine wp_block ?_
  refine zn1 ?_
  refine zv (.slice (some ad) l.length ca) ha ?_
  refine zzv (.int .i64 ((i : Nat) : Int)) ?_; clear ha; intro a ha
  refine zzc ha (rmay_any W _ w ad ca l (fun w s => hr w s) hn i x hx s) ?_
  rintro _ w ⟨rfl, s⟩
  refine ⟨_, rfl, ?_⟩; clear ha; intro a ha
  refine zv (.slice (some ad) l.length ca) ha ?_
  refine zzv (.int .i64 ((i : Nat) : Int)) ?_; clear ha; intro a ha
  refine zzc ha (rnodes_any W _ w ad ca l (fun w s => hr w s) hn i x hx s) ?_
  rintro _ w ⟨rfl, s⟩
  refine ⟨_, rfl, ?_⟩; clear ha; intro a ha
  refine zv (.slice (some ad) l.length ca) ha ?_
  refine zzv (.int .i64 ((i : Nat) : Int)) ?_; clear ha; intro a ha
  refine zzc ha (rbegins_any W _ w ad ca l (fun w s => hr w s) hn i x hx (passed_most hp.2) s) ?_
  rintro _ w ⟨rfl, s⟩
  refine ⟨_, rfl, ?_⟩; clear ha; intro a ha
  refine zv (.slice (some ad) l.length ca) ha ?_
  refine zzv (.int .i64 ((i : Nat) : Int)) ?_; clear ha; intro a ha
  refine zzc ha (rasks_any W _ w ad ca l (fun w s => hr w s) hn i x hx s) ?_
  rintro _ w ⟨rfl, s⟩
  refine ⟨_, rfl, ?_⟩; clear ha; intro a ha
  refine zv (.slice (some ad) l.length ca) ha ?_
  refine zzv (.int .i64 ((i : Nat) : Int)) ?_; clear ha; intro a ha
  refine zzc ha (ranswers_any W _ w ad ca l (fun w s => hr w s) hn i x hx s) ?_
  rintro _ w ⟨rfl, s⟩
  refine ⟨_, rfl, ?_⟩; clear ha; intro a ha
  refine zv (.slice (some ad) l.length ca) ha ?_
  refine zzv (.int .i64 ((i : Nat) : Int)) ?_; clear ha; intro a ha
  refine zzc ha (ragrees_any W _ w ad ca l (fun w s => hr w s) hn i x hx s) ?_
  rintro _ w ⟨rfl, s⟩
  refine ⟨_, rfl, ?_⟩; clear ha; intro a ha
  refine zze ha (ex_buildSlice elt57 _ zs57 [.bool (mayB (tiR l i) x), .bool (nodesR (l.take i) x), .bool (beginsR (l.take i) x), .bool (asksR (l.take i) x), .bool (answersR (l.take i) x), .bool (agreesR (l.take i) x)] s rfl (by kernel_rfl) (by decide)) ?_
  clear ha; rintro _ w a ⟨g1, rfl, s⟩ ha
  refine zv (.slice (some ⟨g1, 0, none⟩) 6 6) ha ?_; clear ha; intro a ha
  refine zn4 ?_
  refine zv (.int .i64 0) ha ?_; clear ha; intro a ha
  refine zn2 ?_
  refine wp_block ?_
  refine wp_loop_rounds 7 ?_
  show Code.rounds _ _ _ 7 _ _
  rw [rounds_succ]
  refine wp_seq ?_
  refine zn1 ?_
  refine zv (.int .i64 0) ha ?_
  refine zzv (.slice (some ⟨g1, 0, none⟩) 6 6) ?_
  refine zzv (.int .i64 6) ?_
  refine zzv (.bool true) ?_; clear ha; intro a ha
  refine zn2 ?_
  refine wp_true ha rfl (by kernel_rfl) ?_
  refine wp_skip ?_
  refine then_normal ?_
  refine wp_seq ?_
  refine wp_block ?_
  refine zn1 ?_
  refine zv (.slice (some ⟨g1, 0, none⟩) 6 6) ha ?_
  refine zzv (.int .i64 0) ?_
  refine zzw (.pointer (some ⟨g1, 0, none⟩)) (run_indexAddr (kd := .i64) (i := 0) (n := 6) (c := 6) 0 rfl Tryz.underlying57 Tryz.sizeOf4 (by kernel_rfl) (by kernel_rfl) rfl (by first | assumption | omega) _) ?_
  refine zzw (.bool (mayB (tiR l i) x)) (zl1 0 0) ?_
  refine zzv (.bool (!(mayB (tiR l i) x))) ?_; clear ha; intro a ha
  refine zn2 ?_
  refine zzh (!(mayB (tiR l i) x)) ha ?_ ?_ <;> intro hb
  ·
   rw [hb] at ha; skip
   have ht1 : mayB (tiR l i) x = false := by simpa using hb
   refine zn1 ?_
   refine zv (.int .i64 0) ha ?_
   refine zzv (.int .i64 1) ?_
   refine zzv (.int .i64 ((i : Nat) : Int)) ?_
   refine zzv (.int .i64 1) ?_
   refine zzv (.int .i64 ((i : Nat) : Int)) ?_
   refine zzv (.int .i64 0) ?_; clear ha; intro a ha
   refine zn2 ?_
   refine wp_ret ?_
   refine block_ret ?_
   refine then_ret ?_
   refine then_ret ?_
   refine block_ret ?_
   refine block_ret ?_
   refine then_ret ?_
   refine then_ret ?_
   refine block_ret ?_
   refine then_ret ?_
   refine ret_with (v := .tuple #[.int .i64 1, .int .i64 ((i : Nat) : Int), .int .i64 0]) ha (results_3 rfl ha (res_tmp (by kernel_rfl) (by kernel_rfl)) (res_tmp (by kernel_rfl) (by kernel_rfl)) (res_tmp (by kernel_rfl) (by kernel_rfl))) ?_
   replace s := s.tail
   replace s : St W (L) w := s
   have hrl : ruleR (tiR l i) (l.take i) x = 1 := by unfold ruleR; simp [ht1]
   have hff := findR_hit hp.2 hx hrl (by decide)
   exact ⟨[], fun _ _ h => (by rw [hff] at h; cases h), by rw [resR_rule hff]; rfl, s⟩
  rw [hb] at ha; skip
  have ht1 : mayB (tiR l i) x = true := by simpa using hb
  refine wp_skip ?_
  refine block_normal ?_
  refine then_normal ?_
  refine wp_region_lit ?_
  refine zv (.int .i64 0) ha ?_
  refine zzv (.int .i64 1) ?_
  refine zzv (.int .i64 1) ?_; clear ha; intro a ha
  refine zn2 ?_
  show Code.rounds _ _ _ 6 _ _
  rw [rounds_succ]
  refine wp_seq ?_
  refine zn1 ?_
  refine zv (.int .i64 1) ha ?_
  refine zzv (.slice (some ⟨g1, 0, none⟩) 6 6) ?_
  refine zzv (.int .i64 6) ?_
  refine zzv (.bool true) ?_; clear ha; intro a ha
  refine zn2 ?_
  refine wp_true ha rfl (by kernel_rfl) ?_
  refine wp_skip ?_
  refine then_normal ?_
  refine wp_seq ?_
  refine wp_block ?_
  refine zn1 ?_
  refine zv (.slice (some ⟨g1, 0, none⟩) 6 6) ha ?_
  refine zzv (.int .i64 1) ?_
  refine zzw (.pointer (some ⟨g1, 1, none⟩)) (run_indexAddr (kd := .i64) (i := 1) (n := 6) (c := 6) 1 rfl Tryz.underlying57 Tryz.sizeOf4 (by kernel_rfl) (by kernel_rfl) rfl (by first | assumption | omega) _) ?_
  refine zzw (.bool (nodesR (l.take i) x)) (zl1 0 1) ?_
  refine zzv (.bool (!(nodesR (l.take i) x))) ?_; clear ha; intro a ha
  refine zn2 ?_
  refine zzh (!(nodesR (l.take i) x)) ha ?_ ?_ <;> intro hb
  ·
   rw [hb] at ha; skip
   have ht2 : nodesR (l.take i) x = false := by simpa using hb
   refine zn1 ?_
   refine zv (.int .i64 1) ha ?_
   refine zzv (.int .i64 2) ?_
   refine zzv (.int .i64 ((i : Nat) : Int)) ?_
   refine zzv (.int .i64 2) ?_
   refine zzv (.int .i64 ((i : Nat) : Int)) ?_
   refine zzv (.int .i64 0) ?_; clear ha; intro a ha
   refine zn2 ?_
   refine wp_ret ?_
   refine block_ret ?_
   refine then_ret ?_
   refine then_ret ?_
   refine block_ret ?_
   refine block_ret ?_
   refine then_ret ?_
   refine then_ret ?_
   refine block_ret ?_
   refine then_ret ?_
   refine ret_with (v := .tuple #[.int .i64 2, .int .i64 ((i : Nat) : Int), .int .i64 0]) ha (results_3 rfl ha (res_tmp (by kernel_rfl) (by kernel_rfl)) (res_tmp (by kernel_rfl) (by kernel_rfl)) (res_tmp (by kernel_rfl) (by kernel_rfl))) ?_
   replace s := s.tail
   replace s : St W (L) w := s
   have hrl : ruleR (tiR l i) (l.take i) x = 2 := by unfold ruleR; simp [ht1, ht2]
   have hff := findR_hit hp.2 hx hrl (by decide)
   exact ⟨[], fun _ _ h => (by rw [hff] at h; cases h), by rw [resR_rule hff]; rfl, s⟩
  rw [hb] at ha; skip
  have ht2 : nodesR (l.take i) x = true := by simpa using hb
  refine wp_skip ?_
  refine block_normal ?_
  refine then_normal ?_
  refine wp_region_lit ?_
  refine zv (.int .i64 1) ha ?_
  refine zzv (.int .i64 2) ?_
  refine zzv (.int .i64 2) ?_; clear ha; intro a ha
  refine zn2 ?_
  show Code.rounds _ _ _ 5 _ _
  rw [rounds_succ]
  refine wp_seq ?_
  refine zn1 ?_
  refine zv (.int .i64 2) ha ?_
  refine zzv (.slice (some ⟨g1, 0, none⟩) 6 6) ?_
  refine zzv (.int .i64 6) ?_
  refine zzv (.bool true) ?_; clear ha; intro a ha
  refine zn2 ?_
  refine wp_true ha rfl (by kernel_rfl) ?_
  refine wp_skip ?_
  refine then_normal ?_
  refine wp_seq ?_
  refine wp_block ?_
  refine zn1 ?_
  refine zv (.slice (some ⟨g1, 0, none⟩) 6 6) ha ?_
  refine zzv (.int .i64 2) ?_
  refine zzw (.pointer (some ⟨g1, 2, none⟩)) (run_indexAddr (kd := .i64) (i := 2) (n := 6) (c := 6) 2 rfl Tryz.underlying57 Tryz.sizeOf4 (by kernel_rfl) (by kernel_rfl) rfl (by first | assumption | omega) _) ?_
  refine zzw (.bool (beginsR (l.take i) x)) (zl1 0 2) ?_
  refine zzv (.bool (!(beginsR (l.take i) x))) ?_; clear ha; intro a ha
  refine zn2 ?_
  refine zzh (!(beginsR (l.take i) x)) ha ?_ ?_ <;> intro hb
  ·
   rw [hb] at ha; skip
   have ht3 : beginsR (l.take i) x = false := by simpa using hb
   refine zn1 ?_
   refine zv (.int .i64 2) ha ?_
   refine zzv (.int .i64 3) ?_
   refine zzv (.int .i64 ((i : Nat) : Int)) ?_
   refine zzv (.int .i64 3) ?_
   refine zzv (.int .i64 ((i : Nat) : Int)) ?_
   refine zzv (.int .i64 0) ?_; clear ha; intro a ha
   refine zn2 ?_
   refine wp_ret ?_
   refine block_ret ?_
   refine then_ret ?_
   refine then_ret ?_
   refine block_ret ?_
   refine block_ret ?_
   refine then_ret ?_
   refine then_ret ?_
   refine block_ret ?_
   refine then_ret ?_
   refine ret_with (v := .tuple #[.int .i64 3, .int .i64 ((i : Nat) : Int), .int .i64 0]) ha (results_3 rfl ha (res_tmp (by kernel_rfl) (by kernel_rfl)) (res_tmp (by kernel_rfl) (by kernel_rfl)) (res_tmp (by kernel_rfl) (by kernel_rfl))) ?_
   replace s := s.tail
   replace s : St W (L) w := s
   have hrl : ruleR (tiR l i) (l.take i) x = 3 := by unfold ruleR; simp [ht1, ht2, ht3]
   have hff := findR_hit hp.2 hx hrl (by decide)
   exact ⟨[], fun _ _ h => (by rw [hff] at h; cases h), by rw [resR_rule hff]; rfl, s⟩
  rw [hb] at ha; skip
  have ht3 : beginsR (l.take i) x = true := by simpa using hb
  refine wp_skip ?_
  refine block_normal ?_
  refine then_normal ?_
  refine wp_region_lit ?_
  refine zv (.int .i64 2) ha ?_
  refine zzv (.int .i64 3) ?_
  refine zzv (.int .i64 3) ?_; clear ha; intro a ha
  refine zn2 ?_
  show Code.rounds _ _ _ 4 _ _
  rw [rounds_succ]
  refine wp_seq ?_
  refine zn1 ?_
  refine zv (.int .i64 3) ha ?_
  refine zzv (.slice (some ⟨g1, 0, none⟩) 6 6) ?_
  refine zzv (.int .i64 6) ?_
  refine zzv (.bool true) ?_; clear ha; intro a ha
  refine zn2 ?_
  refine wp_true ha rfl (by kernel_rfl) ?_
  refine wp_skip ?_
  refine then_normal ?_
  refine wp_seq ?_
  refine wp_block ?_
  refine zn1 ?_
  refine zv (.slice (some ⟨g1, 0, none⟩) 6 6) ha ?_
  refine zzv (.int .i64 3) ?_
  refine zzw (.pointer (some ⟨g1, 3, none⟩)) (run_indexAddr (kd := .i64) (i := 3) (n := 6) (c := 6) 3 rfl Tryz.underlying57 Tryz.sizeOf4 (by kernel_rfl) (by kernel_rfl) rfl (by first | assumption | omega) _) ?_
  refine zzw (.bool (asksR (l.take i) x)) (zl1 0 3) ?_
  refine zzv (.bool (!(asksR (l.take i) x))) ?_; clear ha; intro a ha
  refine zn2 ?_
  refine zzh (!(asksR (l.take i) x)) ha ?_ ?_ <;> intro hb
  ·
   rw [hb] at ha; skip
   have ht4 : asksR (l.take i) x = false := by simpa using hb
   refine zn1 ?_
   refine zv (.int .i64 3) ha ?_
   refine zzv (.int .i64 4) ?_
   refine zzv (.int .i64 ((i : Nat) : Int)) ?_
   refine zzv (.int .i64 4) ?_
   refine zzv (.int .i64 ((i : Nat) : Int)) ?_
   refine zzv (.int .i64 0) ?_; clear ha; intro a ha
   refine zn2 ?_
   refine wp_ret ?_
   refine block_ret ?_
   refine then_ret ?_
   refine then_ret ?_
   refine block_ret ?_
   refine block_ret ?_
   refine then_ret ?_
   refine then_ret ?_
   refine block_ret ?_
   refine then_ret ?_
   refine ret_with (v := .tuple #[.int .i64 4, .int .i64 ((i : Nat) : Int), .int .i64 0]) ha (results_3 rfl ha (res_tmp (by kernel_rfl) (by kernel_rfl)) (res_tmp (by kernel_rfl) (by kernel_rfl)) (res_tmp (by kernel_rfl) (by kernel_rfl))) ?_
   replace s := s.tail
   replace s : St W (L) w := s
   have hrl : ruleR (tiR l i) (l.take i) x = 4 := by unfold ruleR; simp [ht1, ht2, ht3, ht4]
   have hff := findR_hit hp.2 hx hrl (by decide)
   exact ⟨[], fun _ _ h => (by rw [hff] at h; cases h), by rw [resR_rule hff]; rfl, s⟩
  rw [hb] at ha; skip
  have ht4 : asksR (l.take i) x = true := by simpa using hb
  refine wp_skip ?_
  refine block_normal ?_
  refine then_normal ?_
  refine wp_region_lit ?_
  refine zv (.int .i64 3) ha ?_
  refine zzv (.int .i64 4) ?_
  refine zzv (.int .i64 4) ?_; clear ha; intro a ha
  refine zn2 ?_
  show Code.rounds _ _ _ 3 _ _
  rw [rounds_succ]
  refine wp_seq ?_
  refine zn1 ?_
  refine zv (.int .i64 4) ha ?_
  refine zzv (.slice (some ⟨g1, 0, none⟩) 6 6) ?_
  refine zzv (.int .i64 6) ?_
  refine zzv (.bool true) ?_; clear ha; intro a ha
  refine zn2 ?_
  refine wp_true ha rfl (by kernel_rfl) ?_
  refine wp_skip ?_
  refine then_normal ?_
  refine wp_seq ?_
  refine wp_block ?_
  refine zn1 ?_
  refine zv (.slice (some ⟨g1, 0, none⟩) 6 6) ha ?_
  refine zzv (.int .i64 4) ?_
  refine zzw (.pointer (some ⟨g1, 4, none⟩)) (run_indexAddr (kd := .i64) (i := 4) (n := 6) (c := 6) 4 rfl Tryz.underlying57 Tryz.sizeOf4 (by kernel_rfl) (by kernel_rfl) rfl (by first | assumption | omega) _) ?_
  refine zzw (.bool (answersR (l.take i) x)) (zl1 0 4) ?_
  refine zzv (.bool (!(answersR (l.take i) x))) ?_; clear ha; intro a ha
  refine zn2 ?_
  refine zzh (!(answersR (l.take i) x)) ha ?_ ?_ <;> intro hb
  ·
   rw [hb] at ha; skip
   have ht5 : answersR (l.take i) x = false := by simpa using hb
   refine zn1 ?_
   refine zv (.int .i64 4) ha ?_
   refine zzv (.int .i64 5) ?_
   refine zzv (.int .i64 ((i : Nat) : Int)) ?_
   refine zzv (.int .i64 5) ?_
   refine zzv (.int .i64 ((i : Nat) : Int)) ?_
   refine zzv (.int .i64 0) ?_; clear ha; intro a ha
   refine zn2 ?_
   refine wp_ret ?_
   refine block_ret ?_
   refine then_ret ?_
   refine then_ret ?_
   refine block_ret ?_
   refine block_ret ?_
   refine then_ret ?_
   refine then_ret ?_
   refine block_ret ?_
   refine then_ret ?_
   refine ret_with (v := .tuple #[.int .i64 5, .int .i64 ((i : Nat) : Int), .int .i64 0]) ha (results_3 rfl ha (res_tmp (by kernel_rfl) (by kernel_rfl)) (res_tmp (by kernel_rfl) (by kernel_rfl)) (res_tmp (by kernel_rfl) (by kernel_rfl))) ?_
   replace s := s.tail
   replace s : St W (L) w := s
   have hrl : ruleR (tiR l i) (l.take i) x = 5 := by unfold ruleR; simp [ht1, ht2, ht3, ht4, ht5]
   have hff := findR_hit hp.2 hx hrl (by decide)
   exact ⟨[], fun _ _ h => (by rw [hff] at h; cases h), by rw [resR_rule hff]; rfl, s⟩
  rw [hb] at ha; skip
  have ht5 : answersR (l.take i) x = true := by simpa using hb
  refine wp_skip ?_
  refine block_normal ?_
  refine then_normal ?_
  refine wp_region_lit ?_
  refine zv (.int .i64 4) ha ?_
  refine zzv (.int .i64 5) ?_
  refine zzv (.int .i64 5) ?_; clear ha; intro a ha
  refine zn2 ?_
  show Code.rounds _ _ _ 2 _ _
  rw [rounds_succ]
  refine wp_seq ?_
  refine zn1 ?_
  refine zv (.int .i64 5) ha ?_
  refine zzv (.slice (some ⟨g1, 0, none⟩) 6 6) ?_
  refine zzv (.int .i64 6) ?_
  refine zzv (.bool true) ?_; clear ha; intro a ha
  refine zn2 ?_
  refine wp_true ha rfl (by kernel_rfl) ?_
  refine wp_skip ?_
  refine then_normal ?_
  refine wp_seq ?_
  refine wp_block ?_
  refine zn1 ?_
  refine zv (.slice (some ⟨g1, 0, none⟩) 6 6) ha ?_
  refine zzv (.int .i64 5) ?_
  refine zzw (.pointer (some ⟨g1, 5, none⟩)) (run_indexAddr (kd := .i64) (i := 5) (n := 6) (c := 6) 5 rfl Tryz.underlying57 Tryz.sizeOf4 (by kernel_rfl) (by kernel_rfl) rfl (by first | assumption | omega) _) ?_
  refine zzw (.bool (agreesR (l.take i) x)) (zl1 0 5) ?_
  refine zzv (.bool (!(agreesR (l.take i) x))) ?_; clear ha; intro a ha
  refine zn2 ?_
  refine zzh (!(agreesR (l.take i) x)) ha ?_ ?_ <;> intro hb
  ·
   rw [hb] at ha; skip
   have ht6 : agreesR (l.take i) x = false := by simpa using hb
   refine zn1 ?_
   refine zv (.int .i64 5) ha ?_
   refine zzv (.int .i64 6) ?_
   refine zzv (.int .i64 ((i : Nat) : Int)) ?_
   refine zzv (.int .i64 6) ?_
   refine zzv (.int .i64 ((i : Nat) : Int)) ?_
   refine zzv (.int .i64 0) ?_; clear ha; intro a ha
   refine zn2 ?_
   refine wp_ret ?_
   refine block_ret ?_
   refine then_ret ?_
   refine then_ret ?_
   refine block_ret ?_
   refine block_ret ?_
   refine then_ret ?_
   refine then_ret ?_
   refine block_ret ?_
   refine then_ret ?_
   refine ret_with (v := .tuple #[.int .i64 6, .int .i64 ((i : Nat) : Int), .int .i64 0]) ha (results_3 rfl ha (res_tmp (by kernel_rfl) (by kernel_rfl)) (res_tmp (by kernel_rfl) (by kernel_rfl)) (res_tmp (by kernel_rfl) (by kernel_rfl))) ?_
   replace s := s.tail
   replace s : St W (L) w := s
   have hrl : ruleR (tiR l i) (l.take i) x = 6 := by unfold ruleR; simp [ht1, ht2, ht3, ht4, ht5, ht6]
   have hff := findR_hit hp.2 hx hrl (by decide)
   exact ⟨[], fun _ _ h => (by rw [hff] at h; cases h), by rw [resR_rule hff]; rfl, s⟩
  rw [hb] at ha; skip
  have ht6 : agreesR (l.take i) x = true := by simpa using hb
  refine wp_skip ?_
  refine block_normal ?_
  refine then_normal ?_
  refine wp_region_lit ?_
  refine zv (.int .i64 5) ha ?_
  refine zzv (.int .i64 6) ?_
  refine zzv (.int .i64 6) ?_; clear ha; intro a ha
  refine zn2 ?_
  show Code.rounds _ _ _ 1 _ _
  rw [rounds_succ]
  refine wp_seq ?_
  refine zn1 ?_
  refine zv (.int .i64 6) ha ?_
  refine zzv (.slice (some ⟨g1, 0, none⟩) 6 6) ?_
  refine zzv (.int .i64 6) ?_
  refine zzv (.bool false) ?_; clear ha; intro a ha
  refine zn2 ?_
  refine wp_false ha rfl (by kernel_rfl) ?_
  refine wp_exit ?_
  refine then_exit ?_
  refine then_exit ?_
  refine block_hit ?_
  refine block_normal ?_
  refine then_normal ?_
  refine wp_region_lit ?_
  refine zv (.int .i64 ((i : Nat) : Int)) ha ?_
  refine zzw (.int .i64 ((i + 1 : Nat) : Int)) zar ?_
  refine zzv (.int .i64 ((i + 1 : Nat) : Int)) ?_; clear ha; intro a ha
  refine zn2 ?_
  replace s := s.tail
  replace s : St W (L) w := s
  have hr0 : ruleR (tiR l i) (l.take i) x = 0 := by unfold ruleR; simp [ht1, ht2, ht3, ht4, ht5, ht6]
  exact ⟨i + 1, (show l.length - (i + 1) < l.length - i by omega), (Has.cons ha (by kernel_rfl) (by kernel_rfl) (Has.cons ha (by kernel_rfl) (by kernel_rfl) (Has.cons ha (by kernel_rfl) (by kernel_rfl) (Has.nil ha)))), s, (show i + 1 ≤ l.length by omega), passed_next hp.2 hx hr0⟩
 rw [hb] at ha; replace hb : ¬ (((i : Nat) : Int) < ((l.length : Nat) : Int)) := of_decide_eq_false hb
 have ht0 := hb
 have hfn : findR (startL l).ti [] l = none := findR_no (by have h := hp.2; rwa [show i = l.length by omega] at h)
 refine wp_exit ?_
 refine then_exit ?_
 refine then_exit ?_
 refine block_hit ?_
 refine then_normal ?_
 refine wp_seq ?_
 refine zn1 ?_
 refine zv (.bool well) ha ?_
 refine zzv (.bool (!well)) ?_; clear ha; intro a ha
 refine zn2 ?_
 refine zzh (!well) ha ?_ ?_ <;> intro hb
 ·
  rw [hb] at ha; skip
  have ht1 : well = false := by simpa using hb
  have hwl : well = false := by simpa using hb
  refine zn1 ?_
  refine zv (.int .i64 0) ha ?_
  refine zzv (.int .i64 0) ?_
  refine zzv (.int .i64 0) ?_; clear ha; intro a ha
  refine zn2 ?_
  refine zzt ?_
  refine ret_with (v := .tuple #[.int .i64 0, .int .i64 0, .int .i64 0]) ha (results_3 rfl ha (res_tmp (by kernel_rfl) (by kernel_rfl)) (res_tmp (by kernel_rfl) (by kernel_rfl)) (res_tmp (by kernel_rfl) (by kernel_rfl))) ?_
  exact ⟨[], fun _ h _ => (by rw [hwl] at h; cases h), by rw [hwl, resR_not hfn]; rfl, s⟩
 rw [hb] at ha; skip
 have ht1 : well = true := by simpa using hb
 have hwl : well = true := by simpa using hb
 refine wp_skip ?_
 refine then_normal ?_
 refine zn1 ?_
 refine zv (.slice A l.length ca) ha ?_; clear ha; intro a ha
 refine zzc ha (rorder_any W _ w A ca l (fun w s => hr w s) hn s) ?_
 rintro _ w ⟨A1, c1, ds, B1, c2, rs, rfl, ho, s⟩
 have hkn : Knows (Own 97 4 A1 ds.length c1 (nvs ds) :: Inn 99 ds :: Own 54 1 B1 rs.length c2 (ats rs) :: InnA rs :: L) (DonesIn A1 ds) := rord_knows ho fun w s => hr w s.tail.tail
 have hbn := ho.bn hn hbe
 have htn := ho.tns
 have hdl := ho.len.1
 have hdl2 := orderR_len l
 have hdns := ho.dns
 refine ⟨_, rfl, ?_⟩; clear ha; intro a ha
 refine zv (.tuple #[.slice A1 ds.length c1, .slice B1 rs.length c2]) ha ?_
 refine zzv (.slice A1 ds.length c1) ?_
 refine zzv (.slice B1 rs.length c2) ?_
 refine zzv (.slice A1 ds.length c1) ?_
 refine zzv (.slice B1 rs.length c2) ?_; clear ha; intro a ha
 refine zn4 ?_
 refine zv (.slice A1 ds.length c1) ha ?_; clear ha; intro a ha
 by_cases h0 : code (tns ds) = 0
 ·
  skip
  refine zzc ha (rcheckT_ok W _ w A1 c1 ds hkn hbn h0 s) ?_
  rintro _ w ⟨o, rfl, hord, s⟩
  refine ⟨_, rfl, ?_⟩; clear ha; intro a ha
  refine zv (.tuple #[.int .i64 ((fst (found (tns ds) o) : Nat) : Int), .int .i64 ((snd (found (tns ds) o) : Nat) : Int), .bool ((found (tns ds) o).isSome), .int .i64 0]) ha ?_
  refine zzv (.int .i64 ((fst (found (tns ds) o) : Nat) : Int)) ?_
  refine zzv (.int .i64 ((snd (found (tns ds) o) : Nat) : Int)) ?_
  refine zzv (.bool ((found (tns ds) o).isSome)) ?_
  refine zzv (.int .i64 0) ?_
  refine zzv (.int .i64 ((fst (found (tns ds) o) : Nat) : Int)) ?_
  refine zzv (.int .i64 ((snd (found (tns ds) o) : Nat) : Int)) ?_
  refine zzv (.bool ((found (tns ds) o).isSome)) ?_
  refine zzv (.int .i64 0) ?_; clear ha; intro a ha
  refine zn2 ?_
  refine wp_seq ?_
  refine zn1 ?_
  refine zv (.int .i64 0) ha ?_
  refine zzv (.bool true) ?_
  refine zzv (.bool true) ?_
  refine zzv (.bool ((found (tns ds) o).isSome)) ?_
  refine zzv (.bool ((found (tns ds) o).isSome)) ?_; clear ha; intro a ha
  refine zn2 ?_
  refine zzh ((found (tns ds) o).isSome) ha ?_ ?_ <;> intro hb
  ·
   rw [hb] at ha; skip
   have ht2 := hb
   obtain ⟨⟨ft, fd⟩, hf⟩ := Option.isSome_iff_exists.1 hb
   obtain ⟨a0, ha0, hpl⟩ := rord_place ho hf hord
   rw [hf, fst_some, snd_some] at ha
   have hm2 : ft < rs.length := (List.getElem?_eq_some_iff.1 ha0).1
   have hm3 : fd < a0.l.length := (List.getElem?_eq_some_iff.1 hpl).1
   replace s := (s.at_ (j := 3) rfl).at_ (j := 3) rfl
   replace s := s.k2_2
   obtain ⟨b1, hB1⟩ := Reads.addr (Own.reads s.1) (by omega)
   subst hB1
   replace s := s.at_ (j := 1) rfl
   dsimp only [List.eraseIdx] at s
   replace s := star_open ha0 s
   obtain ⟨b3, hB3⟩ := Reads.addr (Own.reads s.1) (by omega)
   rw [hB3] at s
   refine wp_seq ?_
   refine wp_region_head 8 (fun w => Reads w 1 (some b1) rs.length (ats rs) ∧ Reads w 1 (some b3) a0.l.length (nats a0.l) ∧ True) (by kernel_rfl) (by decide) ?_
   replace s := s.drew; generalize _root_.Go.World.drew _ = w at s ⊢
   have hS : (fun w => Reads w 1 (some b1) rs.length (ats rs) ∧ Reads w 1 (some b3) a0.l.length (nats a0.l) ∧ True) w := ⟨(Own.reads (s.at_ (j := 2) rfl).1), (Own.reads (s.at_ (j := 0) rfl).1), trivial⟩
   refine yk (i := 0) (.slice (some b1) rs.length c2) ha hS ?_
   refine yyk (i := 1) (.int .i64 ((ft : Nat) : Int)) hS ?_
   refine yyv (i := 2) (.pointer (some (b1.add (ft * 1)))) (fun w hS => (run_indexAddr' (kd := .i64) (i := ((ft : Nat) : Int)) (n := rs.length) (c := c2) ft rfl Tryz.underlying49 Tryz.sizeOf54 (by kernel_rfl) (by kernel_rfl) rfl (by first | assumption | omega) _)) hS ?_
   refine yyv (i := 3) (.slice (some b3) a0.l.length a0.c) (fun w hS => run_loadRow1 (m := ft) hS.1 rfl (by kernel_rfl) Tryz.isAgg54 (by rw [ats_at ha0, hB3])) hS ?_
   refine yyk (i := 4) (.int .i64 ((fd : Nat) : Int)) hS ?_
   refine yyv (i := 5) (.pointer (some (b3.add (fd * 1)))) (fun w hS => (run_indexAddr' (kd := .i64) (i := ((fd : Nat) : Int)) (n := a0.l.length) (c := a0.c) fd rfl Tryz.underlying54 Tryz.sizeOf3 (by kernel_rfl) (by kernel_rfl) rfl (by first | assumption | omega) _)) hS ?_
   refine yyv (i := 6) (.int .i64 ((placeOf (orderR l) ft fd : Nat) : Int)) (fun w hS => run_loadRow1 (m := fd) hS.2.1 rfl (by kernel_rfl) Tryz.isAgg3 (by simp [nats, hpl])) hS ?_
   refine yyk (i := 7) (.int .i64 7) hS ?_; clear ha; intro a ha
   refine Head.done (by kernel_rfl) ?_
   clear hS; simp only [List.drop_succ_cons, List.drop_zero]
   refine zv (.int .i64 ((placeOf (orderR l) ft fd : Nat) : Int)) ha ?_
   refine zzv (.int .i64 0) ?_; clear ha; intro a ha
   refine zn2 ?_
   refine zzt ?_
   refine ret_with (v := .tuple #[.int .i64 7, .int .i64 ((placeOf (orderR l) ft fd : Nat) : Int), .int .i64 0]) ha (results_3 rfl ha (res_tmp (by kernel_rfl) (by kernel_rfl)) (res_tmp (by kernel_rfl) (by kernel_rfl)) (res_tmp (by kernel_rfl) (by kernel_rfl))) ?_
   replace s := s.tail.tail.tail
   replace s : St W (L) w := s
   refine ⟨o, fun h _ _ => htn ▸ hord, ?_, s⟩
   rw [hwl, resR_seven hfn (htn ▸ h0) (htn ▸ hf)]; rfl
  rw [hb] at ha; skip
  have ht2 := hb
  have hno : code (tnsP (orderR l)) = 0 → found (tnsP (orderR l)) o = none := fun _ => by rw [← htn]; simpa using hb
  refine wp_skip ?_
  refine then_normal ?_
  refine wp_seq ?_
  refine wp_seq ?_
  have hord2 : code (tnsP (orderR l)) = 0 → IsOrd (tnsP (orderR l)) o := fun h => htn ▸ hord
  refine wp_region_lit ?_
  refine zv (.int .i64 0) ha ?_; clear ha; intro a ha
  refine zn2 ?_
  refine wp_block ?_
  refine wp_loopG (G := Nat) (fun i a w => Has a 96 [(0, .slice A l.length ca), (10, .slice A1 ds.length c1), (16, .int .i64 ((i : Nat) : Int))] ∧ St W (Own 97 4 A1 ds.length c1 (nvs ds) :: Inn 99 ds :: Own 54 1 B1 rs.length c2 (ats rs) :: InnA rs :: L) w ∧ (i ≤ l.length ∧ quiet l ds i)) (fun i => l.length - i) 0 ?_ ?_
  ·
   exact ⟨(Has.cons ha (by kernel_rfl) (by kernel_rfl) (Has.cons ha (by kernel_rfl) (by kernel_rfl) (Has.cons ha (by kernel_rfl) (by kernel_rfl) (Has.nil ha)))), s, ⟨Nat.zero_le _, fun j y hj _ => by omega⟩⟩
  clear ha s; rintro i a w ⟨ha, s, hp⟩
  refine wp_seq ?_
  refine zn1 ?_
  refine zv (.int .i64 ((i : Nat) : Int)) ha ?_
  refine zzv (.slice A l.length ca) ?_
  refine zzv (.int .i64 ((l.length : Nat) : Int)) ?_
  refine zzv (.bool (decide (((i : Nat) : Int) < ((l.length : Nat) : Int)))) ?_; clear ha; intro a ha
  refine zn2 ?_
  refine zzh (decide (((i : Nat) : Int) < ((l.length : Nat) : Int))) ha ?_ ?_ <;> intro hb
  ·
   rw [hb] at ha; replace hb : (((i : Nat) : Int) < ((l.length : Nat) : Int)) := of_decide_eq_true hb
   have ht3 := hb
   obtain ⟨x, hx⟩ : ∃ x, l[i]? = some x := ⟨_, List.getElem?_eq_getElem (by omega)⟩
   obtain ⟨ad, hA⟩ := Reads.addr (hr _ s.sat.tail.tail.tail.tail).1 (by omega)
   subst hA
   refine wp_skip ?_
   refine then_normal ?_
   refine wp_seq ?_
   refine wp_block ?_
   refine zn1 ?_
   refine zv (.slice (some ad) l.length ca) ha ?_
   refine zzv (.int .i64 ((i : Nat) : Int)) ?_
   refine zzv (.slice A1 ds.length c1) ?_; clear ha; intro a ha
   refine zzc ha (rlate_any W _ w ad ca l (fun w s => hr w s.tail.tail.tail.tail) hn i x hx A1 c1 ds hkn hbn (by omega) s) ?_
   rintro _ w ⟨rfl, s⟩
   refine ⟨_, rfl, ?_⟩; clear ha; intro a ha
   refine zn2 ?_
   refine zzh (lateB (l.take i) x ds) ha ?_ ?_ <;> intro hb
   ·
    rw [hb] at ha; skip
    have ht4 := hb
    refine zn1 ?_
    refine zv (.int .i64 ((i : Nat) : Int)) ha ?_
    refine zzv (.int .i64 8) ?_
    refine zzv (.int .i64 ((i : Nat) : Int)) ?_
    refine zzv (.int .i64 0) ?_; clear ha; intro a ha
    refine zn2 ?_
    refine wp_ret ?_
    refine block_ret ?_
    refine then_ret ?_
    refine then_ret ?_
    refine block_ret ?_
    refine then_ret ?_
    refine ret_with (v := .tuple #[.int .i64 8, .int .i64 ((i : Nat) : Int), .int .i64 0]) ha (results_3 rfl ha (res_tmp (by kernel_rfl) (by kernel_rfl)) (res_tmp (by kernel_rfl) (by kernel_rfl)) (res_tmp (by kernel_rfl) (by kernel_rfl))) ?_
    replace s := s.tail.tail.tail.tail
    replace s : St W (L) w := s
    have hla := lateR_hit hp.2 hx ht4
    rw [hdns] at hla
    refine ⟨o, fun h _ _ => hord2 h, ?_, s⟩
    rw [hwl, resR_late hfn hno, hla]; rfl
   rw [hb] at ha; skip
   have ht4 := hb
   refine wp_skip ?_
   refine block_normal ?_
   refine then_normal ?_
   refine wp_region_lit ?_
   refine zv (.int .i64 ((i : Nat) : Int)) ha ?_
   refine zzw (.int .i64 ((i + 1 : Nat) : Int)) zar ?_
   refine zzv (.int .i64 ((i + 1 : Nat) : Int)) ?_; clear ha; intro a ha
   refine zn2 ?_
   exact ⟨i + 1, (show l.length - (i + 1) < l.length - i by omega), (Has.cons ha (by kernel_rfl) (by kernel_rfl) (Has.cons ha (by kernel_rfl) (by kernel_rfl) (Has.cons ha (by kernel_rfl) (by kernel_rfl) (Has.nil ha)))), s, (show i + 1 ≤ l.length by omega), quiet_next hp.2 hx ht4⟩
  rw [hb] at ha; replace hb : ¬ (((i : Nat) : Int) < ((l.length : Nat) : Int)) := of_decide_eq_false hb
  have ht3 := hb
  refine wp_exit ?_
  refine then_exit ?_
  refine then_exit ?_
  refine block_hit ?_
  refine then_normal ?_
  refine zn1 ?_
  refine zv (.int .i64 0) ha ?_
  refine zzv (.int .i64 0) ?_
  refine zzv (.int .i64 0) ?_; clear ha; intro a ha
  refine zn2 ?_
  refine wp_ret ?_
  refine ret_with (v := .tuple #[.int .i64 0, .int .i64 0, .int .i64 0]) ha (results_3 rfl ha (res_tmp (by kernel_rfl) (by kernel_rfl)) (res_tmp (by kernel_rfl) (by kernel_rfl)) (res_tmp (by kernel_rfl) (by kernel_rfl))) ?_
  replace s := s.tail.tail.tail.tail
  replace s : St W (L) w := s
  have hla := lateR_no (l := l) (ds := ds) (by have h := hp.2; rwa [show i = l.length by omega] at h)
  rw [hdns] at hla
  refine ⟨o, fun h _ _ => hord2 h, ?_, s⟩
  rw [hwl, resR_late hfn hno, hla]; rfl
 skip
 refine zzc ha (rcheckT_no W _ w A1 c1 ds hkn hbn h0 s) ?_
 rintro _ w ⟨rfl, s⟩
 refine ⟨_, rfl, ?_⟩; clear ha; intro a ha
 refine zv (.tuple #[.int .i64 0, .int .i64 0, .bool false, .int .i64 (code (tns ds))]) ha ?_
 refine zzv (.int .i64 0) ?_
 refine zzv (.int .i64 0) ?_
 refine zzv (.bool false) ?_
 refine zzv (.int .i64 (code (tns ds))) ?_
 refine zzv (.int .i64 0) ?_
 refine zzv (.int .i64 0) ?_
 refine zzv (.bool false) ?_
 refine zzv (.int .i64 (code (tns ds))) ?_; clear ha; intro a ha
 refine zn2 ?_
 refine wp_seq ?_
 refine zn1 ?_
 refine zv (.int .i64 (code (tns ds))) ha ?_
 refine zzv (.bool ((code (tns ds)) == (0 : Int))) ?_
 refine zzv (.bool ((code (tns ds)) == (0 : Int))) ?_; clear ha; intro a ha
 rcases Bool.eq_false_or_eq_true ((code (tns ds)) == (0 : Int)) with hb | hb
 ·
  rw [hb] at ha; replace hb := eq_of_beq hb
  have ht2 := hb
  refine zv (.bool false) ha ?_
  refine zzv (.bool false) ?_; clear ha; intro a ha
  refine zn2 ?_
  refine wp_false ha rfl (by kernel_rfl) ?_
  refine wp_skip ?_
  refine then_normal ?_
  refine wp_seq ?_
  refine wp_seq ?_
  obtain ⟨o, ho0⟩ : ∃ o : List Nat, o = [] := ⟨_, rfl⟩
  have hno : code (tnsP (orderR l)) = 0 → found (tnsP (orderR l)) o = none := fun h => absurd (htn ▸ h) h0
  have hord2 : code (tnsP (orderR l)) = 0 → IsOrd (tnsP (orderR l)) o := fun h => absurd (htn ▸ h) h0
  refine wp_region_lit ?_
  refine zv (.int .i64 0) ha ?_; clear ha; intro a ha
  refine zn2 ?_
  refine wp_block ?_
  refine wp_loopG (G := Nat) (fun i a w => Has a 96 [(0, .slice A l.length ca), (10, .slice A1 ds.length c1), (16, .int .i64 ((i : Nat) : Int))] ∧ St W (Own 97 4 A1 ds.length c1 (nvs ds) :: Inn 99 ds :: Own 54 1 B1 rs.length c2 (ats rs) :: InnA rs :: L) w ∧ (i ≤ l.length ∧ quiet l ds i)) (fun i => l.length - i) 0 ?_ ?_
  ·
   exact ⟨(Has.cons ha (by kernel_rfl) (by kernel_rfl) (Has.cons ha (by kernel_rfl) (by kernel_rfl) (Has.cons ha (by kernel_rfl) (by kernel_rfl) (Has.nil ha)))), s, ⟨Nat.zero_le _, fun j y hj _ => by omega⟩⟩
  clear ha s; rintro i a w ⟨ha, s, hp⟩
  refine wp_seq ?_
  refine zn1 ?_
  refine zv (.int .i64 ((i : Nat) : Int)) ha ?_
  refine zzv (.slice A l.length ca) ?_
  refine zzv (.int .i64 ((l.length : Nat) : Int)) ?_
  refine zzv (.bool (decide (((i : Nat) : Int) < ((l.length : Nat) : Int)))) ?_; clear ha; intro a ha
  refine zn2 ?_
  refine zzh (decide (((i : Nat) : Int) < ((l.length : Nat) : Int))) ha ?_ ?_ <;> intro hb
  ·
   rw [hb] at ha; replace hb : (((i : Nat) : Int) < ((l.length : Nat) : Int)) := of_decide_eq_true hb
   have ht3 := hb
   obtain ⟨x, hx⟩ : ∃ x, l[i]? = some x := ⟨_, List.getElem?_eq_getElem (by omega)⟩
   obtain ⟨ad, hA⟩ := Reads.addr (hr _ s.sat.tail.tail.tail.tail).1 (by omega)
   subst hA
   refine wp_skip ?_
   refine then_normal ?_
   refine wp_seq ?_
   refine wp_block ?_
   refine zn1 ?_
   refine zv (.slice (some ad) l.length ca) ha ?_
   refine zzv (.int .i64 ((i : Nat) : Int)) ?_
   refine zzv (.slice A1 ds.length c1) ?_; clear ha; intro a ha
   refine zzc ha (rlate_any W _ w ad ca l (fun w s => hr w s.tail.tail.tail.tail) hn i x hx A1 c1 ds hkn hbn (by omega) s) ?_
   rintro _ w ⟨rfl, s⟩
   refine ⟨_, rfl, ?_⟩; clear ha; intro a ha
   refine zn2 ?_
   refine zzh (lateB (l.take i) x ds) ha ?_ ?_ <;> intro hb
   ·
    rw [hb] at ha; skip
    have ht4 := hb
    refine zn1 ?_
    refine zv (.int .i64 ((i : Nat) : Int)) ha ?_
    refine zzv (.int .i64 8) ?_
    refine zzv (.int .i64 ((i : Nat) : Int)) ?_
    refine zzv (.int .i64 0) ?_; clear ha; intro a ha
    refine zn2 ?_
    refine wp_ret ?_
    refine block_ret ?_
    refine then_ret ?_
    refine then_ret ?_
    refine block_ret ?_
    refine then_ret ?_
    refine ret_with (v := .tuple #[.int .i64 8, .int .i64 ((i : Nat) : Int), .int .i64 0]) ha (results_3 rfl ha (res_tmp (by kernel_rfl) (by kernel_rfl)) (res_tmp (by kernel_rfl) (by kernel_rfl)) (res_tmp (by kernel_rfl) (by kernel_rfl))) ?_
    replace s := s.tail.tail.tail.tail
    replace s : St W (L) w := s
    have hla := lateR_hit hp.2 hx ht4
    rw [hdns] at hla
    refine ⟨o, fun h _ _ => hord2 h, ?_, s⟩
    rw [hwl, resR_late hfn hno, hla]; rfl
   rw [hb] at ha; skip
   have ht4 := hb
   refine wp_skip ?_
   refine block_normal ?_
   refine then_normal ?_
   refine wp_region_lit ?_
   refine zv (.int .i64 ((i : Nat) : Int)) ha ?_
   refine zzw (.int .i64 ((i + 1 : Nat) : Int)) zar ?_
   refine zzv (.int .i64 ((i + 1 : Nat) : Int)) ?_; clear ha; intro a ha
   refine zn2 ?_
   exact ⟨i + 1, (show l.length - (i + 1) < l.length - i by omega), (Has.cons ha (by kernel_rfl) (by kernel_rfl) (Has.cons ha (by kernel_rfl) (by kernel_rfl) (Has.cons ha (by kernel_rfl) (by kernel_rfl) (Has.nil ha)))), s, (show i + 1 ≤ l.length by omega), quiet_next hp.2 hx ht4⟩
  rw [hb] at ha; replace hb : ¬ (((i : Nat) : Int) < ((l.length : Nat) : Int)) := of_decide_eq_false hb
  have ht3 := hb
  refine wp_exit ?_
  refine then_exit ?_
  refine then_exit ?_
  refine block_hit ?_
  refine then_normal ?_
  refine zn1 ?_
  refine zv (.int .i64 0) ha ?_
  refine zzv (.int .i64 0) ?_
  refine zzv (.int .i64 0) ?_; clear ha; intro a ha
  refine zn2 ?_
  refine wp_ret ?_
  refine ret_with (v := .tuple #[.int .i64 0, .int .i64 0, .int .i64 0]) ha (results_3 rfl ha (res_tmp (by kernel_rfl) (by kernel_rfl)) (res_tmp (by kernel_rfl) (by kernel_rfl)) (res_tmp (by kernel_rfl) (by kernel_rfl))) ?_
  replace s := s.tail.tail.tail.tail
  replace s : St W (L) w := s
  have hla := lateR_no (l := l) (ds := ds) (by have h := hp.2; rwa [show i = l.length by omega] at h)
  rw [hdns] at hla
  refine ⟨o, fun h _ _ => hord2 h, ?_, s⟩
  rw [hwl, resR_late hfn hno, hla]; rfl
 rw [hb] at ha; replace hb := ne_of_beq_false hb
 have ht2 := hb
 refine zp ha ?_
 refine zzv (.bool false) ?_; clear ha; intro a ha
 refine zn2 ?_
 refine wp_false ha rfl (by kernel_rfl) ?_
 refine wp_skip ?_
 refine then_normal ?_
 refine wp_seq ?_
 refine wp_seq ?_
 obtain ⟨o, ho0⟩ : ∃ o : List Nat, o = [] := ⟨_, rfl⟩
 have hno : code (tnsP (orderR l)) = 0 → found (tnsP (orderR l)) o = none := fun h => absurd (htn ▸ h) h0
 have hord2 : code (tnsP (orderR l)) = 0 → IsOrd (tnsP (orderR l)) o := fun h => absurd (htn ▸ h) h0
 refine wp_region_lit ?_
 refine zv (.int .i64 0) ha ?_; clear ha; intro a ha
 refine zn2 ?_
 refine wp_block ?_
 refine wp_loopG (G := Nat) (fun i a w => Has a 96 [(0, .slice A l.length ca), (10, .slice A1 ds.length c1), (16, .int .i64 ((i : Nat) : Int))] ∧ St W (Own 97 4 A1 ds.length c1 (nvs ds) :: Inn 99 ds :: Own 54 1 B1 rs.length c2 (ats rs) :: InnA rs :: L) w ∧ (i ≤ l.length ∧ quiet l ds i)) (fun i => l.length - i) 0 ?_ ?_
 ·
  exact ⟨(Has.cons ha (by kernel_rfl) (by kernel_rfl) (Has.cons ha (by kernel_rfl) (by kernel_rfl) (Has.cons ha (by kernel_rfl) (by kernel_rfl) (Has.nil ha)))), s, ⟨Nat.zero_le _, fun j y hj _ => by omega⟩⟩
 clear ha s; rintro i a w ⟨ha, s, hp⟩
 refine wp_seq ?_
 refine zn1 ?_
 refine zv (.int .i64 ((i : Nat) : Int)) ha ?_
 refine zzv (.slice A l.length ca) ?_
 refine zzv (.int .i64 ((l.length : Nat) : Int)) ?_
 refine zzv (.bool (decide (((i : Nat) : Int) < ((l.length : Nat) : Int)))) ?_; clear ha; intro a ha
 refine zn2 ?_
 refine zzh (decide (((i : Nat) : Int) < ((l.length : Nat) : Int))) ha ?_ ?_ <;> intro hb
 ·
  rw [hb] at ha; replace hb : (((i : Nat) : Int) < ((l.length : Nat) : Int)) := of_decide_eq_true hb
  have ht3 := hb
  obtain ⟨x, hx⟩ : ∃ x, l[i]? = some x := ⟨_, List.getElem?_eq_getElem (by omega)⟩
  obtain ⟨ad, hA⟩ := Reads.addr (hr _ s.sat.tail.tail.tail.tail).1 (by omega)
  subst hA
  refine wp_skip ?_
  refine then_normal ?_
  refine wp_seq ?_
  refine wp_block ?_
  refine zn1 ?_
  refine zv (.slice (some ad) l.length ca) ha ?_
  refine zzv (.int .i64 ((i : Nat) : Int)) ?_
  refine zzv (.slice A1 ds.length c1) ?_; clear ha; intro a ha
  refine zzc ha (rlate_any W _ w ad ca l (fun w s => hr w s.tail.tail.tail.tail) hn i x hx A1 c1 ds hkn hbn (by omega) s) ?_
  rintro _ w ⟨rfl, s⟩
  refine ⟨_, rfl, ?_⟩; clear ha; intro a ha
  refine zn2 ?_
  refine zzh (lateB (l.take i) x ds) ha ?_ ?_ <;> intro hb
  ·
   rw [hb] at ha; skip
   have ht4 := hb
   refine zn1 ?_
   refine zv (.int .i64 ((i : Nat) : Int)) ha ?_
   refine zzv (.int .i64 8) ?_
   refine zzv (.int .i64 ((i : Nat) : Int)) ?_
   refine zzv (.int .i64 0) ?_; clear ha; intro a ha
   refine zn2 ?_
   refine wp_ret ?_
   refine block_ret ?_
   refine then_ret ?_
   refine then_ret ?_
   refine block_ret ?_
   refine then_ret ?_
   refine ret_with (v := .tuple #[.int .i64 8, .int .i64 ((i : Nat) : Int), .int .i64 0]) ha (results_3 rfl ha (res_tmp (by kernel_rfl) (by kernel_rfl)) (res_tmp (by kernel_rfl) (by kernel_rfl)) (res_tmp (by kernel_rfl) (by kernel_rfl))) ?_
   replace s := s.tail.tail.tail.tail
   replace s : St W (L) w := s
   have hla := lateR_hit hp.2 hx ht4
   rw [hdns] at hla
   refine ⟨o, fun h _ _ => hord2 h, ?_, s⟩
   rw [hwl, resR_late hfn hno, hla]; rfl
  rw [hb] at ha; skip
  have ht4 := hb
  refine wp_skip ?_
  refine block_normal ?_
  refine then_normal ?_
  refine wp_region_lit ?_
  refine zv (.int .i64 ((i : Nat) : Int)) ha ?_
  refine zzw (.int .i64 ((i + 1 : Nat) : Int)) zar ?_
  refine zzv (.int .i64 ((i + 1 : Nat) : Int)) ?_; clear ha; intro a ha
  refine zn2 ?_
  exact ⟨i + 1, (show l.length - (i + 1) < l.length - i by omega), (Has.cons ha (by kernel_rfl) (by kernel_rfl) (Has.cons ha (by kernel_rfl) (by kernel_rfl) (Has.cons ha (by kernel_rfl) (by kernel_rfl) (Has.nil ha)))), s, (show i + 1 ≤ l.length by omega), quiet_next hp.2 hx ht4⟩
 rw [hb] at ha; replace hb : ¬ (((i : Nat) : Int) < ((l.length : Nat) : Int)) := of_decide_eq_false hb
 have ht3 := hb
 refine wp_exit ?_
 refine then_exit ?_
 refine then_exit ?_
 refine block_hit ?_
 refine then_normal ?_
 refine zn1 ?_
 refine zv (.int .i64 0) ha ?_
 refine zzv (.int .i64 0) ?_
 refine zzv (.int .i64 0) ?_; clear ha; intro a ha
 refine zn2 ?_
 refine wp_ret ?_
 refine ret_with (v := .tuple #[.int .i64 0, .int .i64 0, .int .i64 0]) ha (results_3 rfl ha (res_tmp (by kernel_rfl) (by kernel_rfl)) (res_tmp (by kernel_rfl) (by kernel_rfl)) (res_tmp (by kernel_rfl) (by kernel_rfl))) ?_
 replace s := s.tail.tail.tail.tail
 replace s : St W (L) w := s
 have hla := lateR_no (l := l) (ds := ds) (by have h := hp.2; rwa [show i = l.length by omega] at h)
 rw [hdns] at hla
 refine ⟨o, fun h _ _ => hord2 h, ?_, s⟩
 rw [hwl, resR_late hfn hno, hla]; rfl

end Go.Proofs.YtfcbjcohepkkfaaGreat.B

import Derived.Test.YtfcbjcohepkkfaaGreatJ12
import Derived.Test.YtfcbjcohepkkfaaGreatSepY
namespace Go.Proofs.YtfcbjcohepkkfaaGreat.B
open Go.RowKit Go.Maps Go.Sort Go.Shelf Go.Proofs.YtfcbjcohepkkfaaGreat.Sep Go.Proofs.YtfcbjcohepkkfaaGreat.P
set_option linter.unusedVariables false
set_option linter.unusedSimpArgs false
/-! ### Find, whole -/
theorem lateI_some {o : Option Nat} (h : 0 ≤ lateI o) : ∃ i, o = some i := by cases o with | none => simp [lateI] at h | some i => exact ⟨i, rfl⟩
theorem lateI_none {o : Option Nat} (h : ¬ 0 ≤ lateI o) : o = none := by cases o with | none => rfl | some i => simp [lateI] at h
theorem fst_some (t d : Nat) : fst (some (t, d)) = t := rfl
theorem snd_some (t d : Nat) : snd (some (t, d)) = d := rfl
theorem resF_rule {l : List Ev} {p : Nat × Nat} (h : findL (startL l) l 0 = some p) (well : Bool) (o : List Nat) : resF l well o = p := by unfold resF; rw [h]
theorem resF_not {l : List Ev} (h : findL (startL l) l 0 = none) (o : List Nat) : resF l false o = (0, 0) := by unfold resF; rw [h]; rfl
theorem resF_seven {l : List Ev} (h : findL (startL l) l 0 = none) {o : List Nat} {t d : Nat} (h0 : code (tnsP (ordL (txsL l) l)) = 0) (hf : found (tnsP (ordL (txsL l) l)) o = some (t, d)) : resF l true o = (7, placeOf (ordL (txsL l) l) t d) := by
 unfold resF; rw [h]; simp only [if_true]; unfold wellF; rw [if_pos h0, hf]
theorem resF_late {l : List Ev} (h : findL (startL l) l 0 = none) {o : List Nat} (h0 : code (tnsP (ordL (txsL l) l)) = 0 → found (tnsP (ordL (txsL l) l)) o = none) : resF l true o = match lateL (knF (dnsP (ordL (txsL l) l))) [] l 0 with | some i => (8, i) | none => (0, 0) := by
 unfold resF; rw [h]; simp only [if_true]; unfold wellF
 by_cases e : code (tnsP (ordL (txsL l) l)) = 0
 ·
  rw [if_pos e, h0 e]; rfl
 rw [if_neg e]; rfl

set_option maxRecDepth 100000 in
set_option maxHeartbeats 4000000 in
theorem find_any (W : World) (hW : W.drawn = 0) (L : List Chunk) (w : World) (A : Option Addr) (ca : Nat) (l : List Ev) (hr : Knows L (EvsIn A l)) (hn : l.length ≤ 5000) (well : Bool) (hi : well = true → ∀ x ∈ l, -9223372036854775808 ≤ x.id ∧ x.id ≤ 9223372036854775807) (hbe : well = true → Be l) (s : St W L w) :
  Calls Tryz.prog 5 #[.slice A l.length ca, .bool well] w fun e w' => ∃ o, (code (tnsP (ordL (txsL l) l)) = 0 → well = true → findL (startL l) l 0 = none → IsOrd (tnsP (ordL (txsL l) l)) o) ∧ e = .returned (resV (resF l well o)) ∧ St W L w' := by
 refine enter_args (l := [.slice A l.length ca, .bool well]) Tryz.func5 rfl rfl (Nat.le_of_ble_eq_true rfl) ?_
 intro a ha; replace ha : Has a 96 [(0, .slice A l.length ca), (1, .bool well)] := ha
 refine zn1 ?_
 refine zv (.int .i64 0) ha ?_
 refine zzv (.int .i64 0) ?_
 refine zzv (.int .i64 0) ?_; clear ha; intro a ha
 refine zn2 ?_
 refine wp_seq ?_
 refine zn1 ?_
 refine zv (.slice A l.length ca) ha ?_
 refine zzv (.int .i64 ((l.length : Nat) : Int)) ?_
 refine zzw (.bool false) (run_known (show (decide (((l.length : Nat) : Int) > (5000 : Int))) = false from decide_eq_false (by omega)) (by kernel_rfl)) ?_; clear ha; intro a ha
 refine zn2 ?_
 refine wp_false ha rfl (by kernel_rfl) ?_
 refine wp_skip ?_
 refine then_normal ?_
 refine zn1 ?_
 refine zze ha (ex_makeMap Tryz.prog 3 encI s rfl) ?_
 clear ha; rintro _ w a ⟨g1, rfl, s⟩ ha
 refine zze ha (ex_makeMap Tryz.prog 3 encI s rfl) ?_
 clear ha; rintro _ w a ⟨g2, rfl, s⟩ ha
 refine zv (.agg #[.int .i64 0, .int .i64 0, .map (some g1), .map (some g2)]) ha ?_; clear ha; intro a ha
 refine zze ha (ex_box [.int .i64 0, .int .i64 0, .map (some g1), .map (some g2)] s rfl (by kernel_rfl)) ?_
 clear ha; rintro _ w a ⟨g3, rfl, s⟩ ha
 refine zv (.pointer (some ⟨g3, 0, none⟩)) ha ?_; clear ha; intro a ha
 refine zn2 ?_
 refine wp_between (fun a w => Has a 96 [(0, .slice A l.length ca), (1, .bool well), (7, .pointer (some ⟨g3, 0, none⟩))] ∧ St W (.blk g3 [.int .i64 ((startL l).ti), .int .i64 0, .map (some g1), .map (some g2)] 43 :: MapT Tryz.prog 3 encI g1 [] :: MapT Tryz.prog 3 encI g2 [] :: L) w) ?_ ?_
 ·
  skip
  refine zn1 ?_
  refine zv (.slice A l.length ca) ha ?_
  refine zzv (.int .i64 ((l.length : Nat) : Int)) ?_
  refine zzv (.bool (decide (((l.length : Nat) : Int) > (0 : Int)))) ?_; clear ha; intro a ha
  refine zn2 ?_
  refine zzh (decide (((l.length : Nat) : Int) > (0 : Int))) ha ?_ ?_ <;> intro hb
  ·
   rw [hb] at ha; replace hb : (((l.length : Nat) : Int) > (0 : Int)) := of_decide_eq_true hb
   obtain ⟨x0, hx0⟩ : ∃ x0, l[0]? = some x0 := ⟨_, List.getElem?_eq_getElem (by omega)⟩
   have hst : (startL l).ti = x0.ti := by unfold startL; rw [List.head?_eq_getElem?, hx0]; rfl
   obtain ⟨ad, hA⟩ := Reads.addr (hr _ s.sat.tail.tail.tail).1 (by omega)
   subst hA
   refine wp_region_lit ?_
   refine zv (.pointer (some ⟨g3, 0, none⟩)) ha ?_
   refine zzv (.slice (some ad) l.length ca) ?_
   refine zzw (.pointer (some (ad.add (0 * 16)))) (run_indexAddr' (kd := .i64) (i := 0) (n := l.length) (c := ca) 0 rfl Tryz.underlying22 Tryz.sizeOf37 (by kernel_rfl) (by kernel_rfl) rfl (by first | assumption | omega) _) ?_
   refine zzw (.pointer (some (ad.add (0 * 16 + 0)))) (zfa 3) ?_
   refine zzw (.int .i64 x0.ti) (zla (0 * 16 + 0) ((hr _ s.sat.tail.tail.tail).1) (by rw [evs_at hx0 (by omega)]; rfl)) ?_
   refine zzv (.pointer (some ⟨g3, 0, none⟩)) ?_
   refine zzv (.pointer (some ⟨g3, 0, none⟩)) ?_; clear ha; intro a ha
   refine zzd ha (ex_store (of_ := 0) 0 [.int .i64 x0.ti] s rfl rfl (by kernel_rfl) (by kernel_rfl) (Tryz.sizeOf3 _) rfl (by simp [Value.oneCell']) (Nat.le_of_ble_eq_true rfl)) ?_
   clear ha; rintro w a s ha
   dsimp only [List.set, putAt] at s
   refine zn2 ?_
   replace s := ((s.at_ (j := 1) rfl).at_ (j := 2) rfl).at_ (j := 2) rfl
   dsimp only [List.eraseIdx] at s
   exact ⟨(Has.cons ha (by kernel_rfl) (by kernel_rfl) (Has.cons ha (by kernel_rfl) (by kernel_rfl) (Has.cons ha (by kernel_rfl) (by kernel_rfl) (Has.nil ha)))), by rw [hst]; exact s⟩
  rw [hb] at ha; replace hb : ¬ (((l.length : Nat) : Int) > (0 : Int)) := of_decide_eq_false hb
  have hst : (startL l).ti = 0 := by rw [List.length_eq_zero_iff.1 (by omega : l.length = 0)]; rfl
  refine wp_skip ?_
  refine then_normal ?_
  replace s := ((s.at_ (j := 1) rfl).at_ (j := 2) rfl).at_ (j := 2) rfl
  dsimp only [List.eraseIdx] at s
  exact ⟨(Has.cons ha (by kernel_rfl) (by kernel_rfl) (Has.cons ha (by kernel_rfl) (by kernel_rfl) (Has.cons ha (by kernel_rfl) (by kernel_rfl) (Has.nil ha)))), by rw [hst]; exact s⟩
 clear ha s; rintro a w ⟨ha, s⟩
 refine zn1 ?_
 refine zv (.agg #[.func (.func 11) #[] #[], .func (.func 12) #[] #[], .func (.func 13) #[] #[], .func (.func 14) #[] #[], .func (.func 15) #[] #[], .func (.func 16) #[] #[]]) ha ?_; clear ha; intro a ha
 refine zze ha (ex_alloc [.nilFunc, .nilFunc, .nilFunc, .nilFunc, .nilFunc, .nilFunc] s rfl (Tryz.zeroValue46 _) (by kernel_rfl)) ?_
 clear ha; rintro _ w a ⟨g4, rfl, s⟩ ha
 refine zzd ha (ex_store (of_ := 0) 0 [.func (.func 11) #[] #[], .func (.func 12) #[] #[], .func (.func 13) #[] #[], .func (.func 14) #[] #[], .func (.func 15) #[] #[], .func (.func 16) #[] #[]] s rfl rfl (by kernel_rfl) (by kernel_rfl) (Tryz.sizeOf46 _) rfl (by simp [Value.oneCell']) (Nat.le_of_ble_eq_true rfl)) ?_
 clear ha; rintro w a s ha
 dsimp only [List.set, putAt] at s
 refine zn2 ?_
 refine wp_seq ?_
 refine zn1 ?_
 refine zv (.slice A l.length ca) ha ?_
 refine zzv (.int .i64 ((l.length : Nat) : Int)) ?_
 refine zzv (.int .i64 0) ?_; clear ha; intro a ha
 refine zn2 ?_
 refine wp_block ?_
 replace s := Blks.nil s
 replace s := ((((s.at_ (j := 1) rfl).at_ (j := 1) rfl).at_ (j := 4) rfl).at_ (j := 4) rfl).at_ (j := 4) rfl
 dsimp only [List.eraseIdx] at s
 refine wp_loopG (G := (Nat × Look × List (Int × Value) × List (Int × Nat × Tx))) (fun ⟨i, k, Dd, T⟩ a w => Has a 96 [(0, .slice A l.length ca), (1, .bool well), (7, .pointer (some ⟨g3, 0, none⟩)), (8, .pointer (some ⟨g4, 0, none⟩)), (38, .slice A l.length ca), (39, .int .i64 ((l.length : Nat) : Int)), (40, .int .i64 ((i : Nat) : Int))] ∧ St W (.blk g3 [.int .i64 k.ti, .int .i64 k.most, .map (some g1), .map (some g2)] 43 :: MapT Tryz.prog 3 encI g1 Dd :: MapT Tryz.prog 3 encI g2 (T.map ent) :: Blks T :: .blk g4 [.func (.func 11) #[] #[], .func (.func 12) #[] #[], .func (.func 13) #[] #[], .func (.func 14) #[] #[], .func (.func 15) #[] #[], .func (.func 16) #[] #[]] 46 :: L) w ∧ (i ≤ l.length ∧ k = (l.take i).foldl seeL (startL l) ∧ findL (startL l) (l.take i) 0 = none ∧ LkOk k Dd T (6 * i))) (fun ⟨i, k, Dd, T⟩ => l.length - i) (0, startL l, [], []) ?_ ?_
 ·
  exact ⟨(Has.cons ha (by kernel_rfl) (by kernel_rfl) (Has.cons ha (by kernel_rfl) (by kernel_rfl) (Has.cons ha (by kernel_rfl) (by kernel_rfl) (Has.cons ha (by kernel_rfl) (by kernel_rfl) (Has.cons ha (by kernel_rfl) (by kernel_rfl) (Has.cons ha (by kernel_rfl) (by kernel_rfl) (Has.cons ha (by kernel_rfl) (by kernel_rfl) (Has.nil ha)))))))), (by first | exact s | (rw [hst]; exact s)), ⟨Nat.zero_le _, rfl, rfl, LkOk.start l⟩⟩
 clear ha s; rintro ⟨i, k, Dd, T⟩ a w ⟨ha, s, hp⟩
 refine zn1 ?_
 refine zv (.bool (decide (((i : Nat) : Int) < ((l.length : Nat) : Int)))) ha ?_; clear ha; intro a ha
 refine zn2 ?_
 refine wp_seq ?_
 refine zzh (decide (((i : Nat) : Int) < ((l.length : Nat) : Int))) ha ?_ ?_ <;> intro hb
 ·
  rw [hb] at ha; replace hb : (((i : Nat) : Int) < ((l.length : Nat) : Int)) := of_decide_eq_true hb
  have hk := hp.2.2.2
  obtain ⟨x, hx⟩ : ∃ x, l[i]? = some x := ⟨_, List.getElem?_eq_getElem (by omega)⟩
  obtain ⟨ad, hA⟩ := Reads.addr (hr _ s.sat.tail.tail.tail.tail.tail).1 (by omega)
  subst hA
  refine wp_skip ?_
  refine then_normal ?_
  refine wp_seq ?_
  refine wp_block ?_
  refine zn1 ?_
  refine zv (.int .i64 ((i : Nat) : Int)) ha ?_
  refine zzw (.pointer (some (ad.add (i * 16)))) (run_indexAddr' (kd := .i64) (i := ((i : Nat) : Int)) (n := l.length) (c := ca) i rfl Tryz.underlying22 Tryz.sizeOf37 (by kernel_rfl) (by kernel_rfl) rfl (by first | assumption | omega) _) ?_
  refine zzw (.agg (evv x).toArray) (run_loadAtN (i := i * 16) (evv x) ((hr _ s.sat.tail.tail.tail.tail.tail).1) rfl (by kernel_rfl) Tryz.isAgg37 Tryz.sizeOf37 (fun q_ hq_ => evs_at hx hq_) rfl) ?_; clear ha; intro a ha
  refine zze ha (ex_alloc (evv ⟨0, 0, 0, 0, 0, 0, [], [], [], [], false, [], none, 0, 0, 0, 0, 0⟩) s rfl (Tryz.zeroValue37 _) (by kernel_rfl)) ?_
  clear ha; rintro _ w a ⟨g5, rfl, s⟩ ha
  refine zv (.int .i64 ((i : Nat) : Int)) ha ?_; clear ha; intro a ha
  refine zzd ha (ex_store (of_ := 0) 0 (evv x) s rfl rfl (by kernel_rfl) (by kernel_rfl) (Tryz.sizeOf37 _) rfl (by simp [evv, txv, Value.oneCell']) (Nat.le_of_ble_eq_true rfl)) ?_
  clear ha; rintro w a s ha
  dsimp only [List.set, putAt] at s
  refine zn2 ?_
  refine wp_seq ?_
  refine zn1 ?_
  refine zw (.agg #[.func (.func 11) #[] #[], .func (.func 12) #[] #[], .func (.func 13) #[] #[], .func (.func 14) #[] #[], .func (.func 15) #[] #[], .func (.func 16) #[] #[]]) ha (zln 5 0) ?_
  refine zzv (.int .i64 0) ?_; clear ha; intro a ha
  refine zn2 ?_
  refine wp_block ?_
  refine wp_loop_rounds 7 ?_
  show Code.rounds _ _ _ 7 _ _
  rw [rounds_succ]
  refine zn1 ?_
  refine zv (.bool true) ha ?_; clear ha; intro a ha
  refine zn2 ?_
  refine wp_seq ?_
  refine wp_true ha rfl (by kernel_rfl) ?_
  refine wp_skip ?_
  refine then_normal ?_
  refine wp_seq ?_
  refine wp_block ?_
  refine zn1 ?_
  refine zv (.int .i64 0) ha ?_
  refine zzv (.func (.func 11) #[] #[]) ?_
  refine zzv (.int .i64 0) ?_
  refine zzv (.func (.func 11) #[] #[]) ?_; clear ha; intro a ha
  refine zn4 ?_
  refine zv (.func (.func 11) #[] #[]) ha ?_
  refine zzv (.pointer (some ⟨g3, 0, none⟩)) ?_
  refine zzw (.agg (evv x).toArray) (zln 0 0) ?_; clear ha; intro a ha
  replace s := (((s.at_ (j := 4) rfl).at_ (j := 4) rfl).at_ (j := 4) rfl).at_ (j := 4) rfl
  dsimp only [List.eraseIdx] at s
  refine zzc ha (may_any W _ w g3 g1 g2 k Dd T (6 * i) hk (by omega) x s) ?_
  rintro _ w ⟨rfl, s⟩
  refine ⟨_, rfl, ?_⟩; clear ha; intro a ha
  refine zv (.bool (!(mayB k.ti x))) ha ?_; clear ha; intro a ha
  refine zn2 ?_
  refine zzh (!(mayB k.ti x)) ha ?_ ?_ <;> intro hb
  ·
   rw [hb] at ha; skip
   have hb7 : (mayB k.ti x) = false := by simpa using hb
   have hrl : ruleL k x = 1 := by unfold ruleL; simp [hb7]
   refine zn1 ?_
   refine zv (.int .i64 0) ha ?_
   refine zzv (.int .i64 1) ?_
   refine zzv (.int .i64 ((i : Nat) : Int)) ?_
   refine zzv (.int .i64 1) ?_
   refine zzv (.int .i64 ((i : Nat) : Int)) ?_
   refine zzv (.int .i64 0) ?_; clear ha; intro a ha
   refine zn2 ?_
   refine wp_ret ?_
   refine block_ret ?_
   refine then_ret ?_
   refine then_ret ?_
   refine block_ret ?_
   refine then_ret ?_
   refine block_ret ?_
   refine then_ret ?_
   refine then_ret ?_
   refine block_ret ?_
   refine then_ret ?_
   refine ret_with (v := .tuple #[.int .i64 1, .int .i64 ((i : Nat) : Int), .int .i64 0]) ha (results_3 rfl ha (res_tmp (by kernel_rfl) (by kernel_rfl)) (res_tmp (by kernel_rfl) (by kernel_rfl)) (res_tmp (by kernel_rfl) (by kernel_rfl))) ?_
   replace s := s.tail.tail.tail.tail.tail.tail
   replace s : St W (L) w := s
   rw [hp.2.1] at hrl
   have hff := find_at hp.2.2.1 hx hrl (by decide)
   exact ⟨[], fun _ _ h => (by rw [hff] at h; cases h), by rw [resF_rule hff]; rfl, s⟩
  rw [hb] at ha; skip
  have h1 : (mayB k.ti x) = true := by simpa using hb
  refine wp_skip ?_
  refine block_normal ?_
  refine then_normal ?_
  refine wp_region_lit ?_
  refine zv (.int .i64 1) ha ?_
  refine zzv (.int .i64 1) ?_; clear ha; intro a ha
  refine zn2 ?_
  show Code.rounds _ _ _ 6 _ _
  rw [rounds_succ]
  refine zn1 ?_
  refine zv (.bool true) ha ?_; clear ha; intro a ha
  refine zn2 ?_
  refine wp_seq ?_
  refine wp_true ha rfl (by kernel_rfl) ?_
  refine wp_skip ?_
  refine then_normal ?_
  refine wp_seq ?_
  refine wp_block ?_
  refine zn1 ?_
  refine zv (.int .i64 1) ha ?_
  refine zzv (.func (.func 12) #[] #[]) ?_
  refine zzv (.int .i64 1) ?_
  refine zzv (.func (.func 12) #[] #[]) ?_; clear ha; intro a ha
  refine zn4 ?_
  refine zv (.func (.func 12) #[] #[]) ha ?_
  refine zzv (.pointer (some ⟨g3, 0, none⟩)) ?_
  refine zzw (.agg (evv x).toArray) (zln 4 0) ?_; clear ha; intro a ha
  refine zzc ha (nodes_any W _ w g3 g1 g2 k Dd T (6 * i) hk (by omega) x (may_node h1).2.2.2 s) ?_
  rintro _ w ⟨rfl, s⟩
  refine ⟨_, rfl, ?_⟩; clear ha; intro a ha
  refine zv (.bool (!(nodesB k.dn x))) ha ?_; clear ha; intro a ha
  refine zn2 ?_
  refine zzh (!(nodesB k.dn x)) ha ?_ ?_ <;> intro hb
  ·
   rw [hb] at ha; skip
   have hb7 : (nodesB k.dn x) = false := by simpa using hb
   have hrl : ruleL k x = 2 := by unfold ruleL; simp [h1, hb7]
   refine zn1 ?_
   refine zv (.int .i64 1) ha ?_
   refine zzv (.int .i64 2) ?_
   refine zzv (.int .i64 ((i : Nat) : Int)) ?_
   refine zzv (.int .i64 2) ?_
   refine zzv (.int .i64 ((i : Nat) : Int)) ?_
   refine zzv (.int .i64 0) ?_; clear ha; intro a ha
   refine zn2 ?_
   refine wp_ret ?_
   refine block_ret ?_
   refine then_ret ?_
   refine then_ret ?_
   refine block_ret ?_
   refine then_ret ?_
   refine block_ret ?_
   refine then_ret ?_
   refine then_ret ?_
   refine block_ret ?_
   refine then_ret ?_
   refine ret_with (v := .tuple #[.int .i64 2, .int .i64 ((i : Nat) : Int), .int .i64 0]) ha (results_3 rfl ha (res_tmp (by kernel_rfl) (by kernel_rfl)) (res_tmp (by kernel_rfl) (by kernel_rfl)) (res_tmp (by kernel_rfl) (by kernel_rfl))) ?_
   replace s := s.tail.tail.tail.tail.tail.tail
   replace s : St W (L) w := s
   rw [hp.2.1] at hrl
   have hff := find_at hp.2.2.1 hx hrl (by decide)
   exact ⟨[], fun _ _ h => (by rw [hff] at h; cases h), by rw [resF_rule hff]; rfl, s⟩
  rw [hb] at ha; skip
  have h2 : (nodesB k.dn x) = true := by simpa using hb
  refine wp_skip ?_
  refine block_normal ?_
  refine then_normal ?_
  refine wp_region_lit ?_
  refine zv (.int .i64 2) ha ?_
  refine zzv (.int .i64 2) ?_; clear ha; intro a ha
  refine zn2 ?_
  show Code.rounds _ _ _ 5 _ _
  rw [rounds_succ]
  refine zn1 ?_
  refine zv (.bool true) ha ?_; clear ha; intro a ha
  refine zn2 ?_
  refine wp_seq ?_
  refine wp_true ha rfl (by kernel_rfl) ?_
  refine wp_skip ?_
  refine then_normal ?_
  refine wp_seq ?_
  refine wp_block ?_
  refine zn1 ?_
  refine zv (.int .i64 2) ha ?_
  refine zzv (.func (.func 13) #[] #[]) ?_
  refine zzv (.int .i64 2) ?_
  refine zzv (.func (.func 13) #[] #[]) ?_; clear ha; intro a ha
  refine zn4 ?_
  refine zv (.func (.func 13) #[] #[]) ha ?_
  refine zzv (.pointer (some ⟨g3, 0, none⟩)) ?_
  refine zzw (.agg (evv x).toArray) (zln 4 0) ?_; clear ha; intro a ha
  refine zzc ha (begins_any W _ w g3 g1 g2 k Dd T (6 * i) hk (by omega) x s) ?_
  rintro _ w ⟨rfl, s⟩
  refine ⟨_, rfl, ?_⟩; clear ha; intro a ha
  refine zv (.bool (!(beginsB k.most x))) ha ?_; clear ha; intro a ha
  refine zn2 ?_
  refine zzh (!(beginsB k.most x)) ha ?_ ?_ <;> intro hb
  ·
   rw [hb] at ha; skip
   have hb7 : (beginsB k.most x) = false := by simpa using hb
   have hrl : ruleL k x = 3 := by unfold ruleL; simp [h1, h2, hb7]
   refine zn1 ?_
   refine zv (.int .i64 2) ha ?_
   refine zzv (.int .i64 3) ?_
   refine zzv (.int .i64 ((i : Nat) : Int)) ?_
   refine zzv (.int .i64 3) ?_
   refine zzv (.int .i64 ((i : Nat) : Int)) ?_
   refine zzv (.int .i64 0) ?_; clear ha; intro a ha
   refine zn2 ?_
   refine wp_ret ?_
   refine block_ret ?_
   refine then_ret ?_
   refine then_ret ?_
   refine block_ret ?_
   refine then_ret ?_
   refine block_ret ?_
   refine then_ret ?_
   refine then_ret ?_
   refine block_ret ?_
   refine then_ret ?_
   refine ret_with (v := .tuple #[.int .i64 3, .int .i64 ((i : Nat) : Int), .int .i64 0]) ha (results_3 rfl ha (res_tmp (by kernel_rfl) (by kernel_rfl)) (res_tmp (by kernel_rfl) (by kernel_rfl)) (res_tmp (by kernel_rfl) (by kernel_rfl))) ?_
   replace s := s.tail.tail.tail.tail.tail.tail
   replace s : St W (L) w := s
   rw [hp.2.1] at hrl
   have hff := find_at hp.2.2.1 hx hrl (by decide)
   exact ⟨[], fun _ _ h => (by rw [hff] at h; cases h), by rw [resF_rule hff]; rfl, s⟩
  rw [hb] at ha; skip
  have h3 : (beginsB k.most x) = true := by simpa using hb
  refine wp_skip ?_
  refine block_normal ?_
  refine then_normal ?_
  refine wp_region_lit ?_
  refine zv (.int .i64 3) ha ?_
  refine zzv (.int .i64 3) ?_; clear ha; intro a ha
  refine zn2 ?_
  show Code.rounds _ _ _ 4 _ _
  rw [rounds_succ]
  refine zn1 ?_
  refine zv (.bool true) ha ?_; clear ha; intro a ha
  refine zn2 ?_
  refine wp_seq ?_
  refine wp_true ha rfl (by kernel_rfl) ?_
  refine wp_skip ?_
  refine then_normal ?_
  refine wp_seq ?_
  refine wp_block ?_
  refine zn1 ?_
  refine zv (.int .i64 3) ha ?_
  refine zzv (.func (.func 14) #[] #[]) ?_
  refine zzv (.int .i64 3) ?_
  refine zzv (.func (.func 14) #[] #[]) ?_; clear ha; intro a ha
  refine zn4 ?_
  refine zv (.func (.func 14) #[] #[]) ha ?_
  refine zzv (.pointer (some ⟨g3, 0, none⟩)) ?_
  refine zzw (.agg (evv x).toArray) (zln 4 0) ?_; clear ha; intro a ha
  refine zzc ha (asks_any W _ w g3 g1 g2 k Dd T (6 * i) hk (by omega) x h1 s) ?_
  rintro _ w ⟨T, rfl, hk, s⟩
  refine ⟨_, rfl, ?_⟩; clear ha; intro a ha
  refine zv (.bool (!(asksB (k.tx x.id) x))) ha ?_; clear ha; intro a ha
  refine zn2 ?_
  refine zzh (!(asksB (k.tx x.id) x)) ha ?_ ?_ <;> intro hb
  ·
   rw [hb] at ha; skip
   have hb7 : (asksB (k.tx x.id) x) = false := by simpa using hb
   have hrl : ruleL k x = 4 := by unfold ruleL; simp [h1, h2, h3, hb7]
   refine zn1 ?_
   refine zv (.int .i64 3) ha ?_
   refine zzv (.int .i64 4) ?_
   refine zzv (.int .i64 ((i : Nat) : Int)) ?_
   refine zzv (.int .i64 4) ?_
   refine zzv (.int .i64 ((i : Nat) : Int)) ?_
   refine zzv (.int .i64 0) ?_; clear ha; intro a ha
   refine zn2 ?_
   refine wp_ret ?_
   refine block_ret ?_
   refine then_ret ?_
   refine then_ret ?_
   refine block_ret ?_
   refine then_ret ?_
   refine block_ret ?_
   refine then_ret ?_
   refine then_ret ?_
   refine block_ret ?_
   refine then_ret ?_
   refine ret_with (v := .tuple #[.int .i64 4, .int .i64 ((i : Nat) : Int), .int .i64 0]) ha (results_3 rfl ha (res_tmp (by kernel_rfl) (by kernel_rfl)) (res_tmp (by kernel_rfl) (by kernel_rfl)) (res_tmp (by kernel_rfl) (by kernel_rfl))) ?_
   replace s := s.tail.tail.tail.tail.tail.tail
   replace s : St W (L) w := s
   rw [hp.2.1] at hrl
   have hff := find_at hp.2.2.1 hx hrl (by decide)
   exact ⟨[], fun _ _ h => (by rw [hff] at h; cases h), by rw [resF_rule hff]; rfl, s⟩
  rw [hb] at ha; skip
  have h4 : (asksB (k.tx x.id) x) = true := by simpa using hb
  refine wp_skip ?_
  refine block_normal ?_
  refine then_normal ?_
  refine wp_region_lit ?_
  refine zv (.int .i64 4) ha ?_
  refine zzv (.int .i64 4) ?_; clear ha; intro a ha
  refine zn2 ?_
  show Code.rounds _ _ _ 3 _ _
  rw [rounds_succ]
  refine zn1 ?_
  refine zv (.bool true) ha ?_; clear ha; intro a ha
  refine zn2 ?_
  refine wp_seq ?_
  refine wp_true ha rfl (by kernel_rfl) ?_
  refine wp_skip ?_
  refine then_normal ?_
  refine wp_seq ?_
  refine wp_block ?_
  refine zn1 ?_
  refine zv (.int .i64 4) ha ?_
  refine zzv (.func (.func 15) #[] #[]) ?_
  refine zzv (.int .i64 4) ?_
  refine zzv (.func (.func 15) #[] #[]) ?_; clear ha; intro a ha
  refine zn4 ?_
  refine zv (.func (.func 15) #[] #[]) ha ?_
  refine zzv (.pointer (some ⟨g3, 0, none⟩)) ?_
  refine zzw (.agg (evv x).toArray) (zln 4 0) ?_; clear ha; intro a ha
  refine zzc ha (answers_any W _ w g3 g1 g2 k Dd T (6 * i + 1) hk (by omega) x h1 s) ?_
  rintro _ w ⟨T, rfl, hk, s⟩
  refine ⟨_, rfl, ?_⟩; clear ha; intro a ha
  refine zv (.bool (!(answersB (k.tx x.id) x))) ha ?_; clear ha; intro a ha
  refine zn2 ?_
  refine zzh (!(answersB (k.tx x.id) x)) ha ?_ ?_ <;> intro hb
  ·
   rw [hb] at ha; skip
   have hb7 : (answersB (k.tx x.id) x) = false := by simpa using hb
   have hrl : ruleL k x = 5 := by unfold ruleL; simp [h1, h2, h3, h4, hb7]
   refine zn1 ?_
   refine zv (.int .i64 4) ha ?_
   refine zzv (.int .i64 5) ?_
   refine zzv (.int .i64 ((i : Nat) : Int)) ?_
   refine zzv (.int .i64 5) ?_
   refine zzv (.int .i64 ((i : Nat) : Int)) ?_
   refine zzv (.int .i64 0) ?_; clear ha; intro a ha
   refine zn2 ?_
   refine wp_ret ?_
   refine block_ret ?_
   refine then_ret ?_
   refine then_ret ?_
   refine block_ret ?_
   refine then_ret ?_
   refine block_ret ?_
   refine then_ret ?_
   refine then_ret ?_
   refine block_ret ?_
   refine then_ret ?_
   refine ret_with (v := .tuple #[.int .i64 5, .int .i64 ((i : Nat) : Int), .int .i64 0]) ha (results_3 rfl ha (res_tmp (by kernel_rfl) (by kernel_rfl)) (res_tmp (by kernel_rfl) (by kernel_rfl)) (res_tmp (by kernel_rfl) (by kernel_rfl))) ?_
   replace s := s.tail.tail.tail.tail.tail.tail
   replace s : St W (L) w := s
   rw [hp.2.1] at hrl
   have hff := find_at hp.2.2.1 hx hrl (by decide)
   exact ⟨[], fun _ _ h => (by rw [hff] at h; cases h), by rw [resF_rule hff]; rfl, s⟩
  rw [hb] at ha; skip
  have h5 : (answersB (k.tx x.id) x) = true := by simpa using hb
  refine wp_skip ?_
  refine block_normal ?_
  refine then_normal ?_
  refine wp_region_lit ?_
  refine zv (.int .i64 5) ha ?_
  refine zzv (.int .i64 5) ?_; clear ha; intro a ha
  refine zn2 ?_
  show Code.rounds _ _ _ 2 _ _
  rw [rounds_succ]
  refine zn1 ?_
  refine zv (.bool true) ha ?_; clear ha; intro a ha
  refine zn2 ?_
  refine wp_seq ?_
  refine wp_true ha rfl (by kernel_rfl) ?_
  refine wp_skip ?_
  refine then_normal ?_
  refine wp_seq ?_
  refine wp_block ?_
  refine zn1 ?_
  refine zv (.int .i64 5) ha ?_
  refine zzv (.func (.func 16) #[] #[]) ?_
  refine zzv (.int .i64 5) ?_
  refine zzv (.func (.func 16) #[] #[]) ?_; clear ha; intro a ha
  refine zn4 ?_
  refine zv (.func (.func 16) #[] #[]) ha ?_
  refine zzv (.pointer (some ⟨g3, 0, none⟩)) ?_
  refine zzw (.agg (evv x).toArray) (zln 4 0) ?_; clear ha; intro a ha
  refine zzc ha (agrees_any W _ w g3 g1 g2 k Dd T (6 * i + 1 + 1) hk (by omega) x h1 s) ?_
  rintro _ w ⟨T, rfl, hk, s⟩
  refine ⟨_, rfl, ?_⟩; clear ha; intro a ha
  refine zv (.bool (!(agreesB (k.tx x.id) x))) ha ?_; clear ha; intro a ha
  refine zn2 ?_
  refine zzh (!(agreesB (k.tx x.id) x)) ha ?_ ?_ <;> intro hb
  ·
   rw [hb] at ha; skip
   have hb7 : (agreesB (k.tx x.id) x) = false := by simpa using hb
   have hrl : ruleL k x = 6 := by unfold ruleL; simp [h1, h2, h3, h4, h5, hb7]
   refine zn1 ?_
   refine zv (.int .i64 5) ha ?_
   refine zzv (.int .i64 6) ?_
   refine zzv (.int .i64 ((i : Nat) : Int)) ?_
   refine zzv (.int .i64 6) ?_
   refine zzv (.int .i64 ((i : Nat) : Int)) ?_
   refine zzv (.int .i64 0) ?_; clear ha; intro a ha
   refine zn2 ?_
   refine wp_ret ?_
   refine block_ret ?_
   refine then_ret ?_
   refine then_ret ?_
   refine block_ret ?_
   refine then_ret ?_
   refine block_ret ?_
   refine then_ret ?_
   refine then_ret ?_
   refine block_ret ?_
   refine then_ret ?_
   refine ret_with (v := .tuple #[.int .i64 6, .int .i64 ((i : Nat) : Int), .int .i64 0]) ha (results_3 rfl ha (res_tmp (by kernel_rfl) (by kernel_rfl)) (res_tmp (by kernel_rfl) (by kernel_rfl)) (res_tmp (by kernel_rfl) (by kernel_rfl))) ?_
   replace s := s.tail.tail.tail.tail.tail.tail
   replace s : St W (L) w := s
   rw [hp.2.1] at hrl
   have hff := find_at hp.2.2.1 hx hrl (by decide)
   exact ⟨[], fun _ _ h => (by rw [hff] at h; cases h), by rw [resF_rule hff]; rfl, s⟩
  rw [hb] at ha; skip
  have h6 : (agreesB (k.tx x.id) x) = true := by simpa using hb
  refine wp_skip ?_
  refine block_normal ?_
  refine then_normal ?_
  refine wp_region_lit ?_
  refine zv (.int .i64 6) ha ?_
  refine zzv (.int .i64 6) ?_; clear ha; intro a ha
  refine zn2 ?_
  show Code.rounds _ _ _ 1 _ _
  rw [rounds_succ]
  refine zn1 ?_
  refine zv (.bool false) ha ?_; clear ha; intro a ha
  refine zn2 ?_
  refine wp_seq ?_
  refine wp_false ha rfl (by kernel_rfl) ?_
  refine wp_exit ?_
  refine then_exit ?_
  refine then_exit ?_
  refine block_hit ?_
  refine then_normal ?_
  refine wp_region_lit ?_
  refine zv (.pointer (some ⟨g3, 0, none⟩)) ha ?_
  refine zzw (.agg (evv x).toArray) (zln 4 0) ?_; clear ha; intro a ha
  refine zzc ha (see_any W _ w g3 g1 g2 k Dd T (6 * i + 1 + 1 + 1) hk (by omega) x h1 s) ?_
  rintro _ w ⟨Dd, T, rfl, hk, s⟩
  refine ⟨_, rfl, ?_⟩; clear ha; intro a ha
  refine wpList_nil ?_
  refine block_normal ?_
  refine then_normal ?_
  refine wp_region_lit ?_
  refine zw (.int .i64 ((i + 1 : Nat) : Int)) ha zar ?_
  refine zzv (.int .i64 ((i + 1 : Nat) : Int)) ?_; clear ha; intro a ha
  refine zn2 ?_
  replace s := ((((s.at_ (j := 5) rfl).at_ (j := 4) rfl).at_ (j := 4) rfl).at_ (j := 4) rfl).at_ (j := 4) rfl
  replace s := s.k5_1
  have hr0 : ruleL k x = 0 := by unfold ruleL; simp [h1, h2, h3, h4, h5, h6]
  have hpk := hp.2.1
  rw [hpk] at hr0
  exact ⟨(i + 1, seeL k x, Dd, T), (show l.length - (i + 1) < l.length - i by omega), (Has.cons ha (by kernel_rfl) (by kernel_rfl) (Has.cons ha (by kernel_rfl) (by kernel_rfl) (Has.cons ha (by kernel_rfl) (by kernel_rfl) (Has.cons ha (by kernel_rfl) (by kernel_rfl) (Has.cons ha (by kernel_rfl) (by kernel_rfl) (Has.cons ha (by kernel_rfl) (by kernel_rfl) (Has.cons ha (by kernel_rfl) (by kernel_rfl) (Has.nil ha)))))))), s, (show i + 1 ≤ l.length by omega), by rw [fold_step hx, ← hpk], find_step hp.2.2.1 hx hr0, hk.up (by omega)⟩
 rw [hb] at ha; replace hb : ¬ (((i : Nat) : Int) < ((l.length : Nat) : Int)) := of_decide_eq_false hb
 refine wp_exit ?_
 refine then_exit ?_
 refine then_exit ?_
 refine block_hit ?_
 refine then_normal ?_
 refine wp_seq ?_
 refine zn1 ?_
 refine zv (.bool well) ha ?_
 refine zzv (.bool (!well)) ?_; clear ha; intro a ha
 refine zn2 ?_
 refine zzh (!well) ha ?_ ?_ <;> intro hb
 ·
  rw [hb] at ha; skip
  have hwl : well = false := by simpa using hb
  refine zn1 ?_
  refine zv (.int .i64 0) ha ?_
  refine zzv (.int .i64 0) ?_
  refine zzv (.int .i64 0) ?_; clear ha; intro a ha
  refine zn2 ?_
  refine zzt ?_
  refine ret_with (v := .tuple #[.int .i64 0, .int .i64 0, .int .i64 0]) ha (results_3 rfl ha (res_tmp (by kernel_rfl) (by kernel_rfl)) (res_tmp (by kernel_rfl) (by kernel_rfl)) (res_tmp (by kernel_rfl) (by kernel_rfl))) ?_
  replace s := s.tail.tail.tail.tail.tail
  replace s : St W (L) w := s
  have hfn := hp.2.2.1
  rw [List.take_of_length_le (by omega)] at hfn
  exact ⟨[], fun _ h _ => (by rw [hwl] at h; cases h), by rw [hwl, resF_not hfn]; rfl, s⟩
 rw [hb] at ha; skip
 have hwl : well = true := by simpa using hb
 replace hi := hi hwl
 replace hbe := hbe hwl
 refine wp_skip ?_
 refine then_normal ?_
 refine zn1 ?_
 refine zv (.pointer (some ⟨g3, 0, none⟩)) ha ?_
 refine zzv (.slice A l.length ca) ?_; clear ha; intro a ha
 replace s := s.k4_1
 have hfn := hp.2.2.1
 rw [List.take_of_length_le (by omega)] at hfn
 have hkt : k.tx = txsL l := by have h := hp.2.1; rw [List.take_of_length_le (by omega)] at h; rw [h]; rfl
 have hok : ∀ x ∈ l, hasB x = true → 1 ≤ x.id ∧ x.id ≤ 9007199254740991 := fun x hx hh => by obtain ⟨ti, h⟩ := findL_may hfn x hx; exact may_has h hh
 have hlk := hp.2.2.2
 refine zzc ha (order_any W _ w g3 g1 g2 k Dd T (6 * i) hlk (by omega) A ca l hr hn (by omega) hok s) ?_
 rintro _ w ⟨T2, A1, c1, ds, B1, c2, rs, D, rfl, hk2, ho, s⟩
 rw [hkt] at ho
 have hkn : Knows (Own 77 4 A1 ds.length c1 (nvs ds) :: Inn 79 ds :: Own 54 1 B1 rs.length c2 (ats rs) :: InnA rs :: .blk g3 [.int .i64 k.ti, .int .i64 k.most, .map (some g1), .map (some g2)] 43 :: MapT Tryz.prog 3 encI g1 Dd :: MapT Tryz.prog 3 encI g2 (T2.map ent) :: Blks T2 :: L) (DonesIn A1 ds) := ord_knows ho fun w s => hr w s.tail.tail.tail.tail.tail.tail
 have hbn := ho.bn hn hbe
 have htn := ho.tns
 have hdl := ho.len.1
 have hdl2 := ordL_len (txsL l) l
 refine ⟨_, rfl, ?_⟩; clear ha; intro a ha
 refine zv (.tuple #[.slice A1 ds.length c1, .slice B1 rs.length c2]) ha ?_
 refine zzv (.slice A1 ds.length c1) ?_
 refine zzv (.slice B1 rs.length c2) ?_
 refine zzv (.slice A1 ds.length c1) ?_
 refine zzv (.slice B1 rs.length c2) ?_; clear ha; intro a ha
 refine zn2 ?_
 refine wp_seq ?_
 refine zn1 ?_
 refine zv (.slice A1 ds.length c1) ha ?_; clear ha; intro a ha
 by_cases h0 : code (tns ds) = 0
 ·
  skip
  refine zzc ha (check_ok W hW _ w A1 c1 ds hkn hbn h0 s) ?_
  rintro _ w ⟨o, rfl, hord, s⟩
  refine ⟨_, rfl, ?_⟩; clear ha; intro a ha
  refine zv (.tuple #[.int .i64 ((fst (found (tns ds) o) : Nat) : Int), .int .i64 ((snd (found (tns ds) o) : Nat) : Int), .bool ((found (tns ds) o).isSome), .int .i64 0]) ha ?_
  refine zzv (.int .i64 ((fst (found (tns ds) o) : Nat) : Int)) ?_
  refine zzv (.int .i64 ((snd (found (tns ds) o) : Nat) : Int)) ?_
  refine zzv (.bool ((found (tns ds) o).isSome)) ?_
  refine zzv (.int .i64 0) ?_
  refine zzv (.int .i64 ((fst (found (tns ds) o) : Nat) : Int)) ?_
  refine zzv (.int .i64 ((snd (found (tns ds) o) : Nat) : Int)) ?_
  refine zzv (.bool ((found (tns ds) o).isSome)) ?_
  refine zzv (.int .i64 0) ?_; clear ha; intro a ha
  refine zn4 ?_
  refine zv (.int .i64 0) ha ?_
  refine zzv (.bool true) ?_
  refine zzv (.bool true) ?_
  refine zzv (.bool ((found (tns ds) o).isSome)) ?_
  refine zzv (.bool ((found (tns ds) o).isSome)) ?_; clear ha; intro a ha
  refine zn2 ?_
  refine zzh ((found (tns ds) o).isSome) ha ?_ ?_ <;> intro hb
  ·
   rw [hb] at ha; skip
   obtain ⟨⟨ft, fd⟩, hf⟩ := Option.isSome_iff_exists.1 hb
   obtain ⟨a0, ha0, hpl⟩ := ord_place ho hf hord
   rw [hf, fst_some, snd_some] at ha
   have hm2 : ft < rs.length := (List.getElem?_eq_some_iff.1 ha0).1
   have hm3 : fd < a0.l.length := (List.getElem?_eq_some_iff.1 hpl).1
   replace s := (s.at_ (j := 3) rfl).at_ (j := 3) rfl
   replace s := s.k2_6
   obtain ⟨b1, hB1⟩ := Reads.addr (Own.reads s.1) (by omega)
   subst hB1
   replace s := s.at_ (j := 1) rfl
   dsimp only [List.eraseIdx] at s
   replace s := star_open ha0 s
   obtain ⟨b3, hB3⟩ := Reads.addr (Own.reads s.1) (by omega)
   rw [hB3] at s
   refine wp_seq ?_
   refine wp_region_head 8 (fun w => Reads w 1 (some b1) rs.length (ats rs) ∧ Reads w 1 (some b3) a0.l.length (nats a0.l) ∧ True) (by kernel_rfl) (by decide) ?_
   replace s := s.drew; generalize _root_.Go.World.drew _ = w at s ⊢
   have hS : (fun w => Reads w 1 (some b1) rs.length (ats rs) ∧ Reads w 1 (some b3) a0.l.length (nats a0.l) ∧ True) w := ⟨(Own.reads (s.at_ (j := 2) rfl).1), (Own.reads (s.at_ (j := 0) rfl).1), trivial⟩
   refine yk (i := 0) (.slice (some b1) rs.length c2) ha hS ?_
   refine yyk (i := 1) (.int .i64 ((ft : Nat) : Int)) hS ?_
   refine yyv (i := 2) (.pointer (some (b1.add (ft * 1)))) (fun w hS => (run_indexAddr' (kd := .i64) (i := ((ft : Nat) : Int)) (n := rs.length) (c := c2) ft rfl Tryz.underlying49 Tryz.sizeOf54 (by kernel_rfl) (by kernel_rfl) rfl (by first | assumption | omega) _)) hS ?_
   refine yyv (i := 3) (.slice (some b3) a0.l.length a0.c) (fun w hS => run_loadRow1 (m := ft) hS.1 rfl (by kernel_rfl) Tryz.isAgg54 (by rw [ats_at ha0, hB3])) hS ?_
   refine yyk (i := 4) (.int .i64 ((fd : Nat) : Int)) hS ?_
   refine yyv (i := 5) (.pointer (some (b3.add (fd * 1)))) (fun w hS => (run_indexAddr' (kd := .i64) (i := ((fd : Nat) : Int)) (n := a0.l.length) (c := a0.c) fd rfl Tryz.underlying54 Tryz.sizeOf3 (by kernel_rfl) (by kernel_rfl) rfl (by first | assumption | omega) _)) hS ?_
   refine yyv (i := 6) (.int .i64 ((placeOf (ordL (txsL l) l) ft fd : Nat) : Int)) (fun w hS => run_loadRow1 (m := fd) hS.2.1 rfl (by kernel_rfl) Tryz.isAgg3 (by simp [nats, hpl])) hS ?_
   refine yyk (i := 7) (.int .i64 7) hS ?_; clear ha; intro a ha
   refine Head.done (by kernel_rfl) ?_
   clear hS; simp only [List.drop_succ_cons, List.drop_zero]
   refine zv (.int .i64 ((placeOf (ordL (txsL l) l) ft fd : Nat) : Int)) ha ?_
   refine zzv (.int .i64 0) ?_; clear ha; intro a ha
   refine zn2 ?_
   refine zzt ?_
   refine ret_with (v := .tuple #[.int .i64 7, .int .i64 ((placeOf (ordL (txsL l) l) ft fd : Nat) : Int), .int .i64 0]) ha (results_3 rfl ha (res_tmp (by kernel_rfl) (by kernel_rfl)) (res_tmp (by kernel_rfl) (by kernel_rfl)) (res_tmp (by kernel_rfl) (by kernel_rfl))) ?_
   replace s := s.tail.tail.tail
   replace s : St W (L) w := s
   refine ⟨o, fun h _ _ => htn ▸ hord, ?_, s⟩
   rw [hwl, resF_seven hfn (htn ▸ h0) (htn ▸ hf)]; rfl
  rw [hb] at ha; skip
  have hno : code (tnsP (ordL (txsL l) l)) = 0 → found (tnsP (ordL (txsL l) l)) o = none := fun _ => by rw [← htn]; simpa using hb
  refine wp_skip ?_
  refine then_normal ?_
  refine wp_seq ?_
  refine wp_seq ?_
  have hord2 : code (tnsP (ordL (txsL l) l)) = 0 → IsOrd (tnsP (ordL (txsL l) l)) o := fun h => htn ▸ hord
  refine wp_region_lit ?_
  refine zv (.slice A l.length ca) ha ?_
  refine zzv (.slice A1 ds.length c1) ?_; clear ha; intro a ha
  refine zzc ha (late_any W _ w A ca l (fun w s => hr w s.tail.tail.tail.tail.tail.tail.tail.tail) hn hi A1 c1 ds hkn hbn (by omega) (fun d hd => by obtain ⟨x, hx, e⟩ := (ho.did hd).2.1; rw [e]; exact hi x hx) s) ?_
  rintro _ w ⟨rfl, s⟩
  refine ⟨_, rfl, ?_⟩; clear ha; intro a ha
  refine zv (.int .i64 (lateI (lateL (knF ds) [] l 0))) ha ?_; clear ha; intro a ha
  refine zn4 ?_
  refine zv (.int .i64 (lateI (lateL (knF ds) [] l 0))) ha ?_
  refine zzv (.bool (decide ((lateI (lateL (knF ds) [] l 0)) ≥ (0 : Int)))) ?_; clear ha; intro a ha
  refine zn2 ?_
  refine zzh (decide ((lateI (lateL (knF ds) [] l 0)) ≥ (0 : Int))) ha ?_ ?_ <;> intro hb
  ·
   rw [hb] at ha; replace hb : ((lateI (lateL (knF ds) [] l 0)) ≥ (0 : Int)) := of_decide_eq_true hb
   have hlt := hb
   refine zn1 ?_
   refine zv (.int .i64 (lateI (lateL (knF ds) [] l 0))) ha ?_
   refine zzv (.int .i64 8) ?_
   refine zzv (.int .i64 (lateI (lateL (knF ds) [] l 0))) ?_
   refine zzv (.int .i64 0) ?_; clear ha; intro a ha
   refine zn2 ?_
   refine zzt ?_
   refine ret_with (v := .tuple #[.int .i64 8, .int .i64 (lateI (lateL (knF ds) [] l 0)), .int .i64 0]) ha (results_3 rfl ha (res_tmp (by kernel_rfl) (by kernel_rfl)) (res_tmp (by kernel_rfl) (by kernel_rfl)) (res_tmp (by kernel_rfl) (by kernel_rfl))) ?_
   replace s := s.tail.tail.tail.tail.tail.tail.tail.tail
   replace s : St W (L) w := s
   refine ⟨o, fun h _ _ => hord2 h, ?_, s⟩
   rw [late_ord ho] at hlt ⊢
   obtain ⟨z, hz⟩ := lateI_some hlt
   rw [hwl, resF_late hfn hno, hz]; rfl
  rw [hb] at ha; replace hb : ¬ ((lateI (lateL (knF ds) [] l 0)) ≥ (0 : Int)) := of_decide_eq_false hb
  have hlt := hb
  refine wp_skip ?_
  refine then_normal ?_
  refine zn1 ?_
  refine zv (.int .i64 0) ha ?_
  refine zzv (.int .i64 0) ?_
  refine zzv (.int .i64 0) ?_; clear ha; intro a ha
  refine zn2 ?_
  refine wp_ret ?_
  refine ret_with (v := .tuple #[.int .i64 0, .int .i64 0, .int .i64 0]) ha (results_3 rfl ha (res_tmp (by kernel_rfl) (by kernel_rfl)) (res_tmp (by kernel_rfl) (by kernel_rfl)) (res_tmp (by kernel_rfl) (by kernel_rfl))) ?_
  replace s := s.tail.tail.tail.tail.tail.tail.tail.tail
  replace s : St W (L) w := s
  refine ⟨o, fun h _ _ => hord2 h, ?_, s⟩
  rw [late_ord ho] at hlt
  rw [hwl, resF_late hfn hno, lateI_none hlt]; rfl
 skip
 refine zzc ha (check_no W hW _ w A1 c1 ds hkn hbn h0 s) ?_
 rintro _ w ⟨rfl, s⟩
 refine ⟨_, rfl, ?_⟩; clear ha; intro a ha
 refine zv (.tuple #[.int .i64 0, .int .i64 0, .bool false, .int .i64 (code (tns ds))]) ha ?_
 refine zzv (.int .i64 0) ?_
 refine zzv (.int .i64 0) ?_
 refine zzv (.bool false) ?_
 refine zzv (.int .i64 (code (tns ds))) ?_
 refine zzv (.int .i64 0) ?_
 refine zzv (.int .i64 0) ?_
 refine zzv (.bool false) ?_
 refine zzv (.int .i64 (code (tns ds))) ?_; clear ha; intro a ha
 refine zn4 ?_
 refine zv (.int .i64 (code (tns ds))) ha ?_
 refine zzv (.bool ((code (tns ds)) == (0 : Int))) ?_
 refine zzv (.bool ((code (tns ds)) == (0 : Int))) ?_; clear ha; intro a ha
 rcases Bool.eq_false_or_eq_true ((code (tns ds)) == (0 : Int)) with hb | hb
 ·
  rw [hb] at ha; replace hb := eq_of_beq hb
  refine zv (.bool false) ha ?_
  refine zzv (.bool false) ?_; clear ha; intro a ha
  refine zn2 ?_
  refine wp_false ha rfl (by kernel_rfl) ?_
  refine wp_skip ?_
  refine then_normal ?_
  refine wp_seq ?_
  refine wp_seq ?_
  obtain ⟨o, ho0⟩ : ∃ o : List Nat, o = [] := ⟨_, rfl⟩
  have hno : code (tnsP (ordL (txsL l) l)) = 0 → found (tnsP (ordL (txsL l) l)) o = none := fun h => absurd (htn ▸ h) h0
  have hord2 : code (tnsP (ordL (txsL l) l)) = 0 → IsOrd (tnsP (ordL (txsL l) l)) o := fun h => absurd (htn ▸ h) h0
  refine wp_region_lit ?_
  refine zv (.slice A l.length ca) ha ?_
  refine zzv (.slice A1 ds.length c1) ?_; clear ha; intro a ha
  refine zzc ha (late_any W _ w A ca l (fun w s => hr w s.tail.tail.tail.tail.tail.tail.tail.tail) hn hi A1 c1 ds hkn hbn (by omega) (fun d hd => by obtain ⟨x, hx, e⟩ := (ho.did hd).2.1; rw [e]; exact hi x hx) s) ?_
  rintro _ w ⟨rfl, s⟩
  refine ⟨_, rfl, ?_⟩; clear ha; intro a ha
  refine zv (.int .i64 (lateI (lateL (knF ds) [] l 0))) ha ?_; clear ha; intro a ha
  refine zn4 ?_
  refine zv (.int .i64 (lateI (lateL (knF ds) [] l 0))) ha ?_
  refine zzv (.bool (decide ((lateI (lateL (knF ds) [] l 0)) ≥ (0 : Int)))) ?_; clear ha; intro a ha
  refine zn2 ?_
  refine zzh (decide ((lateI (lateL (knF ds) [] l 0)) ≥ (0 : Int))) ha ?_ ?_ <;> intro hb
  ·
   rw [hb] at ha; replace hb : ((lateI (lateL (knF ds) [] l 0)) ≥ (0 : Int)) := of_decide_eq_true hb
   have hlt := hb
   refine zn1 ?_
   refine zv (.int .i64 (lateI (lateL (knF ds) [] l 0))) ha ?_
   refine zzv (.int .i64 8) ?_
   refine zzv (.int .i64 (lateI (lateL (knF ds) [] l 0))) ?_
   refine zzv (.int .i64 0) ?_; clear ha; intro a ha
   refine zn2 ?_
   refine zzt ?_
   refine ret_with (v := .tuple #[.int .i64 8, .int .i64 (lateI (lateL (knF ds) [] l 0)), .int .i64 0]) ha (results_3 rfl ha (res_tmp (by kernel_rfl) (by kernel_rfl)) (res_tmp (by kernel_rfl) (by kernel_rfl)) (res_tmp (by kernel_rfl) (by kernel_rfl))) ?_
   replace s := s.tail.tail.tail.tail.tail.tail.tail.tail
   replace s : St W (L) w := s
   refine ⟨o, fun h _ _ => hord2 h, ?_, s⟩
   rw [late_ord ho] at hlt ⊢
   obtain ⟨z, hz⟩ := lateI_some hlt
   rw [hwl, resF_late hfn hno, hz]; rfl
  rw [hb] at ha; replace hb : ¬ ((lateI (lateL (knF ds) [] l 0)) ≥ (0 : Int)) := of_decide_eq_false hb
  have hlt := hb
  refine wp_skip ?_
  refine then_normal ?_
  refine zn1 ?_
  refine zv (.int .i64 0) ha ?_
  refine zzv (.int .i64 0) ?_
  refine zzv (.int .i64 0) ?_; clear ha; intro a ha
  refine zn2 ?_
  refine wp_ret ?_
  refine ret_with (v := .tuple #[.int .i64 0, .int .i64 0, .int .i64 0]) ha (results_3 rfl ha (res_tmp (by kernel_rfl) (by kernel_rfl)) (res_tmp (by kernel_rfl) (by kernel_rfl)) (res_tmp (by kernel_rfl) (by kernel_rfl))) ?_
  replace s := s.tail.tail.tail.tail.tail.tail.tail.tail
  replace s : St W (L) w := s
  refine ⟨o, fun h _ _ => hord2 h, ?_, s⟩
  rw [late_ord ho] at hlt
  rw [hwl, resF_late hfn hno, lateI_none hlt]; rfl
 rw [hb] at ha; replace hb := ne_of_beq_false hb
 refine zp ha ?_
 refine zzv (.bool false) ?_; clear ha; intro a ha
 refine zn2 ?_
 refine wp_false ha rfl (by kernel_rfl) ?_
 refine wp_skip ?_
 refine then_normal ?_
 refine wp_seq ?_
 refine wp_seq ?_
 obtain ⟨o, ho0⟩ : ∃ o : List Nat, o = [] := ⟨_, rfl⟩
 have hno : code (tnsP (ordL (txsL l) l)) = 0 → found (tnsP (ordL (txsL l) l)) o = none := fun h => absurd (htn ▸ h) h0
 have hord2 : code (tnsP (ordL (txsL l) l)) = 0 → IsOrd (tnsP (ordL (txsL l) l)) o := fun h => absurd (htn ▸ h) h0
 refine wp_region_lit ?_
 refine zv (.slice A l.length ca) ha ?_
 refine zzv (.slice A1 ds.length c1) ?_; clear ha; intro a ha
 refine zzc ha (late_any W _ w A ca l (fun w s => hr w s.tail.tail.tail.tail.tail.tail.tail.tail) hn hi A1 c1 ds hkn hbn (by omega) (fun d hd => by obtain ⟨x, hx, e⟩ := (ho.did hd).2.1; rw [e]; exact hi x hx) s) ?_
 rintro _ w ⟨rfl, s⟩
 refine ⟨_, rfl, ?_⟩; clear ha; intro a ha
 refine zv (.int .i64 (lateI (lateL (knF ds) [] l 0))) ha ?_; clear ha; intro a ha
 refine zn4 ?_
 refine zv (.int .i64 (lateI (lateL (knF ds) [] l 0))) ha ?_
 refine zzv (.bool (decide ((lateI (lateL (knF ds) [] l 0)) ≥ (0 : Int)))) ?_; clear ha; intro a ha
 refine zn2 ?_
 refine zzh (decide ((lateI (lateL (knF ds) [] l 0)) ≥ (0 : Int))) ha ?_ ?_ <;> intro hb
 ·
  rw [hb] at ha; replace hb : ((lateI (lateL (knF ds) [] l 0)) ≥ (0 : Int)) := of_decide_eq_true hb
  have hlt := hb
  refine zn1 ?_
  refine zv (.int .i64 (lateI (lateL (knF ds) [] l 0))) ha ?_
  refine zzv (.int .i64 8) ?_
  refine zzv (.int .i64 (lateI (lateL (knF ds) [] l 0))) ?_
  refine zzv (.int .i64 0) ?_; clear ha; intro a ha
  refine zn2 ?_
  refine zzt ?_
  refine ret_with (v := .tuple #[.int .i64 8, .int .i64 (lateI (lateL (knF ds) [] l 0)), .int .i64 0]) ha (results_3 rfl ha (res_tmp (by kernel_rfl) (by kernel_rfl)) (res_tmp (by kernel_rfl) (by kernel_rfl)) (res_tmp (by kernel_rfl) (by kernel_rfl))) ?_
  replace s := s.tail.tail.tail.tail.tail.tail.tail.tail
  replace s : St W (L) w := s
  refine ⟨o, fun h _ _ => hord2 h, ?_, s⟩
  rw [late_ord ho] at hlt ⊢
  obtain ⟨z, hz⟩ := lateI_some hlt
  rw [hwl, resF_late hfn hno, hz]; rfl
 rw [hb] at ha; replace hb : ¬ ((lateI (lateL (knF ds) [] l 0)) ≥ (0 : Int)) := of_decide_eq_false hb
 have hlt := hb
 refine wp_skip ?_
 refine then_normal ?_
 refine zn1 ?_
 refine zv (.int .i64 0) ha ?_
 refine zzv (.int .i64 0) ?_
 refine zzv (.int .i64 0) ?_; clear ha; intro a ha
 refine zn2 ?_
 refine wp_ret ?_
 refine ret_with (v := .tuple #[.int .i64 0, .int .i64 0, .int .i64 0]) ha (results_3 rfl ha (res_tmp (by kernel_rfl) (by kernel_rfl)) (res_tmp (by kernel_rfl) (by kernel_rfl)) (res_tmp (by kernel_rfl) (by kernel_rfl))) ?_
 replace s := s.tail.tail.tail.tail.tail.tail.tail.tail
 replace s : St W (L) w := s
 refine ⟨o, fun h _ _ => hord2 h, ?_, s⟩
 rw [late_ord ho] at hlt
 rw [hwl, resF_late hfn hno, lateI_none hlt]; rfl

theorem find_limit (W : World) (L : List Chunk) (w : World) (A : Option Addr) (n ca : Nat) (hn : 5000 < n) (well : Bool) (s : St W L w) :
  Calls Tryz.prog 5 #[.slice A n ca, .bool well] w fun e w' => e = .returned (.tuple #[.int .i64 0, .int .i64 0, .int .i64 5]) ∧ St W L w' := by
 refine enter_args (l := [.slice A n ca, .bool well]) Tryz.func5 rfl rfl (Nat.le_of_ble_eq_true rfl) ?_
 intro a ha; replace ha : Has a 96 [(0, .slice A n ca), (1, .bool well)] := ha
 refine zn1 ?_
 refine zv (.int .i64 0) ha ?_
 refine zzv (.int .i64 0) ?_
 refine zzv (.int .i64 0) ?_; clear ha; intro a ha
 refine zn2 ?_
 refine wp_seq ?_
 refine zn1 ?_
 refine zv (.slice A n ca) ha ?_
 refine zzv (.int .i64 ((n : Nat) : Int)) ?_
 refine zzw (.bool true) (run_known (show (decide (((n : Nat) : Int) > (5000 : Int))) = true from decide_eq_true (by omega)) (by kernel_rfl)) ?_; clear ha; intro a ha
 refine zn2 ?_
 refine wp_true ha rfl (by kernel_rfl) ?_
 refine zn1 ?_
 refine zv (.int .i64 0) ha ?_
 refine zzv (.int .i64 0) ?_
 refine zzv (.int .i64 5) ?_; clear ha; intro a ha
 refine zn2 ?_
 refine zzt ?_
 refine ret_with (v := .tuple #[.int .i64 0, .int .i64 0, .int .i64 5]) ha (results_3 rfl ha (res_tmp (by kernel_rfl) (by kernel_rfl)) (res_tmp (by kernel_rfl) (by kernel_rfl)) (res_tmp (by kernel_rfl) (by kernel_rfl))) ?_
 exact ⟨rfl, s⟩

end Go.Proofs.YtfcbjcohepkkfaaGreat.B

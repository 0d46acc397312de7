import Derived.Test.YtcnlidaacgcdhaaB7
namespace Go.Proofs.Ytcnlidaacgcdhaa.B
open Go.RowKit Go.Proofs.Ytcnlidaacgcdhaa.Sep Go.Proofs.Ytcnlidaacgcdhaa.P
set_option linter.unusedVariables false
set_option linter.unusedSimpArgs false
theorem lt_snoc : ∀ (z k : K), z < k ++ [0] ↔ z ≤ k
  | [], k => by
    refine ⟨fun _ => by simp, fun _ => ?_⟩
    cases k <;> simp
  | a :: z, [] => by
    simp [List.cons_lt_cons_iff]
  | a :: z, b :: k => by
    rw [List.cons_append, List.cons_lt_cons_iff, List.cons_le_cons_iff, lt_snoc z k]
def mts (x y : Span) : Bool := decide ((if y.1 ≤ x.1 then x.1 else y.1) < (if x.2 ≤ y.2 then x.2 else y.2))
theorem mts_comm (x y : Span) : mts y x = mts x y := by
  unfold mts
  rw [decide_eq_decide]
  split <;> split <;> split <;> split <;> grind
theorem mts_key (x : Span) (k : K) : mts x (k, k ++ [0]) = has x k := by
  unfold mts has
  rw [← Bool.decide_and, decide_eq_decide]
  have h := lt_snoc
  have h1 := lt_snoc x.2 k
  have h2 := lt_snoc x.1 k
  have h3 := lt_snoc k k
  simp only
  split <;> split <;> grind
theorem meet_canon {cl : List Span} {x y : Span} (h : Canon cl (fun k => decide (0 < cnt [x] k) && decide (0 < cnt [y] k))) (hx : x.1 < x.2) (hy : y.1 < y.2) (b : Bool) (hb : mts x y = b) : cl.length = if b then 1 else 0 := by
  have hp : ∀ k, (decide (0 < cnt [x] k) && decide (0 < cnt [y] k)) = true ↔ (x.1 ≤ k ∧ k < x.2) ∧ (y.1 ≤ k ∧ k < y.2) := by
    intro k
    simp only [Bool.and_eq_true, decide_eq_true_eq, cnt_pos, List.mem_singleton, exists_eq_left, has_iff]
  unfold mts at hb
  cases b with
  | true =>
    have hb := of_decide_eq_true hb
    rw [h.unique (cm := [((if y.1 ≤ x.1 then x.1 else y.1), (if x.2 ≤ y.2 then x.2 else y.2))]) ⟨fun k => ?_, by simp, by simpa using hb⟩]
    · rfl
    · rw [hp k]
      simp only [List.mem_singleton, exists_eq_left, has_iff]
      split <;> split <;> grind
  | false =>
    have hb := of_decide_eq_false hb
    rw [h.unique (cm := []) ⟨fun k => ?_, by simp, by simp⟩]
    · rfl
    · rw [hp k]
      simp only [List.not_mem_nil, false_and, exists_false, false_iff]
      split at hb <;> split at hb <;> grind
theorem meets_is (W : World) (L : List Chunk) (w : World) (x y : Span) (b : Bool) (h : mts x y = b) (s : St W L w) : Calls Try.prog 16 #[.agg #[.string (str x.1), .string (str x.2)], .agg #[.string (str y.1), .string (str y.2)]] w fun e w' => e = .returned (.bool b) ∧ St W L w' := by
  subst h; exact meets_any W L w x y s
theorem has_is (W : World) (L : List Chunk) (w : World) (x : Span) (k : K) (b : Bool) (h : has x k = b) (s : St W L w) : Calls Try.prog 17 #[.agg #[.string (str x.1), .string (str x.2)], .string (str k)] w fun e w' => e = .returned (.bool b) ∧ St W L w' := by
  subst h; exact has_any W L w x k s
theorem chk_key (k : K) (hk : k.length ≤ 32) : chk (k, k ++ [0]) = 0 := chk_zero (by simp; omega) (by simp; omega) ((lt_snoc k k).2 (by grind))
theorem has_key (k : K) : has (k, k ++ [0]) k = true := has_iff.2 ⟨by grind, (lt_snoc k k).2 (by grind)⟩

theorem spansMeet_true (W : World) (L : List Chunk) (w : World) (x y : Span) (k : K) (hkl : k.length ≤ 140737488351232) (hB : mts x y = true) (s : St W L w) :
    Calls Try.prog 5 #[.agg #[.string (str x.1), .string (str x.2)], .agg #[.string (str y.1), .string (str y.2)], .string (str k)] w fun e w' => e = .returned (.bool true) ∧ St W L w' := by
  refine enter_args (l := [.agg #[.string (str x.1), .string (str x.2)], .agg #[.string (str y.1), .string (str y.2)], .string (str k)]) Try.func5 rfl rfl (Nat.le_of_ble_eq_true rfl) ?_
  intro a ha; replace ha : Has a 87 [(0, .agg #[.string (str x.1), .string (str x.2)]), (1, .agg #[.string (str y.1), .string (str y.2)]), (2, .string (str k))] := ha
  refine wp_seq ?_
  refine wp_region_lit ?_
  refine st_ex ha (by kernel_rfl) (ex_box [.string (str x.1), .string (str x.2)] s rfl (by kernel_rfl)) ?_
  clear ha; rintro _ w a ⟨g1, rfl, s⟩ ha
  replace s : St W (.blk g1 [.string (str x.1), .string (str x.2)] 29 :: L) w := s
  refine st_ex ha (by kernel_rfl) (ex_box [.string (str y.1), .string (str y.2)] s rfl (by kernel_rfl)) ?_
  clear ha; rintro _ w a ⟨g2, rfl, s⟩ ha
  replace s : St W (.blk g2 [.string (str y.1), .string (str y.2)] 29 :: .blk g1 [.string (str x.1), .string (str x.2)] 29 :: L) w := s
  refine st_val (.bool false) ha (by kernel_rfl) (by kernel_rfl) ?_
  clear ha; intro a ha
  refine wpList_nil ?_
  refine then_normal ?_
  refine wp_seq ?_
  refine wp_seq ?_
  refine wp_region_lit ?_
  refine st_call ha (by kernel_rfl) (by kernel_rfl) (works_true W _ w s) ?_
  rintro _ w ⟨rfl, s⟩
  replace s : St W (.blk g2 [.string (str y.1), .string (str y.2)] 29 :: .blk g1 [.string (str x.1), .string (str x.2)] 29 :: L) w := s
  refine ⟨_, rfl, ?_⟩; clear ha; intro a ha
  refine st_val (.bool false) ha (by kernel_rfl) (by kernel_rfl) ?_
  clear ha; intro a ha
  refine wpList_nil ?_
  refine then_normal ?_
  refine wp_false ha rfl (by kernel_rfl) ?_
  refine wp_skip ?_
  refine then_normal ?_
  refine wp_seq ?_
  refine wp_seq ?_
  refine wp_region_lit ?_
  refine st_val (.agg #[.string (str x.1), .string (str x.2)]) ha (by kernel_rfl) (run_loadN (of_ := 0) [.string (str x.1), .string (str x.2)] (s.blkIs 1 rfl) rfl (by kernel_rfl) Try.isAgg29 Try.sizeOf29 rfl (Nat.le_of_ble_eq_true rfl)) ?_
  clear ha; intro a ha
  refine st_call ha (by kernel_rfl) (by kernel_rfl) (check_any W _ w x s) ?_
  rintro _ w ⟨rfl, s⟩
  replace s : St W (.blk g2 [.string (str y.1), .string (str y.2)] 29 :: .blk g1 [.string (str x.1), .string (str x.2)] 29 :: L) w := s
  refine ⟨_, rfl, ?_⟩; clear ha; intro a ha
  refine st_val (.bool ((chk x) != (0 : Int))) ha (by kernel_rfl) (by kernel_rfl) ?_
  clear ha; intro a ha
  refine st_val (.bool ((chk x) != (0 : Int))) ha (by kernel_rfl) (by kernel_rfl) ?_
  clear ha; intro a ha
  rcases Bool.eq_false_or_eq_true ((chk x) != (0 : Int)) with hb | hb
  · rw [hb] at ha; have hb_ := hb; replace hb := bne_iff_ne.1 hb
    refine st_pass ha (by kernel_rfl) ?_
    clear ha; intro a ha
    refine st_pass ha (by kernel_rfl) ?_
    clear ha; intro a ha
    refine st_pass ha (by kernel_rfl) ?_
    clear ha; intro a ha
    refine st_val (.bool true) ha (by kernel_rfl) (by kernel_rfl) ?_
    clear ha; intro a ha
    refine st_val (.bool true) ha (by kernel_rfl) (by kernel_rfl) ?_
    clear ha; intro a ha
    refine st_pass ha (by kernel_rfl) ?_
    clear ha; intro a ha
    refine st_pass ha (by kernel_rfl) ?_
    clear ha; intro a ha
    refine st_pass ha (by kernel_rfl) ?_
    clear ha; intro a ha
    refine st_val (.bool true) ha (by kernel_rfl) (by kernel_rfl) ?_
    clear ha; intro a ha
    refine wpList_nil ?_
    refine then_normal ?_
    refine wp_true ha rfl (by kernel_rfl) ?_
    refine wp_seq ?_
    refine wp_region_lit ?_
    refine st_val (.bool true) ha (by kernel_rfl) (by kernel_rfl) ?_
    clear ha; intro a ha
    refine wpList_nil ?_
    refine then_normal ?_
    refine wp_ret ?_
    refine then_ret ?_
    refine ret_with (v := .bool true) ha (results_1 rfl ha (res_tmp (by kernel_rfl) (by kernel_rfl))) ?_
    replace s := s.tail.tail
    replace s : St W (L) w := s
    exact ⟨rfl, s⟩
  · rw [hb] at ha; have hb_ := hb; replace hb := bne_eq_false_iff_eq.1 hb
    have hcx : chk x = 0 := hb
    refine st_val (.agg #[.string (str y.1), .string (str y.2)]) ha (by kernel_rfl) (run_loadN (of_ := 0) [.string (str y.1), .string (str y.2)] (s.blkIs 0 rfl) rfl (by kernel_rfl) Try.isAgg29 Try.sizeOf29 rfl (Nat.le_of_ble_eq_true rfl)) ?_
    clear ha; intro a ha
    refine st_call ha (by kernel_rfl) (by kernel_rfl) (check_any W _ w y s) ?_
    rintro _ w ⟨rfl, s⟩
    replace s : St W (.blk g2 [.string (str y.1), .string (str y.2)] 29 :: .blk g1 [.string (str x.1), .string (str x.2)] 29 :: L) w := s
    refine ⟨_, rfl, ?_⟩; clear ha; intro a ha
    refine st_val (.bool ((chk y) != (0 : Int))) ha (by kernel_rfl) (by kernel_rfl) ?_
    clear ha; intro a ha
    refine st_val (.bool ((chk y) != (0 : Int))) ha (by kernel_rfl) (by kernel_rfl) ?_
    clear ha; intro a ha
    refine st_val (.bool ((chk y) != (0 : Int))) ha (by kernel_rfl) (by kernel_rfl) ?_
    clear ha; intro a ha
    rcases Bool.eq_false_or_eq_true ((chk y) != (0 : Int)) with hb | hb
    · rw [hb] at ha; have hb_ := hb; replace hb := bne_iff_ne.1 hb
      refine st_pass ha (by kernel_rfl) ?_
      clear ha; intro a ha
      refine st_pass ha (by kernel_rfl) ?_
      clear ha; intro a ha
      refine st_pass ha (by kernel_rfl) ?_
      clear ha; intro a ha
      refine st_val (.bool true) ha (by kernel_rfl) (by kernel_rfl) ?_
      clear ha; intro a ha
      refine wpList_nil ?_
      refine then_normal ?_
      refine wp_true ha rfl (by kernel_rfl) ?_
      refine wp_seq ?_
      refine wp_region_lit ?_
      refine st_val (.bool true) ha (by kernel_rfl) (by kernel_rfl) ?_
      clear ha; intro a ha
      refine wpList_nil ?_
      refine then_normal ?_
      refine wp_ret ?_
      refine then_ret ?_
      refine ret_with (v := .bool true) ha (results_1 rfl ha (res_tmp (by kernel_rfl) (by kernel_rfl))) ?_
      replace s := s.tail.tail
      replace s : St W (L) w := s
      exact ⟨rfl, s⟩
    · rw [hb] at ha; have hb_ := hb; replace hb := bne_eq_false_iff_eq.1 hb
      have hcy : chk y = 0 := hb
      refine st_val (.string (str k)) ha (by kernel_rfl) (by kernel_rfl) ?_
      clear ha; intro a ha
      refine st_val (.int .i64 ((k.length : Nat) : Int)) ha (by kernel_rfl) (run_slen rfl Try.underlying9 (by kernel_rfl) _) ?_
      clear ha; intro a ha
      refine st_val (.bool (decide (((k.length : Nat) : Int) > (32 : Int)))) ha (by kernel_rfl) (by kernel_rfl) ?_
      clear ha; intro a ha
      refine st_val (.bool (decide (((k.length : Nat) : Int) > (32 : Int)))) ha (by kernel_rfl) (by kernel_rfl) ?_
      clear ha; intro a ha
      refine wpList_nil ?_
      refine then_normal ?_
      refine wp_part (decide (((k.length : Nat) : Int) > (32 : Int))) ha rfl (by kernel_rfl) (fun hb => ?_) (fun hb => ?_)
      · rw [hb] at ha; replace hb : (((k.length : Nat) : Int) > (32 : Int)) := of_decide_eq_true hb
        refine wp_seq ?_
        refine wp_region_lit ?_
        refine st_val (.bool true) ha (by kernel_rfl) (by kernel_rfl) ?_
        clear ha; intro a ha
        refine wpList_nil ?_
        refine then_normal ?_
        refine wp_ret ?_
        refine then_ret ?_
        refine ret_with (v := .bool true) ha (results_1 rfl ha (res_tmp (by kernel_rfl) (by kernel_rfl))) ?_
        replace s := s.tail.tail
        replace s : St W (L) w := s
        exact ⟨rfl, s⟩
      · rw [hb] at ha; replace hb : ¬ (((k.length : Nat) : Int) > (32 : Int)) := of_decide_eq_false hb
        have hk32 : k.length ≤ 32 := by omega
        refine wp_skip ?_
        refine then_normal ?_
        refine wp_seq ?_
        refine wp_region_lit ?_
        refine st_val (.agg #[.string (str x.1), .string (str x.2)]) ha (by kernel_rfl) (run_loadN (of_ := 0) [.string (str x.1), .string (str x.2)] (s.blkIs 1 rfl) rfl (by kernel_rfl) Try.isAgg29 Try.sizeOf29 rfl (Nat.le_of_ble_eq_true rfl)) ?_
        clear ha; intro a ha
        refine st_ex ha (by kernel_rfl) (ex_buildSlice elt22 _ zs22 [.string (str x.1), .string (str x.2)] s rfl (by kernel_rfl) (by decide)) ?_
        clear ha; rintro _ w a ⟨g3, rfl, s⟩ ha
        replace s : St W (.blk g3 [.string (str x.1), .string (str x.2)] 29 :: .blk g2 [.string (str y.1), .string (str y.2)] 29 :: .blk g1 [.string (str x.1), .string (str x.2)] 29 :: L) w := s
        refine st_val (.agg #[.string (str y.1), .string (str y.2)]) ha (by kernel_rfl) (run_loadN (of_ := 0) [.string (str y.1), .string (str y.2)] (s.blkIs 1 rfl) rfl (by kernel_rfl) Try.isAgg29 Try.sizeOf29 rfl (Nat.le_of_ble_eq_true rfl)) ?_
        clear ha; intro a ha
        refine st_ex ha (by kernel_rfl) (ex_buildSlice elt22 _ zs22 [.string (str y.1), .string (str y.2)] s rfl (by kernel_rfl) (by decide)) ?_
        clear ha; rintro _ w a ⟨g4, rfl, s⟩ ha
        replace s : St W (.blk g4 [.string (str y.1), .string (str y.2)] 29 :: .blk g3 [.string (str x.1), .string (str x.2)] 29 :: .blk g2 [.string (str y.1), .string (str y.2)] 29 :: .blk g1 [.string (str x.1), .string (str x.2)] 29 :: L) w := s
        refine st_call ha (by kernel_rfl) (by kernel_rfl) (both_ok W _ w (some ⟨g3, 0, none⟩) (some ⟨g4, 0, none⟩) 1 1 1 1 [x] [y] (Knows.blk (j := 1) (cs := sps [x]) rfl rfl) (Knows.blk (j := 0) (cs := sps [y]) rfl rfl) rfl rfl (by simpa using hcx) (by simpa using hcy) (by omega) (by omega) s) ?_
        rintro _ w ⟨A5, c6, cl, rfl, hcan, hsm, hcl, s⟩
        have hlen : cl.length = 1 := meet_canon hcan (chk_ok hcx).2.2 (chk_ok hcy).2.2 true hB
        rw [hlen] at s
        rw [hlen]
        replace s : St W (Own 29 2 A5 1 c6 (sps cl) :: .blk g4 [.string (str y.1), .string (str y.2)] 29 :: .blk g3 [.string (str x.1), .string (str x.2)] 29 :: .blk g2 [.string (str y.1), .string (str y.2)] 29 :: .blk g1 [.string (str x.1), .string (str x.2)] 29 :: L) w := s
        refine ⟨_, rfl, ?_⟩; clear ha; intro a ha
        refine st_val (.tuple #[.slice A5 1 c6, .int .i64 0]) ha (by kernel_rfl) (by kernel_rfl) ?_
        clear ha; intro a ha
        refine st_val (.slice A5 1 c6) ha (by kernel_rfl) (by kernel_rfl) ?_
        clear ha; intro a ha
        refine st_val (.int .i64 0) ha (by kernel_rfl) (by kernel_rfl) ?_
        clear ha; intro a ha
        refine st_val (.slice A5 1 c6) ha (by kernel_rfl) (by kernel_rfl) ?_
        clear ha; intro a ha
        refine st_val (.int .i64 0) ha (by kernel_rfl) (by kernel_rfl) ?_
        clear ha; intro a ha
        refine wpList_nil ?_
        refine then_normal ?_
        refine wp_seq ?_
        refine wp_region_lit ?_
        refine st_val (.string (str k)) ha (by kernel_rfl) (by kernel_rfl) ?_
        clear ha; intro a ha
        refine st_call ha (by kernel_rfl) (by kernel_rfl) (of_any W _ w k hk32 s) ?_
        rintro _ w ⟨rfl, s⟩
        replace s : St W (Own 29 2 A5 1 c6 (sps cl) :: .blk g4 [.string (str y.1), .string (str y.2)] 29 :: .blk g3 [.string (str x.1), .string (str x.2)] 29 :: .blk g2 [.string (str y.1), .string (str y.2)] 29 :: .blk g1 [.string (str x.1), .string (str x.2)] 29 :: L) w := s
        refine ⟨_, rfl, ?_⟩; clear ha; intro a ha
        refine st_val (.tuple #[.agg #[.string (str k), .string (str (k ++ [0]))], .int .i64 0]) ha (by kernel_rfl) (by kernel_rfl) ?_
        clear ha; intro a ha
        refine st_val (.agg #[.string (str k), .string (str (k ++ [0]))]) ha (by kernel_rfl) (by kernel_rfl) ?_
        clear ha; intro a ha
        refine st_val (.int .i64 0) ha (by kernel_rfl) (by kernel_rfl) ?_
        clear ha; intro a ha
        refine st_ex ha (by kernel_rfl) (ex_alloc [.string (str []), .string (str [])] s rfl (Try.zeroValue29 _) (by kernel_rfl)) ?_
        clear ha; rintro _ w a ⟨g7, rfl, s⟩ ha
        replace s : St W (.blk g7 [.string (str []), .string (str [])] 29 :: Own 29 2 A5 1 c6 (sps cl) :: .blk g4 [.string (str y.1), .string (str y.2)] 29 :: .blk g3 [.string (str x.1), .string (str x.2)] 29 :: .blk g2 [.string (str y.1), .string (str y.2)] 29 :: .blk g1 [.string (str x.1), .string (str x.2)] 29 :: L) w := s
        refine st_exd ha (by kernel_rfl) (ex_store (of_ := 0) 0 [.string (str k), .string (str (k ++ [0]))] s rfl rfl (by kernel_rfl) (by kernel_rfl) (Try.sizeOf29 _) rfl (by simp [Value.oneCell']) (Nat.le_of_ble_eq_true rfl)) ?_
        clear ha; rintro w a s ha
        replace s : St W (.blk g7 [.string (str k), .string (str (k ++ [0]))] 29 :: Own 29 2 A5 1 c6 (sps cl) :: .blk g4 [.string (str y.1), .string (str y.2)] 29 :: .blk g3 [.string (str x.1), .string (str x.2)] 29 :: .blk g2 [.string (str y.1), .string (str y.2)] 29 :: .blk g1 [.string (str x.1), .string (str x.2)] 29 :: L) w := s
        refine st_val (.int .i64 0) ha (by kernel_rfl) (by kernel_rfl) ?_
        clear ha; intro a ha
        refine wpList_nil ?_
        refine then_normal ?_
        refine wp_seq ?_
        refine wp_region_head 46 (fun w => BlkIs g1 [.string (str x.1), .string (str x.2)] w ∧ BlkIs g2 [.string (str y.1), .string (str y.2)] w ∧ BlkIs g7 [.string (str k), .string (str (k ++ [0]))] w ∧ True) (by kernel_rfl) (by decide) ?_
        replace s := s.drew; generalize _root_.Go.World.drew _ = w at s ⊢
        have hS : (fun w => BlkIs g1 [.string (str x.1), .string (str x.2)] w ∧ BlkIs g2 [.string (str y.1), .string (str y.2)] w ∧ BlkIs g7 [.string (str k), .string (str (k ++ [0]))] w ∧ True) w := ⟨s.blkIs 5 rfl, s.blkIs 4 rfl, s.blkIs 0 rfl, trivial⟩
        refine hd_val (i := 0) (.int .i64 0) ha rfl (by kernel_rfl) (fun _ _ _ h => h) (by kernel_rfl) (fun w hS => (by kernel_rfl)) hS ?_
        clear ha; intro a ha
        refine hd_val (i := 1) (.bool true) ha rfl (by kernel_rfl) (fun _ _ _ h => h) (by kernel_rfl) (fun w hS => (by kernel_rfl)) hS ?_
        clear ha; intro a ha
        refine hd_val (i := 2) (.bool true) ha rfl (by kernel_rfl) (fun _ _ _ h => h) (by kernel_rfl) (fun w hS => (by kernel_rfl)) hS ?_
        clear ha; intro a ha
        refine hd_val (i := 3) (.agg #[.string (str x.1), .string (str x.2)]) ha rfl (by kernel_rfl) (fun _ _ _ h => h) (by kernel_rfl) (fun w hS => run_loadN (of_ := 0) [.string (str x.1), .string (str x.2)] hS.1 rfl (by kernel_rfl) Try.isAgg29 Try.sizeOf29 rfl (Nat.le_of_ble_eq_true rfl)) hS ?_
        clear ha; intro a ha
        refine hd_val (i := 4) (.agg #[.string (str y.1), .string (str y.2)]) ha rfl (by kernel_rfl) (fun _ _ _ h => h) (by kernel_rfl) (fun w hS => run_loadN (of_ := 0) [.string (str y.1), .string (str y.2)] hS.2.1 rfl (by kernel_rfl) Try.isAgg29 Try.sizeOf29 rfl (Nat.le_of_ble_eq_true rfl)) hS ?_
        clear ha; intro a ha
        refine hd_val (i := 6) (.slice A5 1 c6) ha rfl (by kernel_rfl) (fun _ _ _ h => h) (by kernel_rfl) (fun w hS => (by kernel_rfl)) hS ?_
        clear ha; intro a ha
        refine hd_val (i := 7) (.int .i64 1) ha rfl (by kernel_rfl) (fun _ _ _ h => h) (by kernel_rfl) (fun w hS => (by kernel_rfl)) hS ?_
        clear ha; intro a ha
        refine hd_val (i := 8) (.bool true) ha rfl (by kernel_rfl) (fun _ _ _ h => h) (by kernel_rfl) (fun w hS => (by kernel_rfl)) hS ?_
        clear ha; intro a ha
        refine hd_call (i := 5) ha rfl (by kernel_rfl) (by kernel_rfl) (by kernel_rfl) (meets_is W _ w x y true hB s) ?_
        clear hS; rintro _ w ⟨rfl, s⟩
        replace s : St W (.blk g7 [.string (str k), .string (str (k ++ [0]))] 29 :: Own 29 2 A5 1 c6 (sps cl) :: .blk g4 [.string (str y.1), .string (str y.2)] 29 :: .blk g3 [.string (str x.1), .string (str x.2)] 29 :: .blk g2 [.string (str y.1), .string (str y.2)] 29 :: .blk g1 [.string (str x.1), .string (str x.2)] 29 :: L) w := s
        have hS : (fun w => BlkIs g1 [.string (str x.1), .string (str x.2)] w ∧ BlkIs g2 [.string (str y.1), .string (str y.2)] w ∧ BlkIs g7 [.string (str k), .string (str (k ++ [0]))] w ∧ True) w := ⟨s.blkIs 5 rfl, s.blkIs 4 rfl, s.blkIs 0 rfl, trivial⟩
        refine ⟨_, rfl, hS, ?_⟩; clear ha; intro a ha
        refine hd_val (i := 9) (.bool true) ha rfl (by kernel_rfl) (fun _ _ _ h => h) (by kernel_rfl) (fun w hS => (by kernel_rfl)) hS ?_
        clear ha; intro a ha
        refine hd_val (i := 10) (.bool true) ha rfl (by kernel_rfl) (fun _ _ _ h => h) (by kernel_rfl) (fun w hS => (by kernel_rfl)) hS ?_
        clear ha; intro a ha
        refine hd_val (i := 11) (.bool true) ha rfl (by kernel_rfl) (fun _ _ _ h => h) (by kernel_rfl) (fun w hS => (by kernel_rfl)) hS ?_
        clear ha; intro a ha
        refine hd_val (i := 12) (.slice A5 1 c6) ha rfl (by kernel_rfl) (fun _ _ _ h => h) (by kernel_rfl) (fun w hS => (by kernel_rfl)) hS ?_
        clear ha; intro a ha
        refine hd_val (i := 13) (.int .i64 1) ha rfl (by kernel_rfl) (fun _ _ _ h => h) (by kernel_rfl) (fun w hS => (by kernel_rfl)) hS ?_
        clear ha; intro a ha
        refine hd_val (i := 14) (.bool true) ha rfl (by kernel_rfl) (fun _ _ _ h => h) (by kernel_rfl) (fun w hS => (by kernel_rfl)) hS ?_
        clear ha; intro a ha
        refine hd_val (i := 15) (.bool true) ha rfl (by kernel_rfl) (fun _ _ _ h => h) (by kernel_rfl) (fun w hS => (by kernel_rfl)) hS ?_
        clear ha; intro a ha
        refine hd_val (i := 16) (.bool true) ha rfl (by kernel_rfl) (fun _ _ _ h => h) (by kernel_rfl) (fun w hS => (by kernel_rfl)) hS ?_
        clear ha; intro a ha
        refine hd_val (i := 17) (.agg #[.string (str y.1), .string (str y.2)]) ha rfl (by kernel_rfl) (fun _ _ _ h => h) (by kernel_rfl) (fun w hS => run_loadN (of_ := 0) [.string (str y.1), .string (str y.2)] hS.2.1 rfl (by kernel_rfl) Try.isAgg29 Try.sizeOf29 rfl (Nat.le_of_ble_eq_true rfl)) hS ?_
        clear ha; intro a ha
        refine hd_val (i := 18) (.agg #[.string (str x.1), .string (str x.2)]) ha rfl (by kernel_rfl) (fun _ _ _ h => h) (by kernel_rfl) (fun w hS => run_loadN (of_ := 0) [.string (str x.1), .string (str x.2)] hS.1 rfl (by kernel_rfl) Try.isAgg29 Try.sizeOf29 rfl (Nat.le_of_ble_eq_true rfl)) hS ?_
        clear ha; intro a ha
        refine hd_val (i := 20) (.agg #[.string (str x.1), .string (str x.2)]) ha rfl (by kernel_rfl) (fun _ _ _ h => h) (by kernel_rfl) (fun w hS => run_loadN (of_ := 0) [.string (str x.1), .string (str x.2)] hS.1 rfl (by kernel_rfl) Try.isAgg29 Try.sizeOf29 rfl (Nat.le_of_ble_eq_true rfl)) hS ?_
        clear ha; intro a ha
        refine hd_val (i := 21) (.agg #[.string (str y.1), .string (str y.2)]) ha rfl (by kernel_rfl) (fun _ _ _ h => h) (by kernel_rfl) (fun w hS => run_loadN (of_ := 0) [.string (str y.1), .string (str y.2)] hS.2.1 rfl (by kernel_rfl) Try.isAgg29 Try.sizeOf29 rfl (Nat.le_of_ble_eq_true rfl)) hS ?_
        clear ha; intro a ha
        refine hd_call (i := 19) ha rfl (by kernel_rfl) (by kernel_rfl) (by kernel_rfl) (meets_is W _ w y x true ((mts_comm x y).trans hB) s) ?_
        clear hS; rintro _ w ⟨rfl, s⟩
        replace s : St W (.blk g7 [.string (str k), .string (str (k ++ [0]))] 29 :: Own 29 2 A5 1 c6 (sps cl) :: .blk g4 [.string (str y.1), .string (str y.2)] 29 :: .blk g3 [.string (str x.1), .string (str x.2)] 29 :: .blk g2 [.string (str y.1), .string (str y.2)] 29 :: .blk g1 [.string (str x.1), .string (str x.2)] 29 :: L) w := s
        have hS : (fun w => BlkIs g1 [.string (str x.1), .string (str x.2)] w ∧ BlkIs g2 [.string (str y.1), .string (str y.2)] w ∧ BlkIs g7 [.string (str k), .string (str (k ++ [0]))] w ∧ True) w := ⟨s.blkIs 5 rfl, s.blkIs 4 rfl, s.blkIs 0 rfl, trivial⟩
        refine ⟨_, rfl, hS, ?_⟩; clear ha; intro a ha
        refine hd_call (i := 22) ha rfl (by kernel_rfl) (by kernel_rfl) (by kernel_rfl) (meets_is W _ w x y true hB s) ?_
        clear hS; rintro _ w ⟨rfl, s⟩
        replace s : St W (.blk g7 [.string (str k), .string (str (k ++ [0]))] 29 :: Own 29 2 A5 1 c6 (sps cl) :: .blk g4 [.string (str y.1), .string (str y.2)] 29 :: .blk g3 [.string (str x.1), .string (str x.2)] 29 :: .blk g2 [.string (str y.1), .string (str y.2)] 29 :: .blk g1 [.string (str x.1), .string (str x.2)] 29 :: L) w := s
        have hS : (fun w => BlkIs g1 [.string (str x.1), .string (str x.2)] w ∧ BlkIs g2 [.string (str y.1), .string (str y.2)] w ∧ BlkIs g7 [.string (str k), .string (str (k ++ [0]))] w ∧ True) w := ⟨s.blkIs 5 rfl, s.blkIs 4 rfl, s.blkIs 0 rfl, trivial⟩
        refine ⟨_, rfl, hS, ?_⟩; clear ha; intro a ha
        refine hd_val (i := 23) (.bool true) ha rfl (by kernel_rfl) (fun _ _ _ h => h) (by kernel_rfl) (fun w hS => (by kernel_rfl)) hS ?_
        clear ha; intro a ha
        refine hd_val (i := 24) (.bool true) ha rfl (by kernel_rfl) (fun _ _ _ h => h) (by kernel_rfl) (fun w hS => (by kernel_rfl)) hS ?_
        clear ha; intro a ha
        refine hd_val (i := 25) (.bool true) ha rfl (by kernel_rfl) (fun _ _ _ h => h) (by kernel_rfl) (fun w hS => (by kernel_rfl)) hS ?_
        clear ha; intro a ha
        refine hd_val (i := 26) (.int .i64 0) ha rfl (by kernel_rfl) (fun _ _ _ h => h) (by kernel_rfl) (fun w hS => (by kernel_rfl)) hS ?_
        clear ha; intro a ha
        refine hd_val (i := 27) (.bool true) ha rfl (by kernel_rfl) (fun _ _ _ h => h) (by kernel_rfl) (fun w hS => (by kernel_rfl)) hS ?_
        clear ha; intro a ha
        refine hd_val (i := 28) (.bool true) ha rfl (by kernel_rfl) (fun _ _ _ h => h) (by kernel_rfl) (fun w hS => (by kernel_rfl)) hS ?_
        clear ha; intro a ha
        refine hd_val (i := 29) (.bool true) ha rfl (by kernel_rfl) (fun _ _ _ h => h) (by kernel_rfl) (fun w hS => (by kernel_rfl)) hS ?_
        clear ha; intro a ha
        refine hd_val (i := 30) (.agg #[.string (str k), .string (str (k ++ [0]))]) ha rfl (by kernel_rfl) (fun _ _ _ h => h) (by kernel_rfl) (fun w hS => run_loadN (of_ := 0) [.string (str k), .string (str (k ++ [0]))] hS.2.2.1 rfl (by kernel_rfl) Try.isAgg29 Try.sizeOf29 rfl (Nat.le_of_ble_eq_true rfl)) hS ?_
        clear ha; intro a ha
        refine hd_call (i := 31) ha rfl (by kernel_rfl) (by kernel_rfl) (by kernel_rfl) (check_lit W _ w (k, k ++ [0]) 0 (chk_key k hk32) s) ?_
        clear hS; rintro _ w ⟨rfl, s⟩
        replace s : St W (.blk g7 [.string (str k), .string (str (k ++ [0]))] 29 :: Own 29 2 A5 1 c6 (sps cl) :: .blk g4 [.string (str y.1), .string (str y.2)] 29 :: .blk g3 [.string (str x.1), .string (str x.2)] 29 :: .blk g2 [.string (str y.1), .string (str y.2)] 29 :: .blk g1 [.string (str x.1), .string (str x.2)] 29 :: L) w := s
        have hS : (fun w => BlkIs g1 [.string (str x.1), .string (str x.2)] w ∧ BlkIs g2 [.string (str y.1), .string (str y.2)] w ∧ BlkIs g7 [.string (str k), .string (str (k ++ [0]))] w ∧ True) w := ⟨s.blkIs 5 rfl, s.blkIs 4 rfl, s.blkIs 0 rfl, trivial⟩
        refine ⟨_, rfl, hS, ?_⟩; clear ha; intro a ha
        refine hd_val (i := 32) (.bool true) ha rfl (by kernel_rfl) (fun _ _ _ h => h) (by kernel_rfl) (fun w hS => (by kernel_rfl)) hS ?_
        clear ha; intro a ha
        refine hd_val (i := 33) (.bool true) ha rfl (by kernel_rfl) (fun _ _ _ h => h) (by kernel_rfl) (fun w hS => (by kernel_rfl)) hS ?_
        clear ha; intro a ha
        refine hd_val (i := 34) (.bool true) ha rfl (by kernel_rfl) (fun _ _ _ h => h) (by kernel_rfl) (fun w hS => (by kernel_rfl)) hS ?_
        clear ha; intro a ha
        refine hd_val (i := 35) (.agg #[.string (str x.1), .string (str x.2)]) ha rfl (by kernel_rfl) (fun _ _ _ h => h) (by kernel_rfl) (fun w hS => run_loadN (of_ := 0) [.string (str x.1), .string (str x.2)] hS.1 rfl (by kernel_rfl) Try.isAgg29 Try.sizeOf29 rfl (Nat.le_of_ble_eq_true rfl)) hS ?_
        clear ha; intro a ha
        refine hd_val (i := 36) (.agg #[.string (str k), .string (str (k ++ [0]))]) ha rfl (by kernel_rfl) (fun _ _ _ h => h) (by kernel_rfl) (fun w hS => run_loadN (of_ := 0) [.string (str k), .string (str (k ++ [0]))] hS.2.2.1 rfl (by kernel_rfl) Try.isAgg29 Try.sizeOf29 rfl (Nat.le_of_ble_eq_true rfl)) hS ?_
        clear ha; intro a ha
        refine hd_val (i := 38) (.agg #[.string (str x.1), .string (str x.2)]) ha rfl (by kernel_rfl) (fun _ _ _ h => h) (by kernel_rfl) (fun w hS => run_loadN (of_ := 0) [.string (str x.1), .string (str x.2)] hS.1 rfl (by kernel_rfl) Try.isAgg29 Try.sizeOf29 rfl (Nat.le_of_ble_eq_true rfl)) hS ?_
        clear ha; intro a ha
        refine hd_val (i := 39) (.string (str k)) ha rfl (by kernel_rfl) (fun _ _ _ h => h) (by kernel_rfl) (fun w hS => (by kernel_rfl)) hS ?_
        clear ha; intro a ha
        refine hd_call (i := 37) ha rfl (by kernel_rfl) (by kernel_rfl) (by kernel_rfl) (meets_is W _ w x (k, k ++ [0]) (has x k) (mts_key x k) s) ?_
        clear hS; rintro _ w ⟨rfl, s⟩
        replace s : St W (.blk g7 [.string (str k), .string (str (k ++ [0]))] 29 :: Own 29 2 A5 1 c6 (sps cl) :: .blk g4 [.string (str y.1), .string (str y.2)] 29 :: .blk g3 [.string (str x.1), .string (str x.2)] 29 :: .blk g2 [.string (str y.1), .string (str y.2)] 29 :: .blk g1 [.string (str x.1), .string (str x.2)] 29 :: L) w := s
        have hS : (fun w => BlkIs g1 [.string (str x.1), .string (str x.2)] w ∧ BlkIs g2 [.string (str y.1), .string (str y.2)] w ∧ BlkIs g7 [.string (str k), .string (str (k ++ [0]))] w ∧ True) w := ⟨s.blkIs 5 rfl, s.blkIs 4 rfl, s.blkIs 0 rfl, trivial⟩
        refine ⟨_, rfl, hS, ?_⟩; clear ha; intro a ha
        refine hd_call (i := 40) ha rfl (by kernel_rfl) (by kernel_rfl) (by kernel_rfl) (has_any W _ w x k s) ?_
        clear hS; rintro _ w ⟨rfl, s⟩
        replace s : St W (.blk g7 [.string (str k), .string (str (k ++ [0]))] 29 :: Own 29 2 A5 1 c6 (sps cl) :: .blk g4 [.string (str y.1), .string (str y.2)] 29 :: .blk g3 [.string (str x.1), .string (str x.2)] 29 :: .blk g2 [.string (str y.1), .string (str y.2)] 29 :: .blk g1 [.string (str x.1), .string (str x.2)] 29 :: L) w := s
        have hS : (fun w => BlkIs g1 [.string (str x.1), .string (str x.2)] w ∧ BlkIs g2 [.string (str y.1), .string (str y.2)] w ∧ BlkIs g7 [.string (str k), .string (str (k ++ [0]))] w ∧ True) w := ⟨s.blkIs 5 rfl, s.blkIs 4 rfl, s.blkIs 0 rfl, trivial⟩
        refine ⟨_, rfl, hS, ?_⟩; clear ha; intro a ha
        refine hd_val (i := 41) (.bool true) ha rfl (by kernel_rfl) (fun _ _ _ h => h) (by kernel_rfl) (fun w hS => (run_known (beq_self_eq_true _) (show (execOp (evalE _) _).run _ _ = .ok (.value (.bool ((has x k) == (has x k)))) _ from by kernel_rfl))) hS ?_
        clear ha; intro a ha
        refine hd_val (i := 42) (.bool true) ha rfl (by kernel_rfl) (fun _ _ _ h => h) (by kernel_rfl) (fun w hS => (by kernel_rfl)) hS ?_
        clear ha; intro a ha
        refine hd_val (i := 43) (.bool true) ha rfl (by kernel_rfl) (fun _ _ _ h => h) (by kernel_rfl) (fun w hS => (by kernel_rfl)) hS ?_
        clear ha; intro a ha
        refine hd_val (i := 44) (.agg #[.string (str k), .string (str (k ++ [0]))]) ha rfl (by kernel_rfl) (fun _ _ _ h => h) (by kernel_rfl) (fun w hS => run_loadN (of_ := 0) [.string (str k), .string (str (k ++ [0]))] hS.2.2.1 rfl (by kernel_rfl) Try.isAgg29 Try.sizeOf29 rfl (Nat.le_of_ble_eq_true rfl)) hS ?_
        clear ha; intro a ha
        refine hd_val (i := 45) (.string (str k)) ha rfl (by kernel_rfl) (fun _ _ _ h => h) (by kernel_rfl) (fun w hS => (by kernel_rfl)) hS ?_
        clear ha; intro a ha
        refine Head.done (by kernel_rfl) ?_
        clear hS; simp only [List.drop_succ_cons, List.drop_zero]
        refine st_call ha (by kernel_rfl) (by kernel_rfl) (has_is W _ w (k, k ++ [0]) k true (has_key k) s) ?_
        rintro _ w ⟨rfl, s⟩
        replace s : St W (.blk g7 [.string (str k), .string (str (k ++ [0]))] 29 :: Own 29 2 A5 1 c6 (sps cl) :: .blk g4 [.string (str y.1), .string (str y.2)] 29 :: .blk g3 [.string (str x.1), .string (str x.2)] 29 :: .blk g2 [.string (str y.1), .string (str y.2)] 29 :: .blk g1 [.string (str x.1), .string (str x.2)] 29 :: L) w := s
        refine ⟨_, rfl, ?_⟩; clear ha; intro a ha
        refine st_val (.bool true) ha (by kernel_rfl) (by kernel_rfl) ?_
        clear ha; intro a ha
        refine st_val (.bool true) ha (by kernel_rfl) (by kernel_rfl) ?_
        clear ha; intro a ha
        refine wpList_nil ?_
        refine then_normal ?_
        refine wp_ret ?_
        refine ret_with (v := .bool true) ha (results_1 rfl ha (res_tmp (by kernel_rfl) (by kernel_rfl))) ?_
        replace s := s.tail.tail.tail.tail.tail.tail
        replace s : St W (L) w := s
        exact ⟨rfl, s⟩

theorem spansMeet_false (W : World) (L : List Chunk) (w : World) (x y : Span) (k : K) (hkl : k.length ≤ 140737488351232) (hB : mts x y = false) (s : St W L w) :
    Calls Try.prog 5 #[.agg #[.string (str x.1), .string (str x.2)], .agg #[.string (str y.1), .string (str y.2)], .string (str k)] w fun e w' => e = .returned (.bool true) ∧ St W L w' := by
  refine enter_args (l := [.agg #[.string (str x.1), .string (str x.2)], .agg #[.string (str y.1), .string (str y.2)], .string (str k)]) Try.func5 rfl rfl (Nat.le_of_ble_eq_true rfl) ?_
  intro a ha; replace ha : Has a 87 [(0, .agg #[.string (str x.1), .string (str x.2)]), (1, .agg #[.string (str y.1), .string (str y.2)]), (2, .string (str k))] := ha
  refine wp_seq ?_
  refine wp_region_lit ?_
  refine st_ex ha (by kernel_rfl) (ex_box [.string (str x.1), .string (str x.2)] s rfl (by kernel_rfl)) ?_
  clear ha; rintro _ w a ⟨g1, rfl, s⟩ ha
  replace s : St W (.blk g1 [.string (str x.1), .string (str x.2)] 29 :: L) w := s
  refine st_ex ha (by kernel_rfl) (ex_box [.string (str y.1), .string (str y.2)] s rfl (by kernel_rfl)) ?_
  clear ha; rintro _ w a ⟨g2, rfl, s⟩ ha
  replace s : St W (.blk g2 [.string (str y.1), .string (str y.2)] 29 :: .blk g1 [.string (str x.1), .string (str x.2)] 29 :: L) w := s
  refine st_val (.bool false) ha (by kernel_rfl) (by kernel_rfl) ?_
  clear ha; intro a ha
  refine wpList_nil ?_
  refine then_normal ?_
  refine wp_seq ?_
  refine wp_seq ?_
  refine wp_region_lit ?_
  refine st_call ha (by kernel_rfl) (by kernel_rfl) (works_true W _ w s) ?_
  rintro _ w ⟨rfl, s⟩
  replace s : St W (.blk g2 [.string (str y.1), .string (str y.2)] 29 :: .blk g1 [.string (str x.1), .string (str x.2)] 29 :: L) w := s
  refine ⟨_, rfl, ?_⟩; clear ha; intro a ha
  refine st_val (.bool false) ha (by kernel_rfl) (by kernel_rfl) ?_
  clear ha; intro a ha
  refine wpList_nil ?_
  refine then_normal ?_
  refine wp_false ha rfl (by kernel_rfl) ?_
  refine wp_skip ?_
  refine then_normal ?_
  refine wp_seq ?_
  refine wp_seq ?_
  refine wp_region_lit ?_
  refine st_val (.agg #[.string (str x.1), .string (str x.2)]) ha (by kernel_rfl) (run_loadN (of_ := 0) [.string (str x.1), .string (str x.2)] (s.blkIs 1 rfl) rfl (by kernel_rfl) Try.isAgg29 Try.sizeOf29 rfl (Nat.le_of_ble_eq_true rfl)) ?_
  clear ha; intro a ha
  refine st_call ha (by kernel_rfl) (by kernel_rfl) (check_any W _ w x s) ?_
  rintro _ w ⟨rfl, s⟩
  replace s : St W (.blk g2 [.string (str y.1), .string (str y.2)] 29 :: .blk g1 [.string (str x.1), .string (str x.2)] 29 :: L) w := s
  refine ⟨_, rfl, ?_⟩; clear ha; intro a ha
  refine st_val (.bool ((chk x) != (0 : Int))) ha (by kernel_rfl) (by kernel_rfl) ?_
  clear ha; intro a ha
  refine st_val (.bool ((chk x) != (0 : Int))) ha (by kernel_rfl) (by kernel_rfl) ?_
  clear ha; intro a ha
  rcases Bool.eq_false_or_eq_true ((chk x) != (0 : Int)) with hb | hb
  · rw [hb] at ha; have hb_ := hb; replace hb := bne_iff_ne.1 hb
    refine st_pass ha (by kernel_rfl) ?_
    clear ha; intro a ha
    refine st_pass ha (by kernel_rfl) ?_
    clear ha; intro a ha
    refine st_pass ha (by kernel_rfl) ?_
    clear ha; intro a ha
    refine st_val (.bool true) ha (by kernel_rfl) (by kernel_rfl) ?_
    clear ha; intro a ha
    refine st_val (.bool true) ha (by kernel_rfl) (by kernel_rfl) ?_
    clear ha; intro a ha
    refine st_pass ha (by kernel_rfl) ?_
    clear ha; intro a ha
    refine st_pass ha (by kernel_rfl) ?_
    clear ha; intro a ha
    refine st_pass ha (by kernel_rfl) ?_
    clear ha; intro a ha
    refine st_val (.bool true) ha (by kernel_rfl) (by kernel_rfl) ?_
    clear ha; intro a ha
    refine wpList_nil ?_
    refine then_normal ?_
    refine wp_true ha rfl (by kernel_rfl) ?_
    refine wp_seq ?_
    refine wp_region_lit ?_
    refine st_val (.bool true) ha (by kernel_rfl) (by kernel_rfl) ?_
    clear ha; intro a ha
    refine wpList_nil ?_
    refine then_normal ?_
    refine wp_ret ?_
    refine then_ret ?_
    refine ret_with (v := .bool true) ha (results_1 rfl ha (res_tmp (by kernel_rfl) (by kernel_rfl))) ?_
    replace s := s.tail.tail
    replace s : St W (L) w := s
    exact ⟨rfl, s⟩
  · rw [hb] at ha; have hb_ := hb; replace hb := bne_eq_false_iff_eq.1 hb
    have hcx : chk x = 0 := hb
    refine st_val (.agg #[.string (str y.1), .string (str y.2)]) ha (by kernel_rfl) (run_loadN (of_ := 0) [.string (str y.1), .string (str y.2)] (s.blkIs 0 rfl) rfl (by kernel_rfl) Try.isAgg29 Try.sizeOf29 rfl (Nat.le_of_ble_eq_true rfl)) ?_
    clear ha; intro a ha
    refine st_call ha (by kernel_rfl) (by kernel_rfl) (check_any W _ w y s) ?_
    rintro _ w ⟨rfl, s⟩
    replace s : St W (.blk g2 [.string (str y.1), .string (str y.2)] 29 :: .blk g1 [.string (str x.1), .string (str x.2)] 29 :: L) w := s
    refine ⟨_, rfl, ?_⟩; clear ha; intro a ha
    refine st_val (.bool ((chk y) != (0 : Int))) ha (by kernel_rfl) (by kernel_rfl) ?_
    clear ha; intro a ha
    refine st_val (.bool ((chk y) != (0 : Int))) ha (by kernel_rfl) (by kernel_rfl) ?_
    clear ha; intro a ha
    refine st_val (.bool ((chk y) != (0 : Int))) ha (by kernel_rfl) (by kernel_rfl) ?_
    clear ha; intro a ha
    rcases Bool.eq_false_or_eq_true ((chk y) != (0 : Int)) with hb | hb
    · rw [hb] at ha; have hb_ := hb; replace hb := bne_iff_ne.1 hb
      refine st_pass ha (by kernel_rfl) ?_
      clear ha; intro a ha
      refine st_pass ha (by kernel_rfl) ?_
      clear ha; intro a ha
      refine st_pass ha (by kernel_rfl) ?_
      clear ha; intro a ha
      refine st_val (.bool true) ha (by kernel_rfl) (by kernel_rfl) ?_
      clear ha; intro a ha
      refine wpList_nil ?_
      refine then_normal ?_
      refine wp_true ha rfl (by kernel_rfl) ?_
      refine wp_seq ?_
      refine wp_region_lit ?_
      refine st_val (.bool true) ha (by kernel_rfl) (by kernel_rfl) ?_
      clear ha; intro a ha
      refine wpList_nil ?_
      refine then_normal ?_
      refine wp_ret ?_
      refine then_ret ?_
      refine ret_with (v := .bool true) ha (results_1 rfl ha (res_tmp (by kernel_rfl) (by kernel_rfl))) ?_
      replace s := s.tail.tail
      replace s : St W (L) w := s
      exact ⟨rfl, s⟩
    · rw [hb] at ha; have hb_ := hb; replace hb := bne_eq_false_iff_eq.1 hb
      have hcy : chk y = 0 := hb
      refine st_val (.string (str k)) ha (by kernel_rfl) (by kernel_rfl) ?_
      clear ha; intro a ha
      refine st_val (.int .i64 ((k.length : Nat) : Int)) ha (by kernel_rfl) (run_slen rfl Try.underlying9 (by kernel_rfl) _) ?_
      clear ha; intro a ha
      refine st_val (.bool (decide (((k.length : Nat) : Int) > (32 : Int)))) ha (by kernel_rfl) (by kernel_rfl) ?_
      clear ha; intro a ha
      refine st_val (.bool (decide (((k.length : Nat) : Int) > (32 : Int)))) ha (by kernel_rfl) (by kernel_rfl) ?_
      clear ha; intro a ha
      refine wpList_nil ?_
      refine then_normal ?_
      refine wp_part (decide (((k.length : Nat) : Int) > (32 : Int))) ha rfl (by kernel_rfl) (fun hb => ?_) (fun hb => ?_)
      · rw [hb] at ha; replace hb : (((k.length : Nat) : Int) > (32 : Int)) := of_decide_eq_true hb
        refine wp_seq ?_
        refine wp_region_lit ?_
        refine st_val (.bool true) ha (by kernel_rfl) (by kernel_rfl) ?_
        clear ha; intro a ha
        refine wpList_nil ?_
        refine then_normal ?_
        refine wp_ret ?_
        refine then_ret ?_
        refine ret_with (v := .bool true) ha (results_1 rfl ha (res_tmp (by kernel_rfl) (by kernel_rfl))) ?_
        replace s := s.tail.tail
        replace s : St W (L) w := s
        exact ⟨rfl, s⟩
      · rw [hb] at ha; replace hb : ¬ (((k.length : Nat) : Int) > (32 : Int)) := of_decide_eq_false hb
        have hk32 : k.length ≤ 32 := by omega
        refine wp_skip ?_
        refine then_normal ?_
        refine wp_seq ?_
        refine wp_region_lit ?_
        refine st_val (.agg #[.string (str x.1), .string (str x.2)]) ha (by kernel_rfl) (run_loadN (of_ := 0) [.string (str x.1), .string (str x.2)] (s.blkIs 1 rfl) rfl (by kernel_rfl) Try.isAgg29 Try.sizeOf29 rfl (Nat.le_of_ble_eq_true rfl)) ?_
        clear ha; intro a ha
        refine st_ex ha (by kernel_rfl) (ex_buildSlice elt22 _ zs22 [.string (str x.1), .string (str x.2)] s rfl (by kernel_rfl) (by decide)) ?_
        clear ha; rintro _ w a ⟨g3, rfl, s⟩ ha
        replace s : St W (.blk g3 [.string (str x.1), .string (str x.2)] 29 :: .blk g2 [.string (str y.1), .string (str y.2)] 29 :: .blk g1 [.string (str x.1), .string (str x.2)] 29 :: L) w := s
        refine st_val (.agg #[.string (str y.1), .string (str y.2)]) ha (by kernel_rfl) (run_loadN (of_ := 0) [.string (str y.1), .string (str y.2)] (s.blkIs 1 rfl) rfl (by kernel_rfl) Try.isAgg29 Try.sizeOf29 rfl (Nat.le_of_ble_eq_true rfl)) ?_
        clear ha; intro a ha
        refine st_ex ha (by kernel_rfl) (ex_buildSlice elt22 _ zs22 [.string (str y.1), .string (str y.2)] s rfl (by kernel_rfl) (by decide)) ?_
        clear ha; rintro _ w a ⟨g4, rfl, s⟩ ha
        replace s : St W (.blk g4 [.string (str y.1), .string (str y.2)] 29 :: .blk g3 [.string (str x.1), .string (str x.2)] 29 :: .blk g2 [.string (str y.1), .string (str y.2)] 29 :: .blk g1 [.string (str x.1), .string (str x.2)] 29 :: L) w := s
        refine st_call ha (by kernel_rfl) (by kernel_rfl) (both_ok W _ w (some ⟨g3, 0, none⟩) (some ⟨g4, 0, none⟩) 1 1 1 1 [x] [y] (Knows.blk (j := 1) (cs := sps [x]) rfl rfl) (Knows.blk (j := 0) (cs := sps [y]) rfl rfl) rfl rfl (by simpa using hcx) (by simpa using hcy) (by omega) (by omega) s) ?_
        rintro _ w ⟨A5, c6, cl, rfl, hcan, hsm, hcl, s⟩
        have hlen : cl.length = 0 := meet_canon hcan (chk_ok hcx).2.2 (chk_ok hcy).2.2 false hB
        rw [hlen] at s
        rw [hlen]
        replace s : St W (Own 29 2 A5 0 c6 (sps cl) :: .blk g4 [.string (str y.1), .string (str y.2)] 29 :: .blk g3 [.string (str x.1), .string (str x.2)] 29 :: .blk g2 [.string (str y.1), .string (str y.2)] 29 :: .blk g1 [.string (str x.1), .string (str x.2)] 29 :: L) w := s
        refine ⟨_, rfl, ?_⟩; clear ha; intro a ha
        refine st_val (.tuple #[.slice A5 0 c6, .int .i64 0]) ha (by kernel_rfl) (by kernel_rfl) ?_
        clear ha; intro a ha
        refine st_val (.slice A5 0 c6) ha (by kernel_rfl) (by kernel_rfl) ?_
        clear ha; intro a ha
        refine st_val (.int .i64 0) ha (by kernel_rfl) (by kernel_rfl) ?_
        clear ha; intro a ha
        refine st_val (.slice A5 0 c6) ha (by kernel_rfl) (by kernel_rfl) ?_
        clear ha; intro a ha
        refine st_val (.int .i64 0) ha (by kernel_rfl) (by kernel_rfl) ?_
        clear ha; intro a ha
        refine wpList_nil ?_
        refine then_normal ?_
        refine wp_seq ?_
        refine wp_region_lit ?_
        refine st_val (.string (str k)) ha (by kernel_rfl) (by kernel_rfl) ?_
        clear ha; intro a ha
        refine st_call ha (by kernel_rfl) (by kernel_rfl) (of_any W _ w k hk32 s) ?_
        rintro _ w ⟨rfl, s⟩
        replace s : St W (Own 29 2 A5 0 c6 (sps cl) :: .blk g4 [.string (str y.1), .string (str y.2)] 29 :: .blk g3 [.string (str x.1), .string (str x.2)] 29 :: .blk g2 [.string (str y.1), .string (str y.2)] 29 :: .blk g1 [.string (str x.1), .string (str x.2)] 29 :: L) w := s
        refine ⟨_, rfl, ?_⟩; clear ha; intro a ha
        refine st_val (.tuple #[.agg #[.string (str k), .string (str (k ++ [0]))], .int .i64 0]) ha (by kernel_rfl) (by kernel_rfl) ?_
        clear ha; intro a ha
        refine st_val (.agg #[.string (str k), .string (str (k ++ [0]))]) ha (by kernel_rfl) (by kernel_rfl) ?_
        clear ha; intro a ha
        refine st_val (.int .i64 0) ha (by kernel_rfl) (by kernel_rfl) ?_
        clear ha; intro a ha
        refine st_ex ha (by kernel_rfl) (ex_alloc [.string (str []), .string (str [])] s rfl (Try.zeroValue29 _) (by kernel_rfl)) ?_
        clear ha; rintro _ w a ⟨g7, rfl, s⟩ ha
        replace s : St W (.blk g7 [.string (str []), .string (str [])] 29 :: Own 29 2 A5 0 c6 (sps cl) :: .blk g4 [.string (str y.1), .string (str y.2)] 29 :: .blk g3 [.string (str x.1), .string (str x.2)] 29 :: .blk g2 [.string (str y.1), .string (str y.2)] 29 :: .blk g1 [.string (str x.1), .string (str x.2)] 29 :: L) w := s
        refine st_exd ha (by kernel_rfl) (ex_store (of_ := 0) 0 [.string (str k), .string (str (k ++ [0]))] s rfl rfl (by kernel_rfl) (by kernel_rfl) (Try.sizeOf29 _) rfl (by simp [Value.oneCell']) (Nat.le_of_ble_eq_true rfl)) ?_
        clear ha; rintro w a s ha
        replace s : St W (.blk g7 [.string (str k), .string (str (k ++ [0]))] 29 :: Own 29 2 A5 0 c6 (sps cl) :: .blk g4 [.string (str y.1), .string (str y.2)] 29 :: .blk g3 [.string (str x.1), .string (str x.2)] 29 :: .blk g2 [.string (str y.1), .string (str y.2)] 29 :: .blk g1 [.string (str x.1), .string (str x.2)] 29 :: L) w := s
        refine st_val (.int .i64 0) ha (by kernel_rfl) (by kernel_rfl) ?_
        clear ha; intro a ha
        refine wpList_nil ?_
        refine then_normal ?_
        refine wp_seq ?_
        refine wp_region_head 46 (fun w => BlkIs g1 [.string (str x.1), .string (str x.2)] w ∧ BlkIs g2 [.string (str y.1), .string (str y.2)] w ∧ BlkIs g7 [.string (str k), .string (str (k ++ [0]))] w ∧ True) (by kernel_rfl) (by decide) ?_
        replace s := s.drew; generalize _root_.Go.World.drew _ = w at s ⊢
        have hS : (fun w => BlkIs g1 [.string (str x.1), .string (str x.2)] w ∧ BlkIs g2 [.string (str y.1), .string (str y.2)] w ∧ BlkIs g7 [.string (str k), .string (str (k ++ [0]))] w ∧ True) w := ⟨s.blkIs 5 rfl, s.blkIs 4 rfl, s.blkIs 0 rfl, trivial⟩
        refine hd_val (i := 0) (.int .i64 0) ha rfl (by kernel_rfl) (fun _ _ _ h => h) (by kernel_rfl) (fun w hS => (by kernel_rfl)) hS ?_
        clear ha; intro a ha
        refine hd_val (i := 1) (.bool true) ha rfl (by kernel_rfl) (fun _ _ _ h => h) (by kernel_rfl) (fun w hS => (by kernel_rfl)) hS ?_
        clear ha; intro a ha
        refine hd_val (i := 2) (.bool true) ha rfl (by kernel_rfl) (fun _ _ _ h => h) (by kernel_rfl) (fun w hS => (by kernel_rfl)) hS ?_
        clear ha; intro a ha
        refine hd_val (i := 3) (.agg #[.string (str x.1), .string (str x.2)]) ha rfl (by kernel_rfl) (fun _ _ _ h => h) (by kernel_rfl) (fun w hS => run_loadN (of_ := 0) [.string (str x.1), .string (str x.2)] hS.1 rfl (by kernel_rfl) Try.isAgg29 Try.sizeOf29 rfl (Nat.le_of_ble_eq_true rfl)) hS ?_
        clear ha; intro a ha
        refine hd_val (i := 4) (.agg #[.string (str y.1), .string (str y.2)]) ha rfl (by kernel_rfl) (fun _ _ _ h => h) (by kernel_rfl) (fun w hS => run_loadN (of_ := 0) [.string (str y.1), .string (str y.2)] hS.2.1 rfl (by kernel_rfl) Try.isAgg29 Try.sizeOf29 rfl (Nat.le_of_ble_eq_true rfl)) hS ?_
        clear ha; intro a ha
        refine hd_val (i := 6) (.slice A5 0 c6) ha rfl (by kernel_rfl) (fun _ _ _ h => h) (by kernel_rfl) (fun w hS => (by kernel_rfl)) hS ?_
        clear ha; intro a ha
        refine hd_val (i := 7) (.int .i64 0) ha rfl (by kernel_rfl) (fun _ _ _ h => h) (by kernel_rfl) (fun w hS => (by kernel_rfl)) hS ?_
        clear ha; intro a ha
        refine hd_val (i := 8) (.bool false) ha rfl (by kernel_rfl) (fun _ _ _ h => h) (by kernel_rfl) (fun w hS => (by kernel_rfl)) hS ?_
        clear ha; intro a ha
        refine hd_call (i := 5) ha rfl (by kernel_rfl) (by kernel_rfl) (by kernel_rfl) (meets_is W _ w x y false hB s) ?_
        clear hS; rintro _ w ⟨rfl, s⟩
        replace s : St W (.blk g7 [.string (str k), .string (str (k ++ [0]))] 29 :: Own 29 2 A5 0 c6 (sps cl) :: .blk g4 [.string (str y.1), .string (str y.2)] 29 :: .blk g3 [.string (str x.1), .string (str x.2)] 29 :: .blk g2 [.string (str y.1), .string (str y.2)] 29 :: .blk g1 [.string (str x.1), .string (str x.2)] 29 :: L) w := s
        have hS : (fun w => BlkIs g1 [.string (str x.1), .string (str x.2)] w ∧ BlkIs g2 [.string (str y.1), .string (str y.2)] w ∧ BlkIs g7 [.string (str k), .string (str (k ++ [0]))] w ∧ True) w := ⟨s.blkIs 5 rfl, s.blkIs 4 rfl, s.blkIs 0 rfl, trivial⟩
        refine ⟨_, rfl, hS, ?_⟩; clear ha; intro a ha
        refine hd_val (i := 9) (.bool true) ha rfl (by kernel_rfl) (fun _ _ _ h => h) (by kernel_rfl) (fun w hS => (by kernel_rfl)) hS ?_
        clear ha; intro a ha
        refine hd_val (i := 10) (.bool true) ha rfl (by kernel_rfl) (fun _ _ _ h => h) (by kernel_rfl) (fun w hS => (by kernel_rfl)) hS ?_
        clear ha; intro a ha
        refine hd_val (i := 11) (.bool true) ha rfl (by kernel_rfl) (fun _ _ _ h => h) (by kernel_rfl) (fun w hS => (by kernel_rfl)) hS ?_
        clear ha; intro a ha
        refine hd_val (i := 12) (.slice A5 0 c6) ha rfl (by kernel_rfl) (fun _ _ _ h => h) (by kernel_rfl) (fun w hS => (by kernel_rfl)) hS ?_
        clear ha; intro a ha
        refine hd_val (i := 13) (.int .i64 0) ha rfl (by kernel_rfl) (fun _ _ _ h => h) (by kernel_rfl) (fun w hS => (by kernel_rfl)) hS ?_
        clear ha; intro a ha
        refine hd_val (i := 14) (.bool true) ha rfl (by kernel_rfl) (fun _ _ _ h => h) (by kernel_rfl) (fun w hS => (by kernel_rfl)) hS ?_
        clear ha; intro a ha
        refine hd_val (i := 15) (.bool true) ha rfl (by kernel_rfl) (fun _ _ _ h => h) (by kernel_rfl) (fun w hS => (by kernel_rfl)) hS ?_
        clear ha; intro a ha
        refine hd_val (i := 16) (.bool true) ha rfl (by kernel_rfl) (fun _ _ _ h => h) (by kernel_rfl) (fun w hS => (by kernel_rfl)) hS ?_
        clear ha; intro a ha
        refine hd_val (i := 17) (.agg #[.string (str y.1), .string (str y.2)]) ha rfl (by kernel_rfl) (fun _ _ _ h => h) (by kernel_rfl) (fun w hS => run_loadN (of_ := 0) [.string (str y.1), .string (str y.2)] hS.2.1 rfl (by kernel_rfl) Try.isAgg29 Try.sizeOf29 rfl (Nat.le_of_ble_eq_true rfl)) hS ?_
        clear ha; intro a ha
        refine hd_val (i := 18) (.agg #[.string (str x.1), .string (str x.2)]) ha rfl (by kernel_rfl) (fun _ _ _ h => h) (by kernel_rfl) (fun w hS => run_loadN (of_ := 0) [.string (str x.1), .string (str x.2)] hS.1 rfl (by kernel_rfl) Try.isAgg29 Try.sizeOf29 rfl (Nat.le_of_ble_eq_true rfl)) hS ?_
        clear ha; intro a ha
        refine hd_val (i := 20) (.agg #[.string (str x.1), .string (str x.2)]) ha rfl (by kernel_rfl) (fun _ _ _ h => h) (by kernel_rfl) (fun w hS => run_loadN (of_ := 0) [.string (str x.1), .string (str x.2)] hS.1 rfl (by kernel_rfl) Try.isAgg29 Try.sizeOf29 rfl (Nat.le_of_ble_eq_true rfl)) hS ?_
        clear ha; intro a ha
        refine hd_val (i := 21) (.agg #[.string (str y.1), .string (str y.2)]) ha rfl (by kernel_rfl) (fun _ _ _ h => h) (by kernel_rfl) (fun w hS => run_loadN (of_ := 0) [.string (str y.1), .string (str y.2)] hS.2.1 rfl (by kernel_rfl) Try.isAgg29 Try.sizeOf29 rfl (Nat.le_of_ble_eq_true rfl)) hS ?_
        clear ha; intro a ha
        refine hd_call (i := 19) ha rfl (by kernel_rfl) (by kernel_rfl) (by kernel_rfl) (meets_is W _ w y x false ((mts_comm x y).trans hB) s) ?_
        clear hS; rintro _ w ⟨rfl, s⟩
        replace s : St W (.blk g7 [.string (str k), .string (str (k ++ [0]))] 29 :: Own 29 2 A5 0 c6 (sps cl) :: .blk g4 [.string (str y.1), .string (str y.2)] 29 :: .blk g3 [.string (str x.1), .string (str x.2)] 29 :: .blk g2 [.string (str y.1), .string (str y.2)] 29 :: .blk g1 [.string (str x.1), .string (str x.2)] 29 :: L) w := s
        have hS : (fun w => BlkIs g1 [.string (str x.1), .string (str x.2)] w ∧ BlkIs g2 [.string (str y.1), .string (str y.2)] w ∧ BlkIs g7 [.string (str k), .string (str (k ++ [0]))] w ∧ True) w := ⟨s.blkIs 5 rfl, s.blkIs 4 rfl, s.blkIs 0 rfl, trivial⟩
        refine ⟨_, rfl, hS, ?_⟩; clear ha; intro a ha
        refine hd_call (i := 22) ha rfl (by kernel_rfl) (by kernel_rfl) (by kernel_rfl) (meets_is W _ w x y false hB s) ?_
        clear hS; rintro _ w ⟨rfl, s⟩
        replace s : St W (.blk g7 [.string (str k), .string (str (k ++ [0]))] 29 :: Own 29 2 A5 0 c6 (sps cl) :: .blk g4 [.string (str y.1), .string (str y.2)] 29 :: .blk g3 [.string (str x.1), .string (str x.2)] 29 :: .blk g2 [.string (str y.1), .string (str y.2)] 29 :: .blk g1 [.string (str x.1), .string (str x.2)] 29 :: L) w := s
        have hS : (fun w => BlkIs g1 [.string (str x.1), .string (str x.2)] w ∧ BlkIs g2 [.string (str y.1), .string (str y.2)] w ∧ BlkIs g7 [.string (str k), .string (str (k ++ [0]))] w ∧ True) w := ⟨s.blkIs 5 rfl, s.blkIs 4 rfl, s.blkIs 0 rfl, trivial⟩
        refine ⟨_, rfl, hS, ?_⟩; clear ha; intro a ha
        refine hd_val (i := 23) (.bool true) ha rfl (by kernel_rfl) (fun _ _ _ h => h) (by kernel_rfl) (fun w hS => (by kernel_rfl)) hS ?_
        clear ha; intro a ha
        refine hd_val (i := 24) (.bool true) ha rfl (by kernel_rfl) (fun _ _ _ h => h) (by kernel_rfl) (fun w hS => (by kernel_rfl)) hS ?_
        clear ha; intro a ha
        refine hd_val (i := 25) (.bool true) ha rfl (by kernel_rfl) (fun _ _ _ h => h) (by kernel_rfl) (fun w hS => (by kernel_rfl)) hS ?_
        clear ha; intro a ha
        refine hd_val (i := 26) (.int .i64 0) ha rfl (by kernel_rfl) (fun _ _ _ h => h) (by kernel_rfl) (fun w hS => (by kernel_rfl)) hS ?_
        clear ha; intro a ha
        refine hd_val (i := 27) (.bool true) ha rfl (by kernel_rfl) (fun _ _ _ h => h) (by kernel_rfl) (fun w hS => (by kernel_rfl)) hS ?_
        clear ha; intro a ha
        refine hd_val (i := 28) (.bool true) ha rfl (by kernel_rfl) (fun _ _ _ h => h) (by kernel_rfl) (fun w hS => (by kernel_rfl)) hS ?_
        clear ha; intro a ha
        refine hd_val (i := 29) (.bool true) ha rfl (by kernel_rfl) (fun _ _ _ h => h) (by kernel_rfl) (fun w hS => (by kernel_rfl)) hS ?_
        clear ha; intro a ha
        refine hd_val (i := 30) (.agg #[.string (str k), .string (str (k ++ [0]))]) ha rfl (by kernel_rfl) (fun _ _ _ h => h) (by kernel_rfl) (fun w hS => run_loadN (of_ := 0) [.string (str k), .string (str (k ++ [0]))] hS.2.2.1 rfl (by kernel_rfl) Try.isAgg29 Try.sizeOf29 rfl (Nat.le_of_ble_eq_true rfl)) hS ?_
        clear ha; intro a ha
        refine hd_call (i := 31) ha rfl (by kernel_rfl) (by kernel_rfl) (by kernel_rfl) (check_lit W _ w (k, k ++ [0]) 0 (chk_key k hk32) s) ?_
        clear hS; rintro _ w ⟨rfl, s⟩
        replace s : St W (.blk g7 [.string (str k), .string (str (k ++ [0]))] 29 :: Own 29 2 A5 0 c6 (sps cl) :: .blk g4 [.string (str y.1), .string (str y.2)] 29 :: .blk g3 [.string (str x.1), .string (str x.2)] 29 :: .blk g2 [.string (str y.1), .string (str y.2)] 29 :: .blk g1 [.string (str x.1), .string (str x.2)] 29 :: L) w := s
        have hS : (fun w => BlkIs g1 [.string (str x.1), .string (str x.2)] w ∧ BlkIs g2 [.string (str y.1), .string (str y.2)] w ∧ BlkIs g7 [.string (str k), .string (str (k ++ [0]))] w ∧ True) w := ⟨s.blkIs 5 rfl, s.blkIs 4 rfl, s.blkIs 0 rfl, trivial⟩
        refine ⟨_, rfl, hS, ?_⟩; clear ha; intro a ha
        refine hd_val (i := 32) (.bool true) ha rfl (by kernel_rfl) (fun _ _ _ h => h) (by kernel_rfl) (fun w hS => (by kernel_rfl)) hS ?_
        clear ha; intro a ha
        refine hd_val (i := 33) (.bool true) ha rfl (by kernel_rfl) (fun _ _ _ h => h) (by kernel_rfl) (fun w hS => (by kernel_rfl)) hS ?_
        clear ha; intro a ha
        refine hd_val (i := 34) (.bool true) ha rfl (by kernel_rfl) (fun _ _ _ h => h) (by kernel_rfl) (fun w hS => (by kernel_rfl)) hS ?_
        clear ha; intro a ha
        refine hd_val (i := 35) (.agg #[.string (str x.1), .string (str x.2)]) ha rfl (by kernel_rfl) (fun _ _ _ h => h) (by kernel_rfl) (fun w hS => run_loadN (of_ := 0) [.string (str x.1), .string (str x.2)] hS.1 rfl (by kernel_rfl) Try.isAgg29 Try.sizeOf29 rfl (Nat.le_of_ble_eq_true rfl)) hS ?_
        clear ha; intro a ha
        refine hd_val (i := 36) (.agg #[.string (str k), .string (str (k ++ [0]))]) ha rfl (by kernel_rfl) (fun _ _ _ h => h) (by kernel_rfl) (fun w hS => run_loadN (of_ := 0) [.string (str k), .string (str (k ++ [0]))] hS.2.2.1 rfl (by kernel_rfl) Try.isAgg29 Try.sizeOf29 rfl (Nat.le_of_ble_eq_true rfl)) hS ?_
        clear ha; intro a ha
        refine hd_val (i := 38) (.agg #[.string (str x.1), .string (str x.2)]) ha rfl (by kernel_rfl) (fun _ _ _ h => h) (by kernel_rfl) (fun w hS => run_loadN (of_ := 0) [.string (str x.1), .string (str x.2)] hS.1 rfl (by kernel_rfl) Try.isAgg29 Try.sizeOf29 rfl (Nat.le_of_ble_eq_true rfl)) hS ?_
        clear ha; intro a ha
        refine hd_val (i := 39) (.string (str k)) ha rfl (by kernel_rfl) (fun _ _ _ h => h) (by kernel_rfl) (fun w hS => (by kernel_rfl)) hS ?_
        clear ha; intro a ha
        refine hd_call (i := 37) ha rfl (by kernel_rfl) (by kernel_rfl) (by kernel_rfl) (meets_is W _ w x (k, k ++ [0]) (has x k) (mts_key x k) s) ?_
        clear hS; rintro _ w ⟨rfl, s⟩
        replace s : St W (.blk g7 [.string (str k), .string (str (k ++ [0]))] 29 :: Own 29 2 A5 0 c6 (sps cl) :: .blk g4 [.string (str y.1), .string (str y.2)] 29 :: .blk g3 [.string (str x.1), .string (str x.2)] 29 :: .blk g2 [.string (str y.1), .string (str y.2)] 29 :: .blk g1 [.string (str x.1), .string (str x.2)] 29 :: L) w := s
        have hS : (fun w => BlkIs g1 [.string (str x.1), .string (str x.2)] w ∧ BlkIs g2 [.string (str y.1), .string (str y.2)] w ∧ BlkIs g7 [.string (str k), .string (str (k ++ [0]))] w ∧ True) w := ⟨s.blkIs 5 rfl, s.blkIs 4 rfl, s.blkIs 0 rfl, trivial⟩
        refine ⟨_, rfl, hS, ?_⟩; clear ha; intro a ha
        refine hd_call (i := 40) ha rfl (by kernel_rfl) (by kernel_rfl) (by kernel_rfl) (has_any W _ w x k s) ?_
        clear hS; rintro _ w ⟨rfl, s⟩
        replace s : St W (.blk g7 [.string (str k), .string (str (k ++ [0]))] 29 :: Own 29 2 A5 0 c6 (sps cl) :: .blk g4 [.string (str y.1), .string (str y.2)] 29 :: .blk g3 [.string (str x.1), .string (str x.2)] 29 :: .blk g2 [.string (str y.1), .string (str y.2)] 29 :: .blk g1 [.string (str x.1), .string (str x.2)] 29 :: L) w := s
        have hS : (fun w => BlkIs g1 [.string (str x.1), .string (str x.2)] w ∧ BlkIs g2 [.string (str y.1), .string (str y.2)] w ∧ BlkIs g7 [.string (str k), .string (str (k ++ [0]))] w ∧ True) w := ⟨s.blkIs 5 rfl, s.blkIs 4 rfl, s.blkIs 0 rfl, trivial⟩
        refine ⟨_, rfl, hS, ?_⟩; clear ha; intro a ha
        refine hd_val (i := 41) (.bool true) ha rfl (by kernel_rfl) (fun _ _ _ h => h) (by kernel_rfl) (fun w hS => (run_known (beq_self_eq_true _) (show (execOp (evalE _) _).run _ _ = .ok (.value (.bool ((has x k) == (has x k)))) _ from by kernel_rfl))) hS ?_
        clear ha; intro a ha
        refine hd_val (i := 42) (.bool true) ha rfl (by kernel_rfl) (fun _ _ _ h => h) (by kernel_rfl) (fun w hS => (by kernel_rfl)) hS ?_
        clear ha; intro a ha
        refine hd_val (i := 43) (.bool true) ha rfl (by kernel_rfl) (fun _ _ _ h => h) (by kernel_rfl) (fun w hS => (by kernel_rfl)) hS ?_
        clear ha; intro a ha
        refine hd_val (i := 44) (.agg #[.string (str k), .string (str (k ++ [0]))]) ha rfl (by kernel_rfl) (fun _ _ _ h => h) (by kernel_rfl) (fun w hS => run_loadN (of_ := 0) [.string (str k), .string (str (k ++ [0]))] hS.2.2.1 rfl (by kernel_rfl) Try.isAgg29 Try.sizeOf29 rfl (Nat.le_of_ble_eq_true rfl)) hS ?_
        clear ha; intro a ha
        refine hd_val (i := 45) (.string (str k)) ha rfl (by kernel_rfl) (fun _ _ _ h => h) (by kernel_rfl) (fun w hS => (by kernel_rfl)) hS ?_
        clear ha; intro a ha
        refine Head.done (by kernel_rfl) ?_
        clear hS; simp only [List.drop_succ_cons, List.drop_zero]
        refine st_call ha (by kernel_rfl) (by kernel_rfl) (has_is W _ w (k, k ++ [0]) k true (has_key k) s) ?_
        rintro _ w ⟨rfl, s⟩
        replace s : St W (.blk g7 [.string (str k), .string (str (k ++ [0]))] 29 :: Own 29 2 A5 0 c6 (sps cl) :: .blk g4 [.string (str y.1), .string (str y.2)] 29 :: .blk g3 [.string (str x.1), .string (str x.2)] 29 :: .blk g2 [.string (str y.1), .string (str y.2)] 29 :: .blk g1 [.string (str x.1), .string (str x.2)] 29 :: L) w := s
        refine ⟨_, rfl, ?_⟩; clear ha; intro a ha
        refine st_val (.bool true) ha (by kernel_rfl) (by kernel_rfl) ?_
        clear ha; intro a ha
        refine st_val (.bool true) ha (by kernel_rfl) (by kernel_rfl) ?_
        clear ha; intro a ha
        refine wpList_nil ?_
        refine then_normal ?_
        refine wp_ret ?_
        refine ret_with (v := .bool true) ha (results_1 rfl ha (res_tmp (by kernel_rfl) (by kernel_rfl))) ?_
        replace s := s.tail.tail.tail.tail.tail.tail
        replace s : St W (L) w := s
        exact ⟨rfl, s⟩

theorem spansMeet_any (W : World) (L : List Chunk) (w : World) (x y : Span) (k : K) (hkl : k.length ≤ 140737488351232) (s : St W L w) : Calls Try.prog 5 #[.agg #[.string (str x.1), .string (str x.2)], .agg #[.string (str y.1), .string (str y.2)], .string (str k)] w fun e w' => e = .returned (.bool true) ∧ St W L w' := by
  cases hB : mts x y with
  | true => exact spansMeet_true W L w x y k hkl hB s
  | false => exact spansMeet_false W L w x y k hkl hB s
end Go.Proofs.Ytcnlidaacgcdhaa.B

import Derived.Test.YtcnlidaacgcdhaaB4
namespace Go.Proofs.Ytcnlidaacgcdhaa.B
open Go.RowKit Go.Proofs.Ytcnlidaacgcdhaa.Sep Go.Proofs.Ytcnlidaacgcdhaa.P
set_option linter.unusedVariables false
set_option linter.unusedSimpArgs false
theorem check_lit (W : World) (L : List Chunk) (w : World) (x : Span) (r : Int) (h : chk x = r) (s : St W L w) : Calls Try.prog 14 #[.agg #[.string (str x.1), .string (str x.2)]] w fun e w' => e = .returned (.int .i64 r) ∧ St W L w' := by
  subst h; exact check_any W L w x s
theorem meets_lit (W : World) (L : List Chunk) (w : World) (x y : Span) (b : Bool) (h : decide ((if y.1 ≤ x.1 then x.1 else y.1) < (if x.2 ≤ y.2 then x.2 else y.2)) = b) (s : St W L w) : Calls Try.prog 16 #[.agg #[.string (str x.1), .string (str x.2)], .agg #[.string (str y.1), .string (str y.2)]] w fun e w' => e = .returned (.bool b) ∧ St W L w' := by
  subst h; exact meets_any W L w x y s
theorem is_lit (W : World) (L : List Chunk) (w : World) (A B : Option Addr) (n m ca cb : Nat) (la l : List Span) (h : la = l) (hra : Knows L fun w => Reads w 2 A n (sps la)) (hrb : Knows L fun w => Reads w 1 B m (sps l)) (han : la.length = n) (hm : m = 2 * l.length) (hn : n ≤ 1000000) (hs : m ≤ 1000) (s : St W L w) :
    Calls Try.prog 22 #[.slice A n ca, .int .i64 0, .slice B m cb] w fun e w' => e = .returned (.bool true) ∧ St W L w' := by
  have := is_any W L w A B n m ca cb la l hra hrb han hm hn hs s
  rwa [decide_eq_true h] at this
theorem of_lit (W : World) (L : List Chunk) (w : World) (k r : K) (hk : k.length ≤ 32) (h : k ++ [0] = r) (s : St W L w) : Calls Try.prog 15 #[.string (str k)] w fun e w' => e = .returned (.tuple #[.agg #[.string (str k), .string (str r)], .int .i64 0]) ∧ St W L w' := by
  subst h; exact of_any W L w k hk s
theorem keys_lt : ([97] : K) < [98] ∧ ([98] : K) < [99] ∧ ([99] : K) < [100] ∧ ([100] : K) < [101] ∧ ([101] : K) < [102] ∧ ([102] : K) < [103] := by decide
theorem canon_j : Canon [([97], [100]), ([101], [102])] (fun k => decide (0 < cnt [([99], [100]), ([97], [98]), ([98], [99]), ([101], [102])] k)) := by
  obtain ⟨h1, h2, h3, h4, h5, h6⟩ := keys_lt
  refine ⟨fun k => ?_, by simp; grind, by simp; grind⟩
  generalize ([97] : K) = a at *; generalize ([98] : K) = b at *; generalize ([99] : K) = c at *; generalize ([100] : K) = d at *; generalize ([101] : K) = e at *; generalize ([102] : K) = f at *
  simp only [cnt, List.countP_cons, List.countP_nil, List.mem_cons, List.not_mem_nil, or_false, exists_eq_or_imp, exists_eq_left, has_iff, decide_eq_true_eq, has, Bool.and_eq_true]
  by_cases q1 : k < a <;> by_cases q2 : k < b <;> by_cases q3 : k < c <;> by_cases q4 : k < d <;> by_cases q5 : k < e <;> by_cases q6 : k < f <;> grind
theorem canon_b : Canon [([98], [100]), ([101], [102])] (fun k => decide (0 < cnt [([97], [100]), ([101], [103])] k) && decide (0 < cnt [([98], [102])] k)) := by
  obtain ⟨h1, h2, h3, h4, h5, h6⟩ := keys_lt
  refine ⟨fun k => ?_, by simp; grind, by simp; grind⟩
  generalize ([97] : K) = a at *; generalize ([98] : K) = b at *; generalize ([99] : K) = c at *; generalize ([100] : K) = d at *; generalize ([101] : K) = e at *; generalize ([102] : K) = f at *; generalize ([103] : K) = g at *
  simp only [cnt, List.countP_cons, List.countP_nil, List.mem_cons, List.not_mem_nil, or_false, exists_eq_or_imp, exists_eq_left, has_iff, decide_eq_true_eq, has, Bool.and_eq_true]
  by_cases q1 : k < a <;> by_cases q2 : k < b <;> by_cases q4 : k < d <;> by_cases q5 : k < e <;> by_cases q6 : k < f <;> by_cases q7 : k < g <;> grind
theorem canon_l : Canon [([97], [98]), ([102], [103])] (fun k => decide (0 < cnt [([97], [100]), ([101], [103])] k) && decide (cnt [([98], [102])] k = 0)) := by
  obtain ⟨h1, h2, h3, h4, h5, h6⟩ := keys_lt
  refine ⟨fun k => ?_, by simp; grind, by simp; grind⟩
  generalize ([97] : K) = a at *; generalize ([98] : K) = b at *; generalize ([99] : K) = c at *; generalize ([100] : K) = d at *; generalize ([101] : K) = e at *; generalize ([102] : K) = f at *; generalize ([103] : K) = g at *
  simp only [cnt, List.countP_cons, List.countP_nil, List.mem_cons, List.not_mem_nil, or_false, exists_eq_or_imp, exists_eq_left, has_iff, decide_eq_true_eq, has, Bool.and_eq_true]
  by_cases q1 : k < a <;> by_cases q2 : k < b <;> by_cases q4 : k < d <;> by_cases q5 : k < e <;> by_cases q6 : k < f <;> by_cases q7 : k < g <;> grind

set_option maxRecDepth 100000 in
set_option maxHeartbeats 4000000 in
theorem works_true (W : World) (L : List Chunk) (w : World) (s : St W L w) :
    Calls Try.prog 8 #[] w fun e w' => e = .returned (.bool true) ∧ St W L w' := by
  refine enter_args (l := []) Try.func8 rfl rfl (Nat.le_of_ble_eq_true rfl) ?_
  intro a ha; replace ha : Has a 76 [] := ha
  refine wp_seq ?_
  refine wp_region_lit ?_
  refine st_val (.bool false) ha (by kernel_rfl) (by kernel_rfl) ?_
  clear ha; intro a ha
  refine wpList_nil ?_
  refine then_normal ?_
  refine wp_seq ?_
  refine wp_region_lit ?_
  refine st_call ha (by kernel_rfl) (by kernel_rfl) (of_lit W _ w [97] [97, 0] (by decide) rfl s) ?_
  rintro _ w ⟨rfl, s⟩
  replace s : St W (L) w := s
  refine ⟨_, rfl, ?_⟩; clear ha; intro a ha
  refine st_val (.tuple #[.agg #[.string (str [97]), .string (str [97, 0])], .int .i64 0]) ha (by kernel_rfl) (by kernel_rfl) ?_
  clear ha; intro a ha
  refine st_val (.agg #[.string (str [97]), .string (str [97, 0])]) ha (by kernel_rfl) (by kernel_rfl) ?_
  clear ha; intro a ha
  refine st_val (.int .i64 0) ha (by kernel_rfl) (by kernel_rfl) ?_
  clear ha; intro a ha
  refine st_ex ha (by kernel_rfl) (ex_alloc [.string (str []), .string (str [])] s rfl (Try.zeroValue29 _) (by kernel_rfl)) ?_
  clear ha; rintro _ w a ⟨g1, rfl, s⟩ ha
  replace s : St W (.blk g1 [.string (str []), .string (str [])] 29 :: L) w := s
  refine st_exd ha (by kernel_rfl) (ex_store (of_ := 0) 0 [.string (str [97]), .string (str [97, 0])] s rfl rfl (by kernel_rfl) (by kernel_rfl) (Try.sizeOf29 _) rfl (by simp [Value.oneCell']) (Nat.le_of_ble_eq_true rfl)) ?_
  clear ha; rintro w a s ha
  replace s : St W (.blk g1 [.string (str [97]), .string (str [97, 0])] 29 :: L) w := s
  refine st_val (.int .i64 0) ha (by kernel_rfl) (by kernel_rfl) ?_
  clear ha; intro a ha
  refine wpList_nil ?_
  refine then_normal ?_
  refine wp_seq ?_
  refine wp_region_lit ?_
  refine st_ex ha (by kernel_rfl) (ex_buildSlice elt62 _ zs62 [.string (str [99]), .string (str [100]), .string (str [97]), .string (str [98]), .string (str [98]), .string (str [99]), .string (str [101]), .string (str [102])] s rfl (by kernel_rfl) (by decide)) ?_
  clear ha; rintro _ w a ⟨g2, rfl, s⟩ ha
  replace s : St W (.blk g2 [.string (str [99]), .string (str [100]), .string (str [97]), .string (str [98]), .string (str [98]), .string (str [99]), .string (str [101]), .string (str [102])] 9 :: .blk g1 [.string (str [97]), .string (str [97, 0])] 29 :: L) w := s
  refine st_call ha (by kernel_rfl) (by kernel_rfl) (list_ok W _ w (some ⟨g2, 0, none⟩) 8 8 [([99], [100]), ([97], [98]), ([98], [99]), ([101], [102])] (Knows.blk (j := 0) (cs := sps [([99], [100]), ([97], [98]), ([98], [99]), ([101], [102])]) rfl rfl) rfl (by omega) s) ?_
  rintro _ w ⟨A3, c4, rfl, s⟩
  replace s : St W (Own 29 2 A3 4 c4 (sps [([99], [100]), ([97], [98]), ([98], [99]), ([101], [102])]) :: .blk g2 [.string (str [99]), .string (str [100]), .string (str [97]), .string (str [98]), .string (str [98]), .string (str [99]), .string (str [101]), .string (str [102])] 9 :: .blk g1 [.string (str [97]), .string (str [97, 0])] 29 :: L) w := s
  refine ⟨_, rfl, ?_⟩; clear ha; intro a ha
  refine st_call ha (by kernel_rfl) (by kernel_rfl) (join_ok W _ w A3 4 c4 [([99], [100]), ([97], [98]), ([98], [99]), ([101], [102])] (Knows.own (j := 0) rfl) rfl (by decide) (by omega) s) ?_
  rintro _ w ⟨A5, c6, cl, rfl, hcan, hsm, hcl, s⟩
  obtain rfl := canon_j.unique hcan
  replace s : St W (Own 29 2 A5 2 c6 (sps [([97], [100]), ([101], [102])]) :: Own 29 2 A3 4 c4 (sps [([99], [100]), ([97], [98]), ([98], [99]), ([101], [102])]) :: .blk g2 [.string (str [99]), .string (str [100]), .string (str [97]), .string (str [98]), .string (str [98]), .string (str [99]), .string (str [101]), .string (str [102])] 9 :: .blk g1 [.string (str [97]), .string (str [97, 0])] 29 :: L) w := s
  refine ⟨_, rfl, ?_⟩; clear ha; intro a ha
  refine st_val (.tuple #[.slice A5 2 c6, .int .i64 0]) ha (by kernel_rfl) (by kernel_rfl) ?_
  clear ha; intro a ha
  refine st_val (.slice A5 2 c6) ha (by kernel_rfl) (by kernel_rfl) ?_
  clear ha; intro a ha
  refine st_val (.int .i64 0) ha (by kernel_rfl) (by kernel_rfl) ?_
  clear ha; intro a ha
  refine st_val (.slice A5 2 c6) ha (by kernel_rfl) (by kernel_rfl) ?_
  clear ha; intro a ha
  refine st_val (.int .i64 0) ha (by kernel_rfl) (by kernel_rfl) ?_
  clear ha; intro a ha
  refine wpList_nil ?_
  refine then_normal ?_
  refine wp_seq ?_
  refine wp_region_lit ?_
  refine st_ex ha (by kernel_rfl) (ex_buildSlice elt62 _ zs62 [.string (str [97]), .string (str [100]), .string (str [101]), .string (str [103])] s rfl (by kernel_rfl) (by decide)) ?_
  clear ha; rintro _ w a ⟨g7, rfl, s⟩ ha
  replace s : St W (.blk g7 [.string (str [97]), .string (str [100]), .string (str [101]), .string (str [103])] 9 :: Own 29 2 A5 2 c6 (sps [([97], [100]), ([101], [102])]) :: Own 29 2 A3 4 c4 (sps [([99], [100]), ([97], [98]), ([98], [99]), ([101], [102])]) :: .blk g2 [.string (str [99]), .string (str [100]), .string (str [97]), .string (str [98]), .string (str [98]), .string (str [99]), .string (str [101]), .string (str [102])] 9 :: .blk g1 [.string (str [97]), .string (str [97, 0])] 29 :: L) w := s
  refine st_call ha (by kernel_rfl) (by kernel_rfl) (list_ok W _ w (some ⟨g7, 0, none⟩) 4 4 [([97], [100]), ([101], [103])] (Knows.blk (j := 0) (cs := sps [([97], [100]), ([101], [103])]) rfl rfl) rfl (by omega) s) ?_
  rintro _ w ⟨A8, c9, rfl, s⟩
  replace s : St W (Own 29 2 A8 2 c9 (sps [([97], [100]), ([101], [103])]) :: .blk g7 [.string (str [97]), .string (str [100]), .string (str [101]), .string (str [103])] 9 :: Own 29 2 A5 2 c6 (sps [([97], [100]), ([101], [102])]) :: Own 29 2 A3 4 c4 (sps [([99], [100]), ([97], [98]), ([98], [99]), ([101], [102])]) :: .blk g2 [.string (str [99]), .string (str [100]), .string (str [97]), .string (str [98]), .string (str [98]), .string (str [99]), .string (str [101]), .string (str [102])] 9 :: .blk g1 [.string (str [97]), .string (str [97, 0])] 29 :: L) w := s
  refine ⟨_, rfl, ?_⟩; clear ha; intro a ha
  refine st_ex ha (by kernel_rfl) (ex_buildSlice elt62 _ zs62 [.string (str [98]), .string (str [102])] s rfl (by kernel_rfl) (by decide)) ?_
  clear ha; rintro _ w a ⟨g10, rfl, s⟩ ha
  replace s : St W (.blk g10 [.string (str [98]), .string (str [102])] 9 :: Own 29 2 A8 2 c9 (sps [([97], [100]), ([101], [103])]) :: .blk g7 [.string (str [97]), .string (str [100]), .string (str [101]), .string (str [103])] 9 :: Own 29 2 A5 2 c6 (sps [([97], [100]), ([101], [102])]) :: Own 29 2 A3 4 c4 (sps [([99], [100]), ([97], [98]), ([98], [99]), ([101], [102])]) :: .blk g2 [.string (str [99]), .string (str [100]), .string (str [97]), .string (str [98]), .string (str [98]), .string (str [99]), .string (str [101]), .string (str [102])] 9 :: .blk g1 [.string (str [97]), .string (str [97, 0])] 29 :: L) w := s
  refine st_call ha (by kernel_rfl) (by kernel_rfl) (list_ok W _ w (some ⟨g10, 0, none⟩) 2 2 [([98], [102])] (Knows.blk (j := 0) (cs := sps [([98], [102])]) rfl rfl) rfl (by omega) s) ?_
  rintro _ w ⟨A11, c12, rfl, s⟩
  replace s : St W (Own 29 2 A11 1 c12 (sps [([98], [102])]) :: .blk g10 [.string (str [98]), .string (str [102])] 9 :: Own 29 2 A8 2 c9 (sps [([97], [100]), ([101], [103])]) :: .blk g7 [.string (str [97]), .string (str [100]), .string (str [101]), .string (str [103])] 9 :: Own 29 2 A5 2 c6 (sps [([97], [100]), ([101], [102])]) :: Own 29 2 A3 4 c4 (sps [([99], [100]), ([97], [98]), ([98], [99]), ([101], [102])]) :: .blk g2 [.string (str [99]), .string (str [100]), .string (str [97]), .string (str [98]), .string (str [98]), .string (str [99]), .string (str [101]), .string (str [102])] 9 :: .blk g1 [.string (str [97]), .string (str [97, 0])] 29 :: L) w := s
  refine ⟨_, rfl, ?_⟩; clear ha; intro a ha
  refine st_call ha (by kernel_rfl) (by kernel_rfl) (both_ok W _ w A8 A11 2 1 c9 c12 [([97], [100]), ([101], [103])] [([98], [102])] (Knows.own (j := 2) rfl) (Knows.own (j := 0) rfl) rfl rfl (by decide) (by decide) (by omega) (by omega) s) ?_
  rintro _ w ⟨A13, c14, cl, rfl, hcan, hsm, hcl, s⟩
  obtain rfl := canon_b.unique hcan
  replace s : St W (Own 29 2 A13 2 c14 (sps [([98], [100]), ([101], [102])]) :: Own 29 2 A11 1 c12 (sps [([98], [102])]) :: .blk g10 [.string (str [98]), .string (str [102])] 9 :: Own 29 2 A8 2 c9 (sps [([97], [100]), ([101], [103])]) :: .blk g7 [.string (str [97]), .string (str [100]), .string (str [101]), .string (str [103])] 9 :: Own 29 2 A5 2 c6 (sps [([97], [100]), ([101], [102])]) :: Own 29 2 A3 4 c4 (sps [([99], [100]), ([97], [98]), ([98], [99]), ([101], [102])]) :: .blk g2 [.string (str [99]), .string (str [100]), .string (str [97]), .string (str [98]), .string (str [98]), .string (str [99]), .string (str [101]), .string (str [102])] 9 :: .blk g1 [.string (str [97]), .string (str [97, 0])] 29 :: L) w := s
  refine ⟨_, rfl, ?_⟩; clear ha; intro a ha
  refine st_val (.tuple #[.slice A13 2 c14, .int .i64 0]) ha (by kernel_rfl) (by kernel_rfl) ?_
  clear ha; intro a ha
  refine st_val (.slice A13 2 c14) ha (by kernel_rfl) (by kernel_rfl) ?_
  clear ha; intro a ha
  refine st_val (.int .i64 0) ha (by kernel_rfl) (by kernel_rfl) ?_
  clear ha; intro a ha
  refine st_val (.slice A13 2 c14) ha (by kernel_rfl) (by kernel_rfl) ?_
  clear ha; intro a ha
  refine st_val (.int .i64 0) ha (by kernel_rfl) (by kernel_rfl) ?_
  clear ha; intro a ha
  refine wpList_nil ?_
  refine then_normal ?_
  refine wp_seq ?_
  refine wp_region_lit ?_
  refine st_ex ha (by kernel_rfl) (ex_buildSlice elt62 _ zs62 [.string (str [97]), .string (str [100]), .string (str [101]), .string (str [103])] s rfl (by kernel_rfl) (by decide)) ?_
  clear ha; rintro _ w a ⟨g15, rfl, s⟩ ha
  replace s : St W (.blk g15 [.string (str [97]), .string (str [100]), .string (str [101]), .string (str [103])] 9 :: Own 29 2 A13 2 c14 (sps [([98], [100]), ([101], [102])]) :: Own 29 2 A11 1 c12 (sps [([98], [102])]) :: .blk g10 [.string (str [98]), .string (str [102])] 9 :: Own 29 2 A8 2 c9 (sps [([97], [100]), ([101], [103])]) :: .blk g7 [.string (str [97]), .string (str [100]), .string (str [101]), .string (str [103])] 9 :: Own 29 2 A5 2 c6 (sps [([97], [100]), ([101], [102])]) :: Own 29 2 A3 4 c4 (sps [([99], [100]), ([97], [98]), ([98], [99]), ([101], [102])]) :: .blk g2 [.string (str [99]), .string (str [100]), .string (str [97]), .string (str [98]), .string (str [98]), .string (str [99]), .string (str [101]), .string (str [102])] 9 :: .blk g1 [.string (str [97]), .string (str [97, 0])] 29 :: L) w := s
  refine st_call ha (by kernel_rfl) (by kernel_rfl) (list_ok W _ w (some ⟨g15, 0, none⟩) 4 4 [([97], [100]), ([101], [103])] (Knows.blk (j := 0) (cs := sps [([97], [100]), ([101], [103])]) rfl rfl) rfl (by omega) s) ?_
  rintro _ w ⟨A16, c17, rfl, s⟩
  replace s : St W (Own 29 2 A16 2 c17 (sps [([97], [100]), ([101], [103])]) :: .blk g15 [.string (str [97]), .string (str [100]), .string (str [101]), .string (str [103])] 9 :: Own 29 2 A13 2 c14 (sps [([98], [100]), ([101], [102])]) :: Own 29 2 A11 1 c12 (sps [([98], [102])]) :: .blk g10 [.string (str [98]), .string (str [102])] 9 :: Own 29 2 A8 2 c9 (sps [([97], [100]), ([101], [103])]) :: .blk g7 [.string (str [97]), .string (str [100]), .string (str [101]), .string (str [103])] 9 :: Own 29 2 A5 2 c6 (sps [([97], [100]), ([101], [102])]) :: Own 29 2 A3 4 c4 (sps [([99], [100]), ([97], [98]), ([98], [99]), ([101], [102])]) :: .blk g2 [.string (str [99]), .string (str [100]), .string (str [97]), .string (str [98]), .string (str [98]), .string (str [99]), .string (str [101]), .string (str [102])] 9 :: .blk g1 [.string (str [97]), .string (str [97, 0])] 29 :: L) w := s
  refine ⟨_, rfl, ?_⟩; clear ha; intro a ha
  refine st_ex ha (by kernel_rfl) (ex_buildSlice elt62 _ zs62 [.string (str [98]), .string (str [102])] s rfl (by kernel_rfl) (by decide)) ?_
  clear ha; rintro _ w a ⟨g18, rfl, s⟩ ha
  replace s : St W (.blk g18 [.string (str [98]), .string (str [102])] 9 :: Own 29 2 A16 2 c17 (sps [([97], [100]), ([101], [103])]) :: .blk g15 [.string (str [97]), .string (str [100]), .string (str [101]), .string (str [103])] 9 :: Own 29 2 A13 2 c14 (sps [([98], [100]), ([101], [102])]) :: Own 29 2 A11 1 c12 (sps [([98], [102])]) :: .blk g10 [.string (str [98]), .string (str [102])] 9 :: Own 29 2 A8 2 c9 (sps [([97], [100]), ([101], [103])]) :: .blk g7 [.string (str [97]), .string (str [100]), .string (str [101]), .string (str [103])] 9 :: Own 29 2 A5 2 c6 (sps [([97], [100]), ([101], [102])]) :: Own 29 2 A3 4 c4 (sps [([99], [100]), ([97], [98]), ([98], [99]), ([101], [102])]) :: .blk g2 [.string (str [99]), .string (str [100]), .string (str [97]), .string (str [98]), .string (str [98]), .string (str [99]), .string (str [101]), .string (str [102])] 9 :: .blk g1 [.string (str [97]), .string (str [97, 0])] 29 :: L) w := s
  refine st_call ha (by kernel_rfl) (by kernel_rfl) (list_ok W _ w (some ⟨g18, 0, none⟩) 2 2 [([98], [102])] (Knows.blk (j := 0) (cs := sps [([98], [102])]) rfl rfl) rfl (by omega) s) ?_
  rintro _ w ⟨A19, c20, rfl, s⟩
  replace s : St W (Own 29 2 A19 1 c20 (sps [([98], [102])]) :: .blk g18 [.string (str [98]), .string (str [102])] 9 :: Own 29 2 A16 2 c17 (sps [([97], [100]), ([101], [103])]) :: .blk g15 [.string (str [97]), .string (str [100]), .string (str [101]), .string (str [103])] 9 :: Own 29 2 A13 2 c14 (sps [([98], [100]), ([101], [102])]) :: Own 29 2 A11 1 c12 (sps [([98], [102])]) :: .blk g10 [.string (str [98]), .string (str [102])] 9 :: Own 29 2 A8 2 c9 (sps [([97], [100]), ([101], [103])]) :: .blk g7 [.string (str [97]), .string (str [100]), .string (str [101]), .string (str [103])] 9 :: Own 29 2 A5 2 c6 (sps [([97], [100]), ([101], [102])]) :: Own 29 2 A3 4 c4 (sps [([99], [100]), ([97], [98]), ([98], [99]), ([101], [102])]) :: .blk g2 [.string (str [99]), .string (str [100]), .string (str [97]), .string (str [98]), .string (str [98]), .string (str [99]), .string (str [101]), .string (str [102])] 9 :: .blk g1 [.string (str [97]), .string (str [97, 0])] 29 :: L) w := s
  refine ⟨_, rfl, ?_⟩; clear ha; intro a ha
  refine st_call ha (by kernel_rfl) (by kernel_rfl) (less_ok W _ w A16 A19 2 1 c17 c20 [([97], [100]), ([101], [103])] [([98], [102])] (Knows.own (j := 2) rfl) (Knows.own (j := 0) rfl) rfl rfl (by decide) (by decide) (by omega) (by omega) s) ?_
  rintro _ w ⟨A21, c22, cl, rfl, hcan, hsm, hcl, s⟩
  obtain rfl := canon_l.unique hcan
  replace s : St W (Own 29 2 A21 2 c22 (sps [([97], [98]), ([102], [103])]) :: Own 29 2 A19 1 c20 (sps [([98], [102])]) :: .blk g18 [.string (str [98]), .string (str [102])] 9 :: Own 29 2 A16 2 c17 (sps [([97], [100]), ([101], [103])]) :: .blk g15 [.string (str [97]), .string (str [100]), .string (str [101]), .string (str [103])] 9 :: Own 29 2 A13 2 c14 (sps [([98], [100]), ([101], [102])]) :: Own 29 2 A11 1 c12 (sps [([98], [102])]) :: .blk g10 [.string (str [98]), .string (str [102])] 9 :: Own 29 2 A8 2 c9 (sps [([97], [100]), ([101], [103])]) :: .blk g7 [.string (str [97]), .string (str [100]), .string (str [101]), .string (str [103])] 9 :: Own 29 2 A5 2 c6 (sps [([97], [100]), ([101], [102])]) :: Own 29 2 A3 4 c4 (sps [([99], [100]), ([97], [98]), ([98], [99]), ([101], [102])]) :: .blk g2 [.string (str [99]), .string (str [100]), .string (str [97]), .string (str [98]), .string (str [98]), .string (str [99]), .string (str [101]), .string (str [102])] 9 :: .blk g1 [.string (str [97]), .string (str [97, 0])] 29 :: L) w := s
  refine ⟨_, rfl, ?_⟩; clear ha; intro a ha
  refine st_val (.tuple #[.slice A21 2 c22, .int .i64 0]) ha (by kernel_rfl) (by kernel_rfl) ?_
  clear ha; intro a ha
  refine st_val (.slice A21 2 c22) ha (by kernel_rfl) (by kernel_rfl) ?_
  clear ha; intro a ha
  refine st_val (.int .i64 0) ha (by kernel_rfl) (by kernel_rfl) ?_
  clear ha; intro a ha
  refine st_val (.slice A21 2 c22) ha (by kernel_rfl) (by kernel_rfl) ?_
  clear ha; intro a ha
  refine st_val (.int .i64 0) ha (by kernel_rfl) (by kernel_rfl) ?_
  clear ha; intro a ha
  refine wpList_nil ?_
  refine then_normal ?_
  refine wp_seq ?_
  refine wp_region_lit ?_
  refine st_val (.agg #[.string (str [97]), .string (str [97])]) ha (by kernel_rfl) (by kernel_rfl) ?_
  clear ha; intro a ha
  refine st_call ha (by kernel_rfl) (by kernel_rfl) (check_lit W _ w ([97], [97]) 2 (by decide) s) ?_
  rintro _ w ⟨rfl, s⟩
  replace s : St W (Own 29 2 A21 2 c22 (sps [([97], [98]), ([102], [103])]) :: Own 29 2 A19 1 c20 (sps [([98], [102])]) :: .blk g18 [.string (str [98]), .string (str [102])] 9 :: Own 29 2 A16 2 c17 (sps [([97], [100]), ([101], [103])]) :: .blk g15 [.string (str [97]), .string (str [100]), .string (str [101]), .string (str [103])] 9 :: Own 29 2 A13 2 c14 (sps [([98], [100]), ([101], [102])]) :: Own 29 2 A11 1 c12 (sps [([98], [102])]) :: .blk g10 [.string (str [98]), .string (str [102])] 9 :: Own 29 2 A8 2 c9 (sps [([97], [100]), ([101], [103])]) :: .blk g7 [.string (str [97]), .string (str [100]), .string (str [101]), .string (str [103])] 9 :: Own 29 2 A5 2 c6 (sps [([97], [100]), ([101], [102])]) :: Own 29 2 A3 4 c4 (sps [([99], [100]), ([97], [98]), ([98], [99]), ([101], [102])]) :: .blk g2 [.string (str [99]), .string (str [100]), .string (str [97]), .string (str [98]), .string (str [98]), .string (str [99]), .string (str [101]), .string (str [102])] 9 :: .blk g1 [.string (str [97]), .string (str [97, 0])] 29 :: L) w := s
  refine ⟨_, rfl, ?_⟩; clear ha; intro a ha
  refine st_val (.bool true) ha (by kernel_rfl) (by kernel_rfl) ?_
  clear ha; intro a ha
  refine st_val (.bool true) ha (by kernel_rfl) (by kernel_rfl) ?_
  clear ha; intro a ha
  refine st_val (.int .i64 0) ha (by kernel_rfl) (by kernel_rfl) ?_
  clear ha; intro a ha
  refine st_val (.bool true) ha (by kernel_rfl) (by kernel_rfl) ?_
  clear ha; intro a ha
  refine st_val (.bool true) ha (by kernel_rfl) (by kernel_rfl) ?_
  clear ha; intro a ha
  refine st_val (.bool true) ha (by kernel_rfl) (by kernel_rfl) ?_
  clear ha; intro a ha
  refine st_val (.agg #[.string (str [97]), .string (str [97, 0])]) ha (by kernel_rfl) (run_loadN (of_ := 0) [.string (str [97]), .string (str [97, 0])] (s.blkIs 13 rfl) rfl (by kernel_rfl) Try.isAgg29 Try.sizeOf29 rfl (Nat.le_of_ble_eq_true rfl)) ?_
  clear ha; intro a ha
  refine st_val (.agg #[.string (str [97]), .string (str [97, 0])]) ha (by kernel_rfl) (by kernel_rfl) ?_
  clear ha; intro a ha
  refine st_val (.bool true) ha (by kernel_rfl) (run_known (show decide ((([97], [97, 0]) : Span) = ([97], [97, 0])) = true from by decide) (run_speql (p := ([97], [97, 0])) (q := ([97], [97, 0])) rfl (by kernel_rfl) (by kernel_rfl) _)) ?_
  clear ha; intro a ha
  refine st_val (.bool true) ha (by kernel_rfl) (by kernel_rfl) ?_
  clear ha; intro a ha
  refine st_val (.bool true) ha (by kernel_rfl) (by kernel_rfl) ?_
  clear ha; intro a ha
  refine st_val (.agg #[.string (str [97]), .string (str [99])]) ha (by kernel_rfl) (by kernel_rfl) ?_
  clear ha; intro a ha
  refine st_val (.agg #[.string (str [99]), .string (str [100])]) ha (by kernel_rfl) (by kernel_rfl) ?_
  clear ha; intro a ha
  refine st_call ha (by kernel_rfl) (by kernel_rfl) (meets_lit W _ w ([97], [99]) ([99], [100]) false (by decide) s) ?_
  rintro _ w ⟨rfl, s⟩
  replace s : St W (Own 29 2 A21 2 c22 (sps [([97], [98]), ([102], [103])]) :: Own 29 2 A19 1 c20 (sps [([98], [102])]) :: .blk g18 [.string (str [98]), .string (str [102])] 9 :: Own 29 2 A16 2 c17 (sps [([97], [100]), ([101], [103])]) :: .blk g15 [.string (str [97]), .string (str [100]), .string (str [101]), .string (str [103])] 9 :: Own 29 2 A13 2 c14 (sps [([98], [100]), ([101], [102])]) :: Own 29 2 A11 1 c12 (sps [([98], [102])]) :: .blk g10 [.string (str [98]), .string (str [102])] 9 :: Own 29 2 A8 2 c9 (sps [([97], [100]), ([101], [103])]) :: .blk g7 [.string (str [97]), .string (str [100]), .string (str [101]), .string (str [103])] 9 :: Own 29 2 A5 2 c6 (sps [([97], [100]), ([101], [102])]) :: Own 29 2 A3 4 c4 (sps [([99], [100]), ([97], [98]), ([98], [99]), ([101], [102])]) :: .blk g2 [.string (str [99]), .string (str [100]), .string (str [97]), .string (str [98]), .string (str [98]), .string (str [99]), .string (str [101]), .string (str [102])] 9 :: .blk g1 [.string (str [97]), .string (str [97, 0])] 29 :: L) w := s
  refine ⟨_, rfl, ?_⟩; clear ha; intro a ha
  refine st_val (.bool true) ha (by kernel_rfl) (by kernel_rfl) ?_
  clear ha; intro a ha
  refine st_val (.bool true) ha (by kernel_rfl) (by kernel_rfl) ?_
  clear ha; intro a ha
  refine st_val (.bool true) ha (by kernel_rfl) (by kernel_rfl) ?_
  clear ha; intro a ha
  refine st_val (.agg #[.string (str [97]), .string (str [99])]) ha (by kernel_rfl) (by kernel_rfl) ?_
  clear ha; intro a ha
  refine st_val (.agg #[.string (str [98]), .string (str [100])]) ha (by kernel_rfl) (by kernel_rfl) ?_
  clear ha; intro a ha
  refine st_call ha (by kernel_rfl) (by kernel_rfl) (meets_lit W _ w ([97], [99]) ([98], [100]) true (by decide) s) ?_
  rintro _ w ⟨rfl, s⟩
  replace s : St W (Own 29 2 A21 2 c22 (sps [([97], [98]), ([102], [103])]) :: Own 29 2 A19 1 c20 (sps [([98], [102])]) :: .blk g18 [.string (str [98]), .string (str [102])] 9 :: Own 29 2 A16 2 c17 (sps [([97], [100]), ([101], [103])]) :: .blk g15 [.string (str [97]), .string (str [100]), .string (str [101]), .string (str [103])] 9 :: Own 29 2 A13 2 c14 (sps [([98], [100]), ([101], [102])]) :: Own 29 2 A11 1 c12 (sps [([98], [102])]) :: .blk g10 [.string (str [98]), .string (str [102])] 9 :: Own 29 2 A8 2 c9 (sps [([97], [100]), ([101], [103])]) :: .blk g7 [.string (str [97]), .string (str [100]), .string (str [101]), .string (str [103])] 9 :: Own 29 2 A5 2 c6 (sps [([97], [100]), ([101], [102])]) :: Own 29 2 A3 4 c4 (sps [([99], [100]), ([97], [98]), ([98], [99]), ([101], [102])]) :: .blk g2 [.string (str [99]), .string (str [100]), .string (str [97]), .string (str [98]), .string (str [98]), .string (str [99]), .string (str [101]), .string (str [102])] 9 :: .blk g1 [.string (str [97]), .string (str [97, 0])] 29 :: L) w := s
  refine ⟨_, rfl, ?_⟩; clear ha; intro a ha
  refine st_val (.bool true) ha (by kernel_rfl) (by kernel_rfl) ?_
  clear ha; intro a ha
  refine st_val (.bool true) ha (by kernel_rfl) (by kernel_rfl) ?_
  clear ha; intro a ha
  refine st_val (.slice A5 2 c6) ha (by kernel_rfl) (by kernel_rfl) ?_
  clear ha; intro a ha
  refine st_val (.int .i64 0) ha (by kernel_rfl) (by kernel_rfl) ?_
  clear ha; intro a ha
  refine st_ex ha (by kernel_rfl) (ex_buildSlice elt62 _ zs62 [.string (str [97]), .string (str [100]), .string (str [101]), .string (str [102])] s rfl (by kernel_rfl) (by decide)) ?_
  clear ha; rintro _ w a ⟨g23, rfl, s⟩ ha
  replace s : St W (.blk g23 [.string (str [97]), .string (str [100]), .string (str [101]), .string (str [102])] 9 :: Own 29 2 A21 2 c22 (sps [([97], [98]), ([102], [103])]) :: Own 29 2 A19 1 c20 (sps [([98], [102])]) :: .blk g18 [.string (str [98]), .string (str [102])] 9 :: Own 29 2 A16 2 c17 (sps [([97], [100]), ([101], [103])]) :: .blk g15 [.string (str [97]), .string (str [100]), .string (str [101]), .string (str [103])] 9 :: Own 29 2 A13 2 c14 (sps [([98], [100]), ([101], [102])]) :: Own 29 2 A11 1 c12 (sps [([98], [102])]) :: .blk g10 [.string (str [98]), .string (str [102])] 9 :: Own 29 2 A8 2 c9 (sps [([97], [100]), ([101], [103])]) :: .blk g7 [.string (str [97]), .string (str [100]), .string (str [101]), .string (str [103])] 9 :: Own 29 2 A5 2 c6 (sps [([97], [100]), ([101], [102])]) :: Own 29 2 A3 4 c4 (sps [([99], [100]), ([97], [98]), ([98], [99]), ([101], [102])]) :: .blk g2 [.string (str [99]), .string (str [100]), .string (str [97]), .string (str [98]), .string (str [98]), .string (str [99]), .string (str [101]), .string (str [102])] 9 :: .blk g1 [.string (str [97]), .string (str [97, 0])] 29 :: L) w := s
  refine st_call ha (by kernel_rfl) (by kernel_rfl) (is_lit W _ w A5 (some ⟨g23, 0, none⟩) 2 4 c6 4 [([97], [100]), ([101], [102])] [([97], [100]), ([101], [102])] rfl (Knows.own (j := 11) rfl) (Knows.blk (j := 0) (cs := sps [([97], [100]), ([101], [102])]) rfl rfl) rfl rfl (by omega) (by omega) s) ?_
  rintro _ w ⟨rfl, s⟩
  replace s : St W (.blk g23 [.string (str [97]), .string (str [100]), .string (str [101]), .string (str [102])] 9 :: Own 29 2 A21 2 c22 (sps [([97], [98]), ([102], [103])]) :: Own 29 2 A19 1 c20 (sps [([98], [102])]) :: .blk g18 [.string (str [98]), .string (str [102])] 9 :: Own 29 2 A16 2 c17 (sps [([97], [100]), ([101], [103])]) :: .blk g15 [.string (str [97]), .string (str [100]), .string (str [101]), .string (str [103])] 9 :: Own 29 2 A13 2 c14 (sps [([98], [100]), ([101], [102])]) :: Own 29 2 A11 1 c12 (sps [([98], [102])]) :: .blk g10 [.string (str [98]), .string (str [102])] 9 :: Own 29 2 A8 2 c9 (sps [([97], [100]), ([101], [103])]) :: .blk g7 [.string (str [97]), .string (str [100]), .string (str [101]), .string (str [103])] 9 :: Own 29 2 A5 2 c6 (sps [([97], [100]), ([101], [102])]) :: Own 29 2 A3 4 c4 (sps [([99], [100]), ([97], [98]), ([98], [99]), ([101], [102])]) :: .blk g2 [.string (str [99]), .string (str [100]), .string (str [97]), .string (str [98]), .string (str [98]), .string (str [99]), .string (str [101]), .string (str [102])] 9 :: .blk g1 [.string (str [97]), .string (str [97, 0])] 29 :: L) w := s
  refine ⟨_, rfl, ?_⟩; clear ha; intro a ha
  refine st_val (.bool true) ha (by kernel_rfl) (by kernel_rfl) ?_
  clear ha; intro a ha
  refine st_val (.bool true) ha (by kernel_rfl) (by kernel_rfl) ?_
  clear ha; intro a ha
  refine st_val (.slice A13 2 c14) ha (by kernel_rfl) (by kernel_rfl) ?_
  clear ha; intro a ha
  refine st_val (.int .i64 0) ha (by kernel_rfl) (by kernel_rfl) ?_
  clear ha; intro a ha
  refine st_ex ha (by kernel_rfl) (ex_buildSlice elt62 _ zs62 [.string (str [98]), .string (str [100]), .string (str [101]), .string (str [102])] s rfl (by kernel_rfl) (by decide)) ?_
  clear ha; rintro _ w a ⟨g24, rfl, s⟩ ha
  replace s : St W (.blk g24 [.string (str [98]), .string (str [100]), .string (str [101]), .string (str [102])] 9 :: .blk g23 [.string (str [97]), .string (str [100]), .string (str [101]), .string (str [102])] 9 :: Own 29 2 A21 2 c22 (sps [([97], [98]), ([102], [103])]) :: Own 29 2 A19 1 c20 (sps [([98], [102])]) :: .blk g18 [.string (str [98]), .string (str [102])] 9 :: Own 29 2 A16 2 c17 (sps [([97], [100]), ([101], [103])]) :: .blk g15 [.string (str [97]), .string (str [100]), .string (str [101]), .string (str [103])] 9 :: Own 29 2 A13 2 c14 (sps [([98], [100]), ([101], [102])]) :: Own 29 2 A11 1 c12 (sps [([98], [102])]) :: .blk g10 [.string (str [98]), .string (str [102])] 9 :: Own 29 2 A8 2 c9 (sps [([97], [100]), ([101], [103])]) :: .blk g7 [.string (str [97]), .string (str [100]), .string (str [101]), .string (str [103])] 9 :: Own 29 2 A5 2 c6 (sps [([97], [100]), ([101], [102])]) :: Own 29 2 A3 4 c4 (sps [([99], [100]), ([97], [98]), ([98], [99]), ([101], [102])]) :: .blk g2 [.string (str [99]), .string (str [100]), .string (str [97]), .string (str [98]), .string (str [98]), .string (str [99]), .string (str [101]), .string (str [102])] 9 :: .blk g1 [.string (str [97]), .string (str [97, 0])] 29 :: L) w := s
  refine st_call ha (by kernel_rfl) (by kernel_rfl) (is_lit W _ w A13 (some ⟨g24, 0, none⟩) 2 4 c14 4 [([98], [100]), ([101], [102])] [([98], [100]), ([101], [102])] rfl (Knows.own (j := 7) rfl) (Knows.blk (j := 0) (cs := sps [([98], [100]), ([101], [102])]) rfl rfl) rfl rfl (by omega) (by omega) s) ?_
  rintro _ w ⟨rfl, s⟩
  replace s : St W (.blk g24 [.string (str [98]), .string (str [100]), .string (str [101]), .string (str [102])] 9 :: .blk g23 [.string (str [97]), .string (str [100]), .string (str [101]), .string (str [102])] 9 :: Own 29 2 A21 2 c22 (sps [([97], [98]), ([102], [103])]) :: Own 29 2 A19 1 c20 (sps [([98], [102])]) :: .blk g18 [.string (str [98]), .string (str [102])] 9 :: Own 29 2 A16 2 c17 (sps [([97], [100]), ([101], [103])]) :: .blk g15 [.string (str [97]), .string (str [100]), .string (str [101]), .string (str [103])] 9 :: Own 29 2 A13 2 c14 (sps [([98], [100]), ([101], [102])]) :: Own 29 2 A11 1 c12 (sps [([98], [102])]) :: .blk g10 [.string (str [98]), .string (str [102])] 9 :: Own 29 2 A8 2 c9 (sps [([97], [100]), ([101], [103])]) :: .blk g7 [.string (str [97]), .string (str [100]), .string (str [101]), .string (str [103])] 9 :: Own 29 2 A5 2 c6 (sps [([97], [100]), ([101], [102])]) :: Own 29 2 A3 4 c4 (sps [([99], [100]), ([97], [98]), ([98], [99]), ([101], [102])]) :: .blk g2 [.string (str [99]), .string (str [100]), .string (str [97]), .string (str [98]), .string (str [98]), .string (str [99]), .string (str [101]), .string (str [102])] 9 :: .blk g1 [.string (str [97]), .string (str [97, 0])] 29 :: L) w := s
  refine ⟨_, rfl, ?_⟩; clear ha; intro a ha
  refine st_val (.bool true) ha (by kernel_rfl) (by kernel_rfl) ?_
  clear ha; intro a ha
  refine st_val (.bool true) ha (by kernel_rfl) (by kernel_rfl) ?_
  clear ha; intro a ha
  refine st_val (.slice A21 2 c22) ha (by kernel_rfl) (by kernel_rfl) ?_
  clear ha; intro a ha
  refine st_val (.int .i64 0) ha (by kernel_rfl) (by kernel_rfl) ?_
  clear ha; intro a ha
  refine st_ex ha (by kernel_rfl) (ex_buildSlice elt62 _ zs62 [.string (str [97]), .string (str [98]), .string (str [102]), .string (str [103])] s rfl (by kernel_rfl) (by decide)) ?_
  clear ha; rintro _ w a ⟨g25, rfl, s⟩ ha
  replace s : St W (.blk g25 [.string (str [97]), .string (str [98]), .string (str [102]), .string (str [103])] 9 :: .blk g24 [.string (str [98]), .string (str [100]), .string (str [101]), .string (str [102])] 9 :: .blk g23 [.string (str [97]), .string (str [100]), .string (str [101]), .string (str [102])] 9 :: Own 29 2 A21 2 c22 (sps [([97], [98]), ([102], [103])]) :: Own 29 2 A19 1 c20 (sps [([98], [102])]) :: .blk g18 [.string (str [98]), .string (str [102])] 9 :: Own 29 2 A16 2 c17 (sps [([97], [100]), ([101], [103])]) :: .blk g15 [.string (str [97]), .string (str [100]), .string (str [101]), .string (str [103])] 9 :: Own 29 2 A13 2 c14 (sps [([98], [100]), ([101], [102])]) :: Own 29 2 A11 1 c12 (sps [([98], [102])]) :: .blk g10 [.string (str [98]), .string (str [102])] 9 :: Own 29 2 A8 2 c9 (sps [([97], [100]), ([101], [103])]) :: .blk g7 [.string (str [97]), .string (str [100]), .string (str [101]), .string (str [103])] 9 :: Own 29 2 A5 2 c6 (sps [([97], [100]), ([101], [102])]) :: Own 29 2 A3 4 c4 (sps [([99], [100]), ([97], [98]), ([98], [99]), ([101], [102])]) :: .blk g2 [.string (str [99]), .string (str [100]), .string (str [97]), .string (str [98]), .string (str [98]), .string (str [99]), .string (str [101]), .string (str [102])] 9 :: .blk g1 [.string (str [97]), .string (str [97, 0])] 29 :: L) w := s
  refine st_call ha (by kernel_rfl) (by kernel_rfl) (is_lit W _ w A21 (some ⟨g25, 0, none⟩) 2 4 c22 4 [([97], [98]), ([102], [103])] [([97], [98]), ([102], [103])] rfl (Knows.own (j := 3) rfl) (Knows.blk (j := 0) (cs := sps [([97], [98]), ([102], [103])]) rfl rfl) rfl rfl (by omega) (by omega) s) ?_
  rintro _ w ⟨rfl, s⟩
  replace s : St W (.blk g25 [.string (str [97]), .string (str [98]), .string (str [102]), .string (str [103])] 9 :: .blk g24 [.string (str [98]), .string (str [100]), .string (str [101]), .string (str [102])] 9 :: .blk g23 [.string (str [97]), .string (str [100]), .string (str [101]), .string (str [102])] 9 :: Own 29 2 A21 2 c22 (sps [([97], [98]), ([102], [103])]) :: Own 29 2 A19 1 c20 (sps [([98], [102])]) :: .blk g18 [.string (str [98]), .string (str [102])] 9 :: Own 29 2 A16 2 c17 (sps [([97], [100]), ([101], [103])]) :: .blk g15 [.string (str [97]), .string (str [100]), .string (str [101]), .string (str [103])] 9 :: Own 29 2 A13 2 c14 (sps [([98], [100]), ([101], [102])]) :: Own 29 2 A11 1 c12 (sps [([98], [102])]) :: .blk g10 [.string (str [98]), .string (str [102])] 9 :: Own 29 2 A8 2 c9 (sps [([97], [100]), ([101], [103])]) :: .blk g7 [.string (str [97]), .string (str [100]), .string (str [101]), .string (str [103])] 9 :: Own 29 2 A5 2 c6 (sps [([97], [100]), ([101], [102])]) :: Own 29 2 A3 4 c4 (sps [([99], [100]), ([97], [98]), ([98], [99]), ([101], [102])]) :: .blk g2 [.string (str [99]), .string (str [100]), .string (str [97]), .string (str [98]), .string (str [98]), .string (str [99]), .string (str [101]), .string (str [102])] 9 :: .blk g1 [.string (str [97]), .string (str [97, 0])] 29 :: L) w := s
  refine ⟨_, rfl, ?_⟩; clear ha; intro a ha
  refine st_val (.bool true) ha (by kernel_rfl) (by kernel_rfl) ?_
  clear ha; intro a ha
  refine st_val (.bool true) ha (by kernel_rfl) (by kernel_rfl) ?_
  clear ha; intro a ha
  refine wpList_nil ?_
  refine then_normal ?_
  refine wp_ret ?_
  refine ret_with (v := .bool true) ha (results_1 rfl ha (res_tmp (by kernel_rfl) (by kernel_rfl))) ?_
  replace s := s.tail.tail.tail.tail.tail.tail.tail.tail.tail.tail.tail.tail.tail.tail.tail.tail.tail
  replace s : St W (L) w := s
  exact ⟨rfl, s⟩

end Go.Proofs.Ytcnlidaacgcdhaa.B

import Derived.Test.YtcnlidaacgcdhaaB11
namespace Go.Proofs.Ytcnlidaacgcdhaa.B
open Go.RowKit Go.Proofs.Ytcnlidaacgcdhaa.Sep Go.Proofs.Ytcnlidaacgcdhaa.P
set_option linter.unusedVariables false
set_option linter.unusedSimpArgs false
theorem of_big (W : World) (L : List Chunk) (w : World) (k : K) (hk : 32 < k.length) (s : St W L w) : Calls Try.prog 15 #[.string (str k)] w fun e w' => e = .returned (.tuple #[.agg #[.string (str []), .string (str [])], .int .i64 5]) ∧ St W L w' := of_long W L w k hk s
theorem has_lit (W : World) (L : List Chunk) (w : World) (x : Span) (k : K) (b : Bool) (h : has x k = b) (s : St W L w) : Calls Try.prog 17 #[.agg #[.string (str x.1), .string (str x.2)], .string (str k)] w fun e w' => e = .returned (.bool b) ∧ St W L w' := by
  subst h; exact has_any W L w x k s
theorem in_lit (W : World) (L : List Chunk) (w : World) (A : Option Addr) (n ca : Nat) (l : List Span) (q : K) (b : Bool) (h : decide (0 < cnt l q) = b) (hr : Knows L fun w => Reads w 2 A n (sps l)) (hl : l.length = n) (hn : n ≤ 140737488351232) (s : St W L w) : Calls Try.prog 19 #[.slice A n ca, .string (str q)] w fun e w' => e = .returned (.bool b) ∧ St W L w' := by
  subst h; exact in_any W L w A n ca l hr hl hn q s
theorem made_flat {zs : List Value} {k : Nat} (hk : zs.length = k) (n : Nat) : ((Array.range (n * k)).map (zs.toArray[· % zs.toArray.size]!)).toList = (List.replicate n zs).flatten := by
  have hall : ∀ r ∈ List.replicate n zs, r.length = k := fun r hr => by rw [(List.mem_replicate.1 hr).2]; exact hk
  apply List.ext_getElem?
  intro x
  by_cases hx : x < n * k
  · have hk0 : 0 < k := by
      rcases Nat.eq_zero_or_pos k with h | h
      · subst h; simp at hx
      · exact h
    have e : x = x / k * k + x % k := by rw [Nat.mul_comm]; exact (Nat.div_add_mod x k).symm
    have hi : x / k < n := (Nat.div_lt_iff_lt_mul hk0).2 hx
    have hj : x % k < k := Nat.mod_lt _ hk0
    have h2 := flatten_at hall (i := x / k) (r := zs) (by rw [List.getElem?_replicate, if_pos hi]) hj
    rw [← e] at h2
    rw [h2]
    have hj2 : x % k < zs.length := by omega
    simp only [Array.getElem?_toList, Array.getElem?_map, Array.getElem?_range, hx, if_true, Option.map_some, List.size_toArray, hk, List.getElem!_toArray]
    rw [List.getElem?_eq_getElem hj2, getElem!_pos zs _ hj2]
  · rw [List.getElem?_eq_none (by simp; omega), List.getElem?_eq_none (by rw [flatten_len hall, List.length_replicate]; omega)]
abbrev Z2 : Array Value := #[.string (str []), .string (str [])]
theorem made_spans (n : Nat) : ((Array.range (n * 2)).map (Z2[· % Z2.size]!)).toList = sps (List.replicate n ([], [])) := by
  refine (made_flat (zs := [.string (str []), .string (str [])]) rfl n).trans ?_
  unfold sps
  rw [List.flatMap_def, List.map_replicate]; rfl
def mix (n k : Nat) : List Span := List.replicate k ([97], [98]) ++ List.replicate (n - k) ([], [])
theorem mix_zero (n : Nat) : List.replicate n (([], []) : Span) = mix n 0 := by simp [mix]
theorem mix_len {n k : Nat} (h : k ≤ n) : (mix n k).length = n := by simp [mix]; omega
theorem mix_set {n k : Nat} (h : k < n) : (mix n k).set k ([97], [98]) = mix n (k + 1) := by
  unfold mix
  obtain ⟨m, hm⟩ : ∃ m, n - k = m + 1 := ⟨n - k - 1, by omega⟩
  rw [hm, show n - (k + 1) = m by omega, List.set_append_right _ _ (by simp), List.replicate_succ (n := m), List.replicate_succ' (n := k)]
  simp
theorem putAt_sps {l : List Span} {j : Nat} (hj : j < l.length) (x : Span) : putAt (sps l) (j * 2) (sp x) = sps (l.set j x) := by
  have e : l = l.take j ++ (l[j] :: l.drop (j + 1)) := by rw [← List.drop_eq_getElem_cons hj, List.take_append_drop]
  have e2 : l.set j x = l.take j ++ (x :: l.drop (j + 1)) := by rw [List.set_eq_take_append_cons_drop, if_pos hj]
  have h1 : ∀ z, sps (l.take j ++ (z :: l.drop (j + 1))) = sps (l.take j) ++ sp z ++ sps (l.drop (j + 1)) := fun z => by simp [sps]
  have l1 : (sps (l.take j)).length = j * 2 := by rw [sps_len, List.length_take, Nat.min_eq_left (by omega)]
  rw [putAt_eq _ _ _ (by rw [sps_len]; show j * 2 + 2 ≤ _; omega), e2, h1]
  have t1 : (sps l).take (j * 2) = sps (l.take j) := by conv => lhs; rw [e, h1]; rw [List.append_assoc, ← l1, List.take_left]
  have t2 : (sps l).drop (j * 2 + 2) = sps (l.drop (j + 1)) := by conv => lhs; rw [e, h1]; rw [show j * 2 + 2 = (sps (l.take j) ++ sp l[j]).length by rw [List.length_append, l1]; rfl, List.drop_left]
  rw [t1]
  congr 1
theorem put_mix {n k : Nat} (h : k < n) : putAt (sps (mix n k)) (k * 2) (sp ([97], [98])) = sps (mix n (k + 1)) := by
  rw [putAt_sps (by rw [mix_len (Nat.le_of_lt h)]; exact h), mix_set h]
def rep (n : Nat) : List Span := List.replicate n ([97], [98])
theorem mix_full (n : Nat) : mix n n = rep n := by simp [mix, rep]
theorem rep_len (n : Nat) : (rep n).length = n := List.length_replicate
theorem rep_ok (n : Nat) : ∀ s ∈ rep n, chk s = 0 := fun s h => by rw [(List.mem_replicate.1 h).2]; decide
theorem rep_at {n : Nat} (h : 0 < n) : (rep n)[0]? = some ([97], [98]) := by unfold rep; rw [List.getElem?_replicate, if_pos h]
theorem rep_cnt (n : Nat) (k : K) : cnt (rep n) k = if has ([97], [98]) k then n else 0 := by
  unfold cnt rep; rw [List.countP_replicate]
theorem keys_lt2 : ([97] : K) < [98] ∧ ([98] : K) < [98, 0] ∧ ([98, 0] : K) < [99] := by decide
theorem canon_m {n : Nat} (hn : 0 < n) : Canon [([97], [98])] (fun k => decide (0 < cnt (rep n) k)) := by
  obtain ⟨h1, h2, h3⟩ := keys_lt2
  refine ⟨fun k => ?_, by simp, by simp <;> grind⟩
  rw [rep_cnt]
  by_cases h : has ([97], [98]) k = true
  · simp [h, hn]
  · simp [h]
theorem canon_l2 : Canon [([97], [98]), ([98, 0], [99])] (fun k => decide (0 < cnt [([97], [99])] k) && decide (cnt [([98], [98, 0])] k = 0)) := by
  obtain ⟨h1, h2, h3⟩ := keys_lt2
  refine ⟨fun k => ?_, by simp <;> grind, by simp <;> grind⟩
  generalize ([97] : K) = a at *; generalize ([98] : K) = b at *; generalize ([98, 0] : K) = c at *; generalize ([99] : K) = d at *
  simp only [cnt, List.countP_cons, List.countP_nil, List.mem_cons, List.not_mem_nil, or_false, exists_eq_or_imp, exists_eq_left, has_iff, decide_eq_true_eq, has, Bool.and_eq_true]
  by_cases q1 : k < a <;> by_cases q2 : k < b <;> by_cases q3 : k < c <;> by_cases q4 : k < d <;> grind
theorem canon_n : Canon [] (fun k => decide (0 < cnt [([], [122])] k) && decide (0 < cnt [] k)) := ⟨fun k => by simp [cnt], by simp, by simp⟩

set_option maxRecDepth 100000 in
set_option maxHeartbeats 8000000 in
theorem known_true (W : World) (hW : W.drawn = 0) (L : List Chunk) (w : World) (s : St W L w) :
    Calls Try.prog 7 #[] w fun e w' => e = .returned (.bool true) ∧ St W L w' := by
  refine enter_args (l := []) Try.func7 rfl rfl (Nat.le_of_ble_eq_true rfl) ?_
  intro a ha; replace ha : Has a 223 [] := ha
  refine wp_seq ?_
  refine wp_region_lit ?_
  refine st_val (.bool false) ha (by kernel_rfl) (by kernel_rfl) ?_
  clear ha; intro a ha
  refine wpList_nil ?_
  refine then_normal ?_
  refine wp_seq ?_
  refine wp_region_lit ?_
  refine st_call ha (by kernel_rfl) (by kernel_rfl) (rep_any W hW _ w s) ?_
  rintro _ w ⟨rfl, s⟩
  replace s : St W (L) w := s
  refine ⟨_, rfl, ?_⟩; clear ha; intro a ha
  refine st_val (.string (str [107, 107, 107, 107, 107, 107, 107, 107, 107, 107, 107, 107, 107, 107, 107, 107, 107, 107, 107, 107, 107, 107, 107, 107, 107, 107, 107, 107, 107, 107, 107, 107])) ha (by kernel_rfl) (by kernel_rfl) ?_
  clear ha; intro a ha
  refine wpList_nil ?_
  refine then_normal ?_
  refine wp_seq ?_
  refine wp_region_lit ?_
  refine st_val (.string (str [107, 107, 107, 107, 107, 107, 107, 107, 107, 107, 107, 107, 107, 107, 107, 107, 107, 107, 107, 107, 107, 107, 107, 107, 107, 107, 107, 107, 107, 107, 107, 107])) ha (by kernel_rfl) (by kernel_rfl) ?_
  clear ha; intro a ha
  refine st_call ha (by kernel_rfl) (by kernel_rfl) (of_lit W _ w [107, 107, 107, 107, 107, 107, 107, 107, 107, 107, 107, 107, 107, 107, 107, 107, 107, 107, 107, 107, 107, 107, 107, 107, 107, 107, 107, 107, 107, 107, 107, 107] [107, 107, 107, 107, 107, 107, 107, 107, 107, 107, 107, 107, 107, 107, 107, 107, 107, 107, 107, 107, 107, 107, 107, 107, 107, 107, 107, 107, 107, 107, 107, 107, 0] (by decide) rfl s) ?_
  rintro _ w ⟨rfl, s⟩
  replace s : St W (L) w := s
  refine ⟨_, rfl, ?_⟩; clear ha; intro a ha
  refine st_val (.tuple #[.agg #[.string (str [107, 107, 107, 107, 107, 107, 107, 107, 107, 107, 107, 107, 107, 107, 107, 107, 107, 107, 107, 107, 107, 107, 107, 107, 107, 107, 107, 107, 107, 107, 107, 107]), .string (str [107, 107, 107, 107, 107, 107, 107, 107, 107, 107, 107, 107, 107, 107, 107, 107, 107, 107, 107, 107, 107, 107, 107, 107, 107, 107, 107, 107, 107, 107, 107, 107, 0])], .int .i64 0]) ha (by kernel_rfl) (by kernel_rfl) ?_
  clear ha; intro a ha
  refine st_val (.agg #[.string (str [107, 107, 107, 107, 107, 107, 107, 107, 107, 107, 107, 107, 107, 107, 107, 107, 107, 107, 107, 107, 107, 107, 107, 107, 107, 107, 107, 107, 107, 107, 107, 107]), .string (str [107, 107, 107, 107, 107, 107, 107, 107, 107, 107, 107, 107, 107, 107, 107, 107, 107, 107, 107, 107, 107, 107, 107, 107, 107, 107, 107, 107, 107, 107, 107, 107, 0])]) ha (by kernel_rfl) (by kernel_rfl) ?_
  clear ha; intro a ha
  refine st_val (.int .i64 0) ha (by kernel_rfl) (by kernel_rfl) ?_
  clear ha; intro a ha
  refine st_ex ha (by kernel_rfl) (ex_alloc [.string (str []), .string (str [])] s rfl (Try.zeroValue29 _) (by kernel_rfl)) ?_
  clear ha; rintro _ w a ⟨g1, rfl, s⟩ ha
  replace s : St W (.blk g1 [.string (str []), .string (str [])] 29 :: L) w := s
  refine st_exd ha (by kernel_rfl) (ex_store (of_ := 0) 0 [.string (str [107, 107, 107, 107, 107, 107, 107, 107, 107, 107, 107, 107, 107, 107, 107, 107, 107, 107, 107, 107, 107, 107, 107, 107, 107, 107, 107, 107, 107, 107, 107, 107]), .string (str [107, 107, 107, 107, 107, 107, 107, 107, 107, 107, 107, 107, 107, 107, 107, 107, 107, 107, 107, 107, 107, 107, 107, 107, 107, 107, 107, 107, 107, 107, 107, 107, 0])] s rfl rfl (by kernel_rfl) (by kernel_rfl) (Try.sizeOf29 _) rfl (by simp [Value.oneCell']) (Nat.le_of_ble_eq_true rfl)) ?_
  clear ha; rintro w a s ha
  replace s : St W (.blk g1 [.string (str [107, 107, 107, 107, 107, 107, 107, 107, 107, 107, 107, 107, 107, 107, 107, 107, 107, 107, 107, 107, 107, 107, 107, 107, 107, 107, 107, 107, 107, 107, 107, 107]), .string (str [107, 107, 107, 107, 107, 107, 107, 107, 107, 107, 107, 107, 107, 107, 107, 107, 107, 107, 107, 107, 107, 107, 107, 107, 107, 107, 107, 107, 107, 107, 107, 107, 0])] 29 :: L) w := s
  refine st_val (.int .i64 0) ha (by kernel_rfl) (by kernel_rfl) ?_
  clear ha; intro a ha
  refine wpList_nil ?_
  refine then_normal ?_
  refine wp_seq ?_
  refine wp_region_lit ?_
  refine st_val (.string (str [107, 107, 107, 107, 107, 107, 107, 107, 107, 107, 107, 107, 107, 107, 107, 107, 107, 107, 107, 107, 107, 107, 107, 107, 107, 107, 107, 107, 107, 107, 107, 107])) ha (by kernel_rfl) (by kernel_rfl) ?_
  clear ha; intro a ha
  refine st_val (.string (str [107, 107, 107, 107, 107, 107, 107, 107, 107, 107, 107, 107, 107, 107, 107, 107, 107, 107, 107, 107, 107, 107, 107, 107, 107, 107, 107, 107, 107, 107, 107, 107, 107])) ha (by kernel_rfl) (run_sadd (p := [107, 107, 107, 107, 107, 107, 107, 107, 107, 107, 107, 107, 107, 107, 107, 107, 107, 107, 107, 107, 107, 107, 107, 107, 107, 107, 107, 107, 107, 107, 107, 107]) (q := [107]) rfl (by kernel_rfl) (by kernel_rfl) (by decide) _) ?_
  clear ha; intro a ha
  refine st_call ha (by kernel_rfl) (by kernel_rfl) (of_big W _ w [107, 107, 107, 107, 107, 107, 107, 107, 107, 107, 107, 107, 107, 107, 107, 107, 107, 107, 107, 107, 107, 107, 107, 107, 107, 107, 107, 107, 107, 107, 107, 107, 107] (by decide) s) ?_
  rintro _ w ⟨rfl, s⟩
  replace s : St W (.blk g1 [.string (str [107, 107, 107, 107, 107, 107, 107, 107, 107, 107, 107, 107, 107, 107, 107, 107, 107, 107, 107, 107, 107, 107, 107, 107, 107, 107, 107, 107, 107, 107, 107, 107]), .string (str [107, 107, 107, 107, 107, 107, 107, 107, 107, 107, 107, 107, 107, 107, 107, 107, 107, 107, 107, 107, 107, 107, 107, 107, 107, 107, 107, 107, 107, 107, 107, 107, 0])] 29 :: L) w := s
  refine ⟨_, rfl, ?_⟩; clear ha; intro a ha
  refine st_val (.tuple #[.agg #[.string (str []), .string (str [])], .int .i64 5]) ha (by kernel_rfl) (by kernel_rfl) ?_
  clear ha; intro a ha
  refine st_val (.agg #[.string (str []), .string (str [])]) ha (by kernel_rfl) (by kernel_rfl) ?_
  clear ha; intro a ha
  refine st_val (.int .i64 5) ha (by kernel_rfl) (by kernel_rfl) ?_
  clear ha; intro a ha
  refine st_ex ha (by kernel_rfl) (ex_alloc [.string (str []), .string (str [])] s rfl (Try.zeroValue29 _) (by kernel_rfl)) ?_
  clear ha; rintro _ w a ⟨g2, rfl, s⟩ ha
  replace s : St W (.blk g2 [.string (str []), .string (str [])] 29 :: .blk g1 [.string (str [107, 107, 107, 107, 107, 107, 107, 107, 107, 107, 107, 107, 107, 107, 107, 107, 107, 107, 107, 107, 107, 107, 107, 107, 107, 107, 107, 107, 107, 107, 107, 107]), .string (str [107, 107, 107, 107, 107, 107, 107, 107, 107, 107, 107, 107, 107, 107, 107, 107, 107, 107, 107, 107, 107, 107, 107, 107, 107, 107, 107, 107, 107, 107, 107, 107, 0])] 29 :: L) w := s
  refine st_exd ha (by kernel_rfl) (ex_store (of_ := 0) 0 [.string (str []), .string (str [])] s rfl rfl (by kernel_rfl) (by kernel_rfl) (Try.sizeOf29 _) rfl (by simp [Value.oneCell']) (Nat.le_of_ble_eq_true rfl)) ?_
  clear ha; rintro w a s ha
  replace s : St W (.blk g2 [.string (str []), .string (str [])] 29 :: .blk g1 [.string (str [107, 107, 107, 107, 107, 107, 107, 107, 107, 107, 107, 107, 107, 107, 107, 107, 107, 107, 107, 107, 107, 107, 107, 107, 107, 107, 107, 107, 107, 107, 107, 107]), .string (str [107, 107, 107, 107, 107, 107, 107, 107, 107, 107, 107, 107, 107, 107, 107, 107, 107, 107, 107, 107, 107, 107, 107, 107, 107, 107, 107, 107, 107, 107, 107, 107, 0])] 29 :: L) w := s
  refine st_val (.int .i64 5) ha (by kernel_rfl) (by kernel_rfl) ?_
  clear ha; intro a ha
  refine wpList_nil ?_
  refine then_normal ?_
  refine wp_seq ?_
  refine wp_region_lit ?_
  refine st_val (.string (str [107, 107, 107, 107, 107, 107, 107, 107, 107, 107, 107, 107, 107, 107, 107, 107, 107, 107, 107, 107, 107, 107, 107, 107, 107, 107, 107, 107, 107, 107, 107, 107])) ha (by kernel_rfl) (by kernel_rfl) ?_
  clear ha; intro a ha
  refine st_val (.string (str [107, 107, 107, 107, 107, 107, 107, 107, 107, 107, 107, 107, 107, 107, 107, 107, 107, 107, 107, 107, 107, 107, 107, 107, 107, 107, 107, 107, 107, 107, 107, 107, 107, 107])) ha (by kernel_rfl) (run_sadd (p := [107, 107, 107, 107, 107, 107, 107, 107, 107, 107, 107, 107, 107, 107, 107, 107, 107, 107, 107, 107, 107, 107, 107, 107, 107, 107, 107, 107, 107, 107, 107, 107]) (q := [107, 107]) rfl (by kernel_rfl) (by kernel_rfl) (by decide) _) ?_
  clear ha; intro a ha
  refine st_val (.agg #[.string (str []), .string (str [107, 107, 107, 107, 107, 107, 107, 107, 107, 107, 107, 107, 107, 107, 107, 107, 107, 107, 107, 107, 107, 107, 107, 107, 107, 107, 107, 107, 107, 107, 107, 107, 107, 107])]) ha (by kernel_rfl) (by kernel_rfl) ?_
  clear ha; intro a ha
  refine st_call ha (by kernel_rfl) (by kernel_rfl) (check_lit W _ w ([], [107, 107, 107, 107, 107, 107, 107, 107, 107, 107, 107, 107, 107, 107, 107, 107, 107, 107, 107, 107, 107, 107, 107, 107, 107, 107, 107, 107, 107, 107, 107, 107, 107, 107]) 5 (by decide) s) ?_
  rintro _ w ⟨rfl, s⟩
  replace s : St W (.blk g2 [.string (str []), .string (str [])] 29 :: .blk g1 [.string (str [107, 107, 107, 107, 107, 107, 107, 107, 107, 107, 107, 107, 107, 107, 107, 107, 107, 107, 107, 107, 107, 107, 107, 107, 107, 107, 107, 107, 107, 107, 107, 107]), .string (str [107, 107, 107, 107, 107, 107, 107, 107, 107, 107, 107, 107, 107, 107, 107, 107, 107, 107, 107, 107, 107, 107, 107, 107, 107, 107, 107, 107, 107, 107, 107, 107, 0])] 29 :: L) w := s
  refine ⟨_, rfl, ?_⟩; clear ha; intro a ha
  refine st_val (.int .i64 5) ha (by kernel_rfl) (by kernel_rfl) ?_
  clear ha; intro a ha
  refine wpList_nil ?_
  refine then_normal ?_
  refine wp_seq ?_
  refine wp_region_lit ?_
  refine st_val (.string (str [107, 107, 107, 107, 107, 107, 107, 107, 107, 107, 107, 107, 107, 107, 107, 107, 107, 107, 107, 107, 107, 107, 107, 107, 107, 107, 107, 107, 107, 107, 107, 107])) ha (by kernel_rfl) (by kernel_rfl) ?_
  clear ha; intro a ha
  refine st_val (.string (str [107, 107, 107, 107, 107, 107, 107, 107, 107, 107, 107, 107, 107, 107, 107, 107, 107, 107, 107, 107, 107, 107, 107, 107, 107, 107, 107, 107, 107, 107, 107, 107, 107, 107])) ha (by kernel_rfl) (run_sadd (p := [107, 107, 107, 107, 107, 107, 107, 107, 107, 107, 107, 107, 107, 107, 107, 107, 107, 107, 107, 107, 107, 107, 107, 107, 107, 107, 107, 107, 107, 107, 107, 107]) (q := [107, 107]) rfl (by kernel_rfl) (by kernel_rfl) (by decide) _) ?_
  clear ha; intro a ha
  refine st_val (.agg #[.string (str [107, 107, 107, 107, 107, 107, 107, 107, 107, 107, 107, 107, 107, 107, 107, 107, 107, 107, 107, 107, 107, 107, 107, 107, 107, 107, 107, 107, 107, 107, 107, 107, 107, 107]), .string (str [122])]) ha (by kernel_rfl) (by kernel_rfl) ?_
  clear ha; intro a ha
  refine st_call ha (by kernel_rfl) (by kernel_rfl) (check_lit W _ w ([107, 107, 107, 107, 107, 107, 107, 107, 107, 107, 107, 107, 107, 107, 107, 107, 107, 107, 107, 107, 107, 107, 107, 107, 107, 107, 107, 107, 107, 107, 107, 107, 107, 107], [122]) 5 (by decide) s) ?_
  rintro _ w ⟨rfl, s⟩
  replace s : St W (.blk g2 [.string (str []), .string (str [])] 29 :: .blk g1 [.string (str [107, 107, 107, 107, 107, 107, 107, 107, 107, 107, 107, 107, 107, 107, 107, 107, 107, 107, 107, 107, 107, 107, 107, 107, 107, 107, 107, 107, 107, 107, 107, 107]), .string (str [107, 107, 107, 107, 107, 107, 107, 107, 107, 107, 107, 107, 107, 107, 107, 107, 107, 107, 107, 107, 107, 107, 107, 107, 107, 107, 107, 107, 107, 107, 107, 107, 0])] 29 :: L) w := s
  refine ⟨_, rfl, ?_⟩; clear ha; intro a ha
  refine st_val (.int .i64 5) ha (by kernel_rfl) (by kernel_rfl) ?_
  clear ha; intro a ha
  refine wpList_nil ?_
  refine then_normal ?_
  refine wp_seq ?_
  refine wp_region_lit ?_
  refine st_val (.string (str [107, 107, 107, 107, 107, 107, 107, 107, 107, 107, 107, 107, 107, 107, 107, 107, 107, 107, 107, 107, 107, 107, 107, 107, 107, 107, 107, 107, 107, 107, 107, 107])) ha (by kernel_rfl) (by kernel_rfl) ?_
  clear ha; intro a ha
  refine st_val (.string (str [107, 107, 107, 107, 107, 107, 107, 107, 107, 107, 107, 107, 107, 107, 107, 107, 107, 107, 107, 107, 107, 107, 107, 107, 107, 107, 107, 107, 107, 107, 107, 107, 107, 107])) ha (by kernel_rfl) (run_sadd (p := [107, 107, 107, 107, 107, 107, 107, 107, 107, 107, 107, 107, 107, 107, 107, 107, 107, 107, 107, 107, 107, 107, 107, 107, 107, 107, 107, 107, 107, 107, 107, 107]) (q := [107, 107]) rfl (by kernel_rfl) (by kernel_rfl) (by decide) _) ?_
  clear ha; intro a ha
  refine st_val (.agg #[.string (str [122]), .string (str [107, 107, 107, 107, 107, 107, 107, 107, 107, 107, 107, 107, 107, 107, 107, 107, 107, 107, 107, 107, 107, 107, 107, 107, 107, 107, 107, 107, 107, 107, 107, 107, 107, 107])]) ha (by kernel_rfl) (by kernel_rfl) ?_
  clear ha; intro a ha
  refine st_call ha (by kernel_rfl) (by kernel_rfl) (check_lit W _ w ([122], [107, 107, 107, 107, 107, 107, 107, 107, 107, 107, 107, 107, 107, 107, 107, 107, 107, 107, 107, 107, 107, 107, 107, 107, 107, 107, 107, 107, 107, 107, 107, 107, 107, 107]) 5 (by decide) s) ?_
  rintro _ w ⟨rfl, s⟩
  replace s : St W (.blk g2 [.string (str []), .string (str [])] 29 :: .blk g1 [.string (str [107, 107, 107, 107, 107, 107, 107, 107, 107, 107, 107, 107, 107, 107, 107, 107, 107, 107, 107, 107, 107, 107, 107, 107, 107, 107, 107, 107, 107, 107, 107, 107]), .string (str [107, 107, 107, 107, 107, 107, 107, 107, 107, 107, 107, 107, 107, 107, 107, 107, 107, 107, 107, 107, 107, 107, 107, 107, 107, 107, 107, 107, 107, 107, 107, 107, 0])] 29 :: L) w := s
  refine ⟨_, rfl, ?_⟩; clear ha; intro a ha
  refine st_val (.int .i64 5) ha (by kernel_rfl) (by kernel_rfl) ?_
  clear ha; intro a ha
  refine wpList_nil ?_
  refine then_normal ?_
  refine wp_seq ?_
  refine wp_region_lit ?_
  refine st_val (.agg #[.string (str []), .string (str [0])]) ha (by kernel_rfl) (by kernel_rfl) ?_
  clear ha; intro a ha
  refine st_call ha (by kernel_rfl) (by kernel_rfl) (check_lit W _ w ([], [0]) 0 (by decide) s) ?_
  rintro _ w ⟨rfl, s⟩
  replace s : St W (.blk g2 [.string (str []), .string (str [])] 29 :: .blk g1 [.string (str [107, 107, 107, 107, 107, 107, 107, 107, 107, 107, 107, 107, 107, 107, 107, 107, 107, 107, 107, 107, 107, 107, 107, 107, 107, 107, 107, 107, 107, 107, 107, 107]), .string (str [107, 107, 107, 107, 107, 107, 107, 107, 107, 107, 107, 107, 107, 107, 107, 107, 107, 107, 107, 107, 107, 107, 107, 107, 107, 107, 107, 107, 107, 107, 107, 107, 0])] 29 :: L) w := s
  refine ⟨_, rfl, ?_⟩; clear ha; intro a ha
  refine st_val (.int .i64 0) ha (by kernel_rfl) (by kernel_rfl) ?_
  clear ha; intro a ha
  refine wpList_nil ?_
  refine then_normal ?_
  refine wp_seq ?_
  refine wp_region_lit ?_
  refine st_val (.agg #[.string (str [98]), .string (str [97])]) ha (by kernel_rfl) (by kernel_rfl) ?_
  clear ha; intro a ha
  refine st_call ha (by kernel_rfl) (by kernel_rfl) (check_lit W _ w ([98], [97]) 2 (by decide) s) ?_
  rintro _ w ⟨rfl, s⟩
  replace s : St W (.blk g2 [.string (str []), .string (str [])] 29 :: .blk g1 [.string (str [107, 107, 107, 107, 107, 107, 107, 107, 107, 107, 107, 107, 107, 107, 107, 107, 107, 107, 107, 107, 107, 107, 107, 107, 107, 107, 107, 107, 107, 107, 107, 107]), .string (str [107, 107, 107, 107, 107, 107, 107, 107, 107, 107, 107, 107, 107, 107, 107, 107, 107, 107, 107, 107, 107, 107, 107, 107, 107, 107, 107, 107, 107, 107, 107, 107, 0])] 29 :: L) w := s
  refine ⟨_, rfl, ?_⟩; clear ha; intro a ha
  refine st_val (.int .i64 2) ha (by kernel_rfl) (by kernel_rfl) ?_
  clear ha; intro a ha
  refine wpList_nil ?_
  refine then_normal ?_
  refine wp_seq ?_
  refine wp_region_lit ?_
  refine st_val (.int .i64 0) ha (by kernel_rfl) (by kernel_rfl) ?_
  clear ha; intro a ha
  refine st_val (.bool true) ha (by kernel_rfl) (by kernel_rfl) ?_
  clear ha; intro a ha
  refine st_val (.bool true) ha (by kernel_rfl) (by kernel_rfl) ?_
  clear ha; intro a ha
  refine st_val (.agg #[.string (str [107, 107, 107, 107, 107, 107, 107, 107, 107, 107, 107, 107, 107, 107, 107, 107, 107, 107, 107, 107, 107, 107, 107, 107, 107, 107, 107, 107, 107, 107, 107, 107]), .string (str [107, 107, 107, 107, 107, 107, 107, 107, 107, 107, 107, 107, 107, 107, 107, 107, 107, 107, 107, 107, 107, 107, 107, 107, 107, 107, 107, 107, 107, 107, 107, 107, 0])]) ha (by kernel_rfl) (run_loadN (of_ := 0) [.string (str [107, 107, 107, 107, 107, 107, 107, 107, 107, 107, 107, 107, 107, 107, 107, 107, 107, 107, 107, 107, 107, 107, 107, 107, 107, 107, 107, 107, 107, 107, 107, 107]), .string (str [107, 107, 107, 107, 107, 107, 107, 107, 107, 107, 107, 107, 107, 107, 107, 107, 107, 107, 107, 107, 107, 107, 107, 107, 107, 107, 107, 107, 107, 107, 107, 107, 0])] (s.blkIs 1 rfl) rfl (by kernel_rfl) Try.isAgg29 Try.sizeOf29 rfl (Nat.le_of_ble_eq_true rfl)) ?_
  clear ha; intro a ha
  refine st_call ha (by kernel_rfl) (by kernel_rfl) (check_lit W _ w ([107, 107, 107, 107, 107, 107, 107, 107, 107, 107, 107, 107, 107, 107, 107, 107, 107, 107, 107, 107, 107, 107, 107, 107, 107, 107, 107, 107, 107, 107, 107, 107], [107, 107, 107, 107, 107, 107, 107, 107, 107, 107, 107, 107, 107, 107, 107, 107, 107, 107, 107, 107, 107, 107, 107, 107, 107, 107, 107, 107, 107, 107, 107, 107, 0]) 0 (by decide) s) ?_
  rintro _ w ⟨rfl, s⟩
  replace s : St W (.blk g2 [.string (str []), .string (str [])] 29 :: .blk g1 [.string (str [107, 107, 107, 107, 107, 107, 107, 107, 107, 107, 107, 107, 107, 107, 107, 107, 107, 107, 107, 107, 107, 107, 107, 107, 107, 107, 107, 107, 107, 107, 107, 107]), .string (str [107, 107, 107, 107, 107, 107, 107, 107, 107, 107, 107, 107, 107, 107, 107, 107, 107, 107, 107, 107, 107, 107, 107, 107, 107, 107, 107, 107, 107, 107, 107, 107, 0])] 29 :: L) w := s
  refine ⟨_, rfl, ?_⟩; clear ha; intro a ha
  refine st_val (.bool true) ha (by kernel_rfl) (by kernel_rfl) ?_
  clear ha; intro a ha
  refine st_val (.bool true) ha (by kernel_rfl) (by kernel_rfl) ?_
  clear ha; intro a ha
  refine st_val (.bool true) ha (by kernel_rfl) (by kernel_rfl) ?_
  clear ha; intro a ha
  refine st_val (.int .i64 5) ha (by kernel_rfl) (by kernel_rfl) ?_
  clear ha; intro a ha
  refine st_val (.bool true) ha (by kernel_rfl) (by kernel_rfl) ?_
  clear ha; intro a ha
  refine st_val (.bool true) ha (by kernel_rfl) (by kernel_rfl) ?_
  clear ha; intro a ha
  refine st_val (.bool true) ha (by kernel_rfl) (by kernel_rfl) ?_
  clear ha; intro a ha
  refine st_val (.int .i64 5) ha (by kernel_rfl) (by kernel_rfl) ?_
  clear ha; intro a ha
  refine st_val (.bool true) ha (by kernel_rfl) (by kernel_rfl) ?_
  clear ha; intro a ha
  refine st_val (.bool true) ha (by kernel_rfl) (by kernel_rfl) ?_
  clear ha; intro a ha
  refine st_val (.bool true) ha (by kernel_rfl) (by kernel_rfl) ?_
  clear ha; intro a ha
  refine st_val (.int .i64 5) ha (by kernel_rfl) (by kernel_rfl) ?_
  clear ha; intro a ha
  refine st_val (.bool true) ha (by kernel_rfl) (by kernel_rfl) ?_
  clear ha; intro a ha
  refine st_val (.bool true) ha (by kernel_rfl) (by kernel_rfl) ?_
  clear ha; intro a ha
  refine st_val (.bool true) ha (by kernel_rfl) (by kernel_rfl) ?_
  clear ha; intro a ha
  refine st_val (.int .i64 5) ha (by kernel_rfl) (by kernel_rfl) ?_
  clear ha; intro a ha
  refine st_val (.bool true) ha (by kernel_rfl) (by kernel_rfl) ?_
  clear ha; intro a ha
  refine st_val (.bool true) ha (by kernel_rfl) (by kernel_rfl) ?_
  clear ha; intro a ha
  refine st_val (.bool true) ha (by kernel_rfl) (by kernel_rfl) ?_
  clear ha; intro a ha
  refine st_val (.int .i64 0) ha (by kernel_rfl) (by kernel_rfl) ?_
  clear ha; intro a ha
  refine st_val (.bool true) ha (by kernel_rfl) (by kernel_rfl) ?_
  clear ha; intro a ha
  refine st_val (.bool true) ha (by kernel_rfl) (by kernel_rfl) ?_
  clear ha; intro a ha
  refine st_val (.bool true) ha (by kernel_rfl) (by kernel_rfl) ?_
  clear ha; intro a ha
  refine st_val (.int .i64 2) ha (by kernel_rfl) (by kernel_rfl) ?_
  clear ha; intro a ha
  refine st_val (.bool true) ha (by kernel_rfl) (by kernel_rfl) ?_
  clear ha; intro a ha
  refine st_val (.bool true) ha (by kernel_rfl) (by kernel_rfl) ?_
  clear ha; intro a ha
  refine st_val (.bool true) ha (by kernel_rfl) (by kernel_rfl) ?_
  clear ha; intro a ha
  refine wpList_nil ?_
  refine then_normal ?_
  refine wp_seq ?_
  refine wp_region_lit ?_
  refine st_ex ha (by kernel_rfl) (ex_makeSlice (n := 1000) (c := 1000) (kx := .i64) (ky := .i64) elt22 #[.string (str []), .string (str [])] (by kernel_rfl) s rfl rfl rfl (by omega) (by omega) (by omega) (by first | decide | simp [roomBytes])) ?_
  clear ha; rintro _ w a ⟨g3, rfl, s⟩ ha
  rw [made_spans] at s
  replace s : St W (.blk g3 (sps (List.replicate 1000 ([], []))) 29 :: .blk g2 [.string (str []), .string (str [])] 29 :: .blk g1 [.string (str [107, 107, 107, 107, 107, 107, 107, 107, 107, 107, 107, 107, 107, 107, 107, 107, 107, 107, 107, 107, 107, 107, 107, 107, 107, 107, 107, 107, 107, 107, 107, 107]), .string (str [107, 107, 107, 107, 107, 107, 107, 107, 107, 107, 107, 107, 107, 107, 107, 107, 107, 107, 107, 107, 107, 107, 107, 107, 107, 107, 107, 107, 107, 107, 107, 107, 0])] 29 :: L) w := s
  refine st_val (.slice (some ⟨g3, 0, none⟩) 1000 1000) ha (by kernel_rfl) (by kernel_rfl) ?_
  clear ha; intro a ha
  refine wpList_nil ?_
  refine then_normal ?_
  refine wp_seq ?_
  refine wp_seq ?_
  refine wp_region_lit ?_
  refine st_val (.int .i64 0) ha (by kernel_rfl) (by kernel_rfl) ?_
  clear ha; intro a ha
  refine wpList_nil ?_
  refine then_normal ?_
  refine wp_block ?_
  replace s : St W (.blk g3 (sps (List.replicate 1000 ([], []))) 29 :: L) w := St.mid (A := [.blk g3 (sps (List.replicate 1000 ([], []))) 29]) (B := [.blk g2 [.string (str []), .string (str [])] 29, .blk g1 [.string (str [107, 107, 107, 107, 107, 107, 107, 107, 107, 107, 107, 107, 107, 107, 107, 107, 107, 107, 107, 107, 107, 107, 107, 107, 107, 107, 107, 107, 107, 107, 107, 107]), .string (str [107, 107, 107, 107, 107, 107, 107, 107, 107, 107, 107, 107, 107, 107, 107, 107, 107, 107, 107, 107, 107, 107, 107, 107, 107, 107, 107, 107, 107, 107, 107, 107, 0])] 29]) s
  rw [mix_zero] at s
  replace s := Own.of_blk (n := 1000) (k := 2) (by rw [sps_len, mix_len (Nat.zero_le _)]) (by omega) s
  obtain ⟨am, ham⟩ : ∃ am, (⟨g3, 0, none⟩ : Addr) = am := ⟨_, rfl⟩
  rw [ham] at s ha
  replace s : St W (Own 29 2 (some am) 1000 1000 (sps (mix 1000 0)) :: L) w := s
  refine wp_loopG (G := Nat) (fun k a w => Has a 223 [(1, .string (str [107, 107, 107, 107, 107, 107, 107, 107, 107, 107, 107, 107, 107, 107, 107, 107, 107, 107, 107, 107, 107, 107, 107, 107, 107, 107, 107, 107, 107, 107, 107, 107])), (11, .bool true), (12, .slice (some am) 1000 1000), (13, .int .i64 ((k : Nat) : Int))] ∧ St W (Own 29 2 (some am) 1000 1000 (sps (mix 1000 k)) :: L) w ∧ k ≤ 1000) (fun k => 1000 - k) 0 ?_ ?_
  · exact ⟨(Has.cons ha (by kernel_rfl) (by kernel_rfl) (Has.cons ha (by kernel_rfl) (by kernel_rfl) (Has.cons ha (by kernel_rfl) (by kernel_rfl) (Has.cons ha (by kernel_rfl) (by kernel_rfl) (Has.nil ha))))), s, Nat.zero_le _⟩
  · clear ha s; rintro k a w ⟨ha, s, hp⟩
    refine wp_seq ?_
    refine wp_seq ?_
    refine wp_region_lit ?_
    refine st_val (.int .i64 ((k : Nat) : Int)) ha (by kernel_rfl) (by kernel_rfl) ?_
    clear ha; intro a ha
    refine st_val (.bool (decide (((k : Nat) : Int) < (1000 : Int)))) ha (by kernel_rfl) (by kernel_rfl) ?_
    clear ha; intro a ha
    refine wpList_nil ?_
    refine then_normal ?_
    refine wp_part (decide (((k : Nat) : Int) < (1000 : Int))) ha rfl (by kernel_rfl) (fun hb => ?_) (fun hb => ?_)
    · rw [hb] at ha; replace hb : (((k : Nat) : Int) < (1000 : Int)) := of_decide_eq_true hb
      refine wp_skip ?_
      refine then_normal ?_
      refine wp_seq ?_
      refine wp_block ?_
      refine wp_region_lit ?_
      refine st_val (.slice (some am) 1000 1000) ha (by kernel_rfl) (by kernel_rfl) ?_
      clear ha; intro a ha
      refine st_val (.int .i64 ((k : Nat) : Int)) ha (by kernel_rfl) (by kernel_rfl) ?_
      clear ha; intro a ha
      refine st_val (.agg #[.string (str [97]), .string (str [98])]) ha (by kernel_rfl) (by kernel_rfl) ?_
      clear ha; intro a ha
      refine st_val (.pointer (some (am.add (k * 2)))) ha (by kernel_rfl) (run_indexAddr' (kd := .i64) (i := ((k : Nat) : Int)) (n := 1000) (c := 1000) k rfl Try.underlying22 Try.sizeOf29 (by kernel_rfl) (by kernel_rfl) rfl (by first | assumption | omega) _) ?_
      clear ha; intro a ha
      refine st_exd ha (by kernel_rfl) (ex_store_own (i := k * 2) 0 [.string (str [97]), .string (str [98])] s (show putAt (sps (mix 1000 k)) (k * 2) [.string (str [97]), .string (str [98])] = sps (mix 1000 (k + 1)) from put_mix (by omega)) rfl rfl (by kernel_rfl) (by kernel_rfl) (Try.sizeOf29 _) rfl (by simp [Value.oneCell']) (by simp) (by rw [sps_len, mix_len (by omega)]; simp only [List.length_cons, List.length_nil]; omega)) ?_
      clear ha; rintro w a s ha
      replace s : St W (Own 29 2 (some am) 1000 1000 (sps (mix 1000 (k + 1))) :: L) w := s
      refine wpList_nil ?_
      refine block_normal ?_
      refine then_normal ?_
      refine wp_region_lit ?_
      refine st_val (.int .i64 ((k : Nat) : Int)) ha (by kernel_rfl) (by kernel_rfl) ?_
      clear ha; intro a ha
      refine st_val (.int .i64 ((k + 1 : Nat) : Int)) ha (by kernel_rfl) (run_arith (((k : Nat) : Int) + (1 : Int)) ((k + 1 : Nat) : Int) rfl (by kernel_rfl) (by kernel_rfl) (.inl ⟨rfl, rfl⟩) (by rw [wrap64_in (by omega)]; try omega) _) ?_
      clear ha; intro a ha
      refine st_val (.int .i64 ((k + 1 : Nat) : Int)) ha (by kernel_rfl) (by kernel_rfl) ?_
      clear ha; intro a ha
      refine wpList_nil ?_
      refine then_normal ?_
      exact ⟨k + 1, (show 1000 - (k + 1) < 1000 - k by omega), (Has.cons ha (by kernel_rfl) (by kernel_rfl) (Has.cons ha (by kernel_rfl) (by kernel_rfl) (Has.cons ha (by kernel_rfl) (by kernel_rfl) (Has.cons ha (by kernel_rfl) (by kernel_rfl) (Has.nil ha))))), s, (show k + 1 ≤ 1000 by omega)⟩
    · rw [hb] at ha; replace hb : ¬ (((k : Nat) : Int) < (1000 : Int)) := of_decide_eq_false hb
      have hk : k = 1000 := by omega
      rw [hk, mix_full] at s
      replace s : St W (Own 29 2 (some am) 1000 1000 (sps (rep 1000)) :: L) w := s
      refine wp_exit ?_
      refine then_exit ?_
      refine then_exit ?_
      refine block_hit ?_
      refine then_normal ?_
      refine wp_seq ?_
      refine wp_region_lit ?_
      refine st_val (.slice (some am) 1000 1000) ha (by kernel_rfl) (by kernel_rfl) ?_
      clear ha; intro a ha
      refine st_call ha (by kernel_rfl) (by kernel_rfl) (join_ok W _ w (some am) 1000 1000 (rep 1000) (Knows.own (j := 0) rfl) (rep_len 1000) (rep_ok 1000) (by omega) s) ?_
      rintro _ w ⟨A4, c5, cl, rfl, hcan, hsm, hcl, s⟩
      obtain rfl := (canon_m (n := 1000) (by omega)).unique hcan
      replace s : St W (Own 29 2 A4 1 c5 (sps [([97], [98])]) :: Own 29 2 (some am) 1000 1000 (sps (rep 1000)) :: L) w := s
      refine ⟨_, rfl, ?_⟩; clear ha; intro a ha
      refine st_val (.tuple #[.slice A4 1 c5, .int .i64 0]) ha (by kernel_rfl) (by kernel_rfl) ?_
      clear ha; intro a ha
      refine st_val (.slice A4 1 c5) ha (by kernel_rfl) (by kernel_rfl) ?_
      clear ha; intro a ha
      refine st_val (.int .i64 0) ha (by kernel_rfl) (by kernel_rfl) ?_
      clear ha; intro a ha
      refine st_val (.slice A4 1 c5) ha (by kernel_rfl) (by kernel_rfl) ?_
      clear ha; intro a ha
      refine st_val (.int .i64 0) ha (by kernel_rfl) (by kernel_rfl) ?_
      clear ha; intro a ha
      refine wpList_nil ?_
      refine then_normal ?_
      refine wp_seq ?_
      refine wp_region_lit ?_
      refine st_val (.slice (some am) 1000 1000) ha (by kernel_rfl) (by kernel_rfl) ?_
      clear ha; intro a ha
      refine st_val (.agg #[.string (str []), .string (str [])]) ha (by kernel_rfl) (by kernel_rfl) ?_
      clear ha; intro a ha
      refine st_ex ha (by kernel_rfl) (ex_buildSlice elt22 _ zs22 [.string (str []), .string (str [])] s rfl (by kernel_rfl) (by decide)) ?_
      clear ha; rintro _ w a ⟨g6, rfl, s⟩ ha
      replace s : St W (.blk g6 [.string (str []), .string (str [])] 29 :: Own 29 2 A4 1 c5 (sps [([97], [98])]) :: Own 29 2 (some am) 1000 1000 (sps (rep 1000)) :: L) w := s
      replace s := s.at_ (j := 2) rfl
      replace s : St W (Own 29 2 (some am) 1000 1000 (sps (rep 1000)) :: .blk g6 [.string (str []), .string (str [])] 29 :: Own 29 2 A4 1 c5 (sps [([97], [98])]) :: L) w := s
      refine st_ex ha (by kernel_rfl) (append_full (m := 1) (d' := 1) elt22 (by decide) [.string (str []), .string (str [])] s rfl (by kernel_rfl) (by kernel_rfl) (reads_blk (s.blkIs 1 rfl) rfl) (by simp [Value.oneCell']) (by omega) (by simp only [maxLen]; omega) (by omega)) ?_
      clear ha; rintro _ w a ⟨A7, c8, rfl, s⟩ ha
      replace s : St W (Own 29 2 A7 1001 c8 (sps (rep 1000) ++ [.string (str []), .string (str [])]) :: Own 29 2 (some am) 1000 1000 (sps (rep 1000)) :: .blk g6 [.string (str []), .string (str [])] 29 :: Own 29 2 A4 1 c5 (sps [([97], [98])]) :: L) w := s
      replace s : St W (Own 29 2 A7 1001 c8 (sps (rep 1000) ++ [.string (str []), .string (str [])]) :: Own 29 2 (some am) 1000 1000 (sps (rep 1000)) :: .blk g6 [.string (str []), .string (str [])] 29 :: Own 29 2 A4 1 c5 (sps [([97], [98])]) :: L) w := s
      refine st_call ha (by kernel_rfl) (by kernel_rfl) (join_lim W _ w A7 1001 c8 (by omega) s) ?_
      rintro _ w ⟨rfl, s⟩
      replace s : St W (Own 29 2 A7 1001 c8 (sps (rep 1000) ++ [.string (str []), .string (str [])]) :: Own 29 2 (some am) 1000 1000 (sps (rep 1000)) :: .blk g6 [.string (str []), .string (str [])] 29 :: Own 29 2 A4 1 c5 (sps [([97], [98])]) :: L) w := s
      refine ⟨_, rfl, ?_⟩; clear ha; intro a ha
      refine st_val (.tuple #[.slice none 0 0, .int .i64 5]) ha (by kernel_rfl) (by kernel_rfl) ?_
      clear ha; intro a ha
      refine st_val (.slice none 0 0) ha (by kernel_rfl) (by kernel_rfl) ?_
      clear ha; intro a ha
      refine st_val (.int .i64 5) ha (by kernel_rfl) (by kernel_rfl) ?_
      clear ha; intro a ha
      refine st_val (.slice none 0 0) ha (by kernel_rfl) (by kernel_rfl) ?_
      clear ha; intro a ha
      refine st_val (.int .i64 5) ha (by kernel_rfl) (by kernel_rfl) ?_
      clear ha; intro a ha
      refine wpList_nil ?_
      refine then_normal ?_
      refine wp_seq ?_
      refine wp_region_lit ?_
      refine st_val (.slice (some am) 1000 1000) ha (by kernel_rfl) (by kernel_rfl) ?_
      clear ha; intro a ha
      refine st_val (.slice (some am) 1000 1000) ha (by kernel_rfl) (by kernel_rfl) ?_
      clear ha; intro a ha
      refine st_val (.pointer (some (am.add (0 * 2)))) ha (by kernel_rfl) (run_indexAddr' (kd := .i64) (i := 0) (n := 1000) (c := 1000) 0 rfl Try.underlying22 Try.sizeOf29 (by kernel_rfl) (by kernel_rfl) rfl (by first | assumption | omega) _) ?_
      clear ha; intro a ha
      refine st_val (.agg #[.string (str [97]), .string (str [98])]) ha (by kernel_rfl) (run_loadAtN (i := 0 * 2) [.string (str [97]), .string (str [98])] ((Own.reads (s.at_ (j := 1) rfl).1)) rfl (by kernel_rfl) Try.isAgg29 Try.sizeOf29 (fun j hj => sps_at (k := 0) (rep_at (n := 1000) (by omega)) hj) rfl) ?_
      clear ha; intro a ha
      refine st_ex ha (by kernel_rfl) (ex_buildSlice elt22 _ zs22 [.string (str [97]), .string (str [98])] s rfl (by kernel_rfl) (by decide)) ?_
      clear ha; rintro _ w a ⟨g9, rfl, s⟩ ha
      replace s : St W (.blk g9 [.string (str [97]), .string (str [98])] 29 :: Own 29 2 A7 1001 c8 (sps (rep 1000) ++ [.string (str []), .string (str [])]) :: Own 29 2 (some am) 1000 1000 (sps (rep 1000)) :: .blk g6 [.string (str []), .string (str [])] 29 :: Own 29 2 A4 1 c5 (sps [([97], [98])]) :: L) w := s
      replace s := s.at_ (j := 2) rfl
      replace s : St W (Own 29 2 (some am) 1000 1000 (sps (rep 1000)) :: .blk g9 [.string (str [97]), .string (str [98])] 29 :: Own 29 2 A7 1001 c8 (sps (rep 1000) ++ [.string (str []), .string (str [])]) :: .blk g6 [.string (str []), .string (str [])] 29 :: Own 29 2 A4 1 c5 (sps [([97], [98])]) :: L) w := s
      refine st_ex ha (by kernel_rfl) (append_full (m := 1) (d' := 1) elt22 (by decide) [.string (str [97]), .string (str [98])] s rfl (by kernel_rfl) (by kernel_rfl) (reads_blk (s.blkIs 1 rfl) rfl) (by simp [Value.oneCell']) (by omega) (by simp only [maxLen]; omega) (by omega)) ?_
      clear ha; rintro _ w a ⟨A10, c11, rfl, s⟩ ha
      replace s : St W (Own 29 2 A10 1001 c11 (sps (rep 1000) ++ [.string (str [97]), .string (str [98])]) :: Own 29 2 (some am) 1000 1000 (sps (rep 1000)) :: .blk g9 [.string (str [97]), .string (str [98])] 29 :: Own 29 2 A7 1001 c8 (sps (rep 1000) ++ [.string (str []), .string (str [])]) :: .blk g6 [.string (str []), .string (str [])] 29 :: Own 29 2 A4 1 c5 (sps [([97], [98])]) :: L) w := s
      replace s : St W (Own 29 2 A10 1001 c11 (sps (rep 1000) ++ [.string (str [97]), .string (str [98])]) :: Own 29 2 (some am) 1000 1000 (sps (rep 1000)) :: .blk g9 [.string (str [97]), .string (str [98])] 29 :: Own 29 2 A7 1001 c8 (sps (rep 1000) ++ [.string (str []), .string (str [])]) :: .blk g6 [.string (str []), .string (str [])] 29 :: Own 29 2 A4 1 c5 (sps [([97], [98])]) :: L) w := s
      refine st_call ha (by kernel_rfl) (by kernel_rfl) (both_limB W _ w none A10 0 1001 0 c11 (by omega) (by omega) s) ?_
      rintro _ w ⟨rfl, s⟩
      replace s : St W (Own 29 2 A10 1001 c11 (sps (rep 1000) ++ [.string (str [97]), .string (str [98])]) :: Own 29 2 (some am) 1000 1000 (sps (rep 1000)) :: .blk g9 [.string (str [97]), .string (str [98])] 29 :: Own 29 2 A7 1001 c8 (sps (rep 1000) ++ [.string (str []), .string (str [])]) :: .blk g6 [.string (str []), .string (str [])] 29 :: Own 29 2 A4 1 c5 (sps [([97], [98])]) :: L) w := s
      refine ⟨_, rfl, ?_⟩; clear ha; intro a ha
      refine st_val (.tuple #[.slice none 0 0, .int .i64 5]) ha (by kernel_rfl) (by kernel_rfl) ?_
      clear ha; intro a ha
      refine st_val (.slice none 0 0) ha (by kernel_rfl) (by kernel_rfl) ?_
      clear ha; intro a ha
      refine st_val (.int .i64 5) ha (by kernel_rfl) (by kernel_rfl) ?_
      clear ha; intro a ha
      refine st_val (.slice none 0 0) ha (by kernel_rfl) (by kernel_rfl) ?_
      clear ha; intro a ha
      refine st_val (.int .i64 5) ha (by kernel_rfl) (by kernel_rfl) ?_
      clear ha; intro a ha
      refine wpList_nil ?_
      refine then_normal ?_
      refine wp_seq ?_
      refine wp_region_lit ?_
      refine st_val (.agg #[.string (str [98]), .string (str [97])]) ha (by kernel_rfl) (by kernel_rfl) ?_
      clear ha; intro a ha
      refine st_ex ha (by kernel_rfl) (ex_buildSlice elt22 _ zs22 [.string (str [98]), .string (str [97])] s rfl (by kernel_rfl) (by decide)) ?_
      clear ha; rintro _ w a ⟨g12, rfl, s⟩ ha
      replace s : St W (.blk g12 [.string (str [98]), .string (str [97])] 29 :: Own 29 2 A10 1001 c11 (sps (rep 1000) ++ [.string (str [97]), .string (str [98])]) :: Own 29 2 (some am) 1000 1000 (sps (rep 1000)) :: .blk g9 [.string (str [97]), .string (str [98])] 29 :: Own 29 2 A7 1001 c8 (sps (rep 1000) ++ [.string (str []), .string (str [])]) :: .blk g6 [.string (str []), .string (str [])] 29 :: Own 29 2 A4 1 c5 (sps [([97], [98])]) :: L) w := s
      refine st_val (.string (str [107, 107, 107, 107, 107, 107, 107, 107, 107, 107, 107, 107, 107, 107, 107, 107, 107, 107, 107, 107, 107, 107, 107, 107, 107, 107, 107, 107, 107, 107, 107, 107])) ha (by kernel_rfl) (by kernel_rfl) ?_
      clear ha; intro a ha
      refine st_val (.string (str [107, 107, 107, 107, 107, 107, 107, 107, 107, 107, 107, 107, 107, 107, 107, 107, 107, 107, 107, 107, 107, 107, 107, 107, 107, 107, 107, 107, 107, 107, 107, 107, 107, 107])) ha (by kernel_rfl) (run_sadd (p := [107, 107, 107, 107, 107, 107, 107, 107, 107, 107, 107, 107, 107, 107, 107, 107, 107, 107, 107, 107, 107, 107, 107, 107, 107, 107, 107, 107, 107, 107, 107, 107]) (q := [107, 107]) rfl (by kernel_rfl) (by kernel_rfl) (by decide) _) ?_
      clear ha; intro a ha
      refine st_val (.agg #[.string (str [107, 107, 107, 107, 107, 107, 107, 107, 107, 107, 107, 107, 107, 107, 107, 107, 107, 107, 107, 107, 107, 107, 107, 107, 107, 107, 107, 107, 107, 107, 107, 107, 107, 107]), .string (str [])]) ha (by kernel_rfl) (by kernel_rfl) ?_
      clear ha; intro a ha
      refine st_ex ha (by kernel_rfl) (ex_buildSlice elt22 _ zs22 [.string (str [107, 107, 107, 107, 107, 107, 107, 107, 107, 107, 107, 107, 107, 107, 107, 107, 107, 107, 107, 107, 107, 107, 107, 107, 107, 107, 107, 107, 107, 107, 107, 107, 107, 107]), .string (str [])] s rfl (by kernel_rfl) (by decide)) ?_
      clear ha; rintro _ w a ⟨g13, rfl, s⟩ ha
      replace s : St W (.blk g13 [.string (str [107, 107, 107, 107, 107, 107, 107, 107, 107, 107, 107, 107, 107, 107, 107, 107, 107, 107, 107, 107, 107, 107, 107, 107, 107, 107, 107, 107, 107, 107, 107, 107, 107, 107]), .string (str [])] 29 :: .blk g12 [.string (str [98]), .string (str [97])] 29 :: Own 29 2 A10 1001 c11 (sps (rep 1000) ++ [.string (str [97]), .string (str [98])]) :: Own 29 2 (some am) 1000 1000 (sps (rep 1000)) :: .blk g9 [.string (str [97]), .string (str [98])] 29 :: Own 29 2 A7 1001 c8 (sps (rep 1000) ++ [.string (str []), .string (str [])]) :: .blk g6 [.string (str []), .string (str [])] 29 :: Own 29 2 A4 1 c5 (sps [([97], [98])]) :: L) w := s
      refine st_call ha (by kernel_rfl) (by kernel_rfl) (less_badA W _ w ⟨g12, 0, none⟩ (some ⟨g13, 0, none⟩) 1 1 1 ([98], [97]) 2 (by decide) (by decide) (by omega) (Knows.blk (j := 1) (cs := sps [([98], [97])]) rfl rfl) s) ?_
      rintro _ w ⟨rfl, s⟩
      replace s : St W (.blk g13 [.string (str [107, 107, 107, 107, 107, 107, 107, 107, 107, 107, 107, 107, 107, 107, 107, 107, 107, 107, 107, 107, 107, 107, 107, 107, 107, 107, 107, 107, 107, 107, 107, 107, 107, 107]), .string (str [])] 29 :: .blk g12 [.string (str [98]), .string (str [97])] 29 :: Own 29 2 A10 1001 c11 (sps (rep 1000) ++ [.string (str [97]), .string (str [98])]) :: Own 29 2 (some am) 1000 1000 (sps (rep 1000)) :: .blk g9 [.string (str [97]), .string (str [98])] 29 :: Own 29 2 A7 1001 c8 (sps (rep 1000) ++ [.string (str []), .string (str [])]) :: .blk g6 [.string (str []), .string (str [])] 29 :: Own 29 2 A4 1 c5 (sps [([97], [98])]) :: L) w := s
      refine ⟨_, rfl, ?_⟩; clear ha; intro a ha
      refine st_val (.tuple #[.slice none 0 0, .int .i64 2]) ha (by kernel_rfl) (by kernel_rfl) ?_
      clear ha; intro a ha
      refine st_val (.slice none 0 0) ha (by kernel_rfl) (by kernel_rfl) ?_
      clear ha; intro a ha
      refine st_val (.int .i64 2) ha (by kernel_rfl) (by kernel_rfl) ?_
      clear ha; intro a ha
      refine st_val (.slice none 0 0) ha (by kernel_rfl) (by kernel_rfl) ?_
      clear ha; intro a ha
      refine st_val (.int .i64 2) ha (by kernel_rfl) (by kernel_rfl) ?_
      clear ha; intro a ha
      refine wpList_nil ?_
      refine then_normal ?_
      refine wp_seq ?_
      refine wp_region_lit ?_
      refine st_ex ha (by kernel_rfl) (ex_buildSlice elt62 _ zs62 [.string (str [97]), .string (str [98])] s rfl (by kernel_rfl) (by decide)) ?_
      clear ha; rintro _ w a ⟨g14, rfl, s⟩ ha
      replace s : St W (.blk g14 [.string (str [97]), .string (str [98])] 9 :: .blk g13 [.string (str [107, 107, 107, 107, 107, 107, 107, 107, 107, 107, 107, 107, 107, 107, 107, 107, 107, 107, 107, 107, 107, 107, 107, 107, 107, 107, 107, 107, 107, 107, 107, 107, 107, 107]), .string (str [])] 29 :: .blk g12 [.string (str [98]), .string (str [97])] 29 :: Own 29 2 A10 1001 c11 (sps (rep 1000) ++ [.string (str [97]), .string (str [98])]) :: Own 29 2 (some am) 1000 1000 (sps (rep 1000)) :: .blk g9 [.string (str [97]), .string (str [98])] 29 :: Own 29 2 A7 1001 c8 (sps (rep 1000) ++ [.string (str []), .string (str [])]) :: .blk g6 [.string (str []), .string (str [])] 29 :: Own 29 2 A4 1 c5 (sps [([97], [98])]) :: L) w := s
      refine st_call ha (by kernel_rfl) (by kernel_rfl) (list_ok W _ w (some ⟨g14, 0, none⟩) 2 2 [([97], [98])] (Knows.blk (j := 0) (cs := sps [([97], [98])]) rfl rfl) rfl (by omega) s) ?_
      rintro _ w ⟨A15, c16, rfl, s⟩
      replace s : St W (Own 29 2 A15 1 c16 (sps [([97], [98])]) :: .blk g14 [.string (str [97]), .string (str [98])] 9 :: .blk g13 [.string (str [107, 107, 107, 107, 107, 107, 107, 107, 107, 107, 107, 107, 107, 107, 107, 107, 107, 107, 107, 107, 107, 107, 107, 107, 107, 107, 107, 107, 107, 107, 107, 107, 107, 107]), .string (str [])] 29 :: .blk g12 [.string (str [98]), .string (str [97])] 29 :: Own 29 2 A10 1001 c11 (sps (rep 1000) ++ [.string (str [97]), .string (str [98])]) :: Own 29 2 (some am) 1000 1000 (sps (rep 1000)) :: .blk g9 [.string (str [97]), .string (str [98])] 29 :: Own 29 2 A7 1001 c8 (sps (rep 1000) ++ [.string (str []), .string (str [])]) :: .blk g6 [.string (str []), .string (str [])] 29 :: Own 29 2 A4 1 c5 (sps [([97], [98])]) :: L) w := s
      refine ⟨_, rfl, ?_⟩; clear ha; intro a ha
      refine st_val (.string (str [107, 107, 107, 107, 107, 107, 107, 107, 107, 107, 107, 107, 107, 107, 107, 107, 107, 107, 107, 107, 107, 107, 107, 107, 107, 107, 107, 107, 107, 107, 107, 107])) ha (by kernel_rfl) (by kernel_rfl) ?_
      clear ha; intro a ha
      refine st_val (.string (str [107, 107, 107, 107, 107, 107, 107, 107, 107, 107, 107, 107, 107, 107, 107, 107, 107, 107, 107, 107, 107, 107, 107, 107, 107, 107, 107, 107, 107, 107, 107, 107, 107, 107])) ha (by kernel_rfl) (run_sadd (p := [107, 107, 107, 107, 107, 107, 107, 107, 107, 107, 107, 107, 107, 107, 107, 107, 107, 107, 107, 107, 107, 107, 107, 107, 107, 107, 107, 107, 107, 107, 107, 107]) (q := [107, 107]) rfl (by kernel_rfl) (by kernel_rfl) (by decide) _) ?_
      clear ha; intro a ha
      refine st_val (.agg #[.string (str [107, 107, 107, 107, 107, 107, 107, 107, 107, 107, 107, 107, 107, 107, 107, 107, 107, 107, 107, 107, 107, 107, 107, 107, 107, 107, 107, 107, 107, 107, 107, 107, 107, 107]), .string (str [])]) ha (by kernel_rfl) (by kernel_rfl) ?_
      clear ha; intro a ha
      refine st_ex ha (by kernel_rfl) (ex_buildSlice elt22 _ zs22 [.string (str [107, 107, 107, 107, 107, 107, 107, 107, 107, 107, 107, 107, 107, 107, 107, 107, 107, 107, 107, 107, 107, 107, 107, 107, 107, 107, 107, 107, 107, 107, 107, 107, 107, 107]), .string (str [])] s rfl (by kernel_rfl) (by decide)) ?_
      clear ha; rintro _ w a ⟨g17, rfl, s⟩ ha
      replace s : St W (.blk g17 [.string (str [107, 107, 107, 107, 107, 107, 107, 107, 107, 107, 107, 107, 107, 107, 107, 107, 107, 107, 107, 107, 107, 107, 107, 107, 107, 107, 107, 107, 107, 107, 107, 107, 107, 107]), .string (str [])] 29 :: Own 29 2 A15 1 c16 (sps [([97], [98])]) :: .blk g14 [.string (str [97]), .string (str [98])] 9 :: .blk g13 [.string (str [107, 107, 107, 107, 107, 107, 107, 107, 107, 107, 107, 107, 107, 107, 107, 107, 107, 107, 107, 107, 107, 107, 107, 107, 107, 107, 107, 107, 107, 107, 107, 107, 107, 107]), .string (str [])] 29 :: .blk g12 [.string (str [98]), .string (str [97])] 29 :: Own 29 2 A10 1001 c11 (sps (rep 1000) ++ [.string (str [97]), .string (str [98])]) :: Own 29 2 (some am) 1000 1000 (sps (rep 1000)) :: .blk g9 [.string (str [97]), .string (str [98])] 29 :: Own 29 2 A7 1001 c8 (sps (rep 1000) ++ [.string (str []), .string (str [])]) :: .blk g6 [.string (str []), .string (str [])] 29 :: Own 29 2 A4 1 c5 (sps [([97], [98])]) :: L) w := s
      obtain ⟨ax18, hax⟩ := Own.addr (s.at_ (j := 1) rfl) (by omega)
      subst hax
      refine st_call ha (by kernel_rfl) (by kernel_rfl) (both_badB W _ w ax18 ⟨g17, 0, none⟩ c16 1 ([97], [98]) ([107, 107, 107, 107, 107, 107, 107, 107, 107, 107, 107, 107, 107, 107, 107, 107, 107, 107, 107, 107, 107, 107, 107, 107, 107, 107, 107, 107, 107, 107, 107, 107, 107, 107], []) 5 (by decide) (by decide) (by decide) (Knows.own (j := 1) rfl) (Knows.blk (j := 0) (cs := sps [([107, 107, 107, 107, 107, 107, 107, 107, 107, 107, 107, 107, 107, 107, 107, 107, 107, 107, 107, 107, 107, 107, 107, 107, 107, 107, 107, 107, 107, 107, 107, 107, 107, 107], [])]) rfl rfl) s) ?_
      rintro _ w ⟨rfl, s⟩
      replace s : St W (.blk g17 [.string (str [107, 107, 107, 107, 107, 107, 107, 107, 107, 107, 107, 107, 107, 107, 107, 107, 107, 107, 107, 107, 107, 107, 107, 107, 107, 107, 107, 107, 107, 107, 107, 107, 107, 107]), .string (str [])] 29 :: Own 29 2 (some ax18) 1 c16 (sps [([97], [98])]) :: .blk g14 [.string (str [97]), .string (str [98])] 9 :: .blk g13 [.string (str [107, 107, 107, 107, 107, 107, 107, 107, 107, 107, 107, 107, 107, 107, 107, 107, 107, 107, 107, 107, 107, 107, 107, 107, 107, 107, 107, 107, 107, 107, 107, 107, 107, 107]), .string (str [])] 29 :: .blk g12 [.string (str [98]), .string (str [97])] 29 :: Own 29 2 A10 1001 c11 (sps (rep 1000) ++ [.string (str [97]), .string (str [98])]) :: Own 29 2 (some am) 1000 1000 (sps (rep 1000)) :: .blk g9 [.string (str [97]), .string (str [98])] 29 :: Own 29 2 A7 1001 c8 (sps (rep 1000) ++ [.string (str []), .string (str [])]) :: .blk g6 [.string (str []), .string (str [])] 29 :: Own 29 2 A4 1 c5 (sps [([97], [98])]) :: L) w := s
      refine ⟨_, rfl, ?_⟩; clear ha; intro a ha
      refine st_val (.tuple #[.slice none 0 0, .int .i64 5]) ha (by kernel_rfl) (by kernel_rfl) ?_
      clear ha; intro a ha
      refine st_val (.slice none 0 0) ha (by kernel_rfl) (by kernel_rfl) ?_
      clear ha; intro a ha
      refine st_val (.int .i64 5) ha (by kernel_rfl) (by kernel_rfl) ?_
      clear ha; intro a ha
      refine st_val (.slice none 0 0) ha (by kernel_rfl) (by kernel_rfl) ?_
      clear ha; intro a ha
      refine st_val (.int .i64 5) ha (by kernel_rfl) (by kernel_rfl) ?_
      clear ha; intro a ha
      refine wpList_nil ?_
      refine then_normal ?_
      refine wp_seq ?_
      refine wp_region_lit ?_
      refine st_ex ha (by kernel_rfl) (ex_buildSlice elt62 _ zs62 [.string (str [97]), .string (str [99])] s rfl (by kernel_rfl) (by decide)) ?_
      clear ha; rintro _ w a ⟨g19, rfl, s⟩ ha
      replace s : St W (.blk g19 [.string (str [97]), .string (str [99])] 9 :: .blk g17 [.string (str [107, 107, 107, 107, 107, 107, 107, 107, 107, 107, 107, 107, 107, 107, 107, 107, 107, 107, 107, 107, 107, 107, 107, 107, 107, 107, 107, 107, 107, 107, 107, 107, 107, 107]), .string (str [])] 29 :: Own 29 2 (some ax18) 1 c16 (sps [([97], [98])]) :: .blk g14 [.string (str [97]), .string (str [98])] 9 :: .blk g13 [.string (str [107, 107, 107, 107, 107, 107, 107, 107, 107, 107, 107, 107, 107, 107, 107, 107, 107, 107, 107, 107, 107, 107, 107, 107, 107, 107, 107, 107, 107, 107, 107, 107, 107, 107]), .string (str [])] 29 :: .blk g12 [.string (str [98]), .string (str [97])] 29 :: Own 29 2 A10 1001 c11 (sps (rep 1000) ++ [.string (str [97]), .string (str [98])]) :: Own 29 2 (some am) 1000 1000 (sps (rep 1000)) :: .blk g9 [.string (str [97]), .string (str [98])] 29 :: Own 29 2 A7 1001 c8 (sps (rep 1000) ++ [.string (str []), .string (str [])]) :: .blk g6 [.string (str []), .string (str [])] 29 :: Own 29 2 A4 1 c5 (sps [([97], [98])]) :: L) w := s
      refine st_call ha (by kernel_rfl) (by kernel_rfl) (list_ok W _ w (some ⟨g19, 0, none⟩) 2 2 [([97], [99])] (Knows.blk (j := 0) (cs := sps [([97], [99])]) rfl rfl) rfl (by omega) s) ?_
      rintro _ w ⟨A20, c21, rfl, s⟩
      replace s : St W (Own 29 2 A20 1 c21 (sps [([97], [99])]) :: .blk g19 [.string (str [97]), .string (str [99])] 9 :: .blk g17 [.string (str [107, 107, 107, 107, 107, 107, 107, 107, 107, 107, 107, 107, 107, 107, 107, 107, 107, 107, 107, 107, 107, 107, 107, 107, 107, 107, 107, 107, 107, 107, 107, 107, 107, 107]), .string (str [])] 29 :: Own 29 2 (some ax18) 1 c16 (sps [([97], [98])]) :: .blk g14 [.string (str [97]), .string (str [98])] 9 :: .blk g13 [.string (str [107, 107, 107, 107, 107, 107, 107, 107, 107, 107, 107, 107, 107, 107, 107, 107, 107, 107, 107, 107, 107, 107, 107, 107, 107, 107, 107, 107, 107, 107, 107, 107, 107, 107]), .string (str [])] 29 :: .blk g12 [.string (str [98]), .string (str [97])] 29 :: Own 29 2 A10 1001 c11 (sps (rep 1000) ++ [.string (str [97]), .string (str [98])]) :: Own 29 2 (some am) 1000 1000 (sps (rep 1000)) :: .blk g9 [.string (str [97]), .string (str [98])] 29 :: Own 29 2 A7 1001 c8 (sps (rep 1000) ++ [.string (str []), .string (str [])]) :: .blk g6 [.string (str []), .string (str [])] 29 :: Own 29 2 A4 1 c5 (sps [([97], [98])]) :: L) w := s
      refine ⟨_, rfl, ?_⟩; clear ha; intro a ha
      refine st_ex ha (by kernel_rfl) (ex_buildSlice elt62 _ zs62 [.string (str [98]), .string (str [98, 0])] s rfl (by kernel_rfl) (by decide)) ?_
      clear ha; rintro _ w a ⟨g22, rfl, s⟩ ha
      replace s : St W (.blk g22 [.string (str [98]), .string (str [98, 0])] 9 :: Own 29 2 A20 1 c21 (sps [([97], [99])]) :: .blk g19 [.string (str [97]), .string (str [99])] 9 :: .blk g17 [.string (str [107, 107, 107, 107, 107, 107, 107, 107, 107, 107, 107, 107, 107, 107, 107, 107, 107, 107, 107, 107, 107, 107, 107, 107, 107, 107, 107, 107, 107, 107, 107, 107, 107, 107]), .string (str [])] 29 :: Own 29 2 (some ax18) 1 c16 (sps [([97], [98])]) :: .blk g14 [.string (str [97]), .string (str [98])] 9 :: .blk g13 [.string (str [107, 107, 107, 107, 107, 107, 107, 107, 107, 107, 107, 107, 107, 107, 107, 107, 107, 107, 107, 107, 107, 107, 107, 107, 107, 107, 107, 107, 107, 107, 107, 107, 107, 107]), .string (str [])] 29 :: .blk g12 [.string (str [98]), .string (str [97])] 29 :: Own 29 2 A10 1001 c11 (sps (rep 1000) ++ [.string (str [97]), .string (str [98])]) :: Own 29 2 (some am) 1000 1000 (sps (rep 1000)) :: .blk g9 [.string (str [97]), .string (str [98])] 29 :: Own 29 2 A7 1001 c8 (sps (rep 1000) ++ [.string (str []), .string (str [])]) :: .blk g6 [.string (str []), .string (str [])] 29 :: Own 29 2 A4 1 c5 (sps [([97], [98])]) :: L) w := s
      refine st_call ha (by kernel_rfl) (by kernel_rfl) (list_ok W _ w (some ⟨g22, 0, none⟩) 2 2 [([98], [98, 0])] (Knows.blk (j := 0) (cs := sps [([98], [98, 0])]) rfl rfl) rfl (by omega) s) ?_
      rintro _ w ⟨A23, c24, rfl, s⟩
      replace s : St W (Own 29 2 A23 1 c24 (sps [([98], [98, 0])]) :: .blk g22 [.string (str [98]), .string (str [98, 0])] 9 :: Own 29 2 A20 1 c21 (sps [([97], [99])]) :: .blk g19 [.string (str [97]), .string (str [99])] 9 :: .blk g17 [.string (str [107, 107, 107, 107, 107, 107, 107, 107, 107, 107, 107, 107, 107, 107, 107, 107, 107, 107, 107, 107, 107, 107, 107, 107, 107, 107, 107, 107, 107, 107, 107, 107, 107, 107]), .string (str [])] 29 :: Own 29 2 (some ax18) 1 c16 (sps [([97], [98])]) :: .blk g14 [.string (str [97]), .string (str [98])] 9 :: .blk g13 [.string (str [107, 107, 107, 107, 107, 107, 107, 107, 107, 107, 107, 107, 107, 107, 107, 107, 107, 107, 107, 107, 107, 107, 107, 107, 107, 107, 107, 107, 107, 107, 107, 107, 107, 107]), .string (str [])] 29 :: .blk g12 [.string (str [98]), .string (str [97])] 29 :: Own 29 2 A10 1001 c11 (sps (rep 1000) ++ [.string (str [97]), .string (str [98])]) :: Own 29 2 (some am) 1000 1000 (sps (rep 1000)) :: .blk g9 [.string (str [97]), .string (str [98])] 29 :: Own 29 2 A7 1001 c8 (sps (rep 1000) ++ [.string (str []), .string (str [])]) :: .blk g6 [.string (str []), .string (str [])] 29 :: Own 29 2 A4 1 c5 (sps [([97], [98])]) :: L) w := s
      refine ⟨_, rfl, ?_⟩; clear ha; intro a ha
      refine st_call ha (by kernel_rfl) (by kernel_rfl) (less_ok W _ w A20 A23 1 1 c21 c24 [([97], [99])] [([98], [98, 0])] (Knows.own (j := 2) rfl) (Knows.own (j := 0) rfl) rfl rfl (by decide) (by decide) (by omega) (by omega) s) ?_
      rintro _ w ⟨A25, c26, cl, rfl, hcan, hsm, hcl, s⟩
      obtain rfl := canon_l2.unique hcan
      replace s : St W (Own 29 2 A25 2 c26 (sps [([97], [98]), ([98, 0], [99])]) :: Own 29 2 A23 1 c24 (sps [([98], [98, 0])]) :: .blk g22 [.string (str [98]), .string (str [98, 0])] 9 :: Own 29 2 A20 1 c21 (sps [([97], [99])]) :: .blk g19 [.string (str [97]), .string (str [99])] 9 :: .blk g17 [.string (str [107, 107, 107, 107, 107, 107, 107, 107, 107, 107, 107, 107, 107, 107, 107, 107, 107, 107, 107, 107, 107, 107, 107, 107, 107, 107, 107, 107, 107, 107, 107, 107, 107, 107]), .string (str [])] 29 :: Own 29 2 (some ax18) 1 c16 (sps [([97], [98])]) :: .blk g14 [.string (str [97]), .string (str [98])] 9 :: .blk g13 [.string (str [107, 107, 107, 107, 107, 107, 107, 107, 107, 107, 107, 107, 107, 107, 107, 107, 107, 107, 107, 107, 107, 107, 107, 107, 107, 107, 107, 107, 107, 107, 107, 107, 107, 107]), .string (str [])] 29 :: .blk g12 [.string (str [98]), .string (str [97])] 29 :: Own 29 2 A10 1001 c11 (sps (rep 1000) ++ [.string (str [97]), .string (str [98])]) :: Own 29 2 (some am) 1000 1000 (sps (rep 1000)) :: .blk g9 [.string (str [97]), .string (str [98])] 29 :: Own 29 2 A7 1001 c8 (sps (rep 1000) ++ [.string (str []), .string (str [])]) :: .blk g6 [.string (str []), .string (str [])] 29 :: Own 29 2 A4 1 c5 (sps [([97], [98])]) :: L) w := s
      refine ⟨_, rfl, ?_⟩; clear ha; intro a ha
      refine st_val (.tuple #[.slice A25 2 c26, .int .i64 0]) ha (by kernel_rfl) (by kernel_rfl) ?_
      clear ha; intro a ha
      refine st_val (.slice A25 2 c26) ha (by kernel_rfl) (by kernel_rfl) ?_
      clear ha; intro a ha
      refine st_val (.int .i64 0) ha (by kernel_rfl) (by kernel_rfl) ?_
      clear ha; intro a ha
      refine st_val (.slice A25 2 c26) ha (by kernel_rfl) (by kernel_rfl) ?_
      clear ha; intro a ha
      refine st_val (.int .i64 0) ha (by kernel_rfl) (by kernel_rfl) ?_
      clear ha; intro a ha
      refine wpList_nil ?_
      refine then_normal ?_
      refine wp_seq ?_
      refine wp_region_lit ?_
      refine st_ex ha (by kernel_rfl) (ex_buildSlice elt62 _ zs62 [.string (str []), .string (str [122])] s rfl (by kernel_rfl) (by decide)) ?_
      clear ha; rintro _ w a ⟨g27, rfl, s⟩ ha
      replace s : St W (.blk g27 [.string (str []), .string (str [122])] 9 :: Own 29 2 A25 2 c26 (sps [([97], [98]), ([98, 0], [99])]) :: Own 29 2 A23 1 c24 (sps [([98], [98, 0])]) :: .blk g22 [.string (str [98]), .string (str [98, 0])] 9 :: Own 29 2 A20 1 c21 (sps [([97], [99])]) :: .blk g19 [.string (str [97]), .string (str [99])] 9 :: .blk g17 [.string (str [107, 107, 107, 107, 107, 107, 107, 107, 107, 107, 107, 107, 107, 107, 107, 107, 107, 107, 107, 107, 107, 107, 107, 107, 107, 107, 107, 107, 107, 107, 107, 107, 107, 107]), .string (str [])] 29 :: Own 29 2 (some ax18) 1 c16 (sps [([97], [98])]) :: .blk g14 [.string (str [97]), .string (str [98])] 9 :: .blk g13 [.string (str [107, 107, 107, 107, 107, 107, 107, 107, 107, 107, 107, 107, 107, 107, 107, 107, 107, 107, 107, 107, 107, 107, 107, 107, 107, 107, 107, 107, 107, 107, 107, 107, 107, 107]), .string (str [])] 29 :: .blk g12 [.string (str [98]), .string (str [97])] 29 :: Own 29 2 A10 1001 c11 (sps (rep 1000) ++ [.string (str [97]), .string (str [98])]) :: Own 29 2 (some am) 1000 1000 (sps (rep 1000)) :: .blk g9 [.string (str [97]), .string (str [98])] 29 :: Own 29 2 A7 1001 c8 (sps (rep 1000) ++ [.string (str []), .string (str [])]) :: .blk g6 [.string (str []), .string (str [])] 29 :: Own 29 2 A4 1 c5 (sps [([97], [98])]) :: L) w := s
      refine st_call ha (by kernel_rfl) (by kernel_rfl) (list_ok W _ w (some ⟨g27, 0, none⟩) 2 2 [([], [122])] (Knows.blk (j := 0) (cs := sps [([], [122])]) rfl rfl) rfl (by omega) s) ?_
      rintro _ w ⟨A28, c29, rfl, s⟩
      replace s : St W (Own 29 2 A28 1 c29 (sps [([], [122])]) :: .blk g27 [.string (str []), .string (str [122])] 9 :: Own 29 2 A25 2 c26 (sps [([97], [98]), ([98, 0], [99])]) :: Own 29 2 A23 1 c24 (sps [([98], [98, 0])]) :: .blk g22 [.string (str [98]), .string (str [98, 0])] 9 :: Own 29 2 A20 1 c21 (sps [([97], [99])]) :: .blk g19 [.string (str [97]), .string (str [99])] 9 :: .blk g17 [.string (str [107, 107, 107, 107, 107, 107, 107, 107, 107, 107, 107, 107, 107, 107, 107, 107, 107, 107, 107, 107, 107, 107, 107, 107, 107, 107, 107, 107, 107, 107, 107, 107, 107, 107]), .string (str [])] 29 :: Own 29 2 (some ax18) 1 c16 (sps [([97], [98])]) :: .blk g14 [.string (str [97]), .string (str [98])] 9 :: .blk g13 [.string (str [107, 107, 107, 107, 107, 107, 107, 107, 107, 107, 107, 107, 107, 107, 107, 107, 107, 107, 107, 107, 107, 107, 107, 107, 107, 107, 107, 107, 107, 107, 107, 107, 107, 107]), .string (str [])] 29 :: .blk g12 [.string (str [98]), .string (str [97])] 29 :: Own 29 2 A10 1001 c11 (sps (rep 1000) ++ [.string (str [97]), .string (str [98])]) :: Own 29 2 (some am) 1000 1000 (sps (rep 1000)) :: .blk g9 [.string (str [97]), .string (str [98])] 29 :: Own 29 2 A7 1001 c8 (sps (rep 1000) ++ [.string (str []), .string (str [])]) :: .blk g6 [.string (str []), .string (str [])] 29 :: Own 29 2 A4 1 c5 (sps [([97], [98])]) :: L) w := s
      refine ⟨_, rfl, ?_⟩; clear ha; intro a ha
      refine st_call ha (by kernel_rfl) (by kernel_rfl) (both_ok W _ w A28 none 1 0 c29 0 [([], [122])] [] (Knows.own (j := 0) rfl) (Knows.reads_none _ _) rfl rfl (by decide) (by simp) (by omega) (by omega) s) ?_
      rintro _ w ⟨A30, c31, cl, rfl, hcan, hsm, hcl, s⟩
      obtain rfl := canon_n.unique hcan
      replace s : St W (Own 29 2 A30 0 c31 (sps []) :: Own 29 2 A28 1 c29 (sps [([], [122])]) :: .blk g27 [.string (str []), .string (str [122])] 9 :: Own 29 2 A25 2 c26 (sps [([97], [98]), ([98, 0], [99])]) :: Own 29 2 A23 1 c24 (sps [([98], [98, 0])]) :: .blk g22 [.string (str [98]), .string (str [98, 0])] 9 :: Own 29 2 A20 1 c21 (sps [([97], [99])]) :: .blk g19 [.string (str [97]), .string (str [99])] 9 :: .blk g17 [.string (str [107, 107, 107, 107, 107, 107, 107, 107, 107, 107, 107, 107, 107, 107, 107, 107, 107, 107, 107, 107, 107, 107, 107, 107, 107, 107, 107, 107, 107, 107, 107, 107, 107, 107]), .string (str [])] 29 :: Own 29 2 (some ax18) 1 c16 (sps [([97], [98])]) :: .blk g14 [.string (str [97]), .string (str [98])] 9 :: .blk g13 [.string (str [107, 107, 107, 107, 107, 107, 107, 107, 107, 107, 107, 107, 107, 107, 107, 107, 107, 107, 107, 107, 107, 107, 107, 107, 107, 107, 107, 107, 107, 107, 107, 107, 107, 107]), .string (str [])] 29 :: .blk g12 [.string (str [98]), .string (str [97])] 29 :: Own 29 2 A10 1001 c11 (sps (rep 1000) ++ [.string (str [97]), .string (str [98])]) :: Own 29 2 (some am) 1000 1000 (sps (rep 1000)) :: .blk g9 [.string (str [97]), .string (str [98])] 29 :: Own 29 2 A7 1001 c8 (sps (rep 1000) ++ [.string (str []), .string (str [])]) :: .blk g6 [.string (str []), .string (str [])] 29 :: Own 29 2 A4 1 c5 (sps [([97], [98])]) :: L) w := s
      refine ⟨_, rfl, ?_⟩; clear ha; intro a ha
      refine st_val (.tuple #[.slice A30 0 c31, .int .i64 0]) ha (by kernel_rfl) (by kernel_rfl) ?_
      clear ha; intro a ha
      refine st_val (.slice A30 0 c31) ha (by kernel_rfl) (by kernel_rfl) ?_
      clear ha; intro a ha
      refine st_val (.int .i64 0) ha (by kernel_rfl) (by kernel_rfl) ?_
      clear ha; intro a ha
      refine st_val (.slice A30 0 c31) ha (by kernel_rfl) (by kernel_rfl) ?_
      clear ha; intro a ha
      refine st_val (.int .i64 0) ha (by kernel_rfl) (by kernel_rfl) ?_
      clear ha; intro a ha
      refine wpList_nil ?_
      refine then_normal ?_
      refine wp_seq ?_
      refine wp_region_lit ?_
      refine st_val (.slice A4 1 c5) ha (by kernel_rfl) (by kernel_rfl) ?_
      clear ha; intro a ha
      refine st_val (.int .i64 0) ha (by kernel_rfl) (by kernel_rfl) ?_
      clear ha; intro a ha
      refine st_ex ha (by kernel_rfl) (ex_buildSlice elt62 _ zs62 [.string (str [97]), .string (str [98])] s rfl (by kernel_rfl) (by decide)) ?_
      clear ha; rintro _ w a ⟨g32, rfl, s⟩ ha
      replace s : St W (.blk g32 [.string (str [97]), .string (str [98])] 9 :: Own 29 2 A30 0 c31 (sps []) :: Own 29 2 A28 1 c29 (sps [([], [122])]) :: .blk g27 [.string (str []), .string (str [122])] 9 :: Own 29 2 A25 2 c26 (sps [([97], [98]), ([98, 0], [99])]) :: Own 29 2 A23 1 c24 (sps [([98], [98, 0])]) :: .blk g22 [.string (str [98]), .string (str [98, 0])] 9 :: Own 29 2 A20 1 c21 (sps [([97], [99])]) :: .blk g19 [.string (str [97]), .string (str [99])] 9 :: .blk g17 [.string (str [107, 107, 107, 107, 107, 107, 107, 107, 107, 107, 107, 107, 107, 107, 107, 107, 107, 107, 107, 107, 107, 107, 107, 107, 107, 107, 107, 107, 107, 107, 107, 107, 107, 107]), .string (str [])] 29 :: Own 29 2 (some ax18) 1 c16 (sps [([97], [98])]) :: .blk g14 [.string (str [97]), .string (str [98])] 9 :: .blk g13 [.string (str [107, 107, 107, 107, 107, 107, 107, 107, 107, 107, 107, 107, 107, 107, 107, 107, 107, 107, 107, 107, 107, 107, 107, 107, 107, 107, 107, 107, 107, 107, 107, 107, 107, 107]), .string (str [])] 29 :: .blk g12 [.string (str [98]), .string (str [97])] 29 :: Own 29 2 A10 1001 c11 (sps (rep 1000) ++ [.string (str [97]), .string (str [98])]) :: Own 29 2 (some am) 1000 1000 (sps (rep 1000)) :: .blk g9 [.string (str [97]), .string (str [98])] 29 :: Own 29 2 A7 1001 c8 (sps (rep 1000) ++ [.string (str []), .string (str [])]) :: .blk g6 [.string (str []), .string (str [])] 29 :: Own 29 2 A4 1 c5 (sps [([97], [98])]) :: L) w := s
      refine st_call ha (by kernel_rfl) (by kernel_rfl) (is_lit W _ w A4 (some ⟨g32, 0, none⟩) 1 2 c5 2 [([97], [98])] [([97], [98])] rfl (Knows.own (j := 19) rfl) (Knows.blk (j := 0) (cs := sps [([97], [98])]) rfl rfl) rfl rfl (by omega) (by omega) s) ?_
      rintro _ w ⟨rfl, s⟩
      replace s : St W (.blk g32 [.string (str [97]), .string (str [98])] 9 :: Own 29 2 A30 0 c31 (sps []) :: Own 29 2 A28 1 c29 (sps [([], [122])]) :: .blk g27 [.string (str []), .string (str [122])] 9 :: Own 29 2 A25 2 c26 (sps [([97], [98]), ([98, 0], [99])]) :: Own 29 2 A23 1 c24 (sps [([98], [98, 0])]) :: .blk g22 [.string (str [98]), .string (str [98, 0])] 9 :: Own 29 2 A20 1 c21 (sps [([97], [99])]) :: .blk g19 [.string (str [97]), .string (str [99])] 9 :: .blk g17 [.string (str [107, 107, 107, 107, 107, 107, 107, 107, 107, 107, 107, 107, 107, 107, 107, 107, 107, 107, 107, 107, 107, 107, 107, 107, 107, 107, 107, 107, 107, 107, 107, 107, 107, 107]), .string (str [])] 29 :: Own 29 2 (some ax18) 1 c16 (sps [([97], [98])]) :: .blk g14 [.string (str [97]), .string (str [98])] 9 :: .blk g13 [.string (str [107, 107, 107, 107, 107, 107, 107, 107, 107, 107, 107, 107, 107, 107, 107, 107, 107, 107, 107, 107, 107, 107, 107, 107, 107, 107, 107, 107, 107, 107, 107, 107, 107, 107]), .string (str [])] 29 :: .blk g12 [.string (str [98]), .string (str [97])] 29 :: Own 29 2 A10 1001 c11 (sps (rep 1000) ++ [.string (str [97]), .string (str [98])]) :: Own 29 2 (some am) 1000 1000 (sps (rep 1000)) :: .blk g9 [.string (str [97]), .string (str [98])] 29 :: Own 29 2 A7 1001 c8 (sps (rep 1000) ++ [.string (str []), .string (str [])]) :: .blk g6 [.string (str []), .string (str [])] 29 :: Own 29 2 A4 1 c5 (sps [([97], [98])]) :: L) w := s
      refine ⟨_, rfl, ?_⟩; clear ha; intro a ha
      refine st_val (.bool true) ha (by kernel_rfl) (by kernel_rfl) ?_
      clear ha; intro a ha
      refine st_val (.int .i64 5) ha (by kernel_rfl) (by kernel_rfl) ?_
      clear ha; intro a ha
      refine st_val (.bool true) ha (by kernel_rfl) (by kernel_rfl) ?_
      clear ha; intro a ha
      refine st_val (.bool true) ha (by kernel_rfl) (by kernel_rfl) ?_
      clear ha; intro a ha
      refine st_val (.bool true) ha (by kernel_rfl) (by kernel_rfl) ?_
      clear ha; intro a ha
      refine st_val (.int .i64 5) ha (by kernel_rfl) (by kernel_rfl) ?_
      clear ha; intro a ha
      refine st_val (.bool true) ha (by kernel_rfl) (by kernel_rfl) ?_
      clear ha; intro a ha
      refine st_val (.bool true) ha (by kernel_rfl) (by kernel_rfl) ?_
      clear ha; intro a ha
      refine st_val (.bool true) ha (by kernel_rfl) (by kernel_rfl) ?_
      clear ha; intro a ha
      refine st_val (.int .i64 2) ha (by kernel_rfl) (by kernel_rfl) ?_
      clear ha; intro a ha
      refine st_val (.bool true) ha (by kernel_rfl) (by kernel_rfl) ?_
      clear ha; intro a ha
      refine st_val (.bool true) ha (by kernel_rfl) (by kernel_rfl) ?_
      clear ha; intro a ha
      refine st_val (.bool true) ha (by kernel_rfl) (by kernel_rfl) ?_
      clear ha; intro a ha
      refine st_val (.int .i64 5) ha (by kernel_rfl) (by kernel_rfl) ?_
      clear ha; intro a ha
      refine st_val (.bool true) ha (by kernel_rfl) (by kernel_rfl) ?_
      clear ha; intro a ha
      refine st_val (.bool true) ha (by kernel_rfl) (by kernel_rfl) ?_
      clear ha; intro a ha
      refine st_val (.bool true) ha (by kernel_rfl) (by kernel_rfl) ?_
      clear ha; intro a ha
      refine st_val (.slice A25 2 c26) ha (by kernel_rfl) (by kernel_rfl) ?_
      clear ha; intro a ha
      refine st_val (.int .i64 0) ha (by kernel_rfl) (by kernel_rfl) ?_
      clear ha; intro a ha
      refine st_ex ha (by kernel_rfl) (ex_buildSlice elt62 _ zs62 [.string (str [97]), .string (str [98]), .string (str [98, 0]), .string (str [99])] s rfl (by kernel_rfl) (by decide)) ?_
      clear ha; rintro _ w a ⟨g33, rfl, s⟩ ha
      replace s : St W (.blk g33 [.string (str [97]), .string (str [98]), .string (str [98, 0]), .string (str [99])] 9 :: .blk g32 [.string (str [97]), .string (str [98])] 9 :: Own 29 2 A30 0 c31 (sps []) :: Own 29 2 A28 1 c29 (sps [([], [122])]) :: .blk g27 [.string (str []), .string (str [122])] 9 :: Own 29 2 A25 2 c26 (sps [([97], [98]), ([98, 0], [99])]) :: Own 29 2 A23 1 c24 (sps [([98], [98, 0])]) :: .blk g22 [.string (str [98]), .string (str [98, 0])] 9 :: Own 29 2 A20 1 c21 (sps [([97], [99])]) :: .blk g19 [.string (str [97]), .string (str [99])] 9 :: .blk g17 [.string (str [107, 107, 107, 107, 107, 107, 107, 107, 107, 107, 107, 107, 107, 107, 107, 107, 107, 107, 107, 107, 107, 107, 107, 107, 107, 107, 107, 107, 107, 107, 107, 107, 107, 107]), .string (str [])] 29 :: Own 29 2 (some ax18) 1 c16 (sps [([97], [98])]) :: .blk g14 [.string (str [97]), .string (str [98])] 9 :: .blk g13 [.string (str [107, 107, 107, 107, 107, 107, 107, 107, 107, 107, 107, 107, 107, 107, 107, 107, 107, 107, 107, 107, 107, 107, 107, 107, 107, 107, 107, 107, 107, 107, 107, 107, 107, 107]), .string (str [])] 29 :: .blk g12 [.string (str [98]), .string (str [97])] 29 :: Own 29 2 A10 1001 c11 (sps (rep 1000) ++ [.string (str [97]), .string (str [98])]) :: Own 29 2 (some am) 1000 1000 (sps (rep 1000)) :: .blk g9 [.string (str [97]), .string (str [98])] 29 :: Own 29 2 A7 1001 c8 (sps (rep 1000) ++ [.string (str []), .string (str [])]) :: .blk g6 [.string (str []), .string (str [])] 29 :: Own 29 2 A4 1 c5 (sps [([97], [98])]) :: L) w := s
      refine st_call ha (by kernel_rfl) (by kernel_rfl) (is_lit W _ w A25 (some ⟨g33, 0, none⟩) 2 4 c26 4 [([97], [98]), ([98, 0], [99])] [([97], [98]), ([98, 0], [99])] rfl (Knows.own (j := 5) rfl) (Knows.blk (j := 0) (cs := sps [([97], [98]), ([98, 0], [99])]) rfl rfl) rfl rfl (by omega) (by omega) s) ?_
      rintro _ w ⟨rfl, s⟩
      replace s : St W (.blk g33 [.string (str [97]), .string (str [98]), .string (str [98, 0]), .string (str [99])] 9 :: .blk g32 [.string (str [97]), .string (str [98])] 9 :: Own 29 2 A30 0 c31 (sps []) :: Own 29 2 A28 1 c29 (sps [([], [122])]) :: .blk g27 [.string (str []), .string (str [122])] 9 :: Own 29 2 A25 2 c26 (sps [([97], [98]), ([98, 0], [99])]) :: Own 29 2 A23 1 c24 (sps [([98], [98, 0])]) :: .blk g22 [.string (str [98]), .string (str [98, 0])] 9 :: Own 29 2 A20 1 c21 (sps [([97], [99])]) :: .blk g19 [.string (str [97]), .string (str [99])] 9 :: .blk g17 [.string (str [107, 107, 107, 107, 107, 107, 107, 107, 107, 107, 107, 107, 107, 107, 107, 107, 107, 107, 107, 107, 107, 107, 107, 107, 107, 107, 107, 107, 107, 107, 107, 107, 107, 107]), .string (str [])] 29 :: Own 29 2 (some ax18) 1 c16 (sps [([97], [98])]) :: .blk g14 [.string (str [97]), .string (str [98])] 9 :: .blk g13 [.string (str [107, 107, 107, 107, 107, 107, 107, 107, 107, 107, 107, 107, 107, 107, 107, 107, 107, 107, 107, 107, 107, 107, 107, 107, 107, 107, 107, 107, 107, 107, 107, 107, 107, 107]), .string (str [])] 29 :: .blk g12 [.string (str [98]), .string (str [97])] 29 :: Own 29 2 A10 1001 c11 (sps (rep 1000) ++ [.string (str [97]), .string (str [98])]) :: Own 29 2 (some am) 1000 1000 (sps (rep 1000)) :: .blk g9 [.string (str [97]), .string (str [98])] 29 :: Own 29 2 A7 1001 c8 (sps (rep 1000) ++ [.string (str []), .string (str [])]) :: .blk g6 [.string (str []), .string (str [])] 29 :: Own 29 2 A4 1 c5 (sps [([97], [98])]) :: L) w := s
      refine ⟨_, rfl, ?_⟩; clear ha; intro a ha
      refine st_val (.bool true) ha (by kernel_rfl) (by kernel_rfl) ?_
      clear ha; intro a ha
      refine st_val (.bool true) ha (by kernel_rfl) (by kernel_rfl) ?_
      clear ha; intro a ha
      refine st_val (.slice A30 0 c31) ha (by kernel_rfl) (by kernel_rfl) ?_
      clear ha; intro a ha
      refine st_val (.int .i64 0) ha (by kernel_rfl) (by kernel_rfl) ?_
      clear ha; intro a ha
      refine st_call ha (by kernel_rfl) (by kernel_rfl) (is_lit W _ w A30 none 0 0 c31 0 [] [] rfl (Knows.own (j := 2) rfl) (Knows.reads_none _ _) rfl rfl (by omega) (by omega) s) ?_
      rintro _ w ⟨rfl, s⟩
      replace s : St W (.blk g33 [.string (str [97]), .string (str [98]), .string (str [98, 0]), .string (str [99])] 9 :: .blk g32 [.string (str [97]), .string (str [98])] 9 :: Own 29 2 A30 0 c31 (sps []) :: Own 29 2 A28 1 c29 (sps [([], [122])]) :: .blk g27 [.string (str []), .string (str [122])] 9 :: Own 29 2 A25 2 c26 (sps [([97], [98]), ([98, 0], [99])]) :: Own 29 2 A23 1 c24 (sps [([98], [98, 0])]) :: .blk g22 [.string (str [98]), .string (str [98, 0])] 9 :: Own 29 2 A20 1 c21 (sps [([97], [99])]) :: .blk g19 [.string (str [97]), .string (str [99])] 9 :: .blk g17 [.string (str [107, 107, 107, 107, 107, 107, 107, 107, 107, 107, 107, 107, 107, 107, 107, 107, 107, 107, 107, 107, 107, 107, 107, 107, 107, 107, 107, 107, 107, 107, 107, 107, 107, 107]), .string (str [])] 29 :: Own 29 2 (some ax18) 1 c16 (sps [([97], [98])]) :: .blk g14 [.string (str [97]), .string (str [98])] 9 :: .blk g13 [.string (str [107, 107, 107, 107, 107, 107, 107, 107, 107, 107, 107, 107, 107, 107, 107, 107, 107, 107, 107, 107, 107, 107, 107, 107, 107, 107, 107, 107, 107, 107, 107, 107, 107, 107]), .string (str [])] 29 :: .blk g12 [.string (str [98]), .string (str [97])] 29 :: Own 29 2 A10 1001 c11 (sps (rep 1000) ++ [.string (str [97]), .string (str [98])]) :: Own 29 2 (some am) 1000 1000 (sps (rep 1000)) :: .blk g9 [.string (str [97]), .string (str [98])] 29 :: Own 29 2 A7 1001 c8 (sps (rep 1000) ++ [.string (str []), .string (str [])]) :: .blk g6 [.string (str []), .string (str [])] 29 :: Own 29 2 A4 1 c5 (sps [([97], [98])]) :: L) w := s
      refine ⟨_, rfl, ?_⟩; clear ha; intro a ha
      refine st_val (.bool true) ha (by kernel_rfl) (by kernel_rfl) ?_
      clear ha; intro a ha
      refine st_val (.bool true) ha (by kernel_rfl) (by kernel_rfl) ?_
      clear ha; intro a ha
      refine wpList_nil ?_
      refine then_normal ?_
      refine wp_seq ?_
      refine wp_region_lit ?_
      refine st_val (.agg #[.string (str [99]), .string (str [97])]) ha (by kernel_rfl) (by kernel_rfl) ?_
      clear ha; intro a ha
      refine st_val (.agg #[.string (str [97]), .string (str [100])]) ha (by kernel_rfl) (by kernel_rfl) ?_
      clear ha; intro a ha
      refine st_call ha (by kernel_rfl) (by kernel_rfl) (meets_lit W _ w ([99], [97]) ([97], [100]) false (by decide) s) ?_
      rintro _ w ⟨rfl, s⟩
      replace s : St W (.blk g33 [.string (str [97]), .string (str [98]), .string (str [98, 0]), .string (str [99])] 9 :: .blk g32 [.string (str [97]), .string (str [98])] 9 :: Own 29 2 A30 0 c31 (sps []) :: Own 29 2 A28 1 c29 (sps [([], [122])]) :: .blk g27 [.string (str []), .string (str [122])] 9 :: Own 29 2 A25 2 c26 (sps [([97], [98]), ([98, 0], [99])]) :: Own 29 2 A23 1 c24 (sps [([98], [98, 0])]) :: .blk g22 [.string (str [98]), .string (str [98, 0])] 9 :: Own 29 2 A20 1 c21 (sps [([97], [99])]) :: .blk g19 [.string (str [97]), .string (str [99])] 9 :: .blk g17 [.string (str [107, 107, 107, 107, 107, 107, 107, 107, 107, 107, 107, 107, 107, 107, 107, 107, 107, 107, 107, 107, 107, 107, 107, 107, 107, 107, 107, 107, 107, 107, 107, 107, 107, 107]), .string (str [])] 29 :: Own 29 2 (some ax18) 1 c16 (sps [([97], [98])]) :: .blk g14 [.string (str [97]), .string (str [98])] 9 :: .blk g13 [.string (str [107, 107, 107, 107, 107, 107, 107, 107, 107, 107, 107, 107, 107, 107, 107, 107, 107, 107, 107, 107, 107, 107, 107, 107, 107, 107, 107, 107, 107, 107, 107, 107, 107, 107]), .string (str [])] 29 :: .blk g12 [.string (str [98]), .string (str [97])] 29 :: Own 29 2 A10 1001 c11 (sps (rep 1000) ++ [.string (str [97]), .string (str [98])]) :: Own 29 2 (some am) 1000 1000 (sps (rep 1000)) :: .blk g9 [.string (str [97]), .string (str [98])] 29 :: Own 29 2 A7 1001 c8 (sps (rep 1000) ++ [.string (str []), .string (str [])]) :: .blk g6 [.string (str []), .string (str [])] 29 :: Own 29 2 A4 1 c5 (sps [([97], [98])]) :: L) w := s
      refine ⟨_, rfl, ?_⟩; clear ha; intro a ha
      refine st_val (.bool true) ha (by kernel_rfl) (by kernel_rfl) ?_
      clear ha; intro a ha
      refine st_val (.bool true) ha (by kernel_rfl) (by kernel_rfl) ?_
      clear ha; intro a ha
      refine st_val (.agg #[.string (str [99]), .string (str [97])]) ha (by kernel_rfl) (by kernel_rfl) ?_
      clear ha; intro a ha
      refine st_call ha (by kernel_rfl) (by kernel_rfl) (has_lit W _ w ([99], [97]) [98] false (by decide) s) ?_
      rintro _ w ⟨rfl, s⟩
      replace s : St W (.blk g33 [.string (str [97]), .string (str [98]), .string (str [98, 0]), .string (str [99])] 9 :: .blk g32 [.string (str [97]), .string (str [98])] 9 :: Own 29 2 A30 0 c31 (sps []) :: Own 29 2 A28 1 c29 (sps [([], [122])]) :: .blk g27 [.string (str []), .string (str [122])] 9 :: Own 29 2 A25 2 c26 (sps [([97], [98]), ([98, 0], [99])]) :: Own 29 2 A23 1 c24 (sps [([98], [98, 0])]) :: .blk g22 [.string (str [98]), .string (str [98, 0])] 9 :: Own 29 2 A20 1 c21 (sps [([97], [99])]) :: .blk g19 [.string (str [97]), .string (str [99])] 9 :: .blk g17 [.string (str [107, 107, 107, 107, 107, 107, 107, 107, 107, 107, 107, 107, 107, 107, 107, 107, 107, 107, 107, 107, 107, 107, 107, 107, 107, 107, 107, 107, 107, 107, 107, 107, 107, 107]), .string (str [])] 29 :: Own 29 2 (some ax18) 1 c16 (sps [([97], [98])]) :: .blk g14 [.string (str [97]), .string (str [98])] 9 :: .blk g13 [.string (str [107, 107, 107, 107, 107, 107, 107, 107, 107, 107, 107, 107, 107, 107, 107, 107, 107, 107, 107, 107, 107, 107, 107, 107, 107, 107, 107, 107, 107, 107, 107, 107, 107, 107]), .string (str [])] 29 :: .blk g12 [.string (str [98]), .string (str [97])] 29 :: Own 29 2 A10 1001 c11 (sps (rep 1000) ++ [.string (str [97]), .string (str [98])]) :: Own 29 2 (some am) 1000 1000 (sps (rep 1000)) :: .blk g9 [.string (str [97]), .string (str [98])] 29 :: Own 29 2 A7 1001 c8 (sps (rep 1000) ++ [.string (str []), .string (str [])]) :: .blk g6 [.string (str []), .string (str [])] 29 :: Own 29 2 A4 1 c5 (sps [([97], [98])]) :: L) w := s
      refine ⟨_, rfl, ?_⟩; clear ha; intro a ha
      refine st_val (.bool true) ha (by kernel_rfl) (by kernel_rfl) ?_
      clear ha; intro a ha
      refine st_val (.bool true) ha (by kernel_rfl) (by kernel_rfl) ?_
      clear ha; intro a ha
      refine st_val (.bool true) ha (by kernel_rfl) (by kernel_rfl) ?_
      clear ha; intro a ha
      refine st_val (.agg #[.string (str []), .string (str [])]) ha (by kernel_rfl) (by kernel_rfl) ?_
      clear ha; intro a ha
      refine st_val (.agg #[.string (str []), .string (str [122])]) ha (by kernel_rfl) (by kernel_rfl) ?_
      clear ha; intro a ha
      refine st_call ha (by kernel_rfl) (by kernel_rfl) (meets_lit W _ w ([], []) ([], [122]) false (by decide) s) ?_
      rintro _ w ⟨rfl, s⟩
      replace s : St W (.blk g33 [.string (str [97]), .string (str [98]), .string (str [98, 0]), .string (str [99])] 9 :: .blk g32 [.string (str [97]), .string (str [98])] 9 :: Own 29 2 A30 0 c31 (sps []) :: Own 29 2 A28 1 c29 (sps [([], [122])]) :: .blk g27 [.string (str []), .string (str [122])] 9 :: Own 29 2 A25 2 c26 (sps [([97], [98]), ([98, 0], [99])]) :: Own 29 2 A23 1 c24 (sps [([98], [98, 0])]) :: .blk g22 [.string (str [98]), .string (str [98, 0])] 9 :: Own 29 2 A20 1 c21 (sps [([97], [99])]) :: .blk g19 [.string (str [97]), .string (str [99])] 9 :: .blk g17 [.string (str [107, 107, 107, 107, 107, 107, 107, 107, 107, 107, 107, 107, 107, 107, 107, 107, 107, 107, 107, 107, 107, 107, 107, 107, 107, 107, 107, 107, 107, 107, 107, 107, 107, 107]), .string (str [])] 29 :: Own 29 2 (some ax18) 1 c16 (sps [([97], [98])]) :: .blk g14 [.string (str [97]), .string (str [98])] 9 :: .blk g13 [.string (str [107, 107, 107, 107, 107, 107, 107, 107, 107, 107, 107, 107, 107, 107, 107, 107, 107, 107, 107, 107, 107, 107, 107, 107, 107, 107, 107, 107, 107, 107, 107, 107, 107, 107]), .string (str [])] 29 :: .blk g12 [.string (str [98]), .string (str [97])] 29 :: Own 29 2 A10 1001 c11 (sps (rep 1000) ++ [.string (str [97]), .string (str [98])]) :: Own 29 2 (some am) 1000 1000 (sps (rep 1000)) :: .blk g9 [.string (str [97]), .string (str [98])] 29 :: Own 29 2 A7 1001 c8 (sps (rep 1000) ++ [.string (str []), .string (str [])]) :: .blk g6 [.string (str []), .string (str [])] 29 :: Own 29 2 A4 1 c5 (sps [([97], [98])]) :: L) w := s
      refine ⟨_, rfl, ?_⟩; clear ha; intro a ha
      refine st_val (.bool true) ha (by kernel_rfl) (by kernel_rfl) ?_
      clear ha; intro a ha
      refine st_val (.bool true) ha (by kernel_rfl) (by kernel_rfl) ?_
      clear ha; intro a ha
      refine st_val (.bool true) ha (by kernel_rfl) (by kernel_rfl) ?_
      clear ha; intro a ha
      refine st_call ha (by kernel_rfl) (by kernel_rfl) (in_lit W _ w none 0 0 [] [97] false (by decide) (Knows.reads_none _ _) rfl (by omega) s) ?_
      rintro _ w ⟨rfl, s⟩
      replace s : St W (.blk g33 [.string (str [97]), .string (str [98]), .string (str [98, 0]), .string (str [99])] 9 :: .blk g32 [.string (str [97]), .string (str [98])] 9 :: Own 29 2 A30 0 c31 (sps []) :: Own 29 2 A28 1 c29 (sps [([], [122])]) :: .blk g27 [.string (str []), .string (str [122])] 9 :: Own 29 2 A25 2 c26 (sps [([97], [98]), ([98, 0], [99])]) :: Own 29 2 A23 1 c24 (sps [([98], [98, 0])]) :: .blk g22 [.string (str [98]), .string (str [98, 0])] 9 :: Own 29 2 A20 1 c21 (sps [([97], [99])]) :: .blk g19 [.string (str [97]), .string (str [99])] 9 :: .blk g17 [.string (str [107, 107, 107, 107, 107, 107, 107, 107, 107, 107, 107, 107, 107, 107, 107, 107, 107, 107, 107, 107, 107, 107, 107, 107, 107, 107, 107, 107, 107, 107, 107, 107, 107, 107]), .string (str [])] 29 :: Own 29 2 (some ax18) 1 c16 (sps [([97], [98])]) :: .blk g14 [.string (str [97]), .string (str [98])] 9 :: .blk g13 [.string (str [107, 107, 107, 107, 107, 107, 107, 107, 107, 107, 107, 107, 107, 107, 107, 107, 107, 107, 107, 107, 107, 107, 107, 107, 107, 107, 107, 107, 107, 107, 107, 107, 107, 107]), .string (str [])] 29 :: .blk g12 [.string (str [98]), .string (str [97])] 29 :: Own 29 2 A10 1001 c11 (sps (rep 1000) ++ [.string (str [97]), .string (str [98])]) :: Own 29 2 (some am) 1000 1000 (sps (rep 1000)) :: .blk g9 [.string (str [97]), .string (str [98])] 29 :: Own 29 2 A7 1001 c8 (sps (rep 1000) ++ [.string (str []), .string (str [])]) :: .blk g6 [.string (str []), .string (str [])] 29 :: Own 29 2 A4 1 c5 (sps [([97], [98])]) :: L) w := s
      refine ⟨_, rfl, ?_⟩; clear ha; intro a ha
      refine st_val (.bool true) ha (by kernel_rfl) (by kernel_rfl) ?_
      clear ha; intro a ha
      refine st_val (.bool true) ha (by kernel_rfl) (by kernel_rfl) ?_
      clear ha; intro a ha
      refine st_val (.bool true) ha (by kernel_rfl) (by kernel_rfl) ?_
      clear ha; intro a ha
      refine st_val (.agg #[.string (str [99]), .string (str [97])]) ha (by kernel_rfl) (by kernel_rfl) ?_
      clear ha; intro a ha
      refine st_val (.agg #[.string (str []), .string (str [98])]) ha (by kernel_rfl) (by kernel_rfl) ?_
      clear ha; intro a ha
      refine st_ex ha (by kernel_rfl) (ex_buildSlice elt22 _ zs22 [.string (str [99]), .string (str [97]), .string (str []), .string (str [98])] s rfl (by kernel_rfl) (by decide)) ?_
      clear ha; rintro _ w a ⟨g34, rfl, s⟩ ha
      replace s : St W (.blk g34 [.string (str [99]), .string (str [97]), .string (str []), .string (str [98])] 29 :: .blk g33 [.string (str [97]), .string (str [98]), .string (str [98, 0]), .string (str [99])] 9 :: .blk g32 [.string (str [97]), .string (str [98])] 9 :: Own 29 2 A30 0 c31 (sps []) :: Own 29 2 A28 1 c29 (sps [([], [122])]) :: .blk g27 [.string (str []), .string (str [122])] 9 :: Own 29 2 A25 2 c26 (sps [([97], [98]), ([98, 0], [99])]) :: Own 29 2 A23 1 c24 (sps [([98], [98, 0])]) :: .blk g22 [.string (str [98]), .string (str [98, 0])] 9 :: Own 29 2 A20 1 c21 (sps [([97], [99])]) :: .blk g19 [.string (str [97]), .string (str [99])] 9 :: .blk g17 [.string (str [107, 107, 107, 107, 107, 107, 107, 107, 107, 107, 107, 107, 107, 107, 107, 107, 107, 107, 107, 107, 107, 107, 107, 107, 107, 107, 107, 107, 107, 107, 107, 107, 107, 107]), .string (str [])] 29 :: Own 29 2 (some ax18) 1 c16 (sps [([97], [98])]) :: .blk g14 [.string (str [97]), .string (str [98])] 9 :: .blk g13 [.string (str [107, 107, 107, 107, 107, 107, 107, 107, 107, 107, 107, 107, 107, 107, 107, 107, 107, 107, 107, 107, 107, 107, 107, 107, 107, 107, 107, 107, 107, 107, 107, 107, 107, 107]), .string (str [])] 29 :: .blk g12 [.string (str [98]), .string (str [97])] 29 :: Own 29 2 A10 1001 c11 (sps (rep 1000) ++ [.string (str [97]), .string (str [98])]) :: Own 29 2 (some am) 1000 1000 (sps (rep 1000)) :: .blk g9 [.string (str [97]), .string (str [98])] 29 :: Own 29 2 A7 1001 c8 (sps (rep 1000) ++ [.string (str []), .string (str [])]) :: .blk g6 [.string (str []), .string (str [])] 29 :: Own 29 2 A4 1 c5 (sps [([97], [98])]) :: L) w := s
      refine st_call ha (by kernel_rfl) (by kernel_rfl) (in_lit W _ w (some ⟨g34, 0, none⟩) 2 2 [([99], [97]), ([], [98])] [97] true (by decide) (Knows.blk (j := 0) (cs := sps [([99], [97]), ([], [98])]) rfl rfl) rfl (by omega) s) ?_
      rintro _ w ⟨rfl, s⟩
      replace s : St W (.blk g34 [.string (str [99]), .string (str [97]), .string (str []), .string (str [98])] 29 :: .blk g33 [.string (str [97]), .string (str [98]), .string (str [98, 0]), .string (str [99])] 9 :: .blk g32 [.string (str [97]), .string (str [98])] 9 :: Own 29 2 A30 0 c31 (sps []) :: Own 29 2 A28 1 c29 (sps [([], [122])]) :: .blk g27 [.string (str []), .string (str [122])] 9 :: Own 29 2 A25 2 c26 (sps [([97], [98]), ([98, 0], [99])]) :: Own 29 2 A23 1 c24 (sps [([98], [98, 0])]) :: .blk g22 [.string (str [98]), .string (str [98, 0])] 9 :: Own 29 2 A20 1 c21 (sps [([97], [99])]) :: .blk g19 [.string (str [97]), .string (str [99])] 9 :: .blk g17 [.string (str [107, 107, 107, 107, 107, 107, 107, 107, 107, 107, 107, 107, 107, 107, 107, 107, 107, 107, 107, 107, 107, 107, 107, 107, 107, 107, 107, 107, 107, 107, 107, 107, 107, 107]), .string (str [])] 29 :: Own 29 2 (some ax18) 1 c16 (sps [([97], [98])]) :: .blk g14 [.string (str [97]), .string (str [98])] 9 :: .blk g13 [.string (str [107, 107, 107, 107, 107, 107, 107, 107, 107, 107, 107, 107, 107, 107, 107, 107, 107, 107, 107, 107, 107, 107, 107, 107, 107, 107, 107, 107, 107, 107, 107, 107, 107, 107]), .string (str [])] 29 :: .blk g12 [.string (str [98]), .string (str [97])] 29 :: Own 29 2 A10 1001 c11 (sps (rep 1000) ++ [.string (str [97]), .string (str [98])]) :: Own 29 2 (some am) 1000 1000 (sps (rep 1000)) :: .blk g9 [.string (str [97]), .string (str [98])] 29 :: Own 29 2 A7 1001 c8 (sps (rep 1000) ++ [.string (str []), .string (str [])]) :: .blk g6 [.string (str []), .string (str [])] 29 :: Own 29 2 A4 1 c5 (sps [([97], [98])]) :: L) w := s
      refine ⟨_, rfl, ?_⟩; clear ha; intro a ha
      refine st_val (.bool true) ha (by kernel_rfl) (by kernel_rfl) ?_
      clear ha; intro a ha
      refine st_val (.bool true) ha (by kernel_rfl) (by kernel_rfl) ?_
      clear ha; intro a ha
      refine wpList_nil ?_
      refine then_normal ?_
      refine wp_seq ?_
      refine wp_region_lit ?_
      refine st_val (.bool true) ha (by kernel_rfl) (by kernel_rfl) ?_
      clear ha; intro a ha
      refine st_call ha (by kernel_rfl) (by kernel_rfl) (works_true W _ w s) ?_
      rintro _ w ⟨rfl, s⟩
      replace s : St W (.blk g34 [.string (str [99]), .string (str [97]), .string (str []), .string (str [98])] 29 :: .blk g33 [.string (str [97]), .string (str [98]), .string (str [98, 0]), .string (str [99])] 9 :: .blk g32 [.string (str [97]), .string (str [98])] 9 :: Own 29 2 A30 0 c31 (sps []) :: Own 29 2 A28 1 c29 (sps [([], [122])]) :: .blk g27 [.string (str []), .string (str [122])] 9 :: Own 29 2 A25 2 c26 (sps [([97], [98]), ([98, 0], [99])]) :: Own 29 2 A23 1 c24 (sps [([98], [98, 0])]) :: .blk g22 [.string (str [98]), .string (str [98, 0])] 9 :: Own 29 2 A20 1 c21 (sps [([97], [99])]) :: .blk g19 [.string (str [97]), .string (str [99])] 9 :: .blk g17 [.string (str [107, 107, 107, 107, 107, 107, 107, 107, 107, 107, 107, 107, 107, 107, 107, 107, 107, 107, 107, 107, 107, 107, 107, 107, 107, 107, 107, 107, 107, 107, 107, 107, 107, 107]), .string (str [])] 29 :: Own 29 2 (some ax18) 1 c16 (sps [([97], [98])]) :: .blk g14 [.string (str [97]), .string (str [98])] 9 :: .blk g13 [.string (str [107, 107, 107, 107, 107, 107, 107, 107, 107, 107, 107, 107, 107, 107, 107, 107, 107, 107, 107, 107, 107, 107, 107, 107, 107, 107, 107, 107, 107, 107, 107, 107, 107, 107]), .string (str [])] 29 :: .blk g12 [.string (str [98]), .string (str [97])] 29 :: Own 29 2 A10 1001 c11 (sps (rep 1000) ++ [.string (str [97]), .string (str [98])]) :: Own 29 2 (some am) 1000 1000 (sps (rep 1000)) :: .blk g9 [.string (str [97]), .string (str [98])] 29 :: Own 29 2 A7 1001 c8 (sps (rep 1000) ++ [.string (str []), .string (str [])]) :: .blk g6 [.string (str []), .string (str [])] 29 :: Own 29 2 A4 1 c5 (sps [([97], [98])]) :: L) w := s
      refine ⟨_, rfl, ?_⟩; clear ha; intro a ha
      refine st_val (.bool true) ha (by kernel_rfl) (by kernel_rfl) ?_
      clear ha; intro a ha
      refine st_val (.bool true) ha (by kernel_rfl) (by kernel_rfl) ?_
      clear ha; intro a ha
      refine st_val (.bool true) ha (by kernel_rfl) (by kernel_rfl) ?_
      clear ha; intro a ha
      refine st_val (.bool true) ha (by kernel_rfl) (by kernel_rfl) ?_
      clear ha; intro a ha
      refine st_val (.bool true) ha (by kernel_rfl) (by kernel_rfl) ?_
      clear ha; intro a ha
      refine st_val (.bool true) ha (by kernel_rfl) (by kernel_rfl) ?_
      clear ha; intro a ha
      refine st_val (.bool true) ha (by kernel_rfl) (by kernel_rfl) ?_
      clear ha; intro a ha
      refine st_val (.bool true) ha (by kernel_rfl) (by kernel_rfl) ?_
      clear ha; intro a ha
      refine st_val (.bool true) ha (by kernel_rfl) (by kernel_rfl) ?_
      clear ha; intro a ha
      refine st_val (.bool true) ha (by kernel_rfl) (by kernel_rfl) ?_
      clear ha; intro a ha
      refine st_val (.bool true) ha (by kernel_rfl) (by kernel_rfl) ?_
      clear ha; intro a ha
      refine wpList_nil ?_
      refine then_normal ?_
      refine wp_ret ?_
      refine ret_with (v := .bool true) ha (results_1 rfl ha (res_tmp (by kernel_rfl) (by kernel_rfl))) ?_
      replace s := s.tail.tail.tail.tail.tail.tail.tail.tail.tail.tail.tail.tail.tail.tail.tail.tail.tail.tail.tail.tail.tail.tail
      replace s : St W (L) w := s
      exact ⟨rfl, s⟩

end Go.Proofs.Ytcnlidaacgcdhaa.B

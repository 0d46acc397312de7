import Derived.Test.YtidfniglnmfphaaDoorB12
/-
  A transaction reads what it did itself: plain.
-/
namespace Go.Proofs.YtidfniglnmfphaaDoor.P
open Go.Proofs.YtidfniglnmfphaaDoor.B
set_option linter.unusedVariables false
theorem lookR_put (R : List Rw) (r : Rw) (k : K) : lookR (put R r) k = if k = r.key then some r.val else lookR R k := by
  induction R with
  | nil =>
    unfold put lookR
    by_cases h : k = r.key
    · rw [if_pos h]; simp [h]
    · rw [if_neg h]; simp [Ne.symm h]
  | cons x R ih =>
    unfold put
    by_cases h1 : x.key < r.key
    · rw [if_pos h1]
      unfold lookR at ih ⊢
      by_cases h2 : x.key = k
      · rw [if_neg (by intro e; rw [← e, h2] at h1; exact klt_irrefl _ h1)]; simp [h2]
      · rw [List.find?_cons_of_neg (by simpa using h2), ih]
        by_cases h3 : k = r.key
        · rw [if_pos h3, if_pos h3]
        · rw [if_neg h3, if_neg h3, List.find?_cons_of_neg (by simpa using h2)]
    · rw [if_neg h1]
      by_cases h2 : x.key = r.key
      · rw [if_pos h2]
        unfold lookR
        by_cases h3 : k = r.key
        · rw [if_pos h3]; simp [h3]
        · rw [if_neg h3, List.find?_cons_of_neg (by simpa using Ne.symm h3), List.find?_cons_of_neg (by rw [h2]; simpa using Ne.symm h3)]
      · rw [if_neg h2]
        unfold lookR
        by_cases h3 : k = r.key
        · rw [if_pos h3]; simp [h3]
        · rw [if_neg h3, List.find?_cons_of_neg (by simpa using Ne.symm h3)]
theorem lookR_drop (R : List Rw) (k0 k : K) : lookR (drop1 R k0) k = if k = k0 then none else lookR R k := by
  induction R with
  | nil => unfold drop1 lookR; split <;> rfl
  | cons x R ih =>
    unfold drop1 lookR at ih ⊢
    by_cases h1 : x.key = k0
    · rw [List.filter_cons_of_neg (by simpa using h1), ih]
      by_cases h2 : k = k0
      · rw [if_pos h2, if_pos h2]
      · rw [if_neg h2, if_neg h2, List.find?_cons_of_neg (by rw [h1]; simpa using Ne.symm h2)]
    · rw [List.filter_cons_of_pos (by simpa using h1)]
      by_cases h3 : x.key = k
      · rw [if_neg (by intro e; exact h1 (h3.trans e))]; simp [h3]
      · rw [List.find?_cons_of_neg (by simpa using h3), ih]
        by_cases h2 : k = k0
        · rw [if_pos h2, if_pos h2]
        · rw [if_neg h2, if_neg h2, List.find?_cons_of_neg (by simpa using h3)]
/-- Are all answers right, one behind the other? What is left? -/
def wells : List Rw → List Td → Bool
  | _, [] => true
  | R, d :: l => isWell R d && wells (nextR R d) l
def leftT (R : List Rw) (l : List Td) : List Rw := l.foldl nextR R
theorem wells_append (R : List Rw) (l m : List Td) : wells R (l ++ m) = (wells R l && wells (leftT R l) m) := by
  induction l generalizing R with
  | nil => simp [wells, leftT]
  | cons d l ih => simp only [List.cons_append, wells, ih, Bool.and_assoc]; rfl
theorem leftT_append (R : List Rw) (l m : List Td) : leftT R (l ++ m) = leftT (leftT R l) m := by simp [leftT]
theorem first_none {τ : Type} (R : List Rw) (l : List (τ × Td)) (h : wells R (l.map (·.2)) = true) : first R l = none := by
  induction l generalizing R with
  | nil => rfl
  | cons x l ih =>
    simp only [List.map_cons, wells, Bool.and_eq_true] at h
    unfold first
    rw [if_pos h.1]
    exact ih _ h.2
def keyB (k : Nat) : K := [UInt8.ofNat (97 + k)]
def itoa (i : Nat) : K := if i < 10 then [UInt8.ofNat (48 + i)] else [49, UInt8.ofNat (38 + i)]
def putT (k v : K) : Td := ⟨3, k, v, [], [], false, []⟩
def delT (k : K) : Td := ⟨4, k, [], [], [], false, []⟩
def getT (k v : K) (b : Bool) : Td := ⟨1, k, v, [], [], b, []⟩
structure Ow where
  nw : List K
  iw : List Bool
  T : List Td
def stepA (i n : Nat) (o : Ow) : Ow :=
  if n / 4 = 0 then ⟨o.nw.set (n % 4) (itoa i), o.iw.set (n % 4) true, o.T ++ [putT (keyB (n % 4)) (itoa i)]⟩
  else if n / 4 = 1 then ⟨o.nw.set (n % 4) [], o.iw.set (n % 4) false, o.T ++ [delT (keyB (n % 4))]⟩ else o
def stepO (i n : Nat) (o : Ow) : Ow := ⟨(stepA i n o).nw, (stepA i n o).iw, (stepA i n o).T ++ [getT (keyB (n % 4)) ((stepA i n o).nw.getD (n % 4) []) ((stepA i n o).iw.getD (n % 4) false)]⟩
structure OwOk (o : Ow) : Prop where
  n4 : o.nw.length = 4
  i4 : o.iw.length = 4
  well : wells [] o.T = true
  at_ : ∀ k, k < 4 → lookR (leftT [] o.T) (keyB k) = if o.iw.getD k false then some (o.nw.getD k []) else none
  no : ∀ k, o.iw.getD k false = false → o.nw.getD k [] = []
theorem keyB_inj {k m : Nat} (hk : k < 4) (hm : m < 4) : keyB k = keyB m ↔ k = m := by
  unfold keyB
  match k, hk, m, hm with
  | 0, _, 0, _ => simp
  | 0, _, 1, _ => simp
  | 0, _, 2, _ => simp
  | 0, _, 3, _ => simp
  | 1, _, 0, _ => simp
  | 1, _, 1, _ => simp
  | 1, _, 2, _ => simp
  | 1, _, 3, _ => simp
  | 2, _, 0, _ => simp
  | 2, _, 1, _ => simp
  | 2, _, 2, _ => simp
  | 2, _, 3, _ => simp
  | 3, _, 0, _ => simp
  | 3, _, 1, _ => simp
  | 3, _, 2, _ => simp
  | 3, _, 3, _ => simp
theorem getD_set_k {α : Type} (l : List α) (m k : Nat) (v d : α) (hm : m < l.length) : (l.set m v).getD k d = if k = m then v else l.getD k d := by
  rw [List.getD_eq_getElem?_getD, List.getD_eq_getElem?_getD, List.getElem?_set]
  by_cases h : m = k
  · subst h; simp [hm]
  · rw [if_neg h, if_neg (Ne.symm h)]
theorem OwOk.start : OwOk ⟨[[], [], [], []], [false, false, false, false], []⟩ := by
  refine ⟨rfl, rfl, rfl, fun k hk => ?_, fun k h => ?_⟩
  · match k, hk with
    | 0, _ => rfl
    | 1, _ => rfl
    | 2, _ => rfl
    | 3, _ => rfl
  · match k with
    | 0 => rfl
    | 1 => rfl
    | 2 => rfl
    | 3 => rfl
    | n + 4 => simp
theorem OwOk.stepA {o : Ow} (h : OwOk o) (i n : Nat) : OwOk (stepA i n o) := by
  have hm : n % 4 < 4 := Nat.mod_lt _ (by omega)
  unfold P.stepA
  split
  · refine ⟨by rw [List.length_set]; exact h.n4, by rw [List.length_set]; exact h.i4, ?_, fun k hk => ?_, fun k hk => ?_⟩
    · rw [wells_append, h.well]; simp [wells, isWell, putT]
    · simp only
      rw [leftT_append, getD_set_k _ _ _ _ _ (by rw [h.i4]; exact hm), getD_set_k _ _ _ _ _ (by rw [h.n4]; exact hm)]
      show lookR (nextR (leftT [] o.T) (putT (keyB (n % 4)) (itoa i))) (keyB k) = _
      have e : nextR (leftT [] o.T) (putT (keyB (n % 4)) (itoa i)) = put (leftT [] o.T) ⟨keyB (n % 4), itoa i⟩ := by simp [nextR, putT]
      rw [e, lookR_put]
      by_cases hkm : k = n % 4
      · rw [if_pos hkm, if_pos hkm]; simp [hkm]
      · rw [if_neg (by rw [keyB_inj hk hm]; exact hkm), if_neg hkm, if_neg hkm]; exact h.at_ k hk
    · simp only at hk ⊢
      rw [getD_set_k _ _ _ _ _ (by rw [h.i4]; exact hm)] at hk
      rw [getD_set_k _ _ _ _ _ (by rw [h.n4]; exact hm)]
      by_cases hkm : k = n % 4
      · rw [if_pos hkm] at hk; cases hk
      · rw [if_neg hkm] at hk ⊢; exact h.no k hk
  · split
    · refine ⟨by rw [List.length_set]; exact h.n4, by rw [List.length_set]; exact h.i4, ?_, fun k hk => ?_, fun k hk => ?_⟩
      · rw [wells_append, h.well]; simp [wells, isWell, delT]
      · simp only
        rw [leftT_append, getD_set_k _ _ _ _ _ (by rw [h.i4]; exact hm), getD_set_k _ _ _ _ _ (by rw [h.n4]; exact hm)]
        show lookR (nextR (leftT [] o.T) (delT (keyB (n % 4)))) (keyB k) = _
        have e : nextR (leftT [] o.T) (delT (keyB (n % 4))) = drop1 (leftT [] o.T) (keyB (n % 4)) := by simp [nextR, delT]
        rw [e, lookR_drop]
        by_cases hkm : k = n % 4
        · rw [if_pos hkm, if_pos hkm]; simp [hkm]
        · rw [if_neg (by rw [keyB_inj hk hm]; exact hkm), if_neg hkm, if_neg hkm]; exact h.at_ k hk
      · simp only at hk ⊢
        rw [getD_set_k _ _ _ _ _ (by rw [h.i4]; exact hm)] at hk
        rw [getD_set_k _ _ _ _ _ (by rw [h.n4]; exact hm)]
        by_cases hkm : k = n % 4
        · rw [if_pos hkm]
        · rw [if_neg hkm] at hk ⊢; exact h.no k hk
    · exact h
theorem OwOk.step {o : Ow} (h : OwOk o) (i n : Nat) : OwOk (stepO i n o) := by
  have hm : n % 4 < 4 := Nat.mod_lt _ (by omega)
  have h2 := h.stepA i n
  have e : nextR (leftT [] (P.stepA i n o).T) (getT (keyB (n % 4)) ((P.stepA i n o).nw.getD (n % 4) []) ((P.stepA i n o).iw.getD (n % 4) false)) = leftT [] (P.stepA i n o).T := by simp [nextR, getT]
  refine ⟨h2.n4, h2.i4, ?_, fun k hk => ?_, h2.no⟩
  · show wells [] ((P.stepA i n o).T ++ [_]) = true
    rw [wells_append, h2.well]
    simp only [wells, Bool.true_and, Bool.and_true]
    have ha := h2.at_ _ hm
    show isWell (leftT [] (P.stepA i n o).T) (getT (keyB (n % 4)) ((P.stepA i n o).nw.getD (n % 4) []) ((P.stepA i n o).iw.getD (n % 4) false)) = true
    unfold isWell getT
    simp only [if_true]
    rw [ha]
    cases hb : (P.stepA i n o).iw.getD (n % 4) false with
    | true => simp
    | false => rw [h2.no _ hb]; simp
  · show lookR (leftT [] ((P.stepA i n o).T ++ [_])) (keyB k) = _
    rw [leftT_append]
    show lookR (nextR (leftT [] (P.stepA i n o).T) (getT (keyB (n % 4)) ((P.stepA i n o).nw.getD (n % 4) []) ((P.stepA i n o).iw.getD (n % 4) false))) (keyB k) = _
    rw [e]
    exact h2.at_ k hk
theorem wells_puts {R : List Rw} {l : List Td} (h : ∀ d ∈ l, d.op = 3) : wells R l = true := by
  induction l generalizing R with
  | nil => rfl
  | cons d l ih =>
    have hd := h d (by simp)
    simp only [wells, Bool.and_eq_true]
    exact ⟨by simp [isWell, hd], ih fun x hx => h x (by simp [hx])⟩
theorem stepO_ops {o : Ow} {m : Nat} (h : (∀ d ∈ o.T, okT d) ∧ o.T.length ≤ m) (i n : Nat) : (∀ d ∈ (stepO i n o).T, okT d) ∧ (stepO i n o).T.length ≤ m + 2 := by
  unfold stepO stepA
  split
  · refine ⟨fun d hd => ?_, by simp; omega⟩
    rcases List.mem_append.1 hd with hd | hd
    · rcases List.mem_append.1 hd with hd | hd
      · exact h.1 d hd
      · rw [List.mem_singleton] at hd; subst hd; exact ⟨by simp [putT], by simp [putT]⟩
    · rw [List.mem_singleton] at hd; subst hd; exact ⟨by simp [getT], by simp [getT]⟩
  · split
    · refine ⟨fun d hd => ?_, by simp; omega⟩
      rcases List.mem_append.1 hd with hd | hd
      · rcases List.mem_append.1 hd with hd | hd
        · exact h.1 d hd
        · rw [List.mem_singleton] at hd; subst hd; exact ⟨by simp [delT], by simp [delT]⟩
      · rw [List.mem_singleton] at hd; subst hd; exact ⟨by simp [getT], by simp [getT]⟩
    · refine ⟨fun d hd => ?_, by simp; omega⟩
      rcases List.mem_append.1 hd with hd | hd
      · exact h.1 d hd
      · rw [List.mem_singleton] at hd; subst hd; exact ⟨by simp [getT], by simp [getT]⟩
/-- The other one stands behind the one that reads: nothing is found. -/
theorem own_law {T U : List Td} (hT : wells [] T = true) (hU : ∀ d ∈ U, d.op = 3) (hT2 : (∀ d ∈ T, okT d) ∧ T.length ≤ 1000) (hU2 : U.length ≤ 1000) :
    code [⟨1, 6, 0, U⟩, ⟨2, 5, 0, T⟩] = 0 ∧ ∀ o, IsOrd [⟨1, 6, 0, U⟩, ⟨2, 5, 0, T⟩] o → found [⟨1, 6, 0, U⟩, ⟨2, 5, 0, T⟩] o = none := by
  constructor
  · rw [code_zero]
    refine ⟨⟨by simp, by simp [many]; omega⟩, ⟨fun d hd => ?_, by simp [ids]⟩⟩
    simp only [List.mem_cons, List.not_mem_nil, or_false] at hd
    rcases hd with rfl | rfl
    · exact ⟨by simp, by simp, fun x hx => ⟨by rw [hU x hx]; decide, by rw [hU x hx]; decide⟩⟩
    · exact ⟨by simp, by simp, hT2.1⟩
  · intro o ho
    have h1 : IsOrd [⟨1, 6, 0, U⟩, ⟨2, 5, 0, T⟩] [1, 0] := by
      refine ⟨(List.Perm.swap 0 1 [] : [1, 0].Perm [0, 1]), ?_⟩
      simp [less, tAt]
    rw [ho.unique h1]
    unfold found
    have e : things [⟨1, 6, 0, U⟩, ⟨2, 5, 0, T⟩] [1, 0] = label 1 T ++ label 0 U := by simp [things, tAt]
    rw [e, first_none]
    have l2 : ∀ (t : Nat) (l : List Td), (label t l).map (·.2) = l := fun t l => by
      apply List.ext_getElem?
      intro i
      rw [List.getElem?_map, label_at]
      cases l[i]? <;> rfl
    rw [List.map_append, l2, l2, wells_append, hT, Bool.true_and]
    exact wells_puts hU
end Go.Proofs.YtidfniglnmfphaaDoor.P

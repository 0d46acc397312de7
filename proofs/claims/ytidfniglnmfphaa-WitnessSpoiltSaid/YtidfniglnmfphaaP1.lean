import Derived.Test.YtidfniglnmfphaaP0
/-
  Transactions that were answered what they should: in plain Lean.
-/
namespace Go.Proofs.Ytidfniglnmfphaa.P
set_option linter.unusedVariables false
/-- The answer that should be. -/
def rightD (R : List Rw) (d : Td) : Td :=
  if d.op = 1 then { d with is := (lookR R d.key).isSome, val := (lookR R d.key).getD [] }
  else if d.op = 2 then { d with rows := within R d.frm d.to } else d
theorem rightD_op (R : List Rw) (d : Td) : (rightD R d).op = d.op := by unfold rightD; split <;> (try split) <;> rfl
theorem rightD_key (R : List Rw) (d : Td) : (rightD R d).key = d.key := by unfold rightD; split <;> (try split) <;> rfl
theorem rightD_next (R S : List Rw) (d : Td) : nextR S (rightD R d) = nextR S d := by
  unfold rightD
  split
  · rename_i h; unfold nextR; simp [h]
  · split
    · rename_i h; unfold nextR; simp [h]
    · rfl
theorem rightD_well (R : List Rw) (d : Td) : isWell R (rightD R d) = true := by
  unfold rightD
  by_cases h1 : d.op = 1
  · rw [if_pos h1]
    unfold isWell
    rw [if_pos h1]
    cases e : lookR R d.key with
    | none => simp [e]
    | some v => simp [e]
  · rw [if_neg h1]
    by_cases h2 : d.op = 2
    · rw [if_pos h2]; unfold isWell; rw [if_neg h1, if_pos h2]; simp
    · rw [if_neg h2]; unfold isWell; rw [if_neg h1, if_neg h2]
/-- All answers as they should be. -/
def rightL : List Rw → List Td → List Td
  | _, [] => []
  | R, d :: l => rightD R d :: rightL (nextR R d) l
theorem rightL_len (R : List Rw) (l : List Td) : (rightL R l).length = l.length := by
  induction l generalizing R with
  | nil => rfl
  | cons d l ih => simp [rightL, ih]
def leftU (R : List Rw) (l : List Td) : List Rw := l.foldl nextR R
theorem leftU_right (R : List Rw) (l : List Td) : leftU R (rightL R l) = leftU R l := by
  induction l generalizing R with
  | nil => rfl
  | cons d l ih =>
    show leftU (nextR R (rightD R d)) (rightL (nextR R d) l) = leftU (nextR R d) l
    rw [rightD_next, ih]
theorem rightL_snoc (R : List Rw) (l : List Td) (d : Td) : rightL R (l ++ [d]) = rightL R l ++ [rightD (leftU R l) d] := by
  induction l generalizing R with
  | nil => rfl
  | cons x l ih => simp [rightL, leftU, ih]
theorem left_label {α : Type} (R : List Rw) (t : α) (l : List Td) : left R (label t l) = leftU R l := by
  unfold label left leftU
  rw [List.foldl_map]
  have : ∀ (k : Nat) (R : List Rw), List.foldl (fun R x => nextR R x.1) R (l.zipIdx k) = List.foldl nextR R l := by
    induction l with
    | nil => intro k R; rfl
    | cons d l ih => intro k R; simp only [List.zipIdx_cons, List.foldl_cons]; exact ih _ _
  exact this 0 R
theorem first_none {τ : Type} {R : List Rw} {l : List (τ × Td)} : first R l = none ↔ ∀ (k : Nat) (x : τ × Td), l[k]? = some x → isWell (left R (l.take k)) x.2 = true := by
  induction l generalizing R with
  | nil => simp [first]
  | cons y l ih =>
    unfold first
    constructor
    · intro h k x hx
      split at h
      · rename_i hw
        cases k with
        | zero => simp at hx; subst hx; exact hw
        | succ k => simp only [List.getElem?_cons_succ] at hx; exact ih.1 h k x hx
      · cases h
    · intro h
      have h0 := h 0 y rfl
      rw [if_pos (by simpa [left] using h0)]
      exact ih.2 fun k x hx => by have := h (k + 1) x (by simpa using hx); simpa [left] using this
theorem first_label_right {α : Type} (R : List Rw) (t : α) (l : List Td) : first R (label t (rightL R l)) = none := by
  have : ∀ (k : Nat) (R : List Rw), first R (((rightL R l).zipIdx k).map fun x => ((t, x.2), x.1)) = none := by
    induction l with
    | nil => intro k R; rfl
    | cons d l ih =>
      intro k R
      simp only [rightL, List.zipIdx_cons, List.map_cons, first, rightD_well, if_true]
      rw [rightD_next]
      exact ih _ _
  exact this 0 R
/-- A list whose answers are right, in an order. -/
structure IsRight (ds : List Tn) (o : List Nat) (rs : List Tn) : Prop where
  len : rs.length = ds.length
  at_ : ∀ k i, o[k]? = some i → tAt rs i = { tAt ds i with l := rightL (left [] (things ds (o.take k))) (tAt ds i).l }
section
variable {ds rs : List Tn} {o : List Nat}
theorem IsRight.each (h : IsRight ds o rs) (ho : IsOrd ds o) {i : Nat} (hi : i < ds.length) : ∃ R, tAt rs i = { tAt ds i with l := rightL R (tAt ds i).l } := by
  have hm : i ∈ o := ho.1.mem_iff.2 (List.mem_range.2 hi)
  obtain ⟨k, hk, e⟩ := List.getElem_of_mem hm
  exact ⟨_, h.at_ k i (by rw [List.getElem?_eq_getElem hk, e])⟩
theorem IsRight.ids (h : IsRight ds o rs) (ho : IsOrd ds o) : ids rs = ids ds := by
  unfold P.ids
  apply List.ext_getElem
  · simp [h.len]
  · intro i h1 h2
    simp at h1 h2
    obtain ⟨R, e⟩ := h.each ho h2
    have h3 := congrArg Tn.id e
    simpa [tAt, List.getD_eq_getElem?_getD, h1, h2] using h3
theorem IsRight.many (h : IsRight ds o rs) (ho : IsOrd ds o) : many rs = many ds := by
  unfold P.many
  congr 1
  apply List.ext_getElem
  · simp [h.len]
  · intro i h1 h2
    simp at h1 h2
    obtain ⟨R, e⟩ := h.each ho h2
    have h3 := congrArg (fun t => t.l.length) e
    simp only [rightL_len] at h3
    simpa [tAt, List.getD_eq_getElem?_getD, h1, h2] using h3
theorem IsRight.less (h : IsRight ds o rs) (ho : IsOrd ds o) {i k : Nat} (hi : i < ds.length) (hk : k < ds.length) : less (tAt rs i) (tAt rs k) ↔ less (tAt ds i) (tAt ds k) := by
  obtain ⟨R, e⟩ := h.each ho hi
  obtain ⟨S, f⟩ := h.each ho hk
  rw [e, f]
  exact Iff.rfl
theorem IsRight.ord (h : IsRight ds o rs) (ho : IsOrd ds o) : IsOrd rs o := by
  refine ⟨by rw [h.len]; exact ho.1, ?_⟩
  refine List.Pairwise.imp_of_mem (fun ha hb hab => ?_) ho.2
  exact (h.less ho (ho.lt ha) (ho.lt hb)).2 hab
theorem right_mem {R : List Rw} {l : List Td} {x : Td} (h : x ∈ rightL R l) : ∃ S y, y ∈ l ∧ x = rightD S y := by
  induction l generalizing R with
  | nil => cases h
  | cons d l ih =>
    rcases List.mem_cons.1 h with h | h
    · exact ⟨R, d, by simp, h⟩
    · obtain ⟨S, y, hy, e⟩ := ih h
      exact ⟨S, y, by simp [hy], e⟩
theorem IsRight.okL (h : IsRight ds o rs) (ho : IsOrd ds o) (hk : okL ds) : okL rs := by
  refine ⟨fun d hd => ?_, by rw [h.ids ho]; exact hk.2⟩
  obtain ⟨i, hi, e⟩ := List.getElem_of_mem hd
  have hi2 : i < ds.length := by rw [← h.len]; exact hi
  have e1 : tAt rs i = d := by simp [tAt, List.getD_eq_getElem?_getD, hi, e]
  obtain ⟨R, f⟩ := h.each ho hi2
  have h0 : okN (tAt ds i) := hk.1 _ (by simp [tAt, List.getD_eq_getElem?_getD, hi2])
  rw [← e1, f]
  refine ⟨h0.1, h0.2.1, fun x hx => ?_⟩
  obtain ⟨S, y, hy, rfl⟩ := right_mem hx
  have := h0.2.2 y hy
  unfold okT at *
  rw [rightD_op]; exact this
theorem IsRight.code (h : IsRight ds o rs) (ho : IsOrd ds o) (hc : code ds = 0) : code rs = 0 := by
  obtain ⟨h1, h2⟩ := code_zero.1 hc
  exact code_zero.2 ⟨⟨by rw [h.len]; exact h1.1, by rw [h.many ho]; exact h1.2⟩, h.okL ho h2⟩
theorem IsRight.left (h : IsRight ds o rs) (k : Nat) : left [] (things rs (o.take k)) = left [] (things ds (o.take k)) := by
  induction k with
  | zero => rfl
  | succ k ih =>
    by_cases hk : k < o.length
    · rw [List.take_succ_eq_append_getElem hk, things_append, things_append, left_append, left_append, things_one, things_one, left_label, left_label, ih, h.at_ k _ (List.getElem?_eq_getElem hk)]
      exact leftU_right _ _
    · have e1 : o.take (k + 1) = o := List.take_of_length_le (by omega)
      have e2 : o.take k = o := List.take_of_length_le (by omega)
      rw [e1]; rwa [e2] at ih
theorem IsRight.quiet (h : IsRight ds o rs) : first [] (things rs o) = none := by
  have : ∀ k, first [] (things rs (o.take k)) = none := by
    intro k
    induction k with
    | zero => rfl
    | succ k ih =>
      by_cases hk : k < o.length
      · rw [List.take_succ_eq_append_getElem hk, things_append, first_append, ih, Option.none_or, things_one, h.left, h.at_ k _ (List.getElem?_eq_getElem hk)]
        exact first_label_right _ _ _
      · have e1 : o.take (k + 1) = o := List.take_of_length_le (by omega)
        have e2 : o.take k = o := List.take_of_length_le (by omega)
        rw [e1]; rwa [e2] at ih
  have := this o.length
  rwa [List.take_length] at this
end
/-! ### one answer that is another one -/
def setT (rs : List Tn) (i j : Nat) (d2 : Td) : List Tn := rs.set i { tAt rs i with l := (tAt rs i).l.set j d2 }
theorem tAt_set_ne {rs : List Tn} {i k : Nat} (h : k ≠ i) (x : Tn) : tAt (rs.set i x) k = tAt rs k := by
  simp [tAt, List.getD_eq_getElem?_getD, List.getElem?_set_ne (Ne.symm h)]
theorem tAt_set_self {rs : List Tn} {i : Nat} (h : i < rs.length) (x : Tn) : tAt (rs.set i x) i = x := by
  simp [tAt, List.getD_eq_getElem?_getD, h]
theorem label_set {α : Type} (t : α) (l : List Td) (j : Nat) (d2 : Td) : label t (l.set j d2) = (label t l).set j ((t, j), d2) := by
  apply List.ext_getElem?
  intro k
  rw [label_at, List.getElem?_set, List.getElem?_set, label_at, label_len]
  by_cases h : j = k
  · subst h
    by_cases h2 : j < l.length <;> simp [h2]
  · simp [h]
theorem first_left {τ : Type} {R : List Rw} {l m : List (τ × Td)} (h : first R (l ++ m) = none) : first R l = none := by
  rw [first_append] at h
  cases e : first R l with
  | none => rfl
  | some x => rw [e] at h; simp at h
theorem things_ne {rs : List Tn} {i : Nat} {x : Tn} {o : List Nat} (h : ∀ k ∈ o, k ≠ i) : things (rs.set i x) o = things rs o := by
  induction o with
  | nil => rfl
  | cons k o ih =>
    have e : ∀ ds, things ds (k :: o) = label k (tAt ds k).l ++ things ds o := fun ds => by simp [things]
    rw [e, e, tAt_set_ne (h k (by simp)), ih fun q hq => h q (by simp [hq])]
theorem found_spoilt {rs : List Tn} {o : List Nat} (ho : IsOrd rs o) (hq : first [] (things rs o) = none) {i j : Nat} (hi : i < rs.length) {d d2 : Td} (hd : (tAt rs i).l[j]? = some d) (hbad : ∀ R, isWell R d = true → isWell R d2 = false) :
    first [] (things (setT rs i j d2) o) = some (i, j) := by
  have hm : i ∈ o := ho.1.mem_iff.2 (List.mem_range.2 hi)
  obtain ⟨k, hk, e⟩ := List.getElem_of_mem hm
  have hnd : o.Nodup := ho.1.nodup_iff.2 List.nodup_range
  have hj : j < (tAt rs i).l.length := (List.getElem?_eq_some_iff.1 hd).1
  have eo : o = o.take k ++ ([i] ++ o.drop (k + 1)) := by
    rw [← e, List.singleton_append, ← List.drop_eq_getElem_cons hk, List.take_append_drop]
  have hne : ∀ q ∈ o.take k, q ≠ i := by
    intro q hq2 e2
    subst e2
    obtain ⟨m, hm1, hm2⟩ := List.getElem_of_mem hq2
    rw [List.getElem_take] at hm2
    have : m < k := by rw [List.length_take] at hm1; omega
    have := (List.getElem_inj hnd).1 (hm2.trans e.symm)
    omega
  have split : ∀ ds, things ds o = things ds (o.take k) ++ (label i (tAt ds i).l ++ things ds (o.drop (k + 1))) := by
    intro ds
    conv => lhs; rw [eo]
    rw [things_append, things_append, things_one]
  have hl : label i (tAt rs i).l = (label i (tAt rs i).l).take j ++ (((i, j), d) :: (label i (tAt rs i).l).drop (j + 1)) := by
    have h1 : (label i (tAt rs i).l)[j]? = some ((i, j), d) := by rw [label_at, hd]; rfl
    obtain ⟨h2, h3⟩ := List.getElem?_eq_some_iff.1 h1
    rw [← h3, ← List.drop_eq_getElem_cons h2, List.take_append_drop]
  have hX : first [] (things rs (o.take k) ++ (label i (tAt rs i).l).take j ++ [((i, j), d)]) = none := by
    refine first_left (m := (label i (tAt rs i).l).drop (j + 1) ++ things rs (o.drop (k + 1))) ?_
    rw [split rs, hl] at hq
    simpa using hq
  have hX1 := first_left hX
  have hw : isWell (left [] (things rs (o.take k) ++ (label i (tAt rs i).l).take j)) d = true := by
    rw [first_snoc, hX1, Option.none_or] at hX
    split at hX
    · assumption
    · cases hX
  rw [split]
  unfold setT
  rw [things_ne hne, tAt_set_self hi]
  show first [] (things rs (o.take k) ++ (label i ((tAt rs i).l.set j d2) ++ _)) = _
  rw [label_set, List.set_eq_take_append_cons_drop, if_pos (by rw [label_len]; exact hj), ← List.append_assoc, ← List.append_assoc, first_append, first_append, hX1, Option.none_or]
  simp only [first, hbad _ hw]
  rfl
theorem setT_len (rs : List Tn) (i j : Nat) (d2 : Td) : (setT rs i j d2).length = rs.length := by simp [setT]
theorem setT_ids {rs : List Tn} {i j : Nat} {d2 : Td} (hi : i < rs.length) : ids (setT rs i j d2) = ids rs := by
  unfold setT ids
  rw [List.map_set]
  apply List.ext_getElem?
  intro k
  rw [List.getElem?_set]
  split
  · rename_i h; subst h
    simp [hi, tAt, List.getD_eq_getElem?_getD]
  · rfl
theorem setT_at {rs : List Tn} {i j : Nat} {d2 : Td} (hi : i < rs.length) (k : Nat) : ∃ l, tAt (setT rs i j d2) k = { tAt rs k with l := l } ∧ l.length = (tAt rs k).l.length := by
  unfold setT
  by_cases h : k = i
  · subst h; rw [tAt_set_self hi]; exact ⟨_, rfl, by simp⟩
  · rw [tAt_set_ne h]; exact ⟨_, rfl, rfl⟩
theorem setT_ord {rs : List Tn} {o : List Nat} {i j : Nat} {d2 : Td} (ho : IsOrd rs o) (hi : i < rs.length) : IsOrd (setT rs i j d2) o := by
  refine ⟨by rw [setT_len]; exact ho.1, ho.2.imp fun {a b} hab => ?_⟩
  obtain ⟨l, e, _⟩ := setT_at (d2 := d2) (j := j) hi a
  obtain ⟨m, f, _⟩ := setT_at (d2 := d2) (j := j) hi b
  rw [e, f]; exact hab
theorem setT_code {rs : List Tn} {i j : Nat} {d d2 : Td} (hc : code rs = 0) (hi : i < rs.length) (hd : (tAt rs i).l[j]? = some d) (hop : d2.op = d.op) : code (setT rs i j d2) = 0 := by
  obtain ⟨⟨h1, h2⟩, h3, h4⟩ := code_zero.1 hc
  refine code_zero.2 ⟨⟨by rw [setT_len]; exact h1, ?_⟩, fun t ht => ?_, by rw [setT_ids hi]; exact h4⟩
  · have : many (setT rs i j d2) = many rs := by
      unfold many
      congr 1
      apply List.ext_getElem
      · simp [setT]
      · intro k a b
        simp at a b
        obtain ⟨l, e, f⟩ := setT_at (d2 := d2) (j := j) hi k
        have e2 := congrArg (fun t => t.l.length) e
        simp only [f] at e2
        simpa [tAt, List.getD_eq_getElem?_getD, a, b] using e2
    rw [this]; exact h2
  · unfold setT at ht
    rcases List.mem_or_eq_of_mem_set ht with ht | rfl
    · exact h3 t ht
    · have h0 : okN (tAt rs i) := h3 _ (by simp [tAt, List.getD_eq_getElem?_getD, hi])
      refine ⟨h0.1, h0.2.1, fun x hx => ?_⟩
      rcases List.mem_or_eq_of_mem_set hx with hx | rfl
      · exact h0.2.2 x hx
      · have := h0.2.2 d (List.mem_of_getElem? hd)
        unfold okT at *
        rw [hop]; exact this
/-- A scan of all, behind all. -/
def lastT (R : List Rw) : Tn := ⟨9007199254740991, 1099511627776, 1048575, [⟨2, [], [], [], [255, 255, 255], false, R⟩]⟩
theorem tAt_app_l {rs : List Tn} {t : Tn} {i : Nat} (h : i < rs.length) : tAt (rs ++ [t]) i = tAt rs i := by
  simp [tAt, List.getD_eq_getElem?_getD, List.getElem?_append_left h]
theorem tAt_app_r {rs : List Tn} {t : Tn} : tAt (rs ++ [t]) rs.length = t := by
  simp [tAt, List.getD_eq_getElem?_getD]
theorem things_app {rs : List Tn} {t : Tn} {o : List Nat} (h : ∀ i ∈ o, i < rs.length) : things (rs ++ [t]) o = things rs o := by
  induction o with
  | nil => rfl
  | cons k o ih =>
    have e : ∀ ds, things ds (k :: o) = label k (tAt ds k).l ++ things ds o := fun ds => by simp [things]
    rw [e, e, tAt_app_l (h k (by simp)), ih fun q hq => h q (by simp [hq])]
theorem last_law {rs : List Tn} {o : List Nat} (ho : IsOrd rs o) (hc : code rs = 0) (hs : rs.length ≤ 60 ∧ many rs ≤ 400) (hq : first [] (things rs o) = none) (hid : ∀ t ∈ rs, t.id ≠ 9007199254740991)
    (hk : ∀ r ∈ left [] (things rs o), r.key < [255, 255, 255]) :
    code (rs ++ [lastT (left [] (things rs o))]) = 0 ∧ IsOrd (rs ++ [lastT (left [] (things rs o))]) (o ++ [rs.length]) ∧ first [] (things (rs ++ [lastT (left [] (things rs o))]) (o ++ [rs.length])) = none := by
  obtain ⟨_, h3, h4⟩ := code_zero.1 hc
  have hlt : ∀ i ∈ o, i < rs.length := fun i hi => ho.lt hi
  have hmem : ∀ i, i < rs.length → tAt rs i ∈ rs := fun i hi => by simp [tAt, List.getD_eq_getElem?_getD, hi]
  refine ⟨code_zero.2 ⟨⟨by simp; omega, ?_⟩, fun t ht => ?_, ?_⟩, ⟨?_, ?_⟩, ?_⟩
  · have : many (rs ++ [lastT (left [] (things rs o))]) = many rs + 1 := by simp [many, lastT]
    omega
  · rcases List.mem_append.1 ht with ht | ht
    · exact h3 t ht
    · rw [List.mem_singleton.1 ht]
      refine ⟨by simp [lastT], by simp [lastT], fun x hx => ?_⟩
      rw [List.mem_singleton.1 hx]; exact ⟨by simp, by simp⟩
  · unfold ids at *
    rw [List.map_append, List.nodup_append]
    refine ⟨h4, by simp, fun x hx y hy => ?_⟩
    obtain ⟨t, ht, rfl⟩ := List.mem_map.1 hx
    rw [List.map_cons, List.map_nil, List.mem_singleton] at hy
    subst hy
    exact hid t ht
  · rw [List.length_append, List.length_singleton, List.range_succ]
    exact ho.1.append_right _
  · rw [List.pairwise_append]
    refine ⟨?_, by simp, fun a ha b hb => ?_⟩
    · exact List.Pairwise.imp_of_mem (fun ha hb hab => by rw [tAt_app_l (hlt _ ha), tAt_app_l (hlt _ hb)]; exact hab) ho.2
    · rw [List.mem_singleton.1 hb, tAt_app_r, tAt_app_l (hlt a ha)]
      have h0 := h3 _ (hmem a (hlt a ha))
      have h1 := hid _ (hmem a (hlt a ha))
      obtain ⟨⟨_, a2⟩, ⟨_, b2, _, b4⟩, _⟩ := h0
      unfold less lastT
      simp only
      omega
  · rw [things_append, first_append, things_app hlt, hq, Option.none_or, things_one, tAt_app_r]
    have hw : within (left [] (things rs o)) [] [255, 255, 255] = left [] (things rs o) := by
      unfold within
      refine List.filter_eq_self.2 fun r hr => ?_
      unfold inS
      rw [decide_eq_true (hk r hr), Bool.and_true]
      exact decide_eq_true (kle_iff.2 (by simp))
    have hl : label rs.length (lastT (left [] (things rs o))).l = [((rs.length, 0), ⟨2, [], [], [], [255, 255, 255], false, left [] (things rs o)⟩)] := rfl
    rw [hl]
    have hwell : isWell (left [] (things rs o)) ⟨2, [], [], [], [255, 255, 255], false, left [] (things rs o)⟩ = true := by
      unfold isWell
      rw [if_neg (show ¬ (2 : Int) = 1 by decide), if_pos rfl]
      exact decide_eq_true hw
    simp only [first, hwell, if_true]
end Go.Proofs.Ytidfniglnmfphaa.P

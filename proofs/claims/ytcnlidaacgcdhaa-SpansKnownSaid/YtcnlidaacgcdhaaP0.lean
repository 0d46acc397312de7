import Derived.WalkKit
/-
  The plain law of spans: what a sweep over the ends of spans, in order, leaves, is the one list in order that has the keys that are wanted.
-/
namespace Go.Proofs.Ytcnlidaacgcdhaa.P
set_option linter.unusedVariables false
abbrev K := List UInt8
abbrev Span := K × K
structure Ev where
  key : K
  j : Nat
  d : Int
def has (s : Span) (k : K) : Bool := decide (s.1 ≤ k) && decide (k < s.2)
theorem has_iff {s : Span} {k : K} : has s k = true ↔ s.1 ≤ k ∧ k < s.2 := by simp [has]
def cnt (l : List Span) (k : K) : Nat := l.countP fun s => has s k
def evs (j : Nat) (l : List Span) : List Ev := l.flatMap fun s => [⟨s.1, j, 1⟩, ⟨s.2, j, -1⟩]
/-- What the events of list j up to k come to. -/
def opn (j : Nat) (l : List Ev) (k : K) : Int := (l.map fun e => if e.j = j ∧ e.key ≤ k then e.d else 0).sum
/-- What all events of list j come to. -/
def prt (j : Nat) (l : List Ev) : Int := (l.map fun e => if e.j = j then e.d else 0).sum
theorem opn_append (j : Nat) (l m : List Ev) (k : K) : opn j (l ++ m) k = opn j l k + opn j m k := by simp [opn]
theorem opn_perm {j : Nat} {l m : List Ev} (h : l.Perm m) (k : K) : opn j l k = opn j m k := by
  induction h with
  | nil => rfl
  | cons a _ ih => simp only [opn, List.map_cons, List.sum_cons] at *; omega
  | swap a b l => simp only [opn, List.map_cons, List.sum_cons]; omega
  | trans _ _ h1 h2 => exact h1.trans h2
theorem prt_append (j : Nat) (l m : List Ev) : prt j (l ++ m) = prt j l + prt j m := by simp [prt]
theorem prt_one (j : Nat) (l : List Ev) (e : Ev) : prt j (l ++ [e]) = prt j l + (if e.j = j then e.d else 0) := by simp [prt]
theorem opn_low {j : Nat} {l : List Ev} {k : K} (h : ∀ e ∈ l, k < e.key) : opn j l k = 0 := by
  induction l with
  | nil => rfl
  | cons a l ih =>
    have h1 := h a (by simp)
    have h2 := ih fun e he => h e (by simp [he])
    simp only [opn, List.map_cons, List.sum_cons] at *
    rw [if_neg (by grind)]; omega
theorem opn_up {j : Nat} {l : List Ev} {k : K} (h : ∀ e ∈ l, e.key ≤ k) : opn j l k = prt j l := by
  induction l with
  | nil => rfl
  | cons a l ih =>
    have h1 := h a (by simp)
    have h2 := ih fun e he => h e (by simp [he])
    simp only [opn, prt, List.map_cons, List.sum_cons] at *
    rw [h2]
    by_cases hj : a.j = j
    · rw [if_pos ⟨hj, h1⟩, if_pos hj]
    · rw [if_neg (fun h => hj h.1), if_neg hj]
theorem opn_evs {j : Nat} {l : List Span} (h : ∀ s ∈ l, s.1 < s.2) (k : K) : opn j (evs j l) k = cnt l k := by
  induction l with
  | nil => rfl
  | cons s l ih =>
    have h1 := h s (by simp)
    have h2 := ih fun e he => h e (by simp [he])
    have e1 : evs j (s :: l) = [⟨s.1, j, 1⟩, ⟨s.2, j, -1⟩] ++ evs j l := rfl
    rw [e1, opn_append, h2]
    simp only [cnt, List.countP_cons]
    by_cases a1 : s.1 ≤ k
    · by_cases a2 : k < s.2
      · have a3 : ¬ s.2 ≤ k := by grind
        simp [opn, has, a1, a2, a3]; omega
      · have a3 : s.2 ≤ k := by grind
        simp [opn, has, a1, a2, a3]
    · have a3 : ¬ s.2 ≤ k := by grind
      simp [opn, has, a1, a3]
theorem opn_other {i j : Nat} (l : List Span) (hij : i ≠ j) (k : K) : opn i (evs j l) k = 0 := by
  induction l with
  | nil => rfl
  | cons s l ih =>
    have e1 : evs j (s :: l) = [⟨s.1, j, 1⟩, ⟨s.2, j, -1⟩] ++ evs j l := rfl
    rw [e1, opn_append, ih]
    simp [opn, Ne.symm hij]
theorem evs_key {j : Nat} {l : List Span} {e : Ev} (h : e ∈ evs j l) : ∃ s ∈ l, e.key = s.1 ∨ e.key = s.2 := by
  obtain ⟨s, hs, he⟩ := List.mem_flatMap.1 h
  refine ⟨s, hs, ?_⟩
  simp at he
  rcases he with rfl | rfl <;> simp
theorem evs_j {j : Nat} {l : List Span} {e : Ev} (h : e ∈ evs j l) : e.j = j ∧ (e.d = 1 ∨ e.d = -1) := by
  obtain ⟨s, hs, he⟩ := List.mem_flatMap.1 h
  simp at he
  rcases he with rfl | rfl <;> simp

/-! ### lists in order -/
/-- In order, and with just the keys of p. -/
structure Canon (cl : List Span) (p : K → Bool) : Prop where
  mem : ∀ k, (∃ s ∈ cl, has s k = true) ↔ p k = true
  ord : cl.Pairwise fun s t => s.2 < t.1
  lt : ∀ s ∈ cl, s.1 < s.2
theorem Canon.congr {cl : List Span} {p q : K → Bool} (h : Canon cl p) (e : ∀ k, p k = q k) : Canon cl q := ⟨fun k => by rw [h.mem, e k], h.ord, h.lt⟩
theorem Canon.head_le {s : Span} {t : List Span} {p : K → Bool} (h : Canon (s :: t) p) {k : K} (hk : p k = true) : s.1 ≤ k := by
  obtain ⟨u, hu, hh⟩ := (h.mem k).2 hk
  have h2 := has_iff.1 hh
  rcases List.mem_cons.1 hu with rfl | hu
  · exact h2.1
  · have h3 := (List.pairwise_cons.1 h.ord).1 u hu
    have h4 := h.lt s (by simp)
    grind
theorem Canon.head_in {s : Span} {t : List Span} {p : K → Bool} (h : Canon (s :: t) p) : p s.1 = true :=
  (h.mem s.1).1 ⟨s, by simp, has_iff.2 ⟨by grind, h.lt s (by simp)⟩⟩
theorem Canon.head_end {s : Span} {t : List Span} {p : K → Bool} (h : Canon (s :: t) p) : p s.2 = false := by
  cases e : p s.2 with
  | false => rfl
  | true =>
    obtain ⟨u, hu, hh⟩ := (h.mem s.2).2 e
    have h2 := has_iff.1 hh
    rcases List.mem_cons.1 hu with rfl | hu
    · grind
    · have h3 := (List.pairwise_cons.1 h.ord).1 u hu
      grind
theorem Canon.tail {s : Span} {t : List Span} {p : K → Bool} (h : Canon (s :: t) p) : Canon t fun k => p k && !has s k := by
  refine ⟨fun k => ?_, (List.pairwise_cons.1 h.ord).2, fun u hu => h.lt u (by simp [hu])⟩
  constructor
  · rintro ⟨u, hu, hh⟩
    have h3 := (List.pairwise_cons.1 h.ord).1 u hu
    have h2 := has_iff.1 hh
    have h4 : has s k = false := by
      cases e : has s k with
      | false => rfl
      | true => have := has_iff.1 e; grind
    rw [h4, (h.mem k).1 ⟨u, by simp [hu], hh⟩]; rfl
  · intro hk
    simp only [Bool.and_eq_true, Bool.not_eq_true'] at hk
    obtain ⟨u, hu, hh⟩ := (h.mem k).2 hk.1
    rcases List.mem_cons.1 hu with rfl | hu
    · rw [hk.2] at hh; cases hh
    · exact ⟨u, hu, hh⟩
theorem Canon.unique : ∀ {cl cm : List Span} {p : K → Bool} (_ : Canon cl p) (_ : Canon cm p), cl = cm
  | [], [], _, _, _ => rfl
  | [], s :: t, p, h, g => by
    obtain ⟨u, hu, _⟩ := (h.mem s.1).2 g.head_in
    cases hu
  | s :: t, [], p, h, g => by
    obtain ⟨u, hu, _⟩ := (g.mem s.1).2 h.head_in
    cases hu
  | s :: t, u :: v, p, h, g => by
    have e1 : s.1 = u.1 := by
      have h1 := h.head_le g.head_in
      have h2 := g.head_le h.head_in
      grind
    have hl := h.lt s (by simp)
    have gl := g.lt u (by simp)
    have e2 : s.2 = u.2 := by
      have a1 : ¬ s.2 < u.2 := fun hlt => by
        have := (g.mem s.2).1 ⟨u, by simp, has_iff.2 ⟨by grind, hlt⟩⟩
        rw [h.head_end] at this; cases this
      have a2 : ¬ u.2 < s.2 := fun hlt => by
        have := (h.mem u.2).1 ⟨s, by simp, has_iff.2 ⟨by grind, hlt⟩⟩
        rw [g.head_end] at this; cases this
      grind
    obtain rfl : s = u := Prod.ext e1 e2
    rw [Canon.unique h.tail g.tail]

/-! ### the sweep -/
def low (k : K) : List Ev → Prop
  | [] => True
  | e :: _ => k < e.key
/-- What the sweep has left, when 'rest' is to come: spans that are whole, and one that is open. -/
structure Inv (l : List Ev) (p : K → Bool) (rest : List Ev) (cl : List Span) (f : Option K) : Prop where
  mem : ∀ k, low k rest → (((∃ s ∈ cl, has s k = true) ∨ ∃ x, f = some x ∧ x ≤ k) ↔ p k = true)
  ord : cl.Pairwise fun s t => s.2 < t.1
  lt : ∀ s ∈ cl, s.1 < s.2 ∧ low s.2 rest
  opened : ∀ x, f = some x → low x rest ∧ ∀ s ∈ cl, s.2 < x
  ends : (∀ s ∈ cl, (∃ e ∈ l, e.key = s.1) ∧ ∃ e ∈ l, e.key = s.2) ∧ ∀ x, f = some x → ∃ e ∈ l, e.key = x
abbrev Sorted (l : List Ev) : Prop := l.Pairwise fun a b => a.key ≤ b.key
def same : Ev → List Ev → Prop
  | _, [] => False
  | e, a :: _ => a.key = e.key
theorem Inv.start {l : List Ev} {p : K → Bool} (h : ∀ k, low k l → p k = false) : Inv l p l [] none :=
  ⟨fun k hk => by simp [h k hk], List.Pairwise.nil, by simp, by simp, by simp, by simp⟩
theorem low_same {e : Ev} {r : List Ev} (h : same e r) (k : K) : low k r ↔ low k (e :: r) := by
  cases r with
  | nil => exact h.elim
  | cons a r => simp only [same] at h; simp [low, h]
theorem Inv.skip {l : List Ev} {p : K → Bool} {e : Ev} {r : List Ev} {cl : List Span} {f : Option K} (v : Inv l p (e :: r) cl f) (h : same e r) : Inv l p r cl f :=
  ⟨fun k hk => v.mem k ((low_same h k).1 hk), v.ord, fun s hs => ⟨(v.lt s hs).1, (low_same h _).2 (v.lt s hs).2⟩, fun x hx => ⟨(low_same h _).2 (v.opened x hx).1, (v.opened x hx).2⟩, v.ends⟩
theorem low_of {e : Ev} {r : List Ev} (hs : Sorted (e :: r)) {k : K} (h : k < e.key) : low k r := by
  cases r with
  | nil => trivial
  | cons a r =>
    have := (List.pairwise_cons.1 hs).1 a (by simp)
    simp only [low]; grind
theorem low_key {e : Ev} {r : List Ev} (hs : Sorted (e :: r)) (h : ¬ same e r) : low e.key r := by
  cases r with
  | nil => trivial
  | cons a r =>
    have := (List.pairwise_cons.1 hs).1 a (by simp)
    simp only [low, same] at *; grind
/-- Between an event and the next one all is as after it. -/
theorem opn_at {l pre : List Ev} {e : Ev} {r : List Ev} (hl : l = pre ++ e :: r) (hs : Sorted l) {k : K} (h1 : e.key ≤ k) (h2 : low k r) (j : Nat) : opn j l k = prt j (pre ++ [e]) := by
  have e1 : l = (pre ++ [e]) ++ r := by rw [hl]; simp
  rw [e1] at hs ⊢
  obtain ⟨s1, s2, s3⟩ := List.pairwise_append.1 hs
  rw [opn_append, opn_up, opn_low, Int.add_zero]
  · intro a ha
    cases r with
    | nil => cases ha
    | cons b r =>
      simp only [low] at h2
      rcases List.mem_cons.1 ha with rfl | ha
      · exact h2
      · have := (List.pairwise_cons.1 s2).1 a ha
        grind
  · intro a ha
    rcases List.mem_append.1 ha with ha | ha
    · have := (List.pairwise_append.1 s1).2.2 a ha e (by simp)
      grind
    · have : a = e := by simpa using ha
      subst this; exact h1
section
variable {l pre : List Ev} {p : K → Bool} {w : Int → Int → Bool} {e : Ev} {r : List Ev} {cl : List Span} {f : Option K}
theorem Inv.now (hp : ∀ k, p k = w (opn 0 l k) (opn 1 l k)) (hl : l = pre ++ e :: r) (hs : Sorted l) {k : K} (h1 : e.key ≤ k) (h2 : low k r) : p k = w (prt 0 (pre ++ [e])) (prt 1 (pre ++ [e])) := by
  rw [hp, opn_at hl hs h1 h2, opn_at hl hs h1 h2]
theorem sorted_rest (hl : l = pre ++ e :: r) (hs : Sorted l) : Sorted (e :: r) := by rw [hl] at hs; exact (List.pairwise_append.1 hs).2.1
theorem mem_at (hl : l = pre ++ e :: r) : e ∈ l := by rw [hl]; simp
/-- The step: nothing changes. -/
theorem Inv.stay (v : Inv l p (e :: r) cl f) (hp : ∀ k, p k = w (opn 0 l k) (opn 1 l k)) (hl : l = pre ++ e :: r) (hs : Sorted l) (hn : ¬ same e r) (hw : w (prt 0 (pre ++ [e])) (prt 1 (pre ++ [e])) = f.isSome) : Inv l p r cl f := by
  have hsr := sorted_rest hl hs
  refine ⟨fun k hk => ?_, v.ord, fun s hs => ⟨(v.lt s hs).1, low_of hsr (v.lt s hs).2⟩, fun x hx => ⟨low_of hsr (v.opened x hx).1, (v.opened x hx).2⟩, v.ends⟩
  by_cases hke : k < e.key
  · exact v.mem k hke
  · have hke : e.key ≤ k := by grind
    rw [Inv.now hp hl hs hke hk, hw]
    constructor
    · rintro (⟨s, hs, hh⟩ | ⟨x, rfl, _⟩)
      · have := (v.lt s hs).2
        have h2 := has_iff.1 hh
        simp only [low] at this
        grind
      · rfl
    · intro hf
      obtain ⟨x, rfl⟩ := Option.isSome_iff_exists.1 hf
      have := (v.opened x rfl).1
      simp only [low] at this
      exact .inr ⟨x, rfl, by grind⟩
theorem Inv.open_ (v : Inv l p (e :: r) cl none) (hp : ∀ k, p k = w (opn 0 l k) (opn 1 l k)) (hl : l = pre ++ e :: r) (hs : Sorted l) (hn : ¬ same e r) (hw : w (prt 0 (pre ++ [e])) (prt 1 (pre ++ [e])) = true) : Inv l p r cl (some e.key) := by
  have hsr := sorted_rest hl hs
  refine ⟨fun k hk => ?_, v.ord, fun s hs => ⟨(v.lt s hs).1, low_of hsr (v.lt s hs).2⟩, fun x hx => ?_, v.ends.1, fun x hx => ?_⟩
  · by_cases hke : k < e.key
    · rw [← v.mem k hke]
      constructor
      · rintro (h | ⟨x, h, hx⟩)
        · exact .inl h
        · cases h; grind
      · rintro (h | ⟨x, h, hx⟩)
        · exact .inl h
        · cases h
    · have hke : e.key ≤ k := by grind
      rw [Inv.now hp hl hs hke hk, hw]
      exact ⟨fun _ => rfl, fun _ => .inr ⟨_, rfl, hke⟩⟩
  · cases hx
    exact ⟨low_key hsr hn, fun s hs => (v.lt s hs).2⟩
  · cases hx
    exact ⟨e, mem_at hl, rfl⟩
theorem Inv.close {x : K} (v : Inv l p (e :: r) cl (some x)) (hp : ∀ k, p k = w (opn 0 l k) (opn 1 l k)) (hl : l = pre ++ e :: r) (hs : Sorted l) (hn : ¬ same e r) (hw : w (prt 0 (pre ++ [e])) (prt 1 (pre ++ [e])) = false) : Inv l p r (cl ++ [(x, e.key)]) none := by
  have hsr := sorted_rest hl hs
  have hx := v.opened x rfl
  have hxe : x < e.key := hx.1
  refine ⟨fun k hk => ?_, ?_, fun s hs => ?_, by simp, ?_, by simp⟩
  · by_cases hke : k < e.key
    · rw [← v.mem k hke]
      constructor
      · rintro (⟨s, hs, hh⟩ | ⟨_, h, _⟩)
        · rcases List.mem_append.1 hs with hs | hs
          · exact .inl ⟨s, hs, hh⟩
          · have : s = (x, e.key) := by simpa using hs
            subst this
            exact .inr ⟨x, rfl, (has_iff.1 hh).1⟩
        · cases h
      · rintro (⟨s, hs, hh⟩ | ⟨y, h, hy⟩)
        · exact .inl ⟨s, by simp [hs], hh⟩
        · cases h
          exact .inl ⟨(x, e.key), by simp, has_iff.2 ⟨hy, hke⟩⟩
    · have hke : e.key ≤ k := by grind
      rw [Inv.now hp hl hs hke hk, hw]
      constructor
      · rintro (⟨s, hs, hh⟩ | ⟨_, h, _⟩)
        · have h2 := has_iff.1 hh
          rcases List.mem_append.1 hs with hs | hs
          · have := (v.lt s hs).2
            simp only [low] at this
            grind
          · have : s = (x, e.key) := by simpa using hs
            subst this
            grind
        · cases h
      · intro h; cases h
  · rw [List.pairwise_append]
    refine ⟨v.ord, by simp, fun s hs t ht => ?_⟩
    have : t = (x, e.key) := by simpa using ht
    subst this
    exact hx.2 s hs
  · rcases List.mem_append.1 hs with hs | hs
    · exact ⟨(v.lt s hs).1, low_of hsr (v.lt s hs).2⟩
    · have : s = (x, e.key) := by simpa using hs
      subst this
      exact ⟨hxe, low_key hsr hn⟩
  · intro s hs
    rcases List.mem_append.1 hs with hs | hs
    · exact v.ends.1 s hs
    · have : s = (x, e.key) := by simpa using hs
      subst this
      exact ⟨v.ends.2 x rfl, e, mem_at hl, rfl⟩
/-- At the end nothing is open. -/
theorem Inv.done (v : Inv l p [] cl f) (hend : ∀ x, (∃ e ∈ l, e.key = x) → ∃ k, x ≤ k ∧ p k = false) : f = none ∧ Canon cl p := by
  have hf : f = none := by
    cases f with
    | none => rfl
    | some x =>
      obtain ⟨k, hk, hpk⟩ := hend x (v.ends.2 x rfl)
      have := (v.mem k trivial).1 (.inr ⟨x, rfl, hk⟩)
      rw [hpk] at this; cases this
  subst hf
  exact ⟨rfl, fun k => by rw [← v.mem k trivial]; simp, v.ord, fun s hs => (v.lt s hs).1⟩
end
end Go.Proofs.Ytcnlidaacgcdhaa.P

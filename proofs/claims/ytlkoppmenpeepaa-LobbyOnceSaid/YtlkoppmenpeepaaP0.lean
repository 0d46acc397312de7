import Derived.RowKit
/-
  Requests that wait: what a lobby does, in plain Lean.
-/
namespace Go.Proofs.Ytlkoppmenpeepaa.P
set_option linter.unusedVariables false
structure Wt where
  num : Int
  key : List UInt8
  waiter : Int
  holder : Int
deriving DecidableEq, Inhabited
abbrev Pr := Int × Int
def isIdB (n : Int) : Bool := decide (n ≥ (1 : Int)) && decide (n ≤ (9007199254740991 : Int))
theorem isIdB_iff {n : Int} : isIdB n = true ↔ 1 ≤ n ∧ n ≤ 9007199254740991 := by simp [isIdB]
def okW (w : Wt) : Prop := isIdB w.num = true ∧ isIdB w.waiter = true ∧ isIdB w.holder = true ∧ w.waiter ≠ w.holder
instance (w : Wt) : Decidable (okW w) := by unfold okW; infer_instance
def has (w : Wt) (l : List Wt) : Bool := l.any fun x => decide (x.num = w.num)
def addCode (w : Wt) (l : List Wt) : Int := if ¬ okW w then 2 else if has w l = true then 2 else if 64 ≤ l.length then 7 else 0
def add (w : Wt) (l : List Wt) : List Wt := if addCode w l = 0 then l ++ [w] else l
def out (p : Wt → Bool) (l : List Wt) : List Wt := l.filter p
def left (p : Wt → Bool) (l : List Wt) : List Wt := l.filter fun w => !p w
def byNum (n : Int) (w : Wt) : Bool := decide (w.num = n)
def byHolder (n : Int) (w : Wt) : Bool := decide (w.holder = n)
def byKey (k : List UInt8) (n : Int) (w : Wt) : Bool := decide (w.holder = n) && decide (w.key = k)
/-- Who may wait: ids, and 64 at most. -/
def Fine (l : List Wt) : Prop := (∀ w ∈ l, okW w) ∧ l.length ≤ 64
theorem addCode_ok {w : Wt} {l : List Wt} (h : addCode w l = 0) : okW w ∧ has w l = false ∧ l.length < 64 := by
  unfold addCode at h
  by_cases h1 : okW w
  · rw [if_neg (by simpa using h1)] at h
    cases h2 : has w l with
    | true => rw [h2] at h; simp at h
    | false =>
      rw [h2] at h
      by_cases h3 : 64 ≤ l.length
      · rw [if_neg (by simp), if_pos h3] at h; cases h
      · exact ⟨h1, rfl, by omega⟩
  · rw [if_pos h1] at h; cases h
theorem add_yes {w : Wt} {l : List Wt} (h1 : okW w) (h2 : has w l = false) (h3 : l.length < 64) : addCode w l = 0 ∧ add w l = l ++ [w] := by
  have : addCode w l = 0 := by
    unfold addCode
    rw [if_neg (by simpa using h1), h2, if_neg (by simp), if_neg (by omega)]
  exact ⟨this, by unfold add; rw [if_pos this]⟩
theorem Fine.nil : Fine [] := ⟨by simp, by simp⟩
theorem Fine.add {l : List Wt} (h : Fine l) (w : Wt) : Fine (add w l) := by
  unfold P.add
  split
  · rename_i e
    obtain ⟨h1, _, h3⟩ := addCode_ok e
    refine ⟨fun y hy => ?_, by simp; omega⟩
    rcases List.mem_append.1 hy with hy | hy
    · exact h.1 y hy
    · have : y = w := by simpa using hy
      subst this; exact h1
  · exact h
theorem Fine.left {l : List Wt} (h : Fine l) (p : Wt → Bool) : Fine (left p l) :=
  ⟨fun y hy => h.1 y (List.mem_filter.1 hy).1, Nat.le_trans (List.length_filter_le _ _) h.2⟩
/-- The order of pairs. -/
def ltP (p q : Pr) : Prop := p.1 < q.1 ∨ (p.1 = q.1 ∧ p.2 < q.2)
instance (p q : Pr) : Decidable (ltP p q) := by unfold ltP; infer_instance
theorem ltP.trans {a b c : Pr} (h : ltP a b) (k : ltP b c) : ltP a c := by unfold ltP at *; omega
theorem ltP.irrefl (a : Pr) : ¬ ltP a a := by unfold ltP; omega
theorem ltP.total {a b : Pr} (h : a ≠ b) : ltP a b ∨ ltP b a := by
  by_cases h1 : a.1 = b.1
  · by_cases h2 : a.2 = b.2
    · exact absurd (Prod.ext h1 h2) h
    · unfold ltP; omega
  · unfold ltP; omega
def pr (w : Wt) : Pr := (w.waiter, w.holder)
/-- The pairs of a lobby: in order, each once. -/
structure EdgesOf (l : List Wt) (e : List Pr) : Prop where
  up : e.Pairwise ltP
  mem : ∀ p, p ∈ e ↔ ∃ w ∈ l, pr w = p
theorem up_unique : ∀ {a b : List Pr}, a.Pairwise ltP → b.Pairwise ltP → (∀ p, p ∈ a ↔ p ∈ b) → a = b
  | [], [], _, _, _ => rfl
  | [], y :: b, _, _, h => by have := (h y).2 (by simp); simp at this
  | x :: a, [], _, _, h => by have := (h x).1 (by simp); simp at this
  | x :: a, y :: b, ha, hb, h => by
    obtain ⟨ha1, ha2⟩ := List.pairwise_cons.1 ha
    obtain ⟨hb1, hb2⟩ := List.pairwise_cons.1 hb
    have hxy : x = y := by
      rcases List.mem_cons.1 ((h x).1 (by simp)) with e | hx
      · exact e
      · rcases List.mem_cons.1 ((h y).2 (by simp)) with e | hy
        · exact e.symm
        · exact absurd ((ha1 y hy).trans (hb1 x hx)) (ltP.irrefl _)
    subst hxy
    congr 1
    refine up_unique ha2 hb2 fun p => ⟨fun hp => ?_, fun hp => ?_⟩
    · rcases List.mem_cons.1 ((h p).1 (by simp [hp])) with e | hp'
      · subst e; exact absurd (ha1 _ hp) (ltP.irrefl _)
      · exact hp'
    · rcases List.mem_cons.1 ((h p).2 (by simp [hp])) with e | hp'
      · subst e; exact absurd (hb1 _ hp) (ltP.irrefl _)
      · exact hp'
theorem EdgesOf.unique {l : List Wt} {a b : List Pr} (ha : EdgesOf l a) (hb : EdgesOf l b) : a = b :=
  up_unique ha.up hb.up fun p => (ha.mem p).trans (hb.mem p).symm
theorem EdgesOf.nil : EdgesOf [] [] := ⟨List.Pairwise.nil, fun p => by simp⟩
/-- A pair is put where it belongs: n are less than it. -/
theorem EdgesOf.put {l : List Wt} {e : List Pr} {w : Wt} {n : Nat} (h : EdgesOf l e) (hlt : ∀ (i : Nat) (q : Pr), i < n → e[i]? = some q → ltP q (pr w)) (hge : ∀ q, e[n]? = some q → ¬ ltP q (pr w)) (hne : ∀ q, e[n]? = some q → q ≠ pr w) (hn : n ≤ e.length) :
    EdgesOf (l ++ [w]) (e.take n ++ [pr w] ++ e.drop n) := by
  have hsplit : e = e.take n ++ e.drop n := (List.take_append_drop n e).symm
  have hup := h.up
  rw [hsplit] at hup
  obtain ⟨u1, u2, u3⟩ := List.pairwise_append.1 hup
  have t1 : ∀ q ∈ e.take n, ltP q (pr w) := fun q hq => by
    obtain ⟨i, hi, rfl⟩ := List.mem_iff_getElem.1 hq
    rw [List.length_take] at hi
    rw [List.getElem_take]
    exact hlt i _ (by omega) (List.getElem?_eq_getElem (by omega))
  have t2 : ∀ q ∈ e.drop n, ltP (pr w) q := fun q hq => by
    obtain ⟨i, hi, rfl⟩ := List.mem_iff_getElem.1 hq
    rw [List.length_drop] at hi
    rw [List.getElem_drop]
    have hz : e[n]? = some e[n] := List.getElem?_eq_getElem (by omega)
    have b1 : ltP (pr w) e[n] := (ltP.total (hne _ hz)).resolve_left (hge _ hz)
    rcases Nat.eq_zero_or_pos i with rfl | hi0
    · simpa using b1
    · exact b1.trans (List.pairwise_iff_getElem.1 h.up n (n + i) (by omega) (by omega) (by omega))
  refine ⟨?_, fun p => ?_⟩
  · rw [List.append_assoc]
    refine List.pairwise_append.2 ⟨u1, List.pairwise_append.2 ⟨by simp, u2, fun a ha b hb => ?_⟩, fun a ha b hb => ?_⟩
    · have : a = pr w := by simpa using ha
      subst this; exact t2 b hb
    · rcases List.mem_append.1 hb with hb | hb
      · have : b = pr w := by simpa using hb
        subst this; exact t1 a ha
      · exact u3 a ha b hb
  · have hm := h.mem p
    rw [hsplit] at hm
    simp only [List.mem_append, List.mem_singleton] at hm ⊢
    constructor
    · rintro ((hp | rfl) | hp)
      · obtain ⟨x, hx, e⟩ := hm.1 (.inl hp); exact ⟨x, .inl hx, e⟩
      · exact ⟨w, .inr rfl, rfl⟩
      · obtain ⟨x, hx, e⟩ := hm.1 (.inr hp); exact ⟨x, .inl hx, e⟩
    · rintro ⟨x, hx | rfl, e⟩
      · rcases hm.2 ⟨x, hx, e⟩ with hp | hp
        · exact .inl (.inl hp)
        · exact .inr hp
      · exact .inl (.inr e.symm)
theorem EdgesOf.there {l : List Wt} {e : List Pr} {w : Wt} (h : EdgesOf l e) (hm : pr w ∈ e) : EdgesOf (l ++ [w]) e :=
  ⟨h.up, fun p => by
    rw [h.mem p]
    constructor
    · rintro ⟨x, hx, rfl⟩; exact ⟨x, by simp [hx], rfl⟩
    · rintro ⟨x, hx, rfl⟩
      rcases List.mem_append.1 hx with hx | hx
      · exact ⟨x, hx, rfl⟩
      · have : x = w := by simpa using hx
        subst this; exact (h.mem _).1 hm⟩
theorem nodup_len {α : Type} [DecidableEq α] : ∀ {a b : List α}, a.Nodup → (∀ x ∈ a, x ∈ b) → a.length ≤ b.length
  | [], b, _, _ => Nat.zero_le _
  | x :: a, b, hn, h => by
    have hx := h x (by simp)
    have := nodup_len (a := a) (b := b.erase x) (List.nodup_cons.1 hn).2 (fun y hy => (List.mem_erase_of_ne (by rintro rfl; exact (List.nodup_cons.1 hn).1 hy)).2 (h y (by simp [hy])))
    rw [List.length_erase_of_mem hx] at this
    have := List.length_pos_of_mem hx
    simp only [List.length_cons]; omega
theorem EdgesOf.len_le {l : List Wt} {e : List Pr} (h : EdgesOf l e) : e.length ≤ l.length := by
  have hn : e.Nodup := h.up.imp fun {a b} hab hE => by subst hE; exact ltP.irrefl _ hab
  have := nodup_len hn (b := l.map pr) fun p hp => by obtain ⟨w, hw, e⟩ := (h.mem p).1 hp; exact List.mem_map.2 ⟨w, hw, e⟩
  simpa using this
end Go.Proofs.Ytlkoppmenpeepaa.P

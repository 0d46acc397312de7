import Derived.Test.YtlkoppmenpeepaaB9
namespace Go.Proofs.Ytlkoppmenpeepaa.B
open Go.RowKit Go.Maps Go.Sort Go.Shelf Go.Proofs.Ytlkoppmenpeepaa.Sep Go.Proofs.Ytlkoppmenpeepaa.P
set_option linter.unusedVariables false
set_option linter.unusedSimpArgs false
set_option maxRecDepth 100000 in
theorem open_pair {W : World} {a : Array Value} (hl : a.size = 2) (h : Came Try.prog W 51 (Value.agg a).cells.toList) : ∃ p0 p1 : Int, a = #[.int .i64 p0, .int .i64 p1] := by
  obtain ⟨_, h⟩ := Came.array (k := 1) Try.underlying51 (by kernel_rfl) h
  obtain ⟨l⟩ := a
  match l, hl with
  | [a0, a1], _ =>
    have h0 := h 0 (by omega)
    have h1 := h 1 (by omega)
    obtain ⟨z0, e0, _⟩ := Came.int Try.underlying3 h0
    obtain ⟨z1, e1, _⟩ := Came.int Try.underlying3 h1
    have q0 : a0 = .int .i64 z0 := (List.cons.inj (show [a0] = [_] from e0)).1
    have q1 : a1 = .int .i64 z1 := (List.cons.inj (show [a1] = [_] from e1)).1
    exact ⟨z0, z1, by rw [q0, q1]⟩
theorem bring_to (W : World) (L : List Chunk) (w : World) (i n z : Int) (hz : i % n = z) (hn : 0 < n) (hb : n ≤ 1000000) (s : St W L w) : Calls Try.prog 10 #[.int .i64 i, .int .i64 n] w fun e w' => e = .returned (.int .i64 z) ∧ St W L w' := by
  subst hz; exact bring_pos W L w i n hn hb s
/-- Numbers that have come so far are at most k. -/
def Upto (k : Nat) (l : List Wt) : Prop := (∀ x ∈ l, x.num ≤ (k : Int)) ∧ l.length ≤ k
theorem Upto.has {k : Nat} {l : List Wt} (h : Upto k l) {x : Wt} (hx : x.num = ((k + 1 : Nat) : Int)) : P.has x l = false :=
  has_false fun y hy => by have := h.1 y hy; omega
theorem Upto.up {k : Nat} {l : List Wt} (h : Upto k l) : Upto (k + 1) l := ⟨fun x hx => by have := h.1 x hx; omega, by have := h.2; omega⟩
theorem Upto.snoc {k : Nat} {l : List Wt} (h : Upto k l) {x : Wt} (hx : x.num = ((k + 1 : Nat) : Int)) : Upto (k + 1) (l ++ [x]) :=
  ⟨fun y hy => by
    rcases List.mem_append.1 hy with hy | hy
    · have := h.1 y hy; omega
    · have : y = x := by simpa using hy
      subst this; omega, by have := h.2; simp; omega⟩
theorem pair_put {l : List Wt} {b : Bool} {p y : Pr} {x : Wt} (h : b = true ↔ ∃ x ∈ l, pr x = p) (hb : b = false) (hx : pr x = y) : decide (p = y) = true ↔ ∃ z ∈ l ++ [x], pr z = p := by
  rw [decide_eq_true_eq]
  constructor
  · intro e; exact ⟨x, by simp, by rw [hx, e]⟩
  · rintro ⟨z, hz, e⟩
    rcases List.mem_append.1 hz with hz | hz
    · have := h.2 ⟨z, hz, e⟩; rw [hb] at this; cases this
    · have : z = x := by simpa using hz
      subst this; rw [← e, hx]
theorem mem_put {e : List Pr} {i : Nat} {c : Bool} {p x : Pr} (h : c = true ↔ p ∈ e.take i) (hc : c = false) (hx : e[i]? = some x) : decide (x = p) = true ↔ p ∈ e.take (i + 1) := by
  rw [decide_eq_true_eq, take_snoc hx, List.mem_append, List.mem_singleton]
  constructor
  · intro e; exact .inr e.symm
  · rintro (hm | hm)
    · have := h.2 hm; rw [hc] at this; cases this
    · exact hm.symm
theorem add_eq {x : Wt} {l : List Wt} (h : x.waiter = x.holder) : addCode x l = 2 ∧ add x l = l := by
  have : addCode x l = 2 := by unfold addCode; rw [if_pos (fun h' => h'.2.2.2 h)]
  exact ⟨this, by unfold add; rw [if_neg (by rw [this]; decide)]⟩
theorem add_new {x : Wt} {l : List Wt} {k : Nat} (h : Upto k l) (hk : k < 60) (hx : x.num = ((k + 1 : Nat) : Int)) (h1 : 1 ≤ x.waiter ∧ x.waiter ≤ 100) (h2 : 1 ≤ x.holder ∧ x.holder ≤ 100) (hne : x.waiter ≠ x.holder) : addCode x l = 0 ∧ add x l = l ++ [x] :=
  add_yes ⟨isIdB_iff.2 (by omega), isIdB_iff.2 (by omega), isIdB_iff.2 (by omega), hne⟩ (h.has hx) (by have := h.2; omega)

end Go.Proofs.Ytlkoppmenpeepaa.B

import Derived.Test.YtjdkpebnaohonaaB7
namespace Go.Proofs.Ytjdkpebnaohonaa.B
open Go.RowKit Go.Proofs.Ytjdkpebnaohonaa.Sep Go.Proofs.Ytjdkpebnaohonaa.P
set_option maxRecDepth 100000 in
theorem open8 {W : World} {a : Array Value} (hl : a.size = 8) (h : Came Try.prog W 44 (Value.agg a).cells.toList) : ∃ p0 p1 p2 p3 p4 p5 p6 p7 : Int, a = #[.int .i64 p0, .int .i64 p1, .int .i64 p2, .int .i64 p3, .int .i64 p4, .int .i64 p5, .int .i64 p6, .int .i64 p7] := by
  obtain ⟨_, h⟩ := Came.array (k := 1) Try.underlying44 (by kernel_rfl) h
  obtain ⟨l⟩ := a
  match l, hl with
  | [a0, a1, a2, a3, a4, a5, a6, a7], _ =>
    have g : ∀ (i : Nat) (v : Value), i < 8 → [a0, a1, a2, a3, a4, a5, a6, a7][i]? = some v → ∃ z, v = .int .i64 z := by
      intro i v hi hv
      obtain ⟨z, e, _⟩ := Came.int Try.underlying3 (h i hi)
      refine ⟨z, ?_⟩
      have e2 : (([a0, a1, a2, a3, a4, a5, a6, a7].drop (i * 1)).take 1)[0]? = some v := by
        rw [List.getElem?_take, if_pos (by omega), List.getElem?_drop, Nat.mul_one, Nat.add_zero]; exact hv
      have e3 : (([a0, a1, a2, a3, a4, a5, a6, a7].drop (i * 1)).take 1) = [.int .i64 z] := e
      rw [e3] at e2
      exact (Option.some.inj e2).symm
    obtain ⟨p0, rfl⟩ := g 0 _ (by omega) rfl
    obtain ⟨p1, rfl⟩ := g 1 _ (by omega) rfl
    obtain ⟨p2, rfl⟩ := g 2 _ (by omega) rfl
    obtain ⟨p3, rfl⟩ := g 3 _ (by omega) rfl
    obtain ⟨p4, rfl⟩ := g 4 _ (by omega) rfl
    obtain ⟨p5, rfl⟩ := g 5 _ (by omega) rfl
    obtain ⟨p6, rfl⟩ := g 6 _ (by omega) rfl
    obtain ⟨p7, rfl⟩ := g 7 _ (by omega) rfl
    exact ⟨p0, p1, p2, p3, p4, p5, p6, p7, rfl⟩
end Go.Proofs.Ytjdkpebnaohonaa.B

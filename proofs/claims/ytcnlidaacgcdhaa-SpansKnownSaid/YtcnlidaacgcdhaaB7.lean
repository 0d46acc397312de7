import Derived.Test.YtcnlidaacgcdhaaB6
namespace Go.Proofs.Ytcnlidaacgcdhaa.B
open Go.RowKit Go.Proofs.Ytcnlidaacgcdhaa.Sep Go.Proofs.Ytcnlidaacgcdhaa.P
set_option linter.unusedVariables false
set_option maxRecDepth 100000 in
theorem open_span {W : World} {r : List Value} (hl : r.length = 2) (h : Came Try.prog W 29 r) : ∃ s : Span, r = sp s ∧ (s.1.length ≤ 140737488351232 ∧ s.2.length ≤ 140737488351232) := by
  obtain ⟨_, h⟩ := Came.struct Try.underlying29 h
  have h0 := h 0 _ rfl
  have h1 := h 1 _ rfl
  match r, hl with
  | [r0, r1], _ =>
    obtain ⟨z0, e0, l0⟩ := Came.string Try.underlying9 h0
    obtain ⟨z1, e1, l1⟩ := Came.string Try.underlying9 h1
    have q0 : r0 = .string z0 := (List.cons.inj (show [r0] = [Value.string z0] from e0)).1
    have q1 : r1 = .string z1 := (List.cons.inj (show [r1] = [Value.string z1] from e1)).1
    clear e0 e1 h0 h1 h
    obtain ⟨y0, rfl⟩ : ∃ y, z0 = str y := ⟨_, str_of z0⟩
    obtain ⟨y1, rfl⟩ : ∃ y, z1 = str y := ⟨_, str_of z1⟩
    rw [str_size] at l0 l1
    exact ⟨(y0, y1), by rw [q0, q1]; rfl, l0, l1⟩
theorem open_spans {W : World} {cs : List Value} (h : Came Try.prog W 22 cs) : ∃ A n c la, cs = [.slice A n c] ∧ la.length = n ∧ n ≤ c ∧ n ≤ 140737488351232 ∧ Reads W 2 A n (sps la) := by
  obtain ⟨A, n, c, rfl, h1, h2, rows, h3, h4, h5⟩ := Came.slice (k := 2) (B := 32) Try.underlying22 (by kernel_rfl) (by kernel_rfl) h
  obtain ⟨la, rfl, hg⟩ := spelt (f := sp) (p := fun s => s.1.length ≤ 140737488351232 ∧ s.2.length ≤ 140737488351232) fun r hr => open_span (h5 r hr).1 (h5 r hr).2
  exact ⟨A, n, c, la, rfl, by simpa using h3, h1, by omega, by rw [sps, List.flatMap_def]; exact h4⟩
end Go.Proofs.Ytcnlidaacgcdhaa.B

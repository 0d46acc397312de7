import Derived.Test.YtjdkpebnaohonaaB12
namespace Go.Proofs.Ytjdkpebnaohonaa.B
open Go.RowKit Go.Proofs.Ytjdkpebnaohonaa.Sep Go.Proofs.Ytjdkpebnaohonaa.P
set_option linter.unusedVariables false
def fits (x : Arc) : Prop := (-9223372036854775808 ≤ x.1 ∧ x.1 ≤ 9223372036854775807) ∧ (-9223372036854775808 ≤ x.2 ∧ x.2 ≤ 9223372036854775807)
theorem fit_int {z : Int} (h : (Lit.int .i64 z).wf = true) : -9223372036854775808 ≤ z ∧ z ≤ 9223372036854775807 := by
  simp [Lit.wf] at h
  have e : IntKind.i64.min = -9223372036854775808 := by decide
  rw [e] at h
  exact h
set_option maxRecDepth 100000 in
theorem open_arc {W : World} {r : List Value} (hl : r.length = 2) (h : Came Try.prog W 37 r) : ∃ x : Arc, r = eg x ∧ fits x := by
  obtain ⟨_, h⟩ := Came.array (k := 1) Try.underlying37 (by kernel_rfl) h
  match r, hl with
  | [r0, r1], _ =>
    obtain ⟨z0, e0, w0⟩ := Came.int Try.underlying3 (h 0 (by omega))
    obtain ⟨z1, e1, w1⟩ := Came.int Try.underlying3 (h 1 (by omega))
    have q0 : r0 = .int .i64 z0 := (List.cons.inj (show [r0] = [Value.int .i64 z0] from e0)).1
    have q1 : r1 = .int .i64 z1 := (List.cons.inj (show [r1] = [Value.int .i64 z1] from e1)).1
    exact ⟨(z0, z1), by rw [q0, q1]; rfl, fit_int w0, fit_int w1⟩
set_option maxRecDepth 100000 in
theorem open_who {W : World} {r : List Value} (hl : r.length = 2) (h : Came Try.prog W 34 r) : ∃ x : Arc, r = eg x ∧ fits x := by
  obtain ⟨_, h⟩ := Came.struct Try.underlying34 h
  have h0 := h 0 _ rfl
  have h1 := h 1 _ rfl
  match r, hl with
  | [r0, r1], _ =>
    obtain ⟨z0, e0, w0⟩ := Came.int Try.underlying3 h0
    obtain ⟨z1, e1, w1⟩ := Came.int Try.underlying3 h1
    have q0 : r0 = .int .i64 z0 := (List.cons.inj (show [r0] = [Value.int .i64 z0] from e0)).1
    have q1 : r1 = .int .i64 z1 := (List.cons.inj (show [r1] = [Value.int .i64 z1] from e1)).1
    exact ⟨(z0, z1), by rw [q0, q1]; rfl, fit_int w0, fit_int w1⟩
theorem open_arcs {W : World} {cs : List Value} (h : Came Try.prog W 22 cs) : ∃ A n c E, cs = [.slice A n c] ∧ E.length = n ∧ n ≤ c ∧ n ≤ 140737488351232 ∧ Reads W 2 A n (egs E) ∧ ∀ x ∈ E, fits x := by
  obtain ⟨A, n, c, rfl, h1, h2, rows, h3, h4, h5⟩ := Came.slice (k := 2) (B := 16) Try.underlying22 (by kernel_rfl) (by kernel_rfl) h
  obtain ⟨la, rfl, hg⟩ := spelt (f := eg) (p := fits) fun r hr => open_arc (h5 r hr).1 (h5 r hr).2
  exact ⟨A, n, c, la, rfl, by simpa using h3, h1, by omega, by rw [egs, List.flatMap_def]; exact h4, hg⟩
theorem open_whos {W : World} {cs : List Value} (h : Came Try.prog W 23 cs) : ∃ A n c E, cs = [.slice A n c] ∧ E.length = n ∧ n ≤ c ∧ n ≤ 140737488351232 ∧ Reads W 2 A n (egs E) ∧ ∀ x ∈ E, fits x := by
  obtain ⟨A, n, c, rfl, h1, h2, rows, h3, h4, h5⟩ := Came.slice (k := 2) (B := 16) Try.underlying23 (by kernel_rfl) (by kernel_rfl) h
  obtain ⟨la, rfl, hg⟩ := spelt (f := eg) (p := fits) fun r hr => open_who (h5 r hr).1 (h5 r hr).2
  exact ⟨A, n, c, la, rfl, by simpa using h3, h1, by omega, by rw [egs, List.flatMap_def]; exact h4, hg⟩
end Go.Proofs.Ytjdkpebnaohonaa.B

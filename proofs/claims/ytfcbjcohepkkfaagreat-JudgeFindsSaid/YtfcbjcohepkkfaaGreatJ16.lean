import Derived.Test.YtfcbjcohepkkfaaGreatJ15
import Derived.Test.YtfcbjcohepkkfaaGreatSepE
import Derived.Test.YtfcbjcohepkkfaaGreatSepY
namespace Go.Proofs.YtfcbjcohepkkfaaGreat.B
open Go.RowKit Go.Maps Go.Sort Go.Shelf Go.Proofs.YtfcbjcohepkkfaaGreat.Sep Go.Proofs.YtfcbjcohepkkfaaGreat.P
set_option linter.unusedVariables false
set_option linter.unusedSimpArgs false
/-! ### events that came in -/
set_option maxRecDepth 100000 in
theorem open_rw {W : World} {r : List Value} (hl : r.length = 2) (h : Came Tryz.prog W 115 r) : ∃ x : Rw, r = rv x ∧ True := by
 obtain ⟨_, h⟩ := Came.struct Tryz.underlying115 h
 have h0 := h 0 _ rfl
 have h1 := h 1 _ rfl
 match r, hl with
 | [r0, r1], _ =>
  obtain ⟨k, e0, _⟩ := Came.string Tryz.underlying9 h0
  obtain ⟨v, e1, _⟩ := Came.string Tryz.underlying9 h1
  have q0 : r0 = .string k := (List.cons.inj (show [r0] = [_] from e0)).1
  have q1 : r1 = .string v := (List.cons.inj (show [r1] = [_] from e1)).1
  exact ⟨⟨k.data.toList, v.data.toList⟩, by rw [q0, q1, str_of k, str_of v]; rfl, trivial⟩
theorem open_rws {W : World} {cs : List Value} (h : Came Tryz.prog W 33 cs) : ∃ A c l, cs = [.slice A l.length c] ∧ l.length ≤ 140737488351232 ∧ Reads W 2 A l.length (rws l) ∧ l.length ≤ c := by
 obtain ⟨A, n, c, rfl, h1, h2, rows, h3, h4, h5⟩ := Came.slice (k := 2) (B := 32) Tryz.underlying33 (by kernel_rfl) (by kernel_rfl) h
 obtain ⟨l, rfl, _⟩ := spelt (f := rv) (p := fun _ => True) fun r hr => open_rw (h5 r hr).1 (h5 r hr).2
 rw [List.length_map] at h3
 subst h3
 rw [← List.flatMap_def] at h4
 exact ⟨A, c, l, rfl, by omega, h4, h1⟩
/-- What is known of each event that came in. -/
def Eo (W : World) (x : Ev) : Prop := Reads W 2 x.A x.rows.length (rws x.rows) ∧ (x.rows.length ≤ 140737488351232 ∧ x.key.length ≤ 140737488351232) ∧ (-9223372036854775808 ≤ x.id ∧ x.id ≤ 9223372036854775807)
theorem wf_in {z : Int} (h : (Lit.int .i64 z).wf = true) : -9223372036854775808 ≤ z ∧ z ≤ 9223372036854775807 := by
 have a : IntKind.min .i64 = -9223372036854775808 := rfl
 have b : IntKind.max .i64 = 9223372036854775807 := rfl
 simp [Lit.wf] at h
 omega
set_option maxRecDepth 100000 in
set_option maxHeartbeats 1000000 in
theorem open_ev {W : World} {r : List Value} (hl : r.length = 16) (h : Came Tryz.prog W 37 r) : ∃ x : Ev, r = evv x ∧ Eo W x := by
 obtain ⟨_, h⟩ := Came.struct Tryz.underlying37 h
 have f0 := h 0 _ rfl
 have f1 := h 1 _ rfl
 have f2 := h 2 _ rfl
 have f3 := h 3 _ rfl
 have f4 := h 4 _ rfl
 have f5 := h 5 _ rfl
 have f6 := h 6 _ rfl
 have f7 := h 7 _ rfl
 have f8 := h 8 _ rfl
 have f9 := h 9 _ rfl
 have f10 := h 10 _ rfl
 have f11 := h 11 _ rfl
 have f12 := h 12 _ rfl
 have f13 := h 13 _ rfl
 obtain ⟨_, f8⟩ := Came.struct Tryz.underlying32 f8
 have g8 := f8 0 _ rfl
 have g9 := f8 1 _ rfl
 obtain ⟨_, f11⟩ := Came.struct Tryz.underlying35 f11
 have g12 := f11 0 _ rfl
 have g13 := f11 1 _ rfl
 match r, hl with
 | [r0, r1, r2, r3, r4, r5, r6, r7, r8, r9, r10, r11, r12, r13, r14, r15], _ =>
  obtain ⟨z0, e0, _⟩ := Came.int Tryz.underlying3 f0
  obtain ⟨z1, e1, _⟩ := Came.int Tryz.underlying3 f1
  obtain ⟨z2, e2, _⟩ := Came.int Tryz.underlying3 f2
  obtain ⟨z3, e3, w3⟩ := Came.int Tryz.underlying3 f3
  obtain ⟨z4, e4, _⟩ := Came.int Tryz.underlying3 f4
  obtain ⟨z5, e5, _⟩ := Came.int Tryz.underlying3 f5
  obtain ⟨k6, e6, hk⟩ := Came.string Tryz.underlying9 f6
  obtain ⟨k7, e7, _⟩ := Came.string Tryz.underlying9 f7
  obtain ⟨k8, e8, _⟩ := Came.string Tryz.underlying9 g8
  obtain ⟨k9, e9, _⟩ := Came.string Tryz.underlying9 g9
  obtain ⟨b10, e10⟩ := Came.bool Tryz.underlying4 f9
  obtain ⟨A, c, l, e11, hn, hR, hcap⟩ := open_rws f10
  obtain ⟨z12, e12, _⟩ := Came.int Tryz.underlying3 g12
  obtain ⟨z13, e13, _⟩ := Came.int Tryz.underlying3 g13
  obtain ⟨z14, e14, _⟩ := Came.int Tryz.underlying24 f12
  obtain ⟨z15, e15, _⟩ := Came.int Tryz.underlying3 f13
  have q0 : r0 = .int .i64 z0 := (List.cons.inj (show [r0] = [_] from e0)).1
  have q1 : r1 = .int .i64 z1 := (List.cons.inj (show [r1] = [_] from e1)).1
  have q2 : r2 = .int .i64 z2 := (List.cons.inj (show [r2] = [_] from e2)).1
  have q3 : r3 = .int .i64 z3 := (List.cons.inj (show [r3] = [_] from e3)).1
  have q4 : r4 = .int .i64 z4 := (List.cons.inj (show [r4] = [_] from e4)).1
  have q5 : r5 = .int .i64 z5 := (List.cons.inj (show [r5] = [_] from e5)).1
  have q6 : r6 = .string k6 := (List.cons.inj (show [r6] = [_] from e6)).1
  have q7 : r7 = .string k7 := (List.cons.inj (show [r7] = [_] from e7)).1
  have q8 : r8 = .string k8 := (List.cons.inj (show [r8] = [_] from e8)).1
  have q9 : r9 = .string k9 := (List.cons.inj (show [r9] = [_] from e9)).1
  have q10 : r10 = .bool b10 := (List.cons.inj (show [r10] = [_] from e10)).1
  have q11 : r11 = .slice A l.length c := (List.cons.inj (show [r11] = [_] from e11)).1
  have q12 : r12 = .int .i64 z12 := (List.cons.inj (show [r12] = [_] from e12)).1
  have q13 : r13 = .int .i64 z13 := (List.cons.inj (show [r13] = [_] from e13)).1
  have q14 : r14 = .int .i64 z14 := (List.cons.inj (show [r14] = [_] from e14)).1
  have q15 : r15 = .int .i64 z15 := (List.cons.inj (show [r15] = [_] from e15)).1
  exact ⟨⟨z0, z1, z2, z3, z4, z5, k6.data.toList, k7.data.toList, k8.data.toList, k9.data.toList, b10, l, A, c, z12, z13, z14, z15⟩, by rw [q0, q1, q2, q3, q4, q5, q6, q7, q8, q9, q10, q11, q12, q13, q14, q15, str_of k6, str_of k7, str_of k8, str_of k9]; rfl, hR, ⟨hn, hk⟩, wf_in w3⟩
theorem open_evs {W : World} {cs : List Value} (h : Came Tryz.prog W 22 cs) : ∃ A c l, cs = [.slice A l.length c] ∧ EvsIn A l W ∧ (l.length ≤ c ∧ l.length ≤ 140737488351232) ∧ ∀ x ∈ l, Eo W x := by
 obtain ⟨A, n, c, rfl, h1, h2, rows, h3, h4, h5⟩ := Came.slice (k := 16) (B := 176) Tryz.underlying22 (by kernel_rfl) (by kernel_rfl) h
 obtain ⟨l, rfl, hp⟩ := spelt (f := evv) fun r hr => open_ev (h5 r hr).1 (h5 r hr).2
 rw [List.length_map] at h3
 subst h3
 rw [← List.flatMap_def] at h4
 exact ⟨A, c, l, rfl, ⟨h4, fun x hx => (hp x hx).1⟩, ⟨h1, by omega⟩, hp⟩
theorem Old.evs {W : World} {L : List Chunk} {A : Option Addr} {l : List Ev} (h : EvsIn A l W) : Knows (Old W :: L) (EvsIn A l) := fun w s => ⟨Old.reads h.1 w s, fun x hx => Old.reads (h.2 x hx) w s⟩
theorem EvsIn.take {A : Option Addr} {l : List Ev} {w : World} (h : EvsIn A l w) {n : Nat} (hn : n ≤ l.length) : EvsIn A (l.take n) w := ⟨reads_evs_take h.1 hn, fun x hx => h.2 x (List.mem_of_mem_take hx)⟩
/-! ### what the rules 1 to 6 find -/
end Go.Proofs.YtfcbjcohepkkfaaGreat.B

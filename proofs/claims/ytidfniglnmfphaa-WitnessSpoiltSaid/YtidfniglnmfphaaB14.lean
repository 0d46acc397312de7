import Derived.Test.YtidfniglnmfphaaB13
namespace Go.Proofs.Ytidfniglnmfphaa.B
open Go.RowKit Go.Maps Go.Sort Go.Shelf Go.Proofs.Ytidfniglnmfphaa.Sep Go.Proofs.Ytidfniglnmfphaa.P
set_option linter.unusedVariables false
set_option linter.unusedSimpArgs false
/-! ### what came in, opened -/
set_option maxRecDepth 100000 in
theorem open_rw {W : World} {r : List Value} (hl : r.length = 2) (h : Came Try.prog W 54 r) : ∃ x : Rw, r = rv x ∧ True := by
  obtain ⟨_, h⟩ := Came.struct Try.underlying54 h
  have h0 := h 0 _ rfl
  have h1 := h 1 _ rfl
  match r, hl with
  | [r0, r1], _ =>
    obtain ⟨k, e0, _⟩ := Came.string Try.underlying9 h0
    obtain ⟨v, e1, _⟩ := Came.string Try.underlying9 h1
    have q0 : r0 = .string k := (List.cons.inj (show [r0] = [_] from e0)).1
    have q1 : r1 = .string v := (List.cons.inj (show [r1] = [_] from e1)).1
    exact ⟨⟨k.data.toList, v.data.toList⟩, by rw [q0, q1, str_of k, str_of v]; rfl, trivial⟩
theorem open_rws {W : World} {cs : List Value} (h : Came Try.prog W 35 cs) : ∃ A c l, cs = [.slice A l.length c] ∧ l.length ≤ 140737488351232 ∧ Reads W 2 A l.length (rws l) ∧ l.length ≤ c := by
  obtain ⟨A, n, c, rfl, h1, h2, rows, h3, h4, h5⟩ := Came.slice (k := 2) (B := 32) Try.underlying35 (by kernel_rfl) (by kernel_rfl) h
  obtain ⟨l, rfl, _⟩ := spelt (f := rv) (p := fun _ => True) fun r hr => open_rw (h5 r hr).1 (h5 r hr).2
  rw [List.length_map] at h3
  subst h3
  rw [← List.flatMap_def] at h4
  exact ⟨A, c, l, rfl, by omega, h4, h1⟩
set_option maxRecDepth 100000 in
theorem open_did {W : World} {r : List Value} (hl : r.length = 7) (h : Came Try.prog W 51 r) : ∃ x : Dd, r = dv x ∧ (Reads W 2 x.A x.t.rows.length (rws x.t.rows) ∧ (x.t.rows.length ≤ 140737488351232 ∧ x.t.key.length ≤ 140737488351232) ∧ x.t.rows.length ≤ x.c ∧ x.t.val.length ≤ 140737488351232) := by
  obtain ⟨_, h⟩ := Came.struct Try.underlying51 h
  have h0 := h 0 _ rfl
  have h1 := h 1 _ rfl
  have h2 := h 2 _ rfl
  have h3 := h 3 _ rfl
  have h4 := h 4 _ rfl
  have h5 := h 5 _ rfl
  obtain ⟨_, h3⟩ := Came.struct Try.underlying49 h3
  have h6 := h3 0 _ rfl
  have h7 := h3 1 _ rfl
  match r, hl with
  | [r0, r1, r2, r3, r4, r5, r6], _ =>
    obtain ⟨op, e0, _⟩ := Came.int Try.underlying3 h0
    obtain ⟨k, e1, hk⟩ := Came.string Try.underlying9 h1
    obtain ⟨v, e2, hv⟩ := Came.string Try.underlying9 h2
    obtain ⟨sf, e3, _⟩ := Came.string Try.underlying9 h6
    obtain ⟨stt, e4, _⟩ := Came.string Try.underlying9 h7
    obtain ⟨b, e5⟩ := Came.bool Try.underlying4 h4
    obtain ⟨A, c, l, e6, hn, hR, hcap⟩ := open_rws h5
    have q0 : r0 = .int .i64 op := (List.cons.inj (show [r0] = [_] from e0)).1
    have q1 : r1 = .string k := (List.cons.inj (show [r1] = [_] from e1)).1
    have q2 : r2 = .string v := (List.cons.inj (show [r2] = [_] from e2)).1
    have q3 : r3 = .string sf := (List.cons.inj (show [r3] = [_] from e3)).1
    have q4 : r4 = .string stt := (List.cons.inj (show [r4] = [_] from e4)).1
    have q5 : r5 = .bool b := (List.cons.inj (show [r5] = [_] from e5)).1
    have q6 : r6 = .slice A l.length c := (List.cons.inj (show [r6] = [_] from e6)).1
    exact ⟨⟨⟨op, k.data.toList, v.data.toList, sf.data.toList, stt.data.toList, b, l⟩, A, c⟩, by rw [q0, q1, q2, q3, q4, q5, q6, str_of k, str_of v, str_of sf, str_of stt]; rfl, hR, ⟨hn, hk⟩, hcap, hv⟩
/-- Rows of answers have room for what they hold. -/
def Cl (l : List Dd) : Prop := ∀ x ∈ l, x.t.rows.length ≤ x.c ∧ x.t.val.length ≤ 140737488351232
def Cb (ds : List Dn) : Prop := ∀ d ∈ ds, Cl d.l
theorem open_dids {W : World} {cs : List Value} (h : Came Try.prog W 25 cs) : ∃ A c l, cs = [.slice A l.length c] ∧ DidsIn A l W ∧ Bl l ∧ Cl l := by
  obtain ⟨A, n, c, rfl, h1, h2, rows, h3, h4, h5⟩ := Came.slice (k := 7) (B := 104) Try.underlying25 (by kernel_rfl) (by kernel_rfl) h
  obtain ⟨l, rfl, hp⟩ := spelt (f := dv) fun r hr => open_did (h5 r hr).1 (h5 r hr).2
  rw [List.length_map] at h3
  subst h3
  rw [← List.flatMap_def] at h4
  exact ⟨A, c, l, rfl, ⟨h4, fun x hx => (hp x hx).1⟩, ⟨by omega, fun x hx => (hp x hx).2.1⟩, fun x hx => (hp x hx).2.2⟩
set_option maxRecDepth 100000 in
theorem open_done {W : World} {r : List Value} (hl : r.length = 4) (h : Came Try.prog W 27 r) : ∃ x : Dn, r = nv x ∧ (DidsIn x.A x.l W ∧ Bl x.l ∧ Cl x.l) := by
  obtain ⟨_, h⟩ := Came.struct Try.underlying27 h
  have h0 := h 0 _ rfl
  have h1 := h 1 _ rfl
  have h2 := h 2 _ rfl
  obtain ⟨_, h1⟩ := Came.struct Try.underlying24 h1
  have h3 := h1 0 _ rfl
  have h4 := h1 1 _ rfl
  match r, hl with
  | [r0, r1, r2, r3], _ =>
    obtain ⟨z0, e0, _⟩ := Came.int Try.underlying3 h0
    obtain ⟨z1, e1, _⟩ := Came.int Try.underlying3 h3
    obtain ⟨z2, e2, _⟩ := Came.int Try.underlying3 h4
    obtain ⟨A, c, l, e3, hd, hb, hcl⟩ := open_dids h2
    have q0 : r0 = .int .i64 z0 := (List.cons.inj (show [r0] = [_] from e0)).1
    have q1 : r1 = .int .i64 z1 := (List.cons.inj (show [r1] = [_] from e1)).1
    have q2 : r2 = .int .i64 z2 := (List.cons.inj (show [r2] = [_] from e2)).1
    have q3 : r3 = .slice A l.length c := (List.cons.inj (show [r3] = [_] from e3)).1
    exact ⟨⟨z0, z1, z2, A, c, l⟩, by rw [q0, q1, q2, q3], hd, hb, hcl⟩
theorem open_dones {W : World} {cs : List Value} (h : Came Try.prog W 22 cs) : ∃ A c ds, cs = [.slice A ds.length c] ∧ DonesIn A ds W ∧ Bn ds ∧ ds.length ≤ c ∧ Cb ds := by
  obtain ⟨A, n, c, rfl, h1, h2, rows, h3, h4, h5⟩ := Came.slice (k := 4) (B := 48) Try.underlying22 (by kernel_rfl) (by kernel_rfl) h
  obtain ⟨l, rfl, hp⟩ := spelt (f := nv) fun r hr => open_done (h5 r hr).1 (h5 r hr).2
  rw [List.length_map] at h3
  subst h3
  rw [← List.flatMap_def] at h4
  exact ⟨A, c, l, rfl, ⟨h4, fun x hx => (hp x hx).1⟩, ⟨by omega, fun x hx => (hp x hx).2.1⟩, h1, fun x hx => (hp x hx).2.2⟩
end Go.Proofs.Ytidfniglnmfphaa.B

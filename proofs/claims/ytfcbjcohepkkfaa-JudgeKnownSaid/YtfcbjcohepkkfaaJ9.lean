import Derived.Test.YtfcbjcohepkkfaaJ8
namespace Go.Proofs.Ytfcbjcohepkkfaa.B
open Go.RowKit Go.Maps Go.Sort Go.Shelf Go.Proofs.Ytfcbjcohepkkfaa.Sep Go.Proofs.Ytfcbjcohepkkfaa.P
set_option linter.unusedVariables false
set_option linter.unusedSimpArgs false
/-! ### order: how its answer lies in memory -/
def Inn (e2 : Nat) (ds : List Dn) : Chunk := star (ds.map fun d => Own e2 7 d.A d.l.length d.c (dvs d.l))
def IRest (e2 : Nat) (ds : List Dn) (i : Nat) : Chunk := star ((ds.map fun d => Own e2 7 d.A d.l.length d.c (dvs d.l)).eraseIdx i)
structure At where
  l : List Nat
  A : Option Addr
  c : Nat
def atv (a : At) : List Value := [.slice a.A a.l.length a.c]
def ats (l : List At) : List Value := l.map fun a => .slice a.A a.l.length a.c
def InnA (l : List At) : Chunk := star (l.map fun a => Own 3 1 a.A a.l.length a.c (nats a.l))
def ARest (l : List At) (i : Nat) : Chunk := star ((l.map fun a => Own 3 1 a.A a.l.length a.c (nats a.l)).eraseIdx i)
/-- Things owned, one for each entry of a list: opened, closed, one more. -/
theorem star_open {γ : Type} {F : γ → Chunk} {W w : World} {L : List Chunk} {i : Nat} {l : List γ} {x : γ} (hd : l[i]? = some x) (s : St W (star (l.map F) :: L) w) : St W (F x :: star ((l.map F).eraseIdx i) :: L) w := by
  have s1 := Sat.star_iff.1 s.1
  have h : (l.map F)[i]? = some (F x) := by rw [List.getElem?_map, hd]; rfl
  have s2 : St W (F x :: ((l.map F).eraseIdx i ++ L)) w := by
    refine St.perm ⟨s1, s.2⟩ ?_
    exact (perm_at h).append_right L
  have s3 : St W ((l.map F).eraseIdx i ++ (F x :: L)) w := s2.perm List.perm_middle.symm
  exact (show St W (star ((l.map F).eraseIdx i) :: F x :: L) w from ⟨Sat.star_iff.2 s3.1, s3.2⟩).perm (List.Perm.swap _ _ _)
theorem star_close {γ : Type} {F : γ → Chunk} {W w : World} {L : List Chunk} {i : Nat} {l : List γ} {x : γ} (hd : l[i]? = some x) (y : γ) (s : St W (F y :: star ((l.map F).eraseIdx i) :: L) w) : St W (star ((l.set i y).map F) :: L) w := by
  have s1 := s.perm (List.Perm.swap _ _ _)
  have s2 := Sat.star_iff.1 s1.1
  refine ⟨Sat.star_iff.2 ?_, s.2⟩
  rw [List.map_set]
  have h : (l.map F)[i]? = some (F x) := by rw [List.getElem?_map, hd]; rfl
  refine Sat.perm s2 ?_
  refine List.perm_middle.trans ?_
  exact (perm_set h (F y)).append_right L
theorem star_snoc {γ : Type} {F : γ → Chunk} {W w : World} {L : List Chunk} {l : List γ} (x : γ) (s : St W (F x :: star (l.map F) :: L) w) : St W (star ((l ++ [x]).map F) :: L) w := by
  have s1 := s.perm (List.Perm.swap _ _ _)
  have s2 := Sat.star_iff.1 s1.1
  refine ⟨Sat.star_iff.2 ?_, s.2⟩
  simpa using s2
theorem star_nil {γ : Type} {F : γ → Chunk} {W w : World} {L : List Chunk} (s : St W L w) : St W (star (([] : List γ).map F) :: L) w := ⟨Sat.star_iff.2 s.1, s.2⟩
def didOf (x : Ev) : Dd := ⟨⟨x.op, x.key, x.val, x.frm, x.to, x.is, x.rows⟩, x.A, x.c⟩
/-- What lies in memory is what the plain order says. -/
structure OrdOk (acc : List Pl) (ds : List Dn) (rs : List At) (D : List (Int × Value)) : Prop where
  all : ds.map (fun d => (d.id, d.wall, d.logic, d.l)) = acc.map fun q => (q.id, q.wall, q.logic, q.th.map fun p => didOf p.2)
  at_ : rs.map (·.l) = acc.map fun q => q.th.map (·.1)
  place : ∀ i, mget D i = (acc.findIdx? fun q => decide (q.id = i)).map fun n => .int .i64 ((n : Nat) : Int)
  small : D.length ≤ acc.length
theorem OrdOk.start : OrdOk [] [] [] [] := ⟨rfl, rfl, fun i => rfl, Nat.le_refl _⟩
theorem OrdOk.len {acc : List Pl} {ds : List Dn} {rs : List At} {D : List (Int × Value)} (h : OrdOk acc ds rs D) : ds.length = acc.length ∧ rs.length = acc.length := by
  have h1 := congrArg List.length h.all
  have h2 := congrArg List.length h.at_
  simp only [List.length_map] at h1 h2
  exact ⟨h1, h2⟩
/-- A transaction more. -/
theorem OrdOk.new {acc : List Pl} {ds : List Dn} {rs : List At} {D : List (Int × Value)} (h : OrdOk acc ds rs D) {i wall logic : Int} (hi : (acc.findIdx? fun q => decide (q.id = i)) = none) : OrdOk (acc ++ [⟨i, wall, logic, []⟩]) (ds ++ [⟨i, wall, logic, none, 0, []⟩]) (rs ++ [⟨[], none, 0⟩]) (mput D i (.int .i64 ((acc.length : Nat) : Int))) := by
  refine ⟨by rw [List.map_append, List.map_append, h.all]; rfl, by rw [List.map_append, List.map_append, h.at_]; rfl, fun j => ?_, ?_⟩
  · rw [mget_mput, List.findIdx?_append]
    by_cases hj : j = i
    · subst hj
      rw [if_pos rfl, hi]
      simp [List.findIdx?_cons]
    · rw [if_neg hj, h.place]
      cases e : acc.findIdx? fun q => decide (q.id = j) with
      | some n => simp
      | none => simp [List.findIdx?_cons, Ne.symm hj]
  · have := mput_length_le D i (.int .i64 ((acc.length : Nat) : Int)); have := h.small; rw [List.length_append]; simp; omega
/-- A thing more, of a transaction that is there. -/
theorem OrdOk.add {acc : List Pl} {ds : List Dn} {rs : List At} {D : List (Int × Value)} (h : OrdOk acc ds rs D) {n k : Nat} {x : Ev} {q : Pl} {d : Dn} {a : At} (hq : acc[n]? = some q) (hd : ds[n]? = some d) (ha : rs[n]? = some a) (A1 A2 : Option Addr) (c1 c2 : Nat) : OrdOk (acc.set n { q with th := q.th ++ [(k, x)] }) (ds.set n { d with A := A1, c := c1, l := d.l ++ [didOf x] }) (rs.set n ⟨a.l ++ [k], A2, c2⟩) D := by
  have e1 : (d.id, d.wall, d.logic, d.l) = (q.id, q.wall, q.logic, q.th.map fun p => didOf p.2) := by
    have := congrArg (·[n]?) h.all
    simp only [List.getElem?_map, hq, hd, Option.map_some] at this
    exact Option.some.inj this
  have e2 : a.l = q.th.map (·.1) := by
    have := congrArg (·[n]?) h.at_
    simp only [List.getElem?_map, hq, ha, Option.map_some] at this
    exact Option.some.inj this
  simp only [Prod.mk.injEq] at e1
  refine ⟨by rw [List.map_set, List.map_set, h.all]; simp [e1], by rw [List.map_set, List.map_set, h.at_]; simp [e2], fun i => ?_, by rw [List.length_set]; exact h.small⟩
  rw [h.place]
  congr 1
  have : ∀ (l : List Pl) (m : Nat) (y : Pl), l[m]? = some y → (l.set m { y with th := y.th ++ [(k, x)] }).findIdx? (fun q => decide (q.id = i)) = l.findIdx? fun q => decide (q.id = i) := by
    intro l
    induction l with
    | nil => intro m y h; cases h
    | cons z l ih =>
      intro m y hm
      cases m with
      | zero => cases hm; simp [List.findIdx?_cons]
      | succ m => rw [List.set_cons_succ, List.findIdx?_cons, List.findIdx?_cons, ih m y hm]
  exact (this acc n q hq).symm

end Go.Proofs.Ytfcbjcohepkkfaa.B

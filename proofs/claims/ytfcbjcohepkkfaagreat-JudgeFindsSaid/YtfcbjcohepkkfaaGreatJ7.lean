import Derived.Test.YtfcbjcohepkkfaaGreatJ6
import Derived.Test.YtfcbjcohepkkfaaGreatSepY
namespace Go.Proofs.YtfcbjcohepkkfaaGreat.B
open Go.RowKit Go.Maps Go.Sort Go.Shelf Go.Proofs.YtfcbjcohepkkfaaGreat.Sep Go.Proofs.YtfcbjcohepkkfaaGreat.P
set_option linter.unusedVariables false
set_option linter.unusedSimpArgs false
/-! ### Find: the rules 1 to 6 -/
theorem find_at {s0 : Look} {l : List Ev} {i r : Nat} {x : Ev} (h : findL s0 (l.take i) 0 = none) (hx : l[i]? = some x) (hr : ruleL ((l.take i).foldl seeL s0) x = r) (h0 : r ≠ 0) : findL s0 l 0 = some (r, i) := by
 obtain ⟨hi, e⟩ := List.getElem?_eq_some_iff.1 hx
 have e2 : l = l.take i ++ (x :: l.drop (i + 1)) := by rw [← e, ← List.drop_eq_getElem_cons hi, List.take_append_drop]
 have h2 := findL_append s0 (l.take i) (x :: l.drop (i + 1)) 0
 rw [← e2, h, Option.none_or] at h2
 rw [h2]
 unfold findL
 rw [hr, if_neg h0, List.length_take, Nat.min_eq_left (by omega), Nat.zero_add]
theorem find_step {s0 : Look} {l : List Ev} {i : Nat} {x : Ev} (h : findL s0 (l.take i) 0 = none) (hx : l[i]? = some x) (hr : ruleL ((l.take i).foldl seeL s0) x = 0) : findL s0 (l.take (i + 1)) 0 = none := by
 rw [take_snoc hx, findL_append, h, Option.none_or]
 unfold findL
 rw [if_pos hr]; rfl
theorem fold_step {s0 : Look} {l : List Ev} {i : Nat} {x : Ev} (hx : l[i]? = some x) : (l.take (i + 1)).foldl seeL s0 = seeL ((l.take i).foldl seeL s0) x := by
 rw [take_snoc hx, List.foldl_append]; rfl
theorem LkOk.start (l : List Ev) : LkOk (startL l) [] [] 0 := ⟨fun m => rfl, fun i => rfl, List.nodup_nil, ⟨Nat.le_refl _, Nat.le_refl _⟩, by unfold startL; simp⟩

end Go.Proofs.YtfcbjcohepkkfaaGreat.B

/-
 The transactions that are committed, with what they did, and at which events: in the order of their first events. Plain.
-/
namespace Go.Proofs.YtfcbjcohepkkfaaGreat.P
open Go.Proofs.YtfcbjcohepkkfaaGreat.B Go.Proofs.YtfcbjcohepkkfaaGreat.Sep
set_option linter.unusedVariables false
structure Pl where
 id : Int
 wall : Int
 logic : Int
 th : List (Nat × Ev)
/-- Is an event something that a transaction did in an epoch? -/
def didB (ep : Int) (x : Ev) : Bool := x.kind == 3 && x.epoch == ep && x.err == 0 && decide (x.op ≤ 5)
def newPl (t : Tx) (i : Int) (acc : List Pl) : List Pl := if acc.any (fun q => decide (q.id = i)) then acc else acc ++ [⟨i, t.wall, t.logic, []⟩]
def addPl (p : Nat × Ev) (acc : List Pl) : List Pl := acc.map fun q => if q.id = p.2.id then { q with th := q.th ++ [p] } else q
def ordStep (tx : Int → Tx) (acc : List Pl) (p : Nat × Ev) : List Pl :=
 if hasB p.2 && (tx p.2.id).comm then (if didB (tx p.2.id).epoch p.2 then addPl p (newPl (tx p.2.id) p.2.id acc) else newPl (tx p.2.id) p.2.id acc) else acc
def numd (l : List Ev) : List (Nat × Ev) := l.zipIdx.map fun x => (x.2, x.1)
def ordL (tx : Int → Tx) (l : List Ev) : List Pl := (numd l).foldl (ordStep tx) []
theorem numd_take {l : List Ev} {i : Nat} {x : Ev} (h : l[i]? = some x) : numd (l.take (i + 1)) = numd (l.take i) ++ [(i, x)] := by
 obtain ⟨hi, _⟩ := List.getElem?_eq_some_iff.1 h
 rw [take_snoc h]
 unfold numd
 rw [List.zipIdx_append, List.map_append, List.length_take, Nat.min_eq_left (by omega)]
 simp
theorem ordL_step {tx : Int → Tx} {l : List Ev} {i : Nat} {x : Ev} (h : l[i]? = some x) : ordL tx (l.take (i + 1)) = ordStep tx (ordL tx (l.take i)) (i, x) := by
 unfold ordL; rw [numd_take h, List.foldl_append]; rfl
theorem newPl_mem {t : Tx} {i : Int} {acc : List Pl} (hn : (acc.map (·.id)).Nodup) : (newPl t i acc).map (·.id) = (if i ∈ acc.map (·.id) then acc.map (·.id) else acc.map (·.id) ++ [i]) ∧ ((newPl t i acc).map (·.id)).Nodup := by
 unfold newPl
 by_cases h : i ∈ acc.map (·.id)
 ·
  obtain ⟨q, hq, e⟩ := List.mem_map.1 h
  have : acc.any (fun q => decide (q.id = i)) = true := List.any_eq_true.2 ⟨q, hq, by simpa using e⟩
  rw [if_pos this, if_pos h]; exact ⟨rfl, hn⟩
 have : ¬ acc.any (fun q => decide (q.id = i)) = true := fun h2 => by
  obtain ⟨q, hq, e⟩ := List.any_eq_true.1 h2
  exact h (List.mem_map.2 ⟨q, hq, by simpa using e⟩)
 rw [if_neg this, if_neg h, List.map_append]
 refine ⟨rfl, List.nodup_append.2 ⟨hn, by simp, fun a ha b hb => ?_⟩⟩
 rw [List.map_cons, List.map_nil, List.mem_singleton] at hb
 rintro rfl
 subst hb; exact h ha
theorem addPl_ids (p : Nat × Ev) (acc : List Pl) : (addPl p acc).map (·.id) = acc.map (·.id) := by
 unfold addPl; rw [List.map_map]
 apply List.map_congr_left
 intro q _
 simp only [Function.comp]
 split <;> rfl
theorem addPl_at {p : Nat × Ev} {acc : List Pl} (hn : (acc.map (·.id)).Nodup) {n : Nat} {q : Pl} (h : acc[n]? = some q) (hi : q.id = p.2.id) : addPl p acc = acc.set n { q with th := q.th ++ [p] } := by
 obtain ⟨hn2, e⟩ := List.getElem?_eq_some_iff.1 h
 apply List.ext_getElem?
 intro r
 unfold addPl
 rw [List.getElem?_map, List.getElem?_set]
 by_cases hr : n = r
 ·
  subst hr; rw [if_pos rfl, if_pos hn2, h]; simp [hi]
 rw [if_neg hr]
 cases e2 : acc[r]? with
 | none => rfl
 | some y =>
  have hy : ¬ y.id = p.2.id := fun h3 => by
   have h4 : (acc.map (·.id))[n]? = some p.2.id := by rw [List.getElem?_map, h]; simp [hi]
   have h5 : (acc.map (·.id))[r]? = some p.2.id := by rw [List.getElem?_map, e2]; simp [h3]
   obtain ⟨a1, a2⟩ := List.getElem?_eq_some_iff.1 h4
   obtain ⟨b1, b2⟩ := List.getElem?_eq_some_iff.1 h5
   exact hr ((List.getElem_inj hn).1 (a2.trans b2.symm))
  simp [hy]
theorem ordStep_ids {tx : Int → Tx} {acc : List Pl} {p : Nat × Ev} (hn : (acc.map (·.id)).Nodup) : ((ordStep tx acc p).map (·.id)).Nodup := by
 unfold ordStep
 split
 ·
  split
  ·
   rw [addPl_ids]; exact (newPl_mem hn).2
  exact (newPl_mem hn).2
 exact hn
theorem ordL_ids (tx : Int → Tx) (l : List Ev) : ((ordL tx l).map (·.id)).Nodup := by
 have : ∀ (m : List (Nat × Ev)) (acc : List Pl), (acc.map (·.id)).Nodup → ((m.foldl (ordStep tx) acc).map (·.id)).Nodup := by
  intro m
  induction m with
  | nil => intro acc h; exact h
  | cons p m ih => intro acc h; exact ih _ (ordStep_ids h)
 exact this _ [] List.nodup_nil
end Go.Proofs.YtfcbjcohepkkfaaGreat.P

namespace Go.Proofs.YtfcbjcohepkkfaaGreat.B
open Go.RowKit Go.Maps Go.Sort Go.Shelf Go.Proofs.YtfcbjcohepkkfaaGreat.Sep Go.Proofs.YtfcbjcohepkkfaaGreat.P
set_option linter.unusedVariables false
set_option linter.unusedSimpArgs false
/-! ### order: how its answer lies in memory -/
def Inn (e2 : Nat) (ds : List Dn) : Chunk := star (ds.map fun d => Own e2 7 d.A d.l.length d.c (dvs d.l))
structure At where
 l : List Nat
 A : Option Addr
 c : Nat
def atv (a : At) : List Value := [.slice a.A a.l.length a.c]
def ats (l : List At) : List Value := l.map fun a => .slice a.A a.l.length a.c
def InnA (l : List At) : Chunk := star (l.map fun a => Own 3 1 a.A a.l.length a.c (nats a.l))
/-- Things owned, one for each entry of a list: opened, closed, one more. -/
theorem star_open {γ : Type} {F : γ → Chunk} {W w : World} {L : List Chunk} {i : Nat} {l : List γ} {x : γ} (hd : l[i]? = some x) (s : St W (star (l.map F) :: L) w) : St W (F x :: star ((l.map F).eraseIdx i) :: L) w := by
 have s1 := Sat.star_iff.1 s.1
 have h : (l.map F)[i]? = some (F x) := by rw [List.getElem?_map, hd]; rfl
 have s2 : St W (F x :: ((l.map F).eraseIdx i ++ L)) w := by
  refine St.perm ⟨s1, s.2⟩ ?_
  exact (perm_at h).append_right L
 have s3 : St W ((l.map F).eraseIdx i ++ (F x :: L)) w := s2.perm List.perm_middle.symm
 exact (show St W (star ((l.map F).eraseIdx i) :: F x :: L) w from ⟨Sat.star_iff.2 s3.1, s3.2⟩).perm (List.Perm.swap _ _ _)
theorem star_close {γ : Type} {F : γ → Chunk} {W w : World} {L : List Chunk} {i : Nat} {l : List γ} {x : γ} (hd : l[i]? = some x) (y : γ) (s : St W (F y :: star ((l.map F).eraseIdx i) :: L) w) : St W (star ((l.set i y).map F) :: L) w := by
 have s1 := s.perm (List.Perm.swap _ _ _)
 have s2 := Sat.star_iff.1 s1.1
 refine ⟨Sat.star_iff.2 ?_, s.2⟩
 rw [List.map_set]
 have h : (l.map F)[i]? = some (F x) := by rw [List.getElem?_map, hd]; rfl
 refine Sat.perm s2 ?_
 refine List.perm_middle.trans ?_
 exact (perm_set h (F y)).append_right L
theorem star_snoc {γ : Type} {F : γ → Chunk} {W w : World} {L : List Chunk} {l : List γ} (x : γ) (s : St W (F x :: star (l.map F) :: L) w) : St W (star ((l ++ [x]).map F) :: L) w := by
 have s1 := s.perm (List.Perm.swap _ _ _)
 have s2 := Sat.star_iff.1 s1.1
 refine ⟨Sat.star_iff.2 ?_, s.2⟩
 simpa using s2
theorem star_nil {γ : Type} {F : γ → Chunk} {W w : World} {L : List Chunk} (s : St W L w) : St W (star (([] : List γ).map F) :: L) w := ⟨Sat.star_iff.2 s.1, s.2⟩
def didOf (x : Ev) : Dd := ⟨⟨x.op, x.key, x.val, x.frm, x.to, x.is, x.rows⟩, x.A, x.c⟩
/-- What lies in memory is what the plain order says. -/
structure OrdOk (acc : List Pl) (ds : List Dn) (rs : List At) (D : List (Int × Value)) : Prop where
 all : ds.map (fun d => (d.id, d.wall, d.logic, d.l)) = acc.map fun q => (q.id, q.wall, q.logic, q.th.map fun p => didOf p.2)
 at_ : rs.map (·.l) = acc.map fun q => q.th.map (·.1)
 place : ∀ i, mget D i = (acc.findIdx? fun q => decide (q.id = i)).map fun n => .int .i64 ((n : Nat) : Int)
 small : D.length ≤ acc.length
theorem OrdOk.start : OrdOk [] [] [] [] := ⟨rfl, rfl, fun i => rfl, Nat.le_refl _⟩
theorem OrdOk.len {acc : List Pl} {ds : List Dn} {rs : List At} {D : List (Int × Value)} (h : OrdOk acc ds rs D) : ds.length = acc.length ∧ rs.length = acc.length := by
 have h1 := congrArg List.length h.all
 have h2 := congrArg List.length h.at_
 simp only [List.length_map] at h1 h2
 exact ⟨h1, h2⟩
/-- A transaction more. -/
theorem OrdOk.new {acc : List Pl} {ds : List Dn} {rs : List At} {D : List (Int × Value)} (h : OrdOk acc ds rs D) {i wall logic : Int} (hi : (acc.findIdx? fun q => decide (q.id = i)) = none) : OrdOk (acc ++ [⟨i, wall, logic, []⟩]) (ds ++ [⟨i, wall, logic, none, 0, []⟩]) (rs ++ [⟨[], none, 0⟩]) (mput D i (.int .i64 ((acc.length : Nat) : Int))) := by
 refine ⟨by rw [List.map_append, List.map_append, h.all]; rfl, by rw [List.map_append, List.map_append, h.at_]; rfl, fun j => ?_, ?_⟩
 ·
  rw [mget_mput, List.findIdx?_append]
  by_cases hj : j = i
  ·
   subst hj
   rw [if_pos rfl, hi]
   simp [List.findIdx?_cons]
  rw [if_neg hj, h.place]
  cases e : acc.findIdx? fun q => decide (q.id = j) with
  | some n => simp
  | none => simp [List.findIdx?_cons, Ne.symm hj]
 have := mput_length_le D i (.int .i64 ((acc.length : Nat) : Int)); have := h.small; rw [List.length_append]; simp; omega
/-- A thing more, of a transaction that is there. -/
theorem OrdOk.add {acc : List Pl} {ds : List Dn} {rs : List At} {D : List (Int × Value)} (h : OrdOk acc ds rs D) {n k : Nat} {x : Ev} {q : Pl} {d : Dn} {a : At} (hq : acc[n]? = some q) (hd : ds[n]? = some d) (ha : rs[n]? = some a) (A1 A2 : Option Addr) (c1 c2 : Nat) : OrdOk (acc.set n { q with th := q.th ++ [(k, x)] }) (ds.set n { d with A := A1, c := c1, l := d.l ++ [didOf x] }) (rs.set n ⟨a.l ++ [k], A2, c2⟩) D := by
 have e1 : (d.id, d.wall, d.logic, d.l) = (q.id, q.wall, q.logic, q.th.map fun p => didOf p.2) := by
  have := congrArg (·[n]?) h.all
  simp only [List.getElem?_map, hq, hd, Option.map_some] at this
  exact Option.some.inj this
 have e2 : a.l = q.th.map (·.1) := by
  have := congrArg (·[n]?) h.at_
  simp only [List.getElem?_map, hq, ha, Option.map_some] at this
  exact Option.some.inj this
 simp only [Prod.mk.injEq] at e1
 refine ⟨by rw [List.map_set, List.map_set, h.all]; simp [e1], by rw [List.map_set, List.map_set, h.at_]; simp [e2], fun i => ?_, by rw [List.length_set]; exact h.small⟩
 rw [h.place]
 congr 1
 have : ∀ (l : List Pl) (m : Nat) (y : Pl), l[m]? = some y → (l.set m { y with th := y.th ++ [(k, x)] }).findIdx? (fun q => decide (q.id = i)) = l.findIdx? fun q => decide (q.id = i) := by
  intro l
  induction l with
  | nil => intro m y h; cases h
  | cons z l ih =>
   intro m y hm
   cases m with
   | zero => cases hm; simp [List.findIdx?_cons]
   | succ m => rw [List.set_cons_succ, List.findIdx?_cons, List.findIdx?_cons, ih m y hm]
 exact (this acc n q hq).symm

end Go.Proofs.YtfcbjcohepkkfaaGreat.B

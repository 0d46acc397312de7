import Derived.Test.YtfcbjcohepkkfaaJ7
/-
  The transactions that are committed, with what they did, and at which events: in the order of their first events. Plain.
-/
namespace Go.Proofs.Ytfcbjcohepkkfaa.P
open Go.Proofs.Ytfcbjcohepkkfaa.B Go.Proofs.Ytfcbjcohepkkfaa.Sep
set_option linter.unusedVariables false
structure Pl where
  id : Int
  wall : Int
  logic : Int
  th : List (Nat × Ev)
/-- Is an event something that a transaction did in an epoch? -/
def didB (ep : Int) (x : Ev) : Bool := x.kind == 3 && x.epoch == ep && x.err == 0 && decide (x.op ≤ 5)
def newPl (t : Tx) (i : Int) (acc : List Pl) : List Pl := if acc.any (fun q => decide (q.id = i)) then acc else acc ++ [⟨i, t.wall, t.logic, []⟩]
def addPl (p : Nat × Ev) (acc : List Pl) : List Pl := acc.map fun q => if q.id = p.2.id then { q with th := q.th ++ [p] } else q
def ordStep (tx : Int → Tx) (acc : List Pl) (p : Nat × Ev) : List Pl :=
  if hasB p.2 && (tx p.2.id).comm then (if didB (tx p.2.id).epoch p.2 then addPl p (newPl (tx p.2.id) p.2.id acc) else newPl (tx p.2.id) p.2.id acc) else acc
def numd (l : List Ev) : List (Nat × Ev) := l.zipIdx.map fun x => (x.2, x.1)
def ordL (tx : Int → Tx) (l : List Ev) : List Pl := (numd l).foldl (ordStep tx) []
theorem numd_take {l : List Ev} {i : Nat} {x : Ev} (h : l[i]? = some x) : numd (l.take (i + 1)) = numd (l.take i) ++ [(i, x)] := by
  obtain ⟨hi, _⟩ := List.getElem?_eq_some_iff.1 h
  rw [take_snoc h]
  unfold numd
  rw [List.zipIdx_append, List.map_append, List.length_take, Nat.min_eq_left (by omega)]
  simp
theorem ordL_step {tx : Int → Tx} {l : List Ev} {i : Nat} {x : Ev} (h : l[i]? = some x) : ordL tx (l.take (i + 1)) = ordStep tx (ordL tx (l.take i)) (i, x) := by
  unfold ordL; rw [numd_take h, List.foldl_append]; rfl
theorem newPl_mem {t : Tx} {i : Int} {acc : List Pl} (hn : (acc.map (·.id)).Nodup) : (newPl t i acc).map (·.id) = (if i ∈ acc.map (·.id) then acc.map (·.id) else acc.map (·.id) ++ [i]) ∧ ((newPl t i acc).map (·.id)).Nodup := by
  unfold newPl
  by_cases h : i ∈ acc.map (·.id)
  · obtain ⟨q, hq, e⟩ := List.mem_map.1 h
    have : acc.any (fun q => decide (q.id = i)) = true := List.any_eq_true.2 ⟨q, hq, by simpa using e⟩
    rw [if_pos this, if_pos h]; exact ⟨rfl, hn⟩
  · have : ¬ acc.any (fun q => decide (q.id = i)) = true := fun h2 => by
      obtain ⟨q, hq, e⟩ := List.any_eq_true.1 h2
      exact h (List.mem_map.2 ⟨q, hq, by simpa using e⟩)
    rw [if_neg this, if_neg h, List.map_append]
    refine ⟨rfl, List.nodup_append.2 ⟨hn, by simp, fun a ha b hb => ?_⟩⟩
    rw [List.map_cons, List.map_nil, List.mem_singleton] at hb
    rintro rfl
    subst hb; exact h ha
theorem addPl_ids (p : Nat × Ev) (acc : List Pl) : (addPl p acc).map (·.id) = acc.map (·.id) := by
  unfold addPl; rw [List.map_map]
  apply List.map_congr_left
  intro q _
  simp only [Function.comp]
  split <;> rfl
theorem addPl_at {p : Nat × Ev} {acc : List Pl} (hn : (acc.map (·.id)).Nodup) {n : Nat} {q : Pl} (h : acc[n]? = some q) (hi : q.id = p.2.id) : addPl p acc = acc.set n { q with th := q.th ++ [p] } := by
  obtain ⟨hn2, e⟩ := List.getElem?_eq_some_iff.1 h
  apply List.ext_getElem?
  intro r
  unfold addPl
  rw [List.getElem?_map, List.getElem?_set]
  by_cases hr : n = r
  · subst hr; rw [if_pos rfl, if_pos hn2, h]; simp [hi]
  · rw [if_neg hr]
    cases e2 : acc[r]? with
    | none => rfl
    | some y =>
      have hy : ¬ y.id = p.2.id := fun h3 => by
        have h4 : (acc.map (·.id))[n]? = some p.2.id := by rw [List.getElem?_map, h]; simp [hi]
        have h5 : (acc.map (·.id))[r]? = some p.2.id := by rw [List.getElem?_map, e2]; simp [h3]
        obtain ⟨a1, a2⟩ := List.getElem?_eq_some_iff.1 h4
        obtain ⟨b1, b2⟩ := List.getElem?_eq_some_iff.1 h5
        exact hr ((List.getElem_inj hn).1 (a2.trans b2.symm))
      simp [hy]
theorem ordStep_ids {tx : Int → Tx} {acc : List Pl} {p : Nat × Ev} (hn : (acc.map (·.id)).Nodup) : ((ordStep tx acc p).map (·.id)).Nodup := by
  unfold ordStep
  split
  · split
    · rw [addPl_ids]; exact (newPl_mem hn).2
    · exact (newPl_mem hn).2
  · exact hn
theorem ordL_ids (tx : Int → Tx) (l : List Ev) : ((ordL tx l).map (·.id)).Nodup := by
  have : ∀ (m : List (Nat × Ev)) (acc : List Pl), (acc.map (·.id)).Nodup → ((m.foldl (ordStep tx) acc).map (·.id)).Nodup := by
    intro m
    induction m with
    | nil => intro acc h; exact h
    | cons p m ih => intro acc h; exact ih _ (ordStep_ids h)
  exact this _ [] List.nodup_nil
end Go.Proofs.Ytfcbjcohepkkfaa.P

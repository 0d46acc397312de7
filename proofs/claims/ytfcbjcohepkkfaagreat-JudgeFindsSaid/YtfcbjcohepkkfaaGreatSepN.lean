import Derived.Test.YtfcbjcohepkkfaaGreatSepM
import Derived.Laws.IdiomRangeMap
/-
  A loop over a map ('for k, v := range m') that the loop does not write: the map and its iterator as one chunk; each step hands out an entry that has not been handed out, whichever; the loop ends when none is left.
-/
namespace Go.Proofs.YtfcbjcohepkkfaaGreat.Sep
open Go.RowKit Go.Maps Go.MapKept Go.WideShapes
set_option linter.unusedVariables false
/-- One object of the heap. -/
def Obj1 (g : Nat) (o : Obj) : Chunk := .oth fun h => h g = some o
theorem Sat.obj {w : World} {L : List Chunk} {g : Nat} {o : Obj} (s : Sat (Obj1 g o :: L) w) : w.heap[g]? = some o := by
  obtain ⟨h1, h2, a, s1, s2, x, y⟩ := s
  exact s1 _ _ x
theorem Sat.newObj {w : World} {L : List Chunk} (o : Obj) (s : Sat L w) : Sat (Obj1 w.heap.size o :: L) (w.alloc o) := by
  refine SatH.new s (hp_alloc_sub _ _) (k1 := fun k => if k = w.heap.size then some o else none) (by simp [Obj1, Chunk.a]) ?_ ?_
  · intro k o' e
    by_cases hk : k = w.heap.size
    · subst hk; simp at e; subst e
      show (w.heap.push _)[w.heap.size]? = _
      simp
    · simp [hk] at e
  · intro k
    by_cases hk : k = w.heap.size
    · right; subst hk; simp [hp]
    · left; simp [hk]
theorem Sat.setObj {w : World} {L : List Chunk} {g : Nat} {o : Obj} (o' : Obj) (s : Sat (Obj1 g o :: L) w) : Sat (Obj1 g o' :: L) { w with heap := w.heap.setIfInBounds g o' } := by
  refine SatH.put s fun h1 s1 x => ?_
  have hs := heap_set (o' := o') (s1 _ _ x)
  refine ⟨fun k => if k = g then some o' else none, by simp [Obj1, Chunk.a], ?_, ?_⟩
  · intro i o e
    by_cases hi : i = g
    · subst hi; simp at e; subst e; exact hs.1
    · simp [hi] at e
  · intro i e he
    have hi : i ≠ g := by rintro rfl; rw [show h1 i = some o from x] at e; cases e
    exact ⟨by simp [hi], hs.2 i hi⟩
def bornAt (es : Array MapEntry) (j : Nat) : Nat := (es.toList.map (·.born)).getD j 0
variable {α : Type} {P : Program} {k : TypeId} {enc : α → Value} {W w : World} {L : List Chunk} {g gi : Nat} {D : List (α × Value)} {V : List Nat}
/-- A map and an iterator over it, which has handed out the entries at the places V. -/
def MapI (P : Program) (k : TypeId) (enc : α → Value) (g : Nat) (D : List (α × Value)) (gi : Nat) (V : List Nat) : Chunk := .oth fun h => ∃ es clock, MapIn P k enc es clock D ∧ (∀ j ∈ V, j < D.length) ∧ SatH [Obj1 g (.map es clock), Obj1 gi (.mapIter (some g) clock (V.map (bornAt es)).toArray clock)] h
theorem MapI.iff : Sat (MapI P k enc g D gi V :: L) w ↔ ∃ es clock, MapIn P k enc es clock D ∧ (∀ j ∈ V, j < D.length) ∧ Sat (Obj1 g (.map es clock) :: Obj1 gi (.mapIter (some g) clock (V.map (bornAt es)).toArray clock) :: L) w := by
  constructor
  · rintro ⟨h1, h2, a, s1, s2, ⟨es, clock, m, v, x⟩, y⟩
    exact ⟨es, clock, m, v, Sat.star_iff (L := [_, _]) |>.1 ⟨h1, h2, a, s1, s2, x, y⟩⟩
  · rintro ⟨es, clock, m, v, s⟩
    obtain ⟨h1, h2, a, s1, s2, x, y⟩ := Sat.star_iff (L := [_, _]) |>.2 s
    exact ⟨h1, h2, a, s1, s2, ⟨es, clock, m, v, x⟩, y⟩
theorem MapT.iff : Sat (MapT P k enc g D :: L) w ↔ ∃ es clock, MapIn P k enc es clock D ∧ Sat (Obj1 g (.map es clock) :: L) w := by
  constructor
  · rintro ⟨h1, h2, a, s1, s2, ⟨es, clock, x, m⟩, y⟩
    exact ⟨es, clock, m, h1, h2, a, s1, s2, x, y⟩
  · rintro ⟨es, clock, m, h1, h2, a, s1, s2, x, y⟩
    exact ⟨h1, h2, a, s1, s2, ⟨es, clock, x, m⟩, y⟩
theorem MapI.done (s : St W (MapI P k enc g D gi V :: L) w) : St W (MapT P k enc g D :: L) w := by
  obtain ⟨es, clock, m, _, s1⟩ := MapI.iff.1 s.1
  exact ⟨MapT.iff.2 ⟨es, clock, m, Sat.tail (s1.perm (List.Perm.swap _ _ _))⟩, s.2⟩
theorem ex_range {o : Oper} {E : Env} {x : Operand} {t e : TypeId} (j : Nat) (s : St W L w) (hj : L[j]? = some (MapT P k enc g D)) (ho : o.op = .range t x) (hx : evalE E x = .map (some g)) (ht : P.underlying t = some (.map k e)) :
    ∃ v w1, (execOp (evalE E) o).run P w = .ok (.value v) w1 ∧ ∃ gi, v = .pointer (some ⟨gi, 0, none⟩) ∧ St W (L.set j (MapI P k enc g D gi [])) w1 := by
  obtain ⟨es, clock, m, s1⟩ := MapT.iff.1 (s.at_ hj).1
  have hb := s1.obj
  refine ⟨_, w.alloc (.mapIter (some g) clock #[] clock), ?_, w.heap.size, rfl, St.perm ⟨MapI.iff.2 ⟨es, clock, m, by simp, (Sat.newObj _ s1).perm (List.Perm.swap _ _ _)⟩, s.2.trans ⟨rfl, rfl, rfl, by simp, Nat.le_refl _⟩⟩ (perm_set hj _)⟩
  simp [execOp, ho, hx, run_range_map w t k e g es clock ht hb, Result.andThen]
theorem born_inj {es : Array MapEntry} {clock : Nat} (h : Stamped es clock) {i j : Nat} (hi : i < es.size) (hj : j < es.size) (e : bornAt es i = bornAt es j) : i = j := by
  have hn := ((stamped_iff _ _).1 h).2.1
  unfold bornAt at e
  rw [List.getD_eq_getElem?_getD, List.getD_eq_getElem?_getD, List.getElem?_eq_getElem (by simpa using hi), List.getElem?_eq_getElem (by simpa using hj)] at e
  exact (List.getElem_inj hn).1 e
theorem born_of {es : Array MapEntry} {j : Nat} {e : MapEntry} (h : es.toList[j]? = some e) : bornAt es j = e.born := by
  unfold bornAt; rw [List.getD_eq_getElem?_getD, List.getElem?_map, h]; rfl
theorem ex_next {o : Oper} {E : Env} {x : Operand} (j : Nat) (s : St W L w) (hj : L[j]? = some (MapI P k enc g D gi V)) (ho : o.op = .next x false) (hx : evalE E x = .pointer (some ⟨gi, 0, none⟩)) :
    ∃ v w1, (execOp (evalE E) o).run P w = .ok (.value v) w1 ∧ ((v = .tuple #[.bool false] ∧ (∀ q, q < D.length → q ∈ V) ∧ St W L w1) ∨ ∃ q p, D[q]? = some p ∧ q ∉ V ∧ v = .tuple #[.bool true, enc p.1, p.2] ∧ St W (L.set j (MapI P k enc g D gi (V ++ [q]))) w1) := by
  obtain ⟨es, clock, m, hV, s1⟩ := MapI.iff.1 (s.at_ hj).1
  have hb := s1.obj
  have s2 := s1.perm (List.Perm.swap _ _ _)
  have hi := s2.obj
  have hlen := m.length
  have hst := (stamped_iff _ _).1 m.stamped
  have key : ((∀ q, q < D.length → q ∈ V) ∧ (Instr.next (.pointer (some ⟨gi, 0, none⟩)) false o.type).run P w = .ok (.tuple #[.bool false]) w) ∨ ∃ q p, D[q]? = some p ∧ q ∉ V ∧ ∃ wd : World, (wd = w ∨ wd = w.drew) ∧ (Instr.next (.pointer (some ⟨gi, 0, none⟩)) false o.type).run P w = .ok (.tuple #[.bool true, enc p.1, p.2]) { wd with heap := wd.heap.setIfInBounds gi (.mapIter (some g) clock (((V ++ [q]).map (bornAt es)).toArray) clock) } := by
    have hseen : ∀ q, q < es.size → (((V.map (bornAt es)).toArray.contains (bornAt es q)) = true ↔ q ∈ V) := by
      intro q hq
      rw [Array.contains_iff_mem]
      simp only [List.mem_toArray, List.mem_map]
      constructor
      · rintro ⟨j, hj, e⟩
        have := hV j hj
        rwa [← born_inj m.stamped (by omega) hq e]
      · exact fun h => ⟨q, h, rfl⟩
    simp only [Instr.next, getObj, Sem.run_bind, Sem.run, hi, hb, Result.andThen, next_test_false _ es clock clock hst.1 (Nat.le_refl _), Bool.false_eq_true, if_false]
    have hmem : ∀ x ∈ (Array.filter (fun e => !(V.map (bornAt es)).toArray.contains e.born) es).toList, ∃ q p, es.toList[q]? = some x ∧ D[q]? = some p ∧ x.key = enc p.1 ∧ x.val = p.2 ∧ q ∉ V := by
      intro x hx
      rw [Array.toList_filter, List.mem_filter] at hx
      obtain ⟨q, hq, e⟩ := List.getElem_of_mem hx.1
      have hq2 : es.toList[q]? = some x := by rw [List.getElem?_eq_getElem hq, e]
      obtain ⟨p, hp, h1, h2⟩ := m.at_ hq2
      refine ⟨q, p, hq2, hp, h1, h2, fun hv => ?_⟩
      have h3 := (hseen q (by simpa using hq)).2 hv
      rw [born_of hq2] at h3
      rw [h3] at hx
      simp at hx
    have hnone : (Array.filter (fun e => !(V.map (bornAt es)).toArray.contains e.born) es).size = 0 → ∀ q, q < D.length → q ∈ V := by
      intro h0 q hq
      have hq2 : q < es.toList.length := by simp; omega
      by_cases hv : q ∈ V
      · exact hv
      · exfalso
        have h3 : (es.toList[q]) ∈ (Array.filter (fun e => !(V.map (bornAt es)).toArray.contains e.born) es).toList := by
          rw [Array.toList_filter, List.mem_filter]
          refine ⟨List.getElem_mem _, ?_⟩
          have h4 := mt (hseen q (by omega)).1 hv
          rw [born_of (List.getElem?_eq_getElem hq2)] at h4
          simpa using h4
        have h5 := List.length_pos_of_mem h3
        rw [Array.length_toList] at h5
        omega
    have hold : ∀ x ∈ (Array.filter (fun e => !(V.map (bornAt es)).toArray.contains e.born) es).toList, x.born < clock := fun x hx => hst.1 x (by rw [Array.toList_filter, List.mem_filter] at hx; exact hx.1)
    generalize Array.filter (fun e => !(V.map (bornAt es)).toArray.contains e.born) es = M at hmem hnone hold ⊢
    have e1 : M.filter (fun x => decide (x.born < clock)) = M := Array.filter_eq_self.2 (fun x hx => by simpa using hold x (by simpa using hx))
    have e2 : M.filter (fun x => decide (x.born ≥ clock)) = #[] := by
      rw [Array.filter_eq_empty_iff]
      intro x hx
      have := hold x (by simpa using hx)
      simp
      omega
    simp only [e1, e2, Array.append_empty]
    by_cases h0 : M.size = 0
    · left
      have hM : M = #[] := Array.eq_empty_of_size_eq_zero h0
      subst hM
      refine ⟨hnone h0, ?_⟩
      simp [choose, Sem.run, Question.forced]
    · right
      have hne : M.isEmpty = false := by simp [Array.isEmpty, h0]
      simp only [hne, Bool.false_eq_true, if_false, Array.empty_append, Array.size_map]
      have hch : ∃ (j : Nat) (wd : World), j < M.size ∧ (wd = w ∨ wd = w.drew) ∧ (choose (Question.mapNext M.size)).run P w = .ok j wd := by
        by_cases hf : M.size ≤ 1
        · exact ⟨0, w, by omega, .inl rfl, by simp [choose, Sem.run, Question.forced, hf]⟩
        · exact ⟨_, w.drew, Nat.mod_lt _ (by omega), .inr rfl, by
            simp only [choose, Sem.run, Question.forced, decide_eq_true_eq, hf, if_false, Question.cut]
            rfl⟩
      obtain ⟨j, wd, hj, hwd, hrun⟩ := hch
      obtain ⟨q, p, hq, hp, h1, h2, h3⟩ := hmem M[j] (by simp)
      refine ⟨q, p, hp, h3, wd, hwd, ?_⟩
      have hgi : wd.heap[gi]? = some (.mapIter (some g) clock (V.map (bornAt es)).toArray clock) := by rcases hwd with rfl | rfl <;> exact hi
      have hb1 : bornAt es q = M[j].born := born_of hq
      simp only [hrun, Array.getElem?_map, Array.getElem?_eq_getElem hj, Option.map_some, Sem.run_bind, setObj, Sem.run, hgi, Result.andThen, h1, h2]
      rw [List.map_append, List.map_singleton, hb1, List.push_toArray]
      rfl
  rcases key with ⟨hall, hrun⟩ | ⟨q, p, hp, hq, wd, hwd, hrun⟩
  · exact ⟨_, w, by simp [execOp, ho, hx, hrun, Result.andThen], .inl ⟨rfl, hall, s⟩⟩
  · refine ⟨_, { wd with heap := wd.heap.setIfInBounds gi (.mapIter (some g) clock (((V ++ [q]).map (bornAt es)).toArray) clock) }, by simp [execOp, ho, hx, hrun, Result.andThen], .inr ⟨q, p, hp, hq, rfl, ?_⟩⟩
    have sd : St W (Obj1 gi (.mapIter (some g) clock (V.map (bornAt es)).toArray clock) :: Obj1 g (.map es clock) :: L.eraseIdx j) wd := by
      have s3 : St W (Obj1 gi (.mapIter (some g) clock (V.map (bornAt es)).toArray clock) :: Obj1 g (.map es clock) :: L.eraseIdx j) w := ⟨s2, s.2⟩
      rcases hwd with rfl | rfl
      · exact s3
      · exact s3.drew
    refine St.perm ⟨MapI.iff.2 ⟨es, clock, m, fun i hi => ?_, (Sat.setObj _ sd.1).perm (List.Perm.swap _ _ _)⟩, sd.2.trans ⟨rfl, rfl, rfl, by simp, Nat.le_refl _⟩⟩ (perm_set hj _)
    rcases List.mem_append.1 hi with hi | hi
    · exact hV i hi
    · rw [List.mem_singleton.1 hi]; exact (List.getElem?_eq_some_iff.1 hp).1
theorem run_entry {o : Oper} {E : Env} {x : Operand} {q : Nat} {p : α × Value} {D : List (α × Value)} (s : Sat (MapI P k enc g D gi (V ++ [q]) :: L) w) (hp : D[q]? = some p) (ho : o.op = .entry x) (hx : evalE E x = .pointer (some ⟨gi, 0, none⟩)) :
    (execOp (evalE E) o).run P w = .ok (.value (.tuple #[enc p.1, p.2])) w := by
  obtain ⟨es, clock, m, hV, s1⟩ := MapI.iff.1 s
  have hb := s1.obj
  have hi := (s1.perm (List.Perm.swap _ _ _)).obj
  have hlen := m.length
  have hst := (stamped_iff _ _).1 m.stamped
  have hq : q < es.toList.length := by have := (List.getElem?_eq_some_iff.1 hp).1; simp; omega
  have hq2 := List.getElem?_eq_getElem hq
  obtain ⟨p2, hp2, h1, h2⟩ := m.at_ hq2
  rw [hp] at hp2; cases hp2
  have hf : es.find? (·.born == es.toList[q].born) = some es.toList[q] := by rw [← Array.find?_toList]; exact find_born _ es.toList hst.2.1 (List.getElem_mem _)
  have hback : ((V ++ [q]).map (bornAt es)).toArray.back? = some es.toList[q].born := by rw [List.map_append, List.map_singleton, born_of hq2]; simp
  have hrun : (Instr.entry (.pointer (some ⟨gi, 0, none⟩))).run P w = .ok (.tuple #[enc p.1, p.2]) w := by
    simp only [Instr.entry, getObj, Sem.run_bind, Sem.run, hi, hb, Result.andThen, hback, bne_self_eq_false, Bool.false_eq_true, if_false, hf, h1, h2]
    rfl
  simp [execOp, ho, hx, hrun, Result.andThen]
theorem ex_entry {o : Oper} {E : Env} {x : Operand} {q : Nat} {p : α × Value} {D : List (α × Value)} (j : Nat) (s : St W L w) (hj : L[j]? = some (MapI P k enc g D gi (V ++ [q]))) (hp : D[q]? = some p) (ho : o.op = .entry x) (hx : evalE E x = .pointer (some ⟨gi, 0, none⟩)) :
    ∃ v w1, (execOp (evalE E) o).run P w = .ok (.value v) w1 ∧ v = .tuple #[enc p.1, p.2] ∧ St W L w1 := ⟨_, w, run_entry (s.at_ hj).1 hp ho hx, rfl, s⟩
end Go.Proofs.YtfcbjcohepkkfaaGreat.Sep

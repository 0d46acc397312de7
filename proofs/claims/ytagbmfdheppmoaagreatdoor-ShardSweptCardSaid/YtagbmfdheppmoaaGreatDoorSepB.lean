import Derived.Test.YtagbmfdheppmoaaGreatDoorSepA
import Derived.ArgAppend
import Derived.Laws.CopyRow
/-
  The state of a walk: what lies where, since a world W; the operations that make or write memory, each as one step of the walk.
-/
namespace Go.Proofs.YtagbmfdheppmoaaGreatDoor.Sep
open Go.RowKit

structure Ext (W w : World) : Prop where
  os : w.os = W.os
  tape : w.tape = W.tape
  output : w.output = W.output
  size : W.heap.size ≤ w.heap.size
  drawn : W.drawn ≤ w.drawn
theorem Ext.refl (W : World) : Ext W W := ⟨rfl, rfl, rfl, Nat.le_refl _, Nat.le_refl _⟩
theorem Ext.trans {a b c : World} (h : Ext a b) (k : Ext b c) : Ext a c := ⟨k.os.trans h.os, k.tape.trans h.tape, k.output.trans h.output, Nat.le_trans h.size k.size, Nat.le_trans h.drawn k.drawn⟩

def St (W : World) (L : List Chunk) (w : World) : Prop := Sat L w ∧ Ext W w

theorem St.sat {W : World} {L : List Chunk} {w : World} (s : St W L w) : Sat L w := s.1
theorem St.perm {W : World} {L M : List Chunk} {w : World} (s : St W L w) (p : L.Perm M) : St W M w := ⟨s.1.perm p, s.2⟩
theorem St.tail {W : World} {A : Chunk} {L : List Chunk} {w : World} (s : St W (A :: L) w) : St W L w := ⟨s.1.tail, s.2⟩
theorem St.drew {W : World} {L : List Chunk} {w : World} (s : St W L w) : St W L w.drew := ⟨s.1, ⟨s.2.os, s.2.tape, s.2.output, s.2.size, Nat.le_succ_of_le s.2.drawn⟩⟩
theorem St.drewN {W : World} {L : List Chunk} {w : World} (s : St W L w) (n : Nat) : St W L (w.drewN n) := ⟨s.1, ⟨s.2.os, s.2.tape, s.2.output, s.2.size, Nat.le_trans s.2.drawn (Nat.le_add_right _ _)⟩⟩
theorem St.front {W : World} {L : List Chunk} {w : World} (s : St W L w) (i : Nat) (h : i < L.length := by decide) : St W (L[i] :: L.eraseIdx i) w := ⟨s.1.front i h, s.2⟩
theorem St.alloc {W : World} {L : List Chunk} {w : World} (s : St W L w) (cs : List Value) (t : TypeId) : St W (.blk w.heap.size cs t :: L) (w.alloc (.cells cs.toArray t)) :=
  ⟨s.1.alloc cs t, s.2.trans ⟨rfl, rfl, rfl, by simp, Nat.le_refl _⟩⟩
theorem size_setCell (w : World) (a : Addr) (v : Value) : (w.setCell a v).heap.size = w.heap.size := by simp [World.setCell]
theorem St.set {W : World} {g : Nat} {cs : List Value} {t : TypeId} {L : List Chunk} {w : World} (s : St W (.blk g cs t :: L) w) (i : Nat) (v : Value) :
    St W (.blk g (cs.set i v) t :: L) (w.setCell ⟨g, i, none⟩ v) :=
  ⟨s.1.set i v, s.2.trans ⟨rfl, rfl, rfl, by rw [size_setCell]; exact Nat.le_refl _, Nat.le_refl _⟩⟩

/-- The cells of the blocks that are known whole. -/
def cellsOf : List Chunk → World → Prop
  | [], _ => True
  | .blk g cs _ :: L, w => (∀ i, w.cell? ⟨g, i, none⟩ = cs[i]?) ∧ (∀ i, w.frozen? ⟨g, i, none⟩ = false) ∧ cellsOf L w
  | .oth _ :: L, w => cellsOf L w

theorem Sat.cellsOf {L : List Chunk} {w : World} (s : Sat L w) : cellsOf L w := by
  induction L with
  | nil => trivial
  | cons A L ih =>
    cases A with
    | blk g cs t => exact ⟨s.cell, s.frozen, ih s.tail⟩
    | oth A => exact ih s.tail
theorem St.cellsOf {W : World} {L : List Chunk} {w : World} (s : St W L w) : cellsOf L w := s.1.cellsOf

/-- cs with vs laid over it from o on. -/
def putAt (cs : List Value) : Nat → List Value → List Value
  | _, [] => cs
  | o, v :: vs => putAt (cs.set o v) (o + 1) vs

section
variable {P : Program} {Q : Exit → Act → World → Prop} {K : Act → World → Prop} {a : Act} {w W : World} {L : List Chunk}

theorem arm_box {d : Option Tmp} {t : TypeId} {x : Operand} {ty : TypeId} {p : String} {af : Array Edge} {gd : Option (Nat × Bool)} (cs : List Value) (hx : (a.eval x).cells = cs.toArray) (s : St W L w)
    (h : ∀ g w1, St W (.blk g cs t :: L) w1 → K (a.put d (.pointer (some ⟨g, 0, none⟩))) w1) :
    Oper.wp P { dst := d, op := .box t x, type := ty, pos := p, after := af, guard := gd } a w K Q := by
  unfold Oper.wp
  simp [execOp, Instr.box, newVar, newRow, hx]
  exact h _ _ (s.alloc cs t)

theorem arm_alloc {d : Option Tmp} {t : TypeId} {ty : TypeId} {p : String} {af : Array Edge} {gd : Option (Nat × Bool)} (cs : List Value) {z : Value} (hz : ∀ w, (zeroValue t).run P w = .ok z w) (hc : z.cells = cs.toArray) (s : St W L w)
    (h : ∀ g w1, St W (.blk g cs t :: L) w1 → K (a.put d (.pointer (some ⟨g, 0, none⟩))) w1) :
    Oper.wp P { dst := d, op := .alloc t, type := ty, pos := p, after := af, guard := gd } a w K Q := by
  unfold Oper.wp
  simp [execOp, Instr.alloc, newVar, newRow, hc, hz]
  exact h _ _ (s.alloc cs t)

theorem putAt_eq (vs : List Value) : ∀ (cs : List Value) (o : Nat), o + vs.length ≤ cs.length → putAt cs o vs = cs.take o ++ vs ++ cs.drop (o + vs.length) := by
  induction vs with
  | nil => intro cs o _; simp [putAt]
  | cons v vs ih =>
    intro cs o h
    simp only [List.length_cons] at h
    rw [putAt, ih _ _ (by rw [List.length_set]; omega)]
    have := list_seg_step cs o v vs (by omega)
    simpa [Nat.add_assoc, Nat.add_comm 1] using this
theorem length_putAt (vs : List Value) : ∀ (cs : List Value) (o : Nat), (putAt cs o vs).length = cs.length := by
  induction vs with
  | nil => intro cs o; rfl
  | cons v vs ih => intro cs o; rw [putAt, ih, List.length_set]

theorem heap_setRow_self {w : World} {g : Nat} {cs : Array Value} {t : TypeId} (h : w.heap[g]? = some (.cells cs t (0, 0))) (ds : Array Value) :
    (w.setRow g ds).heap[g]? = some (.cells ds t (0, 0)) := by
  simp only [World.setRow, Array.getElem?_modify, h]; simp
theorem heap_setRow_other {w : World} {g k : Nat} (ds : Array Value) (h : k ≠ g) : (w.setRow g ds).heap[k]? = w.heap[k]? := by
  simp only [World.setRow, Array.getElem?_modify]
  rw [if_neg (by simpa using Ne.symm h)]
theorem size_setRow (w : World) (g : Nat) (ds : Array Value) : (w.setRow g ds).heap.size = w.heap.size := by simp [World.setRow]

theorem Sat.setRow {g : Nat} {cs : List Value} {t : TypeId} {L : List Chunk} {w : World} (s : Sat (.blk g cs t :: L) w) (ds : List Value) :
    Sat (.blk g ds t :: L) (w.setRow g ds.toArray) := by
  refine SatH.put s fun h1 s1 x => ?_
  refine ⟨fun k => if k = g then some (.cells ds.toArray t (0, 0)) else none, by simp [Chunk.a], ?_, ?_⟩
  · intro k o e
    by_cases hk : k = g
    · subst hk; simp at e; subst e; exact heap_setRow_self (s1 _ _ x) ds.toArray
    · simp [hk] at e
  · intro k e hs
    have hk : k ≠ g := by rintro rfl; rw [show h1 k = _ from x] at e; cases e
    exact ⟨by simp [hk], heap_setRow_other ds.toArray hk⟩
theorem St.setRow {g : Nat} {cs : List Value} {t : TypeId} (s : St W (.blk g cs t :: L) w) (ds : List Value) :
    St W (.blk g ds t :: L) (w.setRow g ds.toArray) := ⟨s.1.setRow ds, s.2.trans ⟨rfl, rfl, rfl, by rw [size_setRow]; exact Nat.le_refl _, Nat.le_refl _⟩⟩

theorem perm_at {α : Type} {L : List α} {j : Nat} {x : α} (h : L[j]? = some x) : L.Perm (x :: L.eraseIdx j) := by
  obtain ⟨hj, rfl⟩ := List.getElem?_eq_some_iff.1 h
  exact perm_front L j hj
theorem perm_set {α : Type} {L : List α} {j : Nat} {x : α} (h : L[j]? = some x) (y : α) : (y :: L.eraseIdx j).Perm (L.set j y) := by
  obtain ⟨hj, rfl⟩ := List.getElem?_eq_some_iff.1 h
  have := perm_front (L.set j y) j (by simpa using hj)
  simp only [List.getElem_set_self, List.eraseIdx_set_eq] at this
  exact this.symm

theorem St.at_ {j : Nat} {x : Chunk} (s : St W L w) (h : L[j]? = some x) : St W (x :: L.eraseIdx j) w := s.perm (perm_at h)

theorem run_loadCells_at (g o : Nat) (cs : List Value) (h : ∀ i, w.cell? ⟨g, i, none⟩ = cs[i]?) (n : Nat) (hn : o + n ≤ cs.length) : (loadCells ⟨g, o, none⟩ n).run P w = .ok (cs.extract o (o + n)).toArray w := by
  have := run_loadCells_list (P := P) w ⟨g, o, none⟩ (cs.extract o (o + n)) (fun j v hv => by
    rw [show (⟨g, o, none⟩ : Addr).add j = ⟨g, o + j, none⟩ by unfold Addr.add; split <;> simp_all, h]
    rw [List.extract_eq_take_drop] at hv
    rw [List.getElem?_take] at hv
    split at hv
    · rw [List.getElem?_drop] at hv; exact hv
    · cases hv)
  have hl : (cs.extract o (o + n)).length = n := by simp [List.extract_eq_take_drop]; omega
  rwa [hl] at this

theorem arm_store {d : Option Tmp} {t : TypeId} {x y : Operand} {ty : TypeId} {p : String} {af : Array Edge} {gd : Option (Nat × Bool)} (j : Nat) {g o : Nat} {cs : List Value} {t' : TypeId} (vs : List Value)
    (hx : a.eval x = .pointer (some ⟨g, o, none⟩)) (hy : (a.eval y).cells = vs.toArray) (hj : L[j]? = some (.blk g cs t')) (hz : (P.info? t).map (·.size) = some vs.length)
    (h1 : ∀ v ∈ vs, v.oneCell' = true) (hn : o + vs.length ≤ cs.length) (s : St W L w)
    (h : ∀ w1, St W (L.set j (.blk g (putAt cs o vs) t')) w1 → K (a.put d undef) w1) :
    Oper.wp P { dst := d, op := .store t x y, type := ty, pos := p, after := af, guard := gd } a w K Q := by
  have s1 := s.at_ hj
  have hr := run_storeCells_at (P := P) g o t' vs 0 cs.toArray w s1.1.blk (by simpa using hn) h1
  obtain ⟨i, hi, hsz⟩ := Option.map_eq_some_iff.1 hz
  unfold Oper.wp
  simp [execOp, Instr.storeAt, Instr.sureAddr, storeVar, sizeOf, typeInfo, hx, hy, hi, hsz, hr]
  refine h _ ?_
  have := (s1.setRow (putAt cs o vs)).perm (perm_set hj _)
  rw [putAt_eq _ _ _ hn] at this ⊢
  simpa using this

end
end Go.Proofs.YtagbmfdheppmoaaGreatDoor.Sep

import Derived.Below
import Derived.OwnWalk
import Derived.Deep.OwnRows
import Derived.Tactics
import Derived.WalkKit
import Derived.Deep.Draws
import Derived.ArgAppend
import Derived.Laws.CopyRow
import Derived.OrdersHeld
import Derived.StillTail
import Derived.Laws.ResultCell
import Derived.Deep.LoopGhost
/-
  Separation of memory into blocks that are owned apart: a list of assertions, each over a part of the heap; the parts share no block.
-/
namespace Go.Proofs.YtfcbjcohepkkfaaGreat.Sep
open Go.RowKit

abbrev Hp := Nat → Option Obj
abbrev Asrt := Hp → Prop

/-- One part: a block that is known whole (its cells, the type of its elements, none frozen), or whatever else is asserted of a part. -/
inductive Chunk where
  | blk (g : Nat) (cs : List Value) (t : TypeId)
  | oth (A : Asrt)
def Chunk.a : Chunk → Asrt
  | .blk g cs t => fun h => h g = some (.cells cs.toArray t (0, 0))
  | .oth A => A

def Hp.sub (h k : Hp) : Prop := ∀ g o, h g = some o → k g = some o
def Hp.apart (h k : Hp) : Prop := ∀ g, h g = none ∨ k g = none

theorem Hp.sub.refl (h : Hp) : h.sub h := fun _ _ e => e
theorem Hp.sub.trans {a b c : Hp} (h : a.sub b) (k : b.sub c) : a.sub c := fun g o e => k g o (h g o e)
theorem Hp.apart.symm {a b : Hp} (h : a.apart b) : b.apart a := fun g => (h g).symm
theorem Hp.apart.mono {a b a' b' : Hp} (h : a.apart b) (ha : a'.sub a) (hb : b'.sub b) : a'.apart b' := fun g => by
  rcases h g with e | e
  · left; cases e' : a' g with
    | none => rfl
    | some o => rw [ha g o e'] at e; cases e
  · right; cases e' : b' g with
    | none => rfl
    | some o => rw [hb g o e'] at e; cases e

/-- The assertions of the list hold of parts of h that share nothing. -/
def SatH : List Chunk → Hp → Prop
  | [], _ => True
  | A :: L, h => ∃ h1 h2, Hp.apart h1 h2 ∧ Hp.sub h1 h ∧ Hp.sub h2 h ∧ A.a h1 ∧ SatH L h2

def hp (w : World) : Hp := fun g => w.heap[g]?
def Sat (L : List Chunk) (w : World) : Prop := SatH L (hp w)

theorem SatH.mono {L : List Chunk} {h k : Hp} (s : SatH L h) (e : h.sub k) : SatH L k := by
  cases L with
  | nil => trivial
  | cons A L =>
    obtain ⟨h1, h2, a, s1, s2, x, y⟩ := s
    exact ⟨h1, h2, a, s1.trans e, s2.trans e, x, y⟩

def Hp.join (h k : Hp) : Hp := fun g => (h g).orElse fun _ => k g
theorem Hp.sub_join_left (h k : Hp) : h.sub (h.join k) := fun g o e => by simp [Hp.join, e]
theorem Hp.sub_join_right {h k : Hp} (a : h.apart k) : k.sub (h.join k) := fun g o e => by
  rcases a g with e' | e'
  · simp [Hp.join, e', e]
  · rw [e'] at e; cases e
theorem Hp.join_sub {h k m : Hp} (a : h.sub m) (b : k.sub m) : (h.join k).sub m := fun g o e => by
  simp only [Hp.join] at e
  cases e' : h g with
  | none => rw [e'] at e; exact b g o (by simpa using e)
  | some o' => rw [e'] at e; simp at e; subst e; exact a g _ e'
theorem Hp.apart_join {h k m : Hp} (a : m.apart h) (b : m.apart k) : m.apart (h.join k) := fun g => by
  rcases a g with e | e
  · exact .inl e
  · rcases b g with e' | e'
    · exact .inl e'
    · right; simp [Hp.join, e, e']

theorem SatH.append_iff {L M : List Chunk} : ∀ {h : Hp}, SatH (L ++ M) h ↔ ∃ h1 h2, Hp.apart h1 h2 ∧ Hp.sub h1 h ∧ Hp.sub h2 h ∧ SatH L h1 ∧ SatH M h2 := by
  induction L with
  | nil =>
    intro h
    constructor
    · intro s; exact ⟨fun _ => none, h, fun _ => .inl rfl, fun _ _ e => (by cases e), Hp.sub.refl _, trivial, s⟩
    · rintro ⟨h1, h2, _, _, s2, _, s⟩; exact SatH.mono s s2
  | cons A L ih =>
    intro h
    constructor
    · rintro ⟨h1, h2, a, s1, s2, x, y⟩
      obtain ⟨k1, k2, b, t1, t2, u, v⟩ := ih.1 y
      refine ⟨h1.join k1, k2, ?_, Hp.join_sub s1 (t1.trans s2), t2.trans s2, ⟨h1, k1, a.mono (Hp.sub.refl _) t1, Hp.sub_join_left _ _, Hp.sub_join_right (a.mono (Hp.sub.refl _) t1), x, u⟩, v⟩
      exact (Hp.apart_join (a.mono (Hp.sub.refl _) t2).symm b.symm).symm
    · rintro ⟨h1, h2, a, s1, s2, ⟨k1, k2, b, t1, t2, x, u⟩, v⟩
      refine ⟨k1, k2.join h2, Hp.apart_join b (a.mono t1 (Hp.sub.refl _)), t1.trans s1, Hp.join_sub (t2.trans s1) s2, x, ?_⟩
      exact ih.2 ⟨k2, h2, a.mono t2 (Hp.sub.refl _), Hp.sub_join_left _ _, Hp.sub_join_right (a.mono t2 (Hp.sub.refl _)), u, v⟩

theorem SatH.swap {A B : Chunk} {L : List Chunk} {h : Hp} (s : SatH (A :: B :: L) h) : SatH (B :: A :: L) h := by
  obtain ⟨h1, h2, a, s1, s2, x, k1, k2, b, t1, t2, y, z⟩ := s
  exact ⟨k1, h1.join k2, Hp.apart_join (a.mono (Hp.sub.refl _) t1).symm b, t1.trans s2, Hp.join_sub s1 (t2.trans s2), y, h1, k2, a.mono (Hp.sub.refl _) t2, Hp.sub_join_left _ _, Hp.sub_join_right (a.mono (Hp.sub.refl _) t2), x, z⟩

theorem SatH.perm {L M : List Chunk} (p : L.Perm M) : ∀ {h : Hp}, SatH L h → SatH M h := by
  induction p with
  | nil => exact fun s => s
  | cons A _ ih => rintro h ⟨h1, h2, a, s1, s2, x, y⟩; exact ⟨h1, h2, a, s1, s2, x, ih y⟩
  | swap A B L => exact SatH.swap
  | trans _ _ ih1 ih2 => exact fun s => ih2 (ih1 s)

theorem Sat.perm {L M : List Chunk} {w : World} (s : Sat L w) (p : L.Perm M) : Sat M w := SatH.perm p s

theorem SatH.tail {A : Chunk} {L : List Chunk} {h : Hp} (s : SatH (A :: L) h) : SatH L h := by
  obtain ⟨h1, h2, a, s1, s2, x, y⟩ := s
  exact SatH.mono y s2
theorem Sat.tail {A : Chunk} {L : List Chunk} {w : World} (s : Sat (A :: L) w) : Sat L w := SatH.tail s

theorem SatH.head_imp {A B : Chunk} {L : List Chunk} {h : Hp} (s : SatH (A :: L) h) (i : ∀ k, A.a k → B.a k) : SatH (B :: L) h := by
  obtain ⟨h1, h2, a, s1, s2, x, y⟩ := s
  exact ⟨h1, h2, a, s1, s2, i _ x, y⟩
theorem Sat.head_imp {A B : Chunk} {L : List Chunk} {w : World} (s : Sat (A :: L) w) (i : ∀ k, A.a k → B.a k) : Sat (B :: L) w := SatH.head_imp s i

/-- A list of parts as one part. -/
def star (L : List Chunk) : Chunk := .oth (SatH L)
theorem SatH.star_iff {L M : List Chunk} {h : Hp} : SatH (star L :: M) h ↔ SatH (L ++ M) h := by
  rw [SatH.append_iff]; rfl
theorem Sat.star_iff {L M : List Chunk} {w : World} : Sat (star L :: M) w ↔ Sat (L ++ M) w := SatH.star_iff

theorem Sat.blk {g : Nat} {cs : List Value} {t : TypeId} {L : List Chunk} {w : World} (s : Sat (.blk g cs t :: L) w) : w.heap[g]? = some (.cells cs.toArray t (0, 0)) := by
  obtain ⟨h1, h2, a, s1, s2, x, y⟩ := s
  exact s1 _ _ x

theorem lt_of_blk {g : Nat} {o : Obj} {w : World} (s : w.heap[g]? = some o) : g < w.heap.size := by
  by_cases h : g < w.heap.size
  · exact h
  · rw [Array.getElem?_eq_none (by omega)] at s; cases s

theorem Sat.lt {g : Nat} {cs : List Value} {t : TypeId} {L : List Chunk} {w : World} (s : Sat (.blk g cs t :: L) w) : g < w.heap.size := lt_of_blk s.blk

theorem cell_of_blk {g : Nat} {cs : List Value} {t : TypeId} {w : World} (h : w.heap[g]? = some (.cells cs.toArray t (0, 0))) (i : Nat) : w.cell? ⟨g, i, none⟩ = cs[i]? := by
  simp [World.cell?, h]
theorem frozen_of_blk {g : Nat} {cs : List Value} {t : TypeId} {w : World} (h : w.heap[g]? = some (.cells cs.toArray t (0, 0))) (i : Nat) : w.frozen? ⟨g, i, none⟩ = false := by
  simp [World.frozen?, h]

theorem Sat.cell {g : Nat} {cs : List Value} {t : TypeId} {L : List Chunk} {w : World} (s : Sat (.blk g cs t :: L) w) (i : Nat) : w.cell? ⟨g, i, none⟩ = cs[i]? := cell_of_blk s.blk i
theorem Sat.frozen {g : Nat} {cs : List Value} {t : TypeId} {L : List Chunk} {w : World} (s : Sat (.blk g cs t :: L) w) (i : Nat) : w.frozen? ⟨g, i, none⟩ = false := frozen_of_blk s.blk i

/-- A member of the list, brought to the front. -/
theorem perm_front {α : Type} (L : List α) (i : Nat) (h : i < L.length) : L.Perm (L[i] :: L.eraseIdx i) := by
  induction L generalizing i with
  | nil => simp at h
  | cons a L ih =>
    cases i with
    | zero => simp
    | succ i =>
      simp only [List.getElem_cons_succ, List.eraseIdx_cons_succ]
      exact ((ih i (by simpa using h)).cons a).trans (List.Perm.swap _ _ _)

theorem Sat.front {L : List Chunk} {w : World} (s : Sat L w) (i : Nat) (h : i < L.length := by decide) : Sat (L[i] :: L.eraseIdx i) w := s.perm (perm_front L i h)

/-- The part of another heap: what is changed in the first part, and what is new. -/
theorem SatH.put {A B : Chunk} {L : List Chunk} {h k : Hp} (s : SatH (A :: L) h)
    (H : ∀ h1, Hp.sub h1 h → A.a h1 → ∃ k1, B.a k1 ∧ Hp.sub k1 k ∧ (∀ g, h1 g = none → (h g).isSome = true → k1 g = none ∧ k g = h g)) : SatH (B :: L) k := by
  obtain ⟨h1, h2, a, s1, s2, x, y⟩ := s
  obtain ⟨k1, hb, hk, hg⟩ := H h1 s1 x
  refine ⟨k1, h2, ?_, hk, ?_, hb, y⟩
  · intro g
    rcases a g with e | e
    · cases e2 : h2 g with
      | none => exact .inr rfl
      | some o => exact .inl (hg g e (by rw [s2 g o e2]; rfl)).1
    · exact .inr e
  · intro g o e
    rcases a g with e' | e'
    · rw [(hg g e' (by rw [s2 g o e]; rfl)).2]; exact s2 g o e
    · rw [e'] at e; cases e

theorem heap_setCell_self {w : World} {g : Nat} {cs : List Value} {t : TypeId} (h : w.heap[g]? = some (.cells cs.toArray t (0, 0))) (i : Nat) (v : Value) :
    (w.setCell ⟨g, i, none⟩ v).heap[g]? = some (.cells (cs.set i v).toArray t (0, 0)) := by
  simp only [World.setCell, Array.getElem?_modify, h]
  simp

theorem heap_setCell_other {w : World} {g k : Nat} (i : Nat) (v : Value) (h : k ≠ g) : (w.setCell ⟨g, i, none⟩ v).heap[k]? = w.heap[k]? := by
  simp only [World.setCell, Array.getElem?_modify]
  rw [if_neg (by simpa using Ne.symm h)]

theorem Sat.set {g : Nat} {cs : List Value} {t : TypeId} {L : List Chunk} {w : World} (s : Sat (.blk g cs t :: L) w) (i : Nat) (v : Value) :
    Sat (.blk g (cs.set i v) t :: L) (w.setCell ⟨g, i, none⟩ v) := by
  refine SatH.put s fun h1 s1 x => ?_
  refine ⟨fun k => if k = g then some (.cells (cs.set i v).toArray t (0, 0)) else none, by simp [Chunk.a], ?_, ?_⟩
  · intro k o e
    by_cases hk : k = g
    · subst hk; simp at e; subst e; exact heap_setCell_self (s1 _ _ x) i v
    · simp [hk] at e
  · intro k e hs
    have hk : k ≠ g := by rintro rfl; rw [x] at e; cases e
    exact ⟨by simp [hk], heap_setCell_other i v hk⟩

theorem SatH.new {B : Chunk} {L : List Chunk} {h k k1 : Hp} (s : SatH L h) (hs : h.sub k) (hb : B.a k1) (hk : k1.sub k) (hn : Hp.apart k1 h) : SatH (B :: L) k :=
  ⟨k1, h, hn, hk, hs, hb, s⟩

theorem hp_alloc_sub (w : World) (o : Obj) : (hp w).sub (hp (w.alloc o)) := fun g o' e => by
  have hlt : g < w.heap.size := by
    by_cases h : g < w.heap.size
    · exact h
    · simp [hp, Array.getElem?_eq_none (by omega : w.heap.size ≤ g)] at e
  simp only [hp] at *
  rw [Below.heap_alloc w o g hlt]; exact e

theorem Sat.alloc {L : List Chunk} {w : World} (s : Sat L w) (cs : List Value) (t : TypeId) : Sat (.blk w.heap.size cs t :: L) (w.alloc (.cells cs.toArray t)) := by
  refine SatH.new s (hp_alloc_sub _ _) (k1 := fun k => if k = w.heap.size then some (.cells cs.toArray t (0, 0)) else none) (by simp [Chunk.a]) ?_ ?_
  · intro k o e
    by_cases hk : k = w.heap.size
    · subst hk; simp at e; subst e
      show (w.heap.push _)[w.heap.size]? = _
      simp
    · simp [hk] at e
  · intro k
    by_cases hk : k = w.heap.size
    · right; subst hk; simp [hp]
    · left; simp [hk]

theorem Sat.drew {L : List Chunk} {w : World} (s : Sat L w) : Sat L w.drew := s
theorem Sat.drewN {L : List Chunk} {w : World} (s : Sat L w) (n : Nat) : Sat L (w.drewN n) := s

/-- Whatever lies in w, lies there in w'. -/
theorem Sat.below {L : List Chunk} {w w' : World} (s : Sat L w) (h : Below w.heap.size w w') : Sat L w' := by
  refine SatH.mono s fun g o e => ?_
  simp only [hp] at *
  rw [h.block g ?_]; exact e
  by_cases hlt : g < w.heap.size
  · exact hlt
  · rw [Array.getElem?_eq_none (by omega)] at e; cases e

end Go.Proofs.YtfcbjcohepkkfaaGreat.Sep

/-
  The state of a walk: what lies where, since a world W; the operations that make or write memory, each as one step of the walk.
-/
namespace Go.Proofs.YtfcbjcohepkkfaaGreat.Sep
open Go.RowKit

structure Ext (W w : World) : Prop where
  os : w.os = W.os
  tape : w.tape = W.tape
  output : w.output = W.output
  size : W.heap.size ≤ w.heap.size
  drawn : W.drawn ≤ w.drawn
theorem Ext.refl (W : World) : Ext W W := ⟨rfl, rfl, rfl, Nat.le_refl _, Nat.le_refl _⟩
theorem Ext.trans {a b c : World} (h : Ext a b) (k : Ext b c) : Ext a c := ⟨k.os.trans h.os, k.tape.trans h.tape, k.output.trans h.output, Nat.le_trans h.size k.size, Nat.le_trans h.drawn k.drawn⟩

def St (W : World) (L : List Chunk) (w : World) : Prop := Sat L w ∧ Ext W w

theorem St.sat {W : World} {L : List Chunk} {w : World} (s : St W L w) : Sat L w := s.1
theorem St.perm {W : World} {L M : List Chunk} {w : World} (s : St W L w) (p : L.Perm M) : St W M w := ⟨s.1.perm p, s.2⟩
theorem St.tail {W : World} {A : Chunk} {L : List Chunk} {w : World} (s : St W (A :: L) w) : St W L w := ⟨s.1.tail, s.2⟩
theorem St.drew {W : World} {L : List Chunk} {w : World} (s : St W L w) : St W L w.drew := ⟨s.1, ⟨s.2.os, s.2.tape, s.2.output, s.2.size, Nat.le_succ_of_le s.2.drawn⟩⟩
theorem St.drewN {W : World} {L : List Chunk} {w : World} (s : St W L w) (n : Nat) : St W L (w.drewN n) := ⟨s.1, ⟨s.2.os, s.2.tape, s.2.output, s.2.size, Nat.le_trans s.2.drawn (Nat.le_add_right _ _)⟩⟩
theorem St.front {W : World} {L : List Chunk} {w : World} (s : St W L w) (i : Nat) (h : i < L.length := by decide) : St W (L[i] :: L.eraseIdx i) w := ⟨s.1.front i h, s.2⟩
theorem St.alloc {W : World} {L : List Chunk} {w : World} (s : St W L w) (cs : List Value) (t : TypeId) : St W (.blk w.heap.size cs t :: L) (w.alloc (.cells cs.toArray t)) :=
  ⟨s.1.alloc cs t, s.2.trans ⟨rfl, rfl, rfl, by simp, Nat.le_refl _⟩⟩
theorem size_setCell (w : World) (a : Addr) (v : Value) : (w.setCell a v).heap.size = w.heap.size := by simp [World.setCell]
theorem St.set {W : World} {g : Nat} {cs : List Value} {t : TypeId} {L : List Chunk} {w : World} (s : St W (.blk g cs t :: L) w) (i : Nat) (v : Value) :
    St W (.blk g (cs.set i v) t :: L) (w.setCell ⟨g, i, none⟩ v) :=
  ⟨s.1.set i v, s.2.trans ⟨rfl, rfl, rfl, by rw [size_setCell]; exact Nat.le_refl _, Nat.le_refl _⟩⟩

/-- The cells of the blocks that are known whole. -/
def cellsOf : List Chunk → World → Prop
  | [], _ => True
  | .blk g cs _ :: L, w => (∀ i, w.cell? ⟨g, i, none⟩ = cs[i]?) ∧ (∀ i, w.frozen? ⟨g, i, none⟩ = false) ∧ cellsOf L w
  | .oth _ :: L, w => cellsOf L w

theorem Sat.cellsOf {L : List Chunk} {w : World} (s : Sat L w) : cellsOf L w := by
  induction L with
  | nil => trivial
  | cons A L ih =>
    cases A with
    | blk g cs t => exact ⟨s.cell, s.frozen, ih s.tail⟩
    | oth A => exact ih s.tail
theorem St.cellsOf {W : World} {L : List Chunk} {w : World} (s : St W L w) : cellsOf L w := s.1.cellsOf

/-- cs with vs laid over it from o on. -/
def putAt (cs : List Value) : Nat → List Value → List Value
  | _, [] => cs
  | o, v :: vs => putAt (cs.set o v) (o + 1) vs

section
variable {P : Program} {Q : Exit → Act → World → Prop} {K : Act → World → Prop} {a : Act} {w W : World} {L : List Chunk}

theorem putAt_eq (vs : List Value) : ∀ (cs : List Value) (o : Nat), o + vs.length ≤ cs.length → putAt cs o vs = cs.take o ++ vs ++ cs.drop (o + vs.length) := by
  induction vs with
  | nil => intro cs o _; simp [putAt]
  | cons v vs ih =>
    intro cs o h
    simp only [List.length_cons] at h
    rw [putAt, ih _ _ (by rw [List.length_set]; omega)]
    have := list_seg_step cs o v vs (by omega)
    simpa [Nat.add_assoc, Nat.add_comm 1] using this
theorem length_putAt (vs : List Value) : ∀ (cs : List Value) (o : Nat), (putAt cs o vs).length = cs.length := by
  induction vs with
  | nil => intro cs o; rfl
  | cons v vs ih => intro cs o; rw [putAt, ih, List.length_set]

theorem heap_setRow_self {w : World} {g : Nat} {cs : Array Value} {t : TypeId} (h : w.heap[g]? = some (.cells cs t (0, 0))) (ds : Array Value) :
    (w.setRow g ds).heap[g]? = some (.cells ds t (0, 0)) := by
  simp only [World.setRow, Array.getElem?_modify, h]; simp
theorem heap_setRow_other {w : World} {g k : Nat} (ds : Array Value) (h : k ≠ g) : (w.setRow g ds).heap[k]? = w.heap[k]? := by
  simp only [World.setRow, Array.getElem?_modify]
  rw [if_neg (by simpa using Ne.symm h)]
theorem size_setRow (w : World) (g : Nat) (ds : Array Value) : (w.setRow g ds).heap.size = w.heap.size := by simp [World.setRow]

theorem Sat.setRow {g : Nat} {cs : List Value} {t : TypeId} {L : List Chunk} {w : World} (s : Sat (.blk g cs t :: L) w) (ds : List Value) :
    Sat (.blk g ds t :: L) (w.setRow g ds.toArray) := by
  refine SatH.put s fun h1 s1 x => ?_
  refine ⟨fun k => if k = g then some (.cells ds.toArray t (0, 0)) else none, by simp [Chunk.a], ?_, ?_⟩
  · intro k o e
    by_cases hk : k = g
    · subst hk; simp at e; subst e; exact heap_setRow_self (s1 _ _ x) ds.toArray
    · simp [hk] at e
  · intro k e hs
    have hk : k ≠ g := by rintro rfl; rw [show h1 k = _ from x] at e; cases e
    exact ⟨by simp [hk], heap_setRow_other ds.toArray hk⟩
theorem St.setRow {g : Nat} {cs : List Value} {t : TypeId} (s : St W (.blk g cs t :: L) w) (ds : List Value) :
    St W (.blk g ds t :: L) (w.setRow g ds.toArray) := ⟨s.1.setRow ds, s.2.trans ⟨rfl, rfl, rfl, by rw [size_setRow]; exact Nat.le_refl _, Nat.le_refl _⟩⟩

theorem perm_at {α : Type} {L : List α} {j : Nat} {x : α} (h : L[j]? = some x) : L.Perm (x :: L.eraseIdx j) := by
  obtain ⟨hj, rfl⟩ := List.getElem?_eq_some_iff.1 h
  exact perm_front L j hj
theorem perm_set {α : Type} {L : List α} {j : Nat} {x : α} (h : L[j]? = some x) (y : α) : (y :: L.eraseIdx j).Perm (L.set j y) := by
  obtain ⟨hj, rfl⟩ := List.getElem?_eq_some_iff.1 h
  have := perm_front (L.set j y) j (by simpa using hj)
  simp only [List.getElem_set_self, List.eraseIdx_set_eq] at this
  exact this.symm

theorem St.at_ {j : Nat} {x : Chunk} (s : St W L w) (h : L[j]? = some x) : St W (x :: L.eraseIdx j) w := s.perm (perm_at h)

theorem run_loadCells_at (g o : Nat) (cs : List Value) (h : ∀ i, w.cell? ⟨g, i, none⟩ = cs[i]?) (n : Nat) (hn : o + n ≤ cs.length) : (loadCells ⟨g, o, none⟩ n).run P w = .ok (cs.extract o (o + n)).toArray w := by
  have := run_loadCells_list (P := P) w ⟨g, o, none⟩ (cs.extract o (o + n)) (fun j v hv => by
    rw [show (⟨g, o, none⟩ : Addr).add j = ⟨g, o + j, none⟩ by unfold Addr.add; split <;> simp_all, h]
    rw [List.extract_eq_take_drop] at hv
    rw [List.getElem?_take] at hv
    split at hv
    · rw [List.getElem?_drop] at hv; exact hv
    · cases hv)
  have hl : (cs.extract o (o + n)).length = n := by simp [List.extract_eq_take_drop]; omega
  rwa [hl] at this

end
end Go.Proofs.YtfcbjcohepkkfaaGreat.Sep

/-
  Slices that are owned: the first n elements (k cells each) of a row of memory that nobody else owns; append onto them.
-/
namespace Go.Proofs.YtfcbjcohepkkfaaGreat.Sep
open Go.RowKit

/-- The row that a slice of n elements with k cells each, of capacity c, begins at A; its cells are cs. -/
def Own (e k : Nat) (A : Option Addr) (n c : Nat) (cs : List Value) : Chunk := .oth fun h =>
  cs.length = n * k ∧ n ≤ c ∧ c ≤ maxLen ∧ (c = 0 ∨ ∃ g off all, A = some ⟨g, off, none⟩ ∧ h g = some (.cells (List.toArray all) e (0, 0)) ∧ off + c * k ≤ all.length ∧ ∀ j u, cs[j]? = some u → all[off + j]? = some u)

/-- A slice's cells can be read. -/
def Reads (w : World) (k : Nat) (A : Option Addr) (n : Nat) (cs : List Value) : Prop :=
  cs.length = n * k ∧ (0 < n * k → A ≠ none) ∧ ∀ ad, A = some ad → ∀ j u, cs[j]? = some u → w.cell? (ad.add j) = some u

/-- Slice type t has elements of type e, of k cells and b bytes. -/
structure Elt (P : Program) (t e k b : Nat) : Prop where
  under : P.underlying t = some (.slice e)
  info : (P.info? e).map (fun i => (i.zero.map (·.cells.size), i.size, i.bytes)) = some (some k, k, b)

theorem add_lit (g o j : Nat) : (⟨g, o, none⟩ : Addr).add j = ⟨g, o + j, none⟩ := by unfold Addr.add; split <;> simp_all

section
variable {P : Program} {Q : Exit → Act → World → Prop} {K : Act → World → Prop} {a : Act} {w W : World} {L : List Chunk}

theorem Own.facts {e k : Nat} {A : Option Addr} {n c : Nat} {cs : List Value} (s : Sat (Own e k A n c cs :: L) w) : cs.length = n * k ∧ n ≤ c ∧ c ≤ maxLen := by
  obtain ⟨h1, h2, a, s1, s2, ⟨x1, x2, x3, x⟩, y⟩ := s
  exact ⟨x1, x2, x3⟩
theorem Own.reads {e k : Nat} {A : Option Addr} {n c : Nat} {cs : List Value} (s : Sat (Own e k A n c cs :: L) w) : Reads w k A n cs := by
  obtain ⟨h1, h2, a, s1, s2, ⟨x1, x2, x3, x⟩, y⟩ := s
  refine ⟨x1, ?_, ?_⟩
  · intro hp
    rcases x with rfl | ⟨g, off, all, rfl, _⟩
    · have : n = 0 := by omega
      subst this; simp at hp
    · simp
  · intro ad e1 j u hu
    rcases x with rfl | ⟨g, off, all, rfl, hg, hl, hr⟩
    · have : n = 0 := by omega
      subst this; simp at x1; subst x1; simp at hu
    · cases e1
      have hb : w.heap[g]? = _ := s1 _ _ hg
      rw [add_lit, cell_of_blk hb]
      exact hr j u hu

theorem Own.open_ {e k : Nat} {A : Option Addr} {n c : Nat} {cs : List Value} (hc : 0 < c) (s : St W (Own e k A n c cs :: L) w) :
    ∃ g off all, A = some ⟨g, off, none⟩ ∧ off + c * k ≤ all.length ∧ (∀ j u, cs[j]? = some u → all[off + j]? = some u) ∧ St W (.blk g all e :: L) w := by
  obtain ⟨⟨h1, h2, a, s1, s2, ⟨x1, x2, x3, x⟩, y⟩, z⟩ := s
  rcases x with rfl | ⟨g, off, all, rfl, hg, hl, hr⟩
  · omega
  · exact ⟨g, off, all, rfl, hl, hr, ⟨h1, h2, a, s1, s2, hg, y⟩, z⟩
theorem Own.close {e k : Nat} {g off : Nat} {n c : Nat} {cs all : List Value} (h1 : cs.length = n * k) (h2 : n ≤ c) (h3 : c ≤ maxLen) (hl : off + c * k ≤ all.length) (hr : ∀ j u, cs[j]? = some u → all[off + j]? = some u)
    (s : St W (.blk g all e :: L) w) : St W (Own e k (some ⟨g, off, none⟩) n c cs :: L) w :=
  ⟨s.1.head_imp fun _ x => ⟨h1, h2, h3, .inr ⟨g, off, all, rfl, x, hl, hr⟩⟩, s.2⟩
theorem Own.none_ {e k : Nat} (A : Option Addr) (s : St W L w) : St W (Own e k A 0 0 [] :: L) w := by
  refine ⟨⟨fun _ => none, hp w, fun _ => .inl rfl, fun _ _ e => (by cases e), Hp.sub.refl _, ?_, s.1⟩, s.2⟩
  exact ⟨by simp, Nat.le_refl _, by simp [maxLen], .inl rfl⟩

/-- append onto an owned row: in place, or into a new one beside it. -/
theorem run_append_both {t e k b : Nat} (E : Elt P t e k b) (hk : 0 < k) {A B : Option Addr} {n c m d : Nat} {cs news : List Value}
    (s : St W (Own e k A n c cs :: L) w) (hr : Reads w k B m news) (h1 : ∀ u ∈ news, u.oneCell' = true)
    (h63 : n + m ≤ maxLen) (hb : (n + m) * b ≤ 140737488355328) (ty : TypeId) :
    ∃ A' c' w1, (Builtin.append_ #[t, t] ty #[.slice A n c, .slice B m d]).run P w = .ok (.slice A' (n + m) c') w1 ∧
      ((A' = A ∧ c' = c ∧ St W (Own e k A' (n + m) c' (cs ++ news) :: L) w1) ∨ St W (Own e k A' (n + m) c' (cs ++ news) :: Own e k A n c cs :: L) w1) ∧ (A' = none → A = none ∧ m = 0) := by
  obtain ⟨hl, hnc, hcm⟩ := Own.facts s.1
  obtain ⟨hrl, hrn, hrr⟩ := hr
  obtain ⟨i, hi, hinf⟩ := Option.map_eq_some_iff.1 E.info
  simp only [Prod.mk.injEq] at hinf
  obtain ⟨hz, hsz, hby⟩ := hinf
  obtain ⟨z, hz, hzs⟩ := Option.map_eq_some_iff.1 hz
  by_cases hm : m = 0
  · subst hm
    have : news = [] := by simpa using hrl
    subst this
    refine ⟨A, c, w, ?_, .inl ⟨rfl, rfl, by simpa using s⟩, fun h => ⟨h, rfl⟩⟩
    cases A <;> cases B <;> simp [Builtin.append_, run_underlying E.under, sizeOf, typeInfo, hi, Builtin.lenOf, hnc, Builtin.firstCells, loadCells, loadCellsFrom, storeCells]
  · have hm0 : 0 < m := by omega
    have hB : B ≠ none := hrn (Nat.mul_pos hm0 hk)
    obtain ⟨ad, rfl⟩ : ∃ ad, B = some ad := by cases B with | none => exact absurd rfl hB | some ad => exact ⟨ad, rfl⟩
    have hnews := hrr ad rfl
    by_cases hroom : n + m ≤ c
    · obtain ⟨g, off, all, rfl, hal, har, s1⟩ := Own.open_ (by omega) s
      have hbk := s1.1.blk
      have hfit : off + n * k + news.length ≤ all.length := by
        rw [hrl]
        have := Nat.mul_le_mul_right k hroom
        rw [Nat.add_mul] at this
        omega
      have hst := run_storeCells_at (P := P) g (off + n * k) e news 0 all.toArray w hbk (by simpa using hfit) h1
      have hf := run_firstCells_some (P := P) w k m ad m d news hrl hnews
      refine ⟨some ⟨g, off, none⟩, c, w.setRow g (putAt all (off + n * k) news).toArray, ?_, ?_, fun h => by cases h⟩
      · have hst' : (storeCells ⟨g, off + n * k, none⟩ news 0).run P w = .ok () (w.setRow g (putAt all (off + n * k) news).toArray) := by
          rw [putAt_eq _ _ _ hfit]; exact hst
        have hf' : (Builtin.firstCells k m (.slice (some ad) m d)).run P w = .ok news.toArray w := hf
        simp [Builtin.append_, run_underlying E.under, sizeOf, typeInfo, hi, hsz, Builtin.lenOf, hroom, hf', add_lit, hst']
      · refine .inl ⟨rfl, rfl, Own.close ?_ hroom hcm ?_ ?_ (s1.setRow _)⟩
        · rw [List.length_append, hl, hrl, Nat.add_mul]
        · rw [length_putAt]; exact hal
        · intro j u hu
          rw [putAt_eq _ _ _ hfit]
          rw [List.getElem?_append] at hu
          split at hu
          · rename_i hj
            have h := har j u hu
            rw [List.append_assoc, List.getElem?_append_left (by rw [List.length_take, Nat.min_eq_left (by omega)]; omega), List.getElem?_take, if_pos (by omega)]
            exact h
          · rename_i hj
            have hjn : j - cs.length < news.length := (List.getElem?_eq_some_iff.1 hu).1
            rw [List.append_assoc, List.getElem?_append_right (by rw [List.length_take, Nat.min_eq_left (by omega)]; omega), List.length_take, Nat.min_eq_left (by omega), List.getElem?_append_left (by omega)]
            rw [show off + j - (off + n * k) = j - cs.length by omega]
            exact hu
    · have hg : c < n + m := by omega
      have hge := grownCap_ge w (n + m) c e
      have hcm' : grownCap w (n + m) c e ≤ maxLen := grownCap_le_maxLen w (n + m) c e h63
      have hsmall : n + m ≤ 9223372036854775807 := by simp only [maxLen] at h63; omega
      have hnew : ∀ (olds : Array Value), olds.toList = cs → (Builtin.append_ #[t, t] ty #[.slice A n c, .slice (some ad) m d]).run P w =
          .ok (.slice (some ⟨w.heap.size, 0, none⟩) (n + m) (grownCap w (n + m) c e)) (w.drew.alloc (.cells (cs.toArray ++ news.toArray ++ Builtin.zeroCells z.cells (grownCap w (n + m) c e - (n + m))) e)) := by
        intro olds _
        cases A with
        | some ao =>
          have hrd := (Own.reads s.1).2.2 ao rfl
          exact run_append_grow (P := P) w t ty e i z E.under hi hz ao n c cs (by rw [hl, hsz]) hrd ad m d news (by rw [hrl, hsz]) hnews hg (by omega) (by rw [hby]; exact growslice_fits hg hb)
        | none =>
          have hc0 : c = 0 := by
            by_cases h0 : 0 < c
            · obtain ⟨g, off, all, h, _⟩ := Own.open_ h0 s; cases h
            · omega
          have hn0 : n = 0 := by omega
          subst hc0; subst hn0
          have : cs = [] := by simpa using hl
          subst this
          have := run_append_nil (P := P) w t ty e i z E.under hi hz ad m d news (by rw [hrl, hsz]) hnews hm0 (by omega) (by rw [Nat.zero_add] at hb; rw [hby]; omega)
          simpa using this
      refine ⟨_, _, _, hnew cs.toArray (by simp), ?_, fun h => by cases h⟩
      have s2 := (s.drew).alloc (cs ++ news ++ (Builtin.zeroCells z.cells (grownCap w (n + m) c e - (n + m))).toList) e
      have e2 : (cs ++ news ++ (Builtin.zeroCells z.cells (grownCap w (n + m) c e - (n + m))).toList).toArray = cs.toArray ++ news.toArray ++ Builtin.zeroCells z.cells (grownCap w (n + m) c e - (n + m)) := by
        apply Array.ext'; simp
      rw [e2] at s2
      refine .inr (Own.close (all := cs ++ news ++ (Builtin.zeroCells z.cells (grownCap w (n + m) c e - (n + m))).toList) ?_ hge hcm' ?_ ?_ s2)
      · rw [List.length_append, hl, hrl, Nat.add_mul]
      · have : (Builtin.zeroCells z.cells (grownCap w (n + m) c e - (n + m))).toList.length = (grownCap w (n + m) c e - (n + m)) * k := by rw [Array.length_toList, size_zeroCells, hzs]
        rw [List.length_append, List.length_append, this, hl, hrl, ← Nat.add_mul, ← Nat.add_mul]
        rw [show n + m + (grownCap w (n + m) c e - (n + m)) = grownCap w (n + m) c e by omega]
        omega
      · intro j u hu
        rw [Nat.zero_add, List.getElem?_append_left (List.getElem?_eq_some_iff.1 hu).1]
        exact hu

/-- append onto an owned row. -/
theorem run_append_own {t e k b : Nat} (E : Elt P t e k b) (hk : 0 < k) {A B : Option Addr} {n c m d : Nat} {cs news : List Value}
    (s : St W (Own e k A n c cs :: L) w) (hr : Reads w k B m news) (h1 : ∀ u ∈ news, u.oneCell' = true)
    (h63 : n + m ≤ maxLen) (hb : (n + m) * b ≤ 140737488355328) (ty : TypeId) :
    ∃ A' c' w1, (Builtin.append_ #[t, t] ty #[.slice A n c, .slice B m d]).run P w = .ok (.slice A' (n + m) c') w1 ∧ St W (Own e k A' (n + m) c' (cs ++ news) :: L) w1 ∧ (A' = none → A = none ∧ m = 0) := by
  obtain ⟨A', c', w1, hrun, hs, hn⟩ := run_append_both (P := P) E hk s hr h1 h63 hb ty (d := d)
  refine ⟨A', c', w1, hrun, ?_, hn⟩
  rcases hs with ⟨_, _, hs⟩ | hs
  · exact hs
  · exact St.perm (St.tail (St.perm hs (List.Perm.swap _ _ _))) (List.Perm.refl _)

end
end Go.Proofs.YtfcbjcohepkkfaaGreat.Sep

/-
  A statement whose order is open: its first n operations come in whatever order, the others behind all of these. Of the first n, those that only look may be taken first, where what they look at is kept by all the others (S).
-/
namespace Go.Proofs.YtfcbjcohepkkfaaGreat.Sep
open Go.RowKit
section
variable {P : Program} {ops : Array Oper} {Q : Exit → Act → World → Prop} {md : Region.Mode} {S : World → Prop}

def wpHT (P : Program) (md : Region.Mode) (ops : Array Oper) (Q : Exit → Act → World → Prop) (S : World → Prop) (n : Nat) (L : Array Bool → Act → World → Prop) : Nat → Array Bool → Act → World → Prop
  | 0, listed, a, w => L listed a w
  | f + 1, listed, a, w => Region.ready md ops listed ≠ [] ∧ ∀ i ∈ Region.ready md ops listed, i < n ∧ wpOp P ops Q i (fun a' w' => S w' ∧ wpHT P md ops Q S n L f (listed.setIfInBounds i true) a' w') a w

theorem wpAny_of_ht {n g : Nat} {L : Array Bool → Act → World → Prop} (hL : ∀ listed a w, L listed a w → wpAny P md ops Q g listed a w) :
    ∀ (f : Nat) (listed : Array Bool) (a : Act) (w : World), wpHT P md ops Q S n L f listed a w → wpAny P md ops Q (f + g) listed a w
  | 0, listed, a, w, h => by rw [Nat.zero_add]; exact hL _ _ _ h
  | f + 1, listed, a, w, h => by
    rw [show f + 1 + g = (f + g) + 1 by omega]
    exact ⟨fun h0 => absurd h0 h.1, fun i hi => wpOp_mono (fun a' w' h' => wpAny_of_ht hL f _ a' w' h'.2) (h.2 i hi).2⟩

theorem wpHT_first {n i : Nat} {oi : Oper} {v : Value} {L : Array Bool → Act → World → Prop} (hi : ops[i]? = some oi) (hsel : ∀ (j : Nat) (o : Oper) cs b, ops[j]? = some o → o.op ≠ .select cs b)
    (hQ : ∀ c a w, Q (.panic c) (a.put oi.dst v) w → Q (.panic c) a w)
    (hs : Region.sinkB md ops n = true) (hc : Region.chainB md ops n = true) (hn : n < ops.size) (hin : i < n)
    (hdone : ∀ listed a w, L listed a w → ∀ j ∈ Region.ready md ops listed, n ≤ j) :
    ∀ (f : Nat) (listed : Array Bool) (a : Act) (w : World), HeadInv md ops n listed →
      (∀ j oj, ops[j]? = some oj → j ≠ i → listed.getD j true = false → (∀ e ∈ oj.after, Region.binds md e = true → e.on ≠ i) → oi.apart ops oj = true) →
      i ∈ Region.ready md ops listed → YieldsIf P ops S oi v a → S w →
      wpHT P md ops Q S n L f (listed.setIfInBounds i true) (a.put oi.dst v) w → wpHT P md ops Q S n L (f + 1) listed a w := by
  intro f
  induction f with
  | zero =>
    intro listed a w inv _ hr hy hS H
    have hun := (mem_ready.1 hr).1
    refine ⟨fun h => (by rw [h] at hr; cases hr), fun j hj => ?_⟩
    have hjn : j < n := by
      rcases Nat.lt_or_ge j n with h | h
      · exact h
      · exact absurd hj (tail_waits hs hc hn inv _ i rfl hin hun j h)
    refine ⟨hjn, ?_⟩
    by_cases hji : j = i
    · subst hji; exact hy.wpOp hi hS ⟨hS, H⟩
    · have := hdone _ _ _ H j (ready_mono hj hji)
      omega
  | succ f ih =>
    intro listed a w inv hfree hr hy hS H
    have hun := (mem_ready.1 hr).1
    refine ⟨fun h => (by rw [h] at hr; cases hr), fun j hj => ?_⟩
    have hjn : j < n := by
      rcases Nat.lt_or_ge j n with h | h
      · exact h
      · exact absurd hj (tail_waits hs hc hn inv _ i rfl hin hun j h)
    refine ⟨hjn, ?_⟩
    by_cases hji : j = i
    · subst hji; exact hy.wpOp hi hS ⟨hS, H⟩
    · have h1 := (H.2 j (ready_mono hj hji)).2
      obtain ⟨hjun, oj, hoj, hall⟩ := mem_ready.1 hj
      have hnot : ∀ e ∈ oj.after, Region.binds md e = true → e.on ≠ i := fun e he hb heq => by
        have h1 := hall e he hb
        rw [heq, getD_both hun] at h1
        cases h1
      have h2 := wpOp_putIf hoj (hfree j oj hoj hji hjun hnot) (fun cs b => hsel i oi cs b hi) (fun cs b => hsel j oj cs b hoj) hQ hy h1
      have hfree' : ∀ k ok, ops[k]? = some ok → k ≠ i → (listed.setIfInBounds j true).getD k true = false →
          (∀ e ∈ ok.after, Region.binds md e = true → e.on ≠ i) → oi.apart ops ok = true := fun k ok hk hki hun hno => by
        refine hfree k ok hk hki ?_ hno
        by_cases hjk : j = k
        · subst hjk; exact hjun
        · rw [getD_set_ne true hjk] at hun; exact hun
      refine wpOp_mono (fun a' w' h3 => ⟨h3.2.1, ih (listed.setIfInBounds j true) a' w' (inv.set hj hjn) hfree' (ready_mono hr (Ne.symm hji)) h3.1 h3.2.1 ?_⟩) h2
      rw [Array.setIfInBounds_comm _ _ hji]
      exact h3.2.2

/-- What stays the same through the walk of a region's head. -/
structure Head (P : Program) (md : Region.Mode) (ops : Array Oper) (Q : Exit → Act → World → Prop) (S : World → Prop) (n : Nat) (g f : Nat) (listed : Array Bool) (a : Act) (w : World) : Prop where
  run : HeadInv md ops n listed → wpHT P md ops Q S n (fun listed' a' w' => Region.seqB md ops g n listed' = true ∧ wpList P ops Q (ops.toList.drop n) a' w') f listed a w

theorem Head.take {n g f i : Nat} {oi : Oper} {v : Value} {listed : Array Bool} {a : Act} {w : World} (hi : ops[i]? = some oi)
    (hB : (Region.noSelect ops && decide (n < ops.size) && Region.sinkB md ops n && Region.chainB md ops n && decide (i < n) && Region.free md ops listed i && (Region.ready md ops listed).contains i) = true)
    (hQ : ∀ c a w, Q (.panic c) (a.put oi.dst v) w → Q (.panic c) a w) (hy : YieldsIf P ops S oi v a) (hS : S w)
    (h : Head P md ops Q S n g f (listed.setIfInBounds i true) (a.put oi.dst v) w) : Head P md ops Q S n g (f + 1) listed a w := by
  simp only [Bool.and_eq_true, decide_eq_true_eq] at hB
  obtain ⟨⟨⟨⟨⟨⟨hsel, hn⟩, hs⟩, hc⟩, hin⟩, hf⟩, hr⟩ := hB
  have hr' : i ∈ Region.ready md ops listed := by simpa using hr
  exact ⟨fun inv => wpHT_first hi (Region.noSelect_spec hsel) hQ hs hc hn hin (fun listed' a' w' hL => seqB_ready hL.1) f listed a w inv (Region.free_spec hi hf) hr' hy hS (h.run (inv.set hr' hin))⟩

theorem Head.only {n g f i : Nat} {oi : Oper} {listed : Array Bool} {a : Act} {w : World} (hi : ops[i]? = some oi)
    (hB : (decide (Region.ready md ops listed = [i]) && decide (i < n)) = true)
    (h : if Region.wanted oi (yielded ops a.tmps) then oi.wp P a w (fun a' w' => S w' ∧ Head P md ops Q S n g f (listed.setIfInBounds i true) a' w') Q else S w ∧ Head P md ops Q S n g f (listed.setIfInBounds i true) (a.put oi.dst undef) w) :
    Head P md ops Q S n g (f + 1) listed a w := by
  simp only [Bool.and_eq_true, decide_eq_true_eq] at hB
  obtain ⟨hr, hin⟩ := hB
  have hr' : i ∈ Region.ready md ops listed := by rw [hr]; simp
  refine ⟨fun inv => ⟨fun h0 => (by rw [hr] at h0; cases h0), fun j hj => ?_⟩⟩
  rw [hr] at hj
  have : j = i := by simpa using hj
  subst this
  refine ⟨hin, ?_⟩
  unfold wpOp
  simp only [hi]
  split
  · rename_i hw
    rw [if_pos hw] at h
    exact .inl (Oper.wp_mono (fun a' w' h' => ⟨h'.1, h'.2.run (inv.set hr' hin)⟩) h)
  · rename_i hw
    rw [if_neg hw] at h
    exact ⟨h.1, h.2.run (inv.set hr' hin)⟩

theorem Head.done {n g : Nat} {listed : Array Bool} {a : Act} {w : World} (hB : Region.seqB md ops g n listed = true) (h : wpList P ops Q (ops.toList.drop n) a w) : Head P md ops Q S n g 0 listed a w :=
  ⟨fun _ => ⟨hB, h⟩⟩

theorem wp_region_head {id : Nat} {a : Act} {w : World} {l : List Oper} (n : Nat) (S : World → Prop) (hm : P.follows .mixedOrders = true) (hn : n ≤ l.length)
    (h : Head P .any l.toArray Q S n (l.length - n) n (Array.replicate l.length false) a w.drew) : (Code.region id l.toArray true).wp P Q a w := by
  refine wp_region_any hm ?_
  have inv0 : HeadInv .any l.toArray n (Array.replicate l.toArray.size false) :=
    ⟨by simp, fun j oj _ hl => (by rw [getD_replicate_false] at hl; cases hl), fun t _ ht => getD_in (by simpa using ht) (getD_replicate_false _ _)⟩
  have H := h.run (by simpa using inv0)
  have := wpAny_of_ht (Q := Q) (g := l.length - n) (fun listed a' w' hL => by
    have := wpAny_of_seq (md := .any) (ops := l.toArray) (Q' := Q) (l.drop n) n listed a' w' (fun j => by simp [List.getElem?_drop]) (by rw [List.length_drop]; exact hL.1) hL.2
    rwa [List.length_drop] at this) _ _ _ _ H
  rw [show n + (l.length - n) = l.length by omega] at this
  simpa using this

end
end Go.Proofs.YtfcbjcohepkkfaaGreat.Sep

/-
  The walk, one step an operation: what is known of a function's temporaries is a short list of places and values; each step is one theorem.
-/
namespace Go.Proofs.YtfcbjcohepkkfaaGreat.Sep
open Go.RowKit

abbrev Env := List (Nat × Value)
def look : Env → Nat → Value
  | [], _ => undef
  | p :: E, t => bif Nat.beq p.1 t then p.2 else look E t
def isIn : Env → Nat → Bool
  | [], _ => false
  | p :: E, t => bif Nat.beq p.1 t then true else isIn E t
def evalE (E : Env) : Operand → Value
  | .tmp t => look E t
  | .const v => v
  | .global g => .pointer (some ⟨g, 0, none⟩)
  | .func f => .func (.func f) #[] #[]
def putE (E : Env) : Option Tmp → Value → Env
  | none, _ => E
  | some d, v => (d, v) :: E

structure Has (a : Act) (N : Nat) (E : Env) : Prop where
  size : a.tmps.size = N
  defers : a.defers = []
  get : ∀ t, isIn E t = true → a.tmps[t]? = some (look E t)

theorem Has.getD {a : Act} {N : Nat} {E : Env} (h : Has a N E) {t : Nat} (i : isIn E t = true) : a.tmps.getD t undef = look E t := by
  have := h.get t i
  simp only [Array.getD_eq_getD_getElem?, this, Option.getD_some]
theorem Has.eval {a : Act} {N : Nat} {E : Env} (h : Has a N E) {x : Operand} (i : ∀ t, x = .tmp t → isIn E t = true) : a.eval x = evalE E x := by
  cases x with
  | tmp t => exact h.getD (i t rfl)
  | _ => rfl
theorem Has.put {a : Act} {N : Nat} {E : Env} (h : Has a N E) (d : Option Tmp) (v : Value) (hd : ∀ t, d = some t → t < N) : Has (a.put d v) N (putE E d v) := by
  cases d with
  | none => exact h
  | some d =>
    refine ⟨by simp [Act.put, h.size], h.defers, fun t i => ?_⟩
    have hdl := hd d rfl
    simp only [putE, isIn, look, Act.put] at *
    by_cases e : d = t
    · subst e
      simp [h.size, hdl]
    · have hb : Nat.beq d t = false := by
        cases hq : Nat.beq d t with
        | false => rfl
        | true => exact absurd (Nat.eq_of_beq_eq_true hq) e
      simp only [hb, cond_false] at i ⊢
      rw [Array.getElem?_setIfInBounds_ne e]
      exact h.get t i
def keepE (E : Env) (l : List Nat) : Env := l.map fun t => (t, look E t)
theorem isIn_keep {E : Env} {l : List Nat} {t : Nat} (h : isIn (keepE E l) t = true) : t ∈ l ∧ look (keepE E l) t = look E t := by
  induction l with
  | nil => simp [keepE, isIn] at h
  | cons k l ih =>
    simp only [keepE, List.map_cons, isIn, look] at *
    cases hb : Nat.beq k t with
    | true =>
      have := Nat.eq_of_beq_eq_true hb
      subst this
      exact ⟨by simp, by simp⟩
    | false =>
      simp only [hb, cond_false] at h ⊢
      exact ⟨by simp [(ih h).1], (ih h).2⟩
theorem Has.keep {a : Act} {N : Nat} {E : Env} (h : Has a N E) (l : List Nat) (hl : (l.all fun t => isIn E t) = true) : Has a N (keepE E l) := by
  refine ⟨h.size, h.defers, fun t i => ?_⟩
  have := isIn_keep i
  rw [this.2]
  exact h.get t (List.all_eq_true.1 hl t this.1)

/-- All that the operation looks at is known, and it is no select. -/
def covers (E : Env) (o : Oper) (N : Nat) : Bool :=
  (o.op.operands.toList.all fun | .tmp t => isIn E t | _ => true) && (match o.op with | .select _ _ => false | _ => true) && (match o.dst with | some d => Nat.blt d N | none => true)
/-- Whether the operation is carried out, as far as it is known. -/
def wants (E : Env) (ops : Array Oper) (o : Oper) : Option Bool :=
  match o.guard with
  | none => some true
  | some (j, b) => match (ops[j]?).bind (·.dst) with
    | some d => bif isIn E d then (match look E d with | .bool c => some (c == b) | _ => some false) else none
    | none => none

theorem covers_eval {E : Env} {o : Oper} {N : Nat} {a : Act} (h : Has a N E) (c : covers E o N = true) : execOp a.eval o = execOp (evalE E) o := by
  simp only [covers, Bool.and_eq_true] at c
  refine execOp_congr o (fun cs b e => by rw [e] at c; simp at c) fun x hx => h.eval fun t e => ?_
  have := List.all_eq_true.1 c.1.1 x (Array.mem_toList_iff.2 hx)
  subst e
  exact this
theorem covers_dst {E : Env} {o : Oper} {N : Nat} (c : covers E o N = true) : ∀ t, o.dst = some t → t < N := by
  intro t e
  simp only [covers, Bool.and_eq_true, e] at c
  simpa using c.2
theorem wants_eq {E : Env} {ops : Array Oper} {o : Oper} {N : Nat} {a : Act} {b : Bool} (h : Has a N E) (c : wants E ops o = some b) : Region.wanted o (yielded ops a.tmps) = b := by
  simp only [wants] at c
  unfold Region.wanted
  cases hg : o.guard with
  | none => rw [hg] at c; simpa using c
  | some g =>
    obtain ⟨j, want⟩ := g
    rw [hg] at c
    simp only at c ⊢
    cases hd : (ops[j]?).bind (·.dst) with
    | none => rw [hd] at c; simp at c
    | some d =>
      rw [hd] at c
      simp only at c
      cases hi : isIn E d with
      | false => rw [hi] at c; simp at c
      | true =>
        rw [hi] at c
        simp only [cond_true] at c
        have := h.get d hi
        unfold yielded
        rw [hd]
        simp only [Option.bind_some, this]
        cases hv : look E d with
        | bool x => rw [hv] at c; simp only [Option.some.injEq] at c; subst c; cases x <;> cases want <;> rfl
        | _ => rw [hv] at c; simp only [Option.some.injEq] at c; subst c; rfl

section
variable {P : Program} {ops : Array Oper} {Q : Exit → Act → World → Prop} {K : Act → World → Prop} {a : Act} {w W : World} {L : List Chunk} {rest : List Oper} {o : Oper} {N : Nat} {E : Env} {S : World → Prop}

/-! ### operations one behind the other -/
theorem st_val (v : Value) (ha : Has a N E) (hB : (covers E o N && (wants E ops o == some true)) = true) (hr : (execOp (evalE E) o).run P w = .ok (.value v) w)
    (h : ∀ a, Has a N (putE E o.dst v) → wpList P ops Q rest a w) : wpList P ops Q (o :: rest) a w := by
  simp only [Bool.and_eq_true, beq_iff_eq] at hB
  unfold wpList
  rw [if_pos (wants_eq ha hB.2)]
  refine .inl ?_
  unfold Oper.wp
  rw [covers_eval ha hB.1, hr]
  exact h _ (ha.put _ _ (covers_dst hB.1))
theorem st_pass (ha : Has a N E) (hB : (covers E { o with op := .alloc 0 } N && (wants E ops o == some false)) = true)
    (h : ∀ a, Has a N (putE E o.dst undef) → wpList P ops Q rest a w) : wpList P ops Q (o :: rest) a w := by
  simp only [Bool.and_eq_true, beq_iff_eq] at hB
  unfold wpList
  rw [if_neg (by rw [wants_eq ha hB.2]; simp)]
  exact h _ (ha.put _ _ (covers_dst (o := { o with op := .alloc 0 }) hB.1))
/-- An operation that goes on in another world. -/
theorem st_run (v : Value) (w1 : World) (ha : Has a N E) (hB : (covers E o N && (wants E ops o == some true)) = true) (hr : (execOp (evalE E) o).run P w = .ok (.value v) w1)
    (h : ∀ a, Has a N (putE E o.dst v) → wpList P ops Q rest a w1) : wpList P ops Q (o :: rest) a w := by
  simp only [Bool.and_eq_true, beq_iff_eq] at hB
  unfold wpList
  rw [if_pos (wants_eq ha hB.2)]
  refine .inl ?_
  unfold Oper.wp
  rw [covers_eval ha hB.1, hr]
  exact h _ (ha.put _ _ (covers_dst hB.1))
theorem st_do (w1 : World) (ha : Has a N E) (hB : (covers E o N && (wants E ops o == some true)) = true) (hr : (execOp (evalE E) o).run P w = .ok .skip w1)
    (h : ∀ a, Has a N (putE E o.dst undef) → wpList P ops Q rest a w1) : wpList P ops Q (o :: rest) a w := by
  simp only [Bool.and_eq_true, beq_iff_eq] at hB
  unfold wpList
  rw [if_pos (wants_eq ha hB.2)]
  refine .inl ?_
  unfold Oper.wp
  rw [covers_eval ha hB.1, hr]
  exact h _ (ha.put _ _ (covers_dst hB.1))
theorem st_call {f : FuncId} {args : Array Value} {R : Ending → World → Prop} (ha : Has a N E) (hB : (covers E o N && (wants E ops o == some true)) = true) (hr : (execOp (evalE E) o).run P w = .ok (.enter f args) w)
    (hC : Calls P f args w R) (h : ∀ e w', R e w' → ∃ v, e = .returned v ∧ ∀ a, Has a N (putE E o.dst v) → wpList P ops Q rest a w') : wpList P ops Q (o :: rest) a w := by
  simp only [Bool.and_eq_true, beq_iff_eq] at hB
  unfold wpList
  rw [if_pos (wants_eq ha hB.2)]
  refine .inl ?_
  unfold Oper.wp
  rw [covers_eval ha hB.1, hr]
  refine Calls.mono hC fun e w' hR => ?_
  obtain ⟨v, rfl, hk⟩ := h e w' hR
  exact hk _ (ha.put _ _ (covers_dst hB.1))

/-! ### the head of a statement whose order is open -/
theorem hd_val {n g f i : Nat} {listed : Array Bool} (v : Value) (ha : Has a N E) (hi : ops[i]? = some o)
    (hR : (Region.noSelect ops && decide (n < ops.size) && Region.sinkB .any ops n && Region.chainB .any ops n && decide (i < n) && Region.free .any ops listed i && (Region.ready .any ops listed).contains i) = true)
    (hQ : ∀ c a w, Q (.panic c) (a.put o.dst v) w → Q (.panic c) a w) (hB : (covers E o N && (wants E ops o == some true)) = true) (hr : ∀ w, S w → (execOp (evalE E) o).run P w = .ok (.value v) w) (hS : S w)
    (h : ∀ a, Has a N (putE E o.dst v) → Head P .any ops Q S n g f (listed.setIfInBounds i true) a w) : Head P .any ops Q S n g (f + 1) listed a w := by
  simp only [Bool.and_eq_true, beq_iff_eq] at hB
  exact Head.take hi hR hQ (.inl ⟨wants_eq ha hB.2, fun w hw => by rw [covers_eval ha hB.1]; exact hr w hw⟩) hS (h _ (ha.put _ _ (covers_dst hB.1)))
theorem hd_pass {n g f i : Nat} {listed : Array Bool} (ha : Has a N E) (hi : ops[i]? = some o)
    (hR : (Region.noSelect ops && decide (n < ops.size) && Region.sinkB .any ops n && Region.chainB .any ops n && decide (i < n) && Region.free .any ops listed i && (Region.ready .any ops listed).contains i) = true)
    (hQ : ∀ c a w, Q (.panic c) (a.put o.dst undef) w → Q (.panic c) a w) (hB : (covers E { o with op := .alloc 0 } N && (wants E ops o == some false)) = true) (hS : S w)
    (h : ∀ a, Has a N (putE E o.dst undef) → Head P .any ops Q S n g f (listed.setIfInBounds i true) a w) : Head P .any ops Q S n g (f + 1) listed a w := by
  simp only [Bool.and_eq_true, beq_iff_eq] at hB
  exact Head.take hi hR hQ (.inr ⟨wants_eq ha hB.2, rfl⟩) hS (h _ (ha.put _ _ (covers_dst (o := { o with op := .alloc 0 }) hB.1)))
theorem hd_run {n g f i : Nat} {listed : Array Bool} (v : Value) (w1 : World) (ha : Has a N E) (hi : ops[i]? = some o)
    (hR : (decide (Region.ready .any ops listed = [i]) && decide (i < n)) = true)
    (hB : (covers E o N && (wants E ops o == some true)) = true) (hr : (execOp (evalE E) o).run P w = .ok (.value v) w1) (hS : S w1)
    (h : ∀ a, Has a N (putE E o.dst v) → Head P .any ops Q S n g f (listed.setIfInBounds i true) a w1) : Head P .any ops Q S n g (f + 1) listed a w := by
  simp only [Bool.and_eq_true, beq_iff_eq] at hB
  refine Head.only hi (by simpa using hR) ?_
  rw [if_pos (wants_eq ha hB.2)]
  unfold Oper.wp
  rw [covers_eval ha hB.1, hr]
  exact ⟨hS, h _ (ha.put _ _ (covers_dst hB.1))⟩
theorem hd_do {n g f i : Nat} {listed : Array Bool} (w1 : World) (ha : Has a N E) (hi : ops[i]? = some o)
    (hR : (decide (Region.ready .any ops listed = [i]) && decide (i < n)) = true)
    (hB : (covers E o N && (wants E ops o == some true)) = true) (hr : (execOp (evalE E) o).run P w = .ok .skip w1) (hS : S w1)
    (h : ∀ a, Has a N (putE E o.dst undef) → Head P .any ops Q S n g f (listed.setIfInBounds i true) a w1) : Head P .any ops Q S n g (f + 1) listed a w := by
  simp only [Bool.and_eq_true, beq_iff_eq] at hB
  refine Head.only hi (by simpa using hR) ?_
  rw [if_pos (wants_eq ha hB.2)]
  unfold Oper.wp
  rw [covers_eval ha hB.1, hr]
  exact ⟨hS, h _ (ha.put _ _ (covers_dst hB.1))⟩
theorem hd_call {n g f i : Nat} {listed : Array Bool} {F : FuncId} {args : Array Value} {R : Ending → World → Prop} (ha : Has a N E) (hi : ops[i]? = some o)
    (hR : (decide (Region.ready .any ops listed = [i]) && decide (i < n)) = true)
    (hB : (covers E o N && (wants E ops o == some true)) = true) (hr : (execOp (evalE E) o).run P w = .ok (.enter F args) w)
    (hC : Calls P F args w R) (h : ∀ e w', R e w' → ∃ v, e = .returned v ∧ S w' ∧ ∀ a, Has a N (putE E o.dst v) → Head P .any ops Q S n g f (listed.setIfInBounds i true) a w') : Head P .any ops Q S n g (f + 1) listed a w := by
  simp only [Bool.and_eq_true, beq_iff_eq] at hB
  refine Head.only hi (by simpa using hR) ?_
  rw [if_pos (wants_eq ha hB.2)]
  unfold Oper.wp
  rw [covers_eval ha hB.1, hr]
  refine Calls.mono hC fun e w' hR => ?_
  obtain ⟨v, rfl, hs, hk⟩ := h e w' hR
  exact ⟨hs, hk _ (ha.put _ _ (covers_dst hB.1))⟩
/-! ### control -/
theorem wp_if {c : Operand} {x y : Code} {t : Bool} (ha : Has a N E) (hc : (match c with | .tmp t => isIn E t | _ => true) = true) (hv : evalE E c = .bool t)
    (h : if t = true then x.wp P Q a w else y.wp P Q a w) : (Code.cond c x y).wp P Q a w := by
  have he : a.eval c = .bool t := (ha.eval fun u e => by subst e; exact hc).trans hv
  cases t
  · exact wp_cond_false he (by simpa using h)
  · exact wp_cond_true he (by simpa using h)

/-- From a function's call to its body. -/
theorem enters {f : FuncId} {fn : Func} {c : Code} {args : Array Value} {R : Ending → World → Prop} (E : Env) (hf : P.funcs[f]? = some fn) (hb : fn.body = some c) (hn : fn.ntmps = N) (hs : args.size ≤ N)
    (hE : ∀ t, isIn E t = true → args[t]? = some (look E t)) (h : ∀ a, Has a N E → c.wp P (bodyPost P fn R) a w) : Calls P f args w R := by
  refine calls_of_wp hf hb (h _ ⟨?_, rfl, fun t i => ?_⟩)
  · simp [hn]; omega
  · have := hE t i
    have hlt := (Array.getElem?_eq_some_iff.1 this).1
    rw [Array.getElem?_append_left hlt]
    exact this
def argsE (l : List Value) : Env := (List.range l.length).zip l
theorem isIn_zip : ∀ (l : List Value) (k t : Nat), isIn ((List.range' k l.length).zip l) t = true → k ≤ t ∧ l[t - k]? = some (look ((List.range' k l.length).zip l) t) := by
  intro l
  induction l with
  | nil => intro k t h; simp [isIn] at h
  | cons v l ih =>
    intro k t h
    simp only [List.length_cons, List.range'_succ, List.zip_cons_cons, isIn, look] at h ⊢
    cases hb : Nat.beq k t with
    | true =>
      have := Nat.eq_of_beq_eq_true hb
      subst this
      simp
    | false =>
      simp only [hb, cond_false] at h ⊢
      have := ih (k + 1) t h
      refine ⟨by omega, ?_⟩
      rw [show t - k = (t - (k + 1)) + 1 by omega, List.getElem?_cons_succ]
      exact this.2
theorem enter_args {f : FuncId} {fn : Func} {c : Code} {l : List Value} {R : Ending → World → Prop} (hf : P.funcs[f]? = some fn) (hb : fn.body = some c) (hn : fn.ntmps = N) (hs : l.length ≤ N)
    (h : ∀ a, Has a N (argsE l) → c.wp P (bodyPost P fn R) a w) : Calls P f l.toArray w R := by
  refine enters (argsE l) hf hb hn (by simpa using hs) (fun t i => ?_) h
  have := isIn_zip l 0 t (by rw [argsE, List.range_eq_range'] at i; exact i)
  rw [argsE, List.range_eq_range']
  simpa using this.2

theorem ret_with {fn : Func} {R : Ending → World → Prop} {v : Value} (ha : Has a N E) (hr : (results fn a.tmps).run P w = .ok v w) (h : R (.returned v) w) : bodyPost P fn R .ret a w := ⟨ha.defers, v, hr, h⟩
theorem end_with {fn : Func} {R : Ending → World → Prop} {v : Value} (ha : Has a N E) (hr : (results fn a.tmps).run P w = .ok v w) (h : R (.returned v) w) : bodyPost P fn R .normal a w := ⟨ha.defers, v, hr, h⟩

/-- What a result's place holds at the end. -/
def resIs (P : Program) (E : Env) (w : World) : ResultVar → Value → Prop
  | .tmp t, v => isIn E t = true ∧ look E t = v
  | .cell t ty, v => isIn E t = true ∧ ∃ ad, look E t = .pointer (some ad) ∧ (loadVar ty ad).run P w = .ok v w
def resV (tmps : Array Value) : ResultVar → Sem Value
  | .tmp t => pure (tmps.getD t undef)
  | .cell t ty => do loadVar ty (← asAddr (tmps.getD t undef))
theorem results_eq (fn : Func) (tmps : Array Value) : results fn tmps = (do let vs ← fn.results.mapM (resV tmps); pure (if h : vs.size = 1 then vs[0] else .tuple vs)) := by
  unfold results
  congr 1
theorem resIs_run {r : ResultVar} {v : Value} (ha : Has a N E) (h : resIs P E w r v) : (resV a.tmps r).run P w = .ok v w := by
  cases r with
  | tmp t =>
    have e := (ha.getD h.1).trans h.2
    simp [resV, ← e]
  | cell t ty =>
    obtain ⟨i, ad, e, hl⟩ := h
    have e2 := (ha.getD i).trans e
    simp [resV, e2, asAddr, hl]
theorem results_0 {fn : Func} {w : World} (h : fn.results = #[]) (tmps : Array Value) : (results fn tmps).run P w = .ok (.tuple #[]) w := by simp [results, h]
theorem results_1 {fn : Func} {r : ResultVar} {v : Value} (h : fn.results = #[r]) (ha : Has a N E) (h1 : resIs P E w r v) : (results fn a.tmps).run P w = .ok v w := by
  rw [results_eq]
  simp [h, resIs_run ha h1]
theorem results_2 {fn : Func} {r1 r2 : ResultVar} {v1 v2 : Value} (h : fn.results = #[r1, r2]) (ha : Has a N E) (h1 : resIs P E w r1 v1) (h2 : resIs P E w r2 v2) : (results fn a.tmps).run P w = .ok (.tuple #[v1, v2]) w := by
  rw [results_eq]
  simp [h, resIs_run ha h1, resIs_run ha h2]
theorem results_3 {fn : Func} {r1 r2 r3 : ResultVar} {v1 v2 v3 : Value} (h : fn.results = #[r1, r2, r3]) (ha : Has a N E) (h1 : resIs P E w r1 v1) (h2 : resIs P E w r2 v2) (h3 : resIs P E w r3 v3) : (results fn a.tmps).run P w = .ok (.tuple #[v1, v2, v3]) w := by
  rw [results_eq]
  simp [h, resIs_run ha h1, resIs_run ha h2, resIs_run ha h3]

/-! ### memory -/
theorem run_load {t : TypeId} {x : Operand} {ad : Addr} {v : Value} (ho : o.op = .load t x) (hx : evalE E x = .pointer (some ad)) (hl : (loadVar t ad).run P w = .ok v w) : (execOp (evalE E) o).run P w = .ok (.value v) w := by
  simp [execOp, ho, Instr.loadAt, Instr.sureAddr, hx, hl]
theorem run_box {t : TypeId} {x : Operand} {cs : List Value} (ho : o.op = .box t x) (hx : (evalE E x).cells = cs.toArray) :
    (execOp (evalE E) o).run P w = .ok (.value (.pointer (some ⟨w.heap.size, 0, none⟩))) (w.alloc (.cells cs.toArray t)) := by
  simp [execOp, ho, Instr.box, newVar, newRow, hx]
theorem run_alloc {t : TypeId} {z : Value} {cs : List Value} (ho : o.op = .alloc t) (hz : (zeroValue t).run P w = .ok z w) (hc : z.cells = cs.toArray) :
    (execOp (evalE E) o).run P w = .ok (.value (.pointer (some ⟨w.heap.size, 0, none⟩))) (w.alloc (.cells cs.toArray t)) := by
  simp [execOp, ho, Instr.alloc, newVar, newRow, hc, hz]
theorem run_store {t : TypeId} {x y : Operand} {g of_ : Nat} {cs : List Value} {t' : TypeId} {vs : List Value} {n : Nat} (j : Nat) (s : St W L w) (hj : L[j]? = some (.blk g cs t')) (ho : o.op = .store t x y) (hx : evalE E x = .pointer (some ⟨g, of_, none⟩)) (hy : (evalE E y).cells = vs.toArray)
    (hz : (sizeOf t).run P w = .ok n w) (hl : vs.length = n) (h1 : ∀ v ∈ vs, v.oneCell' = true) (hn : of_ + vs.length ≤ cs.length) :
    (execOp (evalE E) o).run P w = .ok .skip (w.setRow g (putAt cs of_ vs).toArray) := by
  have s1 := s.at_ hj
  have hr := run_storeCells_at (P := P) g of_ t' vs 0 cs.toArray w s1.1.blk (by simpa using hn) h1
  have e : w.setRow g (putAt cs of_ vs).toArray = w.setRow g (List.take (of_ + 0) cs.toArray.toList ++ vs ++ List.drop (of_ + 0 + vs.length) cs.toArray.toList).toArray := by rw [putAt_eq _ _ _ hn]; rfl
  rw [e]
  subst hl
  have hr' : (storeCells ⟨g, of_, none⟩ vs).run P w = _ := hr
  simp only [execOp, ho, Instr.storeAt, Instr.sureAddr, storeVar, hx]
  simp [hy, hz, hr']
theorem St.put {g of_ : Nat} {cs : List Value} {t' : TypeId} {vs : List Value} (j : Nat) (s : St W L w) (hj : L[j]? = some (.blk g cs t')) : St W (L.set j (.blk g (putAt cs of_ vs) t')) (w.setRow g (putAt cs of_ vs).toArray) :=
  ((s.at_ hj).setRow (putAt cs of_ vs)).perm (perm_set hj _)
end
end Go.Proofs.YtfcbjcohepkkfaaGreat.Sep

/-
  The operations, each as it runs: what it yields, and what became of memory.
-/
namespace Go.Proofs.YtfcbjcohepkkfaaGreat.Sep
open Go.RowKit
/-- What memory that meets L has. -/
def Knows (L : List Chunk) (p : World → Prop) : Prop := ∀ w, Sat L w → p w
theorem Knows.up {L : List Chunk} {p : World → Prop} (h : Knows L p) (A : Chunk) : Knows (A :: L) p := fun w s => h w s.tail
section
variable {P : Program} {ops : Array Oper} {Q : Exit → Act → World → Prop} {K : Act → World → Prop} {a : Act} {w W : World} {L : List Chunk} {rest : List Oper} {o : Oper} {N : Nat} {E : Env} {S : World → Prop}

/-! ### steps whose outcome is told by a condition -/
theorem st_ex {R : Value → World → Prop} (ha : Has a N E) (hB : (covers E o N && (wants E ops o == some true)) = true) (hr : ∃ v w1, (execOp (evalE E) o).run P w = .ok (.value v) w1 ∧ R v w1)
    (h : ∀ v w1 a, R v w1 → Has a N (putE E o.dst v) → wpList P ops Q rest a w1) : wpList P ops Q (o :: rest) a w := by
  obtain ⟨v, w1, hr, hR⟩ := hr
  exact st_run v w1 ha hB hr fun a ha => h v w1 a hR ha
theorem st_exd {R : World → Prop} (ha : Has a N E) (hB : (covers E o N && (wants E ops o == some true)) = true) (hr : ∃ w1, (execOp (evalE E) o).run P w = .ok .skip w1 ∧ R w1)
    (h : ∀ w1 a, R w1 → Has a N (putE E o.dst undef) → wpList P ops Q rest a w1) : wpList P ops Q (o :: rest) a w := by
  obtain ⟨w1, hr, hR⟩ := hr
  exact st_do w1 ha hB hr fun a ha => h w1 a hR ha
theorem hd_ex {n g f i : Nat} {listed : Array Bool} {R : Value → World → Prop} (ha : Has a N E) (hi : ops[i]? = some o)
    (hR : (decide (Region.ready .any ops listed = [i]) && decide (i < n)) = true)
    (hB : (covers E o N && (wants E ops o == some true)) = true) (hr : ∃ v w1, (execOp (evalE E) o).run P w = .ok (.value v) w1 ∧ R v w1)
    (h : ∀ v w1, R v w1 → S w1 ∧ ∀ a, Has a N (putE E o.dst v) → Head P .any ops Q S n g f (listed.setIfInBounds i true) a w1) : Head P .any ops Q S n g (f + 1) listed a w := by
  obtain ⟨v, w1, hr, hRv⟩ := hr
  exact hd_run v w1 ha hi hR hB hr (h v w1 hRv).1 (h v w1 hRv).2
theorem hd_exd {n g f i : Nat} {listed : Array Bool} {R : World → Prop} (ha : Has a N E) (hi : ops[i]? = some o)
    (hR : (decide (Region.ready .any ops listed = [i]) && decide (i < n)) = true)
    (hB : (covers E o N && (wants E ops o == some true)) = true) (hr : ∃ w1, (execOp (evalE E) o).run P w = .ok .skip w1 ∧ R w1)
    (h : ∀ w1, R w1 → S w1 ∧ ∀ a, Has a N (putE E o.dst undef) → Head P .any ops Q S n g f (listed.setIfInBounds i true) a w1) : Head P .any ops Q S n g (f + 1) listed a w := by
  obtain ⟨w1, hr, hRv⟩ := hr
  exact hd_do w1 ha hi hR hB hr (h w1 hRv).1 (h w1 hRv).2

/-! ### what the operations do -/
theorem ex_box {t : TypeId} {x : Operand} (cs : List Value) (s : St W L w) (ho : o.op = .box t x) (hx : (evalE E x).cells = cs.toArray) :
    ∃ v w1, (execOp (evalE E) o).run P w = .ok (.value v) w1 ∧ ∃ g, v = .pointer (some ⟨g, 0, none⟩) ∧ St W (.blk g cs t :: L) w1 :=
  ⟨_, _, run_box ho hx, _, rfl, s.alloc cs t⟩
theorem ex_alloc {t : TypeId} {z : Value} (cs : List Value) (s : St W L w) (ho : o.op = .alloc t) (hz : (zeroValue t).run P w = .ok z w) (hc : z.cells = cs.toArray) :
    ∃ v w1, (execOp (evalE E) o).run P w = .ok (.value v) w1 ∧ ∃ g, v = .pointer (some ⟨g, 0, none⟩) ∧ St W (.blk g cs t :: L) w1 :=
  ⟨_, _, run_alloc ho hz hc, _, rfl, s.alloc cs t⟩
theorem ex_store {t : TypeId} {x y : Operand} {g of_ : Nat} {cs : List Value} {t' : TypeId} {n : Nat} (j : Nat) (vs : List Value) (s : St W L w) (hj : L[j]? = some (.blk g cs t')) (ho : o.op = .store t x y) (hx : evalE E x = .pointer (some ⟨g, of_, none⟩)) (hy : (evalE E y).cells = vs.toArray)
    (hz : (sizeOf t).run P w = .ok n w) (hl : vs.length = n) (h1 : ∀ v ∈ vs, v.oneCell' = true) (hn : of_ + vs.length ≤ cs.length) :
    ∃ w1, (execOp (evalE E) o).run P w = .ok .skip w1 ∧ St W (L.set j (.blk g (putAt cs of_ vs) t')) w1 :=
  ⟨_, run_store j s hj ho hx hy hz hl h1 hn, St.put j s hj⟩
theorem ex_buildSlice {t e k b len : Nat} {parts : Array (Nat × Operand)} (T : Elt P t e k b) (zs : Array Value) (hz : (P.info? e).bind (fun i => i.zero.map (·.cells)) = some zs) (cs : List Value) (s : St W L w) (ho : o.op = .buildSlice t len parts)
    (hf : Instr.fill (fun i => some (i * k, k)) ((Array.range (len * k)).map (zs[· % zs.size]!)) (parts.toList.map fun x => (x.1, evalE E x.2)) = some cs.toArray) (hlen : len * k ≤ 16777216) :
    ∃ v w1, (execOp (evalE E) o).run P w = .ok (.value v) w1 ∧ ∃ g, v = .slice (some ⟨g, 0, none⟩) len len ∧ St W (.blk g cs e :: L) w1 := by
  obtain ⟨i, hi, hinf⟩ := Option.map_eq_some_iff.1 T.info
  simp only [Prod.mk.injEq] at hinf
  obtain ⟨_, hsz, _⟩ := hinf
  have hz' : ∃ z, i.zero = some z ∧ z.cells = zs := by
    rw [hi] at hz; simpa using hz
  obtain ⟨z, hz1, hz2⟩ := hz'
  have hg : ¬ (16777216 < len * k) := by omega
  have hrun : (Instr.buildSlice t len (parts.map fun (i, x) => (i, evalE E x))).run P w = .ok (.slice (some ⟨w.heap.size, 0, none⟩) len len) (w.alloc (.cells cs.toArray e)) := by
    have e0 : ∀ f : Nat → Value, Array.map f (Array.range 0) = #[] := fun f => by simp
    by_cases h0 : len * k = 0
    · rw [h0, e0] at hf
      simp [Instr.buildSlice, run_underlying T.under, sizeOf, typeInfo, hi, hsz, h0, e0, hf, newRow]
    · simp [Instr.buildSlice, run_underlying T.under, sizeOf, typeInfo, zeroValue, hi, hsz, h0, hg, hz1, hz2, hf, newRow]
  refine ⟨_, w.alloc (.cells cs.toArray e), ?_, w.heap.size, rfl, s.alloc cs e⟩
  simp only [execOp, ho]
  simp [hrun]
theorem ex_append {x y : Operand} {t e k b : Nat} (T : Elt P t e k b) (hk : 0 < k) (j : Nat) {A B : Option Addr} {n c m d' : Nat} {cs : List Value} (news : List Value) (s : St W L w)
    (ho : o.op = .call { callee := .builtin .append, args := #[x, y], argTypes := #[t, t] })
    (hx : evalE E x = .slice A n c) (hy : evalE E y = .slice B m d') (hj : L[j]? = some (Own e k A n c cs)) (hr : Reads w k B m news) (h1 : ∀ u ∈ news, u.oneCell' = true)
    (h63 : n + m ≤ maxLen) (hb : (n + m) * b ≤ 140737488355328) :
    ∃ v w1, (execOp (evalE E) o).run P w = .ok (.value v) w1 ∧ ∃ A' c', v = .slice A' (n + m) c' ∧ (A' = none → A = none ∧ m = 0) ∧ St W (L.set j (Own e k A' (n + m) c' (cs ++ news))) w1 := by
  obtain ⟨A', c', w1, hrun, s1, hn⟩ := run_append_own (P := P) T hk (s.at_ hj) hr h1 h63 hb o.type (d := d')
  refine ⟨_, w1, ?_, A', c', rfl, hn, s1.perm (perm_set hj _)⟩
  simp [execOp, ho, resolve, invoke, builtin, hx, hy, hrun]

/-- Two slices, of which the second one was made of the first one by append. -/
def Forked (e k : Nat) (A : Option Addr) (n c : Nat) (cs : List Value) (A' : Option Addr) (n' c' : Nat) (news : List Value) : Chunk := .oth fun h =>
  (A' = A ∧ c' = c ∧ n ≤ n' ∧ cs.length = n * k ∧ (Own e k A' n' c' (cs ++ news)).a h) ∨ SatH [Own e k A' n' c' (cs ++ news), Own e k A n c cs] h
theorem Forked.new {e k : Nat} {A : Option Addr} {n c : Nat} {cs : List Value} {A' : Option Addr} {n' c' : Nat} {news : List Value} (s : Sat (Forked e k A n c cs A' n' c' news :: L) w) : Reads w k A' n' (cs ++ news) := by
  obtain ⟨h1, h2, a, s1, s2, ⟨_, _, _, _, x⟩ | x, y⟩ := s
  · exact Own.reads (L := []) ⟨h1, h2, a, s1, s2, x, trivial⟩
  · exact Own.reads (L := [Own e k A n c cs]) (SatH.mono x s1)
theorem run_indexAddr {t e k : Nat} {x ix : Operand} {g of_ n c : Nat} {kd : IntKind} {i : Int} (m : Nat) (ho : o.op = .indexAddr t x ix) (hu : P.underlying t = some (.slice e)) (hz : ∀ w, (sizeOf e).run P w = .ok k w)
    (hx : evalE E x = .slice (some ⟨g, of_, none⟩) n c) (hi : evalE E ix = .int kd i) (hm : i = (m : Int)) (hlt : m < n) :
    ∀ w, (execOp (evalE E) o).run P w = .ok (.value (.pointer (some ⟨g, of_ + m * k, none⟩))) w := by
  intro w
  subst hm
  simp [execOp, ho, Instr.indexAt, asIntOf, hi, hx, run_underlying hu, hz, hlt, add_lit]
theorem run_indexAddr' {t e k : Nat} {x ix : Operand} {ad : Addr} {n c : Nat} {kd : IntKind} {i : Int} (m : Nat) (ho : o.op = .indexAddr t x ix) (hu : P.underlying t = some (.slice e)) (hz : ∀ w, (sizeOf e).run P w = .ok k w)
    (hx : evalE E x = .slice (some ad) n c) (hi : evalE E ix = .int kd i) (hm : i = (m : Int)) (hlt : m < n) :
    ∀ w, (execOp (evalE E) o).run P w = .ok (.value (.pointer (some (ad.add (m * k))))) w := by
  intro w
  subst hm
  simp [execOp, ho, Instr.indexAt, asIntOf, hi, hx, run_underlying hu, hz, hlt]
/-- A bound of a slice expression. -/
def bnd (E : Env) : Option Operand → Nat → Nat → Prop
  | none, d, l => l = d
  | some x, _, l => ∃ k, evalE E x = .int k (l : Int)
theorem bnd_none {E : Env} {d : Nat} : bnd E none d d := rfl
theorem bnd_some {E : Env} {x : Operand} {d l : Nat} (k : IntKind) (h : evalE E x = .int k (l : Int)) : bnd E (some x) d l := ⟨k, h⟩
def slA (A : Option Addr) (l m k : Nat) : Option Addr := if m = l then A else A.map (·.add (l * k))
theorem slA_zero (A : Option Addr) (m k : Nat) : slA A 0 m k = A := by
  unfold slA
  split
  · rfl
  · cases A with
    | none => rfl
    | some a => simp [Addr.add]
theorem run_bound {x : Value} {y l : Nat} {k : IntKind} {code : BoundsCode} (h : x = .int k (l : Int)) (hle : l ≤ y) : (Instr.sliceBound x y code).run P w = .ok l w := by
  have : (l : Int) ≤ (y : Int) := by omega
  simp [Instr.sliceBound, h, asIntOf, this]
theorem run_slice {t e k : Nat} {x : Operand} {lo hi mx : Option Operand} {A : Option Addr} {n c : Nat} (l h m : Nat) (ho : o.op = .slice t x lo hi mx) (hu : P.underlying t = some (.slice e)) (hz : ∀ w, (sizeOf e).run P w = .ok k w)
    (hx : evalE E x = .slice A n c) (hmx : mx.isSome = true → hi.isSome = true) (h1 : bnd E mx c m) (h2 : bnd E hi n h) (h3 : bnd E lo 0 l) (hl : l ≤ h) (hh : h ≤ m) (hm : m ≤ c) :
    ∀ w, (execOp (evalE E) o).run P w = .ok (.value (.slice (slA A l m k) (h - l) (m - l))) w := by
  intro w
  have hb : (Instr.sliceBounds true n c (lo.map (evalE E)) (hi.map (evalE E)) (mx.map (evalE E))).run P w = .ok (l, h, m) w := by
    cases mx with
    | none =>
      simp only [bnd] at h1
      subst h1
      cases hi with
      | none =>
        simp only [bnd] at h2
        subst h2
        cases lo with
        | none => simp only [bnd] at h3; subst h3; simp [Instr.sliceBounds]
        | some x => obtain ⟨k3, e3⟩ := h3; simp [Instr.sliceBounds, run_bound e3 hl]
      | some y =>
        obtain ⟨k2, e2⟩ := h2
        cases lo with
        | none => simp only [bnd] at h3; subst h3; simp [Instr.sliceBounds, run_bound e2 hh]
        | some x => obtain ⟨k3, e3⟩ := h3; simp [Instr.sliceBounds, run_bound e3 hl, run_bound e2 hh]
    | some z =>
      obtain ⟨k1, e1⟩ := h1
      cases hi with
      | none => simp at hmx
      | some y =>
        obtain ⟨k2, e2⟩ := h2
        cases lo with
        | none => simp only [bnd] at h3; subst h3; simp [Instr.sliceBounds, run_bound e1 hm, run_bound e2 hh]
        | some x => obtain ⟨k3, e3⟩ := h3; simp [Instr.sliceBounds, run_bound e3 hl, run_bound e2 hh, run_bound e1 hm]
  simp [execOp, ho, Instr.sliceAt, Instr.slice, run_underlying hu, hx, hb, hz, slA]
theorem wrap64_in {x : Int} (h : -9223372036854775808 ≤ x ∧ x ≤ 9223372036854775807) : IntKind.i64.wrap x = x := IntWalk.i64_in _ h
theorem run_arith {op : BinOp} {xt yt : TypeId} {x y : Operand} {kd : IntKind} {p q : Int} (r z : Int) (ho : o.op = .binOp op xt x y yt) (hx : evalE E x = .int kd p) (hy : evalE E y = .int kd q) (hop : (op = .add ∧ r = p + q) ∨ (op = .sub ∧ r = p - q) ∨ (op = .mul ∧ r = p * q)) (hz : kd.wrap r = z) :
    ∀ w, (execOp (evalE E) o).run P w = .ok (.value (.int kd z)) w := by
  intro w
  subst hz
  rcases hop with ⟨rfl, rfl⟩ | ⟨rfl, rfl⟩ | ⟨rfl, rfl⟩ <;> simp [execOp, ho, hx, hy, binOp, eqGuard, Op.intArith]

theorem run_known {b c : Bool} {w1 : World} (h : b = c) (hr : (execOp (evalE E) o).run P w = .ok (.value (.bool b)) w1) : (execOp (evalE E) o).run P w = .ok (.value (.bool c)) w1 := h ▸ hr
theorem addr_add_add (a : Addr) (x y : Nat) : (a.add x).add y = a.add (x + y) := by
  unfold Addr.add
  by_cases h : x = 0
  · subst h; simp
  · by_cases h2 : y = 0
    · subst h2; simp [h]
    · simp [h, h2, Nat.add_assoc]
theorem run_loadRow1 {t : TypeId} {x : Operand} {n m : Nat} {ad : Addr} {cs : List Value} {v : Value} (hr : Reads w 1 (some ad) n cs) (ho : o.op = .load t x) (hx : evalE E x = .pointer (some (ad.add (m * 1)))) (hg : ∀ w, (isAgg t).run P w = .ok false w)
    (hv : cs[m]? = some v) : (execOp (evalE E) o).run P w = .ok (.value v) w := by
  have hc := hr.2.2 ad rfl m v hv
  rw [Nat.mul_one] at hx
  exact run_load ho hx (by simp [loadVar, hg, load, Sem.run, hc])

theorem run_max2 {t : TypeId} {x y : Operand} {kd : IntKind} {p q : Int} (z : Int) (ho : o.op = .call { callee := .builtin .max, args := #[x, y], argTypes := #[t, t] }) (hx : evalE E x = .int kd p) (hy : evalE E y = .int kd q) (hz : (if p < q then q else p) = z) :
    ∀ w, (execOp (evalE E) o).run P w = .ok (.value (.int kd z)) w := by
  intro w
  subst hz
  simp [execOp, ho, resolve, invoke, builtin, hx, hy, Builtin.max_, Builtin.max2]
theorem Knows.own {L : List Chunk} {j e k : Nat} {A : Option Addr} {n c : Nat} {cs : List Value} (h : L[j]? = some (Own e k A n c cs)) : Knows L fun w => Reads w k A n cs := fun w s => Own.reads (s.perm (perm_at h))

/-! ### loads from blocks that are known -/
def BlkIs (g : Nat) (cs : List Value) (w : World) : Prop := ∀ i, w.cell? ⟨g, i, none⟩ = cs[i]?
theorem St.blkIs {g : Nat} {cs : List Value} {t : TypeId} (s : St W L w) (j : Nat) (hj : L[j]? = some (.blk g cs t)) : BlkIs g cs w := (s.at_ hj).1.cell
theorem run_load1 {t : TypeId} {x : Operand} {g of_ : Nat} {cs : List Value} {v : Value} (b : BlkIs g cs w) (ho : o.op = .load t x) (hx : evalE E x = .pointer (some ⟨g, of_, none⟩)) (hg : ∀ w, (isAgg t).run P w = .ok false w) (hv : cs[of_]? = some v) :
    (execOp (evalE E) o).run P w = .ok (.value v) w := by
  have hc := b of_
  rw [hv] at hc
  exact run_load ho hx (by simp [loadVar, hg, load, Sem.run, hc])
theorem run_loadN {t : TypeId} {x : Operand} {g of_ n : Nat} {cs : List Value} (vs : List Value) (b : BlkIs g cs w) (ho : o.op = .load t x) (hx : evalE E x = .pointer (some ⟨g, of_, none⟩)) (hg : ∀ w, (isAgg t).run P w = .ok true w) (hz : ∀ w, (sizeOf t).run P w = .ok n w)
    (hv : cs.extract of_ (of_ + n) = vs) (hn : of_ + n ≤ cs.length) : (execOp (evalE E) o).run P w = .ok (.value (.agg vs.toArray)) w := by
  have hc := run_loadCells_at (P := P) g of_ cs b n hn
  rw [hv] at hc
  exact run_load ho hx (by simp [loadVar, hg, hz, hc])
/-- A result that lies in a block that is known. -/
theorem res_tmp {t : Tmp} {v : Value} (i : isIn E t = true) (e : look E t = v) : resIs P E w (.tmp t) v := ⟨i, e⟩
theorem res_cell1 {t : Tmp} {ty : TypeId} {g : Nat} {cs : List Value} {v : Value} (b : BlkIs g cs w) (i : isIn E t = true) (e : look E t = .pointer (some ⟨g, 0, none⟩)) (hg : ∀ w, (isAgg ty).run P w = .ok false w) (hv : cs[0]? = some v) : resIs P E w (.cell t ty) v := by
  have hc := b 0
  rw [hv] at hc
  exact ⟨i, _, e, by simp [loadVar, hg, load, Sem.run, hc]⟩
theorem res_cellN {t : Tmp} {ty : TypeId} {g n : Nat} {cs : List Value} (b : BlkIs g cs w) (i : isIn E t = true) (e : look E t = .pointer (some ⟨g, 0, none⟩)) (hg : ∀ w, (isAgg ty).run P w = .ok true w) (hz : ∀ w, (sizeOf ty).run P w = .ok n w) (hn : n = cs.length) : resIs P E w (.cell t ty) (.agg cs.toArray) := by
  subst hn
  have hc := run_loadCells_at (P := P) g 0 cs b cs.length (by omega)
  exact ⟨i, _, e, by simp [loadVar, hg, hz, hc]⟩

/-! ### loops -/
theorem wp_loopG {G : Type} {c : Code} (I : G → Act → World → Prop) (μ : G → Nat) (g0 : G) (h0 : I g0 a w) (round : ∀ g a w, I g a w → c.wp P (Exit.then (fun a' w' => ∃ g', μ g' < μ g ∧ I g' a' w') Q) a w) : (Code.loop c).wp P Q a w := by
  refine wp_loop_ghost (fun n a w => ∃ g, μ g = n ∧ I g a w) (μ g0) ⟨g0, rfl, h0⟩ ?_
  rintro n a w ⟨g, rfl, hI⟩
  refine wp_mono (round g a w hI) fun e a' w' h => ?_
  cases e with
  | normal => obtain ⟨g', hlt, h'⟩ := h; exact ⟨μ g', hlt, g', rfl, h'⟩
  | _ => exact h

/-! ### tests -/
theorem wp_true {c : Operand} {x y : Code} (ha : Has a N E) (hc : (match c with | .tmp t => isIn E t | _ => true) = true) (hv : evalE E c = .bool true) (h : x.wp P Q a w) : (Code.cond c x y).wp P Q a w :=
  wp_if ha hc hv (by rw [if_pos rfl]; exact h)
theorem wp_false {c : Operand} {x y : Code} (ha : Has a N E) (hc : (match c with | .tmp t => isIn E t | _ => true) = true) (hv : evalE E c = .bool false) (h : y.wp P Q a w) : (Code.cond c x y).wp P Q a w :=
  wp_if ha hc hv (by rw [if_neg (by simp)]; exact h)
theorem wp_part {c : Operand} {x y : Code} (t : Bool) (ha : Has a N E) (hc : (match c with | .tmp t => isIn E t | _ => true) = true) (hv : evalE E c = .bool t) (h1 : t = true → x.wp P Q a w) (h2 : t = false → y.wp P Q a w) : (Code.cond c x y).wp P Q a w := by
  refine wp_if ha hc hv ?_
  split
  · exact h1 (by assumption)
  · rename_i h; exact h2 (by simpa using h)

theorem reads_blk {g k n : Nat} {cs : List Value} (b : BlkIs g cs w) (h : cs.length = n * k) : Reads w k (some ⟨g, 0, none⟩) n cs :=
  ⟨h, fun _ => by simp, fun ad e j u hu => by cases e; rw [add_lit, Nat.zero_add, b j]; exact hu⟩
theorem St.mid {A B T : List Chunk} (s : St W (A ++ (B ++ T)) w) : St W (A ++ T) w := by
  refine ⟨?_, s.2⟩
  obtain ⟨h1, h2, a, s1, s2, x, y⟩ := SatH.append_iff.1 s.1
  obtain ⟨h3, h4, b, s3, s4, _, z⟩ := SatH.append_iff.1 y
  exact SatH.append_iff.2 ⟨h1, h4, a.mono (Hp.sub.refl _) s4, s1, s4.trans s2, x, z⟩
/-- What stands behind the first n pieces, m of them, is let go. -/
theorem St.keep {M : List Chunk} (n m : Nat) (s : St W M w) : St W (M.take n ++ M.drop (n + m)) w := by
  have e : M = M.take n ++ ((M.drop n).take m ++ M.drop (n + m)) := by
    rw [← List.drop_drop, List.take_append_drop, List.take_append_drop]
  rw [e] at s
  exact St.mid s
theorem Own.cut {e k : Nat} {A : Option Addr} {n c m : Nat} {cs : List Value} (s : St W (Own e k A n c cs :: L) w) (hm : m ≤ n) : St W (Own e k A m m (cs.take (m * k)) :: L) w := by
  refine ⟨s.1.head_imp ?_, s.2⟩
  rintro h ⟨x1, x2, x3, x⟩
  have hmk : m * k ≤ n * k := Nat.mul_le_mul_right k hm
  refine ⟨by rw [List.length_take, x1]; omega, Nat.le_refl _, by omega, ?_⟩
  rcases x with rfl | ⟨g, off, all, rfl, hg, hl, hr⟩
  · left; omega
  · right
    refine ⟨g, off, all, rfl, hg, ?_, fun j u hu => ?_⟩
    · have : m * k ≤ c * k := Nat.mul_le_mul_right k (by omega)
      omega
    · rw [List.getElem?_take] at hu
      split at hu
      · exact hr j u hu
      · cases hu
theorem Reads.sub {k n c l h : Nat} {A : Option Addr} {cs : List Value} (hr : Reads w k A n cs) (hlh : l ≤ h) (hh : h ≤ n) (hnc : n ≤ c) : Reads w k (slA A l c k) (h - l) (cs.extract (l * k) (h * k)) := by
  obtain ⟨h1, h2, h3⟩ := hr
  have a1 : l * k ≤ h * k := Nat.mul_le_mul_right k hlh
  have a2 : h * k ≤ n * k := Nat.mul_le_mul_right k hh
  refine ⟨?_, ?_, ?_⟩
  · rw [List.extract_eq_take_drop, List.length_take, List.length_drop, Nat.sub_mul]; omega
  · intro hp
    have : 0 < n * k := by rw [Nat.sub_mul] at hp; omega
    have := h2 this
    unfold slA
    split
    · exact this
    · cases A with
      | none => exact absurd rfl this
      | some a => simp
  · intro ad e j u hu
    rw [List.extract_eq_take_drop, List.getElem?_take] at hu
    split at hu
    · rename_i hj
      rw [List.getElem?_drop] at hu
      unfold slA at e
      split at e
      · have : h = l := by omega
        subst this; simp at hj
      · cases A with
        | none => cases e
        | some a =>
          simp at e
          subst e
          rw [addr_add_add]
          exact h3 a rfl _ _ hu
    · cases hu

theorem Reads.take {k n h : Nat} {A : Option Addr} {cs : List Value} (hr : Reads w k A n cs) (hh : h ≤ n) : Reads w k A h (cs.take (h * k)) := by
  have := Reads.sub (c := n) hr (Nat.zero_le h) hh (Nat.le_refl _)
  rwa [slA_zero, Nat.zero_mul, List.extract_eq_take_drop, List.drop_zero, Nat.sub_zero, Nat.sub_zero] at this

/-! ### ends of pieces -/
theorem then_normal {x : Act → World → Prop} (h : x a w) : Exit.then x Q .normal a w := h
theorem then_ret {x : Act → World → Prop} (h : Q .ret a w) : Exit.then x Q .ret a w := h
theorem then_exit {x : Act → World → Prop} {id : Nat} (h : Q (.exit id) a w) : Exit.then x Q (.exit id) a w := h
theorem block_normal {id : Nat} (h : Q .normal a w) : Exit.inBlock id Q .normal a w := h
theorem block_ret {id : Nat} (h : Q .ret a w) : Exit.inBlock id Q .ret a w := h
theorem block_hit {id : Nat} (h : Q .normal a w) : Exit.inBlock id Q (.exit id) a w := by simp only [Exit.inBlock, if_true]; exact h
theorem Has.nil {E : Env} (h : Has a N E) : Has a N [] := ⟨h.size, h.defers, fun t i => by simp [isIn] at i⟩
theorem Has.cons {E E' : Env} {t : Nat} {v : Value} (h : Has a N E) (i : isIn E t = true) (e : look E t = v) (h' : Has a N E') : Has a N ((t, v) :: E') := by
  refine ⟨h.size, h.defers, fun u hu => ?_⟩
  simp only [isIn, look] at hu ⊢
  cases hb : Nat.beq t u with
  | true =>
    have := Nat.eq_of_beq_eq_true hb
    subst this
    simp only [cond_true]
    rw [← e]
    exact h.get t i
  | false =>
    simp only [hb, cond_false] at hu ⊢
    exact h'.get u hu
end
end Go.Proofs.YtfcbjcohepkkfaaGreat.Sep

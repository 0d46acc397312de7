import Derived.Below
import Derived.OwnWalk
import Derived.Deep.OwnRows
import Derived.Tactics
import Derived.WalkKit
import Derived.Deep.Draws
/-
  Separation of memory into blocks that are owned apart: a list of assertions, each over a part of the heap; the parts share no block.
-/
namespace Go.Proofs.YtagbmfdheppmoaaGreatDoor.Sep
open Go.RowKit

abbrev Hp := Nat → Option Obj
abbrev Asrt := Hp → Prop

/-- One part: a block that is known whole (its cells, the type of its elements, none frozen), or whatever else is asserted of a part. -/
inductive Chunk where
  | blk (g : Nat) (cs : List Value) (t : TypeId)
  | oth (A : Asrt)
def Chunk.a : Chunk → Asrt
  | .blk g cs t => fun h => h g = some (.cells cs.toArray t (0, 0))
  | .oth A => A

def Hp.sub (h k : Hp) : Prop := ∀ g o, h g = some o → k g = some o
def Hp.apart (h k : Hp) : Prop := ∀ g, h g = none ∨ k g = none

theorem Hp.sub.refl (h : Hp) : h.sub h := fun _ _ e => e
theorem Hp.sub.trans {a b c : Hp} (h : a.sub b) (k : b.sub c) : a.sub c := fun g o e => k g o (h g o e)
theorem Hp.apart.symm {a b : Hp} (h : a.apart b) : b.apart a := fun g => (h g).symm
theorem Hp.apart.mono {a b a' b' : Hp} (h : a.apart b) (ha : a'.sub a) (hb : b'.sub b) : a'.apart b' := fun g => by
  rcases h g with e | e
  · left; cases e' : a' g with
    | none => rfl
    | some o => rw [ha g o e'] at e; cases e
  · right; cases e' : b' g with
    | none => rfl
    | some o => rw [hb g o e'] at e; cases e

/-- The assertions of the list hold of parts of h that share nothing. -/
def SatH : List Chunk → Hp → Prop
  | [], _ => True
  | A :: L, h => ∃ h1 h2, Hp.apart h1 h2 ∧ Hp.sub h1 h ∧ Hp.sub h2 h ∧ A.a h1 ∧ SatH L h2

def hp (w : World) : Hp := fun g => w.heap[g]?
def Sat (L : List Chunk) (w : World) : Prop := SatH L (hp w)

theorem SatH.mono {L : List Chunk} {h k : Hp} (s : SatH L h) (e : h.sub k) : SatH L k := by
  cases L with
  | nil => trivial
  | cons A L =>
    obtain ⟨h1, h2, a, s1, s2, x, y⟩ := s
    exact ⟨h1, h2, a, s1.trans e, s2.trans e, x, y⟩

def Hp.join (h k : Hp) : Hp := fun g => (h g).orElse fun _ => k g
theorem Hp.sub_join_left (h k : Hp) : h.sub (h.join k) := fun g o e => by simp [Hp.join, e]
theorem Hp.sub_join_right {h k : Hp} (a : h.apart k) : k.sub (h.join k) := fun g o e => by
  rcases a g with e' | e'
  · simp [Hp.join, e', e]
  · rw [e'] at e; cases e
theorem Hp.join_sub {h k m : Hp} (a : h.sub m) (b : k.sub m) : (h.join k).sub m := fun g o e => by
  simp only [Hp.join] at e
  cases e' : h g with
  | none => rw [e'] at e; exact b g o (by simpa using e)
  | some o' => rw [e'] at e; simp at e; subst e; exact a g _ e'
theorem Hp.apart_join {h k m : Hp} (a : m.apart h) (b : m.apart k) : m.apart (h.join k) := fun g => by
  rcases a g with e | e
  · exact .inl e
  · rcases b g with e' | e'
    · exact .inl e'
    · right; simp [Hp.join, e, e']

theorem SatH.append_iff {L M : List Chunk} : ∀ {h : Hp}, SatH (L ++ M) h ↔ ∃ h1 h2, Hp.apart h1 h2 ∧ Hp.sub h1 h ∧ Hp.sub h2 h ∧ SatH L h1 ∧ SatH M h2 := by
  induction L with
  | nil =>
    intro h
    constructor
    · intro s; exact ⟨fun _ => none, h, fun _ => .inl rfl, fun _ _ e => (by cases e), Hp.sub.refl _, trivial, s⟩
    · rintro ⟨h1, h2, _, _, s2, _, s⟩; exact SatH.mono s s2
  | cons A L ih =>
    intro h
    constructor
    · rintro ⟨h1, h2, a, s1, s2, x, y⟩
      obtain ⟨k1, k2, b, t1, t2, u, v⟩ := ih.1 y
      refine ⟨h1.join k1, k2, ?_, Hp.join_sub s1 (t1.trans s2), t2.trans s2, ⟨h1, k1, a.mono (Hp.sub.refl _) t1, Hp.sub_join_left _ _, Hp.sub_join_right (a.mono (Hp.sub.refl _) t1), x, u⟩, v⟩
      exact (Hp.apart_join (a.mono (Hp.sub.refl _) t2).symm b.symm).symm
    · rintro ⟨h1, h2, a, s1, s2, ⟨k1, k2, b, t1, t2, x, u⟩, v⟩
      refine ⟨k1, k2.join h2, Hp.apart_join b (a.mono t1 (Hp.sub.refl _)), t1.trans s1, Hp.join_sub (t2.trans s1) s2, x, ?_⟩
      exact ih.2 ⟨k2, h2, a.mono t2 (Hp.sub.refl _), Hp.sub_join_left _ _, Hp.sub_join_right (a.mono t2 (Hp.sub.refl _)), u, v⟩

theorem SatH.swap {A B : Chunk} {L : List Chunk} {h : Hp} (s : SatH (A :: B :: L) h) : SatH (B :: A :: L) h := by
  obtain ⟨h1, h2, a, s1, s2, x, k1, k2, b, t1, t2, y, z⟩ := s
  exact ⟨k1, h1.join k2, Hp.apart_join (a.mono (Hp.sub.refl _) t1).symm b, t1.trans s2, Hp.join_sub s1 (t2.trans s2), y, h1, k2, a.mono (Hp.sub.refl _) t2, Hp.sub_join_left _ _, Hp.sub_join_right (a.mono (Hp.sub.refl _) t2), x, z⟩

theorem SatH.perm {L M : List Chunk} (p : L.Perm M) : ∀ {h : Hp}, SatH L h → SatH M h := by
  induction p with
  | nil => exact fun s => s
  | cons A _ ih => rintro h ⟨h1, h2, a, s1, s2, x, y⟩; exact ⟨h1, h2, a, s1, s2, x, ih y⟩
  | swap A B L => exact SatH.swap
  | trans _ _ ih1 ih2 => exact fun s => ih2 (ih1 s)

theorem Sat.perm {L M : List Chunk} {w : World} (s : Sat L w) (p : L.Perm M) : Sat M w := SatH.perm p s

theorem SatH.tail {A : Chunk} {L : List Chunk} {h : Hp} (s : SatH (A :: L) h) : SatH L h := by
  obtain ⟨h1, h2, a, s1, s2, x, y⟩ := s
  exact SatH.mono y s2
theorem Sat.tail {A : Chunk} {L : List Chunk} {w : World} (s : Sat (A :: L) w) : Sat L w := SatH.tail s

theorem SatH.head_imp {A B : Chunk} {L : List Chunk} {h : Hp} (s : SatH (A :: L) h) (i : ∀ k, A.a k → B.a k) : SatH (B :: L) h := by
  obtain ⟨h1, h2, a, s1, s2, x, y⟩ := s
  exact ⟨h1, h2, a, s1, s2, i _ x, y⟩
theorem Sat.head_imp {A B : Chunk} {L : List Chunk} {w : World} (s : Sat (A :: L) w) (i : ∀ k, A.a k → B.a k) : Sat (B :: L) w := SatH.head_imp s i

/-- A list of parts as one part. -/
def star (L : List Chunk) : Chunk := .oth (SatH L)
theorem SatH.star_iff {L M : List Chunk} {h : Hp} : SatH (star L :: M) h ↔ SatH (L ++ M) h := by
  rw [SatH.append_iff]; rfl
theorem Sat.star_iff {L M : List Chunk} {w : World} : Sat (star L :: M) w ↔ Sat (L ++ M) w := SatH.star_iff

def ex {α : Type} (A : α → Chunk) : Chunk := .oth fun h => ∃ x, (A x).a h
theorem SatH.ex_iff {α : Type} {A : α → Chunk} {L : List Chunk} {h : Hp} : SatH (ex A :: L) h ↔ ∃ x, SatH (A x :: L) h := by
  constructor
  · rintro ⟨h1, h2, a, s1, s2, ⟨x, hx⟩, y⟩; exact ⟨x, h1, h2, a, s1, s2, hx, y⟩
  · rintro ⟨x, h1, h2, a, s1, s2, hx, y⟩; exact ⟨h1, h2, a, s1, s2, ⟨x, hx⟩, y⟩
theorem Sat.ex_iff {α : Type} {A : α → Chunk} {L : List Chunk} {w : World} : Sat (ex A :: L) w ↔ ∃ x, Sat (A x :: L) w := SatH.ex_iff

def fact (p : Prop) : Chunk := .oth fun _ => p
theorem SatH.fact_iff {p : Prop} {L : List Chunk} {h : Hp} : SatH (fact p :: L) h ↔ p ∧ SatH L h := by
  constructor
  · rintro ⟨h1, h2, a, s1, s2, x, y⟩; exact ⟨x, y.mono s2⟩
  · rintro ⟨x, y⟩; exact ⟨fun _ => none, h, fun _ => .inl rfl, fun _ _ e => (by cases e), Hp.sub.refl _, x, y⟩
theorem Sat.fact_iff {p : Prop} {L : List Chunk} {w : World} : Sat (fact p :: L) w ↔ p ∧ Sat L w := SatH.fact_iff

theorem Sat.blk {g : Nat} {cs : List Value} {t : TypeId} {L : List Chunk} {w : World} (s : Sat (.blk g cs t :: L) w) : w.heap[g]? = some (.cells cs.toArray t (0, 0)) := by
  obtain ⟨h1, h2, a, s1, s2, x, y⟩ := s
  exact s1 _ _ x

theorem lt_of_blk {g : Nat} {o : Obj} {w : World} (s : w.heap[g]? = some o) : g < w.heap.size := by
  by_cases h : g < w.heap.size
  · exact h
  · rw [Array.getElem?_eq_none (by omega)] at s; cases s

theorem Sat.lt {g : Nat} {cs : List Value} {t : TypeId} {L : List Chunk} {w : World} (s : Sat (.blk g cs t :: L) w) : g < w.heap.size := lt_of_blk s.blk

theorem Sat.ne {g k : Nat} {cs ds : List Value} {t u : TypeId} {L : List Chunk} {w : World} (s : Sat (.blk g cs t :: .blk k ds u :: L) w) : g ≠ k := by
  obtain ⟨h1, h2, a, s1, s2, x, k1, k2, b, t1, t2, y, z⟩ := s
  rintro rfl
  simp only [Chunk.a] at x y
  rcases a g with e | e
  · rw [x] at e; cases e
  · rw [t1 _ _ y] at e; cases e

theorem cell_of_blk {g : Nat} {cs : List Value} {t : TypeId} {w : World} (h : w.heap[g]? = some (.cells cs.toArray t (0, 0))) (i : Nat) : w.cell? ⟨g, i, none⟩ = cs[i]? := by
  simp [World.cell?, h]
theorem frozen_of_blk {g : Nat} {cs : List Value} {t : TypeId} {w : World} (h : w.heap[g]? = some (.cells cs.toArray t (0, 0))) (i : Nat) : w.frozen? ⟨g, i, none⟩ = false := by
  simp [World.frozen?, h]

theorem Sat.cell {g : Nat} {cs : List Value} {t : TypeId} {L : List Chunk} {w : World} (s : Sat (.blk g cs t :: L) w) (i : Nat) : w.cell? ⟨g, i, none⟩ = cs[i]? := cell_of_blk s.blk i
theorem Sat.frozen {g : Nat} {cs : List Value} {t : TypeId} {L : List Chunk} {w : World} (s : Sat (.blk g cs t :: L) w) (i : Nat) : w.frozen? ⟨g, i, none⟩ = false := frozen_of_blk s.blk i

/-- A member of the list, brought to the front. -/
theorem perm_front {α : Type} (L : List α) (i : Nat) (h : i < L.length) : L.Perm (L[i] :: L.eraseIdx i) := by
  induction L generalizing i with
  | nil => simp at h
  | cons a L ih =>
    cases i with
    | zero => simp
    | succ i =>
      simp only [List.getElem_cons_succ, List.eraseIdx_cons_succ]
      exact ((ih i (by simpa using h)).cons a).trans (List.Perm.swap _ _ _)

theorem Sat.front {L : List Chunk} {w : World} (s : Sat L w) (i : Nat) (h : i < L.length := by decide) : Sat (L[i] :: L.eraseIdx i) w := s.perm (perm_front L i h)

/-- The part of another heap: what is changed in the first part, and what is new. -/
theorem SatH.put {A B : Chunk} {L : List Chunk} {h k : Hp} (s : SatH (A :: L) h)
    (H : ∀ h1, Hp.sub h1 h → A.a h1 → ∃ k1, B.a k1 ∧ Hp.sub k1 k ∧ (∀ g, h1 g = none → (h g).isSome = true → k1 g = none ∧ k g = h g)) : SatH (B :: L) k := by
  obtain ⟨h1, h2, a, s1, s2, x, y⟩ := s
  obtain ⟨k1, hb, hk, hg⟩ := H h1 s1 x
  refine ⟨k1, h2, ?_, hk, ?_, hb, y⟩
  · intro g
    rcases a g with e | e
    · cases e2 : h2 g with
      | none => exact .inr rfl
      | some o => exact .inl (hg g e (by rw [s2 g o e2]; rfl)).1
    · exact .inr e
  · intro g o e
    rcases a g with e' | e'
    · rw [(hg g e' (by rw [s2 g o e]; rfl)).2]; exact s2 g o e
    · rw [e'] at e; cases e

theorem heap_setCell_self {w : World} {g : Nat} {cs : List Value} {t : TypeId} (h : w.heap[g]? = some (.cells cs.toArray t (0, 0))) (i : Nat) (v : Value) :
    (w.setCell ⟨g, i, none⟩ v).heap[g]? = some (.cells (cs.set i v).toArray t (0, 0)) := by
  simp only [World.setCell, Array.getElem?_modify, h]
  simp

theorem heap_setCell_other {w : World} {g k : Nat} (i : Nat) (v : Value) (h : k ≠ g) : (w.setCell ⟨g, i, none⟩ v).heap[k]? = w.heap[k]? := by
  simp only [World.setCell, Array.getElem?_modify]
  rw [if_neg (by simpa using Ne.symm h)]

theorem Sat.set {g : Nat} {cs : List Value} {t : TypeId} {L : List Chunk} {w : World} (s : Sat (.blk g cs t :: L) w) (i : Nat) (v : Value) :
    Sat (.blk g (cs.set i v) t :: L) (w.setCell ⟨g, i, none⟩ v) := by
  refine SatH.put s fun h1 s1 x => ?_
  refine ⟨fun k => if k = g then some (.cells (cs.set i v).toArray t (0, 0)) else none, by simp [Chunk.a], ?_, ?_⟩
  · intro k o e
    by_cases hk : k = g
    · subst hk; simp at e; subst e; exact heap_setCell_self (s1 _ _ x) i v
    · simp [hk] at e
  · intro k e hs
    have hk : k ≠ g := by rintro rfl; rw [x] at e; cases e
    exact ⟨by simp [hk], heap_setCell_other i v hk⟩

theorem SatH.new {B : Chunk} {L : List Chunk} {h k k1 : Hp} (s : SatH L h) (hs : h.sub k) (hb : B.a k1) (hk : k1.sub k) (hn : Hp.apart k1 h) : SatH (B :: L) k :=
  ⟨k1, h, hn, hk, hs, hb, s⟩

theorem hp_alloc_sub (w : World) (o : Obj) : (hp w).sub (hp (w.alloc o)) := fun g o' e => by
  have hlt : g < w.heap.size := by
    by_cases h : g < w.heap.size
    · exact h
    · simp [hp, Array.getElem?_eq_none (by omega : w.heap.size ≤ g)] at e
  simp only [hp] at *
  rw [Below.heap_alloc w o g hlt]; exact e

theorem Sat.alloc {L : List Chunk} {w : World} (s : Sat L w) (cs : List Value) (t : TypeId) : Sat (.blk w.heap.size cs t :: L) (w.alloc (.cells cs.toArray t)) := by
  refine SatH.new s (hp_alloc_sub _ _) (k1 := fun k => if k = w.heap.size then some (.cells cs.toArray t (0, 0)) else none) (by simp [Chunk.a]) ?_ ?_
  · intro k o e
    by_cases hk : k = w.heap.size
    · subst hk; simp at e; subst e
      show (w.heap.push _)[w.heap.size]? = _
      simp
    · simp [hk] at e
  · intro k
    by_cases hk : k = w.heap.size
    · right; subst hk; simp [hp]
    · left; simp [hk]

theorem Sat.drew {L : List Chunk} {w : World} (s : Sat L w) : Sat L w.drew := s
theorem Sat.drewN {L : List Chunk} {w : World} (s : Sat L w) (n : Nat) : Sat L (w.drewN n) := s

/-- Whatever lies in w, lies there in w'. -/
theorem Sat.below {L : List Chunk} {w w' : World} (s : Sat L w) (h : Below w.heap.size w w') : Sat L w' := by
  refine SatH.mono s fun g o e => ?_
  simp only [hp] at *
  rw [h.block g ?_]; exact e
  by_cases hlt : g < w.heap.size
  · exact hlt
  · rw [Array.getElem?_eq_none (by omega)] at e; cases e

end Go.Proofs.YtagbmfdheppmoaaGreatDoor.Sep

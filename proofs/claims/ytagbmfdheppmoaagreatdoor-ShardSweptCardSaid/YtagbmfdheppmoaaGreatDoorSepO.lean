import Derived.Test.YtagbmfdheppmoaaGreatDoorSepE
import Derived.SizedLaws
import Derived.ChangeSlices
import Derived.ProofKit
/-
  What came in: memory as it was when the call began, which nobody writes; slices of whole numbers among the arguments.
-/
namespace Go.Proofs.YtagbmfdheppmoaaGreatDoor.Sep
open Go.RowKit Go.ChangeShapes Go.WideShapes
set_option linter.unusedVariables false

/-- Memory as it was in W. -/
def Old (W : World) : Chunk := .oth fun h => ∀ g, g < W.heap.size → h g = W.heap[g]?
theorem Old.start (W : World) : St W [Old W] W :=
  ⟨⟨hp W, fun _ => none, fun _ => .inr rfl, Hp.sub.refl _, fun _ _ e => (by cases e), fun g _ => rfl, trivial⟩, Ext.refl W⟩
theorem Old.block {W w : World} {L : List Chunk} (s : Sat (Old W :: L) w) (g : Nat) (hg : g < W.heap.size) : w.heap[g]? = W.heap[g]? := by
  obtain ⟨h1, h2, a, s1, s2, x, y⟩ := s
  cases e : W.heap[g]? with
  | none => simp at e; omega
  | some o => exact s1 g o ((x g hg).trans e)
theorem Old.below {W w : World} {L : List Chunk} (s : St W (Old W :: L) w) : Below W.heap.size W w :=
  ⟨s.2.os, s.2.tape, s.2.output, s.2.size, fun g hg => Old.block s.1 g hg⟩
theorem Old.cell {W w : World} {L : List Chunk} (s : Sat (Old W :: L) w) {a : Addr} {v : Value} (h : W.cell? a = some v) : w.cell? a = some v := by
  have hg : a.block < W.heap.size := by
    unfold World.cell? at h
    cases e : W.heap[a.block]? with
    | none => rw [e] at h; cases h
    | some o => exact lt_of_blk e
  unfold World.cell? at *
  rw [Old.block s _ hg]
  exact h
/-- What could be read at the start can be read ever since. -/
theorem Old.reads {W : World} {L : List Chunk} {k : Nat} {A : Option Addr} {n : Nat} {cs : List Value} (h : Reads W k A n cs) : Knows (Old W :: L) fun w => Reads w k A n cs :=
  fun w s => ⟨h.1, h.2.1, fun ad e j u hu => Old.cell s (h.2.2 ad e j u hu)⟩

theorem Old.all {W : World} {L : List Chunk} : Knows (Old W :: L) fun w => ∀ k A n cs, Reads W k A n cs → Reads w k A n cs := fun w s _ _ _ _ h => Old.reads h w s

/-- A slice of whole numbers that came in. -/
theorem open_row {H : Type} {enc : TypeId × Value → H} {P : Program} {W : World} {base : Nat} {spare : Nat → Bool} {held : Bool} {t e : TypeId} {k : IntKind} {a : Option Addr} {len cap : Nat} {d : DataW H} {ps : List MemPlace} {ts : List TypeId} {ds : List (DataW H)} {j : Nat}
    (hsz : (DataW.weightsEach P ts ds).all (· ≤ reachBytes) = true) (ht : ts[j]? = some t) (hd : ds[j]? = some d) (hu : P.underlying t = some (.slice e)) (he : P.underlying e = some (.int k)) (hc : P.cellsOf e = 1) {B : Nat} (hB : P.bytesOf e = B)
    (h : DataW.Trod enc P W base spare held t (.slice a len cap) d ps) : ∃ zs : List Int, Reads W 1 a len (zs.map (.int k)) ∧ zs.length = len ∧ len ≤ cap ∧ len * B ≤ 140737488351232 ∧ (∀ z ∈ zs, (Lit.int k z).wf = true) := by
  obtain ⟨fuel, hf⟩ := h
  rcases open_ints hu he hc hf with ⟨hcs, _⟩ | ⟨x, l, c, zs, hcs, _, hl, hm, hz, hx, hcell, hw⟩
  · simp [Value.cells] at hcs
    obtain ⟨rfl, rfl, rfl⟩ := hcs
    exact ⟨[], ⟨by simp, by simp, by simp⟩, rfl, Nat.le_refl _, by simp, by simp⟩
  · simp [Value.cells] at hcs
    obtain ⟨rfl, rfl, rfl⟩ := hcs
    obtain ⟨hx, _⟩ := Prod.mk.inj hx
    subst hx
    have z := sized_slice hsz ht hd hu
    rw [hB] at z
    have hl2 : len ≤ zs.length := by
      rw [hz]
      split
      · exact hl
      · exact Nat.le_refl _
    have h1 : (lits (H := H) k (zs.take len)).length + (lits (H := H) k (zs.drop len)).length = zs.length := by
      simp [lits]
      omega
    rw [h1] at z
    refine ⟨zs.take len, ⟨by simp; omega, by simp, fun ad e j u hj => ?_⟩, by simp; omega, hl, Nat.le_trans (Nat.mul_le_mul_right _ hl2) z, fun z hz => hw z (List.mem_of_mem_take hz)⟩
    cases e
    simp only [List.getElem?_map, List.getElem?_take] at hj
    split at hj
    · rename_i hjl
      have hjz : j < zs.length := by omega
      have := hcell j hjz
      rw [this]
      simp [hjz] at hj ⊢
      exact hj
    · simp at hj
end Go.Proofs.YtagbmfdheppmoaaGreatDoor.Sep

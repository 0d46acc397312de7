import Derived.Test.YtfcbjcohepkkfaaGreatSepS
import Derived.Shelf.SlSortCmp.Whole1
/-
  slices.SortFunc at elements of one cell; the closure may read what else is there.
-/
namespace Go.Proofs.YtfcbjcohepkkfaaGreat.Sep
open Go.RowKit Go.Shelf
set_option linter.unusedVariables false
theorem flat_one {α : Type} (enc : α → Value) (d : List α) : d.flatMap (fun x => [enc x]) = d.map enc := by
  induction d with
  | nil => rfl
  | cons x d ih => simp [ih]
open Go.Sort in
theorem putCells_one {α : Type} [Inhabited α] (enc : α → Value) (off : Nat) (d : Array α) (c : Array Value) : putCells id off (flatK (fun x => [enc x]) 1 d) c = putCells enc off d c := by
  unfold putCells
  apply Array.ext_getElem?
  intro i
  simp only [Array.getElem?_mapIdx, size_flatK, Nat.mul_one, id]
  cases c[i]? with
  | none => rfl
  | some x =>
    simp only [Option.map_some]
    by_cases h : off ≤ i ∧ i < off + d.size
    · rw [if_pos h, if_pos h, get_flatK _ _ _ _ (by omega), Nat.div_one, Nat.mod_one]
      rfl
    · rw [if_neg h, if_neg h]
open Go.Sort in
theorem sortWorld_one {α : Type} [Inhabited α] (enc : α → Value) (w : World) (blk off m : Nat) (d : Array α) (os : Array Obj) : sortWorldK (fun x => [enc x]) 1 w blk off m d os = sortWorld enc w blk off m d os := by
  unfold sortWorldK sortWorld putRowK putRow
  rw [show putCells id off (flatK (fun x => [enc x]) 1 d) = putCells enc off d from funext (putCells_one enc off d)]
open Go.Sort in
theorem sort_one {P : Program} {ρ : Ren} {α : Type} [Inhabited α] (Ls : Go.Proofs.SlLaysF.n6 P ρ) {e : Nat} (enc : α → Value) (h1 : OneCell enc)
    (cf : α → α → Int) (hO : SWO (Go.Proofs.ltOf cf)) (g : Nat) (cb : Array Value) (eg : ∀ args w, (callFunc g args).run P w = .ok (.enter g args) w)
    {W w : World} {L : List Chunk} {A : Option Addr} {n c cap : Nat} {d : List α}
    (hcl : ∀ (V : World), Sat L V → ∀ (x y : α), Calls P g (#[enc x, enc y] ++ cb) V fun e w' => e = .returned (.int .i64 (cf x y)) ∧ St V [Old V] w')
    (hn : n = d.length) (hne : d ≠ []) (hsz : d.length < 4611686018427387904) (s : St W (Own e 1 A n c (d.map enc) :: L) w) :
    Calls P (ρ.f 6) #[.slice A n cap, .func (.func g) #[] cb] w fun e' w' => e' = .returned (.tuple #[]) ∧ ∃ d' : List α, d'.Perm d ∧ d'.Pairwise (fun x y => Go.Proofs.ltOf cf y x = false) ∧ d'.length = d.length ∧ St W (Own e 1 A n c (d'.map enc) :: L) w' := by
  have hlen : 0 < d.length := List.length_pos_iff.2 hne
  obtain ⟨f1, f2, f3⟩ := Own.facts s.1
  have hc : 0 < c := by subst hn; omega
  obtain ⟨blk, off, all, rfl, _⟩ := Own.open_ hc s
  rw [← flat_one] at s
  obtain ⟨hH, hblk⟩ := holdsK_own (k := 1) (enc := fun x => [enc x]) Nat.one_pos (fun _ => rfl) hn hc s
  have hH1 : Holds enc w blk off d.toArray := fun j hj => by
    have h := hH j (by rw [size_flatK]; simpa using hj)
    rw [get_flatK _ _ _ _ (by simpa using hj), Nat.div_one, Nat.mod_one] at h
    exact h
  have put := fun (d' : Array α) (hd : d'.size = d.length) m os => St.sorted (k := 1) (enc := fun x => [enc x]) Nat.one_pos (fun _ => rfl) hn hc s d' hd m os
  have con := Go.Proofs.Any.slices_SortFunc Ls enc h1 cf hO g cb blk off cap d.toArray w eg
    (fun m os dk hdk x y => (hcl _ (by
      have := (put dk (by simpa using hdk) m os).1.tail
      rwa [sortWorld_one] at this) x y).mono fun e w' ⟨he, hs⟩ => ⟨he, grow_of hs⟩) hH1 hblk (by simpa using hsz)
  subst hn
  refine con.mono ?_
  rintro e' w' ⟨rfl, d', m, os, ⟨hp1, hp2, hp3⟩, hsrt, rfl⟩
  have hd : d'.size = d.length := by simpa using hp1
  refine ⟨rfl, d'.toList, ?_, ?_, by simpa using hd, ?_⟩
  · have e1 : d'.extract 0 d.toArray.size = d' := by simp [← hp1]
    rw [e1] at hp3
    simpa using hp3
  · rw [List.pairwise_iff_getElem]
    intro i j hi hj hij
    have h := hsrt i j (Nat.zero_le _) hij (by simpa [hd] using hj)
    rwa [getElem!_pos d' j (by simpa using hj), getElem!_pos d' i (by simpa using hi)] at h
  · have := put d' hd m os
    rw [sortWorld_one] at this
    rwa [flat_one] at this
end Go.Proofs.YtfcbjcohepkkfaaGreat.Sep

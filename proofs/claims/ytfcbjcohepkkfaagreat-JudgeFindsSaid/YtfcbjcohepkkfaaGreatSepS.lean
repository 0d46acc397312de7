import Derived.Test.YtfcbjcohepkkfaaGreatSepE
import Derived.Shelf.SlSortCmp.WholeK
/-
  slices.SortFunc at structs: the shelf's contract, said of rows that are owned; what is asked of the closure is what a walk of it gives.
-/
namespace Go.Proofs.YtfcbjcohepkkfaaGreat.Sep
open Go.RowKit Go.Shelf
set_option linter.unusedVariables false

/-- Whoever leaves what lay in W as it was, has drawn and laid at most. -/
theorem grow_of {W w : World} {L : List Chunk} (s : St W (Old W :: L) w) : ∃ q os, w = Go.Sort.grow (W.drewN q) os := by
  refine ⟨w.drawn - W.drawn, w.heap.extract W.heap.size w.heap.size, ?_⟩
  have hh : w.heap = W.heap ++ w.heap.extract W.heap.size w.heap.size := by
    apply Array.ext_getElem?
    intro i
    have hs := s.2.size
    by_cases hi : i < W.heap.size
    · rw [Array.getElem?_append_left hi]; exact Old.block s.1 i hi
    · rw [Array.getElem?_append_right (by omega), Array.getElem?_extract]
      split
      · rw [show W.heap.size + (i - W.heap.size) = i by omega]
      · rw [Array.getElem?_eq_none (by omega)]
  have hd : w.drawn = W.drawn + (w.drawn - W.drawn) := by have := s.2.drawn; omega
  have h1 := s.2.os; have h2 := s.2.tape; have h3 := s.2.output
  cases w
  cases W
  simp only [Go.Sort.grow, World.drewN] at *
  subst h1 h2 h3
  congr 1
theorem flat_at {α : Type} [Inhabited α] {k : Nat} (hk0 : 0 < k) {enc : α → List Value} (hk : ∀ x, (enc x).length = k) (d : List α) {j : Nat} (hj : j < d.length * k) :
    (d.flatMap enc)[j]? = some ((enc d.toArray[j / k]!)[j % k]!) := by
  have h1 : j / k < d.length := (Nat.div_lt_iff_lt_mul hk0).2 hj
  have h2 : j % k < k := Nat.mod_lt _ hk0
  have e : j = j / k * k + j % k := by rw [Nat.mul_comm]; exact (Nat.div_add_mod j k).symm
  have h3 := flatten_at (rows := d.map enc) (k := k) (fun r hr => by obtain ⟨x, _, rfl⟩ := List.mem_map.1 hr; exact hk x) (i := j / k) (r := enc d[j / k]) (by simp [h1]) h2
  rw [← e, ← List.flatMap_def] at h3
  rw [h3, getElem!_pos d.toArray (j / k) (by simpa using h1), getElem!_pos _ (j % k) (by rw [hk]; exact h2)]
  simp
theorem flat_len {α : Type} {k : Nat} {enc : α → List Value} (hk : ∀ x, (enc x).length = k) (d : List α) : (d.flatMap enc).length = d.length * k := by
  rw [List.flatMap_def, flatten_len (k := k) (fun r hr => by obtain ⟨x, _, rfl⟩ := List.mem_map.1 hr; exact hk x)]; simp
open Go.Sort in
/-- A row that is put anew, and whatever is laid behind. -/
theorem St.sorted {α : Type} [Inhabited α] {W w : World} {L : List Chunk} {e k : Nat} {blk off n c : Nat} (hk0 : 0 < k) {enc : α → List Value} (hk : ∀ x, (enc x).length = k) {d : List α} (hn : n = d.length) (hc : 0 < c) (s : St W (Own e k (some ⟨blk, off, none⟩) n c (d.flatMap enc) :: L) w)
    (d' : Array α) (hd : d'.size = d.length) (m : Nat) (os : Array Obj) : St W (Own e k (some ⟨blk, off, none⟩) n c (d'.toList.flatMap enc) :: L) (sortWorldK enc k w blk off m d' os) := by
  subst hn
  obtain ⟨f1, f2, f3⟩ := Own.facts s.1
  obtain ⟨g, o, all, ha, hal, har, s1⟩ := Own.open_ hc s
  cases ha
  have hs : (flatK enc k d').size = d.length * k := by rw [size_flatK, hd]
  have hle : d.length * k ≤ c * k := Nat.mul_le_mul_right k f2
  refine Own.close (all := (putCells id off (flatK enc k d') all.toArray).toList) ?_ f2 f3 ?_ ?_ ⟨?_, ?_⟩
  · rw [flat_len hk, Array.length_toList, hd]
  · simp only [putCells, Array.length_toList, Array.size_mapIdx, List.size_toArray]; exact hal
  · intro j u hu
    have hj : j < d.length * k := by
      have := (List.getElem?_eq_some_iff.1 hu).1
      rw [flat_len hk, Array.length_toList, hd] at this; exact this
    rw [flat_at hk0 hk d'.toList (by rw [Array.length_toList, hd]; exact hj)] at hu
    simp only [putCells, Array.getElem?_toList, Array.getElem?_mapIdx, List.getElem?_toArray]
    rw [List.getElem?_eq_getElem (by omega), Option.map_some, if_pos ⟨by omega, by rw [hs]; omega⟩, show off + j - off = j by omega, get_flatK _ _ _ _ (by rw [hd]; exact hj)]
    simpa using hu
  · have s2 := s1.1.setRow (putCells id off (flatK enc k d') all.toArray).toList
    refine SatH.mono s2 fun i o h => ?_
    have hb := s1.1.blk
    have hlt := s1.1.lt
    simp only [hp, sortWorldK, Go.Sort.grow, putRowK, putRow, mapBlock, Go.Sort.ahead] at *
    have hsz : i < w.heap.size := by
      by_cases hi : i < w.heap.size
      · exact hi
      · rw [Array.getElem?_eq_none (by rw [size_setRow]; omega)] at h; cases h
    rw [Array.getElem?_append_left (by simpa using hsz), Array.getElem?_modify]
    by_cases hi : i = blk
    · subst hi
      rw [heap_setRow_self hb] at h
      rw [if_pos rfl, hb]
      simpa [onCells] using h
    · rw [heap_setRow_other _ hi] at h
      rw [if_neg (Ne.symm hi)]
      exact h
  · refine s1.2.trans ⟨rfl, rfl, rfl, ?_, ?_⟩
    · simp only [sortWorldK, Go.Sort.grow, putRowK, putRow, mapBlock, Go.Sort.ahead, Array.size_append, Array.size_modify]; omega
    · simp only [sortWorldK, Go.Sort.grow, putRowK, putRow, mapBlock, Go.Sort.ahead]; omega
open Go.Sort in
theorem holdsK_own {α : Type} [Inhabited α] {W w : World} {L : List Chunk} {e k : Nat} {blk off n c : Nat} (hk0 : 0 < k) {enc : α → List Value} (hk : ∀ x, (enc x).length = k) {d : List α} (hn : n = d.length) (hc : 0 < c) (s : St W (Own e k (some ⟨blk, off, none⟩) n c (d.flatMap enc) :: L) w) :
    HoldsK enc k w blk off d.toArray ∧ blk < w.heap.size := by
  subst hn
  obtain ⟨f1, f2, f3⟩ := Own.facts s.1
  obtain ⟨g, o, all, ha, hal, har, s1⟩ := Own.open_ hc s
  cases ha
  refine ⟨fun j hj => ?_, s1.1.lt⟩
  rw [size_flatK] at hj
  rw [s1.1.cell, s1.1.frozen]
  refine ⟨har j _ ?_, rfl⟩
  rw [flat_at hk0 hk d (by simpa using hj), get_flatK _ _ _ _ hj]
  rfl
end Go.Proofs.YtfcbjcohepkkfaaGreat.Sep

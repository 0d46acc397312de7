import Derived.Test.YtidfniglnmfphaaDoorB9
namespace Go.Proofs.YtidfniglnmfphaaDoor.B
open Go.RowKit Go.Maps Go.Sort Go.Shelf Go.Proofs.YtidfniglnmfphaaDoor.Sep Go.Proofs.YtidfniglnmfphaaDoor.P
set_option linter.unusedVariables false
set_option linter.unusedSimpArgs false
theorem next_5 {R : List Rw} {d : Td} (hok : okT d) (h1 : d.op ≠ 1) (h2 : d.op ≠ 2) (h3 : d.op ≠ 3) (h4 : d.op ≠ 4) : nextR R d = without R d.frm d.to := by
  unfold nextR; unfold okT at hok; rw [if_neg h3, if_neg h4, if_pos (by omega)]
theorem isSome_or {α : Type} (f : Option α) (x : α) : (f.or (some x)).isSome = true := by cases f <;> rfl
theorem some_or {α : Type} {f : Option α} (h : f.isSome = true) (x : α) : f.or (some x) = f := by cases f <;> simp at *
theorem none_or {α : Type} {f : Option α} (h : f.isSome = false) (x : α) : f.or (some x) = some x := by cases f <;> simp at *

end Go.Proofs.YtidfniglnmfphaaDoor.B

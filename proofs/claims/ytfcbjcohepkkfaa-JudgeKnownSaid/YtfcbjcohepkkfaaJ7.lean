import Derived.Test.YtfcbjcohepkkfaaJ6
namespace Go.Proofs.Ytfcbjcohepkkfaa.B
open Go.RowKit Go.Maps Go.Sort Go.Shelf Go.Proofs.Ytfcbjcohepkkfaa.Sep Go.Proofs.Ytfcbjcohepkkfaa.P
set_option linter.unusedVariables false
set_option linter.unusedSimpArgs false
/-! ### Find: the rules 1 to 6 -/
def resL : Option (Nat × Nat) → Value
  | some (r, b) => .tuple #[.int .i64 (r : Int), .int .i64 (b : Int), .int .i64 0]
  | none => .tuple #[.int .i64 0, .int .i64 0, .int .i64 0]
theorem find_at {s0 : Look} {l : List Ev} {i r : Nat} {x : Ev} (h : findL s0 (l.take i) 0 = none) (hx : l[i]? = some x) (hr : ruleL ((l.take i).foldl seeL s0) x = r) (h0 : r ≠ 0) : findL s0 l 0 = some (r, i) := by
  obtain ⟨hi, e⟩ := List.getElem?_eq_some_iff.1 hx
  have e2 : l = l.take i ++ (x :: l.drop (i + 1)) := by rw [← e, ← List.drop_eq_getElem_cons hi, List.take_append_drop]
  have h2 := findL_append s0 (l.take i) (x :: l.drop (i + 1)) 0
  rw [← e2, h, Option.none_or] at h2
  rw [h2]
  unfold findL
  rw [hr, if_neg h0, List.length_take, Nat.min_eq_left (by omega), Nat.zero_add]
theorem find_step {s0 : Look} {l : List Ev} {i : Nat} {x : Ev} (h : findL s0 (l.take i) 0 = none) (hx : l[i]? = some x) (hr : ruleL ((l.take i).foldl seeL s0) x = 0) : findL s0 (l.take (i + 1)) 0 = none := by
  rw [take_snoc hx, findL_append, h, Option.none_or]
  unfold findL
  rw [if_pos hr]; rfl
theorem fold_step {s0 : Look} {l : List Ev} {i : Nat} {x : Ev} (hx : l[i]? = some x) : (l.take (i + 1)).foldl seeL s0 = seeL ((l.take i).foldl seeL s0) x := by
  rw [take_snoc hx, List.foldl_append]; rfl
theorem LkOk.start (l : List Ev) : LkOk (startL l) [] [] 0 := ⟨fun m => rfl, fun i => rfl, List.nodup_nil, ⟨Nat.le_refl _, Nat.le_refl _⟩, by unfold startL; simp⟩

end Go.Proofs.Ytfcbjcohepkkfaa.B

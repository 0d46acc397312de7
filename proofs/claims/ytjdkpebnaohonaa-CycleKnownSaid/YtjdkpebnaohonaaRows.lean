/-
  No cell of these rows narrows 'for every input' (looked for: loops, veiled, ifaces, maps, wideKeys, modest, calm, conditions, laid).
  DERIVED. THE GIVEN ROWS OF THIS SEAT. 6 by the template 'for every input the law returns true; each argument reads behind the call as it read before'; 0 by the template 'total and deterministic' (their statements: YtjdkpebnaohonaaTotals.lean).
  GIVEN WITH THE SEED: the statements are not yours to turn. If you find one false, say at which input.
  Laid BY PROGRAM, IN A SANDBOX (cutbox-rows.mjs): the forced cells as the released guide's own fill.sh prints them over the translation e86b2cec18da2d9c… (all of the seat's roots in one cut). By AI agents, Wed Nov 11 2026. No macro, syntax, notation, axiom, sorry.
-/
import Derived.Test.YtjdkpebnaohonaaChecked
import GoSem.Claim
import GoSem.ClaimJoined
import GoSem.ClaimMapViews
import Derived.JoinedTies
import Derived.KernelRfl
namespace Go.Proofs.Ytjdkpebnaohonaa
/- THE CELL 'sum', in the pinned program and in every row, IS THE sha256 OF THE DUMP (.gsa) THAT YtjdkpebnaohonaaProg.lean LOADS. Nothing in Lean hashes anything: it is a label: what it is worth is what the hold of that sum in a sandbox is worth. -/
noncomputable def Try.pinned : Pinned := { name := "ytjdkpebnaohonaa", sum := "e86b2cec18da2d9c05846d3b9695cb22dd2cae89577b48f4c9aee9df301a9b58", checked := Try.checked }
namespace Rows
def none {H : Type} : Left H := { results := [], args := [] }

/-- 'scriptoriumlaw19.CycleAnswers': WHATEVER THE INPUT: true; the input reads as it did. -/
def cycleAnswersSpec : ChangeSpec := { name := "cycleAnswers", fn := fun _ => fun
  | [d1, d2] => { results := [.lit (.bool true)], args := [d1, d2] }
  | _ => none }
def cycleAnswersRow : OpenClaim := { program := "ytjdkpebnaohonaa", sum := "e86b2cec18da2d9c05846d3b9695cb22dd2cae89577b48f4c9aee9df301a9b58", func := "scriptorium/scriptoriumlaw19.CycleAnswers", spec := "cycleAnswers", unfollowed := true, recurses := true, apart := false }
def CycleAnswersSaid : Prop := cycleAnswersRow.holds Try.pinned (OpenSpec.ofChange cycleAnswersSpec)

/-- ITS FALSE NEIGHBOUR: 'it returns false'. Refute it at one input. -/
def cycleAnswersWrong : ChangeSpec := { name := "cycleAnswers", fn := fun _ => fun
  | [d1, d2] => { results := [.lit (.bool false)], args := [d1, d2] }
  | _ => none }
def CycleAnswersWrongFalsely : Prop := cycleAnswersRow.holds Try.pinned (OpenSpec.ofChange cycleAnswersWrong)

/-- 'scriptoriumlaw19.CycleWays': WHATEVER THE INPUT: true; the input reads as it did. -/
def cycleWaysSpec : ChangeSpec := { name := "cycleWays", fn := fun _ => fun
  | [d] => { results := [.lit (.bool true)], args := [d] }
  | _ => none }
def cycleWaysRow : OpenClaim := { program := "ytjdkpebnaohonaa", sum := "e86b2cec18da2d9c05846d3b9695cb22dd2cae89577b48f4c9aee9df301a9b58", func := "scriptorium/scriptoriumlaw19.CycleWays", spec := "cycleWays", unfollowed := true, recurses := true, apart := false }
def CycleWaysSaid : Prop := cycleWaysRow.holds Try.pinned (OpenSpec.ofChange cycleWaysSpec)

/-- ITS FALSE NEIGHBOUR: 'it returns false'. Refute it at one input. -/
def cycleWaysWrong : ChangeSpec := { name := "cycleWays", fn := fun _ => fun
  | [d] => { results := [.lit (.bool false)], args := [d] }
  | _ => none }
def CycleWaysWrongFalsely : Prop := cycleWaysRow.holds Try.pinned (OpenSpec.ofChange cycleWaysWrong)

/-- 'scriptoriumlaw19.CycleEnds': WHATEVER THE INPUT: true; the input reads as it did. -/
def cycleEndsSpec : ChangeSpec := { name := "cycleEnds", fn := fun _ => fun
  | [d1, d2] => { results := [.lit (.bool true)], args := [d1, d2] }
  | _ => none }
def cycleEndsRow : OpenClaim := { program := "ytjdkpebnaohonaa", sum := "e86b2cec18da2d9c05846d3b9695cb22dd2cae89577b48f4c9aee9df301a9b58", func := "scriptorium/scriptoriumlaw19.CycleEnds", spec := "cycleEnds", unfollowed := true, recurses := true, apart := false }
def CycleEndsSaid : Prop := cycleEndsRow.holds Try.pinned (OpenSpec.ofChange cycleEndsSpec)

/-- ITS FALSE NEIGHBOUR: 'it returns false'. Refute it at one input. -/
def cycleEndsWrong : ChangeSpec := { name := "cycleEnds", fn := fun _ => fun
  | [d1, d2] => { results := [.lit (.bool false)], args := [d1, d2] }
  | _ => none }
def CycleEndsWrongFalsely : Prop := cycleEndsRow.holds Try.pinned (OpenSpec.ofChange cycleEndsWrong)

/-- 'scriptoriumlaw19.CycleLeast': WHATEVER THE INPUT: true; the input reads as it did. -/
def cycleLeastSpec : ChangeSpec := { name := "cycleLeast", fn := fun _ => fun
  | [d1, d2] => { results := [.lit (.bool true)], args := [d1, d2] }
  | _ => none }
def cycleLeastRow : OpenClaim := { program := "ytjdkpebnaohonaa", sum := "e86b2cec18da2d9c05846d3b9695cb22dd2cae89577b48f4c9aee9df301a9b58", func := "scriptorium/scriptoriumlaw19.CycleLeast", spec := "cycleLeast", unfollowed := true, recurses := true, apart := false }
def CycleLeastSaid : Prop := cycleLeastRow.holds Try.pinned (OpenSpec.ofChange cycleLeastSpec)

/-- ITS FALSE NEIGHBOUR: 'it returns false'. Refute it at one input. -/
def cycleLeastWrong : ChangeSpec := { name := "cycleLeast", fn := fun _ => fun
  | [d1, d2] => { results := [.lit (.bool false)], args := [d1, d2] }
  | _ => none }
def CycleLeastWrongFalsely : Prop := cycleLeastRow.holds Try.pinned (OpenSpec.ofChange cycleLeastWrong)

/-- 'scriptoriumlaw19.CycleMore': WHATEVER THE INPUT: true; the input reads as it did. -/
def cycleMoreSpec : ChangeSpec := { name := "cycleMore", fn := fun _ => fun
  | [d1, d2] => { results := [.lit (.bool true)], args := [d1, d2] }
  | _ => none }
def cycleMoreRow : OpenClaim := { program := "ytjdkpebnaohonaa", sum := "e86b2cec18da2d9c05846d3b9695cb22dd2cae89577b48f4c9aee9df301a9b58", func := "scriptorium/scriptoriumlaw19.CycleMore", spec := "cycleMore", unfollowed := true, recurses := true, apart := false }
def CycleMoreSaid : Prop := cycleMoreRow.holds Try.pinned (OpenSpec.ofChange cycleMoreSpec)

/-- ITS FALSE NEIGHBOUR: 'it returns false'. Refute it at one input. -/
def cycleMoreWrong : ChangeSpec := { name := "cycleMore", fn := fun _ => fun
  | [d1, d2] => { results := [.lit (.bool false)], args := [d1, d2] }
  | _ => none }
def CycleMoreWrongFalsely : Prop := cycleMoreRow.holds Try.pinned (OpenSpec.ofChange cycleMoreWrong)

/-- 'scriptoriumlaw19.CycleKnown': WHATEVER THE INPUT: true; the input reads as it did. -/
def cycleKnownSpec : ChangeSpec := { name := "cycleKnown", fn := fun _ => fun
  | [] => { results := [.lit (.bool true)], args := [] }
  | _ => none }
def cycleKnownRow : OpenClaim := { program := "ytjdkpebnaohonaa", sum := "e86b2cec18da2d9c05846d3b9695cb22dd2cae89577b48f4c9aee9df301a9b58", func := "scriptorium/scriptoriumlaw19.CycleKnown", spec := "cycleKnown", unfollowed := true, recurses := true, apart := false }
def CycleKnownSaid : Prop := cycleKnownRow.holds Try.pinned (OpenSpec.ofChange cycleKnownSpec)

/-- ITS FALSE NEIGHBOUR: 'it returns false'. Refute it at one input. -/
def cycleKnownWrong : ChangeSpec := { name := "cycleKnown", fn := fun _ => fun
  | [] => { results := [.lit (.bool false)], args := [] }
  | _ => none }
def CycleKnownWrongFalsely : Prop := cycleKnownRow.holds Try.pinned (OpenSpec.ofChange cycleKnownWrong)

/- THE SECOND FORM. 'bulk': how many values and letters a reading holds, each counted each time it is reached (what is shared counts as often as it is met; a slice's spare places count too). A statement '..UptoSaid' is the law's where the arguments, and the package variables that the reading takes, are together of bulk at most 1048576: NARROWER than '..Said'. Prove '..Said' where nothing that the law and all that it calls make is longer than what came in: it says more and counts as full. Else prove '..UptoSaid'. A law counts once. -/
mutual
def uptoBulk {H : Type} : DataW H → Nat
  | .lit (.string bytes) => bytes.length + 1
  | .lit _ => 1
  | .nil => 1
  | .ptr d => uptoBulk d + 1
  | .slice elems spare => uptoBulkAll elems + uptoBulkAll spare + 1
  | .agg parts => uptoBulkAll parts + 1
  | .iface _ d => uptoBulk d + 1
  | .map entries => uptoBulkEntries entries + 1
  | .held _ => 1
def uptoBulkAll {H : Type} : List (DataW H) → Nat
  | [] => 0
  | d :: r => uptoBulk d + uptoBulkAll r
def uptoBulkEntries {H : Type} : List (Lit × DataW H) → Nat
  | [] => 0
  | x :: r => uptoBulkEntry x + uptoBulkEntries r
def uptoBulkEntry {H : Type} : Lit × DataW H → Nat
  | (.string bytes, d) => bytes.length + uptoBulk d + 1
  | (_, d) => uptoBulk d + 1
 end
def uptoSmall : (H : Type) → List (DataW H) → Bool := fun _ ds => decide (uptoBulkAll ds ≤ 1048576)
def OpenSpec.upto (s : _root_.Go.ChangeSpec) : _root_.Go.OpenSpec := { _root_.Go.OpenSpec.ofChange s with cond := some uptoSmall }

/-- 'scriptoriumlaw19.CycleAnswers', WHERE WHAT IT READS IS OF BULK AT MOST 1048576: true; the input reads as it did. -/
def cycleAnswersUptoRow : OpenClaim := { program := "ytjdkpebnaohonaa", sum := "e86b2cec18da2d9c05846d3b9695cb22dd2cae89577b48f4c9aee9df301a9b58", func := "scriptorium/scriptoriumlaw19.CycleAnswers", spec := "cycleAnswers", unfollowed := true, recurses := true, apart := false, narrowed := true }
def CycleAnswersUptoSaid : Prop := cycleAnswersUptoRow.holds Try.pinned (OpenSpec.upto cycleAnswersSpec)

/-- 'scriptoriumlaw19.CycleWays', WHERE WHAT IT READS IS OF BULK AT MOST 1048576: true; the input reads as it did. -/
def cycleWaysUptoRow : OpenClaim := { program := "ytjdkpebnaohonaa", sum := "e86b2cec18da2d9c05846d3b9695cb22dd2cae89577b48f4c9aee9df301a9b58", func := "scriptorium/scriptoriumlaw19.CycleWays", spec := "cycleWays", unfollowed := true, recurses := true, apart := false, narrowed := true }
def CycleWaysUptoSaid : Prop := cycleWaysUptoRow.holds Try.pinned (OpenSpec.upto cycleWaysSpec)

/-- 'scriptoriumlaw19.CycleEnds', WHERE WHAT IT READS IS OF BULK AT MOST 1048576: true; the input reads as it did. -/
def cycleEndsUptoRow : OpenClaim := { program := "ytjdkpebnaohonaa", sum := "e86b2cec18da2d9c05846d3b9695cb22dd2cae89577b48f4c9aee9df301a9b58", func := "scriptorium/scriptoriumlaw19.CycleEnds", spec := "cycleEnds", unfollowed := true, recurses := true, apart := false, narrowed := true }
def CycleEndsUptoSaid : Prop := cycleEndsUptoRow.holds Try.pinned (OpenSpec.upto cycleEndsSpec)

/-- 'scriptoriumlaw19.CycleLeast', WHERE WHAT IT READS IS OF BULK AT MOST 1048576: true; the input reads as it did. -/
def cycleLeastUptoRow : OpenClaim := { program := "ytjdkpebnaohonaa", sum := "e86b2cec18da2d9c05846d3b9695cb22dd2cae89577b48f4c9aee9df301a9b58", func := "scriptorium/scriptoriumlaw19.CycleLeast", spec := "cycleLeast", unfollowed := true, recurses := true, apart := false, narrowed := true }
def CycleLeastUptoSaid : Prop := cycleLeastUptoRow.holds Try.pinned (OpenSpec.upto cycleLeastSpec)

/-- 'scriptoriumlaw19.CycleMore', WHERE WHAT IT READS IS OF BULK AT MOST 1048576: true; the input reads as it did. -/
def cycleMoreUptoRow : OpenClaim := { program := "ytjdkpebnaohonaa", sum := "e86b2cec18da2d9c05846d3b9695cb22dd2cae89577b48f4c9aee9df301a9b58", func := "scriptorium/scriptoriumlaw19.CycleMore", spec := "cycleMore", unfollowed := true, recurses := true, apart := false, narrowed := true }
def CycleMoreUptoSaid : Prop := cycleMoreUptoRow.holds Try.pinned (OpenSpec.upto cycleMoreSpec)

/-- 'scriptoriumlaw19.CycleKnown', WHERE WHAT IT READS IS OF BULK AT MOST 1048576: true; the input reads as it did. -/
def cycleKnownUptoRow : OpenClaim := { program := "ytjdkpebnaohonaa", sum := "e86b2cec18da2d9c05846d3b9695cb22dd2cae89577b48f4c9aee9df301a9b58", func := "scriptorium/scriptoriumlaw19.CycleKnown", spec := "cycleKnown", unfollowed := true, recurses := true, apart := false, narrowed := true }
def CycleKnownUptoSaid : Prop := cycleKnownUptoRow.holds Try.pinned (OpenSpec.upto cycleKnownSpec)

end Rows
end Go.Proofs.Ytjdkpebnaohonaa

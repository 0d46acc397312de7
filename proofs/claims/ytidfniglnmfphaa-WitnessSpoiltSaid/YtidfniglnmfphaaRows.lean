/-
  No cell of these rows narrows 'for every input' (looked for: loops, veiled, ifaces, maps, wideKeys, modest, calm, conditions, laid).
  DERIVED. THE GIVEN ROWS OF THIS SEAT. 5 by the template 'for every input the law returns true; each argument reads behind the call as it read before'; 0 by the template 'total and deterministic' (their statements: YtidfniglnmfphaaTotals.lean).
  GIVEN WITH THE SEED: the statements are not yours to turn. If you find one false, say at which input.
  Laid BY PROGRAM, IN A SANDBOX (cutbox-rows.mjs): the forced cells as the released guide's own fill.sh prints them over the translation f1fefdec1ec7841c… (all of the seat's roots in one cut). By AI agents, Wed Nov 11 2026. No macro, syntax, notation, axiom, sorry.
-/
import Derived.Test.YtidfniglnmfphaaChecked
import GoSem.Claim
import GoSem.ClaimJoined
import GoSem.ClaimMapViews
import Derived.JoinedTies
import Derived.KernelRfl
namespace Go.Proofs.Ytidfniglnmfphaa
/- THE CELL 'sum', in the pinned program and in every row, IS THE sha256 OF THE DUMP (.gsa) THAT YtidfniglnmfphaaProg.lean LOADS. Nothing in Lean hashes anything: it is a label: what it is worth is what the hold of that sum in a sandbox is worth. -/
noncomputable def Try.pinned : Pinned := { name := "ytidfniglnmfphaa", sum := "f1fefdec1ec7841cf7049bc8383fa4ac472a0eeb51f6116d7edf367f019c3db2", checked := Try.checked }
namespace Rows
def none {H : Type} : Left H := { results := [], args := [] }

/-- 'scriptoriumlaw28.WitnessTells': WHATEVER THE INPUT: true; the input reads as it did. -/
def witnessTellsSpec : ChangeSpec := { name := "witnessTells", fn := fun _ => fun
  | [d] => { results := [.lit (.bool true)], args := [d] }
  | _ => none }
def witnessTellsRow : OpenClaim := { program := "ytidfniglnmfphaa", sum := "f1fefdec1ec7841cf7049bc8383fa4ac472a0eeb51f6116d7edf367f019c3db2", func := "scriptorium/scriptoriumlaw28.WitnessTells", spec := "witnessTells", unfollowed := true, recurses := true, apart := false }
def WitnessTellsSaid : Prop := witnessTellsRow.holds Try.pinned (OpenSpec.ofChange witnessTellsSpec)

/-- ITS FALSE NEIGHBOUR: 'it returns false'. Refute it at one input. -/
def witnessTellsWrong : ChangeSpec := { name := "witnessTells", fn := fun _ => fun
  | [d] => { results := [.lit (.bool false)], args := [d] }
  | _ => none }
def WitnessTellsWrongFalsely : Prop := witnessTellsRow.holds Try.pinned (OpenSpec.ofChange witnessTellsWrong)

/-- 'scriptoriumlaw28.WitnessRight': WHATEVER THE INPUT: true; the input reads as it did. -/
def witnessRightSpec : ChangeSpec := { name := "witnessRight", fn := fun _ => fun
  | [d] => { results := [.lit (.bool true)], args := [d] }
  | _ => none }
def witnessRightRow : OpenClaim := { program := "ytidfniglnmfphaa", sum := "f1fefdec1ec7841cf7049bc8383fa4ac472a0eeb51f6116d7edf367f019c3db2", func := "scriptorium/scriptoriumlaw28.WitnessRight", spec := "witnessRight", unfollowed := true, recurses := true, apart := false }
def WitnessRightSaid : Prop := witnessRightRow.holds Try.pinned (OpenSpec.ofChange witnessRightSpec)

/-- ITS FALSE NEIGHBOUR: 'it returns false'. Refute it at one input. -/
def witnessRightWrong : ChangeSpec := { name := "witnessRight", fn := fun _ => fun
  | [d] => { results := [.lit (.bool false)], args := [d] }
  | _ => none }
def WitnessRightWrongFalsely : Prop := witnessRightRow.holds Try.pinned (OpenSpec.ofChange witnessRightWrong)

/-- 'scriptoriumlaw28.WitnessSpoilt': WHATEVER THE INPUT: true; the input reads as it did. -/
def witnessSpoiltSpec : ChangeSpec := { name := "witnessSpoilt", fn := fun _ => fun
  | [d1, d2, d3] => { results := [.lit (.bool true)], args := [d1, d2, d3] }
  | _ => none }
def witnessSpoiltRow : OpenClaim := { program := "ytidfniglnmfphaa", sum := "f1fefdec1ec7841cf7049bc8383fa4ac472a0eeb51f6116d7edf367f019c3db2", func := "scriptorium/scriptoriumlaw28.WitnessSpoilt", spec := "witnessSpoilt", unfollowed := true, recurses := true, apart := false }
def WitnessSpoiltSaid : Prop := witnessSpoiltRow.holds Try.pinned (OpenSpec.ofChange witnessSpoiltSpec)

/-- ITS FALSE NEIGHBOUR: 'it returns false'. Refute it at one input. -/
def witnessSpoiltWrong : ChangeSpec := { name := "witnessSpoilt", fn := fun _ => fun
  | [d1, d2, d3] => { results := [.lit (.bool false)], args := [d1, d2, d3] }
  | _ => none }
def WitnessSpoiltWrongFalsely : Prop := witnessSpoiltRow.holds Try.pinned (OpenSpec.ofChange witnessSpoiltWrong)

/-- 'scriptoriumlaw28.WitnessAnyway': WHATEVER THE INPUT: true; the input reads as it did. -/
def witnessAnywaySpec : ChangeSpec := { name := "witnessAnyway", fn := fun _ => fun
  | [d1, d2] => { results := [.lit (.bool true)], args := [d1, d2] }
  | _ => none }
def witnessAnywayRow : OpenClaim := { program := "ytidfniglnmfphaa", sum := "f1fefdec1ec7841cf7049bc8383fa4ac472a0eeb51f6116d7edf367f019c3db2", func := "scriptorium/scriptoriumlaw28.WitnessAnyway", spec := "witnessAnyway", unfollowed := true, recurses := true, apart := false }
def WitnessAnywaySaid : Prop := witnessAnywayRow.holds Try.pinned (OpenSpec.ofChange witnessAnywaySpec)

/-- ITS FALSE NEIGHBOUR: 'it returns false'. Refute it at one input. -/
def witnessAnywayWrong : ChangeSpec := { name := "witnessAnyway", fn := fun _ => fun
  | [d1, d2] => { results := [.lit (.bool false)], args := [d1, d2] }
  | _ => none }
def WitnessAnywayWrongFalsely : Prop := witnessAnywayRow.holds Try.pinned (OpenSpec.ofChange witnessAnywayWrong)

/-- 'scriptoriumlaw28.WitnessKnown': WHATEVER THE INPUT: true; the input reads as it did. -/
def witnessKnownSpec : ChangeSpec := { name := "witnessKnown", fn := fun _ => fun
  | [] => { results := [.lit (.bool true)], args := [] }
  | _ => none }
def witnessKnownRow : OpenClaim := { program := "ytidfniglnmfphaa", sum := "f1fefdec1ec7841cf7049bc8383fa4ac472a0eeb51f6116d7edf367f019c3db2", func := "scriptorium/scriptoriumlaw28.WitnessKnown", spec := "witnessKnown", unfollowed := true, recurses := true, apart := false }
def WitnessKnownSaid : Prop := witnessKnownRow.holds Try.pinned (OpenSpec.ofChange witnessKnownSpec)

/-- ITS FALSE NEIGHBOUR: 'it returns false'. Refute it at one input. -/
def witnessKnownWrong : ChangeSpec := { name := "witnessKnown", fn := fun _ => fun
  | [] => { results := [.lit (.bool false)], args := [] }
  | _ => none }
def WitnessKnownWrongFalsely : Prop := witnessKnownRow.holds Try.pinned (OpenSpec.ofChange witnessKnownWrong)

/- THE SECOND FORM. 'bulk': how many values and letters a reading holds, each counted each time it is reached (what is shared counts as often as it is met; a slice's spare places count too). A statement '..UptoSaid' is the law's where the arguments, and the package variables that the reading takes, are together of bulk at most 1048576: NARROWER than '..Said'. Prove '..Said' where nothing that the law and all that it calls make is longer than what came in: it says more and counts as full. Else prove '..UptoSaid'. A law counts once. -/
mutual
def uptoBulk {H : Type} : DataW H → Nat
  | .lit (.string bytes) => bytes.length + 1
  | .lit _ => 1
  | .nil => 1
  | .ptr d => uptoBulk d + 1
  | .slice elems spare => uptoBulkAll elems + uptoBulkAll spare + 1
  | .agg parts => uptoBulkAll parts + 1
  | .iface _ d => uptoBulk d + 1
  | .map entries => uptoBulkEntries entries + 1
  | .held _ => 1
def uptoBulkAll {H : Type} : List (DataW H) → Nat
  | [] => 0
  | d :: r => uptoBulk d + uptoBulkAll r
def uptoBulkEntries {H : Type} : List (Lit × DataW H) → Nat
  | [] => 0
  | x :: r => uptoBulkEntry x + uptoBulkEntries r
def uptoBulkEntry {H : Type} : Lit × DataW H → Nat
  | (.string bytes, d) => bytes.length + uptoBulk d + 1
  | (_, d) => uptoBulk d + 1
 end
def uptoSmall : (H : Type) → List (DataW H) → Bool := fun _ ds => decide (uptoBulkAll ds ≤ 1048576)
def OpenSpec.upto (s : _root_.Go.ChangeSpec) : _root_.Go.OpenSpec := { _root_.Go.OpenSpec.ofChange s with cond := some uptoSmall }

/-- 'scriptoriumlaw28.WitnessTells', WHERE WHAT IT READS IS OF BULK AT MOST 1048576: true; the input reads as it did. -/
def witnessTellsUptoRow : OpenClaim := { program := "ytidfniglnmfphaa", sum := "f1fefdec1ec7841cf7049bc8383fa4ac472a0eeb51f6116d7edf367f019c3db2", func := "scriptorium/scriptoriumlaw28.WitnessTells", spec := "witnessTells", unfollowed := true, recurses := true, apart := false, narrowed := true }
def WitnessTellsUptoSaid : Prop := witnessTellsUptoRow.holds Try.pinned (OpenSpec.upto witnessTellsSpec)

/-- 'scriptoriumlaw28.WitnessRight', WHERE WHAT IT READS IS OF BULK AT MOST 1048576: true; the input reads as it did. -/
def witnessRightUptoRow : OpenClaim := { program := "ytidfniglnmfphaa", sum := "f1fefdec1ec7841cf7049bc8383fa4ac472a0eeb51f6116d7edf367f019c3db2", func := "scriptorium/scriptoriumlaw28.WitnessRight", spec := "witnessRight", unfollowed := true, recurses := true, apart := false, narrowed := true }
def WitnessRightUptoSaid : Prop := witnessRightUptoRow.holds Try.pinned (OpenSpec.upto witnessRightSpec)

/-- 'scriptoriumlaw28.WitnessSpoilt', WHERE WHAT IT READS IS OF BULK AT MOST 1048576: true; the input reads as it did. -/
def witnessSpoiltUptoRow : OpenClaim := { program := "ytidfniglnmfphaa", sum := "f1fefdec1ec7841cf7049bc8383fa4ac472a0eeb51f6116d7edf367f019c3db2", func := "scriptorium/scriptoriumlaw28.WitnessSpoilt", spec := "witnessSpoilt", unfollowed := true, recurses := true, apart := false, narrowed := true }
def WitnessSpoiltUptoSaid : Prop := witnessSpoiltUptoRow.holds Try.pinned (OpenSpec.upto witnessSpoiltSpec)

/-- 'scriptoriumlaw28.WitnessAnyway', WHERE WHAT IT READS IS OF BULK AT MOST 1048576: true; the input reads as it did. -/
def witnessAnywayUptoRow : OpenClaim := { program := "ytidfniglnmfphaa", sum := "f1fefdec1ec7841cf7049bc8383fa4ac472a0eeb51f6116d7edf367f019c3db2", func := "scriptorium/scriptoriumlaw28.WitnessAnyway", spec := "witnessAnyway", unfollowed := true, recurses := true, apart := false, narrowed := true }
def WitnessAnywayUptoSaid : Prop := witnessAnywayUptoRow.holds Try.pinned (OpenSpec.upto witnessAnywaySpec)

/-- 'scriptoriumlaw28.WitnessKnown', WHERE WHAT IT READS IS OF BULK AT MOST 1048576: true; the input reads as it did. -/
def witnessKnownUptoRow : OpenClaim := { program := "ytidfniglnmfphaa", sum := "f1fefdec1ec7841cf7049bc8383fa4ac472a0eeb51f6116d7edf367f019c3db2", func := "scriptorium/scriptoriumlaw28.WitnessKnown", spec := "witnessKnown", unfollowed := true, recurses := true, apart := false, narrowed := true }
def WitnessKnownUptoSaid : Prop := witnessKnownUptoRow.holds Try.pinned (OpenSpec.upto witnessKnownSpec)

end Rows
end Go.Proofs.Ytidfniglnmfphaa

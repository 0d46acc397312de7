/-
  No cell of these rows narrows 'for every input' (looked for: loops, veiled, ifaces, maps, wideKeys, modest, calm, conditions, laid).
  DERIVED. THE GIVEN ROWS OF THIS SEAT. 5 by the template 'for every input the law returns true; each argument reads behind the call as it read before'; 0 by the template 'total and deterministic' (their statements: YtcnlidaacgcdhaaTotals.lean).
  GIVEN WITH THE SEED: the statements are not yours to turn. If you find one false, say at which input.
  Laid BY PROGRAM, IN A SANDBOX (cutbox-rows.mjs): the forced cells as the released guide's own fill.sh prints them over the translation 3be9d8f7fd47d02e… (all of the seat's roots in one cut). By AI agents, Wed Nov 11 2026. No macro, syntax, notation, axiom, sorry.
-/
import Derived.Test.YtcnlidaacgcdhaaChecked
import GoSem.Claim
import GoSem.ClaimJoined
import GoSem.ClaimMapViews
import Derived.JoinedTies
import Derived.KernelRfl
namespace Go.Proofs.Ytcnlidaacgcdhaa
/- THE CELL 'sum', in the pinned program and in every row, IS THE sha256 OF THE DUMP (.gsa) THAT YtcnlidaacgcdhaaProg.lean LOADS. Nothing in Lean hashes anything: it is a label: what it is worth is what the hold of that sum in a sandbox is worth. -/
noncomputable def Try.pinned : Pinned := { name := "ytcnlidaacgcdhaa", sum := "3be9d8f7fd47d02e5c552605ea64ce526fc9ffa3af7a1ca767ec2e0733c2aa3f", checked := Try.checked }
namespace Rows
def none {H : Type} : Left H := { results := [], args := [] }

/-- 'scriptoriumlaw16.SpansOnly': WHATEVER THE INPUT: true; the input reads as it did. -/
def spansOnlySpec : ChangeSpec := { name := "spansOnly", fn := fun _ => fun
  | [d] => { results := [.lit (.bool true)], args := [d] }
  | _ => none }
def spansOnlyRow : OpenClaim := { program := "ytcnlidaacgcdhaa", sum := "3be9d8f7fd47d02e5c552605ea64ce526fc9ffa3af7a1ca767ec2e0733c2aa3f", func := "scriptorium/scriptoriumlaw16.SpansOnly", spec := "spansOnly", unfollowed := true, recurses := true, apart := false }
def SpansOnlySaid : Prop := spansOnlyRow.holds Try.pinned (OpenSpec.ofChange spansOnlySpec)

/-- ITS FALSE NEIGHBOUR: 'it returns false'. Refute it at one input. -/
def spansOnlyWrong : ChangeSpec := { name := "spansOnly", fn := fun _ => fun
  | [d] => { results := [.lit (.bool false)], args := [d] }
  | _ => none }
def SpansOnlyWrongFalsely : Prop := spansOnlyRow.holds Try.pinned (OpenSpec.ofChange spansOnlyWrong)

/-- 'scriptoriumlaw16.SpansParts': WHATEVER THE INPUT: true; the input reads as it did. -/
def spansPartsSpec : ChangeSpec := { name := "spansParts", fn := fun _ => fun
  | [d1, d2] => { results := [.lit (.bool true)], args := [d1, d2] }
  | _ => none }
def spansPartsRow : OpenClaim := { program := "ytcnlidaacgcdhaa", sum := "3be9d8f7fd47d02e5c552605ea64ce526fc9ffa3af7a1ca767ec2e0733c2aa3f", func := "scriptorium/scriptoriumlaw16.SpansParts", spec := "spansParts", unfollowed := true, recurses := true, apart := false }
def SpansPartsSaid : Prop := spansPartsRow.holds Try.pinned (OpenSpec.ofChange spansPartsSpec)

/-- ITS FALSE NEIGHBOUR: 'it returns false'. Refute it at one input. -/
def spansPartsWrong : ChangeSpec := { name := "spansParts", fn := fun _ => fun
  | [d1, d2] => { results := [.lit (.bool false)], args := [d1, d2] }
  | _ => none }
def SpansPartsWrongFalsely : Prop := spansPartsRow.holds Try.pinned (OpenSpec.ofChange spansPartsWrong)

/-- 'scriptoriumlaw16.SpansMeet': WHATEVER THE INPUT: true; the input reads as it did. -/
def spansMeetSpec : ChangeSpec := { name := "spansMeet", fn := fun _ => fun
  | [d1, d2, d3] => { results := [.lit (.bool true)], args := [d1, d2, d3] }
  | _ => none }
def spansMeetRow : OpenClaim := { program := "ytcnlidaacgcdhaa", sum := "3be9d8f7fd47d02e5c552605ea64ce526fc9ffa3af7a1ca767ec2e0733c2aa3f", func := "scriptorium/scriptoriumlaw16.SpansMeet", spec := "spansMeet", unfollowed := true, recurses := true, apart := false }
def SpansMeetSaid : Prop := spansMeetRow.holds Try.pinned (OpenSpec.ofChange spansMeetSpec)

/-- ITS FALSE NEIGHBOUR: 'it returns false'. Refute it at one input. -/
def spansMeetWrong : ChangeSpec := { name := "spansMeet", fn := fun _ => fun
  | [d1, d2, d3] => { results := [.lit (.bool false)], args := [d1, d2, d3] }
  | _ => none }
def SpansMeetWrongFalsely : Prop := spansMeetRow.holds Try.pinned (OpenSpec.ofChange spansMeetWrong)

/-- 'scriptoriumlaw16.SpansKeys': WHATEVER THE INPUT: true; the input reads as it did. -/
def spansKeysSpec : ChangeSpec := { name := "spansKeys", fn := fun _ => fun
  | [d1, d2, d3] => { results := [.lit (.bool true)], args := [d1, d2, d3] }
  | _ => none }
def spansKeysRow : OpenClaim := { program := "ytcnlidaacgcdhaa", sum := "3be9d8f7fd47d02e5c552605ea64ce526fc9ffa3af7a1ca767ec2e0733c2aa3f", func := "scriptorium/scriptoriumlaw16.SpansKeys", spec := "spansKeys", unfollowed := true, recurses := true, apart := false }
def SpansKeysSaid : Prop := spansKeysRow.holds Try.pinned (OpenSpec.ofChange spansKeysSpec)

/-- ITS FALSE NEIGHBOUR: 'it returns false'. Refute it at one input. -/
def spansKeysWrong : ChangeSpec := { name := "spansKeys", fn := fun _ => fun
  | [d1, d2, d3] => { results := [.lit (.bool false)], args := [d1, d2, d3] }
  | _ => none }
def SpansKeysWrongFalsely : Prop := spansKeysRow.holds Try.pinned (OpenSpec.ofChange spansKeysWrong)

/-- 'scriptoriumlaw16.SpansKnown': WHATEVER THE INPUT: true; the input reads as it did. -/
def spansKnownSpec : ChangeSpec := { name := "spansKnown", fn := fun _ => fun
  | [] => { results := [.lit (.bool true)], args := [] }
  | _ => none }
def spansKnownRow : OpenClaim := { program := "ytcnlidaacgcdhaa", sum := "3be9d8f7fd47d02e5c552605ea64ce526fc9ffa3af7a1ca767ec2e0733c2aa3f", func := "scriptorium/scriptoriumlaw16.SpansKnown", spec := "spansKnown", inPlace := ["internal/abi.NoEscape", "internal/bytealg.MakeNoZero"], unfollowed := true, recurses := true, apart := false }
def SpansKnownSaid : Prop := spansKnownRow.holds Try.pinned (OpenSpec.ofChange spansKnownSpec)

/-- ITS FALSE NEIGHBOUR: 'it returns false'. Refute it at one input. -/
def spansKnownWrong : ChangeSpec := { name := "spansKnown", fn := fun _ => fun
  | [] => { results := [.lit (.bool false)], args := [] }
  | _ => none }
def SpansKnownWrongFalsely : Prop := spansKnownRow.holds Try.pinned (OpenSpec.ofChange spansKnownWrong)

/- THE SECOND FORM. 'bulk': how many values and letters a reading holds, each counted each time it is reached (what is shared counts as often as it is met; a slice's spare places count too). A statement '..UptoSaid' is the law's where the arguments, and the package variables that the reading takes, are together of bulk at most 1048576: NARROWER than '..Said'. Prove '..Said' where nothing that the law and all that it calls make is longer than what came in: it says more and counts as full. Else prove '..UptoSaid'. A law counts once. -/
mutual
def uptoBulk {H : Type} : DataW H → Nat
  | .lit (.string bytes) => bytes.length + 1
  | .lit _ => 1
  | .nil => 1
  | .ptr d => uptoBulk d + 1
  | .slice elems spare => uptoBulkAll elems + uptoBulkAll spare + 1
  | .agg parts => uptoBulkAll parts + 1
  | .iface _ d => uptoBulk d + 1
  | .map entries => uptoBulkEntries entries + 1
  | .held _ => 1
def uptoBulkAll {H : Type} : List (DataW H) → Nat
  | [] => 0
  | d :: r => uptoBulk d + uptoBulkAll r
def uptoBulkEntries {H : Type} : List (Lit × DataW H) → Nat
  | [] => 0
  | x :: r => uptoBulkEntry x + uptoBulkEntries r
def uptoBulkEntry {H : Type} : Lit × DataW H → Nat
  | (.string bytes, d) => bytes.length + uptoBulk d + 1
  | (_, d) => uptoBulk d + 1
 end
def uptoSmall : (H : Type) → List (DataW H) → Bool := fun _ ds => decide (uptoBulkAll ds ≤ 1048576)
def OpenSpec.upto (s : _root_.Go.ChangeSpec) : _root_.Go.OpenSpec := { _root_.Go.OpenSpec.ofChange s with cond := some uptoSmall }

/-- 'scriptoriumlaw16.SpansOnly', WHERE WHAT IT READS IS OF BULK AT MOST 1048576: true; the input reads as it did. -/
def spansOnlyUptoRow : OpenClaim := { program := "ytcnlidaacgcdhaa", sum := "3be9d8f7fd47d02e5c552605ea64ce526fc9ffa3af7a1ca767ec2e0733c2aa3f", func := "scriptorium/scriptoriumlaw16.SpansOnly", spec := "spansOnly", unfollowed := true, recurses := true, apart := false, narrowed := true }
def SpansOnlyUptoSaid : Prop := spansOnlyUptoRow.holds Try.pinned (OpenSpec.upto spansOnlySpec)

/-- 'scriptoriumlaw16.SpansParts', WHERE WHAT IT READS IS OF BULK AT MOST 1048576: true; the input reads as it did. -/
def spansPartsUptoRow : OpenClaim := { program := "ytcnlidaacgcdhaa", sum := "3be9d8f7fd47d02e5c552605ea64ce526fc9ffa3af7a1ca767ec2e0733c2aa3f", func := "scriptorium/scriptoriumlaw16.SpansParts", spec := "spansParts", unfollowed := true, recurses := true, apart := false, narrowed := true }
def SpansPartsUptoSaid : Prop := spansPartsUptoRow.holds Try.pinned (OpenSpec.upto spansPartsSpec)

/-- 'scriptoriumlaw16.SpansMeet', WHERE WHAT IT READS IS OF BULK AT MOST 1048576: true; the input reads as it did. -/
def spansMeetUptoRow : OpenClaim := { program := "ytcnlidaacgcdhaa", sum := "3be9d8f7fd47d02e5c552605ea64ce526fc9ffa3af7a1ca767ec2e0733c2aa3f", func := "scriptorium/scriptoriumlaw16.SpansMeet", spec := "spansMeet", unfollowed := true, recurses := true, apart := false, narrowed := true }
def SpansMeetUptoSaid : Prop := spansMeetUptoRow.holds Try.pinned (OpenSpec.upto spansMeetSpec)

/-- 'scriptoriumlaw16.SpansKeys', WHERE WHAT IT READS IS OF BULK AT MOST 1048576: true; the input reads as it did. -/
def spansKeysUptoRow : OpenClaim := { program := "ytcnlidaacgcdhaa", sum := "3be9d8f7fd47d02e5c552605ea64ce526fc9ffa3af7a1ca767ec2e0733c2aa3f", func := "scriptorium/scriptoriumlaw16.SpansKeys", spec := "spansKeys", unfollowed := true, recurses := true, apart := false, narrowed := true }
def SpansKeysUptoSaid : Prop := spansKeysUptoRow.holds Try.pinned (OpenSpec.upto spansKeysSpec)

/-- 'scriptoriumlaw16.SpansKnown', WHERE WHAT IT READS IS OF BULK AT MOST 1048576: true; the input reads as it did. -/
def spansKnownUptoRow : OpenClaim := { program := "ytcnlidaacgcdhaa", sum := "3be9d8f7fd47d02e5c552605ea64ce526fc9ffa3af7a1ca767ec2e0733c2aa3f", func := "scriptorium/scriptoriumlaw16.SpansKnown", spec := "spansKnown", inPlace := ["internal/abi.NoEscape", "internal/bytealg.MakeNoZero"], unfollowed := true, recurses := true, apart := false, narrowed := true }
def SpansKnownUptoSaid : Prop := spansKnownUptoRow.holds Try.pinned (OpenSpec.upto spansKnownSpec)

end Rows
end Go.Proofs.Ytcnlidaacgcdhaa

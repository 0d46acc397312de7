/-
  NARROWER THAN 'FOR EVERY INPUT', by the rows' own cells (each row's printed sentence says how): ShardStays: laid · ShardNever: laid · ShardTwice: laid · ShardApart: laid · ShardLow: laid · ShardSwept: laid.
  DERIVED. THE GIVEN ROWS OF THIS SEAT. 6 by the template 'for every input the law returns true; each argument reads behind the call as it read before'; 0 by the template 'total and deterministic' (their statements: YtagbmfdheppmoaaGreatDoorTotals.lean).
  GIVEN WITH THE SEED: the statements are not yours to turn. If you find one false, say at which input.
  Laid BY PROGRAM, IN A SANDBOX (cutbox-rows.mjs): the forced cells as the released guide's own fill.sh prints them over the translation 730e78441d3a6d42… (all of the seat's roots in one cut). By AI agents, Wed Nov 11 2026. No macro, syntax, notation, axiom, sorry.
-/
import Derived.Test.YtagbmfdheppmoaaGreatDoorChecked
import GoSem.PinnedTables
import GoSem.Claim
import GoSem.ClaimJoined
import GoSem.ClaimMapViews
import Derived.JoinedTies
import Derived.KernelRfl
namespace Go.Proofs.YtagbmfdheppmoaaGreatDoor
/- THE CELL 'sum', in the pinned program and in every row, IS THE sha256 OF THE DUMP (.gsa) THAT YtagbmfdheppmoaaGreatDoorProg.lean LOADS. Nothing in Lean hashes anything: it is a label: what it is worth is what the hold of that sum in a sandbox is worth. -/
noncomputable def Tryz.pinned : Pinned := { name := "ytagbmfdheppmoaagreatdoor", sum := "730e78441d3a6d42c7b1562741355a1f6fbdf9614df7cc3af20b0f45d8d0d7f6", checked := Tryz.checked }
namespace Rows
def none {H : Type} : Left H := { results := [], args := [] }

/- WHAT THE LISTED PACKAGE-LEVEL VARIABLES READ AS WHEN THE CALL BEGINS. Each datum BY PROGRAM (the guide's laid-datum.mjs) off the statement by which the dump's own 'gosem.cut.vars' lays the variable. In a bare row this is a premise. The card (YtagbmfdheppmoaaGreatDoorCards.lean) ties it to the program's text. -/
def laid_unicode_utf8_acceptRanges {H : Type} : DataW H := .agg [.agg [.lit (.int .u8 128), .lit (.int .u8 191)], .agg [.lit (.int .u8 160), .lit (.int .u8 191)], .agg [.lit (.int .u8 128), .lit (.int .u8 159)], .agg [.lit (.int .u8 144), .lit (.int .u8 191)], .agg [.lit (.int .u8 128), .lit (.int .u8 143)], .agg [.lit (.int .u8 0), .lit (.int .u8 0)], .agg [.lit (.int .u8 0), .lit (.int .u8 0)], .agg [.lit (.int .u8 0), .lit (.int .u8 0)], .agg [.lit (.int .u8 0), .lit (.int .u8 0)], .agg [.lit (.int .u8 0), .lit (.int .u8 0)], .agg [.lit (.int .u8 0), .lit (.int .u8 0)], .agg [.lit (.int .u8 0), .lit (.int .u8 0)], .agg [.lit (.int .u8 0), .lit (.int .u8 0)], .agg [.lit (.int .u8 0), .lit (.int .u8 0)], .agg [.lit (.int .u8 0), .lit (.int .u8 0)], .agg [.lit (.int .u8 0), .lit (.int .u8 0)]]
/-- One of Go's own tables, pinned by name: the form's constant. -/
def laid_unicode_utf8_first : DataW Unit := Go.Pinned.utf8First

/-- 'scriptoriumlaw23.ShardStays': WHATEVER THE INPUT: true; the input reads as it did. -/
def shardStaysSpec : ChangeSpec := { name := "shardStays", fn := fun _ => fun
  | [d] => { results := [.lit (.bool true)], args := [d] }
  | _ => none }
def shardStaysRow : OpenClaim := { program := "ytagbmfdheppmoaagreatdoor", sum := "730e78441d3a6d42c7b1562741355a1f6fbdf9614df7cc3af20b0f45d8d0d7f6", func := "scriptorium/scriptoriumlaw23.ShardStays", spec := "shardStays", inPlace := ["internal/bytealg.CountString", "internal/bytealg.IndexByteString", "internal/bytealg.IndexString", "internal/abi.NoEscape", "internal/bytealg.MakeNoZero"], unfollowed := true, recurses := true, named := ["internal/bytealg.MaxLen", "unicode/utf8.first", "unicode/utf8.acceptRanges"], apart := false, laid := [("unicode/utf8.acceptRanges", laid_unicode_utf8_acceptRanges), ("unicode/utf8.first", laid_unicode_utf8_first)] }
def ShardStaysSaid : Prop := shardStaysRow.holds Tryz.pinned (OpenSpec.ofChange shardStaysSpec)

/-- ITS FALSE NEIGHBOUR: 'it returns false'. Refute it at one input. -/
def shardStaysWrong : ChangeSpec := { name := "shardStays", fn := fun _ => fun
  | [d] => { results := [.lit (.bool false)], args := [d] }
  | _ => none }
def ShardStaysWrongFalsely : Prop := shardStaysRow.holds Tryz.pinned (OpenSpec.ofChange shardStaysWrong)

/-- 'scriptoriumlaw23.ShardNever': WHATEVER THE INPUT: true; the input reads as it did. -/
def shardNeverSpec : ChangeSpec := { name := "shardNever", fn := fun _ => fun
  | [d] => { results := [.lit (.bool true)], args := [d] }
  | _ => none }
def shardNeverRow : OpenClaim := { program := "ytagbmfdheppmoaagreatdoor", sum := "730e78441d3a6d42c7b1562741355a1f6fbdf9614df7cc3af20b0f45d8d0d7f6", func := "scriptorium/scriptoriumlaw23.ShardNever", spec := "shardNever", inPlace := ["internal/bytealg.CountString", "internal/bytealg.IndexByteString", "internal/bytealg.IndexString", "internal/abi.NoEscape", "internal/bytealg.MakeNoZero"], unfollowed := true, recurses := true, named := ["internal/bytealg.MaxLen", "unicode/utf8.first", "unicode/utf8.acceptRanges"], apart := false, laid := [("unicode/utf8.acceptRanges", laid_unicode_utf8_acceptRanges), ("unicode/utf8.first", laid_unicode_utf8_first)] }
def ShardNeverSaid : Prop := shardNeverRow.holds Tryz.pinned (OpenSpec.ofChange shardNeverSpec)

/-- ITS FALSE NEIGHBOUR: 'it returns false'. Refute it at one input. -/
def shardNeverWrong : ChangeSpec := { name := "shardNever", fn := fun _ => fun
  | [d] => { results := [.lit (.bool false)], args := [d] }
  | _ => none }
def ShardNeverWrongFalsely : Prop := shardNeverRow.holds Tryz.pinned (OpenSpec.ofChange shardNeverWrong)

/-- 'scriptoriumlaw23.ShardTwice': WHATEVER THE INPUT: true; the input reads as it did. -/
def shardTwiceSpec : ChangeSpec := { name := "shardTwice", fn := fun _ => fun
  | [d] => { results := [.lit (.bool true)], args := [d] }
  | _ => none }
def shardTwiceRow : OpenClaim := { program := "ytagbmfdheppmoaagreatdoor", sum := "730e78441d3a6d42c7b1562741355a1f6fbdf9614df7cc3af20b0f45d8d0d7f6", func := "scriptorium/scriptoriumlaw23.ShardTwice", spec := "shardTwice", inPlace := ["internal/bytealg.CountString", "internal/bytealg.IndexByteString", "internal/bytealg.IndexString", "internal/abi.NoEscape", "internal/bytealg.MakeNoZero"], unfollowed := true, recurses := true, named := ["internal/bytealg.MaxLen", "unicode/utf8.first", "unicode/utf8.acceptRanges"], apart := false, laid := [("unicode/utf8.acceptRanges", laid_unicode_utf8_acceptRanges), ("unicode/utf8.first", laid_unicode_utf8_first)] }
def ShardTwiceSaid : Prop := shardTwiceRow.holds Tryz.pinned (OpenSpec.ofChange shardTwiceSpec)

/-- ITS FALSE NEIGHBOUR: 'it returns false'. Refute it at one input. -/
def shardTwiceWrong : ChangeSpec := { name := "shardTwice", fn := fun _ => fun
  | [d] => { results := [.lit (.bool false)], args := [d] }
  | _ => none }
def ShardTwiceWrongFalsely : Prop := shardTwiceRow.holds Tryz.pinned (OpenSpec.ofChange shardTwiceWrong)

/-- 'scriptoriumlaw23.ShardApart': WHATEVER THE INPUT: true; the input reads as it did. -/
def shardApartSpec : ChangeSpec := { name := "shardApart", fn := fun _ => fun
  | [d1, d2] => { results := [.lit (.bool true)], args := [d1, d2] }
  | _ => none }
def shardApartRow : OpenClaim := { program := "ytagbmfdheppmoaagreatdoor", sum := "730e78441d3a6d42c7b1562741355a1f6fbdf9614df7cc3af20b0f45d8d0d7f6", func := "scriptorium/scriptoriumlaw23.ShardApart", spec := "shardApart", inPlace := ["internal/bytealg.CountString", "internal/bytealg.IndexByteString", "internal/bytealg.IndexString", "internal/abi.NoEscape", "internal/bytealg.MakeNoZero"], unfollowed := true, recurses := true, named := ["internal/bytealg.MaxLen", "unicode/utf8.first", "unicode/utf8.acceptRanges"], apart := false, laid := [("unicode/utf8.acceptRanges", laid_unicode_utf8_acceptRanges), ("unicode/utf8.first", laid_unicode_utf8_first)] }
def ShardApartSaid : Prop := shardApartRow.holds Tryz.pinned (OpenSpec.ofChange shardApartSpec)

/-- ITS FALSE NEIGHBOUR: 'it returns false'. Refute it at one input. -/
def shardApartWrong : ChangeSpec := { name := "shardApart", fn := fun _ => fun
  | [d1, d2] => { results := [.lit (.bool false)], args := [d1, d2] }
  | _ => none }
def ShardApartWrongFalsely : Prop := shardApartRow.holds Tryz.pinned (OpenSpec.ofChange shardApartWrong)

/-- 'scriptoriumlaw23.ShardLow': WHATEVER THE INPUT: true; the input reads as it did. -/
def shardLowSpec : ChangeSpec := { name := "shardLow", fn := fun _ => fun
  | [d1, d2, d3] => { results := [.lit (.bool true)], args := [d1, d2, d3] }
  | _ => none }
def shardLowRow : OpenClaim := { program := "ytagbmfdheppmoaagreatdoor", sum := "730e78441d3a6d42c7b1562741355a1f6fbdf9614df7cc3af20b0f45d8d0d7f6", func := "scriptorium/scriptoriumlaw23.ShardLow", spec := "shardLow", inPlace := ["internal/bytealg.CountString", "internal/bytealg.IndexByteString", "internal/bytealg.IndexString", "internal/abi.NoEscape", "internal/bytealg.MakeNoZero"], unfollowed := true, recurses := true, named := ["internal/bytealg.MaxLen", "unicode/utf8.first", "unicode/utf8.acceptRanges"], apart := false, laid := [("unicode/utf8.acceptRanges", laid_unicode_utf8_acceptRanges), ("unicode/utf8.first", laid_unicode_utf8_first)] }
def ShardLowSaid : Prop := shardLowRow.holds Tryz.pinned (OpenSpec.ofChange shardLowSpec)

/-- ITS FALSE NEIGHBOUR: 'it returns false'. Refute it at one input. -/
def shardLowWrong : ChangeSpec := { name := "shardLow", fn := fun _ => fun
  | [d1, d2, d3] => { results := [.lit (.bool false)], args := [d1, d2, d3] }
  | _ => none }
def ShardLowWrongFalsely : Prop := shardLowRow.holds Tryz.pinned (OpenSpec.ofChange shardLowWrong)

/-- 'scriptoriumlaw23.ShardSwept': WHATEVER THE INPUT: true; the input reads as it did. -/
def shardSweptSpec : ChangeSpec := { name := "shardSwept", fn := fun _ => fun
  | [d1, d2, d3] => { results := [.lit (.bool true)], args := [d1, d2, d3] }
  | _ => none }
def shardSweptRow : OpenClaim := { program := "ytagbmfdheppmoaagreatdoor", sum := "730e78441d3a6d42c7b1562741355a1f6fbdf9614df7cc3af20b0f45d8d0d7f6", func := "scriptorium/scriptoriumlaw23.ShardSwept", spec := "shardSwept", inPlace := ["internal/bytealg.CountString", "internal/bytealg.IndexByteString", "internal/bytealg.IndexString", "internal/abi.NoEscape", "internal/bytealg.MakeNoZero"], unfollowed := true, recurses := true, named := ["internal/bytealg.MaxLen", "unicode/utf8.first", "unicode/utf8.acceptRanges"], apart := false, laid := [("unicode/utf8.acceptRanges", laid_unicode_utf8_acceptRanges), ("unicode/utf8.first", laid_unicode_utf8_first)] }
def ShardSweptSaid : Prop := shardSweptRow.holds Tryz.pinned (OpenSpec.ofChange shardSweptSpec)

/-- ITS FALSE NEIGHBOUR: 'it returns false'. Refute it at one input. -/
def shardSweptWrong : ChangeSpec := { name := "shardSwept", fn := fun _ => fun
  | [d1, d2, d3] => { results := [.lit (.bool false)], args := [d1, d2, d3] }
  | _ => none }
def ShardSweptWrongFalsely : Prop := shardSweptRow.holds Tryz.pinned (OpenSpec.ofChange shardSweptWrong)

/- THE SECOND FORM. 'bulk': how many values and letters a reading holds, each counted each time it is reached (what is shared counts as often as it is met; a slice's spare places count too). A statement '..UptoSaid' is the law's where the arguments, and the package variables that the reading takes, are together of bulk at most 1048576: NARROWER than '..Said'. Prove '..Said' where nothing that the law and all that it calls make is longer than what came in: it says more and counts as full. Else prove '..UptoSaid'. A law counts once. -/
mutual
def uptoBulk {H : Type} : DataW H → Nat
  | .lit (.string bytes) => bytes.length + 1
  | .lit _ => 1
  | .nil => 1
  | .ptr d => uptoBulk d + 1
  | .slice elems spare => uptoBulkAll elems + uptoBulkAll spare + 1
  | .agg parts => uptoBulkAll parts + 1
  | .iface _ d => uptoBulk d + 1
  | .map entries => uptoBulkEntries entries + 1
  | .held _ => 1
def uptoBulkAll {H : Type} : List (DataW H) → Nat
  | [] => 0
  | d :: r => uptoBulk d + uptoBulkAll r
def uptoBulkEntries {H : Type} : List (Lit × DataW H) → Nat
  | [] => 0
  | x :: r => uptoBulkEntry x + uptoBulkEntries r
def uptoBulkEntry {H : Type} : Lit × DataW H → Nat
  | (.string bytes, d) => bytes.length + uptoBulk d + 1
  | (_, d) => uptoBulk d + 1
 end
def uptoSmall : (H : Type) → List (DataW H) → Bool := fun _ ds => decide (uptoBulkAll ds ≤ 1048576)
def OpenSpec.upto (s : _root_.Go.ChangeSpec) : _root_.Go.OpenSpec := { _root_.Go.OpenSpec.ofChange s with cond := some uptoSmall }

/-- 'scriptoriumlaw23.ShardStays', WHERE WHAT IT READS IS OF BULK AT MOST 1048576: true; the input reads as it did. -/
def shardStaysUptoRow : OpenClaim := { program := "ytagbmfdheppmoaagreatdoor", sum := "730e78441d3a6d42c7b1562741355a1f6fbdf9614df7cc3af20b0f45d8d0d7f6", func := "scriptorium/scriptoriumlaw23.ShardStays", spec := "shardStays", inPlace := ["internal/bytealg.CountString", "internal/bytealg.IndexByteString", "internal/bytealg.IndexString", "internal/abi.NoEscape", "internal/bytealg.MakeNoZero"], unfollowed := true, recurses := true, named := ["internal/bytealg.MaxLen", "unicode/utf8.first", "unicode/utf8.acceptRanges"], apart := false, laid := [("unicode/utf8.acceptRanges", laid_unicode_utf8_acceptRanges), ("unicode/utf8.first", laid_unicode_utf8_first)], narrowed := true }
def ShardStaysUptoSaid : Prop := shardStaysUptoRow.holds Tryz.pinned (OpenSpec.upto shardStaysSpec)

/-- 'scriptoriumlaw23.ShardNever', WHERE WHAT IT READS IS OF BULK AT MOST 1048576: true; the input reads as it did. -/
def shardNeverUptoRow : OpenClaim := { program := "ytagbmfdheppmoaagreatdoor", sum := "730e78441d3a6d42c7b1562741355a1f6fbdf9614df7cc3af20b0f45d8d0d7f6", func := "scriptorium/scriptoriumlaw23.ShardNever", spec := "shardNever", inPlace := ["internal/bytealg.CountString", "internal/bytealg.IndexByteString", "internal/bytealg.IndexString", "internal/abi.NoEscape", "internal/bytealg.MakeNoZero"], unfollowed := true, recurses := true, named := ["internal/bytealg.MaxLen", "unicode/utf8.first", "unicode/utf8.acceptRanges"], apart := false, laid := [("unicode/utf8.acceptRanges", laid_unicode_utf8_acceptRanges), ("unicode/utf8.first", laid_unicode_utf8_first)], narrowed := true }
def ShardNeverUptoSaid : Prop := shardNeverUptoRow.holds Tryz.pinned (OpenSpec.upto shardNeverSpec)

/-- 'scriptoriumlaw23.ShardTwice', WHERE WHAT IT READS IS OF BULK AT MOST 1048576: true; the input reads as it did. -/
def shardTwiceUptoRow : OpenClaim := { program := "ytagbmfdheppmoaagreatdoor", sum := "730e78441d3a6d42c7b1562741355a1f6fbdf9614df7cc3af20b0f45d8d0d7f6", func := "scriptorium/scriptoriumlaw23.ShardTwice", spec := "shardTwice", inPlace := ["internal/bytealg.CountString", "internal/bytealg.IndexByteString", "internal/bytealg.IndexString", "internal/abi.NoEscape", "internal/bytealg.MakeNoZero"], unfollowed := true, recurses := true, named := ["internal/bytealg.MaxLen", "unicode/utf8.first", "unicode/utf8.acceptRanges"], apart := false, laid := [("unicode/utf8.acceptRanges", laid_unicode_utf8_acceptRanges), ("unicode/utf8.first", laid_unicode_utf8_first)], narrowed := true }
def ShardTwiceUptoSaid : Prop := shardTwiceUptoRow.holds Tryz.pinned (OpenSpec.upto shardTwiceSpec)

/-- 'scriptoriumlaw23.ShardApart', WHERE WHAT IT READS IS OF BULK AT MOST 1048576: true; the input reads as it did. -/
def shardApartUptoRow : OpenClaim := { program := "ytagbmfdheppmoaagreatdoor", sum := "730e78441d3a6d42c7b1562741355a1f6fbdf9614df7cc3af20b0f45d8d0d7f6", func := "scriptorium/scriptoriumlaw23.ShardApart", spec := "shardApart", inPlace := ["internal/bytealg.CountString", "internal/bytealg.IndexByteString", "internal/bytealg.IndexString", "internal/abi.NoEscape", "internal/bytealg.MakeNoZero"], unfollowed := true, recurses := true, named := ["internal/bytealg.MaxLen", "unicode/utf8.first", "unicode/utf8.acceptRanges"], apart := false, laid := [("unicode/utf8.acceptRanges", laid_unicode_utf8_acceptRanges), ("unicode/utf8.first", laid_unicode_utf8_first)], narrowed := true }
def ShardApartUptoSaid : Prop := shardApartUptoRow.holds Tryz.pinned (OpenSpec.upto shardApartSpec)

/-- 'scriptoriumlaw23.ShardLow', WHERE WHAT IT READS IS OF BULK AT MOST 1048576: true; the input reads as it did. -/
def shardLowUptoRow : OpenClaim := { program := "ytagbmfdheppmoaagreatdoor", sum := "730e78441d3a6d42c7b1562741355a1f6fbdf9614df7cc3af20b0f45d8d0d7f6", func := "scriptorium/scriptoriumlaw23.ShardLow", spec := "shardLow", inPlace := ["internal/bytealg.CountString", "internal/bytealg.IndexByteString", "internal/bytealg.IndexString", "internal/abi.NoEscape", "internal/bytealg.MakeNoZero"], unfollowed := true, recurses := true, named := ["internal/bytealg.MaxLen", "unicode/utf8.first", "unicode/utf8.acceptRanges"], apart := false, laid := [("unicode/utf8.acceptRanges", laid_unicode_utf8_acceptRanges), ("unicode/utf8.first", laid_unicode_utf8_first)], narrowed := true }
def ShardLowUptoSaid : Prop := shardLowUptoRow.holds Tryz.pinned (OpenSpec.upto shardLowSpec)

/-- 'scriptoriumlaw23.ShardSwept', WHERE WHAT IT READS IS OF BULK AT MOST 1048576: true; the input reads as it did. -/
def shardSweptUptoRow : OpenClaim := { program := "ytagbmfdheppmoaagreatdoor", sum := "730e78441d3a6d42c7b1562741355a1f6fbdf9614df7cc3af20b0f45d8d0d7f6", func := "scriptorium/scriptoriumlaw23.ShardSwept", spec := "shardSwept", inPlace := ["internal/bytealg.CountString", "internal/bytealg.IndexByteString", "internal/bytealg.IndexString", "internal/abi.NoEscape", "internal/bytealg.MakeNoZero"], unfollowed := true, recurses := true, named := ["internal/bytealg.MaxLen", "unicode/utf8.first", "unicode/utf8.acceptRanges"], apart := false, laid := [("unicode/utf8.acceptRanges", laid_unicode_utf8_acceptRanges), ("unicode/utf8.first", laid_unicode_utf8_first)], narrowed := true }
def ShardSweptUptoSaid : Prop := shardSweptUptoRow.holds Tryz.pinned (OpenSpec.upto shardSweptSpec)

end Rows
end Go.Proofs.YtagbmfdheppmoaaGreatDoor

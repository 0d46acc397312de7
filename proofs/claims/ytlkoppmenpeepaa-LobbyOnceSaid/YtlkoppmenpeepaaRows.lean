/-
  No cell of these rows narrows 'for every input' (looked for: loops, veiled, ifaces, maps, wideKeys, modest, calm, conditions, laid).
  DERIVED. THE GIVEN ROWS OF THIS SEAT. 5 by the template 'for every input the law returns true; each argument reads behind the call as it read before'; 0 by the template 'total and deterministic' (their statements: YtlkoppmenpeepaaTotals.lean).
  GIVEN WITH THE SEED: the statements are not yours to turn. If you find one false, say at which input.
  Laid BY PROGRAM, IN A SANDBOX (cutbox-rows.mjs): the forced cells as the released guide's own fill.sh prints them over the translation 1dd74511c1065b1a… (all of the seat's roots in one cut). By AI agents, Wed Nov 11 2026. No macro, syntax, notation, axiom, sorry.
-/
import Derived.Test.YtlkoppmenpeepaaChecked
import GoSem.Claim
import GoSem.ClaimJoined
import GoSem.ClaimMapViews
import Derived.JoinedTies
import Derived.KernelRfl
namespace Go.Proofs.Ytlkoppmenpeepaa
/- THE CELL 'sum', in the pinned program and in every row, IS THE sha256 OF THE DUMP (.gsa) THAT YtlkoppmenpeepaaProg.lean LOADS. Nothing in Lean hashes anything: it is a label: what it is worth is what the hold of that sum in a sandbox is worth. -/
noncomputable def Try.pinned : Pinned := { name := "ytlkoppmenpeepaa", sum := "1dd74511c1065b1a21b924e38f8926aa56c070e98a8b43ec94dedee3ff18383e", checked := Try.checked }
namespace Rows
def none {H : Type} : Left H := { results := [], args := [] }

/-- 'scriptoriumlaw18.LobbyDoes': WHATEVER THE INPUT: true; the input reads as it did. -/
def lobbyDoesSpec : ChangeSpec := { name := "lobbyDoes", fn := fun _ => fun
  | [d] => { results := [.lit (.bool true)], args := [d] }
  | _ => none }
def lobbyDoesRow : OpenClaim := { program := "ytlkoppmenpeepaa", sum := "1dd74511c1065b1a21b924e38f8926aa56c070e98a8b43ec94dedee3ff18383e", func := "scriptorium/scriptoriumlaw18.LobbyDoes", spec := "lobbyDoes", unfollowed := true, recurses := true, plainKeys := false, apart := false }
def LobbyDoesSaid : Prop := lobbyDoesRow.holds Try.pinned (OpenSpec.ofChange lobbyDoesSpec)

/-- ITS FALSE NEIGHBOUR: 'it returns false'. Refute it at one input. -/
def lobbyDoesWrong : ChangeSpec := { name := "lobbyDoes", fn := fun _ => fun
  | [d] => { results := [.lit (.bool false)], args := [d] }
  | _ => none }
def LobbyDoesWrongFalsely : Prop := lobbyDoesRow.holds Try.pinned (OpenSpec.ofChange lobbyDoesWrong)

/-- 'scriptoriumlaw18.LobbyOnce': WHATEVER THE INPUT: true; the input reads as it did. -/
def lobbyOnceSpec : ChangeSpec := { name := "lobbyOnce", fn := fun _ => fun
  | [d] => { results := [.lit (.bool true)], args := [d] }
  | _ => none }
def lobbyOnceRow : OpenClaim := { program := "ytlkoppmenpeepaa", sum := "1dd74511c1065b1a21b924e38f8926aa56c070e98a8b43ec94dedee3ff18383e", func := "scriptorium/scriptoriumlaw18.LobbyOnce", spec := "lobbyOnce", unfollowed := true, recurses := true, plainKeys := false, apart := false }
def LobbyOnceSaid : Prop := lobbyOnceRow.holds Try.pinned (OpenSpec.ofChange lobbyOnceSpec)

/-- ITS FALSE NEIGHBOUR: 'it returns false'. Refute it at one input. -/
def lobbyOnceWrong : ChangeSpec := { name := "lobbyOnce", fn := fun _ => fun
  | [d] => { results := [.lit (.bool false)], args := [d] }
  | _ => none }
def LobbyOnceWrongFalsely : Prop := lobbyOnceRow.holds Try.pinned (OpenSpec.ofChange lobbyOnceWrong)

/-- 'scriptoriumlaw18.LobbyOrder': WHATEVER THE INPUT: true; the input reads as it did. -/
def lobbyOrderSpec : ChangeSpec := { name := "lobbyOrder", fn := fun _ => fun
  | [d1, d2] => { results := [.lit (.bool true)], args := [d1, d2] }
  | _ => none }
def lobbyOrderRow : OpenClaim := { program := "ytlkoppmenpeepaa", sum := "1dd74511c1065b1a21b924e38f8926aa56c070e98a8b43ec94dedee3ff18383e", func := "scriptorium/scriptoriumlaw18.LobbyOrder", spec := "lobbyOrder", unfollowed := true, recurses := true, plainKeys := false, apart := false }
def LobbyOrderSaid : Prop := lobbyOrderRow.holds Try.pinned (OpenSpec.ofChange lobbyOrderSpec)

/-- ITS FALSE NEIGHBOUR: 'it returns false'. Refute it at one input. -/
def lobbyOrderWrong : ChangeSpec := { name := "lobbyOrder", fn := fun _ => fun
  | [d1, d2] => { results := [.lit (.bool false)], args := [d1, d2] }
  | _ => none }
def LobbyOrderWrongFalsely : Prop := lobbyOrderRow.holds Try.pinned (OpenSpec.ofChange lobbyOrderWrong)

/-- 'scriptoriumlaw18.LobbyEdges': WHATEVER THE INPUT: true; the input reads as it did. -/
def lobbyEdgesSpec : ChangeSpec := { name := "lobbyEdges", fn := fun _ => fun
  | [d1, d2] => { results := [.lit (.bool true)], args := [d1, d2] }
  | _ => none }
def lobbyEdgesRow : OpenClaim := { program := "ytlkoppmenpeepaa", sum := "1dd74511c1065b1a21b924e38f8926aa56c070e98a8b43ec94dedee3ff18383e", func := "scriptorium/scriptoriumlaw18.LobbyEdges", spec := "lobbyEdges", unfollowed := true, recurses := true, plainKeys := false, apart := false }
def LobbyEdgesSaid : Prop := lobbyEdgesRow.holds Try.pinned (OpenSpec.ofChange lobbyEdgesSpec)

/-- ITS FALSE NEIGHBOUR: 'it returns false'. Refute it at one input. -/
def lobbyEdgesWrong : ChangeSpec := { name := "lobbyEdges", fn := fun _ => fun
  | [d1, d2] => { results := [.lit (.bool false)], args := [d1, d2] }
  | _ => none }
def LobbyEdgesWrongFalsely : Prop := lobbyEdgesRow.holds Try.pinned (OpenSpec.ofChange lobbyEdgesWrong)

/-- 'scriptoriumlaw18.LobbyKnown': WHATEVER THE INPUT: true; the input reads as it did. -/
def lobbyKnownSpec : ChangeSpec := { name := "lobbyKnown", fn := fun _ => fun
  | [] => { results := [.lit (.bool true)], args := [] }
  | _ => none }
def lobbyKnownRow : OpenClaim := { program := "ytlkoppmenpeepaa", sum := "1dd74511c1065b1a21b924e38f8926aa56c070e98a8b43ec94dedee3ff18383e", func := "scriptorium/scriptoriumlaw18.LobbyKnown", spec := "lobbyKnown", unfollowed := true, recurses := true, plainKeys := false, apart := false }
def LobbyKnownSaid : Prop := lobbyKnownRow.holds Try.pinned (OpenSpec.ofChange lobbyKnownSpec)

/-- ITS FALSE NEIGHBOUR: 'it returns false'. Refute it at one input. -/
def lobbyKnownWrong : ChangeSpec := { name := "lobbyKnown", fn := fun _ => fun
  | [] => { results := [.lit (.bool false)], args := [] }
  | _ => none }
def LobbyKnownWrongFalsely : Prop := lobbyKnownRow.holds Try.pinned (OpenSpec.ofChange lobbyKnownWrong)

/- THE SECOND FORM. 'bulk': how many values and letters a reading holds, each counted each time it is reached (what is shared counts as often as it is met; a slice's spare places count too). A statement '..UptoSaid' is the law's where the arguments, and the package variables that the reading takes, are together of bulk at most 1048576: NARROWER than '..Said'. Prove '..Said' where nothing that the law and all that it calls make is longer than what came in: it says more and counts as full. Else prove '..UptoSaid'. A law counts once. -/
mutual
def uptoBulk {H : Type} : DataW H → Nat
  | .lit (.string bytes) => bytes.length + 1
  | .lit _ => 1
  | .nil => 1
  | .ptr d => uptoBulk d + 1
  | .slice elems spare => uptoBulkAll elems + uptoBulkAll spare + 1
  | .agg parts => uptoBulkAll parts + 1
  | .iface _ d => uptoBulk d + 1
  | .map entries => uptoBulkEntries entries + 1
  | .held _ => 1
def uptoBulkAll {H : Type} : List (DataW H) → Nat
  | [] => 0
  | d :: r => uptoBulk d + uptoBulkAll r
def uptoBulkEntries {H : Type} : List (Lit × DataW H) → Nat
  | [] => 0
  | x :: r => uptoBulkEntry x + uptoBulkEntries r
def uptoBulkEntry {H : Type} : Lit × DataW H → Nat
  | (.string bytes, d) => bytes.length + uptoBulk d + 1
  | (_, d) => uptoBulk d + 1
 end
def uptoSmall : (H : Type) → List (DataW H) → Bool := fun _ ds => decide (uptoBulkAll ds ≤ 1048576)
def OpenSpec.upto (s : _root_.Go.ChangeSpec) : _root_.Go.OpenSpec := { _root_.Go.OpenSpec.ofChange s with cond := some uptoSmall }

/-- 'scriptoriumlaw18.LobbyDoes', WHERE WHAT IT READS IS OF BULK AT MOST 1048576: true; the input reads as it did. -/
def lobbyDoesUptoRow : OpenClaim := { program := "ytlkoppmenpeepaa", sum := "1dd74511c1065b1a21b924e38f8926aa56c070e98a8b43ec94dedee3ff18383e", func := "scriptorium/scriptoriumlaw18.LobbyDoes", spec := "lobbyDoes", unfollowed := true, recurses := true, plainKeys := false, apart := false, narrowed := true }
def LobbyDoesUptoSaid : Prop := lobbyDoesUptoRow.holds Try.pinned (OpenSpec.upto lobbyDoesSpec)

/-- 'scriptoriumlaw18.LobbyOnce', WHERE WHAT IT READS IS OF BULK AT MOST 1048576: true; the input reads as it did. -/
def lobbyOnceUptoRow : OpenClaim := { program := "ytlkoppmenpeepaa", sum := "1dd74511c1065b1a21b924e38f8926aa56c070e98a8b43ec94dedee3ff18383e", func := "scriptorium/scriptoriumlaw18.LobbyOnce", spec := "lobbyOnce", unfollowed := true, recurses := true, plainKeys := false, apart := false, narrowed := true }
def LobbyOnceUptoSaid : Prop := lobbyOnceUptoRow.holds Try.pinned (OpenSpec.upto lobbyOnceSpec)

/-- 'scriptoriumlaw18.LobbyOrder', WHERE WHAT IT READS IS OF BULK AT MOST 1048576: true; the input reads as it did. -/
def lobbyOrderUptoRow : OpenClaim := { program := "ytlkoppmenpeepaa", sum := "1dd74511c1065b1a21b924e38f8926aa56c070e98a8b43ec94dedee3ff18383e", func := "scriptorium/scriptoriumlaw18.LobbyOrder", spec := "lobbyOrder", unfollowed := true, recurses := true, plainKeys := false, apart := false, narrowed := true }
def LobbyOrderUptoSaid : Prop := lobbyOrderUptoRow.holds Try.pinned (OpenSpec.upto lobbyOrderSpec)

/-- 'scriptoriumlaw18.LobbyEdges', WHERE WHAT IT READS IS OF BULK AT MOST 1048576: true; the input reads as it did. -/
def lobbyEdgesUptoRow : OpenClaim := { program := "ytlkoppmenpeepaa", sum := "1dd74511c1065b1a21b924e38f8926aa56c070e98a8b43ec94dedee3ff18383e", func := "scriptorium/scriptoriumlaw18.LobbyEdges", spec := "lobbyEdges", unfollowed := true, recurses := true, plainKeys := false, apart := false, narrowed := true }
def LobbyEdgesUptoSaid : Prop := lobbyEdgesUptoRow.holds Try.pinned (OpenSpec.upto lobbyEdgesSpec)

/-- 'scriptoriumlaw18.LobbyKnown', WHERE WHAT IT READS IS OF BULK AT MOST 1048576: true; the input reads as it did. -/
def lobbyKnownUptoRow : OpenClaim := { program := "ytlkoppmenpeepaa", sum := "1dd74511c1065b1a21b924e38f8926aa56c070e98a8b43ec94dedee3ff18383e", func := "scriptorium/scriptoriumlaw18.LobbyKnown", spec := "lobbyKnown", unfollowed := true, recurses := true, plainKeys := false, apart := false, narrowed := true }
def LobbyKnownUptoSaid : Prop := lobbyKnownUptoRow.holds Try.pinned (OpenSpec.upto lobbyKnownSpec)

end Rows
end Go.Proofs.Ytlkoppmenpeepaa

/-
  DERIVED. GIVEN WITH THE SEED: THE CARDS: each row of YtidfniglnmfphaaDoorRows.lean that lists a variable, with what it lists TIED to the program's text (the seventh form; the later family's looks); each row that meets fmt, with fmt's text TOLD by the authors' own Lean function (tested against real Go, not proved from fmt's source: count such statements apart). THE CARD IS WHAT COUNTS. Prove the row's statement (the work); the ties are given (YtidfniglnmfphaaDoorTie.lean); close each card by the builder's one call (the guide's Derived/Test/ToyasCard.lean, 'card_holds'). Laid BY PROGRAM, IN A SANDBOX (cutbox-door.mjs). By AI agents, Wed Nov 11 2026. No macro, syntax, notation, axiom, sorry.
-/
import Derived.Test.YtidfniglnmfphaaDoorRows
import GoSem.ClaimSeven
namespace Go.Proofs.YtidfniglnmfphaaDoor
namespace Rows

/-- THE TIED CARD OF 'scriptoriumlaw28.WitnessOwn'. -/
def witnessOwnCard : Claim7 := { stood := { row := witnessOwnRow, standIns := [], harness := (true, "d0aa9367a70542dfc10b30b4479c12e827e3d9cabcf9fb05dfe5734388f73221"), looks := false }, kinds := [], alts := [], laidByText := true, laidKinds := [.data, .data, .data], laidTests := true, laidLooks := .later }
def WitnessOwnCardSaid : Prop := Claim7.holds Tryd.pinned (.plain (OpenSpec.ofChange witnessOwnSpec)) witnessOwnCard

/-- THE SECOND FORM's CARD OF 'scriptoriumlaw28.WitnessOwn'. -/
def witnessOwnUptoCard : Claim7 := { stood := { row := witnessOwnUptoRow, standIns := [], harness := (true, "d0aa9367a70542dfc10b30b4479c12e827e3d9cabcf9fb05dfe5734388f73221"), looks := false }, kinds := [], alts := [], laidByText := true, laidKinds := [.data, .data, .data], laidTests := true, laidLooks := .later }
def WitnessOwnUptoCardSaid : Prop := Claim7.holds Tryd.pinned (.plain (OpenSpec.upto witnessOwnSpec)) witnessOwnUptoCard
end Rows
end Go.Proofs.YtidfniglnmfphaaDoor

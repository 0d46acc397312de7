/-
  DERIVED. GIVEN WITH THE SEED: THE CARDS: each row of YtagbmfdheppmoaaGreatDoorRows.lean that lists a variable, with what it lists TIED to the program's text (the seventh form; the later family's looks); each row that meets fmt, with fmt's text TOLD by the authors' own Lean function (tested against real Go, not proved from fmt's source: count such statements apart). THE CARD IS WHAT COUNTS. Prove the row's statement (the work); the ties are given (YtagbmfdheppmoaaGreatDoorTie.lean); close each card by the builder's one call (the guide's Derived/Test/ToyasCard.lean, 'card_holds'). Laid BY PROGRAM, IN A SANDBOX (cutbox-door.mjs). By AI agents, Wed Nov 11 2026. No macro, syntax, notation, axiom, sorry.
-/
import Derived.Test.YtagbmfdheppmoaaGreatDoorRows
import GoSem.ClaimSeven
namespace Go.Proofs.YtagbmfdheppmoaaGreatDoor
namespace Rows

/-- THE TIED CARD OF 'scriptoriumlaw23.ShardStays'. -/
def shardStaysCard : Claim7 := { stood := { row := shardStaysRow, standIns := [], harness := (true, "5ad35ed371eb2fea7f78f0685383956cc4baef4420c6ad265669e90dd38266b1"), looks := false }, kinds := [], alts := [], laidByText := true, laidKinds := [.data, .pinned], laidTests := true, laidLooks := .later }
def ShardStaysCardSaid : Prop := Claim7.holds Tryz.pinned (.plain (OpenSpec.ofChange shardStaysSpec)) shardStaysCard

/-- THE TIED CARD OF 'scriptoriumlaw23.ShardNever'. -/
def shardNeverCard : Claim7 := { stood := { row := shardNeverRow, standIns := [], harness := (true, "5ad35ed371eb2fea7f78f0685383956cc4baef4420c6ad265669e90dd38266b1"), looks := false }, kinds := [], alts := [], laidByText := true, laidKinds := [.data, .pinned], laidTests := true, laidLooks := .later }
def ShardNeverCardSaid : Prop := Claim7.holds Tryz.pinned (.plain (OpenSpec.ofChange shardNeverSpec)) shardNeverCard

/-- THE TIED CARD OF 'scriptoriumlaw23.ShardTwice'. -/
def shardTwiceCard : Claim7 := { stood := { row := shardTwiceRow, standIns := [], harness := (true, "5ad35ed371eb2fea7f78f0685383956cc4baef4420c6ad265669e90dd38266b1"), looks := false }, kinds := [], alts := [], laidByText := true, laidKinds := [.data, .pinned], laidTests := true, laidLooks := .later }
def ShardTwiceCardSaid : Prop := Claim7.holds Tryz.pinned (.plain (OpenSpec.ofChange shardTwiceSpec)) shardTwiceCard

/-- THE TIED CARD OF 'scriptoriumlaw23.ShardApart'. -/
def shardApartCard : Claim7 := { stood := { row := shardApartRow, standIns := [], harness := (true, "5ad35ed371eb2fea7f78f0685383956cc4baef4420c6ad265669e90dd38266b1"), looks := false }, kinds := [], alts := [], laidByText := true, laidKinds := [.data, .pinned], laidTests := true, laidLooks := .later }
def ShardApartCardSaid : Prop := Claim7.holds Tryz.pinned (.plain (OpenSpec.ofChange shardApartSpec)) shardApartCard

/-- THE TIED CARD OF 'scriptoriumlaw23.ShardLow'. -/
def shardLowCard : Claim7 := { stood := { row := shardLowRow, standIns := [], harness := (true, "5ad35ed371eb2fea7f78f0685383956cc4baef4420c6ad265669e90dd38266b1"), looks := false }, kinds := [], alts := [], laidByText := true, laidKinds := [.data, .pinned], laidTests := true, laidLooks := .later }
def ShardLowCardSaid : Prop := Claim7.holds Tryz.pinned (.plain (OpenSpec.ofChange shardLowSpec)) shardLowCard

/-- THE TIED CARD OF 'scriptoriumlaw23.ShardSwept'. -/
def shardSweptCard : Claim7 := { stood := { row := shardSweptRow, standIns := [], harness := (true, "5ad35ed371eb2fea7f78f0685383956cc4baef4420c6ad265669e90dd38266b1"), looks := false }, kinds := [], alts := [], laidByText := true, laidKinds := [.data, .pinned], laidTests := true, laidLooks := .later }
def ShardSweptCardSaid : Prop := Claim7.holds Tryz.pinned (.plain (OpenSpec.ofChange shardSweptSpec)) shardSweptCard

/-- THE SECOND FORM's CARD OF 'scriptoriumlaw23.ShardStays'. -/
def shardStaysUptoCard : Claim7 := { stood := { row := shardStaysUptoRow, standIns := [], harness := (true, "5ad35ed371eb2fea7f78f0685383956cc4baef4420c6ad265669e90dd38266b1"), looks := false }, kinds := [], alts := [], laidByText := true, laidKinds := [.data, .pinned], laidTests := true, laidLooks := .later }
def ShardStaysUptoCardSaid : Prop := Claim7.holds Tryz.pinned (.plain (OpenSpec.upto shardStaysSpec)) shardStaysUptoCard

/-- THE SECOND FORM's CARD OF 'scriptoriumlaw23.ShardNever'. -/
def shardNeverUptoCard : Claim7 := { stood := { row := shardNeverUptoRow, standIns := [], harness := (true, "5ad35ed371eb2fea7f78f0685383956cc4baef4420c6ad265669e90dd38266b1"), looks := false }, kinds := [], alts := [], laidByText := true, laidKinds := [.data, .pinned], laidTests := true, laidLooks := .later }
def ShardNeverUptoCardSaid : Prop := Claim7.holds Tryz.pinned (.plain (OpenSpec.upto shardNeverSpec)) shardNeverUptoCard

/-- THE SECOND FORM's CARD OF 'scriptoriumlaw23.ShardTwice'. -/
def shardTwiceUptoCard : Claim7 := { stood := { row := shardTwiceUptoRow, standIns := [], harness := (true, "5ad35ed371eb2fea7f78f0685383956cc4baef4420c6ad265669e90dd38266b1"), looks := false }, kinds := [], alts := [], laidByText := true, laidKinds := [.data, .pinned], laidTests := true, laidLooks := .later }
def ShardTwiceUptoCardSaid : Prop := Claim7.holds Tryz.pinned (.plain (OpenSpec.upto shardTwiceSpec)) shardTwiceUptoCard

/-- THE SECOND FORM's CARD OF 'scriptoriumlaw23.ShardApart'. -/
def shardApartUptoCard : Claim7 := { stood := { row := shardApartUptoRow, standIns := [], harness := (true, "5ad35ed371eb2fea7f78f0685383956cc4baef4420c6ad265669e90dd38266b1"), looks := false }, kinds := [], alts := [], laidByText := true, laidKinds := [.data, .pinned], laidTests := true, laidLooks := .later }
def ShardApartUptoCardSaid : Prop := Claim7.holds Tryz.pinned (.plain (OpenSpec.upto shardApartSpec)) shardApartUptoCard

/-- THE SECOND FORM's CARD OF 'scriptoriumlaw23.ShardLow'. -/
def shardLowUptoCard : Claim7 := { stood := { row := shardLowUptoRow, standIns := [], harness := (true, "5ad35ed371eb2fea7f78f0685383956cc4baef4420c6ad265669e90dd38266b1"), looks := false }, kinds := [], alts := [], laidByText := true, laidKinds := [.data, .pinned], laidTests := true, laidLooks := .later }
def ShardLowUptoCardSaid : Prop := Claim7.holds Tryz.pinned (.plain (OpenSpec.upto shardLowSpec)) shardLowUptoCard

/-- THE SECOND FORM's CARD OF 'scriptoriumlaw23.ShardSwept'. -/
def shardSweptUptoCard : Claim7 := { stood := { row := shardSweptUptoRow, standIns := [], harness := (true, "5ad35ed371eb2fea7f78f0685383956cc4baef4420c6ad265669e90dd38266b1"), looks := false }, kinds := [], alts := [], laidByText := true, laidKinds := [.data, .pinned], laidTests := true, laidLooks := .later }
def ShardSweptUptoCardSaid : Prop := Claim7.holds Tryz.pinned (.plain (OpenSpec.upto shardSweptSpec)) shardSweptUptoCard
end Rows
end Go.Proofs.YtagbmfdheppmoaaGreatDoor

/-
  DERIVED. GIVEN WITH THE SEED: THE CARDS: each row of YtokgmjefideioaaGreatDoorRows.lean that lists a variable, with what it lists TIED to the program's text (the seventh form; the later family's looks); each row that meets fmt, with fmt's text TOLD by the authors' own Lean function (tested against real Go, not proved from fmt's source: count such statements apart). THE CARD IS WHAT COUNTS. Prove the row's statement (the work); the ties are given (YtokgmjefideioaaGreatDoorTie.lean); close each card by the builder's one call (the guide's Derived/Test/ToyasCard.lean, 'card_holds'). Laid BY PROGRAM, IN A SANDBOX (cutbox-door.mjs). By AI agents, Wed Nov 11 2026. No macro, syntax, notation, axiom, sorry.
-/
import Derived.Test.YtokgmjefideioaaGreatDoorRows
import GoSem.ClaimSeven
namespace Go.Proofs.YtokgmjefideioaaGreatDoor
namespace Rows

/-- THE TIED CARD OF 'changelinglaw26.RoadPlays'. -/
def roadPlaysCard : Claim7 := { stood := { row := roadPlaysRow, standIns := [], harness := (true, "68fb76a08b1bc996998ac3cf63066473559f0d3985cd67b7c9c535f2148565e2"), looks := true }, kinds := [], alts := [], laidByText := true, laidKinds := [.data, .data, .data, .data, .sentinel, .sentinel, .pinned], laidTests := true, laidLooks := .later }
def RoadPlaysCardSaid : Prop := Claim7.holds Tryz.pinned (.plain (OpenSpec.ofChange roadPlaysSpec)) roadPlaysCard

/-- THE SECOND FORM's CARD OF 'changelinglaw26.RoadPlays'. -/
def roadPlaysUptoCard : Claim7 := { stood := { row := roadPlaysUptoRow, standIns := [], harness := (true, "68fb76a08b1bc996998ac3cf63066473559f0d3985cd67b7c9c535f2148565e2"), looks := true }, kinds := [], alts := [], laidByText := true, laidKinds := [.data, .data, .data, .data, .sentinel, .sentinel, .pinned], laidTests := true, laidLooks := .later }
def RoadPlaysUptoCardSaid : Prop := Claim7.holds Tryz.pinned (.plain (OpenSpec.upto roadPlaysSpec)) roadPlaysUptoCard
end Rows
end Go.Proofs.YtokgmjefideioaaGreatDoor

/-
  DERIVED. GIVEN WITH THE SEED: THE CARDS: each row of YtgbfdcmkbblodaaGreatDoorRows.lean that lists a variable, with what it lists TIED to the program's text (the seventh form; the later family's looks); each row that meets fmt, with fmt's text TOLD by the authors' own Lean function (tested against real Go, not proved from fmt's source: count such statements apart). THE CARD IS WHAT COUNTS. Prove the row's statement (the work); the ties are given (YtgbfdcmkbblodaaGreatDoorTie.lean); close each card by the builder's one call (the guide's Derived/Test/ToyasCard.lean, 'card_holds'). Laid BY PROGRAM, IN A SANDBOX (cutbox-door.mjs). By AI agents, Wed Nov 11 2026. No macro, syntax, notation, axiom, sorry.
-/
import Derived.Test.YtgbfdcmkbblodaaGreatDoorRows
import GoSem.ClaimSeven
namespace Go.Proofs.YtgbfdcmkbblodaaGreatDoor
namespace Rows

/-- THE TIED CARD OF 'changelinglaw23.SavePuts'. -/
def savePutsCard : Claim7 := { stood := { row := savePutsRow, standIns := [], harness := (true, "5096840f16cd24edc4c7992d6d9d9c37eba7c879c24a7443d4b4f864798eb728"), looks := true }, kinds := [], alts := [], laidByText := true, laidKinds := [.data, .data, .data, .data, .sentinel, .sentinel, .pinned], laidTests := true, laidLooks := .later }
def SavePutsCardSaid : Prop := Claim7.holds Tryz.pinned (.plain (OpenSpec.ofChange savePutsSpec)) savePutsCard

/-- THE TIED CARD OF 'changelinglaw23.SaveWrites'. -/
def saveWritesCard : Claim7 := { stood := { row := saveWritesRow, standIns := [], harness := (true, "5096840f16cd24edc4c7992d6d9d9c37eba7c879c24a7443d4b4f864798eb728"), looks := true }, kinds := [], alts := [], laidByText := true, laidKinds := [.data, .data, .data, .data, .sentinel, .sentinel, .pinned], laidTests := true, laidLooks := .later }
def SaveWritesCardSaid : Prop := Claim7.holds Tryz.pinned (.plain (OpenSpec.ofChange saveWritesSpec)) saveWritesCard

/-- THE SECOND FORM's CARD OF 'changelinglaw23.SavePuts'. -/
def savePutsUptoCard : Claim7 := { stood := { row := savePutsUptoRow, standIns := [], harness := (true, "5096840f16cd24edc4c7992d6d9d9c37eba7c879c24a7443d4b4f864798eb728"), looks := true }, kinds := [], alts := [], laidByText := true, laidKinds := [.data, .data, .data, .data, .sentinel, .sentinel, .pinned], laidTests := true, laidLooks := .later }
def SavePutsUptoCardSaid : Prop := Claim7.holds Tryz.pinned (.plain (OpenSpec.upto savePutsSpec)) savePutsUptoCard

/-- THE SECOND FORM's CARD OF 'changelinglaw23.SaveWrites'. -/
def saveWritesUptoCard : Claim7 := { stood := { row := saveWritesUptoRow, standIns := [], harness := (true, "5096840f16cd24edc4c7992d6d9d9c37eba7c879c24a7443d4b4f864798eb728"), looks := true }, kinds := [], alts := [], laidByText := true, laidKinds := [.data, .data, .data, .data, .sentinel, .sentinel, .pinned], laidTests := true, laidLooks := .later }
def SaveWritesUptoCardSaid : Prop := Claim7.holds Tryz.pinned (.plain (OpenSpec.upto saveWritesSpec)) saveWritesUptoCard
end Rows
end Go.Proofs.YtgbfdcmkbblodaaGreatDoor

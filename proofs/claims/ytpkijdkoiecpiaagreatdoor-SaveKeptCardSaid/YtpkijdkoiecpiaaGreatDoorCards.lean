/-
  DERIVED. GIVEN WITH THE SEED: THE CARDS: each row of YtpkijdkoiecpiaaGreatDoorRows.lean that lists a variable, with what it lists TIED to the program's text (the seventh form; the later family's looks); each row that meets fmt, with fmt's text TOLD by the authors' own Lean function (tested against real Go, not proved from fmt's source: count such statements apart). THE CARD IS WHAT COUNTS. Prove the row's statement (the work); the ties are given (YtpkijdkoiecpiaaGreatDoorTie.lean); close each card by the builder's one call (the guide's Derived/Test/ToyasCard.lean, 'card_holds'). Laid BY PROGRAM, IN A SANDBOX (cutbox-door.mjs). By AI agents, Wed Nov 11 2026. No macro, syntax, notation, axiom, sorry.
-/
import Derived.Test.YtpkijdkoiecpiaaGreatDoorRows
import GoSem.ClaimSeven
namespace Go.Proofs.YtpkijdkoiecpiaaGreatDoor
namespace Rows

/-- THE TIED CARD OF 'changelinglaw26.RoadPhases'. -/
def roadPhasesCard : Claim7 := { stood := { row := roadPhasesRow, standIns := [], harness := (true, "3f82b90675fe90769040b3084ad9966bf8220d10851b9efbf68e3e77ec03f585"), looks := true }, kinds := [], alts := [], laidByText := true, laidKinds := [.data, .data, .data, .data, .sentinel, .sentinel, .pinned], laidTests := true, laidLooks := .later }
def RoadPhasesCardSaid : Prop := Claim7.holds Tryz.pinned (.plain (OpenSpec.ofChange roadPhasesSpec)) roadPhasesCard

/-- THE TIED CARD OF 'changelinglaw26.RoadStarts'. -/
def roadStartsCard : Claim7 := { stood := { row := roadStartsRow, standIns := [], harness := (true, "3f82b90675fe90769040b3084ad9966bf8220d10851b9efbf68e3e77ec03f585"), looks := true }, kinds := [], alts := [], laidByText := true, laidKinds := [.data, .data, .data, .data, .sentinel, .sentinel, .pinned], laidTests := true, laidLooks := .later }
def RoadStartsCardSaid : Prop := Claim7.holds Tryz.pinned (.plain (OpenSpec.ofChange roadStartsSpec)) roadStartsCard

/-- THE TIED CARD OF 'changelinglaw26.RoadKnown'. -/
def roadKnownCard : Claim7 := { stood := { row := roadKnownRow, standIns := [], harness := (true, "3f82b90675fe90769040b3084ad9966bf8220d10851b9efbf68e3e77ec03f585"), looks := true }, kinds := [], alts := [], laidByText := true, laidKinds := [.data, .data, .data, .data, .sentinel, .sentinel, .pinned], laidTests := true, laidLooks := .later }
def RoadKnownCardSaid : Prop := Claim7.holds Tryz.pinned (.plain (OpenSpec.ofChange roadKnownSpec)) roadKnownCard

/-- THE TIED CARD OF 'changelinglaw26.RoadKept'. -/
def roadKeptCard : Claim7 := { stood := { row := roadKeptRow, standIns := [], harness := (true, "3f82b90675fe90769040b3084ad9966bf8220d10851b9efbf68e3e77ec03f585"), looks := true }, kinds := [], alts := [], laidByText := true, laidKinds := [.data, .data, .data, .data, .sentinel, .sentinel, .pinned], laidTests := true, laidLooks := .later }
def RoadKeptCardSaid : Prop := Claim7.holds Tryz.pinned (.plain (OpenSpec.ofChange roadKeptSpec)) roadKeptCard

/-- THE TIED CARD OF 'changelinglaw26.RoadPlays'. -/
def roadPlaysCard : Claim7 := { stood := { row := roadPlaysRow, standIns := [], harness := (true, "3f82b90675fe90769040b3084ad9966bf8220d10851b9efbf68e3e77ec03f585"), looks := true }, kinds := [], alts := [], laidByText := true, laidKinds := [.data, .data, .data, .data, .sentinel, .sentinel, .pinned], laidTests := true, laidLooks := .later }
def RoadPlaysCardSaid : Prop := Claim7.holds Tryz.pinned (.plain (OpenSpec.ofChange roadPlaysSpec)) roadPlaysCard

/-- THE TIED CARD OF 'changelinglaw23.SaveKnown'. -/
def saveKnownCard : Claim7 := { stood := { row := saveKnownRow, standIns := [], harness := (true, "3f82b90675fe90769040b3084ad9966bf8220d10851b9efbf68e3e77ec03f585"), looks := true }, kinds := [], alts := [], laidByText := true, laidKinds := [.data, .data, .data, .data, .sentinel, .sentinel, .pinned], laidTests := true, laidLooks := .later }
def SaveKnownCardSaid : Prop := Claim7.holds Tryz.pinned (.plain (OpenSpec.ofChange saveKnownSpec)) saveKnownCard

/-- THE TIED CARD OF 'changelinglaw23.SavePuts'. -/
def savePutsCard : Claim7 := { stood := { row := savePutsRow, standIns := [], harness := (true, "3f82b90675fe90769040b3084ad9966bf8220d10851b9efbf68e3e77ec03f585"), looks := true }, kinds := [], alts := [], laidByText := true, laidKinds := [.data, .data, .data, .data, .sentinel, .sentinel, .pinned], laidTests := true, laidLooks := .later }
def SavePutsCardSaid : Prop := Claim7.holds Tryz.pinned (.plain (OpenSpec.ofChange savePutsSpec)) savePutsCard

/-- THE TIED CARD OF 'changelinglaw23.SaveBack'. -/
def saveBackCard : Claim7 := { stood := { row := saveBackRow, standIns := [], harness := (true, "3f82b90675fe90769040b3084ad9966bf8220d10851b9efbf68e3e77ec03f585"), looks := true }, kinds := [], alts := [], laidByText := true, laidKinds := [.data, .data, .data, .data, .sentinel, .sentinel, .pinned], laidTests := true, laidLooks := .later }
def SaveBackCardSaid : Prop := Claim7.holds Tryz.pinned (.plain (OpenSpec.ofChange saveBackSpec)) saveBackCard

/-- THE TIED CARD OF 'changelinglaw23.SaveWrites'. -/
def saveWritesCard : Claim7 := { stood := { row := saveWritesRow, standIns := [], harness := (true, "3f82b90675fe90769040b3084ad9966bf8220d10851b9efbf68e3e77ec03f585"), looks := true }, kinds := [], alts := [], laidByText := true, laidKinds := [.data, .data, .data, .data, .sentinel, .sentinel, .pinned], laidTests := true, laidLooks := .later }
def SaveWritesCardSaid : Prop := Claim7.holds Tryz.pinned (.plain (OpenSpec.ofChange saveWritesSpec)) saveWritesCard

/-- THE TIED CARD OF 'changelinglaw23.SaveKept'. -/
def saveKeptCard : Claim7 := { stood := { row := saveKeptRow, standIns := [], harness := (true, "3f82b90675fe90769040b3084ad9966bf8220d10851b9efbf68e3e77ec03f585"), looks := true }, kinds := [], alts := [], laidByText := true, laidKinds := [.data, .data, .data, .data, .sentinel, .sentinel, .pinned], laidTests := true, laidLooks := .later }
def SaveKeptCardSaid : Prop := Claim7.holds Tryz.pinned (.plain (OpenSpec.ofChange saveKeptSpec)) saveKeptCard

/-- THE SECOND FORM's CARD OF 'changelinglaw26.RoadPhases'. -/
def roadPhasesUptoCard : Claim7 := { stood := { row := roadPhasesUptoRow, standIns := [], harness := (true, "3f82b90675fe90769040b3084ad9966bf8220d10851b9efbf68e3e77ec03f585"), looks := true }, kinds := [], alts := [], laidByText := true, laidKinds := [.data, .data, .data, .data, .sentinel, .sentinel, .pinned], laidTests := true, laidLooks := .later }
def RoadPhasesUptoCardSaid : Prop := Claim7.holds Tryz.pinned (.plain (OpenSpec.upto roadPhasesSpec)) roadPhasesUptoCard

/-- THE SECOND FORM's CARD OF 'changelinglaw26.RoadStarts'. -/
def roadStartsUptoCard : Claim7 := { stood := { row := roadStartsUptoRow, standIns := [], harness := (true, "3f82b90675fe90769040b3084ad9966bf8220d10851b9efbf68e3e77ec03f585"), looks := true }, kinds := [], alts := [], laidByText := true, laidKinds := [.data, .data, .data, .data, .sentinel, .sentinel, .pinned], laidTests := true, laidLooks := .later }
def RoadStartsUptoCardSaid : Prop := Claim7.holds Tryz.pinned (.plain (OpenSpec.upto roadStartsSpec)) roadStartsUptoCard

/-- THE SECOND FORM's CARD OF 'changelinglaw26.RoadKnown'. -/
def roadKnownUptoCard : Claim7 := { stood := { row := roadKnownUptoRow, standIns := [], harness := (true, "3f82b90675fe90769040b3084ad9966bf8220d10851b9efbf68e3e77ec03f585"), looks := true }, kinds := [], alts := [], laidByText := true, laidKinds := [.data, .data, .data, .data, .sentinel, .sentinel, .pinned], laidTests := true, laidLooks := .later }
def RoadKnownUptoCardSaid : Prop := Claim7.holds Tryz.pinned (.plain (OpenSpec.upto roadKnownSpec)) roadKnownUptoCard

/-- THE SECOND FORM's CARD OF 'changelinglaw26.RoadKept'. -/
def roadKeptUptoCard : Claim7 := { stood := { row := roadKeptUptoRow, standIns := [], harness := (true, "3f82b90675fe90769040b3084ad9966bf8220d10851b9efbf68e3e77ec03f585"), looks := true }, kinds := [], alts := [], laidByText := true, laidKinds := [.data, .data, .data, .data, .sentinel, .sentinel, .pinned], laidTests := true, laidLooks := .later }
def RoadKeptUptoCardSaid : Prop := Claim7.holds Tryz.pinned (.plain (OpenSpec.upto roadKeptSpec)) roadKeptUptoCard

/-- THE SECOND FORM's CARD OF 'changelinglaw26.RoadPlays'. -/
def roadPlaysUptoCard : Claim7 := { stood := { row := roadPlaysUptoRow, standIns := [], harness := (true, "3f82b90675fe90769040b3084ad9966bf8220d10851b9efbf68e3e77ec03f585"), looks := true }, kinds := [], alts := [], laidByText := true, laidKinds := [.data, .data, .data, .data, .sentinel, .sentinel, .pinned], laidTests := true, laidLooks := .later }
def RoadPlaysUptoCardSaid : Prop := Claim7.holds Tryz.pinned (.plain (OpenSpec.upto roadPlaysSpec)) roadPlaysUptoCard

/-- THE SECOND FORM's CARD OF 'changelinglaw23.SaveKnown'. -/
def saveKnownUptoCard : Claim7 := { stood := { row := saveKnownUptoRow, standIns := [], harness := (true, "3f82b90675fe90769040b3084ad9966bf8220d10851b9efbf68e3e77ec03f585"), looks := true }, kinds := [], alts := [], laidByText := true, laidKinds := [.data, .data, .data, .data, .sentinel, .sentinel, .pinned], laidTests := true, laidLooks := .later }
def SaveKnownUptoCardSaid : Prop := Claim7.holds Tryz.pinned (.plain (OpenSpec.upto saveKnownSpec)) saveKnownUptoCard

/-- THE SECOND FORM's CARD OF 'changelinglaw23.SavePuts'. -/
def savePutsUptoCard : Claim7 := { stood := { row := savePutsUptoRow, standIns := [], harness := (true, "3f82b90675fe90769040b3084ad9966bf8220d10851b9efbf68e3e77ec03f585"), looks := true }, kinds := [], alts := [], laidByText := true, laidKinds := [.data, .data, .data, .data, .sentinel, .sentinel, .pinned], laidTests := true, laidLooks := .later }
def SavePutsUptoCardSaid : Prop := Claim7.holds Tryz.pinned (.plain (OpenSpec.upto savePutsSpec)) savePutsUptoCard

/-- THE SECOND FORM's CARD OF 'changelinglaw23.SaveBack'. -/
def saveBackUptoCard : Claim7 := { stood := { row := saveBackUptoRow, standIns := [], harness := (true, "3f82b90675fe90769040b3084ad9966bf8220d10851b9efbf68e3e77ec03f585"), looks := true }, kinds := [], alts := [], laidByText := true, laidKinds := [.data, .data, .data, .data, .sentinel, .sentinel, .pinned], laidTests := true, laidLooks := .later }
def SaveBackUptoCardSaid : Prop := Claim7.holds Tryz.pinned (.plain (OpenSpec.upto saveBackSpec)) saveBackUptoCard

/-- THE SECOND FORM's CARD OF 'changelinglaw23.SaveWrites'. -/
def saveWritesUptoCard : Claim7 := { stood := { row := saveWritesUptoRow, standIns := [], harness := (true, "3f82b90675fe90769040b3084ad9966bf8220d10851b9efbf68e3e77ec03f585"), looks := true }, kinds := [], alts := [], laidByText := true, laidKinds := [.data, .data, .data, .data, .sentinel, .sentinel, .pinned], laidTests := true, laidLooks := .later }
def SaveWritesUptoCardSaid : Prop := Claim7.holds Tryz.pinned (.plain (OpenSpec.upto saveWritesSpec)) saveWritesUptoCard

/-- THE SECOND FORM's CARD OF 'changelinglaw23.SaveKept'. -/
def saveKeptUptoCard : Claim7 := { stood := { row := saveKeptUptoRow, standIns := [], harness := (true, "3f82b90675fe90769040b3084ad9966bf8220d10851b9efbf68e3e77ec03f585"), looks := true }, kinds := [], alts := [], laidByText := true, laidKinds := [.data, .data, .data, .data, .sentinel, .sentinel, .pinned], laidTests := true, laidLooks := .later }
def SaveKeptUptoCardSaid : Prop := Claim7.holds Tryz.pinned (.plain (OpenSpec.upto saveKeptSpec)) saveKeptUptoCard
end Rows
end Go.Proofs.YtpkijdkoiecpiaaGreatDoor

/-
  DERIVED. GIVEN WITH THE SEED: THE CARDS: each row of YtippfkokgpdmdaaDoorRows.lean that lists a variable, with what it lists TIED to the program's text (the seventh form; the later family's looks); each row that meets fmt, with fmt's text TOLD by the authors' own Lean function (tested against real Go, not proved from fmt's source: count such statements apart). THE CARD IS WHAT COUNTS. Prove the row's statement (the work); the ties are given (YtippfkokgpdmdaaDoorTie.lean); close each card by the builder's one call (the guide's Derived/Test/ToyasCard.lean, 'card_holds'). Laid BY PROGRAM, IN A SANDBOX (cutbox-door.mjs). By AI agents, Wed Nov 11 2026. No macro, syntax, notation, axiom, sorry.
-/
import Derived.Test.YtippfkokgpdmdaaDoorRows
import GoSem.ClaimSeven
namespace Go.Proofs.YtippfkokgpdmdaaDoor
namespace Rows

/-- THE TIED CARD OF 'sundiallaw04.StateTells'. -/
def stateTellsCard : Claim7 := { stood := { row := stateTellsRow, standIns := [], harness := (true, "c78390223623de0d311131a84194735b15d2ce982e96a3d714339cbd5fc91d6e"), looks := false }, kinds := [], alts := [], laidByText := true, laidKinds := [.data, .data, .data], laidTests := true, laidLooks := .later }
def StateTellsCardSaid : Prop := Claim7.holds Tryd.pinned (.plain (OpenSpec.ofChange stateTellsSpec)) stateTellsCard

/-- THE TIED CARD OF 'sundiallaw04.StateBack'. -/
def stateBackCard : Claim7 := { stood := { row := stateBackRow, standIns := [], harness := (true, "c78390223623de0d311131a84194735b15d2ce982e96a3d714339cbd5fc91d6e"), looks := false }, kinds := [], alts := [], laidByText := true, laidKinds := [.data, .data, .data], laidTests := true, laidLooks := .later }
def StateBackCardSaid : Prop := Claim7.holds Tryd.pinned (.plain (OpenSpec.ofChange stateBackSpec)) stateBackCard

/-- THE TIED CARD OF 'sundiallaw04.StateOnce'. -/
def stateOnceCard : Claim7 := { stood := { row := stateOnceRow, standIns := [], harness := (true, "c78390223623de0d311131a84194735b15d2ce982e96a3d714339cbd5fc91d6e"), looks := false }, kinds := [], alts := [], laidByText := true, laidKinds := [.data, .data, .data], laidTests := true, laidLooks := .later }
def StateOnceCardSaid : Prop := Claim7.holds Tryd.pinned (.plain (OpenSpec.ofChange stateOnceSpec)) stateOnceCard

/-- THE TIED CARD OF 'sundiallaw09.PlaceTells'. -/
def placeTellsCard : Claim7 := { stood := { row := placeTellsRow, standIns := [], harness := (true, "c78390223623de0d311131a84194735b15d2ce982e96a3d714339cbd5fc91d6e"), looks := false }, kinds := [], alts := [], laidByText := true, laidKinds := [.data, .data, .data], laidTests := true, laidLooks := .later }
def PlaceTellsCardSaid : Prop := Claim7.holds Tryd.pinned (.plain (OpenSpec.ofChange placeTellsSpec)) placeTellsCard

/-- THE TIED CARD OF 'sundiallaw09.PlaceBack'. -/
def placeBackCard : Claim7 := { stood := { row := placeBackRow, standIns := [], harness := (true, "c78390223623de0d311131a84194735b15d2ce982e96a3d714339cbd5fc91d6e"), looks := false }, kinds := [], alts := [], laidByText := true, laidKinds := [.data, .data, .data], laidTests := true, laidLooks := .later }
def PlaceBackCardSaid : Prop := Claim7.holds Tryd.pinned (.plain (OpenSpec.ofChange placeBackSpec)) placeBackCard

/-- THE TIED CARD OF 'sundiallaw09.PlaceWords'. -/
def placeWordsCard : Claim7 := { stood := { row := placeWordsRow, standIns := [], harness := (true, "c78390223623de0d311131a84194735b15d2ce982e96a3d714339cbd5fc91d6e"), looks := false }, kinds := [], alts := [], laidByText := true, laidKinds := [.data, .data, .data], laidTests := true, laidLooks := .later }
def PlaceWordsCardSaid : Prop := Claim7.holds Tryd.pinned (.plain (OpenSpec.ofChange placeWordsSpec)) placeWordsCard

/-- THE TIED CARD OF 'sundiallaw07.DeedTells'. -/
def deedTellsCard : Claim7 := { stood := { row := deedTellsRow, standIns := [], harness := (true, "c78390223623de0d311131a84194735b15d2ce982e96a3d714339cbd5fc91d6e"), looks := false }, kinds := [], alts := [], laidByText := true, laidKinds := [.data, .data, .data], laidTests := true, laidLooks := .later }
def DeedTellsCardSaid : Prop := Claim7.holds Tryd.pinned (.plain (OpenSpec.ofChange deedTellsSpec)) deedTellsCard

/-- THE TIED CARD OF 'sundiallaw07.DeedDoes'. -/
def deedDoesCard : Claim7 := { stood := { row := deedDoesRow, standIns := [], harness := (true, "c78390223623de0d311131a84194735b15d2ce982e96a3d714339cbd5fc91d6e"), looks := false }, kinds := [], alts := [], laidByText := true, laidKinds := [.data, .data, .data], laidTests := true, laidLooks := .later }
def DeedDoesCardSaid : Prop := Claim7.holds Tryd.pinned (.plain (OpenSpec.ofChange deedDoesSpec)) deedDoesCard

/-- THE TIED CARD OF 'sundiallaw07.DeedOne'. -/
def deedOneCard : Claim7 := { stood := { row := deedOneRow, standIns := [], harness := (true, "c78390223623de0d311131a84194735b15d2ce982e96a3d714339cbd5fc91d6e"), looks := false }, kinds := [], alts := [], laidByText := true, laidKinds := [.data, .data, .data], laidTests := true, laidLooks := .later }
def DeedOneCardSaid : Prop := Claim7.holds Tryd.pinned (.plain (OpenSpec.ofChange deedOneSpec)) deedOneCard

/-- THE SECOND FORM's CARD OF 'sundiallaw04.StateTells'. -/
def stateTellsUptoCard : Claim7 := { stood := { row := stateTellsUptoRow, standIns := [], harness := (true, "c78390223623de0d311131a84194735b15d2ce982e96a3d714339cbd5fc91d6e"), looks := false }, kinds := [], alts := [], laidByText := true, laidKinds := [.data, .data, .data], laidTests := true, laidLooks := .later }
def StateTellsUptoCardSaid : Prop := Claim7.holds Tryd.pinned (.plain (OpenSpec.upto stateTellsSpec)) stateTellsUptoCard

/-- THE SECOND FORM's CARD OF 'sundiallaw04.StateBack'. -/
def stateBackUptoCard : Claim7 := { stood := { row := stateBackUptoRow, standIns := [], harness := (true, "c78390223623de0d311131a84194735b15d2ce982e96a3d714339cbd5fc91d6e"), looks := false }, kinds := [], alts := [], laidByText := true, laidKinds := [.data, .data, .data], laidTests := true, laidLooks := .later }
def StateBackUptoCardSaid : Prop := Claim7.holds Tryd.pinned (.plain (OpenSpec.upto stateBackSpec)) stateBackUptoCard

/-- THE SECOND FORM's CARD OF 'sundiallaw04.StateOnce'. -/
def stateOnceUptoCard : Claim7 := { stood := { row := stateOnceUptoRow, standIns := [], harness := (true, "c78390223623de0d311131a84194735b15d2ce982e96a3d714339cbd5fc91d6e"), looks := false }, kinds := [], alts := [], laidByText := true, laidKinds := [.data, .data, .data], laidTests := true, laidLooks := .later }
def StateOnceUptoCardSaid : Prop := Claim7.holds Tryd.pinned (.plain (OpenSpec.upto stateOnceSpec)) stateOnceUptoCard

/-- THE SECOND FORM's CARD OF 'sundiallaw09.PlaceTells'. -/
def placeTellsUptoCard : Claim7 := { stood := { row := placeTellsUptoRow, standIns := [], harness := (true, "c78390223623de0d311131a84194735b15d2ce982e96a3d714339cbd5fc91d6e"), looks := false }, kinds := [], alts := [], laidByText := true, laidKinds := [.data, .data, .data], laidTests := true, laidLooks := .later }
def PlaceTellsUptoCardSaid : Prop := Claim7.holds Tryd.pinned (.plain (OpenSpec.upto placeTellsSpec)) placeTellsUptoCard

/-- THE SECOND FORM's CARD OF 'sundiallaw09.PlaceBack'. -/
def placeBackUptoCard : Claim7 := { stood := { row := placeBackUptoRow, standIns := [], harness := (true, "c78390223623de0d311131a84194735b15d2ce982e96a3d714339cbd5fc91d6e"), looks := false }, kinds := [], alts := [], laidByText := true, laidKinds := [.data, .data, .data], laidTests := true, laidLooks := .later }
def PlaceBackUptoCardSaid : Prop := Claim7.holds Tryd.pinned (.plain (OpenSpec.upto placeBackSpec)) placeBackUptoCard

/-- THE SECOND FORM's CARD OF 'sundiallaw09.PlaceWords'. -/
def placeWordsUptoCard : Claim7 := { stood := { row := placeWordsUptoRow, standIns := [], harness := (true, "c78390223623de0d311131a84194735b15d2ce982e96a3d714339cbd5fc91d6e"), looks := false }, kinds := [], alts := [], laidByText := true, laidKinds := [.data, .data, .data], laidTests := true, laidLooks := .later }
def PlaceWordsUptoCardSaid : Prop := Claim7.holds Tryd.pinned (.plain (OpenSpec.upto placeWordsSpec)) placeWordsUptoCard

/-- THE SECOND FORM's CARD OF 'sundiallaw07.DeedTells'. -/
def deedTellsUptoCard : Claim7 := { stood := { row := deedTellsUptoRow, standIns := [], harness := (true, "c78390223623de0d311131a84194735b15d2ce982e96a3d714339cbd5fc91d6e"), looks := false }, kinds := [], alts := [], laidByText := true, laidKinds := [.data, .data, .data], laidTests := true, laidLooks := .later }
def DeedTellsUptoCardSaid : Prop := Claim7.holds Tryd.pinned (.plain (OpenSpec.upto deedTellsSpec)) deedTellsUptoCard

/-- THE SECOND FORM's CARD OF 'sundiallaw07.DeedDoes'. -/
def deedDoesUptoCard : Claim7 := { stood := { row := deedDoesUptoRow, standIns := [], harness := (true, "c78390223623de0d311131a84194735b15d2ce982e96a3d714339cbd5fc91d6e"), looks := false }, kinds := [], alts := [], laidByText := true, laidKinds := [.data, .data, .data], laidTests := true, laidLooks := .later }
def DeedDoesUptoCardSaid : Prop := Claim7.holds Tryd.pinned (.plain (OpenSpec.upto deedDoesSpec)) deedDoesUptoCard

/-- THE SECOND FORM's CARD OF 'sundiallaw07.DeedOne'. -/
def deedOneUptoCard : Claim7 := { stood := { row := deedOneUptoRow, standIns := [], harness := (true, "c78390223623de0d311131a84194735b15d2ce982e96a3d714339cbd5fc91d6e"), looks := false }, kinds := [], alts := [], laidByText := true, laidKinds := [.data, .data, .data], laidTests := true, laidLooks := .later }
def DeedOneUptoCardSaid : Prop := Claim7.holds Tryd.pinned (.plain (OpenSpec.upto deedOneSpec)) deedOneUptoCard
end Rows
end Go.Proofs.YtippfkokgpdmdaaDoor

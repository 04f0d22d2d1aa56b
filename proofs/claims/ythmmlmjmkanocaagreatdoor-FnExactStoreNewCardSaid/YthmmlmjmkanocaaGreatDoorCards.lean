/-
  DERIVED. GIVEN WITH THE SEED: THE CARDS: each row of YthmmlmjmkanocaaGreatDoorRows.lean that lists a variable, with what it lists TIED to the program's text (the seventh form; the later family's looks); each row that meets fmt, with fmt's text TOLD by the authors' own Lean function (tested against real Go, not proved from fmt's source: count such statements apart). THE CARD IS WHAT COUNTS. Prove the row's statement (the work); the ties are given (YthmmlmjmkanocaaGreatDoorTie.lean); close each card by the builder's one call (the guide's Derived/Test/ToyasCard.lean, 'card_holds'). Laid BY PROGRAM, IN A SANDBOX (cutbox-door.mjs). By AI agents, Wed Nov 11 2026. No macro, syntax, notation, axiom, sorry.
-/
import Derived.Test.YthmmlmjmkanocaaGreatDoorRows
import GoSem.ClaimSeven
namespace Go.Proofs.YthmmlmjmkanocaaGreatDoor
namespace Rows

/-- THE TIED CARD OF 'laws.FnExactStoreOk'. -/
def fnExactStoreOkCard : Claim7 := { stood := { row := fnExactStoreOkRow, standIns := [], harness := (true, "8b7b0f313043646b857b6351e6f1eb71e8ed07ce02aae4ae7278ef74cf2e2ff7"), looks := true }, kinds := [], alts := [], laidByText := true, laidKinds := [.data, .data, .data, .data, .sentinel, .sentinel, .pinned], laidTests := true, laidLooks := .later }
def FnExactStoreOkCardSaid : Prop := Claim7.holds Tryz.pinned (.plain (OpenSpec.ofChange fnExactStoreOkSpec)) fnExactStoreOkCard

/-- THE TIED CARD OF 'laws.FnExactStoreNew'. -/
def fnExactStoreNewCard : Claim7 := { stood := { row := fnExactStoreNewRow, standIns := [], harness := (true, "8b7b0f313043646b857b6351e6f1eb71e8ed07ce02aae4ae7278ef74cf2e2ff7"), looks := true }, kinds := [], alts := [], laidByText := true, laidKinds := [.data, .data, .data, .data, .sentinel, .sentinel, .pinned], laidTests := true, laidLooks := .later }
def FnExactStoreNewCardSaid : Prop := Claim7.holds Tryz.pinned (.plain (OpenSpec.ofChange fnExactStoreNewSpec)) fnExactStoreNewCard

/-- THE TIED CARD OF 'laws.FnExactStoreRead'. -/
def fnExactStoreReadCard : Claim7 := { stood := { row := fnExactStoreReadRow, standIns := [], harness := (true, "8b7b0f313043646b857b6351e6f1eb71e8ed07ce02aae4ae7278ef74cf2e2ff7"), looks := true }, kinds := [], alts := [], laidByText := true, laidKinds := [.data, .data, .data, .data, .sentinel, .sentinel, .pinned], laidTests := true, laidLooks := .later }
def FnExactStoreReadCardSaid : Prop := Claim7.holds Tryz.pinned (.plain (OpenSpec.ofChange fnExactStoreReadSpec)) fnExactStoreReadCard

/-- THE TIED CARD OF 'laws.FnExactStoreSet'. -/
def fnExactStoreSetCard : Claim7 := { stood := { row := fnExactStoreSetRow, standIns := [], harness := (true, "8b7b0f313043646b857b6351e6f1eb71e8ed07ce02aae4ae7278ef74cf2e2ff7"), looks := true }, kinds := [], alts := [], laidByText := true, laidKinds := [.data, .data, .data, .data, .sentinel, .sentinel, .pinned], laidTests := true, laidLooks := .later }
def FnExactStoreSetCardSaid : Prop := Claim7.holds Tryz.pinned (.plain (OpenSpec.ofChange fnExactStoreSetSpec)) fnExactStoreSetCard

/-- THE TIED CARD OF 'laws.FnExactStoreRise'. -/
def fnExactStoreRiseCard : Claim7 := { stood := { row := fnExactStoreRiseRow, standIns := [], harness := (true, "8b7b0f313043646b857b6351e6f1eb71e8ed07ce02aae4ae7278ef74cf2e2ff7"), looks := true }, kinds := [], alts := [], laidByText := true, laidKinds := [.data, .data, .data, .data, .sentinel, .sentinel, .pinned], laidTests := true, laidLooks := .later }
def FnExactStoreRiseCardSaid : Prop := Claim7.holds Tryz.pinned (.plain (OpenSpec.ofChange fnExactStoreRiseSpec)) fnExactStoreRiseCard

/-- THE TIED CARD OF 'laws.FnExactStoreRest'. -/
def fnExactStoreRestCard : Claim7 := { stood := { row := fnExactStoreRestRow, standIns := [], harness := (true, "8b7b0f313043646b857b6351e6f1eb71e8ed07ce02aae4ae7278ef74cf2e2ff7"), looks := true }, kinds := [], alts := [], laidByText := true, laidKinds := [.data, .data, .data, .data, .sentinel, .sentinel, .pinned], laidTests := true, laidLooks := .later }
def FnExactStoreRestCardSaid : Prop := Claim7.holds Tryz.pinned (.plain (OpenSpec.ofChange fnExactStoreRestSpec)) fnExactStoreRestCard

/-- THE SECOND FORM's CARD OF 'laws.FnExactStoreOk'. -/
def fnExactStoreOkUptoCard : Claim7 := { stood := { row := fnExactStoreOkUptoRow, standIns := [], harness := (true, "8b7b0f313043646b857b6351e6f1eb71e8ed07ce02aae4ae7278ef74cf2e2ff7"), looks := true }, kinds := [], alts := [], laidByText := true, laidKinds := [.data, .data, .data, .data, .sentinel, .sentinel, .pinned], laidTests := true, laidLooks := .later }
def FnExactStoreOkUptoCardSaid : Prop := Claim7.holds Tryz.pinned (.plain (OpenSpec.upto fnExactStoreOkSpec)) fnExactStoreOkUptoCard

/-- THE SECOND FORM's CARD OF 'laws.FnExactStoreNew'. -/
def fnExactStoreNewUptoCard : Claim7 := { stood := { row := fnExactStoreNewUptoRow, standIns := [], harness := (true, "8b7b0f313043646b857b6351e6f1eb71e8ed07ce02aae4ae7278ef74cf2e2ff7"), looks := true }, kinds := [], alts := [], laidByText := true, laidKinds := [.data, .data, .data, .data, .sentinel, .sentinel, .pinned], laidTests := true, laidLooks := .later }
def FnExactStoreNewUptoCardSaid : Prop := Claim7.holds Tryz.pinned (.plain (OpenSpec.upto fnExactStoreNewSpec)) fnExactStoreNewUptoCard

/-- THE SECOND FORM's CARD OF 'laws.FnExactStoreRead'. -/
def fnExactStoreReadUptoCard : Claim7 := { stood := { row := fnExactStoreReadUptoRow, standIns := [], harness := (true, "8b7b0f313043646b857b6351e6f1eb71e8ed07ce02aae4ae7278ef74cf2e2ff7"), looks := true }, kinds := [], alts := [], laidByText := true, laidKinds := [.data, .data, .data, .data, .sentinel, .sentinel, .pinned], laidTests := true, laidLooks := .later }
def FnExactStoreReadUptoCardSaid : Prop := Claim7.holds Tryz.pinned (.plain (OpenSpec.upto fnExactStoreReadSpec)) fnExactStoreReadUptoCard

/-- THE SECOND FORM's CARD OF 'laws.FnExactStoreSet'. -/
def fnExactStoreSetUptoCard : Claim7 := { stood := { row := fnExactStoreSetUptoRow, standIns := [], harness := (true, "8b7b0f313043646b857b6351e6f1eb71e8ed07ce02aae4ae7278ef74cf2e2ff7"), looks := true }, kinds := [], alts := [], laidByText := true, laidKinds := [.data, .data, .data, .data, .sentinel, .sentinel, .pinned], laidTests := true, laidLooks := .later }
def FnExactStoreSetUptoCardSaid : Prop := Claim7.holds Tryz.pinned (.plain (OpenSpec.upto fnExactStoreSetSpec)) fnExactStoreSetUptoCard

/-- THE SECOND FORM's CARD OF 'laws.FnExactStoreRise'. -/
def fnExactStoreRiseUptoCard : Claim7 := { stood := { row := fnExactStoreRiseUptoRow, standIns := [], harness := (true, "8b7b0f313043646b857b6351e6f1eb71e8ed07ce02aae4ae7278ef74cf2e2ff7"), looks := true }, kinds := [], alts := [], laidByText := true, laidKinds := [.data, .data, .data, .data, .sentinel, .sentinel, .pinned], laidTests := true, laidLooks := .later }
def FnExactStoreRiseUptoCardSaid : Prop := Claim7.holds Tryz.pinned (.plain (OpenSpec.upto fnExactStoreRiseSpec)) fnExactStoreRiseUptoCard

/-- THE SECOND FORM's CARD OF 'laws.FnExactStoreRest'. -/
def fnExactStoreRestUptoCard : Claim7 := { stood := { row := fnExactStoreRestUptoRow, standIns := [], harness := (true, "8b7b0f313043646b857b6351e6f1eb71e8ed07ce02aae4ae7278ef74cf2e2ff7"), looks := true }, kinds := [], alts := [], laidByText := true, laidKinds := [.data, .data, .data, .data, .sentinel, .sentinel, .pinned], laidTests := true, laidLooks := .later }
def FnExactStoreRestUptoCardSaid : Prop := Claim7.holds Tryz.pinned (.plain (OpenSpec.upto fnExactStoreRestSpec)) fnExactStoreRestUptoCard
end Rows
end Go.Proofs.YthmmlmjmkanocaaGreatDoor

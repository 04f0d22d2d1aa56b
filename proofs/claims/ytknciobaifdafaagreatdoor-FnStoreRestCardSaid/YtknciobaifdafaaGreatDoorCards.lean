/-
  DERIVED. GIVEN WITH THE SEED: THE CARDS: each row of YtknciobaifdafaaGreatDoorRows.lean that lists a variable, with what it lists TIED to the program's text (the seventh form; the later family's looks); each row that meets fmt, with fmt's text TOLD by the authors' own Lean function (tested against real Go, not proved from fmt's source: count such statements apart). THE CARD IS WHAT COUNTS. Prove the row's statement (the work); the ties are given (YtknciobaifdafaaGreatDoorTie.lean); close each card by the builder's one call (the guide's Derived/Test/ToyasCard.lean, 'card_holds'). Laid BY PROGRAM, IN A SANDBOX (cutbox-door.mjs). By AI agents, Wed Nov 11 2026. No macro, syntax, notation, axiom, sorry.
-/
import Derived.Test.YtknciobaifdafaaGreatDoorRows
import GoSem.ClaimSeven
namespace Go.Proofs.YtknciobaifdafaaGreatDoor
namespace Rows

/-- THE TIED CARD OF 'laws.FnExactStoreCommit'. -/
def fnExactStoreCommitCard : Claim7 := { stood := { row := fnExactStoreCommitRow, standIns := [], harness := (true, "c9bec711eeb11a5f045d279037c09a988bc8ccb69b82660b98673ddadfeb9dd3"), looks := true }, kinds := [], alts := [], laidByText := true, laidKinds := [.data, .data, .data, .data, .sentinel, .sentinel, .pinned], laidTests := true, laidLooks := .later }
def FnExactStoreCommitCardSaid : Prop := Claim7.holds Tryz.pinned (.plain (OpenSpec.ofChange fnExactStoreCommitSpec)) fnExactStoreCommitCard

/-- THE TIED CARD OF 'laws.FnStoreSet'. -/
def fnStoreSetCard : Claim7 := { stood := { row := fnStoreSetRow, standIns := [], harness := (true, "c9bec711eeb11a5f045d279037c09a988bc8ccb69b82660b98673ddadfeb9dd3"), looks := true }, kinds := [], alts := [], laidByText := true, laidKinds := [.data, .data, .data, .data, .sentinel, .sentinel, .pinned], laidTests := true, laidLooks := .later }
def FnStoreSetCardSaid : Prop := Claim7.holds Tryz.pinned (.plain (OpenSpec.ofChange fnStoreSetSpec)) fnStoreSetCard

/-- THE TIED CARD OF 'laws.FnStoreRead'. -/
def fnStoreReadCard : Claim7 := { stood := { row := fnStoreReadRow, standIns := [], harness := (true, "c9bec711eeb11a5f045d279037c09a988bc8ccb69b82660b98673ddadfeb9dd3"), looks := true }, kinds := [], alts := [], laidByText := true, laidKinds := [.data, .data, .data, .data, .sentinel, .sentinel, .pinned], laidTests := true, laidLooks := .later }
def FnStoreReadCardSaid : Prop := Claim7.holds Tryz.pinned (.plain (OpenSpec.ofChange fnStoreReadSpec)) fnStoreReadCard

/-- THE TIED CARD OF 'laws.FnStoreRise'. -/
def fnStoreRiseCard : Claim7 := { stood := { row := fnStoreRiseRow, standIns := [], harness := (true, "c9bec711eeb11a5f045d279037c09a988bc8ccb69b82660b98673ddadfeb9dd3"), looks := true }, kinds := [], alts := [], laidByText := true, laidKinds := [.data, .data, .data, .data, .sentinel, .sentinel, .pinned], laidTests := true, laidLooks := .later }
def FnStoreRiseCardSaid : Prop := Claim7.holds Tryz.pinned (.plain (OpenSpec.ofChange fnStoreRiseSpec)) fnStoreRiseCard

/-- THE TIED CARD OF 'laws.FnStoreRest'. -/
def fnStoreRestCard : Claim7 := { stood := { row := fnStoreRestRow, standIns := [], harness := (true, "c9bec711eeb11a5f045d279037c09a988bc8ccb69b82660b98673ddadfeb9dd3"), looks := true }, kinds := [], alts := [], laidByText := true, laidKinds := [.data, .data, .data, .data, .sentinel, .sentinel, .pinned], laidTests := true, laidLooks := .later }
def FnStoreRestCardSaid : Prop := Claim7.holds Tryz.pinned (.plain (OpenSpec.ofChange fnStoreRestSpec)) fnStoreRestCard

/-- THE TIED CARD OF 'laws.FnStoreRestCrash'. -/
def fnStoreRestCrashCard : Claim7 := { stood := { row := fnStoreRestCrashRow, standIns := [], harness := (true, "c9bec711eeb11a5f045d279037c09a988bc8ccb69b82660b98673ddadfeb9dd3"), looks := true }, kinds := [], alts := [], laidByText := true, laidKinds := [.data, .data, .data, .data, .sentinel, .sentinel, .pinned], laidTests := true, laidLooks := .later }
def FnStoreRestCrashCardSaid : Prop := Claim7.holds Tryz.pinned (.plain (OpenSpec.ofChange fnStoreRestCrashSpec)) fnStoreRestCrashCard

/-- THE TIED CARD OF 'laws.FnStoreCommit'. -/
def fnStoreCommitCard : Claim7 := { stood := { row := fnStoreCommitRow, standIns := [], harness := (true, "c9bec711eeb11a5f045d279037c09a988bc8ccb69b82660b98673ddadfeb9dd3"), looks := true }, kinds := [], alts := [], laidByText := true, laidKinds := [.data, .data, .data, .data, .sentinel, .sentinel, .pinned], laidTests := true, laidLooks := .later }
def FnStoreCommitCardSaid : Prop := Claim7.holds Tryz.pinned (.plain (OpenSpec.ofChange fnStoreCommitSpec)) fnStoreCommitCard

/-- THE TIED CARD OF 'laws.FnStoreTwo'. -/
def fnStoreTwoCard : Claim7 := { stood := { row := fnStoreTwoRow, standIns := [], harness := (true, "c9bec711eeb11a5f045d279037c09a988bc8ccb69b82660b98673ddadfeb9dd3"), looks := true }, kinds := [], alts := [], laidByText := true, laidKinds := [.data, .data, .data, .data, .sentinel, .sentinel, .pinned], laidTests := true, laidLooks := .later }
def FnStoreTwoCardSaid : Prop := Claim7.holds Tryz.pinned (.plain (OpenSpec.ofChange fnStoreTwoSpec)) fnStoreTwoCard

/-- THE TIED CARD OF 'laws.FnStoreFull'. -/
def fnStoreFullCard : Claim7 := { stood := { row := fnStoreFullRow, standIns := [], harness := (true, "c9bec711eeb11a5f045d279037c09a988bc8ccb69b82660b98673ddadfeb9dd3"), looks := true }, kinds := [], alts := [], laidByText := true, laidKinds := [.data, .data, .data, .data, .sentinel, .sentinel, .pinned], laidTests := true, laidLooks := .later }
def FnStoreFullCardSaid : Prop := Claim7.holds Tryz.pinned (.plain (OpenSpec.ofChange fnStoreFullSpec)) fnStoreFullCard

/-- THE SECOND FORM's CARD OF 'laws.FnExactStoreCommit'. -/
def fnExactStoreCommitUptoCard : Claim7 := { stood := { row := fnExactStoreCommitUptoRow, standIns := [], harness := (true, "c9bec711eeb11a5f045d279037c09a988bc8ccb69b82660b98673ddadfeb9dd3"), looks := true }, kinds := [], alts := [], laidByText := true, laidKinds := [.data, .data, .data, .data, .sentinel, .sentinel, .pinned], laidTests := true, laidLooks := .later }
def FnExactStoreCommitUptoCardSaid : Prop := Claim7.holds Tryz.pinned (.plain (OpenSpec.upto fnExactStoreCommitSpec)) fnExactStoreCommitUptoCard

/-- THE SECOND FORM's CARD OF 'laws.FnStoreSet'. -/
def fnStoreSetUptoCard : Claim7 := { stood := { row := fnStoreSetUptoRow, standIns := [], harness := (true, "c9bec711eeb11a5f045d279037c09a988bc8ccb69b82660b98673ddadfeb9dd3"), looks := true }, kinds := [], alts := [], laidByText := true, laidKinds := [.data, .data, .data, .data, .sentinel, .sentinel, .pinned], laidTests := true, laidLooks := .later }
def FnStoreSetUptoCardSaid : Prop := Claim7.holds Tryz.pinned (.plain (OpenSpec.upto fnStoreSetSpec)) fnStoreSetUptoCard

/-- THE SECOND FORM's CARD OF 'laws.FnStoreRead'. -/
def fnStoreReadUptoCard : Claim7 := { stood := { row := fnStoreReadUptoRow, standIns := [], harness := (true, "c9bec711eeb11a5f045d279037c09a988bc8ccb69b82660b98673ddadfeb9dd3"), looks := true }, kinds := [], alts := [], laidByText := true, laidKinds := [.data, .data, .data, .data, .sentinel, .sentinel, .pinned], laidTests := true, laidLooks := .later }
def FnStoreReadUptoCardSaid : Prop := Claim7.holds Tryz.pinned (.plain (OpenSpec.upto fnStoreReadSpec)) fnStoreReadUptoCard

/-- THE SECOND FORM's CARD OF 'laws.FnStoreRise'. -/
def fnStoreRiseUptoCard : Claim7 := { stood := { row := fnStoreRiseUptoRow, standIns := [], harness := (true, "c9bec711eeb11a5f045d279037c09a988bc8ccb69b82660b98673ddadfeb9dd3"), looks := true }, kinds := [], alts := [], laidByText := true, laidKinds := [.data, .data, .data, .data, .sentinel, .sentinel, .pinned], laidTests := true, laidLooks := .later }
def FnStoreRiseUptoCardSaid : Prop := Claim7.holds Tryz.pinned (.plain (OpenSpec.upto fnStoreRiseSpec)) fnStoreRiseUptoCard

/-- THE SECOND FORM's CARD OF 'laws.FnStoreRest'. -/
def fnStoreRestUptoCard : Claim7 := { stood := { row := fnStoreRestUptoRow, standIns := [], harness := (true, "c9bec711eeb11a5f045d279037c09a988bc8ccb69b82660b98673ddadfeb9dd3"), looks := true }, kinds := [], alts := [], laidByText := true, laidKinds := [.data, .data, .data, .data, .sentinel, .sentinel, .pinned], laidTests := true, laidLooks := .later }
def FnStoreRestUptoCardSaid : Prop := Claim7.holds Tryz.pinned (.plain (OpenSpec.upto fnStoreRestSpec)) fnStoreRestUptoCard

/-- THE SECOND FORM's CARD OF 'laws.FnStoreRestCrash'. -/
def fnStoreRestCrashUptoCard : Claim7 := { stood := { row := fnStoreRestCrashUptoRow, standIns := [], harness := (true, "c9bec711eeb11a5f045d279037c09a988bc8ccb69b82660b98673ddadfeb9dd3"), looks := true }, kinds := [], alts := [], laidByText := true, laidKinds := [.data, .data, .data, .data, .sentinel, .sentinel, .pinned], laidTests := true, laidLooks := .later }
def FnStoreRestCrashUptoCardSaid : Prop := Claim7.holds Tryz.pinned (.plain (OpenSpec.upto fnStoreRestCrashSpec)) fnStoreRestCrashUptoCard

/-- THE SECOND FORM's CARD OF 'laws.FnStoreCommit'. -/
def fnStoreCommitUptoCard : Claim7 := { stood := { row := fnStoreCommitUptoRow, standIns := [], harness := (true, "c9bec711eeb11a5f045d279037c09a988bc8ccb69b82660b98673ddadfeb9dd3"), looks := true }, kinds := [], alts := [], laidByText := true, laidKinds := [.data, .data, .data, .data, .sentinel, .sentinel, .pinned], laidTests := true, laidLooks := .later }
def FnStoreCommitUptoCardSaid : Prop := Claim7.holds Tryz.pinned (.plain (OpenSpec.upto fnStoreCommitSpec)) fnStoreCommitUptoCard

/-- THE SECOND FORM's CARD OF 'laws.FnStoreTwo'. -/
def fnStoreTwoUptoCard : Claim7 := { stood := { row := fnStoreTwoUptoRow, standIns := [], harness := (true, "c9bec711eeb11a5f045d279037c09a988bc8ccb69b82660b98673ddadfeb9dd3"), looks := true }, kinds := [], alts := [], laidByText := true, laidKinds := [.data, .data, .data, .data, .sentinel, .sentinel, .pinned], laidTests := true, laidLooks := .later }
def FnStoreTwoUptoCardSaid : Prop := Claim7.holds Tryz.pinned (.plain (OpenSpec.upto fnStoreTwoSpec)) fnStoreTwoUptoCard

/-- THE SECOND FORM's CARD OF 'laws.FnStoreFull'. -/
def fnStoreFullUptoCard : Claim7 := { stood := { row := fnStoreFullUptoRow, standIns := [], harness := (true, "c9bec711eeb11a5f045d279037c09a988bc8ccb69b82660b98673ddadfeb9dd3"), looks := true }, kinds := [], alts := [], laidByText := true, laidKinds := [.data, .data, .data, .data, .sentinel, .sentinel, .pinned], laidTests := true, laidLooks := .later }
def FnStoreFullUptoCardSaid : Prop := Claim7.holds Tryz.pinned (.plain (OpenSpec.upto fnStoreFullSpec)) fnStoreFullUptoCard
end Rows
end Go.Proofs.YtknciobaifdafaaGreatDoor

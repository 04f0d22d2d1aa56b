/-
  DERIVED. GIVEN WITH THE SEED: THE CARDS: each row of YtneapbfomhalpaaGreatDoorRows.lean that lists a variable, with what it lists TIED to the program's text (the seventh form; the later family's looks); each row that meets fmt, with fmt's text TOLD by the authors' own Lean function (tested against real Go, not proved from fmt's source: count such statements apart). THE CARD IS WHAT COUNTS. Prove the row's statement (the work); the ties are given (YtneapbfomhalpaaGreatDoorTie.lean); close each card by the builder's one call (the guide's Derived/Test/ToyasCard.lean, 'card_holds'). Laid BY PROGRAM, IN A SANDBOX (cutbox-door.mjs). By AI agents, Wed Nov 11 2026. No macro, syntax, notation, axiom, sorry.
-/
import Derived.Test.YtneapbfomhalpaaGreatDoorRows
import GoSem.ClaimSeven
namespace Go.Proofs.YtneapbfomhalpaaGreatDoor
namespace Rows

/-- THE TIED CARD OF 'laws.FnExactValuePut'. -/
def fnExactValuePutCard : Claim7 := { stood := { row := fnExactValuePutRow, standIns := [], harness := (true, "c01de68fb86b8b0cfb8e59a8ceb7213681eb22876fe9ffc3ec75225f70ea5e81"), looks := false }, kinds := [], alts := [], laidByText := true, laidKinds := [.data, .data, .data, .data, .pinned], laidTests := true, laidLooks := .later }
def FnExactValuePutCardSaid : Prop := Claim7.holds Tryz.pinned (.plain (OpenSpec.ofChange fnExactValuePutSpec)) fnExactValuePutCard

/-- THE TIED CARD OF 'laws.FnExactRowPut'. -/
def fnExactRowPutCard : Claim7 := { stood := { row := fnExactRowPutRow, standIns := [], harness := (true, "c01de68fb86b8b0cfb8e59a8ceb7213681eb22876fe9ffc3ec75225f70ea5e81"), looks := false }, kinds := [], alts := [], laidByText := true, laidKinds := [.data, .data, .data, .data, .pinned], laidTests := true, laidLooks := .later }
def FnExactRowPutCardSaid : Prop := Claim7.holds Tryz.pinned (.plain (OpenSpec.ofChange fnExactRowPutSpec)) fnExactRowPutCard

/-- THE SECOND FORM's CARD OF 'laws.FnExactValuePut'. -/
def fnExactValuePutUptoCard : Claim7 := { stood := { row := fnExactValuePutUptoRow, standIns := [], harness := (true, "c01de68fb86b8b0cfb8e59a8ceb7213681eb22876fe9ffc3ec75225f70ea5e81"), looks := false }, kinds := [], alts := [], laidByText := true, laidKinds := [.data, .data, .data, .data, .pinned], laidTests := true, laidLooks := .later }
def FnExactValuePutUptoCardSaid : Prop := Claim7.holds Tryz.pinned (.plain (OpenSpec.upto fnExactValuePutSpec)) fnExactValuePutUptoCard

/-- THE SECOND FORM's CARD OF 'laws.FnExactRowPut'. -/
def fnExactRowPutUptoCard : Claim7 := { stood := { row := fnExactRowPutUptoRow, standIns := [], harness := (true, "c01de68fb86b8b0cfb8e59a8ceb7213681eb22876fe9ffc3ec75225f70ea5e81"), looks := false }, kinds := [], alts := [], laidByText := true, laidKinds := [.data, .data, .data, .data, .pinned], laidTests := true, laidLooks := .later }
def FnExactRowPutUptoCardSaid : Prop := Claim7.holds Tryz.pinned (.plain (OpenSpec.upto fnExactRowPutSpec)) fnExactRowPutUptoCard
end Rows
end Go.Proofs.YtneapbfomhalpaaGreatDoor

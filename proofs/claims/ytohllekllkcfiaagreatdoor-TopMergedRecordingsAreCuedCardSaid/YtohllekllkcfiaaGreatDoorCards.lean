/-
  DERIVED. GIVEN WITH THE SEED: THE CARDS: each row of YtohllekllkcfiaaGreatDoorRows.lean that lists a variable, with what it lists TIED to the program's text (the seventh form; the later family's looks); each row that meets fmt, with fmt's text TOLD by the authors' own Lean function (tested against real Go, not proved from fmt's source: count such statements apart). THE CARD IS WHAT COUNTS. Prove the row's statement (the work); the ties are given (YtohllekllkcfiaaGreatDoorTie.lean); close each card by the builder's one call (the guide's Derived/Test/ToyasCard.lean, 'card_holds'). Laid BY PROGRAM, IN A SANDBOX (cutbox-door.mjs). By AI agents, Wed Nov 11 2026. No macro, syntax, notation, axiom, sorry.
-/
import Derived.Test.YtohllekllkcfiaaGreatDoorRows
import GoSem.ClaimSeven
namespace Go.Proofs.YtohllekllkcfiaaGreatDoor
namespace Rows

/-- THE TIED CARD OF 'deadwaxtop.TopMergedRecordingsAreCued'. -/
def topMergedRecordingsAreCuedCard : Claim7 := { stood := { row := topMergedRecordingsAreCuedRow, standIns := [], harness := (true, "4607a1fce1397bb6aa8dbe10cf647f1872efd91cdbb297e2983a8dd40035c7ee"), looks := false }, kinds := [], alts := [], laidByText := true, laidKinds := [.data, .pinned], laidTests := true, laidLooks := .later }
def TopMergedRecordingsAreCuedCardSaid : Prop := Claim7.holds Tryz.pinned (.plain (OpenSpec.ofChange topMergedRecordingsAreCuedSpec)) topMergedRecordingsAreCuedCard

/-- THE SECOND FORM's CARD OF 'deadwaxtop.TopMergedRecordingsAreCued'. -/
def topMergedRecordingsAreCuedUptoCard : Claim7 := { stood := { row := topMergedRecordingsAreCuedUptoRow, standIns := [], harness := (true, "4607a1fce1397bb6aa8dbe10cf647f1872efd91cdbb297e2983a8dd40035c7ee"), looks := false }, kinds := [], alts := [], laidByText := true, laidKinds := [.data, .pinned], laidTests := true, laidLooks := .later }
def TopMergedRecordingsAreCuedUptoCardSaid : Prop := Claim7.holds Tryz.pinned (.plain (OpenSpec.upto topMergedRecordingsAreCuedSpec)) topMergedRecordingsAreCuedUptoCard
end Rows
end Go.Proofs.YtohllekllkcfiaaGreatDoor

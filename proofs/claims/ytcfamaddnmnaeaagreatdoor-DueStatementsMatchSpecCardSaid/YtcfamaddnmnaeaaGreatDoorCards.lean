/-
  DERIVED. GIVEN WITH THE SEED: THE CARDS: each row of YtcfamaddnmnaeaaGreatDoorRows.lean that lists a variable, with what it lists TIED to the program's text (the seventh form; the later family's looks); each row that meets fmt, with fmt's text TOLD by the authors' own Lean function (tested against real Go, not proved from fmt's source: count such statements apart). THE CARD IS WHAT COUNTS. Prove the row's statement (the work); the ties are given (YtcfamaddnmnaeaaGreatDoorTie.lean); close each card by the builder's one call (the guide's Derived/Test/ToyasCard.lean, 'card_holds'). Laid BY PROGRAM, IN A SANDBOX (cutbox-door.mjs). By AI agents, Wed Nov 11 2026. No macro, syntax, notation, axiom, sorry.
-/
import Derived.Test.YtcfamaddnmnaeaaGreatDoorRows
import GoSem.ClaimSeven
namespace Go.Proofs.YtcfamaddnmnaeaaGreatDoor
namespace Rows

/-- THE TIED CARD OF 'deadwaxlaw8.DueReadsMatchSpec'. -/
def dueReadsMatchSpecCard : Claim7 := { stood := { row := dueReadsMatchSpecRow, standIns := [], harness := (true, "4627fe8932d896413005d5d12172095599da897764394c032f7478550bdb9b02"), looks := true }, kinds := [], alts := [], laidByText := true, laidKinds := [.data, .data, .data, .data, .sentinel, .sentinel, .pinned], laidTests := true, laidLooks := .later }
def DueReadsMatchSpecCardSaid : Prop := Claim7.holds Tryz.pinned (.plain (OpenSpec.ofChange dueReadsMatchSpecSpec)) dueReadsMatchSpecCard

/-- THE TIED CARD OF 'deadwaxlaw8.DueTextsMatchSpec'. -/
def dueTextsMatchSpecCard : Claim7 := { stood := { row := dueTextsMatchSpecRow, standIns := [], harness := (true, "4627fe8932d896413005d5d12172095599da897764394c032f7478550bdb9b02"), looks := true }, kinds := [], alts := [], laidByText := true, laidKinds := [.data, .data, .data, .data, .sentinel, .sentinel, .pinned], laidTests := true, laidLooks := .later }
def DueTextsMatchSpecCardSaid : Prop := Claim7.holds Tryz.pinned (.plain (OpenSpec.ofChange dueTextsMatchSpecSpec)) dueTextsMatchSpecCard

/-- THE TIED CARD OF 'deadwaxlaw8.DueStatementsMatchSpec'. -/
def dueStatementsMatchSpecCard : Claim7 := { stood := { row := dueStatementsMatchSpecRow, standIns := [], harness := (true, "4627fe8932d896413005d5d12172095599da897764394c032f7478550bdb9b02"), looks := true }, kinds := [], alts := [], laidByText := true, laidKinds := [.data, .pinned], laidTests := true, laidLooks := .later }
def DueStatementsMatchSpecCardSaid : Prop := Claim7.holds Tryz.pinned (.plain (OpenSpec.ofChange dueStatementsMatchSpecSpec)) dueStatementsMatchSpecCard

/-- THE TIED CARD OF 'deadwaxlaw8.DueOwesNothingNew'. -/
def dueOwesNothingNewCard : Claim7 := { stood := { row := dueOwesNothingNewRow, standIns := [], harness := (true, "4627fe8932d896413005d5d12172095599da897764394c032f7478550bdb9b02"), looks := true }, kinds := [], alts := [], laidByText := true, laidKinds := [.data, .pinned], laidTests := true, laidLooks := .later }
def DueOwesNothingNewCardSaid : Prop := Claim7.holds Tryz.pinned (.plain (OpenSpec.ofChange dueOwesNothingNewSpec)) dueOwesNothingNewCard

/-- THE TIED CARD OF 'deadwaxlaw8.DuePaysOnce'. -/
def duePaysOnceCard : Claim7 := { stood := { row := duePaysOnceRow, standIns := [], harness := (true, "4627fe8932d896413005d5d12172095599da897764394c032f7478550bdb9b02"), looks := true }, kinds := [], alts := [], laidByText := true, laidKinds := [.data, .pinned], laidTests := true, laidLooks := .later }
def DuePaysOnceCardSaid : Prop := Claim7.holds Tryz.pinned (.plain (OpenSpec.ofChange duePaysOnceSpec)) duePaysOnceCard

/-- THE SECOND FORM's CARD OF 'deadwaxlaw8.DueReadsMatchSpec'. -/
def dueReadsMatchSpecUptoCard : Claim7 := { stood := { row := dueReadsMatchSpecUptoRow, standIns := [], harness := (true, "4627fe8932d896413005d5d12172095599da897764394c032f7478550bdb9b02"), looks := true }, kinds := [], alts := [], laidByText := true, laidKinds := [.data, .data, .data, .data, .sentinel, .sentinel, .pinned], laidTests := true, laidLooks := .later }
def DueReadsMatchSpecUptoCardSaid : Prop := Claim7.holds Tryz.pinned (.plain (OpenSpec.upto dueReadsMatchSpecSpec)) dueReadsMatchSpecUptoCard

/-- THE SECOND FORM's CARD OF 'deadwaxlaw8.DueTextsMatchSpec'. -/
def dueTextsMatchSpecUptoCard : Claim7 := { stood := { row := dueTextsMatchSpecUptoRow, standIns := [], harness := (true, "4627fe8932d896413005d5d12172095599da897764394c032f7478550bdb9b02"), looks := true }, kinds := [], alts := [], laidByText := true, laidKinds := [.data, .data, .data, .data, .sentinel, .sentinel, .pinned], laidTests := true, laidLooks := .later }
def DueTextsMatchSpecUptoCardSaid : Prop := Claim7.holds Tryz.pinned (.plain (OpenSpec.upto dueTextsMatchSpecSpec)) dueTextsMatchSpecUptoCard

/-- THE SECOND FORM's CARD OF 'deadwaxlaw8.DueStatementsMatchSpec'. -/
def dueStatementsMatchSpecUptoCard : Claim7 := { stood := { row := dueStatementsMatchSpecUptoRow, standIns := [], harness := (true, "4627fe8932d896413005d5d12172095599da897764394c032f7478550bdb9b02"), looks := true }, kinds := [], alts := [], laidByText := true, laidKinds := [.data, .pinned], laidTests := true, laidLooks := .later }
def DueStatementsMatchSpecUptoCardSaid : Prop := Claim7.holds Tryz.pinned (.plain (OpenSpec.upto dueStatementsMatchSpecSpec)) dueStatementsMatchSpecUptoCard

/-- THE SECOND FORM's CARD OF 'deadwaxlaw8.DueOwesNothingNew'. -/
def dueOwesNothingNewUptoCard : Claim7 := { stood := { row := dueOwesNothingNewUptoRow, standIns := [], harness := (true, "4627fe8932d896413005d5d12172095599da897764394c032f7478550bdb9b02"), looks := true }, kinds := [], alts := [], laidByText := true, laidKinds := [.data, .pinned], laidTests := true, laidLooks := .later }
def DueOwesNothingNewUptoCardSaid : Prop := Claim7.holds Tryz.pinned (.plain (OpenSpec.upto dueOwesNothingNewSpec)) dueOwesNothingNewUptoCard

/-- THE SECOND FORM's CARD OF 'deadwaxlaw8.DuePaysOnce'. -/
def duePaysOnceUptoCard : Claim7 := { stood := { row := duePaysOnceUptoRow, standIns := [], harness := (true, "4627fe8932d896413005d5d12172095599da897764394c032f7478550bdb9b02"), looks := true }, kinds := [], alts := [], laidByText := true, laidKinds := [.data, .pinned], laidTests := true, laidLooks := .later }
def DuePaysOnceUptoCardSaid : Prop := Claim7.holds Tryz.pinned (.plain (OpenSpec.upto duePaysOnceSpec)) duePaysOnceUptoCard
end Rows
end Go.Proofs.YtcfamaddnmnaeaaGreatDoor

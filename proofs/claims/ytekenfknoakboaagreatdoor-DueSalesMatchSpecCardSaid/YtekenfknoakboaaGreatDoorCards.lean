/-
  DERIVED. GIVEN WITH THE SEED: THE CARDS: each row of YtekenfknoakboaaGreatDoorRows.lean that lists a variable, with what it lists TIED to the program's text (the seventh form; the later family's looks); each row that meets fmt, with fmt's text TOLD by the authors' own Lean function (tested against real Go, not proved from fmt's source: count such statements apart). THE CARD IS WHAT COUNTS. Prove the row's statement (the work); the ties are given (YtekenfknoakboaaGreatDoorTie.lean); close each card by the builder's one call (the guide's Derived/Test/ToyasCard.lean, 'card_holds'). Laid BY PROGRAM, IN A SANDBOX (cutbox-door.mjs). By AI agents, Wed Nov 11 2026. No macro, syntax, notation, axiom, sorry.
-/
import Derived.Test.YtekenfknoakboaaGreatDoorRows
import GoSem.ClaimSeven
namespace Go.Proofs.YtekenfknoakboaaGreatDoor
namespace Rows

/-- THE TIED CARD OF 'deadwaxlaw8.DueSalesMatchSpec'. -/
def dueSalesMatchSpecCard : Claim7 := { stood := { row := dueSalesMatchSpecRow, standIns := [], harness := (true, "d9aeba2ad648f6f84b150374273b5289680a02f985e7d5f2ca29564f5b7dc183"), looks := false }, kinds := [], alts := [], laidByText := true, laidKinds := [.data, .pinned], laidTests := true, laidLooks := .later }
def DueSalesMatchSpecCardSaid : Prop := Claim7.holds Tryz.pinned (.plain (OpenSpec.ofChange dueSalesMatchSpecSpec)) dueSalesMatchSpecCard

/-- THE TIED CARD OF 'deadwaxlaw8.DueStatementsMatchSpec'. -/
def dueStatementsMatchSpecCard : Claim7 := { stood := { row := dueStatementsMatchSpecRow, standIns := [], harness := (true, "d9aeba2ad648f6f84b150374273b5289680a02f985e7d5f2ca29564f5b7dc183"), looks := false }, kinds := [], alts := [], laidByText := true, laidKinds := [.data, .pinned], laidTests := true, laidLooks := .later }
def DueStatementsMatchSpecCardSaid : Prop := Claim7.holds Tryz.pinned (.plain (OpenSpec.ofChange dueStatementsMatchSpecSpec)) dueStatementsMatchSpecCard

/-- THE TIED CARD OF 'deadwaxlaw8.DueOwesNothingNew'. -/
def dueOwesNothingNewCard : Claim7 := { stood := { row := dueOwesNothingNewRow, standIns := [], harness := (true, "d9aeba2ad648f6f84b150374273b5289680a02f985e7d5f2ca29564f5b7dc183"), looks := false }, kinds := [], alts := [], laidByText := true, laidKinds := [.data, .pinned], laidTests := true, laidLooks := .later }
def DueOwesNothingNewCardSaid : Prop := Claim7.holds Tryz.pinned (.plain (OpenSpec.ofChange dueOwesNothingNewSpec)) dueOwesNothingNewCard

/-- THE TIED CARD OF 'deadwaxlaw8.DuePaysOnce'. -/
def duePaysOnceCard : Claim7 := { stood := { row := duePaysOnceRow, standIns := [], harness := (true, "d9aeba2ad648f6f84b150374273b5289680a02f985e7d5f2ca29564f5b7dc183"), looks := false }, kinds := [], alts := [], laidByText := true, laidKinds := [.data, .pinned], laidTests := true, laidLooks := .later }
def DuePaysOnceCardSaid : Prop := Claim7.holds Tryz.pinned (.plain (OpenSpec.ofChange duePaysOnceSpec)) duePaysOnceCard

/-- THE SECOND FORM's CARD OF 'deadwaxlaw8.DueSalesMatchSpec'. -/
def dueSalesMatchSpecUptoCard : Claim7 := { stood := { row := dueSalesMatchSpecUptoRow, standIns := [], harness := (true, "d9aeba2ad648f6f84b150374273b5289680a02f985e7d5f2ca29564f5b7dc183"), looks := false }, kinds := [], alts := [], laidByText := true, laidKinds := [.data, .pinned], laidTests := true, laidLooks := .later }
def DueSalesMatchSpecUptoCardSaid : Prop := Claim7.holds Tryz.pinned (.plain (OpenSpec.upto dueSalesMatchSpecSpec)) dueSalesMatchSpecUptoCard

/-- THE SECOND FORM's CARD OF 'deadwaxlaw8.DueStatementsMatchSpec'. -/
def dueStatementsMatchSpecUptoCard : Claim7 := { stood := { row := dueStatementsMatchSpecUptoRow, standIns := [], harness := (true, "d9aeba2ad648f6f84b150374273b5289680a02f985e7d5f2ca29564f5b7dc183"), looks := false }, kinds := [], alts := [], laidByText := true, laidKinds := [.data, .pinned], laidTests := true, laidLooks := .later }
def DueStatementsMatchSpecUptoCardSaid : Prop := Claim7.holds Tryz.pinned (.plain (OpenSpec.upto dueStatementsMatchSpecSpec)) dueStatementsMatchSpecUptoCard

/-- THE SECOND FORM's CARD OF 'deadwaxlaw8.DueOwesNothingNew'. -/
def dueOwesNothingNewUptoCard : Claim7 := { stood := { row := dueOwesNothingNewUptoRow, standIns := [], harness := (true, "d9aeba2ad648f6f84b150374273b5289680a02f985e7d5f2ca29564f5b7dc183"), looks := false }, kinds := [], alts := [], laidByText := true, laidKinds := [.data, .pinned], laidTests := true, laidLooks := .later }
def DueOwesNothingNewUptoCardSaid : Prop := Claim7.holds Tryz.pinned (.plain (OpenSpec.upto dueOwesNothingNewSpec)) dueOwesNothingNewUptoCard

/-- THE SECOND FORM's CARD OF 'deadwaxlaw8.DuePaysOnce'. -/
def duePaysOnceUptoCard : Claim7 := { stood := { row := duePaysOnceUptoRow, standIns := [], harness := (true, "d9aeba2ad648f6f84b150374273b5289680a02f985e7d5f2ca29564f5b7dc183"), looks := false }, kinds := [], alts := [], laidByText := true, laidKinds := [.data, .pinned], laidTests := true, laidLooks := .later }
def DuePaysOnceUptoCardSaid : Prop := Claim7.holds Tryz.pinned (.plain (OpenSpec.upto duePaysOnceSpec)) duePaysOnceUptoCard
end Rows
end Go.Proofs.YtekenfknoakboaaGreatDoor

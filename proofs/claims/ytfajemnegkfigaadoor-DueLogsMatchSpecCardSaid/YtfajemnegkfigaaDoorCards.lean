/-
  DERIVED. GIVEN WITH THE SEED: THE CARDS: each row of YtfajemnegkfigaaDoorRows.lean that lists a variable, with what it lists TIED to the program's text (the seventh form; the later family's looks); each row that meets fmt, with fmt's text TOLD by the authors' own Lean function (tested against real Go, not proved from fmt's source: count such statements apart). THE CARD IS WHAT COUNTS. Prove the row's statement (the work); the ties are given (YtfajemnegkfigaaDoorTie.lean); close each card by the builder's one call (the guide's Derived/Test/ToyasCard.lean, 'card_holds'). Laid BY PROGRAM, IN A SANDBOX (cutbox-door.mjs). By AI agents, Wed Nov 11 2026. No macro, syntax, notation, axiom, sorry.
-/
import Derived.Test.YtfajemnegkfigaaDoorRows
import GoSem.ClaimSeven
namespace Go.Proofs.YtfajemnegkfigaaDoor
namespace Rows

/-- THE TIED CARD OF 'deadwaxlaw8.DueContractsMatchSpec'. -/
def dueContractsMatchSpecCard : Claim7 := { stood := { row := dueContractsMatchSpecRow, standIns := [], harness := (true, "badec47bf986fc73de4889e501f71c3cd6848aac5a1bb02f1d414503d7f250bb"), looks := false }, kinds := [], alts := [], laidByText := true, laidKinds := [.data, .pinned], laidTests := true, laidLooks := .later }
def DueContractsMatchSpecCardSaid : Prop := Claim7.holds Tryd.pinned (.plain (OpenSpec.ofChange dueContractsMatchSpecSpec)) dueContractsMatchSpecCard

/-- THE TIED CARD OF 'deadwaxlaw8.DueLogsJoinInAnyOrder'. -/
def dueLogsJoinInAnyOrderCard : Claim7 := { stood := { row := dueLogsJoinInAnyOrderRow, standIns := [], harness := (true, "badec47bf986fc73de4889e501f71c3cd6848aac5a1bb02f1d414503d7f250bb"), looks := false }, kinds := [], alts := [], laidByText := true, laidKinds := [.data, .pinned], laidTests := true, laidLooks := .later }
def DueLogsJoinInAnyOrderCardSaid : Prop := Claim7.holds Tryd.pinned (.plain (OpenSpec.ofChange dueLogsJoinInAnyOrderSpec)) dueLogsJoinInAnyOrderCard

/-- THE TIED CARD OF 'deadwaxlaw8.DueLogsMatchSpec'. -/
def dueLogsMatchSpecCard : Claim7 := { stood := { row := dueLogsMatchSpecRow, standIns := [], harness := (true, "badec47bf986fc73de4889e501f71c3cd6848aac5a1bb02f1d414503d7f250bb"), looks := false }, kinds := [], alts := [], laidByText := true, laidKinds := [.data, .pinned], laidTests := true, laidLooks := .later }
def DueLogsMatchSpecCardSaid : Prop := Claim7.holds Tryd.pinned (.plain (OpenSpec.ofChange dueLogsMatchSpecSpec)) dueLogsMatchSpecCard

/-- THE SECOND FORM's CARD OF 'deadwaxlaw8.DueContractsMatchSpec'. -/
def dueContractsMatchSpecUptoCard : Claim7 := { stood := { row := dueContractsMatchSpecUptoRow, standIns := [], harness := (true, "badec47bf986fc73de4889e501f71c3cd6848aac5a1bb02f1d414503d7f250bb"), looks := false }, kinds := [], alts := [], laidByText := true, laidKinds := [.data, .pinned], laidTests := true, laidLooks := .later }
def DueContractsMatchSpecUptoCardSaid : Prop := Claim7.holds Tryd.pinned (.plain (OpenSpec.upto dueContractsMatchSpecSpec)) dueContractsMatchSpecUptoCard

/-- THE SECOND FORM's CARD OF 'deadwaxlaw8.DueLogsJoinInAnyOrder'. -/
def dueLogsJoinInAnyOrderUptoCard : Claim7 := { stood := { row := dueLogsJoinInAnyOrderUptoRow, standIns := [], harness := (true, "badec47bf986fc73de4889e501f71c3cd6848aac5a1bb02f1d414503d7f250bb"), looks := false }, kinds := [], alts := [], laidByText := true, laidKinds := [.data, .pinned], laidTests := true, laidLooks := .later }
def DueLogsJoinInAnyOrderUptoCardSaid : Prop := Claim7.holds Tryd.pinned (.plain (OpenSpec.upto dueLogsJoinInAnyOrderSpec)) dueLogsJoinInAnyOrderUptoCard

/-- THE SECOND FORM's CARD OF 'deadwaxlaw8.DueLogsMatchSpec'. -/
def dueLogsMatchSpecUptoCard : Claim7 := { stood := { row := dueLogsMatchSpecUptoRow, standIns := [], harness := (true, "badec47bf986fc73de4889e501f71c3cd6848aac5a1bb02f1d414503d7f250bb"), looks := false }, kinds := [], alts := [], laidByText := true, laidKinds := [.data, .pinned], laidTests := true, laidLooks := .later }
def DueLogsMatchSpecUptoCardSaid : Prop := Claim7.holds Tryd.pinned (.plain (OpenSpec.upto dueLogsMatchSpecSpec)) dueLogsMatchSpecUptoCard
end Rows
end Go.Proofs.YtfajemnegkfigaaDoor

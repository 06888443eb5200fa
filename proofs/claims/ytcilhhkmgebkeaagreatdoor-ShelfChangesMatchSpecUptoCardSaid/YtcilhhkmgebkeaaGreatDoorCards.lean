/-
  DERIVED. GIVEN WITH THE SEED: THE CARDS: each row of YtcilhhkmgebkeaaGreatDoorRows.lean that lists a variable, with what it lists TIED to the program's text (the seventh form; the later family's looks); each row that meets fmt, with fmt's text TOLD by the authors' own Lean function (tested against real Go, not proved from fmt's source: count such statements apart). THE CARD IS WHAT COUNTS. Prove the row's statement (the work); the ties are given (YtcilhhkmgebkeaaGreatDoorTie.lean); close each card by the builder's one call (the guide's Derived/Test/ToyasCard.lean, 'card_holds'). Laid BY PROGRAM, IN A SANDBOX (cutbox-door.mjs). By AI agents, Wed Nov 11 2026. No macro, syntax, notation, axiom, sorry.
-/
import Derived.Test.YtcilhhkmgebkeaaGreatDoorRows
import GoSem.ClaimSeven
namespace Go.Proofs.YtcilhhkmgebkeaaGreatDoor
namespace Rows

/-- THE TIED CARD OF 'deadwaxlaw6.ShelfChangesGoBack'. -/
def shelfChangesGoBackCard : Claim7 := { stood := { row := shelfChangesGoBackRow, standIns := [], harness := (true, "2f3f15660db43c59e39d6219e5cf752b61f493c497bdc40ac9877ef236e54215"), looks := false }, kinds := [], alts := [], laidByText := true, laidKinds := [.data, .pinned], laidTests := true, laidLooks := .later }
def ShelfChangesGoBackCardSaid : Prop := Claim7.holds Tryz.pinned (.plain (OpenSpec.ofChange shelfChangesGoBackSpec)) shelfChangesGoBackCard

/-- THE TIED CARD OF 'deadwaxlaw6.ShelfDiffersMatchSpec'. -/
def shelfDiffersMatchSpecCard : Claim7 := { stood := { row := shelfDiffersMatchSpecRow, standIns := [], harness := (true, "2f3f15660db43c59e39d6219e5cf752b61f493c497bdc40ac9877ef236e54215"), looks := false }, kinds := [], alts := [], laidByText := true, laidKinds := [.data, .pinned], laidTests := true, laidLooks := .later }
def ShelfDiffersMatchSpecCardSaid : Prop := Claim7.holds Tryz.pinned (.plain (OpenSpec.ofChange shelfDiffersMatchSpecSpec)) shelfDiffersMatchSpecCard

/-- THE TIED CARD OF 'deadwaxlaw6.ShelfChangesCompose'. -/
def shelfChangesComposeCard : Claim7 := { stood := { row := shelfChangesComposeRow, standIns := [], harness := (true, "2f3f15660db43c59e39d6219e5cf752b61f493c497bdc40ac9877ef236e54215"), looks := false }, kinds := [], alts := [], laidByText := true, laidKinds := [.data, .pinned], laidTests := true, laidLooks := .later }
def ShelfChangesComposeCardSaid : Prop := Claim7.holds Tryz.pinned (.plain (OpenSpec.ofChange shelfChangesComposeSpec)) shelfChangesComposeCard

/-- THE TIED CARD OF 'deadwaxlaw6.ShelfChangesMatchSpec'. -/
def shelfChangesMatchSpecCard : Claim7 := { stood := { row := shelfChangesMatchSpecRow, standIns := [], harness := (true, "2f3f15660db43c59e39d6219e5cf752b61f493c497bdc40ac9877ef236e54215"), looks := false }, kinds := [], alts := [], laidByText := true, laidKinds := [.data, .pinned], laidTests := true, laidLooks := .later }
def ShelfChangesMatchSpecCardSaid : Prop := Claim7.holds Tryz.pinned (.plain (OpenSpec.ofChange shelfChangesMatchSpecSpec)) shelfChangesMatchSpecCard

/-- THE SECOND FORM's CARD OF 'deadwaxlaw6.ShelfChangesGoBack'. -/
def shelfChangesGoBackUptoCard : Claim7 := { stood := { row := shelfChangesGoBackUptoRow, standIns := [], harness := (true, "2f3f15660db43c59e39d6219e5cf752b61f493c497bdc40ac9877ef236e54215"), looks := false }, kinds := [], alts := [], laidByText := true, laidKinds := [.data, .pinned], laidTests := true, laidLooks := .later }
def ShelfChangesGoBackUptoCardSaid : Prop := Claim7.holds Tryz.pinned (.plain (OpenSpec.upto shelfChangesGoBackSpec)) shelfChangesGoBackUptoCard

/-- THE SECOND FORM's CARD OF 'deadwaxlaw6.ShelfDiffersMatchSpec'. -/
def shelfDiffersMatchSpecUptoCard : Claim7 := { stood := { row := shelfDiffersMatchSpecUptoRow, standIns := [], harness := (true, "2f3f15660db43c59e39d6219e5cf752b61f493c497bdc40ac9877ef236e54215"), looks := false }, kinds := [], alts := [], laidByText := true, laidKinds := [.data, .pinned], laidTests := true, laidLooks := .later }
def ShelfDiffersMatchSpecUptoCardSaid : Prop := Claim7.holds Tryz.pinned (.plain (OpenSpec.upto shelfDiffersMatchSpecSpec)) shelfDiffersMatchSpecUptoCard

/-- THE SECOND FORM's CARD OF 'deadwaxlaw6.ShelfChangesCompose'. -/
def shelfChangesComposeUptoCard : Claim7 := { stood := { row := shelfChangesComposeUptoRow, standIns := [], harness := (true, "2f3f15660db43c59e39d6219e5cf752b61f493c497bdc40ac9877ef236e54215"), looks := false }, kinds := [], alts := [], laidByText := true, laidKinds := [.data, .pinned], laidTests := true, laidLooks := .later }
def ShelfChangesComposeUptoCardSaid : Prop := Claim7.holds Tryz.pinned (.plain (OpenSpec.upto shelfChangesComposeSpec)) shelfChangesComposeUptoCard

/-- THE SECOND FORM's CARD OF 'deadwaxlaw6.ShelfChangesMatchSpec'. -/
def shelfChangesMatchSpecUptoCard : Claim7 := { stood := { row := shelfChangesMatchSpecUptoRow, standIns := [], harness := (true, "2f3f15660db43c59e39d6219e5cf752b61f493c497bdc40ac9877ef236e54215"), looks := false }, kinds := [], alts := [], laidByText := true, laidKinds := [.data, .pinned], laidTests := true, laidLooks := .later }
def ShelfChangesMatchSpecUptoCardSaid : Prop := Claim7.holds Tryz.pinned (.plain (OpenSpec.upto shelfChangesMatchSpecSpec)) shelfChangesMatchSpecUptoCard
end Rows
end Go.Proofs.YtcilhhkmgebkeaaGreatDoor

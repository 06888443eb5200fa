/-
  DERIVED. GIVEN WITH THE SEED: THE CARDS: each row of YtfjnbgldlnanhaaDoorRows.lean that lists a variable, with what it lists TIED to the program's text (the seventh form; the later family's looks); each row that meets fmt, with fmt's text TOLD by the authors' own Lean function (tested against real Go, not proved from fmt's source: count such statements apart). THE CARD IS WHAT COUNTS. Prove the row's statement (the work); the ties are given (YtfjnbgldlnanhaaDoorTie.lean); close each card by the builder's one call (the guide's Derived/Test/ToyasCard.lean, 'card_holds'). Laid BY PROGRAM, IN A SANDBOX (cutbox-door.mjs). By AI agents, Wed Nov 11 2026. No macro, syntax, notation, axiom, sorry.
-/
import Derived.Test.YtfjnbgldlnanhaaDoorRows
import GoSem.ClaimSeven
namespace Go.Proofs.YtfjnbgldlnanhaaDoor
namespace Rows

/-- THE TIED CARD OF 'deadwaxlaw6.ShelfCatalogsMatchSpec'. -/
def shelfCatalogsMatchSpecCard : Claim7 := { stood := { row := shelfCatalogsMatchSpecRow, standIns := [], harness := (true, "6c8cd9fa6a52f6186533472f085aee3602086054a57678fe4f4b725982c27b62"), looks := false }, kinds := [], alts := [], laidByText := true, laidKinds := [.data, .pinned], laidTests := true, laidLooks := .later }
def ShelfCatalogsMatchSpecCardSaid : Prop := Claim7.holds Tryd.pinned (.plain (OpenSpec.ofChange shelfCatalogsMatchSpecSpec)) shelfCatalogsMatchSpecCard

/-- THE SECOND FORM's CARD OF 'deadwaxlaw6.ShelfCatalogsMatchSpec'. -/
def shelfCatalogsMatchSpecUptoCard : Claim7 := { stood := { row := shelfCatalogsMatchSpecUptoRow, standIns := [], harness := (true, "6c8cd9fa6a52f6186533472f085aee3602086054a57678fe4f4b725982c27b62"), looks := false }, kinds := [], alts := [], laidByText := true, laidKinds := [.data, .pinned], laidTests := true, laidLooks := .later }
def ShelfCatalogsMatchSpecUptoCardSaid : Prop := Claim7.holds Tryd.pinned (.plain (OpenSpec.upto shelfCatalogsMatchSpecSpec)) shelfCatalogsMatchSpecUptoCard
end Rows
end Go.Proofs.YtfjnbgldlnanhaaDoor

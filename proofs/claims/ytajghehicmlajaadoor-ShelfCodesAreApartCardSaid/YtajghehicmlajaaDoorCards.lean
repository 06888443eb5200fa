/-
  DERIVED. GIVEN WITH THE SEED: THE CARDS: each row of YtajghehicmlajaaDoorRows.lean that lists a variable, with what it lists TIED to the program's text (the seventh form; the later family's looks); each row that meets fmt, with fmt's text TOLD by the authors' own Lean function (tested against real Go, not proved from fmt's source: count such statements apart). THE CARD IS WHAT COUNTS. Prove the row's statement (the work); the ties are given (YtajghehicmlajaaDoorTie.lean); close each card by the builder's one call (the guide's Derived/Test/ToyasCard.lean, 'card_holds'). Laid BY PROGRAM, IN A SANDBOX (cutbox-door.mjs). By AI agents, Wed Nov 11 2026. No macro, syntax, notation, axiom, sorry.
-/
import Derived.Test.YtajghehicmlajaaDoorRows
import GoSem.ClaimSeven
namespace Go.Proofs.YtajghehicmlajaaDoor
namespace Rows

/-- THE TIED CARD OF 'deadwaxlaw6.ShelfFoldsMatchSpec'. -/
def shelfFoldsMatchSpecCard : Claim7 := { stood := { row := shelfFoldsMatchSpecRow, standIns := [], harness := (true, "a8f680f5f0d9aee8698d382f6d5d9d50a9cc3461291ca664743f3a32f90351fd"), looks := false }, kinds := [], alts := [], laidByText := true, laidKinds := [.listed, .data], laidTests := true, laidLooks := .later }
def ShelfFoldsMatchSpecCardSaid : Prop := Claim7.holds Tryd.pinned (.plain (OpenSpec.ofChange shelfFoldsMatchSpecSpec)) shelfFoldsMatchSpecCard

/-- THE TIED CARD OF 'deadwaxlaw6.ShelfCodesAreApart'. -/
def shelfCodesAreApartCard : Claim7 := { stood := { row := shelfCodesAreApartRow, standIns := [], harness := (true, "a8f680f5f0d9aee8698d382f6d5d9d50a9cc3461291ca664743f3a32f90351fd"), looks := false }, kinds := [], alts := [], laidByText := true, laidKinds := [.data, .pinned], laidTests := true, laidLooks := .later }
def ShelfCodesAreApartCardSaid : Prop := Claim7.holds Tryd.pinned (.plain (OpenSpec.ofChange shelfCodesAreApartSpec)) shelfCodesAreApartCard

/-- THE TIED CARD OF 'deadwaxlaw6.ShelfCodesMatchSpec'. -/
def shelfCodesMatchSpecCard : Claim7 := { stood := { row := shelfCodesMatchSpecRow, standIns := [], harness := (true, "a8f680f5f0d9aee8698d382f6d5d9d50a9cc3461291ca664743f3a32f90351fd"), looks := false }, kinds := [], alts := [], laidByText := true, laidKinds := [.data, .pinned], laidTests := true, laidLooks := .later }
def ShelfCodesMatchSpecCardSaid : Prop := Claim7.holds Tryd.pinned (.plain (OpenSpec.ofChange shelfCodesMatchSpecSpec)) shelfCodesMatchSpecCard

/-- THE SECOND FORM's CARD OF 'deadwaxlaw6.ShelfFoldsMatchSpec'. -/
def shelfFoldsMatchSpecUptoCard : Claim7 := { stood := { row := shelfFoldsMatchSpecUptoRow, standIns := [], harness := (true, "a8f680f5f0d9aee8698d382f6d5d9d50a9cc3461291ca664743f3a32f90351fd"), looks := false }, kinds := [], alts := [], laidByText := true, laidKinds := [.listed, .data], laidTests := true, laidLooks := .later }
def ShelfFoldsMatchSpecUptoCardSaid : Prop := Claim7.holds Tryd.pinned (.plain (OpenSpec.upto shelfFoldsMatchSpecSpec)) shelfFoldsMatchSpecUptoCard

/-- THE SECOND FORM's CARD OF 'deadwaxlaw6.ShelfCodesAreApart'. -/
def shelfCodesAreApartUptoCard : Claim7 := { stood := { row := shelfCodesAreApartUptoRow, standIns := [], harness := (true, "a8f680f5f0d9aee8698d382f6d5d9d50a9cc3461291ca664743f3a32f90351fd"), looks := false }, kinds := [], alts := [], laidByText := true, laidKinds := [.data, .pinned], laidTests := true, laidLooks := .later }
def ShelfCodesAreApartUptoCardSaid : Prop := Claim7.holds Tryd.pinned (.plain (OpenSpec.upto shelfCodesAreApartSpec)) shelfCodesAreApartUptoCard

/-- THE SECOND FORM's CARD OF 'deadwaxlaw6.ShelfCodesMatchSpec'. -/
def shelfCodesMatchSpecUptoCard : Claim7 := { stood := { row := shelfCodesMatchSpecUptoRow, standIns := [], harness := (true, "a8f680f5f0d9aee8698d382f6d5d9d50a9cc3461291ca664743f3a32f90351fd"), looks := false }, kinds := [], alts := [], laidByText := true, laidKinds := [.data, .pinned], laidTests := true, laidLooks := .later }
def ShelfCodesMatchSpecUptoCardSaid : Prop := Claim7.holds Tryd.pinned (.plain (OpenSpec.upto shelfCodesMatchSpecSpec)) shelfCodesMatchSpecUptoCard
end Rows
end Go.Proofs.YtajghehicmlajaaDoor

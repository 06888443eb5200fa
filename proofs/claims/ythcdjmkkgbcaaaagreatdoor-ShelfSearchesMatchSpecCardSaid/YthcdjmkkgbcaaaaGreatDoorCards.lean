/-
  DERIVED. GIVEN WITH THE SEED: THE CARDS: each row of YthcdjmkkgbcaaaaGreatDoorRows.lean that lists a variable, with what it lists TIED to the program's text (the seventh form; the later family's looks); each row that meets fmt, with fmt's text TOLD by the authors' own Lean function (tested against real Go, not proved from fmt's source: count such statements apart). THE CARD IS WHAT COUNTS. Prove the row's statement (the work); the ties are given (YthcdjmkkgbcaaaaGreatDoorTie.lean); close each card by the builder's one call (the guide's Derived/Test/ToyasCard.lean, 'card_holds'). Laid BY PROGRAM, IN A SANDBOX (cutbox-door.mjs). By AI agents, Wed Nov 11 2026. No macro, syntax, notation, axiom, sorry.
-/
import Derived.Test.YthcdjmkkgbcaaaaGreatDoorRows
import GoSem.ClaimSeven
namespace Go.Proofs.YthcdjmkkgbcaaaaGreatDoor
namespace Rows

/-- THE TIED CARD OF 'deadwaxlaw6.ShelfReadsMatchSpec'. -/
def shelfReadsMatchSpecCard : Claim7 := { stood := { row := shelfReadsMatchSpecRow, standIns := [], harness := (true, "0c352084ddb9d91783a21b872534b58193220dbfd3de8996404152bd15047187"), looks := true }, kinds := [], alts := [], laidByText := true, laidKinds := [.data, .data, .data, .data, .sentinel, .sentinel, .pinned], laidTests := true, laidLooks := .later }
def ShelfReadsMatchSpecCardSaid : Prop := Claim7.holds Tryz.pinned (.plain (OpenSpec.ofChange shelfReadsMatchSpecSpec)) shelfReadsMatchSpecCard

/-- THE TIED CARD OF 'deadwaxlaw6.ShelfTextsMatchSpec'. -/
def shelfTextsMatchSpecCard : Claim7 := { stood := { row := shelfTextsMatchSpecRow, standIns := [], harness := (true, "0c352084ddb9d91783a21b872534b58193220dbfd3de8996404152bd15047187"), looks := true }, kinds := [], alts := [], laidByText := true, laidKinds := [.data, .data, .data, .data, .sentinel, .sentinel, .pinned], laidTests := true, laidLooks := .later }
def ShelfTextsMatchSpecCardSaid : Prop := Claim7.holds Tryz.pinned (.plain (OpenSpec.ofChange shelfTextsMatchSpecSpec)) shelfTextsMatchSpecCard

/-- THE TIED CARD OF 'deadwaxlaw6.ShelfSearchesMatchSpec'. -/
def shelfSearchesMatchSpecCard : Claim7 := { stood := { row := shelfSearchesMatchSpecRow, standIns := [], harness := (true, "0c352084ddb9d91783a21b872534b58193220dbfd3de8996404152bd15047187"), looks := true }, kinds := [], alts := [], laidByText := true, laidKinds := [.data, .listed, .data, .pinned], laidTests := true, laidLooks := .later }
def ShelfSearchesMatchSpecCardSaid : Prop := Claim7.holds Tryz.pinned (.plain (OpenSpec.ofChange shelfSearchesMatchSpecSpec)) shelfSearchesMatchSpecCard

/-- THE SECOND FORM's CARD OF 'deadwaxlaw6.ShelfReadsMatchSpec'. -/
def shelfReadsMatchSpecUptoCard : Claim7 := { stood := { row := shelfReadsMatchSpecUptoRow, standIns := [], harness := (true, "0c352084ddb9d91783a21b872534b58193220dbfd3de8996404152bd15047187"), looks := true }, kinds := [], alts := [], laidByText := true, laidKinds := [.data, .data, .data, .data, .sentinel, .sentinel, .pinned], laidTests := true, laidLooks := .later }
def ShelfReadsMatchSpecUptoCardSaid : Prop := Claim7.holds Tryz.pinned (.plain (OpenSpec.upto shelfReadsMatchSpecSpec)) shelfReadsMatchSpecUptoCard

/-- THE SECOND FORM's CARD OF 'deadwaxlaw6.ShelfTextsMatchSpec'. -/
def shelfTextsMatchSpecUptoCard : Claim7 := { stood := { row := shelfTextsMatchSpecUptoRow, standIns := [], harness := (true, "0c352084ddb9d91783a21b872534b58193220dbfd3de8996404152bd15047187"), looks := true }, kinds := [], alts := [], laidByText := true, laidKinds := [.data, .data, .data, .data, .sentinel, .sentinel, .pinned], laidTests := true, laidLooks := .later }
def ShelfTextsMatchSpecUptoCardSaid : Prop := Claim7.holds Tryz.pinned (.plain (OpenSpec.upto shelfTextsMatchSpecSpec)) shelfTextsMatchSpecUptoCard

/-- THE SECOND FORM's CARD OF 'deadwaxlaw6.ShelfSearchesMatchSpec'. -/
def shelfSearchesMatchSpecUptoCard : Claim7 := { stood := { row := shelfSearchesMatchSpecUptoRow, standIns := [], harness := (true, "0c352084ddb9d91783a21b872534b58193220dbfd3de8996404152bd15047187"), looks := true }, kinds := [], alts := [], laidByText := true, laidKinds := [.data, .listed, .data, .pinned], laidTests := true, laidLooks := .later }
def ShelfSearchesMatchSpecUptoCardSaid : Prop := Claim7.holds Tryz.pinned (.plain (OpenSpec.upto shelfSearchesMatchSpecSpec)) shelfSearchesMatchSpecUptoCard
end Rows
end Go.Proofs.YthcdjmkkgbcaaaaGreatDoor

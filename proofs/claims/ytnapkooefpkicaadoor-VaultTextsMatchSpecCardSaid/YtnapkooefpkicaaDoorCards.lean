/-
  DERIVED. GIVEN WITH THE SEED: THE CARDS: each row of YtnapkooefpkicaaDoorRows.lean that lists a variable, with what it lists TIED to the program's text (the seventh form; the later family's looks); each row that meets fmt, with fmt's text TOLD by the authors' own Lean function (tested against real Go, not proved from fmt's source: count such statements apart). THE CARD IS WHAT COUNTS. Prove the row's statement (the work); the ties are given (YtnapkooefpkicaaDoorTie.lean); close each card by the builder's one call (the guide's Derived/Test/ToyasCard.lean, 'card_holds'). Laid BY PROGRAM, IN A SANDBOX (cutbox-door.mjs). By AI agents, Wed Nov 11 2026. No macro, syntax, notation, axiom, sorry.
-/
import Derived.Test.YtnapkooefpkicaaDoorRows
import GoSem.ClaimSeven
namespace Go.Proofs.YtnapkooefpkicaaDoor
namespace Rows

/-- THE TIED CARD OF 'deadwaxlaw9.VaultTextsMatchSpec'. -/
def vaultTextsMatchSpecCard : Claim7 := { stood := { row := vaultTextsMatchSpecRow, standIns := [], harness := (true, "2ab921baa2356b68dd82ee3bf840830683f5128e2435b284ee0f9421f091a316"), looks := false }, kinds := [], alts := [], laidByText := true, laidKinds := [.data, .data, .data, .data, .pinned], laidTests := true, laidLooks := .later }
def VaultTextsMatchSpecCardSaid : Prop := Claim7.holds Tryd.pinned (.plain (OpenSpec.ofChange vaultTextsMatchSpecSpec)) vaultTextsMatchSpecCard

/-- THE SECOND FORM's CARD OF 'deadwaxlaw9.VaultTextsMatchSpec'. -/
def vaultTextsMatchSpecUptoCard : Claim7 := { stood := { row := vaultTextsMatchSpecUptoRow, standIns := [], harness := (true, "2ab921baa2356b68dd82ee3bf840830683f5128e2435b284ee0f9421f091a316"), looks := false }, kinds := [], alts := [], laidByText := true, laidKinds := [.data, .data, .data, .data, .pinned], laidTests := true, laidLooks := .later }
def VaultTextsMatchSpecUptoCardSaid : Prop := Claim7.holds Tryd.pinned (.plain (OpenSpec.upto vaultTextsMatchSpecSpec)) vaultTextsMatchSpecUptoCard
end Rows
end Go.Proofs.YtnapkooefpkicaaDoor

/-
  DERIVED. GIVEN WITH THE SEED: THE CARDS: each row of YtnapkooefpkicaaGreatDoorRows.lean that lists a variable, with what it lists TIED to the program's text (the seventh form; the later family's looks); each row that meets fmt, with fmt's text TOLD by the authors' own Lean function (tested against real Go, not proved from fmt's source: count such statements apart). THE CARD IS WHAT COUNTS. Prove the row's statement (the work); the ties are given (YtnapkooefpkicaaGreatDoorTie.lean); close each card by the builder's one call (the guide's Derived/Test/ToyasCard.lean, 'card_holds'). Laid BY PROGRAM, IN A SANDBOX (cutbox-door.mjs). By AI agents, Wed Nov 11 2026. No macro, syntax, notation, axiom, sorry.
-/
import Derived.Test.YtnapkooefpkicaaGreatDoorRows
import GoSem.ClaimSeven
namespace Go.Proofs.YtnapkooefpkicaaGreatDoor
namespace Rows

/-- THE TIED CARD OF 'deadwaxlaw9.VaultReadsMatchSpec'. -/
def vaultReadsMatchSpecCard : Claim7 := { stood := { row := vaultReadsMatchSpecRow, standIns := [], harness := (true, "cf2d5ea32b3e4a2b54d91d422806804ea4932d344fc932a4b654190952852abe"), looks := true }, kinds := [], alts := [], laidByText := true, laidKinds := [.data, .data, .data, .data, .sentinel, .sentinel, .pinned], laidTests := true, laidLooks := .later }
def VaultReadsMatchSpecCardSaid : Prop := Claim7.holds Tryz.pinned (.plain (OpenSpec.ofChange vaultReadsMatchSpecSpec)) vaultReadsMatchSpecCard

/-- THE TIED CARD OF 'deadwaxlaw9.VaultTextsComeBack'. -/
def vaultTextsComeBackCard : Claim7 := { stood := { row := vaultTextsComeBackRow, standIns := [], harness := (true, "cf2d5ea32b3e4a2b54d91d422806804ea4932d344fc932a4b654190952852abe"), looks := true }, kinds := [], alts := [], laidByText := true, laidKinds := [.data, .data, .data, .data, .sentinel, .sentinel, .pinned], laidTests := true, laidLooks := .later }
def VaultTextsComeBackCardSaid : Prop := Claim7.holds Tryz.pinned (.plain (OpenSpec.ofChange vaultTextsComeBackSpec)) vaultTextsComeBackCard

/-- THE SECOND FORM's CARD OF 'deadwaxlaw9.VaultReadsMatchSpec'. -/
def vaultReadsMatchSpecUptoCard : Claim7 := { stood := { row := vaultReadsMatchSpecUptoRow, standIns := [], harness := (true, "cf2d5ea32b3e4a2b54d91d422806804ea4932d344fc932a4b654190952852abe"), looks := true }, kinds := [], alts := [], laidByText := true, laidKinds := [.data, .data, .data, .data, .sentinel, .sentinel, .pinned], laidTests := true, laidLooks := .later }
def VaultReadsMatchSpecUptoCardSaid : Prop := Claim7.holds Tryz.pinned (.plain (OpenSpec.upto vaultReadsMatchSpecSpec)) vaultReadsMatchSpecUptoCard

/-- THE SECOND FORM's CARD OF 'deadwaxlaw9.VaultTextsComeBack'. -/
def vaultTextsComeBackUptoCard : Claim7 := { stood := { row := vaultTextsComeBackUptoRow, standIns := [], harness := (true, "cf2d5ea32b3e4a2b54d91d422806804ea4932d344fc932a4b654190952852abe"), looks := true }, kinds := [], alts := [], laidByText := true, laidKinds := [.data, .data, .data, .data, .sentinel, .sentinel, .pinned], laidTests := true, laidLooks := .later }
def VaultTextsComeBackUptoCardSaid : Prop := Claim7.holds Tryz.pinned (.plain (OpenSpec.upto vaultTextsComeBackSpec)) vaultTextsComeBackUptoCard
end Rows
end Go.Proofs.YtnapkooefpkicaaGreatDoor

/-
  DERIVED. GIVEN WITH THE SEED: THE CARDS: each row of YtieccphckobhjaaGreatDoorRows.lean that lists a variable, with what it lists TIED to the program's text (the seventh form; the later family's looks); each row that meets fmt, with fmt's text TOLD by the authors' own Lean function (tested against real Go, not proved from fmt's source: count such statements apart). THE CARD IS WHAT COUNTS. Prove the row's statement (the work); the ties are given (YtieccphckobhjaaGreatDoorTie.lean); close each card by the builder's one call (the guide's Derived/Test/ToyasCard.lean, 'card_holds'). Laid BY PROGRAM, IN A SANDBOX (cutbox-door.mjs). By AI agents, Wed Nov 11 2026. No macro, syntax, notation, axiom, sorry.
-/
import Derived.Test.YtieccphckobhjaaGreatDoorRows
import GoSem.ClaimSeven
namespace Go.Proofs.YtieccphckobhjaaGreatDoor
namespace Rows

/-- THE TIED CARD OF 'deadwaxlaw9.VaultPlansMatchSpec'. -/
def vaultPlansMatchSpecCard : Claim7 := { stood := { row := vaultPlansMatchSpecRow, standIns := [], harness := (true, "5bf5de6262ae37afa70897346aefd1641b49055beb6ebad9cc4873b5fa411aa9"), looks := false }, kinds := [], alts := [], laidByText := true, laidKinds := [.data, .pinned], laidTests := true, laidLooks := .later }
def VaultPlansMatchSpecCardSaid : Prop := Claim7.holds Tryz.pinned (.plain (OpenSpec.ofChange vaultPlansMatchSpecSpec)) vaultPlansMatchSpecCard

/-- THE TIED CARD OF 'deadwaxlaw9.VaultLifeMatchesSpec'. -/
def vaultLifeMatchesSpecCard : Claim7 := { stood := { row := vaultLifeMatchesSpecRow, standIns := [], harness := (true, "5bf5de6262ae37afa70897346aefd1641b49055beb6ebad9cc4873b5fa411aa9"), looks := false }, kinds := [], alts := [], laidByText := true, laidKinds := [.data, .pinned], laidTests := true, laidLooks := .later }
def VaultLifeMatchesSpecCardSaid : Prop := Claim7.holds Tryz.pinned (.plain (OpenSpec.ofChange vaultLifeMatchesSpecSpec)) vaultLifeMatchesSpecCard

/-- THE TIED CARD OF 'deadwaxlaw9.VaultWeakestMatchesSpec'. -/
def vaultWeakestMatchesSpecCard : Claim7 := { stood := { row := vaultWeakestMatchesSpecRow, standIns := [], harness := (true, "5bf5de6262ae37afa70897346aefd1641b49055beb6ebad9cc4873b5fa411aa9"), looks := false }, kinds := [], alts := [], laidByText := true, laidKinds := [.data, .pinned], laidTests := true, laidLooks := .later }
def VaultWeakestMatchesSpecCardSaid : Prop := Claim7.holds Tryz.pinned (.plain (OpenSpec.ofChange vaultWeakestMatchesSpecSpec)) vaultWeakestMatchesSpecCard

/-- THE SECOND FORM's CARD OF 'deadwaxlaw9.VaultPlansMatchSpec'. -/
def vaultPlansMatchSpecUptoCard : Claim7 := { stood := { row := vaultPlansMatchSpecUptoRow, standIns := [], harness := (true, "5bf5de6262ae37afa70897346aefd1641b49055beb6ebad9cc4873b5fa411aa9"), looks := false }, kinds := [], alts := [], laidByText := true, laidKinds := [.data, .pinned], laidTests := true, laidLooks := .later }
def VaultPlansMatchSpecUptoCardSaid : Prop := Claim7.holds Tryz.pinned (.plain (OpenSpec.upto vaultPlansMatchSpecSpec)) vaultPlansMatchSpecUptoCard

/-- THE SECOND FORM's CARD OF 'deadwaxlaw9.VaultLifeMatchesSpec'. -/
def vaultLifeMatchesSpecUptoCard : Claim7 := { stood := { row := vaultLifeMatchesSpecUptoRow, standIns := [], harness := (true, "5bf5de6262ae37afa70897346aefd1641b49055beb6ebad9cc4873b5fa411aa9"), looks := false }, kinds := [], alts := [], laidByText := true, laidKinds := [.data, .pinned], laidTests := true, laidLooks := .later }
def VaultLifeMatchesSpecUptoCardSaid : Prop := Claim7.holds Tryz.pinned (.plain (OpenSpec.upto vaultLifeMatchesSpecSpec)) vaultLifeMatchesSpecUptoCard

/-- THE SECOND FORM's CARD OF 'deadwaxlaw9.VaultWeakestMatchesSpec'. -/
def vaultWeakestMatchesSpecUptoCard : Claim7 := { stood := { row := vaultWeakestMatchesSpecUptoRow, standIns := [], harness := (true, "5bf5de6262ae37afa70897346aefd1641b49055beb6ebad9cc4873b5fa411aa9"), looks := false }, kinds := [], alts := [], laidByText := true, laidKinds := [.data, .pinned], laidTests := true, laidLooks := .later }
def VaultWeakestMatchesSpecUptoCardSaid : Prop := Claim7.holds Tryz.pinned (.plain (OpenSpec.upto vaultWeakestMatchesSpecSpec)) vaultWeakestMatchesSpecUptoCard
end Rows
end Go.Proofs.YtieccphckobhjaaGreatDoor

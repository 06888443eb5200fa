/-
  DERIVED. GIVEN WITH THE SEED: THE CARDS: each row of YtieccphckobhjaaDoorRows.lean that lists a variable, with what it lists TIED to the program's text (the seventh form; the later family's looks); each row that meets fmt, with fmt's text TOLD by the authors' own Lean function (tested against real Go, not proved from fmt's source: count such statements apart). THE CARD IS WHAT COUNTS. Prove the row's statement (the work); the ties are given (YtieccphckobhjaaDoorTie.lean); close each card by the builder's one call (the guide's Derived/Test/ToyasCard.lean, 'card_holds'). Laid BY PROGRAM, IN A SANDBOX (cutbox-door.mjs). By AI agents, Wed Nov 11 2026. No macro, syntax, notation, axiom, sorry.
-/
import Derived.Test.YtieccphckobhjaaDoorRows
import GoSem.ClaimSeven
namespace Go.Proofs.YtieccphckobhjaaDoor
namespace Rows

/-- THE TIED CARD OF 'deadwaxlaw9.VaultChecksMatchSpec'. -/
def vaultChecksMatchSpecCard : Claim7 := { stood := { row := vaultChecksMatchSpecRow, standIns := [], harness := (true, "d9b0e01ffd872e715675a007fc3737bab671cded7197e65379cc9c1018e6ea51"), looks := false }, kinds := [], alts := [], laidByText := true, laidKinds := [.data, .pinned], laidTests := true, laidLooks := .later }
def VaultChecksMatchSpecCardSaid : Prop := Claim7.holds Tryd.pinned (.plain (OpenSpec.ofChange vaultChecksMatchSpecSpec)) vaultChecksMatchSpecCard

/-- THE TIED CARD OF 'deadwaxlaw9.VaultLacksMatchSpec'. -/
def vaultLacksMatchSpecCard : Claim7 := { stood := { row := vaultLacksMatchSpecRow, standIns := [], harness := (true, "d9b0e01ffd872e715675a007fc3737bab671cded7197e65379cc9c1018e6ea51"), looks := false }, kinds := [], alts := [], laidByText := true, laidKinds := [.data, .pinned], laidTests := true, laidLooks := .later }
def VaultLacksMatchSpecCardSaid : Prop := Claim7.holds Tryd.pinned (.plain (OpenSpec.ofChange vaultLacksMatchSpecSpec)) vaultLacksMatchSpecCard

/-- THE TIED CARD OF 'deadwaxlaw9.VaultDueMatchesSpec'. -/
def vaultDueMatchesSpecCard : Claim7 := { stood := { row := vaultDueMatchesSpecRow, standIns := [], harness := (true, "d9b0e01ffd872e715675a007fc3737bab671cded7197e65379cc9c1018e6ea51"), looks := false }, kinds := [], alts := [], laidByText := true, laidKinds := [.data, .pinned], laidTests := true, laidLooks := .later }
def VaultDueMatchesSpecCardSaid : Prop := Claim7.holds Tryd.pinned (.plain (OpenSpec.ofChange vaultDueMatchesSpecSpec)) vaultDueMatchesSpecCard

/-- THE TIED CARD OF 'deadwaxlaw9.VaultLosesNothing'. -/
def vaultLosesNothingCard : Claim7 := { stood := { row := vaultLosesNothingRow, standIns := [], harness := (true, "d9b0e01ffd872e715675a007fc3737bab671cded7197e65379cc9c1018e6ea51"), looks := false }, kinds := [], alts := [], laidByText := true, laidKinds := [.data, .pinned], laidTests := true, laidLooks := .later }
def VaultLosesNothingCardSaid : Prop := Claim7.holds Tryd.pinned (.plain (OpenSpec.ofChange vaultLosesNothingSpec)) vaultLosesNothingCard

/-- THE TIED CARD OF 'deadwaxlaw9.VaultLifeGoesOn'. -/
def vaultLifeGoesOnCard : Claim7 := { stood := { row := vaultLifeGoesOnRow, standIns := [], harness := (true, "d9b0e01ffd872e715675a007fc3737bab671cded7197e65379cc9c1018e6ea51"), looks := false }, kinds := [], alts := [], laidByText := true, laidKinds := [.data, .pinned], laidTests := true, laidLooks := .later }
def VaultLifeGoesOnCardSaid : Prop := Claim7.holds Tryd.pinned (.plain (OpenSpec.ofChange vaultLifeGoesOnSpec)) vaultLifeGoesOnCard

/-- THE TIED CARD OF 'deadwaxlaw9.VaultPlansAreEnough'. -/
def vaultPlansAreEnoughCard : Claim7 := { stood := { row := vaultPlansAreEnoughRow, standIns := [], harness := (true, "d9b0e01ffd872e715675a007fc3737bab671cded7197e65379cc9c1018e6ea51"), looks := false }, kinds := [], alts := [], laidByText := true, laidKinds := [.data, .pinned], laidTests := true, laidLooks := .later }
def VaultPlansAreEnoughCardSaid : Prop := Claim7.holds Tryd.pinned (.plain (OpenSpec.ofChange vaultPlansAreEnoughSpec)) vaultPlansAreEnoughCard

/-- THE SECOND FORM's CARD OF 'deadwaxlaw9.VaultChecksMatchSpec'. -/
def vaultChecksMatchSpecUptoCard : Claim7 := { stood := { row := vaultChecksMatchSpecUptoRow, standIns := [], harness := (true, "d9b0e01ffd872e715675a007fc3737bab671cded7197e65379cc9c1018e6ea51"), looks := false }, kinds := [], alts := [], laidByText := true, laidKinds := [.data, .pinned], laidTests := true, laidLooks := .later }
def VaultChecksMatchSpecUptoCardSaid : Prop := Claim7.holds Tryd.pinned (.plain (OpenSpec.upto vaultChecksMatchSpecSpec)) vaultChecksMatchSpecUptoCard

/-- THE SECOND FORM's CARD OF 'deadwaxlaw9.VaultLacksMatchSpec'. -/
def vaultLacksMatchSpecUptoCard : Claim7 := { stood := { row := vaultLacksMatchSpecUptoRow, standIns := [], harness := (true, "d9b0e01ffd872e715675a007fc3737bab671cded7197e65379cc9c1018e6ea51"), looks := false }, kinds := [], alts := [], laidByText := true, laidKinds := [.data, .pinned], laidTests := true, laidLooks := .later }
def VaultLacksMatchSpecUptoCardSaid : Prop := Claim7.holds Tryd.pinned (.plain (OpenSpec.upto vaultLacksMatchSpecSpec)) vaultLacksMatchSpecUptoCard

/-- THE SECOND FORM's CARD OF 'deadwaxlaw9.VaultDueMatchesSpec'. -/
def vaultDueMatchesSpecUptoCard : Claim7 := { stood := { row := vaultDueMatchesSpecUptoRow, standIns := [], harness := (true, "d9b0e01ffd872e715675a007fc3737bab671cded7197e65379cc9c1018e6ea51"), looks := false }, kinds := [], alts := [], laidByText := true, laidKinds := [.data, .pinned], laidTests := true, laidLooks := .later }
def VaultDueMatchesSpecUptoCardSaid : Prop := Claim7.holds Tryd.pinned (.plain (OpenSpec.upto vaultDueMatchesSpecSpec)) vaultDueMatchesSpecUptoCard

/-- THE SECOND FORM's CARD OF 'deadwaxlaw9.VaultLosesNothing'. -/
def vaultLosesNothingUptoCard : Claim7 := { stood := { row := vaultLosesNothingUptoRow, standIns := [], harness := (true, "d9b0e01ffd872e715675a007fc3737bab671cded7197e65379cc9c1018e6ea51"), looks := false }, kinds := [], alts := [], laidByText := true, laidKinds := [.data, .pinned], laidTests := true, laidLooks := .later }
def VaultLosesNothingUptoCardSaid : Prop := Claim7.holds Tryd.pinned (.plain (OpenSpec.upto vaultLosesNothingSpec)) vaultLosesNothingUptoCard

/-- THE SECOND FORM's CARD OF 'deadwaxlaw9.VaultLifeGoesOn'. -/
def vaultLifeGoesOnUptoCard : Claim7 := { stood := { row := vaultLifeGoesOnUptoRow, standIns := [], harness := (true, "d9b0e01ffd872e715675a007fc3737bab671cded7197e65379cc9c1018e6ea51"), looks := false }, kinds := [], alts := [], laidByText := true, laidKinds := [.data, .pinned], laidTests := true, laidLooks := .later }
def VaultLifeGoesOnUptoCardSaid : Prop := Claim7.holds Tryd.pinned (.plain (OpenSpec.upto vaultLifeGoesOnSpec)) vaultLifeGoesOnUptoCard

/-- THE SECOND FORM's CARD OF 'deadwaxlaw9.VaultPlansAreEnough'. -/
def vaultPlansAreEnoughUptoCard : Claim7 := { stood := { row := vaultPlansAreEnoughUptoRow, standIns := [], harness := (true, "d9b0e01ffd872e715675a007fc3737bab671cded7197e65379cc9c1018e6ea51"), looks := false }, kinds := [], alts := [], laidByText := true, laidKinds := [.data, .pinned], laidTests := true, laidLooks := .later }
def VaultPlansAreEnoughUptoCardSaid : Prop := Claim7.holds Tryd.pinned (.plain (OpenSpec.upto vaultPlansAreEnoughSpec)) vaultPlansAreEnoughUptoCard
end Rows
end Go.Proofs.YtieccphckobhjaaDoor

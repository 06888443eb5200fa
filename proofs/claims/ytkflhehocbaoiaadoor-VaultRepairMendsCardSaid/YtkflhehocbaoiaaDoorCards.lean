/-
  DERIVED. GIVEN WITH THE SEED: THE CARDS: each row of YtkflhehocbaoiaaDoorRows.lean that lists a variable, with what it lists TIED to the program's text (the seventh form; the later family's looks); each row that meets fmt, with fmt's text TOLD by the authors' own Lean function (tested against real Go, not proved from fmt's source: count such statements apart). THE CARD IS WHAT COUNTS. Prove the row's statement (the work); the ties are given (YtkflhehocbaoiaaDoorTie.lean); close each card by the builder's one call (the guide's Derived/Test/ToyasCard.lean, 'card_holds'). Laid BY PROGRAM, IN A SANDBOX (cutbox-door.mjs). By AI agents, Wed Nov 11 2026. No macro, syntax, notation, axiom, sorry.
-/
import Derived.Test.YtkflhehocbaoiaaDoorRows
import GoSem.ClaimSeven
namespace Go.Proofs.YtkflhehocbaoiaaDoor
namespace Rows

/-- THE TIED CARD OF 'deadwaxlaw9.VaultManifestsMatchSpec'. -/
def vaultManifestsMatchSpecCard : Claim7 := { stood := { row := vaultManifestsMatchSpecRow, standIns := [], harness := (true, "7c61b293766dc8604e486210cb6086171080adc9487a55ef35de9c24cd54626c"), looks := false }, kinds := [], alts := [], laidByText := true, laidKinds := [.data, .pinned], laidTests := true, laidLooks := .later }
def VaultManifestsMatchSpecCardSaid : Prop := Claim7.holds Tryd.pinned (.plain (OpenSpec.ofChange vaultManifestsMatchSpecSpec)) vaultManifestsMatchSpecCard

/-- THE TIED CARD OF 'deadwaxlaw9.VaultDamageMatchesSpec'. -/
def vaultDamageMatchesSpecCard : Claim7 := { stood := { row := vaultDamageMatchesSpecRow, standIns := [], harness := (true, "7c61b293766dc8604e486210cb6086171080adc9487a55ef35de9c24cd54626c"), looks := false }, kinds := [], alts := [], laidByText := true, laidKinds := [.data, .pinned], laidTests := true, laidLooks := .later }
def VaultDamageMatchesSpecCardSaid : Prop := Claim7.holds Tryd.pinned (.plain (OpenSpec.ofChange vaultDamageMatchesSpecSpec)) vaultDamageMatchesSpecCard

/-- THE TIED CARD OF 'deadwaxlaw9.VaultRepairMends'. -/
def vaultRepairMendsCard : Claim7 := { stood := { row := vaultRepairMendsRow, standIns := [], harness := (true, "7c61b293766dc8604e486210cb6086171080adc9487a55ef35de9c24cd54626c"), looks := false }, kinds := [], alts := [], laidByText := true, laidKinds := [.data, .pinned], laidTests := true, laidLooks := .later }
def VaultRepairMendsCardSaid : Prop := Claim7.holds Tryd.pinned (.plain (OpenSpec.ofChange vaultRepairMendsSpec)) vaultRepairMendsCard

/-- THE SECOND FORM's CARD OF 'deadwaxlaw9.VaultManifestsMatchSpec'. -/
def vaultManifestsMatchSpecUptoCard : Claim7 := { stood := { row := vaultManifestsMatchSpecUptoRow, standIns := [], harness := (true, "7c61b293766dc8604e486210cb6086171080adc9487a55ef35de9c24cd54626c"), looks := false }, kinds := [], alts := [], laidByText := true, laidKinds := [.data, .pinned], laidTests := true, laidLooks := .later }
def VaultManifestsMatchSpecUptoCardSaid : Prop := Claim7.holds Tryd.pinned (.plain (OpenSpec.upto vaultManifestsMatchSpecSpec)) vaultManifestsMatchSpecUptoCard

/-- THE SECOND FORM's CARD OF 'deadwaxlaw9.VaultDamageMatchesSpec'. -/
def vaultDamageMatchesSpecUptoCard : Claim7 := { stood := { row := vaultDamageMatchesSpecUptoRow, standIns := [], harness := (true, "7c61b293766dc8604e486210cb6086171080adc9487a55ef35de9c24cd54626c"), looks := false }, kinds := [], alts := [], laidByText := true, laidKinds := [.data, .pinned], laidTests := true, laidLooks := .later }
def VaultDamageMatchesSpecUptoCardSaid : Prop := Claim7.holds Tryd.pinned (.plain (OpenSpec.upto vaultDamageMatchesSpecSpec)) vaultDamageMatchesSpecUptoCard

/-- THE SECOND FORM's CARD OF 'deadwaxlaw9.VaultRepairMends'. -/
def vaultRepairMendsUptoCard : Claim7 := { stood := { row := vaultRepairMendsUptoRow, standIns := [], harness := (true, "7c61b293766dc8604e486210cb6086171080adc9487a55ef35de9c24cd54626c"), looks := false }, kinds := [], alts := [], laidByText := true, laidKinds := [.data, .pinned], laidTests := true, laidLooks := .later }
def VaultRepairMendsUptoCardSaid : Prop := Claim7.holds Tryd.pinned (.plain (OpenSpec.upto vaultRepairMendsSpec)) vaultRepairMendsUptoCard
end Rows
end Go.Proofs.YtkflhehocbaoiaaDoor

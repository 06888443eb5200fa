/-
  NARROWER THAN 'FOR EVERY INPUT', by the rows' own cells (each row's printed sentence says how): VaultChecksMatchSpec: laid · VaultLacksMatchSpec: laid · VaultDueMatchesSpec: laid · VaultLosesNothing: laid · VaultLifeGoesOn: laid · VaultPlansAreEnough: laid.
  DERIVED. THE GIVEN ROWS OF THIS SEAT. 6 by the template 'for every input the law returns true; each argument reads behind the call as it read before'; 0 by the template 'total and deterministic' (their statements: YtieccphckobhjaaDoorTotals.lean).
  GIVEN WITH THE SEED: the statements are not yours to turn. If you find one false, say at which input.
  Laid BY PROGRAM, IN A SANDBOX (cutbox-rows.mjs): the forced cells as the released guide's own fill.sh prints them over the translation df042873e3814bad… (all of the seat's roots in one cut). By AI agents, Wed Nov 11 2026. No macro, syntax, notation, axiom, sorry.
-/
import Derived.Test.YtieccphckobhjaaDoorChecked
import GoSem.PinnedTables
import GoSem.Claim
import GoSem.ClaimJoined
import GoSem.ClaimMapViews
import Derived.JoinedTies
import Derived.KernelRfl
namespace Go.Proofs.YtieccphckobhjaaDoor
/- THE CELL 'sum', in the pinned program and in every row, IS THE sha256 OF THE DUMP (.gsa) THAT YtieccphckobhjaaDoorProg.lean LOADS. Nothing in Lean hashes anything: it is a label: what it is worth is what the hold of that sum in a sandbox is worth. -/
noncomputable def Tryd.pinned : Pinned := { name := "ytieccphckobhjaadoor", sum := "df042873e3814bad8dfe43788e32ebf98fc239a319376d6f1ba3fd17777f1824", checked := Tryd.checked }
namespace Rows
def none {H : Type} : Left H := { results := [], args := [] }

/- WHAT THE LISTED PACKAGE-LEVEL VARIABLES READ AS WHEN THE CALL BEGINS. Each datum BY PROGRAM (the guide's laid-datum.mjs) off the statement by which the dump's own 'gosem.cut.vars' lays the variable. In a bare row this is a premise. The card (YtieccphckobhjaaDoorCards.lean) ties it to the program's text. -/
def laid_unicode_utf8_acceptRanges {H : Type} : DataW H := .agg [.agg [.lit (.int .u8 128), .lit (.int .u8 191)], .agg [.lit (.int .u8 160), .lit (.int .u8 191)], .agg [.lit (.int .u8 128), .lit (.int .u8 159)], .agg [.lit (.int .u8 144), .lit (.int .u8 191)], .agg [.lit (.int .u8 128), .lit (.int .u8 143)], .agg [.lit (.int .u8 0), .lit (.int .u8 0)], .agg [.lit (.int .u8 0), .lit (.int .u8 0)], .agg [.lit (.int .u8 0), .lit (.int .u8 0)], .agg [.lit (.int .u8 0), .lit (.int .u8 0)], .agg [.lit (.int .u8 0), .lit (.int .u8 0)], .agg [.lit (.int .u8 0), .lit (.int .u8 0)], .agg [.lit (.int .u8 0), .lit (.int .u8 0)], .agg [.lit (.int .u8 0), .lit (.int .u8 0)], .agg [.lit (.int .u8 0), .lit (.int .u8 0)], .agg [.lit (.int .u8 0), .lit (.int .u8 0)], .agg [.lit (.int .u8 0), .lit (.int .u8 0)]]
/-- One of Go's own tables, pinned by name: the form's constant. -/
def laid_unicode_utf8_first : DataW Unit := Go.Pinned.utf8First

/-- 'deadwaxlaw9.VaultChecksMatchSpec': WHATEVER THE INPUT: true; the input reads as it did. -/
def vaultChecksMatchSpecSpec : ChangeSpec := { name := "vaultChecksMatchSpec", fn := fun _ => fun
  | [d1, d2] => { results := [.lit (.bool true)], args := [d1, d2] }
  | _ => none }
def vaultChecksMatchSpecRow : OpenClaim := { program := "ytieccphckobhjaadoor", sum := "df042873e3814bad8dfe43788e32ebf98fc239a319376d6f1ba3fd17777f1824", func := "deadwax/deadwaxlaw9.VaultChecksMatchSpec", spec := "vaultChecksMatchSpec", inPlace := ["internal/bytealg.IndexByteString", "internal/bytealg.IndexString", "internal/bytealg.abigen_runtime_cmpstring"], unfollowed := true, recurses := true, named := ["unicode/utf8.first", "unicode/utf8.acceptRanges", "internal/bytealg.MaxLen"], apart := false, laid := [("unicode/utf8.acceptRanges", laid_unicode_utf8_acceptRanges), ("unicode/utf8.first", laid_unicode_utf8_first)] }
def VaultChecksMatchSpecSaid : Prop := vaultChecksMatchSpecRow.holds Tryd.pinned (OpenSpec.ofChange vaultChecksMatchSpecSpec)

/-- ITS FALSE NEIGHBOUR: 'it returns false'. Refute it at one input. -/
def vaultChecksMatchSpecWrong : ChangeSpec := { name := "vaultChecksMatchSpec", fn := fun _ => fun
  | [d1, d2] => { results := [.lit (.bool false)], args := [d1, d2] }
  | _ => none }
def VaultChecksMatchSpecWrongFalsely : Prop := vaultChecksMatchSpecRow.holds Tryd.pinned (OpenSpec.ofChange vaultChecksMatchSpecWrong)

/-- 'deadwaxlaw9.VaultLacksMatchSpec': WHATEVER THE INPUT: true; the input reads as it did. -/
def vaultLacksMatchSpecSpec : ChangeSpec := { name := "vaultLacksMatchSpec", fn := fun _ => fun
  | [d1, d2, d3] => { results := [.lit (.bool true)], args := [d1, d2, d3] }
  | _ => none }
def vaultLacksMatchSpecRow : OpenClaim := { program := "ytieccphckobhjaadoor", sum := "df042873e3814bad8dfe43788e32ebf98fc239a319376d6f1ba3fd17777f1824", func := "deadwax/deadwaxlaw9.VaultLacksMatchSpec", spec := "vaultLacksMatchSpec", inPlace := ["internal/bytealg.IndexByteString", "internal/bytealg.IndexString", "internal/bytealg.abigen_runtime_cmpstring"], unfollowed := true, recurses := true, named := ["unicode/utf8.first", "unicode/utf8.acceptRanges", "internal/bytealg.MaxLen"], apart := false, laid := [("unicode/utf8.acceptRanges", laid_unicode_utf8_acceptRanges), ("unicode/utf8.first", laid_unicode_utf8_first)] }
def VaultLacksMatchSpecSaid : Prop := vaultLacksMatchSpecRow.holds Tryd.pinned (OpenSpec.ofChange vaultLacksMatchSpecSpec)

/-- ITS FALSE NEIGHBOUR: 'it returns false'. Refute it at one input. -/
def vaultLacksMatchSpecWrong : ChangeSpec := { name := "vaultLacksMatchSpec", fn := fun _ => fun
  | [d1, d2, d3] => { results := [.lit (.bool false)], args := [d1, d2, d3] }
  | _ => none }
def VaultLacksMatchSpecWrongFalsely : Prop := vaultLacksMatchSpecRow.holds Tryd.pinned (OpenSpec.ofChange vaultLacksMatchSpecWrong)

/-- 'deadwaxlaw9.VaultDueMatchesSpec': WHATEVER THE INPUT: true; the input reads as it did. -/
def vaultDueMatchesSpecSpec : ChangeSpec := { name := "vaultDueMatchesSpec", fn := fun _ => fun
  | [d1, d2, d3, d4] => { results := [.lit (.bool true)], args := [d1, d2, d3, d4] }
  | _ => none }
def vaultDueMatchesSpecRow : OpenClaim := { program := "ytieccphckobhjaadoor", sum := "df042873e3814bad8dfe43788e32ebf98fc239a319376d6f1ba3fd17777f1824", func := "deadwax/deadwaxlaw9.VaultDueMatchesSpec", spec := "vaultDueMatchesSpec", inPlace := ["internal/bytealg.IndexByteString", "internal/bytealg.IndexString", "internal/bytealg.abigen_runtime_cmpstring"], unfollowed := true, recurses := true, named := ["unicode/utf8.first", "unicode/utf8.acceptRanges", "internal/bytealg.MaxLen"], apart := false, laid := [("unicode/utf8.acceptRanges", laid_unicode_utf8_acceptRanges), ("unicode/utf8.first", laid_unicode_utf8_first)] }
def VaultDueMatchesSpecSaid : Prop := vaultDueMatchesSpecRow.holds Tryd.pinned (OpenSpec.ofChange vaultDueMatchesSpecSpec)

/-- ITS FALSE NEIGHBOUR: 'it returns false'. Refute it at one input. -/
def vaultDueMatchesSpecWrong : ChangeSpec := { name := "vaultDueMatchesSpec", fn := fun _ => fun
  | [d1, d2, d3, d4] => { results := [.lit (.bool false)], args := [d1, d2, d3, d4] }
  | _ => none }
def VaultDueMatchesSpecWrongFalsely : Prop := vaultDueMatchesSpecRow.holds Tryd.pinned (OpenSpec.ofChange vaultDueMatchesSpecWrong)

/-- 'deadwaxlaw9.VaultLosesNothing': WHATEVER THE INPUT: true; the input reads as it did. -/
def vaultLosesNothingSpec : ChangeSpec := { name := "vaultLosesNothing", fn := fun _ => fun
  | [d1, d2, d3, d4, d5] => { results := [.lit (.bool true)], args := [d1, d2, d3, d4, d5] }
  | _ => none }
def vaultLosesNothingRow : OpenClaim := { program := "ytieccphckobhjaadoor", sum := "df042873e3814bad8dfe43788e32ebf98fc239a319376d6f1ba3fd17777f1824", func := "deadwax/deadwaxlaw9.VaultLosesNothing", spec := "vaultLosesNothing", inPlace := ["internal/bytealg.IndexByteString", "internal/bytealg.IndexString", "internal/bytealg.abigen_runtime_cmpstring", "slices.overlaps[int]"], unfollowed := true, recurses := true, named := ["unicode/utf8.first", "unicode/utf8.acceptRanges", "internal/bytealg.MaxLen"], apart := false, laid := [("unicode/utf8.acceptRanges", laid_unicode_utf8_acceptRanges), ("unicode/utf8.first", laid_unicode_utf8_first)] }
def VaultLosesNothingSaid : Prop := vaultLosesNothingRow.holds Tryd.pinned (OpenSpec.ofChange vaultLosesNothingSpec)

/-- ITS FALSE NEIGHBOUR: 'it returns false'. Refute it at one input. -/
def vaultLosesNothingWrong : ChangeSpec := { name := "vaultLosesNothing", fn := fun _ => fun
  | [d1, d2, d3, d4, d5] => { results := [.lit (.bool false)], args := [d1, d2, d3, d4, d5] }
  | _ => none }
def VaultLosesNothingWrongFalsely : Prop := vaultLosesNothingRow.holds Tryd.pinned (OpenSpec.ofChange vaultLosesNothingWrong)

/-- 'deadwaxlaw9.VaultLifeGoesOn': WHATEVER THE INPUT: true; the input reads as it did. -/
def vaultLifeGoesOnSpec : ChangeSpec := { name := "vaultLifeGoesOn", fn := fun _ => fun
  | [d1, d2, d3, d4, d5, d6] => { results := [.lit (.bool true)], args := [d1, d2, d3, d4, d5, d6] }
  | _ => none }
def vaultLifeGoesOnRow : OpenClaim := { program := "ytieccphckobhjaadoor", sum := "df042873e3814bad8dfe43788e32ebf98fc239a319376d6f1ba3fd17777f1824", func := "deadwax/deadwaxlaw9.VaultLifeGoesOn", spec := "vaultLifeGoesOn", inPlace := ["internal/bytealg.IndexByteString", "internal/bytealg.IndexString", "internal/bytealg.abigen_runtime_cmpstring", "slices.overlaps[int]"], unfollowed := true, recurses := true, named := ["unicode/utf8.first", "unicode/utf8.acceptRanges", "internal/bytealg.MaxLen"], apart := false, laid := [("unicode/utf8.acceptRanges", laid_unicode_utf8_acceptRanges), ("unicode/utf8.first", laid_unicode_utf8_first)] }
def VaultLifeGoesOnSaid : Prop := vaultLifeGoesOnRow.holds Tryd.pinned (OpenSpec.ofChange vaultLifeGoesOnSpec)

/-- ITS FALSE NEIGHBOUR: 'it returns false'. Refute it at one input. -/
def vaultLifeGoesOnWrong : ChangeSpec := { name := "vaultLifeGoesOn", fn := fun _ => fun
  | [d1, d2, d3, d4, d5, d6] => { results := [.lit (.bool false)], args := [d1, d2, d3, d4, d5, d6] }
  | _ => none }
def VaultLifeGoesOnWrongFalsely : Prop := vaultLifeGoesOnRow.holds Tryd.pinned (OpenSpec.ofChange vaultLifeGoesOnWrong)

/-- 'deadwaxlaw9.VaultPlansAreEnough': WHATEVER THE INPUT: true; the input reads as it did. -/
def vaultPlansAreEnoughSpec : ChangeSpec := { name := "vaultPlansAreEnough", fn := fun _ => fun
  | [d1, d2, d3] => { results := [.lit (.bool true)], args := [d1, d2, d3] }
  | _ => none }
def vaultPlansAreEnoughRow : OpenClaim := { program := "ytieccphckobhjaadoor", sum := "df042873e3814bad8dfe43788e32ebf98fc239a319376d6f1ba3fd17777f1824", func := "deadwax/deadwaxlaw9.VaultPlansAreEnough", spec := "vaultPlansAreEnough", inPlace := ["internal/bytealg.IndexByteString", "internal/bytealg.IndexString", "internal/bytealg.abigen_runtime_cmpstring", "slices.overlaps[deadwax/api.Copy]"], unfollowed := true, recurses := true, named := ["unicode/utf8.first", "unicode/utf8.acceptRanges", "internal/bytealg.MaxLen"], apart := false, laid := [("unicode/utf8.acceptRanges", laid_unicode_utf8_acceptRanges), ("unicode/utf8.first", laid_unicode_utf8_first)] }
def VaultPlansAreEnoughSaid : Prop := vaultPlansAreEnoughRow.holds Tryd.pinned (OpenSpec.ofChange vaultPlansAreEnoughSpec)

/-- ITS FALSE NEIGHBOUR: 'it returns false'. Refute it at one input. -/
def vaultPlansAreEnoughWrong : ChangeSpec := { name := "vaultPlansAreEnough", fn := fun _ => fun
  | [d1, d2, d3] => { results := [.lit (.bool false)], args := [d1, d2, d3] }
  | _ => none }
def VaultPlansAreEnoughWrongFalsely : Prop := vaultPlansAreEnoughRow.holds Tryd.pinned (OpenSpec.ofChange vaultPlansAreEnoughWrong)

/- THE SECOND FORM. 'bulk': how many values and letters a reading holds, each counted each time it is reached (what is shared counts as often as it is met; a slice's spare places count too). A statement '..UptoSaid' is the law's where the arguments, and the package variables that the reading takes, are together of bulk at most 1048576: NARROWER than '..Said'. Prove '..Said' where nothing that the law and all that it calls make is longer than what came in: it says more and counts as full. Else prove '..UptoSaid'. A law counts once. -/
mutual
def uptoBulk {H : Type} : DataW H → Nat
  | .lit (.string bytes) => bytes.length + 1
  | .lit _ => 1
  | .nil => 1
  | .ptr d => uptoBulk d + 1
  | .slice elems spare => uptoBulkAll elems + uptoBulkAll spare + 1
  | .agg parts => uptoBulkAll parts + 1
  | .iface _ d => uptoBulk d + 1
  | .map entries => uptoBulkEntries entries + 1
  | .held _ => 1
def uptoBulkAll {H : Type} : List (DataW H) → Nat
  | [] => 0
  | d :: r => uptoBulk d + uptoBulkAll r
def uptoBulkEntries {H : Type} : List (Lit × DataW H) → Nat
  | [] => 0
  | x :: r => uptoBulkEntry x + uptoBulkEntries r
def uptoBulkEntry {H : Type} : Lit × DataW H → Nat
  | (.string bytes, d) => bytes.length + uptoBulk d + 1
  | (_, d) => uptoBulk d + 1
 end
def uptoSmall : (H : Type) → List (DataW H) → Bool := fun _ ds => decide (uptoBulkAll ds ≤ 1048576)
def OpenSpec.upto (s : _root_.Go.ChangeSpec) : _root_.Go.OpenSpec := { _root_.Go.OpenSpec.ofChange s with cond := some uptoSmall }

/-- 'deadwaxlaw9.VaultChecksMatchSpec', WHERE WHAT IT READS IS OF BULK AT MOST 1048576: true; the input reads as it did. -/
def vaultChecksMatchSpecUptoRow : OpenClaim := { program := "ytieccphckobhjaadoor", sum := "df042873e3814bad8dfe43788e32ebf98fc239a319376d6f1ba3fd17777f1824", func := "deadwax/deadwaxlaw9.VaultChecksMatchSpec", spec := "vaultChecksMatchSpec", inPlace := ["internal/bytealg.IndexByteString", "internal/bytealg.IndexString", "internal/bytealg.abigen_runtime_cmpstring"], unfollowed := true, recurses := true, named := ["unicode/utf8.first", "unicode/utf8.acceptRanges", "internal/bytealg.MaxLen"], apart := false, laid := [("unicode/utf8.acceptRanges", laid_unicode_utf8_acceptRanges), ("unicode/utf8.first", laid_unicode_utf8_first)], narrowed := true }
def VaultChecksMatchSpecUptoSaid : Prop := vaultChecksMatchSpecUptoRow.holds Tryd.pinned (OpenSpec.upto vaultChecksMatchSpecSpec)

/-- 'deadwaxlaw9.VaultLacksMatchSpec', WHERE WHAT IT READS IS OF BULK AT MOST 1048576: true; the input reads as it did. -/
def vaultLacksMatchSpecUptoRow : OpenClaim := { program := "ytieccphckobhjaadoor", sum := "df042873e3814bad8dfe43788e32ebf98fc239a319376d6f1ba3fd17777f1824", func := "deadwax/deadwaxlaw9.VaultLacksMatchSpec", spec := "vaultLacksMatchSpec", inPlace := ["internal/bytealg.IndexByteString", "internal/bytealg.IndexString", "internal/bytealg.abigen_runtime_cmpstring"], unfollowed := true, recurses := true, named := ["unicode/utf8.first", "unicode/utf8.acceptRanges", "internal/bytealg.MaxLen"], apart := false, laid := [("unicode/utf8.acceptRanges", laid_unicode_utf8_acceptRanges), ("unicode/utf8.first", laid_unicode_utf8_first)], narrowed := true }
def VaultLacksMatchSpecUptoSaid : Prop := vaultLacksMatchSpecUptoRow.holds Tryd.pinned (OpenSpec.upto vaultLacksMatchSpecSpec)

/-- 'deadwaxlaw9.VaultDueMatchesSpec', WHERE WHAT IT READS IS OF BULK AT MOST 1048576: true; the input reads as it did. -/
def vaultDueMatchesSpecUptoRow : OpenClaim := { program := "ytieccphckobhjaadoor", sum := "df042873e3814bad8dfe43788e32ebf98fc239a319376d6f1ba3fd17777f1824", func := "deadwax/deadwaxlaw9.VaultDueMatchesSpec", spec := "vaultDueMatchesSpec", inPlace := ["internal/bytealg.IndexByteString", "internal/bytealg.IndexString", "internal/bytealg.abigen_runtime_cmpstring"], unfollowed := true, recurses := true, named := ["unicode/utf8.first", "unicode/utf8.acceptRanges", "internal/bytealg.MaxLen"], apart := false, laid := [("unicode/utf8.acceptRanges", laid_unicode_utf8_acceptRanges), ("unicode/utf8.first", laid_unicode_utf8_first)], narrowed := true }
def VaultDueMatchesSpecUptoSaid : Prop := vaultDueMatchesSpecUptoRow.holds Tryd.pinned (OpenSpec.upto vaultDueMatchesSpecSpec)

/-- 'deadwaxlaw9.VaultLosesNothing', WHERE WHAT IT READS IS OF BULK AT MOST 1048576: true; the input reads as it did. -/
def vaultLosesNothingUptoRow : OpenClaim := { program := "ytieccphckobhjaadoor", sum := "df042873e3814bad8dfe43788e32ebf98fc239a319376d6f1ba3fd17777f1824", func := "deadwax/deadwaxlaw9.VaultLosesNothing", spec := "vaultLosesNothing", inPlace := ["internal/bytealg.IndexByteString", "internal/bytealg.IndexString", "internal/bytealg.abigen_runtime_cmpstring", "slices.overlaps[int]"], unfollowed := true, recurses := true, named := ["unicode/utf8.first", "unicode/utf8.acceptRanges", "internal/bytealg.MaxLen"], apart := false, laid := [("unicode/utf8.acceptRanges", laid_unicode_utf8_acceptRanges), ("unicode/utf8.first", laid_unicode_utf8_first)], narrowed := true }
def VaultLosesNothingUptoSaid : Prop := vaultLosesNothingUptoRow.holds Tryd.pinned (OpenSpec.upto vaultLosesNothingSpec)

/-- 'deadwaxlaw9.VaultLifeGoesOn', WHERE WHAT IT READS IS OF BULK AT MOST 1048576: true; the input reads as it did. -/
def vaultLifeGoesOnUptoRow : OpenClaim := { program := "ytieccphckobhjaadoor", sum := "df042873e3814bad8dfe43788e32ebf98fc239a319376d6f1ba3fd17777f1824", func := "deadwax/deadwaxlaw9.VaultLifeGoesOn", spec := "vaultLifeGoesOn", inPlace := ["internal/bytealg.IndexByteString", "internal/bytealg.IndexString", "internal/bytealg.abigen_runtime_cmpstring", "slices.overlaps[int]"], unfollowed := true, recurses := true, named := ["unicode/utf8.first", "unicode/utf8.acceptRanges", "internal/bytealg.MaxLen"], apart := false, laid := [("unicode/utf8.acceptRanges", laid_unicode_utf8_acceptRanges), ("unicode/utf8.first", laid_unicode_utf8_first)], narrowed := true }
def VaultLifeGoesOnUptoSaid : Prop := vaultLifeGoesOnUptoRow.holds Tryd.pinned (OpenSpec.upto vaultLifeGoesOnSpec)

/-- 'deadwaxlaw9.VaultPlansAreEnough', WHERE WHAT IT READS IS OF BULK AT MOST 1048576: true; the input reads as it did. -/
def vaultPlansAreEnoughUptoRow : OpenClaim := { program := "ytieccphckobhjaadoor", sum := "df042873e3814bad8dfe43788e32ebf98fc239a319376d6f1ba3fd17777f1824", func := "deadwax/deadwaxlaw9.VaultPlansAreEnough", spec := "vaultPlansAreEnough", inPlace := ["internal/bytealg.IndexByteString", "internal/bytealg.IndexString", "internal/bytealg.abigen_runtime_cmpstring", "slices.overlaps[deadwax/api.Copy]"], unfollowed := true, recurses := true, named := ["unicode/utf8.first", "unicode/utf8.acceptRanges", "internal/bytealg.MaxLen"], apart := false, laid := [("unicode/utf8.acceptRanges", laid_unicode_utf8_acceptRanges), ("unicode/utf8.first", laid_unicode_utf8_first)], narrowed := true }
def VaultPlansAreEnoughUptoSaid : Prop := vaultPlansAreEnoughUptoRow.holds Tryd.pinned (OpenSpec.upto vaultPlansAreEnoughSpec)

end Rows
end Go.Proofs.YtieccphckobhjaaDoor

/-
  No cell of these rows narrows 'for every input' (looked for: loops, veiled, ifaces, maps, wideKeys, modest, calm, conditions, laid).
  DERIVED. THE GIVEN ROWS OF THIS SEAT. 3 by the template 'for every input the law returns true; each argument reads behind the call as it read before'; 0 by the template 'total and deterministic' (their statements: YtkflhehocbaoiaaTotals.lean).
  GIVEN WITH THE SEED: the statements are not yours to turn. If you find one false, say at which input.
  Laid BY PROGRAM, IN A SANDBOX (cutbox-rows.mjs): the forced cells as the released guide's own fill.sh prints them over the translation debefc5dcdf438ad… (all of the seat's roots in one cut). By AI agents, Wed Nov 11 2026. No macro, syntax, notation, axiom, sorry.
-/
import Derived.Test.YtkflhehocbaoiaaChecked
import GoSem.Claim
import GoSem.ClaimJoined
import GoSem.ClaimMapViews
import Derived.JoinedTies
import Derived.KernelRfl
namespace Go.Proofs.Ytkflhehocbaoiaa
/- THE CELL 'sum', in the pinned program and in every row, IS THE sha256 OF THE DUMP (.gsa) THAT YtkflhehocbaoiaaProg.lean LOADS. Nothing in Lean hashes anything: it is a label: what it is worth is what the hold of that sum in a sandbox is worth. -/
noncomputable def Try.pinned : Pinned := { name := "ytkflhehocbaoiaa", sum := "debefc5dcdf438ad08bd60c561e44d46b6240607cc94c8e2d05184726d7422eb", checked := Try.checked }
namespace Rows
def none {H : Type} : Left H := { results := [], args := [] }

/-- 'deadwaxlaw9.VaultSumsMatchSpec': WHATEVER THE INPUT: true; the input reads as it did. -/
def vaultSumsMatchSpecSpec : ChangeSpec := { name := "vaultSumsMatchSpec", fn := fun _ => fun
  | [d1, d2] => { results := [.lit (.bool true)], args := [d1, d2] }
  | _ => none }
def vaultSumsMatchSpecRow : OpenClaim := { program := "ytkflhehocbaoiaa", sum := "debefc5dcdf438ad08bd60c561e44d46b6240607cc94c8e2d05184726d7422eb", func := "deadwax/deadwaxlaw9.VaultSumsMatchSpec", spec := "vaultSumsMatchSpec", apart := false }
def VaultSumsMatchSpecSaid : Prop := vaultSumsMatchSpecRow.holds Try.pinned (OpenSpec.ofChange vaultSumsMatchSpecSpec)

/-- ITS FALSE NEIGHBOUR: 'it returns false'. Refute it at one input. -/
def vaultSumsMatchSpecWrong : ChangeSpec := { name := "vaultSumsMatchSpec", fn := fun _ => fun
  | [d1, d2] => { results := [.lit (.bool false)], args := [d1, d2] }
  | _ => none }
def VaultSumsMatchSpecWrongFalsely : Prop := vaultSumsMatchSpecRow.holds Try.pinned (OpenSpec.ofChange vaultSumsMatchSpecWrong)

/-- 'deadwaxlaw9.VaultProofsLeadToRoots': WHATEVER THE INPUT: true; the input reads as it did. -/
def vaultProofsLeadToRootsSpec : ChangeSpec := { name := "vaultProofsLeadToRoots", fn := fun _ => fun
  | [d] => { results := [.lit (.bool true)], args := [d] }
  | _ => none }
def vaultProofsLeadToRootsRow : OpenClaim := { program := "ytkflhehocbaoiaa", sum := "debefc5dcdf438ad08bd60c561e44d46b6240607cc94c8e2d05184726d7422eb", func := "deadwax/deadwaxlaw9.VaultProofsLeadToRoots", spec := "vaultProofsLeadToRoots", apart := false }
def VaultProofsLeadToRootsSaid : Prop := vaultProofsLeadToRootsRow.holds Try.pinned (OpenSpec.ofChange vaultProofsLeadToRootsSpec)

/-- ITS FALSE NEIGHBOUR: 'it returns false'. Refute it at one input. -/
def vaultProofsLeadToRootsWrong : ChangeSpec := { name := "vaultProofsLeadToRoots", fn := fun _ => fun
  | [d] => { results := [.lit (.bool false)], args := [d] }
  | _ => none }
def VaultProofsLeadToRootsWrongFalsely : Prop := vaultProofsLeadToRootsRow.holds Try.pinned (OpenSpec.ofChange vaultProofsLeadToRootsWrong)

/-- 'deadwaxlaw9.VaultRootsMatchSpec': WHATEVER THE INPUT: true; the input reads as it did. -/
def vaultRootsMatchSpecSpec : ChangeSpec := { name := "vaultRootsMatchSpec", fn := fun _ => fun
  | [d1, d2, d3, d4] => { results := [.lit (.bool true)], args := [d1, d2, d3, d4] }
  | _ => none }
def vaultRootsMatchSpecRow : OpenClaim := { program := "ytkflhehocbaoiaa", sum := "debefc5dcdf438ad08bd60c561e44d46b6240607cc94c8e2d05184726d7422eb", func := "deadwax/deadwaxlaw9.VaultRootsMatchSpec", spec := "vaultRootsMatchSpec", apart := false }
def VaultRootsMatchSpecSaid : Prop := vaultRootsMatchSpecRow.holds Try.pinned (OpenSpec.ofChange vaultRootsMatchSpecSpec)

/-- ITS FALSE NEIGHBOUR: 'it returns false'. Refute it at one input. -/
def vaultRootsMatchSpecWrong : ChangeSpec := { name := "vaultRootsMatchSpec", fn := fun _ => fun
  | [d1, d2, d3, d4] => { results := [.lit (.bool false)], args := [d1, d2, d3, d4] }
  | _ => none }
def VaultRootsMatchSpecWrongFalsely : Prop := vaultRootsMatchSpecRow.holds Try.pinned (OpenSpec.ofChange vaultRootsMatchSpecWrong)

/- THE SECOND FORM. 'bulk': how many values and letters a reading holds, each counted each time it is reached (what is shared counts as often as it is met; a slice's spare places count too). A statement '..UptoSaid' is the law's where the arguments, and the package variables that the reading takes, are together of bulk at most 1048576: NARROWER than '..Said'. Prove '..Said' where nothing that the law and all that it calls make is longer than what came in: it says more and counts as full. Else prove '..UptoSaid'. A law counts once. -/
mutual
def uptoBulk {H : Type} : DataW H → Nat
  | .lit (.string bytes) => bytes.length + 1
  | .lit _ => 1
  | .nil => 1
  | .ptr d => uptoBulk d + 1
  | .slice elems spare => uptoBulkAll elems + uptoBulkAll spare + 1
  | .agg parts => uptoBulkAll parts + 1
  | .iface _ d => uptoBulk d + 1
  | .map entries => uptoBulkEntries entries + 1
  | .held _ => 1
def uptoBulkAll {H : Type} : List (DataW H) → Nat
  | [] => 0
  | d :: r => uptoBulk d + uptoBulkAll r
def uptoBulkEntries {H : Type} : List (Lit × DataW H) → Nat
  | [] => 0
  | x :: r => uptoBulkEntry x + uptoBulkEntries r
def uptoBulkEntry {H : Type} : Lit × DataW H → Nat
  | (.string bytes, d) => bytes.length + uptoBulk d + 1
  | (_, d) => uptoBulk d + 1
 end
def uptoSmall : (H : Type) → List (DataW H) → Bool := fun _ ds => decide (uptoBulkAll ds ≤ 1048576)
def OpenSpec.upto (s : _root_.Go.ChangeSpec) : _root_.Go.OpenSpec := { _root_.Go.OpenSpec.ofChange s with cond := some uptoSmall }

/-- 'deadwaxlaw9.VaultSumsMatchSpec', WHERE WHAT IT READS IS OF BULK AT MOST 1048576: true; the input reads as it did. -/
def vaultSumsMatchSpecUptoRow : OpenClaim := { program := "ytkflhehocbaoiaa", sum := "debefc5dcdf438ad08bd60c561e44d46b6240607cc94c8e2d05184726d7422eb", func := "deadwax/deadwaxlaw9.VaultSumsMatchSpec", spec := "vaultSumsMatchSpec", apart := false, narrowed := true }
def VaultSumsMatchSpecUptoSaid : Prop := vaultSumsMatchSpecUptoRow.holds Try.pinned (OpenSpec.upto vaultSumsMatchSpecSpec)

/-- 'deadwaxlaw9.VaultProofsLeadToRoots', WHERE WHAT IT READS IS OF BULK AT MOST 1048576: true; the input reads as it did. -/
def vaultProofsLeadToRootsUptoRow : OpenClaim := { program := "ytkflhehocbaoiaa", sum := "debefc5dcdf438ad08bd60c561e44d46b6240607cc94c8e2d05184726d7422eb", func := "deadwax/deadwaxlaw9.VaultProofsLeadToRoots", spec := "vaultProofsLeadToRoots", apart := false, narrowed := true }
def VaultProofsLeadToRootsUptoSaid : Prop := vaultProofsLeadToRootsUptoRow.holds Try.pinned (OpenSpec.upto vaultProofsLeadToRootsSpec)

/-- 'deadwaxlaw9.VaultRootsMatchSpec', WHERE WHAT IT READS IS OF BULK AT MOST 1048576: true; the input reads as it did. -/
def vaultRootsMatchSpecUptoRow : OpenClaim := { program := "ytkflhehocbaoiaa", sum := "debefc5dcdf438ad08bd60c561e44d46b6240607cc94c8e2d05184726d7422eb", func := "deadwax/deadwaxlaw9.VaultRootsMatchSpec", spec := "vaultRootsMatchSpec", apart := false, narrowed := true }
def VaultRootsMatchSpecUptoSaid : Prop := vaultRootsMatchSpecUptoRow.holds Try.pinned (OpenSpec.upto vaultRootsMatchSpecSpec)

end Rows
end Go.Proofs.Ytkflhehocbaoiaa

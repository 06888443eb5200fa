/-
  No cell of these rows narrows 'for every input' (looked for: loops, veiled, ifaces, maps, wideKeys, modest, calm, conditions, laid).
  DERIVED. THE GIVEN ROWS OF THIS SEAT. 3 by the template 'for every input the law returns true; each argument reads behind the call as it read before'; 0 by the template 'total and deterministic' (their statements: YtpihcfpdaoflbaaTotals.lean).
  GIVEN WITH THE SEED: the statements are not yours to turn. If you find one false, say at which input.
  Laid BY PROGRAM, IN A SANDBOX (cutbox-rows.mjs): the forced cells as the released guide's own fill.sh prints them over the translation 26205e7d91bf999c… (all of the seat's roots in one cut). By AI agents, Wed Nov 11 2026. No macro, syntax, notation, axiom, sorry.
-/
import Derived.Test.YtpihcfpdaoflbaaChecked
import GoSem.Claim
import GoSem.ClaimJoined
import GoSem.ClaimMapViews
import Derived.JoinedTies
import Derived.KernelRfl
namespace Go.Proofs.Ytpihcfpdaoflbaa
/- THE CELL 'sum', in the pinned program and in every row, IS THE sha256 OF THE DUMP (.gsa) THAT YtpihcfpdaoflbaaProg.lean LOADS. Nothing in Lean hashes anything: it is a label: what it is worth is what the hold of that sum in a sandbox is worth. -/
noncomputable def Try.pinned : Pinned := { name := "ytpihcfpdaoflbaa", sum := "26205e7d91bf999ccef925f0a99f19097c4496bc5da8b1cf5f2b72ecf17ff0df", checked := Try.checked }
namespace Rows
def none {H : Type} : Left H := { results := [], args := [] }

/-- 'deadwaxlaw8.DueDividesMatchSpec': WHATEVER THE INPUT: true; the input reads as it did. -/
def dueDividesMatchSpecSpec : ChangeSpec := { name := "dueDividesMatchSpec", fn := fun _ => fun
  | [d1, d2] => { results := [.lit (.bool true)], args := [d1, d2] }
  | _ => none }
def dueDividesMatchSpecRow : OpenClaim := { program := "ytpihcfpdaoflbaa", sum := "26205e7d91bf999ccef925f0a99f19097c4496bc5da8b1cf5f2b72ecf17ff0df", func := "deadwax/deadwaxlaw8.DueDividesMatchSpec", spec := "dueDividesMatchSpec", unfollowed := true, recurses := true, apart := false }
def DueDividesMatchSpecSaid : Prop := dueDividesMatchSpecRow.holds Try.pinned (OpenSpec.ofChange dueDividesMatchSpecSpec)

/-- ITS FALSE NEIGHBOUR: 'it returns false'. Refute it at one input. -/
def dueDividesMatchSpecWrong : ChangeSpec := { name := "dueDividesMatchSpec", fn := fun _ => fun
  | [d1, d2] => { results := [.lit (.bool false)], args := [d1, d2] }
  | _ => none }
def DueDividesMatchSpecWrongFalsely : Prop := dueDividesMatchSpecRow.holds Try.pinned (OpenSpec.ofChange dueDividesMatchSpecWrong)

/-- 'deadwaxlaw8.DueTiersMatchSpec': WHATEVER THE INPUT: true; the input reads as it did. -/
def dueTiersMatchSpecSpec : ChangeSpec := { name := "dueTiersMatchSpec", fn := fun _ => fun
  | [d1, d2, d3] => { results := [.lit (.bool true)], args := [d1, d2, d3] }
  | _ => none }
def dueTiersMatchSpecRow : OpenClaim := { program := "ytpihcfpdaoflbaa", sum := "26205e7d91bf999ccef925f0a99f19097c4496bc5da8b1cf5f2b72ecf17ff0df", func := "deadwax/deadwaxlaw8.DueTiersMatchSpec", spec := "dueTiersMatchSpec", unfollowed := true, recurses := true, apart := false }
def DueTiersMatchSpecSaid : Prop := dueTiersMatchSpecRow.holds Try.pinned (OpenSpec.ofChange dueTiersMatchSpecSpec)

/-- ITS FALSE NEIGHBOUR: 'it returns false'. Refute it at one input. -/
def dueTiersMatchSpecWrong : ChangeSpec := { name := "dueTiersMatchSpec", fn := fun _ => fun
  | [d1, d2, d3] => { results := [.lit (.bool false)], args := [d1, d2, d3] }
  | _ => none }
def DueTiersMatchSpecWrongFalsely : Prop := dueTiersMatchSpecRow.holds Try.pinned (OpenSpec.ofChange dueTiersMatchSpecWrong)

/-- 'deadwaxlaw8.DueRecoupsWithTheLeast': WHATEVER THE INPUT: true; the input reads as it did. -/
def dueRecoupsWithTheLeastSpec : ChangeSpec := { name := "dueRecoupsWithTheLeast", fn := fun _ => fun
  | [d1, d2] => { results := [.lit (.bool true)], args := [d1, d2] }
  | _ => none }
def dueRecoupsWithTheLeastRow : OpenClaim := { program := "ytpihcfpdaoflbaa", sum := "26205e7d91bf999ccef925f0a99f19097c4496bc5da8b1cf5f2b72ecf17ff0df", func := "deadwax/deadwaxlaw8.DueRecoupsWithTheLeast", spec := "dueRecoupsWithTheLeast", unfollowed := true, recurses := true, apart := false }
def DueRecoupsWithTheLeastSaid : Prop := dueRecoupsWithTheLeastRow.holds Try.pinned (OpenSpec.ofChange dueRecoupsWithTheLeastSpec)

/-- ITS FALSE NEIGHBOUR: 'it returns false'. Refute it at one input. -/
def dueRecoupsWithTheLeastWrong : ChangeSpec := { name := "dueRecoupsWithTheLeast", fn := fun _ => fun
  | [d1, d2] => { results := [.lit (.bool false)], args := [d1, d2] }
  | _ => none }
def DueRecoupsWithTheLeastWrongFalsely : Prop := dueRecoupsWithTheLeastRow.holds Try.pinned (OpenSpec.ofChange dueRecoupsWithTheLeastWrong)

/- THE SECOND FORM. 'bulk': how many values and letters a reading holds, each counted each time it is reached (what is shared counts as often as it is met; a slice's spare places count too). A statement '..UptoSaid' is the law's where the arguments, and the package variables that the reading takes, are together of bulk at most 1048576: NARROWER than '..Said'. Prove '..Said' where nothing that the law and all that it calls make is longer than what came in: it says more and counts as full. Else prove '..UptoSaid'. A law counts once. -/
mutual
def uptoBulk {H : Type} : DataW H → Nat
  | .lit (.string bytes) => bytes.length + 1
  | .lit _ => 1
  | .nil => 1
  | .ptr d => uptoBulk d + 1
  | .slice elems spare => uptoBulkAll elems + uptoBulkAll spare + 1
  | .agg parts => uptoBulkAll parts + 1
  | .iface _ d => uptoBulk d + 1
  | .map entries => uptoBulkEntries entries + 1
  | .held _ => 1
def uptoBulkAll {H : Type} : List (DataW H) → Nat
  | [] => 0
  | d :: r => uptoBulk d + uptoBulkAll r
def uptoBulkEntries {H : Type} : List (Lit × DataW H) → Nat
  | [] => 0
  | x :: r => uptoBulkEntry x + uptoBulkEntries r
def uptoBulkEntry {H : Type} : Lit × DataW H → Nat
  | (.string bytes, d) => bytes.length + uptoBulk d + 1
  | (_, d) => uptoBulk d + 1
 end
def uptoSmall : (H : Type) → List (DataW H) → Bool := fun _ ds => decide (uptoBulkAll ds ≤ 1048576)
def OpenSpec.upto (s : _root_.Go.ChangeSpec) : _root_.Go.OpenSpec := { _root_.Go.OpenSpec.ofChange s with cond := some uptoSmall }

/-- 'deadwaxlaw8.DueDividesMatchSpec', WHERE WHAT IT READS IS OF BULK AT MOST 1048576: true; the input reads as it did. -/
def dueDividesMatchSpecUptoRow : OpenClaim := { program := "ytpihcfpdaoflbaa", sum := "26205e7d91bf999ccef925f0a99f19097c4496bc5da8b1cf5f2b72ecf17ff0df", func := "deadwax/deadwaxlaw8.DueDividesMatchSpec", spec := "dueDividesMatchSpec", unfollowed := true, recurses := true, apart := false, narrowed := true }
def DueDividesMatchSpecUptoSaid : Prop := dueDividesMatchSpecUptoRow.holds Try.pinned (OpenSpec.upto dueDividesMatchSpecSpec)

/-- 'deadwaxlaw8.DueTiersMatchSpec', WHERE WHAT IT READS IS OF BULK AT MOST 1048576: true; the input reads as it did. -/
def dueTiersMatchSpecUptoRow : OpenClaim := { program := "ytpihcfpdaoflbaa", sum := "26205e7d91bf999ccef925f0a99f19097c4496bc5da8b1cf5f2b72ecf17ff0df", func := "deadwax/deadwaxlaw8.DueTiersMatchSpec", spec := "dueTiersMatchSpec", unfollowed := true, recurses := true, apart := false, narrowed := true }
def DueTiersMatchSpecUptoSaid : Prop := dueTiersMatchSpecUptoRow.holds Try.pinned (OpenSpec.upto dueTiersMatchSpecSpec)

/-- 'deadwaxlaw8.DueRecoupsWithTheLeast', WHERE WHAT IT READS IS OF BULK AT MOST 1048576: true; the input reads as it did. -/
def dueRecoupsWithTheLeastUptoRow : OpenClaim := { program := "ytpihcfpdaoflbaa", sum := "26205e7d91bf999ccef925f0a99f19097c4496bc5da8b1cf5f2b72ecf17ff0df", func := "deadwax/deadwaxlaw8.DueRecoupsWithTheLeast", spec := "dueRecoupsWithTheLeast", unfollowed := true, recurses := true, apart := false, narrowed := true }
def DueRecoupsWithTheLeastUptoSaid : Prop := dueRecoupsWithTheLeastUptoRow.holds Try.pinned (OpenSpec.upto dueRecoupsWithTheLeastSpec)

end Rows
end Go.Proofs.Ytpihcfpdaoflbaa

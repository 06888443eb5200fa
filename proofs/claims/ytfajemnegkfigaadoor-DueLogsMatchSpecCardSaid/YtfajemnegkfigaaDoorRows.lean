/-
  NARROWER THAN 'FOR EVERY INPUT', by the rows' own cells (each row's printed sentence says how): DueContractsMatchSpec: laid · DueLogsJoinInAnyOrder: laid · DueLogsMatchSpec: laid.
  DERIVED. THE GIVEN ROWS OF THIS SEAT. 3 by the template 'for every input the law returns true; each argument reads behind the call as it read before'; 0 by the template 'total and deterministic' (their statements: YtfajemnegkfigaaDoorTotals.lean).
  GIVEN WITH THE SEED: the statements are not yours to turn. If you find one false, say at which input.
  Laid BY PROGRAM, IN A SANDBOX (cutbox-rows.mjs): the forced cells as the released guide's own fill.sh prints them over the translation 70b5cf4207704b2b… (all of the seat's roots in one cut). By AI agents, Wed Nov 11 2026. No macro, syntax, notation, axiom, sorry.
-/
import Derived.Test.YtfajemnegkfigaaDoorChecked
import GoSem.PinnedTables
import GoSem.Claim
import GoSem.ClaimJoined
import GoSem.ClaimMapViews
import Derived.JoinedTies
import Derived.KernelRfl
namespace Go.Proofs.YtfajemnegkfigaaDoor
/- THE CELL 'sum', in the pinned program and in every row, IS THE sha256 OF THE DUMP (.gsa) THAT YtfajemnegkfigaaDoorProg.lean LOADS. Nothing in Lean hashes anything: it is a label: what it is worth is what the hold of that sum in a sandbox is worth. -/
noncomputable def Tryd.pinned : Pinned := { name := "ytfajemnegkfigaadoor", sum := "70b5cf4207704b2bd1477ace8825839bfd8ce868d4c9e5fcce48b9ed1ba95f52", checked := Tryd.checked }
namespace Rows
def none {H : Type} : Left H := { results := [], args := [] }

/- WHAT THE LISTED PACKAGE-LEVEL VARIABLES READ AS WHEN THE CALL BEGINS. Each datum BY PROGRAM (the guide's laid-datum.mjs) off the statement by which the dump's own 'gosem.cut.vars' lays the variable. In a bare row this is a premise. The card (YtfajemnegkfigaaDoorCards.lean) ties it to the program's text. -/
def laid_unicode_utf8_acceptRanges {H : Type} : DataW H := .agg [.agg [.lit (.int .u8 128), .lit (.int .u8 191)], .agg [.lit (.int .u8 160), .lit (.int .u8 191)], .agg [.lit (.int .u8 128), .lit (.int .u8 159)], .agg [.lit (.int .u8 144), .lit (.int .u8 191)], .agg [.lit (.int .u8 128), .lit (.int .u8 143)], .agg [.lit (.int .u8 0), .lit (.int .u8 0)], .agg [.lit (.int .u8 0), .lit (.int .u8 0)], .agg [.lit (.int .u8 0), .lit (.int .u8 0)], .agg [.lit (.int .u8 0), .lit (.int .u8 0)], .agg [.lit (.int .u8 0), .lit (.int .u8 0)], .agg [.lit (.int .u8 0), .lit (.int .u8 0)], .agg [.lit (.int .u8 0), .lit (.int .u8 0)], .agg [.lit (.int .u8 0), .lit (.int .u8 0)], .agg [.lit (.int .u8 0), .lit (.int .u8 0)], .agg [.lit (.int .u8 0), .lit (.int .u8 0)], .agg [.lit (.int .u8 0), .lit (.int .u8 0)]]
/-- One of Go's own tables, pinned by name: the form's constant. -/
def laid_unicode_utf8_first : DataW Unit := Go.Pinned.utf8First

/-- 'deadwaxlaw8.DueContractsMatchSpec': WHATEVER THE INPUT: true; the input reads as it did. -/
def dueContractsMatchSpecSpec : ChangeSpec := { name := "dueContractsMatchSpec", fn := fun _ => fun
  | [d1, d2] => { results := [.lit (.bool true)], args := [d1, d2] }
  | _ => none }
def dueContractsMatchSpecRow : OpenClaim := { program := "ytfajemnegkfigaadoor", sum := "70b5cf4207704b2bd1477ace8825839bfd8ce868d4c9e5fcce48b9ed1ba95f52", func := "deadwax/deadwaxlaw8.DueContractsMatchSpec", spec := "dueContractsMatchSpec", inPlace := ["internal/bytealg.IndexByteString", "internal/bytealg.IndexString", "internal/bytealg.abigen_runtime_cmpstring"], unfollowed := true, recurses := true, named := ["unicode/utf8.first", "unicode/utf8.acceptRanges", "internal/bytealg.MaxLen"], plainKeys := false, apart := false, laid := [("unicode/utf8.acceptRanges", laid_unicode_utf8_acceptRanges), ("unicode/utf8.first", laid_unicode_utf8_first)] }
def DueContractsMatchSpecSaid : Prop := dueContractsMatchSpecRow.holds Tryd.pinned (OpenSpec.ofChange dueContractsMatchSpecSpec)

/-- ITS FALSE NEIGHBOUR: 'it returns false'. Refute it at one input. -/
def dueContractsMatchSpecWrong : ChangeSpec := { name := "dueContractsMatchSpec", fn := fun _ => fun
  | [d1, d2] => { results := [.lit (.bool false)], args := [d1, d2] }
  | _ => none }
def DueContractsMatchSpecWrongFalsely : Prop := dueContractsMatchSpecRow.holds Tryd.pinned (OpenSpec.ofChange dueContractsMatchSpecWrong)

/-- 'deadwaxlaw8.DueLogsJoinInAnyOrder': WHATEVER THE INPUT: true; the input reads as it did. -/
def dueLogsJoinInAnyOrderSpec : ChangeSpec := { name := "dueLogsJoinInAnyOrder", fn := fun _ => fun
  | [d1, d2, d3] => { results := [.lit (.bool true)], args := [d1, d2, d3] }
  | _ => none }
def dueLogsJoinInAnyOrderRow : OpenClaim := { program := "ytfajemnegkfigaadoor", sum := "70b5cf4207704b2bd1477ace8825839bfd8ce868d4c9e5fcce48b9ed1ba95f52", func := "deadwax/deadwaxlaw8.DueLogsJoinInAnyOrder", spec := "dueLogsJoinInAnyOrder", inPlace := ["internal/bytealg.IndexByteString", "internal/bytealg.IndexString", "internal/bytealg.abigen_runtime_cmpstring"], unfollowed := true, recurses := true, named := ["internal/bytealg.MaxLen", "unicode/utf8.first", "unicode/utf8.acceptRanges"], plainKeys := false, apart := false, laid := [("unicode/utf8.acceptRanges", laid_unicode_utf8_acceptRanges), ("unicode/utf8.first", laid_unicode_utf8_first)] }
def DueLogsJoinInAnyOrderSaid : Prop := dueLogsJoinInAnyOrderRow.holds Tryd.pinned (OpenSpec.ofChange dueLogsJoinInAnyOrderSpec)

/-- ITS FALSE NEIGHBOUR: 'it returns false'. Refute it at one input. -/
def dueLogsJoinInAnyOrderWrong : ChangeSpec := { name := "dueLogsJoinInAnyOrder", fn := fun _ => fun
  | [d1, d2, d3] => { results := [.lit (.bool false)], args := [d1, d2, d3] }
  | _ => none }
def DueLogsJoinInAnyOrderWrongFalsely : Prop := dueLogsJoinInAnyOrderRow.holds Tryd.pinned (OpenSpec.ofChange dueLogsJoinInAnyOrderWrong)

/-- 'deadwaxlaw8.DueLogsMatchSpec': WHATEVER THE INPUT: true; the input reads as it did. -/
def dueLogsMatchSpecSpec : ChangeSpec := { name := "dueLogsMatchSpec", fn := fun _ => fun
  | [d1, d2] => { results := [.lit (.bool true)], args := [d1, d2] }
  | _ => none }
def dueLogsMatchSpecRow : OpenClaim := { program := "ytfajemnegkfigaadoor", sum := "70b5cf4207704b2bd1477ace8825839bfd8ce868d4c9e5fcce48b9ed1ba95f52", func := "deadwax/deadwaxlaw8.DueLogsMatchSpec", spec := "dueLogsMatchSpec", inPlace := ["internal/bytealg.IndexByteString", "internal/bytealg.IndexString", "internal/bytealg.abigen_runtime_cmpstring", "slices.overlaps[deadwax/api.Report]"], unfollowed := true, recurses := true, named := ["unicode/utf8.first", "unicode/utf8.acceptRanges", "internal/bytealg.MaxLen"], plainKeys := false, apart := false, laid := [("unicode/utf8.acceptRanges", laid_unicode_utf8_acceptRanges), ("unicode/utf8.first", laid_unicode_utf8_first)] }
def DueLogsMatchSpecSaid : Prop := dueLogsMatchSpecRow.holds Tryd.pinned (OpenSpec.ofChange dueLogsMatchSpecSpec)

/-- ITS FALSE NEIGHBOUR: 'it returns false'. Refute it at one input. -/
def dueLogsMatchSpecWrong : ChangeSpec := { name := "dueLogsMatchSpec", fn := fun _ => fun
  | [d1, d2] => { results := [.lit (.bool false)], args := [d1, d2] }
  | _ => none }
def DueLogsMatchSpecWrongFalsely : Prop := dueLogsMatchSpecRow.holds Tryd.pinned (OpenSpec.ofChange dueLogsMatchSpecWrong)

/- THE SECOND FORM. 'bulk': how many values and letters a reading holds, each counted each time it is reached (what is shared counts as often as it is met; a slice's spare places count too). A statement '..UptoSaid' is the law's where the arguments, and the package variables that the reading takes, are together of bulk at most 1048576: NARROWER than '..Said'. Prove '..Said' where nothing that the law and all that it calls make is longer than what came in: it says more and counts as full. Else prove '..UptoSaid'. A law counts once. -/
mutual
def uptoBulk {H : Type} : DataW H → Nat
  | .lit (.string bytes) => bytes.length + 1
  | .lit _ => 1
  | .nil => 1
  | .ptr d => uptoBulk d + 1
  | .slice elems spare => uptoBulkAll elems + uptoBulkAll spare + 1
  | .agg parts => uptoBulkAll parts + 1
  | .iface _ d => uptoBulk d + 1
  | .map entries => uptoBulkEntries entries + 1
  | .held _ => 1
def uptoBulkAll {H : Type} : List (DataW H) → Nat
  | [] => 0
  | d :: r => uptoBulk d + uptoBulkAll r
def uptoBulkEntries {H : Type} : List (Lit × DataW H) → Nat
  | [] => 0
  | x :: r => uptoBulkEntry x + uptoBulkEntries r
def uptoBulkEntry {H : Type} : Lit × DataW H → Nat
  | (.string bytes, d) => bytes.length + uptoBulk d + 1
  | (_, d) => uptoBulk d + 1
 end
def uptoSmall : (H : Type) → List (DataW H) → Bool := fun _ ds => decide (uptoBulkAll ds ≤ 1048576)
def OpenSpec.upto (s : _root_.Go.ChangeSpec) : _root_.Go.OpenSpec := { _root_.Go.OpenSpec.ofChange s with cond := some uptoSmall }

/-- 'deadwaxlaw8.DueContractsMatchSpec', WHERE WHAT IT READS IS OF BULK AT MOST 1048576: true; the input reads as it did. -/
def dueContractsMatchSpecUptoRow : OpenClaim := { program := "ytfajemnegkfigaadoor", sum := "70b5cf4207704b2bd1477ace8825839bfd8ce868d4c9e5fcce48b9ed1ba95f52", func := "deadwax/deadwaxlaw8.DueContractsMatchSpec", spec := "dueContractsMatchSpec", inPlace := ["internal/bytealg.IndexByteString", "internal/bytealg.IndexString", "internal/bytealg.abigen_runtime_cmpstring"], unfollowed := true, recurses := true, named := ["unicode/utf8.first", "unicode/utf8.acceptRanges", "internal/bytealg.MaxLen"], plainKeys := false, apart := false, laid := [("unicode/utf8.acceptRanges", laid_unicode_utf8_acceptRanges), ("unicode/utf8.first", laid_unicode_utf8_first)], narrowed := true }
def DueContractsMatchSpecUptoSaid : Prop := dueContractsMatchSpecUptoRow.holds Tryd.pinned (OpenSpec.upto dueContractsMatchSpecSpec)

/-- 'deadwaxlaw8.DueLogsJoinInAnyOrder', WHERE WHAT IT READS IS OF BULK AT MOST 1048576: true; the input reads as it did. -/
def dueLogsJoinInAnyOrderUptoRow : OpenClaim := { program := "ytfajemnegkfigaadoor", sum := "70b5cf4207704b2bd1477ace8825839bfd8ce868d4c9e5fcce48b9ed1ba95f52", func := "deadwax/deadwaxlaw8.DueLogsJoinInAnyOrder", spec := "dueLogsJoinInAnyOrder", inPlace := ["internal/bytealg.IndexByteString", "internal/bytealg.IndexString", "internal/bytealg.abigen_runtime_cmpstring"], unfollowed := true, recurses := true, named := ["internal/bytealg.MaxLen", "unicode/utf8.first", "unicode/utf8.acceptRanges"], plainKeys := false, apart := false, laid := [("unicode/utf8.acceptRanges", laid_unicode_utf8_acceptRanges), ("unicode/utf8.first", laid_unicode_utf8_first)], narrowed := true }
def DueLogsJoinInAnyOrderUptoSaid : Prop := dueLogsJoinInAnyOrderUptoRow.holds Tryd.pinned (OpenSpec.upto dueLogsJoinInAnyOrderSpec)

/-- 'deadwaxlaw8.DueLogsMatchSpec', WHERE WHAT IT READS IS OF BULK AT MOST 1048576: true; the input reads as it did. -/
def dueLogsMatchSpecUptoRow : OpenClaim := { program := "ytfajemnegkfigaadoor", sum := "70b5cf4207704b2bd1477ace8825839bfd8ce868d4c9e5fcce48b9ed1ba95f52", func := "deadwax/deadwaxlaw8.DueLogsMatchSpec", spec := "dueLogsMatchSpec", inPlace := ["internal/bytealg.IndexByteString", "internal/bytealg.IndexString", "internal/bytealg.abigen_runtime_cmpstring", "slices.overlaps[deadwax/api.Report]"], unfollowed := true, recurses := true, named := ["unicode/utf8.first", "unicode/utf8.acceptRanges", "internal/bytealg.MaxLen"], plainKeys := false, apart := false, laid := [("unicode/utf8.acceptRanges", laid_unicode_utf8_acceptRanges), ("unicode/utf8.first", laid_unicode_utf8_first)], narrowed := true }
def DueLogsMatchSpecUptoSaid : Prop := dueLogsMatchSpecUptoRow.holds Tryd.pinned (OpenSpec.upto dueLogsMatchSpecSpec)

end Rows
end Go.Proofs.YtfajemnegkfigaaDoor

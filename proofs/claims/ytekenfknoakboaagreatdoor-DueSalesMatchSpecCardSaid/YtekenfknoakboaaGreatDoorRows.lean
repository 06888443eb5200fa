/-
  NARROWER THAN 'FOR EVERY INPUT', by the rows' own cells (each row's printed sentence says how): DueSalesMatchSpec: laid · DueStatementsMatchSpec: laid · DueOwesNothingNew: laid · DuePaysOnce: laid.
  DERIVED. THE GIVEN ROWS OF THIS SEAT. 4 by the template 'for every input the law returns true; each argument reads behind the call as it read before'; 0 by the template 'total and deterministic' (their statements: YtekenfknoakboaaGreatDoorTotals.lean).
  GIVEN WITH THE SEED: the statements are not yours to turn. If you find one false, say at which input.
  Laid BY PROGRAM, IN A SANDBOX (cutbox-rows.mjs): the forced cells as the released guide's own fill.sh prints them over the translation 7ecb56ae8b87d9d0… (all of the seat's roots in one cut). By AI agents, Wed Nov 11 2026. No macro, syntax, notation, axiom, sorry.
-/
import Derived.Test.YtekenfknoakboaaGreatDoorChecked
import GoSem.PinnedTables
import GoSem.Claim
import GoSem.ClaimJoined
import GoSem.ClaimMapViews
import Derived.JoinedTies
import Derived.KernelRfl
namespace Go.Proofs.YtekenfknoakboaaGreatDoor
/- THE CELL 'sum', in the pinned program and in every row, IS THE sha256 OF THE DUMP (.gsa) THAT YtekenfknoakboaaGreatDoorProg.lean LOADS. Nothing in Lean hashes anything: it is a label: what it is worth is what the hold of that sum in a sandbox is worth. -/
noncomputable def Tryz.pinned : Pinned := { name := "ytekenfknoakboaagreatdoor", sum := "7ecb56ae8b87d9d06ae0d239a0def20ae160e97a3dc35c027f0512c223052df8", checked := Tryz.checked }
namespace Rows
def none {H : Type} : Left H := { results := [], args := [] }

/- WHAT THE LISTED PACKAGE-LEVEL VARIABLES READ AS WHEN THE CALL BEGINS. Each datum BY PROGRAM (the guide's laid-datum.mjs) off the statement by which the dump's own 'gosem.cut.vars' lays the variable. In a bare row this is a premise. The card (YtekenfknoakboaaGreatDoorCards.lean) ties it to the program's text. -/
def laid_unicode_utf8_acceptRanges {H : Type} : DataW H := .agg [.agg [.lit (.int .u8 128), .lit (.int .u8 191)], .agg [.lit (.int .u8 160), .lit (.int .u8 191)], .agg [.lit (.int .u8 128), .lit (.int .u8 159)], .agg [.lit (.int .u8 144), .lit (.int .u8 191)], .agg [.lit (.int .u8 128), .lit (.int .u8 143)], .agg [.lit (.int .u8 0), .lit (.int .u8 0)], .agg [.lit (.int .u8 0), .lit (.int .u8 0)], .agg [.lit (.int .u8 0), .lit (.int .u8 0)], .agg [.lit (.int .u8 0), .lit (.int .u8 0)], .agg [.lit (.int .u8 0), .lit (.int .u8 0)], .agg [.lit (.int .u8 0), .lit (.int .u8 0)], .agg [.lit (.int .u8 0), .lit (.int .u8 0)], .agg [.lit (.int .u8 0), .lit (.int .u8 0)], .agg [.lit (.int .u8 0), .lit (.int .u8 0)], .agg [.lit (.int .u8 0), .lit (.int .u8 0)], .agg [.lit (.int .u8 0), .lit (.int .u8 0)]]
/-- One of Go's own tables, pinned by name: the form's constant. -/
def laid_unicode_utf8_first : DataW Unit := Go.Pinned.utf8First

/-- 'deadwaxlaw8.DueSalesMatchSpec': WHATEVER THE INPUT: true; the input reads as it did. -/
def dueSalesMatchSpecSpec : ChangeSpec := { name := "dueSalesMatchSpec", fn := fun _ => fun
  | [d1, d2, d3] => { results := [.lit (.bool true)], args := [d1, d2, d3] }
  | _ => none }
def dueSalesMatchSpecRow : OpenClaim := { program := "ytekenfknoakboaagreatdoor", sum := "7ecb56ae8b87d9d06ae0d239a0def20ae160e97a3dc35c027f0512c223052df8", func := "deadwax/deadwaxlaw8.DueSalesMatchSpec", spec := "dueSalesMatchSpec", inPlace := ["internal/bytealg.IndexByteString", "internal/bytealg.IndexString", "internal/bytealg.abigen_runtime_cmpstring", "slices.overlaps[deadwax/api.Sale]", "slices.overlaps[deadwax/api.Unknown]"], unfollowed := true, recurses := true, named := ["unicode/utf8.first", "unicode/utf8.acceptRanges", "internal/bytealg.MaxLen"], plainKeys := false, apart := false, laid := [("unicode/utf8.acceptRanges", laid_unicode_utf8_acceptRanges), ("unicode/utf8.first", laid_unicode_utf8_first)] }
def DueSalesMatchSpecSaid : Prop := dueSalesMatchSpecRow.holds Tryz.pinned (OpenSpec.ofChange dueSalesMatchSpecSpec)

/-- ITS FALSE NEIGHBOUR: 'it returns false'. Refute it at one input. -/
def dueSalesMatchSpecWrong : ChangeSpec := { name := "dueSalesMatchSpec", fn := fun _ => fun
  | [d1, d2, d3] => { results := [.lit (.bool false)], args := [d1, d2, d3] }
  | _ => none }
def DueSalesMatchSpecWrongFalsely : Prop := dueSalesMatchSpecRow.holds Tryz.pinned (OpenSpec.ofChange dueSalesMatchSpecWrong)

/-- 'deadwaxlaw8.DueStatementsMatchSpec': WHATEVER THE INPUT: true; the input reads as it did. -/
def dueStatementsMatchSpecSpec : ChangeSpec := { name := "dueStatementsMatchSpec", fn := fun _ => fun
  | [d1, d2] => { results := [.lit (.bool true)], args := [d1, d2] }
  | _ => none }
def dueStatementsMatchSpecRow : OpenClaim := { program := "ytekenfknoakboaagreatdoor", sum := "7ecb56ae8b87d9d06ae0d239a0def20ae160e97a3dc35c027f0512c223052df8", func := "deadwax/deadwaxlaw8.DueStatementsMatchSpec", spec := "dueStatementsMatchSpec", inPlace := ["internal/bytealg.IndexByteString", "internal/bytealg.IndexString", "internal/bytealg.abigen_runtime_cmpstring", "slices.overlaps[deadwax/api.Held]", "slices.overlaps[deadwax/api.Sale]"], unfollowed := true, recurses := true, named := ["unicode/utf8.first", "unicode/utf8.acceptRanges", "internal/bytealg.MaxLen"], plainKeys := false, apart := false, laid := [("unicode/utf8.acceptRanges", laid_unicode_utf8_acceptRanges), ("unicode/utf8.first", laid_unicode_utf8_first)] }
def DueStatementsMatchSpecSaid : Prop := dueStatementsMatchSpecRow.holds Tryz.pinned (OpenSpec.ofChange dueStatementsMatchSpecSpec)

/-- ITS FALSE NEIGHBOUR: 'it returns false'. Refute it at one input. -/
def dueStatementsMatchSpecWrong : ChangeSpec := { name := "dueStatementsMatchSpec", fn := fun _ => fun
  | [d1, d2] => { results := [.lit (.bool false)], args := [d1, d2] }
  | _ => none }
def DueStatementsMatchSpecWrongFalsely : Prop := dueStatementsMatchSpecRow.holds Tryz.pinned (OpenSpec.ofChange dueStatementsMatchSpecWrong)

/-- 'deadwaxlaw8.DueOwesNothingNew': WHATEVER THE INPUT: true; the input reads as it did. -/
def dueOwesNothingNewSpec : ChangeSpec := { name := "dueOwesNothingNew", fn := fun _ => fun
  | [d1, d2] => { results := [.lit (.bool true)], args := [d1, d2] }
  | _ => none }
def dueOwesNothingNewRow : OpenClaim := { program := "ytekenfknoakboaagreatdoor", sum := "7ecb56ae8b87d9d06ae0d239a0def20ae160e97a3dc35c027f0512c223052df8", func := "deadwax/deadwaxlaw8.DueOwesNothingNew", spec := "dueOwesNothingNew", inPlace := ["internal/bytealg.IndexByteString", "internal/bytealg.IndexString", "internal/bytealg.abigen_runtime_cmpstring", "slices.overlaps[deadwax/api.Held]"], unfollowed := true, recurses := true, named := ["unicode/utf8.first", "unicode/utf8.acceptRanges", "internal/bytealg.MaxLen"], plainKeys := false, apart := false, laid := [("unicode/utf8.acceptRanges", laid_unicode_utf8_acceptRanges), ("unicode/utf8.first", laid_unicode_utf8_first)] }
def DueOwesNothingNewSaid : Prop := dueOwesNothingNewRow.holds Tryz.pinned (OpenSpec.ofChange dueOwesNothingNewSpec)

/-- ITS FALSE NEIGHBOUR: 'it returns false'. Refute it at one input. -/
def dueOwesNothingNewWrong : ChangeSpec := { name := "dueOwesNothingNew", fn := fun _ => fun
  | [d1, d2] => { results := [.lit (.bool false)], args := [d1, d2] }
  | _ => none }
def DueOwesNothingNewWrongFalsely : Prop := dueOwesNothingNewRow.holds Tryz.pinned (OpenSpec.ofChange dueOwesNothingNewWrong)

/-- 'deadwaxlaw8.DuePaysOnce': WHATEVER THE INPUT: true; the input reads as it did. -/
def duePaysOnceSpec : ChangeSpec := { name := "duePaysOnce", fn := fun _ => fun
  | [d1, d2] => { results := [.lit (.bool true)], args := [d1, d2] }
  | _ => none }
def duePaysOnceRow : OpenClaim := { program := "ytekenfknoakboaagreatdoor", sum := "7ecb56ae8b87d9d06ae0d239a0def20ae160e97a3dc35c027f0512c223052df8", func := "deadwax/deadwaxlaw8.DuePaysOnce", spec := "duePaysOnce", inPlace := ["internal/bytealg.IndexByteString", "internal/bytealg.IndexString", "internal/bytealg.abigen_runtime_cmpstring", "slices.overlaps[deadwax/api.Held]", "slices.overlaps[deadwax/api.Sale]"], unfollowed := true, recurses := true, named := ["unicode/utf8.first", "unicode/utf8.acceptRanges", "internal/bytealg.MaxLen"], plainKeys := false, apart := false, laid := [("unicode/utf8.acceptRanges", laid_unicode_utf8_acceptRanges), ("unicode/utf8.first", laid_unicode_utf8_first)] }
def DuePaysOnceSaid : Prop := duePaysOnceRow.holds Tryz.pinned (OpenSpec.ofChange duePaysOnceSpec)

/-- ITS FALSE NEIGHBOUR: 'it returns false'. Refute it at one input. -/
def duePaysOnceWrong : ChangeSpec := { name := "duePaysOnce", fn := fun _ => fun
  | [d1, d2] => { results := [.lit (.bool false)], args := [d1, d2] }
  | _ => none }
def DuePaysOnceWrongFalsely : Prop := duePaysOnceRow.holds Tryz.pinned (OpenSpec.ofChange duePaysOnceWrong)

/- THE SECOND FORM. 'bulk': how many values and letters a reading holds, each counted each time it is reached (what is shared counts as often as it is met; a slice's spare places count too). A statement '..UptoSaid' is the law's where the arguments, and the package variables that the reading takes, are together of bulk at most 1048576: NARROWER than '..Said'. Prove '..Said' where nothing that the law and all that it calls make is longer than what came in: it says more and counts as full. Else prove '..UptoSaid'. A law counts once. -/
mutual
def uptoBulk {H : Type} : DataW H → Nat
  | .lit (.string bytes) => bytes.length + 1
  | .lit _ => 1
  | .nil => 1
  | .ptr d => uptoBulk d + 1
  | .slice elems spare => uptoBulkAll elems + uptoBulkAll spare + 1
  | .agg parts => uptoBulkAll parts + 1
  | .iface _ d => uptoBulk d + 1
  | .map entries => uptoBulkEntries entries + 1
  | .held _ => 1
def uptoBulkAll {H : Type} : List (DataW H) → Nat
  | [] => 0
  | d :: r => uptoBulk d + uptoBulkAll r
def uptoBulkEntries {H : Type} : List (Lit × DataW H) → Nat
  | [] => 0
  | x :: r => uptoBulkEntry x + uptoBulkEntries r
def uptoBulkEntry {H : Type} : Lit × DataW H → Nat
  | (.string bytes, d) => bytes.length + uptoBulk d + 1
  | (_, d) => uptoBulk d + 1
 end
def uptoSmall : (H : Type) → List (DataW H) → Bool := fun _ ds => decide (uptoBulkAll ds ≤ 1048576)
def OpenSpec.upto (s : _root_.Go.ChangeSpec) : _root_.Go.OpenSpec := { _root_.Go.OpenSpec.ofChange s with cond := some uptoSmall }

/-- 'deadwaxlaw8.DueSalesMatchSpec', WHERE WHAT IT READS IS OF BULK AT MOST 1048576: true; the input reads as it did. -/
def dueSalesMatchSpecUptoRow : OpenClaim := { program := "ytekenfknoakboaagreatdoor", sum := "7ecb56ae8b87d9d06ae0d239a0def20ae160e97a3dc35c027f0512c223052df8", func := "deadwax/deadwaxlaw8.DueSalesMatchSpec", spec := "dueSalesMatchSpec", inPlace := ["internal/bytealg.IndexByteString", "internal/bytealg.IndexString", "internal/bytealg.abigen_runtime_cmpstring", "slices.overlaps[deadwax/api.Sale]", "slices.overlaps[deadwax/api.Unknown]"], unfollowed := true, recurses := true, named := ["unicode/utf8.first", "unicode/utf8.acceptRanges", "internal/bytealg.MaxLen"], plainKeys := false, apart := false, laid := [("unicode/utf8.acceptRanges", laid_unicode_utf8_acceptRanges), ("unicode/utf8.first", laid_unicode_utf8_first)], narrowed := true }
def DueSalesMatchSpecUptoSaid : Prop := dueSalesMatchSpecUptoRow.holds Tryz.pinned (OpenSpec.upto dueSalesMatchSpecSpec)

/-- 'deadwaxlaw8.DueStatementsMatchSpec', WHERE WHAT IT READS IS OF BULK AT MOST 1048576: true; the input reads as it did. -/
def dueStatementsMatchSpecUptoRow : OpenClaim := { program := "ytekenfknoakboaagreatdoor", sum := "7ecb56ae8b87d9d06ae0d239a0def20ae160e97a3dc35c027f0512c223052df8", func := "deadwax/deadwaxlaw8.DueStatementsMatchSpec", spec := "dueStatementsMatchSpec", inPlace := ["internal/bytealg.IndexByteString", "internal/bytealg.IndexString", "internal/bytealg.abigen_runtime_cmpstring", "slices.overlaps[deadwax/api.Held]", "slices.overlaps[deadwax/api.Sale]"], unfollowed := true, recurses := true, named := ["unicode/utf8.first", "unicode/utf8.acceptRanges", "internal/bytealg.MaxLen"], plainKeys := false, apart := false, laid := [("unicode/utf8.acceptRanges", laid_unicode_utf8_acceptRanges), ("unicode/utf8.first", laid_unicode_utf8_first)], narrowed := true }
def DueStatementsMatchSpecUptoSaid : Prop := dueStatementsMatchSpecUptoRow.holds Tryz.pinned (OpenSpec.upto dueStatementsMatchSpecSpec)

/-- 'deadwaxlaw8.DueOwesNothingNew', WHERE WHAT IT READS IS OF BULK AT MOST 1048576: true; the input reads as it did. -/
def dueOwesNothingNewUptoRow : OpenClaim := { program := "ytekenfknoakboaagreatdoor", sum := "7ecb56ae8b87d9d06ae0d239a0def20ae160e97a3dc35c027f0512c223052df8", func := "deadwax/deadwaxlaw8.DueOwesNothingNew", spec := "dueOwesNothingNew", inPlace := ["internal/bytealg.IndexByteString", "internal/bytealg.IndexString", "internal/bytealg.abigen_runtime_cmpstring", "slices.overlaps[deadwax/api.Held]"], unfollowed := true, recurses := true, named := ["unicode/utf8.first", "unicode/utf8.acceptRanges", "internal/bytealg.MaxLen"], plainKeys := false, apart := false, laid := [("unicode/utf8.acceptRanges", laid_unicode_utf8_acceptRanges), ("unicode/utf8.first", laid_unicode_utf8_first)], narrowed := true }
def DueOwesNothingNewUptoSaid : Prop := dueOwesNothingNewUptoRow.holds Tryz.pinned (OpenSpec.upto dueOwesNothingNewSpec)

/-- 'deadwaxlaw8.DuePaysOnce', WHERE WHAT IT READS IS OF BULK AT MOST 1048576: true; the input reads as it did. -/
def duePaysOnceUptoRow : OpenClaim := { program := "ytekenfknoakboaagreatdoor", sum := "7ecb56ae8b87d9d06ae0d239a0def20ae160e97a3dc35c027f0512c223052df8", func := "deadwax/deadwaxlaw8.DuePaysOnce", spec := "duePaysOnce", inPlace := ["internal/bytealg.IndexByteString", "internal/bytealg.IndexString", "internal/bytealg.abigen_runtime_cmpstring", "slices.overlaps[deadwax/api.Held]", "slices.overlaps[deadwax/api.Sale]"], unfollowed := true, recurses := true, named := ["unicode/utf8.first", "unicode/utf8.acceptRanges", "internal/bytealg.MaxLen"], plainKeys := false, apart := false, laid := [("unicode/utf8.acceptRanges", laid_unicode_utf8_acceptRanges), ("unicode/utf8.first", laid_unicode_utf8_first)], narrowed := true }
def DuePaysOnceUptoSaid : Prop := duePaysOnceUptoRow.holds Tryz.pinned (OpenSpec.upto duePaysOnceSpec)

end Rows
end Go.Proofs.YtekenfknoakboaaGreatDoor

/-
  NARROWER THAN 'FOR EVERY INPUT', by the rows' own cells (each row's printed sentence says how): ShelfTogetherAgrees: laid · ShelfMergesKeepWhatIsThere: laid · ShelfPlaysMatchSpec: laid · ShelfSplitsMerge: laid · ShelfMergesMatchSpec: laid.
  DERIVED. THE GIVEN ROWS OF THIS SEAT. 5 by the template 'for every input the law returns true; each argument reads behind the call as it read before'; 0 by the template 'total and deterministic' (their statements: YtgldfnkbpopanaaGreatDoorTotals.lean).
  GIVEN WITH THE SEED: the statements are not yours to turn. If you find one false, say at which input.
  Laid BY PROGRAM, IN A SANDBOX (cutbox-rows.mjs): the forced cells as the released guide's own fill.sh prints them over the translation c3dbe0ecb13bd4c1… (all of the seat's roots in one cut). By AI agents, Wed Nov 11 2026. No macro, syntax, notation, axiom, sorry.
-/
import Derived.Test.YtgldfnkbpopanaaGreatDoorChecked
import GoSem.PinnedTables
import GoSem.Claim
import GoSem.ClaimJoined
import GoSem.ClaimMapViews
import Derived.JoinedTies
import Derived.KernelRfl
namespace Go.Proofs.YtgldfnkbpopanaaGreatDoor
/- THE CELL 'sum', in the pinned program and in every row, IS THE sha256 OF THE DUMP (.gsa) THAT YtgldfnkbpopanaaGreatDoorProg.lean LOADS. Nothing in Lean hashes anything: it is a label: what it is worth is what the hold of that sum in a sandbox is worth. -/
noncomputable def Tryz.pinned : Pinned := { name := "ytgldfnkbpopanaagreatdoor", sum := "c3dbe0ecb13bd4c152da93948e3d7d365c8829c7ee18a68b67884d3ba660af5d", checked := Tryz.checked }
namespace Rows
def none {H : Type} : Left H := { results := [], args := [] }

/- WHAT THE LISTED PACKAGE-LEVEL VARIABLES READ AS WHEN THE CALL BEGINS. Each datum BY PROGRAM (the guide's laid-datum.mjs) off the statement by which the dump's own 'gosem.cut.vars' lays the variable. In a bare row this is a premise. The card (YtgldfnkbpopanaaGreatDoorCards.lean) ties it to the program's text. -/
def laid_unicode_utf8_acceptRanges {H : Type} : DataW H := .agg [.agg [.lit (.int .u8 128), .lit (.int .u8 191)], .agg [.lit (.int .u8 160), .lit (.int .u8 191)], .agg [.lit (.int .u8 128), .lit (.int .u8 159)], .agg [.lit (.int .u8 144), .lit (.int .u8 191)], .agg [.lit (.int .u8 128), .lit (.int .u8 143)], .agg [.lit (.int .u8 0), .lit (.int .u8 0)], .agg [.lit (.int .u8 0), .lit (.int .u8 0)], .agg [.lit (.int .u8 0), .lit (.int .u8 0)], .agg [.lit (.int .u8 0), .lit (.int .u8 0)], .agg [.lit (.int .u8 0), .lit (.int .u8 0)], .agg [.lit (.int .u8 0), .lit (.int .u8 0)], .agg [.lit (.int .u8 0), .lit (.int .u8 0)], .agg [.lit (.int .u8 0), .lit (.int .u8 0)], .agg [.lit (.int .u8 0), .lit (.int .u8 0)], .agg [.lit (.int .u8 0), .lit (.int .u8 0)], .agg [.lit (.int .u8 0), .lit (.int .u8 0)]]
/-- One of Go's own tables, pinned by name: the form's constant. -/
def laid_unicode_utf8_first : DataW Unit := Go.Pinned.utf8First

/-- 'deadwaxlaw6.ShelfTogetherAgrees': WHATEVER THE INPUT: true; the input reads as it did. -/
def shelfTogetherAgreesSpec : ChangeSpec := { name := "shelfTogetherAgrees", fn := fun _ => fun
  | [d1, d2, d3] => { results := [.lit (.bool true)], args := [d1, d2, d3] }
  | _ => none }
def shelfTogetherAgreesRow : OpenClaim := { program := "ytgldfnkbpopanaagreatdoor", sum := "c3dbe0ecb13bd4c152da93948e3d7d365c8829c7ee18a68b67884d3ba660af5d", func := "deadwax/deadwaxlaw6.ShelfTogetherAgrees", spec := "shelfTogetherAgrees", inPlace := ["internal/bytealg.IndexByteString", "internal/bytealg.IndexString"], unfollowed := true, recurses := true, named := ["internal/bytealg.MaxLen", "unicode/utf8.first", "unicode/utf8.acceptRanges"], plainKeys := false, apart := false, laid := [("unicode/utf8.acceptRanges", laid_unicode_utf8_acceptRanges), ("unicode/utf8.first", laid_unicode_utf8_first)] }
def ShelfTogetherAgreesSaid : Prop := shelfTogetherAgreesRow.holds Tryz.pinned (OpenSpec.ofChange shelfTogetherAgreesSpec)

/-- ITS FALSE NEIGHBOUR: 'it returns false'. Refute it at one input. -/
def shelfTogetherAgreesWrong : ChangeSpec := { name := "shelfTogetherAgrees", fn := fun _ => fun
  | [d1, d2, d3] => { results := [.lit (.bool false)], args := [d1, d2, d3] }
  | _ => none }
def ShelfTogetherAgreesWrongFalsely : Prop := shelfTogetherAgreesRow.holds Tryz.pinned (OpenSpec.ofChange shelfTogetherAgreesWrong)

/-- 'deadwaxlaw6.ShelfMergesKeepWhatIsThere': WHATEVER THE INPUT: true; the input reads as it did. -/
def shelfMergesKeepWhatIsThereSpec : ChangeSpec := { name := "shelfMergesKeepWhatIsThere", fn := fun _ => fun
  | [d1, d2, d3] => { results := [.lit (.bool true)], args := [d1, d2, d3] }
  | _ => none }
def shelfMergesKeepWhatIsThereRow : OpenClaim := { program := "ytgldfnkbpopanaagreatdoor", sum := "c3dbe0ecb13bd4c152da93948e3d7d365c8829c7ee18a68b67884d3ba660af5d", func := "deadwax/deadwaxlaw6.ShelfMergesKeepWhatIsThere", spec := "shelfMergesKeepWhatIsThere", inPlace := ["internal/bytealg.IndexByteString", "internal/bytealg.IndexString"], unfollowed := true, recurses := true, named := ["internal/bytealg.MaxLen", "unicode/utf8.first", "unicode/utf8.acceptRanges"], plainKeys := false, apart := false, laid := [("unicode/utf8.acceptRanges", laid_unicode_utf8_acceptRanges), ("unicode/utf8.first", laid_unicode_utf8_first)] }
def ShelfMergesKeepWhatIsThereSaid : Prop := shelfMergesKeepWhatIsThereRow.holds Tryz.pinned (OpenSpec.ofChange shelfMergesKeepWhatIsThereSpec)

/-- ITS FALSE NEIGHBOUR: 'it returns false'. Refute it at one input. -/
def shelfMergesKeepWhatIsThereWrong : ChangeSpec := { name := "shelfMergesKeepWhatIsThere", fn := fun _ => fun
  | [d1, d2, d3] => { results := [.lit (.bool false)], args := [d1, d2, d3] }
  | _ => none }
def ShelfMergesKeepWhatIsThereWrongFalsely : Prop := shelfMergesKeepWhatIsThereRow.holds Tryz.pinned (OpenSpec.ofChange shelfMergesKeepWhatIsThereWrong)

/-- 'deadwaxlaw6.ShelfPlaysMatchSpec': WHATEVER THE INPUT: true; the input reads as it did. -/
def shelfPlaysMatchSpecSpec : ChangeSpec := { name := "shelfPlaysMatchSpec", fn := fun _ => fun
  | [d1, d2] => { results := [.lit (.bool true)], args := [d1, d2] }
  | _ => none }
def shelfPlaysMatchSpecRow : OpenClaim := { program := "ytgldfnkbpopanaagreatdoor", sum := "c3dbe0ecb13bd4c152da93948e3d7d365c8829c7ee18a68b67884d3ba660af5d", func := "deadwax/deadwaxlaw6.ShelfPlaysMatchSpec", spec := "shelfPlaysMatchSpec", inPlace := ["internal/bytealg.IndexByteString", "internal/bytealg.IndexString", "slices.overlaps[deadwax/api.Thing]", "slices.overlaps[deadwax/api.Moved]"], unfollowed := true, recurses := true, named := ["internal/bytealg.MaxLen", "unicode/utf8.first", "unicode/utf8.acceptRanges"], plainKeys := false, apart := false, laid := [("unicode/utf8.acceptRanges", laid_unicode_utf8_acceptRanges), ("unicode/utf8.first", laid_unicode_utf8_first)] }
def ShelfPlaysMatchSpecSaid : Prop := shelfPlaysMatchSpecRow.holds Tryz.pinned (OpenSpec.ofChange shelfPlaysMatchSpecSpec)

/-- ITS FALSE NEIGHBOUR: 'it returns false'. Refute it at one input. -/
def shelfPlaysMatchSpecWrong : ChangeSpec := { name := "shelfPlaysMatchSpec", fn := fun _ => fun
  | [d1, d2] => { results := [.lit (.bool false)], args := [d1, d2] }
  | _ => none }
def ShelfPlaysMatchSpecWrongFalsely : Prop := shelfPlaysMatchSpecRow.holds Tryz.pinned (OpenSpec.ofChange shelfPlaysMatchSpecWrong)

/-- 'deadwaxlaw6.ShelfSplitsMerge': WHATEVER THE INPUT: true; the input reads as it did. -/
def shelfSplitsMergeSpec : ChangeSpec := { name := "shelfSplitsMerge", fn := fun _ => fun
  | [d1, d2, d3, d4, d5] => { results := [.lit (.bool true)], args := [d1, d2, d3, d4, d5] }
  | _ => none }
def shelfSplitsMergeRow : OpenClaim := { program := "ytgldfnkbpopanaagreatdoor", sum := "c3dbe0ecb13bd4c152da93948e3d7d365c8829c7ee18a68b67884d3ba660af5d", func := "deadwax/deadwaxlaw6.ShelfSplitsMerge", spec := "shelfSplitsMerge", inPlace := ["internal/bytealg.IndexByteString", "internal/bytealg.IndexString"], unfollowed := true, recurses := true, named := ["internal/bytealg.MaxLen", "unicode/utf8.first", "unicode/utf8.acceptRanges"], plainKeys := false, apart := false, laid := [("unicode/utf8.acceptRanges", laid_unicode_utf8_acceptRanges), ("unicode/utf8.first", laid_unicode_utf8_first)] }
def ShelfSplitsMergeSaid : Prop := shelfSplitsMergeRow.holds Tryz.pinned (OpenSpec.ofChange shelfSplitsMergeSpec)

/-- ITS FALSE NEIGHBOUR: 'it returns false'. Refute it at one input. -/
def shelfSplitsMergeWrong : ChangeSpec := { name := "shelfSplitsMerge", fn := fun _ => fun
  | [d1, d2, d3, d4, d5] => { results := [.lit (.bool false)], args := [d1, d2, d3, d4, d5] }
  | _ => none }
def ShelfSplitsMergeWrongFalsely : Prop := shelfSplitsMergeRow.holds Tryz.pinned (OpenSpec.ofChange shelfSplitsMergeWrong)

/-- 'deadwaxlaw6.ShelfMergesMatchSpec': WHATEVER THE INPUT: true; the input reads as it did. -/
def shelfMergesMatchSpecSpec : ChangeSpec := { name := "shelfMergesMatchSpec", fn := fun _ => fun
  | [d1, d2, d3, d4, d5, d6] => { results := [.lit (.bool true)], args := [d1, d2, d3, d4, d5, d6] }
  | _ => none }
def shelfMergesMatchSpecRow : OpenClaim := { program := "ytgldfnkbpopanaagreatdoor", sum := "c3dbe0ecb13bd4c152da93948e3d7d365c8829c7ee18a68b67884d3ba660af5d", func := "deadwax/deadwaxlaw6.ShelfMergesMatchSpec", spec := "shelfMergesMatchSpec", inPlace := ["internal/bytealg.IndexByteString", "internal/bytealg.IndexString", "slices.overlaps[deadwax/api.Moved]", "slices.overlaps[deadwax/api.Thing]"], unfollowed := true, recurses := true, named := ["internal/bytealg.MaxLen", "unicode/utf8.first", "unicode/utf8.acceptRanges"], plainKeys := false, apart := false, laid := [("unicode/utf8.acceptRanges", laid_unicode_utf8_acceptRanges), ("unicode/utf8.first", laid_unicode_utf8_first)] }
def ShelfMergesMatchSpecSaid : Prop := shelfMergesMatchSpecRow.holds Tryz.pinned (OpenSpec.ofChange shelfMergesMatchSpecSpec)

/-- ITS FALSE NEIGHBOUR: 'it returns false'. Refute it at one input. -/
def shelfMergesMatchSpecWrong : ChangeSpec := { name := "shelfMergesMatchSpec", fn := fun _ => fun
  | [d1, d2, d3, d4, d5, d6] => { results := [.lit (.bool false)], args := [d1, d2, d3, d4, d5, d6] }
  | _ => none }
def ShelfMergesMatchSpecWrongFalsely : Prop := shelfMergesMatchSpecRow.holds Tryz.pinned (OpenSpec.ofChange shelfMergesMatchSpecWrong)

/- THE SECOND FORM. 'bulk': how many values and letters a reading holds, each counted each time it is reached (what is shared counts as often as it is met; a slice's spare places count too). A statement '..UptoSaid' is the law's where the arguments, and the package variables that the reading takes, are together of bulk at most 1048576: NARROWER than '..Said'. Prove '..Said' where nothing that the law and all that it calls make is longer than what came in: it says more and counts as full. Else prove '..UptoSaid'. A law counts once. -/
mutual
def uptoBulk {H : Type} : DataW H → Nat
  | .lit (.string bytes) => bytes.length + 1
  | .lit _ => 1
  | .nil => 1
  | .ptr d => uptoBulk d + 1
  | .slice elems spare => uptoBulkAll elems + uptoBulkAll spare + 1
  | .agg parts => uptoBulkAll parts + 1
  | .iface _ d => uptoBulk d + 1
  | .map entries => uptoBulkEntries entries + 1
  | .held _ => 1
def uptoBulkAll {H : Type} : List (DataW H) → Nat
  | [] => 0
  | d :: r => uptoBulk d + uptoBulkAll r
def uptoBulkEntries {H : Type} : List (Lit × DataW H) → Nat
  | [] => 0
  | x :: r => uptoBulkEntry x + uptoBulkEntries r
def uptoBulkEntry {H : Type} : Lit × DataW H → Nat
  | (.string bytes, d) => bytes.length + uptoBulk d + 1
  | (_, d) => uptoBulk d + 1
 end
def uptoSmall : (H : Type) → List (DataW H) → Bool := fun _ ds => decide (uptoBulkAll ds ≤ 1048576)
def OpenSpec.upto (s : _root_.Go.ChangeSpec) : _root_.Go.OpenSpec := { _root_.Go.OpenSpec.ofChange s with cond := some uptoSmall }

/-- 'deadwaxlaw6.ShelfTogetherAgrees', WHERE WHAT IT READS IS OF BULK AT MOST 1048576: true; the input reads as it did. -/
def shelfTogetherAgreesUptoRow : OpenClaim := { program := "ytgldfnkbpopanaagreatdoor", sum := "c3dbe0ecb13bd4c152da93948e3d7d365c8829c7ee18a68b67884d3ba660af5d", func := "deadwax/deadwaxlaw6.ShelfTogetherAgrees", spec := "shelfTogetherAgrees", inPlace := ["internal/bytealg.IndexByteString", "internal/bytealg.IndexString"], unfollowed := true, recurses := true, named := ["internal/bytealg.MaxLen", "unicode/utf8.first", "unicode/utf8.acceptRanges"], plainKeys := false, apart := false, laid := [("unicode/utf8.acceptRanges", laid_unicode_utf8_acceptRanges), ("unicode/utf8.first", laid_unicode_utf8_first)], narrowed := true }
def ShelfTogetherAgreesUptoSaid : Prop := shelfTogetherAgreesUptoRow.holds Tryz.pinned (OpenSpec.upto shelfTogetherAgreesSpec)

/-- 'deadwaxlaw6.ShelfMergesKeepWhatIsThere', WHERE WHAT IT READS IS OF BULK AT MOST 1048576: true; the input reads as it did. -/
def shelfMergesKeepWhatIsThereUptoRow : OpenClaim := { program := "ytgldfnkbpopanaagreatdoor", sum := "c3dbe0ecb13bd4c152da93948e3d7d365c8829c7ee18a68b67884d3ba660af5d", func := "deadwax/deadwaxlaw6.ShelfMergesKeepWhatIsThere", spec := "shelfMergesKeepWhatIsThere", inPlace := ["internal/bytealg.IndexByteString", "internal/bytealg.IndexString"], unfollowed := true, recurses := true, named := ["internal/bytealg.MaxLen", "unicode/utf8.first", "unicode/utf8.acceptRanges"], plainKeys := false, apart := false, laid := [("unicode/utf8.acceptRanges", laid_unicode_utf8_acceptRanges), ("unicode/utf8.first", laid_unicode_utf8_first)], narrowed := true }
def ShelfMergesKeepWhatIsThereUptoSaid : Prop := shelfMergesKeepWhatIsThereUptoRow.holds Tryz.pinned (OpenSpec.upto shelfMergesKeepWhatIsThereSpec)

/-- 'deadwaxlaw6.ShelfPlaysMatchSpec', WHERE WHAT IT READS IS OF BULK AT MOST 1048576: true; the input reads as it did. -/
def shelfPlaysMatchSpecUptoRow : OpenClaim := { program := "ytgldfnkbpopanaagreatdoor", sum := "c3dbe0ecb13bd4c152da93948e3d7d365c8829c7ee18a68b67884d3ba660af5d", func := "deadwax/deadwaxlaw6.ShelfPlaysMatchSpec", spec := "shelfPlaysMatchSpec", inPlace := ["internal/bytealg.IndexByteString", "internal/bytealg.IndexString", "slices.overlaps[deadwax/api.Thing]", "slices.overlaps[deadwax/api.Moved]"], unfollowed := true, recurses := true, named := ["internal/bytealg.MaxLen", "unicode/utf8.first", "unicode/utf8.acceptRanges"], plainKeys := false, apart := false, laid := [("unicode/utf8.acceptRanges", laid_unicode_utf8_acceptRanges), ("unicode/utf8.first", laid_unicode_utf8_first)], narrowed := true }
def ShelfPlaysMatchSpecUptoSaid : Prop := shelfPlaysMatchSpecUptoRow.holds Tryz.pinned (OpenSpec.upto shelfPlaysMatchSpecSpec)

/-- 'deadwaxlaw6.ShelfSplitsMerge', WHERE WHAT IT READS IS OF BULK AT MOST 1048576: true; the input reads as it did. -/
def shelfSplitsMergeUptoRow : OpenClaim := { program := "ytgldfnkbpopanaagreatdoor", sum := "c3dbe0ecb13bd4c152da93948e3d7d365c8829c7ee18a68b67884d3ba660af5d", func := "deadwax/deadwaxlaw6.ShelfSplitsMerge", spec := "shelfSplitsMerge", inPlace := ["internal/bytealg.IndexByteString", "internal/bytealg.IndexString"], unfollowed := true, recurses := true, named := ["internal/bytealg.MaxLen", "unicode/utf8.first", "unicode/utf8.acceptRanges"], plainKeys := false, apart := false, laid := [("unicode/utf8.acceptRanges", laid_unicode_utf8_acceptRanges), ("unicode/utf8.first", laid_unicode_utf8_first)], narrowed := true }
def ShelfSplitsMergeUptoSaid : Prop := shelfSplitsMergeUptoRow.holds Tryz.pinned (OpenSpec.upto shelfSplitsMergeSpec)

/-- 'deadwaxlaw6.ShelfMergesMatchSpec', WHERE WHAT IT READS IS OF BULK AT MOST 1048576: true; the input reads as it did. -/
def shelfMergesMatchSpecUptoRow : OpenClaim := { program := "ytgldfnkbpopanaagreatdoor", sum := "c3dbe0ecb13bd4c152da93948e3d7d365c8829c7ee18a68b67884d3ba660af5d", func := "deadwax/deadwaxlaw6.ShelfMergesMatchSpec", spec := "shelfMergesMatchSpec", inPlace := ["internal/bytealg.IndexByteString", "internal/bytealg.IndexString", "slices.overlaps[deadwax/api.Moved]", "slices.overlaps[deadwax/api.Thing]"], unfollowed := true, recurses := true, named := ["internal/bytealg.MaxLen", "unicode/utf8.first", "unicode/utf8.acceptRanges"], plainKeys := false, apart := false, laid := [("unicode/utf8.acceptRanges", laid_unicode_utf8_acceptRanges), ("unicode/utf8.first", laid_unicode_utf8_first)], narrowed := true }
def ShelfMergesMatchSpecUptoSaid : Prop := shelfMergesMatchSpecUptoRow.holds Tryz.pinned (OpenSpec.upto shelfMergesMatchSpecSpec)

end Rows
end Go.Proofs.YtgldfnkbpopanaaGreatDoor

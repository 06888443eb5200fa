/-
  DERIVED. GIVEN WITH THE SEED: THE CARDS: each row of YtekenfknoakboaaDoorRows.lean that lists a variable, with what it lists TIED to the program's text (the seventh form; the later family's looks); each row that meets fmt, with fmt's text TOLD by the authors' own Lean function (tested against real Go, not proved from fmt's source: count such statements apart). THE CARD IS WHAT COUNTS. Prove the row's statement (the work); the ties are given (YtekenfknoakboaaDoorTie.lean); close each card by the builder's one call (the guide's Derived/Test/ToyasCard.lean, 'card_holds'). Laid BY PROGRAM, IN A SANDBOX (cutbox-door.mjs). By AI agents, Wed Nov 11 2026. No macro, syntax, notation, axiom, sorry.
-/
import Derived.Test.YtekenfknoakboaaDoorRows
import GoSem.ClaimSeven
namespace Go.Proofs.YtekenfknoakboaaDoor
namespace Rows

/-- THE TIED CARD OF 'deadwaxlaw8.DueAllIsMatchedOrOpen'. -/
def dueAllIsMatchedOrOpenCard : Claim7 := { stood := { row := dueAllIsMatchedOrOpenRow, standIns := [], harness := (true, "bb9ba17d477aedecc0a87ca1bb498a14a0540c87b449a200b69ee1e8f5acc7cf"), looks := false }, kinds := [], alts := [], laidByText := true, laidKinds := [.data, .pinned], laidTests := true, laidLooks := .later }
def DueAllIsMatchedOrOpenCardSaid : Prop := Claim7.holds Tryd.pinned (.plain (OpenSpec.ofChange dueAllIsMatchedOrOpenSpec)) dueAllIsMatchedOrOpenCard

/-- THE TIED CARD OF 'deadwaxlaw8.DueTotalsMatchSpec'. -/
def dueTotalsMatchSpecCard : Claim7 := { stood := { row := dueTotalsMatchSpecRow, standIns := [], harness := (true, "bb9ba17d477aedecc0a87ca1bb498a14a0540c87b449a200b69ee1e8f5acc7cf"), looks := false }, kinds := [], alts := [], laidByText := true, laidKinds := [.data, .data, .data, .data, .pinned], laidTests := true, laidLooks := .later }
def DueTotalsMatchSpecCardSaid : Prop := Claim7.holds Tryd.pinned (.plain (OpenSpec.ofChange dueTotalsMatchSpecSpec)) dueTotalsMatchSpecCard

/-- THE SECOND FORM's CARD OF 'deadwaxlaw8.DueAllIsMatchedOrOpen'. -/
def dueAllIsMatchedOrOpenUptoCard : Claim7 := { stood := { row := dueAllIsMatchedOrOpenUptoRow, standIns := [], harness := (true, "bb9ba17d477aedecc0a87ca1bb498a14a0540c87b449a200b69ee1e8f5acc7cf"), looks := false }, kinds := [], alts := [], laidByText := true, laidKinds := [.data, .pinned], laidTests := true, laidLooks := .later }
def DueAllIsMatchedOrOpenUptoCardSaid : Prop := Claim7.holds Tryd.pinned (.plain (OpenSpec.upto dueAllIsMatchedOrOpenSpec)) dueAllIsMatchedOrOpenUptoCard

/-- THE SECOND FORM's CARD OF 'deadwaxlaw8.DueTotalsMatchSpec'. -/
def dueTotalsMatchSpecUptoCard : Claim7 := { stood := { row := dueTotalsMatchSpecUptoRow, standIns := [], harness := (true, "bb9ba17d477aedecc0a87ca1bb498a14a0540c87b449a200b69ee1e8f5acc7cf"), looks := false }, kinds := [], alts := [], laidByText := true, laidKinds := [.data, .data, .data, .data, .pinned], laidTests := true, laidLooks := .later }
def DueTotalsMatchSpecUptoCardSaid : Prop := Claim7.holds Tryd.pinned (.plain (OpenSpec.upto dueTotalsMatchSpecSpec)) dueTotalsMatchSpecUptoCard
end Rows
end Go.Proofs.YtekenfknoakboaaDoor

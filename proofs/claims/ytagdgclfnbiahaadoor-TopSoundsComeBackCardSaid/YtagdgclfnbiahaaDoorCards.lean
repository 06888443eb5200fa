/-
  DERIVED. GIVEN WITH THE SEED: THE CARDS: each row of YtagdgclfnbiahaaDoorRows.lean that lists a variable, with what it lists TIED to the program's text (the seventh form; the later family's looks); each row that meets fmt, with fmt's text TOLD by the authors' own Lean function (tested against real Go, not proved from fmt's source: count such statements apart). THE CARD IS WHAT COUNTS. Prove the row's statement (the work); the ties are given (YtagdgclfnbiahaaDoorTie.lean); close each card by the builder's one call (the guide's Derived/Test/ToyasCard.lean, 'card_holds'). Laid BY PROGRAM, IN A SANDBOX (cutbox-door.mjs). By AI agents, Wed Nov 11 2026. No macro, syntax, notation, axiom, sorry.
-/
import Derived.Test.YtagdgclfnbiahaaDoorRows
import GoSem.ClaimSeven
namespace Go.Proofs.YtagdgclfnbiahaaDoor
namespace Rows

/-- THE TIED CARD OF 'deadwaxtop.TopSoundsComeBack'. -/
def topSoundsComeBackCard : Claim7 := { stood := { row := topSoundsComeBackRow, standIns := [], harness := (true, "5cc484a6261c76818ec7e63b30b0aec2a81e4cf1df4d26d45cb2abe43717258e"), looks := false }, kinds := [], alts := [], laidByText := true, laidKinds := [.data, .pinned], laidTests := true, laidLooks := .later }
def TopSoundsComeBackCardSaid : Prop := Claim7.holds Tryd.pinned (.plain (OpenSpec.ofChange topSoundsComeBackSpec)) topSoundsComeBackCard

/-- THE SECOND FORM's CARD OF 'deadwaxtop.TopSoundsComeBack'. -/
def topSoundsComeBackUptoCard : Claim7 := { stood := { row := topSoundsComeBackUptoRow, standIns := [], harness := (true, "5cc484a6261c76818ec7e63b30b0aec2a81e4cf1df4d26d45cb2abe43717258e"), looks := false }, kinds := [], alts := [], laidByText := true, laidKinds := [.data, .pinned], laidTests := true, laidLooks := .later }
def TopSoundsComeBackUptoCardSaid : Prop := Claim7.holds Tryd.pinned (.plain (OpenSpec.upto topSoundsComeBackSpec)) topSoundsComeBackUptoCard
end Rows
end Go.Proofs.YtagdgclfnbiahaaDoor

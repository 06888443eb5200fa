/-
  DERIVED. GIVEN WITH THE SEED: THE CARDS: each row of YtagdgclfnbiahaaGreatDoorRows.lean that lists a variable, with what it lists TIED to the program's text (the seventh form; the later family's looks); each row that meets fmt, with fmt's text TOLD by the authors' own Lean function (tested against real Go, not proved from fmt's source: count such statements apart). THE CARD IS WHAT COUNTS. Prove the row's statement (the work); the ties are given (YtagdgclfnbiahaaGreatDoorTie.lean); close each card by the builder's one call (the guide's Derived/Test/ToyasCard.lean, 'card_holds'). Laid BY PROGRAM, IN A SANDBOX (cutbox-door.mjs). By AI agents, Wed Nov 11 2026. No macro, syntax, notation, axiom, sorry.
-/
import Derived.Test.YtagdgclfnbiahaaGreatDoorRows
import GoSem.ClaimSeven
namespace Go.Proofs.YtagdgclfnbiahaaGreatDoor
namespace Rows

/-- THE TIED CARD OF 'deadwaxtop.TopMarksGoWithTheSound'. -/
def topMarksGoWithTheSoundCard : Claim7 := { stood := { row := topMarksGoWithTheSoundRow, standIns := [], harness := (true, "001fc51eaebfcbbeefe6f248417694d5c9dc782649c65a5c26d5eb0688f900f4"), looks := false }, kinds := [], alts := [], laidByText := true, laidKinds := [.data, .pinned], laidTests := true, laidLooks := .later }
def TopMarksGoWithTheSoundCardSaid : Prop := Claim7.holds Tryz.pinned (.plain (OpenSpec.ofChange topMarksGoWithTheSoundSpec)) topMarksGoWithTheSoundCard

/-- THE SECOND FORM's CARD OF 'deadwaxtop.TopMarksGoWithTheSound'. -/
def topMarksGoWithTheSoundUptoCard : Claim7 := { stood := { row := topMarksGoWithTheSoundUptoRow, standIns := [], harness := (true, "001fc51eaebfcbbeefe6f248417694d5c9dc782649c65a5c26d5eb0688f900f4"), looks := false }, kinds := [], alts := [], laidByText := true, laidKinds := [.data, .pinned], laidTests := true, laidLooks := .later }
def TopMarksGoWithTheSoundUptoCardSaid : Prop := Claim7.holds Tryz.pinned (.plain (OpenSpec.upto topMarksGoWithTheSoundSpec)) topMarksGoWithTheSoundUptoCard
end Rows
end Go.Proofs.YtagdgclfnbiahaaGreatDoor

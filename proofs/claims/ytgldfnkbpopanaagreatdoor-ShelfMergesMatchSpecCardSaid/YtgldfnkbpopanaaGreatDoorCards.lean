/-
  DERIVED. GIVEN WITH THE SEED: THE CARDS: each row of YtgldfnkbpopanaaGreatDoorRows.lean that lists a variable, with what it lists TIED to the program's text (the seventh form; the later family's looks); each row that meets fmt, with fmt's text TOLD by the authors' own Lean function (tested against real Go, not proved from fmt's source: count such statements apart). THE CARD IS WHAT COUNTS. Prove the row's statement (the work); the ties are given (YtgldfnkbpopanaaGreatDoorTie.lean); close each card by the builder's one call (the guide's Derived/Test/ToyasCard.lean, 'card_holds'). Laid BY PROGRAM, IN A SANDBOX (cutbox-door.mjs). By AI agents, Wed Nov 11 2026. No macro, syntax, notation, axiom, sorry.
-/
import Derived.Test.YtgldfnkbpopanaaGreatDoorRows
import GoSem.ClaimSeven
namespace Go.Proofs.YtgldfnkbpopanaaGreatDoor
namespace Rows

/-- THE TIED CARD OF 'deadwaxlaw6.ShelfTogetherAgrees'. -/
def shelfTogetherAgreesCard : Claim7 := { stood := { row := shelfTogetherAgreesRow, standIns := [], harness := (true, "6cebc1c56a48d39a2b4a765a665df7cab5768e1f0288caa2067fd7a8814c353e"), looks := false }, kinds := [], alts := [], laidByText := true, laidKinds := [.data, .pinned], laidTests := true, laidLooks := .later }
def ShelfTogetherAgreesCardSaid : Prop := Claim7.holds Tryz.pinned (.plain (OpenSpec.ofChange shelfTogetherAgreesSpec)) shelfTogetherAgreesCard

/-- THE TIED CARD OF 'deadwaxlaw6.ShelfMergesKeepWhatIsThere'. -/
def shelfMergesKeepWhatIsThereCard : Claim7 := { stood := { row := shelfMergesKeepWhatIsThereRow, standIns := [], harness := (true, "6cebc1c56a48d39a2b4a765a665df7cab5768e1f0288caa2067fd7a8814c353e"), looks := false }, kinds := [], alts := [], laidByText := true, laidKinds := [.data, .pinned], laidTests := true, laidLooks := .later }
def ShelfMergesKeepWhatIsThereCardSaid : Prop := Claim7.holds Tryz.pinned (.plain (OpenSpec.ofChange shelfMergesKeepWhatIsThereSpec)) shelfMergesKeepWhatIsThereCard

/-- THE TIED CARD OF 'deadwaxlaw6.ShelfPlaysMatchSpec'. -/
def shelfPlaysMatchSpecCard : Claim7 := { stood := { row := shelfPlaysMatchSpecRow, standIns := [], harness := (true, "6cebc1c56a48d39a2b4a765a665df7cab5768e1f0288caa2067fd7a8814c353e"), looks := false }, kinds := [], alts := [], laidByText := true, laidKinds := [.data, .pinned], laidTests := true, laidLooks := .later }
def ShelfPlaysMatchSpecCardSaid : Prop := Claim7.holds Tryz.pinned (.plain (OpenSpec.ofChange shelfPlaysMatchSpecSpec)) shelfPlaysMatchSpecCard

/-- THE TIED CARD OF 'deadwaxlaw6.ShelfSplitsMerge'. -/
def shelfSplitsMergeCard : Claim7 := { stood := { row := shelfSplitsMergeRow, standIns := [], harness := (true, "6cebc1c56a48d39a2b4a765a665df7cab5768e1f0288caa2067fd7a8814c353e"), looks := false }, kinds := [], alts := [], laidByText := true, laidKinds := [.data, .pinned], laidTests := true, laidLooks := .later }
def ShelfSplitsMergeCardSaid : Prop := Claim7.holds Tryz.pinned (.plain (OpenSpec.ofChange shelfSplitsMergeSpec)) shelfSplitsMergeCard

/-- THE TIED CARD OF 'deadwaxlaw6.ShelfMergesMatchSpec'. -/
def shelfMergesMatchSpecCard : Claim7 := { stood := { row := shelfMergesMatchSpecRow, standIns := [], harness := (true, "6cebc1c56a48d39a2b4a765a665df7cab5768e1f0288caa2067fd7a8814c353e"), looks := false }, kinds := [], alts := [], laidByText := true, laidKinds := [.data, .pinned], laidTests := true, laidLooks := .later }
def ShelfMergesMatchSpecCardSaid : Prop := Claim7.holds Tryz.pinned (.plain (OpenSpec.ofChange shelfMergesMatchSpecSpec)) shelfMergesMatchSpecCard

/-- THE SECOND FORM's CARD OF 'deadwaxlaw6.ShelfTogetherAgrees'. -/
def shelfTogetherAgreesUptoCard : Claim7 := { stood := { row := shelfTogetherAgreesUptoRow, standIns := [], harness := (true, "6cebc1c56a48d39a2b4a765a665df7cab5768e1f0288caa2067fd7a8814c353e"), looks := false }, kinds := [], alts := [], laidByText := true, laidKinds := [.data, .pinned], laidTests := true, laidLooks := .later }
def ShelfTogetherAgreesUptoCardSaid : Prop := Claim7.holds Tryz.pinned (.plain (OpenSpec.upto shelfTogetherAgreesSpec)) shelfTogetherAgreesUptoCard

/-- THE SECOND FORM's CARD OF 'deadwaxlaw6.ShelfMergesKeepWhatIsThere'. -/
def shelfMergesKeepWhatIsThereUptoCard : Claim7 := { stood := { row := shelfMergesKeepWhatIsThereUptoRow, standIns := [], harness := (true, "6cebc1c56a48d39a2b4a765a665df7cab5768e1f0288caa2067fd7a8814c353e"), looks := false }, kinds := [], alts := [], laidByText := true, laidKinds := [.data, .pinned], laidTests := true, laidLooks := .later }
def ShelfMergesKeepWhatIsThereUptoCardSaid : Prop := Claim7.holds Tryz.pinned (.plain (OpenSpec.upto shelfMergesKeepWhatIsThereSpec)) shelfMergesKeepWhatIsThereUptoCard

/-- THE SECOND FORM's CARD OF 'deadwaxlaw6.ShelfPlaysMatchSpec'. -/
def shelfPlaysMatchSpecUptoCard : Claim7 := { stood := { row := shelfPlaysMatchSpecUptoRow, standIns := [], harness := (true, "6cebc1c56a48d39a2b4a765a665df7cab5768e1f0288caa2067fd7a8814c353e"), looks := false }, kinds := [], alts := [], laidByText := true, laidKinds := [.data, .pinned], laidTests := true, laidLooks := .later }
def ShelfPlaysMatchSpecUptoCardSaid : Prop := Claim7.holds Tryz.pinned (.plain (OpenSpec.upto shelfPlaysMatchSpecSpec)) shelfPlaysMatchSpecUptoCard

/-- THE SECOND FORM's CARD OF 'deadwaxlaw6.ShelfSplitsMerge'. -/
def shelfSplitsMergeUptoCard : Claim7 := { stood := { row := shelfSplitsMergeUptoRow, standIns := [], harness := (true, "6cebc1c56a48d39a2b4a765a665df7cab5768e1f0288caa2067fd7a8814c353e"), looks := false }, kinds := [], alts := [], laidByText := true, laidKinds := [.data, .pinned], laidTests := true, laidLooks := .later }
def ShelfSplitsMergeUptoCardSaid : Prop := Claim7.holds Tryz.pinned (.plain (OpenSpec.upto shelfSplitsMergeSpec)) shelfSplitsMergeUptoCard

/-- THE SECOND FORM's CARD OF 'deadwaxlaw6.ShelfMergesMatchSpec'. -/
def shelfMergesMatchSpecUptoCard : Claim7 := { stood := { row := shelfMergesMatchSpecUptoRow, standIns := [], harness := (true, "6cebc1c56a48d39a2b4a765a665df7cab5768e1f0288caa2067fd7a8814c353e"), looks := false }, kinds := [], alts := [], laidByText := true, laidKinds := [.data, .pinned], laidTests := true, laidLooks := .later }
def ShelfMergesMatchSpecUptoCardSaid : Prop := Claim7.holds Tryz.pinned (.plain (OpenSpec.upto shelfMergesMatchSpecSpec)) shelfMergesMatchSpecUptoCard
end Rows
end Go.Proofs.YtgldfnkbpopanaaGreatDoor

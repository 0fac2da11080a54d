/-
  DERIVED. GIVEN WITH THE SEED: THE CARDS: each row of YtnkpfknilhgjgaaDoorRows.lean that lists a variable, with what it lists TIED to the program's text (the seventh form; the later family's looks); each row that meets fmt, with fmt's text TOLD by the authors' own Lean function (tested against real Go, not proved from fmt's source: count such statements apart). THE CARD IS WHAT COUNTS. Prove the row's statement (the work); the ties are given (YtnkpfknilhgjgaaDoorTie.lean); close each card by the builder's one call (the guide's Derived/Test/ToyasCard.lean, 'card_holds'). Laid BY PROGRAM, IN A SANDBOX (cutbox-door.mjs). By AI agents, Wed Nov 11 2026. No macro, syntax, notation, axiom, sorry.
-/
import Derived.Test.YtnkpfknilhgjgaaDoorRows
import GoSem.ClaimSeven
namespace Go.Proofs.YtnkpfknilhgjgaaDoor
namespace Rows

/-- THE TIED CARD OF 'embrasurelaw03.IsaUnlike'. -/
def isaUnlikeCard : Claim7 := { stood := { row := isaUnlikeRow, standIns := [], harness := (true, "f12ee46ad39ba7d448d7bf98efed57abba863da01226a0461cacdc3f4668ca9a"), looks := true }, kinds := [], alts := [], laidByText := true, laidKinds := [.data, .data, .data, .data, .pinned], laidTests := true, laidLooks := .later }
def IsaUnlikeCardSaid : Prop := Claim7.holds Tryd.pinned (.plain (OpenSpec.ofChange isaUnlikeSpec)) isaUnlikeCard

/-- THE TIED CARD OF 'embrasurelaw03.IsaUses'. -/
def isaUsesCard : Claim7 := { stood := { row := isaUsesRow, standIns := [], harness := (true, "f12ee46ad39ba7d448d7bf98efed57abba863da01226a0461cacdc3f4668ca9a"), looks := true }, kinds := [], alts := [], laidByText := true, laidKinds := [.data, .data, .data, .data, .pinned], laidTests := true, laidLooks := .later }
def IsaUsesCardSaid : Prop := Claim7.holds Tryd.pinned (.plain (OpenSpec.ofChange isaUsesSpec)) isaUsesCard

/-- THE TIED CARD OF 'embrasurelaw03.IsaCodes'. -/
def isaCodesCard : Claim7 := { stood := { row := isaCodesRow, standIns := [], harness := (true, "f12ee46ad39ba7d448d7bf98efed57abba863da01226a0461cacdc3f4668ca9a"), looks := true }, kinds := [], alts := [], laidByText := true, laidKinds := [.data, .data, .data, .data, .pinned], laidTests := true, laidLooks := .later }
def IsaCodesCardSaid : Prop := Claim7.holds Tryd.pinned (.plain (OpenSpec.ofChange isaCodesSpec)) isaCodesCard

/-- THE TIED CARD OF 'embrasurelaw03.IsaTotal'. -/
def isaTotalCard : Claim7 := { stood := { row := isaTotalRow, standIns := [], harness := (true, "f12ee46ad39ba7d448d7bf98efed57abba863da01226a0461cacdc3f4668ca9a"), looks := true }, kinds := [], alts := [], laidByText := true, laidKinds := [.data, .data, .data, .data, .pinned], laidTests := true, laidLooks := .later }
def IsaTotalCardSaid : Prop := Claim7.holds Tryd.pinned (.plain (OpenSpec.ofChange isaTotalSpec)) isaTotalCard

/-- THE TIED CARD OF 'embrasurelaw03.IsaMany'. -/
def isaManyCard : Claim7 := { stood := { row := isaManyRow, standIns := [], harness := (true, "f12ee46ad39ba7d448d7bf98efed57abba863da01226a0461cacdc3f4668ca9a"), looks := true }, kinds := [], alts := [], laidByText := true, laidKinds := [.data, .data, .data, .data, .pinned], laidTests := true, laidLooks := .later }
def IsaManyCardSaid : Prop := Claim7.holds Tryd.pinned (.plain (OpenSpec.ofChange isaManySpec)) isaManyCard

/-- THE TIED CARD OF 'embrasurelaw03.IsaBack'. -/
def isaBackCard : Claim7 := { stood := { row := isaBackRow, standIns := [], harness := (true, "f12ee46ad39ba7d448d7bf98efed57abba863da01226a0461cacdc3f4668ca9a"), looks := true }, kinds := [], alts := [], laidByText := true, laidKinds := [.data, .data, .data, .data, .pinned], laidTests := true, laidLooks := .later }
def IsaBackCardSaid : Prop := Claim7.holds Tryd.pinned (.plain (OpenSpec.ofChange isaBackSpec)) isaBackCard

/-- THE TIED CARD OF 'embrasurelaw03.IsaTexts'. -/
def isaTextsCard : Claim7 := { stood := { row := isaTextsRow, standIns := [], harness := (true, "f12ee46ad39ba7d448d7bf98efed57abba863da01226a0461cacdc3f4668ca9a"), looks := true }, kinds := [], alts := [], laidByText := true, laidKinds := [.data, .data, .data, .data, .pinned], laidTests := true, laidLooks := .later }
def IsaTextsCardSaid : Prop := Claim7.holds Tryd.pinned (.plain (OpenSpec.ofChange isaTextsSpec)) isaTextsCard

/-- THE TIED CARD OF 'embrasurelaw05.CpuTexts'. -/
def cpuTextsCard : Claim7 := { stood := { row := cpuTextsRow, standIns := [], harness := (true, "f12ee46ad39ba7d448d7bf98efed57abba863da01226a0461cacdc3f4668ca9a"), looks := true }, kinds := [], alts := [], laidByText := true, laidKinds := [.data, .pinned], laidTests := true, laidLooks := .later }
def CpuTextsCardSaid : Prop := Claim7.holds Tryd.pinned (.plain (OpenSpec.ofChange cpuTextsSpec)) cpuTextsCard

/-- THE SECOND FORM's CARD OF 'embrasurelaw03.IsaUnlike'. -/
def isaUnlikeUptoCard : Claim7 := { stood := { row := isaUnlikeUptoRow, standIns := [], harness := (true, "f12ee46ad39ba7d448d7bf98efed57abba863da01226a0461cacdc3f4668ca9a"), looks := true }, kinds := [], alts := [], laidByText := true, laidKinds := [.data, .data, .data, .data, .pinned], laidTests := true, laidLooks := .later }
def IsaUnlikeUptoCardSaid : Prop := Claim7.holds Tryd.pinned (.plain (OpenSpec.upto isaUnlikeSpec)) isaUnlikeUptoCard

/-- THE SECOND FORM's CARD OF 'embrasurelaw03.IsaUses'. -/
def isaUsesUptoCard : Claim7 := { stood := { row := isaUsesUptoRow, standIns := [], harness := (true, "f12ee46ad39ba7d448d7bf98efed57abba863da01226a0461cacdc3f4668ca9a"), looks := true }, kinds := [], alts := [], laidByText := true, laidKinds := [.data, .data, .data, .data, .pinned], laidTests := true, laidLooks := .later }
def IsaUsesUptoCardSaid : Prop := Claim7.holds Tryd.pinned (.plain (OpenSpec.upto isaUsesSpec)) isaUsesUptoCard

/-- THE SECOND FORM's CARD OF 'embrasurelaw03.IsaCodes'. -/
def isaCodesUptoCard : Claim7 := { stood := { row := isaCodesUptoRow, standIns := [], harness := (true, "f12ee46ad39ba7d448d7bf98efed57abba863da01226a0461cacdc3f4668ca9a"), looks := true }, kinds := [], alts := [], laidByText := true, laidKinds := [.data, .data, .data, .data, .pinned], laidTests := true, laidLooks := .later }
def IsaCodesUptoCardSaid : Prop := Claim7.holds Tryd.pinned (.plain (OpenSpec.upto isaCodesSpec)) isaCodesUptoCard

/-- THE SECOND FORM's CARD OF 'embrasurelaw03.IsaTotal'. -/
def isaTotalUptoCard : Claim7 := { stood := { row := isaTotalUptoRow, standIns := [], harness := (true, "f12ee46ad39ba7d448d7bf98efed57abba863da01226a0461cacdc3f4668ca9a"), looks := true }, kinds := [], alts := [], laidByText := true, laidKinds := [.data, .data, .data, .data, .pinned], laidTests := true, laidLooks := .later }
def IsaTotalUptoCardSaid : Prop := Claim7.holds Tryd.pinned (.plain (OpenSpec.upto isaTotalSpec)) isaTotalUptoCard

/-- THE SECOND FORM's CARD OF 'embrasurelaw03.IsaMany'. -/
def isaManyUptoCard : Claim7 := { stood := { row := isaManyUptoRow, standIns := [], harness := (true, "f12ee46ad39ba7d448d7bf98efed57abba863da01226a0461cacdc3f4668ca9a"), looks := true }, kinds := [], alts := [], laidByText := true, laidKinds := [.data, .data, .data, .data, .pinned], laidTests := true, laidLooks := .later }
def IsaManyUptoCardSaid : Prop := Claim7.holds Tryd.pinned (.plain (OpenSpec.upto isaManySpec)) isaManyUptoCard

/-- THE SECOND FORM's CARD OF 'embrasurelaw03.IsaBack'. -/
def isaBackUptoCard : Claim7 := { stood := { row := isaBackUptoRow, standIns := [], harness := (true, "f12ee46ad39ba7d448d7bf98efed57abba863da01226a0461cacdc3f4668ca9a"), looks := true }, kinds := [], alts := [], laidByText := true, laidKinds := [.data, .data, .data, .data, .pinned], laidTests := true, laidLooks := .later }
def IsaBackUptoCardSaid : Prop := Claim7.holds Tryd.pinned (.plain (OpenSpec.upto isaBackSpec)) isaBackUptoCard

/-- THE SECOND FORM's CARD OF 'embrasurelaw03.IsaTexts'. -/
def isaTextsUptoCard : Claim7 := { stood := { row := isaTextsUptoRow, standIns := [], harness := (true, "f12ee46ad39ba7d448d7bf98efed57abba863da01226a0461cacdc3f4668ca9a"), looks := true }, kinds := [], alts := [], laidByText := true, laidKinds := [.data, .data, .data, .data, .pinned], laidTests := true, laidLooks := .later }
def IsaTextsUptoCardSaid : Prop := Claim7.holds Tryd.pinned (.plain (OpenSpec.upto isaTextsSpec)) isaTextsUptoCard

/-- THE SECOND FORM's CARD OF 'embrasurelaw05.CpuTexts'. -/
def cpuTextsUptoCard : Claim7 := { stood := { row := cpuTextsUptoRow, standIns := [], harness := (true, "f12ee46ad39ba7d448d7bf98efed57abba863da01226a0461cacdc3f4668ca9a"), looks := true }, kinds := [], alts := [], laidByText := true, laidKinds := [.data, .pinned], laidTests := true, laidLooks := .later }
def CpuTextsUptoCardSaid : Prop := Claim7.holds Tryd.pinned (.plain (OpenSpec.upto cpuTextsSpec)) cpuTextsUptoCard
end Rows
end Go.Proofs.YtnkpfknilhgjgaaDoor

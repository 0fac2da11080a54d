/-
  DERIVED. GIVEN WITH THE SEED: THE CARDS: each row of YtjopikjefpenkaaDoorRows.lean that lists a variable, with what it lists TIED to the program's text (the seventh form; the later family's looks); each row that meets fmt, with fmt's text TOLD by the authors' own Lean function (tested against real Go, not proved from fmt's source: count such statements apart). THE CARD IS WHAT COUNTS. Prove the row's statement (the work); the ties are given (YtjopikjefpenkaaDoorTie.lean); close each card by the builder's one call (the guide's Derived/Test/ToyasCard.lean, 'card_holds'). Laid BY PROGRAM, IN A SANDBOX (cutbox-door.mjs). By AI agents, Wed Nov 11 2026. No macro, syntax, notation, axiom, sorry.
-/
import Derived.Test.YtjopikjefpenkaaDoorRows
import GoSem.ClaimSeven
namespace Go.Proofs.YtjopikjefpenkaaDoor
namespace Rows

/-- THE TIED CARD OF 'embrasurelaw03.IsaMany'. -/
def isaManyCard : Claim7 := { stood := { row := isaManyRow, standIns := [], harness := (true, "4c379df8f21ae0e5452c143a5a997d1789bf868c78f16d06af9ec5d9d83c53ca"), looks := true }, kinds := [], alts := [], laidByText := true, laidKinds := [.data, .data, .data, .data, .pinned], laidTests := true, laidLooks := .later }
def IsaManyCardSaid : Prop := Claim7.holds Tryd.pinned (.plain (OpenSpec.ofChange isaManySpec)) isaManyCard

/-- THE TIED CARD OF 'embrasurelaw03.IsaBack'. -/
def isaBackCard : Claim7 := { stood := { row := isaBackRow, standIns := [], harness := (true, "4c379df8f21ae0e5452c143a5a997d1789bf868c78f16d06af9ec5d9d83c53ca"), looks := true }, kinds := [], alts := [], laidByText := true, laidKinds := [.data, .data, .data, .data, .pinned], laidTests := true, laidLooks := .later }
def IsaBackCardSaid : Prop := Claim7.holds Tryd.pinned (.plain (OpenSpec.ofChange isaBackSpec)) isaBackCard

/-- THE TIED CARD OF 'embrasurelaw03.IsaTexts'. -/
def isaTextsCard : Claim7 := { stood := { row := isaTextsRow, standIns := [], harness := (true, "4c379df8f21ae0e5452c143a5a997d1789bf868c78f16d06af9ec5d9d83c53ca"), looks := true }, kinds := [], alts := [], laidByText := true, laidKinds := [.data, .data, .data, .data, .pinned], laidTests := true, laidLooks := .later }
def IsaTextsCardSaid : Prop := Claim7.holds Tryd.pinned (.plain (OpenSpec.ofChange isaTextsSpec)) isaTextsCard

/-- THE TIED CARD OF 'embrasurelaw05.CpuTexts'. -/
def cpuTextsCard : Claim7 := { stood := { row := cpuTextsRow, standIns := [], harness := (true, "4c379df8f21ae0e5452c143a5a997d1789bf868c78f16d06af9ec5d9d83c53ca"), looks := true }, kinds := [], alts := [], laidByText := true, laidKinds := [.data, .pinned], laidTests := true, laidLooks := .later }
def CpuTextsCardSaid : Prop := Claim7.holds Tryd.pinned (.plain (OpenSpec.ofChange cpuTextsSpec)) cpuTextsCard

/-- THE SECOND FORM's CARD OF 'embrasurelaw03.IsaMany'. -/
def isaManyUptoCard : Claim7 := { stood := { row := isaManyUptoRow, standIns := [], harness := (true, "4c379df8f21ae0e5452c143a5a997d1789bf868c78f16d06af9ec5d9d83c53ca"), looks := true }, kinds := [], alts := [], laidByText := true, laidKinds := [.data, .data, .data, .data, .pinned], laidTests := true, laidLooks := .later }
def IsaManyUptoCardSaid : Prop := Claim7.holds Tryd.pinned (.plain (OpenSpec.upto isaManySpec)) isaManyUptoCard

/-- THE SECOND FORM's CARD OF 'embrasurelaw03.IsaBack'. -/
def isaBackUptoCard : Claim7 := { stood := { row := isaBackUptoRow, standIns := [], harness := (true, "4c379df8f21ae0e5452c143a5a997d1789bf868c78f16d06af9ec5d9d83c53ca"), looks := true }, kinds := [], alts := [], laidByText := true, laidKinds := [.data, .data, .data, .data, .pinned], laidTests := true, laidLooks := .later }
def IsaBackUptoCardSaid : Prop := Claim7.holds Tryd.pinned (.plain (OpenSpec.upto isaBackSpec)) isaBackUptoCard

/-- THE SECOND FORM's CARD OF 'embrasurelaw03.IsaTexts'. -/
def isaTextsUptoCard : Claim7 := { stood := { row := isaTextsUptoRow, standIns := [], harness := (true, "4c379df8f21ae0e5452c143a5a997d1789bf868c78f16d06af9ec5d9d83c53ca"), looks := true }, kinds := [], alts := [], laidByText := true, laidKinds := [.data, .data, .data, .data, .pinned], laidTests := true, laidLooks := .later }
def IsaTextsUptoCardSaid : Prop := Claim7.holds Tryd.pinned (.plain (OpenSpec.upto isaTextsSpec)) isaTextsUptoCard

/-- THE SECOND FORM's CARD OF 'embrasurelaw05.CpuTexts'. -/
def cpuTextsUptoCard : Claim7 := { stood := { row := cpuTextsUptoRow, standIns := [], harness := (true, "4c379df8f21ae0e5452c143a5a997d1789bf868c78f16d06af9ec5d9d83c53ca"), looks := true }, kinds := [], alts := [], laidByText := true, laidKinds := [.data, .pinned], laidTests := true, laidLooks := .later }
def CpuTextsUptoCardSaid : Prop := Claim7.holds Tryd.pinned (.plain (OpenSpec.upto cpuTextsSpec)) cpuTextsUptoCard
end Rows
end Go.Proofs.YtjopikjefpenkaaDoor

/- IsaTotal's arguments, opened. -/
import Derived.Test.YtnkpfknilhgjgaaDoorG8
import Derived.Test.YtnkpfknilhgjgaaDoorGl
set_option linter.unusedSimpArgs false
set_option linter.unusedVariables false
set_option linter.unusedSectionVars false
namespace Go.Proofs.YtnkpfknilhgjgaaDoor
open Go.RowKit Go.WideShapes Go.ChangeShapes Go.Deep
set_option maxRecDepth 100000
section
variable {H : Type} {enc : TypeId × Value → H} {w : World} {base : Nat} {spare : Nat → Bool} {held : Bool} {r : Go.Reach} {b0 : Nat} {v : Value} {d : DataW H} {p : List MemPlace}
theorem shp_four : shp Tryd.prog 3 46 = some [.int .u8, .int .u8, .int .u8, .int .u8] := by kernel_rfl
theorem open_four (hv : Value.okWide Tryd.prog w r b0 46 v) (h : DataW.Trod enc Tryd.prog w base spare held 46 v d p) : ∃ x0 x1 x2 x3, v = .agg #[.int .u8 x0, .int .u8 x1, .int .u8 x2, .int .u8 x3] ∧ (0 ≤ x0 ∧ x0 ≤ 255) ∧ (0 ≤ x1 ∧ x1 ≤ 255) ∧ (0 ≤ x2 ∧ x2 ≤ 255) ∧ 0 ≤ x3 ∧ x3 ≤ 255 := by
  obtain ⟨⟨cs⟩, rfl, hf⟩ := open_bare 3 (by kernel_rfl) shp_four hv h
  obtain ⟨v0, _, rfl, g0, hf⟩ := FitL.uncons hf
  obtain ⟨v1, _, rfl, g1, hf⟩ := FitL.uncons hf
  obtain ⟨v2, _, rfl, g2, hf⟩ := FitL.uncons hf
  obtain ⟨v3, _, rfl, g3, hf⟩ := FitL.uncons hf
  obtain rfl := FitL.unnil hf
  obtain ⟨n0, rfl, b0⟩ := fit_u8 g0
  obtain ⟨n1, rfl, b1⟩ := fit_u8 g1
  obtain ⟨n2, rfl, b2⟩ := fit_u8 g2
  obtain ⟨n3, rfl, b3⟩ := fit_u8 g3
  exact ⟨n0, n1, n2, n3, rfl, b0, b1, b2, b3⟩
end
end Go.Proofs.YtnkpfknilhgjgaaDoor

/- IsaCodes, in the model's words. -/
import Derived.Test.YtnkpfknilhgjgaaDoorGc
import Derived.Test.YtnkpfknilhgjgaaDoorGl
set_option linter.unusedSimpArgs false
set_option linter.unusedVariables false
set_option linter.unusedSectionVars false
namespace Go.Proofs.YtnkpfknilhgjgaaDoor
open Go.RowKit Go.WideShapes Go.ChangeShapes Go.Deep
section
variable {w : World} {v : Value}
theorem vrs2 {τ : Tau} {a b a' b' : Value} (h1 : VR τ a a') (h2 : VR τ b b') : VRs τ #[a, b] #[a', b'] := by
  refine ⟨rfl, fun i v v' g1 g2 => ?_⟩
  match i, g1, g2 with
  | 0, g1, g2 => simp at g1 g2; subst g1; subst g2; exact h1
  | 1, g1, g2 => simp at g1 g2; subst g1; subst g2; exact h2
  | i + 2, g1, _ => simp at g1
theorem codes_walk (hI : Inv.I w ∧ ∀ k, Inv.B k → k < w.heap.size) {o a b n : Int} (h0 : 0 ≤ o) (ha : 0 ≤ a) (hb0 : 0 ≤ b) (hn : 0 ≤ n) (hn1 : n ≤ 65535) (hb : v = .slice none 0 0 ∨ ∃ (a : Addr) (c : Nat) (B : List UInt8) (τ : Tau), v = .slice (some a) B.length c ∧ B.length ≤ c ∧ c ≤ 9223372036854775807 ∧ RH τ [.ro (u8s B)] w ∧ VR τ (.slice (some ⟨0, 0, none⟩) B.length c) v) :
    Calls Tryd.prog 5 #[insV o a b n, v] w fun e w' => e = .returned (.bool true) ∧ Below w.heap.size w w' := by
  rcases hb with rfl | ⟨_, c, B, τ, rfl, h1, h2, h3, h4⟩
  · exact (isaCodes_nil o a b n h0 ha hb0 hn hn1).law hI rh_nil (vrs2 (VR.of_flat (n := 6) rfl) .snil) ro_none
  · exact (isaCodes_row o a b n h0 ha hb0 hn hn1 B c).law hI h3 (vrs2 (VR.of_flat (n := 6) rfl) h4) (ro_one _)
end
end Go.Proofs.YtnkpfknilhgjgaaDoor

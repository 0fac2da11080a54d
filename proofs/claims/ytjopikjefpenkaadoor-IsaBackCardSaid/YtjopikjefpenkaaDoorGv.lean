/- What this seat's calls know of the world: bytealg's MaxLen, strconv's table of powers. -/
import Derived.Test.YtjopikjefpenkaaDoorG2
import Derived.Test.YtjopikjefpenkaaDoorProg
import Derived.Lib.LaidTab
import Derived.Lib.ItoaNum
set_option linter.unusedSimpArgs false
set_option linter.unusedVariables false
set_option linter.unusedSectionVars false
namespace Go.Proofs.YtjopikjefpenkaaDoor
theorem var_of_block {w w' : World} {n : String} {g : Nat} (hg : Tryd.prog.globalNamed n = some g) (h : w'.heap[g]? = w.heap[g]?) : w'.var? Tryd.prog n = w.var? Tryd.prog n := by
  unfold World.var?
  rw [hg]
  simp only [Option.bind_some, h]
theorem gPow : Tryd.prog.globalNamed "internal/strconv.uint64pow10" = some 3 := by kernel_rfl
instance : Inv := ⟨fun w => (∃ m, w.cell? ⟨0, 0, none⟩ = some (.int .i64 m)) ∧ Lib.TabIs Tryd.prog w "internal/strconv.uint64pow10" .u64 Lib.pow10Tab, fun k => k = 0 ∨ k = 3,
  fun w w' h ⟨⟨m, hm⟩, ht⟩ => ⟨⟨m, by rw [← hm]; unfold World.cell?; rw [h 0 (.inl rfl)]⟩, by unfold Lib.TabIs at ht ⊢; rw [var_of_block gPow (h _ (.inr rfl)), ht]⟩⟩
end Go.Proofs.YtjopikjefpenkaaDoor

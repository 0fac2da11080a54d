/- What this seat's calls know of the world: bytealg's MaxLen, strconv's table of powers, unicode/utf8's two tables. -/
import Derived.Test.YtjopikjefpenkaaDoorG2
import Derived.Test.YtjopikjefpenkaaDoorProg
import Derived.Lib.LaidTab
import Derived.Lib.ItoaNum
import Derived.Shelf.Unicode.DecodeSlow
set_option linter.unusedSimpArgs false
set_option linter.unusedVariables false
set_option linter.unusedSectionVars false
namespace Go.Proofs.YtjopikjefpenkaaDoor
theorem var_of_block {w w' : World} {n : String} {g : Nat} (hg : Tryd.prog.globalNamed n = some g) (h : w'.heap[g]? = w.heap[g]?) : w'.var? Tryd.prog n = w.var? Tryd.prog n := by
  unfold World.var?
  rw [hg]
  simp only [Option.bind_some, h]
theorem gPow : Tryd.prog.globalNamed "internal/strconv.uint64pow10" = some 3 := by kernel_rfl
theorem tabs_of_block {w w' : World} {a b : Nat} (ha : w'.heap[a]? = w.heap[a]?) (hb : w'.heap[b]? = w.heap[b]?) (h : Lib.Utf8Tabs a b w) : Lib.Utf8Tabs a b w' := by
  refine ⟨fun c hc => ?_, fun i hi => ?_⟩
  · rw [← h.1 c hc]; unfold World.cell?; rw [ha]
  · rw [← (h.2 i hi).1, ← (h.2 i hi).2]; unfold World.cell?; rw [hb]; exact ⟨rfl, rfl⟩
instance : Inv := ⟨fun w => (∃ m, w.cell? ⟨0, 0, none⟩ = some (.int .i64 m)) ∧ Lib.TabIs Tryd.prog w "internal/strconv.uint64pow10" .u64 Lib.pow10Tab ∧ Lib.Utf8Tabs 1 2 w, fun k => k = 0 ∨ k = 3 ∨ k = 1 ∨ k = 2,
  fun w w' h ⟨⟨m, hm⟩, ht, hu⟩ => ⟨⟨m, by rw [← hm]; unfold World.cell?; rw [h 0 (.inl rfl)]⟩, by unfold Lib.TabIs at ht ⊢; rw [var_of_block gPow (h _ (.inr (.inl rfl))), ht], tabs_of_block (h _ (.inr (.inr (.inl rfl)))) (h _ (.inr (.inr (.inr rfl)))) hu⟩⟩
end Go.Proofs.YtjopikjefpenkaaDoor

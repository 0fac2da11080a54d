/- The processor: what an instruction comes to. -/
import Derived.Test.YtnkpfknilhgjgaaG6
set_option linter.unusedSimpArgs false
set_option linter.unusedVariables false
namespace Go.Proofs.Ytnkpfknilhgjgaa
open Go.RowKit

def regsV (r : Nat → Int) : Value := .agg #[.int .u16 (r 0), .int .u16 (r 1), .int .u16 (r 2), .int .u16 (r 3), .int .u16 (r 4), .int .u16 (r 5), .int .u16 (r 6), .int .u16 (r 7), .int .u16 (r 8)]
def RegsOk (r : Nat → Int) : Prop := ∀ i, 0 ≤ r i ∧ r i ≤ 65535
inductive Dd where
  | nothing
  | put (a v : Int)
  | leap (t : Int) (l : Bool)
  | ask (x : Acc)
  | stop (x : Acc)
def Dd.val : Dd → Value
  | .nothing => .nilIface
  | .put a v => .iface 62 (.agg #[.int .u8 a, .int .u16 v])
  | .leap t l => .iface 64 (.agg #[.int .u16 t, .bool l])
  | .ask x => .iface 65 x.val
  | .stop x => .iface 57 x.val
def deedF (r : Nat → Int) (o a b n : Int) : Dd :=
  if o = 0 then .nothing else if o = 1 then .stop ⟨6, 0, 0, 0, 0⟩ else if o = 2 then .put a n else if 13 ≤ o ∧ o ≤ 16 then .ask (accF o a (r (1 + a.toNat)) (r (1 + b.toNat)) n)
  else if o = 23 then .ask ⟨5, 0, n, 0, 0⟩ else if o = 21 then .leap n true else if o = 22 then .leap (r 8) false else if o = 17 then .leap n false
  else if o = 18 then (if r (1 + a.toNat) = 0 then .leap n false else .nothing) else if o = 19 then (if r (1 + a.toNat) = 0 then .nothing else .leap n false)
  else if o = 20 then (if r (1 + a.toNat) < r (1 + b.toNat) then .leap n false else .nothing) else if o = 7 ∧ r (1 + b.toNat) = 0 then .stop ⟨7, 0, 0, 0, 14⟩ else .put a (sumF o (r (1 + a.toNat)) (r (1 + b.toNat)))
theorem reg_cell {w : World} {g : Nat} {t : TypeId} {r : Nat → Int} (h : w.heap[g]? = some (.cells #[.int .u16 (r 0), .int .u16 (r 1), .int .u16 (r 2), .int .u16 (r 3), .int .u16 (r 4), .int .u16 (r 5), .int .u16 (r 6), .int .u16 (r 7), .int .u16 (r 8)] t (0, 0))) (i : Nat) (hi : i < 9) : w.cell? ⟨g, i, none⟩ = some (.int .u16 (r i)) := by
  rw [blk_cell h]
  obtain rfl | rfl | rfl | rfl | rfl | rfl | rfl | rfl | rfl : i = 0 ∨ i = 1 ∨ i = 2 ∨ i = 3 ∨ i = 4 ∨ i = 5 ∨ i = 6 ∨ i = 7 ∨ i = 8 := by omega
  all_goals rfl

set_option maxHeartbeats 2000000 in
theorem deed_0 (r : Nat → Int) (hr : RegsOk r) (a b n : Int) (ha0 : 0 ≤ a) (ha : a < 8) (hb0 : 0 ≤ b) (hb : b < 8) (w : World) : Calls Try.prog 25 #[regsV r, insV 0 a b n] w fun e w' => e = .returned (deedF r 0 a b n).val ∧ Only [] w w' := by
  have HN : Hid ((w.alloc (.cells #[.int .u16 (r 0), .int .u16 (r 1), .int .u16 (r 2), .int .u16 (r 3), .int .u16 (r 4), .int .u16 (r 5), .int .u16 (r 6), .int .u16 (r 7), .int .u16 (r 8)] 26)).heap[w.heap.size]? = _) := heap_alloc_new w _
  have HI : Hid (((w.alloc (.cells #[.int .u16 (r 0), .int .u16 (r 1), .int .u16 (r 2), .int .u16 (r 3), .int .u16 (r 4), .int .u16 (r 5), .int .u16 (r 6), .int .u16 (r 7), .int .u16 (r 8)] 26)).alloc (.cells #[.int .u8 0, .int .u8 a, .int .u8 b, .int .u16 n] 29)).heap[w.heap.size + 1]? = some (.cells #[.int .u8 0, .int .u8 a, .int .u8 b, .int .u16 n] 29 (0, 0))) := by have := heap_alloc_new (w.alloc (.cells #[.int .u16 (r 0), .int .u16 (r 1), .int .u16 (r 2), .int .u16 (r 3), .int .u16 (r 4), .int .u16 (r 5), .int .u16 (r 6), .int .u16 (r 7), .int .u16 (r 8)] 26)) (.cells #[.int .u8 0, .int .u8 a, .int .u8 b, .int .u16 n] 29); rwa [World.size_alloc] at this
  have c1 : ((w.alloc (.cells #[.int .u16 (r 0), .int .u16 (r 1), .int .u16 (r 2), .int .u16 (r 3), .int .u16 (r 4), .int .u16 (r 5), .int .u16 (r 6), .int .u16 (r 7), .int .u16 (r 8)] 26)).alloc (.cells #[.int .u8 0, .int .u8 a, .int .u8 b, .int .u16 n] 29)).cell? ⟨w.heap.size, 1 + a.toNat, none⟩ = some (.int .u16 (r (1 + a.toNat))) := reg_cell (blk_alloc _ _ _ _ HN.out) _ (by omega)
  have c2 : ((w.alloc (.cells #[.int .u16 (r 0), .int .u16 (r 1), .int .u16 (r 2), .int .u16 (r 3), .int .u16 (r 4), .int .u16 (r 5), .int .u16 (r 6), .int .u16 (r 7), .int .u16 (r 8)] 26)).alloc (.cells #[.int .u8 0, .int .u8 a, .int .u8 b, .int .u16 n] 29)).cell? ⟨w.heap.size, 1 + b.toNat, none⟩ = some (.int .u16 (r (1 + b.toNat))) := reg_cell (blk_alloc _ _ _ _ HN.out) _ (by omega)
  have hra := hr (1 + a.toNat)
  have hrb := hr (1 + b.toNat)
  simp (config := { decide := true }) only [deedF, false_and, true_and, if_true, if_false, reduceIte]
  unfold regsV insV
  go_enter Try.func25, Try.ntmps25
  go_wp2_with fail
  go_quiet (fail)
  go_wp2
  all_goals go_ret
  all_goals refine ⟨?_, by (repeat' (first | with_reducible exact (Only.refl [] w) | with_reducible refine Only.alloc ?_ _ | with_reducible refine Only.setCell ?_ (.inr (by first | (exact Nat.le_refl _) | (simp <;> omega))) _ | with_reducible refine Only.drew ?_ | with_reducible refine Only.drewN ?_ _ | exact (Only.refl [] w) | exact Only.refl _ _))⟩
  all_goals rfl

set_option maxHeartbeats 2000000 in
theorem deed_1 (r : Nat → Int) (hr : RegsOk r) (a b n : Int) (ha0 : 0 ≤ a) (ha : a < 8) (hb0 : 0 ≤ b) (hb : b < 8) (w : World) : Calls Try.prog 25 #[regsV r, insV 1 a b n] w fun e w' => e = .returned (deedF r 1 a b n).val ∧ Only [] w w' := by
  have HN : Hid ((w.alloc (.cells #[.int .u16 (r 0), .int .u16 (r 1), .int .u16 (r 2), .int .u16 (r 3), .int .u16 (r 4), .int .u16 (r 5), .int .u16 (r 6), .int .u16 (r 7), .int .u16 (r 8)] 26)).heap[w.heap.size]? = _) := heap_alloc_new w _
  have HI : Hid (((w.alloc (.cells #[.int .u16 (r 0), .int .u16 (r 1), .int .u16 (r 2), .int .u16 (r 3), .int .u16 (r 4), .int .u16 (r 5), .int .u16 (r 6), .int .u16 (r 7), .int .u16 (r 8)] 26)).alloc (.cells #[.int .u8 1, .int .u8 a, .int .u8 b, .int .u16 n] 29)).heap[w.heap.size + 1]? = some (.cells #[.int .u8 1, .int .u8 a, .int .u8 b, .int .u16 n] 29 (0, 0))) := by have := heap_alloc_new (w.alloc (.cells #[.int .u16 (r 0), .int .u16 (r 1), .int .u16 (r 2), .int .u16 (r 3), .int .u16 (r 4), .int .u16 (r 5), .int .u16 (r 6), .int .u16 (r 7), .int .u16 (r 8)] 26)) (.cells #[.int .u8 1, .int .u8 a, .int .u8 b, .int .u16 n] 29); rwa [World.size_alloc] at this
  have c1 : ((w.alloc (.cells #[.int .u16 (r 0), .int .u16 (r 1), .int .u16 (r 2), .int .u16 (r 3), .int .u16 (r 4), .int .u16 (r 5), .int .u16 (r 6), .int .u16 (r 7), .int .u16 (r 8)] 26)).alloc (.cells #[.int .u8 1, .int .u8 a, .int .u8 b, .int .u16 n] 29)).cell? ⟨w.heap.size, 1 + a.toNat, none⟩ = some (.int .u16 (r (1 + a.toNat))) := reg_cell (blk_alloc _ _ _ _ HN.out) _ (by omega)
  have c2 : ((w.alloc (.cells #[.int .u16 (r 0), .int .u16 (r 1), .int .u16 (r 2), .int .u16 (r 3), .int .u16 (r 4), .int .u16 (r 5), .int .u16 (r 6), .int .u16 (r 7), .int .u16 (r 8)] 26)).alloc (.cells #[.int .u8 1, .int .u8 a, .int .u8 b, .int .u16 n] 29)).cell? ⟨w.heap.size, 1 + b.toNat, none⟩ = some (.int .u16 (r (1 + b.toNat))) := reg_cell (blk_alloc _ _ _ _ HN.out) _ (by omega)
  have hra := hr (1 + a.toNat)
  have hrb := hr (1 + b.toNat)
  simp (config := { decide := true }) only [deedF, false_and, true_and, if_true, if_false, reduceIte]
  unfold regsV insV
  go_enter Try.func25, Try.ntmps25
  go_wp2_with fail
  go_quiet (fail)
  go_wp2
  all_goals go_ret
  all_goals refine ⟨?_, by (repeat' (first | with_reducible exact (Only.refl [] w) | with_reducible refine Only.alloc ?_ _ | with_reducible refine Only.setCell ?_ (.inr (by first | (exact Nat.le_refl _) | (simp <;> omega))) _ | with_reducible refine Only.drew ?_ | with_reducible refine Only.drewN ?_ _ | exact (Only.refl [] w) | exact Only.refl _ _))⟩
  all_goals rfl

set_option maxHeartbeats 2000000 in
theorem deed_2 (r : Nat → Int) (hr : RegsOk r) (a b n : Int) (ha0 : 0 ≤ a) (ha : a < 8) (hb0 : 0 ≤ b) (hb : b < 8) (w : World) : Calls Try.prog 25 #[regsV r, insV 2 a b n] w fun e w' => e = .returned (deedF r 2 a b n).val ∧ Only [] w w' := by
  have HN : Hid ((w.alloc (.cells #[.int .u16 (r 0), .int .u16 (r 1), .int .u16 (r 2), .int .u16 (r 3), .int .u16 (r 4), .int .u16 (r 5), .int .u16 (r 6), .int .u16 (r 7), .int .u16 (r 8)] 26)).heap[w.heap.size]? = _) := heap_alloc_new w _
  have HI : Hid (((w.alloc (.cells #[.int .u16 (r 0), .int .u16 (r 1), .int .u16 (r 2), .int .u16 (r 3), .int .u16 (r 4), .int .u16 (r 5), .int .u16 (r 6), .int .u16 (r 7), .int .u16 (r 8)] 26)).alloc (.cells #[.int .u8 2, .int .u8 a, .int .u8 b, .int .u16 n] 29)).heap[w.heap.size + 1]? = some (.cells #[.int .u8 2, .int .u8 a, .int .u8 b, .int .u16 n] 29 (0, 0))) := by have := heap_alloc_new (w.alloc (.cells #[.int .u16 (r 0), .int .u16 (r 1), .int .u16 (r 2), .int .u16 (r 3), .int .u16 (r 4), .int .u16 (r 5), .int .u16 (r 6), .int .u16 (r 7), .int .u16 (r 8)] 26)) (.cells #[.int .u8 2, .int .u8 a, .int .u8 b, .int .u16 n] 29); rwa [World.size_alloc] at this
  have c1 : ((w.alloc (.cells #[.int .u16 (r 0), .int .u16 (r 1), .int .u16 (r 2), .int .u16 (r 3), .int .u16 (r 4), .int .u16 (r 5), .int .u16 (r 6), .int .u16 (r 7), .int .u16 (r 8)] 26)).alloc (.cells #[.int .u8 2, .int .u8 a, .int .u8 b, .int .u16 n] 29)).cell? ⟨w.heap.size, 1 + a.toNat, none⟩ = some (.int .u16 (r (1 + a.toNat))) := reg_cell (blk_alloc _ _ _ _ HN.out) _ (by omega)
  have c2 : ((w.alloc (.cells #[.int .u16 (r 0), .int .u16 (r 1), .int .u16 (r 2), .int .u16 (r 3), .int .u16 (r 4), .int .u16 (r 5), .int .u16 (r 6), .int .u16 (r 7), .int .u16 (r 8)] 26)).alloc (.cells #[.int .u8 2, .int .u8 a, .int .u8 b, .int .u16 n] 29)).cell? ⟨w.heap.size, 1 + b.toNat, none⟩ = some (.int .u16 (r (1 + b.toNat))) := reg_cell (blk_alloc _ _ _ _ HN.out) _ (by omega)
  have hra := hr (1 + a.toNat)
  have hrb := hr (1 + b.toNat)
  simp (config := { decide := true }) only [deedF, false_and, true_and, if_true, if_false, reduceIte]
  unfold regsV insV
  go_enter Try.func25, Try.ntmps25
  go_wp2_with fail
  go_quiet (fail)
  go_wp2
  all_goals go_ret
  all_goals refine ⟨?_, by (repeat' (first | with_reducible exact (Only.refl [] w) | with_reducible refine Only.alloc ?_ _ | with_reducible refine Only.setCell ?_ (.inr (by first | (exact Nat.le_refl _) | (simp <;> omega))) _ | with_reducible refine Only.drew ?_ | with_reducible refine Only.drewN ?_ _ | exact (Only.refl [] w) | exact Only.refl _ _))⟩
  all_goals rfl

set_option maxHeartbeats 2000000 in
theorem deed_3 (r : Nat → Int) (hr : RegsOk r) (a b n : Int) (ha0 : 0 ≤ a) (ha : a < 8) (hb0 : 0 ≤ b) (hb : b < 8) (w : World) : Calls Try.prog 25 #[regsV r, insV 3 a b n] w fun e w' => e = .returned (deedF r 3 a b n).val ∧ Only [] w w' := by
  have HN : Hid ((w.alloc (.cells #[.int .u16 (r 0), .int .u16 (r 1), .int .u16 (r 2), .int .u16 (r 3), .int .u16 (r 4), .int .u16 (r 5), .int .u16 (r 6), .int .u16 (r 7), .int .u16 (r 8)] 26)).heap[w.heap.size]? = _) := heap_alloc_new w _
  have HI : Hid (((w.alloc (.cells #[.int .u16 (r 0), .int .u16 (r 1), .int .u16 (r 2), .int .u16 (r 3), .int .u16 (r 4), .int .u16 (r 5), .int .u16 (r 6), .int .u16 (r 7), .int .u16 (r 8)] 26)).alloc (.cells #[.int .u8 3, .int .u8 a, .int .u8 b, .int .u16 n] 29)).heap[w.heap.size + 1]? = some (.cells #[.int .u8 3, .int .u8 a, .int .u8 b, .int .u16 n] 29 (0, 0))) := by have := heap_alloc_new (w.alloc (.cells #[.int .u16 (r 0), .int .u16 (r 1), .int .u16 (r 2), .int .u16 (r 3), .int .u16 (r 4), .int .u16 (r 5), .int .u16 (r 6), .int .u16 (r 7), .int .u16 (r 8)] 26)) (.cells #[.int .u8 3, .int .u8 a, .int .u8 b, .int .u16 n] 29); rwa [World.size_alloc] at this
  have c1 : ((w.alloc (.cells #[.int .u16 (r 0), .int .u16 (r 1), .int .u16 (r 2), .int .u16 (r 3), .int .u16 (r 4), .int .u16 (r 5), .int .u16 (r 6), .int .u16 (r 7), .int .u16 (r 8)] 26)).alloc (.cells #[.int .u8 3, .int .u8 a, .int .u8 b, .int .u16 n] 29)).cell? ⟨w.heap.size, 1 + a.toNat, none⟩ = some (.int .u16 (r (1 + a.toNat))) := reg_cell (blk_alloc _ _ _ _ HN.out) _ (by omega)
  have c2 : ((w.alloc (.cells #[.int .u16 (r 0), .int .u16 (r 1), .int .u16 (r 2), .int .u16 (r 3), .int .u16 (r 4), .int .u16 (r 5), .int .u16 (r 6), .int .u16 (r 7), .int .u16 (r 8)] 26)).alloc (.cells #[.int .u8 3, .int .u8 a, .int .u8 b, .int .u16 n] 29)).cell? ⟨w.heap.size, 1 + b.toNat, none⟩ = some (.int .u16 (r (1 + b.toNat))) := reg_cell (blk_alloc _ _ _ _ HN.out) _ (by omega)
  have hra := hr (1 + a.toNat)
  have hrb := hr (1 + b.toNat)
  simp (config := { decide := true }) only [deedF, false_and, true_and, if_true, if_false, reduceIte]
  have HC := Lib.hid (fun w => reck_3 (r (1 + a.toNat)) (r (1 + b.toNat)) hra.1 hra.2 hrb.1 hrb.2 w)
  unfold regsV insV
  go_enter Try.func25, Try.ntmps25
  go_wp2_with fail
  go_quiet (fail)
  go_wp2_with fail
  refine (HC.out _).mono ?_
  rintro e w1 ⟨rfl, ho⟩
  obtain ⟨i0, i1, i2, i3⟩ := blk_cells4 (ho.blk (k := w.heap.size + 1) HI.out (by simp))
  clear c1 c2 HN
  go_wp2
  go_ret
  refine ⟨(by first | rfl | simp (config := { decide := true }) [accF, Acc.val, Dd.val]), Only.trans ?_ ho⟩
  (repeat' (first | with_reducible exact (Only.refl [] w) | with_reducible refine Only.alloc ?_ _ | with_reducible refine Only.setCell ?_ (.inr (by first | (exact Nat.le_refl _) | (simp <;> omega))) _ | with_reducible refine Only.drew ?_ | with_reducible refine Only.drewN ?_ _ | exact (Only.refl [] w) | exact Only.refl _ _))

set_option maxHeartbeats 2000000 in
theorem deed_4 (r : Nat → Int) (hr : RegsOk r) (a b n : Int) (ha0 : 0 ≤ a) (ha : a < 8) (hb0 : 0 ≤ b) (hb : b < 8) (w : World) : Calls Try.prog 25 #[regsV r, insV 4 a b n] w fun e w' => e = .returned (deedF r 4 a b n).val ∧ Only [] w w' := by
  have HN : Hid ((w.alloc (.cells #[.int .u16 (r 0), .int .u16 (r 1), .int .u16 (r 2), .int .u16 (r 3), .int .u16 (r 4), .int .u16 (r 5), .int .u16 (r 6), .int .u16 (r 7), .int .u16 (r 8)] 26)).heap[w.heap.size]? = _) := heap_alloc_new w _
  have HI : Hid (((w.alloc (.cells #[.int .u16 (r 0), .int .u16 (r 1), .int .u16 (r 2), .int .u16 (r 3), .int .u16 (r 4), .int .u16 (r 5), .int .u16 (r 6), .int .u16 (r 7), .int .u16 (r 8)] 26)).alloc (.cells #[.int .u8 4, .int .u8 a, .int .u8 b, .int .u16 n] 29)).heap[w.heap.size + 1]? = some (.cells #[.int .u8 4, .int .u8 a, .int .u8 b, .int .u16 n] 29 (0, 0))) := by have := heap_alloc_new (w.alloc (.cells #[.int .u16 (r 0), .int .u16 (r 1), .int .u16 (r 2), .int .u16 (r 3), .int .u16 (r 4), .int .u16 (r 5), .int .u16 (r 6), .int .u16 (r 7), .int .u16 (r 8)] 26)) (.cells #[.int .u8 4, .int .u8 a, .int .u8 b, .int .u16 n] 29); rwa [World.size_alloc] at this
  have c1 : ((w.alloc (.cells #[.int .u16 (r 0), .int .u16 (r 1), .int .u16 (r 2), .int .u16 (r 3), .int .u16 (r 4), .int .u16 (r 5), .int .u16 (r 6), .int .u16 (r 7), .int .u16 (r 8)] 26)).alloc (.cells #[.int .u8 4, .int .u8 a, .int .u8 b, .int .u16 n] 29)).cell? ⟨w.heap.size, 1 + a.toNat, none⟩ = some (.int .u16 (r (1 + a.toNat))) := reg_cell (blk_alloc _ _ _ _ HN.out) _ (by omega)
  have c2 : ((w.alloc (.cells #[.int .u16 (r 0), .int .u16 (r 1), .int .u16 (r 2), .int .u16 (r 3), .int .u16 (r 4), .int .u16 (r 5), .int .u16 (r 6), .int .u16 (r 7), .int .u16 (r 8)] 26)).alloc (.cells #[.int .u8 4, .int .u8 a, .int .u8 b, .int .u16 n] 29)).cell? ⟨w.heap.size, 1 + b.toNat, none⟩ = some (.int .u16 (r (1 + b.toNat))) := reg_cell (blk_alloc _ _ _ _ HN.out) _ (by omega)
  have hra := hr (1 + a.toNat)
  have hrb := hr (1 + b.toNat)
  simp (config := { decide := true }) only [deedF, false_and, true_and, if_true, if_false, reduceIte]
  have HC := Lib.hid (fun w => reck_4 (r (1 + a.toNat)) (r (1 + b.toNat)) hra.1 hra.2 hrb.1 hrb.2 w)
  unfold regsV insV
  go_enter Try.func25, Try.ntmps25
  go_wp2_with fail
  go_quiet (fail)
  go_wp2_with fail
  refine (HC.out _).mono ?_
  rintro e w1 ⟨rfl, ho⟩
  obtain ⟨i0, i1, i2, i3⟩ := blk_cells4 (ho.blk (k := w.heap.size + 1) HI.out (by simp))
  clear c1 c2 HN
  go_wp2
  go_ret
  refine ⟨(by first | rfl | simp (config := { decide := true }) [accF, Acc.val, Dd.val]), Only.trans ?_ ho⟩
  (repeat' (first | with_reducible exact (Only.refl [] w) | with_reducible refine Only.alloc ?_ _ | with_reducible refine Only.setCell ?_ (.inr (by first | (exact Nat.le_refl _) | (simp <;> omega))) _ | with_reducible refine Only.drew ?_ | with_reducible refine Only.drewN ?_ _ | exact (Only.refl [] w) | exact Only.refl _ _))

set_option maxHeartbeats 2000000 in
theorem deed_5 (r : Nat → Int) (hr : RegsOk r) (a b n : Int) (ha0 : 0 ≤ a) (ha : a < 8) (hb0 : 0 ≤ b) (hb : b < 8) (w : World) : Calls Try.prog 25 #[regsV r, insV 5 a b n] w fun e w' => e = .returned (deedF r 5 a b n).val ∧ Only [] w w' := by
  have HN : Hid ((w.alloc (.cells #[.int .u16 (r 0), .int .u16 (r 1), .int .u16 (r 2), .int .u16 (r 3), .int .u16 (r 4), .int .u16 (r 5), .int .u16 (r 6), .int .u16 (r 7), .int .u16 (r 8)] 26)).heap[w.heap.size]? = _) := heap_alloc_new w _
  have HI : Hid (((w.alloc (.cells #[.int .u16 (r 0), .int .u16 (r 1), .int .u16 (r 2), .int .u16 (r 3), .int .u16 (r 4), .int .u16 (r 5), .int .u16 (r 6), .int .u16 (r 7), .int .u16 (r 8)] 26)).alloc (.cells #[.int .u8 5, .int .u8 a, .int .u8 b, .int .u16 n] 29)).heap[w.heap.size + 1]? = some (.cells #[.int .u8 5, .int .u8 a, .int .u8 b, .int .u16 n] 29 (0, 0))) := by have := heap_alloc_new (w.alloc (.cells #[.int .u16 (r 0), .int .u16 (r 1), .int .u16 (r 2), .int .u16 (r 3), .int .u16 (r 4), .int .u16 (r 5), .int .u16 (r 6), .int .u16 (r 7), .int .u16 (r 8)] 26)) (.cells #[.int .u8 5, .int .u8 a, .int .u8 b, .int .u16 n] 29); rwa [World.size_alloc] at this
  have c1 : ((w.alloc (.cells #[.int .u16 (r 0), .int .u16 (r 1), .int .u16 (r 2), .int .u16 (r 3), .int .u16 (r 4), .int .u16 (r 5), .int .u16 (r 6), .int .u16 (r 7), .int .u16 (r 8)] 26)).alloc (.cells #[.int .u8 5, .int .u8 a, .int .u8 b, .int .u16 n] 29)).cell? ⟨w.heap.size, 1 + a.toNat, none⟩ = some (.int .u16 (r (1 + a.toNat))) := reg_cell (blk_alloc _ _ _ _ HN.out) _ (by omega)
  have c2 : ((w.alloc (.cells #[.int .u16 (r 0), .int .u16 (r 1), .int .u16 (r 2), .int .u16 (r 3), .int .u16 (r 4), .int .u16 (r 5), .int .u16 (r 6), .int .u16 (r 7), .int .u16 (r 8)] 26)).alloc (.cells #[.int .u8 5, .int .u8 a, .int .u8 b, .int .u16 n] 29)).cell? ⟨w.heap.size, 1 + b.toNat, none⟩ = some (.int .u16 (r (1 + b.toNat))) := reg_cell (blk_alloc _ _ _ _ HN.out) _ (by omega)
  have hra := hr (1 + a.toNat)
  have hrb := hr (1 + b.toNat)
  simp (config := { decide := true }) only [deedF, false_and, true_and, if_true, if_false, reduceIte]
  have HC := Lib.hid (fun w => reck_5 (r (1 + a.toNat)) (r (1 + b.toNat)) hra.1 hra.2 hrb.1 hrb.2 w)
  unfold regsV insV
  go_enter Try.func25, Try.ntmps25
  go_wp2_with fail
  go_quiet (fail)
  go_wp2_with fail
  refine (HC.out _).mono ?_
  rintro e w1 ⟨rfl, ho⟩
  obtain ⟨i0, i1, i2, i3⟩ := blk_cells4 (ho.blk (k := w.heap.size + 1) HI.out (by simp))
  clear c1 c2 HN
  go_wp2
  go_ret
  refine ⟨(by first | rfl | simp (config := { decide := true }) [accF, Acc.val, Dd.val]), Only.trans ?_ ho⟩
  (repeat' (first | with_reducible exact (Only.refl [] w) | with_reducible refine Only.alloc ?_ _ | with_reducible refine Only.setCell ?_ (.inr (by first | (exact Nat.le_refl _) | (simp <;> omega))) _ | with_reducible refine Only.drew ?_ | with_reducible refine Only.drewN ?_ _ | exact (Only.refl [] w) | exact Only.refl _ _))

set_option maxHeartbeats 2000000 in
theorem deed_6 (r : Nat → Int) (hr : RegsOk r) (a b n : Int) (ha0 : 0 ≤ a) (ha : a < 8) (hb0 : 0 ≤ b) (hb : b < 8) (w : World) : Calls Try.prog 25 #[regsV r, insV 6 a b n] w fun e w' => e = .returned (deedF r 6 a b n).val ∧ Only [] w w' := by
  have HN : Hid ((w.alloc (.cells #[.int .u16 (r 0), .int .u16 (r 1), .int .u16 (r 2), .int .u16 (r 3), .int .u16 (r 4), .int .u16 (r 5), .int .u16 (r 6), .int .u16 (r 7), .int .u16 (r 8)] 26)).heap[w.heap.size]? = _) := heap_alloc_new w _
  have HI : Hid (((w.alloc (.cells #[.int .u16 (r 0), .int .u16 (r 1), .int .u16 (r 2), .int .u16 (r 3), .int .u16 (r 4), .int .u16 (r 5), .int .u16 (r 6), .int .u16 (r 7), .int .u16 (r 8)] 26)).alloc (.cells #[.int .u8 6, .int .u8 a, .int .u8 b, .int .u16 n] 29)).heap[w.heap.size + 1]? = some (.cells #[.int .u8 6, .int .u8 a, .int .u8 b, .int .u16 n] 29 (0, 0))) := by have := heap_alloc_new (w.alloc (.cells #[.int .u16 (r 0), .int .u16 (r 1), .int .u16 (r 2), .int .u16 (r 3), .int .u16 (r 4), .int .u16 (r 5), .int .u16 (r 6), .int .u16 (r 7), .int .u16 (r 8)] 26)) (.cells #[.int .u8 6, .int .u8 a, .int .u8 b, .int .u16 n] 29); rwa [World.size_alloc] at this
  have c1 : ((w.alloc (.cells #[.int .u16 (r 0), .int .u16 (r 1), .int .u16 (r 2), .int .u16 (r 3), .int .u16 (r 4), .int .u16 (r 5), .int .u16 (r 6), .int .u16 (r 7), .int .u16 (r 8)] 26)).alloc (.cells #[.int .u8 6, .int .u8 a, .int .u8 b, .int .u16 n] 29)).cell? ⟨w.heap.size, 1 + a.toNat, none⟩ = some (.int .u16 (r (1 + a.toNat))) := reg_cell (blk_alloc _ _ _ _ HN.out) _ (by omega)
  have c2 : ((w.alloc (.cells #[.int .u16 (r 0), .int .u16 (r 1), .int .u16 (r 2), .int .u16 (r 3), .int .u16 (r 4), .int .u16 (r 5), .int .u16 (r 6), .int .u16 (r 7), .int .u16 (r 8)] 26)).alloc (.cells #[.int .u8 6, .int .u8 a, .int .u8 b, .int .u16 n] 29)).cell? ⟨w.heap.size, 1 + b.toNat, none⟩ = some (.int .u16 (r (1 + b.toNat))) := reg_cell (blk_alloc _ _ _ _ HN.out) _ (by omega)
  have hra := hr (1 + a.toNat)
  have hrb := hr (1 + b.toNat)
  simp (config := { decide := true }) only [deedF, false_and, true_and, if_true, if_false, reduceIte]
  have HC := Lib.hid (fun w => reck_6 (r (1 + a.toNat)) (r (1 + b.toNat)) hra.1 hra.2 hrb.1 hrb.2 w)
  unfold regsV insV
  go_enter Try.func25, Try.ntmps25
  go_wp2_with fail
  go_quiet (fail)
  go_wp2_with fail
  refine (HC.out _).mono ?_
  rintro e w1 ⟨rfl, ho⟩
  obtain ⟨i0, i1, i2, i3⟩ := blk_cells4 (ho.blk (k := w.heap.size + 1) HI.out (by simp))
  clear c1 c2 HN
  go_wp2
  go_ret
  refine ⟨(by first | rfl | simp (config := { decide := true }) [accF, Acc.val, Dd.val]), Only.trans ?_ ho⟩
  (repeat' (first | with_reducible exact (Only.refl [] w) | with_reducible refine Only.alloc ?_ _ | with_reducible refine Only.setCell ?_ (.inr (by first | (exact Nat.le_refl _) | (simp <;> omega))) _ | with_reducible refine Only.drew ?_ | with_reducible refine Only.drewN ?_ _ | exact (Only.refl [] w) | exact Only.refl _ _))

set_option maxHeartbeats 2000000 in
theorem deed_7 (r : Nat → Int) (hr : RegsOk r) (a b n : Int) (ha0 : 0 ≤ a) (ha : a < 8) (hb0 : 0 ≤ b) (hb : b < 8) (hz : r (1 + b.toNat) ≠ 0) (w : World) : Calls Try.prog 25 #[regsV r, insV 7 a b n] w fun e w' => e = .returned (deedF r 7 a b n).val ∧ Only [] w w' := by
  have HN : Hid ((w.alloc (.cells #[.int .u16 (r 0), .int .u16 (r 1), .int .u16 (r 2), .int .u16 (r 3), .int .u16 (r 4), .int .u16 (r 5), .int .u16 (r 6), .int .u16 (r 7), .int .u16 (r 8)] 26)).heap[w.heap.size]? = _) := heap_alloc_new w _
  have HI : Hid (((w.alloc (.cells #[.int .u16 (r 0), .int .u16 (r 1), .int .u16 (r 2), .int .u16 (r 3), .int .u16 (r 4), .int .u16 (r 5), .int .u16 (r 6), .int .u16 (r 7), .int .u16 (r 8)] 26)).alloc (.cells #[.int .u8 7, .int .u8 a, .int .u8 b, .int .u16 n] 29)).heap[w.heap.size + 1]? = some (.cells #[.int .u8 7, .int .u8 a, .int .u8 b, .int .u16 n] 29 (0, 0))) := by have := heap_alloc_new (w.alloc (.cells #[.int .u16 (r 0), .int .u16 (r 1), .int .u16 (r 2), .int .u16 (r 3), .int .u16 (r 4), .int .u16 (r 5), .int .u16 (r 6), .int .u16 (r 7), .int .u16 (r 8)] 26)) (.cells #[.int .u8 7, .int .u8 a, .int .u8 b, .int .u16 n] 29); rwa [World.size_alloc] at this
  have c1 : ((w.alloc (.cells #[.int .u16 (r 0), .int .u16 (r 1), .int .u16 (r 2), .int .u16 (r 3), .int .u16 (r 4), .int .u16 (r 5), .int .u16 (r 6), .int .u16 (r 7), .int .u16 (r 8)] 26)).alloc (.cells #[.int .u8 7, .int .u8 a, .int .u8 b, .int .u16 n] 29)).cell? ⟨w.heap.size, 1 + a.toNat, none⟩ = some (.int .u16 (r (1 + a.toNat))) := reg_cell (blk_alloc _ _ _ _ HN.out) _ (by omega)
  have c2 : ((w.alloc (.cells #[.int .u16 (r 0), .int .u16 (r 1), .int .u16 (r 2), .int .u16 (r 3), .int .u16 (r 4), .int .u16 (r 5), .int .u16 (r 6), .int .u16 (r 7), .int .u16 (r 8)] 26)).alloc (.cells #[.int .u8 7, .int .u8 a, .int .u8 b, .int .u16 n] 29)).cell? ⟨w.heap.size, 1 + b.toNat, none⟩ = some (.int .u16 (r (1 + b.toNat))) := reg_cell (blk_alloc _ _ _ _ HN.out) _ (by omega)
  have hra := hr (1 + a.toNat)
  have hrb := hr (1 + b.toNat)
  simp (config := { decide := true }) only [deedF, false_and, true_and, if_true, if_false, reduceIte]
  rw [if_neg hz]
  have HC := Lib.hid (fun w => reck_7 (r (1 + a.toNat)) (r (1 + b.toNat)) hra.1 hra.2 hrb.1 hrb.2 hz w)
  clear hz
  unfold regsV insV
  go_enter Try.func25, Try.ntmps25
  go_wp2_with fail
  go_quiet (fail)
  go_wp2_with fail
  refine (HC.out _).mono ?_
  rintro e w1 ⟨rfl, ho⟩
  obtain ⟨i0, i1, i2, i3⟩ := blk_cells4 (ho.blk (k := w.heap.size + 1) HI.out (by simp))
  clear c1 c2 HN
  go_wp2
  go_ret
  refine ⟨(by first | rfl | simp (config := { decide := true }) [accF, Acc.val, Dd.val]), Only.trans ?_ ho⟩
  (repeat' (first | with_reducible exact (Only.refl [] w) | with_reducible refine Only.alloc ?_ _ | with_reducible refine Only.setCell ?_ (.inr (by first | (exact Nat.le_refl _) | (simp <;> omega))) _ | with_reducible refine Only.drew ?_ | with_reducible refine Only.drewN ?_ _ | exact (Only.refl [] w) | exact Only.refl _ _))

set_option maxHeartbeats 2000000 in
theorem deed_8 (r : Nat → Int) (hr : RegsOk r) (a b n : Int) (ha0 : 0 ≤ a) (ha : a < 8) (hb0 : 0 ≤ b) (hb : b < 8) (w : World) : Calls Try.prog 25 #[regsV r, insV 8 a b n] w fun e w' => e = .returned (deedF r 8 a b n).val ∧ Only [] w w' := by
  have HN : Hid ((w.alloc (.cells #[.int .u16 (r 0), .int .u16 (r 1), .int .u16 (r 2), .int .u16 (r 3), .int .u16 (r 4), .int .u16 (r 5), .int .u16 (r 6), .int .u16 (r 7), .int .u16 (r 8)] 26)).heap[w.heap.size]? = _) := heap_alloc_new w _
  have HI : Hid (((w.alloc (.cells #[.int .u16 (r 0), .int .u16 (r 1), .int .u16 (r 2), .int .u16 (r 3), .int .u16 (r 4), .int .u16 (r 5), .int .u16 (r 6), .int .u16 (r 7), .int .u16 (r 8)] 26)).alloc (.cells #[.int .u8 8, .int .u8 a, .int .u8 b, .int .u16 n] 29)).heap[w.heap.size + 1]? = some (.cells #[.int .u8 8, .int .u8 a, .int .u8 b, .int .u16 n] 29 (0, 0))) := by have := heap_alloc_new (w.alloc (.cells #[.int .u16 (r 0), .int .u16 (r 1), .int .u16 (r 2), .int .u16 (r 3), .int .u16 (r 4), .int .u16 (r 5), .int .u16 (r 6), .int .u16 (r 7), .int .u16 (r 8)] 26)) (.cells #[.int .u8 8, .int .u8 a, .int .u8 b, .int .u16 n] 29); rwa [World.size_alloc] at this
  have c1 : ((w.alloc (.cells #[.int .u16 (r 0), .int .u16 (r 1), .int .u16 (r 2), .int .u16 (r 3), .int .u16 (r 4), .int .u16 (r 5), .int .u16 (r 6), .int .u16 (r 7), .int .u16 (r 8)] 26)).alloc (.cells #[.int .u8 8, .int .u8 a, .int .u8 b, .int .u16 n] 29)).cell? ⟨w.heap.size, 1 + a.toNat, none⟩ = some (.int .u16 (r (1 + a.toNat))) := reg_cell (blk_alloc _ _ _ _ HN.out) _ (by omega)
  have c2 : ((w.alloc (.cells #[.int .u16 (r 0), .int .u16 (r 1), .int .u16 (r 2), .int .u16 (r 3), .int .u16 (r 4), .int .u16 (r 5), .int .u16 (r 6), .int .u16 (r 7), .int .u16 (r 8)] 26)).alloc (.cells #[.int .u8 8, .int .u8 a, .int .u8 b, .int .u16 n] 29)).cell? ⟨w.heap.size, 1 + b.toNat, none⟩ = some (.int .u16 (r (1 + b.toNat))) := reg_cell (blk_alloc _ _ _ _ HN.out) _ (by omega)
  have hra := hr (1 + a.toNat)
  have hrb := hr (1 + b.toNat)
  simp (config := { decide := true }) only [deedF, false_and, true_and, if_true, if_false, reduceIte]
  have HC := Lib.hid (fun w => reck_8 (r (1 + a.toNat)) (r (1 + b.toNat)) hra.1 hra.2 hrb.1 hrb.2 w)
  unfold regsV insV
  go_enter Try.func25, Try.ntmps25
  go_wp2_with fail
  go_quiet (fail)
  go_wp2_with fail
  refine (HC.out _).mono ?_
  rintro e w1 ⟨rfl, ho⟩
  obtain ⟨i0, i1, i2, i3⟩ := blk_cells4 (ho.blk (k := w.heap.size + 1) HI.out (by simp))
  clear c1 c2 HN
  go_wp2
  go_ret
  refine ⟨(by first | rfl | simp (config := { decide := true }) [accF, Acc.val, Dd.val]), Only.trans ?_ ho⟩
  (repeat' (first | with_reducible exact (Only.refl [] w) | with_reducible refine Only.alloc ?_ _ | with_reducible refine Only.setCell ?_ (.inr (by first | (exact Nat.le_refl _) | (simp <;> omega))) _ | with_reducible refine Only.drew ?_ | with_reducible refine Only.drewN ?_ _ | exact (Only.refl [] w) | exact Only.refl _ _))

set_option maxHeartbeats 2000000 in
theorem deed_9 (r : Nat → Int) (hr : RegsOk r) (a b n : Int) (ha0 : 0 ≤ a) (ha : a < 8) (hb0 : 0 ≤ b) (hb : b < 8) (w : World) : Calls Try.prog 25 #[regsV r, insV 9 a b n] w fun e w' => e = .returned (deedF r 9 a b n).val ∧ Only [] w w' := by
  have HN : Hid ((w.alloc (.cells #[.int .u16 (r 0), .int .u16 (r 1), .int .u16 (r 2), .int .u16 (r 3), .int .u16 (r 4), .int .u16 (r 5), .int .u16 (r 6), .int .u16 (r 7), .int .u16 (r 8)] 26)).heap[w.heap.size]? = _) := heap_alloc_new w _
  have HI : Hid (((w.alloc (.cells #[.int .u16 (r 0), .int .u16 (r 1), .int .u16 (r 2), .int .u16 (r 3), .int .u16 (r 4), .int .u16 (r 5), .int .u16 (r 6), .int .u16 (r 7), .int .u16 (r 8)] 26)).alloc (.cells #[.int .u8 9, .int .u8 a, .int .u8 b, .int .u16 n] 29)).heap[w.heap.size + 1]? = some (.cells #[.int .u8 9, .int .u8 a, .int .u8 b, .int .u16 n] 29 (0, 0))) := by have := heap_alloc_new (w.alloc (.cells #[.int .u16 (r 0), .int .u16 (r 1), .int .u16 (r 2), .int .u16 (r 3), .int .u16 (r 4), .int .u16 (r 5), .int .u16 (r 6), .int .u16 (r 7), .int .u16 (r 8)] 26)) (.cells #[.int .u8 9, .int .u8 a, .int .u8 b, .int .u16 n] 29); rwa [World.size_alloc] at this
  have c1 : ((w.alloc (.cells #[.int .u16 (r 0), .int .u16 (r 1), .int .u16 (r 2), .int .u16 (r 3), .int .u16 (r 4), .int .u16 (r 5), .int .u16 (r 6), .int .u16 (r 7), .int .u16 (r 8)] 26)).alloc (.cells #[.int .u8 9, .int .u8 a, .int .u8 b, .int .u16 n] 29)).cell? ⟨w.heap.size, 1 + a.toNat, none⟩ = some (.int .u16 (r (1 + a.toNat))) := reg_cell (blk_alloc _ _ _ _ HN.out) _ (by omega)
  have c2 : ((w.alloc (.cells #[.int .u16 (r 0), .int .u16 (r 1), .int .u16 (r 2), .int .u16 (r 3), .int .u16 (r 4), .int .u16 (r 5), .int .u16 (r 6), .int .u16 (r 7), .int .u16 (r 8)] 26)).alloc (.cells #[.int .u8 9, .int .u8 a, .int .u8 b, .int .u16 n] 29)).cell? ⟨w.heap.size, 1 + b.toNat, none⟩ = some (.int .u16 (r (1 + b.toNat))) := reg_cell (blk_alloc _ _ _ _ HN.out) _ (by omega)
  have hra := hr (1 + a.toNat)
  have hrb := hr (1 + b.toNat)
  simp (config := { decide := true }) only [deedF, false_and, true_and, if_true, if_false, reduceIte]
  have HC := Lib.hid (fun w => reck_9 (r (1 + a.toNat)) (r (1 + b.toNat)) hra.1 hra.2 hrb.1 hrb.2 w)
  unfold regsV insV
  go_enter Try.func25, Try.ntmps25
  go_wp2_with fail
  go_quiet (fail)
  go_wp2_with fail
  refine (HC.out _).mono ?_
  rintro e w1 ⟨rfl, ho⟩
  obtain ⟨i0, i1, i2, i3⟩ := blk_cells4 (ho.blk (k := w.heap.size + 1) HI.out (by simp))
  clear c1 c2 HN
  go_wp2
  go_ret
  refine ⟨(by first | rfl | simp (config := { decide := true }) [accF, Acc.val, Dd.val]), Only.trans ?_ ho⟩
  (repeat' (first | with_reducible exact (Only.refl [] w) | with_reducible refine Only.alloc ?_ _ | with_reducible refine Only.setCell ?_ (.inr (by first | (exact Nat.le_refl _) | (simp <;> omega))) _ | with_reducible refine Only.drew ?_ | with_reducible refine Only.drewN ?_ _ | exact (Only.refl [] w) | exact Only.refl _ _))

set_option maxHeartbeats 2000000 in
theorem deed_10 (r : Nat → Int) (hr : RegsOk r) (a b n : Int) (ha0 : 0 ≤ a) (ha : a < 8) (hb0 : 0 ≤ b) (hb : b < 8) (w : World) : Calls Try.prog 25 #[regsV r, insV 10 a b n] w fun e w' => e = .returned (deedF r 10 a b n).val ∧ Only [] w w' := by
  have HN : Hid ((w.alloc (.cells #[.int .u16 (r 0), .int .u16 (r 1), .int .u16 (r 2), .int .u16 (r 3), .int .u16 (r 4), .int .u16 (r 5), .int .u16 (r 6), .int .u16 (r 7), .int .u16 (r 8)] 26)).heap[w.heap.size]? = _) := heap_alloc_new w _
  have HI : Hid (((w.alloc (.cells #[.int .u16 (r 0), .int .u16 (r 1), .int .u16 (r 2), .int .u16 (r 3), .int .u16 (r 4), .int .u16 (r 5), .int .u16 (r 6), .int .u16 (r 7), .int .u16 (r 8)] 26)).alloc (.cells #[.int .u8 10, .int .u8 a, .int .u8 b, .int .u16 n] 29)).heap[w.heap.size + 1]? = some (.cells #[.int .u8 10, .int .u8 a, .int .u8 b, .int .u16 n] 29 (0, 0))) := by have := heap_alloc_new (w.alloc (.cells #[.int .u16 (r 0), .int .u16 (r 1), .int .u16 (r 2), .int .u16 (r 3), .int .u16 (r 4), .int .u16 (r 5), .int .u16 (r 6), .int .u16 (r 7), .int .u16 (r 8)] 26)) (.cells #[.int .u8 10, .int .u8 a, .int .u8 b, .int .u16 n] 29); rwa [World.size_alloc] at this
  have c1 : ((w.alloc (.cells #[.int .u16 (r 0), .int .u16 (r 1), .int .u16 (r 2), .int .u16 (r 3), .int .u16 (r 4), .int .u16 (r 5), .int .u16 (r 6), .int .u16 (r 7), .int .u16 (r 8)] 26)).alloc (.cells #[.int .u8 10, .int .u8 a, .int .u8 b, .int .u16 n] 29)).cell? ⟨w.heap.size, 1 + a.toNat, none⟩ = some (.int .u16 (r (1 + a.toNat))) := reg_cell (blk_alloc _ _ _ _ HN.out) _ (by omega)
  have c2 : ((w.alloc (.cells #[.int .u16 (r 0), .int .u16 (r 1), .int .u16 (r 2), .int .u16 (r 3), .int .u16 (r 4), .int .u16 (r 5), .int .u16 (r 6), .int .u16 (r 7), .int .u16 (r 8)] 26)).alloc (.cells #[.int .u8 10, .int .u8 a, .int .u8 b, .int .u16 n] 29)).cell? ⟨w.heap.size, 1 + b.toNat, none⟩ = some (.int .u16 (r (1 + b.toNat))) := reg_cell (blk_alloc _ _ _ _ HN.out) _ (by omega)
  have hra := hr (1 + a.toNat)
  have hrb := hr (1 + b.toNat)
  simp (config := { decide := true }) only [deedF, false_and, true_and, if_true, if_false, reduceIte]
  have HC := Lib.hid (fun w => reck_10 (r (1 + a.toNat)) (r (1 + b.toNat)) hra.1 hra.2 hrb.1 hrb.2 w)
  unfold regsV insV
  go_enter Try.func25, Try.ntmps25
  go_wp2_with fail
  go_quiet (fail)
  go_wp2_with fail
  refine (HC.out _).mono ?_
  rintro e w1 ⟨rfl, ho⟩
  obtain ⟨i0, i1, i2, i3⟩ := blk_cells4 (ho.blk (k := w.heap.size + 1) HI.out (by simp))
  clear c1 c2 HN
  go_wp2
  go_ret
  refine ⟨(by first | rfl | simp (config := { decide := true }) [accF, Acc.val, Dd.val]), Only.trans ?_ ho⟩
  (repeat' (first | with_reducible exact (Only.refl [] w) | with_reducible refine Only.alloc ?_ _ | with_reducible refine Only.setCell ?_ (.inr (by first | (exact Nat.le_refl _) | (simp <;> omega))) _ | with_reducible refine Only.drew ?_ | with_reducible refine Only.drewN ?_ _ | exact (Only.refl [] w) | exact Only.refl _ _))

set_option maxHeartbeats 2000000 in
theorem deed_11 (r : Nat → Int) (hr : RegsOk r) (a b n : Int) (ha0 : 0 ≤ a) (ha : a < 8) (hb0 : 0 ≤ b) (hb : b < 8) (w : World) : Calls Try.prog 25 #[regsV r, insV 11 a b n] w fun e w' => e = .returned (deedF r 11 a b n).val ∧ Only [] w w' := by
  have HN : Hid ((w.alloc (.cells #[.int .u16 (r 0), .int .u16 (r 1), .int .u16 (r 2), .int .u16 (r 3), .int .u16 (r 4), .int .u16 (r 5), .int .u16 (r 6), .int .u16 (r 7), .int .u16 (r 8)] 26)).heap[w.heap.size]? = _) := heap_alloc_new w _
  have HI : Hid (((w.alloc (.cells #[.int .u16 (r 0), .int .u16 (r 1), .int .u16 (r 2), .int .u16 (r 3), .int .u16 (r 4), .int .u16 (r 5), .int .u16 (r 6), .int .u16 (r 7), .int .u16 (r 8)] 26)).alloc (.cells #[.int .u8 11, .int .u8 a, .int .u8 b, .int .u16 n] 29)).heap[w.heap.size + 1]? = some (.cells #[.int .u8 11, .int .u8 a, .int .u8 b, .int .u16 n] 29 (0, 0))) := by have := heap_alloc_new (w.alloc (.cells #[.int .u16 (r 0), .int .u16 (r 1), .int .u16 (r 2), .int .u16 (r 3), .int .u16 (r 4), .int .u16 (r 5), .int .u16 (r 6), .int .u16 (r 7), .int .u16 (r 8)] 26)) (.cells #[.int .u8 11, .int .u8 a, .int .u8 b, .int .u16 n] 29); rwa [World.size_alloc] at this
  have c1 : ((w.alloc (.cells #[.int .u16 (r 0), .int .u16 (r 1), .int .u16 (r 2), .int .u16 (r 3), .int .u16 (r 4), .int .u16 (r 5), .int .u16 (r 6), .int .u16 (r 7), .int .u16 (r 8)] 26)).alloc (.cells #[.int .u8 11, .int .u8 a, .int .u8 b, .int .u16 n] 29)).cell? ⟨w.heap.size, 1 + a.toNat, none⟩ = some (.int .u16 (r (1 + a.toNat))) := reg_cell (blk_alloc _ _ _ _ HN.out) _ (by omega)
  have c2 : ((w.alloc (.cells #[.int .u16 (r 0), .int .u16 (r 1), .int .u16 (r 2), .int .u16 (r 3), .int .u16 (r 4), .int .u16 (r 5), .int .u16 (r 6), .int .u16 (r 7), .int .u16 (r 8)] 26)).alloc (.cells #[.int .u8 11, .int .u8 a, .int .u8 b, .int .u16 n] 29)).cell? ⟨w.heap.size, 1 + b.toNat, none⟩ = some (.int .u16 (r (1 + b.toNat))) := reg_cell (blk_alloc _ _ _ _ HN.out) _ (by omega)
  have hra := hr (1 + a.toNat)
  have hrb := hr (1 + b.toNat)
  simp (config := { decide := true }) only [deedF, false_and, true_and, if_true, if_false, reduceIte]
  have HC := Lib.hid (fun w => reck_11 (r (1 + a.toNat)) (r (1 + b.toNat)) hra.1 hra.2 hrb.1 hrb.2 w)
  unfold regsV insV
  go_enter Try.func25, Try.ntmps25
  go_wp2_with fail
  go_quiet (fail)
  go_wp2_with fail
  refine (HC.out _).mono ?_
  rintro e w1 ⟨rfl, ho⟩
  obtain ⟨i0, i1, i2, i3⟩ := blk_cells4 (ho.blk (k := w.heap.size + 1) HI.out (by simp))
  clear c1 c2 HN
  go_wp2
  go_ret
  refine ⟨(by first | rfl | simp (config := { decide := true }) [accF, Acc.val, Dd.val]), Only.trans ?_ ho⟩
  (repeat' (first | with_reducible exact (Only.refl [] w) | with_reducible refine Only.alloc ?_ _ | with_reducible refine Only.setCell ?_ (.inr (by first | (exact Nat.le_refl _) | (simp <;> omega))) _ | with_reducible refine Only.drew ?_ | with_reducible refine Only.drewN ?_ _ | exact (Only.refl [] w) | exact Only.refl _ _))

set_option maxHeartbeats 2000000 in
theorem deed_12 (r : Nat → Int) (hr : RegsOk r) (a b n : Int) (ha0 : 0 ≤ a) (ha : a < 8) (hb0 : 0 ≤ b) (hb : b < 8) (w : World) : Calls Try.prog 25 #[regsV r, insV 12 a b n] w fun e w' => e = .returned (deedF r 12 a b n).val ∧ Only [] w w' := by
  have HN : Hid ((w.alloc (.cells #[.int .u16 (r 0), .int .u16 (r 1), .int .u16 (r 2), .int .u16 (r 3), .int .u16 (r 4), .int .u16 (r 5), .int .u16 (r 6), .int .u16 (r 7), .int .u16 (r 8)] 26)).heap[w.heap.size]? = _) := heap_alloc_new w _
  have HI : Hid (((w.alloc (.cells #[.int .u16 (r 0), .int .u16 (r 1), .int .u16 (r 2), .int .u16 (r 3), .int .u16 (r 4), .int .u16 (r 5), .int .u16 (r 6), .int .u16 (r 7), .int .u16 (r 8)] 26)).alloc (.cells #[.int .u8 12, .int .u8 a, .int .u8 b, .int .u16 n] 29)).heap[w.heap.size + 1]? = some (.cells #[.int .u8 12, .int .u8 a, .int .u8 b, .int .u16 n] 29 (0, 0))) := by have := heap_alloc_new (w.alloc (.cells #[.int .u16 (r 0), .int .u16 (r 1), .int .u16 (r 2), .int .u16 (r 3), .int .u16 (r 4), .int .u16 (r 5), .int .u16 (r 6), .int .u16 (r 7), .int .u16 (r 8)] 26)) (.cells #[.int .u8 12, .int .u8 a, .int .u8 b, .int .u16 n] 29); rwa [World.size_alloc] at this
  have c1 : ((w.alloc (.cells #[.int .u16 (r 0), .int .u16 (r 1), .int .u16 (r 2), .int .u16 (r 3), .int .u16 (r 4), .int .u16 (r 5), .int .u16 (r 6), .int .u16 (r 7), .int .u16 (r 8)] 26)).alloc (.cells #[.int .u8 12, .int .u8 a, .int .u8 b, .int .u16 n] 29)).cell? ⟨w.heap.size, 1 + a.toNat, none⟩ = some (.int .u16 (r (1 + a.toNat))) := reg_cell (blk_alloc _ _ _ _ HN.out) _ (by omega)
  have c2 : ((w.alloc (.cells #[.int .u16 (r 0), .int .u16 (r 1), .int .u16 (r 2), .int .u16 (r 3), .int .u16 (r 4), .int .u16 (r 5), .int .u16 (r 6), .int .u16 (r 7), .int .u16 (r 8)] 26)).alloc (.cells #[.int .u8 12, .int .u8 a, .int .u8 b, .int .u16 n] 29)).cell? ⟨w.heap.size, 1 + b.toNat, none⟩ = some (.int .u16 (r (1 + b.toNat))) := reg_cell (blk_alloc _ _ _ _ HN.out) _ (by omega)
  have hra := hr (1 + a.toNat)
  have hrb := hr (1 + b.toNat)
  simp (config := { decide := true }) only [deedF, false_and, true_and, if_true, if_false, reduceIte]
  have HC := Lib.hid (fun w => reck_12 (r (1 + a.toNat)) (r (1 + b.toNat)) hra.1 hra.2 hrb.1 hrb.2 w)
  unfold regsV insV
  go_enter Try.func25, Try.ntmps25
  go_wp2_with fail
  go_quiet (fail)
  go_wp2_with fail
  refine (HC.out _).mono ?_
  rintro e w1 ⟨rfl, ho⟩
  obtain ⟨i0, i1, i2, i3⟩ := blk_cells4 (ho.blk (k := w.heap.size + 1) HI.out (by simp))
  clear c1 c2 HN
  go_wp2
  go_ret
  refine ⟨(by first | rfl | simp (config := { decide := true }) [accF, Acc.val, Dd.val]), Only.trans ?_ ho⟩
  (repeat' (first | with_reducible exact (Only.refl [] w) | with_reducible refine Only.alloc ?_ _ | with_reducible refine Only.setCell ?_ (.inr (by first | (exact Nat.le_refl _) | (simp <;> omega))) _ | with_reducible refine Only.drew ?_ | with_reducible refine Only.drewN ?_ _ | exact (Only.refl [] w) | exact Only.refl _ _))

set_option maxHeartbeats 2000000 in
theorem deed_13 (r : Nat → Int) (hr : RegsOk r) (a b n : Int) (ha0 : 0 ≤ a) (ha : a < 8) (hb0 : 0 ≤ b) (hb : b < 8) (w : World) : Calls Try.prog 25 #[regsV r, insV 13 a b n] w fun e w' => e = .returned (deedF r 13 a b n).val ∧ Only [] w w' := by
  have HN : Hid ((w.alloc (.cells #[.int .u16 (r 0), .int .u16 (r 1), .int .u16 (r 2), .int .u16 (r 3), .int .u16 (r 4), .int .u16 (r 5), .int .u16 (r 6), .int .u16 (r 7), .int .u16 (r 8)] 26)).heap[w.heap.size]? = _) := heap_alloc_new w _
  have HI : Hid (((w.alloc (.cells #[.int .u16 (r 0), .int .u16 (r 1), .int .u16 (r 2), .int .u16 (r 3), .int .u16 (r 4), .int .u16 (r 5), .int .u16 (r 6), .int .u16 (r 7), .int .u16 (r 8)] 26)).alloc (.cells #[.int .u8 13, .int .u8 a, .int .u8 b, .int .u16 n] 29)).heap[w.heap.size + 1]? = some (.cells #[.int .u8 13, .int .u8 a, .int .u8 b, .int .u16 n] 29 (0, 0))) := by have := heap_alloc_new (w.alloc (.cells #[.int .u16 (r 0), .int .u16 (r 1), .int .u16 (r 2), .int .u16 (r 3), .int .u16 (r 4), .int .u16 (r 5), .int .u16 (r 6), .int .u16 (r 7), .int .u16 (r 8)] 26)) (.cells #[.int .u8 13, .int .u8 a, .int .u8 b, .int .u16 n] 29); rwa [World.size_alloc] at this
  have c1 : ((w.alloc (.cells #[.int .u16 (r 0), .int .u16 (r 1), .int .u16 (r 2), .int .u16 (r 3), .int .u16 (r 4), .int .u16 (r 5), .int .u16 (r 6), .int .u16 (r 7), .int .u16 (r 8)] 26)).alloc (.cells #[.int .u8 13, .int .u8 a, .int .u8 b, .int .u16 n] 29)).cell? ⟨w.heap.size, 1 + a.toNat, none⟩ = some (.int .u16 (r (1 + a.toNat))) := reg_cell (blk_alloc _ _ _ _ HN.out) _ (by omega)
  have c2 : ((w.alloc (.cells #[.int .u16 (r 0), .int .u16 (r 1), .int .u16 (r 2), .int .u16 (r 3), .int .u16 (r 4), .int .u16 (r 5), .int .u16 (r 6), .int .u16 (r 7), .int .u16 (r 8)] 26)).alloc (.cells #[.int .u8 13, .int .u8 a, .int .u8 b, .int .u16 n] 29)).cell? ⟨w.heap.size, 1 + b.toNat, none⟩ = some (.int .u16 (r (1 + b.toNat))) := reg_cell (blk_alloc _ _ _ _ HN.out) _ (by omega)
  have hra := hr (1 + a.toNat)
  have hrb := hr (1 + b.toNat)
  simp (config := { decide := true }) only [deedF, false_and, true_and, if_true, if_false, reduceIte]
  have HC := fun w => access_13 a b n (r (1 + a.toNat)) (r (1 + b.toNat)) hra.1 hra.2 w
  unfold insV at HC
  simp (config := { decide := true }) only [accF, if_true, if_false, reduceIte, Acc.val] at HC
  replace HC := Lib.hid HC
  unfold regsV insV
  go_enter Try.func25, Try.ntmps25
  go_wp2_with fail
  go_quiet (fail)
  go_wp2_with fail
  refine (HC.out _).mono ?_
  rintro e w1 ⟨rfl, ho⟩
  obtain ⟨i0, i1, i2, i3⟩ := blk_cells4 (ho.blk (k := w.heap.size + 1) HI.out (by simp))
  clear c1 c2 HN
  go_wp2
  go_ret
  refine ⟨(by first | rfl | simp (config := { decide := true }) [accF, Acc.val, Dd.val]), Only.trans ?_ ho⟩
  (repeat' (first | with_reducible exact (Only.refl [] w) | with_reducible refine Only.alloc ?_ _ | with_reducible refine Only.setCell ?_ (.inr (by first | (exact Nat.le_refl _) | (simp <;> omega))) _ | with_reducible refine Only.drew ?_ | with_reducible refine Only.drewN ?_ _ | exact (Only.refl [] w) | exact Only.refl _ _))

set_option maxHeartbeats 2000000 in
theorem deed_14 (r : Nat → Int) (hr : RegsOk r) (a b n : Int) (ha0 : 0 ≤ a) (ha : a < 8) (hb0 : 0 ≤ b) (hb : b < 8) (w : World) : Calls Try.prog 25 #[regsV r, insV 14 a b n] w fun e w' => e = .returned (deedF r 14 a b n).val ∧ Only [] w w' := by
  have HN : Hid ((w.alloc (.cells #[.int .u16 (r 0), .int .u16 (r 1), .int .u16 (r 2), .int .u16 (r 3), .int .u16 (r 4), .int .u16 (r 5), .int .u16 (r 6), .int .u16 (r 7), .int .u16 (r 8)] 26)).heap[w.heap.size]? = _) := heap_alloc_new w _
  have HI : Hid (((w.alloc (.cells #[.int .u16 (r 0), .int .u16 (r 1), .int .u16 (r 2), .int .u16 (r 3), .int .u16 (r 4), .int .u16 (r 5), .int .u16 (r 6), .int .u16 (r 7), .int .u16 (r 8)] 26)).alloc (.cells #[.int .u8 14, .int .u8 a, .int .u8 b, .int .u16 n] 29)).heap[w.heap.size + 1]? = some (.cells #[.int .u8 14, .int .u8 a, .int .u8 b, .int .u16 n] 29 (0, 0))) := by have := heap_alloc_new (w.alloc (.cells #[.int .u16 (r 0), .int .u16 (r 1), .int .u16 (r 2), .int .u16 (r 3), .int .u16 (r 4), .int .u16 (r 5), .int .u16 (r 6), .int .u16 (r 7), .int .u16 (r 8)] 26)) (.cells #[.int .u8 14, .int .u8 a, .int .u8 b, .int .u16 n] 29); rwa [World.size_alloc] at this
  have c1 : ((w.alloc (.cells #[.int .u16 (r 0), .int .u16 (r 1), .int .u16 (r 2), .int .u16 (r 3), .int .u16 (r 4), .int .u16 (r 5), .int .u16 (r 6), .int .u16 (r 7), .int .u16 (r 8)] 26)).alloc (.cells #[.int .u8 14, .int .u8 a, .int .u8 b, .int .u16 n] 29)).cell? ⟨w.heap.size, 1 + a.toNat, none⟩ = some (.int .u16 (r (1 + a.toNat))) := reg_cell (blk_alloc _ _ _ _ HN.out) _ (by omega)
  have c2 : ((w.alloc (.cells #[.int .u16 (r 0), .int .u16 (r 1), .int .u16 (r 2), .int .u16 (r 3), .int .u16 (r 4), .int .u16 (r 5), .int .u16 (r 6), .int .u16 (r 7), .int .u16 (r 8)] 26)).alloc (.cells #[.int .u8 14, .int .u8 a, .int .u8 b, .int .u16 n] 29)).cell? ⟨w.heap.size, 1 + b.toNat, none⟩ = some (.int .u16 (r (1 + b.toNat))) := reg_cell (blk_alloc _ _ _ _ HN.out) _ (by omega)
  have hra := hr (1 + a.toNat)
  have hrb := hr (1 + b.toNat)
  simp (config := { decide := true }) only [deedF, false_and, true_and, if_true, if_false, reduceIte]
  have HC := fun w => access_14 a b n (r (1 + a.toNat)) (r (1 + b.toNat)) hra.1 hra.2 w
  unfold insV at HC
  simp (config := { decide := true }) only [accF, if_true, if_false, reduceIte, Acc.val] at HC
  replace HC := Lib.hid HC
  unfold regsV insV
  go_enter Try.func25, Try.ntmps25
  go_wp2_with fail
  go_quiet (fail)
  go_wp2_with fail
  refine (HC.out _).mono ?_
  rintro e w1 ⟨rfl, ho⟩
  obtain ⟨i0, i1, i2, i3⟩ := blk_cells4 (ho.blk (k := w.heap.size + 1) HI.out (by simp))
  clear c1 c2 HN
  go_wp2
  go_ret
  refine ⟨(by first | rfl | simp (config := { decide := true }) [accF, Acc.val, Dd.val]), Only.trans ?_ ho⟩
  (repeat' (first | with_reducible exact (Only.refl [] w) | with_reducible refine Only.alloc ?_ _ | with_reducible refine Only.setCell ?_ (.inr (by first | (exact Nat.le_refl _) | (simp <;> omega))) _ | with_reducible refine Only.drew ?_ | with_reducible refine Only.drewN ?_ _ | exact (Only.refl [] w) | exact Only.refl _ _))

set_option maxHeartbeats 2000000 in
theorem deed_15 (r : Nat → Int) (hr : RegsOk r) (a b n : Int) (ha0 : 0 ≤ a) (ha : a < 8) (hb0 : 0 ≤ b) (hb : b < 8) (w : World) : Calls Try.prog 25 #[regsV r, insV 15 a b n] w fun e w' => e = .returned (deedF r 15 a b n).val ∧ Only [] w w' := by
  have HN : Hid ((w.alloc (.cells #[.int .u16 (r 0), .int .u16 (r 1), .int .u16 (r 2), .int .u16 (r 3), .int .u16 (r 4), .int .u16 (r 5), .int .u16 (r 6), .int .u16 (r 7), .int .u16 (r 8)] 26)).heap[w.heap.size]? = _) := heap_alloc_new w _
  have HI : Hid (((w.alloc (.cells #[.int .u16 (r 0), .int .u16 (r 1), .int .u16 (r 2), .int .u16 (r 3), .int .u16 (r 4), .int .u16 (r 5), .int .u16 (r 6), .int .u16 (r 7), .int .u16 (r 8)] 26)).alloc (.cells #[.int .u8 15, .int .u8 a, .int .u8 b, .int .u16 n] 29)).heap[w.heap.size + 1]? = some (.cells #[.int .u8 15, .int .u8 a, .int .u8 b, .int .u16 n] 29 (0, 0))) := by have := heap_alloc_new (w.alloc (.cells #[.int .u16 (r 0), .int .u16 (r 1), .int .u16 (r 2), .int .u16 (r 3), .int .u16 (r 4), .int .u16 (r 5), .int .u16 (r 6), .int .u16 (r 7), .int .u16 (r 8)] 26)) (.cells #[.int .u8 15, .int .u8 a, .int .u8 b, .int .u16 n] 29); rwa [World.size_alloc] at this
  have c1 : ((w.alloc (.cells #[.int .u16 (r 0), .int .u16 (r 1), .int .u16 (r 2), .int .u16 (r 3), .int .u16 (r 4), .int .u16 (r 5), .int .u16 (r 6), .int .u16 (r 7), .int .u16 (r 8)] 26)).alloc (.cells #[.int .u8 15, .int .u8 a, .int .u8 b, .int .u16 n] 29)).cell? ⟨w.heap.size, 1 + a.toNat, none⟩ = some (.int .u16 (r (1 + a.toNat))) := reg_cell (blk_alloc _ _ _ _ HN.out) _ (by omega)
  have c2 : ((w.alloc (.cells #[.int .u16 (r 0), .int .u16 (r 1), .int .u16 (r 2), .int .u16 (r 3), .int .u16 (r 4), .int .u16 (r 5), .int .u16 (r 6), .int .u16 (r 7), .int .u16 (r 8)] 26)).alloc (.cells #[.int .u8 15, .int .u8 a, .int .u8 b, .int .u16 n] 29)).cell? ⟨w.heap.size, 1 + b.toNat, none⟩ = some (.int .u16 (r (1 + b.toNat))) := reg_cell (blk_alloc _ _ _ _ HN.out) _ (by omega)
  have hra := hr (1 + a.toNat)
  have hrb := hr (1 + b.toNat)
  simp (config := { decide := true }) only [deedF, false_and, true_and, if_true, if_false, reduceIte]
  have HC := fun w => access_15 a b n (r (1 + a.toNat)) (r (1 + b.toNat)) hra.1 hra.2 w
  unfold insV at HC
  simp (config := { decide := true }) only [accF, if_true, if_false, reduceIte, Acc.val] at HC
  replace HC := Lib.hid HC
  unfold regsV insV
  go_enter Try.func25, Try.ntmps25
  go_wp2_with fail
  go_quiet (fail)
  go_wp2_with fail
  refine (HC.out _).mono ?_
  rintro e w1 ⟨rfl, ho⟩
  obtain ⟨i0, i1, i2, i3⟩ := blk_cells4 (ho.blk (k := w.heap.size + 1) HI.out (by simp))
  clear c1 c2 HN
  go_wp2
  go_ret
  refine ⟨(by first | rfl | simp (config := { decide := true }) [accF, Acc.val, Dd.val]), Only.trans ?_ ho⟩
  (repeat' (first | with_reducible exact (Only.refl [] w) | with_reducible refine Only.alloc ?_ _ | with_reducible refine Only.setCell ?_ (.inr (by first | (exact Nat.le_refl _) | (simp <;> omega))) _ | with_reducible refine Only.drew ?_ | with_reducible refine Only.drewN ?_ _ | exact (Only.refl [] w) | exact Only.refl _ _))

set_option maxHeartbeats 2000000 in
theorem deed_16 (r : Nat → Int) (hr : RegsOk r) (a b n : Int) (ha0 : 0 ≤ a) (ha : a < 8) (hb0 : 0 ≤ b) (hb : b < 8) (w : World) : Calls Try.prog 25 #[regsV r, insV 16 a b n] w fun e w' => e = .returned (deedF r 16 a b n).val ∧ Only [] w w' := by
  have HN : Hid ((w.alloc (.cells #[.int .u16 (r 0), .int .u16 (r 1), .int .u16 (r 2), .int .u16 (r 3), .int .u16 (r 4), .int .u16 (r 5), .int .u16 (r 6), .int .u16 (r 7), .int .u16 (r 8)] 26)).heap[w.heap.size]? = _) := heap_alloc_new w _
  have HI : Hid (((w.alloc (.cells #[.int .u16 (r 0), .int .u16 (r 1), .int .u16 (r 2), .int .u16 (r 3), .int .u16 (r 4), .int .u16 (r 5), .int .u16 (r 6), .int .u16 (r 7), .int .u16 (r 8)] 26)).alloc (.cells #[.int .u8 16, .int .u8 a, .int .u8 b, .int .u16 n] 29)).heap[w.heap.size + 1]? = some (.cells #[.int .u8 16, .int .u8 a, .int .u8 b, .int .u16 n] 29 (0, 0))) := by have := heap_alloc_new (w.alloc (.cells #[.int .u16 (r 0), .int .u16 (r 1), .int .u16 (r 2), .int .u16 (r 3), .int .u16 (r 4), .int .u16 (r 5), .int .u16 (r 6), .int .u16 (r 7), .int .u16 (r 8)] 26)) (.cells #[.int .u8 16, .int .u8 a, .int .u8 b, .int .u16 n] 29); rwa [World.size_alloc] at this
  have c1 : ((w.alloc (.cells #[.int .u16 (r 0), .int .u16 (r 1), .int .u16 (r 2), .int .u16 (r 3), .int .u16 (r 4), .int .u16 (r 5), .int .u16 (r 6), .int .u16 (r 7), .int .u16 (r 8)] 26)).alloc (.cells #[.int .u8 16, .int .u8 a, .int .u8 b, .int .u16 n] 29)).cell? ⟨w.heap.size, 1 + a.toNat, none⟩ = some (.int .u16 (r (1 + a.toNat))) := reg_cell (blk_alloc _ _ _ _ HN.out) _ (by omega)
  have c2 : ((w.alloc (.cells #[.int .u16 (r 0), .int .u16 (r 1), .int .u16 (r 2), .int .u16 (r 3), .int .u16 (r 4), .int .u16 (r 5), .int .u16 (r 6), .int .u16 (r 7), .int .u16 (r 8)] 26)).alloc (.cells #[.int .u8 16, .int .u8 a, .int .u8 b, .int .u16 n] 29)).cell? ⟨w.heap.size, 1 + b.toNat, none⟩ = some (.int .u16 (r (1 + b.toNat))) := reg_cell (blk_alloc _ _ _ _ HN.out) _ (by omega)
  have hra := hr (1 + a.toNat)
  have hrb := hr (1 + b.toNat)
  simp (config := { decide := true }) only [deedF, false_and, true_and, if_true, if_false, reduceIte]
  have HC := fun w => access_16 a b n (r (1 + a.toNat)) (r (1 + b.toNat)) hra.1 hra.2 w
  unfold insV at HC
  simp (config := { decide := true }) only [accF, if_true, if_false, reduceIte, Acc.val] at HC
  replace HC := Lib.hid HC
  unfold regsV insV
  go_enter Try.func25, Try.ntmps25
  go_wp2_with fail
  go_quiet (fail)
  go_wp2_with fail
  refine (HC.out _).mono ?_
  rintro e w1 ⟨rfl, ho⟩
  obtain ⟨i0, i1, i2, i3⟩ := blk_cells4 (ho.blk (k := w.heap.size + 1) HI.out (by simp))
  clear c1 c2 HN
  go_wp2
  go_ret
  refine ⟨(by first | rfl | simp (config := { decide := true }) [accF, Acc.val, Dd.val]), Only.trans ?_ ho⟩
  (repeat' (first | with_reducible exact (Only.refl [] w) | with_reducible refine Only.alloc ?_ _ | with_reducible refine Only.setCell ?_ (.inr (by first | (exact Nat.le_refl _) | (simp <;> omega))) _ | with_reducible refine Only.drew ?_ | with_reducible refine Only.drewN ?_ _ | exact (Only.refl [] w) | exact Only.refl _ _))

set_option maxHeartbeats 2000000 in
theorem deed_17 (r : Nat → Int) (hr : RegsOk r) (a b n : Int) (ha0 : 0 ≤ a) (ha : a < 8) (hb0 : 0 ≤ b) (hb : b < 8) (w : World) : Calls Try.prog 25 #[regsV r, insV 17 a b n] w fun e w' => e = .returned (deedF r 17 a b n).val ∧ Only [] w w' := by
  have HN : Hid ((w.alloc (.cells #[.int .u16 (r 0), .int .u16 (r 1), .int .u16 (r 2), .int .u16 (r 3), .int .u16 (r 4), .int .u16 (r 5), .int .u16 (r 6), .int .u16 (r 7), .int .u16 (r 8)] 26)).heap[w.heap.size]? = _) := heap_alloc_new w _
  have HI : Hid (((w.alloc (.cells #[.int .u16 (r 0), .int .u16 (r 1), .int .u16 (r 2), .int .u16 (r 3), .int .u16 (r 4), .int .u16 (r 5), .int .u16 (r 6), .int .u16 (r 7), .int .u16 (r 8)] 26)).alloc (.cells #[.int .u8 17, .int .u8 a, .int .u8 b, .int .u16 n] 29)).heap[w.heap.size + 1]? = some (.cells #[.int .u8 17, .int .u8 a, .int .u8 b, .int .u16 n] 29 (0, 0))) := by have := heap_alloc_new (w.alloc (.cells #[.int .u16 (r 0), .int .u16 (r 1), .int .u16 (r 2), .int .u16 (r 3), .int .u16 (r 4), .int .u16 (r 5), .int .u16 (r 6), .int .u16 (r 7), .int .u16 (r 8)] 26)) (.cells #[.int .u8 17, .int .u8 a, .int .u8 b, .int .u16 n] 29); rwa [World.size_alloc] at this
  have c1 : ((w.alloc (.cells #[.int .u16 (r 0), .int .u16 (r 1), .int .u16 (r 2), .int .u16 (r 3), .int .u16 (r 4), .int .u16 (r 5), .int .u16 (r 6), .int .u16 (r 7), .int .u16 (r 8)] 26)).alloc (.cells #[.int .u8 17, .int .u8 a, .int .u8 b, .int .u16 n] 29)).cell? ⟨w.heap.size, 1 + a.toNat, none⟩ = some (.int .u16 (r (1 + a.toNat))) := reg_cell (blk_alloc _ _ _ _ HN.out) _ (by omega)
  have c2 : ((w.alloc (.cells #[.int .u16 (r 0), .int .u16 (r 1), .int .u16 (r 2), .int .u16 (r 3), .int .u16 (r 4), .int .u16 (r 5), .int .u16 (r 6), .int .u16 (r 7), .int .u16 (r 8)] 26)).alloc (.cells #[.int .u8 17, .int .u8 a, .int .u8 b, .int .u16 n] 29)).cell? ⟨w.heap.size, 1 + b.toNat, none⟩ = some (.int .u16 (r (1 + b.toNat))) := reg_cell (blk_alloc _ _ _ _ HN.out) _ (by omega)
  have hra := hr (1 + a.toNat)
  have hrb := hr (1 + b.toNat)
  simp (config := { decide := true }) only [deedF, false_and, true_and, if_true, if_false, reduceIte]
  unfold regsV insV
  go_enter Try.func25, Try.ntmps25
  go_wp2_with fail
  go_quiet (fail)
  go_wp2
  all_goals go_ret
  all_goals refine ⟨?_, by (repeat' (first | with_reducible exact (Only.refl [] w) | with_reducible refine Only.alloc ?_ _ | with_reducible refine Only.setCell ?_ (.inr (by first | (exact Nat.le_refl _) | (simp <;> omega))) _ | with_reducible refine Only.drew ?_ | with_reducible refine Only.drewN ?_ _ | exact (Only.refl [] w) | exact Only.refl _ _))⟩
  all_goals rfl

set_option maxHeartbeats 2000000 in
theorem deed_18 (r : Nat → Int) (hr : RegsOk r) (a b n : Int) (ha0 : 0 ≤ a) (ha : a < 8) (hb0 : 0 ≤ b) (hb : b < 8) (w : World) : Calls Try.prog 25 #[regsV r, insV 18 a b n] w fun e w' => e = .returned (deedF r 18 a b n).val ∧ Only [] w w' := by
  have HN : Hid ((w.alloc (.cells #[.int .u16 (r 0), .int .u16 (r 1), .int .u16 (r 2), .int .u16 (r 3), .int .u16 (r 4), .int .u16 (r 5), .int .u16 (r 6), .int .u16 (r 7), .int .u16 (r 8)] 26)).heap[w.heap.size]? = _) := heap_alloc_new w _
  have HI : Hid (((w.alloc (.cells #[.int .u16 (r 0), .int .u16 (r 1), .int .u16 (r 2), .int .u16 (r 3), .int .u16 (r 4), .int .u16 (r 5), .int .u16 (r 6), .int .u16 (r 7), .int .u16 (r 8)] 26)).alloc (.cells #[.int .u8 18, .int .u8 a, .int .u8 b, .int .u16 n] 29)).heap[w.heap.size + 1]? = some (.cells #[.int .u8 18, .int .u8 a, .int .u8 b, .int .u16 n] 29 (0, 0))) := by have := heap_alloc_new (w.alloc (.cells #[.int .u16 (r 0), .int .u16 (r 1), .int .u16 (r 2), .int .u16 (r 3), .int .u16 (r 4), .int .u16 (r 5), .int .u16 (r 6), .int .u16 (r 7), .int .u16 (r 8)] 26)) (.cells #[.int .u8 18, .int .u8 a, .int .u8 b, .int .u16 n] 29); rwa [World.size_alloc] at this
  have c1 : ((w.alloc (.cells #[.int .u16 (r 0), .int .u16 (r 1), .int .u16 (r 2), .int .u16 (r 3), .int .u16 (r 4), .int .u16 (r 5), .int .u16 (r 6), .int .u16 (r 7), .int .u16 (r 8)] 26)).alloc (.cells #[.int .u8 18, .int .u8 a, .int .u8 b, .int .u16 n] 29)).cell? ⟨w.heap.size, 1 + a.toNat, none⟩ = some (.int .u16 (r (1 + a.toNat))) := reg_cell (blk_alloc _ _ _ _ HN.out) _ (by omega)
  have c2 : ((w.alloc (.cells #[.int .u16 (r 0), .int .u16 (r 1), .int .u16 (r 2), .int .u16 (r 3), .int .u16 (r 4), .int .u16 (r 5), .int .u16 (r 6), .int .u16 (r 7), .int .u16 (r 8)] 26)).alloc (.cells #[.int .u8 18, .int .u8 a, .int .u8 b, .int .u16 n] 29)).cell? ⟨w.heap.size, 1 + b.toNat, none⟩ = some (.int .u16 (r (1 + b.toNat))) := reg_cell (blk_alloc _ _ _ _ HN.out) _ (by omega)
  have hra := hr (1 + a.toNat)
  have hrb := hr (1 + b.toNat)
  simp (config := { decide := true }) only [deedF, false_and, true_and, if_true, if_false, reduceIte]
  unfold regsV insV
  go_enter Try.func25, Try.ntmps25
  go_wp2_with fail
  go_quiet (fail)
  go_wp2
  all_goals go_ret
  all_goals refine ⟨?_, by (repeat' (first | with_reducible exact (Only.refl [] w) | with_reducible refine Only.alloc ?_ _ | with_reducible refine Only.setCell ?_ (.inr (by first | (exact Nat.le_refl _) | (simp <;> omega))) _ | with_reducible refine Only.drew ?_ | with_reducible refine Only.drewN ?_ _ | exact (Only.refl [] w) | exact Only.refl _ _))⟩
  all_goals (clear c1 c2 HN HI; simp_all [Dd.val] <;> omega)

set_option maxHeartbeats 2000000 in
theorem deed_19 (r : Nat → Int) (hr : RegsOk r) (a b n : Int) (ha0 : 0 ≤ a) (ha : a < 8) (hb0 : 0 ≤ b) (hb : b < 8) (w : World) : Calls Try.prog 25 #[regsV r, insV 19 a b n] w fun e w' => e = .returned (deedF r 19 a b n).val ∧ Only [] w w' := by
  have HN : Hid ((w.alloc (.cells #[.int .u16 (r 0), .int .u16 (r 1), .int .u16 (r 2), .int .u16 (r 3), .int .u16 (r 4), .int .u16 (r 5), .int .u16 (r 6), .int .u16 (r 7), .int .u16 (r 8)] 26)).heap[w.heap.size]? = _) := heap_alloc_new w _
  have HI : Hid (((w.alloc (.cells #[.int .u16 (r 0), .int .u16 (r 1), .int .u16 (r 2), .int .u16 (r 3), .int .u16 (r 4), .int .u16 (r 5), .int .u16 (r 6), .int .u16 (r 7), .int .u16 (r 8)] 26)).alloc (.cells #[.int .u8 19, .int .u8 a, .int .u8 b, .int .u16 n] 29)).heap[w.heap.size + 1]? = some (.cells #[.int .u8 19, .int .u8 a, .int .u8 b, .int .u16 n] 29 (0, 0))) := by have := heap_alloc_new (w.alloc (.cells #[.int .u16 (r 0), .int .u16 (r 1), .int .u16 (r 2), .int .u16 (r 3), .int .u16 (r 4), .int .u16 (r 5), .int .u16 (r 6), .int .u16 (r 7), .int .u16 (r 8)] 26)) (.cells #[.int .u8 19, .int .u8 a, .int .u8 b, .int .u16 n] 29); rwa [World.size_alloc] at this
  have c1 : ((w.alloc (.cells #[.int .u16 (r 0), .int .u16 (r 1), .int .u16 (r 2), .int .u16 (r 3), .int .u16 (r 4), .int .u16 (r 5), .int .u16 (r 6), .int .u16 (r 7), .int .u16 (r 8)] 26)).alloc (.cells #[.int .u8 19, .int .u8 a, .int .u8 b, .int .u16 n] 29)).cell? ⟨w.heap.size, 1 + a.toNat, none⟩ = some (.int .u16 (r (1 + a.toNat))) := reg_cell (blk_alloc _ _ _ _ HN.out) _ (by omega)
  have c2 : ((w.alloc (.cells #[.int .u16 (r 0), .int .u16 (r 1), .int .u16 (r 2), .int .u16 (r 3), .int .u16 (r 4), .int .u16 (r 5), .int .u16 (r 6), .int .u16 (r 7), .int .u16 (r 8)] 26)).alloc (.cells #[.int .u8 19, .int .u8 a, .int .u8 b, .int .u16 n] 29)).cell? ⟨w.heap.size, 1 + b.toNat, none⟩ = some (.int .u16 (r (1 + b.toNat))) := reg_cell (blk_alloc _ _ _ _ HN.out) _ (by omega)
  have hra := hr (1 + a.toNat)
  have hrb := hr (1 + b.toNat)
  simp (config := { decide := true }) only [deedF, false_and, true_and, if_true, if_false, reduceIte]
  unfold regsV insV
  go_enter Try.func25, Try.ntmps25
  go_wp2_with fail
  go_quiet (fail)
  go_wp2
  all_goals go_ret
  all_goals refine ⟨?_, by (repeat' (first | with_reducible exact (Only.refl [] w) | with_reducible refine Only.alloc ?_ _ | with_reducible refine Only.setCell ?_ (.inr (by first | (exact Nat.le_refl _) | (simp <;> omega))) _ | with_reducible refine Only.drew ?_ | with_reducible refine Only.drewN ?_ _ | exact (Only.refl [] w) | exact Only.refl _ _))⟩
  all_goals (clear c1 c2 HN HI; simp_all [Dd.val] <;> omega)

set_option maxHeartbeats 2000000 in
theorem deed_20 (r : Nat → Int) (hr : RegsOk r) (a b n : Int) (ha0 : 0 ≤ a) (ha : a < 8) (hb0 : 0 ≤ b) (hb : b < 8) (w : World) : Calls Try.prog 25 #[regsV r, insV 20 a b n] w fun e w' => e = .returned (deedF r 20 a b n).val ∧ Only [] w w' := by
  have HN : Hid ((w.alloc (.cells #[.int .u16 (r 0), .int .u16 (r 1), .int .u16 (r 2), .int .u16 (r 3), .int .u16 (r 4), .int .u16 (r 5), .int .u16 (r 6), .int .u16 (r 7), .int .u16 (r 8)] 26)).heap[w.heap.size]? = _) := heap_alloc_new w _
  have HI : Hid (((w.alloc (.cells #[.int .u16 (r 0), .int .u16 (r 1), .int .u16 (r 2), .int .u16 (r 3), .int .u16 (r 4), .int .u16 (r 5), .int .u16 (r 6), .int .u16 (r 7), .int .u16 (r 8)] 26)).alloc (.cells #[.int .u8 20, .int .u8 a, .int .u8 b, .int .u16 n] 29)).heap[w.heap.size + 1]? = some (.cells #[.int .u8 20, .int .u8 a, .int .u8 b, .int .u16 n] 29 (0, 0))) := by have := heap_alloc_new (w.alloc (.cells #[.int .u16 (r 0), .int .u16 (r 1), .int .u16 (r 2), .int .u16 (r 3), .int .u16 (r 4), .int .u16 (r 5), .int .u16 (r 6), .int .u16 (r 7), .int .u16 (r 8)] 26)) (.cells #[.int .u8 20, .int .u8 a, .int .u8 b, .int .u16 n] 29); rwa [World.size_alloc] at this
  have c1 : ((w.alloc (.cells #[.int .u16 (r 0), .int .u16 (r 1), .int .u16 (r 2), .int .u16 (r 3), .int .u16 (r 4), .int .u16 (r 5), .int .u16 (r 6), .int .u16 (r 7), .int .u16 (r 8)] 26)).alloc (.cells #[.int .u8 20, .int .u8 a, .int .u8 b, .int .u16 n] 29)).cell? ⟨w.heap.size, 1 + a.toNat, none⟩ = some (.int .u16 (r (1 + a.toNat))) := reg_cell (blk_alloc _ _ _ _ HN.out) _ (by omega)
  have c2 : ((w.alloc (.cells #[.int .u16 (r 0), .int .u16 (r 1), .int .u16 (r 2), .int .u16 (r 3), .int .u16 (r 4), .int .u16 (r 5), .int .u16 (r 6), .int .u16 (r 7), .int .u16 (r 8)] 26)).alloc (.cells #[.int .u8 20, .int .u8 a, .int .u8 b, .int .u16 n] 29)).cell? ⟨w.heap.size, 1 + b.toNat, none⟩ = some (.int .u16 (r (1 + b.toNat))) := reg_cell (blk_alloc _ _ _ _ HN.out) _ (by omega)
  have hra := hr (1 + a.toNat)
  have hrb := hr (1 + b.toNat)
  simp (config := { decide := true }) only [deedF, false_and, true_and, if_true, if_false, reduceIte]
  unfold regsV insV
  go_enter Try.func25, Try.ntmps25
  go_wp2_with fail
  go_quiet (fail)
  go_wp2
  all_goals go_ret
  all_goals refine ⟨?_, by (repeat' (first | with_reducible exact (Only.refl [] w) | with_reducible refine Only.alloc ?_ _ | with_reducible refine Only.setCell ?_ (.inr (by first | (exact Nat.le_refl _) | (simp <;> omega))) _ | with_reducible refine Only.drew ?_ | with_reducible refine Only.drewN ?_ _ | exact (Only.refl [] w) | exact Only.refl _ _))⟩
  all_goals (clear c1 c2 HN HI; simp_all [Dd.val] <;> omega)

set_option maxHeartbeats 2000000 in
theorem deed_21 (r : Nat → Int) (hr : RegsOk r) (a b n : Int) (ha0 : 0 ≤ a) (ha : a < 8) (hb0 : 0 ≤ b) (hb : b < 8) (w : World) : Calls Try.prog 25 #[regsV r, insV 21 a b n] w fun e w' => e = .returned (deedF r 21 a b n).val ∧ Only [] w w' := by
  have HN : Hid ((w.alloc (.cells #[.int .u16 (r 0), .int .u16 (r 1), .int .u16 (r 2), .int .u16 (r 3), .int .u16 (r 4), .int .u16 (r 5), .int .u16 (r 6), .int .u16 (r 7), .int .u16 (r 8)] 26)).heap[w.heap.size]? = _) := heap_alloc_new w _
  have HI : Hid (((w.alloc (.cells #[.int .u16 (r 0), .int .u16 (r 1), .int .u16 (r 2), .int .u16 (r 3), .int .u16 (r 4), .int .u16 (r 5), .int .u16 (r 6), .int .u16 (r 7), .int .u16 (r 8)] 26)).alloc (.cells #[.int .u8 21, .int .u8 a, .int .u8 b, .int .u16 n] 29)).heap[w.heap.size + 1]? = some (.cells #[.int .u8 21, .int .u8 a, .int .u8 b, .int .u16 n] 29 (0, 0))) := by have := heap_alloc_new (w.alloc (.cells #[.int .u16 (r 0), .int .u16 (r 1), .int .u16 (r 2), .int .u16 (r 3), .int .u16 (r 4), .int .u16 (r 5), .int .u16 (r 6), .int .u16 (r 7), .int .u16 (r 8)] 26)) (.cells #[.int .u8 21, .int .u8 a, .int .u8 b, .int .u16 n] 29); rwa [World.size_alloc] at this
  have c1 : ((w.alloc (.cells #[.int .u16 (r 0), .int .u16 (r 1), .int .u16 (r 2), .int .u16 (r 3), .int .u16 (r 4), .int .u16 (r 5), .int .u16 (r 6), .int .u16 (r 7), .int .u16 (r 8)] 26)).alloc (.cells #[.int .u8 21, .int .u8 a, .int .u8 b, .int .u16 n] 29)).cell? ⟨w.heap.size, 1 + a.toNat, none⟩ = some (.int .u16 (r (1 + a.toNat))) := reg_cell (blk_alloc _ _ _ _ HN.out) _ (by omega)
  have c2 : ((w.alloc (.cells #[.int .u16 (r 0), .int .u16 (r 1), .int .u16 (r 2), .int .u16 (r 3), .int .u16 (r 4), .int .u16 (r 5), .int .u16 (r 6), .int .u16 (r 7), .int .u16 (r 8)] 26)).alloc (.cells #[.int .u8 21, .int .u8 a, .int .u8 b, .int .u16 n] 29)).cell? ⟨w.heap.size, 1 + b.toNat, none⟩ = some (.int .u16 (r (1 + b.toNat))) := reg_cell (blk_alloc _ _ _ _ HN.out) _ (by omega)
  have hra := hr (1 + a.toNat)
  have hrb := hr (1 + b.toNat)
  simp (config := { decide := true }) only [deedF, false_and, true_and, if_true, if_false, reduceIte]
  unfold regsV insV
  go_enter Try.func25, Try.ntmps25
  go_wp2_with fail
  go_quiet (fail)
  go_wp2
  all_goals go_ret
  all_goals refine ⟨?_, by (repeat' (first | with_reducible exact (Only.refl [] w) | with_reducible refine Only.alloc ?_ _ | with_reducible refine Only.setCell ?_ (.inr (by first | (exact Nat.le_refl _) | (simp <;> omega))) _ | with_reducible refine Only.drew ?_ | with_reducible refine Only.drewN ?_ _ | exact (Only.refl [] w) | exact Only.refl _ _))⟩
  all_goals rfl

set_option maxHeartbeats 2000000 in
theorem deed_22 (r : Nat → Int) (hr : RegsOk r) (a b n : Int) (ha0 : 0 ≤ a) (ha : a < 8) (hb0 : 0 ≤ b) (hb : b < 8) (w : World) : Calls Try.prog 25 #[regsV r, insV 22 a b n] w fun e w' => e = .returned (deedF r 22 a b n).val ∧ Only [] w w' := by
  have HN : Hid ((w.alloc (.cells #[.int .u16 (r 0), .int .u16 (r 1), .int .u16 (r 2), .int .u16 (r 3), .int .u16 (r 4), .int .u16 (r 5), .int .u16 (r 6), .int .u16 (r 7), .int .u16 (r 8)] 26)).heap[w.heap.size]? = _) := heap_alloc_new w _
  have HI : Hid (((w.alloc (.cells #[.int .u16 (r 0), .int .u16 (r 1), .int .u16 (r 2), .int .u16 (r 3), .int .u16 (r 4), .int .u16 (r 5), .int .u16 (r 6), .int .u16 (r 7), .int .u16 (r 8)] 26)).alloc (.cells #[.int .u8 22, .int .u8 a, .int .u8 b, .int .u16 n] 29)).heap[w.heap.size + 1]? = some (.cells #[.int .u8 22, .int .u8 a, .int .u8 b, .int .u16 n] 29 (0, 0))) := by have := heap_alloc_new (w.alloc (.cells #[.int .u16 (r 0), .int .u16 (r 1), .int .u16 (r 2), .int .u16 (r 3), .int .u16 (r 4), .int .u16 (r 5), .int .u16 (r 6), .int .u16 (r 7), .int .u16 (r 8)] 26)) (.cells #[.int .u8 22, .int .u8 a, .int .u8 b, .int .u16 n] 29); rwa [World.size_alloc] at this
  have c1 : ((w.alloc (.cells #[.int .u16 (r 0), .int .u16 (r 1), .int .u16 (r 2), .int .u16 (r 3), .int .u16 (r 4), .int .u16 (r 5), .int .u16 (r 6), .int .u16 (r 7), .int .u16 (r 8)] 26)).alloc (.cells #[.int .u8 22, .int .u8 a, .int .u8 b, .int .u16 n] 29)).cell? ⟨w.heap.size, 1 + a.toNat, none⟩ = some (.int .u16 (r (1 + a.toNat))) := reg_cell (blk_alloc _ _ _ _ HN.out) _ (by omega)
  have c2 : ((w.alloc (.cells #[.int .u16 (r 0), .int .u16 (r 1), .int .u16 (r 2), .int .u16 (r 3), .int .u16 (r 4), .int .u16 (r 5), .int .u16 (r 6), .int .u16 (r 7), .int .u16 (r 8)] 26)).alloc (.cells #[.int .u8 22, .int .u8 a, .int .u8 b, .int .u16 n] 29)).cell? ⟨w.heap.size, 1 + b.toNat, none⟩ = some (.int .u16 (r (1 + b.toNat))) := reg_cell (blk_alloc _ _ _ _ HN.out) _ (by omega)
  have hra := hr (1 + a.toNat)
  have hrb := hr (1 + b.toNat)
  simp (config := { decide := true }) only [deedF, false_and, true_and, if_true, if_false, reduceIte]
  unfold regsV insV
  go_enter Try.func25, Try.ntmps25
  go_wp2_with fail
  go_quiet (fail)
  go_wp2
  all_goals go_ret
  all_goals refine ⟨?_, by (repeat' (first | with_reducible exact (Only.refl [] w) | with_reducible refine Only.alloc ?_ _ | with_reducible refine Only.setCell ?_ (.inr (by first | (exact Nat.le_refl _) | (simp <;> omega))) _ | with_reducible refine Only.drew ?_ | with_reducible refine Only.drewN ?_ _ | exact (Only.refl [] w) | exact Only.refl _ _))⟩
  all_goals rfl

set_option maxHeartbeats 2000000 in
theorem deed_23 (r : Nat → Int) (hr : RegsOk r) (a b n : Int) (ha0 : 0 ≤ a) (ha : a < 8) (hb0 : 0 ≤ b) (hb : b < 8) (w : World) : Calls Try.prog 25 #[regsV r, insV 23 a b n] w fun e w' => e = .returned (deedF r 23 a b n).val ∧ Only [] w w' := by
  have HN : Hid ((w.alloc (.cells #[.int .u16 (r 0), .int .u16 (r 1), .int .u16 (r 2), .int .u16 (r 3), .int .u16 (r 4), .int .u16 (r 5), .int .u16 (r 6), .int .u16 (r 7), .int .u16 (r 8)] 26)).heap[w.heap.size]? = _) := heap_alloc_new w _
  have HI : Hid (((w.alloc (.cells #[.int .u16 (r 0), .int .u16 (r 1), .int .u16 (r 2), .int .u16 (r 3), .int .u16 (r 4), .int .u16 (r 5), .int .u16 (r 6), .int .u16 (r 7), .int .u16 (r 8)] 26)).alloc (.cells #[.int .u8 23, .int .u8 a, .int .u8 b, .int .u16 n] 29)).heap[w.heap.size + 1]? = some (.cells #[.int .u8 23, .int .u8 a, .int .u8 b, .int .u16 n] 29 (0, 0))) := by have := heap_alloc_new (w.alloc (.cells #[.int .u16 (r 0), .int .u16 (r 1), .int .u16 (r 2), .int .u16 (r 3), .int .u16 (r 4), .int .u16 (r 5), .int .u16 (r 6), .int .u16 (r 7), .int .u16 (r 8)] 26)) (.cells #[.int .u8 23, .int .u8 a, .int .u8 b, .int .u16 n] 29); rwa [World.size_alloc] at this
  have c1 : ((w.alloc (.cells #[.int .u16 (r 0), .int .u16 (r 1), .int .u16 (r 2), .int .u16 (r 3), .int .u16 (r 4), .int .u16 (r 5), .int .u16 (r 6), .int .u16 (r 7), .int .u16 (r 8)] 26)).alloc (.cells #[.int .u8 23, .int .u8 a, .int .u8 b, .int .u16 n] 29)).cell? ⟨w.heap.size, 1 + a.toNat, none⟩ = some (.int .u16 (r (1 + a.toNat))) := reg_cell (blk_alloc _ _ _ _ HN.out) _ (by omega)
  have c2 : ((w.alloc (.cells #[.int .u16 (r 0), .int .u16 (r 1), .int .u16 (r 2), .int .u16 (r 3), .int .u16 (r 4), .int .u16 (r 5), .int .u16 (r 6), .int .u16 (r 7), .int .u16 (r 8)] 26)).alloc (.cells #[.int .u8 23, .int .u8 a, .int .u8 b, .int .u16 n] 29)).cell? ⟨w.heap.size, 1 + b.toNat, none⟩ = some (.int .u16 (r (1 + b.toNat))) := reg_cell (blk_alloc _ _ _ _ HN.out) _ (by omega)
  have hra := hr (1 + a.toNat)
  have hrb := hr (1 + b.toNat)
  simp (config := { decide := true }) only [deedF, false_and, true_and, if_true, if_false, reduceIte]
  unfold regsV insV
  go_enter Try.func25, Try.ntmps25
  go_wp2_with fail
  go_quiet (fail)
  go_wp2
  all_goals go_ret
  all_goals refine ⟨?_, by (repeat' (first | with_reducible exact (Only.refl [] w) | with_reducible refine Only.alloc ?_ _ | with_reducible refine Only.setCell ?_ (.inr (by first | (exact Nat.le_refl _) | (simp <;> omega))) _ | with_reducible refine Only.drew ?_ | with_reducible refine Only.drewN ?_ _ | exact (Only.refl [] w) | exact Only.refl _ _))⟩
  all_goals rfl

set_option maxHeartbeats 2000000 in
theorem deed_7z (r : Nat → Int) (hr : RegsOk r) (a b n : Int) (ha0 : 0 ≤ a) (ha : a < 8) (hb0 : 0 ≤ b) (hb : b < 8) (hz : r (1 + b.toNat) = 0) (w : World) : Calls Try.prog 25 #[regsV r, insV 7 a b n] w fun e w' => e = .returned (deedF r 7 a b n).val ∧ Only [] w w' := by
  have HN : Hid ((w.alloc (.cells #[.int .u16 (r 0), .int .u16 (r 1), .int .u16 (r 2), .int .u16 (r 3), .int .u16 (r 4), .int .u16 (r 5), .int .u16 (r 6), .int .u16 (r 7), .int .u16 (r 8)] 26)).heap[w.heap.size]? = _) := heap_alloc_new w _
  have HI : Hid (((w.alloc (.cells #[.int .u16 (r 0), .int .u16 (r 1), .int .u16 (r 2), .int .u16 (r 3), .int .u16 (r 4), .int .u16 (r 5), .int .u16 (r 6), .int .u16 (r 7), .int .u16 (r 8)] 26)).alloc (.cells #[.int .u8 7, .int .u8 a, .int .u8 b, .int .u16 n] 29)).heap[w.heap.size + 1]? = some (.cells #[.int .u8 7, .int .u8 a, .int .u8 b, .int .u16 n] 29 (0, 0))) := by have := heap_alloc_new (w.alloc (.cells #[.int .u16 (r 0), .int .u16 (r 1), .int .u16 (r 2), .int .u16 (r 3), .int .u16 (r 4), .int .u16 (r 5), .int .u16 (r 6), .int .u16 (r 7), .int .u16 (r 8)] 26)) (.cells #[.int .u8 7, .int .u8 a, .int .u8 b, .int .u16 n] 29); rwa [World.size_alloc] at this
  have c1 : ((w.alloc (.cells #[.int .u16 (r 0), .int .u16 (r 1), .int .u16 (r 2), .int .u16 (r 3), .int .u16 (r 4), .int .u16 (r 5), .int .u16 (r 6), .int .u16 (r 7), .int .u16 (r 8)] 26)).alloc (.cells #[.int .u8 7, .int .u8 a, .int .u8 b, .int .u16 n] 29)).cell? ⟨w.heap.size, 1 + a.toNat, none⟩ = some (.int .u16 (r (1 + a.toNat))) := reg_cell (blk_alloc _ _ _ _ HN.out) _ (by omega)
  have c2 : ((w.alloc (.cells #[.int .u16 (r 0), .int .u16 (r 1), .int .u16 (r 2), .int .u16 (r 3), .int .u16 (r 4), .int .u16 (r 5), .int .u16 (r 6), .int .u16 (r 7), .int .u16 (r 8)] 26)).alloc (.cells #[.int .u8 7, .int .u8 a, .int .u8 b, .int .u16 n] 29)).cell? ⟨w.heap.size, 1 + b.toNat, none⟩ = some (.int .u16 (r (1 + b.toNat))) := reg_cell (blk_alloc _ _ _ _ HN.out) _ (by omega)
  have hra := hr (1 + a.toNat)
  have hrb := hr (1 + b.toNat)
  simp (config := { decide := true }) only [deedF, false_and, true_and, if_true, if_false, reduceIte]
  rw [if_pos hz]
  rw [hz] at c2
  have HC := Lib.hid (fun w => reck_zero (r (1 + a.toNat)) w)
  clear hz
  unfold regsV insV
  go_enter Try.func25, Try.ntmps25
  go_wp2_with fail
  go_quiet (fail)
  go_wp2_with fail
  refine (HC.out _).mono ?_
  rintro e w1 ⟨rfl, ho⟩
  obtain ⟨i0, i1, i2, i3⟩ := blk_cells4 (ho.blk (k := w.heap.size + 1) HI.out (by simp))
  clear c1 c2 HN
  go_wp2
  go_ret
  refine ⟨(by first | rfl | simp (config := { decide := true }) [accF, Acc.val, Dd.val]), Only.trans ?_ ho⟩
  (repeat' (first | with_reducible exact (Only.refl [] w) | with_reducible refine Only.alloc ?_ _ | with_reducible refine Only.setCell ?_ (.inr (by first | (exact Nat.le_refl _) | (simp <;> omega))) _ | with_reducible refine Only.drew ?_ | with_reducible refine Only.drewN ?_ _ | exact (Only.refl [] w) | exact Only.refl _ _))

theorem deed_ok (r : Nat → Int) (hr : RegsOk r) (o a b n : Int) (h0 : 0 ≤ o) (h1 : o ≤ 23) (ha0 : 0 ≤ a) (ha : a < 8) (hb0 : 0 ≤ b) (hb : b < 8) (w : World) : Calls Try.prog 25 #[regsV r, insV o a b n] w fun e w' => e = .returned (deedF r o a b n).val ∧ Only [] w w' := by
  rcases op_cases o h0 with rfl | rfl | rfl | rfl | rfl | rfl | rfl | rfl | rfl | rfl | rfl | rfl | rfl | rfl | rfl | rfl | rfl | rfl | rfl | rfl | rfl | rfl | rfl | rfl | h
  · exact deed_0 r hr a b n ha0 ha hb0 hb w
  · exact deed_1 r hr a b n ha0 ha hb0 hb w
  · exact deed_2 r hr a b n ha0 ha hb0 hb w
  · exact deed_3 r hr a b n ha0 ha hb0 hb w
  · exact deed_4 r hr a b n ha0 ha hb0 hb w
  · exact deed_5 r hr a b n ha0 ha hb0 hb w
  · exact deed_6 r hr a b n ha0 ha hb0 hb w
  · by_cases hz : r (1 + b.toNat) = 0
    · exact deed_7z r hr a b n ha0 ha hb0 hb hz w
    · exact deed_7 r hr a b n ha0 ha hb0 hb hz w
  · exact deed_8 r hr a b n ha0 ha hb0 hb w
  · exact deed_9 r hr a b n ha0 ha hb0 hb w
  · exact deed_10 r hr a b n ha0 ha hb0 hb w
  · exact deed_11 r hr a b n ha0 ha hb0 hb w
  · exact deed_12 r hr a b n ha0 ha hb0 hb w
  · exact deed_13 r hr a b n ha0 ha hb0 hb w
  · exact deed_14 r hr a b n ha0 ha hb0 hb w
  · exact deed_15 r hr a b n ha0 ha hb0 hb w
  · exact deed_16 r hr a b n ha0 ha hb0 hb w
  · exact deed_17 r hr a b n ha0 ha hb0 hb w
  · exact deed_18 r hr a b n ha0 ha hb0 hb w
  · exact deed_19 r hr a b n ha0 ha hb0 hb w
  · exact deed_20 r hr a b n ha0 ha hb0 hb w
  · exact deed_21 r hr a b n ha0 ha hb0 hb w
  · exact deed_22 r hr a b n ha0 ha hb0 hb w
  · exact deed_23 r hr a b n ha0 ha hb0 hb w
  · omega
end Go.Proofs.Ytnkpfknilhgjgaa

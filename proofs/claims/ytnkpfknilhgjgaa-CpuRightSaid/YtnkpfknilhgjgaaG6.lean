/- Instructions: whether one is right. -/
import Derived.Test.YtnkpfknilhgjgaaG5
import Derived.Deep.RegionHeld3
set_option linter.unusedSimpArgs false
set_option linter.unusedVariables false
namespace Go.Proofs.Ytnkpfknilhgjgaa
open Go.RowKit

def bareF (o a b n : Int) : Int × Int × Int × Int := (o, (if shA o then a else 0), (if shB o then b else 0), (if shI o then n else 0))
theorem opndVs_len (l : List Opnd) : (opndVs l).length = l.length := by simp [opndVs]
theorem with_fit (o a b n : Int) (h0 : 0 ≤ o) (w : World) (A : Option Addr) (c m : Nat) (hm : m = (opndVs (operandsOf o a b n)).length) (hr : Reads w A (opndVs (operandsOf o a b n))) (hc : m ≤ c) :
    Calls Try.prog 36 #[.int .u8 o, .slice A m c] w (WithL w (bareF o a b n, true)) := by
  subst hm
  have hs := shapeOf_ok o h0
  have h1 : (shA o, shB o, shI o) = (false, false, false) ∨ (shA o, shB o, shI o) = (false, false, true) ∨ (shA o, shB o, shI o) = (true, false, true) ∨ (shA o, shB o, shI o) = (true, true, false) ∨ (shA o, shB o, shI o) = (true, true, true) := by
    rcases op_cases o h0 with rfl | rfl | rfl | rfl | rfl | rfl | rfl | rfl | rfl | rfl | rfl | rfl | rfl | rfl | rfl | rfl | rfl | rfl | rfl | rfl | rfl | rfl | rfl | rfl | h
    all_goals first | decide | skip
    left
    simp only [shA, shB, shI, Prod.mk.injEq, decide_eq_false_iff_not]
    omega
  unfold bareF
  unfold operandsOf at *
  generalize shA o = x at *
  generalize shB o = y at *
  generalize shI o = z at *
  simp only [Prod.mk.injEq] at h1
  rcases h1 with ⟨rfl, rfl, rfl⟩ | ⟨rfl, rfl, rfl⟩ | ⟨rfl, rfl, rfl⟩ | ⟨rfl, rfl, rfl⟩ | ⟨rfl, rfl, rfl⟩
  · exact with_000 o a b n w A c hr hc hs
  · exact with_001 o a b n w A c hr hc hs
  · exact with_101 o a b n w A c hr hc hs
  · exact with_110 o a b n w A c hr hc hs
  · exact with_111 o a b n w A c hr hc hs

def rightF (o a b n : Int) : Bool := decide (o ≤ 23) && decide (a < 8) && decide (b < 8) && decide (bareF o a b n = (o, a, b, n))

theorem operands_reads (o a b n : Int) (h0 : 0 ≤ o) (w : World) : Calls Try.prog 37 #[insV o a b n] w (fun e w' => ∃ A c, e = .returned (.slice A (opndVs (operandsOf o a b n)).length c) ∧ (opndVs (operandsOf o a b n)).length ≤ c ∧ Reads w' A (opndVs (operandsOf o a b n)) ∧ Only [] w w') := by
  refine (operands_ok o a b n h0 w).mono ?_
  rintro e w' ⟨⟨v, rfl, h⟩, hb⟩
  obtain ⟨A, c, rfl, hc, -, hr⟩ := h.reads
  exact ⟨A, c, rfl, hc, hr, Only.of_below hb⟩
theorem Reads.only {w w' A xs} (h : Reads w A xs) (hb : Only [] w w') : Reads w' A xs := h.below (hb.below (Nat.le_refl _) (by simp))
theorem with_fit2 (o a b n : Int) (h0 : 0 ≤ o) (w : World) (A : Option Addr) (c m : Nat) (hm : m = (opndVs (operandsOf o a b n)).length) (hr : Reads w A (opndVs (operandsOf o a b n))) (hc : m ≤ c) :
    Calls Try.prog 36 #[.int .u8 o, .slice A m c] w (fun e w' => e = .returned (.tuple #[.agg #[.int .u8 o, .int .u8 (if shA o then a else 0), .int .u8 (if shB o then b else 0), .int .u16 (if shI o then n else 0)], .bool true]) ∧ Only [] w w') :=
  (with_fit o a b n h0 w A c m hm hr hc).mono fun _ _ h => ⟨h.1, Only.of_below h.2⟩
theorem blk_cells4 {w : World} {g : Nat} {t : TypeId} {x0 x1 x2 x3 : Value} (h : w.heap[g]? = some (.cells #[x0, x1, x2, x3] t (0, 0))) : w.cell? ⟨g, 0, none⟩ = some x0 ∧ w.cell? ⟨g, 1, none⟩ = some x1 ∧ w.cell? ⟨g, 2, none⟩ = some x2 ∧ w.cell? ⟨g, 3, none⟩ = some x3 :=
  ⟨blk_cell h 0, blk_cell h 1, blk_cell h 2, blk_cell h 3⟩

set_option maxRecDepth 100000 in
set_option maxHeartbeats 1600000 in
theorem right_deep (o a b n : Int) (h0 : 0 ≤ o) (h1 : o ≤ 23) (ha : a < 8) (hb : b < 8) (w : World) :
    Calls Try.prog 24 #[insV o a b n] w fun e w' => e = .returned (.bool (decide (bareF o a b n = (o, a, b, n)))) ∧ Below w.heap.size w w' := by
  have HB0 : Hid (Only [] w (w.alloc (.cells #[.int .u8 o, .int .u8 a, .int .u8 b, .int .u16 n] 29)).drew) := ((Only.refl _ _).alloc _).drew
  have HX0 : Hid ((w.alloc (.cells #[.int .u8 o, .int .u8 a, .int .u8 b, .int .u16 n] 29)).drew.heap[w.heap.size]? = some (.cells #[.int .u8 o, .int .u8 a, .int .u8 b, .int .u16 n] 29 (0, 0))) := heap_alloc_new w _
  have k1 : decide (23 < o) = false := by simp; omega
  have k2 : decide (8 ≤ a) = false := by simp; omega
  have k3 : decide (8 ≤ b) = false := by simp; omega
  unfold insV
  have HW := fun w A c m hm hr hc => with_fit2 o a b n h0 w A c m hm hr hc
  have HOp := Lib.hid (operands_reads o a b n h0)
  unfold bareF
  generalize (if shA o then a else 0) = x1 at *
  generalize (if shB o then b else 0) = x2 at *
  generalize (if shI o then n else 0) = x3 at *
  generalize opndVs (operandsOf o a b n) = l at *
  replace HW := Lib.hid HW
  clear h1 ha hb h0
  go_enter Try.func24, Try.ntmps24
  go_wp2_with fail
  go_region_held3 (fun w' => w'.cell? ⟨w.heap.size, 0, none⟩ = some (.int .u8 o) ∧ w'.cell? ⟨w.heap.size, 1, none⟩ = some (.int .u8 a) ∧ w'.cell? ⟨w.heap.size, 2, none⟩ = some (.int .u8 b) ∧ w'.cell? ⟨w.heap.size, 3, none⟩ = some (.int .u16 n))
    (first | go_keep | exact blk_cells4 (t := 29) (by (repeat' (first | with_reducible exact HX0.out | with_reducible refine blk_alloc _ _ _ _ ?_ | with_reducible refine (blk_far ?_ (by simp <;> omega) _) | exact HX0.out))))
    (first | (go_at_call 37; refine (HOp.out _).mono ?_; rintro e w1 ⟨A, c, rfl, hc, hr, ho⟩; have ht := Lib.hid (ho.blk (heap_alloc_new _ _) (by simp)); (first | (replace HX0 := Lib.hid (ho.blk HX0.out (by simp))) | (replace HX0 := Lib.hid (ho.blk (blk_alloc _ _ _ _ HX0.out) (by simp)))); (first | (replace HB0 := Lib.hid (HB0.out.trans ho)) | (replace HB0 := Lib.hid ((HB0.out.alloc _).trans ho))); have hl1 := blk_lt HX0.out; replace hr := Lib.hid hr; replace hc := Lib.hid hc; clear ho) | (go_at_call 36; refine (HW.out _ A c _ rfl ?_ hc.out).mono ?_; (exact hr.out.only (by (repeat' (first | with_reducible exact (Only.refl _ _) | with_reducible refine Only.alloc ?_ _ | with_reducible refine Only.setCell ?_ (.inr (by first | (exact Nat.le_refl _) | (simp <;> omega))) _ | with_reducible refine Only.drew ?_ | with_reducible refine Only.drewN ?_ _ | exact (Only.refl _ _) | exact Only.refl _ _)))); rintro e w2 ⟨rfl, ho⟩; (first | (replace HX0 := Lib.hid (ho.blk HX0.out (by simp))) | (replace HX0 := Lib.hid (ho.blk (blk_alloc _ _ _ _ HX0.out) (by simp)))); (first | (have ht2 := (ho.blk (heap_alloc_new w1 _) (by simp))) | (have ht2 := ho.blk ht.out (by simp))); (try simp only [World.size_alloc] at ht2); have t0 := blk_cell ht2 0; have t1 := blk_cell ht2 1; have t2 := blk_cell ht2 2; have t3 := blk_cell ht2 3; have tf0 := blk_frozen ht2 0; have tf1 := blk_frozen ht2 1; have tf2 := blk_frozen ht2 2; have tf3 := blk_frozen ht2 3; (try simp at t0 t1 t2 t3); replace ht2 := Lib.hid ht2; (first | (replace HB0 := Lib.hid (HB0.out.trans ho)) | (replace HB0 := Lib.hid ((HB0.out.alloc _).trans ho))); have hl2 := blk_lt HX0.out; clear hr hc ho))
  all_goals go_wp2
  all_goals go_ret
  all_goals refine ⟨?_, Only.below (S := []) (by (repeat' (first | with_reducible exact HB0.out | with_reducible refine Only.alloc ?_ _ | with_reducible refine Only.setCell ?_ (.inr (by first | (exact Nat.le_refl _) | (simp <;> omega))) _ | with_reducible refine Only.drew ?_ | with_reducible refine Only.drewN ?_ _ | exact HB0.out | exact Only.refl _ _))) (Nat.le_refl _) (by simp)⟩
  all_goals (clear k1 k2 k3 HW HOp HX0 HB0; simp_all)
set_option maxRecDepth 100000 in
set_option maxHeartbeats 800000 in
theorem right_bad (o a b n : Int) (h : ¬ (o ≤ 23 ∧ a < 8 ∧ b < 8)) (w : World) :
    Calls Try.prog 24 #[insV o a b n] w fun e w' => e = .returned (.bool false) ∧ Below w.heap.size w w' := by
  have HB0 : Hid (Only [] w (w.alloc (.cells #[.int .u8 o, .int .u8 a, .int .u8 b, .int .u16 n] 29))) := (Only.refl _ _).alloc _
  unfold insV
  by_cases h1 : 23 < o
  · have k1 : decide (23 < o) = true := by simp; omega
    clear h h1
    go_enter Try.func24, Try.ntmps24
    go_wp2
    go_ret
    exact ⟨rfl, Only.below (S := []) (by (repeat' (first | with_reducible exact HB0.out | with_reducible refine Only.alloc ?_ _ | with_reducible refine Only.setCell ?_ (.inr (by first | (exact Nat.le_refl _) | (simp <;> omega))) _ | with_reducible refine Only.drew ?_ | with_reducible refine Only.drewN ?_ _ | exact HB0.out | exact Only.refl _ _))) (Nat.le_refl _) (by simp)⟩
  have k1 : decide (23 < o) = false := by simp; omega
  by_cases h2 : 8 ≤ a
  · have k2 : decide (8 ≤ a) = true := by simp; omega
    clear h h1 h2
    go_enter Try.func24, Try.ntmps24
    go_wp2
    go_ret
    exact ⟨rfl, Only.below (S := []) (by (repeat' (first | with_reducible exact HB0.out | with_reducible refine Only.alloc ?_ _ | with_reducible refine Only.setCell ?_ (.inr (by first | (exact Nat.le_refl _) | (simp <;> omega))) _ | with_reducible refine Only.drew ?_ | with_reducible refine Only.drewN ?_ _ | exact HB0.out | exact Only.refl _ _))) (Nat.le_refl _) (by simp)⟩
  have k2 : decide (8 ≤ a) = false := by simp; omega
  have k3 : decide (8 ≤ b) = true := by simp; omega
  clear h h1 h2
  go_enter Try.func24, Try.ntmps24
  go_wp2
  go_ret
  exact ⟨rfl, Only.below (S := []) (by (repeat' (first | with_reducible exact HB0.out | with_reducible refine Only.alloc ?_ _ | with_reducible refine Only.setCell ?_ (.inr (by first | (exact Nat.le_refl _) | (simp <;> omega))) _ | with_reducible refine Only.drew ?_ | with_reducible refine Only.drewN ?_ _ | exact HB0.out | exact Only.refl _ _))) (Nat.le_refl _) (by simp)⟩

def okF (o a b n : Int) : Prop := o ≤ 23 ∧ a < 8 ∧ b < 8 ∧ (shA o = true ∨ a = 0) ∧ (shB o = true ∨ b = 0) ∧ (shI o = true ∨ n = 0)
instance (o a b n : Int) : Decidable (okF o a b n) := by unfold okF; infer_instance
theorem okF_bare (o a b n : Int) : okF o a b n ↔ o ≤ 23 ∧ a < 8 ∧ b < 8 ∧ bareF o a b n = (o, a, b, n) := by
  unfold okF bareF
  simp only [Prod.mk.injEq, true_and]
  cases shA o <;> cases shB o <;> cases shI o <;> simp [eq_comm]
theorem right_ok (o a b n : Int) (h0 : 0 ≤ o) (w : World) :
    Calls Try.prog 24 #[insV o a b n] w fun e w' => e = .returned (.bool (decide (okF o a b n))) ∧ Below w.heap.size w w' := by
  by_cases h : o ≤ 23 ∧ a < 8 ∧ b < 8
  · refine (right_deep o a b n h0 h.1 h.2.1 h.2.2 w).mono ?_
    rintro e w' ⟨rfl, hb⟩
    refine ⟨?_, hb⟩
    congr 3
    rw [okF_bare]
    simp [h.1, h.2.1, h.2.2]
  · refine (right_bad o a b n h w).mono ?_
    rintro e w' ⟨rfl, hb⟩
    refine ⟨?_, hb⟩
    have : ¬ okF o a b n := fun k => h ⟨k.1, k.2.1, k.2.2.1⟩
    simp [this]
end Go.Proofs.Ytnkpfknilhgjgaa
/- Instructions: the document's words. -/
namespace Go.Proofs.Ytnkpfknilhgjgaa
open Go.RowKit

theorem shA_far (o : Int) (h : 23 < o) : shA o = false := by simp [shA]; omega
theorem shB_far (o : Int) (h : 23 < o) : shB o = false := by simp [shB]; omega
theorem shI_far (o : Int) (h : 23 < o) : shI o = false := by simp [shI]; omega
theorem usesR_ok (o : Int) (h0 : 0 ≤ o) (w : World) : Calls Try.prog 35 #[.int .u8 o] w fun e w' => e = .returned (.tuple #[.bool (shA o), .bool (shB o), .bool (shI o)]) ∧ Below w.heap.size w w' := by
  rcases op_cases o h0 with rfl | rfl | rfl | rfl | rfl | rfl | rfl | rfl | rfl | rfl | rfl | rfl | rfl | rfl | rfl | rfl | rfl | rfl | rfl | rfl | rfl | rfl | rfl | rfl | h
  all_goals first | (go_enter Try.func35, Try.ntmps35; go_wp2; go_ret3; exact ⟨rfl, Below.refl _ _⟩) | skip
  rw [shA_far o h, shB_far o h, shI_far o h]
  have e2 : (o == 2) = false := by simp; omega
  have e18 : (o == 18) = false := by simp; omega
  have e19 : (o == 19) = false := by simp; omega
  have e20 : (o == 20) = false := by simp; omega
  have e17 : (o == 17) = false := by simp; omega
  have e21 : (o == 21) = false := by simp; omega
  have e23 : (o == 23) = false := by simp; omega
  have l12 : decide (o ≤ 12) = false := by simp; omega
  have l16 : decide (o ≤ 16) = false := by simp; omega
  have g3 : decide (3 ≤ o) = true := by simp; omega
  have g13 : decide (13 ≤ o) = true := by simp; omega
  clear h h0
  go_enter Try.func35, Try.ntmps35
  go_wp2
  go_ret3
  exact ⟨rfl, Below.refl _ _⟩
theorem okF_bool (o a b n : Int) : decide (okF o a b n) = (decide (o ≤ 23) && (decide (a < 8) && (decide (b < 8) && ((shA o || decide (a = 0)) && ((shB o || decide (b = 0)) && (shI o || decide (n = 0))))))) := by
  rw [Bool.eq_iff_iff, decide_eq_true_iff]
  unfold okF
  cases shA o <;> cases shB o <;> cases shI o <;> simp
theorem rightR_ok (o a b n : Int) (h0 : 0 ≤ o) (w : World) :
    Calls Try.prog 23 #[insV o a b n] w fun e w' => e = .returned (.bool (decide (okF o a b n))) ∧ Below w.heap.size w w' := by
  have HB0 : Hid (Only [] w (w.alloc (.cells #[.int .u8 o, .int .u8 a, .int .u8 b, .int .u16 n] 29))) := (Only.refl _ _).alloc _
  have HX0 : Hid ((w.alloc (.cells #[.int .u8 o, .int .u8 a, .int .u8 b, .int .u16 n] 29)).heap[w.heap.size]? = some (.cells #[.int .u8 o, .int .u8 a, .int .u8 b, .int .u16 n] 29 (0, 0))) := heap_alloc_new w _
  have HU := Lib.hid (usesR_ok o h0)
  unfold insV
  rw [okF_bool]
  generalize shA o = x at *
  generalize shB o = y at *
  generalize shI o = z at *
  clear h0
  go_enter Try.func23, Try.ntmps23
  go_wp2_with fail
  refine (HU.out _).mono ?_
  rintro e w1 ⟨rfl, hb⟩
  have ho := Only.of_below (S := []) hb
  obtain ⟨c0, c1, c2, c3⟩ := blk_cells4 (ho.blk HX0.out (by simp))
  replace HB0 := Lib.hid (HB0.out.trans ho)
  clear HX0 hb ho
  go_wp2
  all_goals go_ret
  all_goals refine ⟨?_, Only.below (S := []) (by (repeat' (first | with_reducible exact HB0.out | with_reducible refine Only.alloc ?_ _ | with_reducible refine Only.setCell ?_ (.inr (by first | (exact Nat.le_refl _) | (simp <;> omega))) _ | with_reducible refine Only.drew ?_ | with_reducible refine Only.drewN ?_ _ | exact HB0.out | exact Only.refl _ _))) (Nat.le_refl _) (by simp)⟩
  all_goals (clear HU HB0 c0 c1 c2 c3; first | (simp_all; done) | (simp_all; rfl) | (simp_all; done) | (have hq : (n == 0) = decide (n = 0) := rfl; simp_all; omega))
end Go.Proofs.Ytnkpfknilhgjgaa
/- The processor: sums and accesses. -/
namespace Go.Proofs.Ytnkpfknilhgjgaa
open Go.RowKit

def sumF (o a b : Int) : Int := if o = 4 then (a + b) % 65536 else if o = 5 then (a - b) % 65536 else if o = 6 then a * b % 65536 else if o = 7 then a / b else if o = 8 then bits .and .u16 a b else if o = 9 then bits .or .u16 a b else if o = 10 then bits .xor .u16 a b else if o = 11 then wShl a b else if o = 12 then wShr a b else b

set_option maxHeartbeats 1000000 in
theorem reck_3 (a b : Int) (ha0 : 0 ≤ a) (ha1 : a ≤ 65535) (hb0 : 0 ≤ b) (hb1 : b ≤ 65535) (w : World) : Calls Try.prog 39 #[.int .u8 3, .int .u16 a, .int .u16 b] w fun e w' => e = .returned (.tuple #[.int .u16 (sumF 3 a b), .int .i64 0]) ∧ Only [] w w' := by
  simp (config := { decide := true }) only [sumF, if_true, if_false, reduceIte]
  clear ha0 ha1 hb0 hb1
  go_enter Try.func39, Try.ntmps39
  go_wp2
  go_ret2
  exact ⟨rfl, Only.refl _ _⟩

set_option maxHeartbeats 1000000 in
theorem reck_4 (a b : Int) (ha0 : 0 ≤ a) (ha1 : a ≤ 65535) (hb0 : 0 ≤ b) (hb1 : b ≤ 65535) (w : World) : Calls Try.prog 39 #[.int .u8 4, .int .u16 a, .int .u16 b] w fun e w' => e = .returned (.tuple #[.int .u16 (sumF 4 a b), .int .i64 0]) ∧ Only [] w w' := by
  have HC := fun w => wAdd_ok a b w
  simp (config := { decide := true }) only [sumF, if_true, if_false, reduceIte]
  replace HC := Lib.hid HC
  clear ha0 ha1 hb0 
  go_enter Try.func39, Try.ntmps39
  go_wp2_with fail
  refine (HC.out _).mono ?_
  rintro e w1 ⟨rfl, rfl⟩
  go_wp2
  go_ret2
  exact ⟨rfl, Only.refl _ _⟩

set_option maxHeartbeats 1000000 in
theorem reck_5 (a b : Int) (ha0 : 0 ≤ a) (ha1 : a ≤ 65535) (hb0 : 0 ≤ b) (hb1 : b ≤ 65535) (w : World) : Calls Try.prog 39 #[.int .u8 5, .int .u16 a, .int .u16 b] w fun e w' => e = .returned (.tuple #[.int .u16 (sumF 5 a b), .int .i64 0]) ∧ Only [] w w' := by
  have HC := fun w => wSub_ok a b w
  simp (config := { decide := true }) only [sumF, if_true, if_false, reduceIte]
  replace HC := Lib.hid HC
  clear ha0 ha1 hb0 
  go_enter Try.func39, Try.ntmps39
  go_wp2_with fail
  refine (HC.out _).mono ?_
  rintro e w1 ⟨rfl, rfl⟩
  go_wp2
  go_ret2
  exact ⟨rfl, Only.refl _ _⟩

set_option maxHeartbeats 1000000 in
theorem reck_6 (a b : Int) (ha0 : 0 ≤ a) (ha1 : a ≤ 65535) (hb0 : 0 ≤ b) (hb1 : b ≤ 65535) (w : World) : Calls Try.prog 39 #[.int .u8 6, .int .u16 a, .int .u16 b] w fun e w' => e = .returned (.tuple #[.int .u16 (sumF 6 a b), .int .i64 0]) ∧ Only [] w w' := by
  have HC := fun w => wMul_ok a b ha0 ha1 hb0 hb1 w
  simp (config := { decide := true }) only [sumF, if_true, if_false, reduceIte]
  replace HC := Lib.hid HC
  clear ha0 ha1 hb0 
  go_enter Try.func39, Try.ntmps39
  go_wp2_with fail
  refine (HC.out _).mono ?_
  rintro e w1 ⟨rfl, rfl⟩
  go_wp2
  go_ret2
  exact ⟨rfl, Only.refl _ _⟩

set_option maxHeartbeats 1000000 in
theorem reck_7 (a b : Int) (ha0 : 0 ≤ a) (ha1 : a ≤ 65535) (hb0 : 0 ≤ b) (hb1 : b ≤ 65535) (hz : b ≠ 0) (w : World) : Calls Try.prog 39 #[.int .u8 7, .int .u16 a, .int .u16 b] w fun e w' => e = .returned (.tuple #[.int .u16 (sumF 7 a b), .int .i64 0]) ∧ Only [] w w' := by
  have HC := fun w => wDiv_ok a b ha0 ha1 (by omega) hb1 w
  simp (config := { decide := true }) only [sumF, if_true, if_false, reduceIte]
  replace HC := Lib.hid HC
  clear ha0 ha1 hb0 hz 
  go_enter Try.func39, Try.ntmps39
  go_wp2_with fail
  refine (HC.out _).mono ?_
  rintro e w1 ⟨rfl, rfl⟩
  go_wp2
  go_ret2
  exact ⟨rfl, (Only.refl _ _).drew⟩

set_option maxHeartbeats 1000000 in
theorem reck_8 (a b : Int) (ha0 : 0 ≤ a) (ha1 : a ≤ 65535) (hb0 : 0 ≤ b) (hb1 : b ≤ 65535) (w : World) : Calls Try.prog 39 #[.int .u8 8, .int .u16 a, .int .u16 b] w fun e w' => e = .returned (.tuple #[.int .u16 (sumF 8 a b), .int .i64 0]) ∧ Only [] w w' := by
  simp (config := { decide := true }) only [sumF, if_true, if_false, reduceIte]
  clear ha0 ha1 hb0 hb1
  go_enter Try.func39, Try.ntmps39
  go_wp2
  go_ret2
  exact ⟨rfl, Only.refl _ _⟩

set_option maxHeartbeats 1000000 in
theorem reck_9 (a b : Int) (ha0 : 0 ≤ a) (ha1 : a ≤ 65535) (hb0 : 0 ≤ b) (hb1 : b ≤ 65535) (w : World) : Calls Try.prog 39 #[.int .u8 9, .int .u16 a, .int .u16 b] w fun e w' => e = .returned (.tuple #[.int .u16 (sumF 9 a b), .int .i64 0]) ∧ Only [] w w' := by
  simp (config := { decide := true }) only [sumF, if_true, if_false, reduceIte]
  clear ha0 ha1 hb0 hb1
  go_enter Try.func39, Try.ntmps39
  go_wp2
  go_ret2
  exact ⟨rfl, Only.refl _ _⟩

set_option maxHeartbeats 1000000 in
theorem reck_10 (a b : Int) (ha0 : 0 ≤ a) (ha1 : a ≤ 65535) (hb0 : 0 ≤ b) (hb1 : b ≤ 65535) (w : World) : Calls Try.prog 39 #[.int .u8 10, .int .u16 a, .int .u16 b] w fun e w' => e = .returned (.tuple #[.int .u16 (sumF 10 a b), .int .i64 0]) ∧ Only [] w w' := by
  simp (config := { decide := true }) only [sumF, if_true, if_false, reduceIte]
  clear ha0 ha1 hb0 hb1
  go_enter Try.func39, Try.ntmps39
  go_wp2
  go_ret2
  exact ⟨rfl, Only.refl _ _⟩

set_option maxHeartbeats 1000000 in
theorem reck_11 (a b : Int) (ha0 : 0 ≤ a) (ha1 : a ≤ 65535) (hb0 : 0 ≤ b) (hb1 : b ≤ 65535) (w : World) : Calls Try.prog 39 #[.int .u8 11, .int .u16 a, .int .u16 b] w fun e w' => e = .returned (.tuple #[.int .u16 (sumF 11 a b), .int .i64 0]) ∧ Only [] w w' := by
  have HC := fun w => wShl_ok a b hb0 (by omega) w
  simp (config := { decide := true }) only [sumF, if_true, if_false, reduceIte]
  replace HC := Lib.hid HC
  have HE : IntKind.i64.wrap b = b := by simp [IntKind.wrap_i64]; omega
  clear ha0 ha1 hb0 
  go_enter Try.func39, Try.ntmps39
  go_wp2_with fail
  refine (HC.out _).mono ?_
  rintro e w1 ⟨rfl, rfl⟩
  go_wp2
  go_ret2
  exact ⟨rfl, Only.refl _ _⟩

set_option maxHeartbeats 1000000 in
theorem reck_12 (a b : Int) (ha0 : 0 ≤ a) (ha1 : a ≤ 65535) (hb0 : 0 ≤ b) (hb1 : b ≤ 65535) (w : World) : Calls Try.prog 39 #[.int .u8 12, .int .u16 a, .int .u16 b] w fun e w' => e = .returned (.tuple #[.int .u16 (sumF 12 a b), .int .i64 0]) ∧ Only [] w w' := by
  have HC := fun w => wShr_ok a b ha0 ha1 hb0 (by omega) w
  simp (config := { decide := true }) only [sumF, if_true, if_false, reduceIte]
  replace HC := Lib.hid HC
  have HE : IntKind.i64.wrap b = b := by simp [IntKind.wrap_i64]; omega
  clear ha0 ha1 hb0 
  go_enter Try.func39, Try.ntmps39
  go_wp2_with fail
  refine (HC.out _).mono ?_
  rintro e w1 ⟨rfl, rfl⟩
  go_wp2
  go_ret2
  exact ⟨rfl, Only.refl _ _⟩

theorem reck_zero (a : Int) (w : World) : Calls Try.prog 39 #[.int .u8 7, .int .u16 a, .int .u16 0] w fun e w' => e = .returned (.tuple #[.int .u16 0, .int .i64 14]) ∧ Only [] w w' := by
  have HC := Lib.hid (fun w => wDiv_zero a w)
  go_enter Try.func39, Try.ntmps39
  go_wp2_with fail
  refine (HC.out _).mono ?_
  rintro e w1 ⟨rfl, rfl⟩
  go_wp2
  go_ret2
  exact ⟨rfl, Only.refl _ _⟩
end Go.Proofs.Ytnkpfknilhgjgaa
/- The processor: what it asks of memory. -/
namespace Go.Proofs.Ytnkpfknilhgjgaa
open Go.RowKit

structure Acc where
  k : Int
  ad : Int
  v : Int
  rg : Int
  er : Int
def Acc.val (x : Acc) : Value := .agg #[.int .u8 x.k, .int .u16 x.ad, .int .u16 x.v, .int .u8 x.rg, .int .i64 x.er]
def accF (o ra a b n : Int) : Acc := if o = 13 then ⟨1, (b + n) % 65536, 0, ra, 0⟩ else if o = 15 then ⟨3, (b + n) % 65536, 0, ra, 0⟩ else if o = 14 then ⟨2, (b + n) % 65536, a, 0, 0⟩ else ⟨4, (b + n) % 65536, a % 256, 0, 0⟩
theorem u16_and255 (n : Int) (h0 : 0 ≤ n) (h1 : n ≤ 65535) : bits .and .u16 n 255 = n % 256 := by
  rw [u16_and n 255 h0 (by omega) (by omega) (by omega)]
  show ((n.toNat &&& 255 : Nat) : Int) = _
  rw [nat_mask8]; omega

set_option maxHeartbeats 1000000 in
theorem access_13 (ra rb n a b : Int) (ha0 : 0 ≤ a) (ha1 : a ≤ 65535) (w : World) : Calls Try.prog 38 #[insV 13 ra rb n, .int .u16 a, .int .u16 b] w fun e w' => e = .returned (accF 13 ra a b n).val ∧ Only [] w w' := by
  have HC := Lib.hid (fun w => wAdd_ok b n w)
  have HM := u16_and255 a ha0 ha1
  clear ha0 ha1
  unfold insV
  simp (config := { decide := true }) only [accF, if_true, if_false, reduceIte, Acc.val]
  go_enter Try.func38, Try.ntmps38
  go_wp2_with fail
  refine (HC.out _).mono ?_
  rintro e w1 ⟨rfl, rfl⟩
  go_wp2
  refine bodyPost_ret (v := (accF 13 ra a b n).val) (by simp [results, Try.results38, go_sem, accF, Acc.val]) rfl ⟨rfl, ?_⟩
  (repeat' (first | with_reducible exact (Only.refl [] w) | with_reducible refine Only.alloc ?_ _ | with_reducible refine Only.setCell ?_ (.inr (by first | (exact Nat.le_refl _) | (simp <;> omega))) _ | with_reducible refine Only.drew ?_ | with_reducible refine Only.drewN ?_ _ | exact (Only.refl [] w) | exact Only.refl _ _))

set_option maxHeartbeats 1000000 in
theorem access_14 (ra rb n a b : Int) (ha0 : 0 ≤ a) (ha1 : a ≤ 65535) (w : World) : Calls Try.prog 38 #[insV 14 ra rb n, .int .u16 a, .int .u16 b] w fun e w' => e = .returned (accF 14 ra a b n).val ∧ Only [] w w' := by
  have HC := Lib.hid (fun w => wAdd_ok b n w)
  have HM := u16_and255 a ha0 ha1
  clear ha0 ha1
  unfold insV
  simp (config := { decide := true }) only [accF, if_true, if_false, reduceIte, Acc.val]
  go_enter Try.func38, Try.ntmps38
  go_wp2_with fail
  refine (HC.out _).mono ?_
  rintro e w1 ⟨rfl, rfl⟩
  go_wp2
  refine bodyPost_ret (v := (accF 14 ra a b n).val) (by simp [results, Try.results38, go_sem, accF, Acc.val]) rfl ⟨rfl, ?_⟩
  (repeat' (first | with_reducible exact (Only.refl [] w) | with_reducible refine Only.alloc ?_ _ | with_reducible refine Only.setCell ?_ (.inr (by first | (exact Nat.le_refl _) | (simp <;> omega))) _ | with_reducible refine Only.drew ?_ | with_reducible refine Only.drewN ?_ _ | exact (Only.refl [] w) | exact Only.refl _ _))

set_option maxHeartbeats 1000000 in
theorem access_15 (ra rb n a b : Int) (ha0 : 0 ≤ a) (ha1 : a ≤ 65535) (w : World) : Calls Try.prog 38 #[insV 15 ra rb n, .int .u16 a, .int .u16 b] w fun e w' => e = .returned (accF 15 ra a b n).val ∧ Only [] w w' := by
  have HC := Lib.hid (fun w => wAdd_ok b n w)
  have HM := u16_and255 a ha0 ha1
  clear ha0 ha1
  unfold insV
  simp (config := { decide := true }) only [accF, if_true, if_false, reduceIte, Acc.val]
  go_enter Try.func38, Try.ntmps38
  go_wp2_with fail
  refine (HC.out _).mono ?_
  rintro e w1 ⟨rfl, rfl⟩
  go_wp2
  refine bodyPost_ret (v := (accF 15 ra a b n).val) (by simp [results, Try.results38, go_sem, accF, Acc.val]) rfl ⟨rfl, ?_⟩
  (repeat' (first | with_reducible exact (Only.refl [] w) | with_reducible refine Only.alloc ?_ _ | with_reducible refine Only.setCell ?_ (.inr (by first | (exact Nat.le_refl _) | (simp <;> omega))) _ | with_reducible refine Only.drew ?_ | with_reducible refine Only.drewN ?_ _ | exact (Only.refl [] w) | exact Only.refl _ _))

set_option maxHeartbeats 1000000 in
theorem access_16 (ra rb n a b : Int) (ha0 : 0 ≤ a) (ha1 : a ≤ 65535) (w : World) : Calls Try.prog 38 #[insV 16 ra rb n, .int .u16 a, .int .u16 b] w fun e w' => e = .returned (accF 16 ra a b n).val ∧ Only [] w w' := by
  have HC := Lib.hid (fun w => wAdd_ok b n w)
  have HM := u16_and255 a ha0 ha1
  clear ha0 ha1
  unfold insV
  simp (config := { decide := true }) only [accF, if_true, if_false, reduceIte, Acc.val]
  go_enter Try.func38, Try.ntmps38
  go_wp2_with fail
  refine (HC.out _).mono ?_
  rintro e w1 ⟨rfl, rfl⟩
  go_wp2
  refine bodyPost_ret (v := (accF 16 ra a b n).val) (by simp [results, Try.results38, go_sem, accF, Acc.val]) rfl ⟨rfl, ?_⟩
  (repeat' (first | with_reducible exact (Only.refl [] w) | with_reducible refine Only.alloc ?_ _ | with_reducible refine Only.setCell ?_ (.inr (by first | (exact Nat.le_refl _) | (simp <;> omega))) _ | with_reducible refine Only.drew ?_ | with_reducible refine Only.drewN ?_ _ | exact (Only.refl [] w) | exact Only.refl _ _))

end Go.Proofs.Ytnkpfknilhgjgaa

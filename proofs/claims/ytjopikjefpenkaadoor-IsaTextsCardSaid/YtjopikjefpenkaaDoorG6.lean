/- Instructions: whether one is right. -/
import Derived.Test.YtjopikjefpenkaaDoorG5
import Derived.Deep.RegionHeld3
set_option linter.unusedSimpArgs false
set_option linter.unusedVariables false
set_option linter.unusedSectionVars false
namespace Go.Proofs.YtjopikjefpenkaaDoor
open Go.RowKit

def bareF (o a b n : Int) : Int × Int × Int × Int := (o, (if shA o then a else 0), (if shB o then b else 0), (if shI o then n else 0))
theorem opndVs_len (l : List Opnd) : (opndVs l).length = l.length := by simp [opndVs]
theorem with_fit (o a b n : Int) (h0 : 0 ≤ o) (w : World) (A : Option Addr) (c m : Nat) (hm : m = (opndVs (operandsOf o a b n)).length) (hr : Reads w A (opndVs (operandsOf o a b n))) (hc : m ≤ c) :
    Calls Tryd.prog 43 #[.int .u8 o, .slice A m c] w (WithL w (bareF o a b n, true)) := by
  subst hm
  have hs := shapeOf_ok o h0
  have h1 : (shA o, shB o, shI o) = (false, false, false) ∨ (shA o, shB o, shI o) = (false, false, true) ∨ (shA o, shB o, shI o) = (true, false, true) ∨ (shA o, shB o, shI o) = (true, true, false) ∨ (shA o, shB o, shI o) = (true, true, true) := by
    rcases op_cases o h0 with rfl | rfl | rfl | rfl | rfl | rfl | rfl | rfl | rfl | rfl | rfl | rfl | rfl | rfl | rfl | rfl | rfl | rfl | rfl | rfl | rfl | rfl | rfl | rfl | h
    all_goals first | decide | skip
    left
    simp only [shA, shB, shI, Prod.mk.injEq, decide_eq_false_iff_not]
    omega
  unfold bareF
  unfold operandsOf at *
  generalize shA o = x at *
  generalize shB o = y at *
  generalize shI o = z at *
  simp only [Prod.mk.injEq] at h1
  rcases h1 with ⟨rfl, rfl, rfl⟩ | ⟨rfl, rfl, rfl⟩ | ⟨rfl, rfl, rfl⟩ | ⟨rfl, rfl, rfl⟩ | ⟨rfl, rfl, rfl⟩
  · exact with_000 o a b n w A c hr hc hs
  · exact with_001 o a b n w A c hr hc hs
  · exact with_101 o a b n w A c hr hc hs
  · exact with_110 o a b n w A c hr hc hs
  · exact with_111 o a b n w A c hr hc hs

def rightF (o a b n : Int) : Bool := decide (o ≤ 23) && decide (a < 8) && decide (b < 8) && decide (bareF o a b n = (o, a, b, n))

theorem operands_reads (o a b n : Int) (h0 : 0 ≤ o) (w : World) : Calls Tryd.prog 36 #[insV o a b n] w (fun e w' => ∃ A c, e = .returned (.slice A (opndVs (operandsOf o a b n)).length c) ∧ (opndVs (operandsOf o a b n)).length ≤ c ∧ Reads w' A (opndVs (operandsOf o a b n)) ∧ Only [] w w') := by
  refine (operands_ok o a b n h0 w).mono ?_
  rintro e w' ⟨⟨v, rfl, h⟩, hb⟩
  obtain ⟨A, c, rfl, hc, -, hr⟩ := h.reads
  exact ⟨A, c, rfl, hc, hr, Only.of_below hb⟩
theorem Reads.only {w w' A xs} (h : Reads w A xs) (hb : Only [] w w') : Reads w' A xs := h.below (hb.below (Nat.le_refl _) (by simp))
theorem with_fit2 (o a b n : Int) (h0 : 0 ≤ o) (w : World) (A : Option Addr) (c m : Nat) (hm : m = (opndVs (operandsOf o a b n)).length) (hr : Reads w A (opndVs (operandsOf o a b n))) (hc : m ≤ c) :
    Calls Tryd.prog 43 #[.int .u8 o, .slice A m c] w (fun e w' => e = .returned (.tuple #[.agg #[.int .u8 o, .int .u8 (if shA o then a else 0), .int .u8 (if shB o then b else 0), .int .u16 (if shI o then n else 0)], .bool true]) ∧ Only [] w w') :=
  (with_fit o a b n h0 w A c m hm hr hc).mono fun _ _ h => ⟨h.1, Only.of_below h.2⟩
theorem blk_cells4 {w : World} {g : Nat} {t : TypeId} {x0 x1 x2 x3 : Value} (h : w.heap[g]? = some (.cells #[x0, x1, x2, x3] t (0, 0))) : w.cell? ⟨g, 0, none⟩ = some x0 ∧ w.cell? ⟨g, 1, none⟩ = some x1 ∧ w.cell? ⟨g, 2, none⟩ = some x2 ∧ w.cell? ⟨g, 3, none⟩ = some x3 :=
  ⟨blk_cell h 0, blk_cell h 1, blk_cell h 2, blk_cell h 3⟩

set_option maxRecDepth 100000 in
set_option maxHeartbeats 1600000 in
theorem right_deep (o a b n : Int) (h0 : 0 ≤ o) (h1 : o ≤ 23) (ha : a < 8) (hb : b < 8) (w : World) :
    Calls Tryd.prog 34 #[insV o a b n] w fun e w' => e = .returned (.bool (decide (bareF o a b n = (o, a, b, n)))) ∧ Below w.heap.size w w' := by
  have HB0 : Hid (Only [] w (w.alloc (.cells #[.int .u8 o, .int .u8 a, .int .u8 b, .int .u16 n] 40)).drew) := ((Only.refl _ _).alloc _).drew
  have HX0 : Hid ((w.alloc (.cells #[.int .u8 o, .int .u8 a, .int .u8 b, .int .u16 n] 40)).drew.heap[w.heap.size]? = some (.cells #[.int .u8 o, .int .u8 a, .int .u8 b, .int .u16 n] 40 (0, 0))) := heap_alloc_new w _
  have k1 : decide (23 < o) = false := by simp; omega
  have k2 : decide (8 ≤ a) = false := by simp; omega
  have k3 : decide (8 ≤ b) = false := by simp; omega
  unfold insV
  have HW := fun w A c m hm hr hc => with_fit2 o a b n h0 w A c m hm hr hc
  have HOp := Lib.hid (operands_reads o a b n h0)
  unfold bareF
  generalize (if shA o then a else 0) = x1 at *
  generalize (if shB o then b else 0) = x2 at *
  generalize (if shI o then n else 0) = x3 at *
  generalize opndVs (operandsOf o a b n) = l at *
  replace HW := Lib.hid HW
  clear h1 ha hb h0
  go_enter Tryd.func34, Tryd.ntmps34
  go_wp2_with fail
  go_region_held3 (fun w' => w'.cell? ⟨w.heap.size, 0, none⟩ = some (.int .u8 o) ∧ w'.cell? ⟨w.heap.size, 1, none⟩ = some (.int .u8 a) ∧ w'.cell? ⟨w.heap.size, 2, none⟩ = some (.int .u8 b) ∧ w'.cell? ⟨w.heap.size, 3, none⟩ = some (.int .u16 n))
    (first | go_keep | exact blk_cells4 (t := 40) (by (repeat' (first | with_reducible exact HX0.out | with_reducible refine blk_alloc _ _ _ _ ?_ | with_reducible refine (blk_far ?_ (by simp <;> omega) _) | exact HX0.out))))
    (first | (go_at_call 36; refine (HOp.out _).mono ?_; rintro e w1 ⟨A, c, rfl, hc, hr, ho⟩; have ht := Lib.hid (ho.blk (heap_alloc_new _ _) (by simp)); (first | (replace HX0 := Lib.hid (ho.blk HX0.out (by simp))) | (replace HX0 := Lib.hid (ho.blk (blk_alloc _ _ _ _ HX0.out) (by simp)))); (first | (replace HB0 := Lib.hid (HB0.out.trans ho)) | (replace HB0 := Lib.hid ((HB0.out.alloc _).trans ho))); have hl1 := blk_lt HX0.out; replace hr := Lib.hid hr; replace hc := Lib.hid hc; clear ho) | (go_at_call 43; refine (HW.out _ A c _ rfl ?_ hc.out).mono ?_; (exact hr.out.only (by (repeat' (first | with_reducible exact (Only.refl _ _) | with_reducible refine Only.alloc ?_ _ | with_reducible refine Only.setCell ?_ (.inr (by first | (exact Nat.le_refl _) | (simp <;> omega))) _ | with_reducible refine Only.drew ?_ | with_reducible refine Only.drewN ?_ _ | exact (Only.refl _ _) | exact Only.refl _ _)))); rintro e w2 ⟨rfl, ho⟩; (first | (replace HX0 := Lib.hid (ho.blk HX0.out (by simp))) | (replace HX0 := Lib.hid (ho.blk (blk_alloc _ _ _ _ HX0.out) (by simp)))); (first | (have ht2 := (ho.blk (heap_alloc_new w1 _) (by simp))) | (have ht2 := ho.blk ht.out (by simp))); (try simp only [World.size_alloc] at ht2); have t0 := blk_cell ht2 0; have t1 := blk_cell ht2 1; have t2 := blk_cell ht2 2; have t3 := blk_cell ht2 3; have tf0 := blk_frozen ht2 0; have tf1 := blk_frozen ht2 1; have tf2 := blk_frozen ht2 2; have tf3 := blk_frozen ht2 3; (try simp at t0 t1 t2 t3); replace ht2 := Lib.hid ht2; (first | (replace HB0 := Lib.hid (HB0.out.trans ho)) | (replace HB0 := Lib.hid ((HB0.out.alloc _).trans ho))); have hl2 := blk_lt HX0.out; clear hr hc ho))
  all_goals go_wp2
  all_goals go_ret
  all_goals refine ⟨?_, Only.below (S := []) (by (repeat' (first | with_reducible exact HB0.out | with_reducible refine Only.alloc ?_ _ | with_reducible refine Only.setCell ?_ (.inr (by first | (exact Nat.le_refl _) | (simp <;> omega))) _ | with_reducible refine Only.drew ?_ | with_reducible refine Only.drewN ?_ _ | exact HB0.out | exact Only.refl _ _))) (Nat.le_refl _) (by simp)⟩
  all_goals (clear k1 k2 k3 HW HOp HX0 HB0; simp_all)
set_option maxRecDepth 100000 in
set_option maxHeartbeats 800000 in
theorem right_bad (o a b n : Int) (h : ¬ (o ≤ 23 ∧ a < 8 ∧ b < 8)) (w : World) :
    Calls Tryd.prog 34 #[insV o a b n] w fun e w' => e = .returned (.bool false) ∧ Below w.heap.size w w' := by
  have HB0 : Hid (Only [] w (w.alloc (.cells #[.int .u8 o, .int .u8 a, .int .u8 b, .int .u16 n] 40))) := (Only.refl _ _).alloc _
  unfold insV
  by_cases h1 : 23 < o
  · have k1 : decide (23 < o) = true := by simp; omega
    clear h h1
    go_enter Tryd.func34, Tryd.ntmps34
    go_wp2
    go_ret
    exact ⟨rfl, Only.below (S := []) (by (repeat' (first | with_reducible exact HB0.out | with_reducible refine Only.alloc ?_ _ | with_reducible refine Only.setCell ?_ (.inr (by first | (exact Nat.le_refl _) | (simp <;> omega))) _ | with_reducible refine Only.drew ?_ | with_reducible refine Only.drewN ?_ _ | exact HB0.out | exact Only.refl _ _))) (Nat.le_refl _) (by simp)⟩
  have k1 : decide (23 < o) = false := by simp; omega
  by_cases h2 : 8 ≤ a
  · have k2 : decide (8 ≤ a) = true := by simp; omega
    clear h h1 h2
    go_enter Tryd.func34, Tryd.ntmps34
    go_wp2
    go_ret
    exact ⟨rfl, Only.below (S := []) (by (repeat' (first | with_reducible exact HB0.out | with_reducible refine Only.alloc ?_ _ | with_reducible refine Only.setCell ?_ (.inr (by first | (exact Nat.le_refl _) | (simp <;> omega))) _ | with_reducible refine Only.drew ?_ | with_reducible refine Only.drewN ?_ _ | exact HB0.out | exact Only.refl _ _))) (Nat.le_refl _) (by simp)⟩
  have k2 : decide (8 ≤ a) = false := by simp; omega
  have k3 : decide (8 ≤ b) = true := by simp; omega
  clear h h1 h2
  go_enter Tryd.func34, Tryd.ntmps34
  go_wp2
  go_ret
  exact ⟨rfl, Only.below (S := []) (by (repeat' (first | with_reducible exact HB0.out | with_reducible refine Only.alloc ?_ _ | with_reducible refine Only.setCell ?_ (.inr (by first | (exact Nat.le_refl _) | (simp <;> omega))) _ | with_reducible refine Only.drew ?_ | with_reducible refine Only.drewN ?_ _ | exact HB0.out | exact Only.refl _ _))) (Nat.le_refl _) (by simp)⟩

def okF (o a b n : Int) : Prop := o ≤ 23 ∧ a < 8 ∧ b < 8 ∧ (shA o = true ∨ a = 0) ∧ (shB o = true ∨ b = 0) ∧ (shI o = true ∨ n = 0)
instance (o a b n : Int) : Decidable (okF o a b n) := by unfold okF; infer_instance
theorem okF_bare (o a b n : Int) : okF o a b n ↔ o ≤ 23 ∧ a < 8 ∧ b < 8 ∧ bareF o a b n = (o, a, b, n) := by
  unfold okF bareF
  simp only [Prod.mk.injEq, true_and]
  cases shA o <;> cases shB o <;> cases shI o <;> simp [eq_comm]
theorem right_ok (o a b n : Int) (h0 : 0 ≤ o) (w : World) :
    Calls Tryd.prog 34 #[insV o a b n] w fun e w' => e = .returned (.bool (decide (okF o a b n))) ∧ Below w.heap.size w w' := by
  by_cases h : o ≤ 23 ∧ a < 8 ∧ b < 8
  · refine (right_deep o a b n h0 h.1 h.2.1 h.2.2 w).mono ?_
    rintro e w' ⟨rfl, hb⟩
    refine ⟨?_, hb⟩
    congr 3
    rw [okF_bare]
    simp [h.1, h.2.1, h.2.2]
  · refine (right_bad o a b n h w).mono ?_
    rintro e w' ⟨rfl, hb⟩
    refine ⟨?_, hb⟩
    have : ¬ okF o a b n := fun k => h ⟨k.1, k.2.1, k.2.2.1⟩
    simp [this]
end Go.Proofs.YtjopikjefpenkaaDoor
/- Instructions: the document's words. -/
namespace Go.Proofs.YtjopikjefpenkaaDoor
open Go.RowKit

theorem shA_far (o : Int) (h : 23 < o) : shA o = false := by simp [shA]; omega
theorem shB_far (o : Int) (h : 23 < o) : shB o = false := by simp [shB]; omega
theorem shI_far (o : Int) (h : 23 < o) : shI o = false := by simp [shI]; omega
theorem usesR_ok (o : Int) (h0 : 0 ≤ o) (w : World) : Calls Tryd.prog 45 #[.int .u8 o] w fun e w' => e = .returned (.tuple #[.bool (shA o), .bool (shB o), .bool (shI o)]) ∧ Below w.heap.size w w' := by
  rcases op_cases o h0 with rfl | rfl | rfl | rfl | rfl | rfl | rfl | rfl | rfl | rfl | rfl | rfl | rfl | rfl | rfl | rfl | rfl | rfl | rfl | rfl | rfl | rfl | rfl | rfl | h
  all_goals first | (go_enter Tryd.func45, Tryd.ntmps45; go_wp2; go_ret3; exact ⟨rfl, Below.refl _ _⟩) | skip
  rw [shA_far o h, shB_far o h, shI_far o h]
  have e2 : (o == 2) = false := by simp; omega
  have e18 : (o == 18) = false := by simp; omega
  have e19 : (o == 19) = false := by simp; omega
  have e20 : (o == 20) = false := by simp; omega
  have e17 : (o == 17) = false := by simp; omega
  have e21 : (o == 21) = false := by simp; omega
  have e23 : (o == 23) = false := by simp; omega
  have l12 : decide (o ≤ 12) = false := by simp; omega
  have l16 : decide (o ≤ 16) = false := by simp; omega
  have g3 : decide (3 ≤ o) = true := by simp; omega
  have g13 : decide (13 ≤ o) = true := by simp; omega
  clear h h0
  go_enter Tryd.func45, Tryd.ntmps45
  go_wp2
  go_ret3
  exact ⟨rfl, Below.refl _ _⟩
theorem okF_bool (o a b n : Int) : decide (okF o a b n) = (decide (o ≤ 23) && (decide (a < 8) && (decide (b < 8) && ((shA o || decide (a = 0)) && ((shB o || decide (b = 0)) && (shI o || decide (n = 0))))))) := by
  rw [Bool.eq_iff_iff, decide_eq_true_iff]
  unfold okF
  cases shA o <;> cases shB o <;> cases shI o <;> simp
theorem rightR_ok (o a b n : Int) (h0 : 0 ≤ o) (w : World) :
    Calls Tryd.prog 44 #[insV o a b n] w fun e w' => e = .returned (.bool (decide (okF o a b n))) ∧ Below w.heap.size w w' := by
  have HB0 : Hid (Only [] w (w.alloc (.cells #[.int .u8 o, .int .u8 a, .int .u8 b, .int .u16 n] 40))) := (Only.refl _ _).alloc _
  have HX0 : Hid ((w.alloc (.cells #[.int .u8 o, .int .u8 a, .int .u8 b, .int .u16 n] 40)).heap[w.heap.size]? = some (.cells #[.int .u8 o, .int .u8 a, .int .u8 b, .int .u16 n] 40 (0, 0))) := heap_alloc_new w _
  have HU := Lib.hid (usesR_ok o h0)
  unfold insV
  rw [okF_bool]
  generalize shA o = x at *
  generalize shB o = y at *
  generalize shI o = z at *
  clear h0
  go_enter Tryd.func44, Tryd.ntmps44
  go_wp2_with fail
  refine (HU.out _).mono ?_
  rintro e w1 ⟨rfl, hb⟩
  have ho := Only.of_below (S := []) hb
  obtain ⟨c0, c1, c2, c3⟩ := blk_cells4 (ho.blk HX0.out (by simp))
  replace HB0 := Lib.hid (HB0.out.trans ho)
  clear HX0 hb ho
  go_wp2
  all_goals go_ret
  all_goals refine ⟨?_, Only.below (S := []) (by (repeat' (first | with_reducible exact HB0.out | with_reducible refine Only.alloc ?_ _ | with_reducible refine Only.setCell ?_ (.inr (by first | (exact Nat.le_refl _) | (simp <;> omega))) _ | with_reducible refine Only.drew ?_ | with_reducible refine Only.drewN ?_ _ | exact HB0.out | exact Only.refl _ _))) (Nat.le_refl _) (by simp)⟩
  all_goals (clear HU HB0 c0 c1 c2 c3; first | (simp_all; done) | (simp_all; rfl) | (simp_all; done) | (have hq : (n == 0) = decide (n = 0) := rfl; simp_all; omega))
end Go.Proofs.YtjopikjefpenkaaDoor

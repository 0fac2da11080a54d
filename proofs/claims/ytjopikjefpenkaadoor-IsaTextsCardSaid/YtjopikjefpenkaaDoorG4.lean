/- Words: what the program's and the reference's functions of words answer. -/
import Derived.Test.YtjopikjefpenkaaDoorG1
import Derived.Test.YtjopikjefpenkaaDoorProg
import Derived.Laws.BitsAllLaws
set_option linter.unusedSimpArgs false
set_option linter.unusedVariables false
set_option linter.unusedSectionVars false
namespace Go.Proofs.YtjopikjefpenkaaDoor
open Go.RowKit

def wShl (a n : Int) : Int := a * 2 ^ (n % 16).toNat % 65536
def wShr (a n : Int) : Int := a / 2 ^ (n % 16).toNat
theorem wShl_range (a n : Int) : 0 ≤ wShl a n ∧ wShl a n ≤ 65535 := by unfold wShl; omega
theorem wShr_range (a n : Int) (h0 : 0 ≤ a) (h1 : a ≤ 65535) : 0 ≤ wShr a n ∧ wShr a n ≤ 65535 := by
  unfold wShr
  have hp : (0 : Int) < 2 ^ (n % 16).toNat := Int.pow_pos (by omega)
  exact ⟨Int.ediv_nonneg h0 (by omega), by have := Int.ediv_le_self (a := a) (2 ^ (n % 16).toNat : Int) h0; omega⟩
theorem u64_and15 (n : Int) (h0 : 0 ≤ n) (h1 : n < 18446744073709551616) : bits .and .u64 n 15 = n % 16 := by
  rw [u64_and n 15 h0 h1 (by omega) (by omega)]
  show ((n.toNat &&& 15 : Nat) : Int) = _
  rw [nat_mask4]; omega

theorem wAdd_ok (a b : Int) (w : World) : Calls Tryd.prog 100 #[.int .u16 a, .int .u16 b] w fun e w' => e = .returned (.tuple #[.int .u16 ((a + b) % 65536), .bool (decide ((a + b) % 65536 < a))]) ∧ w = w' := by
  rw [← IntKind.wrap_u16]
  go_enter Tryd.func100, Tryd.ntmps100
  go_wp2
  go_ret2
  exact ⟨rfl, rfl⟩
theorem wSub_ok (a b : Int) (w : World) : Calls Tryd.prog 103 #[.int .u16 a, .int .u16 b] w fun e w' => e = .returned (.tuple #[.int .u16 ((a - b) % 65536), .bool (decide (a < b))]) ∧ w = w' := by
  rw [← IntKind.wrap_u16]
  go_enter Tryd.func103, Tryd.ntmps103
  go_wp2
  go_ret2
  exact ⟨rfl, rfl⟩
theorem mul_bound (a b : Int) (h0 : 0 ≤ a) (h1 : a ≤ 65535) (h2 : 0 ≤ b) (h3 : b ≤ 65535) : 0 ≤ a * b ∧ a * b ≤ 4294836225 := ⟨Int.mul_nonneg h0 h2, Int.le_trans (Int.mul_le_mul h1 h3 h2 (by omega)) (by omega)⟩
theorem wMul_ok (a b : Int) (h0 : 0 ≤ a) (h1 : a ≤ 65535) (h2 : 0 ≤ b) (h3 : b ≤ 65535) (w : World) : Calls Tryd.prog 104 #[.int .u16 a, .int .u16 b] w fun e w' => e = .returned (.tuple #[.int .u16 (a * b / 65536), .int .u16 (a * b % 65536)]) ∧ w = w' := by
  obtain ⟨hb0, hb1⟩ := mul_bound a b h0 h1 h2 h3
  have e1 : IntKind.u32.wrap (a * b) = a * b := by rw [IntKind.wrap_u32']; omega
  go_enter Tryd.func104, Tryd.ntmps104
  go_wp2
  go_ret2
  exact ⟨by simp [IntKind.wrap_u16], rfl⟩
theorem wDiv_zero (a : Int) (w : World) : Calls Tryd.prog 105 #[.int .u16 a, .int .u16 0] w fun e w' => e = .returned (.tuple #[.int .u16 0, .int .u16 0, .int .i64 14]) ∧ w = w' := by
  go_enter Tryd.func105, Tryd.ntmps105
  go_wp2
  go_ret3
  exact ⟨rfl, rfl⟩
theorem wDiv_ok (a b : Int) (h0 : 0 ≤ a) (h1 : a ≤ 65535) (h2 : 0 < b) (h3 : b ≤ 65535) (w : World) : Calls Tryd.prog 105 #[.int .u16 a, .int .u16 b] w fun e w' => e = .returned (.tuple #[.int .u16 (a / b), .int .u16 (a % b), .int .i64 0]) ∧ w' = w.drew := by
  have hb : (b == 0) = false := by simp; omega
  have hd : IntKind.u16.wrap (a.tdiv b) = a / b := by
    rw [IntKind.wrap_u16, Int.tdiv_eq_ediv_of_nonneg h0]
    have := Int.ediv_nonneg h0 (Int.le_of_lt h2)
    have := Int.ediv_le_self b h0
    omega
  go_enter Tryd.func105, Tryd.ntmps105
  go_wp2
  go_region
  all_goals go_wp2
  all_goals (go_ret3; exact ⟨by simp, rfl⟩)
theorem places_ok (n : Int) (h0 : 0 ≤ n) (h1 : n ≤ 9223372036854775807) (w : World) : Calls Tryd.prog 128 #[.int .i64 n] w fun e w' => e = .returned (.int .u64 (n % 16)) ∧ w = w' := by
  have e := u64_and15 n h0 (by omega)
  go_enter Tryd.func128, Tryd.ntmps128
  go_wp2
  go_ret
  exact ⟨by simp, rfl⟩
theorem wShl_ok (a n : Int) (h0 : 0 ≤ n) (h1 : n ≤ 9223372036854775807) (w : World) : Calls Tryd.prog 106 #[.int .u16 a, .int .i64 n] w fun e w' => e = .returned (.int .u16 (wShl a n)) ∧ w = w' := by
  have c := places_ok n h0 h1 w
  have h2 : 0 ≤ n % 16 := by omega
  have h3 : n % 16 < 16 := by omega
  have e : wShl a n = IntKind.u16.wrap (a * 2 ^ (n % 16).toNat) := by rw [IntKind.wrap_u16]; rfl
  rw [e]
  clear e
  generalize n % 16 = k at *
  go_enter Tryd.func106, Tryd.ntmps106
  go_wp2_with (go_at_call 128; refine c.mono ?_; rintro e w' ⟨rfl, rfl⟩)
  go_ret
  exact ⟨by simp, rfl⟩
theorem wShr_ok (a n : Int) (ha0 : 0 ≤ a) (ha1 : a ≤ 65535) (h0 : 0 ≤ n) (h1 : n ≤ 9223372036854775807) (w : World) : Calls Tryd.prog 107 #[.int .u16 a, .int .i64 n] w fun e w' => e = .returned (.int .u16 (wShr a n)) ∧ w = w' := by
  have c := places_ok n h0 h1 w
  have h2 : 0 ≤ n % 16 := by omega
  have h3 : n % 16 < 16 := by omega
  have e : wShr a n = a / 2 ^ (n % 16).toNat := rfl
  have hs : min (n % 16).toNat 16 = (n % 16).toNat := by omega
  rw [e]
  clear e
  generalize n % 16 = k at *
  have e2 : a.fdiv (2 ^ k.toNat) = a / 2 ^ k.toNat := Int.fdiv_eq_ediv_of_nonneg _ (Int.le_of_lt (Int.pow_pos (by omega)))
  go_enter Tryd.func107, Tryd.ntmps107
  go_wp2_with (go_at_call 128; refine c.mono ?_; rintro e w' ⟨rfl, rfl⟩)
  go_ret
  exact ⟨by simp [e2], rfl⟩
theorem u16_or8 (x y : Int) (h0 : 0 ≤ x) (h1 : x ≤ 255) (h2 : 0 ≤ y) (h3 : y ≤ 255) : bits .or .u16 (x * 256) y = x * 256 + y := by
  rw [u16_or (x * 256) y (by omega) (by omega) h2 (by omega), nat_join 8 (x * 256).toNat y.toNat (by omega) (by omega)]
  omega
theorem wJoin_ok (x y : Int) (h0 : 0 ≤ x) (h1 : x ≤ 255) (h2 : 0 ≤ y) (h3 : y ≤ 255) (w : World) : Calls Tryd.prog 64 #[.int .u8 x, .int .u8 y] w fun e w' => e = .returned (.int .u16 (x * 256 + y)) ∧ w = w' := by
  have e := u16_or8 x y h0 h1 h2 h3
  have e2 : IntKind.u16.wrap (x * 256) = x * 256 := by rw [IntKind.wrap_u16]; omega
  go_enter Tryd.func64, Tryd.ntmps64
  go_wp2
  go_ret
  exact ⟨by simp [e, e2], rfl⟩

/-! ### the reference's -/
theorem shl_step (a : Int) (k : Nat) : a * 2 ^ k % 65536 * 2 % 65536 = a * 2 ^ (k + 1) % 65536 := by
  rw [Int.pow_succ, ← Int.mul_assoc, Int.mul_emod (a * 2 ^ k % 65536) 2 65536, Int.emod_emod_of_dvd _ (Int.dvd_refl _), ← Int.mul_emod]
theorem shr_step (a : Int) (k : Nat) : a / 2 ^ k / 2 = a / 2 ^ (k + 1) := by
  rw [Int.pow_succ, Int.ediv_ediv_of_nonneg (Int.le_of_lt (Int.pow_pos (by omega)))]
theorem rJoin_ok (x y : Int) (h0 : 0 ≤ x) (h1 : x ≤ 255) (h2 : 0 ≤ y) (h3 : y ≤ 255) (w : World) : Calls Tryd.prog 65 #[.int .u8 x, .int .u8 y] w fun e w' => e = .returned (.int .u16 (x * 256 + y)) ∧ w = w' := by
  go_enter Tryd.func65, Tryd.ntmps65
  go_wp2
  go_ret
  exact ⟨rfl, rfl⟩
end Go.Proofs.YtjopikjefpenkaaDoor
/- Instructions: shapes. -/
namespace Go.Proofs.YtjopikjefpenkaaDoor
open Go.RowKit

def shA (o : Int) : Bool := decide (2 ≤ o ∧ o ≤ 16 ∨ 18 ≤ o ∧ o ≤ 20)
def shB (o : Int) : Bool := decide (3 ≤ o ∧ o ≤ 16 ∨ o = 20)
def shI (o : Int) : Bool := decide (o = 2 ∨ 13 ≤ o ∧ o ≤ 21 ∨ o = 23)

theorem op_cases (o : Int) (h : 0 ≤ o) : o = 0 ∨ o = 1 ∨ o = 2 ∨ o = 3 ∨ o = 4 ∨ o = 5 ∨ o = 6 ∨ o = 7 ∨ o = 8 ∨ o = 9 ∨ o = 10 ∨ o = 11 ∨ o = 12 ∨ o = 13 ∨ o = 14 ∨ o = 15 ∨ o = 16 ∨ o = 17 ∨ o = 18 ∨ o = 19 ∨ o = 20 ∨ o = 21 ∨ o = 22 ∨ o = 23 ∨ 23 < o := by omega
theorem shapeOf_0 (w : World) : Calls Tryd.prog 41 #[.int .u8 0] w fun e w' => e = .returned (.agg #[.bool false, .bool false, .bool false]) ∧ Below w.heap.size w w' := by
  go_enter Tryd.func41, Tryd.ntmps41
  go_wp2
  refine bodyPost_ret (v := .agg #[.bool false, .bool false, .bool false]) (by simp [results, Tryd.results41, go_sem]) rfl ⟨rfl, (Below.refl _ _).alloc (by simp) _⟩
theorem shapeOf_1 (w : World) : Calls Tryd.prog 41 #[.int .u8 1] w fun e w' => e = .returned (.agg #[.bool false, .bool false, .bool false]) ∧ Below w.heap.size w w' := by
  go_enter Tryd.func41, Tryd.ntmps41
  go_wp2
  refine bodyPost_ret (v := .agg #[.bool false, .bool false, .bool false]) (by simp [results, Tryd.results41, go_sem]) rfl ⟨rfl, (Below.refl _ _).alloc (by simp) _⟩
theorem shapeOf_2 (w : World) : Calls Tryd.prog 41 #[.int .u8 2] w fun e w' => e = .returned (.agg #[.bool true, .bool false, .bool true]) ∧ Below w.heap.size w w' := by
  go_enter Tryd.func41, Tryd.ntmps41
  go_wp2
  refine bodyPost_ret (v := .agg #[.bool true, .bool false, .bool true]) (by simp [results, Tryd.results41, go_sem]) rfl ⟨rfl, (Below.refl _ _).alloc (by simp) _⟩
theorem shapeOf_3 (w : World) : Calls Tryd.prog 41 #[.int .u8 3] w fun e w' => e = .returned (.agg #[.bool true, .bool true, .bool false]) ∧ Below w.heap.size w w' := by
  go_enter Tryd.func41, Tryd.ntmps41
  go_wp2
  refine bodyPost_ret (v := .agg #[.bool true, .bool true, .bool false]) (by simp [results, Tryd.results41, go_sem]) rfl ⟨rfl, (Below.refl _ _).alloc (by simp) _⟩
theorem shapeOf_4 (w : World) : Calls Tryd.prog 41 #[.int .u8 4] w fun e w' => e = .returned (.agg #[.bool true, .bool true, .bool false]) ∧ Below w.heap.size w w' := by
  go_enter Tryd.func41, Tryd.ntmps41
  go_wp2
  refine bodyPost_ret (v := .agg #[.bool true, .bool true, .bool false]) (by simp [results, Tryd.results41, go_sem]) rfl ⟨rfl, (Below.refl _ _).alloc (by simp) _⟩
theorem shapeOf_5 (w : World) : Calls Tryd.prog 41 #[.int .u8 5] w fun e w' => e = .returned (.agg #[.bool true, .bool true, .bool false]) ∧ Below w.heap.size w w' := by
  go_enter Tryd.func41, Tryd.ntmps41
  go_wp2
  refine bodyPost_ret (v := .agg #[.bool true, .bool true, .bool false]) (by simp [results, Tryd.results41, go_sem]) rfl ⟨rfl, (Below.refl _ _).alloc (by simp) _⟩
theorem shapeOf_6 (w : World) : Calls Tryd.prog 41 #[.int .u8 6] w fun e w' => e = .returned (.agg #[.bool true, .bool true, .bool false]) ∧ Below w.heap.size w w' := by
  go_enter Tryd.func41, Tryd.ntmps41
  go_wp2
  refine bodyPost_ret (v := .agg #[.bool true, .bool true, .bool false]) (by simp [results, Tryd.results41, go_sem]) rfl ⟨rfl, (Below.refl _ _).alloc (by simp) _⟩
theorem shapeOf_7 (w : World) : Calls Tryd.prog 41 #[.int .u8 7] w fun e w' => e = .returned (.agg #[.bool true, .bool true, .bool false]) ∧ Below w.heap.size w w' := by
  go_enter Tryd.func41, Tryd.ntmps41
  go_wp2
  refine bodyPost_ret (v := .agg #[.bool true, .bool true, .bool false]) (by simp [results, Tryd.results41, go_sem]) rfl ⟨rfl, (Below.refl _ _).alloc (by simp) _⟩
theorem shapeOf_8 (w : World) : Calls Tryd.prog 41 #[.int .u8 8] w fun e w' => e = .returned (.agg #[.bool true, .bool true, .bool false]) ∧ Below w.heap.size w w' := by
  go_enter Tryd.func41, Tryd.ntmps41
  go_wp2
  refine bodyPost_ret (v := .agg #[.bool true, .bool true, .bool false]) (by simp [results, Tryd.results41, go_sem]) rfl ⟨rfl, (Below.refl _ _).alloc (by simp) _⟩
theorem shapeOf_9 (w : World) : Calls Tryd.prog 41 #[.int .u8 9] w fun e w' => e = .returned (.agg #[.bool true, .bool true, .bool false]) ∧ Below w.heap.size w w' := by
  go_enter Tryd.func41, Tryd.ntmps41
  go_wp2
  refine bodyPost_ret (v := .agg #[.bool true, .bool true, .bool false]) (by simp [results, Tryd.results41, go_sem]) rfl ⟨rfl, (Below.refl _ _).alloc (by simp) _⟩
theorem shapeOf_10 (w : World) : Calls Tryd.prog 41 #[.int .u8 10] w fun e w' => e = .returned (.agg #[.bool true, .bool true, .bool false]) ∧ Below w.heap.size w w' := by
  go_enter Tryd.func41, Tryd.ntmps41
  go_wp2
  refine bodyPost_ret (v := .agg #[.bool true, .bool true, .bool false]) (by simp [results, Tryd.results41, go_sem]) rfl ⟨rfl, (Below.refl _ _).alloc (by simp) _⟩
theorem shapeOf_11 (w : World) : Calls Tryd.prog 41 #[.int .u8 11] w fun e w' => e = .returned (.agg #[.bool true, .bool true, .bool false]) ∧ Below w.heap.size w w' := by
  go_enter Tryd.func41, Tryd.ntmps41
  go_wp2
  refine bodyPost_ret (v := .agg #[.bool true, .bool true, .bool false]) (by simp [results, Tryd.results41, go_sem]) rfl ⟨rfl, (Below.refl _ _).alloc (by simp) _⟩
theorem shapeOf_12 (w : World) : Calls Tryd.prog 41 #[.int .u8 12] w fun e w' => e = .returned (.agg #[.bool true, .bool true, .bool false]) ∧ Below w.heap.size w w' := by
  go_enter Tryd.func41, Tryd.ntmps41
  go_wp2
  refine bodyPost_ret (v := .agg #[.bool true, .bool true, .bool false]) (by simp [results, Tryd.results41, go_sem]) rfl ⟨rfl, (Below.refl _ _).alloc (by simp) _⟩
theorem shapeOf_13 (w : World) : Calls Tryd.prog 41 #[.int .u8 13] w fun e w' => e = .returned (.agg #[.bool true, .bool true, .bool true]) ∧ Below w.heap.size w w' := by
  go_enter Tryd.func41, Tryd.ntmps41
  go_wp2
  refine bodyPost_ret (v := .agg #[.bool true, .bool true, .bool true]) (by simp [results, Tryd.results41, go_sem]) rfl ⟨rfl, (Below.refl _ _).alloc (by simp) _⟩
theorem shapeOf_14 (w : World) : Calls Tryd.prog 41 #[.int .u8 14] w fun e w' => e = .returned (.agg #[.bool true, .bool true, .bool true]) ∧ Below w.heap.size w w' := by
  go_enter Tryd.func41, Tryd.ntmps41
  go_wp2
  refine bodyPost_ret (v := .agg #[.bool true, .bool true, .bool true]) (by simp [results, Tryd.results41, go_sem]) rfl ⟨rfl, (Below.refl _ _).alloc (by simp) _⟩
theorem shapeOf_15 (w : World) : Calls Tryd.prog 41 #[.int .u8 15] w fun e w' => e = .returned (.agg #[.bool true, .bool true, .bool true]) ∧ Below w.heap.size w w' := by
  go_enter Tryd.func41, Tryd.ntmps41
  go_wp2
  refine bodyPost_ret (v := .agg #[.bool true, .bool true, .bool true]) (by simp [results, Tryd.results41, go_sem]) rfl ⟨rfl, (Below.refl _ _).alloc (by simp) _⟩
theorem shapeOf_16 (w : World) : Calls Tryd.prog 41 #[.int .u8 16] w fun e w' => e = .returned (.agg #[.bool true, .bool true, .bool true]) ∧ Below w.heap.size w w' := by
  go_enter Tryd.func41, Tryd.ntmps41
  go_wp2
  refine bodyPost_ret (v := .agg #[.bool true, .bool true, .bool true]) (by simp [results, Tryd.results41, go_sem]) rfl ⟨rfl, (Below.refl _ _).alloc (by simp) _⟩
theorem shapeOf_17 (w : World) : Calls Tryd.prog 41 #[.int .u8 17] w fun e w' => e = .returned (.agg #[.bool false, .bool false, .bool true]) ∧ Below w.heap.size w w' := by
  go_enter Tryd.func41, Tryd.ntmps41
  go_wp2
  refine bodyPost_ret (v := .agg #[.bool false, .bool false, .bool true]) (by simp [results, Tryd.results41, go_sem]) rfl ⟨rfl, (Below.refl _ _).alloc (by simp) _⟩
theorem shapeOf_18 (w : World) : Calls Tryd.prog 41 #[.int .u8 18] w fun e w' => e = .returned (.agg #[.bool true, .bool false, .bool true]) ∧ Below w.heap.size w w' := by
  go_enter Tryd.func41, Tryd.ntmps41
  go_wp2
  refine bodyPost_ret (v := .agg #[.bool true, .bool false, .bool true]) (by simp [results, Tryd.results41, go_sem]) rfl ⟨rfl, (Below.refl _ _).alloc (by simp) _⟩
theorem shapeOf_19 (w : World) : Calls Tryd.prog 41 #[.int .u8 19] w fun e w' => e = .returned (.agg #[.bool true, .bool false, .bool true]) ∧ Below w.heap.size w w' := by
  go_enter Tryd.func41, Tryd.ntmps41
  go_wp2
  refine bodyPost_ret (v := .agg #[.bool true, .bool false, .bool true]) (by simp [results, Tryd.results41, go_sem]) rfl ⟨rfl, (Below.refl _ _).alloc (by simp) _⟩
theorem shapeOf_20 (w : World) : Calls Tryd.prog 41 #[.int .u8 20] w fun e w' => e = .returned (.agg #[.bool true, .bool true, .bool true]) ∧ Below w.heap.size w w' := by
  go_enter Tryd.func41, Tryd.ntmps41
  go_wp2
  refine bodyPost_ret (v := .agg #[.bool true, .bool true, .bool true]) (by simp [results, Tryd.results41, go_sem]) rfl ⟨rfl, (Below.refl _ _).alloc (by simp) _⟩
theorem shapeOf_21 (w : World) : Calls Tryd.prog 41 #[.int .u8 21] w fun e w' => e = .returned (.agg #[.bool false, .bool false, .bool true]) ∧ Below w.heap.size w w' := by
  go_enter Tryd.func41, Tryd.ntmps41
  go_wp2
  refine bodyPost_ret (v := .agg #[.bool false, .bool false, .bool true]) (by simp [results, Tryd.results41, go_sem]) rfl ⟨rfl, (Below.refl _ _).alloc (by simp) _⟩
theorem shapeOf_22 (w : World) : Calls Tryd.prog 41 #[.int .u8 22] w fun e w' => e = .returned (.agg #[.bool false, .bool false, .bool false]) ∧ Below w.heap.size w w' := by
  go_enter Tryd.func41, Tryd.ntmps41
  go_wp2
  refine bodyPost_ret (v := .agg #[.bool false, .bool false, .bool false]) (by simp [results, Tryd.results41, go_sem]) rfl ⟨rfl, (Below.refl _ _).alloc (by simp) _⟩
theorem shapeOf_23 (w : World) : Calls Tryd.prog 41 #[.int .u8 23] w fun e w' => e = .returned (.agg #[.bool false, .bool false, .bool true]) ∧ Below w.heap.size w w' := by
  go_enter Tryd.func41, Tryd.ntmps41
  go_wp2
  refine bodyPost_ret (v := .agg #[.bool false, .bool false, .bool true]) (by simp [results, Tryd.results41, go_sem]) rfl ⟨rfl, (Below.refl _ _).alloc (by simp) _⟩
theorem shapeOf_no (o : Int) (h : 23 < o) (w : World) : Calls Tryd.prog 41 #[.int .u8 o] w fun e w' => e = .returned (.agg #[.bool false, .bool false, .bool false]) ∧ Below w.heap.size w w' := by
  have k2 : (o == 2) = false := by simp; omega
  have k18 : (o == 18) = false := by simp; omega
  have k19 : (o == 19) = false := by simp; omega
  have k3 : (o == 3) = false := by simp; omega
  have k4 : (o == 4) = false := by simp; omega
  have k5 : (o == 5) = false := by simp; omega
  have k6 : (o == 6) = false := by simp; omega
  have k7 : (o == 7) = false := by simp; omega
  have k8 : (o == 8) = false := by simp; omega
  have k9 : (o == 9) = false := by simp; omega
  have k10 : (o == 10) = false := by simp; omega
  have k11 : (o == 11) = false := by simp; omega
  have k12 : (o == 12) = false := by simp; omega
  have k13 : (o == 13) = false := by simp; omega
  have k14 : (o == 14) = false := by simp; omega
  have k15 : (o == 15) = false := by simp; omega
  have k16 : (o == 16) = false := by simp; omega
  have k20 : (o == 20) = false := by simp; omega
  have k17 : (o == 17) = false := by simp; omega
  have k21 : (o == 21) = false := by simp; omega
  have k23 : (o == 23) = false := by simp; omega
  go_enter Tryd.func41, Tryd.ntmps41
  go_wp2
  refine bodyPost_ret (v := .agg #[.bool false, .bool false, .bool false]) (by simp [results, Tryd.results41, go_sem]) rfl ⟨rfl, (Below.refl _ _).alloc (by simp) _⟩
theorem shapeOf_ok (o : Int) (h0 : 0 ≤ o) (w : World) :
    Calls Tryd.prog 41 #[.int .u8 o] w fun e w' => e = .returned (.agg #[.bool (shA o), .bool (shB o), .bool (shI o)]) ∧ Below w.heap.size w w' := by
  rcases op_cases o h0 with rfl | rfl | rfl | rfl | rfl | rfl | rfl | rfl | rfl | rfl | rfl | rfl | rfl | rfl | rfl | rfl | rfl | rfl | rfl | rfl | rfl | rfl | rfl | rfl | h
  · exact shapeOf_0 w
  · exact shapeOf_1 w
  · exact shapeOf_2 w
  · exact shapeOf_3 w
  · exact shapeOf_4 w
  · exact shapeOf_5 w
  · exact shapeOf_6 w
  · exact shapeOf_7 w
  · exact shapeOf_8 w
  · exact shapeOf_9 w
  · exact shapeOf_10 w
  · exact shapeOf_11 w
  · exact shapeOf_12 w
  · exact shapeOf_13 w
  · exact shapeOf_14 w
  · exact shapeOf_15 w
  · exact shapeOf_16 w
  · exact shapeOf_17 w
  · exact shapeOf_18 w
  · exact shapeOf_19 w
  · exact shapeOf_20 w
  · exact shapeOf_21 w
  · exact shapeOf_22 w
  · exact shapeOf_23 w
  · have e1 : shA o = false := by simp [shA]; omega
    have e2 : shB o = false := by simp [shB]; omega
    have e3 : shI o = false := by simp [shI]; omega
    rw [e1, e2, e3]
    exact shapeOf_no o h w
end Go.Proofs.YtjopikjefpenkaaDoor
/- Instructions: their operands. -/
namespace Go.Proofs.YtjopikjefpenkaaDoor
open Go.RowKit

inductive Opnd where
  | reg (a : Int)
  | imm (n : Int)
def opndV : Opnd → Value
  | .reg a => .iface 107 (.int .u8 a)
  | .imm n => .iface 108 (.int .u16 n)
def opndVs (l : List Opnd) : List Value := l.map opndV
theorem opndVs_snoc (l : List Opnd) (x : Opnd) : opndVs (l ++ [x]) = opndVs l ++ [opndV x] := by simp [opndVs]
def operandsOf (o a b n : Int) : List Opnd := (if shA o then [.reg a] else []) ++ ((if shB o then [.reg b] else []) ++ (if shI o then [.imm n] else []))
theorem infoOpnd : (Tryd.prog.info? 64).map (fun i => (i.zero, i.size, i.bytes)) = some (some .nilIface, 1, 16) := by kernel_rfl
def insV (o a b n : Int) : Value := .agg #[.int .u8 o, .int .u8 a, .int .u8 b, .int .u16 n]
def OpsL (w : World) (l : List Opnd) (e : Ending) (w' : World) : Prop := (∃ v, e = .returned v ∧ Own1 w' w.heap.size 64 v (opndVs l)) ∧ Below w.heap.size w w'

set_option maxHeartbeats 800000 in
theorem operands_000 (o a b n : Int) (w : World) (hs : ∀ w, Calls Tryd.prog 41 #[.int .u8 o] w fun e w' => e = .returned (.agg #[.bool false, .bool false, .bool false]) ∧ Below w.heap.size w w') :
    Calls Tryd.prog 36 #[insV o a b n] w (OpsL w []) := by
  have HS := Lib.hid hs
  clear hs
  unfold insV
  go_enter Tryd.func36, Tryd.ntmps36
  go_wp2_with fail
  refine (HS.out _).mono ?_
  rintro e w1 ⟨rfl, hb⟩
  have HN := Lib.hid ((hb.block w.heap.size (by simp)).trans (heap_alloc_new w (.cells #[.int .u8 o, .int .u8 a, .int .u8 b, .int .u16 n] 40)))
  have HB := Lib.hid (((Below.refl w.heap.size w).alloc (Nat.le_refl _) (.cells #[.int .u8 o, .int .u8 a, .int .u8 b, .int .u16 n] 40)).trans (hb.mono (by simp)))
  have hsz : w.heap.size + 1 ≤ w1.heap.size := by have := hb.size; simpa using this
  have x1 : (w1.alloc (.cells #[.bool false, .bool false, .bool false] 72)).cell? ⟨w.heap.size, 1, none⟩ = some (.int .u8 a) := by rw [World.cell?_of_block (w := w1) (Below.heap_alloc _ _ _ (by dsimp only; omega)), blk_cell HN.out]; rfl
  have x2 : (w1.alloc (.cells #[.bool false, .bool false, .bool false] 72)).cell? ⟨w.heap.size, 2, none⟩ = some (.int .u8 b) := by rw [World.cell?_of_block (w := w1) (Below.heap_alloc _ _ _ (by dsimp only; omega)), blk_cell HN.out]; rfl
  have x3 : (w1.alloc (.cells #[.bool false, .bool false, .bool false] 72)).cell? ⟨w.heap.size, 3, none⟩ = some (.int .u16 n) := by rw [World.cell?_of_block (w := w1) (Below.heap_alloc _ _ _ (by dsimp only; omega)), blk_cell HN.out]; rfl
  clear hb
  go_wp2
  go_ret
  exact ⟨⟨_, rfl, Own1.nil _ _ _⟩, HB.out.alloc (by omega) _⟩

set_option maxHeartbeats 800000 in
theorem operands_001 (o a b n : Int) (w : World) (hs : ∀ w, Calls Tryd.prog 41 #[.int .u8 o] w fun e w' => e = .returned (.agg #[.bool false, .bool false, .bool true]) ∧ Below w.heap.size w w') :
    Calls Tryd.prog 36 #[insV o a b n] w (OpsL w [.imm n]) := by
  have HS := Lib.hid hs
  clear hs
  unfold insV
  go_enter Tryd.func36, Tryd.ntmps36
  go_wp2_with fail
  refine (HS.out _).mono ?_
  rintro e w1 ⟨rfl, hb⟩
  have HN := Lib.hid ((hb.block w.heap.size (by simp)).trans (heap_alloc_new w (.cells #[.int .u8 o, .int .u8 a, .int .u8 b, .int .u16 n] 40)))
  have HB := Lib.hid (((Below.refl w.heap.size w).alloc (Nat.le_refl _) (.cells #[.int .u8 o, .int .u8 a, .int .u8 b, .int .u16 n] 40)).trans (hb.mono (by simp)))
  have hsz : w.heap.size + 1 ≤ w1.heap.size := by have := hb.size; simpa using this
  have x1 : (w1.alloc (.cells #[.bool false, .bool false, .bool true] 72)).cell? ⟨w.heap.size, 1, none⟩ = some (.int .u8 a) := by rw [World.cell?_of_block (w := w1) (Below.heap_alloc _ _ _ (by dsimp only; omega)), blk_cell HN.out]; rfl
  have x2 : (w1.alloc (.cells #[.bool false, .bool false, .bool true] 72)).cell? ⟨w.heap.size, 2, none⟩ = some (.int .u8 b) := by rw [World.cell?_of_block (w := w1) (Below.heap_alloc _ _ _ (by dsimp only; omega)), blk_cell HN.out]; rfl
  have x3 : (w1.alloc (.cells #[.bool false, .bool false, .bool true] 72)).cell? ⟨w.heap.size, 3, none⟩ = some (.int .u16 n) := by rw [World.cell?_of_block (w := w1) (Below.heap_alloc _ _ _ (by dsimp only; omega)), blk_cell HN.out]; rfl
  clear hb
  go_wp2_with (first | (at_builtin; refine append1 (w1.heap.size + 1) rfl _ _ 62 64 .nilIface 16 rfl Tryd.underlying62 infoOpnd rfl (by decide) _ _ (Own1.nil _ _ _) (.iface 108 (.int .u16 n)) rfl rfl (by first | rfl | simp) rfl (by simp) (by first | decide | (simp [opndVs])) ?_; intro v0 W0 HO0 hg0 hat0; have HO0' : Own1 W0 (w1.heap.size + 1) 64 v0 (opndVs [.imm n]) := HO0; have hb0 : Below (w1.heap.size + 1) (w1.alloc (.cells #[.bool false, .bool false, .bool true] 72)) W0 := (Below.refl _ _).grown hg0 (by simp) (fun j hj => by simp [Value.ownBlock] at hj); have HZ0 : Hid (w1.heap.size + 1 ≤ W0.heap.size) := (by have := hb0.size; rwa [World.size_alloc] at this); have y00 := (hb0.cell (p := ⟨w1.heap.size, 0, none⟩) (by simp)); have y01 := (hb0.cell (p := ⟨w1.heap.size, 1, none⟩) (by simp)); have y02 := (hb0.cell (p := ⟨w1.heap.size, 2, none⟩) (by simp)); rw [blk_cell (heap_alloc_new w1 _)] at y00 y01 y02; have z01 := (hb0.cell (p := ⟨w.heap.size, 1, none⟩) (by dsimp only; omega)).trans x1; have z02 := (hb0.cell (p := ⟨w.heap.size, 2, none⟩) (by dsimp only; omega)).trans x2; have z03 := (hb0.cell (p := ⟨w.heap.size, 3, none⟩) (by dsimp only; omega)).trans x3; simp at y00 y01 y02; have HBk0 := Lib.hid hb0; clear hb0 HO0 hg0 hat0; have z01h := Lib.hid x1; have z02h := Lib.hid x2; have z03h := Lib.hid x3; clear x1 x2 x3))
  go_ret
  exact ⟨⟨_, rfl, HO0'.weaken (by omega)⟩, (HB.out.alloc (by omega) _).trans (HBk0.out.mono (by omega))⟩

set_option maxHeartbeats 800000 in
theorem operands_010 (o a b n : Int) (w : World) (hs : ∀ w, Calls Tryd.prog 41 #[.int .u8 o] w fun e w' => e = .returned (.agg #[.bool false, .bool true, .bool false]) ∧ Below w.heap.size w w') :
    Calls Tryd.prog 36 #[insV o a b n] w (OpsL w [.reg b]) := by
  have HS := Lib.hid hs
  clear hs
  unfold insV
  go_enter Tryd.func36, Tryd.ntmps36
  go_wp2_with fail
  refine (HS.out _).mono ?_
  rintro e w1 ⟨rfl, hb⟩
  have HN := Lib.hid ((hb.block w.heap.size (by simp)).trans (heap_alloc_new w (.cells #[.int .u8 o, .int .u8 a, .int .u8 b, .int .u16 n] 40)))
  have HB := Lib.hid (((Below.refl w.heap.size w).alloc (Nat.le_refl _) (.cells #[.int .u8 o, .int .u8 a, .int .u8 b, .int .u16 n] 40)).trans (hb.mono (by simp)))
  have hsz : w.heap.size + 1 ≤ w1.heap.size := by have := hb.size; simpa using this
  have x1 : (w1.alloc (.cells #[.bool false, .bool true, .bool false] 72)).cell? ⟨w.heap.size, 1, none⟩ = some (.int .u8 a) := by rw [World.cell?_of_block (w := w1) (Below.heap_alloc _ _ _ (by dsimp only; omega)), blk_cell HN.out]; rfl
  have x2 : (w1.alloc (.cells #[.bool false, .bool true, .bool false] 72)).cell? ⟨w.heap.size, 2, none⟩ = some (.int .u8 b) := by rw [World.cell?_of_block (w := w1) (Below.heap_alloc _ _ _ (by dsimp only; omega)), blk_cell HN.out]; rfl
  have x3 : (w1.alloc (.cells #[.bool false, .bool true, .bool false] 72)).cell? ⟨w.heap.size, 3, none⟩ = some (.int .u16 n) := by rw [World.cell?_of_block (w := w1) (Below.heap_alloc _ _ _ (by dsimp only; omega)), blk_cell HN.out]; rfl
  clear hb
  go_wp2_with (first | (at_builtin; refine append1 (w1.heap.size + 1) rfl _ _ 62 64 .nilIface 16 rfl Tryd.underlying62 infoOpnd rfl (by decide) _ _ (Own1.nil _ _ _) (.iface 107 (.int .u8 b)) rfl rfl (by first | rfl | simp) rfl (by simp) (by first | decide | (simp [opndVs])) ?_; intro v0 W0 HO0 hg0 hat0; have HO0' : Own1 W0 (w1.heap.size + 1) 64 v0 (opndVs [.reg b]) := HO0; have hb0 : Below (w1.heap.size + 1) (w1.alloc (.cells #[.bool false, .bool true, .bool false] 72)) W0 := (Below.refl _ _).grown hg0 (by simp) (fun j hj => by simp [Value.ownBlock] at hj); have HZ0 : Hid (w1.heap.size + 1 ≤ W0.heap.size) := (by have := hb0.size; rwa [World.size_alloc] at this); have y00 := (hb0.cell (p := ⟨w1.heap.size, 0, none⟩) (by simp)); have y01 := (hb0.cell (p := ⟨w1.heap.size, 1, none⟩) (by simp)); have y02 := (hb0.cell (p := ⟨w1.heap.size, 2, none⟩) (by simp)); rw [blk_cell (heap_alloc_new w1 _)] at y00 y01 y02; have z01 := (hb0.cell (p := ⟨w.heap.size, 1, none⟩) (by dsimp only; omega)).trans x1; have z02 := (hb0.cell (p := ⟨w.heap.size, 2, none⟩) (by dsimp only; omega)).trans x2; have z03 := (hb0.cell (p := ⟨w.heap.size, 3, none⟩) (by dsimp only; omega)).trans x3; simp at y00 y01 y02; have HBk0 := Lib.hid hb0; clear hb0 HO0 hg0 hat0; have z01h := Lib.hid x1; have z02h := Lib.hid x2; have z03h := Lib.hid x3; clear x1 x2 x3))
  go_ret
  exact ⟨⟨_, rfl, HO0'.weaken (by omega)⟩, (HB.out.alloc (by omega) _).trans (HBk0.out.mono (by omega))⟩

set_option maxHeartbeats 800000 in
theorem operands_011 (o a b n : Int) (w : World) (hs : ∀ w, Calls Tryd.prog 41 #[.int .u8 o] w fun e w' => e = .returned (.agg #[.bool false, .bool true, .bool true]) ∧ Below w.heap.size w w') :
    Calls Tryd.prog 36 #[insV o a b n] w (OpsL w [.reg b, .imm n]) := by
  have HS := Lib.hid hs
  clear hs
  unfold insV
  go_enter Tryd.func36, Tryd.ntmps36
  go_wp2_with fail
  refine (HS.out _).mono ?_
  rintro e w1 ⟨rfl, hb⟩
  have HN := Lib.hid ((hb.block w.heap.size (by simp)).trans (heap_alloc_new w (.cells #[.int .u8 o, .int .u8 a, .int .u8 b, .int .u16 n] 40)))
  have HB := Lib.hid (((Below.refl w.heap.size w).alloc (Nat.le_refl _) (.cells #[.int .u8 o, .int .u8 a, .int .u8 b, .int .u16 n] 40)).trans (hb.mono (by simp)))
  have hsz : w.heap.size + 1 ≤ w1.heap.size := by have := hb.size; simpa using this
  have x1 : (w1.alloc (.cells #[.bool false, .bool true, .bool true] 72)).cell? ⟨w.heap.size, 1, none⟩ = some (.int .u8 a) := by rw [World.cell?_of_block (w := w1) (Below.heap_alloc _ _ _ (by dsimp only; omega)), blk_cell HN.out]; rfl
  have x2 : (w1.alloc (.cells #[.bool false, .bool true, .bool true] 72)).cell? ⟨w.heap.size, 2, none⟩ = some (.int .u8 b) := by rw [World.cell?_of_block (w := w1) (Below.heap_alloc _ _ _ (by dsimp only; omega)), blk_cell HN.out]; rfl
  have x3 : (w1.alloc (.cells #[.bool false, .bool true, .bool true] 72)).cell? ⟨w.heap.size, 3, none⟩ = some (.int .u16 n) := by rw [World.cell?_of_block (w := w1) (Below.heap_alloc _ _ _ (by dsimp only; omega)), blk_cell HN.out]; rfl
  clear hb
  go_wp2_with (first | (at_builtin; refine append1 (w1.heap.size + 1) rfl _ _ 62 64 .nilIface 16 rfl Tryd.underlying62 infoOpnd rfl (by decide) _ _ HO0' (.iface 108 (.int .u16 n)) rfl rfl (by first | rfl | simp) rfl HZ0.out (by first | decide | (simp [opndVs])) ?_; intro v1 W1 HO1 hg1 hat1; have HO1' : Own1 W1 (w1.heap.size + 1) 64 v1 (opndVs [.reg b, .imm n]) := HO1; have hb1 : Below (w1.heap.size + 1) (w1.alloc (.cells #[.bool false, .bool true, .bool true] 72)) W1 := HBk0.out.grownOwn HO0' hg1 HZ0.out; have HZ1 : Hid (w1.heap.size + 1 ≤ W1.heap.size) := (by have := hb1.size; rwa [World.size_alloc] at this); have y10 := (hb1.cell (p := ⟨w1.heap.size, 0, none⟩) (by simp)); have y11 := (hb1.cell (p := ⟨w1.heap.size, 1, none⟩) (by simp)); have y12 := (hb1.cell (p := ⟨w1.heap.size, 2, none⟩) (by simp)); rw [blk_cell (heap_alloc_new w1 _)] at y10 y11 y12; have z11 := (hb1.cell (p := ⟨w.heap.size, 1, none⟩) (by dsimp only; omega)).trans z01h.out; have z12 := (hb1.cell (p := ⟨w.heap.size, 2, none⟩) (by dsimp only; omega)).trans z02h.out; have z13 := (hb1.cell (p := ⟨w.heap.size, 3, none⟩) (by dsimp only; omega)).trans z03h.out; simp at y10 y11 y12; have HBk1 := Lib.hid hb1; clear hb1 HO1 hg1 hat1; have z11h := Lib.hid z01h.out; have z12h := Lib.hid z02h.out; have z13h := Lib.hid z03h.out) | (at_builtin; refine append1 (w1.heap.size + 1) rfl _ _ 62 64 .nilIface 16 rfl Tryd.underlying62 infoOpnd rfl (by decide) _ _ (Own1.nil _ _ _) (.iface 107 (.int .u8 b)) rfl rfl (by first | rfl | simp) rfl (by simp) (by first | decide | (simp [opndVs])) ?_; intro v0 W0 HO0 hg0 hat0; have HO0' : Own1 W0 (w1.heap.size + 1) 64 v0 (opndVs [.reg b]) := HO0; have hb0 : Below (w1.heap.size + 1) (w1.alloc (.cells #[.bool false, .bool true, .bool true] 72)) W0 := (Below.refl _ _).grown hg0 (by simp) (fun j hj => by simp [Value.ownBlock] at hj); have HZ0 : Hid (w1.heap.size + 1 ≤ W0.heap.size) := (by have := hb0.size; rwa [World.size_alloc] at this); have y00 := (hb0.cell (p := ⟨w1.heap.size, 0, none⟩) (by simp)); have y01 := (hb0.cell (p := ⟨w1.heap.size, 1, none⟩) (by simp)); have y02 := (hb0.cell (p := ⟨w1.heap.size, 2, none⟩) (by simp)); rw [blk_cell (heap_alloc_new w1 _)] at y00 y01 y02; have z01 := (hb0.cell (p := ⟨w.heap.size, 1, none⟩) (by dsimp only; omega)).trans x1; have z02 := (hb0.cell (p := ⟨w.heap.size, 2, none⟩) (by dsimp only; omega)).trans x2; have z03 := (hb0.cell (p := ⟨w.heap.size, 3, none⟩) (by dsimp only; omega)).trans x3; simp at y00 y01 y02; have HBk0 := Lib.hid hb0; clear hb0 HO0 hg0 hat0; have z01h := Lib.hid x1; have z02h := Lib.hid x2; have z03h := Lib.hid x3; clear x1 x2 x3))
  go_ret
  exact ⟨⟨_, rfl, HO1'.weaken (by omega)⟩, (HB.out.alloc (by omega) _).trans (HBk1.out.mono (by omega))⟩

set_option maxHeartbeats 800000 in
theorem operands_100 (o a b n : Int) (w : World) (hs : ∀ w, Calls Tryd.prog 41 #[.int .u8 o] w fun e w' => e = .returned (.agg #[.bool true, .bool false, .bool false]) ∧ Below w.heap.size w w') :
    Calls Tryd.prog 36 #[insV o a b n] w (OpsL w [.reg a]) := by
  have HS := Lib.hid hs
  clear hs
  unfold insV
  go_enter Tryd.func36, Tryd.ntmps36
  go_wp2_with fail
  refine (HS.out _).mono ?_
  rintro e w1 ⟨rfl, hb⟩
  have HN := Lib.hid ((hb.block w.heap.size (by simp)).trans (heap_alloc_new w (.cells #[.int .u8 o, .int .u8 a, .int .u8 b, .int .u16 n] 40)))
  have HB := Lib.hid (((Below.refl w.heap.size w).alloc (Nat.le_refl _) (.cells #[.int .u8 o, .int .u8 a, .int .u8 b, .int .u16 n] 40)).trans (hb.mono (by simp)))
  have hsz : w.heap.size + 1 ≤ w1.heap.size := by have := hb.size; simpa using this
  have x1 : (w1.alloc (.cells #[.bool true, .bool false, .bool false] 72)).cell? ⟨w.heap.size, 1, none⟩ = some (.int .u8 a) := by rw [World.cell?_of_block (w := w1) (Below.heap_alloc _ _ _ (by dsimp only; omega)), blk_cell HN.out]; rfl
  have x2 : (w1.alloc (.cells #[.bool true, .bool false, .bool false] 72)).cell? ⟨w.heap.size, 2, none⟩ = some (.int .u8 b) := by rw [World.cell?_of_block (w := w1) (Below.heap_alloc _ _ _ (by dsimp only; omega)), blk_cell HN.out]; rfl
  have x3 : (w1.alloc (.cells #[.bool true, .bool false, .bool false] 72)).cell? ⟨w.heap.size, 3, none⟩ = some (.int .u16 n) := by rw [World.cell?_of_block (w := w1) (Below.heap_alloc _ _ _ (by dsimp only; omega)), blk_cell HN.out]; rfl
  clear hb
  go_wp2_with (first | (at_builtin; refine append1 (w1.heap.size + 1) rfl _ _ 62 64 .nilIface 16 rfl Tryd.underlying62 infoOpnd rfl (by decide) _ _ (Own1.nil _ _ _) (.iface 107 (.int .u8 a)) rfl rfl (by first | rfl | simp) rfl (by simp) (by first | decide | (simp [opndVs])) ?_; intro v0 W0 HO0 hg0 hat0; have HO0' : Own1 W0 (w1.heap.size + 1) 64 v0 (opndVs [.reg a]) := HO0; have hb0 : Below (w1.heap.size + 1) (w1.alloc (.cells #[.bool true, .bool false, .bool false] 72)) W0 := (Below.refl _ _).grown hg0 (by simp) (fun j hj => by simp [Value.ownBlock] at hj); have HZ0 : Hid (w1.heap.size + 1 ≤ W0.heap.size) := (by have := hb0.size; rwa [World.size_alloc] at this); have y00 := (hb0.cell (p := ⟨w1.heap.size, 0, none⟩) (by simp)); have y01 := (hb0.cell (p := ⟨w1.heap.size, 1, none⟩) (by simp)); have y02 := (hb0.cell (p := ⟨w1.heap.size, 2, none⟩) (by simp)); rw [blk_cell (heap_alloc_new w1 _)] at y00 y01 y02; have z01 := (hb0.cell (p := ⟨w.heap.size, 1, none⟩) (by dsimp only; omega)).trans x1; have z02 := (hb0.cell (p := ⟨w.heap.size, 2, none⟩) (by dsimp only; omega)).trans x2; have z03 := (hb0.cell (p := ⟨w.heap.size, 3, none⟩) (by dsimp only; omega)).trans x3; simp at y00 y01 y02; have HBk0 := Lib.hid hb0; clear hb0 HO0 hg0 hat0; have z01h := Lib.hid x1; have z02h := Lib.hid x2; have z03h := Lib.hid x3; clear x1 x2 x3))
  go_ret
  exact ⟨⟨_, rfl, HO0'.weaken (by omega)⟩, (HB.out.alloc (by omega) _).trans (HBk0.out.mono (by omega))⟩

set_option maxHeartbeats 800000 in
theorem operands_101 (o a b n : Int) (w : World) (hs : ∀ w, Calls Tryd.prog 41 #[.int .u8 o] w fun e w' => e = .returned (.agg #[.bool true, .bool false, .bool true]) ∧ Below w.heap.size w w') :
    Calls Tryd.prog 36 #[insV o a b n] w (OpsL w [.reg a, .imm n]) := by
  have HS := Lib.hid hs
  clear hs
  unfold insV
  go_enter Tryd.func36, Tryd.ntmps36
  go_wp2_with fail
  refine (HS.out _).mono ?_
  rintro e w1 ⟨rfl, hb⟩
  have HN := Lib.hid ((hb.block w.heap.size (by simp)).trans (heap_alloc_new w (.cells #[.int .u8 o, .int .u8 a, .int .u8 b, .int .u16 n] 40)))
  have HB := Lib.hid (((Below.refl w.heap.size w).alloc (Nat.le_refl _) (.cells #[.int .u8 o, .int .u8 a, .int .u8 b, .int .u16 n] 40)).trans (hb.mono (by simp)))
  have hsz : w.heap.size + 1 ≤ w1.heap.size := by have := hb.size; simpa using this
  have x1 : (w1.alloc (.cells #[.bool true, .bool false, .bool true] 72)).cell? ⟨w.heap.size, 1, none⟩ = some (.int .u8 a) := by rw [World.cell?_of_block (w := w1) (Below.heap_alloc _ _ _ (by dsimp only; omega)), blk_cell HN.out]; rfl
  have x2 : (w1.alloc (.cells #[.bool true, .bool false, .bool true] 72)).cell? ⟨w.heap.size, 2, none⟩ = some (.int .u8 b) := by rw [World.cell?_of_block (w := w1) (Below.heap_alloc _ _ _ (by dsimp only; omega)), blk_cell HN.out]; rfl
  have x3 : (w1.alloc (.cells #[.bool true, .bool false, .bool true] 72)).cell? ⟨w.heap.size, 3, none⟩ = some (.int .u16 n) := by rw [World.cell?_of_block (w := w1) (Below.heap_alloc _ _ _ (by dsimp only; omega)), blk_cell HN.out]; rfl
  clear hb
  go_wp2_with (first | (at_builtin; refine append1 (w1.heap.size + 1) rfl _ _ 62 64 .nilIface 16 rfl Tryd.underlying62 infoOpnd rfl (by decide) _ _ HO0' (.iface 108 (.int .u16 n)) rfl rfl (by first | rfl | simp) rfl HZ0.out (by first | decide | (simp [opndVs])) ?_; intro v1 W1 HO1 hg1 hat1; have HO1' : Own1 W1 (w1.heap.size + 1) 64 v1 (opndVs [.reg a, .imm n]) := HO1; have hb1 : Below (w1.heap.size + 1) (w1.alloc (.cells #[.bool true, .bool false, .bool true] 72)) W1 := HBk0.out.grownOwn HO0' hg1 HZ0.out; have HZ1 : Hid (w1.heap.size + 1 ≤ W1.heap.size) := (by have := hb1.size; rwa [World.size_alloc] at this); have y10 := (hb1.cell (p := ⟨w1.heap.size, 0, none⟩) (by simp)); have y11 := (hb1.cell (p := ⟨w1.heap.size, 1, none⟩) (by simp)); have y12 := (hb1.cell (p := ⟨w1.heap.size, 2, none⟩) (by simp)); rw [blk_cell (heap_alloc_new w1 _)] at y10 y11 y12; have z11 := (hb1.cell (p := ⟨w.heap.size, 1, none⟩) (by dsimp only; omega)).trans z01h.out; have z12 := (hb1.cell (p := ⟨w.heap.size, 2, none⟩) (by dsimp only; omega)).trans z02h.out; have z13 := (hb1.cell (p := ⟨w.heap.size, 3, none⟩) (by dsimp only; omega)).trans z03h.out; simp at y10 y11 y12; have HBk1 := Lib.hid hb1; clear hb1 HO1 hg1 hat1; have z11h := Lib.hid z01h.out; have z12h := Lib.hid z02h.out; have z13h := Lib.hid z03h.out) | (at_builtin; refine append1 (w1.heap.size + 1) rfl _ _ 62 64 .nilIface 16 rfl Tryd.underlying62 infoOpnd rfl (by decide) _ _ (Own1.nil _ _ _) (.iface 107 (.int .u8 a)) rfl rfl (by first | rfl | simp) rfl (by simp) (by first | decide | (simp [opndVs])) ?_; intro v0 W0 HO0 hg0 hat0; have HO0' : Own1 W0 (w1.heap.size + 1) 64 v0 (opndVs [.reg a]) := HO0; have hb0 : Below (w1.heap.size + 1) (w1.alloc (.cells #[.bool true, .bool false, .bool true] 72)) W0 := (Below.refl _ _).grown hg0 (by simp) (fun j hj => by simp [Value.ownBlock] at hj); have HZ0 : Hid (w1.heap.size + 1 ≤ W0.heap.size) := (by have := hb0.size; rwa [World.size_alloc] at this); have y00 := (hb0.cell (p := ⟨w1.heap.size, 0, none⟩) (by simp)); have y01 := (hb0.cell (p := ⟨w1.heap.size, 1, none⟩) (by simp)); have y02 := (hb0.cell (p := ⟨w1.heap.size, 2, none⟩) (by simp)); rw [blk_cell (heap_alloc_new w1 _)] at y00 y01 y02; have z01 := (hb0.cell (p := ⟨w.heap.size, 1, none⟩) (by dsimp only; omega)).trans x1; have z02 := (hb0.cell (p := ⟨w.heap.size, 2, none⟩) (by dsimp only; omega)).trans x2; have z03 := (hb0.cell (p := ⟨w.heap.size, 3, none⟩) (by dsimp only; omega)).trans x3; simp at y00 y01 y02; have HBk0 := Lib.hid hb0; clear hb0 HO0 hg0 hat0; have z01h := Lib.hid x1; have z02h := Lib.hid x2; have z03h := Lib.hid x3; clear x1 x2 x3))
  go_ret
  exact ⟨⟨_, rfl, HO1'.weaken (by omega)⟩, (HB.out.alloc (by omega) _).trans (HBk1.out.mono (by omega))⟩

set_option maxHeartbeats 800000 in
theorem operands_110 (o a b n : Int) (w : World) (hs : ∀ w, Calls Tryd.prog 41 #[.int .u8 o] w fun e w' => e = .returned (.agg #[.bool true, .bool true, .bool false]) ∧ Below w.heap.size w w') :
    Calls Tryd.prog 36 #[insV o a b n] w (OpsL w [.reg a, .reg b]) := by
  have HS := Lib.hid hs
  clear hs
  unfold insV
  go_enter Tryd.func36, Tryd.ntmps36
  go_wp2_with fail
  refine (HS.out _).mono ?_
  rintro e w1 ⟨rfl, hb⟩
  have HN := Lib.hid ((hb.block w.heap.size (by simp)).trans (heap_alloc_new w (.cells #[.int .u8 o, .int .u8 a, .int .u8 b, .int .u16 n] 40)))
  have HB := Lib.hid (((Below.refl w.heap.size w).alloc (Nat.le_refl _) (.cells #[.int .u8 o, .int .u8 a, .int .u8 b, .int .u16 n] 40)).trans (hb.mono (by simp)))
  have hsz : w.heap.size + 1 ≤ w1.heap.size := by have := hb.size; simpa using this
  have x1 : (w1.alloc (.cells #[.bool true, .bool true, .bool false] 72)).cell? ⟨w.heap.size, 1, none⟩ = some (.int .u8 a) := by rw [World.cell?_of_block (w := w1) (Below.heap_alloc _ _ _ (by dsimp only; omega)), blk_cell HN.out]; rfl
  have x2 : (w1.alloc (.cells #[.bool true, .bool true, .bool false] 72)).cell? ⟨w.heap.size, 2, none⟩ = some (.int .u8 b) := by rw [World.cell?_of_block (w := w1) (Below.heap_alloc _ _ _ (by dsimp only; omega)), blk_cell HN.out]; rfl
  have x3 : (w1.alloc (.cells #[.bool true, .bool true, .bool false] 72)).cell? ⟨w.heap.size, 3, none⟩ = some (.int .u16 n) := by rw [World.cell?_of_block (w := w1) (Below.heap_alloc _ _ _ (by dsimp only; omega)), blk_cell HN.out]; rfl
  clear hb
  go_wp2_with (first | (at_builtin; refine append1 (w1.heap.size + 1) rfl _ _ 62 64 .nilIface 16 rfl Tryd.underlying62 infoOpnd rfl (by decide) _ _ HO0' (.iface 107 (.int .u8 b)) rfl rfl (by first | rfl | simp) rfl HZ0.out (by first | decide | (simp [opndVs])) ?_; intro v1 W1 HO1 hg1 hat1; have HO1' : Own1 W1 (w1.heap.size + 1) 64 v1 (opndVs [.reg a, .reg b]) := HO1; have hb1 : Below (w1.heap.size + 1) (w1.alloc (.cells #[.bool true, .bool true, .bool false] 72)) W1 := HBk0.out.grownOwn HO0' hg1 HZ0.out; have HZ1 : Hid (w1.heap.size + 1 ≤ W1.heap.size) := (by have := hb1.size; rwa [World.size_alloc] at this); have y10 := (hb1.cell (p := ⟨w1.heap.size, 0, none⟩) (by simp)); have y11 := (hb1.cell (p := ⟨w1.heap.size, 1, none⟩) (by simp)); have y12 := (hb1.cell (p := ⟨w1.heap.size, 2, none⟩) (by simp)); rw [blk_cell (heap_alloc_new w1 _)] at y10 y11 y12; have z11 := (hb1.cell (p := ⟨w.heap.size, 1, none⟩) (by dsimp only; omega)).trans z01h.out; have z12 := (hb1.cell (p := ⟨w.heap.size, 2, none⟩) (by dsimp only; omega)).trans z02h.out; have z13 := (hb1.cell (p := ⟨w.heap.size, 3, none⟩) (by dsimp only; omega)).trans z03h.out; simp at y10 y11 y12; have HBk1 := Lib.hid hb1; clear hb1 HO1 hg1 hat1; have z11h := Lib.hid z01h.out; have z12h := Lib.hid z02h.out; have z13h := Lib.hid z03h.out) | (at_builtin; refine append1 (w1.heap.size + 1) rfl _ _ 62 64 .nilIface 16 rfl Tryd.underlying62 infoOpnd rfl (by decide) _ _ (Own1.nil _ _ _) (.iface 107 (.int .u8 a)) rfl rfl (by first | rfl | simp) rfl (by simp) (by first | decide | (simp [opndVs])) ?_; intro v0 W0 HO0 hg0 hat0; have HO0' : Own1 W0 (w1.heap.size + 1) 64 v0 (opndVs [.reg a]) := HO0; have hb0 : Below (w1.heap.size + 1) (w1.alloc (.cells #[.bool true, .bool true, .bool false] 72)) W0 := (Below.refl _ _).grown hg0 (by simp) (fun j hj => by simp [Value.ownBlock] at hj); have HZ0 : Hid (w1.heap.size + 1 ≤ W0.heap.size) := (by have := hb0.size; rwa [World.size_alloc] at this); have y00 := (hb0.cell (p := ⟨w1.heap.size, 0, none⟩) (by simp)); have y01 := (hb0.cell (p := ⟨w1.heap.size, 1, none⟩) (by simp)); have y02 := (hb0.cell (p := ⟨w1.heap.size, 2, none⟩) (by simp)); rw [blk_cell (heap_alloc_new w1 _)] at y00 y01 y02; have z01 := (hb0.cell (p := ⟨w.heap.size, 1, none⟩) (by dsimp only; omega)).trans x1; have z02 := (hb0.cell (p := ⟨w.heap.size, 2, none⟩) (by dsimp only; omega)).trans x2; have z03 := (hb0.cell (p := ⟨w.heap.size, 3, none⟩) (by dsimp only; omega)).trans x3; simp at y00 y01 y02; have HBk0 := Lib.hid hb0; clear hb0 HO0 hg0 hat0; have z01h := Lib.hid x1; have z02h := Lib.hid x2; have z03h := Lib.hid x3; clear x1 x2 x3))
  go_ret
  exact ⟨⟨_, rfl, HO1'.weaken (by omega)⟩, (HB.out.alloc (by omega) _).trans (HBk1.out.mono (by omega))⟩

set_option maxHeartbeats 800000 in
theorem operands_111 (o a b n : Int) (w : World) (hs : ∀ w, Calls Tryd.prog 41 #[.int .u8 o] w fun e w' => e = .returned (.agg #[.bool true, .bool true, .bool true]) ∧ Below w.heap.size w w') :
    Calls Tryd.prog 36 #[insV o a b n] w (OpsL w [.reg a, .reg b, .imm n]) := by
  have HS := Lib.hid hs
  clear hs
  unfold insV
  go_enter Tryd.func36, Tryd.ntmps36
  go_wp2_with fail
  refine (HS.out _).mono ?_
  rintro e w1 ⟨rfl, hb⟩
  have HN := Lib.hid ((hb.block w.heap.size (by simp)).trans (heap_alloc_new w (.cells #[.int .u8 o, .int .u8 a, .int .u8 b, .int .u16 n] 40)))
  have HB := Lib.hid (((Below.refl w.heap.size w).alloc (Nat.le_refl _) (.cells #[.int .u8 o, .int .u8 a, .int .u8 b, .int .u16 n] 40)).trans (hb.mono (by simp)))
  have hsz : w.heap.size + 1 ≤ w1.heap.size := by have := hb.size; simpa using this
  have x1 : (w1.alloc (.cells #[.bool true, .bool true, .bool true] 72)).cell? ⟨w.heap.size, 1, none⟩ = some (.int .u8 a) := by rw [World.cell?_of_block (w := w1) (Below.heap_alloc _ _ _ (by dsimp only; omega)), blk_cell HN.out]; rfl
  have x2 : (w1.alloc (.cells #[.bool true, .bool true, .bool true] 72)).cell? ⟨w.heap.size, 2, none⟩ = some (.int .u8 b) := by rw [World.cell?_of_block (w := w1) (Below.heap_alloc _ _ _ (by dsimp only; omega)), blk_cell HN.out]; rfl
  have x3 : (w1.alloc (.cells #[.bool true, .bool true, .bool true] 72)).cell? ⟨w.heap.size, 3, none⟩ = some (.int .u16 n) := by rw [World.cell?_of_block (w := w1) (Below.heap_alloc _ _ _ (by dsimp only; omega)), blk_cell HN.out]; rfl
  clear hb
  go_wp2_with (first | (at_builtin; refine append1 (w1.heap.size + 1) rfl _ _ 62 64 .nilIface 16 rfl Tryd.underlying62 infoOpnd rfl (by decide) _ _ HO1' (.iface 108 (.int .u16 n)) rfl rfl (by first | rfl | simp) rfl HZ1.out (by first | decide | (simp [opndVs])) ?_; intro v2 W2 HO2 hg2 hat2; have HO2' : Own1 W2 (w1.heap.size + 1) 64 v2 (opndVs [.reg a, .reg b, .imm n]) := HO2; have hb2 : Below (w1.heap.size + 1) (w1.alloc (.cells #[.bool true, .bool true, .bool true] 72)) W2 := HBk1.out.grownOwn HO1' hg2 HZ1.out; have HZ2 : Hid (w1.heap.size + 1 ≤ W2.heap.size) := (by have := hb2.size; rwa [World.size_alloc] at this); have y20 := (hb2.cell (p := ⟨w1.heap.size, 0, none⟩) (by simp)); have y21 := (hb2.cell (p := ⟨w1.heap.size, 1, none⟩) (by simp)); have y22 := (hb2.cell (p := ⟨w1.heap.size, 2, none⟩) (by simp)); rw [blk_cell (heap_alloc_new w1 _)] at y20 y21 y22; have z21 := (hb2.cell (p := ⟨w.heap.size, 1, none⟩) (by dsimp only; omega)).trans z11h.out; have z22 := (hb2.cell (p := ⟨w.heap.size, 2, none⟩) (by dsimp only; omega)).trans z12h.out; have z23 := (hb2.cell (p := ⟨w.heap.size, 3, none⟩) (by dsimp only; omega)).trans z13h.out; simp at y20 y21 y22; have HBk2 := Lib.hid hb2; clear hb2 HO2 hg2 hat2; have z21h := Lib.hid z11h.out; have z22h := Lib.hid z12h.out; have z23h := Lib.hid z13h.out) | (at_builtin; refine append1 (w1.heap.size + 1) rfl _ _ 62 64 .nilIface 16 rfl Tryd.underlying62 infoOpnd rfl (by decide) _ _ HO0' (.iface 107 (.int .u8 b)) rfl rfl (by first | rfl | simp) rfl HZ0.out (by first | decide | (simp [opndVs])) ?_; intro v1 W1 HO1 hg1 hat1; have HO1' : Own1 W1 (w1.heap.size + 1) 64 v1 (opndVs [.reg a, .reg b]) := HO1; have hb1 : Below (w1.heap.size + 1) (w1.alloc (.cells #[.bool true, .bool true, .bool true] 72)) W1 := HBk0.out.grownOwn HO0' hg1 HZ0.out; have HZ1 : Hid (w1.heap.size + 1 ≤ W1.heap.size) := (by have := hb1.size; rwa [World.size_alloc] at this); have y10 := (hb1.cell (p := ⟨w1.heap.size, 0, none⟩) (by simp)); have y11 := (hb1.cell (p := ⟨w1.heap.size, 1, none⟩) (by simp)); have y12 := (hb1.cell (p := ⟨w1.heap.size, 2, none⟩) (by simp)); rw [blk_cell (heap_alloc_new w1 _)] at y10 y11 y12; have z11 := (hb1.cell (p := ⟨w.heap.size, 1, none⟩) (by dsimp only; omega)).trans z01h.out; have z12 := (hb1.cell (p := ⟨w.heap.size, 2, none⟩) (by dsimp only; omega)).trans z02h.out; have z13 := (hb1.cell (p := ⟨w.heap.size, 3, none⟩) (by dsimp only; omega)).trans z03h.out; simp at y10 y11 y12; have HBk1 := Lib.hid hb1; clear hb1 HO1 hg1 hat1; have z11h := Lib.hid z01h.out; have z12h := Lib.hid z02h.out; have z13h := Lib.hid z03h.out) | (at_builtin; refine append1 (w1.heap.size + 1) rfl _ _ 62 64 .nilIface 16 rfl Tryd.underlying62 infoOpnd rfl (by decide) _ _ (Own1.nil _ _ _) (.iface 107 (.int .u8 a)) rfl rfl (by first | rfl | simp) rfl (by simp) (by first | decide | (simp [opndVs])) ?_; intro v0 W0 HO0 hg0 hat0; have HO0' : Own1 W0 (w1.heap.size + 1) 64 v0 (opndVs [.reg a]) := HO0; have hb0 : Below (w1.heap.size + 1) (w1.alloc (.cells #[.bool true, .bool true, .bool true] 72)) W0 := (Below.refl _ _).grown hg0 (by simp) (fun j hj => by simp [Value.ownBlock] at hj); have HZ0 : Hid (w1.heap.size + 1 ≤ W0.heap.size) := (by have := hb0.size; rwa [World.size_alloc] at this); have y00 := (hb0.cell (p := ⟨w1.heap.size, 0, none⟩) (by simp)); have y01 := (hb0.cell (p := ⟨w1.heap.size, 1, none⟩) (by simp)); have y02 := (hb0.cell (p := ⟨w1.heap.size, 2, none⟩) (by simp)); rw [blk_cell (heap_alloc_new w1 _)] at y00 y01 y02; have z01 := (hb0.cell (p := ⟨w.heap.size, 1, none⟩) (by dsimp only; omega)).trans x1; have z02 := (hb0.cell (p := ⟨w.heap.size, 2, none⟩) (by dsimp only; omega)).trans x2; have z03 := (hb0.cell (p := ⟨w.heap.size, 3, none⟩) (by dsimp only; omega)).trans x3; simp at y00 y01 y02; have HBk0 := Lib.hid hb0; clear hb0 HO0 hg0 hat0; have z01h := Lib.hid x1; have z02h := Lib.hid x2; have z03h := Lib.hid x3; clear x1 x2 x3))
  go_ret
  exact ⟨⟨_, rfl, HO2'.weaken (by omega)⟩, (HB.out.alloc (by omega) _).trans (HBk2.out.mono (by omega))⟩

theorem operands_ok (o a b n : Int) (h0 : 0 ≤ o) (w : World) : Calls Tryd.prog 36 #[insV o a b n] w (OpsL w (operandsOf o a b n)) := by
  have hs := shapeOf_ok o h0
  unfold operandsOf
  generalize shA o = x at *
  generalize shB o = y at *
  generalize shI o = z at *
  cases x <;> cases y <;> cases z
  · exact operands_000 o a b n w hs
  · exact operands_001 o a b n w hs
  · exact operands_010 o a b n w hs
  · exact operands_011 o a b n w hs
  · exact operands_100 o a b n w hs
  · exact operands_101 o a b n w hs
  · exact operands_110 o a b n w hs
  · exact operands_111 o a b n w hs
end Go.Proofs.YtjopikjefpenkaaDoor

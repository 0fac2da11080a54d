/- The document's processor: sums. -/
import Derived.Test.YtnkpfknilhgjgaaG7
import Derived.Test.YtnkpfknilhgjgaaG2
import Derived.Test.YtnkpfknilhgjgaaTg
import Derived.Test.YtnkpfknilhgjgaaG6
set_option linter.unusedSimpArgs false
set_option linter.unusedVariables false
namespace Go.Proofs.Ytnkpfknilhgjgaa
open Go.RowKit

set_option maxHeartbeats 1000000 in
theorem reckR_3 (a b : Int) (ha0 : 0 ≤ a) (ha1 : a ≤ 65535) (hb0 : 0 ≤ b) (hb1 : b ≤ 65535) (w : World) : Calls Try.prog 29 #[.int .u8 3, .int .u16 a, .int .u16 b] w fun e w' => e = .returned (.int .u16 (sumF 3 a b)) ∧ w = w' := by
  simp (config := { decide := true }) only [sumF, if_true, if_false, reduceIte]
  clear ha0 ha1 hb0 hb1
  go_enter Try.func29, Try.ntmps29
  go_wp2
  go_ret
  exact ⟨rfl, rfl⟩

set_option maxHeartbeats 1000000 in
theorem reckR_4 (a b : Int) (ha0 : 0 ≤ a) (ha1 : a ≤ 65535) (hb0 : 0 ≤ b) (hb1 : b ≤ 65535) (w : World) : Calls Try.prog 29 #[.int .u8 4, .int .u16 a, .int .u16 b] w fun e w' => e = .returned (.int .u16 (sumF 4 a b)) ∧ w = w' := by
  simp (config := { decide := true }) only [sumF, if_true, if_false, reduceIte]
  have HC := Lib.hid (fun w => rAdd_ok a b ha0 ha1 hb0 hb1 w)
  clear ha0 ha1 hb0
  go_enter Try.func29, Try.ntmps29
  go_wp2_with fail
  refine (HC.out _).mono ?_
  rintro e w1 ⟨rfl, rfl⟩
  go_wp2
  go_ret
  exact ⟨rfl, rfl⟩

set_option maxHeartbeats 1000000 in
theorem reckR_5 (a b : Int) (ha0 : 0 ≤ a) (ha1 : a ≤ 65535) (hb0 : 0 ≤ b) (hb1 : b ≤ 65535) (w : World) : Calls Try.prog 29 #[.int .u8 5, .int .u16 a, .int .u16 b] w fun e w' => e = .returned (.int .u16 (sumF 5 a b)) ∧ w = w' := by
  simp (config := { decide := true }) only [sumF, if_true, if_false, reduceIte]
  have HC := Lib.hid (fun w => rSub_ok a b ha0 ha1 hb0 hb1 w)
  clear ha0 ha1 hb0
  go_enter Try.func29, Try.ntmps29
  go_wp2_with fail
  refine (HC.out _).mono ?_
  rintro e w1 ⟨rfl, rfl⟩
  go_wp2
  go_ret
  exact ⟨rfl, rfl⟩

set_option maxHeartbeats 1000000 in
theorem reckR_6 (a b : Int) (ha0 : 0 ≤ a) (ha1 : a ≤ 65535) (hb0 : 0 ≤ b) (hb1 : b ≤ 65535) (w : World) : Calls Try.prog 29 #[.int .u8 6, .int .u16 a, .int .u16 b] w fun e w' => e = .returned (.int .u16 (sumF 6 a b)) ∧ w = w' := by
  simp (config := { decide := true }) only [sumF, if_true, if_false, reduceIte]
  have HC := Lib.hid (fun w => rMul_ok a b ha0 ha1 hb0 hb1 w)
  clear ha0 ha1 hb0
  go_enter Try.func29, Try.ntmps29
  go_wp2_with fail
  refine (HC.out _).mono ?_
  rintro e w1 ⟨rfl, rfl⟩
  go_wp2
  go_ret
  exact ⟨rfl, rfl⟩

set_option maxHeartbeats 1000000 in
theorem reckR_8 (a b : Int) (ha0 : 0 ≤ a) (ha1 : a ≤ 65535) (hb0 : 0 ≤ b) (hb1 : b ≤ 65535) (w : World) : Calls Try.prog 29 #[.int .u8 8, .int .u16 a, .int .u16 b] w fun e w' => e = .returned (.int .u16 (sumF 8 a b)) ∧ w = w' := by
  simp (config := { decide := true }) only [sumF, if_true, if_false, reduceIte]
  clear ha0 ha1 hb0 hb1
  go_enter Try.func29, Try.ntmps29
  go_wp2
  go_ret
  exact ⟨rfl, rfl⟩

set_option maxHeartbeats 1000000 in
theorem reckR_9 (a b : Int) (ha0 : 0 ≤ a) (ha1 : a ≤ 65535) (hb0 : 0 ≤ b) (hb1 : b ≤ 65535) (w : World) : Calls Try.prog 29 #[.int .u8 9, .int .u16 a, .int .u16 b] w fun e w' => e = .returned (.int .u16 (sumF 9 a b)) ∧ w = w' := by
  simp (config := { decide := true }) only [sumF, if_true, if_false, reduceIte]
  clear ha0 ha1 hb0 hb1
  go_enter Try.func29, Try.ntmps29
  go_wp2
  go_ret
  exact ⟨rfl, rfl⟩

set_option maxHeartbeats 1000000 in
theorem reckR_10 (a b : Int) (ha0 : 0 ≤ a) (ha1 : a ≤ 65535) (hb0 : 0 ≤ b) (hb1 : b ≤ 65535) (w : World) : Calls Try.prog 29 #[.int .u8 10, .int .u16 a, .int .u16 b] w fun e w' => e = .returned (.int .u16 (sumF 10 a b)) ∧ w = w' := by
  simp (config := { decide := true }) only [sumF, if_true, if_false, reduceIte]
  clear ha0 ha1 hb0 hb1
  go_enter Try.func29, Try.ntmps29
  go_wp2
  go_ret
  exact ⟨rfl, rfl⟩

set_option maxHeartbeats 1000000 in
theorem reckR_11 (a b : Int) (ha0 : 0 ≤ a) (ha1 : a ≤ 65535) (hb0 : 0 ≤ b) (hb1 : b ≤ 65535) (w : World) : Calls Try.prog 29 #[.int .u8 11, .int .u16 a, .int .u16 b] w fun e w' => e = .returned (.int .u16 (sumF 11 a b)) ∧ w = w' := by
  simp (config := { decide := true }) only [sumF, if_true, if_false, reduceIte]
  have HC := Lib.hid (fun w => rShl_ok a b ha0 ha1 hb0 (by omega) w)
  have HE : IntKind.i64.wrap b = b := by simp [IntKind.wrap_i64]; omega
  clear ha0 ha1 hb0
  go_enter Try.func29, Try.ntmps29
  go_wp2_with fail
  refine (HC.out _).mono ?_
  rintro e w1 ⟨rfl, rfl⟩
  go_wp2
  go_ret
  exact ⟨rfl, rfl⟩

set_option maxHeartbeats 1000000 in
theorem reckR_12 (a b : Int) (ha0 : 0 ≤ a) (ha1 : a ≤ 65535) (hb0 : 0 ≤ b) (hb1 : b ≤ 65535) (w : World) : Calls Try.prog 29 #[.int .u8 12, .int .u16 a, .int .u16 b] w fun e w' => e = .returned (.int .u16 (sumF 12 a b)) ∧ w = w' := by
  simp (config := { decide := true }) only [sumF, if_true, if_false, reduceIte]
  have HC := Lib.hid (fun w => rShr_ok a b ha0 ha1 hb0 (by omega) w)
  have HE : IntKind.i64.wrap b = b := by simp [IntKind.wrap_i64]; omega
  clear ha0 ha1 hb0
  go_enter Try.func29, Try.ntmps29
  go_wp2_with fail
  refine (HC.out _).mono ?_
  rintro e w1 ⟨rfl, rfl⟩
  go_wp2
  go_ret
  exact ⟨rfl, rfl⟩

end Go.Proofs.Ytnkpfknilhgjgaa
/- Words and deeds, as calls of the plain machine. -/
namespace Go.Proofs.Ytnkpfknilhgjgaa
open Go.RowKit
theorem draw_at {P : Program} {ops : Array Oper} {e : Env} {h : List PO} {K : Env → List PO → Prop} (L : List (Nat × Nat)) (hL : drawPairs ops = L) (k : pd P ops (fun e' h' ws => (∀ p ∈ L, apartAt P e' ops p) ∧ match happly h' ws with
    | some h2 => K e' h2
    | none => False) ops.toList e h []) : pdraw P ops e h K := ⟨L, hL, k⟩
@[congr] theorem pdraw_congr {P : Program} {ops : Array Oper} {e e' : Env} {h h' : List PO} {K : Env → List PO → Prop} (h1 : e = e') (h2 : h = h') : pdraw P ops e h K = pdraw P ops e' h' K := by rw [h1, h2]
theorem callable {P : Program} {f : FuncId} {fn : Func} {body : Code} (hf : P.funcs[f]? = some fn) (hb : fn.body = some body) (hn : fn.name ≠ "runtime.NumGoroutine") : Callable P f := ⟨fn, hf, hn, by rw [hb]; rfl⟩
theorem Fn.only {P : Program} {f : FuncId} {args : List Value} {v : Value} (hc : Callable P f) (ha : flats args = true) (hv : flat 6 v = true) (q : ∀ w, Calls P f args.toArray w fun e w' => e = .returned v ∧ Only [] w w') : Fn P f args v :=
  Fn.of_calls hc ha hv fun w => (q w).mono fun _ _ ⟨h1, h2⟩ => ⟨h1, h2.below (Nat.le_refl _) (by simp)⟩
theorem Fn.same {P : Program} {f : FuncId} {args : List Value} {v : Value} (hc : Callable P f) (ha : flats args = true) (hv : flat 6 v = true) (q : ∀ w, Calls P f args.toArray w fun e w' => e = .returned v ∧ w = w') : Fn P f args v :=
  Fn.of_calls hc ha hv fun w => (q w).mono fun _ _ ⟨h1, h2⟩ => ⟨h1, by subst h2; exact Below.refl _ _⟩
theorem fnAdd (a b : Int) : Fn Try.prog 26 [.int .u16 a, .int .u16 b] (.tuple #[.int .u16 ((a + b) % 65536), .bool (decide ((a + b) % 65536 < a))]) := Fn.same (callable Try.func26 rfl (by decide)) rfl rfl (wAdd_ok a b)
theorem fnRAdd (a b : Int) (h0 : 0 ≤ a) (h1 : a ≤ 65535) (h2 : 0 ≤ b) (h3 : b ≤ 65535) : Fn Try.prog 27 [.int .u16 a, .int .u16 b] (.tuple #[.int .u16 ((a + b) % 65536), .bool (decide (65536 ≤ a + b))]) := Fn.same (callable Try.func27 rfl (by decide)) rfl rfl (rAdd_ok a b h0 h1 h2 h3)
theorem fnRight (o a b n : Int) (h0 : 0 ≤ o) : Fn Try.prog 24 [insV o a b n] (.bool (decide (okF o a b n))) := Fn.of_calls (callable Try.func24 rfl (by decide)) rfl rfl (right_ok o a b n h0)
theorem fnRRight (o a b n : Int) (h0 : 0 ≤ o) : Fn Try.prog 23 [insV o a b n] (.bool (decide (okF o a b n))) := Fn.of_calls (callable Try.func23 rfl (by decide)) rfl rfl (rightR_ok o a b n h0)
theorem Dd.flat (d : Dd) : flat 6 d.val = true := by cases d <;> rfl
theorem fnDeed (r : Nat → Int) (hr : RegsOk r) (o a b n : Int) (h0 : 0 ≤ o) (h1 : o ≤ 23) (ha0 : 0 ≤ a) (ha : a < 8) (hb0 : 0 ≤ b) (hb : b < 8) : Fn Try.prog 25 [regsV r, insV o a b n] (deedF r o a b n).val := Fn.only (callable Try.func25 rfl (by decide)) rfl (Dd.flat _) (deed_ok r hr o a b n h0 h1 ha0 ha hb0 hb)
end Go.Proofs.Ytnkpfknilhgjgaa

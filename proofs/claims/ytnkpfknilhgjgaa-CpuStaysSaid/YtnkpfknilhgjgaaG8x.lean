/- cpu.Exec, by the plain machine. -/
import Derived.Test.YtnkpfknilhgjgaaG8
import Derived.Test.YtnkpfknilhgjgaaGq
set_option linter.unusedSimpArgs false
set_option linter.unusedVariables false
namespace Go.Proofs.Ytnkpfknilhgjgaa
open Go.RowKit
def upd (r : Nat → Int) (i : Nat) (v : Int) : Nat → Int := fun k => if k = i then v else r k
def stepR (r : Nat → Int) : Nat → Int := upd r 0 ((r 0 + 4) % 65536)
def Dd.done (r : Nat → Int) : Dd → (Nat → Int) × Acc
  | .nothing => (stepR r, ⟨0, 0, 0, 0, 0⟩)
  | .put a v => (upd (stepR r) (1 + a.toNat) v, ⟨0, 0, 0, 0, 0⟩)
  | .leap t l => (upd (if l then upd (stepR r) 8 ((r 0 + 4) % 65536) else stepR r) 0 t, ⟨0, 0, 0, 0, 0⟩)
  | .ask x => (stepR r, x)
  | .stop x => (r, x)
def execF (r : Nat → Int) (o a b n : Int) : (Nat → Int) × Acc := if okF o a b n then (deedF r o a b n).done r else (r, ⟨7, 0, 0, 0, 3⟩)
def regL (r : Nat → Int) : List Value := [.int .u16 (r 0), .int .u16 (r 1), .int .u16 (r 2), .int .u16 (r 3), .int .u16 (r 4), .int .u16 (r 5), .int .u16 (r 6), .int .u16 (r 7), .int .u16 (r 8)]
@[simp] theorem regL_len (r : Nat → Int) : (regL r).length = 9 := rfl
@[simp] theorem regV_cells (r : Nat → Int) : (regsV r).cells.toList = regL r := rfl
@[simp] theorem regL_take (r : Nat → Int) : (regL r).take 9 = regL r := rfl
@[simp] theorem regL_agg (r : Nat → Int) : Value.agg (regL r).toArray = regsV r := rfl
theorem regL_get (r : Nat → Int) {i : Nat} (h : i < 9) : (regL r)[i]? = some (.int .u16 (r i)) := by
  obtain rfl | rfl | rfl | rfl | rfl | rfl | rfl | rfl | rfl : i = 0 ∨ i = 1 ∨ i = 2 ∨ i = 3 ∨ i = 4 ∨ i = 5 ∨ i = 6 ∨ i = 7 ∨ i = 8 := by omega
  all_goals rfl
@[simp] theorem regL_getE (r : Nat → Int) {i : Nat} (h : i < (regL r).length) : (regL r)[i] = .int .u16 (r i) := by
  have := regL_get r (i := i) h
  rw [List.getElem?_eq_getElem h] at this
  exact Option.some.inj this
@[simp] theorem regL_0 (r : Nat → Int) : (regL r)[0]? = some (.int .u16 (r 0)) := rfl
@[simp] theorem regL_8 (r : Nat → Int) : (regL r)[8]? = some (.int .u16 (r 8)) := rfl
theorem regL_set (r : Nat → Int) {i : Nat} (h : i < 9) (v : Int) : laid (regL r) [.int .u16 v] i = regL (upd r i v) := by
  obtain rfl | rfl | rfl | rfl | rfl | rfl | rfl | rfl | rfl : i = 0 ∨ i = 1 ∨ i = 2 ∨ i = 3 ∨ i = 4 ∨ i = 5 ∨ i = 6 ∨ i = 7 ∨ i = 8 := by omega
  all_goals rfl
@[simp] theorem regL_all (r q : Nat → Int) : laid (regL r) (regL q) 0 = regL q := rfl
@[simp] theorem regV_size (r : Nat → Int) : (regsV r).cells.size = 9 := rfl
@[simp] theorem regV_one (r : Nat → Int) : (∀ u ∈ (regsV r).cells, u.oneCell' = true) = True := by simp [regsV]
@[simp] theorem laid_regs (cs : List Value) (h : cs.length = 9) (r : Nat → Int) : laid cs (regL r) 0 = regL r := laid_all _ _ h
@[simp] theorem upd_at (r : Nat → Int) (i : Nat) (v : Int) : upd r i v i = v := if_pos rfl
theorem regL_one (r : Nat → Int) : ∀ u ∈ regL r, u.oneCell' = true := by simp [regL, Value.oneCell']
@[simp] theorem regL_one' (r : Nat → Int) : (∀ u ∈ regL r, u.oneCell' = true) = True := eq_true (regL_one r)
set_option maxRecDepth 100000
set_option maxHeartbeats 4000000
theorem exec_bad (r : Nat → Int) (o a b n : Int) (h0 : 0 ≤ o) (hok : ¬ okF o a b n) : PC Try.prog 10 [regsV r, insV o a b n] [] (fun v _ => v = .tuple #[regsV r, (⟨7, 0, 0, 0, 3⟩ : Acc).val]) fun _ _ => False := by
  refine pc_of Try.func10 rfl (by decide) (by kernel_rfl) (by show 2 ≤ _; decide) (SW.of mixed _ _ _ ?_)
  simp -implicitDefEqProofs [insV]
  refine (fnRight o a b n h0).k ?_
  simp -implicitDefEqProofs [hok, Acc.val]
def Dd.regIs (a : Int) : Dd → Prop
  | .put a' _ => a' = a
  | _ => True
theorem regIs_ite (a : Int) (c : Prop) [Decidable c] (x y : Dd) (hx : x.regIs a) (hy : y.regIs a) : (if c then x else y).regIs a := by
  by_cases h : c
  · rw [if_pos h]; exact hx
  · rw [if_neg h]; exact hy
theorem deed_reg (r : Nat → Int) (o a b n : Int) : (deedF r o a b n).regIs a := by
  unfold deedF
  repeat' (first | apply regIs_ite | exact trivial | exact rfl)
theorem exec_good (r : Nat → Int) (hr : RegsOk r) (o a b n : Int) (h0 : 0 ≤ o) (ha0 : 0 ≤ a) (hb0 : 0 ≤ b) (hok : okF o a b n) : PC Try.prog 10 [regsV r, insV o a b n] [] (fun v _ => v = .tuple #[regsV ((deedF r o a b n).done r).1, ((deedF r o a b n).done r).2.val]) fun _ _ => False := by
  refine pc_of Try.func10 rfl (by decide) (by kernel_rfl) (by show 2 ≤ _; decide) (SW.of mixed _ _ _ ?_)
  simp -implicitDefEqProofs [insV]
  refine (fnRight o a b n h0).k ?_
  simp -implicitDefEqProofs [hok]
  refine (fnDeed r hr o a b n h0 hok.1 ha0 hok.2.1 hb0 hok.2.2.1).k ?_
  have hreg := deed_reg r o a b n
  have ha := hok.2.1
  generalize deedF r o a b n = d at hreg
  cases d with
  | nothing =>
    simp -implicitDefEqProofs [Dd.val]
    refine (fnAdd _ _).k ?_
    simp -implicitDefEqProofs [regL_set, Dd.done, Acc.val, stepR]
  | put x v =>
    cases hreg
    simp -implicitDefEqProofs [Dd.val]
    refine (fnAdd _ _).k ?_
    obtain ⟨k, rfl⟩ := Int.eq_ofNat_of_zero_le ha0
    have hk : k < 8 := by omega
    have hk' : 1 + k < 9 := by omega
    have hk2 : (k : Int) < 8 := by omega
    have hk3 : 1 + k ≤ 8 := by omega
    simp -implicitDefEqProofs [regL_set, Dd.done, Acc.val, stepR, hk, hk', hk2, hk3]
  | leap t l =>
    simp -implicitDefEqProofs [Dd.val]
    refine (fnAdd _ _).k ?_
    cases l <;> simp [regL_set, Dd.done, Acc.val, stepR]
  | ask x =>
    simp -implicitDefEqProofs [Dd.val]
    refine (fnAdd _ _).k ?_
    simp -implicitDefEqProofs [regL_set, Dd.done, Acc.val, stepR]
    refine pdk_at [(3, 2)] (by kernel_rfl) ?_
    simp -implicitDefEqProofs
    exact ⟨rfl, rfl⟩
  | stop x =>
    simp -implicitDefEqProofs [Dd.val, Acc.val]
    refine pdk_at [(3, 2)] (by kernel_rfl) ?_
    simp -implicitDefEqProofs
    exact ⟨rfl, rfl⟩
theorem fnExec (r : Nat → Int) (hr : RegsOk r) (o a b n : Int) (h0 : 0 ≤ o) (ha0 : 0 ≤ a) (hb0 : 0 ≤ b) : Fn Try.prog 10 [regsV r, insV o a b n] (.tuple #[regsV (execF r o a b n).1, (execF r o a b n).2.val]) := by
  refine Fn.of ?_ rfl rfl
  by_cases hok : okF o a b n
  · have := exec_good r hr o a b n h0 ha0 hb0 hok
    unfold execF
    rw [if_pos hok]; exact this
  · have := exec_bad r o a b n h0 hok
    unfold execF
    rw [if_neg hok]; exact this
end Go.Proofs.Ytnkpfknilhgjgaa
/- ref05.Exec, by the plain machine. -/
namespace Go.Proofs.Ytnkpfknilhgjgaa
open Go.RowKit
set_option maxRecDepth 100000
set_option maxHeartbeats 4000000
theorem fnRDiv (a b : Int) (h0 : 0 ≤ a) (h1 : a ≤ 65535) (h2 : 0 < b) (h3 : b ≤ 65535) : Fn Try.prog 28 [.int .u16 a, .int .u16 b] (.tuple #[.int .u16 (a / b), .int .u16 (a % b), .int .i64 0]) := Fn.only (callable Try.func28 rfl (by decide)) rfl rfl (rDiv_ok a b h0 h1 h2 h3)
theorem fnRDiv0 (a : Int) : Fn Try.prog 28 [.int .u16 a, .int .u16 0] (.tuple #[.int .u16 0, .int .u16 0, .int .i64 14]) := Fn.same (callable Try.func28 rfl (by decide)) rfl rfl (rDiv_zero a)
theorem fnReck3 (a b : Int) (ha0 : 0 ≤ a) (ha1 : a ≤ 65535) (hb0 : 0 ≤ b) (hb1 : b ≤ 65535) : Fn Try.prog 29 [.int .u8 3, .int .u16 a, .int .u16 b] (.int .u16 (sumF 3 a b)) := Fn.same (callable Try.func29 rfl (by decide)) rfl rfl (reckR_3 a b ha0 ha1 hb0 hb1)
theorem fnReck4 (a b : Int) (ha0 : 0 ≤ a) (ha1 : a ≤ 65535) (hb0 : 0 ≤ b) (hb1 : b ≤ 65535) : Fn Try.prog 29 [.int .u8 4, .int .u16 a, .int .u16 b] (.int .u16 (sumF 4 a b)) := Fn.same (callable Try.func29 rfl (by decide)) rfl rfl (reckR_4 a b ha0 ha1 hb0 hb1)
theorem fnReck5 (a b : Int) (ha0 : 0 ≤ a) (ha1 : a ≤ 65535) (hb0 : 0 ≤ b) (hb1 : b ≤ 65535) : Fn Try.prog 29 [.int .u8 5, .int .u16 a, .int .u16 b] (.int .u16 (sumF 5 a b)) := Fn.same (callable Try.func29 rfl (by decide)) rfl rfl (reckR_5 a b ha0 ha1 hb0 hb1)
theorem fnReck6 (a b : Int) (ha0 : 0 ≤ a) (ha1 : a ≤ 65535) (hb0 : 0 ≤ b) (hb1 : b ≤ 65535) : Fn Try.prog 29 [.int .u8 6, .int .u16 a, .int .u16 b] (.int .u16 (sumF 6 a b)) := Fn.same (callable Try.func29 rfl (by decide)) rfl rfl (reckR_6 a b ha0 ha1 hb0 hb1)
theorem fnReck8 (a b : Int) (ha0 : 0 ≤ a) (ha1 : a ≤ 65535) (hb0 : 0 ≤ b) (hb1 : b ≤ 65535) : Fn Try.prog 29 [.int .u8 8, .int .u16 a, .int .u16 b] (.int .u16 (sumF 8 a b)) := Fn.same (callable Try.func29 rfl (by decide)) rfl rfl (reckR_8 a b ha0 ha1 hb0 hb1)
theorem fnReck9 (a b : Int) (ha0 : 0 ≤ a) (ha1 : a ≤ 65535) (hb0 : 0 ≤ b) (hb1 : b ≤ 65535) : Fn Try.prog 29 [.int .u8 9, .int .u16 a, .int .u16 b] (.int .u16 (sumF 9 a b)) := Fn.same (callable Try.func29 rfl (by decide)) rfl rfl (reckR_9 a b ha0 ha1 hb0 hb1)
theorem fnReck10 (a b : Int) (ha0 : 0 ≤ a) (ha1 : a ≤ 65535) (hb0 : 0 ≤ b) (hb1 : b ≤ 65535) : Fn Try.prog 29 [.int .u8 10, .int .u16 a, .int .u16 b] (.int .u16 (sumF 10 a b)) := Fn.same (callable Try.func29 rfl (by decide)) rfl rfl (reckR_10 a b ha0 ha1 hb0 hb1)
theorem fnReck11 (a b : Int) (ha0 : 0 ≤ a) (ha1 : a ≤ 65535) (hb0 : 0 ≤ b) (hb1 : b ≤ 65535) : Fn Try.prog 29 [.int .u8 11, .int .u16 a, .int .u16 b] (.int .u16 (sumF 11 a b)) := Fn.same (callable Try.func29 rfl (by decide)) rfl rfl (reckR_11 a b ha0 ha1 hb0 hb1)
theorem fnReck12 (a b : Int) (ha0 : 0 ≤ a) (ha1 : a ≤ 65535) (hb0 : 0 ≤ b) (hb1 : b ≤ 65535) : Fn Try.prog 29 [.int .u8 12, .int .u16 a, .int .u16 b] (.int .u16 (sumF 12 a b)) := Fn.same (callable Try.func29 rfl (by decide)) rfl rfl (reckR_12 a b ha0 ha1 hb0 hb1)
theorem rexec_bad (r : Nat → Int) (o a b n : Int) (h0 : 0 ≤ o) (hok : ¬ okF o a b n) : PC Try.prog 11 [regsV r, insV o a b n] [] (fun v _ => v = .tuple #[regsV r, (⟨7, 0, 0, 0, 3⟩ : Acc).val]) fun _ _ => False := by
  refine pc_of Try.func11 rfl (by decide) (by kernel_rfl) (by show 2 ≤ _; decide) (SW.of mixed _ _ _ ?_)
  simp -implicitDefEqProofs [insV]
  refine (fnRRight o a b n h0).k ?_
  simp -implicitDefEqProofs [hok, Acc.val]
end Go.Proofs.Ytnkpfknilhgjgaa

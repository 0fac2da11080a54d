/- ref05.Exec, by the plain machine. -/
import Derived.Test.YtnkpfknilhgjgaaG8x
import Derived.Test.YtnkpfknilhgjgaaG9
set_option linter.unusedSimpArgs false
set_option linter.unusedVariables false
namespace Go.Proofs.Ytnkpfknilhgjgaa
open Go.RowKit
set_option maxRecDepth 100000
set_option maxHeartbeats 4000000
theorem rexec_12 (r : Nat → Int) (hr : RegsOk r) (a b n : Int) (ha0 : 0 ≤ a) (hb0 : 0 ≤ b) (hn0 : 0 ≤ n) (hn1 : n ≤ 65535) (hok : okF 12 a b n) : PC Try.prog 11 [regsV r, insV 12 a b n] [] (fun v _ => v = .tuple #[regsV ((deedF r 12 a b n).done r).1, ((deedF r 12 a b n).done r).2.val]) fun _ _ => False := by
  refine pc_of Try.func11 rfl (by decide) (by kernel_rfl) (by show 2 ≤ _; decide) (SW.of mixed _ _ _ ?_)
  have ho := hok.1
  have ha := hok.2.1
  have hb := hok.2.2.1
  obtain ⟨i, rfl⟩ := Int.eq_ofNat_of_zero_le ha0
  obtain ⟨j, rfl⟩ := Int.eq_ofNat_of_zero_le hb0
  have hi : 1 + i < 9 := by omega
  have hj : 1 + j < 9 := by omega
  have hi2 : (i : Int) < 8 := ha
  have hj2 : (j : Int) < 8 := hb
  have hi3 : 1 + i ≤ 8 := by omega
  have hj3 : 1 + j ≤ 8 := by omega
  have hi4 : i < 8 := by omega
  have hj4 : j < 8 := by omega
  have p0 := hr 0
  have pi := hr (1 + i)
  have pj := hr (1 + j)
  simp -implicitDefEqProofs [insV]
  refine (fnRRight 12 i j n (by decide)).k ?_
  simp -implicitDefEqProofs [hok]
  refine pdk_at [] (by kernel_rfl) ?_
  simp -implicitDefEqProofs [regL_get, hi, hj, hi2, hj2, hi4, hj4]
  refine (fnRAdd (r 0) 4 p0.1 p0.2 (by omega) (by omega)).k ?_
  simp -implicitDefEqProofs [regL_set]
  refine (fnRAdd (r (1 + j)) n pj.1 pj.2 hn0 hn1).k ?_
  clear hok
  · simp -implicitDefEqProofs [regL_set, regL_get, Dd.done, Acc.val, stepR, deedF, accF, hi, hj, hi2, hj2, hi3, hj3, hi4, hj4]
    refine pdk_at [] (by kernel_rfl) ?_
    simp -implicitDefEqProofs [regL_set, regL_get, Dd.done, Acc.val, stepR, deedF, accF, hi, hj, hi2, hj2, hi3, hj3, hi4, hj4]
    refine (fnReck12 (r (1 + i)) (r (1 + j)) pi.1 pi.2 pj.1 pj.2).kq ?_
    simp -implicitDefEqProofs [regL_set, regL_get, Dd.done, Acc.val, stepR, deedF, accF, hi, hj, hi2, hj2, hi3, hj3, hi4, hj4]
theorem rexec_13 (r : Nat → Int) (hr : RegsOk r) (a b n : Int) (ha0 : 0 ≤ a) (hb0 : 0 ≤ b) (hn0 : 0 ≤ n) (hn1 : n ≤ 65535) (hok : okF 13 a b n) : PC Try.prog 11 [regsV r, insV 13 a b n] [] (fun v _ => v = .tuple #[regsV ((deedF r 13 a b n).done r).1, ((deedF r 13 a b n).done r).2.val]) fun _ _ => False := by
  refine pc_of Try.func11 rfl (by decide) (by kernel_rfl) (by show 2 ≤ _; decide) (SW.of mixed _ _ _ ?_)
  have ho := hok.1
  have ha := hok.2.1
  have hb := hok.2.2.1
  obtain ⟨i, rfl⟩ := Int.eq_ofNat_of_zero_le ha0
  obtain ⟨j, rfl⟩ := Int.eq_ofNat_of_zero_le hb0
  have hi : 1 + i < 9 := by omega
  have hj : 1 + j < 9 := by omega
  have hi2 : (i : Int) < 8 := ha
  have hj2 : (j : Int) < 8 := hb
  have hi3 : 1 + i ≤ 8 := by omega
  have hj3 : 1 + j ≤ 8 := by omega
  have hi4 : i < 8 := by omega
  have hj4 : j < 8 := by omega
  have p0 := hr 0
  have pi := hr (1 + i)
  have pj := hr (1 + j)
  simp -implicitDefEqProofs [insV]
  refine (fnRRight 13 i j n (by decide)).k ?_
  simp -implicitDefEqProofs [hok]
  refine pdk_at [] (by kernel_rfl) ?_
  simp -implicitDefEqProofs [regL_get, hi, hj, hi2, hj2, hi4, hj4]
  refine (fnRAdd (r 0) 4 p0.1 p0.2 (by omega) (by omega)).k ?_
  simp -implicitDefEqProofs [regL_set]
  refine (fnRAdd (r (1 + j)) n pj.1 pj.2 hn0 hn1).k ?_
  clear hok
  · simp -implicitDefEqProofs [regL_set, regL_get, Dd.done, Acc.val, stepR, deedF, accF, hi, hj, hi2, hj2, hi3, hj3, hi4, hj4]
    refine pdk_at [(5, 3)] (by kernel_rfl) ?_
    simp -implicitDefEqProofs [regL_set, regL_get, Dd.done, Acc.val, stepR, deedF, accF, hi, hj, hi2, hj2, hi3, hj3, hi4, hj4]
theorem rexec_14 (r : Nat → Int) (hr : RegsOk r) (a b n : Int) (ha0 : 0 ≤ a) (hb0 : 0 ≤ b) (hn0 : 0 ≤ n) (hn1 : n ≤ 65535) (hok : okF 14 a b n) : PC Try.prog 11 [regsV r, insV 14 a b n] [] (fun v _ => v = .tuple #[regsV ((deedF r 14 a b n).done r).1, ((deedF r 14 a b n).done r).2.val]) fun _ _ => False := by
  refine pc_of Try.func11 rfl (by decide) (by kernel_rfl) (by show 2 ≤ _; decide) (SW.of mixed _ _ _ ?_)
  have ho := hok.1
  have ha := hok.2.1
  have hb := hok.2.2.1
  obtain ⟨i, rfl⟩ := Int.eq_ofNat_of_zero_le ha0
  obtain ⟨j, rfl⟩ := Int.eq_ofNat_of_zero_le hb0
  have hi : 1 + i < 9 := by omega
  have hj : 1 + j < 9 := by omega
  have hi2 : (i : Int) < 8 := ha
  have hj2 : (j : Int) < 8 := hb
  have hi3 : 1 + i ≤ 8 := by omega
  have hj3 : 1 + j ≤ 8 := by omega
  have hi4 : i < 8 := by omega
  have hj4 : j < 8 := by omega
  have p0 := hr 0
  have pi := hr (1 + i)
  have pj := hr (1 + j)
  simp -implicitDefEqProofs [insV]
  refine (fnRRight 14 i j n (by decide)).k ?_
  simp -implicitDefEqProofs [hok]
  refine pdk_at [] (by kernel_rfl) ?_
  simp -implicitDefEqProofs [regL_get, hi, hj, hi2, hj2, hi4, hj4]
  refine (fnRAdd (r 0) 4 p0.1 p0.2 (by omega) (by omega)).k ?_
  simp -implicitDefEqProofs [regL_set]
  refine (fnRAdd (r (1 + j)) n pj.1 pj.2 hn0 hn1).k ?_
  clear hok
  · simp -implicitDefEqProofs [regL_set, regL_get, Dd.done, Acc.val, stepR, deedF, accF, hi, hj, hi2, hj2, hi3, hj3, hi4, hj4]
theorem rexec_15 (r : Nat → Int) (hr : RegsOk r) (a b n : Int) (ha0 : 0 ≤ a) (hb0 : 0 ≤ b) (hn0 : 0 ≤ n) (hn1 : n ≤ 65535) (hok : okF 15 a b n) : PC Try.prog 11 [regsV r, insV 15 a b n] [] (fun v _ => v = .tuple #[regsV ((deedF r 15 a b n).done r).1, ((deedF r 15 a b n).done r).2.val]) fun _ _ => False := by
  refine pc_of Try.func11 rfl (by decide) (by kernel_rfl) (by show 2 ≤ _; decide) (SW.of mixed _ _ _ ?_)
  have ho := hok.1
  have ha := hok.2.1
  have hb := hok.2.2.1
  obtain ⟨i, rfl⟩ := Int.eq_ofNat_of_zero_le ha0
  obtain ⟨j, rfl⟩ := Int.eq_ofNat_of_zero_le hb0
  have hi : 1 + i < 9 := by omega
  have hj : 1 + j < 9 := by omega
  have hi2 : (i : Int) < 8 := ha
  have hj2 : (j : Int) < 8 := hb
  have hi3 : 1 + i ≤ 8 := by omega
  have hj3 : 1 + j ≤ 8 := by omega
  have hi4 : i < 8 := by omega
  have hj4 : j < 8 := by omega
  have p0 := hr 0
  have pi := hr (1 + i)
  have pj := hr (1 + j)
  simp -implicitDefEqProofs [insV]
  refine (fnRRight 15 i j n (by decide)).k ?_
  simp -implicitDefEqProofs [hok]
  refine pdk_at [] (by kernel_rfl) ?_
  simp -implicitDefEqProofs [regL_get, hi, hj, hi2, hj2, hi4, hj4]
  refine (fnRAdd (r 0) 4 p0.1 p0.2 (by omega) (by omega)).k ?_
  simp -implicitDefEqProofs [regL_set]
  refine (fnRAdd (r (1 + j)) n pj.1 pj.2 hn0 hn1).k ?_
  clear hok
  · simp -implicitDefEqProofs [regL_set, regL_get, Dd.done, Acc.val, stepR, deedF, accF, hi, hj, hi2, hj2, hi3, hj3, hi4, hj4]
    refine pdk_at [(5, 3)] (by kernel_rfl) ?_
    simp -implicitDefEqProofs [regL_set, regL_get, Dd.done, Acc.val, stepR, deedF, accF, hi, hj, hi2, hj2, hi3, hj3, hi4, hj4]
end Go.Proofs.Ytnkpfknilhgjgaa
/- ref05.Exec, by the plain machine. -/
namespace Go.Proofs.Ytnkpfknilhgjgaa
open Go.RowKit
set_option maxRecDepth 100000
set_option maxHeartbeats 4000000
theorem rexec_16 (r : Nat → Int) (hr : RegsOk r) (a b n : Int) (ha0 : 0 ≤ a) (hb0 : 0 ≤ b) (hn0 : 0 ≤ n) (hn1 : n ≤ 65535) (hok : okF 16 a b n) : PC Try.prog 11 [regsV r, insV 16 a b n] [] (fun v _ => v = .tuple #[regsV ((deedF r 16 a b n).done r).1, ((deedF r 16 a b n).done r).2.val]) fun _ _ => False := by
  refine pc_of Try.func11 rfl (by decide) (by kernel_rfl) (by show 2 ≤ _; decide) (SW.of mixed _ _ _ ?_)
  have ho := hok.1
  have ha := hok.2.1
  have hb := hok.2.2.1
  obtain ⟨i, rfl⟩ := Int.eq_ofNat_of_zero_le ha0
  obtain ⟨j, rfl⟩ := Int.eq_ofNat_of_zero_le hb0
  have hi : 1 + i < 9 := by omega
  have hj : 1 + j < 9 := by omega
  have hi2 : (i : Int) < 8 := ha
  have hj2 : (j : Int) < 8 := hb
  have hi3 : 1 + i ≤ 8 := by omega
  have hj3 : 1 + j ≤ 8 := by omega
  have hi4 : i < 8 := by omega
  have hj4 : j < 8 := by omega
  have p0 := hr 0
  have pi := hr (1 + i)
  have pj := hr (1 + j)
  simp -implicitDefEqProofs [insV]
  refine (fnRRight 16 i j n (by decide)).k ?_
  simp -implicitDefEqProofs [hok]
  refine pdk_at [] (by kernel_rfl) ?_
  simp -implicitDefEqProofs [regL_get, hi, hj, hi2, hj2, hi4, hj4]
  refine (fnRAdd (r 0) 4 p0.1 p0.2 (by omega) (by omega)).k ?_
  simp -implicitDefEqProofs [regL_set]
  refine (fnRAdd (r (1 + j)) n pj.1 pj.2 hn0 hn1).k ?_
  clear hok
  · simp -implicitDefEqProofs [regL_set, regL_get, Dd.done, Acc.val, stepR, deedF, accF, hi, hj, hi2, hj2, hi3, hj3, hi4, hj4]
    exact Int.tmod_eq_emod_of_nonneg pi.1
theorem rexec_17 (r : Nat → Int) (hr : RegsOk r) (a b n : Int) (ha0 : 0 ≤ a) (hb0 : 0 ≤ b) (hn0 : 0 ≤ n) (hn1 : n ≤ 65535) (hok : okF 17 a b n) : PC Try.prog 11 [regsV r, insV 17 a b n] [] (fun v _ => v = .tuple #[regsV ((deedF r 17 a b n).done r).1, ((deedF r 17 a b n).done r).2.val]) fun _ _ => False := by
  refine pc_of Try.func11 rfl (by decide) (by kernel_rfl) (by show 2 ≤ _; decide) (SW.of mixed _ _ _ ?_)
  have ho := hok.1
  have ha := hok.2.1
  have hb := hok.2.2.1
  obtain ⟨i, rfl⟩ := Int.eq_ofNat_of_zero_le ha0
  obtain ⟨j, rfl⟩ := Int.eq_ofNat_of_zero_le hb0
  have hi : 1 + i < 9 := by omega
  have hj : 1 + j < 9 := by omega
  have hi2 : (i : Int) < 8 := ha
  have hj2 : (j : Int) < 8 := hb
  have hi3 : 1 + i ≤ 8 := by omega
  have hj3 : 1 + j ≤ 8 := by omega
  have hi4 : i < 8 := by omega
  have hj4 : j < 8 := by omega
  have p0 := hr 0
  have pi := hr (1 + i)
  have pj := hr (1 + j)
  simp -implicitDefEqProofs [insV]
  refine (fnRRight 17 i j n (by decide)).k ?_
  simp -implicitDefEqProofs [hok]
  refine pdk_at [] (by kernel_rfl) ?_
  simp -implicitDefEqProofs [regL_get, hi, hj, hi2, hj2, hi4, hj4]
  refine (fnRAdd (r 0) 4 p0.1 p0.2 (by omega) (by omega)).k ?_
  simp -implicitDefEqProofs [regL_set]
  refine (fnRAdd (r (1 + j)) n pj.1 pj.2 hn0 hn1).k ?_
  clear hok
  · simp -implicitDefEqProofs [regL_set, regL_get, Dd.done, Acc.val, stepR, deedF, accF, hi, hj, hi2, hj2, hi3, hj3, hi4, hj4]
theorem rexec_18 (r : Nat → Int) (hr : RegsOk r) (a b n : Int) (ha0 : 0 ≤ a) (hb0 : 0 ≤ b) (hn0 : 0 ≤ n) (hn1 : n ≤ 65535) (hok : okF 18 a b n) : PC Try.prog 11 [regsV r, insV 18 a b n] [] (fun v _ => v = .tuple #[regsV ((deedF r 18 a b n).done r).1, ((deedF r 18 a b n).done r).2.val]) fun _ _ => False := by
  refine pc_of Try.func11 rfl (by decide) (by kernel_rfl) (by show 2 ≤ _; decide) (SW.of mixed _ _ _ ?_)
  have ho := hok.1
  have ha := hok.2.1
  have hb := hok.2.2.1
  obtain ⟨i, rfl⟩ := Int.eq_ofNat_of_zero_le ha0
  obtain ⟨j, rfl⟩ := Int.eq_ofNat_of_zero_le hb0
  have hi : 1 + i < 9 := by omega
  have hj : 1 + j < 9 := by omega
  have hi2 : (i : Int) < 8 := ha
  have hj2 : (j : Int) < 8 := hb
  have hi3 : 1 + i ≤ 8 := by omega
  have hj3 : 1 + j ≤ 8 := by omega
  have hi4 : i < 8 := by omega
  have hj4 : j < 8 := by omega
  have p0 := hr 0
  have pi := hr (1 + i)
  have pj := hr (1 + j)
  simp -implicitDefEqProofs [insV]
  refine (fnRRight 18 i j n (by decide)).k ?_
  simp -implicitDefEqProofs [hok]
  refine pdk_at [] (by kernel_rfl) ?_
  simp -implicitDefEqProofs [regL_get, hi, hj, hi2, hj2, hi4, hj4]
  refine (fnRAdd (r 0) 4 p0.1 p0.2 (by omega) (by omega)).k ?_
  simp -implicitDefEqProofs [regL_set]
  refine (fnRAdd (r (1 + j)) n pj.1 pj.2 hn0 hn1).k ?_
  clear hok
  · by_cases hz : r (1 + i) = 0
    · simp -implicitDefEqProofs [regL_set, regL_get, Dd.done, Acc.val, stepR, deedF, accF, hi, hj, hi2, hj2, hi3, hj3, hi4, hj4, hz]
    · simp -implicitDefEqProofs [regL_set, regL_get, Dd.done, Acc.val, stepR, deedF, accF, hi, hj, hi2, hj2, hi3, hj3, hi4, hj4, hz]
theorem rexec_19 (r : Nat → Int) (hr : RegsOk r) (a b n : Int) (ha0 : 0 ≤ a) (hb0 : 0 ≤ b) (hn0 : 0 ≤ n) (hn1 : n ≤ 65535) (hok : okF 19 a b n) : PC Try.prog 11 [regsV r, insV 19 a b n] [] (fun v _ => v = .tuple #[regsV ((deedF r 19 a b n).done r).1, ((deedF r 19 a b n).done r).2.val]) fun _ _ => False := by
  refine pc_of Try.func11 rfl (by decide) (by kernel_rfl) (by show 2 ≤ _; decide) (SW.of mixed _ _ _ ?_)
  have ho := hok.1
  have ha := hok.2.1
  have hb := hok.2.2.1
  obtain ⟨i, rfl⟩ := Int.eq_ofNat_of_zero_le ha0
  obtain ⟨j, rfl⟩ := Int.eq_ofNat_of_zero_le hb0
  have hi : 1 + i < 9 := by omega
  have hj : 1 + j < 9 := by omega
  have hi2 : (i : Int) < 8 := ha
  have hj2 : (j : Int) < 8 := hb
  have hi3 : 1 + i ≤ 8 := by omega
  have hj3 : 1 + j ≤ 8 := by omega
  have hi4 : i < 8 := by omega
  have hj4 : j < 8 := by omega
  have p0 := hr 0
  have pi := hr (1 + i)
  have pj := hr (1 + j)
  simp -implicitDefEqProofs [insV]
  refine (fnRRight 19 i j n (by decide)).k ?_
  simp -implicitDefEqProofs [hok]
  refine pdk_at [] (by kernel_rfl) ?_
  simp -implicitDefEqProofs [regL_get, hi, hj, hi2, hj2, hi4, hj4]
  refine (fnRAdd (r 0) 4 p0.1 p0.2 (by omega) (by omega)).k ?_
  simp -implicitDefEqProofs [regL_set]
  refine (fnRAdd (r (1 + j)) n pj.1 pj.2 hn0 hn1).k ?_
  clear hok
  · by_cases hz : r (1 + i) = 0
    · simp -implicitDefEqProofs [regL_set, regL_get, Dd.done, Acc.val, stepR, deedF, accF, hi, hj, hi2, hj2, hi3, hj3, hi4, hj4, hz]
    · simp -implicitDefEqProofs [regL_set, regL_get, Dd.done, Acc.val, stepR, deedF, accF, hi, hj, hi2, hj2, hi3, hj3, hi4, hj4, hz]
end Go.Proofs.Ytnkpfknilhgjgaa
/- ref05.Exec, by the plain machine. -/
namespace Go.Proofs.Ytnkpfknilhgjgaa
open Go.RowKit
set_option maxRecDepth 100000
set_option maxHeartbeats 4000000
theorem rexec_20 (r : Nat → Int) (hr : RegsOk r) (a b n : Int) (ha0 : 0 ≤ a) (hb0 : 0 ≤ b) (hn0 : 0 ≤ n) (hn1 : n ≤ 65535) (hok : okF 20 a b n) : PC Try.prog 11 [regsV r, insV 20 a b n] [] (fun v _ => v = .tuple #[regsV ((deedF r 20 a b n).done r).1, ((deedF r 20 a b n).done r).2.val]) fun _ _ => False := by
  refine pc_of Try.func11 rfl (by decide) (by kernel_rfl) (by show 2 ≤ _; decide) (SW.of mixed _ _ _ ?_)
  have ho := hok.1
  have ha := hok.2.1
  have hb := hok.2.2.1
  obtain ⟨i, rfl⟩ := Int.eq_ofNat_of_zero_le ha0
  obtain ⟨j, rfl⟩ := Int.eq_ofNat_of_zero_le hb0
  have hi : 1 + i < 9 := by omega
  have hj : 1 + j < 9 := by omega
  have hi2 : (i : Int) < 8 := ha
  have hj2 : (j : Int) < 8 := hb
  have hi3 : 1 + i ≤ 8 := by omega
  have hj3 : 1 + j ≤ 8 := by omega
  have hi4 : i < 8 := by omega
  have hj4 : j < 8 := by omega
  have p0 := hr 0
  have pi := hr (1 + i)
  have pj := hr (1 + j)
  simp -implicitDefEqProofs [insV]
  refine (fnRRight 20 i j n (by decide)).k ?_
  simp -implicitDefEqProofs [hok]
  refine pdk_at [] (by kernel_rfl) ?_
  simp -implicitDefEqProofs [regL_get, hi, hj, hi2, hj2, hi4, hj4]
  refine (fnRAdd (r 0) 4 p0.1 p0.2 (by omega) (by omega)).k ?_
  simp -implicitDefEqProofs [regL_set]
  refine (fnRAdd (r (1 + j)) n pj.1 pj.2 hn0 hn1).k ?_
  clear hok
  · by_cases hz : r (1 + i) < r (1 + j)
    · simp -implicitDefEqProofs [regL_set, regL_get, Dd.done, Acc.val, stepR, deedF, accF, hi, hj, hi2, hj2, hi3, hj3, hi4, hj4, hz]
    · simp -implicitDefEqProofs [regL_set, regL_get, Dd.done, Acc.val, stepR, deedF, accF, hi, hj, hi2, hj2, hi3, hj3, hi4, hj4, hz]
theorem rexec_21 (r : Nat → Int) (hr : RegsOk r) (a b n : Int) (ha0 : 0 ≤ a) (hb0 : 0 ≤ b) (hn0 : 0 ≤ n) (hn1 : n ≤ 65535) (hok : okF 21 a b n) : PC Try.prog 11 [regsV r, insV 21 a b n] [] (fun v _ => v = .tuple #[regsV ((deedF r 21 a b n).done r).1, ((deedF r 21 a b n).done r).2.val]) fun _ _ => False := by
  refine pc_of Try.func11 rfl (by decide) (by kernel_rfl) (by show 2 ≤ _; decide) (SW.of mixed _ _ _ ?_)
  have ho := hok.1
  have ha := hok.2.1
  have hb := hok.2.2.1
  obtain ⟨i, rfl⟩ := Int.eq_ofNat_of_zero_le ha0
  obtain ⟨j, rfl⟩ := Int.eq_ofNat_of_zero_le hb0
  have hi : 1 + i < 9 := by omega
  have hj : 1 + j < 9 := by omega
  have hi2 : (i : Int) < 8 := ha
  have hj2 : (j : Int) < 8 := hb
  have hi3 : 1 + i ≤ 8 := by omega
  have hj3 : 1 + j ≤ 8 := by omega
  have hi4 : i < 8 := by omega
  have hj4 : j < 8 := by omega
  have p0 := hr 0
  have pi := hr (1 + i)
  have pj := hr (1 + j)
  simp -implicitDefEqProofs [insV]
  refine (fnRRight 21 i j n (by decide)).k ?_
  simp -implicitDefEqProofs [hok]
  refine pdk_at [] (by kernel_rfl) ?_
  simp -implicitDefEqProofs [regL_get, hi, hj, hi2, hj2, hi4, hj4]
  refine (fnRAdd (r 0) 4 p0.1 p0.2 (by omega) (by omega)).k ?_
  simp -implicitDefEqProofs [regL_set]
  refine (fnRAdd (r (1 + j)) n pj.1 pj.2 hn0 hn1).k ?_
  clear hok
  · simp -implicitDefEqProofs [regL_set, regL_get, Dd.done, Acc.val, stepR, deedF, accF, hi, hj, hi2, hj2, hi3, hj3, hi4, hj4]
theorem rexec_22 (r : Nat → Int) (hr : RegsOk r) (a b n : Int) (ha0 : 0 ≤ a) (hb0 : 0 ≤ b) (hn0 : 0 ≤ n) (hn1 : n ≤ 65535) (hok : okF 22 a b n) : PC Try.prog 11 [regsV r, insV 22 a b n] [] (fun v _ => v = .tuple #[regsV ((deedF r 22 a b n).done r).1, ((deedF r 22 a b n).done r).2.val]) fun _ _ => False := by
  refine pc_of Try.func11 rfl (by decide) (by kernel_rfl) (by show 2 ≤ _; decide) (SW.of mixed _ _ _ ?_)
  have ho := hok.1
  have ha := hok.2.1
  have hb := hok.2.2.1
  obtain ⟨i, rfl⟩ := Int.eq_ofNat_of_zero_le ha0
  obtain ⟨j, rfl⟩ := Int.eq_ofNat_of_zero_le hb0
  have hi : 1 + i < 9 := by omega
  have hj : 1 + j < 9 := by omega
  have hi2 : (i : Int) < 8 := ha
  have hj2 : (j : Int) < 8 := hb
  have hi3 : 1 + i ≤ 8 := by omega
  have hj3 : 1 + j ≤ 8 := by omega
  have hi4 : i < 8 := by omega
  have hj4 : j < 8 := by omega
  have p0 := hr 0
  have pi := hr (1 + i)
  have pj := hr (1 + j)
  simp -implicitDefEqProofs [insV]
  refine (fnRRight 22 i j n (by decide)).k ?_
  simp -implicitDefEqProofs [hok]
  refine pdk_at [] (by kernel_rfl) ?_
  simp -implicitDefEqProofs [regL_get, hi, hj, hi2, hj2, hi4, hj4]
  refine (fnRAdd (r 0) 4 p0.1 p0.2 (by omega) (by omega)).k ?_
  simp -implicitDefEqProofs [regL_set]
  refine (fnRAdd (r (1 + j)) n pj.1 pj.2 hn0 hn1).k ?_
  clear hok
  · simp -implicitDefEqProofs [regL_set, regL_get, Dd.done, Acc.val, stepR, deedF, accF, hi, hj, hi2, hj2, hi3, hj3, hi4, hj4]
theorem rexec_23 (r : Nat → Int) (hr : RegsOk r) (a b n : Int) (ha0 : 0 ≤ a) (hb0 : 0 ≤ b) (hn0 : 0 ≤ n) (hn1 : n ≤ 65535) (hok : okF 23 a b n) : PC Try.prog 11 [regsV r, insV 23 a b n] [] (fun v _ => v = .tuple #[regsV ((deedF r 23 a b n).done r).1, ((deedF r 23 a b n).done r).2.val]) fun _ _ => False := by
  refine pc_of Try.func11 rfl (by decide) (by kernel_rfl) (by show 2 ≤ _; decide) (SW.of mixed _ _ _ ?_)
  have ho := hok.1
  have ha := hok.2.1
  have hb := hok.2.2.1
  obtain ⟨i, rfl⟩ := Int.eq_ofNat_of_zero_le ha0
  obtain ⟨j, rfl⟩ := Int.eq_ofNat_of_zero_le hb0
  have hi : 1 + i < 9 := by omega
  have hj : 1 + j < 9 := by omega
  have hi2 : (i : Int) < 8 := ha
  have hj2 : (j : Int) < 8 := hb
  have hi3 : 1 + i ≤ 8 := by omega
  have hj3 : 1 + j ≤ 8 := by omega
  have hi4 : i < 8 := by omega
  have hj4 : j < 8 := by omega
  have p0 := hr 0
  have pi := hr (1 + i)
  have pj := hr (1 + j)
  simp -implicitDefEqProofs [insV]
  refine (fnRRight 23 i j n (by decide)).k ?_
  simp -implicitDefEqProofs [hok]
  refine pdk_at [] (by kernel_rfl) ?_
  simp -implicitDefEqProofs [regL_get, hi, hj, hi2, hj2, hi4, hj4]
  refine (fnRAdd (r 0) 4 p0.1 p0.2 (by omega) (by omega)).k ?_
  simp -implicitDefEqProofs [regL_set]
  refine (fnRAdd (r (1 + j)) n pj.1 pj.2 hn0 hn1).k ?_
  clear hok
  · simp -implicitDefEqProofs [regL_set, regL_get, Dd.done, Acc.val, stepR, deedF, accF, hi, hj, hi2, hj2, hi3, hj3, hi4, hj4]
    refine pdk_at [(4, 2)] (by kernel_rfl) ?_
    simp -implicitDefEqProofs [regL_set, regL_get, Dd.done, Acc.val, stepR, deedF, accF, hi, hj, hi2, hj2, hi3, hj3, hi4, hj4]
end Go.Proofs.Ytnkpfknilhgjgaa
/- ref05.Exec, by the plain machine. -/
namespace Go.Proofs.Ytnkpfknilhgjgaa
open Go.RowKit
set_option maxRecDepth 100000
set_option maxHeartbeats 4000000
theorem rexec_good (r : Nat → Int) (hr : RegsOk r) (o a b n : Int) (h0 : 0 ≤ o) (ha0 : 0 ≤ a) (hb0 : 0 ≤ b) (hn0 : 0 ≤ n) (hn1 : n ≤ 65535) (hok : okF o a b n) : PC Try.prog 11 [regsV r, insV o a b n] [] (fun v _ => v = .tuple #[regsV ((deedF r o a b n).done r).1, ((deedF r o a b n).done r).2.val]) fun _ _ => False := by
  have ho := hok.1
  rcases op_cases o h0 with rfl | rfl | rfl | rfl | rfl | rfl | rfl | rfl | rfl | rfl | rfl | rfl | rfl | rfl | rfl | rfl | rfl | rfl | rfl | rfl | rfl | rfl | rfl | rfl | hbig
  · exact rexec_0 r hr a b n ha0 hb0 hn0 hn1 hok
  · exact rexec_1 r hr a b n ha0 hb0 hn0 hn1 hok
  · exact rexec_2 r hr a b n ha0 hb0 hn0 hn1 hok
  · exact rexec_3 r hr a b n ha0 hb0 hn0 hn1 hok
  · exact rexec_4 r hr a b n ha0 hb0 hn0 hn1 hok
  · exact rexec_5 r hr a b n ha0 hb0 hn0 hn1 hok
  · exact rexec_6 r hr a b n ha0 hb0 hn0 hn1 hok
  · exact rexec_7 r hr a b n ha0 hb0 hn0 hn1 hok
  · exact rexec_8 r hr a b n ha0 hb0 hn0 hn1 hok
  · exact rexec_9 r hr a b n ha0 hb0 hn0 hn1 hok
  · exact rexec_10 r hr a b n ha0 hb0 hn0 hn1 hok
  · exact rexec_11 r hr a b n ha0 hb0 hn0 hn1 hok
  · exact rexec_12 r hr a b n ha0 hb0 hn0 hn1 hok
  · exact rexec_13 r hr a b n ha0 hb0 hn0 hn1 hok
  · exact rexec_14 r hr a b n ha0 hb0 hn0 hn1 hok
  · exact rexec_15 r hr a b n ha0 hb0 hn0 hn1 hok
  · exact rexec_16 r hr a b n ha0 hb0 hn0 hn1 hok
  · exact rexec_17 r hr a b n ha0 hb0 hn0 hn1 hok
  · exact rexec_18 r hr a b n ha0 hb0 hn0 hn1 hok
  · exact rexec_19 r hr a b n ha0 hb0 hn0 hn1 hok
  · exact rexec_20 r hr a b n ha0 hb0 hn0 hn1 hok
  · exact rexec_21 r hr a b n ha0 hb0 hn0 hn1 hok
  · exact rexec_22 r hr a b n ha0 hb0 hn0 hn1 hok
  · exact rexec_23 r hr a b n ha0 hb0 hn0 hn1 hok
  · omega
theorem fnRExec (r : Nat → Int) (hr : RegsOk r) (o a b n : Int) (h0 : 0 ≤ o) (ha0 : 0 ≤ a) (hb0 : 0 ≤ b) (hn0 : 0 ≤ n) (hn1 : n ≤ 65535) : Fn Try.prog 11 [regsV r, insV o a b n] (.tuple #[regsV (execF r o a b n).1, (execF r o a b n).2.val]) := by
  refine Fn.of ?_ rfl rfl
  by_cases hok : okF o a b n
  · have := rexec_good r hr o a b n h0 ha0 hb0 hn0 hn1 hok
    unfold execF
    rw [if_pos hok]; exact this
  · have := rexec_bad r o a b n h0 hok
    unfold execF
    rw [if_neg hok]; exact this
end Go.Proofs.Ytnkpfknilhgjgaa

/- ref05.Exec, by the plain machine. -/
import Derived.Test.YtnkpfknilhgjgaaG8x
set_option linter.unusedSimpArgs false
set_option linter.unusedVariables false
namespace Go.Proofs.Ytnkpfknilhgjgaa
open Go.RowKit
set_option maxRecDepth 100000
set_option maxHeartbeats 4000000
theorem rexec_0 (r : Nat → Int) (hr : RegsOk r) (a b n : Int) (ha0 : 0 ≤ a) (hb0 : 0 ≤ b) (hn0 : 0 ≤ n) (hn1 : n ≤ 65535) (hok : okF 0 a b n) : PC Try.prog 11 [regsV r, insV 0 a b n] [] (fun v _ => v = .tuple #[regsV ((deedF r 0 a b n).done r).1, ((deedF r 0 a b n).done r).2.val]) fun _ _ => False := by
  refine pc_of Try.func11 rfl (by decide) (by kernel_rfl) (by show 2 ≤ _; decide) (SW.of mixed _ _ _ ?_)
  have ho := hok.1
  have ha := hok.2.1
  have hb := hok.2.2.1
  obtain ⟨i, rfl⟩ := Int.eq_ofNat_of_zero_le ha0
  obtain ⟨j, rfl⟩ := Int.eq_ofNat_of_zero_le hb0
  have hi : 1 + i < 9 := by omega
  have hj : 1 + j < 9 := by omega
  have hi2 : (i : Int) < 8 := ha
  have hj2 : (j : Int) < 8 := hb
  have hi3 : 1 + i ≤ 8 := by omega
  have hj3 : 1 + j ≤ 8 := by omega
  have hi4 : i < 8 := by omega
  have hj4 : j < 8 := by omega
  have p0 := hr 0
  have pi := hr (1 + i)
  have pj := hr (1 + j)
  simp -implicitDefEqProofs [insV]
  refine (fnRRight 0 i j n (by decide)).k ?_
  simp -implicitDefEqProofs [hok]
  refine pdk_at [] (by kernel_rfl) ?_
  simp -implicitDefEqProofs [regL_get, hi, hj, hi2, hj2, hi4, hj4]
  refine (fnRAdd (r 0) 4 p0.1 p0.2 (by omega) (by omega)).k ?_
  simp -implicitDefEqProofs [regL_set]
  refine (fnRAdd (r (1 + j)) n pj.1 pj.2 hn0 hn1).k ?_
  clear hok
  · simp -implicitDefEqProofs [regL_set, regL_get, Dd.done, Acc.val, stepR, deedF, accF, hi, hj, hi2, hj2, hi3, hj3, hi4, hj4]
theorem rexec_1 (r : Nat → Int) (hr : RegsOk r) (a b n : Int) (ha0 : 0 ≤ a) (hb0 : 0 ≤ b) (hn0 : 0 ≤ n) (hn1 : n ≤ 65535) (hok : okF 1 a b n) : PC Try.prog 11 [regsV r, insV 1 a b n] [] (fun v _ => v = .tuple #[regsV ((deedF r 1 a b n).done r).1, ((deedF r 1 a b n).done r).2.val]) fun _ _ => False := by
  refine pc_of Try.func11 rfl (by decide) (by kernel_rfl) (by show 2 ≤ _; decide) (SW.of mixed _ _ _ ?_)
  have ho := hok.1
  have ha := hok.2.1
  have hb := hok.2.2.1
  obtain ⟨i, rfl⟩ := Int.eq_ofNat_of_zero_le ha0
  obtain ⟨j, rfl⟩ := Int.eq_ofNat_of_zero_le hb0
  have hi : 1 + i < 9 := by omega
  have hj : 1 + j < 9 := by omega
  have hi2 : (i : Int) < 8 := ha
  have hj2 : (j : Int) < 8 := hb
  have hi3 : 1 + i ≤ 8 := by omega
  have hj3 : 1 + j ≤ 8 := by omega
  have hi4 : i < 8 := by omega
  have hj4 : j < 8 := by omega
  have p0 := hr 0
  have pi := hr (1 + i)
  have pj := hr (1 + j)
  simp -implicitDefEqProofs [insV]
  refine (fnRRight 1 i j n (by decide)).k ?_
  simp -implicitDefEqProofs [hok]
  refine pdk_at [] (by kernel_rfl) ?_
  simp -implicitDefEqProofs [regL_get, hi, hj, hi2, hj2, hi4, hj4]
  refine (fnRAdd (r 0) 4 p0.1 p0.2 (by omega) (by omega)).k ?_
  simp -implicitDefEqProofs [regL_set]
  refine (fnRAdd (r (1 + j)) n pj.1 pj.2 hn0 hn1).k ?_
  clear hok
  · simp -implicitDefEqProofs [regL_set, regL_get, Dd.done, Acc.val, stepR, deedF, accF, hi, hj, hi2, hj2, hi3, hj3, hi4, hj4]
theorem rexec_2 (r : Nat → Int) (hr : RegsOk r) (a b n : Int) (ha0 : 0 ≤ a) (hb0 : 0 ≤ b) (hn0 : 0 ≤ n) (hn1 : n ≤ 65535) (hok : okF 2 a b n) : PC Try.prog 11 [regsV r, insV 2 a b n] [] (fun v _ => v = .tuple #[regsV ((deedF r 2 a b n).done r).1, ((deedF r 2 a b n).done r).2.val]) fun _ _ => False := by
  refine pc_of Try.func11 rfl (by decide) (by kernel_rfl) (by show 2 ≤ _; decide) (SW.of mixed _ _ _ ?_)
  have ho := hok.1
  have ha := hok.2.1
  have hb := hok.2.2.1
  obtain ⟨i, rfl⟩ := Int.eq_ofNat_of_zero_le ha0
  obtain ⟨j, rfl⟩ := Int.eq_ofNat_of_zero_le hb0
  have hi : 1 + i < 9 := by omega
  have hj : 1 + j < 9 := by omega
  have hi2 : (i : Int) < 8 := ha
  have hj2 : (j : Int) < 8 := hb
  have hi3 : 1 + i ≤ 8 := by omega
  have hj3 : 1 + j ≤ 8 := by omega
  have hi4 : i < 8 := by omega
  have hj4 : j < 8 := by omega
  have p0 := hr 0
  have pi := hr (1 + i)
  have pj := hr (1 + j)
  simp -implicitDefEqProofs [insV]
  refine (fnRRight 2 i j n (by decide)).k ?_
  simp -implicitDefEqProofs [hok]
  refine pdk_at [] (by kernel_rfl) ?_
  simp -implicitDefEqProofs [regL_get, hi, hj, hi2, hj2, hi4, hj4]
  refine (fnRAdd (r 0) 4 p0.1 p0.2 (by omega) (by omega)).k ?_
  simp -implicitDefEqProofs [regL_set]
  refine (fnRAdd (r (1 + j)) n pj.1 pj.2 hn0 hn1).k ?_
  clear hok
  · simp -implicitDefEqProofs [regL_set, regL_get, Dd.done, Acc.val, stepR, deedF, accF, hi, hj, hi2, hj2, hi3, hj3, hi4, hj4]
theorem rexec_3 (r : Nat → Int) (hr : RegsOk r) (a b n : Int) (ha0 : 0 ≤ a) (hb0 : 0 ≤ b) (hn0 : 0 ≤ n) (hn1 : n ≤ 65535) (hok : okF 3 a b n) : PC Try.prog 11 [regsV r, insV 3 a b n] [] (fun v _ => v = .tuple #[regsV ((deedF r 3 a b n).done r).1, ((deedF r 3 a b n).done r).2.val]) fun _ _ => False := by
  refine pc_of Try.func11 rfl (by decide) (by kernel_rfl) (by show 2 ≤ _; decide) (SW.of mixed _ _ _ ?_)
  have ho := hok.1
  have ha := hok.2.1
  have hb := hok.2.2.1
  obtain ⟨i, rfl⟩ := Int.eq_ofNat_of_zero_le ha0
  obtain ⟨j, rfl⟩ := Int.eq_ofNat_of_zero_le hb0
  have hi : 1 + i < 9 := by omega
  have hj : 1 + j < 9 := by omega
  have hi2 : (i : Int) < 8 := ha
  have hj2 : (j : Int) < 8 := hb
  have hi3 : 1 + i ≤ 8 := by omega
  have hj3 : 1 + j ≤ 8 := by omega
  have hi4 : i < 8 := by omega
  have hj4 : j < 8 := by omega
  have p0 := hr 0
  have pi := hr (1 + i)
  have pj := hr (1 + j)
  simp -implicitDefEqProofs [insV]
  refine (fnRRight 3 i j n (by decide)).k ?_
  simp -implicitDefEqProofs [hok]
  refine pdk_at [] (by kernel_rfl) ?_
  simp -implicitDefEqProofs [regL_get, hi, hj, hi2, hj2, hi4, hj4]
  refine (fnRAdd (r 0) 4 p0.1 p0.2 (by omega) (by omega)).k ?_
  simp -implicitDefEqProofs [regL_set]
  refine (fnRAdd (r (1 + j)) n pj.1 pj.2 hn0 hn1).k ?_
  clear hok
  · simp -implicitDefEqProofs [regL_set, regL_get, Dd.done, Acc.val, stepR, deedF, accF, hi, hj, hi2, hj2, hi3, hj3, hi4, hj4]
    refine pdk_at [] (by kernel_rfl) ?_
    simp -implicitDefEqProofs [regL_set, regL_get, Dd.done, Acc.val, stepR, deedF, accF, hi, hj, hi2, hj2, hi3, hj3, hi4, hj4]
    refine (fnReck3 (r (1 + i)) (r (1 + j)) pi.1 pi.2 pj.1 pj.2).kq ?_
    simp -implicitDefEqProofs [regL_set, regL_get, Dd.done, Acc.val, stepR, deedF, accF, hi, hj, hi2, hj2, hi3, hj3, hi4, hj4]
end Go.Proofs.Ytnkpfknilhgjgaa
/- ref05.Exec, by the plain machine. -/
namespace Go.Proofs.Ytnkpfknilhgjgaa
open Go.RowKit
set_option maxRecDepth 100000
set_option maxHeartbeats 4000000
theorem rexec_4 (r : Nat → Int) (hr : RegsOk r) (a b n : Int) (ha0 : 0 ≤ a) (hb0 : 0 ≤ b) (hn0 : 0 ≤ n) (hn1 : n ≤ 65535) (hok : okF 4 a b n) : PC Try.prog 11 [regsV r, insV 4 a b n] [] (fun v _ => v = .tuple #[regsV ((deedF r 4 a b n).done r).1, ((deedF r 4 a b n).done r).2.val]) fun _ _ => False := by
  refine pc_of Try.func11 rfl (by decide) (by kernel_rfl) (by show 2 ≤ _; decide) (SW.of mixed _ _ _ ?_)
  have ho := hok.1
  have ha := hok.2.1
  have hb := hok.2.2.1
  obtain ⟨i, rfl⟩ := Int.eq_ofNat_of_zero_le ha0
  obtain ⟨j, rfl⟩ := Int.eq_ofNat_of_zero_le hb0
  have hi : 1 + i < 9 := by omega
  have hj : 1 + j < 9 := by omega
  have hi2 : (i : Int) < 8 := ha
  have hj2 : (j : Int) < 8 := hb
  have hi3 : 1 + i ≤ 8 := by omega
  have hj3 : 1 + j ≤ 8 := by omega
  have hi4 : i < 8 := by omega
  have hj4 : j < 8 := by omega
  have p0 := hr 0
  have pi := hr (1 + i)
  have pj := hr (1 + j)
  simp -implicitDefEqProofs [insV]
  refine (fnRRight 4 i j n (by decide)).k ?_
  simp -implicitDefEqProofs [hok]
  refine pdk_at [] (by kernel_rfl) ?_
  simp -implicitDefEqProofs [regL_get, hi, hj, hi2, hj2, hi4, hj4]
  refine (fnRAdd (r 0) 4 p0.1 p0.2 (by omega) (by omega)).k ?_
  simp -implicitDefEqProofs [regL_set]
  refine (fnRAdd (r (1 + j)) n pj.1 pj.2 hn0 hn1).k ?_
  clear hok
  · simp -implicitDefEqProofs [regL_set, regL_get, Dd.done, Acc.val, stepR, deedF, accF, hi, hj, hi2, hj2, hi3, hj3, hi4, hj4]
    refine pdk_at [] (by kernel_rfl) ?_
    simp -implicitDefEqProofs [regL_set, regL_get, Dd.done, Acc.val, stepR, deedF, accF, hi, hj, hi2, hj2, hi3, hj3, hi4, hj4]
    refine (fnReck4 (r (1 + i)) (r (1 + j)) pi.1 pi.2 pj.1 pj.2).kq ?_
    simp -implicitDefEqProofs [regL_set, regL_get, Dd.done, Acc.val, stepR, deedF, accF, hi, hj, hi2, hj2, hi3, hj3, hi4, hj4]
theorem rexec_5 (r : Nat → Int) (hr : RegsOk r) (a b n : Int) (ha0 : 0 ≤ a) (hb0 : 0 ≤ b) (hn0 : 0 ≤ n) (hn1 : n ≤ 65535) (hok : okF 5 a b n) : PC Try.prog 11 [regsV r, insV 5 a b n] [] (fun v _ => v = .tuple #[regsV ((deedF r 5 a b n).done r).1, ((deedF r 5 a b n).done r).2.val]) fun _ _ => False := by
  refine pc_of Try.func11 rfl (by decide) (by kernel_rfl) (by show 2 ≤ _; decide) (SW.of mixed _ _ _ ?_)
  have ho := hok.1
  have ha := hok.2.1
  have hb := hok.2.2.1
  obtain ⟨i, rfl⟩ := Int.eq_ofNat_of_zero_le ha0
  obtain ⟨j, rfl⟩ := Int.eq_ofNat_of_zero_le hb0
  have hi : 1 + i < 9 := by omega
  have hj : 1 + j < 9 := by omega
  have hi2 : (i : Int) < 8 := ha
  have hj2 : (j : Int) < 8 := hb
  have hi3 : 1 + i ≤ 8 := by omega
  have hj3 : 1 + j ≤ 8 := by omega
  have hi4 : i < 8 := by omega
  have hj4 : j < 8 := by omega
  have p0 := hr 0
  have pi := hr (1 + i)
  have pj := hr (1 + j)
  simp -implicitDefEqProofs [insV]
  refine (fnRRight 5 i j n (by decide)).k ?_
  simp -implicitDefEqProofs [hok]
  refine pdk_at [] (by kernel_rfl) ?_
  simp -implicitDefEqProofs [regL_get, hi, hj, hi2, hj2, hi4, hj4]
  refine (fnRAdd (r 0) 4 p0.1 p0.2 (by omega) (by omega)).k ?_
  simp -implicitDefEqProofs [regL_set]
  refine (fnRAdd (r (1 + j)) n pj.1 pj.2 hn0 hn1).k ?_
  clear hok
  · simp -implicitDefEqProofs [regL_set, regL_get, Dd.done, Acc.val, stepR, deedF, accF, hi, hj, hi2, hj2, hi3, hj3, hi4, hj4]
    refine pdk_at [] (by kernel_rfl) ?_
    simp -implicitDefEqProofs [regL_set, regL_get, Dd.done, Acc.val, stepR, deedF, accF, hi, hj, hi2, hj2, hi3, hj3, hi4, hj4]
    refine (fnReck5 (r (1 + i)) (r (1 + j)) pi.1 pi.2 pj.1 pj.2).kq ?_
    simp -implicitDefEqProofs [regL_set, regL_get, Dd.done, Acc.val, stepR, deedF, accF, hi, hj, hi2, hj2, hi3, hj3, hi4, hj4]
theorem rexec_6 (r : Nat → Int) (hr : RegsOk r) (a b n : Int) (ha0 : 0 ≤ a) (hb0 : 0 ≤ b) (hn0 : 0 ≤ n) (hn1 : n ≤ 65535) (hok : okF 6 a b n) : PC Try.prog 11 [regsV r, insV 6 a b n] [] (fun v _ => v = .tuple #[regsV ((deedF r 6 a b n).done r).1, ((deedF r 6 a b n).done r).2.val]) fun _ _ => False := by
  refine pc_of Try.func11 rfl (by decide) (by kernel_rfl) (by show 2 ≤ _; decide) (SW.of mixed _ _ _ ?_)
  have ho := hok.1
  have ha := hok.2.1
  have hb := hok.2.2.1
  obtain ⟨i, rfl⟩ := Int.eq_ofNat_of_zero_le ha0
  obtain ⟨j, rfl⟩ := Int.eq_ofNat_of_zero_le hb0
  have hi : 1 + i < 9 := by omega
  have hj : 1 + j < 9 := by omega
  have hi2 : (i : Int) < 8 := ha
  have hj2 : (j : Int) < 8 := hb
  have hi3 : 1 + i ≤ 8 := by omega
  have hj3 : 1 + j ≤ 8 := by omega
  have hi4 : i < 8 := by omega
  have hj4 : j < 8 := by omega
  have p0 := hr 0
  have pi := hr (1 + i)
  have pj := hr (1 + j)
  simp -implicitDefEqProofs [insV]
  refine (fnRRight 6 i j n (by decide)).k ?_
  simp -implicitDefEqProofs [hok]
  refine pdk_at [] (by kernel_rfl) ?_
  simp -implicitDefEqProofs [regL_get, hi, hj, hi2, hj2, hi4, hj4]
  refine (fnRAdd (r 0) 4 p0.1 p0.2 (by omega) (by omega)).k ?_
  simp -implicitDefEqProofs [regL_set]
  refine (fnRAdd (r (1 + j)) n pj.1 pj.2 hn0 hn1).k ?_
  clear hok
  · simp -implicitDefEqProofs [regL_set, regL_get, Dd.done, Acc.val, stepR, deedF, accF, hi, hj, hi2, hj2, hi3, hj3, hi4, hj4]
    refine pdk_at [] (by kernel_rfl) ?_
    simp -implicitDefEqProofs [regL_set, regL_get, Dd.done, Acc.val, stepR, deedF, accF, hi, hj, hi2, hj2, hi3, hj3, hi4, hj4]
    refine (fnReck6 (r (1 + i)) (r (1 + j)) pi.1 pi.2 pj.1 pj.2).kq ?_
    simp -implicitDefEqProofs [regL_set, regL_get, Dd.done, Acc.val, stepR, deedF, accF, hi, hj, hi2, hj2, hi3, hj3, hi4, hj4]
theorem rexec_7 (r : Nat → Int) (hr : RegsOk r) (a b n : Int) (ha0 : 0 ≤ a) (hb0 : 0 ≤ b) (hn0 : 0 ≤ n) (hn1 : n ≤ 65535) (hok : okF 7 a b n) : PC Try.prog 11 [regsV r, insV 7 a b n] [] (fun v _ => v = .tuple #[regsV ((deedF r 7 a b n).done r).1, ((deedF r 7 a b n).done r).2.val]) fun _ _ => False := by
  refine pc_of Try.func11 rfl (by decide) (by kernel_rfl) (by show 2 ≤ _; decide) (SW.of mixed _ _ _ ?_)
  have ho := hok.1
  have ha := hok.2.1
  have hb := hok.2.2.1
  obtain ⟨i, rfl⟩ := Int.eq_ofNat_of_zero_le ha0
  obtain ⟨j, rfl⟩ := Int.eq_ofNat_of_zero_le hb0
  have hi : 1 + i < 9 := by omega
  have hj : 1 + j < 9 := by omega
  have hi2 : (i : Int) < 8 := ha
  have hj2 : (j : Int) < 8 := hb
  have hi3 : 1 + i ≤ 8 := by omega
  have hj3 : 1 + j ≤ 8 := by omega
  have hi4 : i < 8 := by omega
  have hj4 : j < 8 := by omega
  have p0 := hr 0
  have pi := hr (1 + i)
  have pj := hr (1 + j)
  simp -implicitDefEqProofs [insV]
  refine (fnRRight 7 i j n (by decide)).k ?_
  simp -implicitDefEqProofs [hok]
  refine pdk_at [] (by kernel_rfl) ?_
  simp -implicitDefEqProofs [regL_get, hi, hj, hi2, hj2, hi4, hj4]
  refine (fnRAdd (r 0) 4 p0.1 p0.2 (by omega) (by omega)).k ?_
  simp -implicitDefEqProofs [regL_set]
  refine (fnRAdd (r (1 + j)) n pj.1 pj.2 hn0 hn1).k ?_
  clear hok
  · simp -implicitDefEqProofs [regL_set, regL_get, Dd.done, Acc.val, stepR, deedF, accF, hi, hj, hi2, hj2, hi3, hj3, hi4, hj4]
    by_cases hz : r (1 + j) = 0
    · rw [hz]
      refine (fnRDiv0 (r (1 + i))).k ?_
      simp -implicitDefEqProofs [regL_set, regL_get, Dd.done, Acc.val, stepR, deedF, accF, hi, hj, hi2, hj2, hi3, hj3, hi4, hj4, hz]
    · refine (fnRDiv (r (1 + i)) (r (1 + j)) pi.1 pi.2 (by omega) pj.2).k ?_
      simp -implicitDefEqProofs [regL_set, regL_get, Dd.done, Acc.val, stepR, deedF, accF, hi, hj, hi2, hj2, hi3, hj3, hi4, hj4, hz, sumF]
end Go.Proofs.Ytnkpfknilhgjgaa
/- ref05.Exec, by the plain machine. -/
namespace Go.Proofs.Ytnkpfknilhgjgaa
open Go.RowKit
set_option maxRecDepth 100000
set_option maxHeartbeats 4000000
theorem rexec_8 (r : Nat → Int) (hr : RegsOk r) (a b n : Int) (ha0 : 0 ≤ a) (hb0 : 0 ≤ b) (hn0 : 0 ≤ n) (hn1 : n ≤ 65535) (hok : okF 8 a b n) : PC Try.prog 11 [regsV r, insV 8 a b n] [] (fun v _ => v = .tuple #[regsV ((deedF r 8 a b n).done r).1, ((deedF r 8 a b n).done r).2.val]) fun _ _ => False := by
  refine pc_of Try.func11 rfl (by decide) (by kernel_rfl) (by show 2 ≤ _; decide) (SW.of mixed _ _ _ ?_)
  have ho := hok.1
  have ha := hok.2.1
  have hb := hok.2.2.1
  obtain ⟨i, rfl⟩ := Int.eq_ofNat_of_zero_le ha0
  obtain ⟨j, rfl⟩ := Int.eq_ofNat_of_zero_le hb0
  have hi : 1 + i < 9 := by omega
  have hj : 1 + j < 9 := by omega
  have hi2 : (i : Int) < 8 := ha
  have hj2 : (j : Int) < 8 := hb
  have hi3 : 1 + i ≤ 8 := by omega
  have hj3 : 1 + j ≤ 8 := by omega
  have hi4 : i < 8 := by omega
  have hj4 : j < 8 := by omega
  have p0 := hr 0
  have pi := hr (1 + i)
  have pj := hr (1 + j)
  simp -implicitDefEqProofs [insV]
  refine (fnRRight 8 i j n (by decide)).k ?_
  simp -implicitDefEqProofs [hok]
  refine pdk_at [] (by kernel_rfl) ?_
  simp -implicitDefEqProofs [regL_get, hi, hj, hi2, hj2, hi4, hj4]
  refine (fnRAdd (r 0) 4 p0.1 p0.2 (by omega) (by omega)).k ?_
  simp -implicitDefEqProofs [regL_set]
  refine (fnRAdd (r (1 + j)) n pj.1 pj.2 hn0 hn1).k ?_
  clear hok
  · simp -implicitDefEqProofs [regL_set, regL_get, Dd.done, Acc.val, stepR, deedF, accF, hi, hj, hi2, hj2, hi3, hj3, hi4, hj4]
    refine pdk_at [] (by kernel_rfl) ?_
    simp -implicitDefEqProofs [regL_set, regL_get, Dd.done, Acc.val, stepR, deedF, accF, hi, hj, hi2, hj2, hi3, hj3, hi4, hj4]
    refine (fnReck8 (r (1 + i)) (r (1 + j)) pi.1 pi.2 pj.1 pj.2).kq ?_
    simp -implicitDefEqProofs [regL_set, regL_get, Dd.done, Acc.val, stepR, deedF, accF, hi, hj, hi2, hj2, hi3, hj3, hi4, hj4]
theorem rexec_9 (r : Nat → Int) (hr : RegsOk r) (a b n : Int) (ha0 : 0 ≤ a) (hb0 : 0 ≤ b) (hn0 : 0 ≤ n) (hn1 : n ≤ 65535) (hok : okF 9 a b n) : PC Try.prog 11 [regsV r, insV 9 a b n] [] (fun v _ => v = .tuple #[regsV ((deedF r 9 a b n).done r).1, ((deedF r 9 a b n).done r).2.val]) fun _ _ => False := by
  refine pc_of Try.func11 rfl (by decide) (by kernel_rfl) (by show 2 ≤ _; decide) (SW.of mixed _ _ _ ?_)
  have ho := hok.1
  have ha := hok.2.1
  have hb := hok.2.2.1
  obtain ⟨i, rfl⟩ := Int.eq_ofNat_of_zero_le ha0
  obtain ⟨j, rfl⟩ := Int.eq_ofNat_of_zero_le hb0
  have hi : 1 + i < 9 := by omega
  have hj : 1 + j < 9 := by omega
  have hi2 : (i : Int) < 8 := ha
  have hj2 : (j : Int) < 8 := hb
  have hi3 : 1 + i ≤ 8 := by omega
  have hj3 : 1 + j ≤ 8 := by omega
  have hi4 : i < 8 := by omega
  have hj4 : j < 8 := by omega
  have p0 := hr 0
  have pi := hr (1 + i)
  have pj := hr (1 + j)
  simp -implicitDefEqProofs [insV]
  refine (fnRRight 9 i j n (by decide)).k ?_
  simp -implicitDefEqProofs [hok]
  refine pdk_at [] (by kernel_rfl) ?_
  simp -implicitDefEqProofs [regL_get, hi, hj, hi2, hj2, hi4, hj4]
  refine (fnRAdd (r 0) 4 p0.1 p0.2 (by omega) (by omega)).k ?_
  simp -implicitDefEqProofs [regL_set]
  refine (fnRAdd (r (1 + j)) n pj.1 pj.2 hn0 hn1).k ?_
  clear hok
  · simp -implicitDefEqProofs [regL_set, regL_get, Dd.done, Acc.val, stepR, deedF, accF, hi, hj, hi2, hj2, hi3, hj3, hi4, hj4]
    refine pdk_at [] (by kernel_rfl) ?_
    simp -implicitDefEqProofs [regL_set, regL_get, Dd.done, Acc.val, stepR, deedF, accF, hi, hj, hi2, hj2, hi3, hj3, hi4, hj4]
    refine (fnReck9 (r (1 + i)) (r (1 + j)) pi.1 pi.2 pj.1 pj.2).kq ?_
    simp -implicitDefEqProofs [regL_set, regL_get, Dd.done, Acc.val, stepR, deedF, accF, hi, hj, hi2, hj2, hi3, hj3, hi4, hj4]
theorem rexec_10 (r : Nat → Int) (hr : RegsOk r) (a b n : Int) (ha0 : 0 ≤ a) (hb0 : 0 ≤ b) (hn0 : 0 ≤ n) (hn1 : n ≤ 65535) (hok : okF 10 a b n) : PC Try.prog 11 [regsV r, insV 10 a b n] [] (fun v _ => v = .tuple #[regsV ((deedF r 10 a b n).done r).1, ((deedF r 10 a b n).done r).2.val]) fun _ _ => False := by
  refine pc_of Try.func11 rfl (by decide) (by kernel_rfl) (by show 2 ≤ _; decide) (SW.of mixed _ _ _ ?_)
  have ho := hok.1
  have ha := hok.2.1
  have hb := hok.2.2.1
  obtain ⟨i, rfl⟩ := Int.eq_ofNat_of_zero_le ha0
  obtain ⟨j, rfl⟩ := Int.eq_ofNat_of_zero_le hb0
  have hi : 1 + i < 9 := by omega
  have hj : 1 + j < 9 := by omega
  have hi2 : (i : Int) < 8 := ha
  have hj2 : (j : Int) < 8 := hb
  have hi3 : 1 + i ≤ 8 := by omega
  have hj3 : 1 + j ≤ 8 := by omega
  have hi4 : i < 8 := by omega
  have hj4 : j < 8 := by omega
  have p0 := hr 0
  have pi := hr (1 + i)
  have pj := hr (1 + j)
  simp -implicitDefEqProofs [insV]
  refine (fnRRight 10 i j n (by decide)).k ?_
  simp -implicitDefEqProofs [hok]
  refine pdk_at [] (by kernel_rfl) ?_
  simp -implicitDefEqProofs [regL_get, hi, hj, hi2, hj2, hi4, hj4]
  refine (fnRAdd (r 0) 4 p0.1 p0.2 (by omega) (by omega)).k ?_
  simp -implicitDefEqProofs [regL_set]
  refine (fnRAdd (r (1 + j)) n pj.1 pj.2 hn0 hn1).k ?_
  clear hok
  · simp -implicitDefEqProofs [regL_set, regL_get, Dd.done, Acc.val, stepR, deedF, accF, hi, hj, hi2, hj2, hi3, hj3, hi4, hj4]
    refine pdk_at [] (by kernel_rfl) ?_
    simp -implicitDefEqProofs [regL_set, regL_get, Dd.done, Acc.val, stepR, deedF, accF, hi, hj, hi2, hj2, hi3, hj3, hi4, hj4]
    refine (fnReck10 (r (1 + i)) (r (1 + j)) pi.1 pi.2 pj.1 pj.2).kq ?_
    simp -implicitDefEqProofs [regL_set, regL_get, Dd.done, Acc.val, stepR, deedF, accF, hi, hj, hi2, hj2, hi3, hj3, hi4, hj4]
theorem rexec_11 (r : Nat → Int) (hr : RegsOk r) (a b n : Int) (ha0 : 0 ≤ a) (hb0 : 0 ≤ b) (hn0 : 0 ≤ n) (hn1 : n ≤ 65535) (hok : okF 11 a b n) : PC Try.prog 11 [regsV r, insV 11 a b n] [] (fun v _ => v = .tuple #[regsV ((deedF r 11 a b n).done r).1, ((deedF r 11 a b n).done r).2.val]) fun _ _ => False := by
  refine pc_of Try.func11 rfl (by decide) (by kernel_rfl) (by show 2 ≤ _; decide) (SW.of mixed _ _ _ ?_)
  have ho := hok.1
  have ha := hok.2.1
  have hb := hok.2.2.1
  obtain ⟨i, rfl⟩ := Int.eq_ofNat_of_zero_le ha0
  obtain ⟨j, rfl⟩ := Int.eq_ofNat_of_zero_le hb0
  have hi : 1 + i < 9 := by omega
  have hj : 1 + j < 9 := by omega
  have hi2 : (i : Int) < 8 := ha
  have hj2 : (j : Int) < 8 := hb
  have hi3 : 1 + i ≤ 8 := by omega
  have hj3 : 1 + j ≤ 8 := by omega
  have hi4 : i < 8 := by omega
  have hj4 : j < 8 := by omega
  have p0 := hr 0
  have pi := hr (1 + i)
  have pj := hr (1 + j)
  simp -implicitDefEqProofs [insV]
  refine (fnRRight 11 i j n (by decide)).k ?_
  simp -implicitDefEqProofs [hok]
  refine pdk_at [] (by kernel_rfl) ?_
  simp -implicitDefEqProofs [regL_get, hi, hj, hi2, hj2, hi4, hj4]
  refine (fnRAdd (r 0) 4 p0.1 p0.2 (by omega) (by omega)).k ?_
  simp -implicitDefEqProofs [regL_set]
  refine (fnRAdd (r (1 + j)) n pj.1 pj.2 hn0 hn1).k ?_
  clear hok
  · simp -implicitDefEqProofs [regL_set, regL_get, Dd.done, Acc.val, stepR, deedF, accF, hi, hj, hi2, hj2, hi3, hj3, hi4, hj4]
    refine pdk_at [] (by kernel_rfl) ?_
    simp -implicitDefEqProofs [regL_set, regL_get, Dd.done, Acc.val, stepR, deedF, accF, hi, hj, hi2, hj2, hi3, hj3, hi4, hj4]
    refine (fnReck11 (r (1 + i)) (r (1 + j)) pi.1 pi.2 pj.1 pj.2).kq ?_
    simp -implicitDefEqProofs [regL_set, regL_get, Dd.done, Acc.val, stepR, deedF, accF, hi, hj, hi2, hj2, hi3, hj3, hi4, hj4]
end Go.Proofs.Ytnkpfknilhgjgaa

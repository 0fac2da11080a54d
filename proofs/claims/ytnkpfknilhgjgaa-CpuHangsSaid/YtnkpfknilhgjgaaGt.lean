/- What an instruction does hangs on what it reads alone. -/
import Derived.Test.YtnkpfknilhgjgaaGs
set_option linter.unusedSimpArgs false
set_option linter.unusedVariables false
namespace Go.Proofs.Ytnkpfknilhgjgaa
open Go.RowKit
set_option maxRecDepth 100000
set_option maxHeartbeats 8000000
theorem exec_hangs (r q : Nat → Int) (o a b n : Int) (h0 : 0 ≤ o) (hp : q 0 = r 0) (h : ∀ i ∈ (rdF o a b n).list, q (1 + i.toNat) = r (1 + i.toNat)) :
    (execF q o a b n).2 = (execF r o a b n).2 ∧ (execF q o a b n).1 0 = (execF r o a b n).1 0 ∧ ((execF r o a b n).2.k = 0 → ∀ i ∈ (wrF o a b n).list, (execF q o a b n).1 (1 + i.toNat) = (execF r o a b n).1 (1 + i.toNat)) := by
  unfold rdF at h
  unfold execF wrF
  by_cases hok : okF o a b n
  · simp only [if_pos hok] at h ⊢
    have hd := deed_agree r q o a b n h0 hok.1 h
    rw [hd]
    obtain ⟨e1, e2⟩ := done_same r q (deedF r o a b n) hp
    refine ⟨e1, e2, fun hk i hi => ?_⟩
    have ho := hok.1
    rcases op_cases o h0 with rfl | rfl | rfl | rfl | rfl | rfl | rfl | rfl | rfl | rfl | rfl | rfl | rfl | rfl | rfl | rfl | rfl | rfl | rfl | rfl | rfl | rfl | rfl | rfl | hbig
    all_goals first
      | omega
      | (simp [writesRL, RL.list] at hi; done)
      | (simp [deedF, accF, Dd.done] at hk; done)
      | (simp [writesRL, RL.list] at hi; subst hi; simp [deedF, Dd.done, upd, stepR, hp]; done)
      | (simp [writesRL, RL.list] at hi; subst hi; simp only [deedF]; simp; split <;> simp_all [deedF, Dd.done, upd])
  · simp only [if_neg hok]
    refine ⟨trivial, hp, fun hk => ?_⟩
    simp at hk
theorem upd_far (r : Nat → Int) {i j : Nat} (v : Int) (h : j ≠ i) : upd r i v j = r j := if_neg h
/-- The registers of the second one, once those that are read are set. -/
def setAll (r q : Nat → Int) : List Int → Nat → Int
  | [] => q
  | i :: is => setAll r (upd q (1 + i.toNat) (r (1 + i.toNat))) is
theorem setAll_get (r : Nat → Int) : ∀ (l : List Int) (q : Nat → Int) (j : Nat), setAll r q l j = if (∃ i ∈ l, j = 1 + i.toNat) then r j else q j
  | [], q, j => by simp [setAll]
  | i :: is, q, j => by
    rw [setAll, setAll_get r is]
    by_cases h : ∃ i ∈ is, j = 1 + i.toNat
    · rw [if_pos h, if_pos]
      obtain ⟨x, h1, h2⟩ := h
      exact ⟨x, List.mem_cons_of_mem _ h1, h2⟩
    · rw [if_neg h]
      by_cases e : j = 1 + i.toNat
      · rw [if_pos ⟨i, List.mem_cons_self .., e⟩]; subst e; simp
      · rw [if_neg, upd_far _ _ e]
        rintro ⟨x, h1, h2⟩
        rcases List.mem_cons.1 h1 with rfl | h1
        · exact e h2
        · exact h ⟨x, h1, h2⟩
theorem setAll_ok {r q : Nat → Int} (hr : RegsOk r) (hq : RegsOk q) (l : List Int) : RegsOk (setAll r q l) := fun j => by
  rw [setAll_get]; split
  · exact hr j
  · exact hq j
end Go.Proofs.Ytnkpfknilhgjgaa
/- CpuHangs, walked. -/
namespace Go.Proofs.Ytnkpfknilhgjgaa
open Go.RowKit
set_option maxRecDepth 100000
set_option maxHeartbeats 8000000
theorem wrF_one (o a b n : Int) : wrF o a b n = .nil ∨ ∃ x, wrF o a b n = .one x := by
  unfold wrF writesRL
  repeat' split
  all_goals first | exact .inl rfl | exact .inr ⟨_, rfl⟩
theorem fnCpuHangs (r t : Nat → Int) (hr : RegsOk r) (ht : RegsOk t) (o a b n : Int) (h0 : 0 ≤ o) (ha0 : 0 ≤ a) (hb0 : 0 ≤ b) : Fn Try.prog 8 [regsV r, regsV t, insV o a b n] (.bool true) := by
  refine Fn.of ?_ rfl rfl
  refine pc_of Try.func8 rfl (by decide) (by kernel_rfl) (by show 3 ≤ _; decide) (SW.of mixed _ _ _ ?_)
  have hR := fun h => reads_q o a b n h0 ha0 hb0 h
  have hW := fun h => writes_q o a b n h0 ha0 hb0 h
  have hrg := rdF_regs (o := o) (n := n) ha0 hb0
  have hwg := wrF_regs (o := o) (b := b) (n := n) ha0
  have hE1 := fnExec r hr o a b n h0 ha0 hb0
  have hE2 := fun q hq => fnExec q hq o a b n h0 ha0 hb0
  have hmain := fun q => exec_hangs r q o a b n h0
  have hw1 := wrF_one o a b n
  simp only [insV] at hR hW hE1 hE2
  generalize rdF o a b n = RD at hR hrg hmain
  generalize wrF o a b n = WR at hW hwg hw1 hmain
  have hq0 : RegsOk (upd t 0 (r 0)) := upd_ok ht (hr 0).1 (hr 0).2
  have hmain2 := hmain (setAll r (upd t 0 (r 0)) RD.list) (by rw [setAll_get]; split; rfl; simp) (fun i hi => by rw [setAll_get, if_pos ⟨i, hi, rfl⟩])
  have hE2' := hE2 _ (setAll_ok hr hq0 RD.list)
  clear hmain hE2
  generalize execF r o a b n = S1 at hE1 hmain2
  obtain ⟨q1, x1⟩ := S1
  generalize execF (setAll r (upd t 0 (r 0)) RD.list) o a b n = S2 at hE2' hmain2
  obtain ⟨q2, x2⟩ := S2
  obtain ⟨hx, hpc, hreg⟩ := hmain2
  simp only at hx hpc hreg hE1 hE2'
  subst hx
  have key : ∀ x : Int, 0 ≤ x ∧ x < 8 → ∃ k : Nat, x = k ∧ k < 8 ∧ x.tmod 8 = k := fun x hx => ⟨x.toNat, by omega, by omega, by rw [Int.tmod_eq_of_lt hx.1 hx.2]; omega⟩
  simp -implicitDefEqProofs [insV]
  refine (hR _).k ?_
  cases RD with
  | nil =>
    simp only [RL.list, setAll] at hE2'
    simp -implicitDefEqProofs [RL.v, RL.ns, RL.cells, regL_set]
    refine pwp_rounds 1 ?_
    rw [Rounds_succ]
    simp -implicitDefEqProofs
    refine hE1.k ?_
    simp -implicitDefEqProofs
    refine hE2'.k ?_
    simp -implicitDefEqProofs
    refine (hW _).k ?_
    rcases hw1 with rfl | ⟨z, rfl⟩
    · simp -implicitDefEqProofs [RL.v, RL.ns]
      refine pwp_rounds 1 ?_
      rw [Rounds_succ]
      simp -implicitDefEqProofs
      refine fnLive.k ?_
      simp -implicitDefEqProofs [hpc]
    · obtain ⟨w, rfl, hw, -⟩ := key z (hwg z (List.mem_cons_self ..))
      have w2 : (w : Int) < 8 := by omega
      have w3 : 1 + w < 9 := by omega
      have w4 : 1 + w ≤ 8 := by omega
      simp -implicitDefEqProofs [RL.v, RL.ns, RL.cells]
      refine pwp_rounds 2 ?_
      rw [Rounds_succ]
      by_cases hk : x2.k = 0
      · have hz := hreg hk w (List.mem_cons_self ..)
        simp only [Int.toNat_natCast] at hz
        simp -implicitDefEqProofs [hk]
        refine pdk_at [] (by kernel_rfl) ?_
        simp -implicitDefEqProofs [hw, w2, w3, w4, hz, hk]
        rw [Rounds_succ]
        simp -implicitDefEqProofs [hk]
        refine fnLive.k ?_
        simp -implicitDefEqProofs [hpc, qeq, qeqF, qpart]
      · simp -implicitDefEqProofs [hk]
        refine fnLive.k ?_
        simp -implicitDefEqProofs [hpc]
  | one x =>
    obtain ⟨kx, rfl, hx, mx⟩ := key x (hrg x (by simp [RL.list]))
    have ax : (kx : Int) < 8 := by omega
    have bbx : 1 + kx < 9 := by omega
    have cx : 1 + kx ≤ 8 := by omega
    simp only [RL.list, setAll, Int.toNat_natCast] at hE2'
    simp -implicitDefEqProofs [RL.v, RL.ns, RL.cells, regL_set]
    refine pwp_rounds 2 ?_
    rw [Rounds_succ]
    simp -implicitDefEqProofs
    refine pdk_at [] (by kernel_rfl) ?_
    simp -implicitDefEqProofs [hx, mx, ax, bbx, cx, regL_set]
    rw [Rounds_succ]
    simp -implicitDefEqProofs
    refine hE1.k ?_
    simp -implicitDefEqProofs
    refine hE2'.k ?_
    simp -implicitDefEqProofs
    refine (hW _).k ?_
    rcases hw1 with rfl | ⟨z, rfl⟩
    · simp -implicitDefEqProofs [RL.v, RL.ns]
      refine pwp_rounds 1 ?_
      rw [Rounds_succ]
      simp -implicitDefEqProofs
      refine fnLive.k ?_
      simp -implicitDefEqProofs [hpc]
    · obtain ⟨w, rfl, hw, -⟩ := key z (hwg z (List.mem_cons_self ..))
      have w2 : (w : Int) < 8 := by omega
      have w3 : 1 + w < 9 := by omega
      have w4 : 1 + w ≤ 8 := by omega
      simp -implicitDefEqProofs [RL.v, RL.ns, RL.cells]
      refine pwp_rounds 2 ?_
      rw [Rounds_succ]
      by_cases hk : x2.k = 0
      · have hz := hreg hk w (List.mem_cons_self ..)
        simp only [Int.toNat_natCast] at hz
        simp -implicitDefEqProofs [hk]
        refine pdk_at [] (by kernel_rfl) ?_
        simp -implicitDefEqProofs [hw, w2, w3, w4, hz, hk]
        rw [Rounds_succ]
        simp -implicitDefEqProofs [hk]
        refine fnLive.k ?_
        simp -implicitDefEqProofs [hpc, qeq, qeqF, qpart]
      · simp -implicitDefEqProofs [hk]
        refine fnLive.k ?_
        simp -implicitDefEqProofs [hpc]
  | two x y =>
    obtain ⟨kx, rfl, hx, mx⟩ := key x (hrg x (by simp [RL.list]))
    have ax : (kx : Int) < 8 := by omega
    have bbx : 1 + kx < 9 := by omega
    have cx : 1 + kx ≤ 8 := by omega
    obtain ⟨ky, rfl, hy, my⟩ := key y (hrg y (by simp [RL.list]))
    have ay : (ky : Int) < 8 := by omega
    have bby : 1 + ky < 9 := by omega
    have cy : 1 + ky ≤ 8 := by omega
    simp only [RL.list, setAll, Int.toNat_natCast] at hE2'
    simp -implicitDefEqProofs [RL.v, RL.ns, RL.cells, regL_set]
    refine pwp_rounds 3 ?_
    rw [Rounds_succ]
    simp -implicitDefEqProofs
    refine pdk_at [] (by kernel_rfl) ?_
    simp -implicitDefEqProofs [hx, mx, ax, bbx, cx, regL_set]
    rw [Rounds_succ]
    simp -implicitDefEqProofs
    refine pdk_at [] (by kernel_rfl) ?_
    simp -implicitDefEqProofs [hy, my, ay, bby, cy, regL_set]
    rw [Rounds_succ]
    simp -implicitDefEqProofs
    refine hE1.k ?_
    simp -implicitDefEqProofs
    refine hE2'.k ?_
    simp -implicitDefEqProofs
    refine (hW _).k ?_
    rcases hw1 with rfl | ⟨z, rfl⟩
    · simp -implicitDefEqProofs [RL.v, RL.ns]
      refine pwp_rounds 1 ?_
      rw [Rounds_succ]
      simp -implicitDefEqProofs
      refine fnLive.k ?_
      simp -implicitDefEqProofs [hpc]
    · obtain ⟨w, rfl, hw, -⟩ := key z (hwg z (List.mem_cons_self ..))
      have w2 : (w : Int) < 8 := by omega
      have w3 : 1 + w < 9 := by omega
      have w4 : 1 + w ≤ 8 := by omega
      simp -implicitDefEqProofs [RL.v, RL.ns, RL.cells]
      refine pwp_rounds 2 ?_
      rw [Rounds_succ]
      by_cases hk : x2.k = 0
      · have hz := hreg hk w (List.mem_cons_self ..)
        simp only [Int.toNat_natCast] at hz
        simp -implicitDefEqProofs [hk]
        refine pdk_at [] (by kernel_rfl) ?_
        simp -implicitDefEqProofs [hw, w2, w3, w4, hz, hk]
        rw [Rounds_succ]
        simp -implicitDefEqProofs [hk]
        refine fnLive.k ?_
        simp -implicitDefEqProofs [hpc, qeq, qeqF, qpart]
      · simp -implicitDefEqProofs [hk]
        refine fnLive.k ?_
        simp -implicitDefEqProofs [hpc]
  | eq x =>
    obtain ⟨kx, rfl, hx, mx⟩ := key x (hrg x (by simp [RL.list]))
    have ax : (kx : Int) < 8 := by omega
    have bbx : 1 + kx < 9 := by omega
    have cx : 1 + kx ≤ 8 := by omega
    simp only [RL.list, setAll, Int.toNat_natCast] at hE2'
    simp -implicitDefEqProofs [RL.v, RL.ns, RL.cells, regL_set]
    refine pwp_rounds 2 ?_
    rw [Rounds_succ]
    simp -implicitDefEqProofs
    refine pdk_at [] (by kernel_rfl) ?_
    simp -implicitDefEqProofs [hx, mx, ax, bbx, cx, regL_set]
    rw [Rounds_succ]
    simp -implicitDefEqProofs
    refine hE1.k ?_
    simp -implicitDefEqProofs
    refine hE2'.k ?_
    simp -implicitDefEqProofs
    refine (hW _).k ?_
    rcases hw1 with rfl | ⟨z, rfl⟩
    · simp -implicitDefEqProofs [RL.v, RL.ns]
      refine pwp_rounds 1 ?_
      rw [Rounds_succ]
      simp -implicitDefEqProofs
      refine fnLive.k ?_
      simp -implicitDefEqProofs [hpc]
    · obtain ⟨w, rfl, hw, -⟩ := key z (hwg z (List.mem_cons_self ..))
      have w2 : (w : Int) < 8 := by omega
      have w3 : 1 + w < 9 := by omega
      have w4 : 1 + w ≤ 8 := by omega
      simp -implicitDefEqProofs [RL.v, RL.ns, RL.cells]
      refine pwp_rounds 2 ?_
      rw [Rounds_succ]
      by_cases hk : x2.k = 0
      · have hz := hreg hk w (List.mem_cons_self ..)
        simp only [Int.toNat_natCast] at hz
        simp -implicitDefEqProofs [hk]
        refine pdk_at [] (by kernel_rfl) ?_
        simp -implicitDefEqProofs [hw, w2, w3, w4, hz, hk]
        rw [Rounds_succ]
        simp -implicitDefEqProofs [hk]
        refine fnLive.k ?_
        simp -implicitDefEqProofs [hpc, qeq, qeqF, qpart]
      · simp -implicitDefEqProofs [hk]
        refine fnLive.k ?_
        simp -implicitDefEqProofs [hpc]
end Go.Proofs.Ytnkpfknilhgjgaa

/- The processor's first laws, walked. -/
import Derived.Test.YtnkpfknilhgjgaaGb
import Derived.Test.YtnkpfknilhgjgaaGj
set_option linter.unusedSimpArgs false
set_option linter.unusedVariables false
namespace Go.Proofs.Ytnkpfknilhgjgaa
open Go.RowKit
set_option maxRecDepth 100000
set_option maxHeartbeats 4000000
theorem range8 : List.range 8 = [0, 1, 2, 3, 4, 5, 6, 7] := rfl
def regsEq (r q : Nat → Int) : Bool := r 0 == q 0 && (r 1 == q 1 && (r 2 == q 2 && (r 3 == q 3 && (r 4 == q 4 && (r 5 == q 5 && (r 6 == q 6 && (r 7 == q 7 && (r 8 == q 8))))))))
@[simp] theorem regsEq_self (r : Nat → Int) : regsEq r r = true := by simp [regsEq]
@[simp↓ high] theorem qbin_regs (r q : Nat → Int) (b : Bool) : qbin Try.prog .eql 26 b (regsV r) (regsV q) = some (True, .bool (regsEq r q)) := by
  simp [qbin, regsV, qeq, qeqF, qeqA, qpart, range8, regsEq]
def accEq (x y : Acc) : Bool := x.k == y.k && (x.ad == y.ad && (x.v == y.v && (x.rg == y.rg && x.er == y.er)))
@[simp] theorem accEq_self (x : Acc) : accEq x x = true := by simp [accEq]
@[simp↓ high] theorem qbin_acc (x y : Acc) (b : Bool) : qbin Try.prog .eql 33 b x.val y.val = some (True, .bool (accEq x y)) := by
  simp [qbin, Acc.val, qeq, qeqF, qeqA, qpart, accEq]
@[simp] theorem accV_cells (x : Acc) : x.val.cells.toList = [.int .u8 x.k, .int .u16 x.ad, .int .u16 x.v, .int .u8 x.rg, .int .i64 x.er] := rfl
@[simp] theorem accV_agg (x : Acc) : Value.agg #[.int .u8 x.k, .int .u16 x.ad, .int .u16 x.v, .int .u8 x.rg, .int .i64 x.er] = x.val := rfl
@[simp] theorem accV_size (x : Acc) : x.val.cells.size = 5 := rfl
theorem fnCpuExecs (r : Nat → Int) (hr : RegsOk r) (o a b n : Int) (h0 : 0 ≤ o) (ha0 : 0 ≤ a) (hb0 : 0 ≤ b) (hn0 : 0 ≤ n) (hn1 : n ≤ 65535) : Fn Try.prog 3 [regsV r, insV o a b n] (.bool true) := by
  refine Fn.of ?_ rfl rfl
  refine pc_of Try.func3 rfl (by decide) (by kernel_rfl) (by show 2 ≤ _; decide) (SW.of mixed _ _ _ ?_)
  simp -implicitDefEqProofs [insV]
  refine (fnExec r hr o a b n h0 ha0 hb0).k ?_
  simp -implicitDefEqProofs
  refine (fnRExec r hr o a b n h0 ha0 hb0 hn0 hn1).k ?_
  simp -implicitDefEqProofs
  refine fnLive.k ?_
  simp -implicitDefEqProofs
theorem fnCpuLoads (r : Nat → Int) (hr : RegsOk r) (i w : Int) (h0 : 0 ≤ i) (h1 : i ≤ 255) : Fn Try.prog 6 [regsV r, .int .u8 i, .int .u16 w] (.bool true) := by
  refine Fn.of ?_ rfl rfl
  refine pc_of Try.func6 rfl (by decide) (by kernel_rfl) (by show 3 ≤ _; decide) (SW.of mixed _ _ _ ?_)
  obtain ⟨q, e, hl⟩ : ∃ q e, loadV r i w = .tuple #[regsV q, .int .i64 e] := by unfold loadV; split <;> exact ⟨_, _, rfl⟩
  obtain ⟨x, g, hf⟩ : ∃ x g, fetchV r = .tuple #[.int .u16 x, .int .i64 g] := by unfold fetchV; split <;> exact ⟨_, _, rfl⟩
  simp -implicitDefEqProofs
  refine (fnLoad r i w h0 h1).k ?_
  simp -implicitDefEqProofs [hl]
  refine (fnRLoad r i w h0 h1).k ?_
  simp -implicitDefEqProofs [hl]
  refine (fnFetch r hr).k ?_
  simp -implicitDefEqProofs [hf]
  refine (fnRFetch r hr).k ?_
  simp -implicitDefEqProofs [hf]
  refine fnLive.k ?_
  simp -implicitDefEqProofs
theorem PC.quietOld {P : Program} {f : FuncId} {args : List Value} {h : List PO} {v : Value} {d : Nat} (q : PC P f args (h.map PO.frz) (fun v' h' => v' = v ∧ h' = h.map PO.frz) fun _ _ => False) (hv : newV (fun b => decide (b < h.length)) d v = true) : PCq P f args h fun v' ns => v' = v ∧ ns = [] := by
  refine ⟨q.1, fun τ w args' hk ha => ?_⟩
  refine (q.2 τ w args' hk.frz ha).mono fun e w' ⟨h', τ', v0, v', g, hv0, hd⟩ => ?_
  rcases hd with ⟨rfl, rfl, rfl⟩ | ⟨_, hf⟩
  case inr => exact hf.elim
  have hfr : Fr (fun _ => False) w w' := g.fr.mono fun k _ hk => (wset_frz hk).elim
  refine ⟨[], τ, v0, v', ⟨Tau.le_refl _, fun b p hb => .inl hb, by rw [List.append_nil]; exact hk.fr hfr, hfr⟩, ?_, rfl, rfl, rfl⟩
  refine (RN.comp (newV_RN hv) hv0).mono fun b p hb => ?_
  obtain ⟨c, h1, h2⟩ := Option.bind_eq_some_iff.1 hb
  unfold fromN at h1
  split at h1
  · rename_i hlt
    cases h1
    rcases g.dom b p h2 with h3 | h3
    · exact h3
    · simp at hlt h3; omega
  · cases h1
theorem short_q {h : List PO} {b n c : Nat} (hb : b < h.length) (hc : n ≤ c) : PCq Try.prog 14 [.slice (some ⟨b, 0, none⟩) n c] h fun v ns => v = .slice (some ⟨b, 0, none⟩) (min n 400) c ∧ ns = [] := by
  refine PC.quietOld (d := 2) ?_ (by simp [newV, hb])
  refine pc_of Try.func14 rfl (by decide) (by kernel_rfl) (by show 1 ≤ _; decide) (SW.of mixed _ _ _ ?_)
  by_cases hn : 400 < n
  · have h1 : (400 : Int) < n := by omega
    have h2 : (400 : Int) ≤ c := by omega
    have h3 : min n 400 = 400 := by omega
    simp -implicitDefEqProofs [h1, h2, h3]
  · have h1 : ¬ ((400 : Int) < n) := by omega
    have h3 : min n 400 = n := by omega
    simp -implicitDefEqProofs [h1, h3]
theorem short_nil {h : List PO} : PCq Try.prog 14 [.slice none 0 0] h fun v ns => v = .slice none 0 0 ∧ ns = [] := by
  refine PC.quietOld (d := 2) ?_ rfl
  refine pc_of Try.func14 rfl (by decide) (by kernel_rfl) (by show 1 ≤ _; decide) (SW.of mixed _ _ _ ?_)
  simp -implicitDefEqProofs
theorem cpuRuns_row (B : List UInt8) (c : Nat) (r : Nat → Int) (hr : RegsOk r) (most : Int) (hc : B.length ≤ c) (hc2 : B.length ≤ 9223372036854775807) : PC Try.prog 4 [regsV r, .slice (some ⟨0, 0, none⟩) B.length c, .int .i64 most] [.ro (u8s B)] (fun v _ => v = .bool true) fun _ _ => False := by
  refine pc_of Try.func4 rfl (by decide) (by kernel_rfl) (by show 3 ≤ _; decide) (SW.of mixed _ _ _ ?_)
  simp -implicitDefEqProofs
  refine pdk_at [] (by kernel_rfl) ?_
  simp -implicitDefEqProofs
  refine (short_q (by simp) hc).kq ?_
  simp -implicitDefEqProofs
  refine (run_q (B := B) (b := 0) rfl (by omega) (by omega) hr).kq ?_
  simp -implicitDefEqProofs [runV]
  refine pdk_at [] (by kernel_rfl) ?_
  simp -implicitDefEqProofs
  refine (short_q (by simp) hc).kq ?_
  simp -implicitDefEqProofs
  refine (runR_q (B := B) (b := 0) rfl (by omega) (by omega) (by omega) hr).kq ?_
  simp -implicitDefEqProofs [runV]
  refine fnLive.k ?_
  simp -implicitDefEqProofs
theorem cpuRuns_nil (r : Nat → Int) (hr : RegsOk r) (most : Int) : PC Try.prog 4 [regsV r, .slice none 0 0, .int .i64 most] [] (fun v _ => v = .bool true) fun _ _ => False := by
  refine pc_of Try.func4 rfl (by decide) (by kernel_rfl) (by show 3 ≤ _; decide) (SW.of mixed _ _ _ ?_)
  simp -implicitDefEqProofs
  refine pdk_at [] (by kernel_rfl) ?_
  simp -implicitDefEqProofs
  refine short_nil.kq ?_
  simp -implicitDefEqProofs
  refine (run_nil hr).kq ?_
  simp -implicitDefEqProofs [runV]
  refine pdk_at [] (by kernel_rfl) ?_
  simp -implicitDefEqProofs
  refine short_nil.kq ?_
  simp -implicitDefEqProofs
  refine (runR_nil hr).kq ?_
  simp -implicitDefEqProofs [runV]
  refine fnLive.k ?_
  simp -implicitDefEqProofs
/-- Steps, and then steps. -/
theorem runF_join (B : List UInt8) (n : Nat) : ∀ (m j : Nat) (r : Nat → Int), (runF B n m r).2.1.k = 0 → (runF B n m r).2.2 = m ∧ runF B n (m + j) r = plus (runF B n j (runF B n m r).1) m
  | 0, j, r, _ => ⟨rfl, by simp [runF, plus]⟩
  | m + 1, j, r, h => by
    rw [show m + 1 + j = (m + j) + 1 by omega]
    simp only [runF] at h ⊢
    split
    · rename_i h0
      rw [if_pos h0] at h
      obtain ⟨h1, h2⟩ := runF_join B n m j _ h
      refine ⟨by simp only [h1], ?_⟩
      rw [h2]
      simp only [plus, Prod.mk.injEq, true_and]; omega
    · rename_i h0
      rw [if_neg h0] at h
      split at h
      · rename_i h7; simp only at h; omega
      · exact (h0 h).elim
theorem runF_asked (B : List UInt8) (n : Nat) : ∀ (m j : Nat) (r : Nat → Int), (runF B n m r).2.1.k ≠ 0 → runF B n (m + j) r = runF B n m r
  | 0, j, r, h => by simp [runF] at h
  | m + 1, j, r, h => by
    rw [show m + 1 + j = (m + j) + 1 by omega]
    simp only [runF] at h ⊢
    split
    · rename_i h0
      rw [if_pos h0] at h
      rw [runF_asked B n m j _ h]
    · rfl
end Go.Proofs.Ytnkpfknilhgjgaa
/- Runs that are joined. -/
namespace Go.Proofs.Ytnkpfknilhgjgaa
open Go.RowKit
set_option maxRecDepth 100000
set_option maxHeartbeats 4000000
theorem run_regs (B : List UInt8) (n : Nat) : ∀ (m : Nat) (r : Nat → Int), RegsOk r → RegsOk (runF B n m r).1
  | 0, r, h => h
  | m + 1, r, h => by
    simp only [runF]
    split
    · exact run_regs B n m _ (step_regs h)
    · split <;> exact step_regs h
theorem run_count (B : List UInt8) (n : Nat) : ∀ (m : Nat) (r : Nat → Int), (runF B n m r).2.2 ≤ m
  | 0, r => Nat.le_refl _
  | m + 1, r => by
    simp only [runF]
    split
    · have := run_count B n m (stepF B n r).1
      show _ + 1 ≤ _
      omega
    · split
      · exact Nat.zero_le _
      · show 1 ≤ _; omega
theorem cpuJoins_row (B : List UInt8) (c : Nat) (r : Nat → Int) (hr : RegsOk r) (p q : Int) (hp : 0 ≤ p ∧ p ≤ 255) (hq : 0 ≤ q ∧ q ≤ 255) (hc : B.length ≤ c) : PC Try.prog 5 [regsV r, .slice (some ⟨0, 0, none⟩) B.length c, .agg #[.int .u8 p, .int .u8 q]] [.ro (u8s B)] (fun v _ => v = .bool true) fun _ _ => False := by
  refine pc_of Try.func5 rfl (by decide) (by kernel_rfl) (by show 3 ≤ _; decide) (SW.of mixed _ _ _ ?_)
  obtain ⟨N, hN, hN2⟩ : ∃ N : Nat, (IntKind.i64.wrap p).tmod 40 = N ∧ N < 40 := ⟨(p % 40).toNat, by rw [show IntKind.i64.wrap p = p by rw [IntKind.wrap_i64]; omega, Int.tmod_eq_emod_of_nonneg hp.1]; omega, by omega⟩
  obtain ⟨M, hM, hM2⟩ : ∃ M : Nat, (IntKind.i64.wrap q).tmod 40 = M ∧ M < 40 := ⟨(q % 40).toNat, by rw [show IntKind.i64.wrap q = q by rw [IntKind.wrap_i64]; omega, Int.tmod_eq_emod_of_nonneg hq.1]; omega, by omega⟩
  have hNM : IntKind.i64.wrap ((N : Int) + M) = (N : Int) + M := by rw [IntKind.wrap_i64]; omega
  have e1 : (min (max (N : Int) 0) 1000).toNat = N := by omega
  have e2 : (min (max (M : Int) 0) 1000).toNat = M := by omega
  have e3 : (min (max ((N : Int) + M) 0) 1000).toNat = N + M := by omega
  simp -implicitDefEqProofs
  refine pdk_at [] (by kernel_rfl) ?_
  simp -implicitDefEqProofs [hN, hM]
  refine pdk_at [] (by kernel_rfl) ?_
  simp -implicitDefEqProofs
  refine (short_q (by simp) hc).kq ?_
  simp -implicitDefEqProofs
  refine (run_q (B := B) (b := 0) rfl (by omega) (by omega) hr).kq ?_
  rw [e1]
  have hreg := run_regs B (min B.length 400) N r hr
  simp -implicitDefEqProofs [runV]
  refine pdk_at [] (by kernel_rfl) ?_
  simp -implicitDefEqProofs
  refine (short_q (by simp) hc).kq ?_
  simp -implicitDefEqProofs [hNM]
  refine (run_q (B := B) (b := 0) rfl (by omega) (by omega) hr).kq ?_
  rw [e3]
  simp -implicitDefEqProofs [runV]
  by_cases h0 : (runF B (min B.length 400) N r).2.1.k = 0
  · obtain ⟨j1, j2⟩ := runF_join B (min B.length 400) N M r h0
    simp -implicitDefEqProofs [h0]
    refine pdk_at [] (by kernel_rfl) ?_
    simp -implicitDefEqProofs
    refine (short_q (by simp) hc).kq ?_
    simp -implicitDefEqProofs
    refine (run_q (B := B) (b := 0) rfl (by omega) (by omega) hreg).kq ?_
    rw [e2]
    have hk := run_count B (min B.length 400) M (runF B (min B.length 400) N r).1
    have hw : IntKind.i64.wrap ((N : Int) + ((runF B (min B.length 400) M (runF B (min B.length 400) N r).1).2.2 : Nat)) = ((runF B (min B.length 400) M (runF B (min B.length 400) N r).1).2.2 : Int) + N := by rw [IntKind.wrap_i64]; omega
    simp -implicitDefEqProofs [runV]
    refine fnLive.k ?_
    simp -implicitDefEqProofs [j2, plus, j1, hw]
  · have j2 := runF_asked B (min B.length 400) N M r h0
    simp -implicitDefEqProofs [h0]
    refine fnLive.k ?_
    simp -implicitDefEqProofs [j2]
theorem cpuJoins_nil (r : Nat → Int) (hr : RegsOk r) (p q : Int) (hp : 0 ≤ p ∧ p ≤ 255) (hq : 0 ≤ q ∧ q ≤ 255) : PC Try.prog 5 [regsV r, .slice none 0 0, .agg #[.int .u8 p, .int .u8 q]] [] (fun v _ => v = .bool true) fun _ _ => False := by
  refine pc_of Try.func5 rfl (by decide) (by kernel_rfl) (by show 3 ≤ _; decide) (SW.of mixed _ _ _ ?_)
  obtain ⟨N, hN, hN2⟩ : ∃ N : Nat, (IntKind.i64.wrap p).tmod 40 = N ∧ N < 40 := ⟨(p % 40).toNat, by rw [show IntKind.i64.wrap p = p by rw [IntKind.wrap_i64]; omega, Int.tmod_eq_emod_of_nonneg hp.1]; omega, by omega⟩
  obtain ⟨M, hM, hM2⟩ : ∃ M : Nat, (IntKind.i64.wrap q).tmod 40 = M ∧ M < 40 := ⟨(q % 40).toNat, by rw [show IntKind.i64.wrap q = q by rw [IntKind.wrap_i64]; omega, Int.tmod_eq_emod_of_nonneg hq.1]; omega, by omega⟩
  have hNM : IntKind.i64.wrap ((N : Int) + M) = (N : Int) + M := by rw [IntKind.wrap_i64]; omega
  have e1 : (min (max (N : Int) 0) 1000).toNat = N := by omega
  have e2 : (min (max (M : Int) 0) 1000).toNat = M := by omega
  have e3 : (min (max ((N : Int) + M) 0) 1000).toNat = N + M := by omega
  simp -implicitDefEqProofs
  refine pdk_at [] (by kernel_rfl) ?_
  simp -implicitDefEqProofs [hN, hM]
  refine pdk_at [] (by kernel_rfl) ?_
  simp -implicitDefEqProofs
  refine short_nil.kq ?_
  simp -implicitDefEqProofs
  refine (run_nil hr).kq ?_
  rw [e1]
  have hreg := run_regs [] 0 N r hr
  simp -implicitDefEqProofs [runV]
  refine pdk_at [] (by kernel_rfl) ?_
  simp -implicitDefEqProofs
  refine short_nil.kq ?_
  simp -implicitDefEqProofs [hNM]
  refine (run_nil hr).kq ?_
  rw [e3]
  simp -implicitDefEqProofs [runV]
  by_cases h0 : (runF [] 0 N r).2.1.k = 0
  · obtain ⟨j1, j2⟩ := runF_join [] 0 N M r h0
    simp -implicitDefEqProofs [h0]
    refine pdk_at [] (by kernel_rfl) ?_
    simp -implicitDefEqProofs
    refine short_nil.kq ?_
    simp -implicitDefEqProofs
    refine (run_nil hreg).kq ?_
    rw [e2]
    have hk := run_count [] 0 M (runF [] 0 N r).1
    have hw : IntKind.i64.wrap ((N : Int) + ((runF [] 0 M (runF [] 0 N r).1).2.2 : Nat)) = ((runF [] 0 M (runF [] 0 N r).1).2.2 : Int) + N := by rw [IntKind.wrap_i64]; omega
    simp -implicitDefEqProofs [runV]
    refine fnLive.k ?_
    simp -implicitDefEqProofs [j2, plus, j1, hw]
  · have j2 := runF_asked [] 0 N M r h0
    simp -implicitDefEqProofs [h0]
    refine fnLive.k ?_
    simp -implicitDefEqProofs [j2]
end Go.Proofs.Ytnkpfknilhgjgaa

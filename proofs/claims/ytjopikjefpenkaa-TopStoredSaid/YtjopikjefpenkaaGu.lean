/- What a processor asks to store, stored, is what it loads: the law. -/
import Derived.Test.YtjopikjefpenkaaGt
set_option linter.unusedSimpArgs false
set_option linter.unusedVariables false
set_option linter.unusedSectionVars false
namespace Go.Proofs.Ytjopikjefpenkaa
open Go.RowKit
set_option maxRecDepth 100000
set_option maxHeartbeats 16000000
theorem stored_a (w r t n : Int) (a : Nat) (ha : a ≤ 5) (hr : r.tmod 7 = a) (hw0 : 0 ≤ w) (hw : w ≤ 65535) (ht : (t.tmod 511 = n ∧ ¬ n.tmod 32 = 31) ∨ (t.tmod 511 = n + 1 ∧ (n + 1).tmod 32 = 31)) (hn0 : 0 ≤ n) (hn : n ≤ 510) (hn2 : n % 32 ≤ 30) : Fn Try.prog 3 [.int .u16 w, .int .u8 r, .int .u16 t] (.bool true) := by
  refine Fn.of ?_ rfl rfl
  have m1 : n.tdiv 32 = n / 32 := Int.tdiv_eq_ediv_of_nonneg hn0
  have m2 : n.tmod 32 = n % 32 := Int.tmod_eq_emod_of_nonneg hn0
  have w1 : IntKind.u16.wrap n = n := by rw [IntKind.wrap_u16]; omega
  have w2 : IntKind.i64.wrap n = n := by rw [IntKind.wrap_i64]; omega
  have w3 : IntKind.i64.wrap (n / 32) = n / 32 := by rw [IntKind.wrap_i64]; omega
  have i0 : 0 ≤ n / 32 := by omega
  have i1 : n / 32 < 16 := by omega
  have o0 : 0 ≤ n % 32 := by omega
  have hl0 : mem0.length = 512 := by kernel_rfl
  have hk : (n / 32).toNat * 32 + (n % 32).toNat + 2 ≤ mem0.length := by omega
  have hcs : (laid mem0 [.int .u8 (w / 256), .int .u8 (w % 256)] ((n / 32).toNat * 32 + (n % 32).toNat)).length = 512 := by rw [laid_length (by simpa using hk)]; exact hl0
  have hx : (laid mem0 [.int .u8 (w / 256), .int .u8 (w % 256)] ((n / 32).toNat * 32 + (n % 32).toNat))[(n / 32).toNat * 32 + (n % 32).toNat]? = some (.int .u8 (w / 256)) := by
    rw [laid_get (by simpa using hk), if_pos (by simp)]; simp
  have hy : (laid mem0 [.int .u8 (w / 256), .int .u8 (w % 256)] ((n / 32).toNat * 32 + (n % 32).toNat))[(n / 32).toNat * 32 + (n % 32).toNat + 1]? = some (.int .u8 (w % 256)) := by
    rw [laid_get (by simpa using hk), if_pos (by simp)]; simp
  have hv : w / 256 * 256 + w % 256 = w := by omega
  have e0 : IntKind.u16.wrap (0 + n) = n := by rw [IntKind.wrap_u16]; omega
  have E1 := fnExecSt w n a (by omega) hn0 (by omega)
  have E2 := fnExecLd w n a (by omega) n (by rw [if_neg (by omega)]; exact e0)
  refine pc_of Try.func3 rfl (by decide) (by kernel_rfl) (by show 3 ≤ _; decide) (SW.of mixed _ _ _ ?_)
  simp -implicitDefEqProofs
  refine PC.ke (new_pc []) ?_
  rcases (show a = 0 ∨ a = 1 ∨ a = 2 ∨ a = 3 ∨ a = 4 ∨ a = 5 by omega) with rfl | rfl | rfl | rfl | rfl | rfl
  all_goals rcases ht with ⟨t1, t2⟩ | ⟨t1, t2⟩
  all_goals simp -implicitDefEqProofs [regA, regsV, insV, accV] at E1 E2 hr
  all_goals simp -implicitDefEqProofs [t1, t2, hr, w1]
  all_goals refine E1.k ?_
  all_goals simp -implicitDefEqProofs [m1, m2, w2, w3]
  all_goals refine PC.ke (setWord_pc mem0 _ (n / 32) (n % 32) w hl0 i0 i1 o0 hn2 hw0 hw) ?_
  all_goals simp -implicitDefEqProofs
  all_goals refine E2.k ?_
  all_goals simp -implicitDefEqProofs [m1, m2, w2, w3, hr]
  all_goals refine PC.ke (word_pc _ _ (n / 32) (n % 32) (w / 256) (w % 256) hcs i0 i1 o0 hn2 hx hy (by omega) (by omega) (by omega) (by omega)) ?_
  all_goals simp -implicitDefEqProofs [hv]
  all_goals refine (fnLoad7 _ _ _ _ _ _ _ _ _ _).k ?_
  all_goals simp -implicitDefEqProofs [regsV]
theorem stored_6 (w r t n : Int) (hr : r.tmod 7 = 6) (hw0 : 0 ≤ w) (hw : w ≤ 65535) (ht : (t.tmod 511 = n ∧ ¬ n.tmod 32 = 31) ∨ (t.tmod 511 = n + 1 ∧ (n + 1).tmod 32 = 31)) (hn0 : 0 ≤ n) (hn : n ≤ 510) (hn2 : n % 32 ≤ 30) : Fn Try.prog 3 [.int .u16 w, .int .u8 r, .int .u16 t] (.bool true) := by
  refine Fn.of ?_ rfl rfl
  have m1 : n.tdiv 32 = n / 32 := Int.tdiv_eq_ediv_of_nonneg hn0
  have m2 : n.tmod 32 = n % 32 := Int.tmod_eq_emod_of_nonneg hn0
  have w1 : IntKind.u16.wrap n = n := by rw [IntKind.wrap_u16]; omega
  have w2 : IntKind.i64.wrap n = n := by rw [IntKind.wrap_i64]; omega
  have w3 : IntKind.i64.wrap (n / 32) = n / 32 := by rw [IntKind.wrap_i64]; omega
  have i0 : 0 ≤ n / 32 := by omega
  have i1 : n / 32 < 16 := by omega
  have o0 : 0 ≤ n % 32 := by omega
  have hl0 : mem0.length = 512 := by kernel_rfl
  have hk : (n / 32).toNat * 32 + (n % 32).toNat + 2 ≤ mem0.length := by omega
  have hcs : (laid mem0 [.int .u8 (w / 256), .int .u8 (w % 256)] ((n / 32).toNat * 32 + (n % 32).toNat)).length = 512 := by rw [laid_length (by simpa using hk)]; exact hl0
  have hx : (laid mem0 [.int .u8 (w / 256), .int .u8 (w % 256)] ((n / 32).toNat * 32 + (n % 32).toNat))[(n / 32).toNat * 32 + (n % 32).toNat]? = some (.int .u8 (w / 256)) := by
    rw [laid_get (by simpa using hk), if_pos (by simp)]; simp
  have hy : (laid mem0 [.int .u8 (w / 256), .int .u8 (w % 256)] ((n / 32).toNat * 32 + (n % 32).toNat))[(n / 32).toNat * 32 + (n % 32).toNat + 1]? = some (.int .u8 (w % 256)) := by
    rw [laid_get (by simpa using hk), if_pos (by simp)]; simp
  have hv : w / 256 * 256 + w % 256 = w := by omega
  have e0 : IntKind.u16.wrap (0 + n) = n := by rw [IntKind.wrap_u16]; omega
  have E1 := fnExecSt w n 6 (by omega) hn0 (by omega)
  have E2 := fnExecLd w n 6 (by omega) _ rfl
  refine pc_of Try.func3 rfl (by decide) (by kernel_rfl) (by show 3 ≤ _; decide) (SW.of mixed _ _ _ ?_)
  simp -implicitDefEqProofs
  refine PC.ke (new_pc []) ?_
  rcases ht with ⟨t1, t2⟩ | ⟨t1, t2⟩
  all_goals simp -implicitDefEqProofs [regA, regsV, insV, accV] at E1 E2
  all_goals simp -implicitDefEqProofs [t1, t2, hr, w1]
  all_goals refine E1.k ?_
  all_goals simp -implicitDefEqProofs [m1, m2, w2, w3]
  all_goals refine PC.ke (setWord_pc mem0 _ (n / 32) (n % 32) w hl0 i0 i1 o0 hn2 hw0 hw) ?_
  all_goals simp -implicitDefEqProofs
  all_goals refine E2.k ?_
  all_goals simp -implicitDefEqProofs [m1, m2, w2, w3, hr]
theorem fnStored (w r t : Int) (hw0 : 0 ≤ w) (hw : w ≤ 65535) (hr0 : 0 ≤ r) (hr : r ≤ 255) (ht0 : 0 ≤ t) (ht : t ≤ 65535) : Fn Try.prog 3 [.int .u16 w, .int .u8 r, .int .u16 t] (.bool true) := by
  have m1 : r.tmod 7 = r % 7 := Int.tmod_eq_emod_of_nonneg hr0
  have m2 : t.tmod 511 = t % 511 := Int.tmod_eq_emod_of_nonneg ht0
  have key : ∃ n : Int, 0 ≤ n ∧ n ≤ 510 ∧ n % 32 ≤ 30 ∧ ((t.tmod 511 = n ∧ ¬ n.tmod 32 = 31) ∨ (t.tmod 511 = n + 1 ∧ (n + 1).tmod 32 = 31)) := by
    by_cases h : t % 511 % 32 = 31
    · refine ⟨t % 511 - 1, by omega, by omega, by omega, .inr ⟨by omega, ?_⟩⟩
      rw [Int.tmod_eq_emod_of_nonneg (by omega)]; omega
    · refine ⟨t % 511, by omega, by omega, by omega, .inl ⟨by omega, ?_⟩⟩
      rw [Int.tmod_eq_emod_of_nonneg (by omega)]; exact h
  obtain ⟨n, h1, h2, h3, h4⟩ := key
  by_cases h6 : r % 7 = 6
  · exact stored_6 w r t n (by omega) hw0 hw h4 h1 h2 h3
  · exact stored_a w r t n (r % 7).toNat (by omega) (by omega) hw0 hw h4 h1 h2 h3
end Go.Proofs.Ytjopikjefpenkaa

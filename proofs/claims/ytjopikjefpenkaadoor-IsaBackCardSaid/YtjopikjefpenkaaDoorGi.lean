/- slices.Chunk; the instructions that bytes say. -/
import Derived.Test.YtjopikjefpenkaaDoorG8
import Derived.Test.YtjopikjefpenkaaDoorGc
import Derived.Test.YtjopikjefpenkaaDoorGl
set_option linter.unusedSimpArgs false
set_option linter.unusedVariables false
set_option linter.unusedSectionVars false
namespace Go.Proofs.YtjopikjefpenkaaDoor
open Go.RowKit
set_option maxRecDepth 100000
set_option maxHeartbeats 8000000
theorem chunk_pc (h : List PO) (b o n c : Nat) (sp : Option Nat) : PC Tryd.prog 31 [.slice (some ⟨b, o, sp⟩) n c, .int .i64 4] h (fun v h' => v = .func (.func 63) #[] #[.pointer (some ⟨h.length, 0, none⟩), .pointer (some ⟨h.length + 1, 0, none⟩)] ∧ h' = h ++ [.rw [.slice (some ⟨b, o, sp⟩) n c], .rw [.int .i64 4]]) fun _ _ => False := by
  refine pc_of Tryd.func31 rfl (by decide) (by kernel_rfl) (by show 2 ≤ _; decide) (SW.of mixed _ _ _ ?_)
  simp -implicitDefEqProofs 
theorem PC.ke {P : Program} {f : FuncId} {args : List Value} {h h1 : List PO} {v : Value} {K Kp : Value → List PO → Prop} (q : PC P f args h (fun v' h' => v' = v ∧ h' = h1) fun _ _ => False) (hK : K v h1) : @PCk _ P f args h ⟨K, Kp⟩ := q.mono (fun v' h' ⟨e1, e2⟩ => by subst e1; subst e2; exact hK) fun _ _ x => x.elim
def okB (B : List UInt8) (i : Nat) : Prop := okF (byt B i) (byt B (i + 1) / 16) (byt B (i + 1) % 16) (byt B (i + 2) * 256 + byt B (i + 3))
instance (B : List UInt8) (i : Nat) : Decidable (okB B i) := by unfold okB; infer_instance
def insC (B : List UInt8) (i : Nat) : List Value := [.int .u8 (byt B i), .int .u8 (byt B (i + 1) / 16), .int .u8 (byt B (i + 1) % 16), .int .u16 (byt B (i + 2) * 256 + byt B (i + 3))]
/-- So many instructions' cells. -/
def insCs (B : List UInt8) (o : Nat) : Nat → List Value
  | 0 => []
  | k + 1 => insCs B o k ++ insC B (o + 4 * k)
theorem insCs_len (B : List UInt8) (o : Nat) : ∀ k, (insCs B o k).length = 4 * k
  | 0 => rfl
  | k + 1 => by simp [insCs, insCs_len B o k, insC]; omega
@[simp] theorem RN_yld {ρ : Nat → Option Nat} {b c : Nat} : RN ρ (.func (.yield b) #[] #[]) (.func (.yield c) #[] #[]) = (ρ b = some c) := by
  refine propext ⟨fun h => ?_, fun h => RN.yld h⟩
  cases h with
  | yld h => exact h
  | func _ hy => cases hy
@[simp↓] theorem dop_builtin {P : Program} {e : Env} {h : List PO} {K : DR → Prop} {b : Builtin} {args : Array Operand} {tys : Array TypeId} : dop P (.call { callee := .builtin b, args, argTypes := tys }) e h K = @oD (qp P e (.call { callee := .builtin b, args, argTypes := tys })) (fun _ => qm P e h (.call { callee := .builtin b, args, argTypes := tys })) ⟨K⟩ := rfl
def zc (k : Nat) : List Value := rep k [.int .u8 0, .int .u8 0, .int .u8 0, .int .u16 0]
theorem zc_flat : ∀ k, (zc k).all (flat 6) = true
  | 0 => by unfold zc; rw [rep_zero]; rfl
  | k + 1 => by
    have := zc_flat k
    unfold zc at *
    rw [rep_succ, List.all_append, this]; rfl
theorem insCs_flat (B : List UInt8) (o : Nat) : ∀ k, (insCs B o k).all (flat 6) = true
  | 0 => rfl
  | k + 1 => by unfold insCs; rw [List.all_append, insCs_flat B o k]; rfl
theorem insZ_flat (B : List UInt8) (o j k : Nat) : (insCs B o j ++ zc k).all (flat 6) = true := by rw [List.all_append, insCs_flat, zc_flat]; rfl
theorem zc_len (k : Nat) : (zc k).length = 4 * k := by
  induction k with
  | zero => unfold zc; rw [rep_zero]; rfl
  | succ k ih => unfold zc at *; rw [rep_succ, List.length_append, ih]; simp; omega
theorem laid_ins (B : List UInt8) (o j k : Nat) (h : j < k) : laid (insCs B o j ++ zc (k - j)) (insC B (o + 4 * j)) (j * 4) = insCs B o (j + 1) ++ zc (k - (j + 1)) := by
  obtain ⟨m, rfl⟩ : ∃ m, k = j + 1 + m := ⟨k - (j + 1), by omega⟩
  rw [show j + 1 + m - j = m + 1 by omega, show j + 1 + m - (j + 1) = m by omega]
  have e : zc (m + 1) = [.int .u8 0, .int .u8 0, .int .u8 0, .int .u16 0] ++ zc m := by unfold zc; rw [rep_succ]
  have hl := insCs_len B o j
  unfold laid
  rw [e, List.take_append_of_le_length (by omega), List.take_of_length_le (by omega)]
  have h4 : (insC B (o + 4 * j)).length = 4 := rfl
  rw [h4, List.drop_append, List.drop_eq_nil_of_le (by omega), hl, show j * 4 + 4 - 4 * j = 4 by omega]
  show insCs B o j ++ insC B (o + 4 * j) ++ _ = _
  simp [insCs]
theorem readCode_small (B : List UInt8) (o n c : Nat) (sp : Option Nat) (hsp : sp = none ∨ sp = some 1 ∧ c = n) (hl : o + n ≤ B.length) (hc : n ≤ c) (hn : n ≤ 140737488355328) (h4 : n % 4 = 0) : PC Tryd.prog 10 [.slice (some ⟨0, o, sp⟩) n c] [.ro (u8s B)] (fun v h' => Kept [.ro (u8s B)] h' ∧
    (((∀ j, j < n / 4 → okB B (o + 4 * j)) ∧ ∃ k, v = .tuple #[.slice (some ⟨k, 0, none⟩) (n / 4) (n / 4), .int .i64 0] ∧ 1 ≤ k ∧ h'[k]? = some (.rw (insCs B o (n / 4)))) ∨
     ((∃ j, j < n / 4 ∧ ¬ okB B (o + 4 * j)) ∧ v = .tuple #[.slice none 0 0, .int .i64 3]))) fun _ _ => False := by
  rcases hsp with rfl | ⟨rfl, hcn⟩
  · have m1 : (n : Int).tmod 4 = 0 := by rw [Int.tmod_eq_emod_of_nonneg (by omega)]; omega
    have m2 : IntKind.i64.wrap ((n : Int) / 4) = ((n / 4 : Nat) : Int) := by rw [IntKind.wrap_i64]; omega
    have m3 : 0 ≤ ((n / 4 : Nat) : Int) ∧ ((n / 4 : Nat) : Int) ≤ 9223372036854775807 ∧ 6 * ((n / 4 : Nat) : Int) ≤ 281474976710656 := by omega
    refine pc_of Tryd.func10 rfl (by decide) (by kernel_rfl) (by show 1 ≤ _; decide) (SW.of mixed _ _ _ ?_)
    simp -implicitDefEqProofs [m1, m2]
    have m4 : 0 ≤ (n : Int) / 4 ∧ (n : Int) / 4 ≤ 9223372036854775807 ∧ 6 * ((n : Int) / 4) ≤ 281474976710656 := by omega
    refine ⟨m4, PC.ke (chunk_pc _ 0 o n c _) ?_⟩
    have m5 : ((n : Int) / 4).toNat = n / 4 := by omega
    generalize hk : n / 4 = k at *
    simp -implicitDefEqProofs [m5]
    refine pwpR_of rfl [(2, .pointer (some ⟨1, 0, none⟩)), (3, .pointer (some ⟨2, 0, none⟩)), (4, .pointer (some ⟨4, 0, none⟩))] (by simp [envSub, Env.get]) fun fn tmps df hok => ?_
    simp -implicitDefEqProofs
    generalize hL : PO.lp (rec0 fn tmps df _ _ _) _ = L
    have hLL : ORN (fun b => [0, 1, 2, 3, 4, 5, 6, 7][b]?) L L := by rw [← hL]; exact ORN_lp (by simp [envSelf])
    refine pc_of Tryd.func63 rfl (by decide) (by kernel_rfl) (by show 3 ≤ _; decide) (SW.of mixed _ _ _ ?_)
    simp -implicitDefEqProofs
    refine pwp_loop_st (fun j : Nat => ⟨[(4, .int .i64 ((4 * j : Nat) : Int)), (0, .func (.yield 7) #[] #[]), (1, .pointer (some ⟨5, 0, none⟩)), (2, .pointer (some ⟨6, 0, none⟩))], [.ro (u8s B), .rw [.slice none 0 0], .rw [.int .i64 0], .rw (insCs B o j ++ zc (k - j)), .rw [.slice (some ⟨3, 0, none⟩) j k], .rw [.slice (some ⟨0, o, none⟩) n c], .rw [.int .i64 4], L]⟩) (fun j => k - j) (fun j => j ≤ k ∧ ∀ i, i < j → okB B (o + 4 * i)) 0 [0, 1, 2, 3, 4, 5, 6, 7] ⟨Nat.zero_le _, fun i hi => by omega⟩ (Sub.mk' (by decide) (by simp [preOk]) ?_ ?_) ?_
    · have := RNs_flat (ρ := fun b => [0, 1, 2, 3, 4, 5, 6, 7][b]?) (zc_flat k)
      unfold zc at this
      simp -implicitDefEqProofs [hLL, RNs_flat (u8s_flat B), insCs, zc, this]
    · simp -implicitDefEqProofs
    rintro j ⟨hj, hall⟩
    by_cases hlt : j < k
    · have h1 : ((4 * j : Nat) : Int) < n := by omega
      have h2 : 4 * (j : Int) < n := by omega
      have h3 : min (4 : Int) (n - 4 * j) = 4 := by omega
      have h4' : ¬ ((n : Int) - 4 * j < 4) := by omega
      simp -implicitDefEqProofs [h1, h2]
      refine pdk_at [] (by kernel_rfl) ?_
      have h5 : 4 * (j : Int) ≤ n := by omega
      have h6 : ¬ (c : Int) = 4 * (j : Int) := by omega
      have h7 : (4 * (j : Int)).toNat = 4 * j := by omega
      have h8 : max ((n : Int) - 4 * (j : Int)) 0 = n - 4 * j := by omega
      have h9 : ¬ ((n : Int) - 4 * (j : Int) < 4) := by omega
      have w1 : IntKind.i64.wrap (4 * (j : Int) + 4) = 4 * (j : Int) + 4 := by rw [IntKind.wrap_i64]; omega
      have g1 : ¬ (4 * (j : Int) + 4 = 4 * (j : Int)) := by omega
      have g2 : (4 * (j : Int) + 4 - 4 * (j : Int)).toNat = 4 := by omega
      have g3 : 4 * (j : Int) + 4 ≤ c := by omega
      have g6 : 4 * (j : Int) + 4 ≤ n := by omega
      have g4 : 4 * (j : Int) ≤ 4 * (j : Int) + 4 := by omega
      have g5 : 0 ≤ 4 * (j : Int) := by omega
      simp -implicitDefEqProofs [h5, h6, h7, hc, h8, h9, w1, g1, g2, g3, g4, g5, g6]
      refine PY.k mixed (b := 7) (e0 := _) (by rw [← hL]; rfl) rfl hok ?_
      simp -implicitDefEqProofs
      refine Qassign_norm mixed (by rw [← hL]; rfl) ?_
      simp -implicitDefEqProofs [rec0]
      refine (decode_q (B := B) rfl (by omega)).k ?_
      by_cases hok2 : okB B (o + 4 * j)
      · have hd : decB B (o + 4 * j) = .tuple #[insV (byt B (o + 4 * j)) (byt B (o + 4 * j + 1) / 16) (byt B (o + 4 * j + 1) % 16) (byt B (o + 4 * j + 2) * 256 + byt B (o + 4 * j + 3)), .int .i64 0] := if_pos hok2
        rw [hd]
        have q1 := laid_ins B o j k hlt
        have q2 : j * 4 + 4 ≤ (insCs B o j).length + (zc (k - j)).length := by rw [insCs_len, zc_len]; omega
        have q3 : j + 1 ≤ k := hlt
        unfold insC at q1
        simp -implicitDefEqProofs [insV, q1, q2, q3, Qround, rep_succ, rep_zero, qappend, notInt, qelems]
        refine Again.mk (j + 1) [0, 1, 2, 3, 4, 5, 6, 7] (show k - (j + 1) < k - j by omega) ⟨hlt, fun i hi => by
            by_cases e : i = j
            · subst e; exact hok2
            · exact hall i (by omega)⟩ (Sub.mk' (by decide) (by simp [preOk]) ?_ ?_)
        · simp -implicitDefEqProofs
          refine ⟨RNs.all (d := 6) (u8s_flat B), RNs.all (insZ_flat B o (j + 1) (k - (j + 1))), ?_⟩
          rw [← hL] at hLL ⊢
          exact hLL
        · have w2 : 4 * ((j : Int) + 1) = 4 * (j : Int) + 4 := by omega
          simp -implicitDefEqProofs [w1, w2]
      · have hd : decB B (o + 4 * j) = .tuple #[insV 0 0 0 0, .int .i64 3] := if_neg hok2
        rw [hd]
        simp -implicitDefEqProofs [insV, Qround, rep_succ, rep_zero, qappend, notInt, qelems]
        subst hL
        refine ⟨_, rfl, by simp, ?_⟩
        simp -implicitDefEqProofs [rec0, Kept]
        exact ⟨j, hlt, hok2⟩
    · have h1 : ¬ ((4 * j : Nat) : Int) < n := by omega
      have h2 : ¬ 4 * (j : Int) < n := by omega
      simp -implicitDefEqProofs [h1, h2]
      obtain rfl : j = k := by omega
      subst hL
      refine ⟨_, rfl, by simp [rec0], ?_⟩
      simp -implicitDefEqProofs [rec0, Kept, show zc 0 = [] from rep_zero _]
      exact hall
  · have m1 : (n : Int).tmod 4 = 0 := by rw [Int.tmod_eq_emod_of_nonneg (by omega)]; omega
    have m2 : IntKind.i64.wrap ((n : Int) / 4) = ((n / 4 : Nat) : Int) := by rw [IntKind.wrap_i64]; omega
    have m3 : 0 ≤ ((n / 4 : Nat) : Int) ∧ ((n / 4 : Nat) : Int) ≤ 9223372036854775807 ∧ 6 * ((n / 4 : Nat) : Int) ≤ 281474976710656 := by omega
    refine pc_of Tryd.func10 rfl (by decide) (by kernel_rfl) (by show 1 ≤ _; decide) (SW.of mixed _ _ _ ?_)
    simp -implicitDefEqProofs [m1, m2]
    have m4 : 0 ≤ (n : Int) / 4 ∧ (n : Int) / 4 ≤ 9223372036854775807 ∧ 6 * ((n : Int) / 4) ≤ 281474976710656 := by omega
    refine ⟨m4, PC.ke (chunk_pc _ 0 o n c _) ?_⟩
    have m5 : ((n : Int) / 4).toNat = n / 4 := by omega
    generalize hk : n / 4 = k at *
    simp -implicitDefEqProofs [m5]
    refine pwpR_of rfl [(2, .pointer (some ⟨1, 0, none⟩)), (3, .pointer (some ⟨2, 0, none⟩)), (4, .pointer (some ⟨4, 0, none⟩))] (by simp [envSub, Env.get]) fun fn tmps df hok => ?_
    simp -implicitDefEqProofs
    generalize hL : PO.lp (rec0 fn tmps df _ _ _) _ = L
    have hLL : ORN (fun b => [0, 1, 2, 3, 4, 5, 6, 7][b]?) L L := by rw [← hL]; exact ORN_lp (by simp [envSelf])
    refine pc_of Tryd.func63 rfl (by decide) (by kernel_rfl) (by show 3 ≤ _; decide) (SW.of mixed _ _ _ ?_)
    simp -implicitDefEqProofs
    refine pwp_loop_st (fun j : Nat => ⟨[(4, .int .i64 ((4 * j : Nat) : Int)), (0, .func (.yield 7) #[] #[]), (1, .pointer (some ⟨5, 0, none⟩)), (2, .pointer (some ⟨6, 0, none⟩))], [.ro (u8s B), .rw [.slice none 0 0], .rw [.int .i64 0], .rw (insCs B o j ++ zc (k - j)), .rw [.slice (some ⟨3, 0, none⟩) j k], .rw [.slice (some ⟨0, o, some 1⟩) n c], .rw [.int .i64 4], L]⟩) (fun j => k - j) (fun j => j ≤ k ∧ ∀ i, i < j → okB B (o + 4 * i)) 0 [0, 1, 2, 3, 4, 5, 6, 7] ⟨Nat.zero_le _, fun i hi => by omega⟩ (Sub.mk' (by decide) (by simp [preOk]) ?_ ?_) ?_
    · have := RNs_flat (ρ := fun b => [0, 1, 2, 3, 4, 5, 6, 7][b]?) (zc_flat k)
      unfold zc at this
      simp -implicitDefEqProofs [hLL, RNs_flat (u8s_flat B), insCs, zc, this]
    · simp -implicitDefEqProofs
    rintro j ⟨hj, hall⟩
    by_cases hlt : j < k
    · have h1 : ((4 * j : Nat) : Int) < n := by omega
      have h2 : 4 * (j : Int) < n := by omega
      have h3 : min (4 : Int) (n - 4 * j) = 4 := by omega
      have h4' : ¬ ((n : Int) - 4 * j < 4) := by omega
      simp -implicitDefEqProofs [h1, h2]
      refine pdk_at [] (by kernel_rfl) ?_
      have h5 : 4 * (j : Int) ≤ n := by omega
      have h6 : ¬ (c : Int) = 4 * (j : Int) := by omega
      have h7 : (4 * (j : Int)).toNat = 4 * j := by omega
      have h8 : max ((n : Int) - 4 * (j : Int)) 0 = n - 4 * j := by omega
      have h9 : ¬ ((n : Int) - 4 * (j : Int) < 4) := by omega
      have w1 : IntKind.i64.wrap (4 * (j : Int) + 4) = 4 * (j : Int) + 4 := by rw [IntKind.wrap_i64]; omega
      have g1 : ¬ (4 * (j : Int) + 4 = 4 * (j : Int)) := by omega
      have g2 : (4 * (j : Int) + 4 - 4 * (j : Int)).toNat = 4 := by omega
      have g3 : 4 * (j : Int) + 4 ≤ c := by omega
      have g6 : 4 * (j : Int) + 4 ≤ n := by omega
      have g4 : 4 * (j : Int) ≤ 4 * (j : Int) + 4 := by omega
      have g5 : 0 ≤ 4 * (j : Int) := by omega
      simp -implicitDefEqProofs [h5, h6, h7, hc, h8, h9, w1, g1, g2, g3, g4, g5, g6]
      refine PY.k mixed (b := 7) (e0 := _) (by rw [← hL]; rfl) rfl hok ?_
      simp -implicitDefEqProofs
      refine Qassign_norm mixed (by rw [← hL]; rfl) ?_
      simp -implicitDefEqProofs [rec0]
      refine (decode_q (B := B) rfl (by omega)).k ?_
      by_cases hok2 : okB B (o + 4 * j)
      · have hd : decB B (o + 4 * j) = .tuple #[insV (byt B (o + 4 * j)) (byt B (o + 4 * j + 1) / 16) (byt B (o + 4 * j + 1) % 16) (byt B (o + 4 * j + 2) * 256 + byt B (o + 4 * j + 3)), .int .i64 0] := if_pos hok2
        rw [hd]
        have q1 := laid_ins B o j k hlt
        have q2 : j * 4 + 4 ≤ (insCs B o j).length + (zc (k - j)).length := by rw [insCs_len, zc_len]; omega
        have q3 : j + 1 ≤ k := hlt
        unfold insC at q1
        simp -implicitDefEqProofs [insV, q1, q2, q3, Qround, rep_succ, rep_zero, qappend, notInt, qelems]
        refine Again.mk (j + 1) [0, 1, 2, 3, 4, 5, 6, 7] (show k - (j + 1) < k - j by omega) ⟨hlt, fun i hi => by
            by_cases e : i = j
            · subst e; exact hok2
            · exact hall i (by omega)⟩ (Sub.mk' (by decide) (by simp [preOk]) ?_ ?_)
        · simp -implicitDefEqProofs
          refine ⟨RNs.all (d := 6) (u8s_flat B), RNs.all (insZ_flat B o (j + 1) (k - (j + 1))), ?_⟩
          rw [← hL] at hLL ⊢
          exact hLL
        · have w2 : 4 * ((j : Int) + 1) = 4 * (j : Int) + 4 := by omega
          simp -implicitDefEqProofs [w1, w2]
      · have hd : decB B (o + 4 * j) = .tuple #[insV 0 0 0 0, .int .i64 3] := if_neg hok2
        rw [hd]
        simp -implicitDefEqProofs [insV, Qround, rep_succ, rep_zero, qappend, notInt, qelems]
        subst hL
        refine ⟨_, rfl, by simp, ?_⟩
        simp -implicitDefEqProofs [rec0, Kept]
        exact ⟨j, hlt, hok2⟩
    · have h1 : ¬ ((4 * j : Nat) : Int) < n := by omega
      have h2 : ¬ 4 * (j : Int) < n := by omega
      simp -implicitDefEqProofs [h1, h2]
      obtain rfl : j = k := by omega
      subst hL
      refine ⟨_, rfl, by simp [rec0], ?_⟩
      simp -implicitDefEqProofs [rec0, Kept, show zc 0 = [] from rep_zero _]
      exact hall

theorem live_ro1 {cs : List Value} : ∀ o ∈ [PO.ro cs], o.live = true := by simp [PO.live]
end Go.Proofs.YtjopikjefpenkaaDoor
/- The bytes of instructions, both ways. -/
namespace Go.Proofs.YtjopikjefpenkaaDoor
open Go.RowKit
set_option maxRecDepth 100000
set_option maxHeartbeats 8000000
abbrev QV := Int × Int × Int × Int
def cI (q : QV) : List Value := [.int .u8 q.1, .int .u8 q.2.1, .int .u8 q.2.2.1, .int .u16 q.2.2.2]
def rowQ : List QV → List Value
  | [] => []
  | q :: Q => cI q ++ rowQ Q
theorem rowQ_len : ∀ Q : List QV, (rowQ Q).length = 4 * Q.length
  | [] => rfl
  | q :: Q => by rw [rowQ, List.length_append, rowQ_len Q]; simp [cI]; omega
theorem rowQ_app : ∀ Q R : List QV, rowQ (Q ++ R) = rowQ Q ++ rowQ R
  | [], _ => rfl
  | q :: Q, R => by simp [rowQ, rowQ_app Q R]
theorem rowQ_flat : ∀ Q : List QV, (rowQ Q).all (flat 6) = true
  | [] => rfl
  | q :: Q => by rw [rowQ, List.all_append, rowQ_flat Q]; rfl
theorem rowQ_get : ∀ (Q : List QV) (i : Nat) (h : i < Q.length), List.take 4 (List.drop (i * 4) (rowQ Q)) = cI Q[i]
  | q :: Q, 0, _ => by simp [rowQ, cI]
  | q :: Q, i + 1, h => by
    have := rowQ_get Q i (by simpa using h)
    rw [rowQ, show (i + 1) * 4 = 4 + i * 4 by omega, ← List.drop_drop]
    simpa [cI] using this
def QR (q : QV) : Prop := 0 ≤ q.1 ∧ 0 ≤ q.2.1 ∧ 0 ≤ q.2.2.1 ∧ 0 ≤ q.2.2.2 ∧ q.2.2.2 ≤ 65535
def qok (q : QV) : Prop := okF q.1 q.2.1 q.2.2.1 q.2.2.2
instance (q : QV) : Decidable (qok q) := by unfold qok; infer_instance
def encB (q : QV) : List UInt8 := [UInt8.ofNat q.1.toNat, UInt8.ofNat (q.2.1 * 16 + q.2.2.1).toNat, UInt8.ofNat (q.2.2.2 / 256).toNat, UInt8.ofNat (q.2.2.2 % 256).toNat]
theorem u8_of {x : Int} (h : 0 ≤ x) (h1 : x ≤ 255) : ((UInt8.ofNat x.toNat).toNat : Int) = x := by
  rw [UInt8.toNat_ofNat']; omega
theorem encB_cells {q : QV} (hr : QR q) (ok : qok q) : u8s (encB q) = encL q.1 q.2.1 q.2.2.1 q.2.2.2 := by
  obtain ⟨h0, h1, h2, h3, h4⟩ := hr
  have k0 : q.1 ≤ 23 := ok.1
  have k1 : q.2.1 < 8 := ok.2.1
  have k2 : q.2.2.1 < 8 := ok.2.2.1
  unfold u8s encB encL
  simp only [List.map_cons, List.map_nil]
  rw [u8_of h0 (by omega), u8_of (by omega) (by omega), u8_of (by omega) (by omega), u8_of (by omega) (by omega)]
def encBs : List QV → List UInt8
  | [] => []
  | q :: Q => encB q ++ encBs Q
theorem encBs_app : ∀ Q R : List QV, encBs (Q ++ R) = encBs Q ++ encBs R
  | [], _ => rfl
  | q :: Q, R => by simp [encBs, encBs_app Q R]
theorem encBs_len : ∀ Q : List QV, (encBs Q).length = 4 * Q.length
  | [] => rfl
  | q :: Q => by rw [encBs, List.length_append, encBs_len Q]; simp [encB]; omega
theorem take_snoc (Q : List QV) (i : Nat) (h : i < Q.length) : Q.take (i + 1) = Q.take i ++ [Q[i]] := by
  rw [List.take_add_one, List.getElem?_eq_getElem h]; rfl
/-- The bytes so far. -/
def outV (i : Nat) : Value := if i = 0 then .slice none 0 0 else .slice (some ⟨1, 0, some 1⟩) (4 * i) (4 * i)
def outO (Q : List QV) (i : Nat) : PO := if i = 0 then .dead else .gr (u8s (encBs (Q.take i)))
/-- What becomes of instructions. -/
def CodeK (Q : List QV) (m : Nat) (v : Value) (h' : List PO) : Prop := Kept [.ro (rowQ Q)] h' ∧
  (((∀ i (h : i < Q.length), i < m → qok Q[i]) ∧ ((m = 0 ∧ v = .tuple #[.slice none 0 0, .int .i64 0]) ∨ (0 < m ∧ ∃ k, v = .tuple #[.slice (some ⟨k, 0, some 1⟩) (4 * m) (4 * m), .int .i64 0] ∧ 1 ≤ k ∧ h'[k]? = some (.gr (u8s (encBs (Q.take m))))))) ∨
   ((∃ i, ∃ h : i < Q.length, i < m ∧ ¬ qok Q[i]) ∧ v = .tuple #[.slice none 0 0, .int .i64 3]))
theorem code_small (Q : List QV) (m c : Nat) (hl : m ≤ Q.length) (hm : 4 * m ≤ 140737488355328) (hr : ∀ q ∈ Q, QR q) : PC Tryd.prog 7 [.slice (some ⟨0, 0, none⟩) m c] [.ro (rowQ Q)] (CodeK Q m) fun _ _ => False := by
  refine pc_of Tryd.func7 rfl (by decide) (by kernel_rfl) (by show 1 ≤ _; decide) (SW.of mixed _ _ _ ?_)
  simp -implicitDefEqProofs
  refine pwp_loop_st (fun i : Nat => ⟨[(11, .int .i64 (i : Int)), (10, .int .i64 (m : Int)), (9, .slice (some ⟨0, 0, none⟩) m c), (4, outV i), (3, .int .i64 0)], [.ro (rowQ Q), outO Q i]⟩) (fun i => m - i) (fun i => i ≤ m ∧ ∀ j (h : j < Q.length), j < i → qok Q[j]) 0 [0] ⟨Nat.zero_le _, fun j h hj => by omega⟩ (Sub.mk' (by decide) (by simp [preOk]) ?_ ?_) ?_
  · simp -implicitDefEqProofs [outO, outV]
    exact RNs.all (d := 6) (rowQ_flat Q)
  · simp -implicitDefEqProofs [outO, outV]
  rintro i ⟨hi, hall⟩
  by_cases hlt : i < m
  · have h1 : (i : Int) < m := by omega
    have hiQ : i < Q.length := by omega
    have hget := rowQ_get Q i hiQ
    have hl4 := rowQ_len Q
    have hl5 : i * 4 + 4 ≤ (rowQ Q).length := by omega
    generalize hq : Q[i] = q at *
    have hq2 : QR q := hr q (hq ▸ List.getElem_mem hiQ)
    unfold cI at hget
    simp -implicitDefEqProofs [h1, hget, hl5]
    have hle2 : (encBs (Q.take i)).length = 4 * i := by rw [encBs_len, List.length_take, Nat.min_eq_left (by omega)]
    by_cases ok : qok q
    · refine PCq.k (encode_q _ _ _ _ hq2.1 hq2.2.1 hq2.2.2.1 hq2.2.2.2.1 hq2.2.2.2.2 ok) ?_
      have w1 : IntKind.i64.wrap ((i : Int) + 1) = (i : Int) + 1 := by rw [IntKind.wrap_i64]; omega
      have hall2 : ∀ j (h : j < Q.length), j < i + 1 → qok Q[j] := fun j h hj => by
        by_cases e : j = i
        · subst e; rw [hq]; exact ok
        · exact hall j h (by omega)
      have hsn : u8s (encBs (Q.take (i + 1))) = u8s (encBs (Q.take i)) ++ encL q.1 q.2.1 q.2.2.1 q.2.2.2 := by
        rw [take_snoc Q i hiQ, hq, encBs_app, ← encB_cells hq2 ok]; simp [u8s, encBs]
      by_cases hi0 : i = 0
      · subst hi0
        simp -implicitDefEqProofs [outV, outO, rep_succ, rep_zero, qappend, notInt, qelems, encL, w1]
        have e0 : u8s (encBs (Q.take 1)) = encL q.1 q.2.1 q.2.2.1 q.2.2.2 := by simpa [encBs, u8s] using hsn
        refine Again.mk 1 [0, 4] (show m - 1 < m by omega) ⟨by omega, hall2⟩ (Sub.mk' (by decide) (by simp [preOk]) ?_ ?_)
        · simp -implicitDefEqProofs [e0, encL]
          exact RNs.all (d := 6) (rowQ_flat Q)
        · simp -implicitDefEqProofs
      · have hz : 4 * i ≤ 140737488355328 := by omega
        simp -implicitDefEqProofs [outV, outO, hi0, rep_succ, rep_zero, qappend, notInt, qelems, encL, w1, hle2]
        have e4 : 4 * (i + 1) = 4 * i + 4 := by omega
        refine ⟨by omega, Again.mk (i + 1) [0, 4] (show m - (i + 1) < m - i by omega) ⟨by omega, hall2⟩ (Sub.mk' (by decide) (by simp [preOk]) ?_ ?_)⟩
        · simp -implicitDefEqProofs [hsn]
          refine ⟨RNs.all (d := 6) (rowQ_flat Q), ?_⟩
          unfold encL
          exact RNs.all (d := 6) (by rw [List.all_append, u8s_flat]; rfl)
        · simp -implicitDefEqProofs [e4]
    · refine (encode_bad _ _ _ _ hq2.1 ok).k ?_
      simp -implicitDefEqProofs [CodeK, Kept]
      exact ⟨i, hlt, hiQ, by rw [hq]; exact ok⟩
  · obtain rfl : i = m := by omega
    simp -implicitDefEqProofs [CodeK, Kept]
    refine ⟨hall, ?_⟩
    by_cases hi0 : i = 0
    · exact .inl ⟨hi0, by simp [outV, hi0]⟩
    · exact .inr ⟨by omega, 1, by simp [outV, hi0], by omega, by simp [outO, hi0]⟩
theorem codeR_small (Q : List QV) (m c : Nat) (hl : m ≤ Q.length) (hm : 4 * m ≤ 140737488355328) (hr : ∀ q ∈ Q, QR q) : PC Tryd.prog 9 [.slice (some ⟨0, 0, none⟩) m c] [.ro (rowQ Q)] (CodeK Q m) fun _ _ => False := by
  refine pc_of Tryd.func9 rfl (by decide) (by kernel_rfl) (by show 1 ≤ _; decide) (SW.of mixed _ _ _ ?_)
  simp -implicitDefEqProofs
  refine pwp_loop_st (fun i : Nat => ⟨[(5, .int .i64 (i : Int)), (0, .slice (some ⟨0, 0, none⟩) m c), (4, outV i)], [.ro (rowQ Q), outO Q i]⟩) (fun i => m - i) (fun i => i ≤ m ∧ ∀ j (h : j < Q.length), j < i → qok Q[j]) 0 [0] ⟨Nat.zero_le _, fun j h hj => by omega⟩ (Sub.mk' (by decide) (by simp [preOk]) ?_ ?_) ?_
  · simp -implicitDefEqProofs [outO, outV]
    exact RNs.all (d := 6) (rowQ_flat Q)
  · simp -implicitDefEqProofs [outO, outV]
  rintro i ⟨hi, hall⟩
  by_cases hlt : i < m
  · have h1 : (i : Int) < m := by omega
    have hiQ : i < Q.length := by omega
    have hget := rowQ_get Q i hiQ
    have hl4 := rowQ_len Q
    have hl5 : i * 4 + 4 ≤ (rowQ Q).length := by omega
    generalize hq : Q[i] = q at *
    have hq2 : QR q := hr q (hq ▸ List.getElem_mem hiQ)
    unfold cI at hget
    simp -implicitDefEqProofs [h1, hget, hl5]
    have hle2 : (encBs (Q.take i)).length = 4 * i := by rw [encBs_len, List.length_take, Nat.min_eq_left (by omega)]
    by_cases ok : qok q
    · refine PCq.k (encodeR_q _ _ _ _ hq2.1 hq2.2.1 hq2.2.2.1 hq2.2.2.2.1 hq2.2.2.2.2 ok) ?_
      have w1 : IntKind.i64.wrap ((i : Int) + 1) = (i : Int) + 1 := by rw [IntKind.wrap_i64]; omega
      have hall2 : ∀ j (h : j < Q.length), j < i + 1 → qok Q[j] := fun j h hj => by
        by_cases e : j = i
        · subst e; rw [hq]; exact ok
        · exact hall j h (by omega)
      have hsn : u8s (encBs (Q.take (i + 1))) = u8s (encBs (Q.take i)) ++ encL q.1 q.2.1 q.2.2.1 q.2.2.2 := by
        rw [take_snoc Q i hiQ, hq, encBs_app, ← encB_cells hq2 ok]; simp [u8s, encBs]
      by_cases hi0 : i = 0
      · subst hi0
        simp -implicitDefEqProofs [outV, outO, rep_succ, rep_zero, qappend, notInt, qelems, encL, w1]
        have e0 : u8s (encBs (Q.take 1)) = encL q.1 q.2.1 q.2.2.1 q.2.2.2 := by simpa [encBs, u8s] using hsn
        refine Again.mk 1 [0, 3] (show m - 1 < m by omega) ⟨by omega, hall2⟩ (Sub.mk' (by decide) (by simp [preOk]) ?_ ?_)
        · simp -implicitDefEqProofs [e0, encL]
          exact RNs.all (d := 6) (rowQ_flat Q)
        · simp -implicitDefEqProofs
      · have hz : 4 * i ≤ 140737488355328 := by omega
        simp -implicitDefEqProofs [outV, outO, hi0, rep_succ, rep_zero, qappend, notInt, qelems, encL, w1, hle2]
        have e4 : 4 * (i + 1) = 4 * i + 4 := by omega
        refine ⟨by omega, Again.mk (i + 1) [0, 3] (show m - (i + 1) < m - i by omega) ⟨by omega, hall2⟩ (Sub.mk' (by decide) (by simp [preOk]) ?_ ?_)⟩
        · simp -implicitDefEqProofs [hsn]
          refine ⟨RNs.all (d := 6) (rowQ_flat Q), ?_⟩
          unfold encL
          exact RNs.all (d := 6) (by rw [List.all_append, u8s_flat]; rfl)
        · simp -implicitDefEqProofs [e4]
    · refine (encodeR_bad _ _ _ _ hq2.1 ok).k ?_
      simp -implicitDefEqProofs [CodeK, Kept]
      exact ⟨i, hlt, hiQ, by rw [hq]; exact ok⟩
  · obtain rfl : i = m := by omega
    simp -implicitDefEqProofs [CodeK, Kept]
    refine ⟨hall, ?_⟩
    by_cases hi0 : i = 0
    · exact .inl ⟨hi0, by simp [outV, hi0]⟩
    · exact .inr ⟨by omega, 1, by simp [outV, hi0], by omega, by simp [outO, hi0]⟩
/-- A new row of bare values, and a bare value. -/
theorem PC.readsRowG {P : Program} {f : FuncId} {args0 args : List Value} {h0 h : List PO} {o n m : Nat} {sp : Option Nat} {cs : List Value} {u : Value} (l : List Nat) (q : PC P f args0 h0 (fun v' h' => ∃ k, v' = .tuple #[.slice (some ⟨k, o, sp⟩) n m, u] ∧ h0.length ≤ k ∧ h'[k]? = some (.gr cs) ∧ Kept h0 h') fun _ _ => False) (hf : Fit l h0 (h.map PO.frz)) (hlive : ∀ o ∈ h0, o.live = true) (ha : RNs (fun b => l[b]?) args0 args) (hc : cs.all (flat 6) = true) (hu : flat 5 u = true) : PCq P f args h fun v' ns => v' = .tuple #[.slice (some ⟨h.length, o, sp⟩) n m, u] ∧ ns = [.gr cs] := by
  refine PC.readsG l q hf hlive ha (d := 6) (fun v0 h0' ⟨k, e, h1, h2, hk⟩ => ⟨hk, [k], by simp, rfl, ?_, fun j b hj => ?_⟩) ?_
  · subst e
    refine .tuple rfl (fun i v v' g1 g2 => ?_)
    match i with
    | 0 => cases g1; cases g2; exact .sl _ _ _ _ (by simp [rho])
    | 1 => cases g1; cases g2; exact RN.of_flat hu
    | i + 2 => simp at g1
  · cases j with
    | zero => simp at hj; subst hj; exact ⟨h1, .gr cs, _, rfl, h2, RNs.all hc, rfl⟩
    | succ j => simp at hj
  · simp only [newAll, Bool.and_eq_true]
    refine ⟨by
      have := newV_flat (g := freshG h.length (h.map PO.frz ++ [.gr cs])) hu
      simp [newV, freshG, PO.own] at this ⊢; exact this, ?_⟩
    rw [List.drop_append_of_le_length (by simp), List.drop_eq_nil_of_le (by simp)]
    have : newO (freshG h.length (h.map PO.frz ++ [.gr cs])) 6 (.gr cs) = true := by
      unfold newO; exact List.all_eq_true.2 fun v hv => newV_flat (List.all_eq_true.1 hc v hv)
    simp [PO.own, this]
def qB (B : List UInt8) (o j : Nat) : QV := (byt B (o + 4 * j), byt B (o + 4 * j + 1) / 16, byt B (o + 4 * j + 1) % 16, byt B (o + 4 * j + 2) * 256 + byt B (o + 4 * j + 3))
def qBs (B : List UInt8) (o k : Nat) : List QV := (List.range k).map (qB B o)
theorem qBs_succ (B : List UInt8) (o k : Nat) : qBs B o (k + 1) = qBs B o k ++ [qB B o k] := by simp [qBs, List.range_succ]
theorem qBs_len (B : List UInt8) (o k : Nat) : (qBs B o k).length = k := by simp [qBs]
theorem qBs_get (B : List UInt8) (o k i : Nat) (h : i < (qBs B o k).length) : (qBs B o k)[i] = qB B o i := by simp [qBs]
theorem insCs_row (B : List UInt8) (o : Nat) : ∀ k, insCs B o k = rowQ (qBs B o k)
  | 0 => rfl
  | k + 1 => by rw [insCs, insCs_row B o k, qBs_succ, rowQ_app]; rfl
theorem qB_rng (B : List UInt8) (o j : Nat) : QR (qB B o j) := by
  have g0 := byt_ge B (o + 4 * j)
  have g1 := byt_ge B (o + 4 * j + 1)
  have g2 := byt_ge B (o + 4 * j + 2)
  have g3 := byt_ge B (o + 4 * j + 3)
  have l2 := byt_le B (o + 4 * j + 2)
  have l3 := byt_le B (o + 4 * j + 3)
  refine ⟨g0, ?_, ?_, ?_, ?_⟩ <;> simp only [qB] <;> omega
/-- The instructions so far. -/
def outI (i : Nat) : Value := if i = 0 then .slice none 0 0 else .slice (some ⟨1, 0, some 4⟩) i i
def outP (B : List UInt8) (o i : Nat) : PO := if i = 0 then .dead else .gr (insCs B o i)
theorem readCodeR_small (B : List UInt8) (o n c : Nat) (hl : o + n ≤ B.length) (hc : n ≤ c) (hn : n ≤ 400) (h4 : n % 4 = 0) : PC Tryd.prog 11 [.slice (some ⟨0, o, none⟩) n c] [.ro (u8s B)] (fun v h' => Kept [.ro (u8s B)] h' ∧
    (((∀ j, j < n / 4 → okB B (o + 4 * j)) ∧ ((n / 4 = 0 ∧ v = .tuple #[.slice none 0 0, .int .i64 0]) ∨ (0 < n / 4 ∧ ∃ k, v = .tuple #[.slice (some ⟨k, 0, some 4⟩) (n / 4) (n / 4), .int .i64 0] ∧ 1 ≤ k ∧ h'[k]? = some (.gr (insCs B o (n / 4)))))) ∨
     ((∃ j, j < n / 4 ∧ ¬ okB B (o + 4 * j)) ∧ v = .tuple #[.slice none 0 0, .int .i64 3]))) fun _ _ => False := by
  have m1 : (n : Int).tmod 4 = 0 := by rw [Int.tmod_eq_emod_of_nonneg (by omega)]; omega
  refine pc_of Tryd.func11 rfl (by decide) (by kernel_rfl) (by show 1 ≤ _; decide) (SW.of mixed _ _ _ ?_)
  generalize hk : n / 4 = k at *
  simp -implicitDefEqProofs [m1]
  refine pwp_loop_st (fun j : Nat => ⟨[(5, .int .i64 ((4 * j : Nat) : Int)), (0, .slice (some ⟨0, o, none⟩) n c), (4, outI j)], [.ro (u8s B), outP B o j]⟩) (fun j => k - j) (fun j => j ≤ k ∧ ∀ i, i < j → okB B (o + 4 * i)) 0 [0] ⟨Nat.zero_le _, fun i hi => by omega⟩ (Sub.mk' (by decide) (by simp [preOk]) ?_ ?_) ?_
  · simp -implicitDefEqProofs [outI, outP]
    exact RNs.all (d := 6) (u8s_flat B)
  · simp -implicitDefEqProofs [outI, outP]
  rintro j ⟨hj, hall⟩
  by_cases hlt : j < k
  · have h1 : ((4 * j : Nat) : Int) < n := by omega
    have h2 : 4 * (j : Int) < n := by omega
    have w1 : IntKind.i64.wrap (4 * (j : Int) + 4) = 4 * (j : Int) + 4 := by rw [IntKind.wrap_i64]; omega
    have h6 : ¬ (c : Int) = 4 * (j : Int) := by omega
    have h7 : (4 * (j : Int)).toNat = 4 * j := by omega
    have g2 : (4 * (j : Int) + 4 - 4 * (j : Int)).toNat = 4 := by omega
    have g3 : 4 * (j : Int) + 4 ≤ c := by omega
    have g4 : 4 * (j : Int) ≤ 4 * (j : Int) + 4 := by omega
    have g5 : 0 ≤ 4 * (j : Int) := by omega
    simp -implicitDefEqProofs [h1, h2, w1, h6, h7, g2, g3, g4, g5, hc]
    refine (decodeR_q (B := B) rfl (by omega)).k ?_
    by_cases hok2 : okB B (o + 4 * j)
    · have hd : decB B (o + 4 * j) = .tuple #[insV (byt B (o + 4 * j)) (byt B (o + 4 * j + 1) / 16) (byt B (o + 4 * j + 1) % 16) (byt B (o + 4 * j + 2) * 256 + byt B (o + 4 * j + 3)), .int .i64 0] := if_pos hok2
      rw [hd]
      have w3 : 4 * ((j : Int) + 1) = 4 * (j : Int) + 4 := by omega
      have hlen := insCs_len B o j
      have hall2 : ∀ i, i < j + 1 → okB B (o + 4 * i) := fun i hi => by
        by_cases e : i = j
        · subst e; exact hok2
        · exact hall i (by omega)
      by_cases hj0 : j = 0
      · subst hj0
        simp -implicitDefEqProofs [outI, outP, insV, rep_succ, rep_zero, qappend, notInt, qelems]
        refine Again.mk 1 [0, 4] (show k - 1 < k by omega) ⟨by omega, hall2⟩ (Sub.mk' (by decide) (by simp [preOk]) ?_ ?_)
        · simp -implicitDefEqProofs [insCs, insC]
          exact RNs.all (d := 6) (u8s_flat B)
        · simp -implicitDefEqProofs
      · have q1 : j * 4 = 4 * j := by omega
        simp -implicitDefEqProofs [outI, outP, hj0, insV, rep_succ, rep_zero, qappend, notInt, qelems, hlen, q1]
        refine ⟨by omega, Again.mk (j + 1) [0, 4] (show k - (j + 1) < k - j by omega) ⟨by omega, hall2⟩ (Sub.mk' (by decide) (by simp [preOk]) ?_ ?_)⟩
        · simp -implicitDefEqProofs [insCs, insC]
          refine ⟨RNs.all (d := 6) (u8s_flat B), ?_⟩
          exact RNs.all (d := 6) (by rw [List.all_append, insCs_flat]; rfl)
        · simp -implicitDefEqProofs [w3, w1]
    · have hd : decB B (o + 4 * j) = .tuple #[insV 0 0 0 0, .int .i64 3] := if_neg hok2
      rw [hd]
      simp -implicitDefEqProofs [insV, Kept, outI, outP, rep_succ, rep_zero, qappend, notInt, qelems]
      exact ⟨j, hlt, hok2⟩
  · obtain rfl : j = k := by omega
    have h1 : ¬ ((4 * j : Nat) : Int) < n := by omega
    have h2 : ¬ 4 * (j : Int) < n := by omega
    simp -implicitDefEqProofs [h1, h2, Kept]
    refine ⟨hall, ?_⟩
    by_cases hi0 : j = 0
    · exact .inl ⟨hi0, by simp [outI, hi0]⟩
    · exact .inr ⟨by omega, 1, by simp [outI, hi0], by omega, by simp [outP, hi0]⟩
end Go.Proofs.YtjopikjefpenkaaDoor
/- The bytes of instructions, both ways: the law. -/
namespace Go.Proofs.YtjopikjefpenkaaDoor
open Go.RowKit
set_option maxRecDepth 100000
set_option maxHeartbeats 8000000
theorem few_pc (h : List PO) (b m c : Nat) (hmc : m ≤ c) : PC Tryd.prog 8 [.slice (some ⟨b, 0, none⟩) m c] h (fun v h' => v = .slice (some ⟨b, 0, none⟩) (min m 60) c ∧ h' = h) fun _ _ => False := by
  refine pc_of Tryd.func8 rfl (by decide) (by kernel_rfl) (by show 1 ≤ _; decide) (SW.of mixed _ _ _ ?_)
  by_cases h1 : 60 < (m : Int)
  · have h2 : min m 60 = 60 := by omega
    have h3 : (60 : Int) ≤ c := by omega
    have h4 : ¬ (c : Int) = 0 := by omega
    have h5 : ¬ c = 0 := by omega
    simp -implicitDefEqProofs [h1, h2, h3, h4, h5]
  · have h2 : min m 60 = m := by omega
    simp -implicitDefEqProofs [h1, h2]
theorem few_nil (h : List PO) : PC Tryd.prog 8 [.slice none 0 0] h (fun v h' => v = .slice none 0 0 ∧ h' = h) fun _ _ => False := by
  refine pc_of Tryd.func8 rfl (by decide) (by kernel_rfl) (by show 1 ≤ _; decide) (SW.of mixed _ _ _ ?_)
  simp -implicitDefEqProofs
theorem fnCodeNil : Fn Tryd.prog 7 [.slice none 0 0] (.tuple #[.slice none 0 0, .int .i64 0]) := by
  refine Fn.of ?_ rfl rfl
  refine pc_of Tryd.func7 rfl (by decide) (by kernel_rfl) (by show 1 ≤ _; decide) (SW.of mixed _ _ _ ?_)
  simp -implicitDefEqProofs
  refine pwp_rounds 1 ?_
  rw [Rounds_succ]
  simp -implicitDefEqProofs
theorem fnCodeRNil : Fn Tryd.prog 9 [.slice none 0 0] (.tuple #[.slice none 0 0, .int .i64 0]) := by
  refine Fn.of ?_ rfl rfl
  refine pc_of Tryd.func9 rfl (by decide) (by kernel_rfl) (by show 1 ≤ _; decide) (SW.of mixed _ _ _ ?_)
  simp -implicitDefEqProofs
  refine pwp_rounds 1 ?_
  rw [Rounds_succ]
  simp -implicitDefEqProofs
/-- Are so many instructions right? -/
def allQ (Q : List QV) (m : Nat) : Prop := ∀ i (h : i < Q.length), i < m → qok Q[i]
theorem notAllQ {Q : List QV} {m : Nat} (h : ¬ allQ Q m) : ∃ i, ∃ h : i < Q.length, i < m ∧ ¬ qok Q[i] := by
  apply Classical.byContradiction
  intro hn
  exact h fun i hi hm => Classical.byContradiction fun hq => hn ⟨i, hi, hm, hq⟩
section
variable {h : List PO} {b m c : Nat} {Q : List QV}
theorem rowA {l : List Value} {o n c b : Nat} {sp : Option Nat} : RNs (fun i => [b][i]?) (.slice (some ⟨0, o, sp⟩) n c :: []) (.slice (some ⟨b, o, sp⟩) n c :: []) := row_args RNs.nil
theorem u8s_flat5 (B : List UInt8) : (u8s B).all (flat 6) = true := u8s_flat B
theorem code_q0 (hb : hcells h b = some (rowQ Q)) (hr : ∀ q ∈ Q, QR q) : PCq Tryd.prog 7 [.slice (some ⟨b, 0, none⟩) 0 c] h fun v ns => v = .tuple #[.slice none 0 0, .int .i64 0] ∧ ns = [] :=
  PC.reads [b] ((code_small Q 0 c (by omega) (by omega) hr).mono (fun v h' ⟨k, r⟩ => ⟨by
    rcases r with ⟨_, ⟨_, e⟩ | ⟨e, _⟩⟩ | ⟨⟨i, _, hi, _⟩, _⟩
    · exact e
    · omega
    · omega, k⟩) fun _ _ x => x.elim) (fit_row hb (rowQ_flat Q)) live_ro (row_args RNs.nil) rfl
theorem codeR_q0 (hb : hcells h b = some (rowQ Q)) (hr : ∀ q ∈ Q, QR q) : PCq Tryd.prog 9 [.slice (some ⟨b, 0, none⟩) 0 c] h fun v ns => v = .tuple #[.slice none 0 0, .int .i64 0] ∧ ns = [] :=
  PC.reads [b] ((codeR_small Q 0 c (by omega) (by omega) hr).mono (fun v h' ⟨k, r⟩ => ⟨by
    rcases r with ⟨_, ⟨_, e⟩ | ⟨e, _⟩⟩ | ⟨⟨i, _, hi, _⟩, _⟩
    · exact e
    · omega
    · omega, k⟩) fun _ _ x => x.elim) (fit_row hb (rowQ_flat Q)) live_ro (row_args RNs.nil) rfl
theorem code_q (hb : hcells h b = some (rowQ Q)) (hl : m ≤ Q.length) (hm : 4 * m ≤ 140737488355328) (h0 : 0 < m) (hr : ∀ q ∈ Q, QR q) (ha : allQ Q m) : PCq Tryd.prog 7 [.slice (some ⟨b, 0, none⟩) m c] h fun v ns => v = .tuple #[.slice (some ⟨h.length, 0, some 1⟩) (4 * m) (4 * m), .int .i64 0] ∧ ns = [.gr (u8s (encBs (Q.take m)))] :=
  PC.readsRowG [b] ((code_small Q m c hl hm hr).mono (fun v h' ⟨k, r⟩ => by
    rcases r with ⟨_, ⟨e, _⟩ | ⟨_, k2, e1, e2, e3⟩⟩ | ⟨⟨i, hi, hm, hn⟩, _⟩
    · omega
    · exact ⟨k2, e1, by simpa using e2, e3, k⟩
    · exact (hn (ha i hi hm)).elim) fun _ _ x => x.elim) (fit_row hb (rowQ_flat Q)) live_ro (row_args RNs.nil) (u8s_flat5 _) rfl
theorem codeR_q (hb : hcells h b = some (rowQ Q)) (hl : m ≤ Q.length) (hm : 4 * m ≤ 140737488355328) (h0 : 0 < m) (hr : ∀ q ∈ Q, QR q) (ha : allQ Q m) : PCq Tryd.prog 9 [.slice (some ⟨b, 0, none⟩) m c] h fun v ns => v = .tuple #[.slice (some ⟨h.length, 0, some 1⟩) (4 * m) (4 * m), .int .i64 0] ∧ ns = [.gr (u8s (encBs (Q.take m)))] :=
  PC.readsRowG [b] ((codeR_small Q m c hl hm hr).mono (fun v h' ⟨k, r⟩ => by
    rcases r with ⟨_, ⟨e, _⟩ | ⟨_, k2, e1, e2, e3⟩⟩ | ⟨⟨i, hi, hm, hn⟩, _⟩
    · omega
    · exact ⟨k2, e1, by simpa using e2, e3, k⟩
    · exact (hn (ha i hi hm)).elim) fun _ _ x => x.elim) (fit_row hb (rowQ_flat Q)) live_ro (row_args RNs.nil) (u8s_flat5 _) rfl
theorem code_qn (hb : hcells h b = some (rowQ Q)) (hl : m ≤ Q.length) (hm : 4 * m ≤ 140737488355328) (hr : ∀ q ∈ Q, QR q) (ha : ¬ allQ Q m) : PCq Tryd.prog 7 [.slice (some ⟨b, 0, none⟩) m c] h fun v ns => v = .tuple #[.slice none 0 0, .int .i64 3] ∧ ns = [] :=
  PC.reads [b] ((code_small Q m c hl hm hr).mono (fun v h' ⟨k, r⟩ => ⟨by
    rcases r with ⟨e, _⟩ | ⟨_, e⟩
    · exact (ha e).elim
    · exact e, k⟩) fun _ _ x => x.elim) (fit_row hb (rowQ_flat Q)) live_ro (row_args RNs.nil) rfl
theorem codeR_qn (hb : hcells h b = some (rowQ Q)) (hl : m ≤ Q.length) (hm : 4 * m ≤ 140737488355328) (hr : ∀ q ∈ Q, QR q) (ha : ¬ allQ Q m) : PCq Tryd.prog 9 [.slice (some ⟨b, 0, none⟩) m c] h fun v ns => v = .tuple #[.slice none 0 0, .int .i64 3] ∧ ns = [] :=
  PC.reads [b] ((codeR_small Q m c hl hm hr).mono (fun v h' ⟨k, r⟩ => ⟨by
    rcases r with ⟨e, _⟩ | ⟨_, e⟩
    · exact (ha e).elim
    · exact e, k⟩) fun _ _ x => x.elim) (fit_row hb (rowQ_flat Q)) live_ro (row_args RNs.nil) rfl
end
end Go.Proofs.YtjopikjefpenkaaDoor
/- The bytes of instructions, both ways: reading, comparing. -/
namespace Go.Proofs.YtjopikjefpenkaaDoor
open Go.RowKit
set_option maxRecDepth 100000
set_option maxHeartbeats 8000000
/-- Do so many bytes say instructions? -/
def allB (B : List UInt8) (o n : Nat) : Prop := ∀ j, j < n / 4 → okB B (o + 4 * j)
section
variable {h : List PO} {b o n c : Nat} {sp : Option Nat} {B : List UInt8}
theorem readCode_q (hb : hcells h b = some (u8s B)) (hsp : sp = none ∨ sp = some 1 ∧ c = n) (hl : o + n ≤ B.length) (hc : n ≤ c) (hn : n ≤ 140737488355328) (h4 : n % 4 = 0) (ha : allB B o n) : PCq Tryd.prog 10 [.slice (some ⟨b, o, sp⟩) n c] h fun v ns => v = .tuple #[.slice (some ⟨h.length, 0, none⟩) (n / 4) (n / 4), .int .i64 0] ∧ ns = [.rw (rowQ (qBs B o (n / 4)))] :=
  PC.readsRowT [b] ((readCode_small B o n c sp hsp hl hc hn h4).mono (fun v h' ⟨k, r⟩ => by
    rcases r with ⟨_, k2, e1, e2, e3⟩ | ⟨⟨j, hj, hn⟩, _⟩
    · exact ⟨k2, e1, by simpa using e2, by rw [← insCs_row]; exact e3, k⟩
    · exact (hn (ha j hj)).elim) fun _ _ x => x.elim) (fit_row hb (u8s_flat B)) live_ro (row_args RNs.nil) (rowQ_flat _) rfl
theorem readCode_qn (hb : hcells h b = some (u8s B)) (hsp : sp = none ∨ sp = some 1 ∧ c = n) (hl : o + n ≤ B.length) (hc : n ≤ c) (hn : n ≤ 140737488355328) (h4 : n % 4 = 0) (ha : ¬ allB B o n) : PCq Tryd.prog 10 [.slice (some ⟨b, o, sp⟩) n c] h fun v ns => v = .tuple #[.slice none 0 0, .int .i64 3] ∧ ns = [] :=
  PC.reads [b] ((readCode_small B o n c sp hsp hl hc hn h4).mono (fun v h' ⟨k, r⟩ => ⟨by
    rcases r with ⟨e, _⟩ | ⟨_, e⟩
    · exact (ha e).elim
    · exact e, k⟩) fun _ _ x => x.elim) (fit_row hb (u8s_flat B)) live_ro (row_args RNs.nil) rfl
theorem readCode_odd (h4 : ¬ n % 4 = 0) : PC Tryd.prog 10 [.slice (some ⟨0, o, sp⟩) n c] [.ro (u8s B)] (fun v h' => v = .tuple #[.slice none 0 0, .int .i64 3] ∧ Kept [.ro (u8s B)] h') fun _ _ => False := by
  have m1 : ¬ (n : Int).tmod 4 = 0 := by rw [Int.tmod_eq_emod_of_nonneg (by omega)]; omega
  refine pc_of Tryd.func10 rfl (by decide) (by kernel_rfl) (by show 1 ≤ _; decide) (SW.of mixed _ _ _ ?_)
  simp -implicitDefEqProofs [m1, Kept]
theorem readCodeR_odd (h4 : ¬ n % 4 = 0) : PC Tryd.prog 11 [.slice (some ⟨0, o, sp⟩) n c] [.ro (u8s B)] (fun v h' => v = .tuple #[.slice none 0 0, .int .i64 3] ∧ Kept [.ro (u8s B)] h') fun _ _ => False := by
  have m1 : ¬ (n : Int).tmod 4 = 0 := by rw [Int.tmod_eq_emod_of_nonneg (by omega)]; omega
  refine pc_of Tryd.func11 rfl (by decide) (by kernel_rfl) (by show 1 ≤ _; decide) (SW.of mixed _ _ _ ?_)
  simp -implicitDefEqProofs [m1, Kept]
theorem readCode_qo (hb : hcells h b = some (u8s B)) (h4 : ¬ n % 4 = 0) : PCq Tryd.prog 10 [.slice (some ⟨b, o, sp⟩) n c] h fun v ns => v = .tuple #[.slice none 0 0, .int .i64 3] ∧ ns = [] :=
  PC.reads [b] (readCode_odd h4) (fit_row hb (u8s_flat B)) live_ro (row_args RNs.nil) rfl
theorem readCodeR_qo (hb : hcells h b = some (u8s B)) (h4 : ¬ n % 4 = 0) : PCq Tryd.prog 11 [.slice (some ⟨b, o, sp⟩) n c] h fun v ns => v = .tuple #[.slice none 0 0, .int .i64 3] ∧ ns = [] :=
  PC.reads [b] (readCodeR_odd h4) (fit_row hb (u8s_flat B)) live_ro (row_args RNs.nil) rfl
theorem readCodeR_q (hb : hcells h b = some (u8s B)) (hl : o + n ≤ B.length) (hc : n ≤ c) (hn : n ≤ 400) (h4 : n % 4 = 0) (h0 : 0 < n / 4) (ha : allB B o n) : PCq Tryd.prog 11 [.slice (some ⟨b, o, none⟩) n c] h fun v ns => v = .tuple #[.slice (some ⟨h.length, 0, some 4⟩) (n / 4) (n / 4), .int .i64 0] ∧ ns = [.gr (rowQ (qBs B o (n / 4)))] :=
  PC.readsRowG [b] ((readCodeR_small B o n c hl hc hn h4).mono (fun v h' ⟨k, r⟩ => by
    rcases r with ⟨_, ⟨e, _⟩ | ⟨_, k2, e1, e2, e3⟩⟩ | ⟨⟨j, hj, hn⟩, _⟩
    · omega
    · exact ⟨k2, e1, by simpa using e2, by rw [← insCs_row]; exact e3, k⟩
    · exact (hn (ha j hj)).elim) fun _ _ x => x.elim) (fit_row hb (u8s_flat B)) live_ro (row_args RNs.nil) (rowQ_flat _) rfl
theorem readCodeR_q0 (hb : hcells h b = some (u8s B)) (hl : o + n ≤ B.length) (hc : n ≤ c) (hn : n ≤ 400) (h4 : n % 4 = 0) (h0 : n / 4 = 0) : PCq Tryd.prog 11 [.slice (some ⟨b, o, none⟩) n c] h fun v ns => v = .tuple #[.slice none 0 0, .int .i64 0] ∧ ns = [] :=
  PC.reads [b] ((readCodeR_small B o n c hl hc hn h4).mono (fun v h' ⟨k, r⟩ => ⟨by
    rcases r with ⟨_, ⟨_, e⟩ | ⟨e, _⟩⟩ | ⟨⟨j, hj, hn⟩, _⟩
    · exact e
    · omega
    · omega, k⟩) fun _ _ x => x.elim) (fit_row hb (u8s_flat B)) live_ro (row_args RNs.nil) rfl
theorem readCodeR_qn (hb : hcells h b = some (u8s B)) (hl : o + n ≤ B.length) (hc : n ≤ c) (hn : n ≤ 400) (h4 : n % 4 = 0) (ha : ¬ allB B o n) : PCq Tryd.prog 11 [.slice (some ⟨b, o, none⟩) n c] h fun v ns => v = .tuple #[.slice none 0 0, .int .i64 3] ∧ ns = [] :=
  PC.reads [b] ((readCodeR_small B o n c hl hc hn h4).mono (fun v h' ⟨k, r⟩ => ⟨by
    rcases r with ⟨e, _⟩ | ⟨_, e⟩
    · exact (ha e).elim
    · exact e, k⟩) fun _ _ x => x.elim) (fit_row hb (u8s_flat B)) live_ro (row_args RNs.nil) rfl
end
theorem insSame_q (q : QV) : insSame q.1 q.2.1 q.2.2.1 q.2.2.2 q.1 q.2.1 q.2.2.1 q.2.2.2 = true := by simp [insSame]
/-- Rows with the same instructions. -/
theorem sameCode_small (Q R : List QV) (m c d : Nat) (sp sq : Option Nat) (hQ : m ≤ Q.length) (hR : m ≤ R.length) (hs : ∀ i (h : i < Q.length) (h' : i < R.length), i < m → Q[i] = R[i]) (hm : m ≤ 140737488355328) :
    PC Tryd.prog 13 [.slice (some ⟨0, 0, sp⟩) m c, .slice (some ⟨1, 0, sq⟩) m d] [.ro (rowQ Q), .ro (rowQ R)] (fun v h' => v = .bool true ∧ Kept [.ro (rowQ Q), .ro (rowQ R)] h') fun _ _ => False := by
  refine pc_of Tryd.func13 rfl (by decide) (by kernel_rfl) (by show 2 ≤ _; decide) (SW.of mixed _ _ _ ?_)
  simp -implicitDefEqProofs
  refine pwp_loop_st (fun i : Nat => ⟨[(5, .int .i64 (i : Int)), (0, .slice (some ⟨0, 0, sp⟩) m c), (1, .slice (some ⟨1, 0, sq⟩) m d)], [.ro (rowQ Q), .ro (rowQ R)]⟩) (fun i => m - i) (fun i => i ≤ m) 0 [0, 1] (Nat.zero_le _) (Sub.mk' (by decide) (by simp [preOk]) ?_ ?_) ?_
  · simp -implicitDefEqProofs
    exact ⟨RNs.all (d := 6) (rowQ_flat Q), RNs.all (d := 6) (rowQ_flat R)⟩
  · simp -implicitDefEqProofs
  rintro i hi
  by_cases hlt : i < m
  · have h1 : (i : Int) < m := by omega
    have hiQ : i < Q.length := by omega
    have hiR : i < R.length := by omega
    have hget := rowQ_get Q i hiQ
    have hgetR := rowQ_get R i hiR
    have hl4 := rowQ_len Q
    have hl4R := rowQ_len R
    have hl5 : i * 4 + 4 ≤ (rowQ Q).length := by omega
    have hl5R : i * 4 + 4 ≤ (rowQ R).length := by omega
    have hqr := hs i hiQ hiR hlt
    rw [← hqr] at hgetR
    generalize Q[i] = q at *
    unfold cI at hget hgetR
    have w1 : IntKind.i64.wrap ((i : Int) + 1) = (i : Int) + 1 := by rw [IntKind.wrap_i64]; omega
    simp -implicitDefEqProofs [h1]
    refine pdk_at [] (by kernel_rfl) ?_
    simp -implicitDefEqProofs [h1, hget, hl5, hgetR, hl5R, insEq, insSame_q, w1]
    refine Again.mk (i + 1) [0, 1] (show m - (i + 1) < m - i by omega) hlt (Sub.mk' (by decide) (by simp [preOk]) ?_ ?_)
    · simp -implicitDefEqProofs
      exact ⟨RNs.all (d := 6) (rowQ_flat Q), RNs.all (d := 6) (rowQ_flat R)⟩
    · simp -implicitDefEqProofs
  · obtain rfl : i = m := by omega
    simp -implicitDefEqProofs [Kept]
theorem fnSameNil : Fn Tryd.prog 13 [.slice none 0 0, .slice none 0 0] (.bool true) := by
  refine Fn.of ?_ rfl rfl
  refine pc_of Tryd.func13 rfl (by decide) (by kernel_rfl) (by show 2 ≤ _; decide) (SW.of mixed _ _ _ ?_)
  simp -implicitDefEqProofs
  refine pwp_rounds 1 ?_
  rw [Rounds_succ]
  simp -implicitDefEqProofs
theorem sameCode_s0 (cs : List Value) (c : Nat) (sp : Option Nat) : PC Tryd.prog 13 [.slice (some ⟨0, 0, sp⟩) 0 c, .slice none 0 0] [.ro cs] (fun v h' => v = .bool true ∧ Kept [.ro cs] h') fun _ _ => False := by
  refine pc_of Tryd.func13 rfl (by decide) (by kernel_rfl) (by show 2 ≤ _; decide) (SW.of mixed _ _ _ ?_)
  simp -implicitDefEqProofs
  refine pwp_rounds 1 ?_
  rw [Rounds_succ]
  simp -implicitDefEqProofs [Kept]
theorem fit_two {h : List PO} {b d : Nat} {cs ds : List Value} (hne : b ≠ d) (hb : hcells h b = some cs) (hd : hcells h d = some ds) (hc : cs.all (flat 6) = true) (hc2 : ds.all (flat 6) = true) : Fit [b, d] [.ro cs, .ro ds] (h.map PO.frz) := by
  refine ⟨by simp [hne], fun i c hi => ?_⟩
  match i with
  | 0 =>
    simp at hi; subst hi
    obtain ⟨o, h1, h2⟩ := Option.bind_eq_some_iff.1 hb
    exact ⟨_, .ro cs, rfl, by simp [h1, frz_cells h2], RNs.all hc⟩
  | 1 =>
    simp at hi; subst hi
    obtain ⟨o, h1, h2⟩ := Option.bind_eq_some_iff.1 hd
    exact ⟨_, .ro ds, rfl, by simp [h1, frz_cells h2], RNs.all hc2⟩
  | i + 2 => simp at hi
theorem live_two {cs ds : List Value} : ∀ o ∈ [PO.ro cs, PO.ro ds], o.live = true := by simp [PO.live]
theorem sameCode_q {h : List PO} {b1 b2 m c d : Nat} {sp sq : Option Nat} {Q R : List QV} (hne : b1 ≠ b2) (hb : hcells h b1 = some (rowQ Q)) (hd : hcells h b2 = some (rowQ R)) (hQ : m ≤ Q.length) (hR : m ≤ R.length) (hs : ∀ i (h : i < Q.length) (h' : i < R.length), i < m → Q[i] = R[i]) (hm : m ≤ 140737488355328) :
    PCq Tryd.prog 13 [.slice (some ⟨b1, 0, sp⟩) m c, .slice (some ⟨b2, 0, sq⟩) m d] h fun v ns => v = .bool true ∧ ns = [] :=
  PC.reads [b1, b2] (sameCode_small Q R m c d sp sq hQ hR hs hm) (fit_two hne hb hd (rowQ_flat Q) (rowQ_flat R)) live_two (RNs.cons (.sl _ _ _ _ rfl) (RNs.cons (.sl _ _ _ _ rfl) RNs.nil)) rfl
theorem sameCode_q0 {h : List PO} {b c : Nat} {sp : Option Nat} {cs : List Value} (hb : hcells h b = some cs) (hf : cs.all (flat 6) = true) : PCq Tryd.prog 13 [.slice (some ⟨b, 0, sp⟩) 0 c, .slice none 0 0] h fun v ns => v = .bool true ∧ ns = [] :=
  PC.reads [b] (sameCode_s0 cs c sp) (fit_row hb hf) live_ro (RNs.cons (.sl _ _ _ _ rfl) (RNs.cons .snil RNs.nil)) rfl
end Go.Proofs.YtjopikjefpenkaaDoor
/- Reading no bytes; a law's rows. -/
namespace Go.Proofs.YtjopikjefpenkaaDoor
open Go.RowKit
set_option maxRecDepth 100000
set_option maxHeartbeats 16000000
theorem bytesOf_u8s : ∀ B : List UInt8, bytesOf (u8s B) = some B
  | [] => rfl
  | b :: B => by
    have := bytesOf_u8s B
    simp [u8s] at this
    simp [u8s, bytesOf, this]
theorem chunk_nil (h : List PO) : PC Tryd.prog 31 [.slice none 0 0, .int .i64 4] h (fun v h' => v = .func (.func 63) #[] #[.pointer (some ⟨h.length, 0, none⟩), .pointer (some ⟨h.length + 1, 0, none⟩)] ∧ h' = h ++ [.rw [.slice none 0 0], .rw [.int .i64 4]]) fun _ _ => False := by
  refine pc_of Tryd.func31 rfl (by decide) (by kernel_rfl) (by show 2 ≤ _; decide) (SW.of mixed _ _ _ ?_)
  simp -implicitDefEqProofs
theorem readNil_small : PC Tryd.prog 10 [.slice none 0 0] [] (fun v h' => ∃ k, v = .tuple #[.slice (some ⟨k, 0, none⟩) 0 0, .int .i64 0] ∧ 0 ≤ k ∧ h'[k]? = some (.rw []) ∧ Kept [] h') fun _ _ => False := by
  refine pc_of Tryd.func10 rfl (by decide) (by kernel_rfl) (by show 1 ≤ _; decide) (SW.of mixed _ _ _ ?_)
  simp -implicitDefEqProofs [rep_zero]
  refine PC.ke (chunk_nil _) ?_
  simp -implicitDefEqProofs
  refine pwpR_of rfl [(2, .pointer (some ⟨0, 0, none⟩)), (3, .pointer (some ⟨1, 0, none⟩)), (4, .pointer (some ⟨3, 0, none⟩))] (by simp [envSub, Env.get]) fun fn tmps df hok => ?_
  simp -implicitDefEqProofs
  refine pc_of Tryd.func63 rfl (by decide) (by kernel_rfl) (by show 3 ≤ _; decide) (SW.of mixed _ _ _ ?_)
  simp -implicitDefEqProofs
  refine pwp_rounds 1 ?_
  rw [Rounds_succ]
  simp -implicitDefEqProofs
  refine ⟨_, rfl, by simp [rec0], ?_⟩
  simp -implicitDefEqProofs [rec0, Kept]
theorem readNil_q {h : List PO} : PCq Tryd.prog 10 [.slice none 0 0] h fun v ns => v = .tuple #[.slice (some ⟨h.length, 0, none⟩) 0 0, .int .i64 0] ∧ ns = [.rw []] :=
  PC.readsRowT [] readNil_small fit_none live_nil (RNs.of_flat fun v hv => ⟨6, by simp at hv; subst hv; rfl⟩) rfl rfl
theorem fnReadRNil : Fn Tryd.prog 11 [.slice none 0 0] (.tuple #[.slice none 0 0, .int .i64 0]) := by
  refine Fn.of ?_ rfl rfl
  refine pc_of Tryd.func11 rfl (by decide) (by kernel_rfl) (by show 1 ≤ _; decide) (SW.of mixed _ _ _ ?_)
  simp -implicitDefEqProofs
  refine pwp_rounds 1 ?_
  rw [Rounds_succ]
  simp -implicitDefEqProofs
def ArgL (Q : List QV) (l : Value) : Prop := l = .slice none 0 0 ∨ ∃ c, Q.length ≤ c ∧ l = .slice (some ⟨0, 0, none⟩) Q.length c
def ArgB (B : List UInt8) (b : Value) : Prop := b = .slice none 0 0 ∨ ∃ c, B.length ≤ c ∧ b = .slice (some ⟨1, 0, none⟩) B.length c
end Go.Proofs.YtjopikjefpenkaaDoor
/- Rows of instructions and of bytes among a law's arguments. -/
namespace Go.Proofs.YtjopikjefpenkaaDoor
open Go.RowKit Go.WideShapes Go.ChangeShapes Go.Deep
set_option maxRecDepth 100000
section
variable {H : Type} {enc : TypeId × Value → H} {w : World} {base : Nat} {held : Bool} {r : Go.Reach} {b0 : Nat} {v : Value} {d : DataW H} {p : List MemPlace}
theorem rowQ_of_fit : ∀ (n : Nat) {cs : List Value}, FitL (List.replicate n [CK.int .u8, CK.int .u8, CK.int .u8, CK.int .u16]).flatten cs → ∃ Q : List QV, cs = rowQ Q ∧ Q.length = n ∧ ∀ q ∈ Q, QR q
  | 0, cs, h => ⟨[], by simp at h; exact FitL.unnil h, rfl, fun q hq => by simp at hq⟩
  | n + 1, cs, h => by
    rw [List.replicate_succ, List.flatten_cons] at h
    obtain ⟨v0, c0, rfl, g0, k1⟩ := FitL.uncons h
    obtain ⟨v1, c1, rfl, g1, k2⟩ := FitL.uncons k1
    obtain ⟨v2, c2, rfl, g2, k3⟩ := FitL.uncons k2
    obtain ⟨v3, cs', rfl, g3, k4⟩ := FitL.uncons k3
    obtain ⟨n0, rfl, b0⟩ := fit_u8 g0
    obtain ⟨n1, rfl, b1⟩ := fit_u8 g1
    obtain ⟨n2, rfl, b2⟩ := fit_u8 g2
    obtain ⟨n3, rfl, b3⟩ := fit_u16 g3
    obtain ⟨Q, rfl, hQ, hr⟩ := rowQ_of_fit n k4
    refine ⟨(n0, n1, n2, n3) :: Q, rfl, by simp [hQ], fun q hq => ?_⟩
    rcases List.mem_cons.1 hq with rfl | hq
    · exact ⟨b0.1, b1.1, b2.1, b3.1, b3.2⟩
    · exact hr q hq
theorem open_insrow (hv : Value.okWide Tryd.prog w r b0 22 v) (h : DataW.Trod enc Tryd.prog w base (fun _ => true) held 22 v d p) :
    v = .slice none 0 0 ∨ ∃ (a : Addr) (c : Nat) (Q : List QV) (τ : Tau), v = .slice (some a) Q.length c ∧ Q.length ≤ c ∧ c ≤ 9223372036854775807 ∧ (∀ q ∈ Q, QR q) ∧ RH τ [.ro (rowQ Q)] w ∧ VR τ (.slice (some ⟨0, 0, none⟩) Q.length c) v := by
  rcases open_rowv (e := 40) 4 (by kernel_rfl) shp_ins (by simp) hv h with h0 | ⟨a, len, cap, cells, rfl, h1, h2, h3, h4, h5⟩
  · exact .inl h0
  · obtain ⟨Q, rfl, hQ, hr⟩ := rowQ_of_fit len h3
    obtain ⟨τ, g1, g2⟩ := row_mem h2 h4 (rowQ_flat Q) h5 h1
    subst hQ
    exact .inr ⟨a, cap, Q, τ, rfl, h1, h2, hr, g1, g2⟩
/-- Two rows that are read alone. -/
def tau2 (τ1 τ2 : Tau) : Tau := fun b => if b = 0 then τ1 0 else if b = 1 then τ2 0 else none
theorem ro_lift {τ1 τ : Tau} {cs : List Value} {p : Pl} (hf : cs.all (flat 6) = true) (h : OR τ1 p w (.ro cs)) : OR τ p w (.ro cs) := fun i v hi => by
  obtain ⟨v', h1, h2⟩ := h i v hi
  have := List.all_eq_true.1 hf v (List.mem_of_getElem? hi)
  rw [h2.flat_eq 6 this] at h1
  exact ⟨v, h1, VR.of_flat this⟩
theorem rh_two {τ1 τ2 : Tau} {cs ds : List Value} (hc : cs.all (flat 6) = true) (hd : ds.all (flat 6) = true) (h1 : RH τ1 [.ro cs] w) (h2 : RH τ2 [.ro ds] w) : RH (tau2 τ1 τ2) [.ro cs, .ro ds] w := by
  refine ⟨fun b p hb => ?_, fun b c p q o o' hne hb hc h3 h4 => ?_⟩
  · unfold tau2 at hb
    split at hb
    · rename_i e; subst e
      obtain ⟨o, g1, g2, g3⟩ := h1.ob 0 p hb
      simp at g1; subst g1
      exact ⟨_, rfl, ro_lift hc g2, g3⟩
    · split at hb
      · rename_i e; subst e
        obtain ⟨o, g1, g2, g3⟩ := h2.ob 0 p hb
        simp at g1; subst g1
        exact ⟨_, rfl, ro_lift hd g2, g3⟩
      · cases hb
  · have : o = .ro cs ∨ o = .ro ds := by
      match b, h3 with
      | 0, h3 => simp at h3; exact .inl h3.symm
      | 1, h3 => simp at h3; exact .inr h3.symm
      | b + 2, h3 => simp at h3
    rcases this with rfl | rfl <;> cases h4
theorem vr_row1 {τ1 τ2 : Tau} {n c : Nat} {v : Value} (h : VR τ1 (.slice (some ⟨0, 0, none⟩) n c) v) : VR (tau2 τ1 τ2) (.slice (some ⟨0, 0, none⟩) n c) v := by
  cases h with
  | sex _ _ _ h => exact .sex _ _ _ h
  | se0 => exact .se0 _ _ _
theorem vr_row2 {τ1 τ2 : Tau} {n c : Nat} {v : Value} (h : VR τ2 (.slice (some ⟨0, 0, none⟩) n c) v) : VR (tau2 τ1 τ2) (.slice (some ⟨1, 0, none⟩) n c) v := by
  cases h with
  | sex _ _ _ h => exact .sex _ _ _ h
  | se0 => exact .se0 _ _ _
theorem ro_two {cs ds : List Value} : ∀ o ∈ [PO.ro cs, PO.ro ds], o.own = false := by simp [PO.own]
theorem vrs2' {τ : Tau} {a b a' b' : Value} (h1 : VR τ a a') (h2 : VR τ b b') : VRs τ #[a, b] #[a', b'] := by
  refine ⟨rfl, fun i v v' g1 g2 => ?_⟩
  match i, g1, g2 with
  | 0, g1, g2 => simp at g1 g2; subst g1; subst g2; exact h1
  | 1, g1, g2 => simp at g1 g2; subst g1; subst g2; exact h2
  | i + 2, g1, _ => simp at g1
end
end Go.Proofs.YtjopikjefpenkaaDoor

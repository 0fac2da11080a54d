/- An instruction's bytes. -/
import Derived.Test.YtjopikjefpenkaaDoorG8
set_option linter.unusedSimpArgs false
set_option linter.unusedVariables false
set_option linter.unusedSectionVars false
namespace Go.Proofs.YtjopikjefpenkaaDoor
open Go.RowKit
set_option maxRecDepth 100000
set_option maxHeartbeats 8000000
theorem fnBytes (n : Int) (h0 : 0 ≤ n) (h1 : n ≤ 65535) : Fn Tryd.prog 61 [.int .u16 n] (.agg #[.int .u8 (n / 256), .int .u8 (n % 256)]) := by
  refine Fn.of ?_ rfl rfl
  have e1 : n.fdiv (2 ^ min 8 IntKind.u16.bits) = n / 256 := Int.fdiv_eq_ediv_of_nonneg _ (by decide)
  have e2 : IntKind.u8.wrap (n / 256) = n / 256 := by rw [IntKind.wrap_u8]; omega
  have e3 : IntKind.u8.wrap n = n % 256 := IntKind.wrap_u8 n
  refine pc_of Tryd.func61 rfl (by decide) (by kernel_rfl) (by show 1 ≤ _; decide) (SW.of mixed _ _ _ ?_)
  simp -implicitDefEqProofs [e1, e2, e3]
theorem fnRBytes (n : Int) (h0 : 0 ≤ n) (h1 : n ≤ 65535) : Fn Tryd.prog 62 [.int .u16 n] (.agg #[.int .u8 (n / 256), .int .u8 (n % 256)]) := by
  refine Fn.of ?_ rfl rfl
  have e0 : IntKind.i64.wrap n = n := by rw [IntKind.wrap_i64]; omega
  have e1 : n.tdiv 256 = n / 256 := Int.tdiv_eq_ediv_of_nonneg h0
  have e2 : IntKind.u8.wrap (n / 256) = n / 256 := by rw [IntKind.wrap_u8]; omega
  have e3 : n.tmod 256 = n % 256 := Int.tmod_eq_emod_of_nonneg h0
  have e4 : IntKind.u8.wrap (n % 256) = n % 256 := by rw [IntKind.wrap_u8]; omega
  have e5 : IntKind.i64.wrap (n / 256) = n / 256 := by rw [IntKind.wrap_i64]; omega
  refine pc_of Tryd.func62 rfl (by decide) (by kernel_rfl) (by show 1 ≤ _; decide) (SW.of mixed _ _ _ ?_)
  simp -implicitDefEqProofs [e0, e1, e2, e3, e4, e5]
def encL (o a b n : Int) : List Value := [.int .u8 o, .int .u8 (a * 16 + b), .int .u8 (n / 256), .int .u8 (n % 256)]
/-- A new row of bare values, and a bare value. -/
theorem PC.readsRowT {P : Program} {f : FuncId} {args0 args : List Value} {h0 h : List PO} {o n m : Nat} {sp : Option Nat} {cs : List Value} {u : Value} (l : List Nat) (q : PC P f args0 h0 (fun v' h' => ∃ k, v' = .tuple #[.slice (some ⟨k, o, sp⟩) n m, u] ∧ h0.length ≤ k ∧ h'[k]? = some (.rw cs) ∧ Kept h0 h') fun _ _ => False) (hf : Fit l h0 (h.map PO.frz)) (hlive : ∀ o ∈ h0, o.live = true) (ha : RNs (fun b => l[b]?) args0 args) (hc : cs.all (flat 6) = true) (hu : flat 5 u = true) : PCq P f args h fun v' ns => v' = .tuple #[.slice (some ⟨h.length, o, sp⟩) n m, u] ∧ ns = [.rw cs] := by
  refine PC.readsG l q hf hlive ha (d := 6) (fun v0 h0' ⟨k, e, h1, h2, hk⟩ => ⟨hk, [k], by simp, rfl, ?_, fun j b hj => ?_⟩) ?_
  · subst e
    refine .tuple rfl (fun i v v' g1 g2 => ?_)
    match i with
    | 0 => cases g1; cases g2; exact .sl _ _ _ _ (by simp [rho])
    | 1 => cases g1; cases g2; exact RN.of_flat hu
    | i + 2 => simp at g1
  · cases j with
    | zero => simp at hj; subst hj; exact ⟨h1, .rw cs, _, rfl, h2, RNs.all hc, rfl⟩
    | succ j => simp at hj
  · simp only [newAll, Bool.and_eq_true]
    refine ⟨by
      have := newV_flat (g := freshG h.length (h.map PO.frz ++ [.rw cs])) hu
      simp [newV, freshG, PO.own] at this ⊢; exact this, ?_⟩
    rw [List.drop_append_of_le_length (by simp), List.drop_eq_nil_of_le (by simp)]
    have : newO (freshG h.length (h.map PO.frz ++ [.rw cs])) 6 (.rw cs) = true := by
      unfold newO; exact List.all_eq_true.2 fun v hv => newV_flat (List.all_eq_true.1 hc v hv)
    simp [PO.own, this]
theorem or_u8 (a b : Int) (h0 : 0 ≤ a) (h1 : a < 8) (g0 : 0 ≤ b) (g1 : b < 8) : bitI (fun _ u v => u ||| v) .u8 (a * 16) b = a * 16 + b := by
  obtain ⟨n, rfl⟩ := Int.eq_ofNat_of_zero_le h0
  obtain ⟨k, rfl⟩ := Int.eq_ofNat_of_zero_le g0
  have key : ∀ m l : Fin 8, bitI (fun _ u v => u ||| v) .u8 (((m.val : Nat) : Int) * 16) (l.val : Nat) = ((m.val : Nat) : Int) * 16 + (l.val : Nat) := by decide +kernel
  exact key ⟨n, by omega⟩ ⟨k, by omega⟩
theorem encode_small (o a b n : Int) (h0 : 0 ≤ o) (ha : 0 ≤ a) (hb : 0 ≤ b) (hn : 0 ≤ n) (hn1 : n ≤ 65535) (ok : okF o a b n) : PC Tryd.prog 29 [insV o a b n] [] (fun v h' => ∃ k, v = .tuple #[.slice (some ⟨k, 0, none⟩) 4 4, .int .i64 0] ∧ 0 ≤ k ∧ h'[k]? = some (.rw (encL o a b n)) ∧ Kept [] h') fun _ _ => False := by
  have a8 : a < 8 := ok.2.1
  have b8 : b < 8 := ok.2.2.1
  have e1 : IntKind.u8.wrap (a * 2 ^ min 4 IntKind.u8.bits) = a * 16 := by show IntKind.u8.wrap (a * 16) = _; rw [IntKind.wrap_u8]; omega
  have e2 := or_u8 a b ha a8 hb b8
  refine pc_of Tryd.func29 rfl (by decide) (by kernel_rfl) (by show 1 ≤ _; decide) (SW.of mixed _ _ _ ?_)
  simp -implicitDefEqProofs [insV]
  refine (fnRight o a b n h0).k ?_
  simp -implicitDefEqProofs [ok]
  refine (fnBytes n hn hn1).k ?_
  simp -implicitDefEqProofs [e1, e2, encL, Kept, rep_succ, rep_zero]
theorem encodeR_small (o a b n : Int) (h0 : 0 ≤ o) (ha : 0 ≤ a) (hb : 0 ≤ b) (hn : 0 ≤ n) (hn1 : n ≤ 65535) (ok : okF o a b n) : PC Tryd.prog 30 [insV o a b n] [] (fun v h' => ∃ k, v = .tuple #[.slice (some ⟨k, 0, none⟩) 4 4, .int .i64 0] ∧ 0 ≤ k ∧ h'[k]? = some (.rw (encL o a b n)) ∧ Kept [] h') fun _ _ => False := by
  have a8 : a < 8 := ok.2.1
  have b8 : b < 8 := ok.2.2.1
  have e1 : IntKind.u8.wrap (a * 16) = a * 16 := by rw [IntKind.wrap_u8]; omega
  have e2 : IntKind.u8.wrap (a * 16 + b) = a * 16 + b := by rw [IntKind.wrap_u8]; omega
  refine pc_of Tryd.func30 rfl (by decide) (by kernel_rfl) (by show 1 ≤ _; decide) (SW.of mixed _ _ _ ?_)
  simp -implicitDefEqProofs [insV]
  refine (fnRRight o a b n h0).k ?_
  simp -implicitDefEqProofs [ok]
  refine (fnRBytes n hn hn1).k ?_
  simp -implicitDefEqProofs [e1, e2, encL, Kept, rep_succ, rep_zero]
theorem encode_bad (o a b n : Int) (h0 : 0 ≤ o) (ok : ¬ okF o a b n) : Fn Tryd.prog 29 [insV o a b n] (.tuple #[.slice none 0 0, .int .i64 3]) := by
  refine Fn.of ?_ rfl rfl
  refine pc_of Tryd.func29 rfl (by decide) (by kernel_rfl) (by show 1 ≤ _; decide) (SW.of mixed _ _ _ ?_)
  simp -implicitDefEqProofs [insV]
  refine (fnRight o a b n h0).k ?_
  simp -implicitDefEqProofs [ok]
theorem encodeR_bad (o a b n : Int) (h0 : 0 ≤ o) (ok : ¬ okF o a b n) : Fn Tryd.prog 30 [insV o a b n] (.tuple #[.slice none 0 0, .int .i64 3]) := by
  refine Fn.of ?_ rfl rfl
  refine pc_of Tryd.func30 rfl (by decide) (by kernel_rfl) (by show 1 ≤ _; decide) (SW.of mixed _ _ _ ?_)
  simp -implicitDefEqProofs [insV]
  refine (fnRRight o a b n h0).k ?_
  simp -implicitDefEqProofs [ok]
theorem encL_flat (o a b n : Int) : (encL o a b n).all (flat 6) = true := rfl
theorem insV_flat (o a b n : Int) : flat 6 (insV o a b n) = true := rfl
theorem encode_q {h : List PO} (o a b n : Int) (h0 : 0 ≤ o) (ha : 0 ≤ a) (hb : 0 ≤ b) (hn : 0 ≤ n) (hn1 : n ≤ 65535) (ok : okF o a b n) : PCq Tryd.prog 29 [insV o a b n] h fun v ns => v = .tuple #[.slice (some ⟨h.length, 0, none⟩) 4 4, .int .i64 0] ∧ ns = [.rw (encL o a b n)] :=
  PC.readsRowT [] (encode_small o a b n h0 ha hb hn hn1 ok) fit_none live_nil (RNs.of_flat fun v hv => ⟨6, by simp at hv; subst hv; rfl⟩) (encL_flat _ _ _ _) rfl
theorem encodeR_q {h : List PO} (o a b n : Int) (h0 : 0 ≤ o) (ha : 0 ≤ a) (hb : 0 ≤ b) (hn : 0 ≤ n) (hn1 : n ≤ 65535) (ok : okF o a b n) : PCq Tryd.prog 30 [insV o a b n] h fun v ns => v = .tuple #[.slice (some ⟨h.length, 0, none⟩) 4 4, .int .i64 0] ∧ ns = [.rw (encL o a b n)] :=
  PC.readsRowT [] (encodeR_small o a b n h0 ha hb hn hn1 ok) fit_none live_nil (RNs.of_flat fun v hv => ⟨6, by simp at hv; subst hv; rfl⟩) (encL_flat _ _ _ _) rfl
end Go.Proofs.YtjopikjefpenkaaDoor

/- IsaCodes: an instruction's bytes, and the instruction of bytes. -/
import Derived.Test.YtjopikjefpenkaaDoorGc
set_option linter.unusedSimpArgs false
set_option linter.unusedVariables false
set_option linter.unusedSectionVars false
namespace Go.Proofs.YtjopikjefpenkaaDoor
open Go.RowKit
set_option maxRecDepth 100000
set_option maxHeartbeats 8000000
def decN (B : List UInt8) : Value := if B.length = 4 then decB B 0 else .tuple #[insV 0 0 0 0, .int .i64 3]
section
variable {B : List UInt8} {c : Nat} (hc : B.length ≤ c) (hn : ¬ B.length = 4)
include hn
theorem decode_len : PC Tryd.prog 32 [.slice (some ⟨0, 0, none⟩) B.length c] [.ro (u8s B)] (fun v h' => v = .tuple #[insV 0 0 0 0, .int .i64 3] ∧ Kept [.ro (u8s B)] h') fun _ _ => False := by
  have h4 : ¬ ((B.length : Int) = 4) := by omega
  refine pc_of Tryd.func32 rfl (by decide) (by kernel_rfl) (by show 1 ≤ _; decide) (SW.of mixed _ _ _ ?_)
  simp -implicitDefEqProofs [h4, insV, Kept]
theorem decodeR_len : PC Tryd.prog 33 [.slice (some ⟨0, 0, none⟩) B.length c] [.ro (u8s B)] (fun v h' => v = .tuple #[insV 0 0 0 0, .int .i64 3] ∧ Kept [.ro (u8s B)] h') fun _ _ => False := by
  have h4 : ¬ ((B.length : Int) = 4) := by omega
  refine pc_of Tryd.func33 rfl (by decide) (by kernel_rfl) (by show 1 ≤ _; decide) (SW.of mixed _ _ _ ?_)
  simp -implicitDefEqProofs [h4, insV, Kept]
end
theorem decodeN_q {h : List PO} {b c : Nat} {B : List UInt8} (hb : hcells h b = some (u8s B)) : PCq Tryd.prog 32 [.slice (some ⟨b, 0, none⟩) B.length c] h fun v ns => v = decN B ∧ ns = [] := by
  unfold decN
  by_cases hn : B.length = 4
  · rw [if_pos hn, hn]
    exact decode_q hb (by omega)
  · rw [if_neg hn]
    exact PC.reads [b] (decode_len hn) (fit_row hb (u8s_flat B)) live_ro (row_args RNs.nil) rfl
theorem decodeRN_q {h : List PO} {b c : Nat} {B : List UInt8} (hb : hcells h b = some (u8s B)) : PCq Tryd.prog 33 [.slice (some ⟨b, 0, none⟩) B.length c] h fun v ns => v = decN B ∧ ns = [] := by
  unfold decN
  by_cases hn : B.length = 4
  · rw [if_pos hn, hn]
    exact decodeR_q hb (by omega)
  · rw [if_neg hn]
    exact PC.reads [b] (decodeR_len hn) (fit_row hb (u8s_flat B)) live_ro (row_args RNs.nil) rfl
theorem fnDecodeNil : Fn Tryd.prog 32 [.slice none 0 0] (.tuple #[insV 0 0 0 0, .int .i64 3]) := by
  refine Fn.of ?_ rfl rfl
  refine pc_of Tryd.func32 rfl (by decide) (by kernel_rfl) (by show 1 ≤ _; decide) (SW.of mixed _ _ _ ?_)
  simp -implicitDefEqProofs [insV]
theorem fnDecodeRNil : Fn Tryd.prog 33 [.slice none 0 0] (.tuple #[insV 0 0 0 0, .int .i64 3]) := by
  refine Fn.of ?_ rfl rfl
  refine pc_of Tryd.func33 rfl (by decide) (by kernel_rfl) (by show 1 ≤ _; decide) (SW.of mixed _ _ _ ?_)
  simp -implicitDefEqProofs [insV]
theorem decN_cases (B : List UInt8) : ∃ o a b n e, decN B = .tuple #[.agg #[.int .u8 o, .int .u8 a, .int .u8 b, .int .u16 n], .int .i64 e] := by
  unfold decN decB decV insV
  split
  · split <;> exact ⟨_, _, _, _, _, rfl⟩
  · exact ⟨_, _, _, _, _, rfl⟩
theorem insSame_self (o a b n : Int) : insSame o a b n o a b n = true := by rw [insSame_iff]; exact ⟨rfl, rfl, rfl, rfl⟩
section
variable (o a b n : Int) (h0 : 0 ≤ o) (ha : 0 ≤ a) (hb : 0 ≤ b) (hn : 0 ≤ n) (hn1 : n ≤ 65535)
include h0 ha hb hn hn1
end
end Go.Proofs.YtjopikjefpenkaaDoor

/- IsaUnlike: unlike right instructions have unlike bytes, and unlike texts. -/
import Derived.Test.YtjopikjefpenkaaDoorGg
import Derived.Test.YtjopikjefpenkaaDoorGd
set_option linter.unusedSimpArgs false
set_option linter.unusedVariables false
set_option linter.unusedSectionVars false
namespace Go.Proofs.YtjopikjefpenkaaDoor
open Go.RowKit
set_option maxRecDepth 100000
set_option maxHeartbeats 8000000
theorem fnPrint (o : Nat) (a b n : Int) (ha : 0 ≤ a) (hb : 0 ≤ b) (hn : 0 ≤ n) (hn1 : n ≤ 65535) (ok : okF o a b n) : Fn Tryd.prog 14 [insV o a b n] (.tuple #[.string (printS o a b n), .int .i64 0]) := by
  refine Fn.of ?_ rfl rfl
  have h1 : (shA o, shB o, shI o) = (false, false, false) ∨ (shA o, shB o, shI o) = (false, false, true) ∨ (shA o, shB o, shI o) = (true, false, true) ∨ (shA o, shB o, shI o) = (true, true, false) ∨ (shA o, shB o, shI o) = (true, true, true) := by
    rcases op_cases o (by omega) with e | e | e | e | e | e | e | e | e | e | e | e | e | e | e | e | e | e | e | e | e | e | e | e | h
    all_goals first | (rw [e]; decide) | skip
    left
    simp only [shA, shB, shI, Prod.mk.injEq, decide_eq_false_iff_not]
    omega
  simp only [Prod.mk.injEq] at h1
  rcases h1 with ⟨h1, h2, h3⟩ | ⟨h1, h2, h3⟩ | ⟨h1, h2, h3⟩ | ⟨h1, h2, h3⟩ | ⟨h1, h2, h3⟩
  · exact print_000 o a b n ha hb hn hn1 ok h1 h2 h3
  · exact print_001 o a b n ha hb hn hn1 ok h1 h2 h3
  · exact print_101 o a b n ha hb hn hn1 ok h1 h2 h3
  · exact print_110 o a b n ha hb hn hn1 ok h1 h2 h3
  · exact print_111 o a b n ha hb hn hn1 ok h1 h2 h3
theorem fnPrint_bad (o a b n : Int) (h0 : 0 ≤ o) (ok : ¬ okF o a b n) : Fn Tryd.prog 14 [insV o a b n] (.tuple #[.string ⟨#[]⟩, .int .i64 3]) := by
  refine Fn.of ?_ rfl rfl
  refine pc_of Tryd.func14 rfl (by decide) (by kernel_rfl) (by show 1 ≤ _; decide) (SW.of mixed _ _ _ ?_)
  simp -implicitDefEqProofs [insV]
  refine (fnRight o a b n h0).k ?_
  simp -implicitDefEqProofs [ok]
def encE (o a b n : Int) : List UInt8 := [UInt8.ofNat o.toNat, UInt8.ofNat (a * 16 + b).toNat, UInt8.ofNat (n / 256).toNat, UInt8.ofNat (n % 256).toNat]
def encS (o a b n : Int) : ByteArray := ⟨(encE o a b n).toArray⟩
theorem encS_eq (o a b n : Int) : ByteArray.mk (encE o a b n).toArray = encS o a b n := rfl
theorem bytesOf_enc (o a b n : Int) : bytesOf (encL o a b n) = some (encE o a b n) := rfl
theorem encL_len (o a b n : Int) : (encL o a b n).length = 4 := rfl
theorem encL_take (o a b n : Int) : (encL o a b n).take 4 = encL o a b n := rfl
theorem ofNat_eq {x y : Int} (hx : 0 ≤ x) (hx1 : x ≤ 255) (hy : 0 ≤ y) (hy1 : y ≤ 255) (h : UInt8.ofNat x.toNat = UInt8.ofNat y.toNat) : x = y := by
  have := congrArg UInt8.toNat h
  rw [UInt8.toNat_ofNat', UInt8.toNat_ofNat', Nat.mod_eq_of_lt (by omega), Nat.mod_eq_of_lt (by omega)] at this
  omega
section
variable {o o' : Nat} {a b n a' b' n' : Int} (ha : 0 ≤ a) (hb : 0 ≤ b) (hn : 0 ≤ n) (hn1 : n ≤ 65535) (ha' : 0 ≤ a') (hb' : 0 ≤ b') (hn' : 0 ≤ n') (hn1' : n' ≤ 65535) (ok : okF o a b n) (ok' : okF o' a' b' n')
include ha hb hn ha' hb' hn' ok ok'
theorem print_same : ((printS o a b n).toList == (printS o' a' b' n').toList) = insSame o a b n o' a' b' n' := by
  rw [Bool.eq_iff_iff, insSame_iff, beq_iff_eq, ba_toList, ba_toList]
  constructor
  · intro h
    have h2 : printS o a b n = printS o' a' b' n' := WideShapes.bytes_inj h
    obtain ⟨e1, e2, e3, e4⟩ := printS_inj ha hb hn ha' hb' hn' ok ok' h2
    exact ⟨by rw [e1], e2, e3, e4⟩
  · rintro ⟨e1, rfl, rfl, rfl⟩
    have : o = o' := by omega
    rw [this]
include hn1 hn1'
theorem enc_same : ((encS o a b n).toList == (encS o' a' b' n').toList) = insSame o a b n o' a' b' n' := by
  have a8 : a < 8 := ok.2.1
  have b8 : b < 8 := ok.2.2.1
  have a8' : a' < 8 := ok'.2.1
  have b8' : b' < 8 := ok'.2.2.1
  have o8 := ok.1
  have o8' := ok'.1
  rw [Bool.eq_iff_iff, insSame_iff, beq_iff_eq, ba_toList, ba_toList]
  constructor
  · intro h
    have h2 : encE o a b n = encE o' a' b' n' := by simpa [encS] using h
    simp only [encE, List.cons.injEq, and_true] at h2
    obtain ⟨e1, e2, e3, e4⟩ := h2
    have f1 := ofNat_eq (by omega) (by omega) (by omega) (by omega) e1
    have f2 := ofNat_eq (by omega) (by omega) (by omega) (by omega) e2
    have f3 := ofNat_eq (by omega) (by omega) (by omega) (by omega) e3
    have f4 := ofNat_eq (by omega) (by omega) (by omega) (by omega) e4
    omega
  · rintro ⟨e1, rfl, rfl, rfl⟩
    have : o = o' := by omega
    rw [this]
end
end Go.Proofs.YtjopikjefpenkaaDoor

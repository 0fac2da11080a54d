/- Whether an instruction is right, as calls of the plain machine. -/
import Derived.Test.YtjopikjefpenkaaDoorG2
import Derived.Test.YtjopikjefpenkaaDoorGv
import Derived.Test.YtjopikjefpenkaaDoorTg
import Derived.Test.YtjopikjefpenkaaDoorG6
import Derived.Test.YtjopikjefpenkaaDoorGq
import Derived.Test.YtjopikjefpenkaaDoorG3
import Derived.Test.YtjopikjefpenkaaDoorGj
set_option linter.unusedSimpArgs false
set_option linter.unusedVariables false
set_option linter.unusedSectionVars false
namespace Go.Proofs.YtjopikjefpenkaaDoor
open Go.RowKit
theorem fnRight (o a b n : Int) (h0 : 0 ≤ o) : Fn Tryd.prog 34 [insV o a b n] (.bool (decide (okF o a b n))) := Fn.of_calls (callable Tryd.func34 rfl (by decide)) rfl rfl fun w _ => right_ok o a b n h0 w
theorem fnRRight (o a b n : Int) (h0 : 0 ≤ o) : Fn Tryd.prog 44 [insV o a b n] (.bool (decide (okF o a b n))) := Fn.of_calls (callable Tryd.func44 rfl (by decide)) rfl rfl fun w _ => rightR_ok o a b n h0 w
end Go.Proofs.YtjopikjefpenkaaDoor
/- Instructions out of bytes. -/
namespace Go.Proofs.YtjopikjefpenkaaDoor
open Go.RowKit
set_option maxRecDepth 100000
set_option maxHeartbeats 4000000
def u8s (bs : List UInt8) : List Value := bs.map fun b => .int .u8 b.toNat
@[simp] theorem u8s_len (bs : List UInt8) : (u8s bs).length = bs.length := by simp [u8s]
theorem u8s_flat (bs : List UInt8) {n : Nat} : (u8s bs).all (flat (n + 1)) = true := by simp [u8s, List.all_eq_true]
theorem u8s_get {bs : List UInt8} {i : Nat} (h : i < bs.length) : (u8s bs)[i]? = some (.int .u8 (bs.getD i 0).toNat) := by
  simp [u8s, h, List.getD_eq_getElem?_getD]
theorem byte_le (b : UInt8) : (b.toNat : Int) ≤ 255 := by have := b.toNat_lt; omega
theorem byte_ge (b : UInt8) : 0 ≤ (b.toNat : Int) := by omega
/-- The instruction of four bytes. -/
def decV (x0 x1 x2 x3 : Int) : Value := if okF x0 (x1 / 16) (x1 % 16) (x2 * 256 + x3) then .tuple #[insV x0 (x1 / 16) (x1 % 16) (x2 * 256 + x3), .int .i64 0] else .tuple #[insV 0 0 0 0, .int .i64 3]
theorem decV_flat (x0 x1 x2 x3 : Int) : flat 6 (decV x0 x1 x2 x3) = true := by unfold decV; split <;> rfl
theorem fnJoin (x y : Int) (h0 : 0 ≤ x) (h1 : x ≤ 255) (h2 : 0 ≤ y) (h3 : y ≤ 255) : Fn Tryd.prog 64 [.int .u8 x, .int .u8 y] (.int .u16 (x * 256 + y)) := Fn.same (callable Tryd.func64 rfl (by decide)) rfl rfl (wJoin_ok x y h0 h1 h2 h3)
theorem fnRJoin (x y : Int) (h0 : 0 ≤ x) (h1 : x ≤ 255) (h2 : 0 ≤ y) (h3 : y ≤ 255) : Fn Tryd.prog 65 [.int .u8 x, .int .u8 y] (.int .u16 (x * 256 + y)) := Fn.same (callable Tryd.func65 rfl (by decide)) rfl rfl (rJoin_ok x y h0 h1 h2 h3)
theorem u8_and15 (x : Int) (h0 : 0 ≤ x) (h1 : x ≤ 255) : bitI (fun _ u v => u &&& v) .u8 x 15 = x % 16 := by
  obtain ⟨n, rfl⟩ := Int.eq_ofNat_of_zero_le h0
  have hn : n < 256 := by omega
  have : ∀ m : Fin 256, bitI (fun _ u v => u &&& v) .u8 (m.val : Nat) 15 = (m.val : Int) % 16 := by decide +kernel
  exact this ⟨n, hn⟩
section
variable (cs : List Value) (o c : Nat) (sp : Option Nat) (x0 x1 x2 x3 : Int) (g0 : 0 ≤ x0) (g1 : 0 ≤ x1 ∧ x1 ≤ 255) (g2 : 0 ≤ x2 ∧ x2 ≤ 255) (g3 : 0 ≤ x3 ∧ x3 ≤ 255) (e0 : cs[o]? = some (.int .u8 x0)) (e1 : cs[o + 1]? = some (.int .u8 x1)) (e2 : cs[o + 2]? = some (.int .u8 x2)) (e3 : cs[o + 3]? = some (.int .u8 x3))
include g0 g1 g2 g3 e0 e1 e2 e3
theorem decode_small :
    PC Tryd.prog 32 [.slice (some ⟨0, o, sp⟩) 4 c] [.ro cs] (fun v h' => v = decV x0 x1 x2 x3 ∧ Kept [.ro cs] h') fun _ _ => False := by
  have a1 := u8_and15 x1 g1.1 g1.2
  have a2 : x1.fdiv (2 ^ min 4 IntKind.u8.bits) = x1 / 16 := Int.fdiv_eq_ediv_of_nonneg _ (by decide)
  refine pc_of Tryd.func32 rfl (by decide) (by kernel_rfl) (by show 1 ≤ _; decide) (SW.of mixed _ _ _ ?_)
  simp -implicitDefEqProofs
  refine pdk_at [] (by kernel_rfl) ?_
  simp -implicitDefEqProofs [e0, e1, e2, e3]
  refine (fnJoin x2 x3 g2.1 g2.2 g3.1 g3.2).kq ?_
  simp -implicitDefEqProofs [a1, a2]
  refine (fnRight x0 (x1 / 16) (x1 % 16) (x2 * 256 + x3) g0).k ?_
  by_cases hok : okF x0 (x1 / 16) (x1 % 16) (x2 * 256 + x3)
  · simp -implicitDefEqProofs [hok, decV, insV, Kept]
  · simp -implicitDefEqProofs [hok, decV, insV, Kept]
theorem decodeR_small :
    PC Tryd.prog 33 [.slice (some ⟨0, o, sp⟩) 4 c] [.ro cs] (fun v h' => v = decV x0 x1 x2 x3 ∧ Kept [.ro cs] h') fun _ _ => False := by
  have a1 : x1.tmod 16 = x1 % 16 := Int.tmod_eq_emod_of_nonneg g1.1
  have a2 : IntKind.u8.wrap (x1.tdiv 16) = x1 / 16 := by rw [Int.tdiv_eq_ediv_of_nonneg g1.1, IntKind.wrap_u8]; omega
  refine pc_of Tryd.func33 rfl (by decide) (by kernel_rfl) (by show 1 ≤ _; decide) (SW.of mixed _ _ _ ?_)
  simp -implicitDefEqProofs
  refine pdk_at [] (by kernel_rfl) ?_
  simp -implicitDefEqProofs [e0, e1, e2, e3]
  refine (fnRJoin x2 x3 g2.1 g2.2 g3.1 g3.2).kq ?_
  simp -implicitDefEqProofs [a1, a2]
  refine (fnRRight x0 (x1 / 16) (x1 % 16) (x2 * 256 + x3) g0).k ?_
  by_cases hok : okF x0 (x1 / 16) (x1 % 16) (x2 * 256 + x3)
  · simp -implicitDefEqProofs [hok, decV, insV, Kept]
  · simp -implicitDefEqProofs [hok, decV, insV, Kept]
end
end Go.Proofs.YtjopikjefpenkaaDoor
/- Instructions out of rows of bytes. -/
namespace Go.Proofs.YtjopikjefpenkaaDoor
open Go.RowKit
set_option maxRecDepth 100000
set_option maxHeartbeats 4000000
section
variable {P : Program} {f : FuncId} {args : List Value} {h : List PO} {v : Value} {os : List PO} {K Kp : Value → List PO → Prop}
theorem PCq.k (q : PCq P f args h fun v' ns => v' = v ∧ ns = os) (hK : K v (h ++ os)) : @PCk _ P f args h ⟨K, Kp⟩ := (q.mono' (K' := fun v ns => K v (h ++ ns)) fun v' ns ⟨h1, h2⟩ => by subst h1; subst h2; exact hK).pc
theorem PCq.kq (q : PCq P f args h fun v' ns => v' = v ∧ ns = os) (hK : K v os) : @PCqk _ P f args h ⟨K, Kp⟩ := ⟨v, os, q, hK⟩
end
/-- A byte. -/
def byt (B : List UInt8) (i : Nat) : Int := (B.getD i 0).toNat
theorem byt_ge (B i) : 0 ≤ byt B i := by unfold byt; omega
theorem byt_le (B i) : byt B i ≤ 255 := by unfold byt; have := (B.getD i 0).toNat_lt; omega
theorem byt_get {B : List UInt8} {i : Nat} (h : i < B.length) : (u8s B)[i]? = some (.int .u8 (byt B i)) := u8s_get h
def decB (B : List UInt8) (i : Nat) : Value := decV (byt B i) (byt B (i + 1)) (byt B (i + 2)) (byt B (i + 3))
theorem row_args {o n c : Nat} {b : Nat} {sp : Option Nat} {l l' : List Value} (h : RNs (fun i => [b][i]?) l l') : RNs (fun i => [b][i]?) (.slice (some ⟨0, o, sp⟩) n c :: l) (.slice (some ⟨b, o, sp⟩) n c :: l') := RNs.cons (.sl _ _ _ _ rfl) h
theorem decode_q {h : List PO} {b o c : Nat} {sp : Option Nat} {B : List UInt8} (hb : hcells h b = some (u8s B)) (hl : o + 4 ≤ B.length) : PCq Tryd.prog 32 [.slice (some ⟨b, o, sp⟩) 4 c] h fun v ns => v = decB B o ∧ ns = [] :=
  PC.reads [b] (decode_small (u8s B) o c sp _ _ _ _ (byt_ge _ _) ⟨byt_ge _ _, byt_le _ _⟩ ⟨byt_ge _ _, byt_le _ _⟩ ⟨byt_ge _ _, byt_le _ _⟩ (byt_get (by omega)) (byt_get (by omega)) (byt_get (by omega)) (byt_get (by omega))) (fit_row hb (u8s_flat B)) live_ro (row_args RNs.nil) (decV_flat _ _ _ _)
theorem decodeR_q {h : List PO} {b o c : Nat} {sp : Option Nat} {B : List UInt8} (hb : hcells h b = some (u8s B)) (hl : o + 4 ≤ B.length) : PCq Tryd.prog 33 [.slice (some ⟨b, o, sp⟩) 4 c] h fun v ns => v = decB B o ∧ ns = [] :=
  PC.reads [b] (decodeR_small (u8s B) o c sp _ _ _ _ (byt_ge _ _) ⟨byt_ge _ _, byt_le _ _⟩ ⟨byt_ge _ _, byt_le _ _⟩ ⟨byt_ge _ _, byt_le _ _⟩ (byt_get (by omega)) (byt_get (by omega)) (byt_get (by omega)) (byt_get (by omega))) (fit_row hb (u8s_flat B)) live_ro (row_args RNs.nil) (decV_flat _ _ _ _)
end Go.Proofs.YtjopikjefpenkaaDoor
/- Four bytes, and one that is turned. -/
namespace Go.Proofs.YtjopikjefpenkaaDoor
open Go.RowKit
set_option maxRecDepth 100000
set_option maxHeartbeats 8000000
theorem decode_cells {h : List PO} {b o c : Nat} {sp : Option Nat} {cs : List Value} {x0 x1 x2 x3 : Int} (hb : hcells h b = some cs) (hf : cs.all (flat 6) = true) (g0 : 0 ≤ x0) (g1 : 0 ≤ x1 ∧ x1 ≤ 255) (g2 : 0 ≤ x2 ∧ x2 ≤ 255) (g3 : 0 ≤ x3 ∧ x3 ≤ 255) (e0 : cs[o]? = some (.int .u8 x0)) (e1 : cs[o + 1]? = some (.int .u8 x1)) (e2 : cs[o + 2]? = some (.int .u8 x2)) (e3 : cs[o + 3]? = some (.int .u8 x3)) : PCq Tryd.prog 32 [.slice (some ⟨b, o, sp⟩) 4 c] h fun v ns => v = decV x0 x1 x2 x3 ∧ ns = [] :=
  PC.reads [b] (decode_small cs o c sp _ _ _ _ g0 g1 g2 g3 e0 e1 e2 e3) (fit_row hb hf) live_ro (row_args RNs.nil) (decV_flat _ _ _ _)
theorem xor_u8 (x b : Int) (h0 : 0 ≤ x) (h1 : x ≤ 255) (g0 : 0 ≤ b) (g1 : b ≤ 255) : 0 ≤ bitI (fun _ u v => u ^^^ v) .u8 x b ∧ bitI (fun _ u v => u ^^^ v) .u8 x b ≤ 255 ∧ (bitI (fun _ u v => u ^^^ v) .u8 x b = x ↔ b = 0) := by
  obtain ⟨n, rfl⟩ := Int.eq_ofNat_of_zero_le h0
  obtain ⟨k, rfl⟩ := Int.eq_ofNat_of_zero_le g0
  have hu : (BitVec.ofInt 8 (n : Int)) = BitVec.ofNat 8 n := by simp
  have hv : (BitVec.ofInt 8 (k : Int)) = BitVec.ofNat 8 k := by simp
  have e : bitI (fun _ u v => u ^^^ v) .u8 (n : Int) (k : Int) = ((BitVec.ofNat 8 n ^^^ BitVec.ofNat 8 k).toNat : Int) := by
    show IntKind.u8.wrap (((BitVec.ofInt 8 (n : Int)) ^^^ (BitVec.ofInt 8 (k : Int))).toNat : Int) = _
    rw [hu, hv, IntKind.wrap_u8]
    have := (BitVec.ofNat 8 n ^^^ BitVec.ofNat 8 k).isLt
    omega
  have hlt := (BitVec.ofNat 8 n ^^^ BitVec.ofNat 8 k).isLt
  rw [e]
  refine ⟨by omega, by omega, fun h => ?_, fun h => ?_⟩
  · have h2 : (BitVec.ofNat 8 n ^^^ BitVec.ofNat 8 k) = BitVec.ofNat 8 n := BitVec.eq_of_toNat_eq (by
      rw [BitVec.toNat_ofNat (w := 8) (x := n)]; omega)
    have h3 : BitVec.ofNat 8 k = 0#8 := by
      have := congrArg (BitVec.ofNat 8 n ^^^ ·) h2
      simpa [← BitVec.xor_assoc] using this
    have h4 := congrArg BitVec.toNat h3
    simp at h4
    omega
  · obtain rfl : k = 0 := by omega
    have : (BitVec.ofNat 8 n ^^^ BitVec.ofNat 8 0) = BitVec.ofNat 8 n := by simp
    rw [this, BitVec.toNat_ofNat]
    omega
def insSame (o a b n o' a' b' n' : Int) : Bool := o == o' && (a == a' && (b == b' && n == n'))
theorem insEq (o a b n o' a' b' n' : Int) : qeq Tryd.prog 64 40 (.agg #[.int .u8 o, .int .u8 a, .int .u8 b, .int .u16 n]) (.agg #[.int .u8 o', .int .u8 a', .int .u8 b', .int .u16 n']) = some (insSame o a b n o' a' b' n') := by
  simp [qeq, qeqF, qpart, insSame]
theorem boolEq (d : Nat) (x y : Bool) : qeq Tryd.prog (d + 1) 4 (.bool x) (.bool y) = some (x == y) := by simp [qeq]
theorem insSame_iff (o a b n o' a' b' n' : Int) : insSame o a b n o' a' b' n' = true ↔ o = o' ∧ a = a' ∧ b = b' ∧ n = n' := by simp [insSame]
theorem bool_eq_iff {p : Bool} {b : Int} (h : p = true ↔ b = 0) : p = (b == 0) := by
  rw [Bool.eq_iff_iff, h, beq_iff_eq]
end Go.Proofs.YtjopikjefpenkaaDoor

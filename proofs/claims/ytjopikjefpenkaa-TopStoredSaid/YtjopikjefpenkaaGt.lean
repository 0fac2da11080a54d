/- What a processor asks to store, stored, is what it loads. -/
import Derived.Test.YtjopikjefpenkaaG8
import Derived.Test.YtjopikjefpenkaaGq
set_option linter.unusedSimpArgs false
set_option linter.unusedVariables false
set_option linter.unusedSectionVars false
namespace Go.Proofs.Ytjopikjefpenkaa
open Go.RowKit
set_option maxRecDepth 100000
set_option maxHeartbeats 8000000
section
variable {P : Program} {f : FuncId} {args : List Value} {h : List PO} {v : Value} {os : List PO} {K Kp : Value → List PO → Prop}
theorem PC.ke {h1 : List PO} (q : PC P f args h (fun v' h' => v' = v ∧ h' = h1) fun _ _ => False) (hK : K v h1) : @PCk _ P f args h ⟨K, Kp⟩ := q.mono (fun v' h' ⟨e1, e2⟩ => by subst e1; subst e2; exact hK) fun _ _ x => x.elim
end
theorem fnAdd (x y : Int) : Fn Try.prog 11 [.int .u16 x, .int .u16 y] (.tuple #[.int .u16 (IntKind.u16.wrap (x + y)), .bool (decide (IntKind.u16.wrap (x + y) < x))]) := by
  refine Fn.of ?_ rfl rfl
  refine pc_of Try.func11 rfl (by decide) (by kernel_rfl) (by show 2 ≤ _; decide) (SW.of mixed _ _ _ ?_)
  simp -implicitDefEqProofs
def regsV (pc r0 r1 r2 r3 r4 r5 r6 r7 : Int) : Value := .agg #[.int .u16 pc, .int .u16 r0, .int .u16 r1, .int .u16 r2, .int .u16 r3, .int .u16 r4, .int .u16 r5, .int .u16 r6, .int .u16 r7]
def accV (k at_ v r e : Int) : Value := .agg #[.int .u8 k, .int .u16 at_, .int .u16 v, .int .u8 r, .int .i64 e]
theorem fnAccSt (a b n x y : Int) (hs : IntKind.u16.wrap (y + n) = y + n) : Fn Try.prog 17 [insV 14 a b n, .int .u16 x, .int .u16 y] (accV 2 (y + n) x 0 0) := by
  refine Fn.of ?_ rfl rfl
  refine pc_of Try.func17 rfl (by decide) (by kernel_rfl) (by show 3 ≤ _; decide) (SW.of mixed _ _ _ ?_)
  simp -implicitDefEqProofs [insV]
  refine (fnAdd y n).k ?_
  simp -implicitDefEqProofs [accV, hs]
theorem fnAccLd (a b n x y m : Int) (hs : IntKind.u16.wrap (y + n) = m) : Fn Try.prog 17 [insV 13 a b n, .int .u16 x, .int .u16 y] (accV 1 m 0 a 0) := by
  refine Fn.of ?_ rfl rfl
  refine pc_of Try.func17 rfl (by decide) (by kernel_rfl) (by show 3 ≤ _; decide) (SW.of mixed _ _ _ ?_)
  simp -implicitDefEqProofs [insV]
  refine (fnAdd y n).k ?_
  simp -implicitDefEqProofs [accV, hs]
/-- Registers of which one alone is not 0. -/
def regA (pc : Int) (a : Nat) (w : Int) : Value := regsV pc (if a = 0 then w else 0) (if a = 1 then w else 0) (if a = 2 then w else 0) (if a = 3 then w else 0) (if a = 4 then w else 0) (if a = 5 then w else 0) (if a = 6 then w else 0) 0
theorem ok14 (a : Nat) (n : Int) (ha : a ≤ 6) : okF 14 a 7 n := ⟨by decide, by omega, by decide, .inl rfl, .inl rfl, .inl rfl⟩
theorem ok13 (n : Int) : okF 13 7 6 n := ⟨by decide, by decide, by decide, .inl rfl, .inl rfl, .inl rfl⟩
theorem fnDeedSt (w n : Int) (a : Nat) (ha : a ≤ 6) (h0 : 0 ≤ n) (h1 : n ≤ 65535) : Fn Try.prog 10 [regA 0 a w, insV 14 a 7 n] (.iface 59 (accV 2 n w 0 0)) := by
  refine Fn.of ?_ rfl rfl
  have e1 : IntKind.u16.wrap (0 + n) = 0 + n := by rw [IntKind.wrap_u16]; omega
  refine pc_of Try.func10 rfl (by decide) (by kernel_rfl) (by show 2 ≤ _; decide) (SW.of mixed _ _ _ ?_)
  rcases (show a = 0 ∨ a = 1 ∨ a = 2 ∨ a = 3 ∨ a = 4 ∨ a = 5 ∨ a = 6 by omega) with rfl | rfl | rfl | rfl | rfl | rfl | rfl
  all_goals simp -implicitDefEqProofs [regA, regsV, insV]
  all_goals refine pdk_at [] (by kernel_rfl) ?_
  all_goals simp -implicitDefEqProofs
  all_goals refine (fnAccSt _ 7 n w 0 e1).k ?_
  all_goals simp -implicitDefEqProofs [accV]
theorem fnDeedLd (w n : Int) (a : Nat) (ha : a ≤ 6) (m : Int) (e1 : IntKind.u16.wrap ((if a = 6 then w else 0) + n) = m) : Fn Try.prog 10 [regA 4 a w, insV 13 7 6 n] (.iface 59 (accV 1 m 0 7 0)) := by
  refine Fn.of ?_ rfl rfl
  refine pc_of Try.func10 rfl (by decide) (by kernel_rfl) (by show 2 ≤ _; decide) (SW.of mixed _ _ _ ?_)
  rcases (show a = 0 ∨ a = 1 ∨ a = 2 ∨ a = 3 ∨ a = 4 ∨ a = 5 ∨ a = 6 by omega) with rfl | rfl | rfl | rfl | rfl | rfl | rfl
  all_goals simp -implicitDefEqProofs at e1
  all_goals simp -implicitDefEqProofs [regA, regsV, insV]
  all_goals refine pdk_at [] (by kernel_rfl) ?_
  all_goals simp -implicitDefEqProofs
  all_goals refine (fnAccLd 7 6 n 0 _ m (by simpa using e1)).k ?_
  all_goals simp -implicitDefEqProofs [accV]
theorem fnExecSt (w n : Int) (a : Nat) (ha : a ≤ 6) (h0 : 0 ≤ n) (h1 : n ≤ 65535) : Fn Try.prog 5 [regA 0 a w, insV 14 a 7 n] (.tuple #[regA 4 a w, accV 2 n w 0 0]) := by
  refine Fn.of ?_ rfl rfl
  have ok := ok14 a n ha
  have e1 : IntKind.u16.wrap (0 + 4) = 4 := by decide
  have e2 : IntKind.u16.wrap 4 = 4 := by decide
  refine pc_of Try.func5 rfl (by decide) (by kernel_rfl) (by show 2 ≤ _; decide) (SW.of mixed _ _ _ ?_)
  simp -implicitDefEqProofs [regA, regsV, insV]
  refine (fnRight 14 a 7 n (by decide)).k ?_
  simp -implicitDefEqProofs [ok]
  refine (fnDeedSt w n a ha h0 h1).k ?_
  simp -implicitDefEqProofs [accV]
  refine (fnAdd 0 4).k ?_
  simp -implicitDefEqProofs [e1, e2]
  refine pdk_at [(3, 2)] (by kernel_rfl) ?_
  simp -implicitDefEqProofs
  exact ⟨rfl, rfl⟩
theorem fnExecLd (w n : Int) (a : Nat) (ha : a ≤ 6) (m : Int) (e0 : IntKind.u16.wrap ((if a = 6 then w else 0) + n) = m) : Fn Try.prog 5 [regA 4 a w, insV 13 7 6 n] (.tuple #[regA 8 a w, accV 1 m 0 7 0]) := by
  refine Fn.of ?_ rfl rfl
  have ok := ok13 n
  have e1 : IntKind.u16.wrap (4 + 4) = 8 := by decide
  have e2 : IntKind.u16.wrap 8 = 8 := by decide
  refine pc_of Try.func5 rfl (by decide) (by kernel_rfl) (by show 2 ≤ _; decide) (SW.of mixed _ _ _ ?_)
  simp -implicitDefEqProofs [regA, regsV, insV]
  refine (fnRight 13 7 6 n (by decide)).k ?_
  simp -implicitDefEqProofs [ok]
  refine (fnDeedLd w n a ha m e0).k ?_
  simp -implicitDefEqProofs [accV]
  refine (fnAdd 4 4).k ?_
  simp -implicitDefEqProofs [e1, e2]
  refine pdk_at [(3, 2)] (by kernel_rfl) ?_
  simp -implicitDefEqProofs
  exact ⟨rfl, rfl⟩
theorem fnLoad7 (pc r0 r1 r2 r3 r4 r5 r6 r7 v : Int) : Fn Try.prog 8 [regsV pc r0 r1 r2 r3 r4 r5 r6 r7, .int .u8 7, .int .u16 v] (.tuple #[regsV pc r0 r1 r2 r3 r4 r5 r6 v, .int .i64 0]) := by
  refine Fn.of ?_ rfl rfl
  refine pc_of Try.func8 rfl (by decide) (by kernel_rfl) (by show 3 ≤ _; decide) (SW.of mixed _ _ _ ?_)
  simp -implicitDefEqProofs [regsV]
theorem fnBytes (n : Int) (h0 : 0 ≤ n) (h1 : n ≤ 65535) : Fn Try.prog 13 [.int .u16 n] (.agg #[.int .u8 (n / 256), .int .u8 (n % 256)]) := by
  refine Fn.of ?_ rfl rfl
  have e1 : n.fdiv (2 ^ min 8 IntKind.u16.bits) = n / 256 := Int.fdiv_eq_ediv_of_nonneg _ (by decide)
  have e2 : IntKind.u8.wrap (n / 256) = n / 256 := by rw [IntKind.wrap_u8]; omega
  have e3 : IntKind.u8.wrap n = n % 256 := IntKind.wrap_u8 n
  refine pc_of Try.func13 rfl (by decide) (by kernel_rfl) (by show 1 ≤ _; decide) (SW.of mixed _ _ _ ?_)
  simp -implicitDefEqProofs [e1, e2, e3]
theorem fnJoin (x y : Int) (h0 : 0 ≤ x) (h1 : x ≤ 255) (h2 : 0 ≤ y) (h3 : y ≤ 255) : Fn Try.prog 14 [.int .u8 x, .int .u8 y] (.int .u16 (x * 256 + y)) := Fn.same (callable Try.func14 rfl (by decide)) rfl rfl (wJoin_ok x y h0 h1 h2 h3)
/-- The memory's cells. -/
def mem0 : List Value := rep 16 (List.replicate 32 (.int .u8 0))
theorem new_pc (h : List PO) : PC Try.prog 4 [.int .i64 16] h (fun v h' => v = .pointer (some ⟨h.length + 1, 0, none⟩) ∧ h' = h ++ [.rw mem0, .rw [.slice (some ⟨h.length, 0, none⟩) 16 16]]) fun _ _ => False := by
  refine pc_of Try.func4 rfl (by decide) (by kernel_rfl) (by show 1 ≤ _; decide) (SW.of mixed _ _ _ ?_)
  simp -implicitDefEqProofs [mem0]
theorem at_pc (cs : List Value) (rest : List PO) (i off : Int) (hi0 : 0 ≤ i) (hi : i < 16) (ho0 : 0 ≤ off) (ho : off ≤ 30) : PC Try.prog 12 [.pointer (some ⟨1, 0, none⟩), .int .i64 i, .int .i64 off, .int .i64 2] (.rw cs :: .rw [.slice (some ⟨0, 0, none⟩) 16 16] :: rest) (fun v h' => v = .tuple #[.slice (some ⟨0, i.toNat * 32 + off.toNat, none⟩) 2 2, .int .i64 0] ∧ h' = .rw cs :: .rw [.slice (some ⟨0, 0, none⟩) 16 16] :: rest) fun _ _ => False := by
  have a1 : ¬ i < 0 := by omega
  have a2 : ¬ 16 ≤ i := by omega
  have a3 : ¬ off < 0 := by omega
  have a4 : ¬ 30 < off := by omega
  have w1 : IntKind.i64.wrap (off + 2) = off + 2 := by rw [IntKind.wrap_i64]; omega
  have g1 : off ≤ off + 2 := by omega
  have g2 : off + 2 ≤ 32 := by omega
  have g3 : (off + 2 - off).toNat = 2 := by omega
  have g4 : ¬ off + 2 = off := by omega
  refine pc_of Try.func12 rfl (by decide) (by kernel_rfl) (by show 4 ≤ _; decide) (SW.of mixed _ _ _ ?_)
  simp -implicitDefEqProofs [a1, a2, a3, a4, w1, g1, g2, g3, g4, hi0, hi, ho0, qeq]
theorem setWord_pc (cs : List Value) (rest : List PO) (i off w : Int) (hl : cs.length = 512) (hi0 : 0 ≤ i) (hi : i < 16) (ho0 : 0 ≤ off) (ho : off ≤ 30) (hw0 : 0 ≤ w) (hw : w ≤ 65535) : PC Try.prog 6 [.pointer (some ⟨1, 0, none⟩), .int .i64 i, .int .i64 off, .int .u16 w] (.rw cs :: .rw [.slice (some ⟨0, 0, none⟩) 16 16] :: rest) (fun v h' => v = .int .i64 0 ∧ h' = .rw (laid cs [.int .u8 (w / 256), .int .u8 (w % 256)] (i.toNat * 32 + off.toNat)) :: .rw [.slice (some ⟨0, 0, none⟩) 16 16] :: (rest ++ [.rw [.int .u8 (w / 256), .int .u8 (w % 256)]])) fun _ _ => False := by
  have hle : i.toNat * 32 + off.toNat + 2 ≤ cs.length := by omega
  refine pc_of Try.func6 rfl (by decide) (by kernel_rfl) (by show 4 ≤ _; decide) (SW.of mixed _ _ _ ?_)
  simp -implicitDefEqProofs
  refine PC.ke (at_pc cs rest i off hi0 hi ho0 ho) ?_
  simp -implicitDefEqProofs
  refine (fnBytes w hw0 hw).k ?_
  simp -implicitDefEqProofs [qbw', qbw, vlen, qfirst, hle]
  skip
theorem word_pc (cs : List Value) (rest : List PO) (i off x y : Int) (hl : cs.length = 512) (hi0 : 0 ≤ i) (hi : i < 16) (ho0 : 0 ≤ off) (ho : off ≤ 30) (hx : cs[i.toNat * 32 + off.toNat]? = some (.int .u8 x)) (hy : cs[i.toNat * 32 + off.toNat + 1]? = some (.int .u8 y)) (hx0 : 0 ≤ x) (hx1 : x ≤ 255) (hy0 : 0 ≤ y) (hy1 : y ≤ 255) : PC Try.prog 7 [.pointer (some ⟨1, 0, none⟩), .int .i64 i, .int .i64 off] (.rw cs :: .rw [.slice (some ⟨0, 0, none⟩) 16 16] :: rest) (fun v h' => v = .tuple #[.int .u16 (x * 256 + y), .int .i64 0] ∧ h' = .rw cs :: .rw [.slice (some ⟨0, 0, none⟩) 16 16] :: rest) fun _ _ => False := by
  refine pc_of Try.func7 rfl (by decide) (by kernel_rfl) (by show 3 ≤ _; decide) (SW.of mixed _ _ _ ?_)
  simp -implicitDefEqProofs
  refine PC.ke (at_pc cs rest i off hi0 hi ho0 ho) ?_
  simp -implicitDefEqProofs
  refine pdk_at [] (by kernel_rfl) ?_
  simp -implicitDefEqProofs [hx, hy]
  refine (fnJoin x y hx0 hx1 hy0 hy1).kq ?_
  simp -implicitDefEqProofs
end Go.Proofs.Ytjopikjefpenkaa

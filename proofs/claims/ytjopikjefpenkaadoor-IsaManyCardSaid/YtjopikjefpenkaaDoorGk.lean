/- The bytes of instructions, those that bytes say: the law. -/
import Derived.Test.YtjopikjefpenkaaDoorGi
set_option linter.unusedSimpArgs false
set_option linter.unusedVariables false
set_option linter.unusedSectionVars false
namespace Go.Proofs.YtjopikjefpenkaaDoor
open Go.RowKit
set_option maxRecDepth 100000
set_option maxHeartbeats 16000000
theorem bytesOf_u8s : ∀ B : List UInt8, bytesOf (u8s B) = some B
  | [] => rfl
  | b :: B => by
    have := bytesOf_u8s B
    simp [u8s] at this
    simp [u8s, bytesOf, this]
theorem chunk_nil (h : List PO) : PC Tryd.prog 31 [.slice none 0 0, .int .i64 4] h (fun v h' => v = .func (.func 63) #[] #[.pointer (some ⟨h.length, 0, none⟩), .pointer (some ⟨h.length + 1, 0, none⟩)] ∧ h' = h ++ [.rw [.slice none 0 0], .rw [.int .i64 4]]) fun _ _ => False := by
  refine pc_of Tryd.func31 rfl (by decide) (by kernel_rfl) (by show 2 ≤ _; decide) (SW.of mixed _ _ _ ?_)
  simp -implicitDefEqProofs
theorem readNil_small : PC Tryd.prog 10 [.slice none 0 0] [] (fun v h' => ∃ k, v = .tuple #[.slice (some ⟨k, 0, none⟩) 0 0, .int .i64 0] ∧ 0 ≤ k ∧ h'[k]? = some (.rw []) ∧ Kept [] h') fun _ _ => False := by
  refine pc_of Tryd.func10 rfl (by decide) (by kernel_rfl) (by show 1 ≤ _; decide) (SW.of mixed _ _ _ ?_)
  simp -implicitDefEqProofs [rep_zero]
  refine PC.ke (chunk_nil _) ?_
  simp -implicitDefEqProofs
  refine pwpR_of rfl [(2, .pointer (some ⟨0, 0, none⟩)), (3, .pointer (some ⟨1, 0, none⟩)), (4, .pointer (some ⟨3, 0, none⟩))] (by simp [envSub, Env.get]) fun fn tmps df hok => ?_
  simp -implicitDefEqProofs
  refine pc_of Tryd.func63 rfl (by decide) (by kernel_rfl) (by show 3 ≤ _; decide) (SW.of mixed _ _ _ ?_)
  simp -implicitDefEqProofs
  refine pwp_rounds 1 ?_
  rw [Rounds_succ]
  simp -implicitDefEqProofs
  refine ⟨_, rfl, by simp [rec0], ?_⟩
  simp -implicitDefEqProofs [rec0, Kept]
theorem readNil_q {h : List PO} : PCq Tryd.prog 10 [.slice none 0 0] h fun v ns => v = .tuple #[.slice (some ⟨h.length, 0, none⟩) 0 0, .int .i64 0] ∧ ns = [.rw []] :=
  PC.readsRowT [] readNil_small fit_none live_nil (RNs.of_flat fun v hv => ⟨6, by simp at hv; subst hv; rfl⟩) rfl rfl
theorem fnReadRNil : Fn Tryd.prog 11 [.slice none 0 0] (.tuple #[.slice none 0 0, .int .i64 0]) := by
  refine Fn.of ?_ rfl rfl
  refine pc_of Tryd.func11 rfl (by decide) (by kernel_rfl) (by show 1 ≤ _; decide) (SW.of mixed _ _ _ ?_)
  simp -implicitDefEqProofs
  refine pwp_rounds 1 ?_
  rw [Rounds_succ]
  simp -implicitDefEqProofs
def ArgL (Q : List QV) (l : Value) : Prop := l = .slice none 0 0 ∨ ∃ c, Q.length ≤ c ∧ l = .slice (some ⟨0, 0, none⟩) Q.length c
def ArgB (B : List UInt8) (b : Value) : Prop := b = .slice none 0 0 ∨ ∃ c, B.length ≤ c ∧ b = .slice (some ⟨1, 0, none⟩) B.length c
theorem many_nil_nil (Q : List QV) (B : List UInt8) : PC Tryd.prog 3 [.slice none 0 0, .slice none 0 0] [.ro (rowQ Q), .ro (u8s B)] (fun v _ => v = .bool true) fun _ _ => False := by
  refine pc_of Tryd.func3 rfl (by decide) (by kernel_rfl) (by show 2 ≤ _; decide) (SW.of mixed _ _ _ ?_)
  simp -implicitDefEqProofs
  refine PC.ke (few_nil _) ?_
  simp -implicitDefEqProofs
  refine fnCodeNil.k ?_
  simp -implicitDefEqProofs
  refine PC.ke (few_nil _) ?_
  simp -implicitDefEqProofs
  refine fnCodeRNil.k ?_
  simp -implicitDefEqProofs
  refine PCq.k readNil_q ?_
  simp -implicitDefEqProofs
  refine fnReadRNil.k ?_
  simp -implicitDefEqProofs
  refine fnLive3.k ?_
  simp -implicitDefEqProofs 
  refine PCq.k (sameCode_q0 rfl rfl) ?_
  simp -implicitDefEqProofs
theorem many_nil_odd (Q : List QV) (B : List UInt8) (c2 n : Nat) (hc2 : B.length ≤ c2) (hclip : ¬ 400 < B.length) (hn : n = B.length) (h4 : ¬ n % 4 = 0) : PC Tryd.prog 3 [.slice none 0 0, .slice (some ⟨1, 0, none⟩) B.length c2] [.ro (rowQ Q), .ro (u8s B)] (fun v _ => v = .bool true) fun _ _ => False := by
  have g1 : ¬ 400 < (B.length : Int) := by omega
  have hnB : 0 + n ≤ B.length := by omega
  have hnc : n ≤ c2 := by omega
  have hn4 : n ≤ 400 := by omega
  have hnb : n ≤ 140737488355328 := by omega
  refine pc_of Tryd.func3 rfl (by decide) (by kernel_rfl) (by show 2 ≤ _; decide) (SW.of mixed _ _ _ ?_)
  subst hn
  simp -implicitDefEqProofs [g1]
  refine PC.ke (few_nil _) ?_
  simp -implicitDefEqProofs
  refine fnCodeNil.k ?_
  simp -implicitDefEqProofs
  refine PC.ke (few_nil _) ?_
  simp -implicitDefEqProofs
  refine fnCodeRNil.k ?_
  simp -implicitDefEqProofs
  refine PCq.k (readCode_qo (B := B) rfl h4) ?_
  simp -implicitDefEqProofs
  refine PCq.k (readCodeR_qo (B := B) rfl h4) ?_
  simp -implicitDefEqProofs
  refine fnLive3.k ?_
  simp -implicitDefEqProofs 
  refine fnSameNil.k ?_
  simp -implicitDefEqProofs
theorem many_nil_zero (Q : List QV) (B : List UInt8) (c2 n : Nat) (hc2 : B.length ≤ c2) (hclip : ¬ 400 < B.length) (hn : n = B.length) (h4 : n % 4 = 0) (hk : n / 4 = 0) (hB : allB B 0 n) : PC Tryd.prog 3 [.slice none 0 0, .slice (some ⟨1, 0, none⟩) B.length c2] [.ro (rowQ Q), .ro (u8s B)] (fun v _ => v = .bool true) fun _ _ => False := by
  have g1 : ¬ 400 < (B.length : Int) := by omega
  have hnB : 0 + n ≤ B.length := by omega
  have hnc : n ≤ c2 := by omega
  have hn4 : n ≤ 400 := by omega
  have hnb : n ≤ 140737488355328 := by omega
  refine pc_of Tryd.func3 rfl (by decide) (by kernel_rfl) (by show 2 ≤ _; decide) (SW.of mixed _ _ _ ?_)
  subst hn
  simp -implicitDefEqProofs [g1]
  refine PC.ke (few_nil _) ?_
  simp -implicitDefEqProofs
  refine fnCodeNil.k ?_
  simp -implicitDefEqProofs
  refine PC.ke (few_nil _) ?_
  simp -implicitDefEqProofs
  refine fnCodeRNil.k ?_
  simp -implicitDefEqProofs
  refine PCq.k (readCode_q (B := B) rfl (.inl rfl) hnB hnc hnb h4 hB) ?_
  simp -implicitDefEqProofs [hk]
  refine PCq.k (readCodeR_q0 (B := B) rfl hnB hnc hn4 h4 hk) ?_
  simp -implicitDefEqProofs
  refine fnLive3.k ?_
  simp -implicitDefEqProofs 
  refine PCq.k (sameCode_q0 rfl (rowQ_flat _)) ?_
  simp -implicitDefEqProofs
theorem many_nil_ok (Q : List QV) (B : List UInt8) (c2 n : Nat) (hc2 : B.length ≤ c2) (hclip : ¬ 400 < B.length) (hn : n = B.length) (h4 : n % 4 = 0) (hk : 0 < n / 4) (hB : allB B 0 n) : PC Tryd.prog 3 [.slice none 0 0, .slice (some ⟨1, 0, none⟩) B.length c2] [.ro (rowQ Q), .ro (u8s B)] (fun v _ => v = .bool true) fun _ _ => False := by
  have g1 : ¬ 400 < (B.length : Int) := by omega
  have hnB : 0 + n ≤ B.length := by omega
  have hnc : n ≤ c2 := by omega
  have hn4 : n ≤ 400 := by omega
  have hnb : n ≤ 140737488355328 := by omega
  refine pc_of Tryd.func3 rfl (by decide) (by kernel_rfl) (by show 2 ≤ _; decide) (SW.of mixed _ _ _ ?_)
  subst hn
  simp -implicitDefEqProofs [g1]
  refine PC.ke (few_nil _) ?_
  simp -implicitDefEqProofs
  refine fnCodeNil.k ?_
  simp -implicitDefEqProofs
  refine PC.ke (few_nil _) ?_
  simp -implicitDefEqProofs
  refine fnCodeRNil.k ?_
  simp -implicitDefEqProofs
  refine PCq.k (readCode_q (B := B) rfl (.inl rfl) hnB hnc hnb h4 hB) ?_
  simp -implicitDefEqProofs
  refine PCq.k (readCodeR_q (B := B) rfl hnB hnc hn4 h4 hk hB) ?_
  simp -implicitDefEqProofs
  refine fnLive3.k ?_
  simp -implicitDefEqProofs 
  refine PCq.k (sameCode_q (by decide) rfl rfl (by rw [qBs_len]; exact Nat.le_refl _) (by rw [qBs_len]; exact Nat.le_refl _) (fun _ _ _ _ => rfl) (by omega)) ?_
  simp -implicitDefEqProofs
theorem many_nil_ok_c (Q : List QV) (B : List UInt8) (c2 n : Nat) (hc2 : B.length ≤ c2) (hclip : 400 < B.length) (hn : n = 400) (h4 : n % 4 = 0) (hk : 0 < n / 4) (hB : allB B 0 n) : PC Tryd.prog 3 [.slice none 0 0, .slice (some ⟨1, 0, none⟩) B.length c2] [.ro (rowQ Q), .ro (u8s B)] (fun v _ => v = .bool true) fun _ _ => False := by
  have g1 : 400 < (B.length : Int) := by omega
  have g2 : (400 : Int) ≤ c2 := by omega
  have g3 : ¬ (c2 : Int) = 0 := by omega
  have g4 : ¬ c2 = 0 := by omega
  have hnB : 0 + n ≤ B.length := by omega
  have hnc : n ≤ c2 := by omega
  have hn4 : n ≤ 400 := by omega
  have hnb : n ≤ 140737488355328 := by omega
  refine pc_of Tryd.func3 rfl (by decide) (by kernel_rfl) (by show 2 ≤ _; decide) (SW.of mixed _ _ _ ?_)
  subst hn
  simp -implicitDefEqProofs [g1, g2, g3, g4]
  refine PC.ke (few_nil _) ?_
  simp -implicitDefEqProofs
  refine fnCodeNil.k ?_
  simp -implicitDefEqProofs
  refine PC.ke (few_nil _) ?_
  simp -implicitDefEqProofs
  refine fnCodeRNil.k ?_
  simp -implicitDefEqProofs
  refine PCq.k (readCode_q (B := B) rfl (.inl rfl) hnB hnc hnb h4 hB) ?_
  simp -implicitDefEqProofs
  refine PCq.k (readCodeR_q (B := B) rfl hnB hnc hn4 h4 hk hB) ?_
  simp -implicitDefEqProofs
  refine fnLive3.k ?_
  simp -implicitDefEqProofs 
  refine PCq.k (sameCode_q (by decide) rfl rfl (by rw [qBs_len]; exact Nat.le_refl _) (by rw [qBs_len]; exact Nat.le_refl _) (fun _ _ _ _ => rfl) (by omega)) ?_
  simp -implicitDefEqProofs
theorem many_nil_bad (Q : List QV) (B : List UInt8) (c2 n : Nat) (hc2 : B.length ≤ c2) (hclip : ¬ 400 < B.length) (hn : n = B.length) (h4 : n % 4 = 0) (hB : ¬ allB B 0 n) : PC Tryd.prog 3 [.slice none 0 0, .slice (some ⟨1, 0, none⟩) B.length c2] [.ro (rowQ Q), .ro (u8s B)] (fun v _ => v = .bool true) fun _ _ => False := by
  have g1 : ¬ 400 < (B.length : Int) := by omega
  have hnB : 0 + n ≤ B.length := by omega
  have hnc : n ≤ c2 := by omega
  have hn4 : n ≤ 400 := by omega
  have hnb : n ≤ 140737488355328 := by omega
  refine pc_of Tryd.func3 rfl (by decide) (by kernel_rfl) (by show 2 ≤ _; decide) (SW.of mixed _ _ _ ?_)
  subst hn
  simp -implicitDefEqProofs [g1]
  refine PC.ke (few_nil _) ?_
  simp -implicitDefEqProofs
  refine fnCodeNil.k ?_
  simp -implicitDefEqProofs
  refine PC.ke (few_nil _) ?_
  simp -implicitDefEqProofs
  refine fnCodeRNil.k ?_
  simp -implicitDefEqProofs
  refine PCq.k (readCode_qn (B := B) rfl (.inl rfl) hnB hnc hnb h4 hB) ?_
  simp -implicitDefEqProofs
  refine PCq.k (readCodeR_qn (B := B) rfl hnB hnc hn4 h4 hB) ?_
  simp -implicitDefEqProofs
  refine fnLive3.k ?_
  simp -implicitDefEqProofs 
  refine fnSameNil.k ?_
  simp -implicitDefEqProofs
theorem many_nil_bad_c (Q : List QV) (B : List UInt8) (c2 n : Nat) (hc2 : B.length ≤ c2) (hclip : 400 < B.length) (hn : n = 400) (h4 : n % 4 = 0) (hB : ¬ allB B 0 n) : PC Tryd.prog 3 [.slice none 0 0, .slice (some ⟨1, 0, none⟩) B.length c2] [.ro (rowQ Q), .ro (u8s B)] (fun v _ => v = .bool true) fun _ _ => False := by
  have g1 : 400 < (B.length : Int) := by omega
  have g2 : (400 : Int) ≤ c2 := by omega
  have g3 : ¬ (c2 : Int) = 0 := by omega
  have g4 : ¬ c2 = 0 := by omega
  have hnB : 0 + n ≤ B.length := by omega
  have hnc : n ≤ c2 := by omega
  have hn4 : n ≤ 400 := by omega
  have hnb : n ≤ 140737488355328 := by omega
  refine pc_of Tryd.func3 rfl (by decide) (by kernel_rfl) (by show 2 ≤ _; decide) (SW.of mixed _ _ _ ?_)
  subst hn
  simp -implicitDefEqProofs [g1, g2, g3, g4]
  refine PC.ke (few_nil _) ?_
  simp -implicitDefEqProofs
  refine fnCodeNil.k ?_
  simp -implicitDefEqProofs
  refine PC.ke (few_nil _) ?_
  simp -implicitDefEqProofs
  refine fnCodeRNil.k ?_
  simp -implicitDefEqProofs
  refine PCq.k (readCode_qn (B := B) rfl (.inl rfl) hnB hnc hnb h4 hB) ?_
  simp -implicitDefEqProofs
  refine PCq.k (readCodeR_qn (B := B) rfl hnB hnc hn4 h4 hB) ?_
  simp -implicitDefEqProofs
  refine fnLive3.k ?_
  simp -implicitDefEqProofs 
  refine fnSameNil.k ?_
  simp -implicitDefEqProofs
theorem many_zero_nil (Q : List QV) (B : List UInt8) (c1 m : Nat) (hc1 : Q.length ≤ c1) (hr : ∀ q ∈ Q, QR q) (hm : min Q.length 60 = m) (hm0 : m = 0) : PC Tryd.prog 3 [.slice (some ⟨0, 0, none⟩) Q.length c1, .slice none 0 0] [.ro (rowQ Q), .ro (u8s B)] (fun v _ => v = .bool true) fun _ _ => False := by
  subst hm0
  refine pc_of Tryd.func3 rfl (by decide) (by kernel_rfl) (by show 2 ≤ _; decide) (SW.of mixed _ _ _ ?_)
  simp -implicitDefEqProofs
  refine PC.ke (few_pc _ 0 _ _ hc1) ?_
  simp -implicitDefEqProofs [hm]
  refine PCq.k (code_q0 (Q := Q) rfl hr) ?_
  simp -implicitDefEqProofs [hm]
  refine PC.ke (few_pc _ 0 _ _ hc1) ?_
  simp -implicitDefEqProofs [hm]
  refine PCq.k (codeR_q0 (Q := Q) rfl hr) ?_
  simp -implicitDefEqProofs [hm]
  refine PCq.k readNil_q ?_
  simp -implicitDefEqProofs
  refine fnReadRNil.k ?_
  simp -implicitDefEqProofs
  refine fnLive3.k ?_
  simp -implicitDefEqProofs 
  refine PCq.k (sameCode_q0 rfl rfl) ?_
  simp -implicitDefEqProofs
theorem many_zero_odd (Q : List QV) (B : List UInt8) (c1 m : Nat) (hc1 : Q.length ≤ c1) (hr : ∀ q ∈ Q, QR q) (hm : min Q.length 60 = m) (hm0 : m = 0) (c2 n : Nat) (hc2 : B.length ≤ c2) (hclip : ¬ 400 < B.length) (hn : n = B.length) (h4 : ¬ n % 4 = 0) : PC Tryd.prog 3 [.slice (some ⟨0, 0, none⟩) Q.length c1, .slice (some ⟨1, 0, none⟩) B.length c2] [.ro (rowQ Q), .ro (u8s B)] (fun v _ => v = .bool true) fun _ _ => False := by
  subst hm0
  have g1 : ¬ 400 < (B.length : Int) := by omega
  have hnB : 0 + n ≤ B.length := by omega
  have hnc : n ≤ c2 := by omega
  have hn4 : n ≤ 400 := by omega
  have hnb : n ≤ 140737488355328 := by omega
  refine pc_of Tryd.func3 rfl (by decide) (by kernel_rfl) (by show 2 ≤ _; decide) (SW.of mixed _ _ _ ?_)
  subst hn
  simp -implicitDefEqProofs [g1]
  refine PC.ke (few_pc _ 0 _ _ hc1) ?_
  simp -implicitDefEqProofs [hm]
  refine PCq.k (code_q0 (Q := Q) rfl hr) ?_
  simp -implicitDefEqProofs [hm]
  refine PC.ke (few_pc _ 0 _ _ hc1) ?_
  simp -implicitDefEqProofs [hm]
  refine PCq.k (codeR_q0 (Q := Q) rfl hr) ?_
  simp -implicitDefEqProofs [hm]
  refine PCq.k (readCode_qo (B := B) rfl h4) ?_
  simp -implicitDefEqProofs
  refine PCq.k (readCodeR_qo (B := B) rfl h4) ?_
  simp -implicitDefEqProofs
  refine fnLive3.k ?_
  simp -implicitDefEqProofs 
  refine fnSameNil.k ?_
  simp -implicitDefEqProofs
theorem many_zero_zero (Q : List QV) (B : List UInt8) (c1 m : Nat) (hc1 : Q.length ≤ c1) (hr : ∀ q ∈ Q, QR q) (hm : min Q.length 60 = m) (hm0 : m = 0) (c2 n : Nat) (hc2 : B.length ≤ c2) (hclip : ¬ 400 < B.length) (hn : n = B.length) (h4 : n % 4 = 0) (hk : n / 4 = 0) (hB : allB B 0 n) : PC Tryd.prog 3 [.slice (some ⟨0, 0, none⟩) Q.length c1, .slice (some ⟨1, 0, none⟩) B.length c2] [.ro (rowQ Q), .ro (u8s B)] (fun v _ => v = .bool true) fun _ _ => False := by
  subst hm0
  have g1 : ¬ 400 < (B.length : Int) := by omega
  have hnB : 0 + n ≤ B.length := by omega
  have hnc : n ≤ c2 := by omega
  have hn4 : n ≤ 400 := by omega
  have hnb : n ≤ 140737488355328 := by omega
  refine pc_of Tryd.func3 rfl (by decide) (by kernel_rfl) (by show 2 ≤ _; decide) (SW.of mixed _ _ _ ?_)
  subst hn
  simp -implicitDefEqProofs [g1]
  refine PC.ke (few_pc _ 0 _ _ hc1) ?_
  simp -implicitDefEqProofs [hm]
  refine PCq.k (code_q0 (Q := Q) rfl hr) ?_
  simp -implicitDefEqProofs [hm]
  refine PC.ke (few_pc _ 0 _ _ hc1) ?_
  simp -implicitDefEqProofs [hm]
  refine PCq.k (codeR_q0 (Q := Q) rfl hr) ?_
  simp -implicitDefEqProofs [hm]
  refine PCq.k (readCode_q (B := B) rfl (.inl rfl) hnB hnc hnb h4 hB) ?_
  simp -implicitDefEqProofs [hk]
  refine PCq.k (readCodeR_q0 (B := B) rfl hnB hnc hn4 h4 hk) ?_
  simp -implicitDefEqProofs
  refine fnLive3.k ?_
  simp -implicitDefEqProofs 
  refine PCq.k (sameCode_q0 rfl (rowQ_flat _)) ?_
  simp -implicitDefEqProofs
theorem many_zero_ok (Q : List QV) (B : List UInt8) (c1 m : Nat) (hc1 : Q.length ≤ c1) (hr : ∀ q ∈ Q, QR q) (hm : min Q.length 60 = m) (hm0 : m = 0) (c2 n : Nat) (hc2 : B.length ≤ c2) (hclip : ¬ 400 < B.length) (hn : n = B.length) (h4 : n % 4 = 0) (hk : 0 < n / 4) (hB : allB B 0 n) : PC Tryd.prog 3 [.slice (some ⟨0, 0, none⟩) Q.length c1, .slice (some ⟨1, 0, none⟩) B.length c2] [.ro (rowQ Q), .ro (u8s B)] (fun v _ => v = .bool true) fun _ _ => False := by
  subst hm0
  have g1 : ¬ 400 < (B.length : Int) := by omega
  have hnB : 0 + n ≤ B.length := by omega
  have hnc : n ≤ c2 := by omega
  have hn4 : n ≤ 400 := by omega
  have hnb : n ≤ 140737488355328 := by omega
  refine pc_of Tryd.func3 rfl (by decide) (by kernel_rfl) (by show 2 ≤ _; decide) (SW.of mixed _ _ _ ?_)
  subst hn
  simp -implicitDefEqProofs [g1]
  refine PC.ke (few_pc _ 0 _ _ hc1) ?_
  simp -implicitDefEqProofs [hm]
  refine PCq.k (code_q0 (Q := Q) rfl hr) ?_
  simp -implicitDefEqProofs [hm]
  refine PC.ke (few_pc _ 0 _ _ hc1) ?_
  simp -implicitDefEqProofs [hm]
  refine PCq.k (codeR_q0 (Q := Q) rfl hr) ?_
  simp -implicitDefEqProofs [hm]
  refine PCq.k (readCode_q (B := B) rfl (.inl rfl) hnB hnc hnb h4 hB) ?_
  simp -implicitDefEqProofs
  refine PCq.k (readCodeR_q (B := B) rfl hnB hnc hn4 h4 hk hB) ?_
  simp -implicitDefEqProofs
  refine fnLive3.k ?_
  simp -implicitDefEqProofs 
  refine PCq.k (sameCode_q (by decide) rfl rfl (by rw [qBs_len]; exact Nat.le_refl _) (by rw [qBs_len]; exact Nat.le_refl _) (fun _ _ _ _ => rfl) (by omega)) ?_
  simp -implicitDefEqProofs
theorem many_zero_ok_c (Q : List QV) (B : List UInt8) (c1 m : Nat) (hc1 : Q.length ≤ c1) (hr : ∀ q ∈ Q, QR q) (hm : min Q.length 60 = m) (hm0 : m = 0) (c2 n : Nat) (hc2 : B.length ≤ c2) (hclip : 400 < B.length) (hn : n = 400) (h4 : n % 4 = 0) (hk : 0 < n / 4) (hB : allB B 0 n) : PC Tryd.prog 3 [.slice (some ⟨0, 0, none⟩) Q.length c1, .slice (some ⟨1, 0, none⟩) B.length c2] [.ro (rowQ Q), .ro (u8s B)] (fun v _ => v = .bool true) fun _ _ => False := by
  subst hm0
  have g1 : 400 < (B.length : Int) := by omega
  have g2 : (400 : Int) ≤ c2 := by omega
  have g3 : ¬ (c2 : Int) = 0 := by omega
  have g4 : ¬ c2 = 0 := by omega
  have hnB : 0 + n ≤ B.length := by omega
  have hnc : n ≤ c2 := by omega
  have hn4 : n ≤ 400 := by omega
  have hnb : n ≤ 140737488355328 := by omega
  refine pc_of Tryd.func3 rfl (by decide) (by kernel_rfl) (by show 2 ≤ _; decide) (SW.of mixed _ _ _ ?_)
  subst hn
  simp -implicitDefEqProofs [g1, g2, g3, g4]
  refine PC.ke (few_pc _ 0 _ _ hc1) ?_
  simp -implicitDefEqProofs [hm]
  refine PCq.k (code_q0 (Q := Q) rfl hr) ?_
  simp -implicitDefEqProofs [hm]
  refine PC.ke (few_pc _ 0 _ _ hc1) ?_
  simp -implicitDefEqProofs [hm]
  refine PCq.k (codeR_q0 (Q := Q) rfl hr) ?_
  simp -implicitDefEqProofs [hm]
  refine PCq.k (readCode_q (B := B) rfl (.inl rfl) hnB hnc hnb h4 hB) ?_
  simp -implicitDefEqProofs
  refine PCq.k (readCodeR_q (B := B) rfl hnB hnc hn4 h4 hk hB) ?_
  simp -implicitDefEqProofs
  refine fnLive3.k ?_
  simp -implicitDefEqProofs 
  refine PCq.k (sameCode_q (by decide) rfl rfl (by rw [qBs_len]; exact Nat.le_refl _) (by rw [qBs_len]; exact Nat.le_refl _) (fun _ _ _ _ => rfl) (by omega)) ?_
  simp -implicitDefEqProofs
theorem many_zero_bad (Q : List QV) (B : List UInt8) (c1 m : Nat) (hc1 : Q.length ≤ c1) (hr : ∀ q ∈ Q, QR q) (hm : min Q.length 60 = m) (hm0 : m = 0) (c2 n : Nat) (hc2 : B.length ≤ c2) (hclip : ¬ 400 < B.length) (hn : n = B.length) (h4 : n % 4 = 0) (hB : ¬ allB B 0 n) : PC Tryd.prog 3 [.slice (some ⟨0, 0, none⟩) Q.length c1, .slice (some ⟨1, 0, none⟩) B.length c2] [.ro (rowQ Q), .ro (u8s B)] (fun v _ => v = .bool true) fun _ _ => False := by
  subst hm0
  have g1 : ¬ 400 < (B.length : Int) := by omega
  have hnB : 0 + n ≤ B.length := by omega
  have hnc : n ≤ c2 := by omega
  have hn4 : n ≤ 400 := by omega
  have hnb : n ≤ 140737488355328 := by omega
  refine pc_of Tryd.func3 rfl (by decide) (by kernel_rfl) (by show 2 ≤ _; decide) (SW.of mixed _ _ _ ?_)
  subst hn
  simp -implicitDefEqProofs [g1]
  refine PC.ke (few_pc _ 0 _ _ hc1) ?_
  simp -implicitDefEqProofs [hm]
  refine PCq.k (code_q0 (Q := Q) rfl hr) ?_
  simp -implicitDefEqProofs [hm]
  refine PC.ke (few_pc _ 0 _ _ hc1) ?_
  simp -implicitDefEqProofs [hm]
  refine PCq.k (codeR_q0 (Q := Q) rfl hr) ?_
  simp -implicitDefEqProofs [hm]
  refine PCq.k (readCode_qn (B := B) rfl (.inl rfl) hnB hnc hnb h4 hB) ?_
  simp -implicitDefEqProofs
  refine PCq.k (readCodeR_qn (B := B) rfl hnB hnc hn4 h4 hB) ?_
  simp -implicitDefEqProofs
  refine fnLive3.k ?_
  simp -implicitDefEqProofs 
  refine fnSameNil.k ?_
  simp -implicitDefEqProofs
theorem many_zero_bad_c (Q : List QV) (B : List UInt8) (c1 m : Nat) (hc1 : Q.length ≤ c1) (hr : ∀ q ∈ Q, QR q) (hm : min Q.length 60 = m) (hm0 : m = 0) (c2 n : Nat) (hc2 : B.length ≤ c2) (hclip : 400 < B.length) (hn : n = 400) (h4 : n % 4 = 0) (hB : ¬ allB B 0 n) : PC Tryd.prog 3 [.slice (some ⟨0, 0, none⟩) Q.length c1, .slice (some ⟨1, 0, none⟩) B.length c2] [.ro (rowQ Q), .ro (u8s B)] (fun v _ => v = .bool true) fun _ _ => False := by
  subst hm0
  have g1 : 400 < (B.length : Int) := by omega
  have g2 : (400 : Int) ≤ c2 := by omega
  have g3 : ¬ (c2 : Int) = 0 := by omega
  have g4 : ¬ c2 = 0 := by omega
  have hnB : 0 + n ≤ B.length := by omega
  have hnc : n ≤ c2 := by omega
  have hn4 : n ≤ 400 := by omega
  have hnb : n ≤ 140737488355328 := by omega
  refine pc_of Tryd.func3 rfl (by decide) (by kernel_rfl) (by show 2 ≤ _; decide) (SW.of mixed _ _ _ ?_)
  subst hn
  simp -implicitDefEqProofs [g1, g2, g3, g4]
  refine PC.ke (few_pc _ 0 _ _ hc1) ?_
  simp -implicitDefEqProofs [hm]
  refine PCq.k (code_q0 (Q := Q) rfl hr) ?_
  simp -implicitDefEqProofs [hm]
  refine PC.ke (few_pc _ 0 _ _ hc1) ?_
  simp -implicitDefEqProofs [hm]
  refine PCq.k (codeR_q0 (Q := Q) rfl hr) ?_
  simp -implicitDefEqProofs [hm]
  refine PCq.k (readCode_qn (B := B) rfl (.inl rfl) hnB hnc hnb h4 hB) ?_
  simp -implicitDefEqProofs
  refine PCq.k (readCodeR_qn (B := B) rfl hnB hnc hn4 h4 hB) ?_
  simp -implicitDefEqProofs
  refine fnLive3.k ?_
  simp -implicitDefEqProofs 
  refine fnSameNil.k ?_
  simp -implicitDefEqProofs
theorem many_ok_nil (Q : List QV) (B : List UInt8) (c1 m : Nat) (hc1 : Q.length ≤ c1) (hr : ∀ q ∈ Q, QR q) (hm : min Q.length 60 = m) (hm0 : 0 < m) (hA : allQ Q m) : PC Tryd.prog 3 [.slice (some ⟨0, 0, none⟩) Q.length c1, .slice none 0 0] [.ro (rowQ Q), .ro (u8s B)] (fun v _ => v = .bool true) fun _ _ => False := by
  have hmQ : m ≤ Q.length := by omega
  have hm4 : 4 * m ≤ 70368744177664 := by omega
  have hX : (encBs (Q.take m)).length = 4 * m := by rw [encBs_len, List.length_take, Nat.min_eq_left hmQ]
  have hT : List.take (4 * m) (u8s (encBs (Q.take m))) = u8s (encBs (Q.take m)) := List.take_of_length_le (by rw [u8s_len, hX]; exact Nat.le_refl _)
  have hm1 : ¬ 4 * m = 0 := by omega
  refine pc_of Tryd.func3 rfl (by decide) (by kernel_rfl) (by show 2 ≤ _; decide) (SW.of mixed _ _ _ ?_)
  simp -implicitDefEqProofs
  refine PC.ke (few_pc _ 0 _ _ hc1) ?_
  simp -implicitDefEqProofs [hm]
  refine PCq.k (code_q (Q := Q) rfl hmQ hm4 hm0 hr hA) ?_
  simp -implicitDefEqProofs [hm]
  refine PC.ke (few_pc _ 0 _ _ hc1) ?_
  simp -implicitDefEqProofs [hm]
  refine PCq.k (codeR_q (Q := Q) rfl hmQ hm4 hm0 hr hA) ?_
  simp -implicitDefEqProofs [hm]
  refine PCq.k readNil_q ?_
  simp -implicitDefEqProofs
  refine fnReadRNil.k ?_
  simp -implicitDefEqProofs
  refine fnLive3.k ?_
  simp -implicitDefEqProofs [bytesOf_u8s, hT, hX, hm1]
  refine PCq.k (sameCode_q0 rfl rfl) ?_
  simp -implicitDefEqProofs
theorem many_ok_odd (Q : List QV) (B : List UInt8) (c1 m : Nat) (hc1 : Q.length ≤ c1) (hr : ∀ q ∈ Q, QR q) (hm : min Q.length 60 = m) (hm0 : 0 < m) (hA : allQ Q m) (c2 n : Nat) (hc2 : B.length ≤ c2) (hclip : ¬ 400 < B.length) (hn : n = B.length) (h4 : ¬ n % 4 = 0) : PC Tryd.prog 3 [.slice (some ⟨0, 0, none⟩) Q.length c1, .slice (some ⟨1, 0, none⟩) B.length c2] [.ro (rowQ Q), .ro (u8s B)] (fun v _ => v = .bool true) fun _ _ => False := by
  have hmQ : m ≤ Q.length := by omega
  have hm4 : 4 * m ≤ 70368744177664 := by omega
  have hX : (encBs (Q.take m)).length = 4 * m := by rw [encBs_len, List.length_take, Nat.min_eq_left hmQ]
  have hT : List.take (4 * m) (u8s (encBs (Q.take m))) = u8s (encBs (Q.take m)) := List.take_of_length_le (by rw [u8s_len, hX]; exact Nat.le_refl _)
  have hm1 : ¬ 4 * m = 0 := by omega
  have g1 : ¬ 400 < (B.length : Int) := by omega
  have hnB : 0 + n ≤ B.length := by omega
  have hnc : n ≤ c2 := by omega
  have hn4 : n ≤ 400 := by omega
  have hnb : n ≤ 140737488355328 := by omega
  refine pc_of Tryd.func3 rfl (by decide) (by kernel_rfl) (by show 2 ≤ _; decide) (SW.of mixed _ _ _ ?_)
  subst hn
  simp -implicitDefEqProofs [g1]
  refine PC.ke (few_pc _ 0 _ _ hc1) ?_
  simp -implicitDefEqProofs [hm]
  refine PCq.k (code_q (Q := Q) rfl hmQ hm4 hm0 hr hA) ?_
  simp -implicitDefEqProofs [hm]
  refine PC.ke (few_pc _ 0 _ _ hc1) ?_
  simp -implicitDefEqProofs [hm]
  refine PCq.k (codeR_q (Q := Q) rfl hmQ hm4 hm0 hr hA) ?_
  simp -implicitDefEqProofs [hm]
  refine PCq.k (readCode_qo (B := B) rfl h4) ?_
  simp -implicitDefEqProofs
  refine PCq.k (readCodeR_qo (B := B) rfl h4) ?_
  simp -implicitDefEqProofs
  refine fnLive3.k ?_
  simp -implicitDefEqProofs [bytesOf_u8s, hT, hX, hm1]
  refine fnSameNil.k ?_
  simp -implicitDefEqProofs
theorem many_ok_zero (Q : List QV) (B : List UInt8) (c1 m : Nat) (hc1 : Q.length ≤ c1) (hr : ∀ q ∈ Q, QR q) (hm : min Q.length 60 = m) (hm0 : 0 < m) (hA : allQ Q m) (c2 n : Nat) (hc2 : B.length ≤ c2) (hclip : ¬ 400 < B.length) (hn : n = B.length) (h4 : n % 4 = 0) (hk : n / 4 = 0) (hB : allB B 0 n) : PC Tryd.prog 3 [.slice (some ⟨0, 0, none⟩) Q.length c1, .slice (some ⟨1, 0, none⟩) B.length c2] [.ro (rowQ Q), .ro (u8s B)] (fun v _ => v = .bool true) fun _ _ => False := by
  have hmQ : m ≤ Q.length := by omega
  have hm4 : 4 * m ≤ 70368744177664 := by omega
  have hX : (encBs (Q.take m)).length = 4 * m := by rw [encBs_len, List.length_take, Nat.min_eq_left hmQ]
  have hT : List.take (4 * m) (u8s (encBs (Q.take m))) = u8s (encBs (Q.take m)) := List.take_of_length_le (by rw [u8s_len, hX]; exact Nat.le_refl _)
  have hm1 : ¬ 4 * m = 0 := by omega
  have g1 : ¬ 400 < (B.length : Int) := by omega
  have hnB : 0 + n ≤ B.length := by omega
  have hnc : n ≤ c2 := by omega
  have hn4 : n ≤ 400 := by omega
  have hnb : n ≤ 140737488355328 := by omega
  refine pc_of Tryd.func3 rfl (by decide) (by kernel_rfl) (by show 2 ≤ _; decide) (SW.of mixed _ _ _ ?_)
  subst hn
  simp -implicitDefEqProofs [g1]
  refine PC.ke (few_pc _ 0 _ _ hc1) ?_
  simp -implicitDefEqProofs [hm]
  refine PCq.k (code_q (Q := Q) rfl hmQ hm4 hm0 hr hA) ?_
  simp -implicitDefEqProofs [hm]
  refine PC.ke (few_pc _ 0 _ _ hc1) ?_
  simp -implicitDefEqProofs [hm]
  refine PCq.k (codeR_q (Q := Q) rfl hmQ hm4 hm0 hr hA) ?_
  simp -implicitDefEqProofs [hm]
  refine PCq.k (readCode_q (B := B) rfl (.inl rfl) hnB hnc hnb h4 hB) ?_
  simp -implicitDefEqProofs [hk]
  refine PCq.k (readCodeR_q0 (B := B) rfl hnB hnc hn4 h4 hk) ?_
  simp -implicitDefEqProofs
  refine fnLive3.k ?_
  simp -implicitDefEqProofs [bytesOf_u8s, hT, hX, hm1]
  refine PCq.k (sameCode_q0 rfl (rowQ_flat _)) ?_
  simp -implicitDefEqProofs
theorem many_ok_ok (Q : List QV) (B : List UInt8) (c1 m : Nat) (hc1 : Q.length ≤ c1) (hr : ∀ q ∈ Q, QR q) (hm : min Q.length 60 = m) (hm0 : 0 < m) (hA : allQ Q m) (c2 n : Nat) (hc2 : B.length ≤ c2) (hclip : ¬ 400 < B.length) (hn : n = B.length) (h4 : n % 4 = 0) (hk : 0 < n / 4) (hB : allB B 0 n) : PC Tryd.prog 3 [.slice (some ⟨0, 0, none⟩) Q.length c1, .slice (some ⟨1, 0, none⟩) B.length c2] [.ro (rowQ Q), .ro (u8s B)] (fun v _ => v = .bool true) fun _ _ => False := by
  have hmQ : m ≤ Q.length := by omega
  have hm4 : 4 * m ≤ 70368744177664 := by omega
  have hX : (encBs (Q.take m)).length = 4 * m := by rw [encBs_len, List.length_take, Nat.min_eq_left hmQ]
  have hT : List.take (4 * m) (u8s (encBs (Q.take m))) = u8s (encBs (Q.take m)) := List.take_of_length_le (by rw [u8s_len, hX]; exact Nat.le_refl _)
  have hm1 : ¬ 4 * m = 0 := by omega
  have g1 : ¬ 400 < (B.length : Int) := by omega
  have hnB : 0 + n ≤ B.length := by omega
  have hnc : n ≤ c2 := by omega
  have hn4 : n ≤ 400 := by omega
  have hnb : n ≤ 140737488355328 := by omega
  refine pc_of Tryd.func3 rfl (by decide) (by kernel_rfl) (by show 2 ≤ _; decide) (SW.of mixed _ _ _ ?_)
  subst hn
  simp -implicitDefEqProofs [g1]
  refine PC.ke (few_pc _ 0 _ _ hc1) ?_
  simp -implicitDefEqProofs [hm]
  refine PCq.k (code_q (Q := Q) rfl hmQ hm4 hm0 hr hA) ?_
  simp -implicitDefEqProofs [hm]
  refine PC.ke (few_pc _ 0 _ _ hc1) ?_
  simp -implicitDefEqProofs [hm]
  refine PCq.k (codeR_q (Q := Q) rfl hmQ hm4 hm0 hr hA) ?_
  simp -implicitDefEqProofs [hm]
  refine PCq.k (readCode_q (B := B) rfl (.inl rfl) hnB hnc hnb h4 hB) ?_
  simp -implicitDefEqProofs
  refine PCq.k (readCodeR_q (B := B) rfl hnB hnc hn4 h4 hk hB) ?_
  simp -implicitDefEqProofs
  refine fnLive3.k ?_
  simp -implicitDefEqProofs [bytesOf_u8s, hT, hX, hm1]
  refine PCq.k (sameCode_q (by decide) rfl rfl (by rw [qBs_len]; exact Nat.le_refl _) (by rw [qBs_len]; exact Nat.le_refl _) (fun _ _ _ _ => rfl) (by omega)) ?_
  simp -implicitDefEqProofs
theorem many_ok_ok_c (Q : List QV) (B : List UInt8) (c1 m : Nat) (hc1 : Q.length ≤ c1) (hr : ∀ q ∈ Q, QR q) (hm : min Q.length 60 = m) (hm0 : 0 < m) (hA : allQ Q m) (c2 n : Nat) (hc2 : B.length ≤ c2) (hclip : 400 < B.length) (hn : n = 400) (h4 : n % 4 = 0) (hk : 0 < n / 4) (hB : allB B 0 n) : PC Tryd.prog 3 [.slice (some ⟨0, 0, none⟩) Q.length c1, .slice (some ⟨1, 0, none⟩) B.length c2] [.ro (rowQ Q), .ro (u8s B)] (fun v _ => v = .bool true) fun _ _ => False := by
  have hmQ : m ≤ Q.length := by omega
  have hm4 : 4 * m ≤ 70368744177664 := by omega
  have hX : (encBs (Q.take m)).length = 4 * m := by rw [encBs_len, List.length_take, Nat.min_eq_left hmQ]
  have hT : List.take (4 * m) (u8s (encBs (Q.take m))) = u8s (encBs (Q.take m)) := List.take_of_length_le (by rw [u8s_len, hX]; exact Nat.le_refl _)
  have hm1 : ¬ 4 * m = 0 := by omega
  have g1 : 400 < (B.length : Int) := by omega
  have g2 : (400 : Int) ≤ c2 := by omega
  have g3 : ¬ (c2 : Int) = 0 := by omega
  have g4 : ¬ c2 = 0 := by omega
  have hnB : 0 + n ≤ B.length := by omega
  have hnc : n ≤ c2 := by omega
  have hn4 : n ≤ 400 := by omega
  have hnb : n ≤ 140737488355328 := by omega
  refine pc_of Tryd.func3 rfl (by decide) (by kernel_rfl) (by show 2 ≤ _; decide) (SW.of mixed _ _ _ ?_)
  subst hn
  simp -implicitDefEqProofs [g1, g2, g3, g4]
  refine PC.ke (few_pc _ 0 _ _ hc1) ?_
  simp -implicitDefEqProofs [hm]
  refine PCq.k (code_q (Q := Q) rfl hmQ hm4 hm0 hr hA) ?_
  simp -implicitDefEqProofs [hm]
  refine PC.ke (few_pc _ 0 _ _ hc1) ?_
  simp -implicitDefEqProofs [hm]
  refine PCq.k (codeR_q (Q := Q) rfl hmQ hm4 hm0 hr hA) ?_
  simp -implicitDefEqProofs [hm]
  refine PCq.k (readCode_q (B := B) rfl (.inl rfl) hnB hnc hnb h4 hB) ?_
  simp -implicitDefEqProofs
  refine PCq.k (readCodeR_q (B := B) rfl hnB hnc hn4 h4 hk hB) ?_
  simp -implicitDefEqProofs
  refine fnLive3.k ?_
  simp -implicitDefEqProofs [bytesOf_u8s, hT, hX, hm1]
  refine PCq.k (sameCode_q (by decide) rfl rfl (by rw [qBs_len]; exact Nat.le_refl _) (by rw [qBs_len]; exact Nat.le_refl _) (fun _ _ _ _ => rfl) (by omega)) ?_
  simp -implicitDefEqProofs
theorem many_ok_bad (Q : List QV) (B : List UInt8) (c1 m : Nat) (hc1 : Q.length ≤ c1) (hr : ∀ q ∈ Q, QR q) (hm : min Q.length 60 = m) (hm0 : 0 < m) (hA : allQ Q m) (c2 n : Nat) (hc2 : B.length ≤ c2) (hclip : ¬ 400 < B.length) (hn : n = B.length) (h4 : n % 4 = 0) (hB : ¬ allB B 0 n) : PC Tryd.prog 3 [.slice (some ⟨0, 0, none⟩) Q.length c1, .slice (some ⟨1, 0, none⟩) B.length c2] [.ro (rowQ Q), .ro (u8s B)] (fun v _ => v = .bool true) fun _ _ => False := by
  have hmQ : m ≤ Q.length := by omega
  have hm4 : 4 * m ≤ 70368744177664 := by omega
  have hX : (encBs (Q.take m)).length = 4 * m := by rw [encBs_len, List.length_take, Nat.min_eq_left hmQ]
  have hT : List.take (4 * m) (u8s (encBs (Q.take m))) = u8s (encBs (Q.take m)) := List.take_of_length_le (by rw [u8s_len, hX]; exact Nat.le_refl _)
  have hm1 : ¬ 4 * m = 0 := by omega
  have g1 : ¬ 400 < (B.length : Int) := by omega
  have hnB : 0 + n ≤ B.length := by omega
  have hnc : n ≤ c2 := by omega
  have hn4 : n ≤ 400 := by omega
  have hnb : n ≤ 140737488355328 := by omega
  refine pc_of Tryd.func3 rfl (by decide) (by kernel_rfl) (by show 2 ≤ _; decide) (SW.of mixed _ _ _ ?_)
  subst hn
  simp -implicitDefEqProofs [g1]
  refine PC.ke (few_pc _ 0 _ _ hc1) ?_
  simp -implicitDefEqProofs [hm]
  refine PCq.k (code_q (Q := Q) rfl hmQ hm4 hm0 hr hA) ?_
  simp -implicitDefEqProofs [hm]
  refine PC.ke (few_pc _ 0 _ _ hc1) ?_
  simp -implicitDefEqProofs [hm]
  refine PCq.k (codeR_q (Q := Q) rfl hmQ hm4 hm0 hr hA) ?_
  simp -implicitDefEqProofs [hm]
  refine PCq.k (readCode_qn (B := B) rfl (.inl rfl) hnB hnc hnb h4 hB) ?_
  simp -implicitDefEqProofs
  refine PCq.k (readCodeR_qn (B := B) rfl hnB hnc hn4 h4 hB) ?_
  simp -implicitDefEqProofs
  refine fnLive3.k ?_
  simp -implicitDefEqProofs [bytesOf_u8s, hT, hX, hm1]
  refine fnSameNil.k ?_
  simp -implicitDefEqProofs
theorem many_ok_bad_c (Q : List QV) (B : List UInt8) (c1 m : Nat) (hc1 : Q.length ≤ c1) (hr : ∀ q ∈ Q, QR q) (hm : min Q.length 60 = m) (hm0 : 0 < m) (hA : allQ Q m) (c2 n : Nat) (hc2 : B.length ≤ c2) (hclip : 400 < B.length) (hn : n = 400) (h4 : n % 4 = 0) (hB : ¬ allB B 0 n) : PC Tryd.prog 3 [.slice (some ⟨0, 0, none⟩) Q.length c1, .slice (some ⟨1, 0, none⟩) B.length c2] [.ro (rowQ Q), .ro (u8s B)] (fun v _ => v = .bool true) fun _ _ => False := by
  have hmQ : m ≤ Q.length := by omega
  have hm4 : 4 * m ≤ 70368744177664 := by omega
  have hX : (encBs (Q.take m)).length = 4 * m := by rw [encBs_len, List.length_take, Nat.min_eq_left hmQ]
  have hT : List.take (4 * m) (u8s (encBs (Q.take m))) = u8s (encBs (Q.take m)) := List.take_of_length_le (by rw [u8s_len, hX]; exact Nat.le_refl _)
  have hm1 : ¬ 4 * m = 0 := by omega
  have g1 : 400 < (B.length : Int) := by omega
  have g2 : (400 : Int) ≤ c2 := by omega
  have g3 : ¬ (c2 : Int) = 0 := by omega
  have g4 : ¬ c2 = 0 := by omega
  have hnB : 0 + n ≤ B.length := by omega
  have hnc : n ≤ c2 := by omega
  have hn4 : n ≤ 400 := by omega
  have hnb : n ≤ 140737488355328 := by omega
  refine pc_of Tryd.func3 rfl (by decide) (by kernel_rfl) (by show 2 ≤ _; decide) (SW.of mixed _ _ _ ?_)
  subst hn
  simp -implicitDefEqProofs [g1, g2, g3, g4]
  refine PC.ke (few_pc _ 0 _ _ hc1) ?_
  simp -implicitDefEqProofs [hm]
  refine PCq.k (code_q (Q := Q) rfl hmQ hm4 hm0 hr hA) ?_
  simp -implicitDefEqProofs [hm]
  refine PC.ke (few_pc _ 0 _ _ hc1) ?_
  simp -implicitDefEqProofs [hm]
  refine PCq.k (codeR_q (Q := Q) rfl hmQ hm4 hm0 hr hA) ?_
  simp -implicitDefEqProofs [hm]
  refine PCq.k (readCode_qn (B := B) rfl (.inl rfl) hnB hnc hnb h4 hB) ?_
  simp -implicitDefEqProofs
  refine PCq.k (readCodeR_qn (B := B) rfl hnB hnc hn4 h4 hB) ?_
  simp -implicitDefEqProofs
  refine fnLive3.k ?_
  simp -implicitDefEqProofs [bytesOf_u8s, hT, hX, hm1]
  refine fnSameNil.k ?_
  simp -implicitDefEqProofs
theorem many_bad_nil (Q : List QV) (B : List UInt8) (c1 m : Nat) (hc1 : Q.length ≤ c1) (hr : ∀ q ∈ Q, QR q) (hm : min Q.length 60 = m) (hm0 : 0 < m) (hA : ¬ allQ Q m) : PC Tryd.prog 3 [.slice (some ⟨0, 0, none⟩) Q.length c1, .slice none 0 0] [.ro (rowQ Q), .ro (u8s B)] (fun v _ => v = .bool true) fun _ _ => False := by
  have hmQ : m ≤ Q.length := by omega
  have hm4 : 4 * m ≤ 70368744177664 := by omega
  refine pc_of Tryd.func3 rfl (by decide) (by kernel_rfl) (by show 2 ≤ _; decide) (SW.of mixed _ _ _ ?_)
  simp -implicitDefEqProofs
  refine PC.ke (few_pc _ 0 _ _ hc1) ?_
  simp -implicitDefEqProofs [hm]
  refine PCq.k (code_qn (Q := Q) rfl hmQ hm4 hr hA) ?_
  simp -implicitDefEqProofs [hm]
  refine PC.ke (few_pc _ 0 _ _ hc1) ?_
  simp -implicitDefEqProofs [hm]
  refine PCq.k (codeR_qn (Q := Q) rfl hmQ hm4 hr hA) ?_
  simp -implicitDefEqProofs [hm]
  refine PCq.k readNil_q ?_
  simp -implicitDefEqProofs
  refine fnReadRNil.k ?_
  simp -implicitDefEqProofs
  refine fnLive3.k ?_
  simp -implicitDefEqProofs 
  refine PCq.k (sameCode_q0 rfl rfl) ?_
  simp -implicitDefEqProofs
theorem many_bad_odd (Q : List QV) (B : List UInt8) (c1 m : Nat) (hc1 : Q.length ≤ c1) (hr : ∀ q ∈ Q, QR q) (hm : min Q.length 60 = m) (hm0 : 0 < m) (hA : ¬ allQ Q m) (c2 n : Nat) (hc2 : B.length ≤ c2) (hclip : ¬ 400 < B.length) (hn : n = B.length) (h4 : ¬ n % 4 = 0) : PC Tryd.prog 3 [.slice (some ⟨0, 0, none⟩) Q.length c1, .slice (some ⟨1, 0, none⟩) B.length c2] [.ro (rowQ Q), .ro (u8s B)] (fun v _ => v = .bool true) fun _ _ => False := by
  have hmQ : m ≤ Q.length := by omega
  have hm4 : 4 * m ≤ 70368744177664 := by omega
  have g1 : ¬ 400 < (B.length : Int) := by omega
  have hnB : 0 + n ≤ B.length := by omega
  have hnc : n ≤ c2 := by omega
  have hn4 : n ≤ 400 := by omega
  have hnb : n ≤ 140737488355328 := by omega
  refine pc_of Tryd.func3 rfl (by decide) (by kernel_rfl) (by show 2 ≤ _; decide) (SW.of mixed _ _ _ ?_)
  subst hn
  simp -implicitDefEqProofs [g1]
  refine PC.ke (few_pc _ 0 _ _ hc1) ?_
  simp -implicitDefEqProofs [hm]
  refine PCq.k (code_qn (Q := Q) rfl hmQ hm4 hr hA) ?_
  simp -implicitDefEqProofs [hm]
  refine PC.ke (few_pc _ 0 _ _ hc1) ?_
  simp -implicitDefEqProofs [hm]
  refine PCq.k (codeR_qn (Q := Q) rfl hmQ hm4 hr hA) ?_
  simp -implicitDefEqProofs [hm]
  refine PCq.k (readCode_qo (B := B) rfl h4) ?_
  simp -implicitDefEqProofs
  refine PCq.k (readCodeR_qo (B := B) rfl h4) ?_
  simp -implicitDefEqProofs
  refine fnLive3.k ?_
  simp -implicitDefEqProofs 
  refine fnSameNil.k ?_
  simp -implicitDefEqProofs
theorem many_bad_zero (Q : List QV) (B : List UInt8) (c1 m : Nat) (hc1 : Q.length ≤ c1) (hr : ∀ q ∈ Q, QR q) (hm : min Q.length 60 = m) (hm0 : 0 < m) (hA : ¬ allQ Q m) (c2 n : Nat) (hc2 : B.length ≤ c2) (hclip : ¬ 400 < B.length) (hn : n = B.length) (h4 : n % 4 = 0) (hk : n / 4 = 0) (hB : allB B 0 n) : PC Tryd.prog 3 [.slice (some ⟨0, 0, none⟩) Q.length c1, .slice (some ⟨1, 0, none⟩) B.length c2] [.ro (rowQ Q), .ro (u8s B)] (fun v _ => v = .bool true) fun _ _ => False := by
  have hmQ : m ≤ Q.length := by omega
  have hm4 : 4 * m ≤ 70368744177664 := by omega
  have g1 : ¬ 400 < (B.length : Int) := by omega
  have hnB : 0 + n ≤ B.length := by omega
  have hnc : n ≤ c2 := by omega
  have hn4 : n ≤ 400 := by omega
  have hnb : n ≤ 140737488355328 := by omega
  refine pc_of Tryd.func3 rfl (by decide) (by kernel_rfl) (by show 2 ≤ _; decide) (SW.of mixed _ _ _ ?_)
  subst hn
  simp -implicitDefEqProofs [g1]
  refine PC.ke (few_pc _ 0 _ _ hc1) ?_
  simp -implicitDefEqProofs [hm]
  refine PCq.k (code_qn (Q := Q) rfl hmQ hm4 hr hA) ?_
  simp -implicitDefEqProofs [hm]
  refine PC.ke (few_pc _ 0 _ _ hc1) ?_
  simp -implicitDefEqProofs [hm]
  refine PCq.k (codeR_qn (Q := Q) rfl hmQ hm4 hr hA) ?_
  simp -implicitDefEqProofs [hm]
  refine PCq.k (readCode_q (B := B) rfl (.inl rfl) hnB hnc hnb h4 hB) ?_
  simp -implicitDefEqProofs [hk]
  refine PCq.k (readCodeR_q0 (B := B) rfl hnB hnc hn4 h4 hk) ?_
  simp -implicitDefEqProofs
  refine fnLive3.k ?_
  simp -implicitDefEqProofs 
  refine PCq.k (sameCode_q0 rfl (rowQ_flat _)) ?_
  simp -implicitDefEqProofs
theorem many_bad_ok (Q : List QV) (B : List UInt8) (c1 m : Nat) (hc1 : Q.length ≤ c1) (hr : ∀ q ∈ Q, QR q) (hm : min Q.length 60 = m) (hm0 : 0 < m) (hA : ¬ allQ Q m) (c2 n : Nat) (hc2 : B.length ≤ c2) (hclip : ¬ 400 < B.length) (hn : n = B.length) (h4 : n % 4 = 0) (hk : 0 < n / 4) (hB : allB B 0 n) : PC Tryd.prog 3 [.slice (some ⟨0, 0, none⟩) Q.length c1, .slice (some ⟨1, 0, none⟩) B.length c2] [.ro (rowQ Q), .ro (u8s B)] (fun v _ => v = .bool true) fun _ _ => False := by
  have hmQ : m ≤ Q.length := by omega
  have hm4 : 4 * m ≤ 70368744177664 := by omega
  have g1 : ¬ 400 < (B.length : Int) := by omega
  have hnB : 0 + n ≤ B.length := by omega
  have hnc : n ≤ c2 := by omega
  have hn4 : n ≤ 400 := by omega
  have hnb : n ≤ 140737488355328 := by omega
  refine pc_of Tryd.func3 rfl (by decide) (by kernel_rfl) (by show 2 ≤ _; decide) (SW.of mixed _ _ _ ?_)
  subst hn
  simp -implicitDefEqProofs [g1]
  refine PC.ke (few_pc _ 0 _ _ hc1) ?_
  simp -implicitDefEqProofs [hm]
  refine PCq.k (code_qn (Q := Q) rfl hmQ hm4 hr hA) ?_
  simp -implicitDefEqProofs [hm]
  refine PC.ke (few_pc _ 0 _ _ hc1) ?_
  simp -implicitDefEqProofs [hm]
  refine PCq.k (codeR_qn (Q := Q) rfl hmQ hm4 hr hA) ?_
  simp -implicitDefEqProofs [hm]
  refine PCq.k (readCode_q (B := B) rfl (.inl rfl) hnB hnc hnb h4 hB) ?_
  simp -implicitDefEqProofs
  refine PCq.k (readCodeR_q (B := B) rfl hnB hnc hn4 h4 hk hB) ?_
  simp -implicitDefEqProofs
  refine fnLive3.k ?_
  simp -implicitDefEqProofs 
  refine PCq.k (sameCode_q (by decide) rfl rfl (by rw [qBs_len]; exact Nat.le_refl _) (by rw [qBs_len]; exact Nat.le_refl _) (fun _ _ _ _ => rfl) (by omega)) ?_
  simp -implicitDefEqProofs
theorem many_bad_ok_c (Q : List QV) (B : List UInt8) (c1 m : Nat) (hc1 : Q.length ≤ c1) (hr : ∀ q ∈ Q, QR q) (hm : min Q.length 60 = m) (hm0 : 0 < m) (hA : ¬ allQ Q m) (c2 n : Nat) (hc2 : B.length ≤ c2) (hclip : 400 < B.length) (hn : n = 400) (h4 : n % 4 = 0) (hk : 0 < n / 4) (hB : allB B 0 n) : PC Tryd.prog 3 [.slice (some ⟨0, 0, none⟩) Q.length c1, .slice (some ⟨1, 0, none⟩) B.length c2] [.ro (rowQ Q), .ro (u8s B)] (fun v _ => v = .bool true) fun _ _ => False := by
  have hmQ : m ≤ Q.length := by omega
  have hm4 : 4 * m ≤ 70368744177664 := by omega
  have g1 : 400 < (B.length : Int) := by omega
  have g2 : (400 : Int) ≤ c2 := by omega
  have g3 : ¬ (c2 : Int) = 0 := by omega
  have g4 : ¬ c2 = 0 := by omega
  have hnB : 0 + n ≤ B.length := by omega
  have hnc : n ≤ c2 := by omega
  have hn4 : n ≤ 400 := by omega
  have hnb : n ≤ 140737488355328 := by omega
  refine pc_of Tryd.func3 rfl (by decide) (by kernel_rfl) (by show 2 ≤ _; decide) (SW.of mixed _ _ _ ?_)
  subst hn
  simp -implicitDefEqProofs [g1, g2, g3, g4]
  refine PC.ke (few_pc _ 0 _ _ hc1) ?_
  simp -implicitDefEqProofs [hm]
  refine PCq.k (code_qn (Q := Q) rfl hmQ hm4 hr hA) ?_
  simp -implicitDefEqProofs [hm]
  refine PC.ke (few_pc _ 0 _ _ hc1) ?_
  simp -implicitDefEqProofs [hm]
  refine PCq.k (codeR_qn (Q := Q) rfl hmQ hm4 hr hA) ?_
  simp -implicitDefEqProofs [hm]
  refine PCq.k (readCode_q (B := B) rfl (.inl rfl) hnB hnc hnb h4 hB) ?_
  simp -implicitDefEqProofs
  refine PCq.k (readCodeR_q (B := B) rfl hnB hnc hn4 h4 hk hB) ?_
  simp -implicitDefEqProofs
  refine fnLive3.k ?_
  simp -implicitDefEqProofs 
  refine PCq.k (sameCode_q (by decide) rfl rfl (by rw [qBs_len]; exact Nat.le_refl _) (by rw [qBs_len]; exact Nat.le_refl _) (fun _ _ _ _ => rfl) (by omega)) ?_
  simp -implicitDefEqProofs
theorem many_bad_bad (Q : List QV) (B : List UInt8) (c1 m : Nat) (hc1 : Q.length ≤ c1) (hr : ∀ q ∈ Q, QR q) (hm : min Q.length 60 = m) (hm0 : 0 < m) (hA : ¬ allQ Q m) (c2 n : Nat) (hc2 : B.length ≤ c2) (hclip : ¬ 400 < B.length) (hn : n = B.length) (h4 : n % 4 = 0) (hB : ¬ allB B 0 n) : PC Tryd.prog 3 [.slice (some ⟨0, 0, none⟩) Q.length c1, .slice (some ⟨1, 0, none⟩) B.length c2] [.ro (rowQ Q), .ro (u8s B)] (fun v _ => v = .bool true) fun _ _ => False := by
  have hmQ : m ≤ Q.length := by omega
  have hm4 : 4 * m ≤ 70368744177664 := by omega
  have g1 : ¬ 400 < (B.length : Int) := by omega
  have hnB : 0 + n ≤ B.length := by omega
  have hnc : n ≤ c2 := by omega
  have hn4 : n ≤ 400 := by omega
  have hnb : n ≤ 140737488355328 := by omega
  refine pc_of Tryd.func3 rfl (by decide) (by kernel_rfl) (by show 2 ≤ _; decide) (SW.of mixed _ _ _ ?_)
  subst hn
  simp -implicitDefEqProofs [g1]
  refine PC.ke (few_pc _ 0 _ _ hc1) ?_
  simp -implicitDefEqProofs [hm]
  refine PCq.k (code_qn (Q := Q) rfl hmQ hm4 hr hA) ?_
  simp -implicitDefEqProofs [hm]
  refine PC.ke (few_pc _ 0 _ _ hc1) ?_
  simp -implicitDefEqProofs [hm]
  refine PCq.k (codeR_qn (Q := Q) rfl hmQ hm4 hr hA) ?_
  simp -implicitDefEqProofs [hm]
  refine PCq.k (readCode_qn (B := B) rfl (.inl rfl) hnB hnc hnb h4 hB) ?_
  simp -implicitDefEqProofs
  refine PCq.k (readCodeR_qn (B := B) rfl hnB hnc hn4 h4 hB) ?_
  simp -implicitDefEqProofs
  refine fnLive3.k ?_
  simp -implicitDefEqProofs 
  refine fnSameNil.k ?_
  simp -implicitDefEqProofs
theorem many_bad_bad_c (Q : List QV) (B : List UInt8) (c1 m : Nat) (hc1 : Q.length ≤ c1) (hr : ∀ q ∈ Q, QR q) (hm : min Q.length 60 = m) (hm0 : 0 < m) (hA : ¬ allQ Q m) (c2 n : Nat) (hc2 : B.length ≤ c2) (hclip : 400 < B.length) (hn : n = 400) (h4 : n % 4 = 0) (hB : ¬ allB B 0 n) : PC Tryd.prog 3 [.slice (some ⟨0, 0, none⟩) Q.length c1, .slice (some ⟨1, 0, none⟩) B.length c2] [.ro (rowQ Q), .ro (u8s B)] (fun v _ => v = .bool true) fun _ _ => False := by
  have hmQ : m ≤ Q.length := by omega
  have hm4 : 4 * m ≤ 70368744177664 := by omega
  have g1 : 400 < (B.length : Int) := by omega
  have g2 : (400 : Int) ≤ c2 := by omega
  have g3 : ¬ (c2 : Int) = 0 := by omega
  have g4 : ¬ c2 = 0 := by omega
  have hnB : 0 + n ≤ B.length := by omega
  have hnc : n ≤ c2 := by omega
  have hn4 : n ≤ 400 := by omega
  have hnb : n ≤ 140737488355328 := by omega
  refine pc_of Tryd.func3 rfl (by decide) (by kernel_rfl) (by show 2 ≤ _; decide) (SW.of mixed _ _ _ ?_)
  subst hn
  simp -implicitDefEqProofs [g1, g2, g3, g4]
  refine PC.ke (few_pc _ 0 _ _ hc1) ?_
  simp -implicitDefEqProofs [hm]
  refine PCq.k (code_qn (Q := Q) rfl hmQ hm4 hr hA) ?_
  simp -implicitDefEqProofs [hm]
  refine PC.ke (few_pc _ 0 _ _ hc1) ?_
  simp -implicitDefEqProofs [hm]
  refine PCq.k (codeR_qn (Q := Q) rfl hmQ hm4 hr hA) ?_
  simp -implicitDefEqProofs [hm]
  refine PCq.k (readCode_qn (B := B) rfl (.inl rfl) hnB hnc hnb h4 hB) ?_
  simp -implicitDefEqProofs
  refine PCq.k (readCodeR_qn (B := B) rfl hnB hnc hn4 h4 hB) ?_
  simp -implicitDefEqProofs
  refine fnLive3.k ?_
  simp -implicitDefEqProofs 
  refine fnSameNil.k ?_
  simp -implicitDefEqProofs
end Go.Proofs.YtjopikjefpenkaaDoor

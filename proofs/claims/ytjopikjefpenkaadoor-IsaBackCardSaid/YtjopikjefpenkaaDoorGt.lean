/- WHAT IS READ OF WHAT WAS WRITTEN IS IT, as bytes and as text: the law. -/
import Derived.Test.YtjopikjefpenkaaDoorGm
import Derived.Test.YtjopikjefpenkaaDoorGo
import Derived.Test.YtjopikjefpenkaaDoorGh
import Derived.Test.YtjopikjefpenkaaDoorGi
set_option linter.unusedSimpArgs false
set_option linter.unusedVariables false
set_option linter.unusedSectionVars false
namespace Go.Proofs.YtjopikjefpenkaaDoor
open Go.RowKit
set_option maxRecDepth 100000
set_option linter.unusedSimpArgs false
set_option maxHeartbeats 16000000
theorem back_nil_nil (Q : List QV) (B : List UInt8) : PC Tryd.prog 4 [.slice none 0 0, .slice none 0 0] [.ro (rowQ Q), .ro (u8s B)] (fun v _ => v = .bool true) fun _ _ => False := by
  refine pc_of Tryd.func4 rfl (by decide) (by kernel_rfl) (by show 2 ≤ _; decide) (SW.of mixed _ _ _ ?_)
  simp -implicitDefEqProofs
  refine PC.ke (few_nil _) ?_
  simp -implicitDefEqProofs
  refine fnCodeNil.k ?_
  simp -implicitDefEqProofs
  refine PCq.k readNil_q ?_
  simp -implicitDefEqProofs
  refine PC.ke (few_nil _) ?_
  simp -implicitDefEqProofs
  refine PCq.k (sameCode_q0 rfl rfl) ?_
  simp -implicitDefEqProofs
  refine pwp_rounds 1 ?_
  rw [Rounds_succ]
  simp -implicitDefEqProofs
  refine PC.ke (few_nil _) ?_
  simp -implicitDefEqProofs
  refine PCq.k readNil_q ?_
  simp -implicitDefEqProofs
  refine PCq.k (code_q0 (Q := []) rfl (by simp)) ?_
  simp -implicitDefEqProofs
  refine fnLive3.k ?_
  simp -implicitDefEqProofs
theorem back_nil_odd (Q : List QV) (B : List UInt8) (c2 : Nat) (hc2 : B.length ≤ c2) (hnb : B.length ≤ 140737488355328) (h4 : ¬ B.length % 4 = 0) : PC Tryd.prog 4 [.slice none 0 0, .slice (some ⟨1, 0, none⟩) B.length c2] [.ro (rowQ Q), .ro (u8s B)] (fun v _ => v = .bool true) fun _ _ => False := by
  refine pc_of Tryd.func4 rfl (by decide) (by kernel_rfl) (by show 2 ≤ _; decide) (SW.of mixed _ _ _ ?_)
  simp -implicitDefEqProofs
  refine PC.ke (few_nil _) ?_
  simp -implicitDefEqProofs
  refine fnCodeNil.k ?_
  simp -implicitDefEqProofs
  refine PCq.k readNil_q ?_
  simp -implicitDefEqProofs
  refine PC.ke (few_nil _) ?_
  simp -implicitDefEqProofs
  refine PCq.k (sameCode_q0 rfl rfl) ?_
  simp -implicitDefEqProofs
  refine pwp_rounds 1 ?_
  rw [Rounds_succ]
  simp -implicitDefEqProofs
  refine PC.ke (few_nil _) ?_
  simp -implicitDefEqProofs
  refine PCq.k (readCode_qo (B := B) rfl h4) ?_
  simp -implicitDefEqProofs
  refine fnLive3.k ?_
  simp -implicitDefEqProofs
theorem back_nil_zero (Q : List QV) (B : List UInt8) (c2 : Nat) (hc2 : B.length ≤ c2) (hnb : B.length ≤ 140737488355328) (h4 : B.length % 4 = 0) (hk : B.length / 4 = 0) (hB : allB B 0 B.length) : PC Tryd.prog 4 [.slice none 0 0, .slice (some ⟨1, 0, none⟩) B.length c2] [.ro (rowQ Q), .ro (u8s B)] (fun v _ => v = .bool true) fun _ _ => False := by
  have hn0 : B.length = 0 := by omega
  refine pc_of Tryd.func4 rfl (by decide) (by kernel_rfl) (by show 2 ≤ _; decide) (SW.of mixed _ _ _ ?_)
  simp -implicitDefEqProofs
  refine PC.ke (few_nil _) ?_
  simp -implicitDefEqProofs
  refine fnCodeNil.k ?_
  simp -implicitDefEqProofs
  refine PCq.k readNil_q ?_
  simp -implicitDefEqProofs
  refine PC.ke (few_nil _) ?_
  simp -implicitDefEqProofs
  refine PCq.k (sameCode_q0 rfl rfl) ?_
  simp -implicitDefEqProofs
  refine pwp_rounds 1 ?_
  rw [Rounds_succ]
  simp -implicitDefEqProofs
  refine PC.ke (few_nil _) ?_
  simp -implicitDefEqProofs
  refine PCq.k (readCode_q (B := B) rfl (.inl rfl) (by omega) hc2 hnb h4 hB) ?_
  simp -implicitDefEqProofs [hk]
  refine PCq.k (code_q0 (Q := qBs B 0 0) (by simp [hcells, hk]) (qBs_rng B 0)) ?_
  simp -implicitDefEqProofs
  refine fnLive3.k ?_
  simp -implicitDefEqProofs [hn0]
theorem back_nil_ok (Q : List QV) (B : List UInt8) (c2 : Nat) (hc2 : B.length ≤ c2) (hnb : B.length ≤ 140737488355328) (h4 : B.length % 4 = 0) (hk : 0 < B.length / 4) (hB : allB B 0 B.length) : PC Tryd.prog 4 [.slice none 0 0, .slice (some ⟨1, 0, none⟩) B.length c2] [.ro (rowQ Q), .ro (u8s B)] (fun v _ => v = .bool true) fun _ _ => False := by
  have hd : 4 * (B.length / 4) = B.length := by omega
  have hX : encBs ((qBs B 0 (B.length / 4)).take (B.length / 4)) = B := by
    rw [List.take_of_length_le (by rw [qBs_len]; exact Nat.le_refl _), encBs_qBs B _ (by omega), hd, List.take_of_length_le (Nat.le_refl _)]
  have hT : List.take (4 * (B.length / 4)) (u8s B) = u8s B := List.take_of_length_le (by rw [u8s_len]; omega)
  have hT2 : List.take B.length (u8s B) = u8s B := List.take_of_length_le (by rw [u8s_len]; exact Nat.le_refl _)
  have hle4 : 4 * (B.length / 4) ≤ B.length := by omega
  have hn1 : ¬ B.length = 0 := by omega
  have hn2 : ¬ 4 * (B.length / 4) = 0 := by omega
  refine pc_of Tryd.func4 rfl (by decide) (by kernel_rfl) (by show 2 ≤ _; decide) (SW.of mixed _ _ _ ?_)
  simp -implicitDefEqProofs
  refine PC.ke (few_nil _) ?_
  simp -implicitDefEqProofs
  refine fnCodeNil.k ?_
  simp -implicitDefEqProofs
  refine PCq.k readNil_q ?_
  simp -implicitDefEqProofs
  refine PC.ke (few_nil _) ?_
  simp -implicitDefEqProofs
  refine PCq.k (sameCode_q0 rfl rfl) ?_
  simp -implicitDefEqProofs
  refine pwp_rounds 1 ?_
  rw [Rounds_succ]
  simp -implicitDefEqProofs
  refine PC.ke (few_nil _) ?_
  simp -implicitDefEqProofs
  refine PCq.k (readCode_q (B := B) rfl (.inl rfl) (by omega) hc2 hnb h4 hB) ?_
  simp -implicitDefEqProofs
  refine PCq.k (code_q (Q := qBs B 0 (B.length / 4)) rfl (by rw [qBs_len]; exact Nat.le_refl _) (by omega) hk (qBs_rng B _) (allQ_qBs hB)) ?_
  simp -implicitDefEqProofs [hX]
  refine fnLive3.k ?_
  simp -implicitDefEqProofs [bytesOf_u8s, hT, hT2, hd, hn1, hn2, hle4]
theorem back_nil_bad (Q : List QV) (B : List UInt8) (c2 : Nat) (hc2 : B.length ≤ c2) (hnb : B.length ≤ 140737488355328) (h4 : B.length % 4 = 0) (hB : ¬ allB B 0 B.length) : PC Tryd.prog 4 [.slice none 0 0, .slice (some ⟨1, 0, none⟩) B.length c2] [.ro (rowQ Q), .ro (u8s B)] (fun v _ => v = .bool true) fun _ _ => False := by
  refine pc_of Tryd.func4 rfl (by decide) (by kernel_rfl) (by show 2 ≤ _; decide) (SW.of mixed _ _ _ ?_)
  simp -implicitDefEqProofs
  refine PC.ke (few_nil _) ?_
  simp -implicitDefEqProofs
  refine fnCodeNil.k ?_
  simp -implicitDefEqProofs
  refine PCq.k readNil_q ?_
  simp -implicitDefEqProofs
  refine PC.ke (few_nil _) ?_
  simp -implicitDefEqProofs
  refine PCq.k (sameCode_q0 rfl rfl) ?_
  simp -implicitDefEqProofs
  refine pwp_rounds 1 ?_
  rw [Rounds_succ]
  simp -implicitDefEqProofs
  refine PC.ke (few_nil _) ?_
  simp -implicitDefEqProofs
  refine PCq.k (readCode_qn (B := B) rfl (.inl rfl) (by omega) hc2 hnb h4 hB) ?_
  simp -implicitDefEqProofs
  refine fnLive3.k ?_
  simp -implicitDefEqProofs
theorem back_zero_nil (Q : List QV) (B : List UInt8) (c1 m : Nat) (hc1 : Q.length ≤ c1) (hr : ∀ q ∈ Q, QR q) (hm : min Q.length 60 = m) (hm0 : m = 0) : PC Tryd.prog 4 [.slice (some ⟨0, 0, none⟩) Q.length c1, .slice none 0 0] [.ro (rowQ Q), .ro (u8s B)] (fun v _ => v = .bool true) fun _ _ => False := by
  subst hm0
  refine pc_of Tryd.func4 rfl (by decide) (by kernel_rfl) (by show 2 ≤ _; decide) (SW.of mixed _ _ _ ?_)
  simp -implicitDefEqProofs
  refine PC.ke (few_pc _ 0 _ _ hc1) ?_
  simp -implicitDefEqProofs [hm]
  refine PCq.k (code_q0 (Q := Q) rfl hr) ?_
  simp -implicitDefEqProofs
  refine PCq.k readNil_q ?_
  simp -implicitDefEqProofs
  refine PC.ke (few_pc _ 0 _ _ hc1) ?_
  simp -implicitDefEqProofs [hm]
  refine PCq.k (sameCode_q (Q := []) (R := Q) (by decide) rfl rfl (Nat.zero_le _) (Nat.zero_le _) (fun _ h => by simp at h) (by decide)) ?_
  simp -implicitDefEqProofs
  refine pwp_rounds 1 ?_
  rw [Rounds_succ]
  simp -implicitDefEqProofs
  refine PC.ke (few_pc _ 0 _ _ hc1) ?_
  simp -implicitDefEqProofs [hm]
  refine PCq.k readNil_q ?_
  simp -implicitDefEqProofs
  refine PCq.k (code_q0 (Q := []) rfl (by simp)) ?_
  simp -implicitDefEqProofs
  refine fnLive3.k ?_
  simp -implicitDefEqProofs
theorem back_zero_odd (Q : List QV) (B : List UInt8) (c1 m : Nat) (hc1 : Q.length ≤ c1) (hr : ∀ q ∈ Q, QR q) (hm : min Q.length 60 = m) (hm0 : m = 0) (c2 : Nat) (hc2 : B.length ≤ c2) (hnb : B.length ≤ 140737488355328) (h4 : ¬ B.length % 4 = 0) : PC Tryd.prog 4 [.slice (some ⟨0, 0, none⟩) Q.length c1, .slice (some ⟨1, 0, none⟩) B.length c2] [.ro (rowQ Q), .ro (u8s B)] (fun v _ => v = .bool true) fun _ _ => False := by
  subst hm0
  refine pc_of Tryd.func4 rfl (by decide) (by kernel_rfl) (by show 2 ≤ _; decide) (SW.of mixed _ _ _ ?_)
  simp -implicitDefEqProofs
  refine PC.ke (few_pc _ 0 _ _ hc1) ?_
  simp -implicitDefEqProofs [hm]
  refine PCq.k (code_q0 (Q := Q) rfl hr) ?_
  simp -implicitDefEqProofs
  refine PCq.k readNil_q ?_
  simp -implicitDefEqProofs
  refine PC.ke (few_pc _ 0 _ _ hc1) ?_
  simp -implicitDefEqProofs [hm]
  refine PCq.k (sameCode_q (Q := []) (R := Q) (by decide) rfl rfl (Nat.zero_le _) (Nat.zero_le _) (fun _ h => by simp at h) (by decide)) ?_
  simp -implicitDefEqProofs
  refine pwp_rounds 1 ?_
  rw [Rounds_succ]
  simp -implicitDefEqProofs
  refine PC.ke (few_pc _ 0 _ _ hc1) ?_
  simp -implicitDefEqProofs [hm]
  refine PCq.k (readCode_qo (B := B) rfl h4) ?_
  simp -implicitDefEqProofs
  refine fnLive3.k ?_
  simp -implicitDefEqProofs
theorem back_zero_zero (Q : List QV) (B : List UInt8) (c1 m : Nat) (hc1 : Q.length ≤ c1) (hr : ∀ q ∈ Q, QR q) (hm : min Q.length 60 = m) (hm0 : m = 0) (c2 : Nat) (hc2 : B.length ≤ c2) (hnb : B.length ≤ 140737488355328) (h4 : B.length % 4 = 0) (hk : B.length / 4 = 0) (hB : allB B 0 B.length) : PC Tryd.prog 4 [.slice (some ⟨0, 0, none⟩) Q.length c1, .slice (some ⟨1, 0, none⟩) B.length c2] [.ro (rowQ Q), .ro (u8s B)] (fun v _ => v = .bool true) fun _ _ => False := by
  subst hm0
  have hn0 : B.length = 0 := by omega
  refine pc_of Tryd.func4 rfl (by decide) (by kernel_rfl) (by show 2 ≤ _; decide) (SW.of mixed _ _ _ ?_)
  simp -implicitDefEqProofs
  refine PC.ke (few_pc _ 0 _ _ hc1) ?_
  simp -implicitDefEqProofs [hm]
  refine PCq.k (code_q0 (Q := Q) rfl hr) ?_
  simp -implicitDefEqProofs
  refine PCq.k readNil_q ?_
  simp -implicitDefEqProofs
  refine PC.ke (few_pc _ 0 _ _ hc1) ?_
  simp -implicitDefEqProofs [hm]
  refine PCq.k (sameCode_q (Q := []) (R := Q) (by decide) rfl rfl (Nat.zero_le _) (Nat.zero_le _) (fun _ h => by simp at h) (by decide)) ?_
  simp -implicitDefEqProofs
  refine pwp_rounds 1 ?_
  rw [Rounds_succ]
  simp -implicitDefEqProofs
  refine PC.ke (few_pc _ 0 _ _ hc1) ?_
  simp -implicitDefEqProofs [hm]
  refine PCq.k (readCode_q (B := B) rfl (.inl rfl) (by omega) hc2 hnb h4 hB) ?_
  simp -implicitDefEqProofs [hk]
  refine PCq.k (code_q0 (Q := qBs B 0 0) (by simp [hcells, hk]) (qBs_rng B 0)) ?_
  simp -implicitDefEqProofs
  refine fnLive3.k ?_
  simp -implicitDefEqProofs [hn0]
theorem back_zero_ok (Q : List QV) (B : List UInt8) (c1 m : Nat) (hc1 : Q.length ≤ c1) (hr : ∀ q ∈ Q, QR q) (hm : min Q.length 60 = m) (hm0 : m = 0) (c2 : Nat) (hc2 : B.length ≤ c2) (hnb : B.length ≤ 140737488355328) (h4 : B.length % 4 = 0) (hk : 0 < B.length / 4) (hB : allB B 0 B.length) : PC Tryd.prog 4 [.slice (some ⟨0, 0, none⟩) Q.length c1, .slice (some ⟨1, 0, none⟩) B.length c2] [.ro (rowQ Q), .ro (u8s B)] (fun v _ => v = .bool true) fun _ _ => False := by
  subst hm0
  have hd : 4 * (B.length / 4) = B.length := by omega
  have hX : encBs ((qBs B 0 (B.length / 4)).take (B.length / 4)) = B := by
    rw [List.take_of_length_le (by rw [qBs_len]; exact Nat.le_refl _), encBs_qBs B _ (by omega), hd, List.take_of_length_le (Nat.le_refl _)]
  have hT : List.take (4 * (B.length / 4)) (u8s B) = u8s B := List.take_of_length_le (by rw [u8s_len]; omega)
  have hT2 : List.take B.length (u8s B) = u8s B := List.take_of_length_le (by rw [u8s_len]; exact Nat.le_refl _)
  have hle4 : 4 * (B.length / 4) ≤ B.length := by omega
  have hn1 : ¬ B.length = 0 := by omega
  have hn2 : ¬ 4 * (B.length / 4) = 0 := by omega
  refine pc_of Tryd.func4 rfl (by decide) (by kernel_rfl) (by show 2 ≤ _; decide) (SW.of mixed _ _ _ ?_)
  simp -implicitDefEqProofs
  refine PC.ke (few_pc _ 0 _ _ hc1) ?_
  simp -implicitDefEqProofs [hm]
  refine PCq.k (code_q0 (Q := Q) rfl hr) ?_
  simp -implicitDefEqProofs
  refine PCq.k readNil_q ?_
  simp -implicitDefEqProofs
  refine PC.ke (few_pc _ 0 _ _ hc1) ?_
  simp -implicitDefEqProofs [hm]
  refine PCq.k (sameCode_q (Q := []) (R := Q) (by decide) rfl rfl (Nat.zero_le _) (Nat.zero_le _) (fun _ h => by simp at h) (by decide)) ?_
  simp -implicitDefEqProofs
  refine pwp_rounds 1 ?_
  rw [Rounds_succ]
  simp -implicitDefEqProofs
  refine PC.ke (few_pc _ 0 _ _ hc1) ?_
  simp -implicitDefEqProofs [hm]
  refine PCq.k (readCode_q (B := B) rfl (.inl rfl) (by omega) hc2 hnb h4 hB) ?_
  simp -implicitDefEqProofs
  refine PCq.k (code_q (Q := qBs B 0 (B.length / 4)) rfl (by rw [qBs_len]; exact Nat.le_refl _) (by omega) hk (qBs_rng B _) (allQ_qBs hB)) ?_
  simp -implicitDefEqProofs [hX]
  refine fnLive3.k ?_
  simp -implicitDefEqProofs [bytesOf_u8s, hT, hT2, hd, hn1, hn2, hle4]
theorem back_zero_bad (Q : List QV) (B : List UInt8) (c1 m : Nat) (hc1 : Q.length ≤ c1) (hr : ∀ q ∈ Q, QR q) (hm : min Q.length 60 = m) (hm0 : m = 0) (c2 : Nat) (hc2 : B.length ≤ c2) (hnb : B.length ≤ 140737488355328) (h4 : B.length % 4 = 0) (hB : ¬ allB B 0 B.length) : PC Tryd.prog 4 [.slice (some ⟨0, 0, none⟩) Q.length c1, .slice (some ⟨1, 0, none⟩) B.length c2] [.ro (rowQ Q), .ro (u8s B)] (fun v _ => v = .bool true) fun _ _ => False := by
  subst hm0
  refine pc_of Tryd.func4 rfl (by decide) (by kernel_rfl) (by show 2 ≤ _; decide) (SW.of mixed _ _ _ ?_)
  simp -implicitDefEqProofs
  refine PC.ke (few_pc _ 0 _ _ hc1) ?_
  simp -implicitDefEqProofs [hm]
  refine PCq.k (code_q0 (Q := Q) rfl hr) ?_
  simp -implicitDefEqProofs
  refine PCq.k readNil_q ?_
  simp -implicitDefEqProofs
  refine PC.ke (few_pc _ 0 _ _ hc1) ?_
  simp -implicitDefEqProofs [hm]
  refine PCq.k (sameCode_q (Q := []) (R := Q) (by decide) rfl rfl (Nat.zero_le _) (Nat.zero_le _) (fun _ h => by simp at h) (by decide)) ?_
  simp -implicitDefEqProofs
  refine pwp_rounds 1 ?_
  rw [Rounds_succ]
  simp -implicitDefEqProofs
  refine PC.ke (few_pc _ 0 _ _ hc1) ?_
  simp -implicitDefEqProofs [hm]
  refine PCq.k (readCode_qn (B := B) rfl (.inl rfl) (by omega) hc2 hnb h4 hB) ?_
  simp -implicitDefEqProofs
  refine fnLive3.k ?_
  simp -implicitDefEqProofs
theorem back_ok_nil (Q : List QV) (B : List UInt8) (c1 m : Nat) (hc1 : Q.length ≤ c1) (hr : ∀ q ∈ Q, QR q) (hm : min Q.length 60 = m) (hm0 : 0 < m) (hA : allQ Q m) : PC Tryd.prog 4 [.slice (some ⟨0, 0, none⟩) Q.length c1, .slice none 0 0] [.ro (rowQ Q), .ro (u8s B)] (fun v _ => v = .bool true) fun _ _ => False := by
  have hmQ : m ≤ Q.length := by omega
  have hm4 : 4 * m ≤ 140737488355328 := by omega
  have htl : (Q.take m).length = m := by rw [List.length_take, Nat.min_eq_left hmQ]
  have hX0 : (encBs (Q.take m)).length = 4 * m := by rw [encBs_len, htl]
  have hrt : ∀ q ∈ Q.take m, QR q := fun q hq => hr q (List.mem_of_mem_take hq)
  have hAt : allQ (Q.take m) (Q.take m).length := fun i hi _ => by rw [List.getElem_take]; exact hA i (by omega) (by omega)
  have hAB : allB (encBs (Q.take m)) 0 (4 * m) := by have := allB_enc hrt hAt; rwa [htl] at this
  have hd4 : 4 * m / 4 = m := by omega
  have hsm : ∀ i (h : i < (qBs (encBs (Q.take m)) 0 m).length) (h' : i < Q.length), i < m → (qBs (encBs (Q.take m)) 0 m)[i] = Q[i] := fun i h h' hi => by
    rw [qBs_get, qB_enc (by omega) (hrt _ (List.getElem_mem (by omega))) (hAt i (by omega) (by omega)), List.getElem_take]
  refine pc_of Tryd.func4 rfl (by decide) (by kernel_rfl) (by show 2 ≤ _; decide) (SW.of mixed _ _ _ ?_)
  simp -implicitDefEqProofs
  refine PC.ke (few_pc _ 0 _ _ hc1) ?_
  simp -implicitDefEqProofs [hm]
  refine PCq.k (code_q (Q := Q) rfl hmQ hm4 hm0 hr hA) ?_
  simp -implicitDefEqProofs
  refine PCq.k (readCode_q (B := encBs (Q.take m)) rfl (.inr ⟨rfl, rfl⟩) (by omega) (Nat.le_refl _) (by omega) (by omega) hAB) ?_
  simp -implicitDefEqProofs [hd4]
  refine PC.ke (few_pc _ 0 _ _ hc1) ?_
  simp -implicitDefEqProofs [hm]
  refine PCq.k (sameCode_q (Q := qBs (encBs (Q.take m)) 0 m) (R := Q) (by decide) (by simp [hcells, hd4]) rfl (by rw [qBs_len]; exact Nat.le_refl _) hmQ hsm (by omega)) ?_
  simp -implicitDefEqProofs
  refine pwp_loop_st (fun i : Nat => ⟨[(9, .int .i64 (i : Int)), (0, .slice (some ⟨0, 0, none⟩) Q.length c1), (1, .slice none 0 0), (4, .bool false)], [.ro (rowQ Q), .ro (u8s B)]⟩) (fun i => m - i) (fun i => i ≤ m) 0 [0, 1] (Nat.zero_le _) (Sub.mk' (by decide) (by simp [preOk]) ?_ ?_) ?_
  · simp -implicitDefEqProofs
    exact ⟨RNs.all (d := 6) (rowQ_flat Q), RNs.all (d := 6) (u8s_flat B)⟩
  · simp -implicitDefEqProofs
  rintro i hi
  simp -implicitDefEqProofs
  refine PC.ke (few_pc _ 0 _ _ hc1) ?_
  simp -implicitDefEqProofs [hm]
  by_cases hlt : i < m
  · have h1 : (i : Int) < m := by omega
    have hiQ : i < Q.length := by omega
    have hiQ2 : (i : Int) < Q.length := by omega
    have hget := rowQ_get Q i hiQ
    have hl4 := rowQ_len Q
    have hl5 : i * 4 + 4 ≤ (rowQ Q).length := by omega
    have hq2 : QR Q[i] := hr _ (List.getElem_mem hiQ)
    generalize Q[i] = q at *
    obtain ⟨o, a, b, n0⟩ := q
    obtain ⟨g0, g1, g2, g3, g4⟩ := hq2
    simp only at g0 g1 g2 g3 g4
    have w1 : IntKind.i64.wrap ((i : Int) + 1) = (i : Int) + 1 := by rw [IntKind.wrap_i64]; omega
    unfold cI at hget
    simp -implicitDefEqProofs [h1, hlt, hiQ, hiQ2, hget, hl5]
    have hagain : ∀ (e : Env) (h : List PO), e.get 9 = some (.int .i64 ((i : Int) + 1)) → e.get 0 = some (.slice (some ⟨0, 0, none⟩) Q.length c1) → e.get 1 = some (.slice none 0 0) → e.get 4 = some (.bool false) → h[0]? = some (.ro (rowQ Q)) → h[1]? = some (.ro (u8s B)) → Again 2 (fun i : Nat => ⟨[(9, .int .i64 (i : Int)), (0, .slice (some ⟨0, 0, none⟩) Q.length c1), (1, .slice none 0 0), (4, .bool false)], [.ro (rowQ Q), .ro (u8s B)]⟩) (fun i => m - i) (fun i => i ≤ m) (m - i) ⟨e, h⟩ := fun e h k1 k2 k3 k4 k5 k6 => by
      refine Again.mk (i + 1) [0, 1] (show m - (i + 1) < m - i by omega) hlt (Sub.mk' (by decide) (by simp [preOk]) ?_ ?_)
      · simp -implicitDefEqProofs [k5, k6]
        exact ⟨RNs.all (d := 6) (rowQ_flat Q), RNs.all (d := 6) (u8s_flat B)⟩
      · simp -implicitDefEqProofs [k1, k2, k3, k4]
    by_cases ok : okF o a b n0
    · obtain ⟨on, rfl⟩ := Int.eq_ofNat_of_zero_le g0
      refine (fnPrint on a b n0 g1 g2 g3 g4 ok).k ?_
      simp -implicitDefEqProofs
      refine (fnParsePrint on a b n0 g1 g2 g3 g4 ok).k ?_
      simp -implicitDefEqProofs [insV]
      refine pdk_at [] (by kernel_rfl) ?_
      simp -implicitDefEqProofs [hiQ, hiQ2, hget, hl5, insEq, insSame, w1]
      exact hagain _ _ (by simp) (by simp) (by simp) (by simp) rfl rfl
    · refine (fnPrint_bad o a b n0 g0 ok).k ?_
      simp -implicitDefEqProofs [w1]
      exact hagain _ _ (by simp) (by simp) (by simp) (by simp) rfl rfl
  · obtain rfl : i = m := by omega
    simp -implicitDefEqProofs [hlt]
    refine PCq.k readNil_q ?_
    simp -implicitDefEqProofs
    refine PCq.k (code_q0 (Q := []) rfl (by simp)) ?_
    simp -implicitDefEqProofs
    refine fnLive3.k ?_
    simp -implicitDefEqProofs
theorem back_ok_odd (Q : List QV) (B : List UInt8) (c1 m : Nat) (hc1 : Q.length ≤ c1) (hr : ∀ q ∈ Q, QR q) (hm : min Q.length 60 = m) (hm0 : 0 < m) (hA : allQ Q m) (c2 : Nat) (hc2 : B.length ≤ c2) (hnb : B.length ≤ 140737488355328) (h4 : ¬ B.length % 4 = 0) : PC Tryd.prog 4 [.slice (some ⟨0, 0, none⟩) Q.length c1, .slice (some ⟨1, 0, none⟩) B.length c2] [.ro (rowQ Q), .ro (u8s B)] (fun v _ => v = .bool true) fun _ _ => False := by
  have hmQ : m ≤ Q.length := by omega
  have hm4 : 4 * m ≤ 140737488355328 := by omega
  have htl : (Q.take m).length = m := by rw [List.length_take, Nat.min_eq_left hmQ]
  have hX0 : (encBs (Q.take m)).length = 4 * m := by rw [encBs_len, htl]
  have hrt : ∀ q ∈ Q.take m, QR q := fun q hq => hr q (List.mem_of_mem_take hq)
  have hAt : allQ (Q.take m) (Q.take m).length := fun i hi _ => by rw [List.getElem_take]; exact hA i (by omega) (by omega)
  have hAB : allB (encBs (Q.take m)) 0 (4 * m) := by have := allB_enc hrt hAt; rwa [htl] at this
  have hd4 : 4 * m / 4 = m := by omega
  have hsm : ∀ i (h : i < (qBs (encBs (Q.take m)) 0 m).length) (h' : i < Q.length), i < m → (qBs (encBs (Q.take m)) 0 m)[i] = Q[i] := fun i h h' hi => by
    rw [qBs_get, qB_enc (by omega) (hrt _ (List.getElem_mem (by omega))) (hAt i (by omega) (by omega)), List.getElem_take]
  refine pc_of Tryd.func4 rfl (by decide) (by kernel_rfl) (by show 2 ≤ _; decide) (SW.of mixed _ _ _ ?_)
  simp -implicitDefEqProofs
  refine PC.ke (few_pc _ 0 _ _ hc1) ?_
  simp -implicitDefEqProofs [hm]
  refine PCq.k (code_q (Q := Q) rfl hmQ hm4 hm0 hr hA) ?_
  simp -implicitDefEqProofs
  refine PCq.k (readCode_q (B := encBs (Q.take m)) rfl (.inr ⟨rfl, rfl⟩) (by omega) (Nat.le_refl _) (by omega) (by omega) hAB) ?_
  simp -implicitDefEqProofs [hd4]
  refine PC.ke (few_pc _ 0 _ _ hc1) ?_
  simp -implicitDefEqProofs [hm]
  refine PCq.k (sameCode_q (Q := qBs (encBs (Q.take m)) 0 m) (R := Q) (by decide) (by simp [hcells, hd4]) rfl (by rw [qBs_len]; exact Nat.le_refl _) hmQ hsm (by omega)) ?_
  simp -implicitDefEqProofs
  refine pwp_loop_st (fun i : Nat => ⟨[(9, .int .i64 (i : Int)), (0, .slice (some ⟨0, 0, none⟩) Q.length c1), (1, .slice (some ⟨1, 0, none⟩) B.length c2), (4, .bool false)], [.ro (rowQ Q), .ro (u8s B)]⟩) (fun i => m - i) (fun i => i ≤ m) 0 [0, 1] (Nat.zero_le _) (Sub.mk' (by decide) (by simp [preOk]) ?_ ?_) ?_
  · simp -implicitDefEqProofs
    exact ⟨RNs.all (d := 6) (rowQ_flat Q), RNs.all (d := 6) (u8s_flat B)⟩
  · simp -implicitDefEqProofs
  rintro i hi
  simp -implicitDefEqProofs
  refine PC.ke (few_pc _ 0 _ _ hc1) ?_
  simp -implicitDefEqProofs [hm]
  by_cases hlt : i < m
  · have h1 : (i : Int) < m := by omega
    have hiQ : i < Q.length := by omega
    have hiQ2 : (i : Int) < Q.length := by omega
    have hget := rowQ_get Q i hiQ
    have hl4 := rowQ_len Q
    have hl5 : i * 4 + 4 ≤ (rowQ Q).length := by omega
    have hq2 : QR Q[i] := hr _ (List.getElem_mem hiQ)
    generalize Q[i] = q at *
    obtain ⟨o, a, b, n0⟩ := q
    obtain ⟨g0, g1, g2, g3, g4⟩ := hq2
    simp only at g0 g1 g2 g3 g4
    have w1 : IntKind.i64.wrap ((i : Int) + 1) = (i : Int) + 1 := by rw [IntKind.wrap_i64]; omega
    unfold cI at hget
    simp -implicitDefEqProofs [h1, hlt, hiQ, hiQ2, hget, hl5]
    have hagain : ∀ (e : Env) (h : List PO), e.get 9 = some (.int .i64 ((i : Int) + 1)) → e.get 0 = some (.slice (some ⟨0, 0, none⟩) Q.length c1) → e.get 1 = some (.slice (some ⟨1, 0, none⟩) B.length c2) → e.get 4 = some (.bool false) → h[0]? = some (.ro (rowQ Q)) → h[1]? = some (.ro (u8s B)) → Again 2 (fun i : Nat => ⟨[(9, .int .i64 (i : Int)), (0, .slice (some ⟨0, 0, none⟩) Q.length c1), (1, .slice (some ⟨1, 0, none⟩) B.length c2), (4, .bool false)], [.ro (rowQ Q), .ro (u8s B)]⟩) (fun i => m - i) (fun i => i ≤ m) (m - i) ⟨e, h⟩ := fun e h k1 k2 k3 k4 k5 k6 => by
      refine Again.mk (i + 1) [0, 1] (show m - (i + 1) < m - i by omega) hlt (Sub.mk' (by decide) (by simp [preOk]) ?_ ?_)
      · simp -implicitDefEqProofs [k5, k6]
        exact ⟨RNs.all (d := 6) (rowQ_flat Q), RNs.all (d := 6) (u8s_flat B)⟩
      · simp -implicitDefEqProofs [k1, k2, k3, k4]
    by_cases ok : okF o a b n0
    · obtain ⟨on, rfl⟩ := Int.eq_ofNat_of_zero_le g0
      refine (fnPrint on a b n0 g1 g2 g3 g4 ok).k ?_
      simp -implicitDefEqProofs
      refine (fnParsePrint on a b n0 g1 g2 g3 g4 ok).k ?_
      simp -implicitDefEqProofs [insV]
      refine pdk_at [] (by kernel_rfl) ?_
      simp -implicitDefEqProofs [hiQ, hiQ2, hget, hl5, insEq, insSame, w1]
      exact hagain _ _ (by simp) (by simp) (by simp) (by simp) rfl rfl
    · refine (fnPrint_bad o a b n0 g0 ok).k ?_
      simp -implicitDefEqProofs [w1]
      exact hagain _ _ (by simp) (by simp) (by simp) (by simp) rfl rfl
  · obtain rfl : i = m := by omega
    simp -implicitDefEqProofs [hlt]
    refine PCq.k (readCode_qo (B := B) rfl h4) ?_
    simp -implicitDefEqProofs
    refine fnLive3.k ?_
    simp -implicitDefEqProofs
theorem back_ok_zero (Q : List QV) (B : List UInt8) (c1 m : Nat) (hc1 : Q.length ≤ c1) (hr : ∀ q ∈ Q, QR q) (hm : min Q.length 60 = m) (hm0 : 0 < m) (hA : allQ Q m) (c2 : Nat) (hc2 : B.length ≤ c2) (hnb : B.length ≤ 140737488355328) (h4 : B.length % 4 = 0) (hk : B.length / 4 = 0) (hB : allB B 0 B.length) : PC Tryd.prog 4 [.slice (some ⟨0, 0, none⟩) Q.length c1, .slice (some ⟨1, 0, none⟩) B.length c2] [.ro (rowQ Q), .ro (u8s B)] (fun v _ => v = .bool true) fun _ _ => False := by
  have hmQ : m ≤ Q.length := by omega
  have hm4 : 4 * m ≤ 140737488355328 := by omega
  have htl : (Q.take m).length = m := by rw [List.length_take, Nat.min_eq_left hmQ]
  have hX0 : (encBs (Q.take m)).length = 4 * m := by rw [encBs_len, htl]
  have hrt : ∀ q ∈ Q.take m, QR q := fun q hq => hr q (List.mem_of_mem_take hq)
  have hAt : allQ (Q.take m) (Q.take m).length := fun i hi _ => by rw [List.getElem_take]; exact hA i (by omega) (by omega)
  have hAB : allB (encBs (Q.take m)) 0 (4 * m) := by have := allB_enc hrt hAt; rwa [htl] at this
  have hd4 : 4 * m / 4 = m := by omega
  have hsm : ∀ i (h : i < (qBs (encBs (Q.take m)) 0 m).length) (h' : i < Q.length), i < m → (qBs (encBs (Q.take m)) 0 m)[i] = Q[i] := fun i h h' hi => by
    rw [qBs_get, qB_enc (by omega) (hrt _ (List.getElem_mem (by omega))) (hAt i (by omega) (by omega)), List.getElem_take]
  have hn0 : B.length = 0 := by omega
  refine pc_of Tryd.func4 rfl (by decide) (by kernel_rfl) (by show 2 ≤ _; decide) (SW.of mixed _ _ _ ?_)
  simp -implicitDefEqProofs
  refine PC.ke (few_pc _ 0 _ _ hc1) ?_
  simp -implicitDefEqProofs [hm]
  refine PCq.k (code_q (Q := Q) rfl hmQ hm4 hm0 hr hA) ?_
  simp -implicitDefEqProofs
  refine PCq.k (readCode_q (B := encBs (Q.take m)) rfl (.inr ⟨rfl, rfl⟩) (by omega) (Nat.le_refl _) (by omega) (by omega) hAB) ?_
  simp -implicitDefEqProofs [hd4]
  refine PC.ke (few_pc _ 0 _ _ hc1) ?_
  simp -implicitDefEqProofs [hm]
  refine PCq.k (sameCode_q (Q := qBs (encBs (Q.take m)) 0 m) (R := Q) (by decide) (by simp [hcells, hd4]) rfl (by rw [qBs_len]; exact Nat.le_refl _) hmQ hsm (by omega)) ?_
  simp -implicitDefEqProofs
  refine pwp_loop_st (fun i : Nat => ⟨[(9, .int .i64 (i : Int)), (0, .slice (some ⟨0, 0, none⟩) Q.length c1), (1, .slice (some ⟨1, 0, none⟩) B.length c2), (4, .bool false)], [.ro (rowQ Q), .ro (u8s B)]⟩) (fun i => m - i) (fun i => i ≤ m) 0 [0, 1] (Nat.zero_le _) (Sub.mk' (by decide) (by simp [preOk]) ?_ ?_) ?_
  · simp -implicitDefEqProofs
    exact ⟨RNs.all (d := 6) (rowQ_flat Q), RNs.all (d := 6) (u8s_flat B)⟩
  · simp -implicitDefEqProofs
  rintro i hi
  simp -implicitDefEqProofs
  refine PC.ke (few_pc _ 0 _ _ hc1) ?_
  simp -implicitDefEqProofs [hm]
  by_cases hlt : i < m
  · have h1 : (i : Int) < m := by omega
    have hiQ : i < Q.length := by omega
    have hiQ2 : (i : Int) < Q.length := by omega
    have hget := rowQ_get Q i hiQ
    have hl4 := rowQ_len Q
    have hl5 : i * 4 + 4 ≤ (rowQ Q).length := by omega
    have hq2 : QR Q[i] := hr _ (List.getElem_mem hiQ)
    generalize Q[i] = q at *
    obtain ⟨o, a, b, n0⟩ := q
    obtain ⟨g0, g1, g2, g3, g4⟩ := hq2
    simp only at g0 g1 g2 g3 g4
    have w1 : IntKind.i64.wrap ((i : Int) + 1) = (i : Int) + 1 := by rw [IntKind.wrap_i64]; omega
    unfold cI at hget
    simp -implicitDefEqProofs [h1, hlt, hiQ, hiQ2, hget, hl5]
    have hagain : ∀ (e : Env) (h : List PO), e.get 9 = some (.int .i64 ((i : Int) + 1)) → e.get 0 = some (.slice (some ⟨0, 0, none⟩) Q.length c1) → e.get 1 = some (.slice (some ⟨1, 0, none⟩) B.length c2) → e.get 4 = some (.bool false) → h[0]? = some (.ro (rowQ Q)) → h[1]? = some (.ro (u8s B)) → Again 2 (fun i : Nat => ⟨[(9, .int .i64 (i : Int)), (0, .slice (some ⟨0, 0, none⟩) Q.length c1), (1, .slice (some ⟨1, 0, none⟩) B.length c2), (4, .bool false)], [.ro (rowQ Q), .ro (u8s B)]⟩) (fun i => m - i) (fun i => i ≤ m) (m - i) ⟨e, h⟩ := fun e h k1 k2 k3 k4 k5 k6 => by
      refine Again.mk (i + 1) [0, 1] (show m - (i + 1) < m - i by omega) hlt (Sub.mk' (by decide) (by simp [preOk]) ?_ ?_)
      · simp -implicitDefEqProofs [k5, k6]
        exact ⟨RNs.all (d := 6) (rowQ_flat Q), RNs.all (d := 6) (u8s_flat B)⟩
      · simp -implicitDefEqProofs [k1, k2, k3, k4]
    by_cases ok : okF o a b n0
    · obtain ⟨on, rfl⟩ := Int.eq_ofNat_of_zero_le g0
      refine (fnPrint on a b n0 g1 g2 g3 g4 ok).k ?_
      simp -implicitDefEqProofs
      refine (fnParsePrint on a b n0 g1 g2 g3 g4 ok).k ?_
      simp -implicitDefEqProofs [insV]
      refine pdk_at [] (by kernel_rfl) ?_
      simp -implicitDefEqProofs [hiQ, hiQ2, hget, hl5, insEq, insSame, w1]
      exact hagain _ _ (by simp) (by simp) (by simp) (by simp) rfl rfl
    · refine (fnPrint_bad o a b n0 g0 ok).k ?_
      simp -implicitDefEqProofs [w1]
      exact hagain _ _ (by simp) (by simp) (by simp) (by simp) rfl rfl
  · obtain rfl : i = m := by omega
    simp -implicitDefEqProofs [hlt]
    refine PCq.k (readCode_q (B := B) rfl (.inl rfl) (by omega) hc2 hnb h4 hB) ?_
    simp -implicitDefEqProofs [hk]
    refine PCq.k (code_q0 (Q := qBs B 0 0) (by simp [hcells, hk]) (qBs_rng B 0)) ?_
    simp -implicitDefEqProofs
    refine fnLive3.k ?_
    simp -implicitDefEqProofs [hn0]
theorem back_ok_ok (Q : List QV) (B : List UInt8) (c1 m : Nat) (hc1 : Q.length ≤ c1) (hr : ∀ q ∈ Q, QR q) (hm : min Q.length 60 = m) (hm0 : 0 < m) (hA : allQ Q m) (c2 : Nat) (hc2 : B.length ≤ c2) (hnb : B.length ≤ 140737488355328) (h4 : B.length % 4 = 0) (hk : 0 < B.length / 4) (hB : allB B 0 B.length) : PC Tryd.prog 4 [.slice (some ⟨0, 0, none⟩) Q.length c1, .slice (some ⟨1, 0, none⟩) B.length c2] [.ro (rowQ Q), .ro (u8s B)] (fun v _ => v = .bool true) fun _ _ => False := by
  have hmQ : m ≤ Q.length := by omega
  have hm4 : 4 * m ≤ 140737488355328 := by omega
  have htl : (Q.take m).length = m := by rw [List.length_take, Nat.min_eq_left hmQ]
  have hX0 : (encBs (Q.take m)).length = 4 * m := by rw [encBs_len, htl]
  have hrt : ∀ q ∈ Q.take m, QR q := fun q hq => hr q (List.mem_of_mem_take hq)
  have hAt : allQ (Q.take m) (Q.take m).length := fun i hi _ => by rw [List.getElem_take]; exact hA i (by omega) (by omega)
  have hAB : allB (encBs (Q.take m)) 0 (4 * m) := by have := allB_enc hrt hAt; rwa [htl] at this
  have hd4 : 4 * m / 4 = m := by omega
  have hsm : ∀ i (h : i < (qBs (encBs (Q.take m)) 0 m).length) (h' : i < Q.length), i < m → (qBs (encBs (Q.take m)) 0 m)[i] = Q[i] := fun i h h' hi => by
    rw [qBs_get, qB_enc (by omega) (hrt _ (List.getElem_mem (by omega))) (hAt i (by omega) (by omega)), List.getElem_take]
  have hd : 4 * (B.length / 4) = B.length := by omega
  have hX : encBs ((qBs B 0 (B.length / 4)).take (B.length / 4)) = B := by
    rw [List.take_of_length_le (by rw [qBs_len]; exact Nat.le_refl _), encBs_qBs B _ (by omega), hd, List.take_of_length_le (Nat.le_refl _)]
  have hT : List.take (4 * (B.length / 4)) (u8s B) = u8s B := List.take_of_length_le (by rw [u8s_len]; omega)
  have hT2 : List.take B.length (u8s B) = u8s B := List.take_of_length_le (by rw [u8s_len]; exact Nat.le_refl _)
  have hle4 : 4 * (B.length / 4) ≤ B.length := by omega
  have hn1 : ¬ B.length = 0 := by omega
  have hn2 : ¬ 4 * (B.length / 4) = 0 := by omega
  refine pc_of Tryd.func4 rfl (by decide) (by kernel_rfl) (by show 2 ≤ _; decide) (SW.of mixed _ _ _ ?_)
  simp -implicitDefEqProofs
  refine PC.ke (few_pc _ 0 _ _ hc1) ?_
  simp -implicitDefEqProofs [hm]
  refine PCq.k (code_q (Q := Q) rfl hmQ hm4 hm0 hr hA) ?_
  simp -implicitDefEqProofs
  refine PCq.k (readCode_q (B := encBs (Q.take m)) rfl (.inr ⟨rfl, rfl⟩) (by omega) (Nat.le_refl _) (by omega) (by omega) hAB) ?_
  simp -implicitDefEqProofs [hd4]
  refine PC.ke (few_pc _ 0 _ _ hc1) ?_
  simp -implicitDefEqProofs [hm]
  refine PCq.k (sameCode_q (Q := qBs (encBs (Q.take m)) 0 m) (R := Q) (by decide) (by simp [hcells, hd4]) rfl (by rw [qBs_len]; exact Nat.le_refl _) hmQ hsm (by omega)) ?_
  simp -implicitDefEqProofs
  refine pwp_loop_st (fun i : Nat => ⟨[(9, .int .i64 (i : Int)), (0, .slice (some ⟨0, 0, none⟩) Q.length c1), (1, .slice (some ⟨1, 0, none⟩) B.length c2), (4, .bool false)], [.ro (rowQ Q), .ro (u8s B)]⟩) (fun i => m - i) (fun i => i ≤ m) 0 [0, 1] (Nat.zero_le _) (Sub.mk' (by decide) (by simp [preOk]) ?_ ?_) ?_
  · simp -implicitDefEqProofs
    exact ⟨RNs.all (d := 6) (rowQ_flat Q), RNs.all (d := 6) (u8s_flat B)⟩
  · simp -implicitDefEqProofs
  rintro i hi
  simp -implicitDefEqProofs
  refine PC.ke (few_pc _ 0 _ _ hc1) ?_
  simp -implicitDefEqProofs [hm]
  by_cases hlt : i < m
  · have h1 : (i : Int) < m := by omega
    have hiQ : i < Q.length := by omega
    have hiQ2 : (i : Int) < Q.length := by omega
    have hget := rowQ_get Q i hiQ
    have hl4 := rowQ_len Q
    have hl5 : i * 4 + 4 ≤ (rowQ Q).length := by omega
    have hq2 : QR Q[i] := hr _ (List.getElem_mem hiQ)
    generalize Q[i] = q at *
    obtain ⟨o, a, b, n0⟩ := q
    obtain ⟨g0, g1, g2, g3, g4⟩ := hq2
    simp only at g0 g1 g2 g3 g4
    have w1 : IntKind.i64.wrap ((i : Int) + 1) = (i : Int) + 1 := by rw [IntKind.wrap_i64]; omega
    unfold cI at hget
    simp -implicitDefEqProofs [h1, hlt, hiQ, hiQ2, hget, hl5]
    have hagain : ∀ (e : Env) (h : List PO), e.get 9 = some (.int .i64 ((i : Int) + 1)) → e.get 0 = some (.slice (some ⟨0, 0, none⟩) Q.length c1) → e.get 1 = some (.slice (some ⟨1, 0, none⟩) B.length c2) → e.get 4 = some (.bool false) → h[0]? = some (.ro (rowQ Q)) → h[1]? = some (.ro (u8s B)) → Again 2 (fun i : Nat => ⟨[(9, .int .i64 (i : Int)), (0, .slice (some ⟨0, 0, none⟩) Q.length c1), (1, .slice (some ⟨1, 0, none⟩) B.length c2), (4, .bool false)], [.ro (rowQ Q), .ro (u8s B)]⟩) (fun i => m - i) (fun i => i ≤ m) (m - i) ⟨e, h⟩ := fun e h k1 k2 k3 k4 k5 k6 => by
      refine Again.mk (i + 1) [0, 1] (show m - (i + 1) < m - i by omega) hlt (Sub.mk' (by decide) (by simp [preOk]) ?_ ?_)
      · simp -implicitDefEqProofs [k5, k6]
        exact ⟨RNs.all (d := 6) (rowQ_flat Q), RNs.all (d := 6) (u8s_flat B)⟩
      · simp -implicitDefEqProofs [k1, k2, k3, k4]
    by_cases ok : okF o a b n0
    · obtain ⟨on, rfl⟩ := Int.eq_ofNat_of_zero_le g0
      refine (fnPrint on a b n0 g1 g2 g3 g4 ok).k ?_
      simp -implicitDefEqProofs
      refine (fnParsePrint on a b n0 g1 g2 g3 g4 ok).k ?_
      simp -implicitDefEqProofs [insV]
      refine pdk_at [] (by kernel_rfl) ?_
      simp -implicitDefEqProofs [hiQ, hiQ2, hget, hl5, insEq, insSame, w1]
      exact hagain _ _ (by simp) (by simp) (by simp) (by simp) rfl rfl
    · refine (fnPrint_bad o a b n0 g0 ok).k ?_
      simp -implicitDefEqProofs [w1]
      exact hagain _ _ (by simp) (by simp) (by simp) (by simp) rfl rfl
  · obtain rfl : i = m := by omega
    simp -implicitDefEqProofs [hlt]
    refine PCq.k (readCode_q (B := B) rfl (.inl rfl) (by omega) hc2 hnb h4 hB) ?_
    simp -implicitDefEqProofs
    refine PCq.k (code_q (Q := qBs B 0 (B.length / 4)) rfl (by rw [qBs_len]; exact Nat.le_refl _) (by omega) hk (qBs_rng B _) (allQ_qBs hB)) ?_
    simp -implicitDefEqProofs [hX]
    refine fnLive3.k ?_
    simp -implicitDefEqProofs [bytesOf_u8s, hT, hT2, hd, hn1, hn2, hle4]
theorem back_ok_bad (Q : List QV) (B : List UInt8) (c1 m : Nat) (hc1 : Q.length ≤ c1) (hr : ∀ q ∈ Q, QR q) (hm : min Q.length 60 = m) (hm0 : 0 < m) (hA : allQ Q m) (c2 : Nat) (hc2 : B.length ≤ c2) (hnb : B.length ≤ 140737488355328) (h4 : B.length % 4 = 0) (hB : ¬ allB B 0 B.length) : PC Tryd.prog 4 [.slice (some ⟨0, 0, none⟩) Q.length c1, .slice (some ⟨1, 0, none⟩) B.length c2] [.ro (rowQ Q), .ro (u8s B)] (fun v _ => v = .bool true) fun _ _ => False := by
  have hmQ : m ≤ Q.length := by omega
  have hm4 : 4 * m ≤ 140737488355328 := by omega
  have htl : (Q.take m).length = m := by rw [List.length_take, Nat.min_eq_left hmQ]
  have hX0 : (encBs (Q.take m)).length = 4 * m := by rw [encBs_len, htl]
  have hrt : ∀ q ∈ Q.take m, QR q := fun q hq => hr q (List.mem_of_mem_take hq)
  have hAt : allQ (Q.take m) (Q.take m).length := fun i hi _ => by rw [List.getElem_take]; exact hA i (by omega) (by omega)
  have hAB : allB (encBs (Q.take m)) 0 (4 * m) := by have := allB_enc hrt hAt; rwa [htl] at this
  have hd4 : 4 * m / 4 = m := by omega
  have hsm : ∀ i (h : i < (qBs (encBs (Q.take m)) 0 m).length) (h' : i < Q.length), i < m → (qBs (encBs (Q.take m)) 0 m)[i] = Q[i] := fun i h h' hi => by
    rw [qBs_get, qB_enc (by omega) (hrt _ (List.getElem_mem (by omega))) (hAt i (by omega) (by omega)), List.getElem_take]
  refine pc_of Tryd.func4 rfl (by decide) (by kernel_rfl) (by show 2 ≤ _; decide) (SW.of mixed _ _ _ ?_)
  simp -implicitDefEqProofs
  refine PC.ke (few_pc _ 0 _ _ hc1) ?_
  simp -implicitDefEqProofs [hm]
  refine PCq.k (code_q (Q := Q) rfl hmQ hm4 hm0 hr hA) ?_
  simp -implicitDefEqProofs
  refine PCq.k (readCode_q (B := encBs (Q.take m)) rfl (.inr ⟨rfl, rfl⟩) (by omega) (Nat.le_refl _) (by omega) (by omega) hAB) ?_
  simp -implicitDefEqProofs [hd4]
  refine PC.ke (few_pc _ 0 _ _ hc1) ?_
  simp -implicitDefEqProofs [hm]
  refine PCq.k (sameCode_q (Q := qBs (encBs (Q.take m)) 0 m) (R := Q) (by decide) (by simp [hcells, hd4]) rfl (by rw [qBs_len]; exact Nat.le_refl _) hmQ hsm (by omega)) ?_
  simp -implicitDefEqProofs
  refine pwp_loop_st (fun i : Nat => ⟨[(9, .int .i64 (i : Int)), (0, .slice (some ⟨0, 0, none⟩) Q.length c1), (1, .slice (some ⟨1, 0, none⟩) B.length c2), (4, .bool false)], [.ro (rowQ Q), .ro (u8s B)]⟩) (fun i => m - i) (fun i => i ≤ m) 0 [0, 1] (Nat.zero_le _) (Sub.mk' (by decide) (by simp [preOk]) ?_ ?_) ?_
  · simp -implicitDefEqProofs
    exact ⟨RNs.all (d := 6) (rowQ_flat Q), RNs.all (d := 6) (u8s_flat B)⟩
  · simp -implicitDefEqProofs
  rintro i hi
  simp -implicitDefEqProofs
  refine PC.ke (few_pc _ 0 _ _ hc1) ?_
  simp -implicitDefEqProofs [hm]
  by_cases hlt : i < m
  · have h1 : (i : Int) < m := by omega
    have hiQ : i < Q.length := by omega
    have hiQ2 : (i : Int) < Q.length := by omega
    have hget := rowQ_get Q i hiQ
    have hl4 := rowQ_len Q
    have hl5 : i * 4 + 4 ≤ (rowQ Q).length := by omega
    have hq2 : QR Q[i] := hr _ (List.getElem_mem hiQ)
    generalize Q[i] = q at *
    obtain ⟨o, a, b, n0⟩ := q
    obtain ⟨g0, g1, g2, g3, g4⟩ := hq2
    simp only at g0 g1 g2 g3 g4
    have w1 : IntKind.i64.wrap ((i : Int) + 1) = (i : Int) + 1 := by rw [IntKind.wrap_i64]; omega
    unfold cI at hget
    simp -implicitDefEqProofs [h1, hlt, hiQ, hiQ2, hget, hl5]
    have hagain : ∀ (e : Env) (h : List PO), e.get 9 = some (.int .i64 ((i : Int) + 1)) → e.get 0 = some (.slice (some ⟨0, 0, none⟩) Q.length c1) → e.get 1 = some (.slice (some ⟨1, 0, none⟩) B.length c2) → e.get 4 = some (.bool false) → h[0]? = some (.ro (rowQ Q)) → h[1]? = some (.ro (u8s B)) → Again 2 (fun i : Nat => ⟨[(9, .int .i64 (i : Int)), (0, .slice (some ⟨0, 0, none⟩) Q.length c1), (1, .slice (some ⟨1, 0, none⟩) B.length c2), (4, .bool false)], [.ro (rowQ Q), .ro (u8s B)]⟩) (fun i => m - i) (fun i => i ≤ m) (m - i) ⟨e, h⟩ := fun e h k1 k2 k3 k4 k5 k6 => by
      refine Again.mk (i + 1) [0, 1] (show m - (i + 1) < m - i by omega) hlt (Sub.mk' (by decide) (by simp [preOk]) ?_ ?_)
      · simp -implicitDefEqProofs [k5, k6]
        exact ⟨RNs.all (d := 6) (rowQ_flat Q), RNs.all (d := 6) (u8s_flat B)⟩
      · simp -implicitDefEqProofs [k1, k2, k3, k4]
    by_cases ok : okF o a b n0
    · obtain ⟨on, rfl⟩ := Int.eq_ofNat_of_zero_le g0
      refine (fnPrint on a b n0 g1 g2 g3 g4 ok).k ?_
      simp -implicitDefEqProofs
      refine (fnParsePrint on a b n0 g1 g2 g3 g4 ok).k ?_
      simp -implicitDefEqProofs [insV]
      refine pdk_at [] (by kernel_rfl) ?_
      simp -implicitDefEqProofs [hiQ, hiQ2, hget, hl5, insEq, insSame, w1]
      exact hagain _ _ (by simp) (by simp) (by simp) (by simp) rfl rfl
    · refine (fnPrint_bad o a b n0 g0 ok).k ?_
      simp -implicitDefEqProofs [w1]
      exact hagain _ _ (by simp) (by simp) (by simp) (by simp) rfl rfl
  · obtain rfl : i = m := by omega
    simp -implicitDefEqProofs [hlt]
    refine PCq.k (readCode_qn (B := B) rfl (.inl rfl) (by omega) hc2 hnb h4 hB) ?_
    simp -implicitDefEqProofs
    refine fnLive3.k ?_
    simp -implicitDefEqProofs
theorem back_bad_nil (Q : List QV) (B : List UInt8) (c1 m : Nat) (hc1 : Q.length ≤ c1) (hr : ∀ q ∈ Q, QR q) (hm : min Q.length 60 = m) (hm0 : 0 < m) (hA : ¬ allQ Q m) : PC Tryd.prog 4 [.slice (some ⟨0, 0, none⟩) Q.length c1, .slice none 0 0] [.ro (rowQ Q), .ro (u8s B)] (fun v _ => v = .bool true) fun _ _ => False := by
  have hmQ : m ≤ Q.length := by omega
  have hm4 : 4 * m ≤ 140737488355328 := by omega
  refine pc_of Tryd.func4 rfl (by decide) (by kernel_rfl) (by show 2 ≤ _; decide) (SW.of mixed _ _ _ ?_)
  simp -implicitDefEqProofs
  refine PC.ke (few_pc _ 0 _ _ hc1) ?_
  simp -implicitDefEqProofs [hm]
  refine PCq.k (code_qn (Q := Q) rfl hmQ hm4 hr hA) ?_
  simp -implicitDefEqProofs
  refine pwp_loop_st (fun i : Nat => ⟨[(9, .int .i64 (i : Int)), (0, .slice (some ⟨0, 0, none⟩) Q.length c1), (1, .slice none 0 0), (4, .bool false)], [.ro (rowQ Q), .ro (u8s B)]⟩) (fun i => m - i) (fun i => i ≤ m) 0 [0, 1] (Nat.zero_le _) (Sub.mk' (by decide) (by simp [preOk]) ?_ ?_) ?_
  · simp -implicitDefEqProofs
    exact ⟨RNs.all (d := 6) (rowQ_flat Q), RNs.all (d := 6) (u8s_flat B)⟩
  · simp -implicitDefEqProofs
  rintro i hi
  simp -implicitDefEqProofs
  refine PC.ke (few_pc _ 0 _ _ hc1) ?_
  simp -implicitDefEqProofs [hm]
  by_cases hlt : i < m
  · have h1 : (i : Int) < m := by omega
    have hiQ : i < Q.length := by omega
    have hiQ2 : (i : Int) < Q.length := by omega
    have hget := rowQ_get Q i hiQ
    have hl4 := rowQ_len Q
    have hl5 : i * 4 + 4 ≤ (rowQ Q).length := by omega
    have hq2 : QR Q[i] := hr _ (List.getElem_mem hiQ)
    generalize Q[i] = q at *
    obtain ⟨o, a, b, n0⟩ := q
    obtain ⟨g0, g1, g2, g3, g4⟩ := hq2
    simp only at g0 g1 g2 g3 g4
    have w1 : IntKind.i64.wrap ((i : Int) + 1) = (i : Int) + 1 := by rw [IntKind.wrap_i64]; omega
    unfold cI at hget
    simp -implicitDefEqProofs [h1, hlt, hiQ, hiQ2, hget, hl5]
    have hagain : ∀ (e : Env) (h : List PO), e.get 9 = some (.int .i64 ((i : Int) + 1)) → e.get 0 = some (.slice (some ⟨0, 0, none⟩) Q.length c1) → e.get 1 = some (.slice none 0 0) → e.get 4 = some (.bool false) → h[0]? = some (.ro (rowQ Q)) → h[1]? = some (.ro (u8s B)) → Again 2 (fun i : Nat => ⟨[(9, .int .i64 (i : Int)), (0, .slice (some ⟨0, 0, none⟩) Q.length c1), (1, .slice none 0 0), (4, .bool false)], [.ro (rowQ Q), .ro (u8s B)]⟩) (fun i => m - i) (fun i => i ≤ m) (m - i) ⟨e, h⟩ := fun e h k1 k2 k3 k4 k5 k6 => by
      refine Again.mk (i + 1) [0, 1] (show m - (i + 1) < m - i by omega) hlt (Sub.mk' (by decide) (by simp [preOk]) ?_ ?_)
      · simp -implicitDefEqProofs [k5, k6]
        exact ⟨RNs.all (d := 6) (rowQ_flat Q), RNs.all (d := 6) (u8s_flat B)⟩
      · simp -implicitDefEqProofs [k1, k2, k3, k4]
    by_cases ok : okF o a b n0
    · obtain ⟨on, rfl⟩ := Int.eq_ofNat_of_zero_le g0
      refine (fnPrint on a b n0 g1 g2 g3 g4 ok).k ?_
      simp -implicitDefEqProofs
      refine (fnParsePrint on a b n0 g1 g2 g3 g4 ok).k ?_
      simp -implicitDefEqProofs [insV]
      refine pdk_at [] (by kernel_rfl) ?_
      simp -implicitDefEqProofs [hiQ, hiQ2, hget, hl5, insEq, insSame, w1]
      exact hagain _ _ (by simp) (by simp) (by simp) (by simp) rfl rfl
    · refine (fnPrint_bad o a b n0 g0 ok).k ?_
      simp -implicitDefEqProofs [w1]
      exact hagain _ _ (by simp) (by simp) (by simp) (by simp) rfl rfl
  · obtain rfl : i = m := by omega
    simp -implicitDefEqProofs [hlt]
    refine PCq.k readNil_q ?_
    simp -implicitDefEqProofs
    refine PCq.k (code_q0 (Q := []) rfl (by simp)) ?_
    simp -implicitDefEqProofs
    refine fnLive3.k ?_
    simp -implicitDefEqProofs
theorem back_bad_odd (Q : List QV) (B : List UInt8) (c1 m : Nat) (hc1 : Q.length ≤ c1) (hr : ∀ q ∈ Q, QR q) (hm : min Q.length 60 = m) (hm0 : 0 < m) (hA : ¬ allQ Q m) (c2 : Nat) (hc2 : B.length ≤ c2) (hnb : B.length ≤ 140737488355328) (h4 : ¬ B.length % 4 = 0) : PC Tryd.prog 4 [.slice (some ⟨0, 0, none⟩) Q.length c1, .slice (some ⟨1, 0, none⟩) B.length c2] [.ro (rowQ Q), .ro (u8s B)] (fun v _ => v = .bool true) fun _ _ => False := by
  have hmQ : m ≤ Q.length := by omega
  have hm4 : 4 * m ≤ 140737488355328 := by omega
  refine pc_of Tryd.func4 rfl (by decide) (by kernel_rfl) (by show 2 ≤ _; decide) (SW.of mixed _ _ _ ?_)
  simp -implicitDefEqProofs
  refine PC.ke (few_pc _ 0 _ _ hc1) ?_
  simp -implicitDefEqProofs [hm]
  refine PCq.k (code_qn (Q := Q) rfl hmQ hm4 hr hA) ?_
  simp -implicitDefEqProofs
  refine pwp_loop_st (fun i : Nat => ⟨[(9, .int .i64 (i : Int)), (0, .slice (some ⟨0, 0, none⟩) Q.length c1), (1, .slice (some ⟨1, 0, none⟩) B.length c2), (4, .bool false)], [.ro (rowQ Q), .ro (u8s B)]⟩) (fun i => m - i) (fun i => i ≤ m) 0 [0, 1] (Nat.zero_le _) (Sub.mk' (by decide) (by simp [preOk]) ?_ ?_) ?_
  · simp -implicitDefEqProofs
    exact ⟨RNs.all (d := 6) (rowQ_flat Q), RNs.all (d := 6) (u8s_flat B)⟩
  · simp -implicitDefEqProofs
  rintro i hi
  simp -implicitDefEqProofs
  refine PC.ke (few_pc _ 0 _ _ hc1) ?_
  simp -implicitDefEqProofs [hm]
  by_cases hlt : i < m
  · have h1 : (i : Int) < m := by omega
    have hiQ : i < Q.length := by omega
    have hiQ2 : (i : Int) < Q.length := by omega
    have hget := rowQ_get Q i hiQ
    have hl4 := rowQ_len Q
    have hl5 : i * 4 + 4 ≤ (rowQ Q).length := by omega
    have hq2 : QR Q[i] := hr _ (List.getElem_mem hiQ)
    generalize Q[i] = q at *
    obtain ⟨o, a, b, n0⟩ := q
    obtain ⟨g0, g1, g2, g3, g4⟩ := hq2
    simp only at g0 g1 g2 g3 g4
    have w1 : IntKind.i64.wrap ((i : Int) + 1) = (i : Int) + 1 := by rw [IntKind.wrap_i64]; omega
    unfold cI at hget
    simp -implicitDefEqProofs [h1, hlt, hiQ, hiQ2, hget, hl5]
    have hagain : ∀ (e : Env) (h : List PO), e.get 9 = some (.int .i64 ((i : Int) + 1)) → e.get 0 = some (.slice (some ⟨0, 0, none⟩) Q.length c1) → e.get 1 = some (.slice (some ⟨1, 0, none⟩) B.length c2) → e.get 4 = some (.bool false) → h[0]? = some (.ro (rowQ Q)) → h[1]? = some (.ro (u8s B)) → Again 2 (fun i : Nat => ⟨[(9, .int .i64 (i : Int)), (0, .slice (some ⟨0, 0, none⟩) Q.length c1), (1, .slice (some ⟨1, 0, none⟩) B.length c2), (4, .bool false)], [.ro (rowQ Q), .ro (u8s B)]⟩) (fun i => m - i) (fun i => i ≤ m) (m - i) ⟨e, h⟩ := fun e h k1 k2 k3 k4 k5 k6 => by
      refine Again.mk (i + 1) [0, 1] (show m - (i + 1) < m - i by omega) hlt (Sub.mk' (by decide) (by simp [preOk]) ?_ ?_)
      · simp -implicitDefEqProofs [k5, k6]
        exact ⟨RNs.all (d := 6) (rowQ_flat Q), RNs.all (d := 6) (u8s_flat B)⟩
      · simp -implicitDefEqProofs [k1, k2, k3, k4]
    by_cases ok : okF o a b n0
    · obtain ⟨on, rfl⟩ := Int.eq_ofNat_of_zero_le g0
      refine (fnPrint on a b n0 g1 g2 g3 g4 ok).k ?_
      simp -implicitDefEqProofs
      refine (fnParsePrint on a b n0 g1 g2 g3 g4 ok).k ?_
      simp -implicitDefEqProofs [insV]
      refine pdk_at [] (by kernel_rfl) ?_
      simp -implicitDefEqProofs [hiQ, hiQ2, hget, hl5, insEq, insSame, w1]
      exact hagain _ _ (by simp) (by simp) (by simp) (by simp) rfl rfl
    · refine (fnPrint_bad o a b n0 g0 ok).k ?_
      simp -implicitDefEqProofs [w1]
      exact hagain _ _ (by simp) (by simp) (by simp) (by simp) rfl rfl
  · obtain rfl : i = m := by omega
    simp -implicitDefEqProofs [hlt]
    refine PCq.k (readCode_qo (B := B) rfl h4) ?_
    simp -implicitDefEqProofs
    refine fnLive3.k ?_
    simp -implicitDefEqProofs
theorem back_bad_zero (Q : List QV) (B : List UInt8) (c1 m : Nat) (hc1 : Q.length ≤ c1) (hr : ∀ q ∈ Q, QR q) (hm : min Q.length 60 = m) (hm0 : 0 < m) (hA : ¬ allQ Q m) (c2 : Nat) (hc2 : B.length ≤ c2) (hnb : B.length ≤ 140737488355328) (h4 : B.length % 4 = 0) (hk : B.length / 4 = 0) (hB : allB B 0 B.length) : PC Tryd.prog 4 [.slice (some ⟨0, 0, none⟩) Q.length c1, .slice (some ⟨1, 0, none⟩) B.length c2] [.ro (rowQ Q), .ro (u8s B)] (fun v _ => v = .bool true) fun _ _ => False := by
  have hmQ : m ≤ Q.length := by omega
  have hm4 : 4 * m ≤ 140737488355328 := by omega
  have hn0 : B.length = 0 := by omega
  refine pc_of Tryd.func4 rfl (by decide) (by kernel_rfl) (by show 2 ≤ _; decide) (SW.of mixed _ _ _ ?_)
  simp -implicitDefEqProofs
  refine PC.ke (few_pc _ 0 _ _ hc1) ?_
  simp -implicitDefEqProofs [hm]
  refine PCq.k (code_qn (Q := Q) rfl hmQ hm4 hr hA) ?_
  simp -implicitDefEqProofs
  refine pwp_loop_st (fun i : Nat => ⟨[(9, .int .i64 (i : Int)), (0, .slice (some ⟨0, 0, none⟩) Q.length c1), (1, .slice (some ⟨1, 0, none⟩) B.length c2), (4, .bool false)], [.ro (rowQ Q), .ro (u8s B)]⟩) (fun i => m - i) (fun i => i ≤ m) 0 [0, 1] (Nat.zero_le _) (Sub.mk' (by decide) (by simp [preOk]) ?_ ?_) ?_
  · simp -implicitDefEqProofs
    exact ⟨RNs.all (d := 6) (rowQ_flat Q), RNs.all (d := 6) (u8s_flat B)⟩
  · simp -implicitDefEqProofs
  rintro i hi
  simp -implicitDefEqProofs
  refine PC.ke (few_pc _ 0 _ _ hc1) ?_
  simp -implicitDefEqProofs [hm]
  by_cases hlt : i < m
  · have h1 : (i : Int) < m := by omega
    have hiQ : i < Q.length := by omega
    have hiQ2 : (i : Int) < Q.length := by omega
    have hget := rowQ_get Q i hiQ
    have hl4 := rowQ_len Q
    have hl5 : i * 4 + 4 ≤ (rowQ Q).length := by omega
    have hq2 : QR Q[i] := hr _ (List.getElem_mem hiQ)
    generalize Q[i] = q at *
    obtain ⟨o, a, b, n0⟩ := q
    obtain ⟨g0, g1, g2, g3, g4⟩ := hq2
    simp only at g0 g1 g2 g3 g4
    have w1 : IntKind.i64.wrap ((i : Int) + 1) = (i : Int) + 1 := by rw [IntKind.wrap_i64]; omega
    unfold cI at hget
    simp -implicitDefEqProofs [h1, hlt, hiQ, hiQ2, hget, hl5]
    have hagain : ∀ (e : Env) (h : List PO), e.get 9 = some (.int .i64 ((i : Int) + 1)) → e.get 0 = some (.slice (some ⟨0, 0, none⟩) Q.length c1) → e.get 1 = some (.slice (some ⟨1, 0, none⟩) B.length c2) → e.get 4 = some (.bool false) → h[0]? = some (.ro (rowQ Q)) → h[1]? = some (.ro (u8s B)) → Again 2 (fun i : Nat => ⟨[(9, .int .i64 (i : Int)), (0, .slice (some ⟨0, 0, none⟩) Q.length c1), (1, .slice (some ⟨1, 0, none⟩) B.length c2), (4, .bool false)], [.ro (rowQ Q), .ro (u8s B)]⟩) (fun i => m - i) (fun i => i ≤ m) (m - i) ⟨e, h⟩ := fun e h k1 k2 k3 k4 k5 k6 => by
      refine Again.mk (i + 1) [0, 1] (show m - (i + 1) < m - i by omega) hlt (Sub.mk' (by decide) (by simp [preOk]) ?_ ?_)
      · simp -implicitDefEqProofs [k5, k6]
        exact ⟨RNs.all (d := 6) (rowQ_flat Q), RNs.all (d := 6) (u8s_flat B)⟩
      · simp -implicitDefEqProofs [k1, k2, k3, k4]
    by_cases ok : okF o a b n0
    · obtain ⟨on, rfl⟩ := Int.eq_ofNat_of_zero_le g0
      refine (fnPrint on a b n0 g1 g2 g3 g4 ok).k ?_
      simp -implicitDefEqProofs
      refine (fnParsePrint on a b n0 g1 g2 g3 g4 ok).k ?_
      simp -implicitDefEqProofs [insV]
      refine pdk_at [] (by kernel_rfl) ?_
      simp -implicitDefEqProofs [hiQ, hiQ2, hget, hl5, insEq, insSame, w1]
      exact hagain _ _ (by simp) (by simp) (by simp) (by simp) rfl rfl
    · refine (fnPrint_bad o a b n0 g0 ok).k ?_
      simp -implicitDefEqProofs [w1]
      exact hagain _ _ (by simp) (by simp) (by simp) (by simp) rfl rfl
  · obtain rfl : i = m := by omega
    simp -implicitDefEqProofs [hlt]
    refine PCq.k (readCode_q (B := B) rfl (.inl rfl) (by omega) hc2 hnb h4 hB) ?_
    simp -implicitDefEqProofs [hk]
    refine PCq.k (code_q0 (Q := qBs B 0 0) (by simp [hcells, hk]) (qBs_rng B 0)) ?_
    simp -implicitDefEqProofs
    refine fnLive3.k ?_
    simp -implicitDefEqProofs [hn0]
theorem back_bad_ok (Q : List QV) (B : List UInt8) (c1 m : Nat) (hc1 : Q.length ≤ c1) (hr : ∀ q ∈ Q, QR q) (hm : min Q.length 60 = m) (hm0 : 0 < m) (hA : ¬ allQ Q m) (c2 : Nat) (hc2 : B.length ≤ c2) (hnb : B.length ≤ 140737488355328) (h4 : B.length % 4 = 0) (hk : 0 < B.length / 4) (hB : allB B 0 B.length) : PC Tryd.prog 4 [.slice (some ⟨0, 0, none⟩) Q.length c1, .slice (some ⟨1, 0, none⟩) B.length c2] [.ro (rowQ Q), .ro (u8s B)] (fun v _ => v = .bool true) fun _ _ => False := by
  have hmQ : m ≤ Q.length := by omega
  have hm4 : 4 * m ≤ 140737488355328 := by omega
  have hd : 4 * (B.length / 4) = B.length := by omega
  have hX : encBs ((qBs B 0 (B.length / 4)).take (B.length / 4)) = B := by
    rw [List.take_of_length_le (by rw [qBs_len]; exact Nat.le_refl _), encBs_qBs B _ (by omega), hd, List.take_of_length_le (Nat.le_refl _)]
  have hT : List.take (4 * (B.length / 4)) (u8s B) = u8s B := List.take_of_length_le (by rw [u8s_len]; omega)
  have hT2 : List.take B.length (u8s B) = u8s B := List.take_of_length_le (by rw [u8s_len]; exact Nat.le_refl _)
  have hle4 : 4 * (B.length / 4) ≤ B.length := by omega
  have hn1 : ¬ B.length = 0 := by omega
  have hn2 : ¬ 4 * (B.length / 4) = 0 := by omega
  refine pc_of Tryd.func4 rfl (by decide) (by kernel_rfl) (by show 2 ≤ _; decide) (SW.of mixed _ _ _ ?_)
  simp -implicitDefEqProofs
  refine PC.ke (few_pc _ 0 _ _ hc1) ?_
  simp -implicitDefEqProofs [hm]
  refine PCq.k (code_qn (Q := Q) rfl hmQ hm4 hr hA) ?_
  simp -implicitDefEqProofs
  refine pwp_loop_st (fun i : Nat => ⟨[(9, .int .i64 (i : Int)), (0, .slice (some ⟨0, 0, none⟩) Q.length c1), (1, .slice (some ⟨1, 0, none⟩) B.length c2), (4, .bool false)], [.ro (rowQ Q), .ro (u8s B)]⟩) (fun i => m - i) (fun i => i ≤ m) 0 [0, 1] (Nat.zero_le _) (Sub.mk' (by decide) (by simp [preOk]) ?_ ?_) ?_
  · simp -implicitDefEqProofs
    exact ⟨RNs.all (d := 6) (rowQ_flat Q), RNs.all (d := 6) (u8s_flat B)⟩
  · simp -implicitDefEqProofs
  rintro i hi
  simp -implicitDefEqProofs
  refine PC.ke (few_pc _ 0 _ _ hc1) ?_
  simp -implicitDefEqProofs [hm]
  by_cases hlt : i < m
  · have h1 : (i : Int) < m := by omega
    have hiQ : i < Q.length := by omega
    have hiQ2 : (i : Int) < Q.length := by omega
    have hget := rowQ_get Q i hiQ
    have hl4 := rowQ_len Q
    have hl5 : i * 4 + 4 ≤ (rowQ Q).length := by omega
    have hq2 : QR Q[i] := hr _ (List.getElem_mem hiQ)
    generalize Q[i] = q at *
    obtain ⟨o, a, b, n0⟩ := q
    obtain ⟨g0, g1, g2, g3, g4⟩ := hq2
    simp only at g0 g1 g2 g3 g4
    have w1 : IntKind.i64.wrap ((i : Int) + 1) = (i : Int) + 1 := by rw [IntKind.wrap_i64]; omega
    unfold cI at hget
    simp -implicitDefEqProofs [h1, hlt, hiQ, hiQ2, hget, hl5]
    have hagain : ∀ (e : Env) (h : List PO), e.get 9 = some (.int .i64 ((i : Int) + 1)) → e.get 0 = some (.slice (some ⟨0, 0, none⟩) Q.length c1) → e.get 1 = some (.slice (some ⟨1, 0, none⟩) B.length c2) → e.get 4 = some (.bool false) → h[0]? = some (.ro (rowQ Q)) → h[1]? = some (.ro (u8s B)) → Again 2 (fun i : Nat => ⟨[(9, .int .i64 (i : Int)), (0, .slice (some ⟨0, 0, none⟩) Q.length c1), (1, .slice (some ⟨1, 0, none⟩) B.length c2), (4, .bool false)], [.ro (rowQ Q), .ro (u8s B)]⟩) (fun i => m - i) (fun i => i ≤ m) (m - i) ⟨e, h⟩ := fun e h k1 k2 k3 k4 k5 k6 => by
      refine Again.mk (i + 1) [0, 1] (show m - (i + 1) < m - i by omega) hlt (Sub.mk' (by decide) (by simp [preOk]) ?_ ?_)
      · simp -implicitDefEqProofs [k5, k6]
        exact ⟨RNs.all (d := 6) (rowQ_flat Q), RNs.all (d := 6) (u8s_flat B)⟩
      · simp -implicitDefEqProofs [k1, k2, k3, k4]
    by_cases ok : okF o a b n0
    · obtain ⟨on, rfl⟩ := Int.eq_ofNat_of_zero_le g0
      refine (fnPrint on a b n0 g1 g2 g3 g4 ok).k ?_
      simp -implicitDefEqProofs
      refine (fnParsePrint on a b n0 g1 g2 g3 g4 ok).k ?_
      simp -implicitDefEqProofs [insV]
      refine pdk_at [] (by kernel_rfl) ?_
      simp -implicitDefEqProofs [hiQ, hiQ2, hget, hl5, insEq, insSame, w1]
      exact hagain _ _ (by simp) (by simp) (by simp) (by simp) rfl rfl
    · refine (fnPrint_bad o a b n0 g0 ok).k ?_
      simp -implicitDefEqProofs [w1]
      exact hagain _ _ (by simp) (by simp) (by simp) (by simp) rfl rfl
  · obtain rfl : i = m := by omega
    simp -implicitDefEqProofs [hlt]
    refine PCq.k (readCode_q (B := B) rfl (.inl rfl) (by omega) hc2 hnb h4 hB) ?_
    simp -implicitDefEqProofs
    refine PCq.k (code_q (Q := qBs B 0 (B.length / 4)) rfl (by rw [qBs_len]; exact Nat.le_refl _) (by omega) hk (qBs_rng B _) (allQ_qBs hB)) ?_
    simp -implicitDefEqProofs [hX]
    refine fnLive3.k ?_
    simp -implicitDefEqProofs [bytesOf_u8s, hT, hT2, hd, hn1, hn2, hle4]
theorem back_bad_bad (Q : List QV) (B : List UInt8) (c1 m : Nat) (hc1 : Q.length ≤ c1) (hr : ∀ q ∈ Q, QR q) (hm : min Q.length 60 = m) (hm0 : 0 < m) (hA : ¬ allQ Q m) (c2 : Nat) (hc2 : B.length ≤ c2) (hnb : B.length ≤ 140737488355328) (h4 : B.length % 4 = 0) (hB : ¬ allB B 0 B.length) : PC Tryd.prog 4 [.slice (some ⟨0, 0, none⟩) Q.length c1, .slice (some ⟨1, 0, none⟩) B.length c2] [.ro (rowQ Q), .ro (u8s B)] (fun v _ => v = .bool true) fun _ _ => False := by
  have hmQ : m ≤ Q.length := by omega
  have hm4 : 4 * m ≤ 140737488355328 := by omega
  refine pc_of Tryd.func4 rfl (by decide) (by kernel_rfl) (by show 2 ≤ _; decide) (SW.of mixed _ _ _ ?_)
  simp -implicitDefEqProofs
  refine PC.ke (few_pc _ 0 _ _ hc1) ?_
  simp -implicitDefEqProofs [hm]
  refine PCq.k (code_qn (Q := Q) rfl hmQ hm4 hr hA) ?_
  simp -implicitDefEqProofs
  refine pwp_loop_st (fun i : Nat => ⟨[(9, .int .i64 (i : Int)), (0, .slice (some ⟨0, 0, none⟩) Q.length c1), (1, .slice (some ⟨1, 0, none⟩) B.length c2), (4, .bool false)], [.ro (rowQ Q), .ro (u8s B)]⟩) (fun i => m - i) (fun i => i ≤ m) 0 [0, 1] (Nat.zero_le _) (Sub.mk' (by decide) (by simp [preOk]) ?_ ?_) ?_
  · simp -implicitDefEqProofs
    exact ⟨RNs.all (d := 6) (rowQ_flat Q), RNs.all (d := 6) (u8s_flat B)⟩
  · simp -implicitDefEqProofs
  rintro i hi
  simp -implicitDefEqProofs
  refine PC.ke (few_pc _ 0 _ _ hc1) ?_
  simp -implicitDefEqProofs [hm]
  by_cases hlt : i < m
  · have h1 : (i : Int) < m := by omega
    have hiQ : i < Q.length := by omega
    have hiQ2 : (i : Int) < Q.length := by omega
    have hget := rowQ_get Q i hiQ
    have hl4 := rowQ_len Q
    have hl5 : i * 4 + 4 ≤ (rowQ Q).length := by omega
    have hq2 : QR Q[i] := hr _ (List.getElem_mem hiQ)
    generalize Q[i] = q at *
    obtain ⟨o, a, b, n0⟩ := q
    obtain ⟨g0, g1, g2, g3, g4⟩ := hq2
    simp only at g0 g1 g2 g3 g4
    have w1 : IntKind.i64.wrap ((i : Int) + 1) = (i : Int) + 1 := by rw [IntKind.wrap_i64]; omega
    unfold cI at hget
    simp -implicitDefEqProofs [h1, hlt, hiQ, hiQ2, hget, hl5]
    have hagain : ∀ (e : Env) (h : List PO), e.get 9 = some (.int .i64 ((i : Int) + 1)) → e.get 0 = some (.slice (some ⟨0, 0, none⟩) Q.length c1) → e.get 1 = some (.slice (some ⟨1, 0, none⟩) B.length c2) → e.get 4 = some (.bool false) → h[0]? = some (.ro (rowQ Q)) → h[1]? = some (.ro (u8s B)) → Again 2 (fun i : Nat => ⟨[(9, .int .i64 (i : Int)), (0, .slice (some ⟨0, 0, none⟩) Q.length c1), (1, .slice (some ⟨1, 0, none⟩) B.length c2), (4, .bool false)], [.ro (rowQ Q), .ro (u8s B)]⟩) (fun i => m - i) (fun i => i ≤ m) (m - i) ⟨e, h⟩ := fun e h k1 k2 k3 k4 k5 k6 => by
      refine Again.mk (i + 1) [0, 1] (show m - (i + 1) < m - i by omega) hlt (Sub.mk' (by decide) (by simp [preOk]) ?_ ?_)
      · simp -implicitDefEqProofs [k5, k6]
        exact ⟨RNs.all (d := 6) (rowQ_flat Q), RNs.all (d := 6) (u8s_flat B)⟩
      · simp -implicitDefEqProofs [k1, k2, k3, k4]
    by_cases ok : okF o a b n0
    · obtain ⟨on, rfl⟩ := Int.eq_ofNat_of_zero_le g0
      refine (fnPrint on a b n0 g1 g2 g3 g4 ok).k ?_
      simp -implicitDefEqProofs
      refine (fnParsePrint on a b n0 g1 g2 g3 g4 ok).k ?_
      simp -implicitDefEqProofs [insV]
      refine pdk_at [] (by kernel_rfl) ?_
      simp -implicitDefEqProofs [hiQ, hiQ2, hget, hl5, insEq, insSame, w1]
      exact hagain _ _ (by simp) (by simp) (by simp) (by simp) rfl rfl
    · refine (fnPrint_bad o a b n0 g0 ok).k ?_
      simp -implicitDefEqProofs [w1]
      exact hagain _ _ (by simp) (by simp) (by simp) (by simp) rfl rfl
  · obtain rfl : i = m := by omega
    simp -implicitDefEqProofs [hlt]
    refine PCq.k (readCode_qn (B := B) rfl (.inl rfl) (by omega) hc2 hnb h4 hB) ?_
    simp -implicitDefEqProofs
    refine fnLive3.k ?_
    simp -implicitDefEqProofs
end Go.Proofs.YtjopikjefpenkaaDoor

/- Bytes out of instructions out of bytes, and the other way round: plain laws. -/
import Derived.Test.YtjopikjefpenkaaDoorGi
set_option linter.unusedSimpArgs false
set_option linter.unusedVariables false
set_option linter.unusedSectionVars false
namespace Go.Proofs.YtjopikjefpenkaaDoor
open Go.RowKit
set_option maxRecDepth 100000
set_option maxHeartbeats 8000000
theorem encBs_get : ∀ (Q : List QV) (i r : Nat) (h : i < Q.length), r < 4 → (encBs Q).getD (4 * i + r) 0 = (encB Q[i]).getD r 0
  | q :: Q, 0, r, _, hr => by
    have : (encB q).length = 4 := rfl
    rw [encBs, Nat.mul_zero, Nat.zero_add, List.getD_eq_getElem?_getD, List.getElem?_append_left (by omega), List.getD_eq_getElem?_getD]
    rfl
  | q :: Q, i + 1, r, h, hr => by
    have hl : (encB q).length = 4 := rfl
    have ih := encBs_get Q i r (by simpa using h) hr
    rw [encBs, List.getD_eq_getElem?_getD, List.getElem?_append_right (by omega), hl, show 4 * (i + 1) + r - 4 = 4 * i + r by omega, ← List.getD_eq_getElem?_getD, ih]
    rfl
theorem byt_enc {Q : List QV} {i : Nat} (h : i < Q.length) (hr : QR Q[i]) (ok : qok Q[i]) : byt (encBs Q) (4 * i) = Q[i].1 ∧ byt (encBs Q) (4 * i + 1) = Q[i].2.1 * 16 + Q[i].2.2.1 ∧ byt (encBs Q) (4 * i + 2) = Q[i].2.2.2 / 256 ∧ byt (encBs Q) (4 * i + 3) = Q[i].2.2.2 % 256 := by
  have g := fun r hr => encBs_get Q i r h hr
  have g0 := g 0 (by decide)
  rw [Nat.add_zero] at g0
  generalize Q[i] = q at *
  obtain ⟨h0, h1, h2, h3, h4⟩ := hr
  have k0 : q.1 ≤ 23 := ok.1
  have k1 : q.2.1 < 8 := ok.2.1
  have k2 : q.2.2.1 < 8 := ok.2.2.1
  unfold byt
  rw [g0, g 1 (by decide), g 2 (by decide), g 3 (by decide)]
  exact ⟨u8_of h0 (by omega), u8_of (by omega) (by omega), u8_of (by omega) (by omega), u8_of (by omega) (by omega)⟩
theorem qB_enc {Q : List QV} {i : Nat} (h : i < Q.length) (hr : QR Q[i]) (ok : qok Q[i]) : qB (encBs Q) 0 i = Q[i] := by
  obtain ⟨e0, e1, e2, e3⟩ := byt_enc h hr ok
  unfold qB
  rw [Nat.zero_add, e0, e1, e2, e3]
  generalize Q[i] = q at *
  obtain ⟨h0, h1, h2, h3, h4⟩ := hr
  have k1 : q.2.1 < 8 := ok.2.1
  have k2 : q.2.2.1 < 8 := ok.2.2.1
  obtain ⟨o, a, b, n⟩ := q
  simp only at *
  refine Prod.ext rfl (Prod.ext ?_ (Prod.ext ?_ ?_)) <;> simp only <;> omega
theorem okB_q (B : List UInt8) (j : Nat) : okB B (0 + 4 * j) ↔ qok (qB B 0 j) := Iff.rfl
theorem allB_enc {Q : List QV} (hr : ∀ q ∈ Q, QR q) (ha : allQ Q Q.length) : allB (encBs Q) 0 (4 * Q.length) := fun j hj => by
  have hj2 : j < Q.length := by omega
  rw [okB_q, qB_enc hj2 (hr _ (List.getElem_mem hj2)) (ha j hj2 hj2)]
  exact ha j hj2 hj2
theorem allQ_qBs {B : List UInt8} {n : Nat} (h : allB B 0 n) : allQ (qBs B 0 (n / 4)) (n / 4) := fun i hi hm => by
  rw [qBs_get]
  exact (okB_q B i).1 (h i hm)
theorem qBs_rng (B : List UInt8) (k : Nat) : ∀ q ∈ qBs B 0 k, QR q := fun q hq => by
  obtain ⟨j, _, rfl⟩ := List.mem_map.1 hq
  exact qB_rng B 0 j
theorem encB_qB (B : List UInt8) (j : Nat) (h : 4 * j + 4 ≤ B.length) : encB (qB B 0 j) = (B.drop (4 * j)).take 4 := by
  have hg : ∀ i (hi : i < B.length), B.getD i 0 = B[i]'hi := fun i hi => by rw [List.getD_eq_getElem?_getD, List.getElem?_eq_getElem hi]; rfl
  have e : (B.drop (4 * j)).take 4 = [B.getD (4 * j) 0, B.getD (4 * j + 1) 0, B.getD (4 * j + 2) 0, B.getD (4 * j + 3) 0] := by
    rw [hg _ (by omega), hg _ (by omega), hg _ (by omega), hg _ (by omega), List.drop_eq_getElem_cons (by omega), List.take_succ_cons, List.drop_eq_getElem_cons (by omega), List.take_succ_cons, List.drop_eq_getElem_cons (by omega), List.take_succ_cons, List.drop_eq_getElem_cons (by omega), List.take_succ_cons, List.take_zero]
  have b : ∀ i x, x = byt B i → UInt8.ofNat x.toNat = B.getD i 0 := fun i x hx => by
    rw [hx]
    apply UInt8.toNat_inj.1
    have := (B.getD i 0).toNat_lt
    unfold byt
    rw [UInt8.toNat_ofNat']; omega
  rw [e]
  have l2 := byt_le B (4 * j + 2)
  have l3 := byt_le B (4 * j + 3)
  have g1 := byt_ge B (4 * j + 1)
  have g2 := byt_ge B (4 * j + 2)
  have g3 := byt_ge B (4 * j + 3)
  unfold encB qB
  rw [Nat.zero_add]
  simp only
  rw [b (4 * j) _ rfl, b (4 * j + 1) _ (by omega), b (4 * j + 2) _ (by omega), b (4 * j + 3) _ (by omega)]
theorem encBs_qBs (B : List UInt8) : ∀ k, 4 * k ≤ B.length → encBs (qBs B 0 k) = B.take (4 * k)
  | 0, _ => rfl
  | k + 1, h => by
    rw [qBs_succ, encBs_app, encBs_qBs B k (by omega), show encBs [qB B 0 k] = encB (qB B 0 k) ++ [] from rfl, List.append_nil, encB_qB B k (by omega), show 4 * (k + 1) = 4 * k + 4 by omega, List.take_add]
end Go.Proofs.YtjopikjefpenkaaDoor

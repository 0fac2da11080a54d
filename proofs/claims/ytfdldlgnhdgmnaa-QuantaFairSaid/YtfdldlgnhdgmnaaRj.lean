/- QuantaFair: the plain law. -/
import Derived.Test.YtfdldlgnhdgmnaaRi
namespace Go.Proofs.Ytfdldlgnhdgmnaa
open Go.RowKit

theorem placesTo_lt (pl : List Int) (e : Int) (k : Nat) : ∀ x, x ∈ placesTo pl e k → x < k := fun x hx => ((placesTo_mem pl e k x).1 hx).2.1
theorem placesTo_sorted (pl : List Int) (e : Int) (k : Nat) : (placesTo pl e k).Pairwise (· < ·) := by
  induction k with
  | zero => exact List.Pairwise.nil
  | succ k ih =>
    simp only [placesTo]
    split
    · rw [List.pairwise_append]
      exact ⟨ih, List.pairwise_singleton _ _, fun a ha b hb => by rw [List.mem_singleton] at hb; subst hb; exact placesTo_lt pl e k a ha⟩
    · exact ih
theorem not_mem_take (l : List Int) (h : l.Pairwise (· < ·)) (k : Nat) (hk : k < l.length) : rd l k ∉ l.take k := by
  intro hm
  have e : rd l k = l[k] := by simp [rd, List.getD, List.getElem?_eq_getElem hk]
  rw [e] at hm
  obtain ⟨i, hi, he⟩ := List.mem_take_iff_getElem.1 hm
  have hi' : i < k := by omega
  have := List.pairwise_iff_getElem.1 h i k (by omega) hk hi'
  omega
theorem mem_take_succ (l : List Int) (k : Nat) (hk : k < l.length) (x : Int) : x ∈ l.take (k + 1) ↔ x ∈ l.take k ∨ x = rd l k := by
  have e : rd l k = l[k] := by simp [rd, List.getD, List.getElem?_eq_getElem hk]
  rw [List.take_succ_eq_append_getElem hk, List.mem_append, List.mem_singleton, e]

def cntE (pl : List Int) (s e : Int) : Nat → Nat
  | 0 => 0
  | T + 1 => cntE pl s e T + if rd pl ((s + 1 + T) % 8) = e then 1 else 0
def heldS (pl : List Int) (s : Int) : Nat → Nat
  | 0 => 0
  | T + 1 => heldS pl s T + if rd pl ((s + 1 + T) % 8) = 6 then 0 else 1
theorem cntE_succ (pl : List Int) (s e : Int) (T : Nat) : cntE pl s e (T + 1) = cntE pl s e T + if rd pl ((s + 1 + T) % 8) = e then 1 else 0 := rfl
theorem heldS_succ (pl : List Int) (s : Int) (T : Nat) : heldS pl s (T + 1) = heldS pl s T + if rd pl ((s + 1 + T) % 8) = 6 then 0 else 1 := rfl
def cg (g : Int → Nat) (s : Int) : Nat → Nat
  | 0 => 0
  | T + 1 => cg g s T + g ((s + 1 + T) % 8)
theorem cg8 (g : Int → Nat) (s : Int) (h0 : 0 ≤ s) (h1 : s < 8) : cg g s 8 = g 0 + g 1 + g 2 + g 3 + g 4 + g 5 + g 6 + g 7 := by
  have hs : s = 0 ∨ s = 1 ∨ s = 2 ∨ s = 3 ∨ s = 4 ∨ s = 5 ∨ s = 6 ∨ s = 7 := by omega
  rcases hs with rfl | rfl | rfl | rfl | rfl | rfl | rfl | rfl
  · have : cg g 0 8 = 0 + g 1 + g 2 + g 3 + g 4 + g 5 + g 6 + g 7 + g 0 := rfl
    omega
  · have : cg g 1 8 = 0 + g 2 + g 3 + g 4 + g 5 + g 6 + g 7 + g 0 + g 1 := rfl
    omega
  · have : cg g 2 8 = 0 + g 3 + g 4 + g 5 + g 6 + g 7 + g 0 + g 1 + g 2 := rfl
    omega
  · have : cg g 3 8 = 0 + g 4 + g 5 + g 6 + g 7 + g 0 + g 1 + g 2 + g 3 := rfl
    omega
  · have : cg g 4 8 = 0 + g 5 + g 6 + g 7 + g 0 + g 1 + g 2 + g 3 + g 4 := rfl
    omega
  · have : cg g 5 8 = 0 + g 6 + g 7 + g 0 + g 1 + g 2 + g 3 + g 4 + g 5 := rfl
    omega
  · have : cg g 6 8 = 0 + g 7 + g 0 + g 1 + g 2 + g 3 + g 4 + g 5 + g 6 := rfl
    omega
  · have : cg g 7 8 = 0 + g 0 + g 1 + g 2 + g 3 + g 4 + g 5 + g 6 + g 7 := rfl
    omega
theorem cntE_cg (pl : List Int) (s e : Int) (T : Nat) : cntE pl s e T = cg (fun x => if rd pl x = e then 1 else 0) s T := by
  induction T with
  | zero => rfl
  | succ T ih => rw [cntE_succ, ih]; rfl
theorem heldS_cg (pl : List Int) (s : Int) (T : Nat) : heldS pl s T = cg (fun x => if rd pl x = 6 then 0 else 1) s T := by
  induction T with
  | zero => rfl
  | succ T ih => rw [heldS_succ, ih]; rfl
theorem cntE_per (pl : List Int) (s e : Int) (T : Nat) : cntE pl s e (8 + T) = cntE pl s e 8 + cntE pl s e T := by
  induction T with
  | zero => rfl
  | succ T ih =>
    rw [show 8 + (T + 1) = (8 + T) + 1 by omega, cntE_succ, cntE_succ, ih, show (s + 1 + ((8 + T : Nat) : Int)) % 8 = (s + 1 + T) % 8 by omega]
    exact Nat.add_assoc _ _ _
theorem heldS_per (pl : List Int) (s : Int) (T : Nat) : heldS pl s (8 + T) = heldS pl s 8 + heldS pl s T := by
  induction T with
  | zero => rfl
  | succ T ih =>
    rw [show 8 + (T + 1) = (8 + T) + 1 by omega, heldS_succ, heldS_succ, ih, show (s + 1 + ((8 + T : Nat) : Int)) % 8 = (s + 1 + T) % 8 by omega]
    exact Nat.add_assoc _ _ _
theorem cntE_mul (pl : List Int) (s e : Int) (a b : Nat) : cntE pl s e (8 * a + b) = a * cntE pl s e 8 + cntE pl s e b := by
  induction a with
  | zero => simp
  | succ a ih => rw [show 8 * (a + 1) + b = 8 + (8 * a + b) by omega, cntE_per, ih, Nat.add_mul]; omega
theorem heldS_mul (pl : List Int) (s : Int) (a b : Nat) : heldS pl s (8 * a + b) = a * heldS pl s 8 + heldS pl s b := by
  induction a with
  | zero => simp
  | succ a ih => rw [show 8 * (a + 1) + b = 8 + (8 * a + b) by omega, heldS_per, ih, Nat.add_mul]; omega
theorem heldS_mono (pl : List Int) (s : Int) (a d : Nat) : heldS pl s a ≤ heldS pl s (a + d) := by
  induction d with
  | zero => exact Nat.le_refl _
  | succ d ih => show _ ≤ heldS pl s (a + d) + _; omega
theorem cntE_same (pl : List Int) (s e : Int) (he : e ≠ 6) (a d : Nat) (h : heldS pl s (a + d) = heldS pl s a) : cntE pl s e (a + d) = cntE pl s e a := by
  induction d with
  | zero => rfl
  | succ d ih =>
    have h' : heldS pl s (a + d) + (if rd pl ((s + 1 + (a + d : Nat)) % 8) = 6 then 0 else 1) = heldS pl s a := h
    have hm := heldS_mono pl s a d
    have h6 : rd pl ((s + 1 + (a + d : Nat)) % 8) = 6 := by
      by_cases h6 : rd pl ((s + 1 + (a + d : Nat)) % 8) = 6
      · exact h6
      · rw [if_neg h6] at h'; omega
    rw [if_pos h6] at h'
    show cntE pl s e (a + d) + (if rd pl ((s + 1 + (a + d : Nat)) % 8) = e then 1 else 0) = _
    rw [ih (by omega), if_neg (by omega)]
    rfl
theorem lenTo_succ (pl : List Int) (e : Int) (k : Nat) : (placesTo pl e (k + 1)).length = (placesTo pl e k).length + if rd pl k = e then 1 else 0 := by
  simp only [placesTo]; split <;> simp
def cp (g : Int → Nat) : Nat → Nat
  | 0 => 0
  | k + 1 => cp g k + g k
theorem cp8 (g : Int → Nat) : cp g 8 = 0 + g 0 + g 1 + g 2 + g 3 + g 4 + g 5 + g 6 + g 7 := rfl
theorem lenTo_cp (pl : List Int) (e : Int) (k : Nat) : (placesTo pl e k).length = cp (fun x => if rd pl x = e then 1 else 0) k := by
  induction k with
  | zero => rfl
  | succ k ih => rw [lenTo_succ, ih]; rfl
theorem cnt8 (pl : List Int) (s e : Int) (h0 : 0 ≤ s) (h1 : s < 8) : cntE pl s e 8 = (placesTo pl e 8).length := by
  rw [cntE_cg, cg8 _ s h0 h1, lenTo_cp, cp8, Nat.zero_add]
theorem held8 (pl : List Int) (s : Int) (h0 : 0 ≤ s) (h1 : s < 8) : heldS pl s 8 = heldTo pl 8 := by
  rw [heldS_cg, cg8 _ s h0 h1]
  simp only [heldTo, Nat.zero_add]
  rfl
/-- Each has as many turns as it has places. -/
theorem fair_law (pl : List Int) (s e : Int) (h0 : 0 ≤ s) (h1 : s < 8) (he : e ≠ 6) (n T : Nat) (h : heldS pl s T = n * heldTo pl 8) (hpos : 0 < heldTo pl 8) : cntE pl s e T = n * (placesTo pl e 8).length := by
  rw [← held8 pl s h0 h1] at h hpos
  rw [← cnt8 pl s e h0 h1]
  obtain ⟨a, b, rfl, hb⟩ : ∃ a b, T = 8 * a + b ∧ b < 8 := ⟨T / 8, T % 8, by omega, by omega⟩
  rw [heldS_mul] at h
  rw [cntE_mul]
  have hle : heldS pl s b ≤ heldS pl s 8 := by have := heldS_mono pl s b (8 - b); rwa [show b + (8 - b) = 8 by omega] at this
  generalize hA : heldS pl s 8 = A at *
  rcases Nat.lt_trichotomy n a with h2 | rfl | h2
  · have := Nat.mul_le_mul_right A (show n + 1 ≤ a by omega)
    rw [Nat.add_mul] at this; omega
  · have hz : heldS pl s b = 0 := by omega
    have := cntE_same pl s e he 0 b (by rw [Nat.zero_add, hz]; rfl)
    rw [Nat.zero_add] at this
    rw [this]; rfl
  · have h3 : n = a + 1 := by
      rcases Nat.lt_or_ge (a + 1) n with h4 | h4
      · have := Nat.mul_le_mul_right A (show a + 2 ≤ n by omega)
        rw [Nat.add_mul] at this; omega
      · omega
    subst h3
    rw [Nat.add_mul] at h ⊢
    have hz : heldS pl s b = A := by omega
    have := cntE_same pl s e he b (8 - b) (by rw [show b + (8 - b) = 8 by omega, hA, hz])
    rw [show b + (8 - b) = 8 by omega] at this
    rw [this]; omega
theorem heldTo_pos (pl : List Int) (h : 0 < heldTo pl 8) (s : Int) (h0 : 0 ≤ s) : ∃ j : Nat, j < 8 ∧ rd pl ((s + 1 + j) % 8) ≠ 6 := by
  have key : ∀ k : Nat, k ≤ 8 → 0 < heldTo pl k → ∃ i : Nat, i < k ∧ rd pl i ≠ 6 := by
    intro k
    induction k with
    | zero => intro _ h; exact absurd h (by simp [heldTo])
    | succ k ih =>
      intro hk h
      by_cases h6 : rd pl k = 6
      · simp only [heldTo, if_pos h6] at h
        obtain ⟨i, hi, hne⟩ := ih (by omega) (by omega)
        exact ⟨i, by omega, hne⟩
      · exact ⟨k, by omega, h6⟩
  obtain ⟨i, hi, hne⟩ := key 8 (by omega) h
  refine ⟨(((i : Int) - s - 1) % 8).toNat, by omega, ?_⟩
  rw [show (s + 1 + (((((i : Int) - s - 1) % 8).toNat : Nat) : Int)) % 8 = i by omega]
  exact hne
/-- The first held place behind one. -/
theorem first_held (pl : List Int) (q : Int) (j : Nat) (hne : rd pl ((q + j) % 8) ≠ 6) : ∃ i : Nat, i ≤ j ∧ rd pl ((q + i) % 8) ≠ 6 ∧ ∀ i' : Nat, i' < i → rd pl ((q + i') % 8) = 6 := by
  induction j using Nat.strongRecOn with
  | _ j ih =>
    by_cases h : ∃ i' : Nat, i' < j ∧ rd pl ((q + i') % 8) ≠ 6
    · obtain ⟨i', hi, hn⟩ := h
      obtain ⟨i, h1, h2, h3⟩ := ih i' hi hn
      exact ⟨i, by omega, h2, h3⟩
    · exact ⟨j, Nat.le_refl _, hne, fun i' hi => Classical.byContradiction fun hc => h ⟨i', hi, hc⟩⟩
theorem turn_skip (m : QM) (i : Nat) (hi : i ≤ 8) (h : ∀ i' : Nat, i' < i → rd m.pl ((m.now + 1 + i') % 8) = 6) : m.turn = turnL m (m.rounds.drop i) := by
  induction i with
  | zero => rfl
  | succ i ih =>
    rw [ih (by omega) (fun i' h' => h i' (by omega)), rounds_get m i (by omega)]
    simp only [turnL]
    rw [if_pos (h i (by omega))]
theorem turn_at (m : QM) (i : Nat) (hi : i < 8) (h : ∀ i' : Nat, i' < i → rd m.pl ((m.now + 1 + i') % 8) = 6) (hne : rd m.pl ((m.now + 1 + i) % 8) ≠ 6) (hz : rd m.pe (rd m.pl ((m.now + 1 + i) % 8)) = 0) :
    m.turn = (((m.now + 1 + i) % 8, rd m.pl ((m.now + 1 + i) % 8), true), { m with now := (m.now + 1 + i) % 8 }) := by
  rw [turn_skip m i (by omega) h, rounds_get m i hi]
  simp only [turnL]
  rw [if_neg hne, hz, if_neg (by omega)]
theorem turn_nobody (m : QM) (h : ∀ i : Int, 0 ≤ i → i < 8 → rd m.pl i = 6) : m.turn.1 = (0, 0, false) := by
  rw [turn_skip m 8 (by omega) (fun i' _ => h _ (by omega) (by omega)), List.drop_eq_nil_of_le (by rw [rounds_len]; omega)]
  rfl
/-- Passing over places that are nobody's. -/
theorem cnt_pass (pl : List Int) (s e : Int) (he : e ≠ 6) (T i : Nat) (h : ∀ i' : Nat, i' < i → rd pl ((s + 1 + (T + i' : Nat)) % 8) = 6) : cntE pl s e (T + i) = cntE pl s e T ∧ heldS pl s (T + i) = heldS pl s T := by
  induction i with
  | zero => exact ⟨rfl, rfl⟩
  | succ i ih =>
    obtain ⟨h1, h2⟩ := ih (fun i' h' => h i' (by omega))
    have h6 := h i (by omega)
    rw [show T + (i + 1) = (T + i) + 1 by omega, cntE_succ, heldS_succ, h1, h2, if_pos h6, h6, if_neg (fun h => he h.symm)]
    exact ⟨rfl, rfl⟩
/-- One turn, where none has a penalty. -/
theorem fair_step (m : QM) (hm : m.Ok) (hz : ∀ i : Int, 0 ≤ i → i < 6 → rd m.pe i = 0) (s : Int) (h0 : 0 ≤ s) (T : Nat) (hnow : m.now = (s + T) % 8) (hpos : 0 < heldTo m.pl 8) :
    ∃ (i e : Int) (T' : Nat), m.turn = ((i, e, true), { m with now := i }) ∧ 0 ≤ e ∧ e < 6 ∧ i = (s + T') % 8 ∧ heldS m.pl s T' = heldS m.pl s T + 1 ∧ ∀ e', e' ≠ 6 → cntE m.pl s e' T' = cntE m.pl s e' T + if e' = e then 1 else 0 := by
  obtain ⟨j, hj, hne⟩ := heldTo_pos m.pl hpos m.now hm.now0
  obtain ⟨i, hi, hne, hall⟩ := first_held m.pl (m.now + 1) j hne
  have hr := hm.plr' ((m.now + 1 + i) % 8) (by omega) (by omega)
  have eq : ∀ i' : Nat, (m.now + 1 + (i' : Int)) % 8 = (s + 1 + (T + i' : Nat)) % 8 := fun i' => by omega
  refine ⟨_, _, T + i + 1, turn_at m i (by omega) hall hne (hz _ hr.1 (by omega)), hr.1, by omega, by omega, ?_, fun e' he' => ?_⟩
  · show heldS m.pl s (T + i) + _ = _
    have := (cnt_pass m.pl s 0 (by omega) T i (fun i' h' => by rw [← eq]; exact hall i' h')).2
    rw [this, ← eq, if_neg hne]
  · show cntE m.pl s e' (T + i) + _ = _
    have := (cnt_pass m.pl s e' he' T i (fun i' h' => by rw [← eq]; exact hall i' h')).1
    rw [this, ← eq]
    congr 1
    by_cases h : rd m.pl ((m.now + 1 + i) % 8) = e'
    · rw [if_pos h, if_pos h.symm]
    · rw [if_neg h, if_neg (fun h' => h h'.symm)]
end Go.Proofs.Ytfdldlgnhdgmnaa

/- QuantaCosts: the plain law, and the walk. -/
import Derived.Test.YtfdldlgnhdgmnaaQf
namespace Go.Proofs.Ytfdldlgnhdgmnaa
open Go.RowKit Go.Shelf

def st (p now : Int) : QM := ⟨[6, 6, 0, 6, 6, 1, 6, 6], [p, 0, 0, 0, 0, 0], now⟩
def qmA : QM := ⟨[6, 6, 0, 6, 6, 6, 6, 6], List.replicate 6 0, 7⟩
theorem cost1 : qm0.take 0 2 = (0, qmA) := by rfl
theorem cost2 : qmA.take 1 5 = (0, st 0 7) := by rfl
theorem cost3 (s : Int) (h0 : 0 ≤ s) (h1 : s ≤ 255) : (st 0 7).over 0 s = (0, st (max (s - 4) 0) 7) := by
  have e : overP 0 s = max (s - 4) 0 := by unfold overP; omega
  simp only [QM.over, st]
  rw [if_neg (by omega), if_neg (by omega)]
  simp only [rd, Int.toNat_zero, List.getD_cons_zero, e]; rfl
theorem rounds7 (p : Int) : (st p 7).rounds = [(0, 6), (1, 6), (2, 0), (3, 6), (4, 6), (5, 1), (6, 6), (7, 6)] := rfl
theorem rounds5 (p : Int) : (st p 5).rounds = [(6, 6), (7, 6), (0, 6), (1, 6), (2, 0), (3, 6), (4, 6), (5, 1)] := rfl
theorem rounds2 (p : Int) : (st p 2).rounds = [(3, 6), (4, 6), (5, 1), (6, 6), (7, 6), (0, 6), (1, 6), (2, 0)] := rfl
theorem turn_pay (p now : Int) (hp : 0 < p) (hn : now = 7 ∨ now = 5) : (st p now).turn = ((5, 1, true), st (p - 1) 5) := by
  have h0 : rd (st p now).pe 0 = p := rfl
  rcases hn with rfl | rfl
  · simp only [QM.turn, rounds7, turnL, if_true]
    rw [if_neg (by decide), h0, if_pos hp]; rfl
  · simp only [QM.turn, rounds5, turnL, if_true]
    rw [if_neg (by decide), h0, if_pos hp]; rfl
theorem turn_own (now : Int) (hn : now = 7 ∨ now = 5) : (st 0 now).turn = ((2, 0, true), st 0 2) := by
  rcases hn with rfl | rfl <;> rfl
theorem turn_other : (st 0 2).turn = ((5, 1, true), st 0 5) := rfl

/-- The state behind i turns. -/
def costS (p i : Int) : QM := if i ≤ p then st (p - i) (if i = 0 then 7 else 5) else st 0 (if (i - p) % 2 = 1 then 2 else 5)
def costF (p i : Int) : Int := if i ≤ p then 0 else (i - p + 1) / 2
theorem costS_lo (p i : Int) (h : i ≤ p) : costS p i = st (p - i) (if i = 0 then 7 else 5) := if_pos h
theorem costS_odd (p i : Int) (h : p < i) (h1 : (i - p) % 2 = 1) : costS p i = st 0 2 := by unfold costS; rw [if_neg (by omega : ¬ i ≤ p), if_pos h1]
theorem costS_even (p i : Int) (h : p < i) (h1 : ¬ (i - p) % 2 = 1) : costS p i = st 0 5 := by unfold costS; rw [if_neg (by omega : ¬ i ≤ p), if_neg h1]
theorem cost_now (i : Int) : (if i = 0 then (7 : Int) else 5) = 7 ∨ (if i = 0 then (7 : Int) else 5) = 5 := by split <;> simp
theorem cost_step (p i : Int) (hp : 0 ≤ p) (hi : 0 ≤ i) : ∃ pl e, (costS p i).turn = ((pl, e, true), costS p (i + 1)) ∧ costF p (i + 1) = costF p i + (if e = 0 then 1 else 0) ∧ (e = 0 ∨ e = 1) := by
  by_cases h : i < p
  · refine ⟨5, 1, ?_, ?_, by omega⟩
    · rw [costS_lo p i (by omega), costS_lo p (i + 1) (by omega), turn_pay _ _ (by omega) (cost_now i), if_neg (by omega : ¬ i + 1 = 0), show p - i - 1 = p - (i + 1) by omega]
    · unfold costF; rw [if_pos (by omega : i + 1 ≤ p), if_pos (by omega : i ≤ p)]; rfl
  · by_cases h2 : i = p
    · subst h2
      refine ⟨2, 0, ?_, ?_, by omega⟩
      · rw [costS_lo i i (by omega), costS_odd i (i + 1) (by omega) (by omega), show i - i = 0 by omega, turn_own _ (cost_now i)]
      · unfold costF; rw [if_neg (by omega : ¬ i + 1 ≤ i), if_pos (by omega : i ≤ i)]; simp; omega
    · by_cases h3 : (i - p) % 2 = 1
      · refine ⟨5, 1, ?_, ?_, by omega⟩
        · rw [costS_odd p i (by omega) h3, costS_even p (i + 1) (by omega) (by omega), turn_other]
        · unfold costF; rw [if_neg (by omega : ¬ i + 1 ≤ p), if_neg (by omega : ¬ i ≤ p)]; simp; omega
      · refine ⟨2, 0, ?_, ?_, by omega⟩
        · rw [costS_even p i (by omega) h3, costS_odd p (i + 1) (by omega) (by omega), turn_own _ (by simp)]
        · unfold costF; rw [if_neg (by omega : ¬ i + 1 ≤ p), if_neg (by omega : ¬ i ≤ p)]; simp; omega
theorem costS_0 (p : Int) (hp : 0 ≤ p) : costS p 0 = st p 7 := by unfold costS; rw [if_pos hp]; simp
theorem costF_0 (p : Int) (hp : 0 ≤ p) : costF p 0 = 0 := by unfold costF; rw [if_pos hp]
theorem costF_range (p i : Int) (hp : 0 ≤ p) (hi : 0 ≤ i) (h : i ≤ 200) : 0 ≤ costF p i ∧ costF p i ≤ 200 := by unfold costF; split <;> omega
theorem Over_to {w b b1 b2 m} (hv : VecAt w b b1 b2 m) (env s r : Int) (m' : QM) (he : 0 ≤ env) (h : m.over env s = (r, m')) :
    Calls Try.prog 12 #[.pointer (some ⟨b, 0, none⟩), .int .u8 env, .int .i64 s] w (Left b b1 b2 w (.int .i64 r) m') := by
  have := Over_ok hv env s he
  rw [h] at this; exact this
theorem Penalty_to {w b b1 b2 m} (hv : VecAt w b b1 b2 m) (env r : Int) (he : 0 ≤ env) (h : m.penalty env = r) :
    Calls Try.prog 13 #[.pointer (some ⟨b, 0, none⟩), .int .u8 env] w fun e w' => e = .returned (.int .i64 r) ∧ w = w' := h ▸ Penalty_ok hv env he

set_option maxRecDepth 100000 in
theorem costs_walk (a0 a1 : Int) (h0 : 0 ≤ a0) (h0' : a0 ≤ 255) (h1 : 0 ≤ a1) (h1' : a1 ≤ 255) (w : World) :
    Calls Try.prog 3 #[.int .u8 a0, .int .u8 a1] w fun e w' => e = .returned (.bool true) ∧ Below w.heap.size w w' := by
  go_enter Try.func3, Try.ntmps3
  go_wp2_with fail
  refine (New_ok _).mono ?_
  rintro e w1 ⟨b, b1, b2, rfl, hv, hb, l0, l1, l2⟩
  have T := Take_to hv _ _ _ _ (by omega) cost1
  clear hv
  go_wp2_with fail
  refine T.mono ?_
  rintro e w2 ⟨rfl, hv, ho1⟩
  clear T
  have T := Take_to hv _ _ _ _ (by omega) cost2
  clear hv
  go_wp2_with fail
  refine T.mono ?_
  rintro e w3 ⟨rfl, hv, ho2⟩
  clear T
  have T := Over_to hv 0 a0 _ _ (by omega) (cost3 a0 h0 h0')
  clear hv
  go_wp2_with fail
  refine T.mono ?_
  rintro e w4 ⟨rfl, hv, ho3⟩
  clear T
  obtain ⟨p, hp⟩ : ∃ p, p = max (a0 - 4) 0 := ⟨_, rfl⟩
  rw [← hp] at hv
  have T := Penalty_to hv 0 p (by omega) (by rfl)
  have hp0 : 0 ≤ p := by omega
  have hp1 : p ≤ 251 := by omega
  have hb4 : Below w.heap.size w w4 := by
    refine hb.trans (Below.trans (Below.trans (ho1.below hb.size ?_) (ho2.below (Nat.le_trans hb.size ho1.size) ?_)) (ho3.below (Nat.le_trans hb.size (Nat.le_trans ho1.size ho2.size)) ?_)) <;> (intro x hx; simp at hx; omega)
  clear hb ho1 ho2 ho3
  have HV := Lib.hid hv
  clear hv
  by_cases hs : 4 < a0
  · have e : p = a0 - 4 := by omega
    subst e
    clear hp
    go_wp2_with fail
    refine T.mono ?_
    rintro e w5 ⟨rfl, rfl⟩
    clear T
    go_wp2
    go_loopw [7, 9] (fun f i wr => ∃ k : Nat, (k : Int) ≤ a1 % 120 ∧ i = .int .i64 k ∧ f = .int .i64 (costF (a0 - 4) k) ∧ VecAt wr b b1 b2 (costS (a0 - 4) k) ∧ Below w.heap.size w wr) (fun _ i _ => (a1 % 120 - intOf i).toNat)
    case atStart => exact ⟨0, by omega, rfl, by rw [show ((0 : Nat) : Int) = 0 from rfl, costF_0 _ hp0], by rw [show ((0 : Nat) : Int) = 0 from rfl, costS_0 _ hp0]; exact HV.out, hb4⟩
    case round =>
      obtain ⟨k, hk, rfl, rfl, hv, hb⟩ := hrel
      have hr := costF_range ((a0 - 4)) k hp0 (by omega) (by omega)
      by_cases hlt : (k : Int) < a1 % 120
      · obtain ⟨pl, e, ht, hf, he⟩ := cost_step ((a0 - 4)) k hp0 (by omega)
        have T := Turn_to hv _ _ _ _ ht
        have HF := Lib.hid hf
        have Hb := Lib.hid hb
        have hsz := Lib.hid hb.size
        clear hv hf hb ht
        rcases he with rfl | rfl
        · go_wp2_with fail
          refine T.mono ?_
          rintro e w6 ⟨rfl, hv, ho⟩
          have Hv := Lib.hid hv
          clear hv T
          go_wp2
          go_roundw
          case rel => exact ⟨k + 1, by omega, by go_num, by rw [show ((k + 1 : Nat) : Int) = (k : Int) + 1 from rfl, HF.out]; rfl, Hv.out, Hb.out.trans (ho.below hsz.out (by intro x hx; simp at hx; omega))⟩
          case measure => simp [intOf]; omega
        · go_wp2_with fail
          refine T.mono ?_
          rintro e w6 ⟨rfl, hv, ho⟩
          have Hv := Lib.hid hv
          clear hv T
          go_wp2
          go_roundw
          case rel => exact ⟨k + 1, by omega, by go_num, by rw [show ((k + 1 : Nat) : Int) = (k : Int) + 1 from rfl, HF.out]; simp, Hv.out, Hb.out.trans (ho.below hsz.out (by intro x hx; simp at hx; omega))⟩
          case measure => simp [intOf]; omega
      · have e : (k : Int) = a1 % 120 := by omega
        have Hb := Lib.hid hb
        clear hv hb
        have HE := Lib.hid e
        clear e
        by_cases hnp : (a0 - 4) < a1 % 120
        · have hF : costF ((a0 - 4)) k = (a1 % 120 - ((a0 - 4)) + 1) / 2 := by unfold costF; rw [HE.out, if_neg (by omega)]
          rw [hF] at hr ⊢
          clear hF
          go_wp2_with fail
          refine (live_ok _).mono ?_
          rintro e w7 ⟨rfl, hb7⟩
          go_wp2
          go_ret
          exact ⟨rfl, Hb.out.trans (hb7.mono Hb.out.size)⟩
        · have hF : costF ((a0 - 4)) k = 0 := by unfold costF; rw [if_pos (by omega)]
          rw [hF] at hr ⊢
          clear hF
          go_wp2_with fail
          refine (live_ok _).mono ?_
          rintro e w7 ⟨rfl, hb7⟩
          go_wp2
          go_ret
          exact ⟨rfl, Hb.out.trans (hb7.mono Hb.out.size)⟩
  · have e : p = 0 := by omega
    subst e
    clear hp
    go_wp2_with fail
    refine T.mono ?_
    rintro e w5 ⟨rfl, rfl⟩
    clear T
    go_wp2
    go_loopw [7, 9] (fun f i wr => ∃ k : Nat, (k : Int) ≤ a1 % 120 ∧ i = .int .i64 k ∧ f = .int .i64 (costF 0 k) ∧ VecAt wr b b1 b2 (costS 0 k) ∧ Below w.heap.size w wr) (fun _ i _ => (a1 % 120 - intOf i).toNat)
    case atStart => exact ⟨0, by omega, rfl, by rw [show ((0 : Nat) : Int) = 0 from rfl, costF_0 _ hp0], by rw [show ((0 : Nat) : Int) = 0 from rfl, costS_0 _ hp0]; exact HV.out, hb4⟩
    case round =>
      obtain ⟨k, hk, rfl, rfl, hv, hb⟩ := hrel
      have hr := costF_range (0) k hp0 (by omega) (by omega)
      by_cases hlt : (k : Int) < a1 % 120
      · obtain ⟨pl, e, ht, hf, he⟩ := cost_step (0) k hp0 (by omega)
        have T := Turn_to hv _ _ _ _ ht
        have HF := Lib.hid hf
        have Hb := Lib.hid hb
        have hsz := Lib.hid hb.size
        clear hv hf hb ht
        rcases he with rfl | rfl
        · go_wp2_with fail
          refine T.mono ?_
          rintro e w6 ⟨rfl, hv, ho⟩
          have Hv := Lib.hid hv
          clear hv T
          go_wp2
          go_roundw
          case rel => exact ⟨k + 1, by omega, by go_num, by rw [show ((k + 1 : Nat) : Int) = (k : Int) + 1 from rfl, HF.out]; rfl, Hv.out, Hb.out.trans (ho.below hsz.out (by intro x hx; simp at hx; omega))⟩
          case measure => simp [intOf]; omega
        · go_wp2_with fail
          refine T.mono ?_
          rintro e w6 ⟨rfl, hv, ho⟩
          have Hv := Lib.hid hv
          clear hv T
          go_wp2
          go_roundw
          case rel => exact ⟨k + 1, by omega, by go_num, by rw [show ((k + 1 : Nat) : Int) = (k : Int) + 1 from rfl, HF.out]; simp, Hv.out, Hb.out.trans (ho.below hsz.out (by intro x hx; simp at hx; omega))⟩
          case measure => simp [intOf]; omega
      · have e : (k : Int) = a1 % 120 := by omega
        have Hb := Lib.hid hb
        clear hv hb
        have HE := Lib.hid e
        clear e
        by_cases hnp : 0 < a1 % 120
        · have hF : costF (0) k = (a1 % 120 - (0) + 1) / 2 := by unfold costF; rw [HE.out, if_neg (by omega)]
          rw [hF] at hr ⊢
          clear hF
          go_wp2_with fail
          refine (live_ok _).mono ?_
          rintro e w7 ⟨rfl, hb7⟩
          go_wp2
          go_ret
          exact ⟨rfl, Hb.out.trans (hb7.mono Hb.out.size)⟩
        · have hF : costF (0) k = 0 := by unfold costF; rw [if_pos (by omega)]
          rw [hF] at hr ⊢
          clear hF
          go_wp2_with fail
          refine (live_ok _).mono ?_
          rintro e w7 ⟨rfl, hb7⟩
          go_wp2
          go_ret
          exact ⟨rfl, Hb.out.trans (hb7.mono Hb.out.size)⟩
end Go.Proofs.Ytfdldlgnhdgmnaa

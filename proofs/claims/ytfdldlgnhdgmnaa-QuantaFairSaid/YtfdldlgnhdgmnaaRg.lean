/- Quanta: SameInts, same, walked. -/
import Derived.Test.YtfdldlgnhdgmnaaRf
namespace Go.Proofs.Ytfdldlgnhdgmnaa
open Go.RowKit

theorem Only.nil_below {w w' : World} (h : Only [] w w') : Below w.heap.size w w' := h.below (Nat.le_refl _) (by simp)
theorem Own1.ints {w B e v} {xs : List Int} (h : Own1 w B e v (intVs xs)) : ∃ A c, v = .slice A xs.length c ∧ xs.length ≤ 9223372036854775807 ∧ ∀ k : Nat, k < xs.length → ∃ g, A = some ⟨g, 0, none⟩ ∧ w.cell? ⟨g, k, none⟩ = some (.int .i64 (rd xs k)) := by
  rcases h.form with ⟨rfl, h0⟩ | ⟨g, c, rfl, h1, h2, h3, h4, h5⟩
  · have : xs = [] := by simpa [intVs] using h0
    subst this
    exact ⟨none, 0, rfl, by simp, fun k hk => absurd hk (by simp)⟩
  · rw [intVs_len] at h3
    refine ⟨some ⟨g, 0, none⟩, c, by rw [intVs_len], h3, fun k hk => ⟨g, rfl, ?_⟩⟩
    have := (h5 k (by rw [intVs_len]; exact hk)).1
    rw [this]
    simp [intVs, rd, List.getD, List.getElem?_eq_getElem hk]

theorem SameInts_ok {w : World} {B B' e e' : Nat} {v v' : Value} {xs : List Int} (h : Own1 w B e v (intVs xs)) (h' : Own1 w B' e' v' (intVs xs)) :
    Calls Try.prog 32 #[v, v'] w fun e w' => e = .returned (.bool true) ∧ Only [] w w' := by
  obtain ⟨A, c, rfl, hn, hc⟩ := h.ints
  obtain ⟨A', c', rfl, _, hc'⟩ := h'.ints
  have HC := Lib.hid hc
  have HC' := Lib.hid hc'
  clear h h' hc hc'
  go_enter Try.func32, Try.ntmps32
  go_wp2
  go_loopw [5] (fun i wr => ∃ k : Nat, k ≤ xs.length ∧ i = .int .i64 k ∧ Only [] w wr ∧ Hid (∀ p, wr.cell? p = w.cell? p)) (fun i _ => xs.length - (intOf i).toNat)
  case atStart => exact ⟨0, by omega, rfl, Only.refl _ _, fun _ => rfl⟩
  case round =>
    obtain ⟨k, hk, rfl, ho, hcell⟩ := hrel
    by_cases hlt : k < xs.length
    · obtain ⟨g, rfl, cg⟩ := HC.out k hlt
      obtain ⟨g', rfl, cg'⟩ := HC'.out k hlt
      have d := (hcell.out _).trans cg
      have d' := (hcell.out _).trans cg'
      have hi0 : (0 : Int) ≤ (k : Int) := by omega
      have hi1 : (k : Int) < (xs.length : Int) := by omega
      clear cg cg'
      go_wp2
      go_quiet (fail)
      go_wp2
      go_roundw
      case rel => exact ⟨k + 1, by omega, by go_num, ho.drewN _, fun p => hcell.out p⟩
      case measure => simp [intOf]; omega
    · go_wp2
      go_ret
      exact ⟨rfl, ho⟩

theorem same_ok {w : World} {l : Where} {m : QM} (hv : VecAt w l.b l.b1 l.b2 m) (hr : RefAt w l.r m) :
    Calls Try.prog 22 #[.pointer (some ⟨l.b, 0, none⟩), .pointer (some ⟨l.r, 0, none⟩)] w fun e w' => e = .returned (.bool true) ∧ Only [] w w' := by
  have H0 : Hid (VecAt w l.b l.b1 l.b2 m ∧ RefAt w l.r m ∧ Only [] w w) := ⟨hv, hr, Only.refl _ _⟩
  clear hv hr
  go_enter Try.func22, Try.ntmps22
  go_wp2
  go_loopw [5, 6, 7, 8, 9] (fun i _ _ _ _ wr => ∃ k : Int, -1 ≤ k ∧ k ≤ 9 ∧ i = .int .i64 k ∧ Hid (VecAt wr l.b l.b1 l.b2 m ∧ RefAt wr l.r m ∧ Only [] w wr)) (fun i _ _ _ _ _ => (9 - intOf i).toNat)
  case atStart => exact ⟨-1, by omega, by omega, rfl, H0⟩
  case round =>
    obtain ⟨k, hk0, hk, rfl, HH⟩ := hrel
    by_cases hlt : k < 9
    · have c1 := At_ok HH.out.1 k
      have c2 := rAt_ok HH.out.2.1 k
      generalize m.at k = p at *
      go_wp2_with fail
      refine c1.mono ?_
      rintro e w1 ⟨rfl, rfl⟩
      clear c1
      go_wp2_with fail
      refine c2.mono ?_
      rintro e w1 ⟨rfl, rfl⟩
      clear c2
      go_wp2
      go_roundw
      case rel => exact ⟨k + 1, by omega, by omega, rfl, HH⟩
      case measure => simp [intOf]; omega
    · obtain rfl : k = 9 := by omega
      go_wp2
      go_loopw [10] (fun i wr => ∃ k : Nat, k ≤ 7 ∧ i = .int .u8 k ∧ Hid (VecAt wr l.b l.b1 l.b2 m ∧ RefAt wr l.r m ∧ Only [] w wr)) (fun i _ => (7 - intOf i).toNat)
      case atStart => exact ⟨0, by omega, rfl, HH⟩
      case round =>
        obtain ⟨k, hk, rfl, HH⟩ := hrel
        by_cases hlt : k < 7
        · have c1 := Places_ok HH.out.1 (k : Int)
          go_wp2_with fail
          refine c1.mono ?_
          rintro e w1 ⟨⟨v1, rfl, HO1⟩, hb1⟩
          have ho1 := Only.of_below (S := []) hb1
          have HH1 := Lib.hid (And.intro (HH.out.1.only ho1 (by simp) (by simp) (by simp)) (And.intro (HH.out.2.1.only ho1 (by simp)) (HH.out.2.2.trans ho1)))
          clear c1 HH hb1 ho1
          have c2 := rPlaces_ok HH1.out.2.1 (k : Int) (by omega) (by omega)
          go_wp2_with fail
          refine c2.mono ?_
          rintro e w2 ⟨⟨v2, rfl, HO2⟩, hb2⟩
          have ho2 := Only.of_below (S := []) hb2
          have HH2 := Lib.hid (And.intro (HH1.out.1.only ho2 (by simp) (by simp) (by simp)) (And.intro (HH1.out.2.1.only ho2 (by simp)) (HH1.out.2.2.trans ho2)))
          have c3 := SameInts_ok (HO1.below hb2) HO2
          clear c2 HH1 hb2 ho2 HO1 HO2
          go_wp2_with fail
          refine c3.mono ?_
          rintro e w3 ⟨rfl, ho3⟩
          have HH3 := Lib.hid (And.intro (HH2.out.1.only ho3 (by simp) (by simp) (by simp)) (And.intro (HH2.out.2.1.only ho3 (by simp)) (HH2.out.2.2.trans ho3)))
          clear c3 HH2 ho3
          have c4 := Penalty_ok HH3.out.1 (k : Int) (by omega)
          have c5 := rPenalty_ok HH3.out.2.1 (k : Int) (by omega)
          generalize m.penalty (k : Int) = p at *
          go_wp2_with fail
          refine c4.mono ?_
          rintro e w4 ⟨rfl, rfl⟩
          clear c4
          go_wp2_with fail
          refine c5.mono ?_
          rintro e w4 ⟨rfl, rfl⟩
          clear c5
          go_wp2
          go_roundw
          case rel => exact ⟨k + 1, by omega, by go_num, HH3⟩
          case measure => simp [intOf]; omega
        · have c1 := Now_ok HH.out.1
          have c2 := rNow_ok HH.out.2.1
          go_wp2_with fail
          refine c1.mono ?_
          rintro e w1 ⟨rfl, rfl⟩
          clear c1
          go_wp2_with fail
          refine c2.mono ?_
          rintro e w1 ⟨rfl, rfl⟩
          clear c2
          go_wp2
          go_ret
          exact ⟨by simp, HH.out.2.2⟩
end Go.Proofs.Ytfdldlgnhdgmnaa

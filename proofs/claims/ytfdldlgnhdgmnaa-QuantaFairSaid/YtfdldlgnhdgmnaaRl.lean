/- QuantaFair walked: the statement. -/
import Derived.Test.YtfdldlgnhdgmnaaRk
import Derived.Test.YtfdldlgnhdgmnaaQw
import Derived.IntWalk
namespace Go.Proofs.Ytfdldlgnhdgmnaa
open Go.RowKit

set_option maxRecDepth 100000 in
set_option maxHeartbeats 1600000 in
theorem fair_walk {w : World} {A : Option Addr} {n c : Nat} {ds : Nat → Deed} (hd : DeedsAt w A n ds) (hn : n ≤ 9223372036854775807) (rr : Int) (hr0 : 0 ≤ rr) (hr1 : rr ≤ 255) :
    Calls Try.prog 4 #[.slice A n c, .int .u8 rr] w fun e w' => e = .returned (.bool true) ∧ Below w.heap.size w w' := by
  have T := play_ok (c := c) hd hn
  clear hd hn
  go_enter Try.func4, Try.ntmps4
  go_wp2_with fail
  refine T.mono ?_
  rintro e w1 ⟨l, m, rfl, hv, hr, hb, hl⟩
  clear T hr
  go_wp2_with fail
  refine (live_ok _).mono ?_
  rintro e w2 ⟨rfl, hb2⟩
  have hv2 := hv.only (Only.of_below (S := []) hb2) (by simp) (by simp) (by simp)
  have HF := Lib.hid hl
  have HOK := Lib.hid hv.ok
  have H0 : Hid (F1 w l w2.heap.size (w2.heap.size + 1) m 0 0 ((w2.alloc (.cells #[.int .i64 0, .int .i64 0, .int .i64 0, .int .i64 0, .int .i64 0, .int .i64 0] 35)).alloc (.cells #[.int .i64 0, .int .i64 0, .int .i64 0, .int .i64 0, .int .i64 0, .int .i64 0] 35))) := by
    have hs : w.heap.size ≤ w2.heap.size := Nat.le_trans hb.size hb2.size
    exact ⟨List.replicate 6 0, m, ⟨(hv2.alloc _).alloc _, heap_alloc2 _ _ _, heap_alloc3 _ _ _, ((hb.trans (hb2.mono hb.size)).alloc hs _).alloc (by simp; omega) _, hs, by omega, by omega, rfl, rfl⟩, fun i h0 h1 => by omega, rfl, rfl, fun i h0 h1 => by omega⟩
  clear hv hb hl hb2 hv2
  go_wp2
  obtain ⟨W0, hgW⟩ : ∃ W0, (w2.alloc (.cells #[.int .i64 0, .int .i64 0, .int .i64 0, .int .i64 0, .int .i64 0, .int .i64 0] 35)).alloc (.cells #[.int .i64 0, .int .i64 0, .int .i64 0, .int .i64 0, .int .i64 0, .int .i64 0] 35) = W0 := ⟨_, rfl⟩
  rw [hgW] at H0
  rw [hgW]
  clear hgW
  obtain ⟨N9, hN9⟩ : ∃ N9, w2.heap.size = N9 := ⟨_, rfl⟩
  rw [hN9] at H0 ⊢
  clear hN9
  go_loopw [8, 11, 12, 13] (fun al e _ _ wr => ∃ E : Int, 0 ≤ E ∧ E ≤ 6 ∧ e = .int .u8 E ∧ al = .int .i64 (sumTo m.pl 8 E.toNat : Nat) ∧ Hid (F1 w l N9 (N9 + 1) m E E wr)) (fun _ e _ _ _ => (6 - intOf e).toNat)
  case atStart => exact ⟨0, by omega, by omega, rfl, rfl, H0⟩
  case round =>
    clear H0
    obtain ⟨E, hE0, hE6, rfl, rfl, hF⟩ := hrel
    have hle := sumTo_le m.pl 8 E.toNat
    by_cases hlt : E < 6
    · obtain ⟨L, m', hw, hL, hpl, hnow, hpe⟩ := hF
      have T := Places_ok hw.v E
      rw [places_at m' E (by omega), hpl] at T
      have hle2 := placesTo_len m.pl E 8
      have HS : Hid (sumTo m.pl 8 (E + 1).toNat = sumTo m.pl 8 E.toNat + (placesTo m.pl E 8).length) := by
        unfold Hid
        rw [show (E + 1).toNat = E.toNat + 1 by omega]
        show sumTo m.pl 8 E.toNat + (placesTo m.pl ((E.toNat : Nat) : Int) 8).length = _
        rw [show ((E.toNat : Nat) : Int) = E by omega]
      have hsl : sumTo m.pl 8 E.toNat ≤ 48 := by omega
      clear hle
      have HH := Lib.hid (And.intro hL (And.intro hpl (And.intro hnow hpe)))
      have HW := Lib.hid hw
      obtain ⟨s, hs⟩ : ∃ s, s = sumTo m.pl 8 E.toNat := ⟨_, rfl⟩
      rw [← hs] at HS hsl ⊢
      have Hs := Lib.hid hs
      obtain ⟨P, hP⟩ : ∃ P, P = placesTo m.pl E 8 := ⟨_, rfl⟩
      rw [← hP] at T hle2 HS
      have HP := Lib.hid hP
      clear hL hpl hnow hpe hw hs hP
      go_wp2_with fail
      refine T.mono ?_
      rintro e w3 ⟨⟨v, rfl, HO⟩, hb3⟩
      obtain ⟨A1, c1, rfl, _, _⟩ := HO.ints
      have hw3 := HW.out.below HF.out hb3
      have k0 := hw3.ca E hE0 hlt
      have k1 := blk_frozen hw3.a E.toNat
      have k2 : (w3.setCell ⟨N9, E.toNat, none⟩ (.int .i64 (P.length : Nat))).cell? ⟨N9, E.toNat, none⟩ = some (.int .i64 (P.length : Nat)) := World.cell?_setCell_same' _ _ _ (by rw [k0]; rfl)
      have hE6' : E.toNat < 6 := by omega
      have H2 : Hid (F1 w l N9 (N9 + 1) m (E + 1) E (w3.setCell ⟨N9, E.toNat, none⟩ (.int .i64 (P.length : Nat)))) := by
        obtain ⟨hL, hpl, hnow, hpe⟩ := HH.out
        refine ⟨_, m', hw3.seta E.toNat _, fun i h0 h1 => ?_, hpl, hnow, hpe⟩
        rw [rd_set _ _ _ _ h0 hE0 (by rw [hw3.hl]; omega)]
        by_cases h : i = E
        · subst h; rw [if_pos rfl, HP.out]
        · rw [if_neg h]; exact hL i h0 (by omega)
      clear T HO hb3 hw3 HW HH
      go_wp2
      generalize hgW : World.setCell _ _ _ = W1 at H2 ⊢
      clear hgW k0 k1 k2
      go_loopw [12, 13] (fun _ _ wr => Hid (F1 w l N9 (N9 + 1) m (E + 1) E wr)) (fun _ _ wr => (intOf ((wr.cell? ⟨l.b2, E.toNat, none⟩).getD undef)).toNat)
      case atStart => exact H2
      case round =>
        clear H2
        have hF2 := hrel
        clear hrel
        obtain ⟨L, m', hw, hL, hpl, hnow, hpe⟩ := hF2
        have T := Penalty_ok hw.v E hE0
        rw [show m'.penalty E = rd m'.pe E by unfold QM.penalty; rw [if_neg (by omega)]] at T
        have hpr := hw.v.ok.per' E hE0 hlt
        by_cases hp : 0 < rd m'.pe E
        · have cq := hw.v.cq E hE0 hlt
          have Hmu : Hid (∀ W', (∃ m'', VecAt W' l.b l.b1 l.b2 m'' ∧ rd m''.pe E = 0) → (intOf ((W'.cell? ⟨l.b2, E.toNat, none⟩).getD undef)).toNat < (intOf ((wr.cell? ⟨l.b2, E.toNat, none⟩).getD undef)).toNat) := by
            rintro W' ⟨m'', h1, h2⟩
            rw [h1.cq E hE0 hlt, h2, cq]
            simp [intOf]; omega
          have T2 := Places_ok hw.v E
          rw [places_at m' E (by omega)] at T2
          have HH := Lib.hid (And.intro hL (And.intro hpl (And.intro hnow hpe)))
          have HW := Lib.hid hw
          have HT2 := Lib.hid T2
          clear hL hpl hnow hpe hw T2 cq
          go_wp2_with fail
          refine T.mono ?_
          rintro e w4 ⟨rfl, rfl⟩
          clear T
          have T := HT2.out
          clear HT2
          go_wp2_with fail
          refine T.mono ?_
          rintro e w5 ⟨⟨v, rfl, HO⟩, hb5⟩
          have hw5 := HW.out.below HF.out hb5
          have hown : ∀ k, v.ownBlock = some k → k ∉ [l.b, l.b1, l.b2] := fun k hk => by
            have h1 := (HO.lt k hk).2
            have h2 := blk_lt HW.out.v.s
            have h3 := blk_lt HW.out.v.p
            have h4 := blk_lt HW.out.v.q
            simp; omega
          have T := Out_ok hw5.v E hE0
          have HW5 := Lib.hid hw5
          have HO5 := Lib.hid HO
          have Hown := Lib.hid hown
          obtain ⟨A2, c2, rfl, _, _⟩ := HO.ints
          clear hb5 hw5 HO hown
          go_wp2_with fail
          refine T.mono ?_
          rintro e w6 ⟨rfl, hv6, ho6⟩
          have HO6 := Lib.hid (HO5.out.only ho6 Hown.out)
          have hb6 := back_out HW5.out.v.ok E hE0 hlt
          have HW6 := Lib.hid (HW5.out.left HF.out hv6 ho6)
          have HB6 := Lib.hid hb6
          have hlen := placesTo_len m'.pl E 8
          clear T HO5 HW5 hv6 ho6 hb6
          obtain ⟨P2, hP2⟩ : ∃ P2, P2 = placesTo m'.pl E 8 := ⟨_, rfl⟩
          rw [← hP2] at HO6 hlen
          rw [← hP2]
          have HP2 := Lib.hid hP2
          clear hP2
          have H3 : Hid (∃ m2, FairW w l N9 (N9 + 1) L (List.replicate 6 0) m2 w6 ∧ Back m' m2 E 0 ∧ Own1 w6 wr.heap.size 3 (.slice A2 P2.length c2) (intVs P2)) := ⟨_, HW6.out, HB6.out, HO6.out⟩
          clear HW6 HB6 HO6
          go_wp2
          obtain ⟨wo, rfl⟩ : ∃ wo : World, wo = wr := ⟨_, rfl⟩
          go_loopw [13] (fun i wr => ∃ k : Nat, k ≤ P2.length ∧ i = .int .i64 k ∧ Hid (∃ m2, FairW w l N9 (N9 + 1) L (List.replicate 6 0) m2 wr ∧ Back m' m2 E k ∧ Own1 wr wo.heap.size 3 (.slice A2 P2.length c2) (intVs P2))) (fun i _ => P2.length - (intOf i).toNat)
          case atStart => exact ⟨0, by omega, rfl, H3⟩
          case round =>
            clear H3
            obtain ⟨k, hk, rfl, hF3⟩ := hrel
            obtain ⟨m2, hw2, hbk, hO⟩ := hF3
            by_cases hlt3 : k < P2.length
            · obtain ⟨A3, c3, he3, _, hc3⟩ := hO.ints
              obtain ⟨g3, hg3, cg3⟩ := hc3 k hlt3
              have e3 : A2 = A3 := by simp at he3; exact he3.1
              rw [← e3] at hg3
              clear hc3 he3 e3
              subst hg3
              have hmem := (placesTo_mem m'.pl E 8 _).1 (rd_mem (placesTo m'.pl E 8) k (by omega) (by rw [← HP2.out]; omega))
              rw [← HP2.out] at hmem
              obtain ⟨t1, t2⟩ := back_take HW.out.v.ok hw2.v.ok E hE0 hlt k (by rw [← HP2.out]; exact hlt3) hbk
              rw [← HP2.out] at t1 t2
              have T := Take_ok hw2.v E (rd P2 k) hE0
              rw [t1] at T
              have Ht2 := Lib.hid t2
              have Hw2 := Lib.hid hw2
              have HO := Lib.hid hO
              have hp0 := hmem.1
              have hp8 := hmem.2.1
              clear t1 t2 hw2 hbk hO hmem
              generalize rd P2 k = pk at *
              go_wp2_with fail
              refine T.mono ?_
              rintro e w7 ⟨rfl, hv7, ho7⟩
              have H7 : Hid (∃ m2, FairW w l N9 (N9 + 1) L (List.replicate 6 0) m2 w7 ∧ Back m' m2 E (k + 1) ∧ Own1 w7 wo.heap.size 3 (.slice (some ⟨g3, 0, none⟩) P2.length c2) (intVs P2)) :=
                ⟨_, Hw2.out.left HF.out hv7 ho7, Ht2.out, HO.out.only ho7 Hown.out⟩
              clear T hv7 ho7 Hw2 Ht2 HO
              go_wp2
              go_roundw
              case rel => exact ⟨k + 1, by omega, by go_num, H7⟩
              case measure => simp [intOf]; omega
            · have e : k = P2.length := by omega
              subst e
              have hplb : m2.pl = m'.pl := back_end HW.out.v.ok hw2.v.ok E (by rw [← HP2.out]; exact hbk)
              have H8 : Hid (F1 w l N9 (N9 + 1) m (E + 1) E wr) := by
                obtain ⟨hL, hpl, hnow, hpe⟩ := HH.out
                exact ⟨L, m2, hw2, hL, hplb.trans hpl, hbk.1.trans hnow, fun i h0 h1 => by rw [hbk.2.1 i h0 (by omega), if_neg (by omega)]; exact hpe i h0 h1⟩
              have Hm := Lib.hid (Hmu.out wr ⟨m2, hw2.v, by rw [hbk.2.1 E hE0 hlt, if_pos rfl]⟩)
              clear hw2 hbk hO hplb Hmu
              go_wp2
              go_roundw
              case rel => exact H8
              case measure => exact Hm.out
        · have HH : Hid (F1 w l N9 (N9 + 1) m (E + 1) (E + 1) wr) := ⟨L, m', hw, hL, hpl, hnow, fun i h0 h1 => by
            by_cases h : i = E
            · subst h; omega
            · exact hpe i h0 (by omega)⟩
          clear hL hpl hnow hpe hw
          go_wp2_with fail
          refine T.mono ?_
          rintro e w4 ⟨rfl, rfl⟩
          clear T
          go_wp2
          go_roundw
          case rel => exact ⟨E + 1, by omega, by omega, by go_num, by rw [HS.out]; go_num, HH⟩
          case measure => simp [intOf]; omega
    · obtain rfl : E = 6 := by omega
      rw [show (6 : Int).toNat = 6 from rfl, sum_held HOK.out 8 (by omega)]
      have hh8 := heldTo_le m.pl 8
      have hF' := hF.out
      obtain ⟨L, m', hw, hL, hpl, hnow, hpe⟩ := hF'
      have HL := Lib.hid hL
      have H4 : Hid (F4 w l N9 L m 0 wr) := by
        have h1 := HOK.out.now0
        have h2 := HOK.out.now1
        refine ⟨0, _, m', hw, hpl, hpe, ?_, rfl, fun e h0 h6 => ?_⟩
        · rw [hnow]; simp; omega
        · have he : e = 0 ∨ e = 1 ∨ e = 2 ∨ e = 3 ∨ e = 4 ∨ e = 5 := by omega
          rcases he with rfl | rfl | rfl | rfl | rfl | rfl <;> rfl
      clear hF hw hL hpl hnow hpe hle
      obtain ⟨H, hH⟩ : ∃ H, H = heldTo m.pl 8 := ⟨_, rfl⟩
      rw [← hH] at hh8 ⊢
      have HH := Lib.hid hH
      clear hH
      obtain ⟨N, hN⟩ : ∃ N : Nat, (N : Int) = rr % 5 + 1 := ⟨(rr % 5 + 1).toNat, by omega⟩
      have hN1 : 1 ≤ N := by omega
      have hN5 : N ≤ 5 := by omega
      have hNH : N * H ≤ 40 := Nat.le_trans (Nat.mul_le_mul hN5 hh8) (by omega)
      have hNHi : (rr % 5 + 1) * (H : Int) = ((N * H : Nat) : Int) := by rw [← hN]; simp
      have hw1 : IntKind.i64.wrap ((rr % 5 + 1) * (H : Int)) = ((N * H : Nat) : Int) := by rw [hNHi]; exact IntWalk.i64_in _ (by omega)
      have hw2 : ∀ p : Int, 0 ≤ p → p ≤ 8 → IntKind.i64.wrap ((rr % 5 + 1) * p) = (N : Int) * p := fun p h0 h1 => by
        rw [← hN]
        have : 0 ≤ (N : Int) * p := Int.mul_nonneg (by omega) h0
        have : (N : Int) * p ≤ 5 * 8 := Int.mul_le_mul (by omega) h1 h0 (by omega)
        exact IntWalk.i64_in _ (by omega)
      have HN := Lib.hid hN
      have HW2 := Lib.hid hw2
      clear hN hNHi hw2
      generalize hNHg : N * H = NH at *
      have HNH := Lib.hid hNHg
      clear hNHg
      go_wp2
      go_loopw [15, 16, 17, 18] (fun i _ _ _ wr => ∃ k : Nat, k ≤ NH ∧ i = .int .i64 k ∧ Hid (F4 w l N9 L m k wr)) (fun i _ _ _ _ => (NH - intOf i).toNat)
      case atStart => exact ⟨0, by omega, rfl, H4⟩
      case round =>
        clear H4
        obtain ⟨k, hk, rfl, hF4⟩ := hrel
        by_cases hlt : k < NH
        · obtain ⟨T, Q, m', hw, hpl, hpe, hnow, hT, hQ⟩ := hF4
          have hHp : 0 < heldTo m'.pl 8 := by
            rw [hpl, ← HH.out]
            rcases Nat.eq_zero_or_pos H with h | h
            · have h2 := HNH.out
              rw [h, Nat.mul_zero] at h2; omega
            · exact h
          obtain ⟨i, e, T', ht, he0, he6, hi, hh, hcn⟩ := fair_step m' hw.v.ok hpe m.now HOK.out.now0 T hnow hHp
          rw [hpl] at hh hcn
          have TT := Turn_to hw.v _ _ _ _ ht
          have Hstep : Hid (∀ W', FairW w l N9 (N9 + 1) L Q { m' with now := i } W' → F4 w l N9 L m (k + 1) (W'.setCell ⟨N9 + 1, e.toNat, none⟩ (.int .i64 (rd Q e + 1)))) := by
            intro W' hw'
            refine ⟨T', _, _, hw'.sett e.toNat (rd Q e + 1), hpl, hpe, hi, by rw [hh, hT], fun e' h0 h6 => ?_⟩
            rw [rd_set _ _ _ _ h0 he0 (by rw [hw.hq]; omega), hcn e' (by omega)]
            by_cases h : e' = e
            · subst h; rw [if_pos rfl, if_pos rfl, hQ e' h0 h6]; simp
            · rw [if_neg h, if_neg h, hQ e' h0 h6]; simp
          have Hw := Lib.hid hw
          have hQb : 0 ≤ rd Q e ∧ rd Q e ≤ T := by
            rw [hQ e he0 he6]
            have : ∀ T, cntE m.pl m.now e T ≤ T := by
              intro T
              induction T with
              | zero => exact Nat.le_refl _
              | succ T ih => rw [cntE_succ]; split <;> omega
            have := this T
            omega
          have hQk : rd Q e ≤ k := by
            rw [hQ e he0 he6, ← hT]
            have : ∀ T, cntE m.pl m.now e T ≤ heldS m.pl m.now T := by
              intro T
              induction T with
              | zero => exact Nat.le_refl _
              | succ T ih => rw [cntE_succ, heldS_succ]; split <;> split <;> omega
            have := this T
            omega
          have hQ0 := hQb.1
          have hen : e.toNat < 6 := by omega
          clear hw hpl hpe hnow hT hQ hHp ht hi hh hcn hQb
          go_wp2_with fail
          refine TT.mono ?_
          rintro ee w8 ⟨rfl, hv8, ho8⟩
          have hw8 := Hw.out.left HF.out hv8 ho8
          have k0 := hw8.ct e he0 he6
          have k1 := blk_frozen hw8.t e.toNat
          have H9 := Lib.hid (Hstep.out _ hw8)
          clear TT hv8 ho8 hw8 Hw Hstep
          generalize rd Q e = qe at *
          go_wp2
          go_roundw
          case rel => exact ⟨k + 1, by omega, by go_num, H9⟩
          case measure => simp [intOf]; omega
        · have e : k = NH := by omega
          subst e
          obtain ⟨T, Q, m', hw, hpl, hpe, hnow, hT, hQ⟩ := hF4
          have hend : ∀ e : Int, 0 ≤ e → e < 6 → rd Q e = (N : Int) * rd L e ∧ 0 ≤ rd L e ∧ rd L e ≤ 8 := fun e h0 h6 => by
            have h1 := fair_end m HOK.out N T (by rw [hT, ← HNH.out, HH.out]) e h0 h6
            have h2 := HL.out e h0 h6
            have h3 := placesTo_len m.pl e 8
            rw [hQ e h0 h6, h1, h2]
            exact ⟨by simp, by omega, by omega⟩
          have HE := Lib.hid hend
          have H5 : Hid (∃ m', FairW w l N9 (N9 + 1) L Q m' wr ∧ m'.pl = m.pl) := ⟨m', hw, hpl⟩
          clear hw hpl hpe hnow hT hQ hend
          go_wp2
          go_loopw [19] (fun i wr => ∃ k : Int, 0 ≤ k ∧ k ≤ 6 ∧ i = .int .i64 k ∧ Hid (∃ m', FairW w l N9 (N9 + 1) L Q m' wr ∧ m'.pl = m.pl)) (fun i _ => (6 - intOf i).toNat)
          case atStart => exact ⟨0, by omega, by omega, rfl, H5⟩
          case round =>
            clear H5
            obtain ⟨q, hq0, hq6, rfl, hF5⟩ := hrel
            by_cases hlt : q < 6
            · obtain ⟨m', hw, hpl⟩ := hF5
              obtain ⟨h1, h2, h3⟩ := HE.out q hq0 hlt
              have k0 := hw.ct q hq0 hlt
              have k1 := hw.ca q hq0 hlt
              have k2 := HW2.out (rd L q) h2 h3
              rw [h1] at k0
              have H6 : Hid (∀ n, ∃ m', FairW w l N9 (N9 + 1) L Q m' (wr.drewN n) ∧ m'.pl = m.pl) := fun n =>
                ⟨m', ⟨⟨hw.v.s, hw.v.p, hw.v.q, hw.v.ok⟩, hw.a, hw.t, ⟨hw.o.os, hw.o.tape, hw.o.output, hw.o.size, hw.o.block⟩, hw.n9, hw.n10, hw.ne, hw.hl, hw.hq⟩, hpl⟩
              have hqn : q.toNat < 6 := by omega
              clear hw hpl h1
              generalize rd L q = x at *
              go_wp2
              go_quiet (fail)
              go_wp2
              go_roundw
              case rel => exact ⟨q + 1, by omega, by omega, rfl, H6.out _⟩
              case measure => simp [intOf]; omega
            · obtain rfl : q = 6 := by omega
              obtain ⟨m', hw, hpl⟩ := hF5
              by_cases hH0 : H = 0
              · have hz : heldTo m.pl 8 = 0 := by rw [← HH.out]; exact hH0
                have ht := turn_nobody m' (fun i h0 h8 => by rw [hpl]; exact heldTo_zero m.pl 8 hz i h0 h8)
                have TT := Turn_ok hw.v
                rw [ht] at TT
                have Hw := Lib.hid hw
                subst hH0
                clear hw hpl hz ht
                go_wp2_with fail
                refine TT.mono ?_
                rintro ee w8 ⟨rfl, hv8, ho8⟩
                have Hw8 := Lib.hid (Hw.out.left HF.out hv8 ho8)
                clear TT hv8 ho8 Hw
                go_wp2
                go_ret
                exact ⟨rfl, Hw8.out.o⟩
              · have Hw := Lib.hid hw
                have hH0' : ((H : Int) == 0) = false := by simp; omega
                clear hw hpl
                go_wp2
                go_ret
                exact ⟨rfl, Hw.out.o⟩
end Go.Proofs.Ytfdldlgnhdgmnaa

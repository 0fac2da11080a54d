/- QuantaOnce: plain law and walk. -/
import Derived.Test.YtfdldlgnhdgmnaaQx
namespace Go.Proofs.Ytfdldlgnhdgmnaa
open Go.RowKit Go.WideShapes Go.ChangeShapes Go.Deep Go.Joins

/-- How many of the first k places are of the first E environments. -/
def sumTo (pl : List Int) (k : Nat) : Nat → Nat
  | 0 => 0
  | E + 1 => sumTo pl k E + (placesTo pl (E : Int) k).length
def heldTo (pl : List Int) : Nat → Nat
  | 0 => 0
  | k + 1 => heldTo pl k + if rd pl k = 6 then 0 else 1
theorem sumTo_succ (pl : List Int) (k E : Nat) : sumTo pl (k + 1) E = sumTo pl k E + if 0 ≤ rd pl k ∧ rd pl k < E then 1 else 0 := by
  induction E with
  | zero => simp only [sumTo]; rw [if_neg (by omega)]
  | succ E ih =>
    simp only [sumTo, ih, placesTo]
    by_cases h : rd pl k = E
    · rw [if_pos h, List.length_append, List.length_singleton, if_neg (by omega), if_pos (by omega)] <;> omega
    · rw [if_neg h]
      by_cases h2 : 0 ≤ rd pl k ∧ rd pl k < E
      · rw [if_pos h2, if_pos (by omega)]; omega
      · rw [if_neg h2, if_neg (by omega)]; omega
theorem sumTo_zero (pl : List Int) (E : Nat) : sumTo pl 0 E = 0 := by
  induction E with
  | zero => rfl
  | succ E ih => simp [sumTo, ih, placesTo]
theorem sum_held {m : QM} (hm : m.Ok) (k : Nat) (hk : k ≤ 8) : sumTo m.pl k 6 = heldTo m.pl k := by
  induction k with
  | zero => rw [sumTo_zero]; rfl
  | succ k ih =>
    have hr := hm.plr' k (by omega) (by omega)
    rw [sumTo_succ, ih (by omega)]
    simp only [heldTo]
    by_cases h : rd m.pl k = 6
    · rw [if_neg (by omega), if_pos h]
    · rw [if_pos (by omega), if_neg h]
theorem sumTo_le (pl : List Int) (k E : Nat) : sumTo pl k E ≤ E * k := by
  induction E with
  | zero => simp [sumTo]
  | succ E ih => have := placesTo_len pl (E : Int) k; simp only [sumTo]; rw [Nat.add_mul, Nat.one_mul]; omega
theorem heldTo_le (pl : List Int) (k : Nat) : heldTo pl k ≤ k := by
  induction k with
  | zero => simp [heldTo]
  | succ k ih => simp only [heldTo]; split <;> omega
theorem at_held {m : QM} (k : Nat) (hk : k < 8) : (m.at k).2 = decide (rd m.pl k ≠ 6) := by
  unfold QM.at
  rw [if_neg (by omega)]
  by_cases h : rd m.pl k = 6
  · rw [if_pos h]; simp [h]
  · rw [if_neg h]; simp [h]
theorem give_yes {m : QM} (hm : m.Ok) (e p t : Int) (ht : 0 ≤ t) (h : (m.give e p t).1 = 0) : (m.give e p t).2.at p = (t, true) := by
  unfold QM.give at h ⊢
  by_cases h1 : mayE e p = 0
  · obtain ⟨a1, a2, a3⟩ := mayE_zero h1
    by_cases h2 : 6 ≤ t
    · simp [h1, h2] at h
    · by_cases h3 : rd m.pl p = e
      · simp only [h1, ne_eq, not_true, if_false, h2, h3] at h ⊢
        unfold QM.at
        rw [if_neg (by omega)]
        dsimp only
        rw [rd_set _ _ _ _ a2 a2 (by rw [hm.pl]; omega), if_pos rfl, if_neg (by omega)]
      · simp [h1, h2, h3] at h
  · simp [h1] at h
theorem give_no {m : QM} (e p t : Int) (h : (m.give e p t).1 ≠ 0) : (m.give e p t).2 = m := by
  unfold QM.give at h ⊢
  split
  · rfl
  · split
    · rfl
    · split
      · rfl
      · simp_all
theorem drop_yes {m : QM} (hm : m.Ok) (e p : Int) (h : (m.drop e p).1 = 0) : (m.drop e p).2.at p = (0, false) ∧ ∀ t, t < 6 → ((m.drop e p).2.take t p).1 = 0 := by
  unfold QM.drop at h ⊢
  by_cases h1 : mayE e p = 0
  · obtain ⟨a1, a2, a3⟩ := mayE_zero h1
    by_cases h3 : rd m.pl p = e
    · simp only [h1, ne_eq, not_true, if_false, h3] at h ⊢
      have hx : rd (m.pl.set p.toNat 6) p = 6 := by rw [rd_set _ _ _ _ a2 a2 (by rw [hm.pl]; omega), if_pos rfl]
      refine ⟨?_, fun t ht => ?_⟩
      · unfold QM.at
        rw [if_neg (by omega), if_pos hx]
      · have : mayE t p = 0 := by unfold mayE; rw [if_neg (by omega)]
        simp [QM.take, this, hx]
    · simp [h1, h3] at h
  · simp [h1] at h
theorem drop_no {m : QM} (e p : Int) (h : (m.drop e p).1 ≠ 0) : (m.drop e p).2 = m := by
  unfold QM.drop at h ⊢
  split
  · rfl
  · split
    · rfl
    · simp_all

def OnceW (w : World) (l : Where) (m : QM) (N : Nat) (x : Deed) (wr : World) : Prop :=
  VecAt wr l.b l.b1 l.b2 m ∧ wr.heap[N]? = some (.cells #[.int .i64 x.kd, .int .i64 x.place, .int .u8 x.env, .int .u8 x.tgt] 40 (0, 0)) ∧ Below w.heap.size w wr
theorem OnceW.step {w l m m' N x wr wr'} (h : OnceW w l m N x wr) (hv : VecAt wr' l.b l.b1 l.b2 m') (ho : Only [l.b, l.b1, l.b2] wr wr') (hl : l.From w.heap.size) : OnceW w l m' N x wr' := by
  obtain ⟨h1, h2, h3⟩ := h
  have a4 := blk_ne h2 h1.s (by decide)
  have a5 := blk_ne h2 h1.p (by decide)
  have a6 := blk_ne h2 h1.q (by decide)
  exact ⟨hv, ho.blk h2 (by simp [a4, a5, a6]), h3.trans (ho.below h3.size (by intro x hx; have := hl.b; have := hl.b1; have := hl.b2; simp at hx; omega))⟩

set_option maxRecDepth 100000 in
set_option maxHeartbeats 800000 in
theorem once_walk {w : World} {A : Option Addr} {n c : Nat} {ds : Nat → Deed} (hd : DeedsAt w A n ds) (hn : n ≤ 9223372036854775807) (kd place env tgt : Int) (hx : Deed.Ok ⟨kd, place, env, tgt⟩) :
    Calls Try.prog 5 #[.slice A n c, .agg #[.int .i64 kd, .int .i64 place, .int .u8 env, .int .u8 tgt]] w fun e w' => e = .returned (.bool true) ∧ Below w.heap.size w w' := by
  have HX := Lib.hid hx
  have hd1 := hd.below (w' := w.alloc (.cells #[.int .i64 kd, .int .i64 place, .int .u8 env, .int .u8 tgt] 40)) ((Below.refl _ w).alloc (by simp) _)
  have T := play_ok (c := c) hd1 hn
  have HN : Hid ((w.alloc (.cells #[.int .i64 kd, .int .i64 place, .int .u8 env, .int .u8 tgt] 40)).heap[w.heap.size]? = some (.cells #[.int .i64 kd, .int .i64 place, .int .u8 env, .int .u8 tgt] 40 (0, 0))) := heap_alloc_new w _
  have HBa : Hid (Below w.heap.size w (w.alloc (.cells #[.int .i64 kd, .int .i64 place, .int .u8 env, .int .u8 tgt] 40))) := (Below.refl _ w).alloc (by simp) _
  clear hd hn hd1 hx
  go_enter Try.func5, Try.ntmps5
  go_wp2_with fail
  refine T.mono ?_
  rintro e w1 ⟨l, m, rfl, hv, hr, hb, hl⟩
  clear T hr
  go_wp2_with fail
  refine (live_ok _).mono ?_
  rintro e w2 ⟨rfl, hb2⟩
  have hbl := hb.trans (hb2.mono hb.size)
  have HF : Hid (l.From w.heap.size) := by
    have h1 := hl.b; have h2 := hl.b1; have h3 := hl.b2; have h4 := hl.r
    simp only [World.size_alloc] at h1 h2 h3 h4
    exact ⟨by omega, by omega, by omega, by omega⟩
  have H0 : Hid (OnceW w l m w.heap.size ⟨kd, place, env, tgt⟩ w2) := ⟨hv.only (Only.of_below (S := []) hb2) (by simp) (by simp) (by simp), (hbl.block _ (by simp)).trans HN.out, HBa.out.trans (hbl.mono HBa.out.size)⟩
  have HOK := Lib.hid hv.ok
  clear HN HBa hv hb hl hb2 hbl
  go_wp2
  go_loopw [8, 9] (fun s e wr => ∃ k : Int, 0 ≤ k ∧ k ≤ 6 ∧ e = .int .u8 k ∧ s = .int .i64 (sumTo m.pl 8 k.toNat : Nat) ∧ Hid (OnceW w l m w.heap.size ⟨kd, place, env, tgt⟩ wr)) (fun _ e _ => (6 - intOf e).toNat)
  case atStart => exact ⟨0, by omega, by omega, rfl, rfl, H0⟩
  case round =>
    clear H0
    obtain ⟨k, hk0, hk, rfl, rfl, HH⟩ := hrel
    have hle := sumTo_le m.pl 8 k.toNat
    by_cases hlt : k < 6
    · have T := Places_ok HH.out.1 k
      rw [places_at m k (by omega)] at T
      have hle2 := placesTo_len m.pl k 8
      have HS : Hid (sumTo m.pl 8 (k + 1).toNat = sumTo m.pl 8 k.toNat + (placesTo m.pl k 8).length) := by
        unfold Hid
        rw [show (k + 1).toNat = k.toNat + 1 by omega]
        show sumTo m.pl 8 k.toNat + (placesTo m.pl ((k.toNat : Nat) : Int) 8).length = _
        rw [show ((k.toNat : Nat) : Int) = k by omega]
      have hsl : sumTo m.pl 8 k.toNat ≤ 48 := by omega
      clear hle
      generalize sumTo m.pl 8 k.toNat = s at *
      generalize placesTo m.pl k 8 = L at *
      go_wp2_with fail
      refine T.mono ?_
      rintro e w3 ⟨⟨v, rfl, HO⟩, hb3⟩
      obtain ⟨A1, c1, rfl, _, _⟩ := HO.ints
      have ho := Only.of_below (S := [l.b, l.b1, l.b2]) hb3
      have HH3 := Lib.hid (HH.out.step (HH.out.1.only (Only.of_below (S := []) hb3) (by simp) (by simp) (by simp)) ho HF.out)
      clear T HO hb3 ho HH
      go_wp2
      go_roundw
      case rel => exact ⟨k + 1, by omega, by omega, by go_num, by rw [HS.out]; go_num, HH3⟩
      case measure => simp [intOf]; omega
    · obtain rfl : k = 6 := by omega
      rw [show (6 : Int).toNat = 6 from rfl, sum_held HOK.out 8 (by omega)]
      have hh8 := heldTo_le m.pl 8
      clear hle
      generalize hgh : heldTo m.pl 8 = H at *
      have Hgh := Lib.hid hgh
      clear hgh
      go_wp2
      go_loopw [10, 11, 12, 13] (fun s e _ _ wr => ∃ k : Nat, k ≤ 8 ∧ e = .int .i64 k ∧ s = .int .i64 (heldTo m.pl k : Nat) ∧ Hid (OnceW w l m w.heap.size ⟨kd, place, env, tgt⟩ wr)) (fun _ e _ _ _ => (8 - intOf e).toNat)
      case atStart => exact ⟨0, by omega, rfl, rfl, HH⟩
      case round =>
        clear HH
        obtain ⟨k, hk, rfl, rfl, HH⟩ := hrel
        have hle := heldTo_le m.pl k
        by_cases hlt : k < 8
        · have T := At_ok HH.out.1 (k : Int)
          have ha := at_held (m := m) k hlt
          have HS : Hid (heldTo m.pl (k + 1) = heldTo m.pl k + if rd m.pl k = 6 then 0 else 1) := rfl
          generalize m.at (k : Int) = p at *
          obtain ⟨pe, pk⟩ := p
          dsimp only at *
          subst ha
          by_cases h6 : rd m.pl k = 6
          · rw [show decide (rd m.pl k ≠ 6) = false by simp [h6]] at T
            rw [if_pos h6] at HS
            clear h6
            generalize heldTo m.pl k = s at *
            go_wp2_with fail
            refine T.mono ?_
            rintro e w3 ⟨rfl, rfl⟩
            clear T
            go_wp2
            go_roundw
            case rel => exact ⟨k + 1, by omega, by go_num, by rw [HS.out]; rfl, HH⟩
            case measure => simp [intOf]; omega
          · rw [show decide (rd m.pl k ≠ 6) = true by simp [h6]] at T
            rw [if_neg h6] at HS
            clear h6
            generalize heldTo m.pl k = s at *
            go_wp2_with fail
            refine T.mono ?_
            rintro e w3 ⟨rfl, rfl⟩
            clear T
            go_wp2
            go_roundw
            case rel => exact ⟨k + 1, by omega, by go_num, by rw [HS.out]; go_num, HH⟩
            case measure => simp [intOf]; omega
        · obtain rfl : k = 8 := by omega
          rw [Hgh.out]
          clear hle
          have d1 : wr.cell? ⟨w.heap.size, 1, none⟩ = some (.int .i64 place) := by rw [blk_cell HH.out.2.1]; rfl
          have d2 : wr.cell? ⟨w.heap.size, 2, none⟩ = some (.int .u8 env) := by rw [blk_cell HH.out.2.1]; rfl
          have d3 : wr.cell? ⟨w.heap.size, 3, none⟩ = some (.int .u8 tgt) := by rw [blk_cell HH.out.2.1]; rfl
          have T := Give_ok HH.out.1 env place tgt HX.out.t0
          by_cases hg : (m.give env place tgt).1 = 0
          · rw [hg] at T
            have hat := give_yes HOK.out env place tgt HX.out.t0 hg
            clear hg
            generalize (m.give env place tgt).2 = m1 at *
            go_wp2_with fail
            refine T.mono ?_
            rintro e w4 ⟨rfl, hv4, ho4⟩
            have HH4 := Lib.hid (HH.out.step hv4 ho4 HF.out)
            have T := At_ok hv4 place
            rw [hat] at T
            have d1 : w4.cell? ⟨w.heap.size, 1, none⟩ = some (.int .i64 place) := by rw [blk_cell HH4.out.2.1]; rfl
            have d3 : w4.cell? ⟨w.heap.size, 3, none⟩ = some (.int .u8 tgt) := by rw [blk_cell HH4.out.2.1]; rfl
            clear hv4 ho4 hat HH
            go_wp2_with fail
            refine T.mono ?_
            rintro e w5 ⟨rfl, rfl⟩
            clear T
            go_wp2
            go_ret
            exact ⟨by simp, HH4.out.2.2⟩
          · have hgn := give_no env place tgt hg
            rw [hgn] at T
            have hz : ((m.give env place tgt).1 == 0) = false := by simpa using hg
            clear hg hgn
            generalize (m.give env place tgt).1 = z at *
            go_wp2_with fail
            refine T.mono ?_
            rintro e w4 ⟨rfl, hv4, ho4⟩
            have HH4 := Lib.hid (HH.out.step hv4 ho4 HF.out)
            have e1 : w4.cell? ⟨w.heap.size, 1, none⟩ = some (.int .i64 place) := by rw [blk_cell HH4.out.2.1]; rfl
            have e2 : w4.cell? ⟨w.heap.size, 2, none⟩ = some (.int .u8 env) := by rw [blk_cell HH4.out.2.1]; rfl
            have T := Drop_ok hv4 env place
            clear hv4 ho4 HH
            by_cases hg : (m.drop env place).1 = 0
            · rw [hg] at T
              obtain ⟨hat, htk⟩ := drop_yes HOK.out env place hg
              clear hg
              generalize (m.drop env place).2 = m1 at *
              go_wp2_with fail
              refine T.mono ?_
              rintro e w5 ⟨rfl, hv5, ho5⟩
              have HH5 := Lib.hid (HH4.out.step hv5 ho5 HF.out)
              have f1 : w5.cell? ⟨w.heap.size, 1, none⟩ = some (.int .i64 place) := by rw [blk_cell HH5.out.2.1]; rfl
              have f3 : w5.cell? ⟨w.heap.size, 3, none⟩ = some (.int .u8 tgt) := by rw [blk_cell HH5.out.2.1]; rfl
              have T := At_ok hv5 place
              rw [hat] at T
              have ht0 := HX.out.t0
              dsimp only at ht0
              have T2 := Take_ok hv5 (tgt % 6) place (by omega)
              rw [htk (tgt % 6) (by omega)] at T2
              have HT2 := Lib.hid T2
              clear hv5 ho5 hat htk HH4 T2
              go_wp2_with fail
              refine T.mono ?_
              rintro e w6 ⟨rfl, rfl⟩
              clear T
              have T := HT2.out
              clear HT2
              go_wp2_with fail
              refine T.mono ?_
              rintro e w7 ⟨rfl, hv7, ho7⟩
              have HH7 := Lib.hid (HH5.out.step hv7 ho7 HF.out)
              clear hv7 ho7 T
              go_wp2
              go_ret
              exact ⟨rfl, HH7.out.2.2⟩
            · have hz2 : ((m.drop env place).1 == 0) = false := by simpa using hg
              clear hg
              generalize (m.drop env place).1 = z2 at *
              generalize (m.drop env place).2 = m1 at *
              go_wp2_with fail
              refine T.mono ?_
              rintro e w5 ⟨rfl, hv5, ho5⟩
              have HH5 := Lib.hid (HH4.out.step hv5 ho5 HF.out)
              clear hv5 ho5 T
              go_wp2
              go_ret
              exact ⟨rfl, HH5.out.2.2⟩

section
variable {H : Type} {enc : TypeId × Value → H} {w : World} {base : Nat} {spare : Nat → Bool} {held : Bool}
theorem open_deed {r : Reach} {b0 : Nat} {v : Value} {d : DataW H} {ps : List MemPlace} (hv : Value.okWide Try.prog w r b0 40 v) (h : DataW.Trod enc Try.prog w base spare held 40 v d ps) :
    ∃ kd place env tgt, v = .agg #[.int .i64 kd, .int .i64 place, .int .u8 env, .int .u8 tgt] ∧ Deed.Ok ⟨kd, place, env, tgt⟩ := by
  obtain ⟨v0, v1, v2, v3, y0, y1, y2, y3, n, rfl, _, _, t0, t1, t2, t3⟩ := open_agg4 Try.underlying40 (by kernel_rfl) (by kernel_rfl) hv h
  obtain ⟨n0, e0, _, w0⟩ := DataW.trod_int Try.underlying3 t0
  obtain ⟨n1, e1, _, w1⟩ := DataW.trod_int Try.underlying3 t1
  obtain ⟨n2, e2, _, w2⟩ := DataW.trod_int Try.underlying5 t2
  obtain ⟨n3, e3, _, w3⟩ := DataW.trod_int Try.underlying5 t3
  simp only [List.cons.injEq, and_true] at e0 e1 e2 e3
  subst e0 e1 e2 e3
  exact ⟨_, _, _, _, rfl, (wf_u8 w2).1, (wf_u8 w2).2, (wf_u8 w3).1, (wf_u8 w3).2⟩
end
end Go.Proofs.Ytfdldlgnhdgmnaa

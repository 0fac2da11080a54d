/- QuantaOut: plain law and walk. -/
import Derived.Test.YtfdldlgnhdgmnaaQw
namespace Go.Proofs.Ytfdldlgnhdgmnaa
open Go.RowKit

def NoEnv (env : Int) (m : QM) : Prop := ∀ i : Int, 0 ≤ i → i < 8 → rd m.pl i ≠ env
theorem turnL_pl (L : List (Int × Int)) : ∀ m, (turnL m L).2.pl = m.pl := by
  induction L with
  | nil => intro m; rfl
  | cons x L ih =>
    intro m
    simp only [turnL]
    split
    · exact ih m
    · split
      · rw [ih]
      · rfl
theorem turn_pl (m : QM) : m.turn.2.pl = m.pl := turnL_pl _ _
theorem turnL_env (env : Int) (L : List (Int × Int)) : ∀ m, (∀ x, x ∈ L → x.2 ≠ env) → (turnL m L).1.2.2 = true → (turnL m L).1.2.1 ≠ env := by
  induction L with
  | nil => intro m _ h; simp [turnL] at h
  | cons x L ih =>
    intro m hx h
    simp only [turnL] at h ⊢
    split
    · rename_i h6; rw [if_pos h6] at h; exact ih m (fun y hy => hx y (by simp [hy])) h
    · rename_i h6
      rw [if_neg h6] at h
      split
      · rename_i hp; rw [if_pos hp] at h; exact ih _ (fun y hy => hx y (by simp [hy])) h
      · exact hx x (by simp)
theorem turn_env (env : Int) (m : QM) (hm : m.Ok) (h : NoEnv env m) : m.turn.1.2.2 = true → m.turn.1.2.1 ≠ env := by
  refine turnL_env env _ m (fun x hx => ?_)
  simp only [QM.rounds, List.mem_map, List.mem_range] at hx
  obtain ⟨k, _, rfl⟩ := hx
  exact h _ (by omega) (by omega)
theorem NoEnv.turn {env : Int} {m : QM} (h : NoEnv env m) : NoEnv env m.turn.2 := by unfold NoEnv; rw [turn_pl]; exact h
theorem rd_wipe (env : Int) (pl : List Int) (i : Int) (h0 : 0 ≤ i) (h1 : i < pl.length) : rd (wipe env pl) i = if rd pl i = env then 6 else rd pl i := by
  unfold wipe; rw [rd_map _ _ _ h0 h1]
theorem out_noEnv {m : QM} (hm : m.Ok) (env : Int) (h6 : env < 6) : NoEnv env (m.out env).2 := by
  intro i h0 h1
  simp only [QM.out, if_neg (show ¬ 6 ≤ env by omega)]
  rw [rd_wipe _ _ _ h0 (by rw [hm.pl]; omega)]
  split
  · omega
  · assumption
theorem places_none {m : QM} {env : Int} (h : NoEnv env m) : m.places env = [] := by
  unfold QM.places
  split
  · rfl
  · apply List.eq_nil_iff_forall_not_mem.2
    intro x hx
    obtain ⟨h0, h1, h2⟩ := (placesTo_mem m.pl env 8 x).1 hx
    exact h x h0 (by omega) h2
theorem penalty_none {m : QM} (hm : m.Ok) (env : Int) (h0 : 0 ≤ env) (h6 : env < 6) : (m.out env).2.penalty env = 0 := by
  simp only [QM.out, if_neg (show ¬ 6 ≤ env by omega), QM.penalty]
  rw [rd_set _ _ _ _ h0 h0 (by rw [hm.pe]; omega), if_pos rfl]
theorem out_len {m : QM} (env : Int) (h6 : env < 6) : (m.out env).1 = (m.places env).length := by
  simp only [QM.out, QM.places, if_neg (show ¬ 6 ≤ env by omega)]

set_option maxRecDepth 100000 in
set_option maxHeartbeats 400000 in
theorem out_walk {w : World} {A : Option Addr} {n c : Nat} {ds : Nat → Deed} (hd : DeedsAt w A n ds) (hn : n ≤ 9223372036854775807) (env turns : Int) (he0 : 0 ≤ env) (he1 : env ≤ 255) (ht0 : 0 ≤ turns) (ht1 : turns ≤ 255) :
    Calls Try.prog 6 #[.slice A n c, .int .u8 env, .int .u8 turns] w fun e w' => e = .returned (.bool true) ∧ Below w.heap.size w w' := by
  have T := play_ok (c := c) hd hn
  clear hd hn
  go_enter Try.func6, Try.ntmps6
  go_wp2_with fail
  refine T.mono ?_
  rintro e w1 ⟨l, m, rfl, hv, hr, hb, hl⟩
  clear T hr
  go_wp2_with fail
  refine (live_ok _).mono ?_
  rintro e w2 ⟨rfl, hb2⟩
  have ho := Only.of_below (S := []) hb2
  replace hv := hv.only ho (by simp) (by simp) (by simp)
  have HF := Lib.hid hl
  have Hb := Lib.hid (hb.trans (hb2.mono hb.size))
  clear ho hb hb2 hl
  have q0 : 0 ≤ env % 6 := by omega
  have q1 : env % 6 < 6 := by omega
  have T := Places_ok hv (env % 6)
  have HV := Lib.hid hv
  clear hv
  go_wp2_with fail
  refine T.mono ?_
  rintro e w3 ⟨⟨v, rfl, HO⟩, hb3⟩
  obtain ⟨A1, c1, rfl, _, _⟩ := HO.ints
  clear T HO
  have hv := HV.out.only (Only.of_below (S := []) hb3) (by simp) (by simp) (by simp)
  have T := Out_ok hv (env % 6) q0
  rw [out_len _ q1] at T
  have Hb3 := Lib.hid (Hb.out.trans (hb3.mono Hb.out.size))
  have HOK := Lib.hid hv.ok
  clear HV hv hb3 Hb
  go_wp2_with fail
  refine T.mono ?_
  rintro e w4 ⟨rfl, hv, ho4⟩
  clear T
  have T := Places_ok hv (env % 6)
  rw [places_none (out_noEnv HOK.out _ q1)] at T
  have Hb4 := Lib.hid (Hb3.out.trans (ho4.below Hb3.out.size (by intro x hx; have := HF.out.b; have := HF.out.b1; have := HF.out.b2; simp at hx; omega)))
  have HN := Lib.hid (out_noEnv HOK.out (env % 6) q1)
  have HP := Lib.hid (penalty_none HOK.out (env % 6) q0 q1)
  have HV := Lib.hid hv
  clear hv ho4 Hb3 HOK
  generalize (m.out (env % 6)).2 = m2 at *
  go_wp2_with fail
  refine T.mono ?_
  rintro e w5 ⟨⟨v, rfl, HO⟩, hb5⟩
  obtain ⟨A2, c2, rfl, _, _⟩ := Own1.ints (xs := []) HO
  clear T HO
  have hv := HV.out.only (Only.of_below (S := []) hb5) (by simp) (by simp) (by simp)
  have T := Penalty_ok hv (env % 6) q0
  rw [HP.out] at T
  have Hb5 := Lib.hid (Hb4.out.trans (hb5.mono Hb4.out.size))
  clear HV Hb4 hb5
  have HV := Lib.hid hv
  clear hv
  go_wp2_with fail
  refine T.mono ?_
  rintro e w6 ⟨rfl, rfl⟩
  clear T
  go_wp2
  go_loopw [11, 12, 13, 14] (fun i _ _ _ wr => ∃ k : Nat, (k : Int) ≤ turns % 40 ∧ i = .int .i64 k ∧ Hid (∃ m', VecAt wr l.b l.b1 l.b2 m' ∧ NoEnv (env % 6) m' ∧ Below w.heap.size w wr)) (fun i _ _ _ _ => (turns % 40 - intOf i).toNat)
  case atStart => exact ⟨0, by omega, rfl, ⟨m2, HV.out, HN.out, Hb5.out⟩⟩
  case round =>
    obtain ⟨k, hk, rfl, hm⟩ := hrel
    obtain ⟨m', hv, hne, hb⟩ := hm
    by_cases hlt : (k : Int) < turns % 40
    · have T := Turn_ok hv
      have he := turn_env _ _ hv.ok hne
      have HN' := Lib.hid hne.turn
      have Hb := Lib.hid hb
      clear hv hne hb
      generalize m'.turn = p at *
      obtain ⟨⟨pi, pe, pok⟩, pm⟩ := p
      dsimp only at *
      have hq : (pok && pe == env % 6) = false := by
        cases pok
        · rfl
        · simpa using he rfl
      clear he
      cases pok
      · go_wp2_with fail
        refine T.mono ?_
        rintro e w7 ⟨rfl, hv7, ho7⟩
        have Hm : Hid (∃ m', VecAt w7 l.b l.b1 l.b2 m' ∧ NoEnv (env % 6) m' ∧ Below w.heap.size w w7) :=
          ⟨_, hv7, HN'.out, Hb.out.trans (ho7.below Hb.out.size (by intro x hx; have := HF.out.b; have := HF.out.b1; have := HF.out.b2; simp at hx; omega))⟩
        clear T hv7 ho7 hq
        go_wp2
        go_roundw
        case rel => exact ⟨k + 1, by omega, by go_num, Hm⟩
        case measure => simp [intOf]; omega
      · have hq' : (pe == env % 6) = false := by simpa using hq
        go_wp2_with fail
        refine T.mono ?_
        rintro e w7 ⟨rfl, hv7, ho7⟩
        have Hm : Hid (∃ m', VecAt w7 l.b l.b1 l.b2 m' ∧ NoEnv (env % 6) m' ∧ Below w.heap.size w w7) :=
          ⟨_, hv7, HN'.out, Hb.out.trans (ho7.below Hb.out.size (by intro x hx; have := HF.out.b; have := HF.out.b1; have := HF.out.b2; simp at hx; omega))⟩
        clear T hv7 ho7 hq
        go_wp2
        go_roundw
        case rel => exact ⟨k + 1, by omega, by go_num, Hm⟩
        case measure => simp [intOf]; omega
    · have Hb := Lib.hid hb
      clear hv hne hb
      go_wp2
      go_ret
      exact ⟨rfl, Hb.out⟩
end Go.Proofs.Ytfdldlgnhdgmnaa

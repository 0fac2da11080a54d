/- Quanta: the reference's Places, Out, walked. -/
import Derived.Test.YtfdldlgnhdgmnaaRc
namespace Go.Proofs.Ytfdldlgnhdgmnaa
open Go.RowKit

theorem rPlaces_ok {w r m} (hv : RefAt w r m) (env : Int) (he : 0 ≤ env) (he' : env ≤ 255) :
    Calls Try.prog 33 #[.pointer (some ⟨r, 0, none⟩), .int .u8 env] w fun e w' => (∃ v, e = .returned v ∧ Own1 w' w.heap.size 3 v (intVs (m.places env))) ∧ Below w.heap.size w w' := by
  by_cases h : 6 ≤ env
  · have e : m.places env = [] := by simp [QM.places, h]
    rw [e]
    have HC : Hid (∀ w (p : Int), Calls Try.prog 43 #[.pointer (some ⟨r, 0, none⟩), .int .u8 env, .int .i64 p] w fun e w' => e = .returned (.int .i64 2) ∧ w = w') := fun w p => rmay_no _ _ _ _ (by unfold mayE; rw [if_pos (by omega)])
    clear hv e h
    go_enter Try.func33, Try.ntmps33
    go_wp2
    go_loop [5, 6] (fun v i => v = .slice none 0 0 ∧ i = .int .i64 0) (fun _ _ => 0)
    case atStart => exact ⟨rfl, rfl⟩
    case round =>
      obtain ⟨rfl, rfl⟩ := hrel
      go_wp2_with (go_at_call 43; refine (HC.out _ _).mono ?_; rintro e w1 ⟨rfl, rfl⟩)
      go_ret
      exact ⟨⟨_, rfl, Own1.nil _ _ _⟩, Below.refl _ _⟩
  · have h6 : env < 6 := by omega
    have e : m.places env = placesTo m.pl env 8 := places_at m env h
    rw [e]
    have hlb := blk_lt hv.s
    have CL : Hid (∀ i : Int, 0 ≤ i → i < 8 → w.cell? ⟨r, i.toNat, none⟩ = some (.int .i64 (refL (rd m.pl i)))) := hv.cl
    have PR : Hid (∀ i : Int, 0 ≤ i → i < 8 → 0 ≤ rd m.pl i ∧ rd m.pl i ≤ 6) := hv.ok.plr'
    have HY : Hid (∀ w (p : Int), 0 ≤ p → p < 8 → Calls Try.prog 43 #[.pointer (some ⟨r, 0, none⟩), .int .u8 env, .int .i64 p] w fun e w' => e = .returned (.int .i64 0) ∧ w = w') := fun w p h0 h1 => rmay_yes _ _ _ _ h6 h0 h1
    have HC : Hid (∀ w (p : Int), 8 ≤ p → Calls Try.prog 43 #[.pointer (some ⟨r, 0, none⟩), .int .u8 env, .int .i64 p] w fun e w' => e = .returned (.int .i64 2) ∧ w = w') := fun w p hp => rmay_no _ _ _ _ (by unfold mayE; rw [if_pos (by omega)])
    clear hv e h
    go_enter Try.func33, Try.ntmps33
    go_wp2
    go_loopw [5, 6] (fun v i wr => ∃ k : Nat, k ≤ 8 ∧ i = .int .i64 k ∧ Own1 wr w.heap.size 3 v (intVs (placesTo m.pl env k)) ∧ Below w.heap.size w wr) (fun _ i _ => 8 - (intOf i).toNat)
    case atStart => exact ⟨0, by omega, rfl, Own1.nil _ _ _, Below.refl _ _⟩
    case round =>
      obtain ⟨k, hk, rfl, HO, hb⟩ := hrel
      by_cases hlt : k < 8
      · have cp := CL.out k (by omega) (by omega)
        have hpr := PR.out k (by omega) (by omega)
        rw [Int.toNat_natCast] at cp
        have d1 := (hb.cell (p := ⟨r, k, none⟩) hlb).trans cp
        have hlen := placesTo_len m.pl env k
        have Hs : Hid (placesTo m.pl env (k + 1) = if rd m.pl k = env then placesTo m.pl env k ++ [(k : Int)] else placesTo m.pl env k) := rfl
        have Hb := Lib.hid hb
        have Hsz := Lib.hid hb.size
        clear cp hb
        have c1 := HY.out wr k (by omega) (by omega)
        by_cases hx : rd m.pl k = env
        · rw [hx, refL_of env ⟨he, h6⟩] at d1
          have HX := Lib.hid hx
          clear hx hpr
          go_wp2_with (first | (go_at_call 43; refine c1.mono ?_; rintro e w2 ⟨rfl, rfl⟩) | (at_builtin; refine append1 w.heap.size rfl _ _ 36 3 (.int .i64 0) 8 rfl Try.underlying36 infoInt rfl (by decide) _ _ HO (.int .i64 (k : Int)) rfl rfl rfl Hsz.out (by rw [intVs_len]; omega) ?_; intro v1 w1 HO1 hg hat))
          have HO1' : Own1 w1 w.heap.size 3 v1 (intVs (placesTo m.pl env (k + 1))) := by rw [Hs.out, if_pos HX.out, intVs_snoc]; exact HO1
          have hb1 := Hb.out.grownOwn HO hg Hsz.out
          clear HO1 hg hat
          go_wp2
          go_roundw
          case rel => exact ⟨k + 1, by omega, by go_num, HO1', hb1⟩
          case measure => simp [intOf]; omega
        · have hz : ¬ refL (rd m.pl k) = env + 1 := fun h => hx ((refL_env _ _ hpr.1 ⟨he, h6⟩).1 h)
          have hz' : (refL (rd m.pl k) == env + 1) = false := by simpa using hz
          have HX := Lib.hid hx
          clear hx hz hpr
          generalize refL (rd m.pl k) = x at d1 hz'
          go_wp2_with (go_at_call 43; refine c1.mono ?_; rintro e w2 ⟨rfl, rfl⟩)
          go_roundw
          case rel => exact ⟨k + 1, by omega, by go_num, by rw [Hs.out, if_neg HX.out]; exact HO, Hb.out⟩
          case measure => simp [intOf]; omega
      · have e : k = 8 := by omega
        subst e
        have Hb := Lib.hid hb
        have c1 := HC.out wr ((8 : Nat) : Int) (by omega)
        clear hb
        go_wp2_with (go_at_call 43; refine c1.mono ?_; rintro e w2 ⟨rfl, rfl⟩)
        go_ret
        exact ⟨⟨_, rfl, HO⟩, Hb.out⟩

/-- Behind the first k places: an environment's are nobody's. -/
def wipeTo (env : Int) (pl : List Int) (k : Nat) : List Int := clear6 pl (placesTo pl env k)
theorem rd_wipeTo (env : Int) (pl : List Int) (k : Nat) (hk : k ≤ pl.length) (i : Int) (hi : 0 ≤ i) : rd (wipeTo env pl k) i = if i < k ∧ rd pl i = env then 6 else rd pl i := by
  unfold wipeTo
  rw [rd_clear6 _ _ (fun x hx => by have := (placesTo_mem pl env k x).1 hx; omega) _ hi]
  by_cases e : i < k ∧ rd pl i = env
  · rw [if_pos e, if_pos ((placesTo_mem pl env k i).2 ⟨hi, e.1, e.2⟩)]
  · rw [if_neg e, if_neg (fun h => e ((placesTo_mem pl env k i).1 h).2)]
theorem wipeTo_succ (env : Int) (pl : List Int) (k : Nat) : wipeTo env pl (k + 1) = if rd pl k = env then (wipeTo env pl k).set k 6 else wipeTo env pl k := by
  unfold wipeTo
  simp only [placesTo]
  split
  · rw [clear6_snoc]; simp
  · rfl

set_option maxHeartbeats 400000 in
theorem rOut_ok {w r m} (hv : RefAt w r m) (env : Int) (he : 0 ≤ env) (he' : env ≤ 255) :
    Calls Try.prog 39 #[.pointer (some ⟨r, 0, none⟩), .int .u8 env] w (LeftR r w (.int .i64 (m.out env).1) (m.out env).2) := by
  by_cases h : 6 ≤ env
  · have e : m.out env = (0, m) := by simp [QM.out, h]
    rw [e]
    have Hv := Lib.hid hv
    have c1 := rmay_no ⟨r, 0, none⟩ env 0 w (by unfold mayE; rw [if_pos (by omega)])
    clear hv e h
    go_enter Try.func39, Try.ntmps39
    go_wp2_with (go_at_call 43; refine c1.mono ?_; rintro e w2 ⟨rfl, rfl⟩)
    go_ret
    exact ⟨rfl, Hv.out, Only.refl _ _⟩
  · have h6 : env < 6 := by omega
    have hi : env.toNat < 6 := by omega
    have hpl8 := hv.ok.pl
    have e : m.out env = (((placesTo m.pl env 8).length : Int), { m with pl := wipeTo env m.pl 8, pe := m.pe.set env.toNat 0 }) := by
      simp only [QM.out, if_neg h, wipeTo, clear6_places m.pl hpl8]
    rw [e]
    have c1 := rmay_yes ⟨r, 0, none⟩ env 0 w h6 (by omega) (by omega)
    have HR : Hid (∀ k : Nat, k < 8 → rd (wipeTo env m.pl k) k = rd m.pl k) := fun k hk => by
      rw [rd_wipeTo env m.pl k (by omega) k (by omega), if_neg (by omega)]
    have HW : Hid (∀ k : Nat, wipeTo env m.pl (k + 1) = if rd m.pl k = env then (wipeTo env m.pl k).set k 6 else wipeTo env m.pl k) := wipeTo_succ env m.pl
    have HL : Hid (∀ k : Nat, placesTo m.pl env (k + 1) = if rd m.pl k = env then placesTo m.pl env k ++ [(k : Int)] else placesTo m.pl env k) := fun _ => rfl
    have PR : Hid (∀ i : Int, 0 ≤ i → i < 8 → 0 ≤ rd m.pl i ∧ rd m.pl i ≤ 6) := hv.ok.plr'
    have H0 : Hid (RefAt w r { m with pl := wipeTo env m.pl 0 }) := hv
    clear hv e h hpl8
    go_enter Try.func39, Try.ntmps39
    go_wp2_with (go_at_call 43; refine c1.mono ?_; rintro e w2 ⟨rfl, rfl⟩)
    clear c1
    go_loopw [5, 6] (fun n i wr => ∃ k : Nat, k ≤ 8 ∧ i = .int .i64 k ∧ n = .int .i64 ((placesTo m.pl env k).length : Int) ∧ RefAt wr r { m with pl := wipeTo env m.pl k } ∧ Only [r] w wr) (fun _ i _ => 8 - (intOf i).toNat)
    case atStart => exact ⟨0, by omega, rfl, rfl, H0.out, Only.refl _ _⟩
    case round =>
      obtain ⟨k, hk, rfl, rfl, hm, ho⟩ := hrel
      have hlen := placesTo_len m.pl env k
      by_cases hlt : k < 8
      · have cl := hm.cl k (by omega) (by omega)
        rw [HR.out k hlt, Int.toNat_natCast] at cl
        have hpr := PR.out k (by omega) (by omega)
        by_cases hx : rd m.pl k = env
        · rw [hx, refL_of env ⟨he, h6⟩] at cl
          have fl := hm.fz k
          have Hn : Hid (RefAt (wr.setCell ⟨r, k, none⟩ (.int .i64 0)) r { m with pl := wipeTo env m.pl (k + 1) }) := by
            rw [HW.out, if_pos hx]
            have := hm.setl k 6 (by omega) (by omega) (by omega)
            rw [show refL 6 = 0 from rfl, Int.toNat_natCast] at this
            exact this
          have Hl : Hid ((placesTo m.pl env (k + 1)).length = (placesTo m.pl env k).length + 1) := by rw [HL.out, if_pos hx]; unfold Hid; simp
          have Ho := Lib.hid (ho.setCell (p := ⟨r, k, none⟩) (by simp) (.int .i64 0))
          clear hm ho hx hpr
          generalize (placesTo m.pl env k).length = n at *
          go_wp2
          go_roundw
          case rel => exact ⟨k + 1, by omega, by go_num, by rw [Hl.out]; go_num, Hn.out, Ho.out⟩
          case measure => simp [intOf]; omega
        · have hz : ¬ refL (rd m.pl k) = env + 1 := fun h => hx ((refL_env _ _ hpr.1 ⟨he, h6⟩).1 h)
          have hz' : (refL (rd m.pl k) == env + 1) = false := by simpa using hz
          have Hn : Hid (RefAt wr r { m with pl := wipeTo env m.pl (k + 1) }) := by
            rw [HW.out, if_neg hx]; exact hm
          have Hl : Hid ((placesTo m.pl env (k + 1)).length = (placesTo m.pl env k).length) := by rw [HL.out, if_neg hx]; rfl
          clear hm hx hz hpr
          generalize refL (rd m.pl k) = x at cl hz'
          generalize (placesTo m.pl env k).length = n at *
          go_wp2
          go_roundw
          case rel => exact ⟨k + 1, by omega, by go_num, by rw [Hl.out], Hn.out, ho⟩
          case measure => simp [intOf]; omega
      · have e : k = 8 := by omega
        subst e
        have fq := hm.fz (8 + env.toNat)
        have cq := hm.cp env he h6
        have Hn := Lib.hid (hm.setp env 0 he h6 (by omega))
        have Ho := Lib.hid (ho.setCell (p := ⟨r, 8 + env.toNat, none⟩) (by simp) (.int .i64 0))
        clear hm ho
        generalize (placesTo m.pl env 8).length = n at *
        go_wp2
        go_ret
        exact ⟨rfl, Hn.out, Ho.out⟩
end Go.Proofs.Ytfdldlgnhdgmnaa

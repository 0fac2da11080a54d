/- Quanta: the reference's methods, walked. -/
import Derived.Test.YtfdldlgnhdgmnaaRa
namespace Go.Proofs.Ytfdldlgnhdgmnaa
open Go.RowKit

theorem refL_zero (x : Int) (h : 0 ≤ x) : refL x = 0 ↔ x = 6 := by unfold refL; split <;> omega
theorem refL_env (x e : Int) (h : 0 ≤ x) (he : 0 ≤ e ∧ e < 6) : refL x = e + 1 ↔ x = e := by unfold refL; split <;> omega
theorem refL_of (e : Int) (he : 0 ≤ e ∧ e < 6) : refL e = e + 1 := by unfold refL; rw [if_neg (by omega)]
theorem refL_range (x : Int) (h : 0 ≤ x ∧ x ≤ 6) : 0 ≤ refL x ∧ refL x ≤ 6 := by unfold refL; split <;> omega

theorem rTake_ok {w r m} (hv : RefAt w r m) (env place : Int) (he : 0 ≤ env) :
    Calls Try.prog 36 #[.pointer (some ⟨r, 0, none⟩), .int .u8 env, .int .i64 place] w (LeftR r w (.int .i64 (m.take env place).1) (m.take env place).2) := by
  by_cases h : mayE env place = 0
  · obtain ⟨h1, h2, h3⟩ := mayE_zero h
    have c1 := rmay_yes ⟨r, 0, none⟩ env place w h1 h2 h3
    have hr := hv.ok.plr' place h2 h3
    have cl := hv.cl place h2 h3
    have fl := hv.fz place.toNat
    have hi : place.toNat < 8 := by omega
    by_cases hx : rd m.pl place = 6
    · have e : m.take env place = (0, { m with pl := m.pl.set place.toNat env }) := by simp only [QM.take, h, hx, ne_eq, not_true, if_false]
      rw [e]
      have Hw := Lib.hid (hv.setl place env h2 h3 ⟨he, by omega⟩)
      rw [refL_of env ⟨he, h1⟩] at Hw
      rw [hx] at cl
      rw [show refL 6 = 0 from rfl] at cl
      clear hx e hv h hr
      go_enter Try.func36, Try.ntmps36
      go_wp2_with (go_at_call 43; refine c1.mono ?_; rintro e w' ⟨rfl, rfl⟩)
      go_ret
      exact ⟨rfl, Hw.out, (Only.refl _ _).setCell (by simp) _⟩
    · have e : m.take env place = (6, m) := by simp only [QM.take, h, hx, ne_eq, not_true, if_false, not_false_eq_true, if_true]
      have hz : refL (rd m.pl place) ≠ 0 := fun h => hx ((refL_zero _ hr.1).1 h)
      have hz' : (refL (rd m.pl place) != 0) = true := by simpa using hz
      rw [e]
      have Hv := Lib.hid hv
      clear e hv h hx
      go_enter Try.func36, Try.ntmps36
      go_wp2_with (go_at_call 43; refine c1.mono ?_; rintro e w' ⟨rfl, rfl⟩)
      go_ret
      exact ⟨rfl, Hv.out, Only.refl _ _⟩
  · have h2 := mayE_two h
    have c1 := rmay_no ⟨r, 0, none⟩ env place w h2
    have e : m.take env place = (2, m) := by simp [QM.take, h2]
    rw [e]
    have Hv := Lib.hid hv
    clear e hv h h2
    go_enter Try.func36, Try.ntmps36
    go_wp2_with (go_at_call 43; refine c1.mono ?_; rintro e w' ⟨rfl, rfl⟩)
    go_ret
    exact ⟨rfl, Hv.out, Only.refl _ _⟩

theorem rGive_ok {w r m} (hv : RefAt w r m) (env place tgt : Int) (he : 0 ≤ env) (ht : 0 ≤ tgt) (he' : env ≤ 255) :
    Calls Try.prog 37 #[.pointer (some ⟨r, 0, none⟩), .int .u8 env, .int .i64 place, .int .u8 tgt] w (LeftR r w (.int .i64 (m.give env place tgt).1) (m.give env place tgt).2) := by
  by_cases h : mayE env place = 0
  · obtain ⟨h1, h2, h3⟩ := mayE_zero h
    have c1 := rmay_yes ⟨r, 0, none⟩ env place w h1 h2 h3
    have hr := hv.ok.plr' place h2 h3
    have cl := hv.cl place h2 h3
    have fl := hv.fz place.toNat
    have hi : place.toNat < 8 := by omega
    by_cases h4 : 6 ≤ tgt
    · have e : m.give env place tgt = (2, m) := by simp [QM.give, h, h4]
      rw [e]
      have Hv := Lib.hid hv
      clear e hv h
      go_enter Try.func37, Try.ntmps37
      go_wp2_with (go_at_call 43; refine c1.mono ?_; rintro e w' ⟨rfl, rfl⟩)
      go_ret
      exact ⟨rfl, Hv.out, Only.refl _ _⟩
    · by_cases hx : rd m.pl place = env
      · have e : m.give env place tgt = (0, { m with pl := m.pl.set place.toNat tgt }) := by simp [QM.give, h, h4, hx]
        rw [e]
        have Hw := Lib.hid (hv.setl place tgt h2 h3 ⟨ht, by omega⟩)
        rw [refL_of tgt ⟨ht, by omega⟩] at Hw
        rw [hx, refL_of env ⟨he, h1⟩] at cl
        clear hx e hv h hr
        go_enter Try.func37, Try.ntmps37
        go_wp2_with (go_at_call 43; refine c1.mono ?_; rintro e w' ⟨rfl, rfl⟩)
        go_ret
        exact ⟨rfl, Hw.out, (Only.refl _ _).setCell (by simp) _⟩
      · have e : m.give env place tgt = (7, m) := by simp [QM.give, h, h4, hx]
        have hz : refL (rd m.pl place) ≠ env + 1 := fun h => hx ((refL_env _ _ hr.1 ⟨he, h1⟩).1 h)
        have hz' : (refL (rd m.pl place) != env + 1) = true := by simpa using hz
        rw [e]
        have Hv := Lib.hid hv
        clear e hv h hx
        go_enter Try.func37, Try.ntmps37
        go_wp2_with (go_at_call 43; refine c1.mono ?_; rintro e w' ⟨rfl, rfl⟩)
        go_ret
        exact ⟨rfl, Hv.out, Only.refl _ _⟩
  · have h2 := mayE_two h
    have c1 := rmay_no ⟨r, 0, none⟩ env place w h2
    have e : m.give env place tgt = (2, m) := by simp [QM.give, h2]
    rw [e]
    have Hv := Lib.hid hv
    clear e hv h h2
    go_enter Try.func37, Try.ntmps37
    go_wp2_with (go_at_call 43; refine c1.mono ?_; rintro e w' ⟨rfl, rfl⟩)
    go_ret
    exact ⟨rfl, Hv.out, Only.refl _ _⟩

theorem rDrop_ok {w r m} (hv : RefAt w r m) (env place : Int) (he : 0 ≤ env) (he' : env ≤ 255) :
    Calls Try.prog 38 #[.pointer (some ⟨r, 0, none⟩), .int .u8 env, .int .i64 place] w (LeftR r w (.int .i64 (m.drop env place).1) (m.drop env place).2) := by
  by_cases h : mayE env place = 0
  · obtain ⟨h1, h2, h3⟩ := mayE_zero h
    have c1 := rmay_yes ⟨r, 0, none⟩ env place w h1 h2 h3
    have hr := hv.ok.plr' place h2 h3
    have cl := hv.cl place h2 h3
    have fl := hv.fz place.toNat
    have hi : place.toNat < 8 := by omega
    by_cases hx : rd m.pl place = env
    · have e : m.drop env place = (0, { m with pl := m.pl.set place.toNat 6 }) := by simp [QM.drop, h, hx]
      rw [e]
      have Hw := Lib.hid (hv.setl place 6 h2 h3 (by omega))
      rw [show refL 6 = 0 from rfl] at Hw
      rw [hx, refL_of env ⟨he, h1⟩] at cl
      clear hx e hv h hr
      go_enter Try.func38, Try.ntmps38
      go_wp2_with (go_at_call 43; refine c1.mono ?_; rintro e w' ⟨rfl, rfl⟩)
      go_ret
      exact ⟨rfl, Hw.out, (Only.refl _ _).setCell (by simp) _⟩
    · have e : m.drop env place = (7, m) := by simp [QM.drop, h, hx]
      have hz : refL (rd m.pl place) ≠ env + 1 := fun h => hx ((refL_env _ _ hr.1 ⟨he, h1⟩).1 h)
      have hz' : (refL (rd m.pl place) != env + 1) = true := by simpa using hz
      rw [e]
      have Hv := Lib.hid hv
      clear e hv h hx
      go_enter Try.func38, Try.ntmps38
      go_wp2_with (go_at_call 43; refine c1.mono ?_; rintro e w' ⟨rfl, rfl⟩)
      go_ret
      exact ⟨rfl, Hv.out, Only.refl _ _⟩
  · have h2 := mayE_two h
    have c1 := rmay_no ⟨r, 0, none⟩ env place w h2
    have e : m.drop env place = (2, m) := by simp [QM.drop, h2]
    rw [e]
    have Hv := Lib.hid hv
    clear e hv h h2
    go_enter Try.func38, Try.ntmps38
    go_wp2_with (go_at_call 43; refine c1.mono ?_; rintro e w' ⟨rfl, rfl⟩)
    go_ret
    exact ⟨rfl, Hv.out, Only.refl _ _⟩

theorem rPenalty_ok {w r m} (hv : RefAt w r m) (env : Int) (he : 0 ≤ env) :
    Calls Try.prog 34 #[.pointer (some ⟨r, 0, none⟩), .int .u8 env] w fun e w' => e = .returned (.int .i64 (m.penalty env)) ∧ w = w' := by
  by_cases h : 6 ≤ env
  · have c1 := rmay_no ⟨r, 0, none⟩ env 0 w (by unfold mayE; rw [if_pos (by omega)])
    have ht : m.penalty env = 0 := by simp [QM.penalty, h]
    rw [ht]; clear ht hv
    go_enter Try.func34, Try.ntmps34
    go_wp2_with (go_at_call 43; refine c1.mono ?_; rintro e w' ⟨rfl, rfl⟩)
    go_ret
    exact ⟨rfl, rfl⟩
  · have c1 := rmay_yes ⟨r, 0, none⟩ env 0 w (by omega) (by omega) (by omega)
    have ht : m.penalty env = rd m.pe env := by simp [QM.penalty, h]
    have hi : env.toNat < 6 := by omega
    have cq := hv.cp env he (by omega)
    rw [ht]; clear ht hv
    go_enter Try.func34, Try.ntmps34
    go_wp2_with (go_at_call 43; refine c1.mono ?_; rintro e w' ⟨rfl, rfl⟩)
    go_ret
    exact ⟨rfl, rfl⟩
theorem rNow_ok {w r m} (hv : RefAt w r m) :
    Calls Try.prog 35 #[.pointer (some ⟨r, 0, none⟩)] w fun e w' => e = .returned (.int .i64 m.now) ∧ w = w' := by
  have c2 := hv.cn
  clear hv
  go_enter Try.func35, Try.ntmps35
  go_wp2
  go_ret
  exact ⟨rfl, rfl⟩
theorem rAt_ok {w r m} (hv : RefAt w r m) (place : Int) :
    Calls Try.prog 31 #[.pointer (some ⟨r, 0, none⟩), .int .i64 place] w fun e w' => e = .returned (.tuple #[.int .u8 (m.at place).1, .bool (m.at place).2]) ∧ w = w' := by
  by_cases h : place < 0 ∨ 8 ≤ place
  · have c1 := rmay_no ⟨r, 0, none⟩ 0 place w (by unfold mayE; rw [if_pos (by omega)])
    have e : m.at place = (0, false) := by simp [QM.at, h]
    rw [e]
    clear hv e h
    go_enter Try.func31, Try.ntmps31
    go_wp2_with (go_at_call 43; refine c1.mono ?_; rintro e w' ⟨rfl, rfl⟩)
    go_ret2
    exact ⟨rfl, rfl⟩
  · have hi0 : 0 ≤ place := by omega
    have hi8 : place < 8 := by omega
    have c1 := rmay_yes ⟨r, 0, none⟩ 0 place w (by omega) hi0 hi8
    have hr := hv.ok.plr' place hi0 hi8
    have cl := hv.cl place hi0 hi8
    have hi : place.toNat < 8 := by omega
    by_cases hx : rd m.pl place = 6
    · have e : m.at place = (0, false) := by simp [QM.at, hx]
      rw [e]
      rw [hx, show refL 6 = 0 from rfl] at cl
      clear hv e h hx hr
      go_enter Try.func31, Try.ntmps31
      go_wp2_with (go_at_call 43; refine c1.mono ?_; rintro e w' ⟨rfl, rfl⟩)
      go_ret2
      exact ⟨rfl, rfl⟩
    · have e : m.at place = (rd m.pl place, true) := by simp [QM.at, hx, h]
      rw [e]
      have hrl : refL (rd m.pl place) = rd m.pl place + 1 := refL_of _ (by omega)
      rw [hrl] at cl
      have hn : (rd m.pl place + 1 == 0) = false := by simp; omega
      have hr5 : rd m.pl place ≤ 5 := by omega
      obtain ⟨hr0, _⟩ := hr
      clear hv e h hx hrl
      generalize rd m.pl place = x at *
      go_enter Try.func31, Try.ntmps31
      go_wp2_with (go_at_call 43; refine c1.mono ?_; rintro e w' ⟨rfl, rfl⟩)
      go_ret2
      exact ⟨by simp, rfl⟩
end Go.Proofs.Ytfdldlgnhdgmnaa

/- Quanta: the simple methods of the program's vector, walked. -/
import Derived.Test.YtfdldlgnhdgmnaaQa
namespace Go.Proofs.Ytfdldlgnhdgmnaa
open Go.RowKit

theorem mayE_zero {env place : Int} (h : mayE env place = 0) : env < 6 ∧ 0 ≤ place ∧ place < 8 := by
  unfold mayE at h; split at h <;> omega
theorem mayE_two {env place : Int} (h : ¬ mayE env place = 0) : mayE env place = 2 := by
  unfold mayE at h ⊢; split at h <;> simp_all

theorem may_ok {w b b1 b2 m} (hv : VecAt w b b1 b2 m) (env place : Int) :
    Calls Try.prog 27 #[.pointer (some ⟨b, 0, none⟩), .int .u8 env, .int .i64 place] w fun e w' => e = .returned (.int .i64 (mayE env place)) ∧ w = w' := by
  have c0 := hv.c0
  have f0 := blk_frozen hv.s 0
  clear hv
  by_cases h : 6 ≤ env ∨ place < 0 ∨ 8 ≤ place
  · have hm : mayE env place = 2 := by simp [mayE, h]
    rw [hm]; clear hm
    rcases h with h | h | h
    · go_enter Try.func27, Try.ntmps27
      go_wp2
      go_ret
      exact ⟨rfl, rfl⟩
    · by_cases h' : 6 ≤ env <;>
      · go_enter Try.func27, Try.ntmps27
        go_wp2
        go_ret
        exact ⟨rfl, rfl⟩
    · have h'' : ¬ place < 0 := by omega
      by_cases h' : 6 ≤ env <;>
      · go_enter Try.func27, Try.ntmps27
        go_wp2
        go_ret
        exact ⟨rfl, rfl⟩
  · have hm : mayE env place = 0 := by simp [mayE, h]
    rw [hm]; clear hm
    have h1 : ¬ 6 ≤ env := by omega
    have h2 : ¬ place < 0 := by omega
    have h3 : ¬ 8 ≤ place := by omega
    clear h
    go_enter Try.func27, Try.ntmps27
    go_wp2
    go_ret
    exact ⟨rfl, rfl⟩
theorem may_yes {w b b1 b2 m} (hv : VecAt w b b1 b2 m) (env place : Int) (h : env < 6) (h0 : 0 ≤ place) (h1 : place < 8) :
    Calls Try.prog 27 #[.pointer (some ⟨b, 0, none⟩), .int .u8 env, .int .i64 place] w fun e w' => e = .returned (.int .i64 0) ∧ w = w' := by
  have := may_ok hv env place
  rwa [show mayE env place = 0 by unfold mayE; rw [if_neg (by omega)]] at this
theorem may_no {w b b1 b2 m} (hv : VecAt w b b1 b2 m) (env place : Int) (h : mayE env place = 2) :
    Calls Try.prog 27 #[.pointer (some ⟨b, 0, none⟩), .int .u8 env, .int .i64 place] w fun e w' => e = .returned (.int .i64 2) ∧ w = w' := by
  have := may_ok hv env place
  rwa [h] at this

/-- What each method leaves. -/
def Left (b b1 b2 : Nat) (w : World) (v : Value) (m : QM) (e : Ending) (w' : World) : Prop := e = .returned v ∧ VecAt w' b b1 b2 m ∧ Only [b, b1, b2] w w'

theorem Take_ok {w b b1 b2 m} (hv : VecAt w b b1 b2 m) (env place : Int) (he : 0 ≤ env) :
    Calls Try.prog 11 #[.pointer (some ⟨b, 0, none⟩), .int .u8 env, .int .i64 place] w (Left b b1 b2 w (.int .i64 (m.take env place).1) (m.take env place).2) := by
  by_cases h : mayE env place = 0
  · obtain ⟨h1, h2, h3⟩ := mayE_zero h
    have hmay := may_yes hv env place h1 h2 h3
    have c0 := hv.c0
    have cp := hv.cp place h2 h3
    have fp := blk_frozen hv.p place.toNat
    have hi : place.toNat < 8 := by omega
    by_cases hx : rd m.pl place = 6
    · have ht : m.take env place = (0, { m with pl := m.pl.set place.toNat env }) := by simp only [QM.take, h, hx, ne_eq, not_true, if_false]
      rw [ht]
      have Hw := Lib.hid (hv.setp place.toNat env ⟨he, by omega⟩)
      rw [hx] at cp
      clear hx ht hv h
      go_enter Try.func11, Try.ntmps11
      go_wp2_with (go_at_call 27; refine hmay.mono ?_; rintro e w' ⟨rfl, rfl⟩)
      go_ret
      exact ⟨rfl, Hw.out, (Only.refl _ _).setCell (by simp) _⟩
    · have ht : m.take env place = (6, m) := by simp only [QM.take, h, hx, ne_eq, not_true, if_false, not_false_eq_true, if_true]
      rw [ht]
      have Hv := Lib.hid hv
      clear ht hv h
      go_enter Try.func11, Try.ntmps11
      go_wp2_with (go_at_call 27; refine hmay.mono ?_; rintro e w' ⟨rfl, rfl⟩)
      go_ret
      exact ⟨rfl, Hv.out, Only.refl _ _⟩
  · have h2 := mayE_two h
    have ht : m.take env place = (2, m) := by simp [QM.take, h2]
    rw [ht]
    have hmay := may_no hv env place h2
    have Hv := Lib.hid hv
    clear ht hv h h2
    go_enter Try.func11, Try.ntmps11
    go_wp2_with (go_at_call 27; refine hmay.mono ?_; rintro e w' ⟨rfl, rfl⟩)
    go_ret
    exact ⟨rfl, Hv.out, Only.refl _ _⟩

def QM.hand (m : QM) (env place tgt : Int) : Int × QM := if rd m.pl place ≠ env then (7, m) else (0, { m with pl := m.pl.set place.toNat tgt })
theorem hand_ok {w b b1 b2 m} (hv : VecAt w b b1 b2 m) (env place tgt : Int) (h2 : 0 ≤ place) (h3 : place < 8) (ht0 : 0 ≤ tgt) (ht1 : tgt ≤ 6) :
    Calls Try.prog 30 #[.pointer (some ⟨b, 0, none⟩), .int .u8 env, .int .i64 place, .int .u8 tgt] w (Left b b1 b2 w (.int .i64 (m.hand env place tgt).1) (m.hand env place tgt).2) := by
  have c0 := hv.c0
  have cp := hv.cp place h2 h3
  have fp := blk_frozen hv.p place.toNat
  have hi : place.toNat < 8 := by omega
  by_cases hx : rd m.pl place = env
  · have ht : m.hand env place tgt = (0, { m with pl := m.pl.set place.toNat tgt }) := by simp [QM.hand, hx]
    rw [ht]
    have Hw := Lib.hid (hv.setp place.toNat tgt ⟨ht0, ht1⟩)
    rw [hx] at cp
    clear hx ht hv
    go_enter Try.func30, Try.ntmps30
    go_wp2
    go_ret
    exact ⟨rfl, Hw.out, (Only.refl _ _).setCell (by simp) _⟩
  · have ht : m.hand env place tgt = (7, m) := by simp [QM.hand, hx]
    rw [ht]
    have Hv := Lib.hid hv
    clear ht hv
    go_enter Try.func30, Try.ntmps30
    go_wp2
    go_ret
    exact ⟨rfl, Hv.out, Only.refl _ _⟩
end Go.Proofs.Ytfdldlgnhdgmnaa

/- Quanta: Give, Drop, At, Places, Out of the program's vector, walked. -/
import Derived.Test.YtfdldlgnhdgmnaaQf
namespace Go.Proofs.Ytfdldlgnhdgmnaa
open Go.RowKit

theorem hand_to {w b b1 b2 m} (hv : VecAt w b b1 b2 m) (env place tgt : Int) (h2 : 0 ≤ place) (h3 : place < 8) (ht0 : 0 ≤ tgt) (ht1 : tgt ≤ 6) (r : Int × QM) (h : m.hand env place tgt = r) :
    Calls Try.prog 30 #[.pointer (some ⟨b, 0, none⟩), .int .u8 env, .int .i64 place, .int .u8 tgt] w (Left b b1 b2 w (.int .i64 r.1) r.2) := h ▸ hand_ok hv env place tgt h2 h3 ht0 ht1

theorem Give_ok {w b b1 b2 m} (hv : VecAt w b b1 b2 m) (env place tgt : Int) (ht : 0 ≤ tgt) :
    Calls Try.prog 20 #[.pointer (some ⟨b, 0, none⟩), .int .u8 env, .int .i64 place, .int .u8 tgt] w (Left b b1 b2 w (.int .i64 (m.give env place tgt).1) (m.give env place tgt).2) := by
  by_cases h : mayE env place = 0
  · obtain ⟨h1, h2, h3⟩ := mayE_zero h
    have c1 := may_yes hv env place h1 h2 h3
    by_cases h4 : 6 ≤ tgt
    · have c2 := may_no hv tgt place (by unfold mayE; rw [if_pos (by omega)])
      have e : m.give env place tgt = (2, m) := by simp [QM.give, h, h4]
      rw [e]
      have HV := Lib.hid hv
      clear hv e h
      go_enter Try.func20, Try.ntmps20
      go_wp2_with fail
      refine c1.mono ?_
      rintro e w' ⟨rfl, rfl⟩
      clear c1
      go_wp2_with fail
      refine c2.mono ?_
      rintro e w' ⟨rfl, rfl⟩
      go_wp2
      go_ret
      exact ⟨rfl, HV.out, Only.refl _ _⟩
    · have c2 := may_yes hv tgt place (by omega) h2 h3
      have e : m.give env place tgt = m.hand env place tgt := by simp [QM.give, QM.hand, h, h4]
      obtain ⟨r, hr⟩ : ∃ r, m.hand env place tgt = r := ⟨_, rfl⟩
      have c3 := hand_to hv env place tgt h2 h3 ht (by omega) r hr
      rw [e, hr]
      clear hv e h hr
      go_enter Try.func20, Try.ntmps20
      go_wp2_with fail
      refine c1.mono ?_
      rintro e w' ⟨rfl, rfl⟩
      clear c1
      go_wp2_with fail
      refine c2.mono ?_
      rintro e w' ⟨rfl, rfl⟩
      go_wp2_with fail
      refine c3.mono ?_
      rintro e w' ⟨rfl, hv, ho⟩
      go_wp2
      go_ret
      exact ⟨rfl, hv, ho⟩
  · have c1 := may_no hv env place (mayE_two h)
    have e : m.give env place tgt = (2, m) := by simp [QM.give, h]
    rw [e]
    have HV := Lib.hid hv
    clear hv e h
    go_enter Try.func20, Try.ntmps20
    go_wp2_with fail
    refine c1.mono ?_
    rintro e w' ⟨rfl, rfl⟩
    go_wp2
    go_ret
    exact ⟨rfl, HV.out, Only.refl _ _⟩

theorem Drop_ok {w b b1 b2 m} (hv : VecAt w b b1 b2 m) (env place : Int) :
    Calls Try.prog 21 #[.pointer (some ⟨b, 0, none⟩), .int .u8 env, .int .i64 place] w (Left b b1 b2 w (.int .i64 (m.drop env place).1) (m.drop env place).2) := by
  by_cases h : mayE env place = 0
  · obtain ⟨h1, h2, h3⟩ := mayE_zero h
    have c1 := may_yes hv env place h1 h2 h3
    have e : m.drop env place = m.hand env place 6 := by simp [QM.drop, QM.hand, h]
    obtain ⟨r, hr⟩ : ∃ r, m.hand env place 6 = r := ⟨_, rfl⟩
    have c3 := hand_to hv env place 6 h2 h3 (by omega) (by omega) r hr
    rw [e, hr]
    clear hv e h hr
    go_enter Try.func21, Try.ntmps21
    go_wp2_with fail
    refine c1.mono ?_
    rintro e w' ⟨rfl, rfl⟩
    clear c1
    go_wp2_with fail
    refine c3.mono ?_
    rintro e w' ⟨rfl, hv, ho⟩
    go_wp2
    go_ret
    exact ⟨rfl, hv, ho⟩
  · have c1 := may_no hv env place (mayE_two h)
    have e : m.drop env place = (2, m) := by simp [QM.drop, h]
    rw [e]
    have HV := Lib.hid hv
    clear hv e h
    go_enter Try.func21, Try.ntmps21
    go_wp2_with fail
    refine c1.mono ?_
    rintro e w' ⟨rfl, rfl⟩
    go_wp2
    go_ret
    exact ⟨rfl, HV.out, Only.refl _ _⟩

def QM.at (m : QM) (place : Int) : Int × Bool := if place < 0 ∨ 8 ≤ place then (0, false) else if rd m.pl place = 6 then (0, false) else (rd m.pl place, true)
theorem At_ok {w b b1 b2 m} (hv : VecAt w b b1 b2 m) (place : Int) :
    Calls Try.prog 19 #[.pointer (some ⟨b, 0, none⟩), .int .i64 place] w fun e w' => e = .returned (.tuple #[.int .u8 (m.at place).1, .bool (m.at place).2]) ∧ w = w' := by
  by_cases h : place < 0 ∨ 8 ≤ place
  · have c1 := may_no hv 0 place (by unfold mayE; rw [if_pos (by omega)])
    have e : m.at place = (0, false) := by simp [QM.at, h]
    rw [e]
    clear hv e h
    go_enter Try.func19, Try.ntmps19
    go_wp2_with fail
    refine c1.mono ?_
    rintro e w' ⟨rfl, rfl⟩
    go_wp2
    go_ret2
    exact ⟨rfl, rfl⟩
  · have c1 := may_yes hv 0 place (by omega) (by omega) (by omega)
    have c0 := hv.c0
    have cp := hv.cp place (by omega) (by omega)
    have hi : place.toNat < 8 := by omega
    have hi0 : 0 ≤ place := by omega
    have hi8 : place < 8 := by omega
    by_cases hx : rd m.pl place = 6
    · have e : m.at place = (0, false) := by simp [QM.at, hx]
      rw [e]
      rw [hx] at cp
      clear hv e h hx
      go_enter Try.func19, Try.ntmps19
      go_wp2_with fail
      refine c1.mono ?_
      rintro e w' ⟨rfl, rfl⟩
      go_wp2
      go_ret2
      exact ⟨rfl, rfl⟩
    · have e : m.at place = (rd m.pl place, true) := by simp [QM.at, hx, h]
      rw [e]
      clear hv e h
      go_enter Try.func19, Try.ntmps19
      go_wp2_with fail
      refine c1.mono ?_
      rintro e w' ⟨rfl, rfl⟩
      go_wp2
      go_ret2
      exact ⟨rfl, rfl⟩

/-- An environment's places, of the first k. -/
def placesTo (pl : List Int) (env : Int) : Nat → List Int
  | 0 => []
  | k + 1 => if rd pl k = env then placesTo pl env k ++ [(k : Int)] else placesTo pl env k
theorem placesTo_len (pl : List Int) (env : Int) (k : Nat) : (placesTo pl env k).length ≤ k := by
  induction k with
  | zero => simp [placesTo]
  | succ k ih => simp only [placesTo]; split <;> (try rw [List.length_append, List.length_singleton]) <;> omega
theorem placesTo_mem (pl : List Int) (env : Int) (k : Nat) (x : Int) : x ∈ placesTo pl env k ↔ 0 ≤ x ∧ x < k ∧ rd pl x = env := by
  induction k with
  | zero => simp [placesTo]; omega
  | succ k ih =>
    simp only [placesTo]
    split
    · rename_i h
      simp only [List.mem_append, List.mem_singleton, ih]
      constructor
      · rintro (h1 | rfl)
        · omega
        · exact ⟨by omega, by omega, h⟩
      · rintro ⟨h1, h2, h3⟩
        by_cases e : x = k
        · exact .inr e
        · exact .inl ⟨h1, by omega, h3⟩
    · rename_i h
      rw [ih]
      constructor
      · rintro ⟨h1, h2, h3⟩; exact ⟨h1, by omega, h3⟩
      · rintro ⟨h1, h2, h3⟩
        refine ⟨h1, ?_, h3⟩
        rcases Int.lt_or_eq_of_le (show x ≤ k by omega) with h4 | h4
        · exact h4
        · subst h4; exact absurd h3 h
def QM.places (m : QM) (env : Int) : List Int := if 6 ≤ env then [] else placesTo m.pl env 8
def intVs (xs : List Int) : List Value := xs.map (Value.int .i64)
theorem intVs_snoc (xs : List Int) (x : Int) : intVs (xs ++ [x]) = intVs xs ++ [.int .i64 x] := by simp [intVs]
theorem intVs_len (xs : List Int) : (intVs xs).length = xs.length := by simp [intVs]
theorem infoInt : (Try.prog.info? 3).map (fun i => (i.zero, i.size, i.bytes)) = some (some (.int .i64 0), 1, 8) := by kernel_rfl

theorem Places_ok {w b b1 b2 m} (hv : VecAt w b b1 b2 m) (env : Int) :
    Calls Try.prog 17 #[.pointer (some ⟨b, 0, none⟩), .int .u8 env] w fun e w' => (∃ v, e = .returned v ∧ Own1 w' w.heap.size 3 v (intVs (m.places env))) ∧ Below w.heap.size w w' := by
  by_cases h : 6 ≤ env
  · have c1 := may_no hv env 0 (by unfold mayE; rw [if_pos (by omega)])
    have e : m.places env = [] := by simp [QM.places, h]
    rw [e]
    clear hv e h
    go_enter Try.func17, Try.ntmps17
    go_wp2_with fail
    refine c1.mono ?_
    rintro e w' ⟨rfl, rfl⟩
    go_wp2
    go_ret
    exact ⟨⟨_, rfl, Own1.nil _ _ _⟩, Below.refl _ _⟩
  · have c1 := may_yes hv env 0 (by omega) (by omega) (by omega)
    have c0 := hv.c0
    have e : m.places env = placesTo m.pl env 8 := by simp [QM.places, h]
    rw [e]
    clear e h
    have hlb := blk_lt hv.s
    have hlp := blk_lt hv.p
    have CP : Hid (∀ i : Int, 0 ≤ i → i < 8 → w.cell? ⟨b1, i.toNat, none⟩ = some (.int .u8 (rd m.pl i))) := hv.cp
    clear hv
    go_enter Try.func17, Try.ntmps17
    go_wp2_with fail
    refine c1.mono ?_
    rintro e w' ⟨rfl, rfl⟩
    go_wp2
    go_loopw [5, 6, 7, 17] (fun v _ _ i wr => ∃ k : Nat, k ≤ 8 ∧ i = .int .i64 k ∧ Own1 wr w.heap.size 3 v (intVs (placesTo m.pl env k)) ∧ Below w.heap.size w wr) (fun _ _ _ i _ => 8 - (intOf i).toNat)
    case atStart => exact ⟨0, by omega, rfl, Own1.nil _ _ _, Below.refl _ _⟩
    case round =>
      obtain ⟨k, hk, rfl, HO, hb⟩ := hrel
      by_cases hlt : k < 8
      · have cp := CP.out k (by omega) (by omega)
        rw [Int.toNat_natCast] at cp
        have d1 := (hb.cell (p := ⟨b1, k, none⟩) hlp).trans cp
        have hlen := placesTo_len m.pl env k
        have Hs : Hid (placesTo m.pl env (k + 1) = if rd m.pl k = env then placesTo m.pl env k ++ [(k : Int)] else placesTo m.pl env k) := rfl
        have Hb := Lib.hid hb
        have Hsz := Lib.hid hb.size
        clear cp hb
        by_cases hx : rd m.pl k = env
        · rw [hx] at d1
          have HX := Lib.hid hx
          clear hx c0
          go_wp2_with (at_builtin; go_must (refine append1 w.heap.size rfl _ _ 36 3 (.int .i64 0) 8 rfl Try.underlying36 infoInt rfl (by decide) _ _ HO (.int .i64 (k : Int)) rfl rfl rfl Hsz.out (by rw [intVs_len]; omega) ?_); intro v1 w1 HO1 hg hat)
          have HO1' : Own1 w1 w.heap.size 3 v1 (intVs (placesTo m.pl env (k + 1))) := by rw [Hs.out, if_pos HX.out, intVs_snoc]; exact HO1
          have hb1 := Hb.out.grownOwn HO hg Hsz.out
          clear HO1 hg hat
          go_roundw
          case rel => exact ⟨k + 1, by omega, by go_num, HO1', hb1⟩
          case measure => simp [intOf]; omega
        · have HX := Lib.hid hx
          clear c0
          go_wp2
          go_roundw
          case rel => exact ⟨k + 1, by omega, by go_num, by rw [Hs.out, if_neg HX.out]; exact HO, Hb.out⟩
          case measure => simp [intOf]; omega
      · have e : k = 8 := by omega
        subst e
        clear c0
        have Hb := Lib.hid hb
        clear hb
        go_wp2
        go_ret
        exact ⟨⟨_, rfl, HO⟩, Hb.out⟩
end Go.Proofs.Ytfdldlgnhdgmnaa

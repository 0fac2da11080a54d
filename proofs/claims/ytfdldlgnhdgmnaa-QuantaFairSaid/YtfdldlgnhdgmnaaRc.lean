/- Quanta: the reference's Over, Turn, Places, Out, walked. -/
import Derived.Test.YtfdldlgnhdgmnaaRb
namespace Go.Proofs.Ytfdldlgnhdgmnaa
open Go.RowKit

theorem list_set_set (l : List Int) (i : Nat) (x y : Int) : (l.set i x).set i y = l.set i y := by simp
theorem setCell_twice (w : World) (p : Addr) (x y : Value) : (w.setCell p x).setCell p y = w.setCell p y := by
  unfold World.setCell
  congr 1
  apply Array.ext_getElem?
  intro i
  simp only [Array.getElem?_modify]
  split
  · cases w.heap[i]? with
    | none => rfl
    | some o =>
      cases o <;> simp
      split <;> simp
  · rfl
theorem rOver_ok {w r m} (hv : RefAt w r m) (env steps : Int) (he : 0 ≤ env) :
    Calls Try.prog 40 #[.pointer (some ⟨r, 0, none⟩), .int .u8 env, .int .i64 steps] w (LeftR r w (.int .i64 (m.over env steps).1) (m.over env steps).2) := by
  by_cases h : 6 ≤ env
  · have c1 := rmay_no ⟨r, 0, none⟩ env 0 w (by unfold mayE; rw [if_pos (by omega)])
    have ht : m.over env steps = (2, m) := by simp [QM.over, h]
    rw [ht]
    have Hv := Lib.hid hv
    clear ht hv
    go_enter Try.func40, Try.ntmps40
    go_wp2_with (go_at_call 43; refine c1.mono ?_; rintro e w' ⟨rfl, rfl⟩)
    go_ret
    exact ⟨rfl, Hv.out, Only.refl _ _⟩
  · have c1 := rmay_yes ⟨r, 0, none⟩ env 0 w (by omega) (by omega) (by omega)
    by_cases hs : steps < 0 ∨ 1000 < steps
    · have ht : m.over env steps = (2, m) := by simp [QM.over, h, hs]
      rw [ht]
      have Hv := Lib.hid hv
      clear ht hv
      by_cases hs' : steps < 0
      · go_enter Try.func40, Try.ntmps40
        go_wp2_with (go_at_call 43; refine c1.mono ?_; rintro e w' ⟨rfl, rfl⟩)
        go_ret
        exact ⟨rfl, Hv.out, Only.refl _ _⟩
      · have hs'' : 1000 < steps := by omega
        go_enter Try.func40, Try.ntmps40
        go_wp2_with (go_at_call 43; refine c1.mono ?_; rintro e w' ⟨rfl, rfl⟩)
        go_ret
        exact ⟨rfl, Hv.out, Only.refl _ _⟩
    · have ht : m.over env steps = (0, { m with pe := m.pe.set env.toNat (overP (rd m.pe env) steps) }) := by simp [QM.over, h, hs]
      have hr := hv.ok.per' env he (by omega)
      have hi : env.toNat < 6 := by omega
      have cq := hv.cp env he (by omega)
      have fq := hv.fz (8 + env.toNat)
      have hs1 : ¬ steps < 0 := by omega
      have hs2 : ¬ 1000 < steps := by omega
      have h6 : env < 6 := by omega
      rw [ht]
      have hx : ∀ x, x = overP (rd m.pe env) steps → RefAt (w.setCell ⟨r, 8 + env.toNat, none⟩ (.int .i64 x)) r { m with pe := m.pe.set env.toNat (overP (rd m.pe env) steps) } :=
        fun x hx => by rw [hx]; exact hv.setp env _ he h6 (overP_range (rd m.pe env) steps hr.1 hr.2)
      clear ht hs
      by_cases h4 : 4 < steps
      · have Hx := Lib.hid hx
        clear hx hv
        have k1 : ∀ x : Int, (w.setCell ⟨r, 8 + env.toNat, none⟩ (.int .i64 x)).cell? ⟨r, 8 + env.toNat, none⟩ = some (.int .i64 x) := fun x => World.cell?_setCell_same' _ _ _ (by rw [cq]; rfl)
        have k2 : ∀ x : Int, (w.setCell ⟨r, 8 + env.toNat, none⟩ (.int .i64 x)).frozen? ⟨r, 8 + env.toNat, none⟩ = false := fun x => by rw [World.frozen?_setCell]; exact fq
        by_cases h5 : 1000 < rd m.pe env + (steps - 4)
        · go_enter Try.func40, Try.ntmps40
          go_wp2_with (go_at_call 43; refine c1.mono ?_; rintro e w' ⟨rfl, rfl⟩)
          go_region
          all_goals go_wp2
          all_goals (go_ret; exact ⟨rfl, by rw [setCell_twice]; exact (Hx.out _ (by unfold overP; omega)).drew, ((((Only.refl _ _).setCell (by simp) _).setCell (by simp) _)).drew⟩)
        · obtain ⟨hr0, hr1⟩ := hr
          have h5' : ¬ 1000 < rd m.pe env + (steps - 4) := h5
          go_enter Try.func40, Try.ntmps40
          go_wp2_with (go_at_call 43; refine c1.mono ?_; rintro e w' ⟨rfl, rfl⟩)
          go_region
          all_goals go_wp2
          all_goals (go_ret; exact ⟨rfl, (Hx.out _ (by unfold overP; omega)).drew, ((Only.refl _ _).setCell (by simp) _).drew⟩)
      · have e : overP (rd m.pe env) steps = rd m.pe env := by unfold overP; omega
        have es : m.pe.set env.toNat (rd m.pe env) = m.pe := by
          apply List.ext_getElem (by simp)
          intro i h1 h2
          rw [List.getElem_set]
          split
          · rename_i hh; subst hh; simp [rd, List.getD, List.getElem?_eq_getElem h2]
          · rfl
        have Hv : Hid (RefAt w r { m with pe := m.pe.set env.toNat (overP (rd m.pe env) steps) }) := by rw [e, es]; exact hv
        clear hx hv e es
        obtain ⟨hr0, hr1⟩ := hr
        go_enter Try.func40, Try.ntmps40
        go_wp2_with (go_at_call 43; refine c1.mono ?_; rintro e w' ⟨rfl, rfl⟩)
        go_ret
        exact ⟨rfl, Hv.out, Only.refl _ _⟩

theorem rounds_len (m : QM) : m.rounds.length = 8 := by simp [QM.rounds]
theorem rounds_get (m : QM) (j : Nat) (h : j < 8) : m.rounds.drop j = ((m.now + 1 + j) % 8, rd m.pl ((m.now + 1 + j) % 8)) :: m.rounds.drop (j + 1) := by
  rw [List.drop_eq_getElem_cons (by rw [rounds_len]; exact h)]
  simp [QM.rounds]
set_option maxHeartbeats 400000 in
theorem rTurn_ok {w r m} (hv : RefAt w r m) :
    Calls Try.prog 41 #[.pointer (some ⟨r, 0, none⟩)] w (LeftR r w (.tuple #[.int .i64 m.turn.1.1, .int .u8 m.turn.1.2.1, .bool m.turn.1.2.2]) m.turn.2) := by
  have n0 := hv.ok.now0
  have n1 := hv.ok.now1
  have H0 : Hid (∃ m', RefAt w r m' ∧ m'.now = m.now ∧ m'.pl = m.pl ∧ m.turn = turnL m' (m.rounds.drop 0)) := ⟨m, hv, rfl, rfl, rfl⟩
  have HM : Hid (∀ j : Nat, j < 8 → m.rounds.drop j = ((m.now + 1 + j) % 8, rd m.pl ((m.now + 1 + j) % 8)) :: m.rounds.drop (j + 1)) := rounds_get m
  have H8 : Hid (m.rounds.drop 8 = []) := List.drop_eq_nil_of_le (by rw [rounds_len]; omega)
  clear hv
  go_enter Try.func41, Try.ntmps41
  go_wp2
  go_loopw [5, 6, 7] (fun k _ _ wr => ∃ j : Nat, j ≤ 8 ∧ k = .int .i64 (j + 1) ∧ (Hid (∃ m', RefAt wr r m' ∧ m'.now = m.now ∧ m'.pl = m.pl ∧ m.turn = turnL m' (m.rounds.drop j))) ∧ Only [r] w wr) (fun k _ _ _ => 9 - (intOf k).toNat)
  case atStart => exact ⟨0, by omega, rfl, H0, Only.refl _ _⟩
  case round =>
    obtain ⟨j, hj, rfl, ⟨m', hm, hn, hpl, ht⟩, ho⟩ := hrel
    by_cases hlt : j < 8
    · obtain ⟨q, hq⟩ : ∃ q, q = (m.now + 1 + (j : Int)) % 8 := ⟨_, rfl⟩
      have hq0 : 0 ≤ q := by omega
      have hq1 : q < 8 := by omega
      have hqn : q.toNat < 8 := by omega
      rw [HM.out j hlt, ← hq] at ht
      have Hq : Hid ((m.now + ((j : Int) + 1)) % 8 = q) := by rw [hq]; unfold Hid; omega
      have cn := hm.cn
      rw [hn] at cn
      have cl := hm.cl q hq0 hq1
      have hr := hm.ok.plr' q hq0 hq1
      rw [hpl] at cl hr
      generalize rd m.pl q = x at *
      have hqe := Hq.out
      clear hq
      by_cases hx : x = 6
      · subst hx
        rw [show refL 6 = 0 from rfl] at cl
        have Hr : Hid (∃ m', RefAt wr r m' ∧ m'.now = m.now ∧ m'.pl = m.pl ∧ m.turn = turnL m' (m.rounds.drop (j + 1))) := ⟨m', hm, hn, hpl, by rw [ht]; simp only [turnL, if_true]⟩
        clear hm hn hpl ht hr
        go_wp2
        go_roundw
        case rel => exact ⟨j + 1, by omega, by go_num, Hr, ho⟩
        case measure => simp [intOf]; omega
      · have hx0 : 0 ≤ x := hr.1
        have hx5 : x < 6 := by omega
        have hxn : x.toNat < 6 := by omega
        rw [refL_of x ⟨hx0, hx5⟩] at cl
        have hz : (x + 1 == 0) = false := by simp; omega
        have cp := hm.cp x hx0 hx5
        have hpr := hm.ok.per' x hx0 hx5
        by_cases hp : 0 < rd m'.pe x
        · have fq := hm.fz (8 + x.toNat)
          have Hr : Hid (∃ m'', RefAt (wr.setCell ⟨r, 8 + x.toNat, none⟩ (.int .i64 (rd m'.pe x - 1))).drew r m'' ∧ m''.now = m.now ∧ m''.pl = m.pl ∧ m.turn = turnL m'' (m.rounds.drop (j + 1))) :=
            ⟨_, (hm.setp x (rd m'.pe x - 1) hx0 hx5 (by omega)).drew, hn, hpl, by rw [ht]; simp only [turnL]; rw [if_neg hx, if_pos hp]⟩
          have Ho := Lib.hid (ho.setCell (p := ⟨r, 8 + x.toNat, none⟩) (by simp) (.int .i64 (rd m'.pe x - 1))).drew
          clear hm hn hpl ht hr hx ho
          generalize rd m'.pe x = y at *
          obtain ⟨hy0, hy1⟩ := hpr
          go_wp2
          go_region
          all_goals go_wp2
          all_goals (go_roundw)
          case rel => exact ⟨j + 1, by omega, by go_num, Hr, Ho.out⟩
          case measure => simp [intOf]; omega
        · have fn := hm.fz 14
          have Hr := Lib.hid (hm.setn q ⟨hq0, hq1⟩)
          have He : Hid (m.turn = ((q, x, true), { m' with now := q })) := by rw [ht]; unfold Hid; simp only [turnL]; rw [if_neg hx, if_neg hp]
          have Ho := Lib.hid (ho.setCell (p := ⟨r, 14, none⟩) (by simp) (.int .i64 q))
          clear hm hn hpl ht hr hx ho hpr
          generalize rd m'.pe x = y at *
          go_wp2
          go_ret3
          refine ⟨?_, ?_, Ho.out⟩
          · rw [He.out]; simp
          · rw [He.out]; exact Hr.out
    · have e : j = 8 := by omega
      subst e
      have He : Hid (m.turn = ((0, 0, false), m')) := by rw [ht, H8.out]; rfl
      have Hm := Lib.hid hm
      clear hm hn hpl ht
      go_wp2
      go_ret3
      refine ⟨?_, ?_, ho⟩
      · rw [He.out]; rfl
      · rw [He.out]; exact Hm.out
end Go.Proofs.Ytfdldlgnhdgmnaa

/- Quanta: Out of the program's vector, walked. -/
import Derived.Test.YtfdldlgnhdgmnaaQh
namespace Go.Proofs.Ytfdldlgnhdgmnaa
open Go.RowKit

def clear6 (pl : List Int) (L : List Int) : List Int := L.foldl (fun l i => l.set i.toNat 6) pl
theorem clear6_len (pl L : List Int) : (clear6 pl L).length = pl.length := by
  unfold clear6
  induction L generalizing pl with
  | nil => rfl
  | cons x L ih => rw [List.foldl_cons, ih]; simp
theorem clear6_snoc (pl L : List Int) (x : Int) : clear6 pl (L ++ [x]) = (clear6 pl L).set x.toNat 6 := by simp [clear6]
theorem rd_clear6 (pl L : List Int) (hL : ∀ x, x ∈ L → 0 ≤ x ∧ x < pl.length) (i : Int) (hi : 0 ≤ i) : rd (clear6 pl L) i = if i ∈ L then 6 else rd pl i := by
  induction L generalizing pl with
  | nil => simp [clear6]
  | cons x L ih =>
    have hx := hL x (by simp)
    show rd (clear6 (pl.set x.toNat 6) L) i = _
    rw [ih (pl.set x.toNat 6) (fun y hy => by have := hL y (by simp [hy]); simpa using this), rd_set _ _ _ _ hi hx.1 (by omega)]
    by_cases e : i ∈ L
    · simp [e]
    · by_cases e' : i = x
      · simp [e']
      · simp [e, e']
theorem rd_ext (l l' : List Int) (h : l.length = l'.length) (hr : ∀ i : Int, 0 ≤ i → i < l.length → rd l i = rd l' i) : l = l' := by
  apply List.ext_getElem h
  intro i h1 h2
  have := hr i (by omega) (by omega)
  simpa [rd, List.getD, List.getElem?_eq_getElem h1, List.getElem?_eq_getElem h2] using this
theorem rd_map (f : Int → Int) (l : List Int) (i : Int) (h0 : 0 ≤ i) (h1 : i < l.length) : rd (l.map f) i = f (rd l i) := by
  have h2 : i.toNat < l.length := by omega
  simp [rd, List.getD, List.getElem?_eq_getElem h2]
def wipe (env : Int) (pl : List Int) : List Int := pl.map fun x => if x = env then 6 else x
theorem clear6_places (pl : List Int) (hl : pl.length = 8) (env : Int) : clear6 pl (placesTo pl env 8) = wipe env pl := by
  have hm := placesTo_mem pl env 8
  apply rd_ext
  · rw [clear6_len]; simp [wipe]
  · intro i h0 h1
    rw [clear6_len, hl] at h1
    rw [rd_clear6 _ _ (fun x hx => by have := (hm x).1 hx; omega) _ h0, wipe, rd_map _ _ _ h0 (by omega)]
    by_cases e : rd pl i = env
    · rw [if_pos ((hm i).2 ⟨h0, by omega, e⟩), if_pos e]
    · rw [if_neg (fun h => e ((hm i).1 h).2.2), if_neg e]
def QM.out (m : QM) (env : Int) : Int × QM :=
  if 6 ≤ env then (0, m) else ((placesTo m.pl env 8).length, { m with pl := wipe env m.pl, pe := m.pe.set env.toNat 0 })

theorem QM.Ok.wiped {m : QM} (h : m.Ok) (L : List Int) : QM.Ok { m with pl := clear6 m.pl L } := by
  refine ⟨by rw [clear6_len]; exact h.pl, h.pe, ?_, h.per, h.now0, h.now1⟩
  intro x hx
  have : ∀ (L pl : List Int), (∀ y, y ∈ pl → 0 ≤ y ∧ y ≤ 6) → ∀ y, y ∈ clear6 pl L → 0 ≤ y ∧ y ≤ 6 := by
    intro L
    induction L with
    | nil => intro pl h y hy; exact h y hy
    | cons a L ih =>
      intro pl h y hy
      refine ih (pl.set a.toNat 6) (fun z hz => ?_) y hy
      rcases List.mem_or_eq_of_mem_set hz with hz | rfl
      · exact h z hz
      · omega
  exact this L m.pl h.plr x hx

theorem places_at (m : QM) (env : Int) (he : ¬ 6 ≤ env) : m.places env = placesTo m.pl env 8 := by simp [QM.places, he]

set_option maxHeartbeats 400000 in
theorem Out_ok {w b b1 b2 m} (hv : VecAt w b b1 b2 m) (env : Int) (he : 0 ≤ env) :
    Calls Try.prog 18 #[.pointer (some ⟨b, 0, none⟩), .int .u8 env] w (Left b b1 b2 w (.int .i64 (m.out env).1) (m.out env).2) := by
  have c0 := Places_ok hv env
  by_cases h : 6 ≤ env
  · have e0 : m.places env = [] := by simp [QM.places, h]
    have e : m.out env = (0, m) := by simp [QM.out, h]
    have HN : Hid (mayE env 0 = 2) := by unfold Hid mayE; rw [if_pos (by omega)]
    rw [e0] at c0
    rw [e]
    have HV := Lib.hid hv
    clear hv e e0
    go_enter Try.func18, Try.ntmps18
    go_wp2_with fail
    refine c0.mono ?_
    rintro e w' ⟨⟨v, rfl, HO⟩, hb⟩
    obtain ⟨A, c, rfl⟩ : ∃ A c, v = .slice A 0 c := by
      rcases HO.form with ⟨rfl, _⟩ | ⟨g, c, rfl, _⟩
      · exact ⟨_, _, rfl⟩
      · exact ⟨_, _, rfl⟩
    have hv' : VecAt w' b b1 b2 m := HV.out.only (Only.of_below (S := []) hb) (by simp) (by simp) (by simp)
    have c1 := may_no hv' env 0 HN.out
    have Hv := Lib.hid hv'
    have Hb := Lib.hid hb
    clear c0 hv' hb
    go_wp2
    go_loop [7, 13] (fun _ i => i = .int .i64 0) (fun _ _ => 0)
    case atStart => rfl
    case round =>
      obtain rfl := hrel
      go_wp2_with (go_at_call 27; refine c1.mono ?_; rintro e w1 ⟨rfl, rfl⟩)
      go_ret
      exact ⟨rfl, Hv.out, Only.of_below Hb.out⟩
  · have he6 : env < 6 := by omega
    have hi : env.toNat < 6 := by omega
    rw [places_at m env h] at c0
    have hlen := placesTo_len m.pl env 8
    have hmem : ∀ k, k < (placesTo m.pl env 8).length → 0 ≤ rd (placesTo m.pl env 8) k ∧ rd (placesTo m.pl env 8) k < 8 := fun k hk => by
      have := (placesTo_mem m.pl env 8 _).1 (rd_mem (placesTo m.pl env 8) k (by omega) (by omega)); omega
    have hcl : ∀ k, k < (placesTo m.pl env 8).length → clear6 m.pl ((placesTo m.pl env 8).take (k + 1)) = (clear6 m.pl ((placesTo m.pl env 8).take k)).set (rd (placesTo m.pl env 8) k).toNat 6 := fun k hk => by
      rw [← clear6_snoc]
      congr 1
      rw [List.take_succ_eq_append_getElem hk]
      congr 2
      simp [rd, List.getD, List.getElem?_eq_getElem hk]
    have HM := Lib.hid hmem
    have HC := Lib.hid hcl
    have e : m.out env = (((placesTo m.pl env 8).length : Int), { m with pl := clear6 m.pl ((placesTo m.pl env 8).take (placesTo m.pl env 8).length), pe := m.pe.set env.toNat 0 }) := by
      rw [List.take_length, clear6_places m.pl hv.ok.pl]; simp only [QM.out, if_neg h]
    rw [e]
    have HV := Lib.hid hv
    clear hv e hmem hcl
    generalize placesTo m.pl env 8 = L at *
    go_enter Try.func18, Try.ntmps18
    go_wp2_with fail
    refine c0.mono ?_
    rintro e w1 ⟨⟨v, rfl, HO⟩, hb⟩
    have hv1 : VecAt w1 b b1 b2 m := HV.out.only (Only.of_below (S := []) hb) (by simp) (by simp) (by simp)
    have hlb := blk_lt HV.out.s
    have hlb1 := blk_lt HV.out.p
    have hlb2 := blk_lt HV.out.q
    have hown : ∀ k, v.ownBlock = some k → k ≠ b1 := fun k hk => by have := (HO.lt k hk).2; omega
    obtain ⟨A, c, rfl, hcells⟩ : ∃ A c, v = .slice A L.length c ∧ ∀ k, k < L.length → ∃ g, A = some ⟨g, 0, none⟩ ∧ g ≠ b1 ∧ w1.cell? ⟨g, k, none⟩ = some (.int .i64 (rd L k)) := by
      rcases HO.form with ⟨rfl, h0⟩ | ⟨g, c, rfl, h1, h2, h3, h4, h5⟩
      · have : L = [] := by simpa [intVs] using h0
        subst this
        exact ⟨none, 0, rfl, fun k hk => absurd hk (by simp)⟩
      · rw [intVs_len] at *
        refine ⟨_, c, rfl, fun k hk => ⟨g, rfl, by omega, ?_⟩⟩
        have := (h5 k (by rw [intVs_len]; exact hk)).1
        rw [this]
        simp [intVs, rd, List.getD, List.getElem?_eq_getElem hk]
    have HCe := Lib.hid hcells
    have Hv := Lib.hid hv1
    have Ho := Lib.hid (Only.of_below (S := [b, b1, b2]) hb)
    clear c0 hcells hv1 HO hown hb
    go_wp2
    go_loopw [7, 13] (fun _ i wr => ∃ k : Nat, k ≤ L.length ∧ i = .int .i64 k ∧ VecAt wr b b1 b2 { m with pl := clear6 m.pl (L.take k) } ∧ Only [b, b1, b2] w wr ∧ Hid (∀ p : Addr, p.block ≠ b1 → wr.cell? p = w1.cell? p)) (fun _ i _ => L.length - (intOf i).toNat)
    case atStart => exact ⟨0, by omega, rfl, by simpa [clear6] using Hv.out, Ho.out, fun _ _ => rfl⟩
    case round =>
      obtain ⟨k, hk, rfl, hv, ho, hcell⟩ := hrel
      have d0 := hv.c0
      by_cases hlt : k < L.length
      · obtain ⟨g, rfl, hg, cg⟩ := HCe.out k hlt
        have cg' := (hcell.out ⟨g, k, none⟩ hg).trans cg
        have hm := HM.out k hlt
        have hm8 : (rd L k).toNat < 8 := by omega
        obtain ⟨hm0, hm1⟩ := hm
        have cp := hv.cp (rd L k) hm0 hm1
        have fp := blk_frozen hv.p (rd L k).toNat
        have Hv' : Hid (VecAt (wr.setCell ⟨b1, (rd L k).toNat, none⟩ (.int .u8 6)) b b1 b2 { m with pl := clear6 m.pl (L.take (k + 1)) }) := by
          rw [HC.out k hlt]; exact hv.setp (rd L k).toNat 6 (by omega)
        have Ho' := Lib.hid (ho.setCell (p := ⟨b1, (rd L k).toNat, none⟩) (by simp) (.int .u8 6))
        have Hc' : Hid (∀ p : Addr, p.block ≠ b1 → (wr.setCell ⟨b1, (rd L k).toNat, none⟩ (.int .u8 6)).cell? p = w1.cell? p) := fun p hp => (World.cell?_of_block (w := wr) (Below.heap_setCell _ _ _ _ hp)).trans (hcell.out p hp)
        clear cg hv ho hcell
        go_wp2
        go_roundw
        case rel => exact ⟨k + 1, by omega, by go_num, Hv'.out, Ho'.out, Hc'⟩
        case measure => simp [intOf]; omega
      · have e : k = L.length := by omega
        subst e
        have c1 := may_yes hv env 0 he6 (by omega) (by omega)
        have d1 := hv.c1
        have dq := hv.cq env he he6
        have fq := blk_frozen hv.q env.toNat
        have Hv' := Lib.hid (hv.setq env.toNat 0 (by omega))
        have Ho' := Lib.hid (ho.setCell (p := ⟨b2, env.toNat, none⟩) (by simp) (.int .i64 0))
        clear hv ho hcell
        go_wp2_with (go_at_call 27; refine c1.mono ?_; rintro e w3 ⟨rfl, rfl⟩)
        go_ret
        exact ⟨rfl, Hv'.out, Ho'.out⟩
end Go.Proofs.Ytfdldlgnhdgmnaa

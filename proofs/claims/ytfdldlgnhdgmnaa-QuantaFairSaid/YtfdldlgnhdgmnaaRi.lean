/- QuantaForks walked. -/
import Derived.Test.YtfdldlgnhdgmnaaRh
namespace Go.Proofs.Ytfdldlgnhdgmnaa
open Go.RowKit

/-- Both pairs in memory, the forks beyond B. -/
structure Four (w : World) (l f : Where) (m mf : QM) (W : World) : Prop where
  v : VecAt W l.b l.b1 l.b2 m
  r : RefAt W l.r m
  fv : VecAt W f.b f.b1 f.b2 mf
  fr : RefAt W f.r mf
  o : Below w.heap.size w W
theorem Four.only {w l f m mf W W'} (h : Four w l f m mf W) (k : Only [] W W') : Four w l f m mf W' :=
  ⟨h.v.only k (by simp) (by simp) (by simp), h.r.only k (by simp), h.fv.only k (by simp) (by simp) (by simp), h.fr.only k (by simp), h.o.trans (k.below h.o.size (by simp))⟩

set_option maxRecDepth 100000 in
set_option maxHeartbeats 400000 in
theorem forks_walk {w : World} {A : Option Addr} {n c : Nat} {ds : Nat → Deed} (hd : DeedsAt w A n ds) (hn : n ≤ 9223372036854775807) {A' : Option Addr} {n' c' : Nat} {ds' : Nat → Deed} (hd' : DeedsAt w A' n' ds') (hn' : n' ≤ 9223372036854775807) :
    Calls Try.prog 8 #[.slice A n c, .slice A' n' c'] w fun e w' => e = .returned (.bool true) ∧ Below w.heap.size w w' := by
  have T := play_ok (c := c) hd hn
  have HD := Lib.hid hd'
  clear hd hn hd'
  go_enter Try.func8, Try.ntmps8
  go_wp2_with fail
  refine T.mono ?_
  rintro e w1 ⟨l, m, rfl, hv, hr, hb, hl⟩
  clear T
  go_wp2_with fail
  refine (live_ok _).mono ?_
  rintro e w2 ⟨rfl, hb2⟩
  have ho := Only.of_below (S := []) hb2
  replace hv := hv.only ho (by simp) (by simp) (by simp)
  replace hr := hr.only ho (by simp)
  have Hb := Lib.hid (hb.trans (hb2.mono hb.size))
  have HL := Lib.hid hl
  have T := Fork_ok hv
  have HV := Lib.hid hv
  have HR := Lib.hid hr
  clear hb hb2 ho hl hv hr
  go_wp2_with fail
  refine T.mono ?_
  rintro e w3 ⟨g, g1, g2, rfl, hf, hb3, l0, l1, l2⟩
  clear T
  have ho3 := Only.of_below (S := []) hb3
  have T := rFork_ok (HR.out.only ho3 (by simp))
  have HF := Lib.hid hf
  have Hb3 := Lib.hid hb3
  clear hf hb3 ho3
  go_wp2_with fail
  refine T.mono ?_
  rintro e w4 ⟨q, rfl, hg, hb4, l3⟩
  clear T
  have hbs : w2.heap.size ≤ w3.heap.size := Hb3.out.size
  have hlb := blk_lt HV.out.s
  have hlb1 := blk_lt HV.out.p
  have hlb2 := blk_lt HV.out.q
  have hlr := blk_lt HR.out.s
  obtain ⟨f, hf⟩ : ∃ f : Where, f = ⟨g, g1, g2, q⟩ := ⟨_, rfl⟩
  have e0 : g = f.b := by rw [hf]
  have e1 : g1 = f.b1 := by rw [hf]
  have e2 : g2 = f.b2 := by rw [hf]
  have e3 : q = f.r := by rw [hf]
  subst e0 e1 e2 e3
  clear hf
  have H0 : Hid (Four w l f m m w4) := by
    have o3 := Only.of_below (S := []) Hb3.out
    have o4 := Only.of_below (S := []) hb4
    refine ⟨(HV.out.only o3 (by simp) (by simp) (by simp)).only o4 (by simp) (by simp) (by simp), (HR.out.only o3 (by simp)).only o4 (by simp), HF.out.only o4 (by simp) (by simp) (by simp), hg, ?_⟩
    exact (Hb.out.trans (Hb3.out.mono Hb.out.size)).trans (hb4.mono (Nat.le_trans Hb.out.size Hb3.out.size))
  have HN : Hid (∀ x, x ∈ [f.b, f.b1, f.b2, f.r] → w.heap.size ≤ x ∧ x ≠ l.b ∧ x ≠ l.b1 ∧ x ≠ l.b2 ∧ x ≠ l.r) := by
    have := Hb.out.size
    intro x hx
    simp at hx
    omega
  clear Hb Hb3 HF HV HR hg hb4 l0 l1 l2 l3 hbs hlb hlb1 hlb2 hlr HL
  go_wp2
  go_loopw [10] (fun i wr => ∃ k : Nat, k ≤ n' ∧ i = .int .i64 k ∧ Hid (∃ mf, Four w l f m mf wr)) (fun i _ => n' - (intOf i).toNat)
  case atStart => exact ⟨0, by omega, rfl, ⟨m, H0.out⟩⟩
  case round =>
    clear H0
    obtain ⟨k, hk, rfl, ⟨mf, h4⟩⟩ := hrel
    by_cases hlt : k < n' ∧ k < 20
    · obtain ⟨hlt, h20⟩ := hlt
      obtain ⟨a, rfl, hx, d0, d1, d2, d3⟩ := (HD.out.below h4.o) k hlt
      have T := do_ok (ds' k) h4.fv h4.fr hx
      unfold Deed.val at T
      have H4 := Lib.hid h4
      clear h4
      go_wp2_with fail
      refine T.mono ?_
      rintro e w5 ⟨rfl, HD5⟩
      have Hm : Hid (∃ mf, Four w l f m mf w5) := by
        obtain ⟨j1, j2, j3⟩ := HD5.out
        have hN := HN.out
        have ne : ∀ y, (y = l.b ∨ y = l.b1 ∨ y = l.b2 ∨ y = l.r) → y ∉ [f.b, f.b1, f.b2, f.r] := fun y hy hm => by
          obtain ⟨_, h1, h2, h3, h4⟩ := hN y hm
          rcases hy with rfl | rfl | rfl | rfl <;> contradiction
        exact ⟨_, H4.out.v.only j3 (ne _ (.inl rfl)) (ne _ (.inr (.inl rfl))) (ne _ (.inr (.inr (.inl rfl)))), H4.out.r.only j3 (ne _ (.inr (.inr (.inr rfl)))), j1, j2, H4.out.o.trans (j3.below H4.out.o.size (fun x hx => (hN x hx).1))⟩
      clear T HD5 H4
      go_wp2
      go_roundw
      case rel => exact ⟨k + 1, by omega, by go_num, Hm⟩
      case measure => simp [intOf]; omega
    · have H4 := Lib.hid h4
      have T1 := same_ok h4.v h4.r
      have hT1 := Lib.hid T1
      clear h4 T1
      by_cases hlt' : k < n'
      · have h20 : ¬ k < 20 := fun h => hlt ⟨hlt', h⟩
        have T := hT1.out
        clear hlt
        go_wp2_with fail
        refine T.mono ?_
        rintro e w5 ⟨rfl, ho⟩
        have H5 := Lib.hid (H4.out.only ho)
        clear T hT1 H4 ho
        have T := same_ok H5.out.fv H5.out.fr
        go_wp2_with fail
        refine T.mono ?_
        rintro e w6 ⟨rfl, ho⟩
        have H6 := Lib.hid (H5.out.only ho)
        clear T H5 ho
        go_wp2
        go_ret
        exact ⟨rfl, H6.out.o⟩
      · have T := hT1.out
        clear hlt
        go_wp2_with fail
        refine T.mono ?_
        rintro e w5 ⟨rfl, ho⟩
        have H5 := Lib.hid (H4.out.only ho)
        clear T hT1 H4 ho
        have T := same_ok H5.out.fv H5.out.fr
        go_wp2_with fail
        refine T.mono ?_
        rintro e w6 ⟨rfl, ho⟩
        have H6 := Lib.hid (H5.out.only ho)
        clear T H5 ho
        go_wp2
        go_ret
        exact ⟨rfl, H6.out.o⟩
end Go.Proofs.Ytfdldlgnhdgmnaa

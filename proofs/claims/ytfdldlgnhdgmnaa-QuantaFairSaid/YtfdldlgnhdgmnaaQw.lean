/- Quanta: a law's arguments opened; QuantaPlays walked. -/
import Derived.Test.YtfdldlgnhdgmnaaRg
import Derived.Test.YtfdldlgnhdgmnaaLaw
import Derived.Lib.SmallJoins
namespace Go.Proofs.Ytfdldlgnhdgmnaa
open Go.RowKit Go.WideShapes Go.ChangeShapes Go.Deep Go.Joins

section
variable {H : Type} {enc : TypeId × Value → H} {w : World} {base : Nat} {spare : Nat → Bool} {held : Bool}
theorem open_deeds {r : Reach} {b0 : Nat} {v : Value} {d : DataW H} {ps : List MemPlace} (hv : Value.okWide Try.prog w r b0 31 v) (h : DataW.Trod enc Try.prog w base spare held 31 v d ps) :
    ∃ A n c ds, v = .slice A n c ∧ n ≤ 9223372036854775807 ∧ DeedsAt w A n ds := by
  obtain ⟨A, n, c, rfl⟩ := okWide_slice Try.underlying31 hv
  obtain ⟨fuel, hf⟩ := h
  rcases open_slice_fields Try.underlying31 Try.underlying40 (by kernel_rfl) (by kernel_rfl) hf with ⟨h1, _⟩ | ⟨a, len, cap, m, D, Pl, h1, _, h2, h3, hm, _, h4⟩
  · have : A = none ∧ n = 0 := by simp [Value.cells] at h1; exact ⟨h1.1, h1.2.1⟩
    obtain ⟨rfl, rfl⟩ := this
    exact ⟨none, 0, c, fun _ => ⟨0, 0, 0, 0⟩, rfl, by omega, fun i hi => absurd hi (by omega)⟩
  · have : A = some a ∧ n = len := by simp [Value.cells] at h1; exact ⟨h1.1, h1.2.1⟩
    obtain ⟨rfl, rfl⟩ := this
    have hmn : n ≤ m := by rw [hm]; split <;> omega
    have key : ∀ i, i < n → ∃ x : Deed, x.Ok ∧ w.cell? (a.add (i * 4)) = some (.int .i64 x.kd) ∧ w.cell? ⟨(a.add (i * 4)).block, (a.add (i * 4)).off + 1, none⟩ = some (.int .i64 x.place) ∧
        w.cell? ⟨(a.add (i * 4)).block, (a.add (i * 4)).off + 2, none⟩ = some (.int .u8 x.env) ∧ w.cell? ⟨(a.add (i * 4)).block, (a.add (i * 4)).off + 3, none⟩ = some (.int .u8 x.tgt) := by
      intro i hi
      obtain ⟨ys, k, _, _, _, hf⟩ := h4 i (by omega)
      obtain ⟨v0, y0, c0, _, t0⟩ := hf 0 _ rfl
      obtain ⟨v1, y1, c1, _, t1⟩ := hf 1 _ rfl
      obtain ⟨v2, y2, c2, _, t2⟩ := hf 2 _ rfl
      obtain ⟨v3, y3, c3, _, t3⟩ := hf 3 _ rfl
      obtain ⟨n0, e0, _, w0⟩ := DataW.trod_int Try.underlying3 t0
      obtain ⟨n1, e1, _, w1⟩ := DataW.trod_int Try.underlying3 t1
      obtain ⟨n2, e2, _, w2⟩ := DataW.trod_int Try.underlying5 t2
      obtain ⟨n3, e3, _, w3⟩ := DataW.trod_int Try.underlying5 t3
      simp only [List.cons.injEq, and_true] at e0 e1 e2 e3
      subst e0 e1 e2 e3
      simp only [List.size_toArray, List.length_cons, List.length_nil, Nat.zero_add, Nat.reduceAdd] at c0 c1 c2 c3
      rw [add_field _ _ _ (by omega)] at c1 c2 c3
      rw [Nat.add_zero] at c0
      exact ⟨⟨n0, n1, n2, n3⟩, ⟨(wf_u8 w2).1, (wf_u8 w2).2, (wf_u8 w3).1, (wf_u8 w3).2⟩, c0, c1, c2, c3⟩
    refine ⟨some a, n, c, fun i => if h : i < n then (key i h).choose else ⟨0, 0, 0, 0⟩, rfl, by simp only [maxLen] at h3; omega, fun i hi => ⟨a, rfl, ?_⟩⟩
    simp only [hi, dif_pos]
    exact (key i hi).choose_spec
end

theorem plays_walk {w : World} {A : Option Addr} {n c : Nat} {ds : Nat → Deed} (hd : DeedsAt w A n ds) (hn : n ≤ 9223372036854775807) :
    Calls Try.prog 7 #[.slice A n c] w fun e w' => e = .returned (.bool true) ∧ Below w.heap.size w w' := by
  have T := play_ok (c := c) hd hn
  clear hd hn
  go_enter Try.func7, Try.ntmps7
  go_wp2_with fail
  refine T.mono ?_
  rintro e w1 ⟨l, m, rfl, hv, hr, hb, hl⟩
  clear T
  go_wp2_with fail
  refine (live_ok _).mono ?_
  rintro e w2 ⟨rfl, hb2⟩
  have ho := Only.of_below (S := []) hb2
  have T := same_ok (hv.only ho (by simp) (by simp) (by simp)) (hr.only ho (by simp))
  have Hb := Lib.hid (hb.trans (hb2.mono hb.size))
  clear hv hr ho hb hb2
  go_wp2_with fail
  refine T.mono ?_
  rintro e w3 ⟨rfl, ho3⟩
  clear T
  go_wp2
  go_ret
  exact ⟨rfl, Hb.out.trans (ho3.below Hb.out.size (by simp))⟩
end Go.Proofs.Ytfdldlgnhdgmnaa

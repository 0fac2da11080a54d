/- IsaMany, in the model's words. -/
import Derived.Test.YtjopikjefpenkaaDoorGk
import Derived.Test.YtjopikjefpenkaaDoorGl
set_option linter.unusedSimpArgs false
set_option linter.unusedVariables false
set_option linter.unusedSectionVars false
namespace Go.Proofs.YtjopikjefpenkaaDoor
open Go.RowKit Go.WideShapes Go.ChangeShapes Go.Deep
set_option maxRecDepth 100000
theorem notAllB {B : List UInt8} {o n : Nat} : allB B o n ∨ ¬ allB B o n := Classical.em _
theorem isaMany_pc (Q : List QV) (B : List UInt8) (l b : Value) (hl : ArgL Q l) (hb : ArgB B b) (hr : ∀ q ∈ Q, QR q) : PC Tryd.prog 3 [l, b] [.ro (rowQ Q), .ro (u8s B)] (fun v _ => v = .bool true) fun _ _ => False := by
  rcases hl with rfl | ⟨c1, hc1, rfl⟩ <;> rcases hb with rfl | ⟨c2, hc2, rfl⟩
  · exact many_nil_nil Q B
  · by_cases hclip : 400 < B.length
    · by_cases hB : allB B 0 400
      · exact many_nil_ok_c Q B c2 400 hc2 hclip rfl (by decide) (by decide) hB
      · exact many_nil_bad_c Q B c2 400 hc2 hclip rfl (by decide) hB
    · by_cases h4 : B.length % 4 = 0
      · by_cases hB : allB B 0 B.length
        · by_cases hk : B.length / 4 = 0
          · exact many_nil_zero Q B c2 _ hc2 hclip rfl h4 hk hB
          · exact many_nil_ok Q B c2 _ hc2 hclip rfl h4 (by omega) hB
        · exact many_nil_bad Q B c2 _ hc2 hclip rfl h4 hB
      · exact many_nil_odd Q B c2 _ hc2 hclip rfl h4
  · by_cases hm0 : min Q.length 60 = 0
    · exact many_zero_nil Q B c1 _ hc1 hr rfl hm0
    · by_cases hA : allQ Q (min Q.length 60)
      · exact many_ok_nil Q B c1 _ hc1 hr rfl (by omega) hA
      · exact many_bad_nil Q B c1 _ hc1 hr rfl (by omega) hA
  · by_cases hclip : 400 < B.length
    · by_cases hB : allB B 0 400
      · by_cases hm0 : min Q.length 60 = 0
        · exact many_zero_ok_c Q B c1 _ hc1 hr rfl hm0 c2 400 hc2 hclip rfl (by decide) (by decide) hB
        · by_cases hA : allQ Q (min Q.length 60)
          · exact many_ok_ok_c Q B c1 _ hc1 hr rfl (by omega) hA c2 400 hc2 hclip rfl (by decide) (by decide) hB
          · exact many_bad_ok_c Q B c1 _ hc1 hr rfl (by omega) hA c2 400 hc2 hclip rfl (by decide) (by decide) hB
      · by_cases hm0 : min Q.length 60 = 0
        · exact many_zero_bad_c Q B c1 _ hc1 hr rfl hm0 c2 400 hc2 hclip rfl (by decide) hB
        · by_cases hA : allQ Q (min Q.length 60)
          · exact many_ok_bad_c Q B c1 _ hc1 hr rfl (by omega) hA c2 400 hc2 hclip rfl (by decide) hB
          · exact many_bad_bad_c Q B c1 _ hc1 hr rfl (by omega) hA c2 400 hc2 hclip rfl (by decide) hB
    · by_cases h4 : B.length % 4 = 0
      · by_cases hB : allB B 0 B.length
        · by_cases hk : B.length / 4 = 0
          · by_cases hm0 : min Q.length 60 = 0
            · exact many_zero_zero Q B c1 _ hc1 hr rfl hm0 c2 _ hc2 hclip rfl h4 hk hB
            · by_cases hA : allQ Q (min Q.length 60)
              · exact many_ok_zero Q B c1 _ hc1 hr rfl (by omega) hA c2 _ hc2 hclip rfl h4 hk hB
              · exact many_bad_zero Q B c1 _ hc1 hr rfl (by omega) hA c2 _ hc2 hclip rfl h4 hk hB
          · by_cases hm0 : min Q.length 60 = 0
            · exact many_zero_ok Q B c1 _ hc1 hr rfl hm0 c2 _ hc2 hclip rfl h4 (by omega) hB
            · by_cases hA : allQ Q (min Q.length 60)
              · exact many_ok_ok Q B c1 _ hc1 hr rfl (by omega) hA c2 _ hc2 hclip rfl h4 (by omega) hB
              · exact many_bad_ok Q B c1 _ hc1 hr rfl (by omega) hA c2 _ hc2 hclip rfl h4 (by omega) hB
        · by_cases hm0 : min Q.length 60 = 0
          · exact many_zero_bad Q B c1 _ hc1 hr rfl hm0 c2 _ hc2 hclip rfl h4 hB
          · by_cases hA : allQ Q (min Q.length 60)
            · exact many_ok_bad Q B c1 _ hc1 hr rfl (by omega) hA c2 _ hc2 hclip rfl h4 hB
            · exact many_bad_bad Q B c1 _ hc1 hr rfl (by omega) hA c2 _ hc2 hclip rfl h4 hB
      · by_cases hm0 : min Q.length 60 = 0
        · exact many_zero_odd Q B c1 _ hc1 hr rfl hm0 c2 _ hc2 hclip rfl h4
        · by_cases hA : allQ Q (min Q.length 60)
          · exact many_ok_odd Q B c1 _ hc1 hr rfl (by omega) hA c2 _ hc2 hclip rfl h4
          · exact many_bad_odd Q B c1 _ hc1 hr rfl (by omega) hA c2 _ hc2 hclip rfl h4
section
variable {H : Type} {enc : TypeId × Value → H} {w : World} {base : Nat} {held : Bool} {r : Go.Reach} {b0 : Nat} {v : Value} {d : DataW H} {p : List MemPlace}
theorem rowQ_of_fit : ∀ (n : Nat) {cs : List Value}, FitL (List.replicate n [CK.int .u8, CK.int .u8, CK.int .u8, CK.int .u16]).flatten cs → ∃ Q : List QV, cs = rowQ Q ∧ Q.length = n ∧ ∀ q ∈ Q, QR q
  | 0, cs, h => ⟨[], by simp at h; exact FitL.unnil h, rfl, fun q hq => by simp at hq⟩
  | n + 1, cs, h => by
    rw [List.replicate_succ, List.flatten_cons] at h
    obtain ⟨v0, c0, rfl, g0, k1⟩ := FitL.uncons h
    obtain ⟨v1, c1, rfl, g1, k2⟩ := FitL.uncons k1
    obtain ⟨v2, c2, rfl, g2, k3⟩ := FitL.uncons k2
    obtain ⟨v3, cs', rfl, g3, k4⟩ := FitL.uncons k3
    obtain ⟨n0, rfl, b0⟩ := fit_u8 g0
    obtain ⟨n1, rfl, b1⟩ := fit_u8 g1
    obtain ⟨n2, rfl, b2⟩ := fit_u8 g2
    obtain ⟨n3, rfl, b3⟩ := fit_u16 g3
    obtain ⟨Q, rfl, hQ, hr⟩ := rowQ_of_fit n k4
    refine ⟨(n0, n1, n2, n3) :: Q, rfl, by simp [hQ], fun q hq => ?_⟩
    rcases List.mem_cons.1 hq with rfl | hq
    · exact ⟨b0.1, b1.1, b2.1, b3.1, b3.2⟩
    · exact hr q hq
theorem open_insrow (hv : Value.okWide Tryd.prog w r b0 22 v) (h : DataW.Trod enc Tryd.prog w base (fun _ => true) held 22 v d p) :
    v = .slice none 0 0 ∨ ∃ (a : Addr) (c : Nat) (Q : List QV) (τ : Tau), v = .slice (some a) Q.length c ∧ Q.length ≤ c ∧ c ≤ 9223372036854775807 ∧ (∀ q ∈ Q, QR q) ∧ RH τ [.ro (rowQ Q)] w ∧ VR τ (.slice (some ⟨0, 0, none⟩) Q.length c) v := by
  rcases open_rowv (e := 40) 4 (by kernel_rfl) shp_ins (by simp) hv h with h0 | ⟨a, len, cap, cells, rfl, h1, h2, h3, h4, h5⟩
  · exact .inl h0
  · obtain ⟨Q, rfl, hQ, hr⟩ := rowQ_of_fit len h3
    obtain ⟨τ, g1, g2⟩ := row_mem h2 h4 (rowQ_flat Q) h5 h1
    subst hQ
    exact .inr ⟨a, cap, Q, τ, rfl, h1, h2, hr, g1, g2⟩
/-- Two rows that are read alone. -/
def tau2 (τ1 τ2 : Tau) : Tau := fun b => if b = 0 then τ1 0 else if b = 1 then τ2 0 else none
theorem ro_lift {τ1 τ : Tau} {cs : List Value} {p : Pl} (hf : cs.all (flat 6) = true) (h : OR τ1 p w (.ro cs)) : OR τ p w (.ro cs) := fun i v hi => by
  obtain ⟨v', h1, h2⟩ := h i v hi
  have := List.all_eq_true.1 hf v (List.mem_of_getElem? hi)
  rw [h2.flat_eq 6 this] at h1
  exact ⟨v, h1, VR.of_flat this⟩
theorem rh_two {τ1 τ2 : Tau} {cs ds : List Value} (hc : cs.all (flat 6) = true) (hd : ds.all (flat 6) = true) (h1 : RH τ1 [.ro cs] w) (h2 : RH τ2 [.ro ds] w) : RH (tau2 τ1 τ2) [.ro cs, .ro ds] w := by
  refine ⟨fun b p hb => ?_, fun b c p q o o' hne hb hc h3 h4 => ?_⟩
  · unfold tau2 at hb
    split at hb
    · rename_i e; subst e
      obtain ⟨o, g1, g2, g3⟩ := h1.ob 0 p hb
      simp at g1; subst g1
      exact ⟨_, rfl, ro_lift hc g2, g3⟩
    · split at hb
      · rename_i e; subst e
        obtain ⟨o, g1, g2, g3⟩ := h2.ob 0 p hb
        simp at g1; subst g1
        exact ⟨_, rfl, ro_lift hd g2, g3⟩
      · cases hb
  · have : o = .ro cs ∨ o = .ro ds := by
      match b, h3 with
      | 0, h3 => simp at h3; exact .inl h3.symm
      | 1, h3 => simp at h3; exact .inr h3.symm
      | b + 2, h3 => simp at h3
    rcases this with rfl | rfl <;> cases h4
theorem vr_row1 {τ1 τ2 : Tau} {n c : Nat} {v : Value} (h : VR τ1 (.slice (some ⟨0, 0, none⟩) n c) v) : VR (tau2 τ1 τ2) (.slice (some ⟨0, 0, none⟩) n c) v := by
  cases h with
  | sex _ _ _ h => exact .sex _ _ _ h
  | se0 => exact .se0 _ _ _
theorem vr_row2 {τ1 τ2 : Tau} {n c : Nat} {v : Value} (h : VR τ2 (.slice (some ⟨0, 0, none⟩) n c) v) : VR (tau2 τ1 τ2) (.slice (some ⟨1, 0, none⟩) n c) v := by
  cases h with
  | sex _ _ _ h => exact .sex _ _ _ h
  | se0 => exact .se0 _ _ _
theorem ro_two {cs ds : List Value} : ∀ o ∈ [PO.ro cs, PO.ro ds], o.own = false := by simp [PO.own]
theorem vrs2' {τ : Tau} {a b a' b' : Value} (h1 : VR τ a a') (h2 : VR τ b b') : VRs τ #[a, b] #[a', b'] := by
  refine ⟨rfl, fun i v v' g1 g2 => ?_⟩
  match i, g1, g2 with
  | 0, g1, g2 => simp at g1 g2; subst g1; subst g2; exact h1
  | 1, g1, g2 => simp at g1 g2; subst g1; subst g2; exact h2
  | i + 2, g1, _ => simp at g1
theorem many_walk (hI : Inv.I w ∧ ∀ k, Inv.B k → k < w.heap.size) {l b : Value}
    (hl : l = .slice none 0 0 ∨ ∃ (a : Addr) (c : Nat) (Q : List QV) (τ : Tau), l = .slice (some a) Q.length c ∧ Q.length ≤ c ∧ c ≤ 9223372036854775807 ∧ (∀ q ∈ Q, QR q) ∧ RH τ [.ro (rowQ Q)] w ∧ VR τ (.slice (some ⟨0, 0, none⟩) Q.length c) l)
    (hb : b = .slice none 0 0 ∨ ∃ (a : Addr) (c : Nat) (B : List UInt8) (τ : Tau), b = .slice (some a) B.length c ∧ B.length ≤ c ∧ c ≤ 9223372036854775807 ∧ RH τ [.ro (u8s B)] w ∧ VR τ (.slice (some ⟨0, 0, none⟩) B.length c) b) :
    Calls Tryd.prog 3 #[l, b] w fun e w' => e = .returned (.bool true) ∧ Below w.heap.size w w' := by
  have h0 : ∀ o : PO, RH (fun _ => none) [o] w := fun o => ⟨fun b p h => (nomatch h), fun b c p q o o' _ h => (nomatch h)⟩
  rcases hl with rfl | ⟨_, c1, Q, τ1, rfl, h1, h2, hr, h3, h4⟩ <;> rcases hb with rfl | ⟨_, c2, B, τ2, rfl, k1, k2, k3, k4⟩
  · exact (isaMany_pc [] [] _ _ (.inl rfl) (.inl rfl) (fun q hq => by simp at hq)).law hI (rh_two rfl rfl (h0 _) (h0 _)) (vrs2' .snil .snil) ro_two
  · exact (isaMany_pc [] B _ _ (.inl rfl) (.inr ⟨c2, k1, rfl⟩) (fun q hq => by simp at hq)).law hI (rh_two rfl (u8s_flat B) (h0 _) k3) (vrs2' .snil (vr_row2 k4)) ro_two
  · exact (isaMany_pc Q [] _ _ (.inr ⟨c1, h1, rfl⟩) (.inl rfl) hr).law hI (rh_two (rowQ_flat Q) rfl h3 (h0 _)) (vrs2' (vr_row1 h4) .snil) ro_two
  · exact (isaMany_pc Q B _ _ (.inr ⟨c1, h1, rfl⟩) (.inr ⟨c2, k1, rfl⟩) hr).law hI (rh_two (rowQ_flat Q) (u8s_flat B) h3 k3) (vrs2' (vr_row1 h4) (vr_row2 k4)) ro_two
end
end Go.Proofs.YtjopikjefpenkaaDoor

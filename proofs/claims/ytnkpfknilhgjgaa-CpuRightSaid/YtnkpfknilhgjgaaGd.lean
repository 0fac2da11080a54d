/- The processor's laws: their arguments opened, their walks in the model's words. -/
import Derived.Test.YtnkpfknilhgjgaaGc
import Derived.Test.YtnkpfknilhgjgaaGl
set_option linter.unusedSimpArgs false
set_option linter.unusedVariables false
namespace Go.Proofs.Ytnkpfknilhgjgaa
open Go.RowKit Go.WideShapes Go.ChangeShapes Go.Deep
set_option maxRecDepth 100000
section
variable {H : Type} {enc : TypeId × Value → H} {w : World} {base : Nat} {spare : Nat → Bool} {held : Bool} {r : Go.Reach} {b0 : Nat} {v : Value} {d : DataW H} {p : List MemPlace}
theorem fit_int {k : IntKind} {v : Value} (h : (CK.int k).fits v) : ∃ n, v = .int k n ∧ k.min ≤ n ∧ n ≤ k.max := by
  obtain ⟨n, h1, h2⟩ := h
  exact ⟨n, h1, (wf_int h2).1, (wf_int h2).2⟩
theorem fit_u16 {v : Value} (h : (CK.int .u16).fits v) : ∃ n, v = .int .u16 n ∧ 0 ≤ n ∧ n ≤ 65535 := fit_int h
theorem fit_u8 {v : Value} (h : (CK.int .u8).fits v) : ∃ n, v = .int .u8 n ∧ 0 ≤ n ∧ n ≤ 255 := fit_int h
theorem shp_regs : shp Try.prog 4 26 = some [.int .u16, .int .u16, .int .u16, .int .u16, .int .u16, .int .u16, .int .u16, .int .u16, .int .u16] := by kernel_rfl
theorem open_regs (hv : Value.okWide Try.prog w r b0 26 v) (h : DataW.Trod enc Try.prog w base spare held 26 v d p) : ∃ q, v = regsV q ∧ RegsOk q := by
  obtain ⟨⟨cs⟩, rfl, hf⟩ := open_bare 4 (by kernel_rfl) shp_regs hv h
  obtain ⟨v0, _, rfl, g0, hf⟩ := FitL.uncons hf
  obtain ⟨v1, _, rfl, g1, hf⟩ := FitL.uncons hf
  obtain ⟨v2, _, rfl, g2, hf⟩ := FitL.uncons hf
  obtain ⟨v3, _, rfl, g3, hf⟩ := FitL.uncons hf
  obtain ⟨v4, _, rfl, g4, hf⟩ := FitL.uncons hf
  obtain ⟨v5, _, rfl, g5, hf⟩ := FitL.uncons hf
  obtain ⟨v6, _, rfl, g6, hf⟩ := FitL.uncons hf
  obtain ⟨v7, _, rfl, g7, hf⟩ := FitL.uncons hf
  obtain ⟨v8, _, rfl, g8, hf⟩ := FitL.uncons hf
  obtain rfl := FitL.unnil hf
  obtain ⟨n0, rfl, b0⟩ := fit_u16 g0
  obtain ⟨n1, rfl, b1⟩ := fit_u16 g1
  obtain ⟨n2, rfl, b2⟩ := fit_u16 g2
  obtain ⟨n3, rfl, b3⟩ := fit_u16 g3
  obtain ⟨n4, rfl, b4⟩ := fit_u16 g4
  obtain ⟨n5, rfl, b5⟩ := fit_u16 g5
  obtain ⟨n6, rfl, b6⟩ := fit_u16 g6
  obtain ⟨n7, rfl, b7⟩ := fit_u16 g7
  obtain ⟨n8, rfl, b8⟩ := fit_u16 g8
  refine ⟨fun i => match i with | 0 => n0 | 1 => n1 | 2 => n2 | 3 => n3 | 4 => n4 | 5 => n5 | 6 => n6 | 7 => n7 | 8 => n8 | _ => 0, rfl, fun i => ?_⟩
  match i with
  | 0 => exact b0 | 1 => exact b1 | 2 => exact b2 | 3 => exact b3 | 4 => exact b4 | 5 => exact b5 | 6 => exact b6 | 7 => exact b7 | 8 => exact b8
  | _ + 9 => exact ⟨Int.le_refl _, by show (0 : Int) ≤ _; omega⟩
theorem shp_ins : shp Try.prog 4 29 = some [.int .u8, .int .u8, .int .u8, .int .u16] := by kernel_rfl
theorem open_ins (hv : Value.okWide Try.prog w r b0 29 v) (h : DataW.Trod enc Try.prog w base spare held 29 v d p) : ∃ o a b n, v = insV o a b n ∧ 0 ≤ o ∧ 0 ≤ a ∧ 0 ≤ b ∧ 0 ≤ n ∧ n ≤ 65535 := by
  obtain ⟨⟨cs⟩, rfl, hf⟩ := open_bare 4 (by kernel_rfl) shp_ins hv h
  obtain ⟨v0, _, rfl, g0, hf⟩ := FitL.uncons hf
  obtain ⟨v1, _, rfl, g1, hf⟩ := FitL.uncons hf
  obtain ⟨v2, _, rfl, g2, hf⟩ := FitL.uncons hf
  obtain ⟨v3, _, rfl, g3, hf⟩ := FitL.uncons hf
  obtain rfl := FitL.unnil hf
  obtain ⟨n0, rfl, b0⟩ := fit_u8 g0
  obtain ⟨n1, rfl, b1⟩ := fit_u8 g1
  obtain ⟨n2, rfl, b2⟩ := fit_u8 g2
  obtain ⟨n3, rfl, b3⟩ := fit_u16 g3
  exact ⟨n0, n1, n2, n3, rfl, b0.1, b1.1, b2.1, b3.1, b3.2⟩
theorem u8s_of_fit : ∀ (n : Nat) {cs : List Value}, FitL (List.replicate n [CK.int .u8]).flatten cs → ∃ B : List UInt8, cs = u8s B ∧ B.length = n
  | 0, cs, h => ⟨[], by simp at h; exact FitL.unnil h, rfl⟩
  | n + 1, cs, h => by
    rw [List.replicate_succ, List.flatten_cons] at h
    obtain ⟨x, cs', rfl, h1, h2⟩ := FitL.uncons h
    obtain ⟨m, rfl, m0, m1⟩ := fit_u8 h1
    obtain ⟨B, rfl, hB⟩ := u8s_of_fit n h2
    refine ⟨UInt8.ofNat m.toNat :: B, ?_, by simp [hB]⟩
    show _ = Value.int .u8 _ :: _
    congr 2
    rw [UInt8.toNat_ofNat', Nat.mod_eq_of_lt (by omega)]
    omega
theorem open_bytes (hv : Value.okWide Try.prog w r b0 38 v) (h : DataW.Trod enc Try.prog w base (fun _ => true) held 38 v d p) :
    v = .slice none 0 0 ∨ ∃ (a : Addr) (c : Nat) (B : List UInt8) (τ : Tau), v = .slice (some a) B.length c ∧ B.length ≤ c ∧ c ≤ 9223372036854775807 ∧ RH τ [.ro (u8s B)] w ∧ VR τ (.slice (some ⟨0, 0, none⟩) B.length c) v := by
  rcases open_rowv (e := 5) 2 (by kernel_rfl) (show shp Try.prog 2 5 = some [.int .u8] by kernel_rfl) (by simp) hv h with h0 | ⟨a, len, cap, cells, rfl, h1, h2, h3, h4, h5⟩
  · exact .inl h0
  · obtain ⟨B, rfl, hB⟩ := u8s_of_fit len h3
    obtain ⟨τ, g1, g2⟩ := row_mem h2 h4 (u8s_flat B) h5 h1
    subst hB
    exact .inr ⟨a, cap, B, τ, rfl, h1, h2, g1, g2⟩
theorem shp_two : shp Try.prog 3 43 = some [.int .u8, .int .u8] := by kernel_rfl
theorem open_two (hv : Value.okWide Try.prog w r b0 43 v) (h : DataW.Trod enc Try.prog w base spare held 43 v d p) : ∃ x y, v = .agg #[.int .u8 x, .int .u8 y] ∧ (0 ≤ x ∧ x ≤ 255) ∧ 0 ≤ y ∧ y ≤ 255 := by
  obtain ⟨⟨cs⟩, rfl, hf⟩ := open_bare 3 (by kernel_rfl) shp_two hv h
  obtain ⟨v0, _, rfl, g0, hf⟩ := FitL.uncons hf
  obtain ⟨v1, _, rfl, g1, hf⟩ := FitL.uncons hf
  obtain rfl := FitL.unnil hf
  obtain ⟨n0, rfl, b0⟩ := fit_u8 g0
  obtain ⟨n1, rfl, b1⟩ := fit_u8 g1
  exact ⟨n0, n1, rfl, b0, b1⟩
/-! ### the walks -/
theorem ro_one (cs : List Value) : ∀ o ∈ [PO.ro cs], o.own = false := by simp [PO.own]
theorem ro_none : ∀ o ∈ ([] : List PO), o.own = false := by simp
theorem rh_nil : RH (fun _ => none) [] w := ⟨fun b p h => (nomatch h), fun b c p q o o' _ h => (nomatch h)⟩
theorem VRs.three {τ : Tau} {a b c a' b' c' : Value} (h1 : VR τ a a') (h2 : VR τ b b') (h3 : VR τ c c') : VRs τ #[a, b, c] #[a', b', c'] := by
  refine ⟨rfl, fun i v v' g1 g2 => ?_⟩
  match i, g1, g2 with
  | 0, g1, g2 => simp at g1 g2; subst g1; subst g2; exact h1
  | 1, g1, g2 => simp at g1 g2; subst g1; subst g2; exact h2
  | 2, g1, g2 => simp at g1 g2; subst g1; subst g2; exact h3
  | i + 3, g1, _ => simp at g1
theorem runs_walk {q : Nat → Int} (hq : RegsOk q) (most : Int) (hb : v = .slice none 0 0 ∨ ∃ (a : Addr) (c : Nat) (B : List UInt8) (τ : Tau), v = .slice (some a) B.length c ∧ B.length ≤ c ∧ c ≤ 9223372036854775807 ∧ RH τ [.ro (u8s B)] w ∧ VR τ (.slice (some ⟨0, 0, none⟩) B.length c) v) :
    Calls Try.prog 4 #[regsV q, v, .int .i64 most] w fun e w' => e = .returned (.bool true) ∧ Below w.heap.size w w' := by
  rcases hb with rfl | ⟨a, c, B, τ, rfl, h1, h2, h3, h4⟩
  · exact (cpuRuns_nil q hq most).law rh_nil (VRs.three (VR.of_flat (n := 6) rfl) .snil (.int _ _)) ro_none
  · exact (cpuRuns_row B c q hq most h1 (by omega)).law h3 (VRs.three (VR.of_flat (n := 6) rfl) h4 (.int _ _)) (ro_one _)
theorem joins_walk {q : Nat → Int} (hq : RegsOk q) {x y : Int} (hx : 0 ≤ x ∧ x ≤ 255) (hy : 0 ≤ y ∧ y ≤ 255) (hb : v = .slice none 0 0 ∨ ∃ (a : Addr) (c : Nat) (B : List UInt8) (τ : Tau), v = .slice (some a) B.length c ∧ B.length ≤ c ∧ c ≤ 9223372036854775807 ∧ RH τ [.ro (u8s B)] w ∧ VR τ (.slice (some ⟨0, 0, none⟩) B.length c) v) :
    Calls Try.prog 5 #[regsV q, v, .agg #[.int .u8 x, .int .u8 y]] w fun e w' => e = .returned (.bool true) ∧ Below w.heap.size w w' := by
  rcases hb with rfl | ⟨a, c, B, τ, rfl, h1, h2, h3, h4⟩
  · exact (cpuJoins_nil q hq x y hx hy).law rh_nil (VRs.three (VR.of_flat (n := 6) rfl) .snil (VR.of_flat (n := 6) rfl)) ro_none
  · exact (cpuJoins_row B c q hq x y hx hy h1).law h3 (VRs.three (VR.of_flat (n := 6) rfl) h4 (VR.of_flat (n := 6) rfl)) (ro_one _)
end
end Go.Proofs.Ytnkpfknilhgjgaa

/- IsaBack, in the model's words. -/
import Derived.Test.YtjopikjefpenkaaDoorGt
import Derived.Test.YtjopikjefpenkaaDoorGi
import Derived.Test.YtjopikjefpenkaaDoorGw
import Derived.SizedLaws
set_option linter.unusedSimpArgs false
set_option linter.unusedVariables false
set_option linter.unusedSectionVars false
namespace Go.Proofs.YtjopikjefpenkaaDoor
open Go.ChangeShapes Go.WideShapes Go.RowKit Go.Deep
theorem handed_sized {H : Type} {enc : TypeId × Value → H} {a : Assume} {C : Checked} {os : Os} {f : FuncId} {fn : Func} {s : ChangeSpec} {conds : List PathCond} {apart fresh handsOn again : Bool} {X : World → Array Value → Prop}
    (hX : ∀ (w w' : World) (args : Array Value), w.heap = w'.heap → X w args → X w' args)
    (own : ownKnob C.prog.godebug = none) (started : os.Started) (noInit : C.prog.inits.idxOf? f = none) (hfn : C.prog.funcs[f]? = some fn)
    (witness : ∃ (w : World) (tape : Tape) (i : Input), w.os = os ∧ (w.forCall tape i).Shaped C.prog ∧ i.vars = [] ∧ Input.okWide C.prog (w.forCall tape i) .any w.heap.size f i ∧
      ((s.pre enc C.prog fn conds apart (w.forCall tape i).memory i.args ∧ X (w.forCall tape i).memory i.args) ∧ sizedMet enc C.prog fn (OpenSpec.ofChange s) apart (w.forCall tape i).memory i.args) ∧ a.holds C.prog (lone (Frame.enter C.prog f i.args .normal) [] (w.forCall tape i)))
    (contract : ∀ (W : World) (base : Nat) (args : Array Value) (ds gs : List (DataW H)) (before : List MemPlace),
      (∀ (j : Nat) t v, fn.params[j]? = some t → args[j]? = some v → Value.okWide C.prog W .any base t v) →
      DataW.Whole enc C.prog fn.params.toList s.vars apart W args.toList ds gs before →
      X W args → W.ShapedOpen C.prog → (DataW.weightsEach C.prog (fn.params.toList ++ (OpenSpec.ofChange s).bare.plain.varTypes C.prog) (ds ++ gs)).all (· ≤ reachBytes) = true →
      Calls C.prog f args W fun e W' => ∃ v, e = .returned v ∧ s.post enc C.prog fn apart fresh handsOn again W args v W') :
    ReturnsInHanded a C os f .any (fun w args => (s.pre enc C.prog fn conds apart w args ∧ X w args) ∧ sizedMet enc C.prog fn (OpenSpec.ofChange s) apart w args) (s.post enc C.prog fn apart fresh handsOn again) := by
  refine returnsInHanded_of_calls own started noInit witness ?_
  intro w tape i _ hsh _ hok hpre hholds
  obtain ⟨_, _, _, fn', hfn', _, _, _, _, hval⟩ := hok
  have e : fn' = fn := Option.some.inj (hfn'.symm.trans hfn)
  subst e
  obtain ⟨⟨⟨ds, gs, before, hw, hc⟩, hx⟩, hz⟩ := hpre
  have hw' := DataW.Whole.of_heap (w' := w.forCall tape i) (by rfl) hw
  refine (contract (w.forCall tape i) w.heap.size i.args ds gs before hval hw' (hX _ _ _ (by rfl) hx) hsh (hz.weights hw)).mono fun e W' ⟨v, he, hp⟩ => ?_
  subst he
  exact ChangeSpec.post_blind hp
theorem cap_bound {H : Type} {enc : TypeId × Value → H} {P : Program} {w : World} {base : Nat} {held : Bool} {t e : TypeId} {a : Addr} {len cap : Nat} {d : DataW H} {p : List MemPlace} {ts : List TypeId} {ds : List (DataW H)} {j : Nat} (ht : P.underlying t = some (.slice e)) (h : DataW.Trod enc P w base (fun _ => true) held t (.slice (some a) len cap) d p)
    (hz : (DataW.weightsEach P ts ds).all (· ≤ reachBytes) = true) (hj : ts[j]? = some t) (hd : ds[j]? = some d) : cap * P.bytesOf e ≤ reachBytes := by
  obtain ⟨fuel, hf⟩ := h
  rcases Go.Deep.open_slice ht hf with ⟨h0, _⟩ | ⟨a', len', cap', m, n, D, Pl, h1, _, h3, _, h5, h6, _⟩
  · simp [Value.cells] at h0
  · simp only [Value.cells, List.cons.injEq, and_true] at h1
    cases h1
    cases h6
    have := sized_slice hz hj hd ht
    simp only [List.length_map, List.length_range] at this
    simp only [if_true] at h5
    subst h5
    rwa [show len + (m - len) = m by omega] at this
theorem isaBack_pc (Q : List QV) (B : List UInt8) (l b : Value) (hl : ArgL Q l) (hb : ArgB B b) (hr : ∀ q ∈ Q, QR q) (hn : B.length ≤ 140737488355328) : PC Tryd.prog 4 [l, b] [.ro (rowQ Q), .ro (u8s B)] (fun v _ => v = .bool true) fun _ _ => False := by
  rcases hl with rfl | ⟨c1, hc1, rfl⟩ <;> rcases hb with rfl | ⟨c2, hc2, rfl⟩
  · exact back_nil_nil Q B
  · by_cases h4 : B.length % 4 = 0
    · by_cases hB : allB B 0 B.length
      · by_cases hk : B.length / 4 = 0
        · exact back_nil_zero Q B c2 hc2 hn h4 hk hB
        · exact back_nil_ok Q B c2 hc2 hn h4 (by omega) hB
      · exact back_nil_bad Q B c2 hc2 hn h4 hB
    · exact back_nil_odd Q B c2 hc2 hn h4
  · by_cases hm0 : min Q.length 60 = 0
    · exact back_zero_nil Q B c1 _ hc1 hr rfl hm0
    · by_cases hA : allQ Q (min Q.length 60)
      · exact back_ok_nil Q B c1 _ hc1 hr rfl (by omega) hA
      · exact back_bad_nil Q B c1 _ hc1 hr rfl (by omega) hA
  · by_cases h4 : B.length % 4 = 0
    · by_cases hB : allB B 0 B.length
      · by_cases hk : B.length / 4 = 0
        · by_cases hm0 : min Q.length 60 = 0
          · exact back_zero_zero Q B c1 _ hc1 hr rfl hm0 c2 hc2 hn h4 hk hB
          · by_cases hA : allQ Q (min Q.length 60)
            · exact back_ok_zero Q B c1 _ hc1 hr rfl (by omega) hA c2 hc2 hn h4 hk hB
            · exact back_bad_zero Q B c1 _ hc1 hr rfl (by omega) hA c2 hc2 hn h4 hk hB
        · by_cases hm0 : min Q.length 60 = 0
          · exact back_zero_ok Q B c1 _ hc1 hr rfl hm0 c2 hc2 hn h4 (by omega) hB
          · by_cases hA : allQ Q (min Q.length 60)
            · exact back_ok_ok Q B c1 _ hc1 hr rfl (by omega) hA c2 hc2 hn h4 (by omega) hB
            · exact back_bad_ok Q B c1 _ hc1 hr rfl (by omega) hA c2 hc2 hn h4 (by omega) hB
      · by_cases hm0 : min Q.length 60 = 0
        · exact back_zero_bad Q B c1 _ hc1 hr rfl hm0 c2 hc2 hn h4 hB
        · by_cases hA : allQ Q (min Q.length 60)
          · exact back_ok_bad Q B c1 _ hc1 hr rfl (by omega) hA c2 hc2 hn h4 hB
          · exact back_bad_bad Q B c1 _ hc1 hr rfl (by omega) hA c2 hc2 hn h4 hB
    · by_cases hm0 : min Q.length 60 = 0
      · exact back_zero_odd Q B c1 _ hc1 hr rfl hm0 c2 hc2 hn h4
      · by_cases hA : allQ Q (min Q.length 60)
        · exact back_ok_odd Q B c1 _ hc1 hr rfl (by omega) hA c2 hc2 hn h4
        · exact back_bad_odd Q B c1 _ hc1 hr rfl (by omega) hA c2 hc2 hn h4
theorem back_walk {w : World} (hI : Inv.I w ∧ ∀ k, Inv.B k → k < w.heap.size) {l b : Value}
    (hl : l = .slice none 0 0 ∨ ∃ (a : Addr) (c : Nat) (Q : List QV) (τ : Tau), l = .slice (some a) Q.length c ∧ Q.length ≤ c ∧ c ≤ 9223372036854775807 ∧ (∀ q ∈ Q, QR q) ∧ RH τ [.ro (rowQ Q)] w ∧ VR τ (.slice (some ⟨0, 0, none⟩) Q.length c) l)
    (hb : b = .slice none 0 0 ∨ ∃ (a : Addr) (c : Nat) (B : List UInt8) (τ : Tau), b = .slice (some a) B.length c ∧ B.length ≤ c ∧ c ≤ 9223372036854775807 ∧ RH τ [.ro (u8s B)] w ∧ VR τ (.slice (some ⟨0, 0, none⟩) B.length c) b)
    (hcap : ∀ a len cap, b = .slice (some a) len cap → cap ≤ 140737488355328) :
    Calls Tryd.prog 4 #[l, b] w fun e w' => e = .returned (.bool true) ∧ Below w.heap.size w w' := by
  have h0 : ∀ o : PO, RH (fun _ => none) [o] w := fun o => ⟨fun b p h => (nomatch h), fun b c p q o o' _ h => (nomatch h)⟩
  rcases hl with rfl | ⟨_, c1, Q, τ1, rfl, h1, h2, hr, h3, h4⟩ <;> rcases hb with rfl | ⟨_, c2, B, τ2, rfl, k1, k2, k3, k4⟩
  · exact (isaBack_pc [] [] _ _ (.inl rfl) (.inl rfl) (fun q hq => by simp at hq) (by decide)).law hI (rh_two rfl rfl (h0 _) (h0 _)) (vrs2' .snil .snil) ro_two
  · exact (isaBack_pc [] B _ _ (.inl rfl) (.inr ⟨c2, k1, rfl⟩) (fun q hq => by simp at hq) (Nat.le_trans k1 (hcap _ _ _ rfl))).law hI (rh_two rfl (u8s_flat B) (h0 _) k3) (vrs2' .snil (vr_row2 k4)) ro_two
  · exact (isaBack_pc Q [] _ _ (.inr ⟨c1, h1, rfl⟩) (.inl rfl) hr (by decide)).law hI (rh_two (rowQ_flat Q) rfl h3 (h0 _)) (vrs2' (vr_row1 h4) .snil) ro_two
  · exact (isaBack_pc Q B _ _ (.inr ⟨c1, h1, rfl⟩) (.inr ⟨c2, k1, rfl⟩) hr (Nat.le_trans k1 (hcap _ _ _ rfl))).law hI (rh_two (rowQ_flat Q) (u8s_flat B) h3 k3) (vrs2' (vr_row1 h4) (vr_row2 k4)) ro_two
end Go.Proofs.YtjopikjefpenkaaDoor

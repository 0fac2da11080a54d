/- What a law's row asks behind the call, from 'true' and 'Below' alone. -/
import Derived.Test.YtjopikjefpenkaaDoorG1
import Derived.Carry
import Derived.OpenShut
import Derived.ProofKit
import Derived.Deep.Slices
import Derived.Deep.Fields
import Derived.Test.YtjopikjefpenkaaDoorG3
import Derived.Test.YtjopikjefpenkaaDoorG8
set_option linter.unusedSimpArgs false
set_option linter.unusedVariables false
set_option linter.unusedSectionVars false
namespace Go.Proofs.YtjopikjefpenkaaDoor
open Go.RowKit Go.WideShapes Go.ChangeShapes Go.Deep
section
variable {H : Type} {enc : TypeId × Value → H} {P : Program}
theorem trodAll_below (hl : laidOutB P = true) {W W' : World} (hb : Below W.heap.size W W') : ∀ {ts : List TypeId} {vs : List Value} {ds : List (DataW H)} {ps : List MemPlace}, (∀ t, t ∈ ts → P.readableRec t = true ∧ t < P.types.size) →
    DataW.TrodAll enc P W 0 (fun _ => true) true ts vs ds ps → (∀ x ∈ ps, x.block < W.heap.size) → DataW.TrodAll enc P W' 0 (fun b => decide (b < W.heap.size)) true ts vs ds ps
  | [], [], [], _, _, h, _ => h
  | t :: ts, v :: vs, d :: ds, ps, hr, ⟨p, q, h1, h2, e⟩, hlt =>
    ⟨p, q, Below.trod hl (hr t (by simp)).1 (hr t (by simp)).2 h1 hb (fun x hx => hlt x (by rw [e]; simp [hx])), trodAll_below hl hb (fun t ht => hr t (by simp [ht])) h2 (fun x hx => hlt x (by rw [e]; simp [hx])), e⟩
  | [], [], _ :: _, _, _, h, _ => h.elim
  | [], _ :: _, _, _, _, h, _ => h.elim
  | _ :: _, [], _, _, _, h, _ => h.elim
  | _ :: _, _ :: _, [], _, _, h, _ => h.elim
theorem trodAll_sp {sp : Nat → Bool} (hl : laidOutB P = true) {W W' : World} (hb : Below W.heap.size W W') {ts : List TypeId} {vs : List Value} {ds : List (DataW H)} {ps : List MemPlace} (hr : ∀ t, t ∈ ts → P.readableRec t = true ∧ t < P.types.size)
    (h : DataW.TrodAll enc P W 0 (fun _ => true) true ts vs ds ps) (hlt : ∀ x ∈ ps, x.block < W.heap.size) (hsp : ∀ x ∈ ps, sp x.block = true) : DataW.TrodAll enc P W' 0 sp true ts vs ds ps := by
  induction ts generalizing vs ds ps with
  | nil => cases vs <;> cases ds <;> first | exact h | exact h.elim
  | cons t ts ih =>
    cases vs with
    | nil => cases ds <;> exact h.elim
    | cons v vs =>
      cases ds with
      | nil => exact h.elim
      | cons d ds =>
        obtain ⟨p, q, h1, h2, e⟩ := h
        exact ⟨p, q, WideElems.Trod_stays hl (hr t (by simp)).1 (hr t (by simp)).2 h1 (fun x hx => hb.same (hlt x (by rw [e]; simp [hx]))) (fun x hx => hsp x (by rw [e]; simp [hx])),
          ih (fun t ht => hr t (by simp [ht])) h2 (fun x hx => hlt x (by rw [e]; simp [hx])) (fun x hx => hsp x (by rw [e]; simp [hx])), e⟩
theorem law_post (hl : laidOutB P = true) {f : Func} {s : ChangeSpec} {apart fresh handsOn again : Bool} {W W' : World} {args : Array Value} {ds gs : List (DataW H)} {before : List MemPlace} {tb : TypeId} (hv : s.vars = []) (hres : f.resultTypes = #[tb]) (htb : P.underlying tb = some .bool)
    (hr : ∀ t, t ∈ f.params.toList → P.readableRec t = true ∧ t < P.types.size) (hW : DataW.Whole enc P f.params.toList s.vars apart W args.toList ds gs before)
    (hfn : s.fn H (ds ++ gs) = { results := [.lit (.bool true)], args := ds }) (hb : Below W.heap.size W W') :
    s.post enc P f apart fresh handsOn again W args (.bool true) W' := by
  obtain ⟨p, q, hA, hV, hq, _, _⟩ := id hW
  have hV' := hV
  rw [hv] at hV'
  obtain ⟨rfl, rfl⟩ := trodVars_none hV'
  have hlt : ∀ x ∈ before, x.block < W.heap.size := fun x hx => hW.lt x hx
  have hb0 : before = p ++ [] := hq
  refine post_of_below (pa := p) (pv := []) hW ?_ ?_ ?_ hb0 hb ?_
  · intro b sp hd
    rw [hfn, hres]
    exact trodAll_cons_mk (shut_bool htb _) trodAll_mk0
  · intro sp hsp
    rw [hfn]
    exact trodAll_sp hl hb hr hA (fun x hx => hlt x (by rw [hb0]; simpa using hx)) (fun x hx => hsp x (by rw [hb0]; simpa using hx))
  · intro sp _
    rw [hfn, hv]
    rfl
  · rw [hres]
    intro j t r h1 h2
    match j, h1, h2 with
    | 0, h1, h2 =>
      simp at h1 h2
      subst h1
      have : r = .bool true := by simpa [Value.resultList] using h2.symm
      subst this
      exact okWide_bool_mk htb _
    | j + 1, h1, _ => simp at h1
end
section
variable {H : Type} {enc : TypeId × Value → H} {P : Program} {w : World} {base : Nat} {spare : Nat → Bool} {held : Bool}
theorem open_slice_fields {t e : TypeId} {fs : Array Field} {fuel : Nat} {cs : List Value} {x : DataW H × List MemPlace} (ht : P.underlying t = some (.slice e)) (he : P.underlying e = some (.struct fs))
    (hone : oneCellFields P fs = true) (hC : P.cellsOf e = fs.size) (h : DataW.trod enc P w base spare held fuel t cs = some x) :
    (cs = [.slice none 0 0] ∧ x = (.nil, [])) ∨
    ∃ (a : Addr) (len cap m : Nat) (D : Nat → DataW H) (Pl : Nat → List MemPlace), cs = [.slice (some a) len cap] ∧ base ≤ a.block ∧ len ≤ cap ∧ cap ≤ maxLen ∧ m = (if spare a.block then cap else len) ∧
      x = (.slice ((List.range len).map D) ((List.range (m - len)).map fun j => D (len + j)), MemPlace.row a (m * fs.size) ++ (List.range m).flatMap Pl) ∧
      ∀ i, i < m → ∃ (ys : List (DataW H × List MemPlace)) (n : Nat), D i = .agg (ys.map (·.1)) ∧ Pl i = ys.flatMap (·.2) ∧ ys.length = fs.size ∧
        ∀ (j : Nat) (f : Field), fs[j]? = some f → ∃ (v : Value) (y : DataW H × List MemPlace), w.cell? (a.add (i * fs.size + j)) = some v ∧ ys[j]? = some y ∧ DataW.trod enc P w base spare held n f.type [v] = some y := by
  rcases open_slice ht h with h0 | ⟨a, len, cap, m, n, D, Pl, hcs, hb, hl, hm, hmm, hx, hi⟩
  · exact .inl h0
  · refine .inr ⟨a, len, cap, m, D, Pl, hcs, hb, hl, hm, hmm, by rw [hC] at hx; exact hx, fun i him => ?_⟩
    obtain ⟨cs', hc, ht'⟩ := hi i him
    rw [hC] at hc
    obtain ⟨ys, n', hn', hy, hlen, hyl, hf⟩ := DataW.trod_struct he ht'
    obtain ⟨_, hcl, hat⟩ := World.cells?_some hc
    simp only [Prod.mk.injEq] at hy
    refine ⟨ys, n', hy.1, hy.2, hyl, fun j f hj => ?_⟩
    obtain ⟨ho, hk⟩ := hone_of hone j f hj
    have hjl : j < fs.size := (Array.getElem?_eq_some_iff.1 hj).1
    have hcell := hat j hjl
    have hv : cs'[j]? = some (cs'[j]'(by omega)) := List.getElem?_eq_getElem (by omega)
    have h1 := hf j f hj
    rw [ho, hk] at h1
    have hone' : (cs'.drop j).take 1 = [cs'[j]'(by omega)] := by
      rw [List.drop_eq_getElem_cons (by omega)]
      rfl
    rw [hone'] at h1
    have hys : ys[j]? = some (ys[j]'(by omega)) := List.getElem?_eq_getElem (by omega)
    refine ⟨_, _, ?_, hys, h1.trans hys⟩
    rw [← Go.Deep.add_add, hcell, hv]
theorem add_field (ad : Addr) (m j : Nat) (hj : 0 < j) : ad.add (m + j) = ⟨(ad.add m).block, (ad.add m).off + j, none⟩ := by
  unfold Addr.add
  by_cases hm : m = 0
  · subst hm
    simp [Nat.ne_of_gt hj]
  · simp [hm, Nat.add_assoc]
theorem wf_int {k : IntKind} {a : Int} (h : (Lit.int k a).wf = true) : k.min ≤ a ∧ a ≤ k.max := by
  simp only [Lit.wf, Bool.and_eq_true, decide_eq_true_eq] at h
  exact h
theorem wf_u8 {a : Int} (h : (Lit.int .u8 a).wf = true) : 0 ≤ a ∧ a ≤ 255 := wf_int h
theorem wf_u16 {a : Int} (h : (Lit.int .u16 a).wf = true) : 0 ≤ a ∧ a ≤ 65535 := wf_int h
theorem wf_i64 {a : Int} (h : (Lit.int .i64 a).wf = true) : -9223372036854775808 ≤ a ∧ a ≤ 9223372036854775807 := wf_int h
end
end Go.Proofs.YtjopikjefpenkaaDoor
/- A law's arguments, opened: bare values, and rows of them, by their types' shapes. -/
namespace Go.Proofs.YtjopikjefpenkaaDoor
open Go.RowKit Go.WideShapes Go.ChangeShapes Go.Deep
inductive CK where
  | int (k : IntKind)
  | bool
  | str
def CK.fits : CK → Value → Prop
  | .int k, v => ∃ n, v = .int k n ∧ (Lit.int k n).wf = true
  | .bool, v => ∃ b, v = .bool b
  | .str, v => ∃ s, v = .string s ∧ s.size ≤ maxLen
theorem CK.flat {k : CK} {v : Value} (h : k.fits v) {n : Nat} : flat (n + 1) v = true := by
  cases k with
  | int k => obtain ⟨n, rfl, _⟩ := h; rfl
  | bool => obtain ⟨n, rfl⟩ := h; rfl
  | str => obtain ⟨n, rfl, _⟩ := h; rfl
def FitL (l : List CK) (cs : List Value) : Prop := l.length = cs.length ∧ ∀ (i : Nat) k v, l[i]? = some k → cs[i]? = some v → k.fits v
theorem FitL.nil : FitL [] [] := ⟨rfl, fun i k v h => by simp at h⟩
theorem FitL.app {l m : List CK} {a b : List Value} (h : FitL l a) (k : FitL m b) : FitL (l ++ m) (a ++ b) := by
  refine ⟨by simp [h.1, k.1], fun i c v h1 h2 => ?_⟩
  rw [List.getElem?_append] at h1 h2
  split at h1
  · rename_i hi; rw [if_pos (by rw [← h.1]; exact hi)] at h2; exact h.2 i c v h1 h2
  · rename_i hi; rw [if_neg (by rw [← h.1]; exact hi), ← h.1] at h2; exact k.2 _ c v h1 h2
theorem FitL.cons {k : CK} {l : List CK} {v : Value} {a : List Value} (h : k.fits v) (t : FitL l a) : FitL (k :: l) (v :: a) := FitL.app (l := [k]) (a := [v]) ⟨rfl, fun i c u h1 h2 => by
  cases i with
  | zero => simp at h1 h2; subst h1; subst h2; exact h
  | succ i => simp at h1⟩ t
theorem FitL.uncons {k : CK} {l : List CK} {cs : List Value} (h : FitL (k :: l) cs) : ∃ v a, cs = v :: a ∧ k.fits v ∧ FitL l a := by
  cases cs with
  | nil => have := h.1; simp at this
  | cons v a => exact ⟨v, a, rfl, h.2 0 k v rfl rfl, by have := h.1; simpa using this, fun i c u h1 h2 => h.2 (i + 1) c u (by simpa using h1) (by simpa using h2)⟩
theorem FitL.unnil {cs : List Value} (h : FitL [] cs) : cs = [] := List.eq_nil_of_length_eq_zero h.1.symm
theorem FitL.flats {l : List CK} {cs : List Value} (h : FitL l cs) {n : Nat} : cs.all (flat (n + 1)) = true := List.all_eq_true.2 fun v hv => by
  obtain ⟨i, hi, rfl⟩ := List.getElem_of_mem hv
  have hl : i < l.length := by rw [h.1]; exact hi
  exact CK.flat (h.2 i l[i] cs[i] (List.getElem?_eq_getElem hl) (List.getElem?_eq_getElem hi))
section
variable (P : Program)
def shpF (sh : TypeId → Option (List CK)) : List Field → Nat → Option (List CK)
  | [], _ => some []
  | f :: fs, o => match sh f.type, shpF sh fs (o + P.cellsOf f.type) with
    | some l, some r => if f.offset = o ∧ l.length = P.cellsOf f.type then some (l ++ r) else none
    | _, _ => none
/-- The cells that values of a type have. -/
def shp : Nat → TypeId → Option (List CK)
  | 0, _ => none
  | d + 1, t => match P.underlying t with
    | some .bool => some [.bool]
    | some (.int k) => some [.int k]
    | some .string => some [.str]
    | some (.struct fs) => match shpF P (shp d) fs.toList 0 with
      | some l => if l.length = P.cellsOf t then some l else none
      | none => none
    | some (.array n e) => match shp d e with
      | some l => if l.length = P.cellsOf e ∧ n * l.length = P.cellsOf t then some (List.replicate n l).flatten else none
      | none => none
    | _ => none
end
section
variable {H : Type} {enc : TypeId × Value → H} {P : Program} {w : World} {base : Nat} {spare : Nat → Bool} {held : Bool}
theorem shpF_fit {sh : TypeId → Option (List CK)} {cs : List Value} : ∀ (fs : List Field) (o : Nat) (l : List CK), shpF P sh fs o = some l → o + l.length ≤ cs.length → (∀ f ∈ fs, ∀ m, sh f.type = some m → m.length = P.cellsOf f.type → FitL m ((cs.drop f.offset).take (P.cellsOf f.type))) → FitL l ((cs.drop o).take l.length)
  | [], o, l, h, _, _ => by cases h; simp; exact FitL.nil
  | f :: fs, o, l, h, hl, hk => by
    unfold shpF at h
    split at h
    · rename_i a r h1 h2
      split at h
      · rename_i hc
        cases h
        obtain ⟨h3, h4⟩ := hc
        simp only [List.length_append] at hl ⊢
        have g1 := hk f (by simp) a h1 h4
        rw [h3, ← h4] at g1
        rw [← h4] at h2
        have g2 := shpF_fit fs (o + a.length) r h2 (by omega) (fun f' hf' => hk f' (by simp [hf']))
        have : (cs.drop o).take (a.length + r.length) = (cs.drop o).take a.length ++ (cs.drop (o + a.length)).take r.length := by
          rw [List.take_add, List.drop_drop]
        rw [this]
        exact g1.app g2
      · cases h
    · cases h
theorem rep_fit {l : List CK} {cs : List Value} : ∀ (n : Nat), n * l.length ≤ cs.length → (∀ i, i < n → FitL l ((cs.drop (i * l.length)).take l.length)) → FitL (List.replicate n l).flatten (cs.take (n * l.length))
  | 0, _, _ => by simp; exact FitL.nil
  | n + 1, hl, h => by
    rw [Nat.add_mul, Nat.one_mul] at hl ⊢
    have g1 := rep_fit n (by omega) (fun i hi => h i (by omega))
    have g2 := h n (by omega)
    rw [List.replicate_succ', List.flatten_append, List.flatten_singleton, List.take_add]
    exact g1.app g2
theorem trod_shp : ∀ (d : Nat) {fuel : Nat} {t : TypeId} {cs : List Value} {x : DataW H × List MemPlace} {l : List CK}, shp P d t = some l → DataW.trod enc P w base spare held fuel t cs = some x → FitL l cs
  | 0, _, _, _, _, _, h, _ => by cases h
  | d + 1, fuel, t, cs, x, l, h, hx => by
    have one : ∀ {k : CK} {v : Value}, k.fits v → FitL [k] [v] := fun h => FitL.nil.cons h
    unfold shp at h
    split at h
    · rename_i ht
      cases h
      obtain ⟨b, rfl, _⟩ := DataW.trod_bool ht hx
      exact one ⟨_, rfl⟩
    · rename_i k ht
      cases h
      obtain ⟨n', h, hx, hw⟩ := DataW.trod_int ht hx
      subst h
      exact one ⟨_, rfl, hw⟩
    · rename_i ht
      cases h
      obtain ⟨s, rfl, _, hs⟩ := DataW.trod_string ht hx
      exact one ⟨_, rfl, hs⟩
    · rename_i fs ht
      split at h
      · rename_i l' hl
        split at h
        · rename_i hc
          cases h
          obtain ⟨xs, n, rfl, -, h2, h3, h4⟩ := DataW.trod_struct ht hx
          have := shpF_fit (P := P) (cs := cs) fs.toList 0 l hl (by omega) (fun f hf m hm hm2 => by
            obtain ⟨i, hi, e⟩ := List.getElem_of_mem hf
            have hi' : i < fs.size := by simpa using hi
            have h5 := h4 i f (by rw [Array.getElem?_eq_getElem hi']; simpa using e)
            rw [List.getElem?_eq_getElem (by omega)] at h5
            exact trod_shp d hm h5)
          rwa [List.drop_zero, List.take_of_length_le (by omega)] at this
        · cases h
      · cases h
    · rename_i n e ht
      split at h
      · rename_i l' hl
        split at h
        · rename_i hc
          cases h
          obtain ⟨xs, m, rfl, -, h2, h3, h4⟩ := DataW.trod_array ht hx
          have := rep_fit (l := l') (cs := cs) n (by omega) (fun i hi => by
            have h5 := h4 i hi
            rw [List.getElem?_eq_getElem (by omega), ← hc.1] at h5
            exact trod_shp d hl h5)
          rwa [List.take_of_length_le (by omega)] at this
        · cases h
      · cases h
    · cases h
/-- A struct or an array of bare values. -/
theorem open_bare {r : Go.Reach} {b0 : Nat} {t : TypeId} {v : Value} {d : DataW H} {p : List MemPlace} {l : List CK} (D : Nat) (ht : isAg P t = some true) (hs : shp P D t = some l) (hv : Value.okWide P w r b0 t v) (h : DataW.Trod enc P w base spare held t v d p) :
    ∃ cs : Array Value, v = .agg cs ∧ FitL l cs.toList := by
  obtain ⟨fuel, hf⟩ := h
  have hfit := trod_shp D hs hf
  unfold isAg at ht
  cases hu : P.underlying t with
  | none => rw [hu] at ht; cases ht
  | some u =>
    rw [hu] at ht
    have : ∃ cs, v = .agg cs := by
      unfold Value.okWide at hv
      rw [hu] at hv
      cases u <;> first | (simp at ht; done) | (obtain ⟨cs, e, _⟩ := hv; exact ⟨cs, e⟩)
    obtain ⟨cs, rfl⟩ := this
    exact ⟨cs, rfl, hfit⟩
/-- A row of bare values. -/
theorem open_rowv {r : Go.Reach} {b0 : Nat} {t e : TypeId} {v : Value} {d : DataW H} {p : List MemPlace} {l : List CK} (D : Nat) (ht : P.underlying t = some (.slice e)) (hs : shp P D e = some l) (hl0 : 0 < l.length) (hv : Value.okWide P w r b0 t v) (h : DataW.Trod enc P w base (fun _ => true) held t v d p) :
    v = .slice none 0 0 ∨ ∃ (a : Addr) (len cap : Nat) (cells : List Value), v = .slice (some a) len cap ∧ len ≤ cap ∧ cap ≤ maxLen ∧ FitL (List.replicate len l).flatten cells ∧ (∀ i x, cells[i]? = some x → w.cell? (a.add i) = some x) ∧ (0 < cap → a.block < w.heap.size) := by
  obtain ⟨s, len, cap, rfl⟩ := okWide_slice ht hv
  obtain ⟨fuel, hf⟩ := h
  rcases Go.Deep.open_slice ht hf with ⟨h0, _⟩ | ⟨a, len', cap', m, n, D', Pl, h1, h2, h3, h4, h5, h6, h7⟩
  · left
    simpa [Value.cells] using h0
  · right
    simp only [Value.cells, List.cons.injEq, and_true] at h1
    cases h1
    have hm : m = cap := by simpa using h5
    subst hm
    have key : ∀ i, i < m → ∃ cs' : List Value, FitL l cs' ∧ ∀ j x, cs'[j]? = some x → w.cell? (a.add (i * l.length + j)) = some x := fun i hi => by
      obtain ⟨cs', g1, g2⟩ := h7 i hi
      have g3 := trod_shp D hs g2
      obtain ⟨_, g4, g5⟩ := World.cells?_some g1
      have hce : P.cellsOf e = l.length := by rw [← g4, ← g3.1]
      refine ⟨cs', g3, fun j x hx => ?_⟩
      have hj := (List.getElem?_eq_some_iff.1 hx).1
      have := g5 (i := j) (by omega)
      rw [hce, Go.Deep.add_add] at this
      rw [this, hx]
    have build : ∀ k, k ≤ m → ∃ cells : List Value, FitL (List.replicate k l).flatten cells ∧ ∀ i x, cells[i]? = some x → w.cell? (a.add i) = some x := fun k => by
      induction k with
      | zero => exact fun _ => ⟨[], by simp; exact FitL.nil, fun i x hx => by simp at hx⟩
      | succ k ih =>
        intro hk
        obtain ⟨cells, g1, g2⟩ := ih (by omega)
        obtain ⟨cs', g3, g4⟩ := key k (by omega)
        refine ⟨cells ++ cs', by rw [List.replicate_succ', List.flatten_append, List.flatten_singleton]; exact g1.app g3, fun i x hx => ?_⟩
        rw [List.getElem?_append] at hx
        split at hx
        · exact g2 i x hx
        · rename_i hi
          have hlen : cells.length = k * l.length := by rw [← g1.1]; simp
          have := g4 _ x hx
          rwa [hlen, show k * l.length + (i - k * l.length) = i by omega] at this
    obtain ⟨cells, g1, g2⟩ := build len h3
    refine ⟨a, len, m, cells, rfl, h3, h4, g1, g2, fun h0 => ?_⟩
    obtain ⟨cs', g3, g4⟩ := key 0 h0
    have hc : 0 < cs'.length := by rw [← g3.1]; exact hl0
    have := g4 0 cs'[0] (List.getElem?_eq_getElem hc)
    rw [Nat.zero_mul, Nat.add_zero] at this
    have ha : a.add 0 = a := by unfold Addr.add; simp
    rw [ha] at this
    unfold World.cell? at this
    split at this
    · rename_i hh; exact (Array.getElem?_eq_some_iff.1 hh).1
    · cases this
/-- The plain memory of one row that came in. -/
theorem row_mem {w : World} {a : Addr} {cells : List Value} {len cap : Nat} (hcap : cap ≤ maxLen) (hcells : ∀ i x, cells[i]? = some x → w.cell? (a.add i) = some x) (hfl : cells.all (flat 6) = true) (hb : 0 < cap → a.block < w.heap.size) (hlen : len ≤ cap) :
    ∃ τ : Tau, RH τ [.ro cells] w ∧ VR τ (.slice (some ⟨0, 0, none⟩) len cap) (.slice (some a) len cap) := by
  by_cases h0 : 0 < cap
  · let τ : Tau := fun b => if b = 0 then some ⟨a, 0⟩ else none
    have ha : a.add 0 = a := by unfold Addr.add; simp
    refine ⟨τ, ⟨fun b p hb2 => ?_, fun b c p q o o' hne hb2 hc _ _ _ _ => ?_⟩, ?_⟩
    · simp only [τ] at hb2
      split at hb2
      · rename_i e; cases hb2; subst e
        exact ⟨_, rfl, fun i v hv => ⟨v, hcells i v hv, VR.of_flat (List.all_eq_true.1 hfl v (List.mem_of_getElem? hv))⟩, fun _ => hb h0⟩
      · cases hb2
    · simp only [τ] at hb2 hc
      split at hb2
      · split at hc
        · omega
        · cases hc
      · cases hb2
    · have := VR.sex (τ := τ) (b := 0) (p := ⟨a, 0⟩) 0 len cap rfl
      rwa [ha] at this
  · obtain rfl : cap = 0 := by omega
    obtain rfl : len = 0 := by omega
    exact ⟨fun _ => none, ⟨fun b p h => (nomatch h), fun b c p q o o' _ h => (nomatch h)⟩, .se0 _ _ _⟩
/-- A law that is true over a memory that it only reads. -/
theorem PC.law [Inv] {f : FuncId} {args : List Value} {args' : Array Value} {h : List PO} {τ : Tau} (q : PC P f args h (fun v _ => v = .bool true) fun _ _ => False) (hI : Inv.I w ∧ ∀ k, Inv.B k → k < w.heap.size) (hk : RH τ h w) (ha : VRs τ args.toArray args') (hro : ∀ o ∈ h, o.own = false) : Calls P f args' w fun e w' => e = .returned (.bool true) ∧ Below w.heap.size w w' := by
  have hno : ∀ k, ¬ wset τ h k := fun k ⟨b, p, o, _, h2, h3, _⟩ => by
    rw [hro o (List.mem_of_getElem? h2)] at h3
    cases h3
  refine (q.2 τ w args' hk ⟨hI.1, fun k hk => ⟨hI.2 k hk, hno k⟩⟩ ha).mono fun e w' ⟨h', τ', v, v', g, hv, hd⟩ => ?_
  rcases hd with ⟨rfl, rfl⟩ | ⟨_, hf⟩
  case inr => exact hf.elim
  cases hv
  exact ⟨rfl, (g.fr.mono fun k _ hk => (hno k hk).elim).below⟩
end
end Go.Proofs.YtjopikjefpenkaaDoor
/- Law arguments, opened: instructions, rows of bytes. -/
namespace Go.Proofs.YtjopikjefpenkaaDoor
open Go.RowKit Go.WideShapes Go.ChangeShapes Go.Deep
set_option maxRecDepth 100000
section
variable {H : Type} {enc : TypeId × Value → H} {w : World} {base : Nat} {spare : Nat → Bool} {held : Bool} {r : Go.Reach} {b0 : Nat} {v : Value} {d : DataW H} {p : List MemPlace}
theorem fit_int {k : IntKind} {v : Value} (h : (CK.int k).fits v) : ∃ n, v = .int k n ∧ k.min ≤ n ∧ n ≤ k.max := by
  obtain ⟨n, h1, h2⟩ := h
  exact ⟨n, h1, (wf_int h2).1, (wf_int h2).2⟩
theorem fit_u16 {v : Value} (h : (CK.int .u16).fits v) : ∃ n, v = .int .u16 n ∧ 0 ≤ n ∧ n ≤ 65535 := fit_int h
theorem fit_u8 {v : Value} (h : (CK.int .u8).fits v) : ∃ n, v = .int .u8 n ∧ 0 ≤ n ∧ n ≤ 255 := fit_int h
theorem shp_ins : shp Tryd.prog 4 40 = some [.int .u8, .int .u8, .int .u8, .int .u16] := by kernel_rfl
theorem open_ins (hv : Value.okWide Tryd.prog w r b0 40 v) (h : DataW.Trod enc Tryd.prog w base spare held 40 v d p) : ∃ o a b n, v = insV o a b n ∧ 0 ≤ o ∧ 0 ≤ a ∧ 0 ≤ b ∧ 0 ≤ n ∧ n ≤ 65535 := by
  obtain ⟨⟨cs⟩, rfl, hf⟩ := open_bare 4 (by kernel_rfl) shp_ins hv h
  obtain ⟨v0, _, rfl, g0, hf⟩ := FitL.uncons hf
  obtain ⟨v1, _, rfl, g1, hf⟩ := FitL.uncons hf
  obtain ⟨v2, _, rfl, g2, hf⟩ := FitL.uncons hf
  obtain ⟨v3, _, rfl, g3, hf⟩ := FitL.uncons hf
  obtain rfl := FitL.unnil hf
  obtain ⟨n0, rfl, b0⟩ := fit_u8 g0
  obtain ⟨n1, rfl, b1⟩ := fit_u8 g1
  obtain ⟨n2, rfl, b2⟩ := fit_u8 g2
  obtain ⟨n3, rfl, b3⟩ := fit_u16 g3
  exact ⟨n0, n1, n2, n3, rfl, b0.1, b1.1, b2.1, b3.1, b3.2⟩
theorem u8s_of_fit : ∀ (n : Nat) {cs : List Value}, FitL (List.replicate n [CK.int .u8]).flatten cs → ∃ B : List UInt8, cs = u8s B ∧ B.length = n
  | 0, cs, h => ⟨[], by simp at h; exact FitL.unnil h, rfl⟩
  | n + 1, cs, h => by
    rw [List.replicate_succ, List.flatten_cons] at h
    obtain ⟨x, cs', rfl, h1, h2⟩ := FitL.uncons h
    obtain ⟨m, rfl, m0, m1⟩ := fit_u8 h1
    obtain ⟨B, rfl, hB⟩ := u8s_of_fit n h2
    refine ⟨UInt8.ofNat m.toNat :: B, ?_, by simp [hB]⟩
    show _ = Value.int .u8 _ :: _
    congr 2
    rw [UInt8.toNat_ofNat', Nat.mod_eq_of_lt (by omega)]
    omega
theorem open_bytes (hv : Value.okWide Tryd.prog w r b0 23 v) (h : DataW.Trod enc Tryd.prog w base (fun _ => true) held 23 v d p) :
    v = .slice none 0 0 ∨ ∃ (a : Addr) (c : Nat) (B : List UInt8) (τ : Tau), v = .slice (some a) B.length c ∧ B.length ≤ c ∧ c ≤ 9223372036854775807 ∧ RH τ [.ro (u8s B)] w ∧ VR τ (.slice (some ⟨0, 0, none⟩) B.length c) v := by
  rcases open_rowv (e := 5) 2 (by kernel_rfl) (show shp Tryd.prog 2 5 = some [.int .u8] by kernel_rfl) (by simp) hv h with h0 | ⟨a, len, cap, cells, rfl, h1, h2, h3, h4, h5⟩
  · exact .inl h0
  · obtain ⟨B, rfl, hB⟩ := u8s_of_fit len h3
    obtain ⟨τ, g1, g2⟩ := row_mem h2 h4 (u8s_flat B) h5 h1
    subst hB
    exact .inr ⟨a, cap, B, τ, rfl, h1, h2, g1, g2⟩
theorem ro_one (cs : List Value) : ∀ o ∈ [PO.ro cs], o.own = false := by simp [PO.own]
theorem ro_none : ∀ o ∈ ([] : List PO), o.own = false := by simp
theorem rh_nil : RH (fun _ => none) [] w := ⟨fun b p h => (nomatch h), fun b c p q o o' _ h => (nomatch h)⟩
end
end Go.Proofs.YtjopikjefpenkaaDoor

/- General words: which blocks have turned; whole blocks; lists of numbers; what a row asks of the world behind a call. -/
import Derived.Below
import Derived.WalkKit
import Derived.KernelRfl
import Derived.RowKit3
import Derived.Deep.Draws
import Derived.Lib.Hide
import Derived.ChangeSame
import Derived.RangeFuncOwn
import Derived.RangeFuncKeeps
import Derived.Maps.AppendAt
import Derived.Laws.OwnMore
import Derived.Deep.AppendLies
import Derived.Deep.DeepMust
import Derived.Deep.DeepFit
import Derived.Outline
import Derived.WalkSpells
import Derived.WalkLawsBesides
import Derived.RegionTactic
import Derived.ChangeAlike
import Derived.Deep.QuietTactic
import Derived.BigQuiet
import Derived.BigRegion
import Derived.Deep.DeepCutAuto
namespace Go.Proofs.Ytfdldlgnhdgmnaa
open Go.RowKit Go.WideShapes Go.ChangeShapes

/-- Only the blocks of `S` have turned, of those that were there. -/
structure Only (S : List Nat) (w w' : World) : Prop where
  os : w'.os = w.os
  tape : w'.tape = w.tape
  output : w'.output = w.output
  size : w.heap.size ≤ w'.heap.size
  block : ∀ k, k < w.heap.size → k ∉ S → w'.heap[k]? = w.heap[k]?
theorem Only.refl (S : List Nat) (w : World) : Only S w w := ⟨rfl, rfl, rfl, Nat.le_refl _, fun _ _ _ => rfl⟩
theorem Only.trans {S : List Nat} {a b c : World} (h : Only S a b) (k : Only S b c) : Only S a c :=
  ⟨k.os.trans h.os, k.tape.trans h.tape, k.output.trans h.output, Nat.le_trans h.size k.size, fun i hi hn => (k.block i (Nat.lt_of_lt_of_le hi h.size) hn).trans (h.block i hi hn)⟩
theorem Only.mono {S T : List Nat} {a b : World} (h : Only S a b) (hs : ∀ x, x ∈ S → x ∈ T) : Only T a b :=
  ⟨h.os, h.tape, h.output, h.size, fun k hk hn => h.block k hk (fun hx => hn (hs k hx))⟩
theorem Only.drew {S : List Nat} {a w : World} (h : Only S a w) : Only S a w.drew := ⟨h.os, h.tape, h.output, h.size, h.block⟩
theorem Only.drewN {S : List Nat} {a w : World} (h : Only S a w) (n : Nat) : Only S a (w.drewN n) := ⟨h.os, h.tape, h.output, h.size, h.block⟩
theorem Only.alloc {S : List Nat} {a w : World} (h : Only S a w) (o : Obj) : Only S a (w.alloc o) :=
  h.trans ⟨rfl, rfl, rfl, by simp, fun k hk _ => Below.heap_alloc _ _ _ hk⟩
theorem Only.setCell {S : List Nat} {a w : World} (h : Only S a w) {p : Addr} (hp : p.block ∈ S ∨ a.heap.size ≤ p.block) (u : Value) : Only S a (w.setCell p u) :=
  ⟨h.os, h.tape, h.output, by simpa [World.setCell] using h.size, fun k hk hn => by
    rw [Below.heap_setCell _ _ _ _ (by rintro rfl; rcases hp with hp | hp <;> first | exact hn hp | omega)]
    exact h.block k hk hn⟩
theorem Only.below {S : List Nat} {a w : World} (h : Only S a w) {B : Nat} (hB : B ≤ a.heap.size) (hs : ∀ x, x ∈ S → B ≤ x) : Below B a w :=
  ⟨h.os, h.tape, h.output, h.size, fun k hk => h.block k (by omega) (fun hx => by have := hs k hx; omega)⟩
theorem Only.of_below {S : List Nat} {a w : World} (h : Below a.heap.size a w) : Only S a w := ⟨h.os, h.tape, h.output, h.size, fun k hk _ => h.block k hk⟩
theorem Only.blk {S : List Nat} {a w : World} (h : Only S a w) {k : Nat} {o : Obj} (hk : a.heap[k]? = some o) (hn : k ∉ S) : w.heap[k]? = some o :=
  (h.block k (Array.getElem?_eq_some_iff.1 hk).1 hn).trans hk

theorem alloc_get (w : World) (o : Obj) (k : Nat) : (w.alloc o).heap[k]? = if k = w.heap.size then some o else w.heap[k]? := by
  show (w.heap.push o)[k]? = _
  rw [Array.getElem?_push]
theorem blk_lt {w : World} {g : Nat} {o : Obj} (h : w.heap[g]? = some o) : g < w.heap.size := (Array.getElem?_eq_some_iff.1 h).1
theorem blk_cell {w : World} {g : Nat} {t : TypeId} {cs : Array Value} (h : w.heap[g]? = some (.cells cs t (0, 0))) (i : Nat) : w.cell? ⟨g, i, none⟩ = cs[i]? := by simp [World.cell?, h]
theorem blk_frozen {w : World} {g : Nat} {t : TypeId} {cs : Array Value} (h : w.heap[g]? = some (.cells cs t (0, 0))) (i : Nat) : w.frozen? ⟨g, i, none⟩ = false := by simp [World.frozen?, h]
theorem blk_set {w : World} {g : Nat} {t : TypeId} {cs : Array Value} (h : w.heap[g]? = some (.cells cs t (0, 0))) (i : Nat) (u : Value) : (w.setCell ⟨g, i, none⟩ u).heap[g]? = some (.cells (cs.setIfInBounds i u) t (0, 0)) := by
  simp [World.setCell, Array.getElem?_modify, h]
theorem blk_far {w : World} {g : Nat} {o : Obj} (h : w.heap[g]? = some o) {p : Addr} (hp : g ≠ p.block) (u : Value) : (w.setCell p u).heap[g]? = some o := (Below.heap_setCell _ _ _ _ hp).trans h
theorem blk_ne {w : World} {g g' : Nat} {t t' : TypeId} {cs cs' : Array Value} (h : w.heap[g]? = some (.cells cs t (0, 0))) (h' : w.heap[g']? = some (.cells cs' t' (0, 0))) (hne : t ≠ t') : g ≠ g' := by
  rintro rfl; rw [h] at h'; simp at h'; exact hne h'.2

/-- The number at a place of a list. -/
def rd (l : List Int) (i : Int) : Int := l.getD i.toNat 0
theorem rd_set (l : List Int) (i j x : Int) (hi : 0 ≤ i) (hj : 0 ≤ j) (h : j < l.length) : rd (l.set j.toNat x) i = if i = j then x else rd l i := by
  unfold rd
  by_cases e : i = j
  · subst e
    rw [if_pos rfl]
    have h2 : i.toNat < (l.set i.toNat x).length := by simp; omega
    simp only [List.getD, List.getElem?_eq_getElem h2, List.getElem_set_self, Option.getD_some]
  · rw [if_neg e]
    have h2 : j.toNat ≠ i.toNat := by omega
    simp only [List.getD, List.getElem?_set_ne h2]

/-- The cells of `T` hold on. -/
def KeepCells (T : Addr → Prop) (W W' : World) : Prop := ∀ p v, T p → W.cell? p = some v → W'.cell? p = some v
theorem KeepCells.refl (T : Addr → Prop) (W : World) : KeepCells T W W := fun _ _ _ h => h
theorem KeepCells.trans {T : Addr → Prop} {A B C : World} (h : KeepCells T A B) (k : KeepCells T B C) : KeepCells T A C := fun p v ht hv => k p v ht (h p v ht hv)
theorem KeepCells.put {T : Addr → Prop} (W : World) (l : Nat) (o o' : Obj) (h : W.heap[l]? = some o) (ho : o.isCells = false) : KeepCells T W (W.putObj l o') := fun p v _ hv =>
  cell_kept hv (grownBy_putObj' W l o') (fun r e => by cases e; exact ⟨_, h, ho⟩)
theorem KeepCells.setCell {T : Addr → Prop} (W : World) (a : Addr) (u : Value) (h : ∀ p, T p → p.block ≠ a.block ∨ p.off ≠ a.off) : KeepCells T W (W.setCell a u) := fun p v ht hv => by
  rcases h p ht with h | h
  · exact (World.cell?_of_block (w := W) (Below.heap_setCell _ _ _ _ h)).trans hv
  · unfold World.cell? World.setCell at *
    simp only [Array.getElem?_modify]
    by_cases e : a.block = p.block
    · rw [if_pos e]
      cases hb : W.heap[p.block]? with
      | none => rw [hb] at hv; simp at hv
      | some o =>
        rw [hb] at hv
        cases o <;> simp_all
        split
        · exact hv.2
        · rw [Array.getElem?_setIfInBounds_ne (by omega)]; exact hv.2
    · rw [if_neg e]; exact hv

theorem blk_kept {w w' : World} {g : Nat} {cs : Array Value} {t : TypeId} {fr : Nat × Nat} {row : Option Nat} (h : w.heap[g]? = some (.cells cs t fr)) (hg : w.grownBy w' row) (hr : ∀ r, row = some r → ∃ o : Obj, w.heap[r]? = some o ∧ o.isCells = false) : w'.heap[g]? = some (.cells cs t fr) :=
  (hg.block g (blk_lt h) (fun e => by obtain ⟨o, h1, h2⟩ := hr g e.symm; rw [h] at h1; cases h1; simp [Obj.isCells] at h2)).trans h
theorem Only.grown {S : List Nat} {a w w' : World} {row : Option Nat} (h : Only S a w) (hg : w.grownBy w' row) (hr : ∀ r, row = some r → r ∈ S ∨ a.heap.size ≤ r) : Only S a w' :=
  ⟨hg.os.trans h.os, hg.tape.trans h.tape, hg.output.trans h.output, Nat.le_trans h.size hg.size, fun k hk hn => (hg.block k (Nat.lt_of_lt_of_le hk h.size) (fun e => by rcases hr k e.symm with h' | h' <;> first | exact hn h' | exact absurd h' (by omega))).trans (h.block k hk hn)⟩


section
variable {H : Type} {enc : TypeId × Value → H} {P : Program}
theorem post_of_below {f : Func} {s : ChangeSpec} {apart fresh handsOn again : Bool} {W W' : World} {args : Array Value} {v : Value} {ds gs : List (DataW H)} {before pa pv : List MemPlace}
    (hW : DataW.Whole enc P f.params.toList s.vars apart W args.toList ds gs before)
    (hres : ∀ (b : Nat) (sp : Nat → Bool) (hd : Bool), DataW.TrodAll enc P W' b sp hd f.resultTypes.toList (v.resultList f.resultTypes.size) (s.fn H (ds ++ gs)).results [])
    (hargs : ∀ sp : Nat → Bool, (∀ p ∈ before, sp p.block = true) → DataW.TrodAll enc P W' 0 sp true f.params.toList args.toList (s.fn H (ds ++ gs)).args pa)
    (hvars : ∀ sp : Nat → Bool, (∀ p ∈ before, sp p.block = true) → DataW.TrodVars enc P W' sp s.vars (s.fn H (ds ++ gs)).vars pv)
    (hps : before = pa ++ pv) (hb : Below W.heap.size W W')
    (hok : ∀ (j : Nat) (t : TypeId) (r : Value), f.resultTypes[j]? = some t → (v.resultList f.resultTypes.size)[j]? = some r → Value.okWide P W' .any 0 t r) :
    s.post enc P f apart fresh handsOn again W args v W' := by
  have hlt : ∀ p ∈ before, p.block < W.heap.size := fun p hp => hW.lt p hp
  have hold : ∀ p ∈ before, (fun b => decide (b < W.heap.size)) p.block = true := fun p hp => by simpa using hlt p hp
  refine ⟨ds, gs, before, [], pa, pv, hW, hres _ _ _, hargs _ hold, hvars _ hold, World.keptBut_mono (fun p hp => ⟨hp, ?_⟩) (hb.frame (· ∈ before)), fun _ => ?_⟩
  · rw [hps, List.mem_append] at hp
    exact Or.inr hp
  · obtain ⟨_, _, _, _, _, hz, hn⟩ := hW
    refine ⟨hok, _, _, ([] ++ pa) ++ pv, ⟨[] ++ pa, pv, trodAll_append (hargs _ (fun _ _ => rfl)) (hres _ _ _), hvars _ (fun _ _ => rfl), rfl, ?_, ?_⟩, ?_⟩
    · intro b off hp
      have hin : MemPlace.cell b off ∈ before := by rw [hps]; simpa using hp
      rw [hb.frozen (hlt _ hin)]
      exact hz b off hin
    · intro ha
      have := hn ha
      rw [hps] at this
      simpa using this
    · intro p hp _
      rw [hps]
      simpa using hp
end

/-! ### rows that a call owns -/
/-- A slice of elements of one cell that owns its cells, none of them in a block below `B`. -/
def Own1 (w : World) (B : Nat) (e : TypeId) (v : Value) (xs : List Value) : Prop := w.ownsRow B e 1 v xs.length xs
theorem Own1.nil (w : World) (B : Nat) (e : TypeId) : Own1 w B e (.slice none 0 0) [] := ⟨by simp, .inl ⟨rfl, rfl⟩⟩
theorem Own1.form {w B e v xs} (h : Own1 w B e v xs) : (v = .slice none 0 0 ∧ xs = []) ∨ ∃ g c, v = .slice (some ⟨g, 0, none⟩) xs.length c ∧ B ≤ g ∧ xs.length ≤ c ∧ xs.length ≤ 9223372036854775807 ∧ g < w.heap.size ∧
    ∀ i (hi : i < xs.length), w.cell? ⟨g, i, none⟩ = some (xs[i]'hi) ∧ w.frozen? ⟨g, i, none⟩ = false := by
  rcases h.2 with ⟨rfl, h0⟩ | ⟨g, cap, cur, rfl, hb, hh, h1, h2, h3, h4⟩
  · exact .inl ⟨rfl, List.eq_nil_of_length_eq_zero h0⟩
  · refine .inr ⟨g, cap, rfl, hb, h1, by simp only [maxLen] at h2; omega, blk_lt hh, fun i hi => ⟨?_, blk_frozen hh i⟩⟩
    rw [blk_cell hh]
    have e0 : xs[i]? = some xs[i] := List.getElem?_eq_getElem hi
    rw [← e0, ← h4, Nat.mul_one, List.getElem?_take, if_pos hi, Array.getElem?_toList]
theorem Own1.grown {w w' B e v xs} {row : Option Nat} (h : Own1 w B e v xs) (hg : w.grownBy w' row) (hr : v.ownBlock = none ∨ v.ownBlock ≠ row) : Own1 w' B e v xs := World.ownsRow.kept h hg hr
theorem Own1.lt {w B e v xs} (h : Own1 w B e v xs) (k : Nat) (hk : v.ownBlock = some k) : k < w.heap.size ∧ B ≤ k := by
  rcases h.2 with ⟨rfl, _⟩ | ⟨g, cap, cur, rfl, hb, hh, _⟩
  · simp [Value.ownBlock] at hk
  · have : g = k := by simpa [Value.ownBlock] using hk
    subst this
    exact ⟨blk_lt hh, hb⟩
theorem Own1.blk {w w' B e v xs} (h : Own1 w B e v xs) (hb : ∀ k o, v.ownBlock = some k → w.heap[k]? = some o → w'.heap[k]? = some o) : Own1 w' B e v xs := by
  refine ⟨h.1, ?_⟩
  rcases h.2 with h1 | ⟨g, cap, cur, rfl, hbb, hh, r⟩
  · exact .inl h1
  · exact .inr ⟨g, cap, cur, rfl, hbb, hb g _ (by simp [Value.ownBlock]) hh, r⟩
theorem Own1.below {w w' B e v xs} (h : Own1 w B e v xs) (hb : Below w.heap.size w w') : Own1 w' B e v xs := h.blk fun k o _ ho => (hb.block k (blk_lt ho)).trans ho
theorem Own1.only {w w' B e v xs S} (h : Own1 w B e v xs) (hb : Only S w w') (hs : ∀ k, v.ownBlock = some k → k ∉ S) : Own1 w' B e v xs := h.blk fun k o hk ho => hb.blk ho (hs k hk)
theorem Own1.setCell {w B e v xs} (h : Own1 w B e v xs) (p : Addr) (u : Value) (hs : ∀ k, v.ownBlock = some k → k ≠ p.block) : Own1 (w.setCell p u) B e v xs := h.blk fun k o hk ho => blk_far ho (hs k hk) u
theorem Own1.weaken {w B B' e v xs} (h : Own1 w B e v xs) (hb : B' ≤ B) : Own1 w B' e v xs := by
  refine ⟨h.1, ?_⟩
  rcases h.2 with h1 | ⟨g, cap, cur, rfl, hbb, r⟩
  · exact .inl h1
  · exact .inr ⟨g, cap, cur, rfl, Nat.le_trans hb hbb, r⟩
theorem Own1.ne_type {w B e v xs g t cs} (h : Own1 w B e v xs) (hg : w.heap[g]? = some (.cells cs t (0, 0))) (hne : e ≠ t) : ∀ k, v.ownBlock = some k → k ≠ g := by
  intro k hk
  rcases h.2 with ⟨rfl, _⟩ | ⟨g', cap, cur, rfl, hb, hh, _⟩
  · simp [Value.ownBlock] at hk
  · have : g' = k := by simpa [Value.ownBlock] using hk
    subst this
    exact blk_ne hh hg hne

section
variable {P : Program} {ops : Array Oper} {rest : List Oper} {o : Oper} {a : Act} {Q : Exit → Act → World → Prop}
/-- append(v, y) of one element, behind 'at_builtin': the goal's world is 'W.alloc' of the one element's box. -/
theorem append1 {W : World} (B : Nat) (hgd : o.guard = none) (s x : Operand) (t e : TypeId) (z : Value) (bytes : Nat)
    (ho : o.op = .call { callee := .builtin .append, args := #[s, x], argTypes := #[t, t] })
    (ht : P.underlying t = some (.slice e)) (hinfo : (P.info? e).map (fun i => (i.zero, i.size, i.bytes)) = some (some z, 1, bytes)) (hz : z.cells.size = 1) (hb0 : 0 < bytes)
    (v : Value) (xs : List Value) (HO : Own1 W B e v xs) (y : Value) (hs : a.eval s = v) (hx : a.eval x = .slice (some ⟨W.heap.size, 0, none⟩) 1 1) (h1 : y.oneCell' = true)
    (hbase : B ≤ W.heap.size) (hl : (xs.length + 1) * bytes ≤ 140737488355328)
    (h : ∀ v1 w1, Own1 w1 B e v1 (xs ++ [y]) → W.grownBy w1 v.ownBlock → (v1.ownBlock = v.ownBlock ∨ ∃ b, v1.ownBlock = some b ∧ W.heap.size ≤ b) → wpList P ops Q rest (a.put o.dst v1) w1) :
    wpList P ops Q (o :: rest) a (W.alloc (.cells #[y] e)) := by
  obtain ⟨i0, hi, hzz⟩ := Option.map_eq_some_iff.1 hinfo
  simp only [Prod.mk.injEq] at hzz
  obtain ⟨hz0, hz1, hz2⟩ := hzz
  have hlen : xs.length + 1 ≤ 140737488355328 := Nat.le_trans (Nat.le_mul_of_pos_right _ hb0) hl
  refine wpList_append_own_at (W.alloc (.cells #[y] e)) hgd s x t ho B e i0 z 1 bytes ht hi hz0 hz1 hz2 hz (by omega) v xs.length xs hs (World.ownsRow.alloc HO _) ⟨W.heap.size, 0, none⟩ 1 1 [y] hx rfl
    (World.news_of_block (cs := #[y]) (t := e) (fr := (0, 0)) (heap_alloc_new W _)) (by simpa using h1) (by simp only [maxLen]; omega) hl (by simp; omega) ?_
  intro v1 w1 hown hg _ hat
  refine h v1 w1 (by simpa [Own1] using hown) (World.grownBy.trans (World.grownBy_alloc W _ _) hg) ?_
  rcases hat with hat | hat
  · exact .inl hat
  · exact .inr ⟨_, hat, by simp⟩
end
theorem _root_.Go.RowKit.Below.grownOwn {w W w1 B e v xs} (h : Below B w W) (HO : Own1 W B e v xs) (hg : W.grownBy w1 v.ownBlock) (hB : B ≤ W.heap.size) : Below B w w1 := h.grown hg hB (fun k hk => (HO.lt k hk).2)
theorem Only.grownOwn {S w W w1 B e v xs} (h : Only S w W) (HO : Own1 W B e v xs) (hg : W.grownBy w1 v.ownBlock) (hB : w.heap.size ≤ B) : Only S w w1 := h.grown hg (fun k hk => .inr (Nat.le_trans hB (HO.lt k hk).2))
end Go.Proofs.Ytfdldlgnhdgmnaa

/- General words: which blocks have turned; whole blocks; lists of numbers; what a row asks of the world behind a call. -/
import Derived.Below
import Derived.WalkKit
import Derived.KernelRfl
import Derived.RowKit3
import Derived.Deep.Draws
import Derived.Lib.Hide
import Derived.ChangeSame
import Derived.RangeFuncOwn
import Derived.RangeFuncKeeps
import Derived.Maps.AppendAt
import Derived.Laws.OwnMore
import Derived.Laws.Slices
import Derived.OwnWalk
import Derived.IntWalk
import Derived.Deep.AppendLies
import Derived.Deep.DeepMust
import Derived.Deep.DeepFit
import Derived.Outline
import Derived.WalkSpells
import Derived.WalkLawsBesides
import Derived.RegionTactic
import Derived.ChangeAlike
import Derived.Deep.QuietTactic
import Derived.BigQuiet
import Derived.BigRegion
import Derived.Deep.DeepCutAuto
import Derived.Orders
import Derived.Laws.StructEq
import Derived.Laws.Cells
set_option linter.unusedSimpArgs false
set_option linter.unusedVariables false
set_option linter.unusedSectionVars false
namespace Go.Proofs.YtjopikjefpenkaaDoor
open Go.RowKit Go.WideShapes Go.ChangeShapes

/-- Only the blocks of `S` have turned, of those that were there. -/
structure Only (S : List Nat) (w w' : World) : Prop where
  os : w'.os = w.os
  tape : w'.tape = w.tape
  output : w'.output = w.output
  size : w.heap.size ≤ w'.heap.size
  block : ∀ k, k < w.heap.size → k ∉ S → w'.heap[k]? = w.heap[k]?
theorem Only.refl (S : List Nat) (w : World) : Only S w w := ⟨rfl, rfl, rfl, Nat.le_refl _, fun _ _ _ => rfl⟩
theorem Only.trans {S : List Nat} {a b c : World} (h : Only S a b) (k : Only S b c) : Only S a c :=
  ⟨k.os.trans h.os, k.tape.trans h.tape, k.output.trans h.output, Nat.le_trans h.size k.size, fun i hi hn => (k.block i (Nat.lt_of_lt_of_le hi h.size) hn).trans (h.block i hi hn)⟩
theorem Only.mono {S T : List Nat} {a b : World} (h : Only S a b) (hs : ∀ x, x ∈ S → x ∈ T) : Only T a b :=
  ⟨h.os, h.tape, h.output, h.size, fun k hk hn => h.block k hk (fun hx => hn (hs k hx))⟩
theorem Only.drew {S : List Nat} {a w : World} (h : Only S a w) : Only S a w.drew := ⟨h.os, h.tape, h.output, h.size, h.block⟩
theorem Only.drewN {S : List Nat} {a w : World} (h : Only S a w) (n : Nat) : Only S a (w.drewN n) := ⟨h.os, h.tape, h.output, h.size, h.block⟩
theorem Only.alloc {S : List Nat} {a w : World} (h : Only S a w) (o : Obj) : Only S a (w.alloc o) :=
  h.trans ⟨rfl, rfl, rfl, by simp, fun k hk _ => Below.heap_alloc _ _ _ hk⟩
theorem Only.setCell {S : List Nat} {a w : World} (h : Only S a w) {p : Addr} (hp : p.block ∈ S ∨ a.heap.size ≤ p.block) (u : Value) : Only S a (w.setCell p u) :=
  ⟨h.os, h.tape, h.output, by simpa [World.setCell] using h.size, fun k hk hn => by
    rw [Below.heap_setCell _ _ _ _ (by rintro rfl; rcases hp with hp | hp <;> first | exact hn hp | omega)]
    exact h.block k hk hn⟩
theorem Only.below {S : List Nat} {a w : World} (h : Only S a w) {B : Nat} (hB : B ≤ a.heap.size) (hs : ∀ x, x ∈ S → B ≤ x) : Below B a w :=
  ⟨h.os, h.tape, h.output, h.size, fun k hk => h.block k (by omega) (fun hx => by have := hs k hx; omega)⟩
theorem Only.of_below {S : List Nat} {a w : World} (h : Below a.heap.size a w) : Only S a w := ⟨h.os, h.tape, h.output, h.size, fun k hk _ => h.block k hk⟩
theorem Only.blk {S : List Nat} {a w : World} (h : Only S a w) {k : Nat} {o : Obj} (hk : a.heap[k]? = some o) (hn : k ∉ S) : w.heap[k]? = some o :=
  (h.block k (Array.getElem?_eq_some_iff.1 hk).1 hn).trans hk

theorem alloc_get (w : World) (o : Obj) (k : Nat) : (w.alloc o).heap[k]? = if k = w.heap.size then some o else w.heap[k]? := by
  show (w.heap.push o)[k]? = _
  rw [Array.getElem?_push]
theorem blk_lt {w : World} {g : Nat} {o : Obj} (h : w.heap[g]? = some o) : g < w.heap.size := (Array.getElem?_eq_some_iff.1 h).1
theorem blk_cell {w : World} {g : Nat} {t : TypeId} {cs : Array Value} (h : w.heap[g]? = some (.cells cs t (0, 0))) (i : Nat) : w.cell? ⟨g, i, none⟩ = cs[i]? := by simp [World.cell?, h]
theorem blk_frozen {w : World} {g : Nat} {t : TypeId} {cs : Array Value} (h : w.heap[g]? = some (.cells cs t (0, 0))) (i : Nat) : w.frozen? ⟨g, i, none⟩ = false := by simp [World.frozen?, h]
theorem blk_set {w : World} {g : Nat} {t : TypeId} {cs : Array Value} (h : w.heap[g]? = some (.cells cs t (0, 0))) (i : Nat) (u : Value) : (w.setCell ⟨g, i, none⟩ u).heap[g]? = some (.cells (cs.setIfInBounds i u) t (0, 0)) := by
  simp [World.setCell, Array.getElem?_modify, h]
theorem blk_far {w : World} {g : Nat} {o : Obj} (h : w.heap[g]? = some o) {p : Addr} (hp : g ≠ p.block) (u : Value) : (w.setCell p u).heap[g]? = some o := (Below.heap_setCell _ _ _ _ hp).trans h
theorem blk_ne {w : World} {g g' : Nat} {t t' : TypeId} {cs cs' : Array Value} (h : w.heap[g]? = some (.cells cs t (0, 0))) (h' : w.heap[g']? = some (.cells cs' t' (0, 0))) (hne : t ≠ t') : g ≠ g' := by
  rintro rfl; rw [h] at h'; simp at h'; exact hne h'.2

/-- The number at a place of a list. -/
def rd (l : List Int) (i : Int) : Int := l.getD i.toNat 0
theorem rd_set (l : List Int) (i j x : Int) (hi : 0 ≤ i) (hj : 0 ≤ j) (h : j < l.length) : rd (l.set j.toNat x) i = if i = j then x else rd l i := by
  unfold rd
  by_cases e : i = j
  · subst e
    rw [if_pos rfl]
    have h2 : i.toNat < (l.set i.toNat x).length := by simp; omega
    simp only [List.getD, List.getElem?_eq_getElem h2, List.getElem_set_self, Option.getD_some]
  · rw [if_neg e]
    have h2 : j.toNat ≠ i.toNat := by omega
    simp only [List.getD, List.getElem?_set_ne h2]

/-- The cells of `T` hold on. -/
def KeepCells (T : Addr → Prop) (W W' : World) : Prop := ∀ p v, T p → W.cell? p = some v → W'.cell? p = some v
theorem KeepCells.refl (T : Addr → Prop) (W : World) : KeepCells T W W := fun _ _ _ h => h
theorem KeepCells.trans {T : Addr → Prop} {A B C : World} (h : KeepCells T A B) (k : KeepCells T B C) : KeepCells T A C := fun p v ht hv => k p v ht (h p v ht hv)
theorem KeepCells.put {T : Addr → Prop} (W : World) (l : Nat) (o o' : Obj) (h : W.heap[l]? = some o) (ho : o.isCells = false) : KeepCells T W (W.putObj l o') := fun p v _ hv =>
  cell_kept hv (grownBy_putObj' W l o') (fun r e => by cases e; exact ⟨_, h, ho⟩)
theorem KeepCells.setCell {T : Addr → Prop} (W : World) (a : Addr) (u : Value) (h : ∀ p, T p → p.block ≠ a.block ∨ p.off ≠ a.off) : KeepCells T W (W.setCell a u) := fun p v ht hv => by
  rcases h p ht with h | h
  · exact (World.cell?_of_block (w := W) (Below.heap_setCell _ _ _ _ h)).trans hv
  · unfold World.cell? World.setCell at *
    simp only [Array.getElem?_modify]
    by_cases e : a.block = p.block
    · rw [if_pos e]
      cases hb : W.heap[p.block]? with
      | none => rw [hb] at hv; simp at hv
      | some o =>
        rw [hb] at hv
        cases o <;> simp_all
        split
        · exact hv.2
        · rw [Array.getElem?_setIfInBounds_ne (by omega)]; exact hv.2
    · rw [if_neg e]; exact hv

theorem blk_kept {w w' : World} {g : Nat} {cs : Array Value} {t : TypeId} {fr : Nat × Nat} {row : Option Nat} (h : w.heap[g]? = some (.cells cs t fr)) (hg : w.grownBy w' row) (hr : ∀ r, row = some r → ∃ o : Obj, w.heap[r]? = some o ∧ o.isCells = false) : w'.heap[g]? = some (.cells cs t fr) :=
  (hg.block g (blk_lt h) (fun e => by obtain ⟨o, h1, h2⟩ := hr g e.symm; rw [h] at h1; cases h1; simp [Obj.isCells] at h2)).trans h
theorem Only.grown {S : List Nat} {a w w' : World} {row : Option Nat} (h : Only S a w) (hg : w.grownBy w' row) (hr : ∀ r, row = some r → r ∈ S ∨ a.heap.size ≤ r) : Only S a w' :=
  ⟨hg.os.trans h.os, hg.tape.trans h.tape, hg.output.trans h.output, Nat.le_trans h.size hg.size, fun k hk hn => (hg.block k (Nat.lt_of_lt_of_le hk h.size) (fun e => by rcases hr k e.symm with h' | h' <;> first | exact hn h' | exact absurd h' (by omega))).trans (h.block k hk hn)⟩


section
variable {H : Type} {enc : TypeId × Value → H} {P : Program}
theorem post_of_below {f : Func} {s : ChangeSpec} {apart fresh handsOn again : Bool} {W W' : World} {args : Array Value} {v : Value} {ds gs : List (DataW H)} {before pa pv : List MemPlace}
    (hW : DataW.Whole enc P f.params.toList s.vars apart W args.toList ds gs before)
    (hres : ∀ (b : Nat) (sp : Nat → Bool) (hd : Bool), DataW.TrodAll enc P W' b sp hd f.resultTypes.toList (v.resultList f.resultTypes.size) (s.fn H (ds ++ gs)).results [])
    (hargs : ∀ sp : Nat → Bool, (∀ p ∈ before, sp p.block = true) → DataW.TrodAll enc P W' 0 sp true f.params.toList args.toList (s.fn H (ds ++ gs)).args pa)
    (hvars : ∀ sp : Nat → Bool, (∀ p ∈ before, sp p.block = true) → DataW.TrodVars enc P W' sp s.vars (s.fn H (ds ++ gs)).vars pv)
    (hps : before = pa ++ pv) (hb : Below W.heap.size W W')
    (hok : ∀ (j : Nat) (t : TypeId) (r : Value), f.resultTypes[j]? = some t → (v.resultList f.resultTypes.size)[j]? = some r → Value.okWide P W' .any 0 t r) :
    s.post enc P f apart fresh handsOn again W args v W' := by
  have hlt : ∀ p ∈ before, p.block < W.heap.size := fun p hp => hW.lt p hp
  have hold : ∀ p ∈ before, (fun b => decide (b < W.heap.size)) p.block = true := fun p hp => by simpa using hlt p hp
  refine ⟨ds, gs, before, [], pa, pv, hW, hres _ _ _, hargs _ hold, hvars _ hold, World.keptBut_mono (fun p hp => ⟨hp, ?_⟩) (hb.frame (· ∈ before)), fun _ => ?_⟩
  · rw [hps, List.mem_append] at hp
    exact Or.inr hp
  · obtain ⟨_, _, _, _, _, hz, hn⟩ := hW
    refine ⟨hok, _, _, ([] ++ pa) ++ pv, ⟨[] ++ pa, pv, trodAll_append (hargs _ (fun _ _ => rfl)) (hres _ _ _), hvars _ (fun _ _ => rfl), rfl, ?_, ?_⟩, ?_⟩
    · intro b off hp
      have hin : MemPlace.cell b off ∈ before := by rw [hps]; simpa using hp
      rw [hb.frozen (hlt _ hin)]
      exact hz b off hin
    · intro ha
      have := hn ha
      rw [hps] at this
      simpa using this
    · intro p hp _
      rw [hps]
      simpa using hp
end

/-! ### rows that a call owns -/
/-- A slice of elements of one cell that owns its cells, none of them in a block below `B`. -/
def Own1 (w : World) (B : Nat) (e : TypeId) (v : Value) (xs : List Value) : Prop := w.ownsRow B e 1 v xs.length xs
theorem Own1.nil (w : World) (B : Nat) (e : TypeId) : Own1 w B e (.slice none 0 0) [] := ⟨by simp, .inl ⟨rfl, rfl⟩⟩
theorem Own1.form {w B e v xs} (h : Own1 w B e v xs) : (v = .slice none 0 0 ∧ xs = []) ∨ ∃ g c, v = .slice (some ⟨g, 0, none⟩) xs.length c ∧ B ≤ g ∧ xs.length ≤ c ∧ xs.length ≤ 9223372036854775807 ∧ g < w.heap.size ∧
    ∀ i (hi : i < xs.length), w.cell? ⟨g, i, none⟩ = some (xs[i]'hi) ∧ w.frozen? ⟨g, i, none⟩ = false := by
  rcases h.2 with ⟨rfl, h0⟩ | ⟨g, cap, cur, rfl, hb, hh, h1, h2, h3, h4⟩
  · exact .inl ⟨rfl, List.eq_nil_of_length_eq_zero h0⟩
  · refine .inr ⟨g, cap, rfl, hb, h1, by simp only [maxLen] at h2; omega, blk_lt hh, fun i hi => ⟨?_, blk_frozen hh i⟩⟩
    rw [blk_cell hh]
    have e0 : xs[i]? = some xs[i] := List.getElem?_eq_getElem hi
    rw [← e0, ← h4, Nat.mul_one, List.getElem?_take, if_pos hi, Array.getElem?_toList]
theorem Own1.grown {w w' B e v xs} {row : Option Nat} (h : Own1 w B e v xs) (hg : w.grownBy w' row) (hr : v.ownBlock = none ∨ v.ownBlock ≠ row) : Own1 w' B e v xs := World.ownsRow.kept h hg hr
theorem Own1.lt {w B e v xs} (h : Own1 w B e v xs) (k : Nat) (hk : v.ownBlock = some k) : k < w.heap.size ∧ B ≤ k := by
  rcases h.2 with ⟨rfl, _⟩ | ⟨g, cap, cur, rfl, hb, hh, _⟩
  · simp [Value.ownBlock] at hk
  · have : g = k := by simpa [Value.ownBlock] using hk
    subst this
    exact ⟨blk_lt hh, hb⟩
theorem Own1.blk {w w' B e v xs} (h : Own1 w B e v xs) (hb : ∀ k o, v.ownBlock = some k → w.heap[k]? = some o → w'.heap[k]? = some o) : Own1 w' B e v xs := by
  refine ⟨h.1, ?_⟩
  rcases h.2 with h1 | ⟨g, cap, cur, rfl, hbb, hh, r⟩
  · exact .inl h1
  · exact .inr ⟨g, cap, cur, rfl, hbb, hb g _ (by simp [Value.ownBlock]) hh, r⟩
theorem Own1.below {w w' B e v xs} (h : Own1 w B e v xs) (hb : Below w.heap.size w w') : Own1 w' B e v xs := h.blk fun k o _ ho => (hb.block k (blk_lt ho)).trans ho
theorem Own1.only {w w' B e v xs S} (h : Own1 w B e v xs) (hb : Only S w w') (hs : ∀ k, v.ownBlock = some k → k ∉ S) : Own1 w' B e v xs := h.blk fun k o hk ho => hb.blk ho (hs k hk)
theorem Own1.setCell {w B e v xs} (h : Own1 w B e v xs) (p : Addr) (u : Value) (hs : ∀ k, v.ownBlock = some k → k ≠ p.block) : Own1 (w.setCell p u) B e v xs := h.blk fun k o hk ho => blk_far ho (hs k hk) u
theorem Own1.weaken {w B B' e v xs} (h : Own1 w B e v xs) (hb : B' ≤ B) : Own1 w B' e v xs := by
  refine ⟨h.1, ?_⟩
  rcases h.2 with h1 | ⟨g, cap, cur, rfl, hbb, r⟩
  · exact .inl h1
  · exact .inr ⟨g, cap, cur, rfl, Nat.le_trans hb hbb, r⟩
theorem Own1.ne_type {w B e v xs g t cs} (h : Own1 w B e v xs) (hg : w.heap[g]? = some (.cells cs t (0, 0))) (hne : e ≠ t) : ∀ k, v.ownBlock = some k → k ≠ g := by
  intro k hk
  rcases h.2 with ⟨rfl, _⟩ | ⟨g', cap, cur, rfl, hb, hh, _⟩
  · simp [Value.ownBlock] at hk
  · have : g' = k := by simpa [Value.ownBlock] using hk
    subst this
    exact blk_ne hh hg hne

section
variable {P : Program} {ops : Array Oper} {rest : List Oper} {o : Oper} {a : Act} {Q : Exit → Act → World → Prop}
/-- append(v, y) of one element, behind 'at_builtin': the goal's world is 'W.alloc' of the one element's box. -/
theorem append1 {W : World} (B : Nat) (hgd : o.guard = none) (s x : Operand) (t e : TypeId) (z : Value) (bytes : Nat)
    (ho : o.op = .call { callee := .builtin .append, args := #[s, x], argTypes := #[t, t] })
    (ht : P.underlying t = some (.slice e)) (hinfo : (P.info? e).map (fun i => (i.zero, i.size, i.bytes)) = some (some z, 1, bytes)) (hz : z.cells.size = 1) (hb0 : 0 < bytes)
    (v : Value) (xs : List Value) (HO : Own1 W B e v xs) (y : Value) (hs : a.eval s = v) {g : Nat} (hx : a.eval x = .slice (some ⟨g, 0, none⟩) 1 1) (hgz : g = W.heap.size) (h1 : y.oneCell' = true)
    (hbase : B ≤ W.heap.size) (hl : (xs.length + 1) * bytes ≤ 140737488355328)
    (h : ∀ v1 w1, Own1 w1 B e v1 (xs ++ [y]) → W.grownBy w1 v.ownBlock → (v1.ownBlock = v.ownBlock ∨ ∃ b, v1.ownBlock = some b ∧ W.heap.size ≤ b) → wpList P ops Q rest (a.put o.dst v1) w1) :
    wpList P ops Q (o :: rest) a (W.alloc (.cells #[y] e)) := by
  subst hgz
  obtain ⟨i0, hi, hzz⟩ := Option.map_eq_some_iff.1 hinfo
  simp only [Prod.mk.injEq] at hzz
  obtain ⟨hz0, hz1, hz2⟩ := hzz
  have hlen : xs.length + 1 ≤ 140737488355328 := Nat.le_trans (Nat.le_mul_of_pos_right _ hb0) hl
  refine wpList_append_own_at (W.alloc (.cells #[y] e)) hgd s x t ho B e i0 z 1 bytes ht hi hz0 hz1 hz2 hz (by omega) v xs.length xs hs (World.ownsRow.alloc HO _) ⟨W.heap.size, 0, none⟩ 1 1 [y] hx rfl
    (World.news_of_block (cs := #[y]) (t := e) (fr := (0, 0)) (heap_alloc_new W _)) (by simpa using h1) (by simp only [maxLen]; omega) hl (by simp; omega) ?_
  intro v1 w1 hown hg _ hat
  refine h v1 w1 (by simpa [Own1] using hown) (World.grownBy.trans (World.grownBy_alloc W _ _) hg) ?_
  rcases hat with hat | hat
  · exact .inl hat
  · exact .inr ⟨_, hat, by simp⟩
end
theorem _root_.Go.RowKit.Below.grownOwn {w W w1 B e v xs} (h : Below B w W) (HO : Own1 W B e v xs) (hg : W.grownBy w1 v.ownBlock) (hB : B ≤ W.heap.size) : Below B w w1 := h.grown hg hB (fun k hk => (HO.lt k hk).2)
theorem Only.grownOwn {S w W w1 B e v xs} (h : Only S w W) (HO : Own1 W B e v xs) (hg : W.grownBy w1 v.ownBlock) (hB : w.heap.size ≤ B) : Only S w w1 := h.grown hg (fun k hk => .inr (Nat.le_trans hB (HO.lt k hk).2))

/-! ### slices that are read: whatever came in -/
def Reads (w : World) (A : Option Addr) (xs : List Value) : Prop := ∀ i (h : i < xs.length), ∃ ad, A = some ad ∧ w.cell? (ad.add i) = some (xs[i]'h)
theorem Reads.below {w w' A xs} (h : Reads w A xs) (hb : Below w.heap.size w w') : Reads w' A xs := fun i hi => by
  obtain ⟨ad, h1, h2⟩ := h i hi
  exact ⟨ad, h1, (hb.cell (World.block_lt_of_cell? _ _ h2)).trans h2⟩
theorem addr_add_zero (a : Addr) : a.add 0 = a := by simp [Addr.add]
theorem addr_add_add (a : Addr) (i j : Nat) : (a.add i).add j = a.add (i + j) := by
  unfold Addr.add
  by_cases h1 : i = 0 <;> by_cases h2 : j = 0 <;> simp [h1, h2, Nat.add_assoc]
theorem Reads.head {w A x xs} (h : Reads w A (x :: xs)) : ∃ ad, A = some ad ∧ w.cell? ad = some x ∧ ad.block < w.heap.size := by
  obtain ⟨ad, h1, h2⟩ := h 0 (by simp)
  rw [addr_add_zero] at h2
  exact ⟨ad, h1, h2, World.block_lt_of_cell? _ _ h2⟩
theorem Own1.reads {w B e v xs} (h : Own1 w B e v xs) : ∃ A c, v = .slice A xs.length c ∧ xs.length ≤ c ∧ xs.length ≤ 9223372036854775807 ∧ Reads w A xs := by
  rcases h.form with ⟨rfl, rfl⟩ | ⟨g, c, rfl, _, h1, h2, _, h3⟩
  · exact ⟨none, 0, rfl, by simp, by simp, fun i hi => absurd hi (by simp)⟩
  · refine ⟨_, c, rfl, h1, h2, fun i hi => ⟨_, rfl, ?_⟩⟩
    have := (h3 i hi).1
    rw [show (⟨g, 0, none⟩ : Addr).add i = ⟨g, i, none⟩ by unfold Addr.add; split <;> simp_all]
    exact this
/-- xs[m:], whatever the capacity. -/
theorem cut_from {P : Program} (t e : TypeId) (kl : IntKind) {i : TypeInfo} (ht : P.underlying t = some (.slice e)) (hi : P.info? e = some i) (hsz : i.size = 1) (A : Option Addr) (n c m : Nat) (hm : m ≤ n) :
    ∃ A' : Option Addr, (∀ W : World, (Instr.slice t (.slice A n c) (some (.int kl (m : Int))) none none).run P W = .ok (.slice A' (n - m) (c - m)) W) ∧
      ∀ (w : World) (xs : List Value), n ≤ c → xs.length = n → Reads w A xs → Reads w A' (xs.drop m) := by
  refine ⟨if c = m then A else A.map (·.add m), fun W => ?_, fun w xs hc hl h j hj => ?_⟩
  · have hel : P.elem t = e := by simp [Program.elem, ht]
    have hu : P.underlying t = some (.slice (P.elem t)) := by rw [hel]; exact ht
    rw [run_slice_l W t A n c hu kl (m : Int) (Int.natCast_nonneg _) (by omega), hel]
    simp [sizeOf, typeInfo, hi, hsz, sliced, Result.andThen]
  · have hj' : j < n - m := by simpa [hl] using hj
    obtain ⟨ad, rfl, h2⟩ := h (m + j) (by omega)
    rw [if_neg (by omega)]
    refine ⟨ad.add m, rfl, ?_⟩
    rw [addr_add_add, h2]
    simp
end Go.Proofs.YtjopikjefpenkaaDoor
/- A plain machine beside the model: values with handles in the place of blocks, and what stands for what. -/
namespace Go.Proofs.YtjopikjefpenkaaDoor
open Go.RowKit

/-- Where a handle lies. -/
structure Pl where
  base : Addr
  lim : Nat := 0
abbrev Tau := Nat → Option Pl
def Tau.le (τ τ' : Tau) : Prop := ∀ b p, τ b = some p → τ' b = some p
theorem Tau.le_refl (τ : Tau) : τ.le τ := fun _ _ h => h
theorem Tau.le_trans {a b c : Tau} (h : a.le b) (k : b.le c) : a.le c := fun x p e => k x p (h x p e)
def Tau.put (τ : Tau) (b : Nat) (p : Pl) : Tau := fun c => if c = b then some p else τ c
theorem Tau.put_self (τ : Tau) (b p) : (τ.put b p) b = some p := by simp [Tau.put]
theorem Tau.put_ne (τ : Tau) {b c p} (h : c ≠ b) : (τ.put b p) c = τ c := by simp [Tau.put, h]
theorem Tau.le_put (τ : Tau) {b p} (h : τ b = none) : τ.le (τ.put b p) := fun c q e => by
  by_cases hc : c = b
  · subst hc; rw [h] at e; cases e
  · rw [Tau.put_ne _ hc]; exact e

/-- Is it a loop's yield? -/
def isY : Fn → Bool
  | .yield _ => true
  | _ => false
/-- A value of the plain machine, and one of the model. A slice whose capacity is not known bears its elements' size as its address's spot. -/
inductive VR (τ : Tau) : Value → Value → Prop
  | bool (b) : VR τ (.bool b) (.bool b)
  | int (k n) : VR τ (.int k n) (.int k n)
  | str (s) : VR τ (.string s) (.string s)
  | pnil : VR τ (.pointer none) (.pointer none)
  | ptr {b p} (o) : τ b = some p → VR τ (.pointer (some ⟨b, o, none⟩)) (.pointer (some (p.base.add o)))
  | snil : VR τ (.slice none 0 0) (.slice none 0 0)
  | sex {b p} (o n c) : τ b = some p → VR τ (.slice (some ⟨b, o, none⟩) n c) (.slice (some (p.base.add o)) n c)
  | sun {b p} (o sz n m c) : τ b = some p → 0 < sz → n ≤ c → c ≤ 9223372036854775807 → o + c * sz ≤ p.lim → VR τ (.slice (some ⟨b, o, some sz⟩) n m) (.slice (some (p.base.add o)) n c)
  | sue (b o sz m) (a : Addr) : VR τ (.slice (some ⟨b, o, some sz⟩) 0 m) (.slice (some a) 0 0)
  | su0 (b o m c) (a : Addr) : c ≤ 9223372036854775807 → VR τ (.slice (some ⟨b, o, some 0⟩) 0 m) (.slice (some a) 0 c)
  | se0 (b o) (a : Addr) : VR τ (.slice (some ⟨b, o, none⟩) 0 0) (.slice (some a) 0 0)
  | mnil : VR τ (.map none) (.map none)
  | map {b p} : τ b = some p → p.base.off = 0 → VR τ (.map (some b)) (.map (some p.base.block))
  | fnil : VR τ .nilFunc .nilFunc
  | yld {b p} : τ b = some p → VR τ (.func (.yield b) #[] #[]) (.func (.yield p.base.block) #[] #[])
  | func (f) {a a' c c' : Array Value} : isY f = false → a.size = a'.size → c.size = c'.size → (∀ (i : Nat) v v', a[i]? = some v → a'[i]? = some v' → VR τ v v') → (∀ (i : Nat) v v', c[i]? = some v → c'[i]? = some v' → VR τ v v') → VR τ (.func f a c) (.func f a' c')
  | inil : VR τ .nilIface .nilIface
  | iface (t) {v v'} : VR τ v v' → VR τ (.iface t v) (.iface t v')
  | agg {a a' : Array Value} : a.size = a'.size → (∀ (i : Nat) v v', a[i]? = some v → a'[i]? = some v' → VR τ v v') → VR τ (.agg a) (.agg a')
  | tuple {a a' : Array Value} : a.size = a'.size → (∀ (i : Nat) v v', a[i]? = some v → a'[i]? = some v' → VR τ v v') → VR τ (.tuple a) (.tuple a')

theorem VR.mono {τ τ' : Tau} (h : τ.le τ') {v v' : Value} (k : VR τ v v') : VR τ' v v' := by
  induction k with
  | bool b => exact .bool b
  | int k n => exact .int k n
  | str s => exact .str s
  | pnil => exact .pnil
  | ptr o e => exact .ptr o (h _ _ e)
  | snil => exact .snil
  | sex o n c e => exact .sex o n c (h _ _ e)
  | sun o sz n m c e h0 h1 h2 h3 => exact .sun o sz n m c (h _ _ e) h0 h1 h2 h3
  | sue b o sz m a => exact .sue b o sz m a
  | su0 b o m c a hc => exact .su0 b o m c a hc
  | se0 b o a => exact .se0 b o a
  | mnil => exact .mnil
  | map e h0 => exact .map (h _ _ e) h0
  | fnil => exact .fnil
  | yld e => exact .yld (h _ _ e)
  | func f hy e1 e2 _ _ i1 i2 => exact .func f hy e1 e2 i1 i2
  | inil => exact .inil
  | iface t _ i => exact .iface t i
  | agg e _ i => exact .agg e i
  | tuple e _ i => exact .tuple e i

/-- Bears no address. -/
def flat : Nat → Value → Bool
  | 0, _ => false
  | n + 1, v => match v with
    | .bool _ | .int _ _ | .string _ | .pointer none | .slice none 0 0 | .map none | .nilFunc | .nilIface => true
    | .iface _ x => flat n x
    | .agg cs | .tuple cs => cs.toList.all (flat n)
    | .func f a b => !isY f && (a.toList.all (flat n) && b.toList.all (flat n))
    | _ => false
theorem mem_of_getElem?' {cs : Array Value} {i : Nat} {v : Value} (h : cs[i]? = some v) : v ∈ cs.toList := Array.mem_toList_iff.2 (Array.mem_of_getElem? h)
theorem VR.of_flat {τ : Tau} : ∀ {n : Nat} {v : Value}, flat n v = true → VR τ v v
  | 0, _, h => by simp [flat] at h
  | n + 1, v, h => by
    have key : ∀ {cs : Array Value}, cs.toList.all (flat n) = true → ∀ (i : Nat) v v', cs[i]? = some v → cs[i]? = some v' → VR τ v v' := fun hc i v v' h1 h2 => by
      rw [h1] at h2; cases h2
      exact VR.of_flat (List.all_eq_true.1 hc _ (mem_of_getElem?' h1))
    unfold flat at h
    split at h
    · exact .bool _
    · exact .int _ _
    · exact .str _
    · exact .pnil
    · exact .snil
    · exact .mnil
    · exact .fnil
    · exact .inil
    · exact .iface _ (VR.of_flat h)
    · exact .agg rfl (key h)
    · exact .tuple rfl (key h)
    · simp only [Bool.and_eq_true, Bool.not_eq_true'] at h; exact .func _ h.1 rfl rfl (key h.2.1) (key h.2.2)
    · cases h
theorem array_eq {a b : Array Value} (h : a.size = b.size) (k : ∀ (i : Nat) v v', a[i]? = some v → b[i]? = some v' → v' = v) : b = a := by
  apply Array.ext h.symm
  intro i h1 h2
  exact k i _ _ (Array.getElem?_eq_getElem h2) (Array.getElem?_eq_getElem h1)
theorem VR.flat_eq {τ : Tau} {v v' : Value} (k : VR τ v v') : ∀ n, flat n v = true → v' = v := by
  induction k with
  | bool | int | str | pnil | snil | mnil | fnil | inil => intro _ _; rfl
  | ptr | map | sex => intro n h; cases n <;> simp [flat] at h
  | sun | sue | su0 | se0 => intro n h; cases n <;> simp [flat] at h
  | yld e => intro n h; cases n <;> simp [flat, isY] at h
  | func f hy e1 e2 _ _ i1 i2 =>
    intro n h
    cases n with
    | zero => simp [flat] at h
    | succ n =>
      simp only [flat, Bool.and_eq_true] at h
      rw [array_eq e1 (fun i v v' h1 h2 => i1 i v v' h1 h2 n (List.all_eq_true.1 h.2.1 _ (mem_of_getElem?' h1))), array_eq e2 (fun i v v' h1 h2 => i2 i v v' h1 h2 n (List.all_eq_true.1 h.2.2 _ (mem_of_getElem?' h1)))]
  | iface t _ i =>
    intro n h
    cases n with
    | zero => simp [flat] at h
    | succ n => rw [i n (by simpa [flat] using h)]
  | agg e _ i =>
    intro n h
    cases n with
    | zero => simp [flat] at h
    | succ n =>
      simp only [flat] at h
      rw [array_eq e (fun j v v' h1 h2 => i j v v' h1 h2 n (List.all_eq_true.1 h _ (mem_of_getElem?' h1)))]
  | tuple e _ i =>
    intro n h
    cases n with
    | zero => simp [flat] at h
    | succ n =>
      simp only [flat] at h
      rw [array_eq e (fun j v v' h1 h2 => i j v v' h1 h2 n (List.all_eq_true.1 h _ (mem_of_getElem?' h1)))]

abbrev Env := List (Nat × Value)
def Env.get : Env → Nat → Option Value
  | [], _ => none
  | (t, v) :: e, k => if k = t then some v else Env.get e k
/-- What a handle holds: nothing any more; cells that are read alone; a whole block; a row with room behind it; a map; a string's walker; the record of a range over a function, with what is known of its frame. -/
inductive PO where
  | dead
  | ro (cs : List Value)
  | rw (cs : List Value)
  | gr (cs : List Value)
  | mp (es : List (Value × Value))
  | si (s : ByteArray) (pos : Nat)
  | lp (r : Loop) (e : Env)
def PO.own : PO → Bool
  | .dead | .ro _ => false
  | _ => true
def PO.live : PO → Bool
  | .dead => false
  | _ => true
def OR (τ : Tau) (p : Pl) (w : World) : PO → Prop
  | .dead => True
  | .ro cs => ∀ (i : Nat) v, cs[i]? = some v → ∃ v', w.cell? (p.base.add i) = some v' ∧ VR τ v v'
  | .rw cs => p.base.off = 0 ∧ p.base.spot = none ∧ ∃ (cs' : Array Value) (el : TypeId), w.heap[p.base.block]? = some (.cells cs' el (0, 0)) ∧ cs'.size = cs.length ∧ ∀ (i : Nat) v v', cs[i]? = some v → cs'[i]? = some v' → VR τ v v'
  | .gr cs => p.base.spot = none ∧ ∃ (cs' : Array Value) (el : TypeId) (fr : Nat × Nat), w.heap[p.base.block]? = some (.cells cs' el fr) ∧ (fr.2 ≤ fr.1 ∨ cs'.size ≤ fr.1) ∧ p.base.off + p.lim = cs'.size ∧ cs.length ≤ p.lim ∧ ∀ (i : Nat) v v', cs[i]? = some v → cs'[p.base.off + i]? = some v' → VR τ v v'
  | .mp es => p.base.off = 0 ∧ ∃ (es' : Array MapEntry) (ck : Nat), w.heap[p.base.block]? = some (.map es' ck) ∧ es'.size = es.length ∧ (∀ (i : Nat) k v e, es[i]? = some (k, v) → es'[i]? = some e → e.key = k ∧ VR τ v e.val ∧ e.born < ck) ∧ (∀ (i j : Nat) (e f : MapEntry), es'[i]? = some e → es'[j]? = some f → e.born = f.born → i = j)
  | .si s pos => p.base.off = 0 ∧ p.base.spot = none ∧ w.heap[p.base.block]? = some (.stringIter s pos)
  | .lp r e => p.base.off = 0 ∧ p.base.spot = none ∧ w.heap[p.base.block]? = some (.loop r) ∧ ∀ t v, e.get t = some v → VR τ v (r.tmps.getD t undef)

/-- Which blocks have not turned. -/
structure Fr (S : Nat → Prop) (w w' : World) : Prop where
  os : w'.os = w.os
  tape : w'.tape = w.tape
  output : w'.output = w.output
  size : w.heap.size ≤ w'.heap.size
  block : ∀ k, k < w.heap.size → ¬ S k → w'.heap[k]? = w.heap[k]?
theorem Fr.refl (S) (w : World) : Fr S w w := ⟨rfl, rfl, rfl, Nat.le_refl _, fun _ _ _ => rfl⟩
theorem Fr.trans {S} {a b c : World} (h : Fr S a b) (k : Fr S b c) : Fr S a c :=
  ⟨k.os.trans h.os, k.tape.trans h.tape, k.output.trans h.output, Nat.le_trans h.size k.size, fun i hi hn => (k.block i (Nat.lt_of_lt_of_le hi h.size) hn).trans (h.block i hi hn)⟩
theorem Fr.mono {S T : Nat → Prop} {a b : World} (h : Fr S a b) (hs : ∀ x, x < a.heap.size → S x → T x) : Fr T a b :=
  ⟨h.os, h.tape, h.output, h.size, fun k hk hn => h.block k hk (fun hx => hn (hs k hk hx))⟩
/-- Behind a stretch whose blocks are old ones of `S`, or newer. -/
theorem Fr.trans' {S T : Nat → Prop} {a b c : World} (h : Fr S a b) (k : Fr T b c) (hs : ∀ x, T x → S x ∨ a.heap.size ≤ x) : Fr S a c :=
  ⟨k.os.trans h.os, k.tape.trans h.tape, k.output.trans h.output, Nat.le_trans h.size k.size, fun i hi hn =>
    (k.block i (Nat.lt_of_lt_of_le hi h.size) (fun ht => by rcases hs i ht with h' | h' <;> first | exact hn h' | omega)).trans (h.block i hi hn)⟩
theorem Fr.of_below {w w' : World} (h : Below w.heap.size w w') (S) : Fr S w w' := ⟨h.os, h.tape, h.output, h.size, fun k hk _ => h.block k hk⟩
theorem Fr.below {w w' : World} (h : Fr (fun _ => False) w w') : Below w.heap.size w w' := ⟨h.os, h.tape, h.output, h.size, fun k hk => h.block k hk (fun x => x)⟩
theorem Fr.alloc (S) (w : World) (o : Obj) : Fr S w (w.alloc o) := ⟨rfl, rfl, rfl, by simp, fun k hk _ => Below.heap_alloc _ _ _ hk⟩
theorem Fr.drawn (S) (w : World) (n : Nat) : Fr S w { w with drawn := n } := ⟨rfl, rfl, rfl, Nat.le_refl _, fun _ _ _ => rfl⟩

/-- The plain memory stands for the model's, as far as `τ` goes. -/
structure RH (τ : Tau) (h : List PO) (w : World) : Prop where
  ob : ∀ b p, τ b = some p → ∃ o, h[b]? = some o ∧ OR τ p w o ∧ (o.live = true → p.base.block < w.heap.size)
  inj : ∀ b c p q o o', b ≠ c → τ b = some p → τ c = some q → h[b]? = some o → o.own = true → h[c]? = some o' → o'.live = true → p.base.block ≠ q.base.block
def wset (τ : Tau) (h : List PO) : Nat → Prop := fun k => ∃ b p o, τ b = some p ∧ h[b]? = some o ∧ o.own = true ∧ p.base.block = k
end Go.Proofs.YtjopikjefpenkaaDoor
/- The plain machine's operations that look at no memory. -/
namespace Go.Proofs.YtjopikjefpenkaaDoor
open Go.RowKit

def Env.putO (e : Env) : Option Tmp → Value → Env
  | some d, v => (d, v) :: e
  | none, _ => e
/-- An operand's value. -/
def ev (e : Env) : Operand → Option Value
  | .tmp t => e.get t
  | .const v => if flat 4 v then some v else none
  | .func f => some (.func (.func f) #[] #[])
  | .global _ => none
def evs (e : Env) : List Operand → Option (List Value)
  | [] => some []
  | x :: xs => match ev e x, evs e xs with
    | some v, some vs => some (v :: vs)
    | _, _ => none
def evp (e : Env) : List (Nat × Operand) → Option (List (Nat × Value))
  | [] => some []
  | (i, x) :: xs => match ev e x, evp e xs with
    | some v, some vs => some ((i, v) :: vs)
    | _, _ => none
/-- An operand that need not be there. -/
def evo (e : Env) : Option Operand → Option (Option Int)
  | none => some none
  | some x => match ev e x with
    | some (.int _ n) => some (some n)
    | _ => none

def bitI (f : (n : Nat) → BitVec n → BitVec n → BitVec n) (k : IntKind) (a b : Int) : Int := k.wrap (f k.bits (BitVec.ofInt k.bits a) (BitVec.ofInt k.bits b)).toNat

section
variable (P : Program)
def szOf (t : TypeId) : Option Nat := (P.info? t).map (·.size)
def zOf (t : TypeId) : Option Value := (P.info? t).bind (·.zero)
def isAg (t : TypeId) : Option Bool := (P.underlying t).map fun | .struct _ | .array _ _ => true | _ => false
def qpart (t : TypeId) (cs : Array Value) (off : Nat) : Option Value :=
  match isAg P t with
  | some true => match szOf P t with
    | some n => some (.agg (cs.extract off (off + n)))
    | none => none
  | some false => cs[off]?
  | none => none
def qeqF (eq : TypeId → Value → Value → Option Bool) (xs ys : Array Value) : List Field → Option Bool
  | [] => some true
  | f :: fs =>
    if f.name ≠ "_" then
      match qpart P f.type xs f.offset, qpart P f.type ys f.offset with
      | some a, some b => match eq f.type a b, qeqF eq xs ys fs with
        | some r, some r' => some (r && r')
        | _, _ => none
      | _, _ => none
    else qeqF eq xs ys fs
def qeqA (eq : TypeId → Value → Value → Option Bool) (xs ys : Array Value) (e : TypeId) (sz : Nat) : List Nat → Option Bool
  | [] => some true
  | i :: is =>
    match qpart P e xs (i * sz), qpart P e ys (i * sz) with
    | some a, some b => match eq e a b, qeqA eq xs ys e sz is with
      | some r, some r' => some (r && r')
      | _, _ => none
    | _, _ => none
def qeq : Nat → TypeId → Value → Value → Option Bool
  | d + 1, t, x, y => match P.underlying t, x, y with
    | some .bool, .bool a, .bool b => some (a == b)
    | some (.int _), .int k a, .int k' b => if k = k' then some (a == b) else none
    | some .string, .string a, .string b => some (a.toList == b.toList)
    | some (.struct fs), .agg xs, .agg ys => if P.stoodInHeld t then none else qeqF P (qeq d) xs ys fs.toList
    | some (.array n e), .agg xs, .agg ys => match szOf P e with
      | some sz => qeqA P (qeq d) xs ys e sz (List.range n)
      | none => none
    | some (.pointer _), .pointer none, .pointer none => some true
    | some (.pointer _), .pointer (some _), .pointer none => some false
    | some (.pointer _), .pointer none, .pointer (some _) => some false
    | some (.slice _), .slice none _ _, .slice none _ _ => some true
    | some (.slice _), .slice none _ _, .slice (some _) _ _ => some false
    | some (.slice _), .slice (some _) _ _, .slice none _ _ => some false
    | some (.map _ _), .map none, .map none => some true
    | some (.map _ _), .map (some _), .map none => some false
    | some (.interface _), .nilIface, .iface _ _ => some false
    | some (.interface _), .iface _ _, .nilIface => some false
    | _, _, _ => none
  | 0, _, _, _ => none
/-- Two operands: what must be, and the value. -/
def qbin (op : BinOp) (t : TypeId) (nil : Bool) (x y : Value) : Option (Prop × Value) :=
  match op with
  | .add => match x, y with
    | .int k a, .int k' b => if k = k' then some (True, .int k (k.wrap (a + b))) else none
    | .string a, .string b => some (a.size + b.size ≤ 9223372036854775807, .string (a ++ b))
    | _, _ => none
  | .sub => match x, y with | .int k a, .int k' b => if k = k' then some (True, .int k (k.wrap (a - b))) else none | _, _ => none
  | .mul => match x, y with | .int k a, .int k' b => if k = k' then some (True, .int k (k.wrap (a * b))) else none | _, _ => none
  | .quo => match x, y with | .int k a, .int k' b => if k = k' then some (b ≠ 0, .int k (k.wrap (a.tdiv b))) else none | _, _ => none
  | .rem => match x, y with | .int k a, .int k' b => if k = k' then some (b ≠ 0, .int k (a.tmod b)) else none | _, _ => none
  | .and => match x, y with | .int k a, .int k' b => if k = k' then some (True, .int k (bitI (fun _ u v => u &&& v) k a b)) else none | _, _ => none
  | .or => match x, y with | .int k a, .int k' b => if k = k' then some (True, .int k (bitI (fun _ u v => u ||| v) k a b)) else none | _, _ => none
  | .xor => match x, y with | .int k a, .int k' b => if k = k' then some (True, .int k (bitI (fun _ u v => u ^^^ v) k a b)) else none | _, _ => none
  | .andNot => match x, y with | .int k a, .int k' b => if k = k' then some (True, .int k (bitI (fun _ u v => u &&& ~~~v) k a b)) else none | _, _ => none
  | .shl => match x, y with | .int k a, .int _ b => some (0 ≤ b, .int k (k.wrap (a * 2 ^ min b.toNat k.bits))) | _, _ => none
  | .shr => match x, y with | .int k a, .int _ b => some (0 ≤ b, .int k (a.fdiv (2 ^ min b.toNat k.bits))) | _, _ => none
  | .lss => match x, y with
    | .int k a, .int k' b => if k = k' then some (True, .bool (decide (a < b))) else none
    | .string a, .string b => some (True, .bool (Op.bytesLess a.toList b.toList)) | _, _ => none
  | .leq => match x, y with | .int k a, .int k' b => if k = k' then some (True, .bool (decide (a ≤ b))) else none | _, _ => none
  | .gtr => match x, y with | .int k a, .int k' b => if k = k' then some (True, .bool (decide (a > b))) else none | _, _ => none
  | .geq => match x, y with | .int k a, .int k' b => if k = k' then some (True, .bool (decide (a ≥ b))) else none | _, _ => none
  | .eql => match x, y with
    | .int k a, .int k' b => if k = k' then some (True, .bool (a == b)) else none
    | .string a, .string b => some (True, .bool (a.toList == b.toList))
    | .agg _, .agg _ => if P.eqGuardType P.depth t then none else (qeq P 64 t x y).map fun r => (True, .bool r)
    | .nilIface, .nilIface => match P.underlying t with
      | some (.interface _) => if nil then some (True, .bool true) else none
      | _ => none
    | _, _ => (qeq P 1 t x y).map fun r => (True, .bool r)
  | .neq => match x, y with
    | .int k a, .int k' b => if k = k' then some (True, .bool (a != b)) else none
    | .string a, .string b => some (True, .bool (!(a.toList == b.toList)))
    | .agg _, .agg _ => if P.eqGuardType P.depth t then none else (qeq P 64 t x y).map fun r => (True, .bool (!r))
    | .nilIface, .nilIface => match P.underlying t with
      | some (.interface _) => if nil then some (True, .bool false) else none
      | _ => none
    | _, _ => (qeq P 1 t x y).map fun r => (True, .bool (!r))
def qun (op : UnOp) (x : Value) : Option Value :=
  match op, x with
  | .neg, .int k n => some (.int k (k.wrap (0 - n)))
  | .not, .bool b => some (.bool (!b))
  | .xor, .int k n => some (.int k (bitI (fun _ u v => u ^^^ v) k (if k.signed then -1 else k.max) n))
  | _, _ => none
def qconv (s d : TypeId) (x : Value) : Option Value :=
  match P.underlying s, P.underlying d, x with
  | some _, some (.int k), .int _ n => some (.int k (k.wrap n))
  | some _, some .string, .int _ n => some (.string (Utf8.encode n))
  | some _, some .string, .string b => some (.string b)
  | _, _, _ => none
def qslice (t : TypeId) (x : Value) (lo hi mx : Option Int) : Option (Prop × Value) :=
  match P.underlying t, x with
  | some .string, .string s => match mx with
    | none => some (0 ≤ lo.getD 0 ∧ lo.getD 0 ≤ hi.getD s.size ∧ hi.getD s.size ≤ s.size, .string (s.extract (lo.getD 0).toNat (hi.getD s.size).toNat))
    | some _ => none
  | some (.slice el), .slice none 0 0 => match szOf P el with
    | some _ => some (0 ≤ lo.getD 0 ∧ lo.getD 0 ≤ hi.getD (0 : Nat) ∧ hi.getD (0 : Nat) ≤ mx.getD (0 : Nat) ∧ mx.getD (0 : Nat) ≤ 0 ∧ (mx.isSome → hi.isSome), .slice none 0 0)
    | none => none
  | some (.slice el), .slice (some ⟨b, o, some sz⟩) n _ => match szOf P el with
    | some z => if z = sz ∨ sz = 0 then match mx with
      | none => some (0 ≤ lo.getD 0 ∧ lo.getD 0 ≤ hi.getD n ∧ hi.getD n ≤ n, .slice (some ⟨b, o + (lo.getD 0).toNat * sz, some sz⟩) (hi.getD n - lo.getD 0).toNat (hi.getD n - lo.getD 0).toNat)
      | some m => if sz = 0 then none else some (0 ≤ lo.getD 0 ∧ lo.getD 0 ≤ hi.getD n ∧ hi.getD n ≤ m ∧ m ≤ n ∧ hi.isSome, .slice (some (if m = lo.getD 0 then ⟨b, o, none⟩ else ⟨b, o + (lo.getD 0).toNat * sz, none⟩)) (hi.getD n - lo.getD 0).toNat (m - lo.getD 0).toNat)
      else none
    | none => none
  | some (.slice el), .slice (some ⟨b, o, none⟩) n c => match szOf P el with
    | some sz => some (0 ≤ lo.getD 0 ∧ lo.getD 0 ≤ hi.getD n ∧ hi.getD n ≤ mx.getD c ∧ mx.getD c ≤ c ∧ (mx.isSome → hi.isSome), .slice (some (if mx.getD c = lo.getD 0 then ⟨b, o, none⟩ else ⟨b, o + (lo.getD 0).toNat * sz, none⟩)) (hi.getD n - lo.getD 0).toNat (mx.getD c - lo.getD 0).toNat)
    | none => none
  | some (.array n el), .pointer (some ⟨b, o, none⟩) => match szOf P el with
    | some sz => some (0 ≤ lo.getD 0 ∧ lo.getD 0 ≤ hi.getD n ∧ hi.getD n ≤ mx.getD n ∧ mx.getD n ≤ n ∧ (mx.isSome → hi.isSome), .slice (some (if mx.getD n = lo.getD 0 then ⟨b, o, none⟩ else ⟨b, o + (lo.getD 0).toNat * sz, none⟩)) (hi.getD n - lo.getD 0).toNat (mx.getD n - lo.getD 0).toNat)
    | none => none
  | _, _ => none
/-- Parts laid into cells: places are where and how wide. -/
def qfill (place : Nat → Option (Nat × Nat)) (cells : Array Value) : List (Nat × Value) → Option (Array Value)
  | [] => some cells
  | (i, v) :: rest => match place i with
    | none => none
    | some (off, size) =>
      if v.cells.size ≠ size ∨ off + v.cells.size > cells.size then none
      else qfill place ((cells.toList.take off ++ v.cells.toList ++ cells.toList.drop (off + v.cells.size)).toArray) rest
def qplaces : List Field → Option (List (Nat × Nat))
  | [] => some []
  | f :: fs => match szOf P f.type, qplaces fs with
    | some n, some l => some ((f.offset, n) :: l)
    | _, _ => none
def qbuild (t : TypeId) (parts : List (Nat × Value)) : Option Value :=
  match zOf P t, P.underlying t with
  | some z, some (.struct fs) => match qplaces P fs.toList with
    | some pl => if flat 6 z then (qfill (pl[·]?) z.cells parts).map .agg else none
    | none => none
  | some z, some (.array _ el) => match szOf P el with
    | some sz => if flat 6 z then (qfill (fun i => some (i * sz, sz)) z.cells parts).map .agg else none
    | none => none
  | _, _ => none
def qassert (x : Value) (a : TypeId) (ok : Bool) : Option Value :=
  match P.underlying a with
  | some (.interface _) | none => none
  | some _ => match x with
    | .nilIface => if ok then (zOf P a).bind fun z => if flat 6 z then some (.tuple #[z, .bool false]) else none else none
    | .iface t v => if t = a then some (if ok then .tuple #[v, .bool true] else v) else if ok then (zOf P a).bind fun z => if flat 6 z then some (.tuple #[z, .bool false]) else none else none
    | _ => none
def qlen (t : TypeId) (x : Value) : Option Value :=
  match P.underlying t, x with
  | some .string, .string s => some (.int .i64 s.size)
  | some (.array n _), _ => some (.int .i64 n)
  | some (.slice _), .slice _ n _ => some (.int .i64 n)
  | some (.map _ _), .map none => some (.int .i64 0)
  | some (.pointer a), _ => match P.underlying a with
    | some (.array n _) => some (.int .i64 n)
    | _ => none
  | _, _ => none
/-- An operation that looks at no memory: what must be, and its value. -/
def qp (e : Env) : Op → Option (Prop × Value)
  | .move x | .assign x => (ev e x).map fun v => (True, v)
  | .pick c a b => match ev e c, ev e a, ev e b with
    | some (.bool t), some x, some y => some (True, if t then x else y)
    | _, _, _ => none
  | .binOp op t x y _ => match ev e x, ev e y with
    | some u, some v => qbin P op t ((x matches .const _) || (y matches .const _)) u v
    | _, _ => none
  | .unOp op _ x => ((ev e x).bind (qun op)).map fun v => (True, v)
  | .convert s d x => ((ev e x).bind (qconv P s d)).map fun v => (True, v)
  | .makeInterface t x => match P.underlying t, ev e x with
    | some (.interface _), _ => none
    | some _, some v => some (True, .iface t v)
    | _, _ => none
  | .makeFunc f a c => match evs e a.toList, evs e c.toList with
    | some a, some c => if isY f then none else some (True, .func f a.toArray c.toArray)
    | _, _ => none
  | .fieldAddr t x i => match P.underlying t, ev e x with
    | some (.struct fs), some (.pointer (some ⟨b, o, none⟩)) => match fs[i]? with
      | some f => match szOf P f.type with
        | some (_ + 1) => some (True, .pointer (some ⟨b, o + f.offset, none⟩))
        | _ => none
      | none => none
    | _, _ => none
  | .field t x i => match P.underlying t, ev e x with
    | some (.struct fs), some (.agg cs) => match fs[i]? with
      | some f => (qpart P f.type cs f.offset).map fun v => (True, v)
      | none => none
    | _, _ => none
  | .indexAddr t x i => match P.underlying t, ev e x, ev e i with
    | some (.array n el), some (.pointer (some ⟨b, o, none⟩)), some (.int _ i) => match szOf P el with
      | some sz => some (0 ≤ i ∧ i < n, .pointer (some ⟨b, o + i.toNat * sz, none⟩))
      | none => none
    | some (.slice el), some (.slice (some ⟨b, o, _⟩) n _), some (.int _ i) => match szOf P el with
      | some sz => some (0 ≤ i ∧ i < n, .pointer (some ⟨b, o + i.toNat * sz, none⟩))
      | none => none
    | _, _, _ => none
  | .index t x i => match P.underlying t, ev e x, ev e i with
    | some (.array n el), some (.agg cs), some (.int _ i) => match szOf P el with
      | some sz => match qpart P el cs (i.toNat * sz) with
        | some v => some (0 ≤ i ∧ i < n, v)
        | none => none
      | none => none
    | some .string, some (.string s), some (.int _ i) => some (0 ≤ i ∧ i < s.size, .int .u8 (s.data.toList.getD i.toNat 0).toNat)
    | _, _, _ => none
  | .slice t x lo hi mx => match ev e x, evo e lo, evo e hi, evo e mx with
    | some v, some lo, some hi, some mx => qslice P t v lo hi mx
    | _, _, _, _ => none
  | .typeAssert x _ a ok => ((ev e x).bind fun v => qassert P v a ok).map fun v => (True, v)
  | .extract x i => match ev e x with
    | some (.tuple vs) => (vs[i]?).map fun v => (True, v)
    | _ => none
  | .nilCheck x => match ev e x with
    | some (.pointer (some a)) => some (True, .pointer (some a))
    | _ => none
  | .build t ps => match evp e ps.toList with
    | some l => (qbuild P t l).map fun v => (True, v)
    | none => none
  | .sliceToArrayPointer t x => match P.underlying t, ev e x with
    | some (.array n _), some (.slice (some ⟨b, o, _⟩) m _) => some (n ≤ m ∧ 0 < m, .pointer (some ⟨b, o, none⟩))
    | _, _ => none
  | .call { callee := .builtin b, args, argTypes } => match b, evs e args.toList with
    | .len, some [x] => match argTypes[0]? with
      | some t => (qlen P t x).map fun v => (True, v)
      | none => none
    | .min, some [.int k x, .int k' y] => if k = k' then some (True, .int k (if y < x then y else x)) else none
    | .max, some [.int k x, .int k' y] => if k = k' then some (True, .int k (if y > x then y else x)) else none
    | _, _ => none
  | _ => none
end
end Go.Proofs.YtjopikjefpenkaaDoor
/- The plain machine's operations that look at no memory do as the model's: parts, and what is equal. -/
namespace Go.Proofs.YtjopikjefpenkaaDoor
open Go.RowKit
section
variable {P : Program} {τ : Tau}
theorem run_und {t : TypeId} {d : TypeDesc} (h : P.underlying t = some d) (w : World) : (underlying t).run P w = .ok d w := by simp [underlying, h]
theorem run_szOf {t : TypeId} {n : Nat} (h : szOf P t = some n) (w : World) : (sizeOf t).run P w = .ok n w := by
  obtain ⟨i, hi, rfl⟩ := Option.map_eq_some_iff.1 h
  simp [sizeOf, typeInfo, hi]
theorem run_zOf {t : TypeId} {z : Value} (h : zOf P t = some z) (w : World) : (zeroValue t).run P w = .ok z w := by
  obtain ⟨i, hi, hz⟩ := Option.bind_eq_some_iff.1 h
  simp [zeroValue, typeInfo, hi, hz]
theorem run_isAg {t : TypeId} {b : Bool} (h : isAg P t = some b) (w : World) : (isAgg t).run P w = .ok b w := by
  obtain ⟨d, hd, hb⟩ := Option.map_eq_some_iff.1 h
  subst hb
  simp only [isAgg, Sem.run_bind, run_und hd, Result.andThen_ok]
  cases d <;> rfl
/-- Pointwise. -/
def VRs (τ : Tau) (a a' : Array Value) : Prop := a.size = a'.size ∧ ∀ (i : Nat) v v', a[i]? = some v → a'[i]? = some v' → VR τ v v'
theorem VRs.get {a a' : Array Value} (h : VRs τ a a') {i : Nat} {v : Value} (e : a[i]? = some v) : ∃ v', a'[i]? = some v' ∧ VR τ v v' := by
  have hi := (Array.getElem?_eq_some_iff.1 e).1
  have hi' : i < a'.size := h.1 ▸ hi
  exact ⟨a'[i], Array.getElem?_eq_getElem hi', h.2 i _ _ e (Array.getElem?_eq_getElem hi')⟩
theorem VRs.extract {a a' : Array Value} (h : VRs τ a a') (i j : Nat) : VRs τ (a.extract i j) (a'.extract i j) := by
  refine ⟨by simp [h.1], fun k v v' e e' => ?_⟩
  rw [Array.getElem?_extract] at e e'
  split at e
  · rename_i hk
    rw [h.1] at hk
    rw [if_pos hk] at e'
    exact h.2 _ _ _ e e'
  · cases e
theorem VR.agg' {a : Array Value} {y : Value} (h : VR τ (.agg a) y) : ∃ a', y = .agg a' ∧ VRs τ a a' := by
  cases h with | agg e k => exact ⟨_, rfl, e, k⟩
theorem VR.tuple' {a : Array Value} {y : Value} (h : VR τ (.tuple a) y) : ∃ a', y = .tuple a' ∧ VRs τ a a' := by
  cases h with | tuple e k => exact ⟨_, rfl, e, k⟩
theorem VRs.agg {a a' : Array Value} (h : VRs τ a a') : VR τ (.agg a) (.agg a') := .agg h.1 h.2
theorem VRs.tuple {a a' : Array Value} (h : VRs τ a a') : VR τ (.tuple a) (.tuple a') := .tuple h.1 h.2
theorem qpart_sound {t : TypeId} {cs cs' : Array Value} {off : Nat} {v : Value} (h : qpart P t cs off = some v) (hc : VRs τ cs cs') : ∃ v', VR τ v v' ∧ ∀ w, (part t cs' off).run P w = .ok v' w := by
  unfold qpart at h
  split at h
  · rename_i ha
    split at h
    · rename_i n hn
      cases h
      exact ⟨_, (hc.extract off (off + n)).agg, fun w => by simp [part, run_isAg ha, run_szOf hn]⟩
    · cases h
  · rename_i ha
    obtain ⟨v', h1, h2⟩ := hc.get h
    exact ⟨v', h2, fun w => by simp [part, run_isAg ha, h1]⟩
  · cases h

theorem VR.int' {k n} {y : Value} (h : VR τ (.int k n) y) : y = .int k n := by cases h; rfl
theorem VR.bool' {n} {y : Value} (h : VR τ (.bool n) y) : y = .bool n := by cases h; rfl
theorem VR.str' {n} {y : Value} (h : VR τ (.string n) y) : y = .string n := by cases h; rfl
def EqOk (P : Program) (τ : Tau) (D : Nat) (eq : TypeId → Value → Value → Option Bool) : Prop :=
  ∀ t x y x' y' r, eq t x y = some r → VR τ x x' → VR τ y y' → ∀ w, (Op.equalIn D t x' y').run P w = .ok r w
theorem run_forA {D e sz : Nat} {eq : TypeId → Value → Value → Option Bool} (he : EqOk P τ D eq) {xs ys xs' ys' : Array Value} (hxs : VRs τ xs xs') (hys : VRs τ ys ys') : ∀ (l : List Nat) (r : Bool), qeqA P eq xs ys e sz l = some r → ∀ w,
    ((forIn l (none, PUnit.unit) fun i (_ : Option Bool × PUnit) => do
      let a ← part e xs' (i * sz)
      let b ← part e ys' (i * sz)
      let r ← Op.equalIn D e a b
      if (!r) = true then Pure.pure (ForInStep.done (some false, PUnit.unit)) else Pure.pure (ForInStep.yield (none, PUnit.unit))) : Sem (Option Bool × PUnit)).run P w = .ok (if r then (none, ()) else (some false, ())) w := by
  intro l
  induction l with
  | nil => intro r h w; cases h; simp
  | cons i is ih =>
    intro r h w
    unfold qeqA at h
    split at h
    · rename_i a b ha hb
      split at h
      · rename_i r1 r2 e1 e2
        cases h
        obtain ⟨a', va, ra⟩ := qpart_sound ha hxs
        obtain ⟨b', vb, rb⟩ := qpart_sound hb hys
        have h1 := he e a b a' b' r1 e1 va vb
        simp only [List.forIn_cons, Sem.run_bind, ra, rb, h1, Result.andThen_ok, Sem.run_ite]
        rcases Bool.eq_false_or_eq_true r1 with hr | hr
        · simp only [hr, Bool.not_true, Bool.false_eq_true, if_false, Sem.run_pure, Result.andThen_ok, Bool.true_and]
          exact ih r2 e2 w
        · simp [hr]
      · cases h
    · cases h
theorem run_equalIn_array {d : Nat} {t e : TypeId} {n sz : Nat} {eq : TypeId → Value → Value → Option Bool} (he : EqOk P τ d eq) {xs ys xs' ys' : Array Value} (hxs : VRs τ xs xs') (hys : VRs τ ys ys') (ht : P.underlying t = some (.array n e)) (hs : szOf P e = some sz) {r : Bool} (h : qeqA P eq xs ys e sz (List.range n) = some r) (w : World) :
    (Op.equalIn (d + 1) t (.agg xs') (.agg ys')).run P w = .ok r w := by
  simp only [Op.equalIn, Sem.run_bind, run_und ht, Result.andThen_ok, run_szOf hs]
  rw [Std.Legacy.Range.forIn_eq_forIn_range']
  have hr : List.range' (0 : Nat) (n - 0 + 1 - 1) 1 = List.range n := by simp [List.range_eq_range']
  simp only [Std.Legacy.Range.size, Nat.div_one] at *
  rw [hr]
  refine (congrArg (fun r => Result.andThen r _) (run_forA he hxs hys _ _ h w)).trans ?_
  cases r <;> rfl
theorem run_eqF {d : Nat} {eq : TypeId → Value → Value → Option Bool} (he : EqOk P τ d eq) {xs ys xs' ys' : Array Value} (hxs : VRs τ xs xs') (hys : VRs τ ys ys') : ∀ (l : List Field) (r : Bool), qeqF P eq xs ys l = some r → ∀ w, (Op.eqFields d xs' ys' l).run P w = .ok r w := by
  intro l
  induction l with
  | nil => intro r h w; cases h; simp [Op.eqFields]
  | cons f fs ih =>
    intro r h w
    unfold qeqF at h
    unfold Op.eqFields
    by_cases hn : f.name ≠ "_"
    · rw [if_pos hn] at h
      rw [if_pos hn]
      split at h
      · rename_i a b ha hb
        split at h
        · rename_i r1 r2 e1 e2
          cases h
          obtain ⟨a', va, ra⟩ := qpart_sound ha hxs
          obtain ⟨b', vb, rb⟩ := qpart_sound hb hys
          have h1 := he f.type a b a' b' r1 e1 va vb
          simp only [Sem.run_bind, ra, rb, h1, Result.andThen_ok, Sem.run_ite]
          rcases Bool.eq_false_or_eq_true r1 with hr | hr
          · simp only [hr, Bool.not_true, Bool.false_eq_true, if_false, Bool.true_and]
            exact ih r2 e2 w
          · simp [hr]
        · cases h
      · cases h
    · rw [if_neg hn] at h
      rw [if_neg hn]
      exact ih r h w
section
variable {t : TypeId}
theorem eq_pnn {e} (h : P.underlying t = some (.pointer e)) (D) (w) : (Op.equalIn (D + 1) t (.pointer none) (.pointer none)).run P w = .ok true w := by unfold Op.equalIn; simp only [Sem.run_bind, run_und h, Result.andThen_ok]; rfl
theorem eq_psn {e} (h : P.underlying t = some (.pointer e)) (D a) (w) : (Op.equalIn (D + 1) t (.pointer (some a)) (.pointer none)).run P w = .ok false w := by unfold Op.equalIn; simp only [Sem.run_bind, run_und h, Result.andThen_ok]; rfl
theorem eq_pns {e} (h : P.underlying t = some (.pointer e)) (D a) (w) : (Op.equalIn (D + 1) t (.pointer none) (.pointer (some a))).run P w = .ok false w := by unfold Op.equalIn; simp only [Sem.run_bind, run_und h, Result.andThen_ok]; rfl
theorem eq_snn {e} (h : P.underlying t = some (.slice e)) (D a b c d) (w) : (Op.equalIn (D + 1) t (.slice none a b) (.slice none c d)).run P w = .ok true w := by unfold Op.equalIn; simp only [Sem.run_bind, run_und h, Result.andThen_ok]; rfl
theorem eq_sns {e} (h : P.underlying t = some (.slice e)) (D a b c d x) (w) : (Op.equalIn (D + 1) t (.slice none a b) (.slice (some x) c d)).run P w = .ok false w := by unfold Op.equalIn; simp only [Sem.run_bind, run_und h, Result.andThen_ok]; rfl
theorem eq_ssn {e} (h : P.underlying t = some (.slice e)) (D a b c d x) (w) : (Op.equalIn (D + 1) t (.slice (some x) a b) (.slice none c d)).run P w = .ok false w := by unfold Op.equalIn; simp only [Sem.run_bind, run_und h, Result.andThen_ok]; rfl
theorem eq_mnn {k e} (h : P.underlying t = some (.map k e)) (D) (w) : (Op.equalIn (D + 1) t (.map none) (.map none)).run P w = .ok true w := by unfold Op.equalIn; simp only [Sem.run_bind, run_und h, Result.andThen_ok]; rfl
theorem eq_msn {k e} (h : P.underlying t = some (.map k e)) (D a) (w) : (Op.equalIn (D + 1) t (.map (some a)) (.map none)).run P w = .ok false w := by unfold Op.equalIn; simp only [Sem.run_bind, run_und h, Result.andThen_ok]; rfl
theorem eq_ins {m} (h : P.underlying t = some (.interface m)) (D u x) (w) : (Op.equalIn (D + 1) t .nilIface (.iface u x)).run P w = .ok false w := by unfold Op.equalIn; simp only [Sem.run_bind, run_und h, Result.andThen_ok]; rfl
theorem eq_isn {m} (h : P.underlying t = some (.interface m)) (D u x) (w) : (Op.equalIn (D + 1) t (.iface u x) .nilIface).run P w = .ok false w := by unfold Op.equalIn; simp only [Sem.run_bind, run_und h, Result.andThen_ok]; rfl
end
theorem qeq_sound (d : Nat) : ∀ (D : Nat), d ≤ D → EqOk P τ D (qeq P d) := by
  induction d with
  | zero => intro D _ t x y x' y' r h; simp [qeq] at h
  | succ d ih =>
    intro D hd t x y x' y' r h hx hy w
    obtain ⟨D, rfl⟩ : ∃ E, D = E + 1 := ⟨D - 1, by omega⟩
    have ih := ih D (by omega)
    unfold qeq at h
    split at h
    · rename_i ht; cases hx; cases hy; cases h; exact run_equalIn_bool' w D _ _ _ ht
    · rename_i ht
      split at h
      · rename_i hk; subst hk; cases hx; cases hy; cases h; exact run_equalIn_int w D _ _ _ _ _ ht
      · cases h
    · rename_i ht; cases hx; cases hy; cases h; exact run_equalIn_string w D _ _ _ ht
    · rename_i fs xs ys ht
      split at h
      · cases h
      · rename_i hst
        obtain ⟨xs', rfl, hxs⟩ := hx.agg'
        obtain ⟨ys', rfl, hys⟩ := hy.agg'
        have hfo : P.fieldsOf t = fs := by simp [Program.fieldsOf, ht]
        rw [run_equalIn_struct w D t xs' ys' (by rw [hfo]; exact ht) (by simpa using hst), hfo]
        exact run_eqF ih hxs hys _ _ h w
    · rename_i n e xs ys ht
      split at h
      · rename_i sz hs
        obtain ⟨xs', rfl, hxs⟩ := hx.agg'
        obtain ⟨ys', rfl, hys⟩ := hy.agg'
        exact run_equalIn_array ih hxs hys ht hs h w
      · cases h
    all_goals first
      | (rename_i ht; cases h; cases hx <;> cases hy <;> first | exact eq_pnn ht D w | exact eq_psn ht D _ w | exact eq_pns ht D _ w | exact eq_snn ht D _ _ _ _ w | exact eq_sns ht D _ _ _ _ _ w | exact eq_ssn ht D _ _ _ _ _ w | exact eq_mnn ht D w | exact eq_msn ht D _ w | exact eq_ins ht D _ _ w | exact eq_isn ht D _ _ w)
      | cases h
end
end Go.Proofs.YtjopikjefpenkaaDoor
/- The plain machine's operations that look at no memory do as the model's. -/
namespace Go.Proofs.YtjopikjefpenkaaDoor
open Go.RowKit
section
variable {P : Program} {τ : Tau}
/-- The operands' values stand for the model's. -/
def Ag (τ : Tau) (e : Env) (a : Act) : Prop := ∀ x v, ev e x = some v → VR τ v (a.eval x)
theorem add_add' (a : Addr) (i j : Nat) : (a.add i).add j = a.add (i + j) := addr_add_add a i j
/-- 'This operation comes to this value, and no world turns.' -/
def Does (P : Program) (a : Act) (o : Oper) (τ : Tau) (v : Value) : Prop := ∃ v', VR τ v v' ∧ ∀ w, (execOp a.eval o).run P w = .ok (.value v') w
theorem Does.mk {a : Act} {o : Oper} {s : Sem Value} {v : Value} (hs : ∀ w, (execOp a.eval o).run P w = (s.run P w).andThen fun v w => .ok (.value v) w) (v' : Value) (h : VR τ v v') (hr : ∀ w, s.run P w = .ok v' w) : Does P a o τ v :=
  ⟨v', h, fun w => by rw [hs, hr]; rfl⟩
theorem run_guard_other {op : BinOp} {t : TypeId} {x y : Operand} {u v : Value} (h1 : ∀ a b, ¬ (u = .agg a ∧ v = .agg b)) (h2 : ¬ (u = .nilIface ∧ v = .nilIface)) (w : World) : (eqGuard op t x y u v).run P w = .ok () w := by
  unfold eqGuard
  split <;> first
    | (simp only [Bool.not_true, Bool.false_eq_true, if_false]
       split
       · exact absurd ⟨rfl, rfl⟩ h2
       · exact absurd ⟨rfl, rfl⟩ (h1 _ _)
       · rfl)
    | simp
theorem run_guard_nil {op : BinOp} {t : TypeId} {x y : Operand} (h : ((x matches .const _) || (y matches .const _)) = true) (w : World) : (eqGuard op t x y .nilIface .nilIface).run P w = .ok () w := by
  cases x <;> cases y <;> first | (simp at h; done) | (unfold eqGuard; split <;> rfl)
theorem run_guard_agg {op : BinOp} {t : TypeId} {x y : Operand} {a b : Array Value} (h : P.eqGuardType P.depth t = false) (w : World) : (eqGuard op t x y (.agg a) (.agg b)).run P w = .ok () w := run_eqGuard_agg w op t x y a b h
theorem guard_ints {op : BinOp} {t : TypeId} {x y : Operand} {k k' a b} {s : Sem Value} {w : World} {r : Result Value} (h : s.run P w = r) : (do eqGuard op t x y (.int k a) (.int k' b); s : Sem Value).run P w = r := by
  simp [run_guard_other (P := P) (op := op) (t := t) (x := x) (y := y) (u := .int k a) (v := .int k' b) (by simp) (by simp), h]
theorem guard_strs {op : BinOp} {t : TypeId} {x y : Operand} {a b} {s : Sem Value} {w : World} {r : Result Value} (h : s.run P w = r) : (do eqGuard op t x y (.string a) (.string b); s : Sem Value).run P w = r := by
  simp [run_guard_other (P := P) (op := op) (t := t) (x := x) (y := y) (u := .string a) (v := .string b) (by simp) (by simp), h]
theorem bin_eql_gen {t : TypeId} {u v : Value} (h : ∀ k a k' b, ¬ (u = .int k a ∧ v = .int k' b)) (h2 : ∀ a b, ¬ (u = .string a ∧ v = .string b)) (h3 : ∀ k a k' b, ¬ (u = .float k a ∧ v = .float k' b)) (h4 : ∀ k a b k' c d, ¬ (u = .complex k a b ∧ v = .complex k' c d)) :
    binOp .eql t u v = (do pure (.bool (← Op.equal t u v))) := by
  unfold binOp
  split <;> first | rfl | (exact absurd ⟨rfl, rfl⟩ (h _ _ _ _)) | (exact absurd ⟨rfl, rfl⟩ (h2 _ _)) | (exact absurd ⟨rfl, rfl⟩ (h3 _ _ _ _)) | (exact absurd ⟨rfl, rfl⟩ (h4 _ _ _ _ _ _)) | simp_all
theorem bin_neq_gen {t : TypeId} {u v : Value} (h : ∀ k a k' b, ¬ (u = .int k a ∧ v = .int k' b)) (h2 : ∀ a b, ¬ (u = .string a ∧ v = .string b)) (h3 : ∀ k a k' b, ¬ (u = .float k a ∧ v = .float k' b)) (h4 : ∀ k a b k' c d, ¬ (u = .complex k a b ∧ v = .complex k' c d)) :
    binOp .neq t u v = (do pure (.bool (!(← Op.equal t u v)))) := by
  unfold binOp
  split <;> first | rfl | (exact absurd ⟨rfl, rfl⟩ (h _ _ _ _)) | (exact absurd ⟨rfl, rfl⟩ (h2 _ _)) | (exact absurd ⟨rfl, rfl⟩ (h3 _ _ _ _)) | (exact absurd ⟨rfl, rfl⟩ (h4 _ _ _ _ _ _)) | simp_all
/-- No two numbers, strings, or floats. -/
def oddPair : Value → Value → Bool
  | .int _ _, .int _ _ | .string _, .string _ | .float _ _, .float _ _ | .complex _ _ _, .complex _ _ _ | .agg _, .agg _ | .nilIface, .nilIface => false
  | _, _ => true
theorem oddPair.keep {u v u' v' : Value} (h : oddPair u v = true) (hu : VR τ u u') (hv : VR τ v v') : oddPair u' v' = true := by
  cases hu <;> cases hv <;> first | rfl | simp [oddPair] at h
theorem oddPair.eql {t : TypeId} {u v : Value} (h : oddPair u v = true) : binOp .eql t u v = (do pure (.bool (← Op.equal t u v))) := by
  refine bin_eql_gen ?_ ?_ ?_ ?_ <;> intros <;> rintro ⟨rfl, rfl⟩ <;> simp [oddPair] at h
theorem oddPair.neq {t : TypeId} {u v : Value} (h : oddPair u v = true) : binOp .neq t u v = (do pure (.bool (!(← Op.equal t u v)))) := by
  refine bin_neq_gen ?_ ?_ ?_ ?_ <;> intros <;> rintro ⟨rfl, rfl⟩ <;> simp [oddPair] at h
theorem oddPair.guard {op : BinOp} {t : TypeId} {x y : Operand} {u v : Value} (h : oddPair u v = true) (w : World) : (eqGuard op t x y u v).run P w = .ok () w := by
  refine run_guard_other ?_ ?_ w
  · intro a b; rintro ⟨rfl, rfl⟩; simp [oddPair] at h
  · rintro ⟨rfl, rfl⟩; simp [oddPair] at h
theorem oddPair.of_qeq {t : TypeId} {u v : Value} {b : Bool} (n1 : ∀ k a k' b, u = .int k a → v = .int k' b → False) (n2 : ∀ a b, u = .string a → v = .string b → False) (n3 : ∀ a b, u = .agg a → v = .agg b → False) (n4 : u = .nilIface → v = .nilIface → False) (h : qeq P 1 t u v = some b) : oddPair u v = true := by
  unfold oddPair
  split
  · exact (n1 _ _ _ _ rfl rfl).elim
  · exact (n2 _ _ rfl rfl).elim
  · unfold qeq at h; split at h <;> simp_all
  · unfold qeq at h; split at h <;> simp_all
  · exact (n3 _ _ rfl rfl).elim
  · exact (n4 rfl rfl).elim
  · rfl
theorem eq_nilnil {t : TypeId} {m} (h : P.underlying t = some (.interface m)) (D) (w) : (Op.equalIn (D + 1) t .nilIface .nilIface).run P w = .ok true w := by unfold Op.equalIn; simp only [Sem.run_bind, run_und h, Result.andThen_ok]; rfl
theorem bin_eql_nil (t : TypeId) : binOp .eql t .nilIface .nilIface = (do pure (.bool (← Op.equal t .nilIface .nilIface))) := rfl
theorem bin_neq_nil (t : TypeId) : binOp .neq t .nilIface .nilIface = (do pure (.bool (!(← Op.equal t .nilIface .nilIface)))) := rfl
section
variable {t : TypeId} {x y : Operand} {u v u' v' : Value} {c : Prop} {r : Value} {nil : Bool}
theorem qeql_sound (hnil : nil = true → ((x matches .const _) || (y matches .const _)) = true) (h : qbin P .eql t nil u v = some (c, r)) (hu : VR τ u u') (hv : VR τ v v') :
    ∃ r', VR τ r r' ∧ ∀ w, (do eqGuard .eql t x y u' v'; binOp .eql t u' v' : Sem Value).run P w = .ok r' w := by
  simp only [qbin] at h
  split at h
  · split at h
    · rename_i hk; subst hk; cases h; cases hu; cases hv
      exact ⟨_, .bool _, fun w => guard_ints (by simp [binOp, Op.intCmp])⟩
    · cases h
  · cases h; cases hu; cases hv
    exact ⟨_, .bool _, fun w => guard_strs (by simp [binOp, Op.stringOp])⟩
  · split at h
    · cases h
    · rename_i hg
      obtain ⟨b, hb, h⟩ := Option.map_eq_some_iff.1 h
      cases h
      obtain ⟨a', rfl, ha⟩ := hu.agg'
      obtain ⟨b', rfl, hb'⟩ := hv.agg'
      have := qeq_sound 64 10000 (by omega) t _ _ _ _ b hb ha.agg hb'.agg
      exact ⟨_, .bool _, fun w => by simp only [Sem.run_bind, run_guard_agg (by simpa using hg), Result.andThen_ok, run_eql_struct, this]⟩
  · split at h
    · rename_i m hm
      split at h
      · rename_i hn; cases h; cases hu; cases hv
        exact ⟨_, .bool _, fun w => by simp only [Sem.run_bind, run_guard_nil (hnil hn), Result.andThen_ok, bin_eql_nil, Op.equal, Op.maxDepth, eq_nilnil hm, Sem.run_pure]⟩
      · cases h
    · cases h
  · rename_i n1 n2 n3 n4
    obtain ⟨b, hb, h⟩ := Option.map_eq_some_iff.1 h
    cases h
    have ho := oddPair.keep (oddPair.of_qeq n1 n2 n3 n4 hb) hu hv
    have := qeq_sound (τ := τ) 1 10000 (by omega) t _ _ _ _ b hb hu hv
    exact ⟨_, .bool _, fun w => by simp only [Sem.run_bind, oddPair.guard ho, Result.andThen_ok, oddPair.eql ho, Op.equal, Op.maxDepth, this, Sem.run_pure]⟩
theorem qneq_sound (hnil : nil = true → ((x matches .const _) || (y matches .const _)) = true) (h : qbin P .neq t nil u v = some (c, r)) (hu : VR τ u u') (hv : VR τ v v') :
    ∃ r', VR τ r r' ∧ ∀ w, (do eqGuard .neq t x y u' v'; binOp .neq t u' v' : Sem Value).run P w = .ok r' w := by
  simp only [qbin] at h
  split at h
  · split at h
    · rename_i hk; subst hk; cases h; cases hu; cases hv
      exact ⟨_, .bool _, fun w => guard_ints (by simp [binOp, Op.intCmp])⟩
    · cases h
  · cases h; cases hu; cases hv
    exact ⟨_, .bool _, fun w => guard_strs (by simp [binOp, Op.stringOp])⟩
  · split at h
    · cases h
    · rename_i hg
      obtain ⟨b, hb, h⟩ := Option.map_eq_some_iff.1 h
      cases h
      obtain ⟨a', rfl, ha⟩ := hu.agg'
      obtain ⟨b', rfl, hb'⟩ := hv.agg'
      have := qeq_sound 64 10000 (by omega) t _ _ _ _ b hb ha.agg hb'.agg
      exact ⟨_, .bool _, fun w => by simp only [Sem.run_bind, run_guard_agg (by simpa using hg), Result.andThen_ok, run_neq_struct, this]⟩
  · split at h
    · rename_i m hm
      split at h
      · rename_i hn; cases h; cases hu; cases hv
        exact ⟨_, .bool _, fun w => by simp only [Sem.run_bind, run_guard_nil (hnil hn), Result.andThen_ok, bin_neq_nil, Op.equal, Op.maxDepth, eq_nilnil hm, Sem.run_pure, Bool.not_true]⟩
      · cases h
    · cases h
  · rename_i n1 n2 n3 n4
    obtain ⟨b, hb, h⟩ := Option.map_eq_some_iff.1 h
    cases h
    have ho := oddPair.keep (oddPair.of_qeq n1 n2 n3 n4 hb) hu hv
    have := qeq_sound (τ := τ) 1 10000 (by omega) t _ _ _ _ b hb hu hv
    exact ⟨_, .bool _, fun w => by simp only [Sem.run_bind, oddPair.guard ho, Result.andThen_ok, oddPair.neq ho, Op.equal, Op.maxDepth, this, Sem.run_pure]⟩
theorem bytesLess_eq {a b : ByteArray} : (Op.bytesLess a.toList b.toList) = Op.bytesLess a.toList b.toList := rfl
theorem qbin_sound {op : BinOp} (hnil : nil = true → ((x matches .const _) || (y matches .const _)) = true) (h : qbin P op t nil u v = some (c, r)) (hc : c) (hu : VR τ u u') (hv : VR τ v v') :
    ∃ r', VR τ r r' ∧ ∀ w, (do eqGuard op t x y u' v'; binOp op t u' v' : Sem Value).run P w = .ok r' w := by
  cases op
  case eql => exact qeql_sound hnil h hu hv
  case neq => exact qneq_sound hnil h hu hv
  all_goals
    simp only [qbin] at h
    split at h <;> first
      | (cases h; done)
      | (split at h
         · rename_i hk
           subst hk
           cases h; cases hu; cases hv
           refine ⟨_, VR.int _ _, fun w => guard_ints ?_⟩
           simp_all [binOp, Op.intArith, Op.intDiv, Op.intBits, bitI]
           done
         · cases h)
      | (split at h
         · rename_i hk
           subst hk
           cases h; cases hu; cases hv
           refine ⟨_, VR.bool _, fun w => guard_ints ?_⟩
           simp [binOp, Op.intCmp]
           done
         · cases h)
      | (cases h; cases hu; cases hv
         refine ⟨_, VR.int _ _, fun w => guard_ints ?_⟩
         simp [binOp, Op.shift, Int.not_lt.2 hc]
         done)
      | (cases h; cases hu; cases hv
         refine ⟨_, VR.bool _, fun w => guard_strs ?_⟩
         simp [binOp, Op.stringOp]
         done)
      | (cases h; cases hu; cases hv
         refine ⟨_, VR.str _, fun w => guard_strs ?_⟩
         simp only [binOp, Op.stringOp]
         rw [if_neg (by simp [IntKind.max, IntKind.signed, IntKind.bits]; omega)]
         rfl)
end
end
end Go.Proofs.YtjopikjefpenkaaDoor
/- The plain machine's operations that look at no memory do as the model's: slices, builds, and all. -/
namespace Go.Proofs.YtjopikjefpenkaaDoor
open Go.RowKit
section
variable {P : Program} {τ : Tau}
theorem qun_sound {op : UnOp} {u u' r : Value} (h : qun op u = some r) (hu : VR τ u u') : ∃ r', VR τ r r' ∧ ∀ w, (Op.unary op u').run P w = .ok r' w := by
  unfold qun at h
  split at h
  · cases h; cases hu; exact ⟨_, .int _ _, fun w => by simp [Op.unary, Op.intArith]⟩
  · cases h; cases hu; exact ⟨_, .bool _, fun w => by simp [Op.unary]⟩
  · cases h; cases hu; exact ⟨_, .int _ _, fun w => by simp [Op.unary, Op.intBits, bitI]⟩
  · cases h
theorem qconv_sound {s d : TypeId} {u u' r : Value} (h : qconv P s d u = some r) (hu : VR τ u u') : ∃ r', VR τ r r' ∧ ∀ w, (convert s d u').run P w = .ok r' w := by
  unfold qconv at h
  split at h
  · rename_i x k _ _ hs hd; cases h; cases hu
    refine ⟨_, .int _ _, fun w => ?_⟩
    simp only [convert, Sem.run_bind, run_und hs, run_und hd, Result.andThen_ok]
    rfl
  · rename_i x _ _ hs hd; cases h; cases hu
    refine ⟨_, .str _, fun w => ?_⟩
    simp only [convert, Sem.run_bind, run_und hs, run_und hd, Result.andThen_ok]
    cases x <;> rfl
  · rename_i x _ hs hd; cases h; cases hu
    refine ⟨_, .str _, fun w => ?_⟩
    simp only [convert, Sem.run_bind, run_und hs, run_und hd, Result.andThen_ok]
    cases x <;> rfl
  · cases h
/-- An index that need not be there. -/
def OI : Option Int → Option Value → Prop
  | none, none => True
  | some n, some (.int _ m) => n = m
  | _, _ => False
theorem OI.parts {l : Option Int} {v : Option Value} (h : OI l v) : (l = none ∧ v = none) ∨ ∃ n k, l = some n ∧ v = some (.int k n) := by
  cases l with
  | none => cases v with
    | none => exact .inl ⟨rfl, rfl⟩
    | some v => exact h.elim
  | some n => cases v with
    | none => exact h.elim
    | some v =>
      cases v <;> first | exact h.elim | skip
      simp only [OI] at h
      subst h
      exact .inr ⟨_, _, rfl, rfl⟩
theorem evo_OI {e : Env} {a : Act} (hx : Ag τ e a) {o : Option Operand} {l : Option Int} (h : evo e o = some l) : OI l (o.map a.eval) := by
  cases o with
  | none => cases h; trivial
  | some x =>
    simp only [evo] at h
    split at h
    · rename_i k n hn
      cases h
      have := (hx x _ hn).int'
      simp only [Option.map_some, this]
      rfl
    · cases h
theorem run_bound {k : IntKind} {i : Int} {y : Nat} {code : BoundsCode} (h0 : 0 ≤ i) (h1 : i ≤ y) (w : World) : (Instr.sliceBound (.int k i) y code).run P w = .ok i.toNat w := by
  simp [Instr.sliceBound, asIntOf, h0, h1]
theorem run_bounds (isSlice : Bool) (len cap : Nat) {lo hi mx : Option Int} {lv hv mv : Option Value} (hl : OI lo lv) (hh : OI hi hv) (hm : OI mx mv) (h0 : 0 ≤ lo.getD 0) (h1 : lo.getD 0 ≤ hi.getD len) (h2 : hi.getD len ≤ mx.getD cap) (h3 : mx.getD cap ≤ cap) (h4 : mx.isSome → hi.isSome) (w : World) :
    (Instr.sliceBounds isSlice len cap lv hv mv).run P w = .ok ((lo.getD 0).toNat, (hi.getD len).toNat, (mx.getD cap).toNat) w := by
  unfold Instr.sliceBounds
  rcases hm.parts with ⟨rfl, rfl⟩ | ⟨m, km, rfl, rfl⟩ <;> rcases hh.parts with ⟨rfl, rfl⟩ | ⟨h, kh, rfl, rfl⟩ <;> rcases hl.parts with ⟨rfl, rfl⟩ | ⟨l, kl, rfl, rfl⟩
  all_goals first | (simp at h4; done) | skip
  all_goals simp only [Sem.run_bind, Sem.run_pure, Result.andThen_ok, Option.getD_some, Option.getD_none] at *
  all_goals repeat (rw [run_bound]; simp only [Result.andThen_ok, Sem.run_bind, Sem.run_pure])
  all_goals first | omega | simp
theorem OI.isSome {l : Option Int} {v : Option Value} (h : OI l v) : v.isSome = l.isSome := by rcases h.parts with ⟨rfl, rfl⟩ | ⟨_, _, rfl, rfl⟩ <;> rfl
/-- What stands for a place, moved on. -/
theorem VR.sex_add {b : Nat} {o o' : Nat} {p : Pl} (n c k : Nat) (h : τ b = some p) (e : o' = o + k) : VR τ (.slice (some ⟨b, o', none⟩) n c) (.slice (some ((p.base.add o).add k)) n c) := by
  subst e; rw [add_add']; exact .sex _ _ _ h
theorem run_sliceAt_slice {t el : TypeId} {n c l h m sz : Nat} {A : Option Addr} {lv hv mv : Option Value} (ht : P.underlying t = some (.slice el)) (hs : szOf P el = some sz) (w : World) (hb : (Instr.sliceBounds true n c lv hv mv).run P w = .ok (l, h, m) w) :
    (Instr.sliceAt t (.slice A n c) lv hv mv).run P w = .ok (.slice (if m = l then A else A.map (·.add (l * sz))) (h - l) (m - l)) w := by
  simp only [Instr.sliceAt, Instr.slice, Sem.run_bind, run_und ht, Result.andThen_ok, hb, run_szOf hs, Sem.run_pure]
theorem qslice_sound {t : TypeId} {x x' r : Value} {lo hi mx : Option Int} {lv hv mv : Option Value} {c : Prop} (h : qslice P t x lo hi mx = some (c, r)) (hc : c) (hx : VR τ x x') (hl : OI lo lv) (hh : OI hi hv) (hm : OI mx mv) :
    ∃ r', VR τ r r' ∧ ∀ w, (Instr.sliceAt t x' lv hv mv).run P w = .ok r' w := by
  unfold qslice at h
  split at h
  · rename_i s ht
    split at h
    · cases h; cases hx
      obtain rfl : mv = none := by rcases hm.parts with ⟨_, h⟩ | ⟨_, _, h, _⟩ <;> first | exact h | cases h
      obtain ⟨h0, h1, h2⟩ := hc
      refine ⟨_, .str _, fun w => ?_⟩
      have hb := run_bounds (P := P) false s.size s.size hl hh (mx := none) (mv := none) trivial h0 h1 (by simpa using h2) (by simp) (by simp) w
      simp only [Instr.sliceAt, Instr.slice, Sem.run_bind, run_und ht, Result.andThen_ok, hb, Sem.run_pure, Option.isSome_none, Bool.false_eq_true, if_false]
    · cases h
  · rename_i el ht
    split at h
    · rename_i sz hs
      cases h; cases hx
      obtain ⟨h0, h1, h2, h3, h4⟩ := hc
      refine ⟨_, .snil, fun w => ?_⟩
      rw [run_sliceAt_slice ht hs w (run_bounds true 0 0 hl hh hm h0 h1 h2 (by simpa using h3) h4 w)]
      have e0 : (lo.getD 0).toNat = 0 := by omega
      have e1 : (hi.getD (0 : Nat)).toNat = 0 := by omega
      have e2 : (mx.getD (0 : Nat)).toNat = 0 := by omega
      simp only [e0, e1, e2]
      rfl
    · cases h
  · rename_i el b o sz n n' ht
    split at h
    · rename_i z hs
      split at h
      · rename_i hz
        split at h
        · cases h
          obtain rfl : mv = none := by rcases hm.parts with ⟨_, h⟩ | ⟨_, _, h, _⟩ <;> first | exact h | cases h
          obtain ⟨h0, h1, h2⟩ := hc
          cases hx with
          | @sun _ p _ _ _ _ cc hp hsz hn hcc hlim =>
            obtain rfl : z = sz := by omega
            have hb := run_bounds (P := P) true n cc hl hh (mx := none) (mv := none) trivial h0 h1 (by simp only [Option.getD_none]; omega) (by simp) (by simp)
            by_cases he : ((none : Option Int).getD (cc : Int)).toNat = (lo.getD 0).toNat
            · refine ⟨.slice (some (p.base.add o)) 0 0, ?_, fun w => ?_⟩
              · have : (hi.getD (n : Int) - lo.getD 0).toNat = 0 := by simp only [Option.getD_none] at he; omega
                rw [this]
                exact .sue _ _ _ _ _
              · rw [run_sliceAt_slice ht hs w (hb w), if_pos he]
                simp only [Option.getD_none] at he
                congr 2 <;> (try simp only [Option.getD_none]) <;> omega
            · refine ⟨_, ?_, fun w => by rw [run_sliceAt_slice ht hs w (hb w), if_neg he]⟩
              simp only [Option.map_some, Option.getD_none] at he ⊢
              rw [add_add', show (hi.getD (n : Int)).toNat - (lo.getD 0).toNat = (hi.getD (n : Int) - lo.getD 0).toNat by omega]
              refine .sun _ _ _ _ _ hp hsz (by omega) (by omega) ?_
              have h5 : (cc - (lo.getD 0).toNat) * z + (lo.getD 0).toNat * z = cc * z := by rw [← Nat.add_mul]; congr 1; omega
              simp only [Int.toNat_natCast]
              omega
          | sue =>
            have e0 : lo.getD 0 = 0 := by omega
            have e1 : hi.getD ((0 : Nat) : Int) = 0 := by omega
            refine ⟨_, ?_, fun w => run_sliceAt_slice ht hs w (run_bounds true 0 0 hl hh (mx := none) (mv := none) trivial h0 h1 h2 (by simp) (by simp) w)⟩
            simp only [e0, e1, Option.getD_none]
            exact .sue _ _ _ _ _
          | su0 _ _ _ cc a hcc =>
            have e0 : lo.getD 0 = 0 := by omega
            have e1 : hi.getD ((0 : Nat) : Int) = 0 := by omega
            refine ⟨_, ?_, fun w => run_sliceAt_slice ht hs w (run_bounds true 0 cc hl hh (mx := none) (mv := none) trivial h0 h1 (by simp only [Option.getD_none]; omega) (by simp) (by simp) w)⟩
            simp only [e0, e1, Option.getD_none, Int.toNat_natCast, Option.map_some, Int.toNat_zero, Nat.zero_mul, Nat.sub_zero, Nat.mul_zero, Nat.add_zero]
            have : (if cc = 0 then some a else some (a.add 0)) = some a := by simp [Addr.add]
            rw [this]
            exact .su0 _ _ _ _ _ hcc
        · rename_i m
          split at h
          · cases h
          · rename_i hz0
            cases h
            obtain rfl : z = sz := by omega
            obtain ⟨h0, h1, h2, h3, h4⟩ := hc
            cases hx with
            | @sun _ p _ _ _ _ cc hp hsz hn hcc hlim =>
              have hb := run_bounds (P := P) true n cc hl hh hm h0 h1 (by simpa using h2) (by simp only [Option.getD_some]; omega) (fun _ => h4)
              refine ⟨_, ?_, fun w => run_sliceAt_slice ht hs w (hb w)⟩
              simp only [Option.getD_some, Option.map_some]
              rw [show (hi.getD (n : Int)).toNat - (lo.getD 0).toNat = (hi.getD (n : Int) - lo.getD 0).toNat by omega, show m.toNat - (lo.getD 0).toNat = (m - lo.getD 0).toNat by omega]
              by_cases he : m = lo.getD 0
              · rw [if_pos he, if_pos (by omega)]
                exact .sex _ _ _ hp
              · rw [if_neg he, if_neg (by omega)]
                exact VR.sex_add _ _ _ hp rfl
            | sue =>
              have e0 : lo.getD 0 = 0 := by omega
              have e1 : hi.getD ((0 : Nat) : Int) = 0 := by omega
              obtain rfl : m = 0 := by omega
              refine ⟨_, ?_, fun w => run_sliceAt_slice ht hs w (run_bounds true 0 0 hl hh hm h0 h1 h2 (by simp) (fun _ => h4) w)⟩
              simp only [e0, e1, Option.getD_some]
              exact .se0 _ _ _
            | su0 _ _ _ cc a hcc => exact (hz0 rfl).elim
      · cases h
    · cases h
  · rename_i el b o n c ht
    split at h
    · rename_i sz hs
      cases h
      obtain ⟨h0, h1, h2, h3, h4⟩ := hc
      cases hx with
      | @sex _ p _ _ _ hp =>
        have hb := run_bounds (P := P) true n c hl hh hm h0 h1 h2 h3 h4
        refine ⟨_, ?_, fun w => run_sliceAt_slice ht hs w (hb w)⟩
        rw [show (hi.getD (n : Int)).toNat - (lo.getD 0).toNat = (hi.getD (n : Int) - lo.getD 0).toNat by omega, show (mx.getD (c : Int)).toNat - (lo.getD 0).toNat = (mx.getD (c : Int) - lo.getD 0).toNat by omega]
        simp only [Option.map_some]
        by_cases he : mx.getD (c : Int) = lo.getD 0
        · rw [if_pos he, if_pos (by omega)]
          exact .sex _ _ _ hp
        · rw [if_neg he, if_neg (by omega)]
          exact VR.sex_add _ _ _ hp rfl
      | se0 _ _ a =>
        have e0 : lo.getD 0 = 0 := by omega
        have e1 : hi.getD ((0 : Nat) : Int) = 0 := by omega
        have e2 : mx.getD ((0 : Nat) : Int) = 0 := by omega
        refine ⟨_, ?_, fun w => run_sliceAt_slice ht hs w (run_bounds true 0 0 hl hh hm h0 h1 h2 h3 h4 w)⟩
        simp only [e0, e1, e2]
        exact .se0 _ _ _
    · cases h
  · rename_i n el b o ht
    split at h
    · rename_i sz hs
      cases h
      obtain ⟨h0, h1, h2, h3, h4⟩ := hc
      cases hx with
      | @ptr _ p _ hp =>
        have hb := run_bounds (P := P) false n n hl hh hm h0 h1 h2 h3 h4
        refine ⟨.slice (some (if (mx.getD (n : Int)).toNat = (lo.getD 0).toNat then p.base.add o else (p.base.add o).add ((lo.getD 0).toNat * sz))) ((hi.getD (n : Int)).toNat - (lo.getD 0).toNat) ((mx.getD (n : Int)).toNat - (lo.getD 0).toNat), ?_, fun w => ?_⟩
        · rw [show (hi.getD (n : Int)).toNat - (lo.getD 0).toNat = (hi.getD (n : Int) - lo.getD 0).toNat by omega, show (mx.getD (n : Int)).toNat - (lo.getD 0).toNat = (mx.getD (n : Int) - lo.getD 0).toNat by omega]
          by_cases he : mx.getD (n : Int) = lo.getD 0
          · rw [if_pos he, if_pos (by omega)]
            exact .sex _ _ _ hp
          · rw [if_neg he, if_neg (by omega)]
            exact VR.sex_add _ _ _ hp rfl
        · simp only [Instr.sliceAt, Instr.sureAddr, Sem.run_bind, run_und ht, Result.andThen_ok, Sem.run_pure, hb w, run_szOf hs]
    · cases h
  · cases h
end
end Go.Proofs.YtjopikjefpenkaaDoor
/- The plain machine's operations that look at no memory do as the model's: builds, and all. -/
namespace Go.Proofs.YtjopikjefpenkaaDoor
open Go.RowKit
section
variable {P : Program} {τ : Tau}
theorem VRs.single {v v' : Value} (h : VR τ v v') : VRs τ #[v] #[v'] := by
  refine ⟨rfl, fun i x y h1 h2 => ?_⟩
  cases i with
  | zero => simp at h1 h2; subst h1; subst h2; exact h
  | succ i => simp at h1
theorem VR.cells {v v' : Value} (h : VR τ v v') : VRs τ v.cells v'.cells := by
  cases h with
  | agg e k => exact ⟨e, k⟩
  | tuple e k => exact VRs.single (.tuple e k)
  | bool b => exact VRs.single (.bool b)
  | int k n => exact VRs.single (.int k n)
  | str s => exact VRs.single (.str s)
  | pnil => exact VRs.single .pnil
  | ptr o h => exact VRs.single (.ptr o h)
  | snil => exact VRs.single .snil
  | sex o n c h => exact VRs.single (.sex o n c h)
  | sun o sz n m c a b c' d e => exact VRs.single (.sun o sz n m c a b c' d e)
  | sue b o sz m a => exact VRs.single (.sue b o sz m a)
  | su0 b o m c a h => exact VRs.single (.su0 b o m c a h)
  | se0 b o a => exact VRs.single (.se0 b o a)
  | mnil => exact VRs.single .mnil
  | map a b => exact VRs.single (.map a b)
  | fnil => exact VRs.single .fnil
  | yld h => exact VRs.single (.yld h)
  | func f hy a b c d => exact VRs.single (.func f hy a b c d)
  | inil => exact VRs.single .inil
  | iface t h => exact VRs.single (.iface t h)
theorem fill_set (off : Nat) : ∀ (l : List Value) (k : Nat) (cells : Array Value), off + k + l.length ≤ cells.size →
    ((l.zipIdx k).foldl (fun (cs : Array Value) (x : Value × Nat) => cs.setIfInBounds (off + x.2) x.1) cells).toList = cells.toList.take (off + k) ++ l ++ cells.toList.drop (off + k + l.length)
  | [], k, cells, _ => by simp
  | x :: l, k, cells, h => by
    simp only [List.length_cons] at h
    rw [List.zipIdx_cons, List.foldl_cons, fill_set off l (k + 1) _ (by simp only [Array.size_setIfInBounds]; omega)]
    simp only [Array.toList_setIfInBounds, List.length_cons]
    have hlt : off + k < cells.toList.length := by simp; omega
    rw [List.drop_set_of_lt (by omega), show off + (k + 1) = (off + k) + 1 by omega, List.take_set, List.take_succ_eq_append_getElem hlt, List.set_append_right _ _ (by simp; omega)]
    simp only [List.length_take, show min (off + k) cells.toList.length = off + k by simp; omega, Nat.sub_self, List.set_cons_zero, List.append_assoc, List.cons_append, List.nil_append]
    rw [show off + k + 1 + l.length = off + k + (l.length + 1) by omega]
def VP (τ : Tau) : List (Nat × Value) → List (Nat × Value) → Prop
  | [], [] => True
  | (i, v) :: l, (j, v') :: l' => i = j ∧ VR τ v v' ∧ VP τ l l'
  | _, _ => False
theorem VRs.splice {a a' b b' : Array Value} (h : VRs τ a a') (k : VRs τ b b') (off : Nat) :
    VRs τ (a.toList.take off ++ b.toList ++ a.toList.drop (off + b.size)).toArray (a'.toList.take off ++ b'.toList ++ a'.toList.drop (off + b'.size)).toArray := by
  have e1 := h.1; have e2 := k.1
  refine ⟨by simp [e1, e2], fun i v v' h1 h2 => ?_⟩
  simp only [List.getElem?_toArray, List.append_assoc, List.getElem?_append, List.length_take, Array.length_toList, List.getElem?_take, List.getElem?_drop, Array.getElem?_toList] at h1 h2
  rw [e1, e2] at h1
  split at h1
  · rename_i hi; rw [if_pos hi] at h2
    split at h1
    · rename_i hj; rw [if_pos hj] at h2; exact h.2 _ _ _ h1 h2
    · cases h1
  · rename_i hi; rw [if_neg hi] at h2
    split at h1
    · rename_i hj; rw [if_pos hj] at h2; exact k.2 _ _ _ h1 h2
    · rename_i hj; rw [if_neg hj] at h2; exact h.2 _ _ _ h1 h2
theorem fill_sound (place : Nat → Option (Nat × Nat)) : ∀ (l l' : List (Nat × Value)) (cells cells' r : Array Value), qfill place cells l = some r → VRs τ cells cells' → VP τ l l' → ∃ r', Instr.fill place cells' l' = some r' ∧ VRs τ r r'
  | [], [], cells, cells', r, h, hc, _ => by cases h; exact ⟨cells', rfl, hc⟩
  | (i, v) :: l, (j, v') :: l', cells, cells', r, h, hc, hp => by
    obtain ⟨rfl, hv, hl⟩ := hp
    unfold qfill at h
    split at h
    · cases h
    · rename_i off size hpl
      split at h
      · cases h
      · rename_i hn
        have hvc := hv.cells
        have hn' : ¬ ((v'.cells.size ≠ size || off + v'.cells.size > cells'.size) = true) := by
          rw [← hvc.1, ← hc.1]; simpa using hn
        have hle : off + v'.cells.size ≤ cells'.size := by simp at hn'; omega
        unfold Instr.fill
        rw [hpl]
        simp only
        rw [if_neg hn']
        have e : (v'.cells.zipIdx.foldl (fun cs (c, j) => cs.setIfInBounds (off + j) c) cells') = (cells'.toList.take off ++ v'.cells.toList ++ cells'.toList.drop (off + v'.cells.size)).toArray := by
          apply Array.ext'
          rw [← Array.foldl_toList, Array.toList_zipIdx]
          have := fill_set off v'.cells.toList 0 cells' (by simpa using hle)
          simpa using this
        rw [e]
        exact fill_sound place l l' _ _ r h (hc.splice hvc off) hl
  | [], _ :: _, _, _, _, _, _, hp => hp.elim
  | _ :: _, [], _, _, _, _, _, hp => hp.elim
theorem run_places : ∀ (l : List Field) (pl : List (Nat × Nat)), qplaces P l = some pl → ∀ w, (l.mapM fun f => do pure (f.offset, ← sizeOf f.type) : Sem (List (Nat × Nat))).run P w = .ok pl w
  | [], pl, h, w => by cases h; simp
  | f :: l, pl, h, w => by
    unfold qplaces at h
    split at h
    · rename_i n l' hn hl
      cases h
      have ih := run_places l l' hl w
      simp only [List.mapM_cons, Sem.run_bind, run_szOf hn, Result.andThen_ok, Sem.run_pure, ih]
    · cases h
theorem evs_sound {e : Env} {a : Act} (hx : Ag τ e a) : ∀ (l : List Operand) (vs : List Value), evs e l = some vs → VRs τ vs.toArray (l.map a.eval).toArray
  | [], vs, h => by cases h; exact ⟨rfl, fun i v v' h => by simp at h⟩
  | x :: l, vs, h => by
    unfold evs at h
    split at h
    · rename_i v vs' hv hl
      cases h
      obtain ⟨h1, h2⟩ := evs_sound hx l vs' hl
      refine ⟨by simpa using h1, fun i u u' e1 e2 => ?_⟩
      cases i with
      | zero => simp at e1 e2; subst e1; subst e2; exact hx _ _ hv
      | succ i => exact h2 i u u' (by simpa using e1) (by simpa using e2)
    · cases h
theorem evp_sound {e : Env} {a : Act} (hx : Ag τ e a) : ∀ (l : List (Nat × Operand)) (vs : List (Nat × Value)), evp e l = some vs → VP τ vs (l.map fun (i, x) => (i, a.eval x))
  | [], vs, h => by cases h; trivial
  | (i, x) :: l, vs, h => by
    unfold evp at h
    split at h
    · rename_i v vs' hv hl
      cases h
      exact ⟨rfl, hx _ _ hv, evp_sound hx l vs' hl⟩
    · cases h
theorem VRs.of_flat {n : Nat} {z : Value} (h : flat n z = true) : VRs τ z.cells z.cells := (VR.of_flat h).cells
theorem qbuild_sound {t : TypeId} {ps ps' : List (Nat × Value)} {r : Value} (h : qbuild P t ps = some r) (hp : VP τ ps ps') : ∃ r', VR τ r r' ∧ ∀ w, (Instr.build t ps'.toArray).run P w = .ok r' w := by
  unfold qbuild at h
  split at h
  · rename_i z fs hz ht
    split at h
    · rename_i pl hpl
      split at h
      · rename_i hf
        obtain ⟨cs, hcs, rfl⟩ := Option.map_eq_some_iff.1 h
        obtain ⟨cs', h1, h2⟩ := fill_sound (τ := τ) _ _ _ _ _ _ hcs (VRs.of_flat hf) hp
        refine ⟨_, h2.agg, fun w => ?_⟩
        simp only [Instr.build, Sem.run_bind, run_zOf hz, run_und ht, Result.andThen_ok, Array.mapM_eq_mapM_toList, Sem.run_map, run_places _ _ hpl w]
        have e : (fun (i : Nat) => pl.toArray[i]?) = (fun (i : Nat) => pl[i]?) := by funext i; simp
        rw [e, h1]
        rfl
      · cases h
    · cases h
  · rename_i z n el hz ht
    split at h
    · rename_i sz hs
      split at h
      · rename_i hf
        obtain ⟨cs, hcs, rfl⟩ := Option.map_eq_some_iff.1 h
        obtain ⟨cs', h1, h2⟩ := fill_sound (τ := τ) _ _ _ _ _ _ hcs (VRs.of_flat hf) hp
        refine ⟨_, h2.agg, fun w => ?_⟩
        simp only [Instr.build, Sem.run_bind, run_zOf hz, run_und ht, Result.andThen_ok, run_szOf hs]
        rw [h1]
        rfl
      · cases h
    · cases h
  · cases h
theorem VRs.pair {a b a' b' : Value} (h : VR τ a a') (k : VR τ b b') : VRs τ #[a, b] #[a', b'] := by
  refine ⟨rfl, fun i x y h1 h2 => ?_⟩
  match i with
  | 0 => simp at h1 h2; subst h1; subst h2; exact h
  | 1 => simp at h1 h2; subst h1; subst h2; exact k
  | i + 2 => simp at h1
theorem qassert_sound {x x' r : Value} {t a : TypeId} {ok : Bool} (h : qassert P x a ok = some r) (hx : VR τ x x') : ∃ r', VR τ r r' ∧ ∀ w, (Instr.typeAssert x' t a ok).run P w = .ok r' w := by
  unfold qassert at h
  split at h
  · cases h
  · cases h
  · rename_i d hn ha
    split at h
    · split at h
      · rename_i hok
        obtain ⟨z, hz, h⟩ := Option.bind_eq_some_iff.1 h
        split at h
        · rename_i hf
          cases h; cases hx; subst hok
          refine ⟨_, (VRs.pair (VR.of_flat hf) (.bool false)).tuple, fun w => ?_⟩
          simp only [Instr.typeAssert, Sem.run_bind, run_und ha, Result.andThen_ok]
          cases d <;> first | exact (hn _ rfl).elim | simp [run_zOf hz]
        · cases h
      · cases h
    · rename_i u v
      split at h
      · rename_i he
        cases h; subst he
        cases hx with
        | @iface _ _ v' hv =>
          refine ⟨if ok then .tuple #[v', .bool true] else v', ?_, fun w => by
            simp only [Instr.typeAssert, Sem.run_bind, run_und ha, Result.andThen_ok]
            cases d <;> first | exact (hn _ rfl).elim | simp⟩
          · cases ok
            · exact hv
            · exact (VRs.pair hv (.bool true)).tuple
      · rename_i he
        split at h
        · rename_i hok
          obtain ⟨z, hz, h⟩ := Option.bind_eq_some_iff.1 h
          split at h
          · rename_i hf
            cases h; subst hok
            cases hx with
            | iface _ hv =>
              refine ⟨_, (VRs.pair (VR.of_flat hf) (.bool false)).tuple, fun w => ?_⟩
              simp only [Instr.typeAssert, Sem.run_bind, run_und ha, Result.andThen_ok]
              cases d <;> first | exact (hn _ rfl).elim | simp [run_zOf hz, he]
          · cases h
        · cases h
    · cases h
theorem qlen_sound {t : TypeId} {tys : Array TypeId} {ty : TypeId} {x x' r : Value} (hty : tys[0]? = some t) (h : qlen P t x = some r) (hx : VR τ x x') : ∃ r', VR τ r r' ∧ ∀ w, (Builtin.len_ tys ty #[x']).run P w = .ok r' w := by
  unfold qlen at h
  split at h
  · rename_i s ht; cases h; cases hx
    exact ⟨_, .int _ _, fun w => by simp [Builtin.len_, hty, run_und ht, goInt]⟩
  · rename_i n el ht; cases h
    exact ⟨_, .int _ _, fun w => by simp [Builtin.len_, hty, run_und ht, goInt]⟩
  · rename_i el a n c ht; cases h
    cases hx <;> exact ⟨_, .int _ _, fun w => by simp [Builtin.len_, hty, run_und ht, goInt]⟩
  · rename_i ht; cases h; cases hx
    exact ⟨_, .int _ _, fun w => by simp [Builtin.len_, hty, run_und ht, goInt]⟩
  · rename_i a ht
    split at h
    · rename_i n el ha; cases h
      exact ⟨_, .int _ _, fun w => by simp [Builtin.len_, hty, run_und ht, run_und ha, goInt]⟩
    · cases h
  · cases h
end
end Go.Proofs.YtjopikjefpenkaaDoor
/- The plain machine's operations that look at no memory do as the model's: all. -/
namespace Go.Proofs.YtjopikjefpenkaaDoor
open Go.RowKit
section
variable {P : Program} {τ : Tau}
theorem getElem?_bytes (s : ByteArray) (i : Nat) : s[i]? = s.data[i]? := by
  by_cases h : i < s.size
  · rw [getElem?_pos s i h, Array.getElem?_eq_getElem h]; rfl
  · rw [getElem?_neg s i h, Array.getElem?_eq_none (by simpa using h)]
theorem run_cells_size {t : TypeId} {n : Nat} (h : szOf P t = some (n + 1)) (a : Addr) (f : Field) (hf : f.type = t) (w : World) : (fieldPlace a f).run P w = .ok (a.add f.offset) w := by
  subst hf
  simp [fieldPlace, run_szOf h]
theorem VR.ptr' {b o : Nat} {y : Value} (h : VR τ (.pointer (some ⟨b, o, none⟩)) y) : ∃ p, τ b = some p ∧ y = .pointer (some (p.base.add o)) := by cases h with | ptr _ hp => exact ⟨_, hp, rfl⟩
theorem VRs.one {x : Value} {c : Array Value} (h : VRs τ [x].toArray c) : ∃ x', c = #[x'] ∧ VR τ x x' := by
  obtain ⟨c⟩ := c
  match c, h with
  | [], h => exact absurd h.1 (by simp)
  | [x'], h => exact ⟨x', rfl, h.2 0 _ _ rfl rfl⟩
  | _ :: _ :: _, h => exact absurd h.1 (by simp)
theorem VRs.two {x y : Value} {c : Array Value} (h : VRs τ [x, y].toArray c) : ∃ x' y', c = #[x', y'] ∧ VR τ x x' ∧ VR τ y y' := by
  obtain ⟨c⟩ := c
  match c, h with
  | [], h => exact absurd h.1 (by simp)
  | [_], h => exact absurd h.1 (by simp)
  | [x', y'], h => exact ⟨x', y', rfl, h.2 0 _ _ rfl rfl, h.2 1 _ _ rfl rfl⟩
  | _ :: _ :: _ :: _, h => exact absurd h.1 (by simp)
theorem VR.ptrSome {a : Addr} {y : Value} (h : VR τ (.pointer (some a)) y) : ∃ b, y = .pointer (some b) := by cases h; exact ⟨_, rfl⟩
theorem VR.slicePos {b o n c : Nat} {sp : Option Nat} {y : Value} (h : VR τ (.slice (some ⟨b, o, sp⟩) n c) y) (hn : 0 < n) : ∃ p cc, τ b = some p ∧ y = .slice (some (p.base.add o)) n cc := by
  cases h with
  | sex _ _ _ hp => exact ⟨_, _, hp, rfl⟩
  | sun _ _ _ _ _ hp => exact ⟨_, _, hp, rfl⟩
  | sue => omega
  | su0 => omega
  | se0 => omega
set_option maxHeartbeats 1600000 in
theorem qp_sound {e : Env} {a : Act} {o : Oper} {c : Prop} {v : Value} (hx : Ag τ e a) (h : qp P e o.op = some (c, v)) (hc : c) : Does P a o τ v := by
  obtain ⟨dst, op, type, pos, after, guard⟩ := o
  simp only at h
  unfold qp at h
  split at h
  -- move, assign
  · rename_i x
    obtain ⟨u, hu, h⟩ := Option.map_eq_some_iff.1 h
    cases h
    exact ⟨_, hx _ _ hu, fun w => rfl⟩
  · rename_i x
    obtain ⟨u, hu, h⟩ := Option.map_eq_some_iff.1 h
    cases h
    exact ⟨_, hx _ _ hu, fun w => rfl⟩
  -- pick
  · split at h
    · rename_i t u1 u2 h1 h2 h3
      cases h
      have e1 := (hx _ _ h1).bool'
      refine ⟨_, ?_, fun w => by simp only [execOp, e1]; rfl⟩
      cases t
      · exact hx _ _ h3
      · exact hx _ _ h2
    · cases h
  -- binOp
  · split at h
    · rename_i u1 u2 h1 h2
      obtain ⟨r, hr, hw⟩ := qbin_sound (τ := τ) (fun k => k) h hc (hx _ _ h1) (hx _ _ h2)
      exact ⟨r, hr, fun w => by simp only [execOp]; rw [Sem.run_bind, hw w]; rfl⟩
    · cases h
  -- unOp
  · obtain ⟨u, hu, h⟩ := Option.map_eq_some_iff.1 h
    obtain ⟨u1, h1, h2⟩ := Option.bind_eq_some_iff.1 hu
    cases h
    obtain ⟨r, hr, hw⟩ := qun_sound (P := P) h2 (hx _ _ h1)
    exact ⟨r, hr, fun w => by simp only [execOp]; rw [Sem.run_bind, hw w]; rfl⟩
  -- convert
  · obtain ⟨u, hu, h⟩ := Option.map_eq_some_iff.1 h
    obtain ⟨u1, h1, h2⟩ := Option.bind_eq_some_iff.1 hu
    cases h
    obtain ⟨r, hr, hw⟩ := qconv_sound (P := P) h2 (hx _ _ h1)
    exact ⟨r, hr, fun w => by simp only [execOp]; rw [Sem.run_bind, hw w]; rfl⟩
  -- makeInterface
  · split at h
    · cases h
    · rename_i d u hn ht h1
      cases h
      refine ⟨_, .iface _ (hx _ _ h1), fun w => ?_⟩
      simp only [execOp, Instr.makeInterface, Sem.run_bind, run_und ht, Result.andThen_ok]
      cases d <;> first | exact (hn _ rfl).elim | rfl
    · cases h
  -- makeFunc
  · split at h
    · rename_i as cs h1 h2
      split at h
      · cases h
      rename_i hy
      cases h
      have k1 := evs_sound hx _ _ h1
      have k2 := evs_sound hx _ _ h2
      refine ⟨.func _ _ _, .func _ (by simpa using hy) k1.1 k2.1 k1.2 k2.2, fun w => ?_⟩
      simp only [execOp, Instr.makeFunc, ← List.map_toArray]
      rfl
    · cases h
  -- fieldAddr
  · split at h
    · rename_i fs b o ht h1
      split at h
      · rename_i f hf
        split at h
        · rename_i n hn
          cases h
          obtain ⟨p, hp, e1⟩ := (hx _ _ h1).ptr'
          refine ⟨_, .ptr _ hp, fun w => ?_⟩
          simp only [execOp, e1, Instr.fieldAt, Instr.sureAddr, Sem.run_bind, run_und ht, Result.andThen_ok, hf, Sem.run_pure, run_cells_size hn _ f rfl]
          rw [add_add']
        · cases h
      · cases h
    · cases h
  -- field
  · split at h
    · rename_i fs cs ht h1
      split at h
      · rename_i f hf
        obtain ⟨u, hu, h⟩ := Option.map_eq_some_iff.1 h
        cases h
        obtain ⟨cs', e1, hcs⟩ := (hx _ _ h1).agg'
        obtain ⟨r, hr, hw⟩ := qpart_sound hu hcs
        refine ⟨r, hr, fun w => ?_⟩
        simp only [execOp, e1, Instr.field, asAgg, Sem.run_bind, run_und ht, Result.andThen_ok, hf, Sem.run_pure, hw]
      · cases h
    · cases h
  -- indexAddr
  · split at h
    · rename_i n el b o' k i ht h1 h2
      split at h
      · rename_i sz hs
        cases h
        obtain ⟨p, hp, e1⟩ := (hx _ _ h1).ptr'
        have e2 := (hx _ _ h2).int'
        refine ⟨_, .ptr _ hp, fun w => ?_⟩
        simp only [execOp, e1, e2, Instr.indexAt, Instr.sureAddr, asIntOf, Sem.run_bind, run_und ht, Result.andThen_ok, Sem.run_pure, Sem.run_ite, if_pos hc, run_szOf hs]
        rw [add_add']
      · cases h
    · rename_i el b o' sp n c k i ht h1 h2
      split at h
      · rename_i sz hs
        cases h
        have e2 := (hx _ _ h2).int'
        obtain ⟨p, cc, hp, e1⟩ := (hx _ _ h1).slicePos (by omega)
        refine ⟨_, .ptr _ hp, fun w => ?_⟩
        simp only [execOp, e1, e2, Instr.indexAt, Instr.sureAddr, asIntOf, Sem.run_bind, run_und ht, Result.andThen_ok, Sem.run_pure, Sem.run_ite, if_pos hc, run_szOf hs]
        rw [add_add']
      · cases h
    · cases h
  -- index
  · split at h
    · rename_i n el cs k i ht h1 h2
      split at h
      · rename_i sz hs
        split at h
        · rename_i u hu
          cases h
          obtain ⟨cs', e1, hcs⟩ := (hx _ _ h1).agg'
          have e2 := (hx _ _ h2).int'
          obtain ⟨r, hr, hw⟩ := qpart_sound hu hcs
          refine ⟨r, hr, fun w => ?_⟩
          simp only [execOp, e1, e2, Instr.index, asIntOf, Sem.run_bind, run_und ht, Result.andThen_ok, Sem.run_pure, Sem.run_ite, if_pos hc, run_szOf hs, hw]
        · cases h
      · cases h
    · rename_i s k i ht h1 h2
      cases h
      have e1 := (hx _ _ h1).str'
      have e2 := (hx _ _ h2).int'
      refine ⟨_, .int _ _, fun w => ?_⟩
      have hlt : i.toNat < s.data.size := by have := hc.2; show i.toNat < s.size; omega
      have e3 : (if 0 ≤ i then s[i.toNat]? else none) = some (s.data[i.toNat]'hlt) := by
        rw [if_pos hc.1, getElem?_bytes, Array.getElem?_eq_getElem hlt]
      simp only [execOp, e1, e2, Instr.index, asIntOf, Sem.run_bind, run_und ht, Result.andThen_ok, Sem.run_pure, e3]
      congr 4
      simp only [List.getD, Array.getElem?_toList, Array.getElem?_eq_getElem hlt, Option.getD_some]
    · cases h
  -- slice
  · split at h
    · rename_i u l1 l2 l3 h1 h2 h3 h4
      obtain ⟨r, hr, hw⟩ := qslice_sound h hc (hx _ _ h1) (evo_OI hx h2) (evo_OI hx h3) (evo_OI hx h4)
      exact ⟨r, hr, fun w => by simp only [execOp]; rw [Sem.run_bind, hw w]; rfl⟩
    · cases h
  -- typeAssert
  · obtain ⟨u, hu, h⟩ := Option.map_eq_some_iff.1 h
    obtain ⟨u1, h1, h2⟩ := Option.bind_eq_some_iff.1 hu
    cases h
    obtain ⟨r, hr, hw⟩ := qassert_sound (P := P) h2 (hx _ _ h1)
    exact ⟨r, hr, fun w => by simp only [execOp]; rw [Sem.run_bind, hw w]; rfl⟩
  -- extract
  · split at h
    · rename_i vs h1
      obtain ⟨u, hu, h⟩ := Option.map_eq_some_iff.1 h
      cases h
      obtain ⟨vs', e1, hvs⟩ := (hx _ _ h1).tuple'
      obtain ⟨r, hr, hv⟩ := hvs.get hu
      exact ⟨r, hv, fun w => by simp only [execOp, e1, Instr.extract, hr, Sem.run_bind, Sem.run_pure, Result.andThen_ok]⟩
    · cases h
  -- nilCheck
  · split at h
    · rename_i b h1
      cases h
      have k := hx _ _ h1
      obtain ⟨b', e1⟩ := k.ptrSome
      refine ⟨_, k, fun w => ?_⟩
      simp only [execOp, e1, Sem.run_pure]
    · cases h
  -- build
  · rename_i ps
    split at h
    · rename_i l hl
      obtain ⟨u, hu, h⟩ := Option.map_eq_some_iff.1 h
      cases h
      obtain ⟨r, hr, hw⟩ := qbuild_sound hu (evp_sound hx _ _ hl)
      refine ⟨r, hr, fun w => ?_⟩
      have hw := hw w
      simp only [execOp]
      rw [Sem.run_bind]
      have e : (Array.map (fun (x : Nat × Operand) => (x.1, a.eval x.2)) ps) = (List.map (fun (x : Nat × Operand) => (x.1, a.eval x.2)) ps.toList).toArray := by
        rw [← List.map_toArray]
      rw [e, hw]
      rfl
    · cases h
  -- sliceToArrayPointer
  · split at h
    · rename_i n el b o' sp m c ht h1
      cases h
      obtain ⟨p, cc, hp, e1⟩ := (hx _ _ h1).slicePos hc.2
      refine ⟨_, .ptr _ hp, fun w => ?_⟩
      simp only [execOp, e1, Instr.arrayAt, Sem.run_bind, run_und ht, Result.andThen_ok, Sem.run_ite, Sem.run_pure, if_neg (Nat.not_lt.2 hc.1)]
    · cases h
  -- builtins
  · rename_i b args tys
    split at h
    · rename_i x hl
      split at h
      · rename_i t ht
        obtain ⟨u, hu, h⟩ := Option.map_eq_some_iff.1 h
        cases h
        obtain ⟨x', e1, hx'⟩ := (evs_sound hx _ _ hl).one
        obtain ⟨r, hr, hw⟩ := qlen_sound (P := P) (ty := type) ht hu hx'
        refine ⟨r, hr, fun w => ?_⟩
        simp only [execOp, resolve, Sem.run_bind, Sem.run_pure, Result.andThen_ok, invoke, builtin]
        rw [show args.map a.eval = #[x'] by rw [← e1, ← List.map_toArray], hw w]
        rfl
      · cases h
    · rename_i k x k' y hl
      split at h
      · rename_i hk
        cases h; subst hk
        obtain ⟨x', y', e1, hx', hy'⟩ := (evs_sound hx _ _ hl).two
        obtain rfl := hx'.int'
        obtain rfl := hy'.int'
        refine ⟨_, .int _ _, fun w => ?_⟩
        simp only [execOp, resolve, Sem.run_bind, Sem.run_pure, Result.andThen_ok, invoke, builtin]
        rw [show args.map a.eval = #[.int k x, .int k y] by rw [← e1, ← List.map_toArray]]
        simp [Builtin.min_, Builtin.min2]
      · cases h
    · rename_i k x k' y hl
      split at h
      · rename_i hk
        cases h; subst hk
        obtain ⟨x', y', e1, hx', hy'⟩ := (evs_sound hx _ _ hl).two
        obtain rfl := hx'.int'
        obtain rfl := hy'.int'
        refine ⟨_, .int _ _, fun w => ?_⟩
        simp only [execOp, resolve, Sem.run_bind, Sem.run_pure, Result.andThen_ok, invoke, builtin]
        rw [show args.map a.eval = #[.int k x, .int k y] by rw [← e1, ← List.map_toArray]]
        simp [Builtin.max_, Builtin.max2]
      · cases h
    · cases h
  · cases h
end
end Go.Proofs.YtjopikjefpenkaaDoor
/- The plain machine's operations that read memory or make some. -/
namespace Go.Proofs.YtjopikjefpenkaaDoor
open Go.RowKit
def PO.cells : PO → Option (List Value)
  | .ro cs | .rw cs | .gr cs => some cs
  | _ => none
/-- The cells of a handle. -/
def hcells (h : List PO) (b : Nat) : Option (List Value) := (h[b]?).bind PO.cells
def bytesOf : List Value → Option (List UInt8)
  | [] => some []
  | .int .u8 n :: l => (bytesOf l).map (UInt8.ofNat n.toNat :: ·)
  | _ :: _ => none
def rep (n : Nat) (cs : List Value) : List Value := (List.replicate n cs).flatten
/-- The entries of a map. -/
def mread (h : List PO) : Value → Option (List (Value × Value))
  | .map none => some []
  | .map (some b) => match h[b]? with
    | some (.mp es) => some es
    | _ => none
  | _ => none
/-- A key that is plain. -/
def pkey : TypeDesc → Value → Bool
  | .bool, .bool _ => true
  | .int k, .int k' _ => decide (k' = k)
  | .string, .string _ => true
  | _, _ => false
def pfind (d : TypeDesc) (k : Value) : List (Value × Value) → Nat → Option (Option (Nat × Value))
  | [], _ => some none
  | e :: es, i => match Instr.sameNow d k e.1 with
    | some true => some (some (i, e.2))
    | some false => pfind d k es (i + 1)
    | none => none
/-- What a lookup yields. -/
def lkv (ok : Bool) (z : Value) : Option (Nat × Value) → Value
  | some p => if ok then .tuple #[p.2, .bool true] else p.2
  | none => if ok then .tuple #[z, .bool false] else z
section
variable (P : Program)
/-- What lies at a place, read as a type. -/
def qload (h : List PO) (t : TypeId) (b o : Nat) : Option Value :=
  match hcells h b, isAg P t with
  | some cs, some true => match szOf P t with
    | some n => if o + n ≤ cs.length then some (.agg ((cs.drop o).take n).toArray) else none
    | none => none
  | some cs, some false => cs[o]?
  | _, _ => none
/-- An operation that reads memory, or makes some: what must be, its value, what is made. -/
def qm (e : Env) (h : List PO) : Op → Option (Prop × Value × List PO)
  | .load t x => match ev e x with
    | some (.pointer (some ⟨b, o, none⟩)) => (qload P h t b o).map fun v => (True, v, [])
    | _ => none
  | .alloc t => match zOf P t with
    | some z => if flat 6 z then some (True, .pointer (some ⟨h.length, 0, none⟩), [.rw z.cells.toList]) else none
    | none => none
  | .box _ x => match ev e x with
    | some v => some (True, .pointer (some ⟨h.length, 0, none⟩), [.rw v.cells.toList])
    | none => none
  | .buildSlice t n ps => match P.underlying t, evp e ps.toList with
    | some (.slice el), some l => match szOf P el, zOf P el with
      | some sz, some z => if z.cells.size = sz ∧ 0 < sz ∧ n * sz ≤ 16777216 ∧ flat 6 z then match qfill (fun i => some (i * sz, sz)) (rep n z.cells.toList).toArray l with
        | some cs => some (True, .slice (some ⟨h.length, 0, none⟩) n n, [.rw cs.toList])
        | none => none
        else none
      | _, _ => none
    | _, _ => none
  | .makeSlice t l c => match P.underlying t, ev e l, ev e c with
    | some (.slice el), some (.int _ l), some (.int _ c) => match P.info? el with
      | some i => match i.zero with
        | some z => if z.cells.size = i.size ∧ 0 < i.size ∧ flat 6 z then some (0 ≤ l ∧ l ≤ c ∧ c ≤ 9223372036854775807 ∧ i.bytes * c ≤ 281474976710656, .slice (some ⟨h.length, 0, none⟩) l.toNat c.toNat, [.rw (rep c.toNat z.cells.toList)]) else none
        | none => none
      | none => none
    | _, _, _ => none
  | .makeMap _ none => some (True, .map (some h.length), [.mp []])
  | .convert s d x => match P.underlying s, P.underlying d, ev e x with
    | some (.slice el), some .string, some v => match P.underlying el with
      | some (.int .u8) => match v with
        | .slice none _ _ => some (True, .string .empty, [])
        | .slice (some ⟨b, o, _⟩) n _ => if n = 0 then some (True, .string .empty, []) else match hcells h b with
          | some cs => if o + n ≤ cs.length then (bytesOf ((cs.drop o).take n)).map fun l => (True, .string ⟨l.toArray⟩, []) else none
          | none => none
        | _ => none
      | _ => none
    | some _, some (.slice el), some (.string s) => match P.underlying el with
      | some (.int .u8) => some (s.size ≤ 9223372036854775807, .slice (some ⟨h.length, 0, some 1⟩) s.size s.size, [.gr (s.data.toList.map fun b => .int .u8 b.toNat)])
      | _ => none
    | _, _, _ => none
  | .range t x => match P.underlying t, ev e x with
    | some .string, some (.string s) => some (True, .pointer (some ⟨h.length, 0, none⟩), [.si s 0])
    | _, _ => none
  | .lookup t x ix ok => match P.underlying t, ev e x, ev e ix with
    | some (.map kt et), some m, some k => match P.underlying kt, zOf P et, mread h m with
      | some d, some z, some es => if pkey d k ∧ flat 6 z then (pfind d k es 0).map fun r => (True, lkv ok z r, []) else none
      | _, _, _ => none
    | _, _, _ => none
  | _ => none
end
/-- 'This operation comes to this value, and makes these; of the blocks that were there none turns.' -/
def QDoes (P : Program) (a : Act) (o : Oper) (τ : Tau) (h : List PO) (w : World) (v : Value) (ns : List PO) : Prop :=
  ∃ v' w' τ', (execOp a.eval o).run P w = .ok (.value v') w' ∧ τ.le τ' ∧ (∀ b p, τ' b = some p → τ b = some p ∨ (h.length ≤ b ∧ w.heap.size ≤ p.base.block)) ∧ RH τ' (h ++ ns) w' ∧ VR τ' v v' ∧ Fr (fun _ => False) w w'
section
variable {P : Program} {τ : Tau}
theorem OR.cell {p : Pl} {w : World} {ob : PO} {cs : List Value} (h : OR τ p w ob) (hc : ob.cells = some cs) {i : Nat} {v : Value} (hi : cs[i]? = some v) : ∃ v', w.cell? (p.base.add i) = some v' ∧ VR τ v v' := by
  have hil := (List.getElem?_eq_some_iff.1 hi).1
  cases ob with
  | ro cs' => cases hc; exact h i v hi
  | rw cs' =>
    cases hc
    obtain ⟨h0, h1, cs', el, hb, hsz, hv⟩ := h
    obtain ⟨⟨k, o, s⟩, l⟩ := p
    simp only at h0 h1 hb
    subst h0; subst h1
    have hil' : i < cs'.size := by omega
    refine ⟨cs'[i], ?_, hv i _ _ hi (Array.getElem?_eq_getElem hil')⟩
    have e : (⟨k, 0, none⟩ : Addr).add i = ⟨k, i, none⟩ := by unfold Addr.add; split <;> simp_all
    simp [e, World.cell?, hb, hil']
  | gr cs' =>
    cases hc
    obtain ⟨h1, cs', el, fr, hb, hfr, hsz, hl, hv⟩ := h
    obtain ⟨⟨k, o, s⟩, l⟩ := p
    simp only at h1 hb hsz hl hv
    subst h1
    have hil' : o + i < cs'.size := by omega
    refine ⟨cs'[o + i], ?_, hv i _ _ hi (Array.getElem?_eq_getElem hil')⟩
    have e : (⟨k, o, none⟩ : Addr).add i = ⟨k, o + i, none⟩ := by unfold Addr.add; split <;> simp_all
    simp [e, World.cell?, hb, hil']
  | dead => cases hc
  | mp es => cases hc
  | si s k => cases hc
  | lp r e => cases hc
theorem OR.same {p : Pl} {w w' : World} {ob : PO} (h : OR τ p w ob) (hb : w'.heap[p.base.block]? = w.heap[p.base.block]?) : OR τ p w' ob := by
  have hblk : ∀ i, (p.base.add i).block = p.base.block := fun i => by unfold Addr.add; split <;> rfl
  cases ob with
  | dead => trivial
  | ro cs =>
    intro i v hi
    obtain ⟨v', h1, h2⟩ := h i v hi
    exact ⟨v', by rw [← h1]; unfold World.cell?; rw [hblk, hb], h2⟩
  | rw cs => obtain ⟨h0, h1, cs', el, h2, h3⟩ := h; exact ⟨h0, h1, cs', el, hb.trans h2, h3⟩
  | gr cs => obtain ⟨h1, cs', el, fr, h2, h3⟩ := h; exact ⟨h1, cs', el, fr, hb.trans h2, h3⟩
  | mp es => obtain ⟨h0, es', ck, h2, h3⟩ := h; exact ⟨h0, es', ck, hb.trans h2, h3⟩
  | si s k => obtain ⟨h0, h1, h2⟩ := h; exact ⟨h0, h1, hb.trans h2⟩
  | lp r e => obtain ⟨h0, h1, h2, h3⟩ := h; exact ⟨h0, h1, hb.trans h2, h3⟩
theorem OR.mono {τ' : Tau} (hl : τ.le τ') {p : Pl} {w : World} {ob : PO} (h : OR τ p w ob) : OR τ' p w ob := by
  cases ob with
  | dead => trivial
  | ro cs => intro i v hi; obtain ⟨v', h1, h2⟩ := h i v hi; exact ⟨v', h1, h2.mono hl⟩
  | rw cs => obtain ⟨h0, h1, cs', el, h2, h3, h4⟩ := h; exact ⟨h0, h1, cs', el, h2, h3, fun i v v' a b => (h4 i v v' a b).mono hl⟩
  | gr cs => obtain ⟨h1, cs', el, fr, h2, h3, h4, h5, h6⟩ := h; exact ⟨h1, cs', el, fr, h2, h3, h4, h5, fun i v v' a b => (h6 i v v' a b).mono hl⟩
  | mp es => obtain ⟨h0, es', ck, h2, h3, h4, h5⟩ := h; exact ⟨h0, es', ck, h2, h3, fun i k v e a b => ⟨(h4 i k v e a b).1, (h4 i k v e a b).2.1.mono hl, (h4 i k v e a b).2.2⟩, h5⟩
  | si s k => exact h
  | lp r e => obtain ⟨h0, h1, h2, h3⟩ := h; exact ⟨h0, h1, h2, fun t v a => (h3 t v a).mono hl⟩
/-- A world in which the old blocks stand as they did. -/
theorem RH.fr {h : List PO} {w w' : World} (k : RH τ h w) (hf : Fr (fun _ => False) w w') : RH τ h w' := by
  refine ⟨fun b p hb => ?_, k.inj⟩
  obtain ⟨o, h1, h2, h3⟩ := k.ob b p hb
  by_cases hl : o.live = true
  · exact ⟨o, h1, h2.same (hf.block _ (h3 hl) (fun x => x)), fun _ => Nat.lt_of_lt_of_le (h3 hl) hf.size⟩
  · cases o <;> first | exact ⟨_, h1, trivial, fun x => absurd x hl⟩ | exact absurd rfl hl
theorem RH.append {h : List PO} {w : World} (k : RH τ h w) (ns : List PO) : RH τ (h ++ ns) w := by
  have key : ∀ b p, τ b = some p → (h ++ ns)[b]? = h[b]? := fun b p hb => by
    obtain ⟨o, h1, _⟩ := k.ob b p hb
    rw [List.getElem?_append_left (List.getElem?_eq_some_iff.1 h1).1]
  refine ⟨fun b p hb => by rw [key b p hb]; exact k.ob b p hb, fun b c p q o o' hne hb hc h1 h2 h3 h4 => ?_⟩
  rw [key b p hb] at h1
  rw [key c q hc] at h3
  exact k.inj b c p q o o' hne hb hc h1 h2 h3 h4
/-- One handle more. -/
theorem RH.put {h : List PO} {w : World} (k : RH τ h w) {b : Nat} {p : Pl} {o : PO} (hn : τ b = none) (hb : h[b]? = some o) (ho : OR (τ.put b p) p w o) (hlt : o.live = true → p.base.block < w.heap.size)
    (hfresh : ∀ c q o', τ c = some q → h[c]? = some o' → o'.live = true → q.base.block ≠ p.base.block) : RH (τ.put b p) h w := by
  have hle := Tau.le_put τ (p := p) hn
  refine ⟨fun c q hc => ?_, fun c d q r o1 o2 hne hc hd h1 h2 h3 h4 => ?_⟩
  · by_cases e : c = b
    · subst e
      rw [Tau.put_self] at hc; cases hc
      exact ⟨o, hb, ho, hlt⟩
    · rw [Tau.put_ne _ e] at hc
      obtain ⟨o1, h1, h2, h3⟩ := k.ob c q hc
      exact ⟨o1, h1, h2.mono hle, h3⟩
  · by_cases e : c = b
    · subst e
      rw [Tau.put_self] at hc; cases hc
      rw [Tau.put_ne _ (Ne.symm hne)] at hd
      exact (hfresh d r o2 hd h3 h4).symm
    · rw [Tau.put_ne _ e] at hc
      by_cases e' : d = b
      · subst e'
        rw [Tau.put_self] at hd; cases hd
        exact hfresh c q o1 hc h1 (by cases o1 <;> first | rfl | simp [PO.own] at h2)
      · rw [Tau.put_ne _ e'] at hd
        exact k.inj c d q r o1 o2 hne hc hd h1 h2 h3 h4
theorem RH.none {h : List PO} {w : World} (k : RH τ h w) {b : Nat} (hb : h.length ≤ b) : τ b = none := by
  cases e : τ b with
  | none => rfl
  | some p => obtain ⟨o, h1, _⟩ := k.ob b p e; have := (List.getElem?_eq_some_iff.1 h1).1; omega
/-- A block is made. -/
theorem RH.push {h : List PO} {w : World} (k : RH τ h w) {ob : Obj} {p : Pl} {o : PO} (hp : p.base.block = w.heap.size) (ho : OR (τ.put h.length p) p (w.alloc ob) o) : RH (τ.put h.length p) (h ++ [o]) (w.alloc ob) := by
  have hk := (k.fr (Fr.alloc _ w ob)).append [o]
  refine hk.put (k.none (Nat.le_refl _)) (by simp) ho (fun _ => by rw [hp]; simp) (fun c q o' hc h1 h2 => ?_)
  obtain ⟨o1, h3, _, h4⟩ := k.ob c q hc
  rw [List.getElem?_append_left (List.getElem?_eq_some_iff.1 h3).1, h3] at h1
  cases h1
  have := h4 h2
  omega
theorem QDoes.pure {a : Act} {o : Oper} {v : Value} (h : Does P a o τ v) {hp : List PO} {w : World} (hk : RH τ hp w) : QDoes P a o τ hp w v [] := by
  obtain ⟨v', h1, h2⟩ := h
  exact ⟨v', w, τ, h2 w, Tau.le_refl _, fun b p hb => .inl hb, by simpa using hk, h1, Fr.refl _ _⟩
theorem QDoes.made {a : Act} {o : Oper} {v v' : Value} {hp : List PO} {w : World} (hk : RH τ hp w) {ob : Obj} {p : Pl} {po : PO} (hb : p.base.block = w.heap.size) (ho : OR (τ.put hp.length p) p (w.alloc ob) po) (hr : (execOp a.eval o).run P w = .ok (.value v') (w.alloc ob)) (hv : VR (τ.put hp.length p) v v') : QDoes P a o τ hp w v [po] := by
  refine ⟨v', _, _, hr, Tau.le_put _ (hk.none (Nat.le_refl _)), fun b q hb' => ?_, hk.push hb ho, hv, Fr.alloc _ _ _⟩
  by_cases e : b = hp.length
  · subst e
    rw [Tau.put_self] at hb'; cases hb'
    exact .inr ⟨Nat.le_refl _, by omega⟩
  · rw [Tau.put_ne _ e] at hb'; exact .inl hb'
end
end Go.Proofs.YtjopikjefpenkaaDoor
/- The plain machine's operations that read memory or make some do as the model's. -/
namespace Go.Proofs.YtjopikjefpenkaaDoor
open Go.RowKit
section
variable {P : Program} {τ : Tau}
/-- Cells of a handle, in the model. -/
theorem RH.cells {h : List PO} {w : World} (k : RH τ h w) {b : Nat} {p : Pl} (hp : τ b = some p) {cs : List Value} (hc : hcells h b = some cs) (o n : Nat) (hn : o + n ≤ cs.length) :
    ∃ vs' : List Value, vs'.length = n ∧ VRs τ ((cs.drop o).take n).toArray vs'.toArray ∧ ∀ j v, vs'[j]? = some v → w.cell? ((p.base.add o).add j) = some v := by
  obtain ⟨ob, h1, h2, _⟩ := k.ob b p hp
  have hoc : ob.cells = some cs := by simpa [hcells, h1] using hc
  have key : ∀ m, m ≤ n → ∃ vs' : List Value, vs'.length = m ∧ (∀ (i : Nat) v v', ((cs.drop o).take m)[i]? = some v → vs'[i]? = some v' → VR τ v v') ∧ ∀ j v, vs'[j]? = some v → w.cell? ((p.base.add o).add j) = some v := by
    intro m
    induction m with
    | zero => exact fun _ => ⟨[], rfl, fun i v v' e => by simp at e, fun j v e => by simp at e⟩
    | succ m ih =>
      intro hm
      obtain ⟨vs, e1, e2, e3⟩ := ih (by omega)
      have hlt : o + m < cs.length := by omega
      obtain ⟨v', g1, g2⟩ := h2.cell hoc (List.getElem?_eq_getElem hlt)
      refine ⟨vs ++ [v'], by simp [e1], fun i u u' a1 a2 => ?_, fun j u a1 => ?_⟩
      · rw [List.getElem?_take] at a1
        split at a1
        · rename_i hi
          by_cases him : i < m
          · rw [List.getElem?_append_left (by omega)] at a2
            exact e2 i u u' (by rw [List.getElem?_take, if_pos him]; exact a1) a2
          · obtain rfl : i = m := by omega
            rw [List.getElem?_append_right (by omega)] at a2
            simp only [e1, Nat.sub_self, List.getElem?_cons_zero, Option.some.injEq] at a2
            subst a2
            rw [List.getElem?_drop, List.getElem?_eq_getElem hlt] at a1
            cases a1
            exact g2
        · cases a1
      · by_cases him : j < m
        · rw [List.getElem?_append_left (by omega)] at a1
          exact e3 j u a1
        · rw [List.getElem?_append_right (by omega), e1] at a1
          have : j - m = 0 := by
            cases hjm : j - m with
            | zero => rfl
            | succ q => rw [hjm] at a1; simp at a1
          obtain rfl : j = m := by omega
          simp only [Nat.sub_self, List.getElem?_cons_zero, Option.some.injEq] at a1
          subst a1
          rw [add_add']
          exact g1
  obtain ⟨vs, e1, e2, e3⟩ := key n (Nat.le_refl _)
  refine ⟨vs, e1, ⟨by simp [e1]; omega, fun i v v' a1 a2 => e2 i v v' (by simpa using a1) (by simpa using a2)⟩, e3⟩
theorem qload_sound {h : List PO} {w : World} (k : RH τ h w) {b o : Nat} {p : Pl} (hp : τ b = some p) {t : TypeId} {v : Value} (hq : qload P h t b o = some v) : ∃ v', VR τ v v' ∧ (loadVar t (p.base.add o)).run P w = .ok v' w := by
  unfold qload at hq
  split at hq
  · rename_i cs hc ha
    split at hq
    · rename_i n hn
      split at hq
      · rename_i hle
        cases hq
        obtain ⟨vs, e1, e2, e3⟩ := k.cells hp hc o n hle
        refine ⟨_, e2.agg, ?_⟩
        simp only [loadVar, Sem.run_bind, run_isAg ha, Result.andThen_ok, if_true, run_szOf hn]
        rw [← e1, run_loadCells_list w _ vs e3]
        rfl
      · cases hq
    · cases hq
  · rename_i cs hc ha
    obtain ⟨ob, h1, h2, _⟩ := k.ob b p hp
    have hoc : ob.cells = some cs := by simpa [hcells, h1] using hc
    obtain ⟨v', g1, g2⟩ := h2.cell hoc hq
    refine ⟨v', g2, ?_⟩
    simp only [loadVar, Sem.run_bind, run_isAg ha, Result.andThen_ok, Bool.false_eq_true, if_false, run_load, g1]
  · cases hq
theorem OR.rw_new {w : World} {τ' : Tau} {cs cs' : Array Value} {t : TypeId} (h : VRs τ' cs cs') : OR τ' ⟨⟨w.heap.size, 0, none⟩, 0⟩ (w.alloc (.cells cs' t)) (.rw cs.toList) :=
  ⟨rfl, rfl, cs', t, heap_alloc_new w _, by simp [h.1], fun i v v' a b => h.2 i v v' (by simpa using a) b⟩
theorem VRs.mono {τ' : Tau} (hl : τ.le τ') {a b : Array Value} (h : VRs τ a b) : VRs τ' a b := ⟨h.1, fun i v v' x y => (h.2 i v v' x y).mono hl⟩
theorem addr_new (g : Nat) : (⟨g, 0, none⟩ : Addr).add 0 = ⟨g, 0, none⟩ := rfl
theorem VR.newPtr {τ : Tau} {b g l : Nat} : VR (τ.put b ⟨⟨g, 0, none⟩, l⟩) (.pointer (some ⟨b, 0, none⟩)) (.pointer (some ⟨g, 0, none⟩)) := .ptr (p := ⟨⟨g, 0, none⟩, l⟩) 0 (Tau.put_self _ _ _)
theorem VR.newSlice {τ : Tau} {b g l n c : Nat} : VR (τ.put b ⟨⟨g, 0, none⟩, l⟩) (.slice (some ⟨b, 0, none⟩) n c) (.slice (some ⟨g, 0, none⟩) n c) := .sex (p := ⟨⟨g, 0, none⟩, l⟩) 0 n c (Tau.put_self _ _ _)
theorem rep_cells (n : Nat) (z : Array Value) (hz : 0 < z.size) : ((Array.range (n * z.size)).map (fun i => z[i % z.size]!)) = (rep n z.toList).toArray := by
  apply Array.ext'
  simp only [Array.toList_map, Array.toList_range, rep]
  induction n with
  | zero => simp
  | succ n ih =>
    rw [Nat.add_mul, Nat.one_mul, Nat.add_comm, List.range_add, List.map_append, List.replicate_succ, List.flatten_cons]
    congr 1
    · apply List.ext_getElem (by simp)
      intro i h1 h2
      simp at h1 h2
      simp [Nat.mod_eq_of_lt h2, h2]
    · rw [← ih, List.map_map]
      apply List.map_congr_left
      intro i _
      simp [Nat.add_mod_left]
theorem flat_rep {z : Array Value} (h : VRs τ z z) (n : Nat) : VRs τ (rep n z.toList).toArray (rep n z.toList).toArray := by
  refine ⟨rfl, fun i v v' h1 h2 => ?_⟩
  rw [h1] at h2; cases h2
  simp only [List.getElem?_toArray] at h1
  have hm : v ∈ rep n z.toList := List.mem_of_getElem? h1
  simp only [rep, List.mem_flatten, List.mem_replicate] at hm
  obtain ⟨l, ⟨_, rfl⟩, hv⟩ := hm
  obtain ⟨j, hj, rfl⟩ := List.getElem_of_mem hv
  simp only [Array.length_toList] at hj
  exact h.2 j _ _ (by simp [hj]) (by simp [hj])
theorem VR.sliceNone {n m : Nat} {y : Value} (h : VR τ (.slice none n m) y) : y = .slice none 0 0 := by cases h; rfl
theorem VR.sliceSome {A : Addr} {n m : Nat} {y : Value} (h : VR τ (.slice (some A) n m) y) : ∃ a c, y = .slice (some a) n c := by cases h <;> exact ⟨_, _, rfl⟩
theorem freeze_block (w : World) (g n : Nat) (cs : Array Value) (el : TypeId) (h : w.heap[g]? = some (.cells cs el (0, 0))) : (w.freeze ⟨g, n, none⟩ 1).heap[g]? = some (.cells cs el (n, n + 1)) := by
  simp [World.freeze, Array.getElem?_modify, h]
theorem freeze_other (w : World) (g n k : Nat) (h : k ≠ g) : (w.freeze ⟨g, n, none⟩ 1).heap[k]? = w.heap[k]? := by
  simp [World.freeze, Array.getElem?_modify, Ne.symm h]
theorem alloc_eq (w : World) (o : Obj) : ({ w with heap := w.heap.push o } : World) = w.alloc o := rfl
theorem bytes_run (w : World) : ∀ (l : List Value) (bs : List UInt8), bytesOf l = some bs → ∀ s : ByteArray, ((forIn l s fun c r => (match c with
      | .int .u8 n => (Pure.pure (ForInStep.yield (r.push (UInt8.ofNat n.toNat))) : Sem (ForInStep ByteArray))
      | _ => do
        stuck (α := PUnit) "bytesToString: byte expected"
        Pure.pure (ForInStep.yield r))) : Sem ByteArray).run P w = .ok ⟨(s.data.toList ++ bs).toArray⟩ w
  | [], bs, h, s => by cases h; simp
  | v :: l, bs, h, s => by
    unfold bytesOf at h
    split at h
    · rename_i e; simp at e
    · rename_i n l' e
      simp only [List.cons.injEq] at e
      obtain ⟨rfl, rfl⟩ := e
      obtain ⟨bs', hb, rfl⟩ := Option.map_eq_some_iff.1 h
      simp only [List.forIn_cons, Sem.run_bind, Sem.run_pure, Result.andThen_ok]
      rw [bytes_run w l bs' hb]
      simp
    · cases h
theorem bytesOf_flat : ∀ (l : List Value) (bs : List UInt8), bytesOf l = some bs → ∀ v ∈ l, flat 1 v = true
  | [], _, _, v, hv => by simp at hv
  | u :: l, bs, h, v, hv => by
    unfold bytesOf at h
    split at h
    · rename_i e; simp at e
    · rename_i n l' e
      simp only [List.cons.injEq] at e
      obtain ⟨rfl, rfl⟩ := e
      obtain ⟨bs', hb, rfl⟩ := Option.map_eq_some_iff.1 h
      rcases List.mem_cons.1 hv with rfl | hv
      · rfl
      · exact bytesOf_flat l bs' hb v hv
    · cases h
theorem VRs.list_eq {l l' : List Value} (h : VRs τ l.toArray l'.toArray) (hf : ∀ v ∈ l, ∃ n, flat n v = true) : l' = l := by
  have := array_eq h.1 (fun i v v' h1 h2 => by
    obtain ⟨n, hn⟩ := hf v (List.mem_of_getElem? (by simpa using h1))
    exact (h.2 i v v' h1 h2).flat_eq n hn)
  simpa using congrArg Array.toList this
theorem run_bytesToString {h : List PO} {w : World} (k : RH τ h w) {b o n : Nat} {p : Pl} (hp : τ b = some p) {cs : List Value} (hc : hcells h b = some cs) (hn : o + n ≤ cs.length) {bs : List UInt8} (hb : bytesOf ((cs.drop o).take n) = some bs) (cap : Nat) :
    (Conv.bytesToString (.slice (some (p.base.add o)) n cap)).run P w = .ok (.string ⟨bs.toArray⟩) w := by
  obtain ⟨vs, e1, e2, e3⟩ := k.cells hp hc o n hn
  have e4 := e2.list_eq (fun v hv => ⟨1, bytesOf_flat _ _ hb v hv⟩)
  subst e4
  simp only [Conv.bytesToString, Sem.run_bind]
  have hr := run_loadCells_list (P := P) w _ _ e3
  rw [e1] at hr
  rw [hr]
  simp only [Result.andThen_ok, List.forIn_toArray]
  exact congrArg (fun r => Result.andThen r (fun a w' => (Pure.pure (Value.string a) : Sem Value).run P w')) (bytes_run (P := P) w _ _ hb ByteArray.empty)
theorem pkey_isKey {d : TypeDesc} {k : Value} (h : pkey d k = true) : MapKept.IsKey d k := by
  unfold pkey at h
  split at h
  · trivial
  · simpa [MapKept.IsKey] using h
  · trivial
  · cases h
theorem sameNow_eq {d : TypeDesc} {a b : Value} (h : Instr.sameNow d a b = some true) : b = a := by
  unfold Instr.sameNow at h
  split at h
  · split at h
    · rename_i e; subst e; simp at h; rw [h]
    · cases h
  · simp only [Option.some.injEq] at h
    rw [(MapKept.bytes_beq _ _).1 h]
  · simp at h; rw [h]
  · cases h
/-- The model finds what the plain machine finds. -/
theorem pfind_sound {d : TypeDesc} {k : Value} : ∀ (es : List (Value × Value)) (es' : List MapEntry) (i : Nat) (r : Option (Nat × Value)), es'.length = es.length → (∀ (j : Nat) x y e, es[j]? = some (x, y) → es'[j]? = some e → e.key = x ∧ VR τ y e.val) → pfind d k es i = some r →
    match r with
    | none => Instr.findNow d k es' i = some none
    | some (n, v) => ∃ v', Instr.findNow d k es' i = some (some (n, v')) ∧ VR τ v v' ∧ i ≤ n ∧ ∃ x, es[n - i]? = some (x, v) ∧ x = k
  | [], [], i, r, _, _, h => by cases h; rfl
  | [], _ :: _, _, _, hl, _, _ => by simp at hl
  | _ :: _, [], _, _, hl, _, _ => by simp at hl
  | (x, y) :: es, e :: es', i, r, hl, hv, h => by
    obtain ⟨hk, hy⟩ := hv 0 x y e rfl rfl
    unfold pfind at h
    unfold Instr.findNow
    simp only at h
    rw [hk]
    split at h
    · rename_i hs
      cases h
      simp only [hs]
      exact ⟨_, rfl, hy, Nat.le_refl _, x, by simp, sameNow_eq hs⟩
    · rename_i hs
      have := pfind_sound es es' (i + 1) r (by simpa using hl) (fun j a b c h1 h2 => hv (j + 1) a b c (by simpa using h1) (by simpa using h2)) h
      simp only [hs]
      cases r with
      | none => exact this
      | some p =>
        obtain ⟨v', h1, h2, h3, x', h4, h5⟩ := this
        refine ⟨v', h1, h2, by omega, x', ?_, h5⟩
        rw [show p.1 - i = (p.1 - (i + 1)) + 1 by omega, List.getElem?_cons_succ]
        exact h4
    · cases h
theorem OR.map {p : Pl} {w : World} {es : List (Value × Value)} (h : OR τ p w (.mp es)) : ∃ (es' : Array MapEntry) (ck : Nat), p.base.off = 0 ∧ w.heap[p.base.block]? = some (.map es' ck) ∧ es'.toList.length = es.length ∧ (∀ (j : Nat) x y e, es[j]? = some (x, y) → es'.toList[j]? = some e → e.key = x ∧ VR τ y e.val) ∧ (∀ (i : Nat) k v e, es[i]? = some (k, v) → es'[i]? = some e → e.key = k ∧ VR τ v e.val ∧ e.born < ck) ∧ (∀ (i j : Nat) (e f : MapEntry), es'[i]? = some e → es'[j]? = some f → e.born = f.born → i = j) := by
  obtain ⟨h0, es', ck, h1, h2, h3, h4⟩ := h
  exact ⟨es', ck, h0, h1, by simpa using h2, fun j x y e a b => ⟨(h3 j x y e a (by simpa using b)).1, (h3 j x y e a (by simpa using b)).2.1⟩, h3, h4⟩
theorem mread_sound {h : List PO} {w : World} (k : RH τ h w) {m m' : Value} (hm : VR τ m m') {es : List (Value × Value)} (hr : mread h m = some es) :
    (es = [] ∧ m' = .map none) ∨ ∃ b p es' ck, m = .map (some b) ∧ h[b]? = some (.mp es) ∧ τ b = some p ∧ m' = .map (some p.base.block) ∧ w.heap[p.base.block]? = some (.map es' ck) ∧ es'.toList.length = es.length ∧ ∀ (j : Nat) x y e, es[j]? = some (x, y) → es'.toList[j]? = some e → e.key = x ∧ VR τ y e.val := by
  unfold mread at hr
  split at hr
  · cases hr; cases hm; exact .inl ⟨rfl, rfl⟩
  · rename_i b
    split at hr
    · rename_i es1 hb
      cases hr
      cases hm with
      | map hp h0 =>
        rename_i p
        obtain ⟨o, g1, g2, _⟩ := k.ob b p hp
        rw [hb] at g1; cases g1
        obtain ⟨es', ck, _, q1, q2, q3, _⟩ := g2.map
        exact .inr ⟨b, p, es', ck, rfl, hb, hp, rfl, q1, q2, q3⟩
    · cases hr
  · cases hr
set_option maxHeartbeats 1600000 in
theorem qm_sound {e : Env} {a : Act} {o : Oper} {hp : List PO} {w : World} {c : Prop} {v : Value} {ns : List PO} (hx : Ag τ e a) (hk : RH τ hp w) (h : qm P e hp o.op = some (c, v, ns)) (hc : c) : QDoes P a o τ hp w v ns := by
  obtain ⟨dst, op, type, pos, after, guard⟩ := o
  simp only at h
  unfold qm at h
  split at h
  -- load
  · split at h
    · rename_i b o h1
      obtain ⟨u, hu, h⟩ := Option.map_eq_some_iff.1 h
      cases h
      obtain ⟨p, hpl, e1⟩ := (hx _ _ h1).ptr'
      obtain ⟨v', g1, g2⟩ := qload_sound hk hpl hu
      refine ⟨v', w, τ, ?_, Tau.le_refl _, fun b p hb => .inl hb, by simpa using hk, g1, Fr.refl _ _⟩
      simp only [execOp, e1, Instr.loadAt, Instr.sureAddr, Sem.run_bind, Sem.run_pure, Result.andThen_ok, g2]
    · cases h
  -- alloc
  · rename_i t
    split at h
    · rename_i z hz
      split at h
      · rename_i hf
        cases h
        refine QDoes.made hk rfl (OR.rw_new (VRs.of_flat hf)) ?_ VR.newPtr (ob := .cells z.cells t)
        simp only [execOp, Instr.alloc, Sem.run_bind, run_zOf hz, Result.andThen_ok, newVar, newRow, run_newObj, Sem.run_pure, alloc_eq]
      · cases h
    · cases h
  -- box
  · rename_i t x
    split at h
    · rename_i u h1
      cases h
      have hv := (hx _ _ h1).mono (Tau.le_put τ (p := ⟨⟨w.heap.size, 0, none⟩, 0⟩) (hk.none (Nat.le_refl _)))
      refine QDoes.made hk rfl (OR.rw_new hv.cells) ?_ VR.newPtr (ob := .cells (a.eval x).cells t)
      simp only [execOp, Instr.box, Sem.run_bind, newVar, newRow, run_newObj, Result.andThen_ok, Sem.run_pure, alloc_eq]
    · cases h
  -- buildSlice
  · rename_i t n ps
    split at h
    · rename_i el l ht hl
      split at h
      · rename_i sz z hs hz
        split at h
        · rename_i hcnd
          obtain ⟨q1, q2, q3, q4⟩ := hcnd
          split at h
          · rename_i cs hcs
            cases h
            have hle := Tau.le_put τ (p := ⟨⟨w.heap.size, 0, none⟩, 0⟩) (hk.none (Nat.le_refl _))
            have hx' : Ag (τ.put hp.length ⟨⟨w.heap.size, 0, none⟩, 0⟩) e a := fun x v hv => (hx x v hv).mono hle
            obtain ⟨cs', g1, g2⟩ := fill_sound _ _ _ _ _ _ hcs (flat_rep (VRs.of_flat q4) n) (evp_sound hx' _ _ hl)
            refine QDoes.made hk rfl (OR.rw_new g2) ?_ VR.newSlice (ob := .cells cs' el)
            have hne : ¬ (n * sz > 2 ^ 24) := by omega
            have hps : (ps.map (fun (x : Nat × Operand) => (x.1, a.eval x.2))).toList = (ps.toList.map (fun (x : Nat × Operand) => (x.1, a.eval x.2))) := by simp
            simp only [execOp, Instr.buildSlice, Sem.run_bind, run_und ht, run_szOf hs, Result.andThen_ok, Sem.run_ite, if_neg hne]
            have g1' : Instr.fill (fun i => some (i * sz, sz)) (rep n z.cells.toList).toArray (ps.map (fun (x : Nat × Operand) => (x.1, a.eval x.2))).toList = some cs' := by rw [hps]; exact g1
            by_cases h0 : n * sz = 0
            · have hn0 : n = 0 := by rcases Nat.mul_eq_zero.1 h0 with h | h <;> omega
              subst hn0
              simp only [h0, if_true, Sem.run_pure, Result.andThen_ok]
              have : (Array.range 0).map (fun x => (#[] : Array Value)[x % (#[] : Array Value).size]!) = (rep 0 z.cells.toList).toArray := by simp [rep]
              rw [this, g1']
              simp only [Sem.run_bind, newRow, run_newObj, Result.andThen_ok, Sem.run_pure, alloc_eq]
            · simp only [h0, if_false, Sem.run_pure, Result.andThen_ok, run_zOf hz]
              have : (Array.range (n * sz)).map (fun i => z.cells[i % z.cells.size]!) = (rep n z.cells.toList).toArray := by rw [← q1]; exact rep_cells n z.cells (by omega)
              rw [this, g1']
              simp only [Sem.run_bind, newRow, run_newObj, Result.andThen_ok, Sem.run_pure, alloc_eq]
          · cases h
        · cases h
      · cases h
    · cases h
  -- makeSlice
  · rename_i t l c
    split at h
    · rename_i el kl l kc c ht h1 h2
      split at h
      · rename_i i hi
        split at h
        · rename_i z hz
          split at h
          · rename_i hcnd
            obtain ⟨q1, q2, q3⟩ := hcnd
            cases h
            obtain ⟨c1, c2, c3, c4⟩ := hc
            have e1 := (hx _ _ h1).int'
            have e2 := (hx _ _ h2).int'
            have hzo : zOf P el = some z := by simp [zOf, hi, hz]
            have hso : szOf P el = some i.size := by simp [szOf, hi]
            refine QDoes.made hk rfl (OR.rw_new (flat_rep (VRs.of_flat q3) c.toNat)) ?_ VR.newSlice (ob := .cells (rep c.toNat z.cells.toList).toArray el)
            have w1 : IntKind.i64.wrap l = l := by simp [IntKind.wrap, IntKind.bits, IntKind.signed]; omega
            have w2 : IntKind.i64.wrap c = c := by simp [IntKind.wrap, IntKind.bits, IntKind.signed]; omega
            have t1 : (decide (c < 0) || decide ((i.bytes : Int) * c > 2 ^ 48)) = false := by
              simp only [Bool.or_eq_false_iff, decide_eq_false_iff_not]
              exact ⟨by omega, by omega⟩
            have t2 : ¬ (((decide (c < 0) || decide ((i.bytes : Int) * c > 2 ^ 48)) || decide (l < 0) || decide (l > c)) = true) := by
              rw [t1]; simp; omega
            simp only [execOp, e1, e2, Instr.makeSlice, asInt, asIntOf, typeInfo, Sem.run_bind, run_und ht, run_program, hi, Result.andThen_ok, Sem.run_pure, w1, w2, Sem.run_ite, if_neg t2, run_askRoom, run_szOf hso]
            by_cases h0 : c.toNat * i.size = 0
            · have hn0 : c.toNat = 0 := by rcases Nat.mul_eq_zero.1 h0 with h | h <;> omega
              have : (Array.range 0).map (fun x => (#[] : Array Value)[x % (#[] : Array Value).size]!) = (rep 0 z.cells.toList).toArray := by simp [rep]
              simp only [hn0, Nat.zero_mul, if_true, Sem.run_pure, Result.andThen_ok, this, newRow, run_newObj, Sem.run_bind, alloc_eq]
            · have : (Array.range (c.toNat * i.size)).map (fun j => z.cells[j % z.cells.size]!) = (rep c.toNat z.cells.toList).toArray := by rw [← q1]; exact rep_cells c.toNat z.cells (by omega)
              simp only [h0, if_false, Sem.run_pure, Sem.run_bind, Result.andThen_ok, run_zOf hzo, this, newRow, run_newObj, alloc_eq]
          · cases h
        · cases h
      · cases h
    · cases h
  -- makeMap
  · rename_i t
    cases h
    refine QDoes.made hk (p := ⟨⟨w.heap.size, 0, none⟩, 0⟩) rfl (po := .mp []) (ob := .map #[] 0) ⟨rfl, #[], 0, heap_alloc_new w _, rfl, fun i k v e h => by simp at h, fun i j e f h => by simp at h⟩ ?_ (v' := .map (some w.heap.size)) (.map (Tau.put_self _ _ _) rfl)
    simp only [execOp, Instr.makeMap, Sem.run_bind, Option.map_none, Sem.run_pure, Result.andThen_ok, run_newObj, alloc_eq]
  -- convert
  · rename_i s d x
    split at h
    · rename_i el v1 hs hd h1
      split at h
      · rename_i he
        split at h
        · cases h
          have e1 : a.eval x = .slice none 0 0 := (hx _ _ h1).sliceNone
          refine ⟨_, w, τ, ?_, Tau.le_refl _, fun b p hb => .inl hb, by simpa using hk, .str _, Fr.refl _ _⟩
          simp only [execOp, e1, convert, Sem.run_bind, run_und hs, run_und hd, Result.andThen_ok, run_und he, Conv.bytesToString, Sem.run_pure]
        · rename_i b o sp n cp
          split at h
          · rename_i hn
            cases h
            subst hn
            obtain ⟨a', c', e1⟩ := (hx _ _ h1).sliceSome
            refine ⟨_, w, τ, ?_, Tau.le_refl _, fun b p hb => .inl hb, by simpa using hk, .str _, Fr.refl _ _⟩
            have hl : (loadCells a' 0).run P w = .ok #[] w := by simp [loadCells, loadCellsFrom]
            simp only [execOp, e1, convert, Sem.run_bind, run_und hs, run_und hd, Result.andThen_ok, run_und he, Conv.bytesToString, hl]
            simp
          · rename_i hn
            split at h
            · rename_i cs hcs
              split at h
              · rename_i hle
                obtain ⟨bs, hbs, h⟩ := Option.map_eq_some_iff.1 h
                cases h
                obtain ⟨p, cc, hp', e1⟩ := (hx _ _ h1).slicePos (by omega)
                refine ⟨_, w, τ, ?_, Tau.le_refl _, fun b p hb => .inl hb, by simpa using hk, .str _, Fr.refl _ _⟩
                simp only [execOp, e1, convert, Sem.run_bind, run_und hs, run_und hd, Result.andThen_ok, run_und he, run_bytesToString hk hp' hcs hle hbs, Sem.run_pure]
              · cases h
            · cases h
        · cases h
      · cases h
    · rename_i d1 el s1 hs hd h1
      split at h
      · rename_i he
        cases h
        have e1 := (hx _ _ h1).str'
        obtain ⟨cap, hcap, hle, hmx⟩ : ∃ cap, (Question.appendCap s1.size 0 el).cut (w.tape w.drawn (.appendCap s1.size 0 el)) = cap ∧ s1.size ≤ cap ∧ cap ≤ 9223372036854775807 := ⟨_, rfl, by simp [Question.cut], by
          have hs1 : s1.size < 2 ^ 63 := by omega
          have := Nat.mod_lt (w.tape w.drawn (.appendCap s1.size 0 el)) (show 0 < 2 ^ 63 - s1.size by omega)
          simp only [Question.cut]
          omega⟩
        have hcells : (s1.data.map (fun b : UInt8 => Value.int .u8 (b.toNat : Int)) ++ Array.replicate (cap - s1.size) (Value.int .u8 0)).size = cap := by simp; show s1.size + _ = _; omega
        generalize hcs : (s1.data.map (fun b : UInt8 => Value.int .u8 (b.toNat : Int)) ++ Array.replicate (cap - s1.size) (Value.int .u8 0)) = cs' at hcells
        have hrun : (execOp a.eval ⟨dst, .convert s d x, type, pos, after, guard⟩).run P w = .ok (.value (.slice (some ⟨w.heap.size, 0, none⟩) s1.size cap)) ((({ w with drawn := w.drawn + 1 } : World).alloc (.cells cs' el)).freeze ⟨w.heap.size, cap, none⟩ 1) := by
          have hsh : ((({ w with drawn := w.drawn + 1 } : World).alloc (.cells cs' el))).shape? w.heap.size = some (el, cap) := by
            simp [World.shape?, World.alloc, hcells]
          simp only [execOp, e1, convert, Sem.run_bind, run_und hs, run_und hd, Result.andThen_ok]
          cases d1 <;> simp only [run_und he, Sem.run_bind, Result.andThen_ok, Conv.stringToBytes, run_choose, Question.forced, Bool.false_eq_true, if_false, hcap, hcs, newRow, run_newObj, Sem.run_pure, alloc_eq, markStringish, run_shape, run_freeze] <;> (erw [hsh]; rfl)
        have hfr : Fr (fun _ => False) w ((({ w with drawn := w.drawn + 1 } : World).alloc (.cells cs' el)).freeze ⟨w.heap.size, cap, none⟩ 1) := by
          refine ⟨rfl, rfl, rfl, by simp [World.freeze], fun k hk' _ => ?_⟩
          rw [freeze_other _ _ _ _ (by omega)]
          exact Below.heap_alloc _ _ _ hk'
        have hnone := hk.none (Nat.le_refl _)
        refine ⟨_, _, τ.put hp.length ⟨⟨w.heap.size, 0, none⟩, cap⟩, hrun, Tau.le_put _ hnone, fun b q hb => ?_, ?_, ?_, hfr⟩
        · by_cases e : b = hp.length
          · subst e; rw [Tau.put_self] at hb; cases hb; exact .inr ⟨Nat.le_refl _, Nat.le_refl _⟩
          · rw [Tau.put_ne _ e] at hb; exact .inl hb
        · refine ((hk.fr hfr).append _).put (o := .gr (s1.data.toList.map fun b => .int .u8 b.toNat)) hnone (by simp) ⟨rfl, cs', el, (cap, cap + 1), freeze_block _ _ _ _ _ (heap_alloc_new _ _), .inr (by simp [hcells]), by simp [hcells], by simpa using hle, fun i v v' a1 a2 => ?_⟩ (fun _ => by simp [World.freeze]) (fun c q o' h1 h2 h3 => ?_)
          · simp only [List.getElem?_map] at a1
            obtain ⟨bb, hb1, rfl⟩ := Option.map_eq_some_iff.1 a1
            have hi := (List.getElem?_eq_some_iff.1 hb1).1
            simp only [Array.length_toList] at hi
            rw [← hcs, Nat.zero_add, Array.getElem?_append_left (by simpa using hi)] at a2
            simp only [Array.getElem?_map] at a2
            simp only [Array.getElem?_toList] at hb1
            rw [hb1] at a2
            cases a2
            exact .int _ _
          · obtain ⟨o1, g1, _, g2⟩ := hk.ob c q h1
            rw [List.getElem?_append_left (List.getElem?_eq_some_iff.1 g1).1, g1] at h2
            cases h2
            have := g2 h3
            simp only
            omega
        · exact .sun (p := ⟨⟨w.heap.size, 0, none⟩, cap⟩) 0 1 _ _ cap (Tau.put_self _ _ _) (by decide) hle hmx (by simp)
      · cases h
    · cases h
  -- range
  · rename_i t x
    split at h
    · rename_i s ht h1
      cases h
      have e1 := (hx _ _ h1).str'
      refine QDoes.made hk (p := ⟨⟨w.heap.size, 0, none⟩, 0⟩) rfl (po := .si s 0) (ob := .stringIter s 0) ⟨rfl, rfl, heap_alloc_new w _⟩ ?_ (v' := .pointer (some ⟨w.heap.size, 0, none⟩)) VR.newPtr
      simp only [execOp, e1, Instr.range, Sem.run_bind, run_und ht, Sem.run_pure, Result.andThen_ok, run_newObj, alloc_eq]
    · cases h
  -- lookup
  · rename_i t x ix ok
    split at h
    · rename_i kt et m k ht h1 h2
      split at h
      · rename_i d z es hd hz hes
        split at h
        · rename_i hcnd
          obtain ⟨hpk, hfl⟩ := hcnd
          obtain ⟨r, hr, h⟩ := Option.map_eq_some_iff.1 h
          cases h
          have hk2 := pkey_isKey hpk
          have e2 : a.eval ix = k := (hx _ _ h2).flat_eq 1 (by
            unfold pkey at hpk
            split at hpk <;> first | rfl | cases hpk)
          obtain ⟨es', ck, hl', hv', hrun⟩ : ∃ (es' : Array MapEntry) (ck : Nat), es'.toList.length = es.length ∧ (∀ (j : Nat) x y e, es[j]? = some (x, y) → es'.toList[j]? = some e → e.key = x ∧ VR τ y e.val) ∧ ((a.eval x = .map none ∧ es' = #[]) ∨ ∃ b, a.eval x = .map (some b) ∧ w.heap[b]? = some (.map es' ck)) := by
            rcases mread_sound hk (hx _ _ h1) hes with ⟨rfl, e1⟩ | ⟨b, p, es', ck, _, _, _, e1, e3, e4, e5⟩
            · exact ⟨#[], 0, rfl, fun j x y e q => by simp at q, .inl ⟨e1, rfl⟩⟩
            · exact ⟨es', ck, e4, e5, .inr ⟨_, e1, e3⟩⟩
          have hck := fun (b : Bool) => MapKept.run_checkKey (w := w) hd hk2 b 9999
          have hfs := pfind_sound es es'.toList 0 r hl' hv' hr
          have hfr : ∃ r' : Option (Nat × Value), Instr.findNow d k es'.toList 0 = some r' ∧ ∃ v', VR τ (lkv ok z r) v' ∧ v' = (match r' with | some p => if ok then Value.tuple #[p.2, .bool true] else p.2 | none => if ok then .tuple #[z, .bool false] else z) := by
            cases r with
            | none =>
              refine ⟨none, hfs, _, ?_, rfl⟩
              unfold lkv
              cases ok
              · exact VR.of_flat hfl
              · exact .tuple rfl (fun i v v' q1 q2 => by
                  match i with
                  | 0 => cases q1; cases q2; exact VR.of_flat hfl
                  | 1 => cases q1; cases q2; exact .bool _
                  | n + 2 => simp at q1)
            | some p =>
              obtain ⟨v', q1, q2, _⟩ := hfs
              refine ⟨_, q1, _, ?_, rfl⟩
              unfold lkv
              cases ok
              · exact q2
              · exact .tuple rfl (fun i v v' q3 q4 => by
                  match i with
                  | 0 => cases q3; cases q4; exact q2
                  | 1 => cases q3; cases q4; exact .bool _
                  | n + 2 => simp at q3)
          obtain ⟨r', hf1, v', hf2, hf3⟩ := hfr
          have hfk := MapKept.run_findKey (w := w) hd hf1
          refine ⟨v', w, τ, ?_, Tau.le_refl _, fun b p hb => .inl hb, by simpa using hk, hf2, Fr.refl _ _⟩
          subst hf3
          rcases hrun with ⟨e1, rfl⟩ | ⟨b, e1, e3⟩
          · simp only [execOp, e1, e2, Instr.lookup, Sem.run_bind, run_und ht, Sem.run_pure, Result.andThen_ok, hck, hfk]
            cases r' <;> simp only [Sem.run_bind, Sem.run_pure, Result.andThen_ok, run_zOf hz]
          · simp only [execOp, e1, e2, Instr.lookup, Sem.run_bind, run_und ht, Sem.run_pure, Result.andThen_ok, MapKept.run_getObj_map e3, hck, hfk]
            cases r' <;> simp only [Sem.run_bind, Sem.run_pure, Result.andThen_ok, run_zOf hz]
        · cases h
      · cases h
    · cases h
  · cases h
end
end Go.Proofs.YtjopikjefpenkaaDoor
/- The plain machine's operations that write. -/
namespace Go.Proofs.YtjopikjefpenkaaDoor
open Go.RowKit
/-- An operation of the model does this to the memories. -/
def MDoes (P : Program) (a : Act) (o : Oper) (τ : Tau) (h : List PO) (w : World) (v : Value) (h' : List PO) : Prop :=
  ∃ r v' w' τ', (execOp a.eval o).run P w = .ok r w' ∧ (r = .value v' ∨ (r = .skip ∧ v' = undef)) ∧ τ.le τ' ∧ RH τ' h' w' ∧ VR τ' v v' ∧ Fr (wset τ h) w w' ∧ (∀ k, wset τ' h' k → wset τ h k ∨ w.heap.size ≤ k)
section
variable {P : Program} {τ : Tau}
theorem QDoes.does {a : Act} {o : Oper} {h : List PO} {w : World} {v : Value} {ns : List PO} (hk : RH τ h w) (q : QDoes P a o τ h w v ns) : MDoes P a o τ h w v (h ++ ns) := by
  obtain ⟨v', w', τ', h1, h2, h3, h4, h5, h6⟩ := q
  refine ⟨_, v', w', τ', h1, .inl rfl, h2, h4, h5, h6.mono (fun _ _ x => x.elim), fun k hw => ?_⟩
  obtain ⟨b, p, ob, g1, g2, g3, rfl⟩ := hw
  rcases h3 b p g1 with g4 | ⟨_, g4⟩
  · obtain ⟨o1, g5, _⟩ := hk.ob b p g4
    rw [List.getElem?_append_left (List.getElem?_eq_some_iff.1 g5).1] at g2
    exact .inl ⟨b, p, ob, g4, g2, g3, rfl⟩
  · exact .inr g4
/-- Cells laid over a row from a place on. -/
def laid (cs vs : List Value) (o : Nat) : List Value := cs.take o ++ vs ++ cs.drop (o + vs.length)
theorem laid_length {cs vs : List Value} {o : Nat} (h : o + vs.length ≤ cs.length) : (laid cs vs o).length = cs.length := by simp [laid]; omega
theorem laid_get {cs vs : List Value} {o : Nat} (h : o + vs.length ≤ cs.length) (i : Nat) : (laid cs vs o)[i]? = if o ≤ i ∧ i < o + vs.length then vs[i - o]? else cs[i]? := by
  unfold laid
  by_cases h1 : i < o
  · rw [if_neg (by omega), List.append_assoc, List.getElem?_append_left (by simp; omega), List.getElem?_take, if_pos h1]
  · by_cases h2 : i < o + vs.length
    · rw [if_pos ⟨by omega, h2⟩, List.append_assoc, List.getElem?_append_right (by simp; omega), List.getElem?_append_left (by simp; omega)]
      congr 1
      simp; omega
    · rw [if_neg (by omega), List.getElem?_append_right (by simp; omega), List.getElem?_drop]
      congr 1
      simp; omega
theorem setCell_block (w : World) (k j : Nat) (v : Value) (cs : Array Value) (el : TypeId) (fr : Nat × Nat) (h : w.heap[k]? = some (.cells cs el fr)) : (w.setCell ⟨k, j, none⟩ v).heap[k]? = some (.cells (cs.setIfInBounds j v) el fr) := by
  simp [World.setCell, Array.getElem?_modify, h]
theorem Fr.setCell (w : World) (k j : Nat) (v : Value) : Fr (· = k) w (w.setCell ⟨k, j, none⟩ v) :=
  ⟨rfl, rfl, rfl, by simp [World.setCell], fun i _ hn => Below.heap_setCell _ _ _ _ (fun e => hn e)⟩
theorem run_storeCells_blk (k off : Nat) (el : TypeId) (fr : Nat × Nat) : ∀ (vs : List Value) (i : Nat) (cur : Array Value) (w : World), w.heap[k]? = some (.cells cur el fr) → (fr.2 ≤ fr.1 ∨ cur.size ≤ fr.1) → off + i + vs.length ≤ cur.size → (∀ v ∈ vs, v.oneCell' = true) →
    ∃ w' cur', (storeCells ⟨k, off, none⟩ vs i).run P w = .ok () w' ∧ w'.heap[k]? = some (.cells cur' el fr) ∧ Fr (· = k) w w' ∧ cur'.size = cur.size ∧ ∀ j, cur'[j]? = if off + i ≤ j ∧ j < off + i + vs.length then vs[j - (off + i)]? else cur[j]?
  | [], i, cur, w, h, _, _, _ => ⟨w, cur, by simp [storeCells], h, Fr.refl _ _, rfl, fun j => by rw [if_neg (by simp)]⟩
  | v :: vs, i, cur, w, h, hf, hl, h1 => by
    simp only [List.length_cons] at hl
    have hadd : (⟨k, off, none⟩ : Addr).add i = ⟨k, off + i, none⟩ := by unfold Addr.add; split <;> simp_all
    have hcell : w.cell? ⟨k, off + i, none⟩ = some (cur[off + i]'(by omega)) := by simp [World.cell?, h, show off + i < cur.size by omega]
    have hfz : w.frozen? ⟨k, off + i, none⟩ = false := by
      simp only [World.frozen?, h]
      simp only [Bool.and_eq_false_iff, decide_eq_false_iff_not]
      omega
    obtain ⟨w', cur', e1, e2, e3, e4, e5⟩ := run_storeCells_blk k off el fr vs (i + 1) (cur.setIfInBounds (off + i) v) (w.setCell ⟨k, off + i, none⟩ v) (setCell_block _ _ _ _ _ _ _ h) (by simpa using hf) (by simp; omega) (fun u hu => h1 u (List.mem_cons_of_mem _ hu))
    refine ⟨w', cur', ?_, e2, (Fr.setCell w k (off + i) v).trans e3, by simpa using e4, fun j => ?_⟩
    · simp only [storeCells, Sem.run_bind, hadd, run_store P w _ v _ (h1 v (by simp)), hcell, hfz, Bool.false_eq_true, if_false, Result.andThen_ok, e1]
    · rw [e5 j]
      by_cases hj : j = off + i
      · subst hj
        rw [if_neg (by omega), if_pos (by simp)]
        simp [show off + i < cur.size by omega]
      · by_cases hj2 : off + (i + 1) ≤ j ∧ j < off + (i + 1) + vs.length
        · rw [if_pos hj2, if_pos (by simp only [List.length_cons]; omega)]
          rw [show j - (off + i) = (j - (off + (i + 1))) + 1 by omega, List.getElem?_cons_succ]
        · rw [if_neg hj2, if_neg (by simp only [List.length_cons]; omega), Array.getElem?_setIfInBounds_ne (by omega)]
theorem VR.oneCell {v v' : Value} (h : VR τ v v') : v'.oneCell' = v.oneCell' := by cases h <;> rfl
/-- The same handles, the block of one turned. -/
theorem RH.turn {h : List PO} {w w' : World} (k : RH τ h w) {b : Nat} {p : Pl} {o o' : PO} (hp : τ b = some p) (hb : h[b]? = some o) (ho : o.own = true) (ho' : o'.own = true) (hf : Fr (· = p.base.block) w w') (hor : OR τ p w' o') : RH τ (h.set b o') w' := by
  have hbl := (List.getElem?_eq_some_iff.1 hb).1
  have hown : ∀ {x : PO}, x.own = true → x.live = true := fun {x} hx => by cases x <;> first | rfl | simp [PO.own] at hx
  refine ⟨fun c q hc => ?_, fun c d q r o1 o2 hne hc hd h1 h2 h3 h4 => ?_⟩
  · by_cases e : c = b
    · subst e
      rw [hp] at hc; cases hc
      obtain ⟨o3, h3, _, h5⟩ := k.ob c p hp
      rw [hb] at h3; cases h3
      exact ⟨o', by rw [List.getElem?_set_self hbl], hor, fun _ => Nat.lt_of_lt_of_le (h5 (hown ho)) hf.size⟩
    · obtain ⟨o3, h3, h4, h5⟩ := k.ob c q hc
      refine ⟨o3, by rw [List.getElem?_set_ne (Ne.symm e)]; exact h3, ?_, fun hl => Nat.lt_of_lt_of_le (h5 hl) hf.size⟩
      by_cases hl : o3.live = true
      · exact h4.same (hf.block _ (h5 hl) (fun e2 => k.inj b c p q o o3 (Ne.symm e) hp hc hb ho h3 hl e2.symm))
      · cases o3 <;> first | trivial | exact absurd rfl hl
  · have key : ∀ (x : Nat) (y : PO), (h.set b o')[x]? = some y → ∃ z, h[x]? = some z ∧ (y.own = true → z.own = true) ∧ (y.live = true → z.live = true) := fun x y hx => by
      by_cases e : x = b
      · subst e; exact ⟨o, hb, fun _ => ho, fun _ => hown ho⟩
      · rw [List.getElem?_set_ne (Ne.symm e)] at hx; exact ⟨y, hx, id, id⟩
    obtain ⟨z1, g1, g2, _⟩ := key c o1 h1
    obtain ⟨z2, g3, _, g4⟩ := key d o2 h3
    exact k.inj c d q r z1 z2 hne hc hd g1 (g2 h2) g3 (g4 h4)
theorem wset_turn {h : List PO} {b : Nat} {o o' : PO} (hb : h[b]? = some o) (ho : o.own = true) {k : Nat} (hw : wset τ (h.set b o') k) : wset τ h k := by
  obtain ⟨c, p, x, h1, h2, h3, h4⟩ := hw
  by_cases e : c = b
  · subst e; exact ⟨c, p, o, h1, hb, ho, h4⟩
  · rw [List.getElem?_set_ne (Ne.symm e)] at h2; exact ⟨c, p, x, h1, h2, h3, h4⟩
end
/-- Cells written at a place of a handle. -/
def hput (h : List PO) (b o : Nat) (vs : List Value) : Option (List PO) :=
  match h[b]? with
  | some (.rw cs) => if o + vs.length ≤ cs.length then some (h.set b (.rw (laid cs vs o))) else none
  | some (.gr cs) => if o + vs.length ≤ cs.length then some (h.set b (.gr (laid cs vs o))) else none
  | _ => none
section
variable {P : Program} {τ : Tau}
theorem hput_sound' {h h' : List PO} {w : World} (k : RH τ h w) {b o : Nat} {p : Pl} (hp : τ b = some p) {vs vs' : List Value} (hv : VRs τ vs.toArray vs'.toArray) (h1 : ∀ v ∈ vs, v.oneCell' = true) (hh : hput h b o vs = some h') :
    ∃ w', (storeCells (p.base.add o) vs').run P w = .ok () w' ∧ RH τ h' w' ∧ Fr (wset τ h) w w' ∧ (∀ j, wset τ h' j → wset τ h j) ∧ Fr (· = p.base.block) w w' := by
  have hlen : vs.length = vs'.length := by simpa using hv.1
  have h1' : ∀ v ∈ vs', v.oneCell' = true := fun v hm => by
    obtain ⟨i, hi, rfl⟩ := List.getElem_of_mem hm
    have hi' : i < vs.length := by omega
    rw [(hv.2 i vs[i] vs'[i] (by simp [hi']) (by simp [hi])).oneCell]
    exact h1 _ (List.getElem_mem _)
  unfold hput at hh
  split at hh
  · rename_i cs hb
    split at hh
    · rename_i hle
      cases hh
      obtain ⟨ob, g1, g2, g3⟩ := k.ob b p hp
      rw [hb] at g1; cases g1
      obtain ⟨e0, es, cs', el, eb, ez, ev⟩ := g2
      have hbase : p.base.add o = ⟨p.base.block, o, none⟩ := by
        obtain ⟨⟨x, y, z⟩, l⟩ := p
        simp only at e0 es; subst e0; subst es
        unfold Addr.add; split <;> simp_all
      obtain ⟨w', cur', r1, r2, r3, r4, r5⟩ := run_storeCells_blk (P := P) p.base.block o el (0, 0) vs' 0 cs' w eb (.inl (Nat.le_refl _)) (by omega) h1'
      refine ⟨w', by rw [hbase]; exact r1, k.turn hp hb rfl rfl r3 ⟨e0, es, cur', el, r2, by rw [r4, ez, laid_length hle], fun i v v' a1 a2 => ?_⟩, r3.mono (fun x _ e => ⟨b, p, _, hp, hb, rfl, e.symm⟩), fun j => wset_turn hb rfl, r3⟩
      rw [laid_get hle] at a1
      rw [r5 i] at a2
      rw [Nat.add_zero, ← hlen] at a2
      split at a1
      · rename_i hi; rw [if_pos hi] at a2; exact hv.2 (i - o) v v' (by simpa using a1) (by simpa using a2)
      · rename_i hi; rw [if_neg hi] at a2; exact ev i v v' a1 a2
    · cases hh
  · rename_i cs hb
    split at hh
    · rename_i hle
      cases hh
      obtain ⟨ob, g1, g2, g3⟩ := k.ob b p hp
      rw [hb] at g1; cases g1
      obtain ⟨es, cs', el, fr, eb, ef, ez, el', ev⟩ := g2
      have hbase : p.base.add o = ⟨p.base.block, p.base.off + o, none⟩ := by
        obtain ⟨⟨x, y, z⟩, l⟩ := p
        simp only at es; subst es
        unfold Addr.add; split <;> simp_all
      obtain ⟨w', cur', r1, r2, r3, r4, r5⟩ := run_storeCells_blk (P := P) p.base.block (p.base.off + o) el fr vs' 0 cs' w eb ef (by omega) h1'
      refine ⟨w', by rw [hbase]; exact r1, k.turn hp hb rfl rfl r3 ⟨es, cur', el, fr, r2, by rw [r4]; exact ef, by rw [r4]; exact ez, by rw [laid_length hle]; exact el', fun i v v' a1 a2 => ?_⟩, r3.mono (fun x _ e => ⟨b, p, _, hp, hb, rfl, e.symm⟩), fun j => wset_turn hb rfl, r3⟩
      rw [laid_get hle] at a1
      rw [r5] at a2
      rw [Nat.add_zero, ← hlen] at a2
      split at a1
      · rename_i hi; rw [if_pos (by omega), show p.base.off + i - (p.base.off + o) = i - o by omega] at a2; exact hv.2 (i - o) v v' (by simpa using a1) (by simpa using a2)
      · rename_i hi; rw [if_neg (by omega)] at a2; exact ev i v v' a1 a2
    · cases hh
  · cases hh
theorem hput_sound {h h' : List PO} {w : World} (k : RH τ h w) {b o : Nat} {p : Pl} (hp : τ b = some p) {vs vs' : List Value} (hv : VRs τ vs.toArray vs'.toArray) (h1 : ∀ v ∈ vs, v.oneCell' = true) (hh : hput h b o vs = some h') :
    ∃ w', (storeCells (p.base.add o) vs').run P w = .ok () w' ∧ RH τ h' w' ∧ Fr (wset τ h) w w' ∧ ∀ j, wset τ h' j → wset τ h j := by
  obtain ⟨w', r1, r2, r3, r4, _⟩ := hput_sound' (P := P) k hp hv h1 hh
  exact ⟨w', r1, r2, r3, r4⟩
end
end Go.Proofs.YtjopikjefpenkaaDoor

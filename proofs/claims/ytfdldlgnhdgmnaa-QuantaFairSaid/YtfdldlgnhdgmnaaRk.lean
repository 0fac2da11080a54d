/- QuantaFair walked. -/
import Derived.Test.YtfdldlgnhdgmnaaRj
namespace Go.Proofs.Ytfdldlgnhdgmnaa
open Go.RowKit

structure FairW (w : World) (l : Where) (N9 N10 : Nat) (L Q : List Int) (m : QM) (W : World) : Prop where
  v : VecAt W l.b l.b1 l.b2 m
  a : W.heap[N9]? = some (.cells (intVs L).toArray 35 (0, 0))
  t : W.heap[N10]? = some (.cells (intVs Q).toArray 35 (0, 0))
  o : Below w.heap.size w W
  n9 : w.heap.size ≤ N9
  n10 : w.heap.size ≤ N10
  ne : N9 ≠ N10
  hl : L.length = 6
  hq : Q.length = 6
theorem FairW.left {w l N9 N10 L Q m m' W W'} (h : FairW w l N9 N10 L Q m W) (hf : l.From w.heap.size) (hv : VecAt W' l.b l.b1 l.b2 m') (k : Only [l.b, l.b1, l.b2] W W') : FairW w l N9 N10 L Q m' W' := by
  have a1 := blk_ne h.a h.v.s (by decide)
  have a2 := blk_ne h.a h.v.p (by decide)
  have a3 := blk_ne h.a h.v.q (by decide)
  have b1 := blk_ne h.t h.v.s (by decide)
  have b2 := blk_ne h.t h.v.p (by decide)
  have b3 := blk_ne h.t h.v.q (by decide)
  exact ⟨hv, k.blk h.a (by simp [a1, a2, a3]), k.blk h.t (by simp [b1, b2, b3]), h.o.trans (k.below h.o.size (by intro x hx; have := hf.b; have := hf.b1; have := hf.b2; simp at hx; omega)), h.n9, h.n10, h.ne, h.hl, h.hq⟩
theorem FairW.below {w l N9 N10 L Q m W W'} (h : FairW w l N9 N10 L Q m W) (hf : l.From w.heap.size) (k : Below W.heap.size W W') : FairW w l N9 N10 L Q m W' :=
  h.left hf (h.v.only (Only.of_below (S := []) k) (by simp) (by simp) (by simp)) (Only.of_below k)
theorem intVs_get (L : List Int) (i : Int) (h0 : 0 ≤ i) (h1 : i < L.length) : (intVs L).toArray[i.toNat]? = some (.int .i64 (rd L i)) := getD_map_toArray _ _ _ (by omega)
theorem FairW.ca {w l N9 N10 L Q m W} (h : FairW w l N9 N10 L Q m W) (i : Int) (h0 : 0 ≤ i) (h1 : i < 6) : W.cell? ⟨N9, i.toNat, none⟩ = some (.int .i64 (rd L i)) := by
  rw [blk_cell h.a]; exact intVs_get _ _ h0 (by rw [h.hl]; omega)
theorem FairW.ct {w l N9 N10 L Q m W} (h : FairW w l N9 N10 L Q m W) (i : Int) (h0 : 0 ≤ i) (h1 : i < 6) : W.cell? ⟨N10, i.toNat, none⟩ = some (.int .i64 (rd Q i)) := by
  rw [blk_cell h.t]; exact intVs_get _ _ h0 (by rw [h.hq]; omega)
theorem FairW.seta {w l N9 N10 L Q m W} (h : FairW w l N9 N10 L Q m W) (i : Nat) (x : Int) : FairW w l N9 N10 (L.set i x) Q m (W.setCell ⟨N9, i, none⟩ (.int .i64 x)) := by
  have a1 := blk_ne h.v.s h.a (by decide)
  have a2 := blk_ne h.v.p h.a (by decide)
  have a3 := blk_ne h.v.q h.a (by decide)
  exact ⟨h.v.far ⟨a1, a2, a3⟩, by rw [blk_set h.a]; unfold intVs; rw [map_set_toArray], blk_far h.t h.ne.symm _, h.o.setCell (p := ⟨N9, i, none⟩) h.n9 _, h.n9, h.n10, h.ne, by simp [h.hl], h.hq⟩
theorem FairW.sett {w l N9 N10 L Q m W} (h : FairW w l N9 N10 L Q m W) (i : Nat) (x : Int) : FairW w l N9 N10 L (Q.set i x) m (W.setCell ⟨N10, i, none⟩ (.int .i64 x)) := by
  have a1 := blk_ne h.v.s h.t (by decide)
  have a2 := blk_ne h.v.p h.t (by decide)
  have a3 := blk_ne h.v.q h.t (by decide)
  exact ⟨h.v.far ⟨a1, a2, a3⟩, blk_far h.a h.ne _, by rw [blk_set h.t]; unfold intVs; rw [map_set_toArray], h.o.setCell (p := ⟨N10, i, none⟩) h.n10 _, h.n9, h.n10, h.ne, h.hl, by simp [h.hq]⟩

/-- Behind the first E environments. -/
def F1 (w : World) (l : Where) (N9 N10 : Nat) (m : QM) (E E' : Int) (W : World) : Prop :=
  ∃ L m', FairW w l N9 N10 L (List.replicate 6 0) m' W ∧ (∀ i : Int, 0 ≤ i → i < E → rd L i = (placesTo m.pl i 8).length) ∧ m'.pl = m.pl ∧ m'.now = m.now ∧ (∀ i : Int, 0 ≤ i → i < E' → rd m'.pe i = 0)

/-- Out and back: what Out, and taking the first k places again, leaves. -/
def Back (m m' : QM) (E : Int) (k : Nat) : Prop :=
  m'.now = m.now ∧ (∀ i : Int, 0 ≤ i → i < 6 → rd m'.pe i = if i = E then 0 else rd m.pe i) ∧
    ∀ j : Int, 0 ≤ j → j < 8 → rd m'.pl j = if rd m.pl j = E then (if j ∈ (placesTo m.pl E 8).take k then E else 6) else rd m.pl j
theorem back_out {m : QM} (hm : m.Ok) (E : Int) (h0 : 0 ≤ E) (h6 : E < 6) : Back m (m.out E).2 E 0 := by
  simp only [QM.out, if_neg (show ¬ 6 ≤ E by omega)]
  refine ⟨rfl, fun i hi0 hi6 => ?_, fun j hj0 hj8 => ?_⟩
  · exact rd_set _ _ _ _ hi0 h0 (by rw [hm.pe]; omega)
  · show rd (wipe E m.pl) j = _
    rw [rd_wipe _ _ _ hj0 (by rw [hm.pl]; omega)]; simp
theorem back_take {m m' : QM} (hm : m.Ok) (hm' : m'.Ok) (E : Int) (h0 : 0 ≤ E) (h6 : E < 6) (k : Nat) (hk : k < (placesTo m.pl E 8).length) (hb : Back m m' E k) :
    (m'.take E (rd (placesTo m.pl E 8) k)).1 = 0 ∧ Back m (m'.take E (rd (placesTo m.pl E 8) k)).2 E (k + 1) := by
  have hmem := (placesTo_mem m.pl E 8 _).1 (rd_mem (placesTo m.pl E 8) k (by omega) (by omega))
  have hn := not_mem_take _ (placesTo_sorted m.pl E 8) k hk
  generalize hp : rd (placesTo m.pl E 8) k = p at *
  obtain ⟨hp0, hp8, hpe⟩ := hmem
  have hx : rd m'.pl p = 6 := by rw [hb.2.2 p hp0 (by omega), if_pos hpe, if_neg hn]
  have hma : mayE E p = 0 := by unfold mayE; rw [if_neg (by omega)]
  have e : m'.take E p = (0, { m' with pl := m'.pl.set p.toNat E }) := by simp only [QM.take, hma, hx, ne_eq, not_true, if_false]
  rw [e]
  refine ⟨rfl, hb.1, hb.2.1, fun j hj0 hj8 => ?_⟩
  show rd (m'.pl.set p.toNat E) j = _
  rw [rd_set _ _ _ _ hj0 hp0 (by rw [hm'.pl]; omega), hb.2.2 j hj0 hj8]
  by_cases hj : j = p
  · subst hj
    rw [if_pos rfl, if_pos hpe, if_pos ((mem_take_succ _ k hk j).2 (.inr hp.symm))]
  · rw [if_neg hj]
    by_cases hje : rd m.pl j = E
    · rw [if_pos hje, if_pos hje]
      by_cases hin : j ∈ (placesTo m.pl E 8).take k
      · rw [if_pos hin, if_pos ((mem_take_succ _ k hk j).2 (.inl hin))]
      · rw [if_neg hin, if_neg (fun h => by rcases (mem_take_succ _ k hk j).1 h with h | h; exact hin h; exact hj (h.trans hp))]
    · rw [if_neg hje, if_neg hje]
theorem back_end {m m' : QM} (hm : m.Ok) (hm' : m'.Ok) (E : Int) (hb : Back m m' E (placesTo m.pl E 8).length) : m'.pl = m.pl := by
  refine rd_ext _ _ (by rw [hm'.pl, hm.pl]) fun i h0 h1 => ?_
  rw [hm'.pl] at h1
  rw [hb.2.2 i h0 (by omega), List.take_length]
  by_cases h : rd m.pl i = E
  · rw [if_pos h, if_pos ((placesTo_mem m.pl E 8 i).2 ⟨h0, by omega, h⟩), h]
  · rw [if_neg h]
theorem heldTo_zero (pl : List Int) (k : Nat) (h : heldTo pl k = 0) : ∀ i : Int, 0 ≤ i → i < k → rd pl i = 6 := by
  induction k with
  | zero => intro i h0 h1; omega
  | succ k ih =>
    intro i h0 h1
    simp only [heldTo] at h
    by_cases e : i = k
    · subst e
      by_cases h6 : rd pl k = 6
      · exact h6
      · rw [if_neg h6] at h; omega
    · exact ih (by omega) i h0 (by omega)
/-- Behind k turns. -/
def F4 (w : World) (l : Where) (N9 : Nat) (L : List Int) (m : QM) (k : Nat) (W : World) : Prop :=
  ∃ T Q m', FairW w l N9 (N9 + 1) L Q m' W ∧ m'.pl = m.pl ∧ (∀ i : Int, 0 ≤ i → i < 6 → rd m'.pe i = 0) ∧ m'.now = (m.now + (T : Nat)) % 8 ∧ heldS m.pl m.now T = k ∧ ∀ e : Int, 0 ≤ e → e < 6 → rd Q e = (cntE m.pl m.now e T : Nat)
theorem fair_end (m : QM) (hm : m.Ok) (n T : Nat) (h : heldS m.pl m.now T = n * heldTo m.pl 8) (e : Int) (h0 : 0 ≤ e) (h6 : e < 6) : cntE m.pl m.now e T = n * (placesTo m.pl e 8).length := by
  by_cases hp : 0 < heldTo m.pl 8
  · exact fair_law m.pl m.now e hm.now0 hm.now1 (by omega) n T h hp
  · have hz : heldTo m.pl 8 = 0 := by omega
    rw [hz, Nat.mul_zero] at h
    have h1 := cntE_same m.pl m.now e (by omega) 0 T (by rw [Nat.zero_add, h]; rfl)
    rw [Nat.zero_add] at h1
    have h2 : placesTo m.pl e 8 = [] := by
      apply List.eq_nil_iff_forall_not_mem.2
      intro x hx
      obtain ⟨a, b, c⟩ := (placesTo_mem m.pl e 8 x).1 hx
      have := heldTo_zero m.pl 8 hz x a b
      omega
    rw [h1, h2]; rfl
end Go.Proofs.Ytfdldlgnhdgmnaa

/- Quanta: the plain model of a vector of slices. -/
import Derived.Test.YtfdldlgnhdgmnaaBase
import Derived.Test.YtfdldlgnhdgmnaaProg
namespace Go.Proofs.Ytfdldlgnhdgmnaa
open Go.RowKit

/-- The plain model: whose each place is (6: nobody's), the penalties, whose turn it is. -/
structure QM where
  pl : List Int
  pe : List Int
  now : Int

def mayE (env place : Int) : Int := if 6 ≤ env ∨ place < 0 ∨ 8 ≤ place then 2 else 0

structure QM.Ok (m : QM) : Prop where
  pl : m.pl.length = 8
  pe : m.pe.length = 6
  plr : ∀ x, x ∈ m.pl → 0 ≤ x ∧ x ≤ 6
  per : ∀ x, x ∈ m.pe → 0 ≤ x ∧ x ≤ 1000
  now0 : 0 ≤ m.now
  now1 : m.now < 8

def QM.take (m : QM) (env place : Int) : Int × QM :=
  if mayE env place ≠ 0 then (2, m) else if rd m.pl place ≠ 6 then (6, m) else (0, { m with pl := m.pl.set place.toNat env })
def QM.give (m : QM) (env place tgt : Int) : Int × QM :=
  if mayE env place ≠ 0 then (2, m) else if 6 ≤ tgt then (2, m) else if rd m.pl place ≠ env then (7, m) else (0, { m with pl := m.pl.set place.toNat tgt })
def QM.drop (m : QM) (env place : Int) : Int × QM :=
  if mayE env place ≠ 0 then (2, m) else if rd m.pl place ≠ env then (7, m) else (0, { m with pl := m.pl.set place.toNat 6 })

/-- A vector of the program in memory. -/
structure VecAt (w : World) (b b1 b2 : Nat) (m : QM) : Prop where
  s : w.heap[b]? = some (.cells #[.slice (some ⟨b1, 0, none⟩) 8 8, .slice (some ⟨b2, 0, none⟩) 6 6, .int .i64 m.now] 55 (0, 0))
  p : w.heap[b1]? = some (.cells (m.pl.map (Value.int .u8)).toArray 5 (0, 0))
  q : w.heap[b2]? = some (.cells (m.pe.map (Value.int .i64)).toArray 3 (0, 0))
  ok : m.Ok

theorem getD_map_toArray (f : Int → Value) (l : List Int) (i : Nat) (h : i < l.length) : (l.map f).toArray[i]? = some (f (l.getD i 0)) := by
  simp [List.getElem?_eq_getElem h, List.getD]
theorem VecAt.c0 {w b b1 b2 m} (h : VecAt w b b1 b2 m) : w.cell? ⟨b, 0, none⟩ = some (.slice (some ⟨b1, 0, none⟩) 8 8) := by rw [blk_cell h.s]; rfl
theorem VecAt.c1 {w b b1 b2 m} (h : VecAt w b b1 b2 m) : w.cell? ⟨b, 1, none⟩ = some (.slice (some ⟨b2, 0, none⟩) 6 6) := by rw [blk_cell h.s]; rfl
theorem VecAt.c2 {w b b1 b2 m} (h : VecAt w b b1 b2 m) : w.cell? ⟨b, 2, none⟩ = some (.int .i64 m.now) := by rw [blk_cell h.s]; rfl
theorem VecAt.cp {w b b1 b2 m} (h : VecAt w b b1 b2 m) (i : Int) (h0 : 0 ≤ i) (hi : i < 8) : w.cell? ⟨b1, i.toNat, none⟩ = some (.int .u8 (rd m.pl i)) := by
  rw [blk_cell h.p]; exact getD_map_toArray _ _ _ (by rw [h.ok.pl]; omega)
theorem VecAt.cq {w b b1 b2 m} (h : VecAt w b b1 b2 m) (i : Int) (h0 : 0 ≤ i) (hi : i < 6) : w.cell? ⟨b2, i.toNat, none⟩ = some (.int .i64 (rd m.pe i)) := by
  rw [blk_cell h.q]; exact getD_map_toArray _ _ _ (by rw [h.ok.pe]; omega)
theorem VecAt.n1 {w b b1 b2 m} (h : VecAt w b b1 b2 m) : b ≠ b1 := blk_ne h.s h.p (by decide)
theorem VecAt.n2 {w b b1 b2 m} (h : VecAt w b b1 b2 m) : b ≠ b2 := blk_ne h.s h.q (by decide)
theorem VecAt.n3 {w b b1 b2 m} (h : VecAt w b b1 b2 m) : b1 ≠ b2 := blk_ne h.p h.q (by decide)
theorem VecAt.only {w w' b b1 b2 m} {S : List Nat} (h : VecAt w b b1 b2 m) (k : Only S w w') (h0 : b ∉ S) (h1 : b1 ∉ S) (h2 : b2 ∉ S) : VecAt w' b b1 b2 m :=
  ⟨k.blk h.s h0, k.blk h.p h1, k.blk h.q h2, h.ok⟩
theorem VecAt.drew {w b b1 b2 m} (h : VecAt w b b1 b2 m) : VecAt w.drew b b1 b2 m := ⟨h.s, h.p, h.q, h.ok⟩
theorem VecAt.alloc {w b b1 b2 m} (h : VecAt w b b1 b2 m) (o : Obj) : VecAt (w.alloc o) b b1 b2 m := h.only ((Only.refl [] w).alloc o) (by simp) (by simp) (by simp)
theorem map_set_toArray (f : Int → Value) (l : List Int) (i : Nat) (x : Int) : (l.map f).toArray.setIfInBounds i (f x) = ((l.set i x).map f).toArray := by
  simp [List.map_set]
theorem VecAt.setp {w b b1 b2 m} (h : VecAt w b b1 b2 m) (i : Nat) (x : Int) (hx : 0 ≤ x ∧ x ≤ 6) : VecAt (w.setCell ⟨b1, i, none⟩ (.int .u8 x)) b b1 b2 { m with pl := m.pl.set i x } :=
  ⟨blk_far h.s h.n1 _, by rw [blk_set h.p, map_set_toArray], blk_far h.q h.n3.symm _, ⟨by simp [h.ok.pl], h.ok.pe, fun y hy => by
    rcases List.mem_or_eq_of_mem_set hy with hy | rfl
    · exact h.ok.plr y hy
    · exact hx, h.ok.per, h.ok.now0, h.ok.now1⟩⟩
theorem VecAt.setq {w b b1 b2 m} (h : VecAt w b b1 b2 m) (i : Nat) (x : Int) (hx : 0 ≤ x ∧ x ≤ 1000) : VecAt (w.setCell ⟨b2, i, none⟩ (.int .i64 x)) b b1 b2 { m with pe := m.pe.set i x } :=
  ⟨blk_far h.s h.n2 _, blk_far h.p h.n3 _, by rw [blk_set h.q, map_set_toArray], ⟨h.ok.pl, by simp [h.ok.pe], h.ok.plr, fun y hy => by
    rcases List.mem_or_eq_of_mem_set hy with hy | rfl
    · exact h.ok.per y hy
    · exact hx, h.ok.now0, h.ok.now1⟩⟩
theorem VecAt.setn {w b b1 b2 m} (h : VecAt w b b1 b2 m) (x : Int) (hx : 0 ≤ x ∧ x < 8) : VecAt (w.setCell ⟨b, 2, none⟩ (.int .i64 x)) b b1 b2 { m with now := x } :=
  ⟨by rw [blk_set h.s]; rfl, blk_far h.p h.n1.symm _, blk_far h.q h.n2.symm _, ⟨h.ok.pl, h.ok.pe, h.ok.plr, h.ok.per, hx.1, hx.2⟩⟩
theorem VecAt.far {w b b1 b2 m} (h : VecAt w b b1 b2 m) {p : Addr} (hp : b ≠ p.block ∧ b1 ≠ p.block ∧ b2 ≠ p.block) {u : Value} : VecAt (w.setCell p u) b b1 b2 m :=
  ⟨blk_far h.s hp.1 _, blk_far h.p hp.2.1 _, blk_far h.q hp.2.2 _, h.ok⟩
theorem Only.vecs {w w' b b1 b2} (h : Only [b1] w w' ∨ Only [b2] w w' ∨ Only [b] w w') : Only [b, b1, b2] w w' := by
  rcases h with h | h | h <;> exact h.mono (by simp)
theorem rd_mem (l : List Int) (i : Int) (h0 : 0 ≤ i) (h : i < l.length) : rd l i ∈ l := by
  have h1 : i.toNat < l.length := by omega
  unfold rd
  simp only [List.getD, List.getElem?_eq_getElem h1, Option.getD_some]; exact List.getElem_mem h1
theorem QM.Ok.plr' {m : QM} (h : m.Ok) (i : Int) (h0 : 0 ≤ i) (hi : i < 8) : 0 ≤ rd m.pl i ∧ rd m.pl i ≤ 6 := h.plr _ (rd_mem _ _ h0 (by rw [h.pl]; omega))
theorem QM.Ok.per' {m : QM} (h : m.Ok) (i : Int) (h0 : 0 ≤ i) (hi : i < 6) : 0 ≤ rd m.pe i ∧ rd m.pe i ≤ 1000 := h.per _ (rd_mem _ _ h0 (by rw [h.pe]; omega))
end Go.Proofs.Ytfdldlgnhdgmnaa

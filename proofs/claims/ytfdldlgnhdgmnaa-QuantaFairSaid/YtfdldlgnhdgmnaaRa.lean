/- Quanta: the reference's vector in memory. -/
import Derived.Test.YtfdldlgnhdgmnaaQi
namespace Go.Proofs.Ytfdldlgnhdgmnaa
open Go.RowKit

def refL (x : Int) : Int := if x = 6 then 0 else x + 1
def refCells (m : QM) : List Value := (m.pl.map fun x => Value.int .i64 (refL x)) ++ (m.pe.map (Value.int .i64) ++ [.int .i64 m.now])
structure RefAt (w : World) (r : Nat) (m : QM) : Prop where
  s : w.heap[r]? = some (.cells (refCells m).toArray 62 (0, 0))
  ok : m.Ok
theorem refCells_l (m : QM) (hm : m.Ok) (i : Int) (h0 : 0 ≤ i) (h1 : i < 8) : (refCells m)[i.toNat]? = some (.int .i64 (refL (rd m.pl i))) := by
  have h2 : i.toNat < m.pl.length := by rw [hm.pl]; omega
  unfold refCells
  rw [List.getElem?_append_left (by simpa using h2)]
  simp [rd, List.getD, List.getElem?_eq_getElem h2]
theorem refCells_p (m : QM) (hm : m.Ok) (i : Int) (h0 : 0 ≤ i) (h1 : i < 6) : (refCells m)[8 + i.toNat]? = some (.int .i64 (rd m.pe i)) := by
  have h2 : i.toNat < m.pe.length := by rw [hm.pe]; omega
  unfold refCells
  rw [List.getElem?_append_right (by simp [hm.pl])]
  simp only [List.length_map, hm.pl, Nat.add_sub_cancel_left]
  rw [List.getElem?_append_left (by simpa using h2)]
  simp [rd, List.getD, List.getElem?_eq_getElem h2]
theorem refCells_n (m : QM) (hm : m.Ok) : (refCells m)[14]? = some (.int .i64 m.now) := by
  unfold refCells
  rw [List.getElem?_append_right (by simp [hm.pl]), List.getElem?_append_right (by simp [hm.pl, hm.pe])]
  simp [hm.pl, hm.pe]
theorem RefAt.cl {w r m} (h : RefAt w r m) (i : Int) (h0 : 0 ≤ i) (h1 : i < 8) : w.cell? ⟨r, i.toNat, none⟩ = some (.int .i64 (refL (rd m.pl i))) := by
  rw [blk_cell h.s, List.getElem?_toArray]; exact refCells_l m h.ok i h0 h1
theorem RefAt.cp {w r m} (h : RefAt w r m) (i : Int) (h0 : 0 ≤ i) (h1 : i < 6) : w.cell? ⟨r, 8 + i.toNat, none⟩ = some (.int .i64 (rd m.pe i)) := by
  rw [blk_cell h.s, List.getElem?_toArray]; exact refCells_p m h.ok i h0 h1
theorem RefAt.cn {w r m} (h : RefAt w r m) : w.cell? ⟨r, 14, none⟩ = some (.int .i64 m.now) := by
  rw [blk_cell h.s, List.getElem?_toArray]; exact refCells_n m h.ok
theorem RefAt.fz {w r m} (h : RefAt w r m) (i : Nat) : w.frozen? ⟨r, i, none⟩ = false := blk_frozen h.s i
theorem RefAt.only {w w' r m S} (h : RefAt w r m) (k : Only S w w') (hn : r ∉ S) : RefAt w' r m := ⟨k.blk h.s hn, h.ok⟩
theorem RefAt.setl {w r m} (h : RefAt w r m) (i : Int) (x : Int) (h0 : 0 ≤ i) (h1 : i < 8) (hx : 0 ≤ x ∧ x ≤ 6) : RefAt (w.setCell ⟨r, i.toNat, none⟩ (.int .i64 (refL x))) r { m with pl := m.pl.set i.toNat x } := by
  refine ⟨?_, ⟨by simp [h.ok.pl], h.ok.pe, fun y hy => ?_, h.ok.per, h.ok.now0, h.ok.now1⟩⟩
  · rw [blk_set h.s]
    congr 2
    have h2 : i.toNat < m.pl.length := by rw [h.ok.pl]; omega
    simp only [refCells, List.setIfInBounds_toArray]
    rw [List.set_append_left _ _ (by simpa using h2), ← List.map_set]
  · rcases List.mem_or_eq_of_mem_set hy with hy | rfl
    · exact h.ok.plr y hy
    · exact hx
theorem RefAt.setp {w r m} (h : RefAt w r m) (i : Int) (x : Int) (h0 : 0 ≤ i) (h1 : i < 6) (hx : 0 ≤ x ∧ x ≤ 1000) : RefAt (w.setCell ⟨r, 8 + i.toNat, none⟩ (.int .i64 x)) r { m with pe := m.pe.set i.toNat x } := by
  refine ⟨?_, ⟨h.ok.pl, by simp [h.ok.pe], h.ok.plr, fun y hy => ?_, h.ok.now0, h.ok.now1⟩⟩
  · rw [blk_set h.s]
    congr 2
    have h2 : i.toNat < m.pe.length := by rw [h.ok.pe]; omega
    simp only [refCells, List.setIfInBounds_toArray]
    rw [List.set_append_right _ _ (by simp [h.ok.pl])]
    simp only [List.length_map, h.ok.pl, Nat.add_sub_cancel_left]
    rw [List.set_append_left _ _ (by simpa using h2), ← List.map_set]
  · rcases List.mem_or_eq_of_mem_set hy with hy | rfl
    · exact h.ok.per y hy
    · exact hx
theorem RefAt.setn {w r m} (h : RefAt w r m) (x : Int) (hx : 0 ≤ x ∧ x < 8) : RefAt (w.setCell ⟨r, 14, none⟩ (.int .i64 x)) r { m with now := x } := by
  refine ⟨?_, ⟨h.ok.pl, h.ok.pe, h.ok.plr, h.ok.per, hx.1, hx.2⟩⟩
  rw [blk_set h.s]
  congr 2
  simp only [refCells, List.setIfInBounds_toArray]
  rw [List.set_append_right _ _ (by simp [h.ok.pl]), List.set_append_right _ _ (by simp [h.ok.pl, h.ok.pe])]
  simp [h.ok.pl, h.ok.pe]
theorem RefAt.drew {w r m} (h : RefAt w r m) : RefAt w.drew r m := ⟨h.s, h.ok⟩
def LeftR (r : Nat) (w : World) (v : Value) (m : QM) (e : Ending) (w' : World) : Prop := e = .returned v ∧ RefAt w' r m ∧ Only [r] w w'

theorem rNew_ok (w : World) : Calls Try.prog 29 #[] w fun e w' => ∃ r, e = .returned (.pointer (some ⟨r, 0, none⟩)) ∧ RefAt w' r ⟨newPl 8, List.replicate 6 0, 7⟩ ∧ Below w.heap.size w w' ∧ w.heap.size ≤ r := by
  go_enter Try.func29, Try.ntmps29
  go_wp2
  go_ret
  exact ⟨_, rfl, ⟨heap_alloc_new w _, newPl_ok 8 (by omega)⟩, (Below.refl _ _).alloc (by simp) _, by simp⟩

theorem rmay_ok (r : Addr) (env place : Int) (w : World) :
    Calls Try.prog 43 #[.pointer (some r), .int .u8 env, .int .i64 place] w fun e w' => e = .returned (.int .i64 (mayE env place)) ∧ w = w' := by
  by_cases h1 : 6 ≤ env
  · have e : mayE env place = 2 := by unfold mayE; rw [if_pos (by omega)]
    rw [e]; clear e
    go_enter Try.func43, Try.ntmps43
    go_wp2
    go_ret
    exact ⟨rfl, rfl⟩
  · by_cases h2 : place < 0
    · have e : mayE env place = 2 := by unfold mayE; rw [if_pos (by omega)]
      rw [e]; clear e
      go_enter Try.func43, Try.ntmps43
      go_wp2
      go_ret
      exact ⟨rfl, rfl⟩
    · by_cases h3 : 8 ≤ place
      · have e : mayE env place = 2 := by unfold mayE; rw [if_pos (by omega)]
        rw [e]; clear e
        go_enter Try.func43, Try.ntmps43
        go_wp2
        go_ret
        exact ⟨rfl, rfl⟩
      · have e : mayE env place = 0 := by unfold mayE; rw [if_neg (by omega)]
        rw [e]; clear e
        go_enter Try.func43, Try.ntmps43
        go_wp2
        go_ret
        exact ⟨rfl, rfl⟩
theorem rmay_yes (r : Addr) (env place : Int) (w : World) (h : env < 6) (h0 : 0 ≤ place) (h1 : place < 8) :
    Calls Try.prog 43 #[.pointer (some r), .int .u8 env, .int .i64 place] w fun e w' => e = .returned (.int .i64 0) ∧ w = w' := by
  have := rmay_ok r env place w
  rwa [show mayE env place = 0 by unfold mayE; rw [if_neg (by omega)]] at this
theorem rmay_no (r : Addr) (env place : Int) (w : World) (h : mayE env place = 2) :
    Calls Try.prog 43 #[.pointer (some r), .int .u8 env, .int .i64 place] w fun e w' => e = .returned (.int .i64 2) ∧ w = w' := by
  have := rmay_ok r env place w
  rwa [h] at this
end Go.Proofs.Ytfdldlgnhdgmnaa

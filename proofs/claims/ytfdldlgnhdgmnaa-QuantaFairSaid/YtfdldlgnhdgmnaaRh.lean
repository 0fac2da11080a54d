/- Quanta: the reference's Fork. -/
import Derived.Test.YtfdldlgnhdgmnaaQf2
namespace Go.Proofs.Ytfdldlgnhdgmnaa
open Go.RowKit

theorem list8 (l : List Int) (h : l.length = 8) : ∃ a b c d e f g i, l = [a, b, c, d, e, f, g, i] := by
  match l, h with
  | [a, b, c, d, e, f, g, i], _ => exact ⟨_, _, _, _, _, _, _, _, rfl⟩
theorem list6 (l : List Int) (h : l.length = 6) : ∃ a b c d e f, l = [a, b, c, d, e, f] := by
  match l, h with
  | [a, b, c, d, e, f], _ => exact ⟨_, _, _, _, _, _, rfl⟩
set_option maxRecDepth 100000 in
theorem rFork_ok {w r m} (hv : RefAt w r m) :
    Calls Try.prog 24 #[.pointer (some ⟨r, 0, none⟩)] w fun e w' => ∃ q, e = .returned (.pointer (some ⟨q, 0, none⟩)) ∧ RefAt w' q m ∧ Below w.heap.size w w' ∧ w.heap.size ≤ q := by
  obtain ⟨pl, pe, now⟩ := m
  obtain ⟨a, b, c, d, e, f, g, i, rfl⟩ := list8 pl hv.ok.pl
  obtain ⟨p, q, s, t, u, v, rfl⟩ := list6 pe hv.ok.pe
  have HB := Lib.hid hv
  have hs := hv.s
  simp only [refCells, List.map_cons, List.map_nil, List.cons_append, List.nil_append] at hs
  have c0 := blk_cell hs 0
  have c1 := blk_cell hs 1
  have c2 := blk_cell hs 2
  have c3 := blk_cell hs 3
  have c4 := blk_cell hs 4
  have c5 := blk_cell hs 5
  have c6 := blk_cell hs 6
  have c7 := blk_cell hs 7
  have c8 := blk_cell hs 8
  have c9 := blk_cell hs 9
  have c10 := blk_cell hs 10
  have c11 := blk_cell hs 11
  have c12 := blk_cell hs 12
  have c13 := blk_cell hs 13
  have c14 := blk_cell hs 14
  simp at c0 c1 c2 c3 c4 c5 c6 c7 c8 c9 c10 c11 c12 c13 c14
  clear hv hs
  have HR : Hid (∀ W : World, W.heap[w.heap.size]? = some (.cells (refCells ⟨[a, b, c, d, e, f, g, i], [p, q, s, t, u, v], now⟩).toArray 62 (0, 0)) → RefAt W w.heap.size ⟨[a, b, c, d, e, f, g, i], [p, q, s, t, u, v], now⟩) := fun W h => ⟨h, HB.out.ok⟩
  simp only [refCells, List.map_cons, List.map_nil, List.cons_append, List.nil_append] at HR
  generalize refL a = a' at *
  generalize refL b = b' at *
  generalize refL c = c' at *
  generalize refL d = d' at *
  generalize refL e = e' at *
  generalize refL f = f' at *
  generalize refL g = g' at *
  generalize refL i = i' at *
  go_enter Try.func24, Try.ntmps24
  go_wp2
  go_ret
  exact ⟨_, rfl, HR.out _ (heap_alloc_new w _), (Below.refl _ _).alloc (by simp) _, by simp⟩
end Go.Proofs.Ytfdldlgnhdgmnaa

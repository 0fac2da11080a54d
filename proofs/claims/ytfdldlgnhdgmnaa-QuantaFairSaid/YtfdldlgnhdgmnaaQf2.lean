/- Quanta: Fork of both. -/
import Derived.Test.YtfdldlgnhdgmnaaQn
import Derived.Laws.CopyOwn
namespace Go.Proofs.Ytfdldlgnhdgmnaa
open Go.RowKit

theorem map_take_all (l : List Value) (n : Nat) (h : l.length = n) : l.take n = l := by rw [← h]; exact List.take_length
/-- What lies in memory behind the makes of Fork. -/
structure Fk (w W : World) (b b1 b2 g g1 g2 : Nat) (m : QM) : Prop where
  v : VecAt W b b1 b2 m
  s : W.heap[g]? = some (.cells #[.slice (some ⟨g1, 0, none⟩) 8 8, .slice (some ⟨g2, 0, none⟩) 6 6, .int .i64 m.now] 55 (0, 0))
  p : W.heap[g1]? = some (.cells (Array.replicate 8 (.int .u8 0)) 5 (0, 0))
  q : W.heap[g2]? = some (.cells (Array.replicate 6 (.int .i64 0)) 3 (0, 0))
  n : b1 ≠ g1 ∧ b2 ≠ g2 ∧ w.heap.size ≤ g ∧ w.heap.size ≤ g1 ∧ w.heap.size ≤ g2
  o : Below w.heap.size w W
theorem Fk.one {w b b1 b2 m} (h : VecAt w b b1 b2 m) (n : Nat) (hn : n = w.heap.size) : Fk w (((w.alloc (.cells (Array.replicate 8 (.int .u8 0)) 5)).alloc (.cells (Array.replicate 6 (.int .i64 0)) 3)).alloc (.cells #[.slice (some ⟨n, 0, none⟩) 8 8, .slice (some ⟨n + 1, 0, none⟩) 6 6, .int .i64 m.now] 55)).drew b b1 b2 (n + 1 + 1) n (n + 1) m := by
  subst hn
  refine ⟨(((h.alloc _).alloc _).alloc _).drew, ?_, ?_, ?_, ?_, ((((Below.refl _ _).alloc (by simp) _).alloc (by simp) _).alloc (by simp <;> omega) _).drew⟩
  · show (((w.alloc _).alloc _).alloc _).heap[_]? = _
    simp only [alloc_get, World.size_alloc, if_true]
  · show (((w.alloc _).alloc _).alloc _).heap[_]? = _
    simp only [alloc_get, World.size_alloc]
    rw [if_neg (by omega), if_neg (by omega), if_pos trivial]
  · show (((w.alloc _).alloc _).alloc _).heap[_]? = _
    simp only [alloc_get, World.size_alloc]
    rw [if_neg (by omega), if_pos trivial]
  · have := blk_lt h.p
    have := blk_lt h.q
    omega
theorem Fk.two {w b b1 b2 m} (h : VecAt w b b1 b2 m) (n : Nat) (hn : n = w.heap.size) : Fk w (((w.alloc (.cells (Array.replicate 6 (.int .i64 0)) 3)).alloc (.cells (Array.replicate 8 (.int .u8 0)) 5)).alloc (.cells #[.slice (some ⟨n + 1, 0, none⟩) 8 8, .slice (some ⟨n, 0, none⟩) 6 6, .int .i64 m.now] 55)).drew b b1 b2 (n + 1 + 1) (n + 1) n m := by
  subst hn
  refine ⟨(((h.alloc _).alloc _).alloc _).drew, ?_, ?_, ?_, ?_, ((((Below.refl _ _).alloc (by simp) _).alloc (by simp) _).alloc (by simp <;> omega) _).drew⟩
  · show (((w.alloc _).alloc _).alloc _).heap[_]? = _
    simp only [alloc_get, World.size_alloc, if_true]
  · show (((w.alloc _).alloc _).alloc _).heap[_]? = _
    simp only [alloc_get, World.size_alloc]
    rw [if_neg (by omega), if_pos trivial]
  · show (((w.alloc _).alloc _).alloc _).heap[_]? = _
    simp only [alloc_get, World.size_alloc]
    rw [if_neg (by omega), if_neg (by omega), if_pos trivial]
  · have := blk_lt h.p
    have := blk_lt h.q
    omega
theorem setRow_below {w W : World} (hb : Below w.heap.size w W) (g : Nat) (hg : w.heap.size ≤ g) (cs : Array Value) : Below w.heap.size w (W.setRow g cs) := below_setRow hb hg cs
theorem copyRun {w W b b1 b2 g g1 g2 m} (h : Fk w W b b1 b2 g g1 g2 m) (ty : Nat) : (Builtin.copy_ #[53, 53] ty #[.slice (some ⟨g1, 0, none⟩) 8 8, .slice (some ⟨b1, 0, none⟩) 8 8]).run Try.prog W.drew = .ok (.int .i64 8) (W.drew.setRow g1 (m.pl.map (Value.int .u8)).toArray) := by
  have e := run_copy_row (P := Try.prog) W.drew 53 53 ty 5 g1 0 8 8 ⟨b1, 0, none⟩ 8 8 (Array.replicate 8 (.int .u8 0)) 5 (m.pl.map (Value.int .u8)) Try.underlying53 (by kernel_rfl) h.p (by rw [List.length_map, h.v.ok.pl]; rfl)
    (fun j v hj => by
      rw [show (⟨b1, 0, none⟩ : Addr).add j = ⟨b1, j, none⟩ by unfold Addr.add; split <;> simp_all]
      show W.cell? _ = _
      rw [blk_cell h.v.p]; simpa using hj) (by rw [List.length_map, h.v.ok.pl]; simp) (fun v hv => by obtain ⟨x, _, rfl⟩ := List.mem_map.1 hv; rfl)
  rw [e]
  simp only [List.length_map, h.v.ok.pl, List.take_zero, List.nil_append, Nat.zero_add]
  rw [List.drop_of_length_le (by simp), List.append_nil]
  rfl
theorem copyRun2 {w W b b1 b2 g g1 g2 m} (h : Fk w W b b1 b2 g g1 g2 m) (R : Array Value) (ty : Nat) : (Builtin.copy_ #[36, 36] ty #[.slice (some ⟨g2, 0, none⟩) 6 6, .slice (some ⟨b2, 0, none⟩) 6 6]).run Try.prog (W.drew.setRow g1 R).drew = .ok (.int .i64 6) ((W.drew.setRow g1 R).drew.setRow g2 (m.pe.map (Value.int .i64)).toArray) := by
  have n12 : g2 ≠ g1 := blk_ne h.q h.p (by decide)
  have nb : b2 ≠ g1 := blk_ne h.v.q h.p (by decide)
  have hq : (W.drew.setRow g1 R).heap[g2]? = _ := (setRow_other W.drew g1 g2 R n12).trans h.q
  have hbq : (W.drew.setRow g1 R).heap[b2]? = _ := (setRow_other W.drew g1 b2 R nb).trans h.v.q
  have e := run_copy_row (P := Try.prog) (W.drew.setRow g1 R).drew 36 36 ty 3 g2 0 6 6 ⟨b2, 0, none⟩ 6 6 (Array.replicate 6 (.int .i64 0)) 3 (m.pe.map (Value.int .i64)) Try.underlying36 (by kernel_rfl) hq (by rw [List.length_map, h.v.ok.pe]; rfl)
    (fun j v hj => by
      rw [show (⟨b2, 0, none⟩ : Addr).add j = ⟨b2, j, none⟩ by unfold Addr.add; split <;> simp_all]
      show (W.drew.setRow g1 R).cell? _ = _
      rw [blk_cell hbq]; simpa using hj) (by rw [List.length_map, h.v.ok.pe]; simp) (fun v hv => by obtain ⟨x, _, rfl⟩ := List.mem_map.1 hv; rfl)
  rw [e]
  simp only [List.length_map, h.v.ok.pe, List.take_zero, List.nil_append, Nat.zero_add]
  rw [List.drop_of_length_le (by simp), List.append_nil]
  rfl
theorem Fk.d1 {w W b b1 b2 g g1 g2 m} (h : Fk w W b b1 b2 g g1 g2 m) (R : Array Value) : (W.drew.setRow g1 R).cell? ⟨g, 1, none⟩ = some (.slice (some ⟨g2, 0, none⟩) 6 6) := by
  have e : (W.drew.setRow g1 R).heap[g]? = _ := (setRow_other W.drew g1 g R (blk_ne h.s h.p (by decide))).trans h.s
  rw [blk_cell e]; rfl
theorem Fk.d2 {w W b b1 b2 g g1 g2 m} (h : Fk w W b b1 b2 g g1 g2 m) (R : Array Value) : (W.drew.setRow g1 R).cell? ⟨b, 1, none⟩ = some (.slice (some ⟨b2, 0, none⟩) 6 6) := by
  have e : (W.drew.setRow g1 R).heap[b]? = _ := (setRow_other W.drew g1 b R (blk_ne h.v.s h.p (by decide))).trans h.v.s
  rw [blk_cell e]; rfl
theorem Fk.fin {w W b b1 b2 g g1 g2 m} (h : Fk w W b b1 b2 g g1 g2 m) : VecAt ((W.drew.setRow g1 (m.pl.map (Value.int .u8)).toArray).drew.setRow g2 (m.pe.map (Value.int .i64)).toArray) g g1 g2 m ∧
    Below w.heap.size w ((W.drew.setRow g1 (m.pl.map (Value.int .u8)).toArray).drew.setRow g2 (m.pe.map (Value.int .i64)).toArray) ∧ w.heap.size ≤ g ∧ w.heap.size ≤ g1 ∧ w.heap.size ≤ g2 := by
  have n12 : g2 ≠ g1 := blk_ne h.q h.p (by decide)
  have ng1 : g ≠ g1 := blk_ne h.s h.p (by decide)
  have ng2 : g ≠ g2 := blk_ne h.s h.q (by decide)
  obtain ⟨_, _, q1, q2, q3⟩ := h.n
  refine ⟨⟨?_, ?_, ?_, h.v.ok⟩, (below_setRow (below_setRow h.o.drew q2 _).drew q3 _), q1, q2, q3⟩
  · exact (setRow_other _ g2 g _ ng2).trans ((setRow_other W.drew g1 g _ ng1).trans h.s)
  · exact (setRow_other _ g2 g1 _ n12.symm).trans (setRow_heap W.drew g1 _ _ _ _ h.p)
  · exact setRow_heap _ g2 _ _ _ _ (((setRow_other W.drew g1 g2 _ n12).trans h.q : (W.drew.setRow g1 _).heap[g2]? = _))
theorem Fork_ok {w b b1 b2 m} (hv : VecAt w b b1 b2 m) :
    Calls Try.prog 23 #[.pointer (some ⟨b, 0, none⟩)] w fun e w' => ∃ g g1 g2, e = .returned (.pointer (some ⟨g, 0, none⟩)) ∧ VecAt w' g g1 g2 m ∧ Below w.heap.size w w' ∧ w.heap.size ≤ g ∧ w.heap.size ≤ g1 ∧ w.heap.size ≤ g2 := by
  have h1 : ∀ w : World, (Instr.makeSlice 53 (.int .i64 8) (.int .i64 8)).run Try.prog w = .ok (.slice (some ⟨w.heap.size, 0, none⟩) 8 8) (w.alloc (.cells (Array.replicate 8 (.int .u8 0)) 5)) := fun _ => by kernel_rfl
  have h2 : ∀ w : World, (Instr.makeSlice 36 (.int .i64 6) (.int .i64 6)).run Try.prog w = .ok (.slice (some ⟨w.heap.size, 0, none⟩) 6 6) (w.alloc (.cells (Array.replicate 6 (.int .i64 0)) 3)) := fun _ => by kernel_rfl
  have c0 := hv.c0
  have c1 := hv.c1
  have c2 := hv.c2
  have a0 : ∀ o, (w.alloc o).cell? ⟨b, 0, none⟩ = some (.slice (some ⟨b1, 0, none⟩) 8 8) := fun o => (hv.alloc o).c0
  have a1 : ∀ o, (w.alloc o).cell? ⟨b, 1, none⟩ = some (.slice (some ⟨b2, 0, none⟩) 6 6) := fun o => (hv.alloc o).c1
  have a2 : ∀ o, (w.alloc o).cell? ⟨b, 2, none⟩ = some (.int .i64 m.now) := fun o => (hv.alloc o).c2
  have a3 : ∀ o o', ((w.alloc o).alloc o').cell? ⟨b, 2, none⟩ = some (.int .i64 m.now) := fun o o' => ((hv.alloc o).alloc o').c2
  have HV := Lib.hid hv
  clear hv
  go_enter Try.func23, Try.ntmps23
  go_wp2
  go_region
  all_goals go_wp2
  all_goals clear h1 h2 a0 a1 a2 a3 c0 c1 c2
  · have HF := Lib.hid (Fk.one HV.out w.heap.size rfl)
    generalize hW : World.drew _ = W at HF ⊢
    clear hW
    have d0 := blk_cell HF.out.s 0
    have d1 := Fk.d1 HF.out (m.pl.map (Value.int .u8)).toArray
    have d2 := Fk.d2 HF.out (m.pl.map (Value.int .u8)).toArray
    simp at d0
    have c0 := HF.out.v.c0
    have hc := copyRun HF.out
    have hc2 := copyRun2 HF.out (m.pl.map (Value.int .u8)).toArray
    have HE := Lib.hid (Fk.fin HF.out)
    obtain ⟨R, hR⟩ : ∃ R, R = (m.pl.map (Value.int .u8)).toArray := ⟨_, rfl⟩
    obtain ⟨S, hS⟩ : ∃ S, S = (m.pe.map (Value.int .i64)).toArray := ⟨_, rfl⟩
    rw [← hR] at d1 d2 hc hc2 HE
    rw [← hS] at hc2 HE
    clear hR hS
    go_region
    all_goals go_wp2
    go_region
    all_goals go_wp2
    all_goals (go_ret; exact ⟨_, _, _, rfl, HE.out⟩)
  · have HF := Lib.hid (Fk.two HV.out w.heap.size rfl)
    generalize hW : World.drew _ = W at HF ⊢
    clear hW
    have d0 := blk_cell HF.out.s 0
    have d1 := Fk.d1 HF.out (m.pl.map (Value.int .u8)).toArray
    have d2 := Fk.d2 HF.out (m.pl.map (Value.int .u8)).toArray
    simp at d0
    have c0 := HF.out.v.c0
    have hc := copyRun HF.out
    have hc2 := copyRun2 HF.out (m.pl.map (Value.int .u8)).toArray
    have HE := Lib.hid (Fk.fin HF.out)
    obtain ⟨R, hR⟩ : ∃ R, R = (m.pl.map (Value.int .u8)).toArray := ⟨_, rfl⟩
    obtain ⟨S, hS⟩ : ∃ S, S = (m.pe.map (Value.int .i64)).toArray := ⟨_, rfl⟩
    rw [← hR] at d1 d2 hc hc2 HE
    rw [← hS] at hc2 HE
    clear hR hS
    go_region
    all_goals go_wp2
    go_region
    all_goals go_wp2
    all_goals (go_ret; exact ⟨_, _, _, rfl, HE.out⟩)
end Go.Proofs.Ytfdldlgnhdgmnaa

/- Instructions: an operation with operands. -/
import Derived.Test.YtjopikjefpenkaaDoorG4
set_option linter.unusedSimpArgs false
set_option linter.unusedVariables false
set_option linter.unusedSectionVars false
namespace Go.Proofs.YtjopikjefpenkaaDoor
open Go.RowKit

theorem infoOpndS : ∃ i, Tryd.prog.info? 64 = some i ∧ i.size = 1 := by
  obtain ⟨i, h1, h2⟩ := Option.map_eq_some_iff.1 infoOpnd
  simp only [Prod.mk.injEq] at h2
  exact ⟨i, h1, h2.2.1⟩
def takeReg (has : Bool) (l : List Opnd) : Option (Int × List Opnd) :=
  if has then (match l with | .reg r :: l => some (r, l) | _ => none) else some (0, l)
def withF (o : Int) (l : List Opnd) : (Int × Int × Int × Int) × Bool :=
  match takeReg (shA o) l with
  | none => ((0, 0, 0, 0), false)
  | some (a, l) => match takeReg (shB o) l with
    | none => ((0, 0, 0, 0), false)
    | some (b, l) => if shI o then (match l with | .imm n :: l => ((o, a, b, n), l.isEmpty) | _ => ((0, 0, 0, 0), false)) else ((o, a, b, 0), l.isEmpty)
def WithL (w : World) (r : (Int × Int × Int × Int) × Bool) (e : Ending) (w' : World) : Prop := e = .returned (.tuple #[insV r.1.1 r.1.2.1 r.1.2.2.1 r.1.2.2.2, .bool r.2]) ∧ Below w.heap.size w w'

@[go_sem] theorem as_rr (v : Value) (w : World) : (Instr.typeAssert (.iface 107 v) 64 107 true).run Tryd.prog w = .ok (.tuple #[v, .bool true]) w := by kernel_rfl
@[go_sem] theorem as_ir (v : Value) (w : World) : (Instr.typeAssert (.iface 108 v) 64 107 true).run Tryd.prog w = .ok (.tuple #[.int .u8 0, .bool false]) w := by kernel_rfl
@[go_sem] theorem as_ri (v : Value) (w : World) : (Instr.typeAssert (.iface 107 v) 64 108 true).run Tryd.prog w = .ok (.tuple #[.int .u16 0, .bool false]) w := by kernel_rfl
@[go_sem] theorem as_ii (v : Value) (w : World) : (Instr.typeAssert (.iface 108 v) 64 108 true).run Tryd.prog w = .ok (.tuple #[v, .bool true]) w := by kernel_rfl
theorem cell_alloc (w : World) (p : Addr) (o : Obj) (h : p.block < w.heap.size) : (w.alloc o).cell? p = w.cell? p := World.cell?_of_block (w := w) (Below.heap_alloc w _ p.block h)
theorem cell_alloc3 (w : World) (p : Addr) (v) (h : p.block < w.heap.size) (e : w.cell? p = some v) : ∀ x y z, (((w.alloc x).alloc y).alloc z).cell? p = some v := fun x y z => by
  rw [cell_alloc _ _ _ (by simp only [World.size_alloc]; omega), cell_alloc _ _ _ (by simp only [World.size_alloc]; omega), cell_alloc _ _ _ h]; exact e
theorem cell_alloc4 (w : World) (p : Addr) (v) (h : p.block < w.heap.size) (e : w.cell? p = some v) : ∀ x y z u, ((((w.alloc x).alloc y).alloc z).alloc u).cell? p = some v := fun x y z u => by
  rw [cell_alloc _ _ _ (by simp only [World.size_alloc]; omega)]; exact cell_alloc3 w p v h e x y z
theorem cell_alloc5 (w : World) (p : Addr) (v) (h : p.block < w.heap.size) (e : w.cell? p = some v) : ∀ x y z u t, (((((w.alloc x).alloc y).alloc z).alloc u).alloc t).cell? p = some v := fun x y z u t => by
  rw [cell_alloc _ _ _ (by simp only [World.size_alloc]; omega)]; exact cell_alloc4 w p v h e x y z u

theorem blk_alloc (w : World) (g : Nat) (ob o : Obj) (h : w.heap[g]? = some ob) : (w.alloc o).heap[g]? = some ob := (Below.heap_alloc w o g (blk_lt h)).trans h
theorem blk_alloc5 (w : World) (g : Nat) (ob : Obj) (h : w.heap[g]? = some ob) : ∀ x y z u t, (((((w.alloc x).alloc y).alloc z).alloc u).alloc t).heap[g]? = some ob := fun x y z u t =>
  blk_alloc _ _ _ _ (blk_alloc _ _ _ _ (blk_alloc _ _ _ _ (blk_alloc _ _ _ _ (blk_alloc _ _ _ _ h))))

set_option maxRecDepth 100000 in
set_option maxHeartbeats 1600000 in
theorem with_000 (o a b n : Int) (w : World) (A : Option Addr) (c : Nat) (hr : Reads w A (opndVs [])) (hc : 0 ≤ c) (hs : ∀ w, Calls Tryd.prog 41 #[.int .u8 o] w fun e w' => e = .returned (.agg #[.bool false, .bool false, .bool false]) ∧ Below w.heap.size w w') :
    Calls Tryd.prog 43 #[.int .u8 o, .slice A 0 c] w (WithL w ((o, 0, 0, 0), true)) := by
  have HS := Lib.hid hs
  clear hs hr
  unfold WithL insV
  go_enter Tryd.func43, Tryd.ntmps43
  go_wp2_with fail
  refine (HS.out _).mono ?_
  rintro e w1 ⟨rfl, hb⟩
  have Hb := Lib.hid hb
  have HN := blk_alloc5 w1 w.heap.size _ ((hb.block w.heap.size (by simp)).trans (heap_alloc_new w _))
  have g0 := fun x y z u t => blk_cell (HN x y z u t) 0
  have h0 := fun x y z u t => blk_frozen (HN x y z u t) 0
  simp at g0
  have g1 := fun x y z u t => blk_cell (HN x y z u t) 1
  have h1 := fun x y z u t => blk_frozen (HN x y z u t) 1
  simp at g1
  have g2 := fun x y z u t => blk_cell (HN x y z u t) 2
  have h2 := fun x y z u t => blk_frozen (HN x y z u t) 2
  simp at g2
  have g3 := fun x y z u t => blk_cell (HN x y z u t) 3
  have h3 := fun x y z u t => blk_frozen (HN x y z u t) 3
  simp at g3
  have HN' := Lib.hid HN
  clear HN
  clear hb 
  go_wp2
  refine wp_loop_rounds 3 ?_
  rw [rounds_succ]
  go_wp2
  all_goals rw [rounds_succ]
  all_goals go_wp2
  all_goals rw [rounds_succ]
  all_goals go_wp2
  all_goals have k0 : ∀ x y z u t, ((((((w1.alloc x).alloc y).alloc z).alloc u).alloc t).setCell ⟨w.heap.size, 0, none⟩ (.int .u8 o)).cell? ⟨w.heap.size, 0, none⟩ = some (.int .u8 o) := fun x y z u t => (blk_cell (blk_set (HN'.out x y z u t) 0 _) 0).trans (by simp)
  all_goals have k1 : ∀ x y z u t, (((((((w1.alloc x).alloc y).alloc z).alloc u).alloc t).setCell ⟨w.heap.size, 0, none⟩ (.int .u8 o)).setCell ⟨w.heap.size, 1, none⟩ (.int .u8 0)).cell? ⟨w.heap.size, 1, none⟩ = some (.int .u8 0) := fun x y z u t => (blk_cell (blk_set (blk_set (HN'.out x y z u t) 0 _) 1 _) 1).trans (by simp)
  all_goals have k2 : ∀ x y z u t, ((((((((w1.alloc x).alloc y).alloc z).alloc u).alloc t).setCell ⟨w.heap.size, 0, none⟩ (.int .u8 o)).setCell ⟨w.heap.size, 1, none⟩ (.int .u8 0)).setCell ⟨w.heap.size, 2, none⟩ (.int .u8 0)).cell? ⟨w.heap.size, 2, none⟩ = some (.int .u8 0) := fun x y z u t => (blk_cell (blk_set (blk_set (blk_set (HN'.out x y z u t) 0 _) 1 _) 2 _) 2).trans (by simp)
  all_goals have k3 : ∀ x y z u t, (((((((((w1.alloc x).alloc y).alloc z).alloc u).alloc t).setCell ⟨w.heap.size, 0, none⟩ (.int .u8 o)).setCell ⟨w.heap.size, 1, none⟩ (.int .u8 0)).setCell ⟨w.heap.size, 2, none⟩ (.int .u8 0)).setCell ⟨w.heap.size, 3, none⟩ (.int .u16 0)).cell? ⟨w.heap.size, 3, none⟩ = some (.int .u16 0) := fun x y z u t => (blk_cell (blk_set (blk_set (blk_set (blk_set (HN'.out x y z u t) 0 _) 1 _) 2 _) 3 _) 3).trans (by simp)
  all_goals refine bodyPost_ret (v := .tuple #[insV o 0 0 0, .bool true]) (by simp [results, Tryd.results43, go_sem, insV, k0, k1, k2, k3]) rfl ⟨rfl, ?_⟩
  all_goals have HB : Only [] w w1 := Only.of_below (((Below.refl w.heap.size w).alloc (Nat.le_refl _) _).trans (Hb.out.mono (by simp)))
  all_goals refine Only.below (S := []) ?_ (Nat.le_refl _) (by simp)
  all_goals repeat' (first | exact HB | refine Only.setCell ?_ (.inr (Nat.le_refl _)) _ | refine Only.alloc ?_ _)

set_option maxRecDepth 100000 in
set_option maxHeartbeats 1600000 in
theorem with_001 (o a b n : Int) (w : World) (A : Option Addr) (c : Nat) (hr : Reads w A (opndVs [.imm n])) (hc : 1 ≤ c) (hs : ∀ w, Calls Tryd.prog 41 #[.int .u8 o] w fun e w' => e = .returned (.agg #[.bool false, .bool false, .bool true]) ∧ Below w.heap.size w w') :
    Calls Tryd.prog 43 #[.int .u8 o, .slice A 1 c] w (WithL w ((o, 0, 0, n), true)) := by
  obtain ⟨p0, rfl, -, l0⟩ := Reads.head hr
  obtain ⟨p0', hp0, d0⟩ := hr 0 (by simp [opndVs])
  obtain rfl := Option.some.inj hp0
  clear hp0
  have d0 : w.cell? (p0.add 0) = some (opndV (.imm n)) := d0
  unfold opndV at d0
  dsimp only at d0
  rw [addr_add_zero] at d0
  have HS := Lib.hid hs
  clear hs hr
  unfold WithL insV
  go_enter Tryd.func43, Tryd.ntmps43
  go_wp2_with fail
  refine (HS.out _).mono ?_
  rintro e w1 ⟨rfl, hb⟩
  have e0 := (hb.cell (by simp <;> omega)).trans ((cell_alloc _ _ _ (by exact l0)).trans d0)
  have hz := hb.size
  simp only [World.size_alloc] at hz
  have q0 : p0.block < w1.heap.size := by omega
  have Hb := Lib.hid hb
  have q0' := Lib.hid q0
  have f0 := cell_alloc5 w1 _ _ (by exact q0) e0
  have HN := blk_alloc5 w1 w.heap.size _ ((hb.block w.heap.size (by simp)).trans (heap_alloc_new w _))
  have g0 := fun x y z u t => blk_cell (HN x y z u t) 0
  have h0 := fun x y z u t => blk_frozen (HN x y z u t) 0
  simp at g0
  have g1 := fun x y z u t => blk_cell (HN x y z u t) 1
  have h1 := fun x y z u t => blk_frozen (HN x y z u t) 1
  simp at g1
  have g2 := fun x y z u t => blk_cell (HN x y z u t) 2
  have h2 := fun x y z u t => blk_frozen (HN x y z u t) 2
  simp at g2
  have g3 := fun x y z u t => blk_cell (HN x y z u t) 3
  have h3 := fun x y z u t => blk_frozen (HN x y z u t) 3
  simp at g3
  have HN' := Lib.hid HN
  clear HN
  clear hb d0 e0 q0 l0
  go_wp2
  refine wp_loop_rounds 3 ?_
  rw [rounds_succ]
  go_wp2
  all_goals rw [rounds_succ]
  all_goals go_wp2
  all_goals rw [rounds_succ]
  all_goals go_wp2
  all_goals have k0 : ∀ x y z u t, ((((((w1.alloc x).alloc y).alloc z).alloc u).alloc t).setCell ⟨w.heap.size, 0, none⟩ (.int .u8 o)).cell? ⟨w.heap.size, 0, none⟩ = some (.int .u8 o) := fun x y z u t => (blk_cell (blk_set (HN'.out x y z u t) 0 _) 0).trans (by simp)
  all_goals have k1 : ∀ x y z u t, (((((((w1.alloc x).alloc y).alloc z).alloc u).alloc t).setCell ⟨w.heap.size, 0, none⟩ (.int .u8 o)).setCell ⟨w.heap.size, 1, none⟩ (.int .u8 0)).cell? ⟨w.heap.size, 1, none⟩ = some (.int .u8 0) := fun x y z u t => (blk_cell (blk_set (blk_set (HN'.out x y z u t) 0 _) 1 _) 1).trans (by simp)
  all_goals have k2 : ∀ x y z u t, ((((((((w1.alloc x).alloc y).alloc z).alloc u).alloc t).setCell ⟨w.heap.size, 0, none⟩ (.int .u8 o)).setCell ⟨w.heap.size, 1, none⟩ (.int .u8 0)).setCell ⟨w.heap.size, 2, none⟩ (.int .u8 0)).cell? ⟨w.heap.size, 2, none⟩ = some (.int .u8 0) := fun x y z u t => (blk_cell (blk_set (blk_set (blk_set (HN'.out x y z u t) 0 _) 1 _) 2 _) 2).trans (by simp)
  all_goals have k3 : ∀ x y z u t, (((((((((w1.alloc x).alloc y).alloc z).alloc u).alloc t).setCell ⟨w.heap.size, 0, none⟩ (.int .u8 o)).setCell ⟨w.heap.size, 1, none⟩ (.int .u8 0)).setCell ⟨w.heap.size, 2, none⟩ (.int .u8 0)).setCell ⟨w.heap.size, 3, none⟩ (.int .u16 n)).cell? ⟨w.heap.size, 3, none⟩ = some (.int .u16 n) := fun x y z u t => (blk_cell (blk_set (blk_set (blk_set (blk_set (HN'.out x y z u t) 0 _) 1 _) 2 _) 3 _) 3).trans (by simp)
  all_goals refine bodyPost_ret (v := .tuple #[insV o 0 0 n, .bool true]) (by simp [results, Tryd.results43, go_sem, insV, k0, k1, k2, k3]) rfl ⟨rfl, ?_⟩
  all_goals have HB : Only [] w w1 := Only.of_below (((Below.refl w.heap.size w).alloc (Nat.le_refl _) _).trans (Hb.out.mono (by simp)))
  all_goals refine Only.below (S := []) ?_ (Nat.le_refl _) (by simp)
  all_goals repeat' (first | exact HB | refine Only.setCell ?_ (.inr (Nat.le_refl _)) _ | refine Only.alloc ?_ _)

set_option maxRecDepth 100000 in
set_option maxHeartbeats 1600000 in
theorem with_101 (o a b n : Int) (w : World) (A : Option Addr) (c : Nat) (hr : Reads w A (opndVs [.reg a, .imm n])) (hc : 2 ≤ c) (hs : ∀ w, Calls Tryd.prog 41 #[.int .u8 o] w fun e w' => e = .returned (.agg #[.bool true, .bool false, .bool true]) ∧ Below w.heap.size w w') :
    Calls Tryd.prog 43 #[.int .u8 o, .slice A 2 c] w (WithL w ((o, a, 0, n), true)) := by
  obtain ⟨p0, rfl, -, l0⟩ := Reads.head hr
  obtain ⟨p0', hp0, d0⟩ := hr 0 (by simp [opndVs])
  obtain rfl := Option.some.inj hp0
  clear hp0
  have d0 : w.cell? (p0.add 0) = some (opndV (.reg a)) := d0
  unfold opndV at d0
  dsimp only at d0
  rw [addr_add_zero] at d0
  obtain ⟨p0', hp1, d1⟩ := hr 1 (by simp [opndVs])
  obtain rfl := Option.some.inj hp1
  clear hp1
  have d1 : w.cell? (p0.add 1) = some (opndV (.imm n)) := d1
  unfold opndV at d1
  dsimp only at d1
  simp only [Addr.add] at d1
  simp at d1
  have HS := Lib.hid hs
  clear hs hr
  unfold WithL insV
  go_enter Tryd.func43, Tryd.ntmps43
  go_wp2_with fail
  refine (HS.out _).mono ?_
  rintro e w1 ⟨rfl, hb⟩
  have e0 := (hb.cell (by simp <;> omega)).trans ((cell_alloc _ _ _ (by exact l0)).trans d0)
  have e1 := (hb.cell (by simp <;> omega)).trans ((cell_alloc _ _ _ (by exact l0)).trans d1)
  have hz := hb.size
  simp only [World.size_alloc] at hz
  have q0 : p0.block < w1.heap.size := by omega
  have Hb := Lib.hid hb
  have q0' := Lib.hid q0
  have f0 := cell_alloc4 w1 _ _ (by exact q0) e0
  have f1 := cell_alloc5 w1 _ _ (by exact q0) e1
  have HN := blk_alloc5 w1 w.heap.size _ ((hb.block w.heap.size (by simp)).trans (heap_alloc_new w _))
  have g0 := fun x y z u t => blk_cell (HN x y z u t) 0
  have h0 := fun x y z u t => blk_frozen (HN x y z u t) 0
  simp at g0
  have g1 := fun x y z u t => blk_cell (HN x y z u t) 1
  have h1 := fun x y z u t => blk_frozen (HN x y z u t) 1
  simp at g1
  have g2 := fun x y z u t => blk_cell (HN x y z u t) 2
  have h2 := fun x y z u t => blk_frozen (HN x y z u t) 2
  simp at g2
  have g3 := fun x y z u t => blk_cell (HN x y z u t) 3
  have h3 := fun x y z u t => blk_frozen (HN x y z u t) 3
  simp at g3
  have HN' := Lib.hid HN
  clear HN
  clear hb d0 e0 d1 e1 q0 l0
  go_wp2
  refine wp_loop_rounds 3 ?_
  rw [rounds_succ]
  go_wp2
  all_goals rw [rounds_succ]
  all_goals go_wp2
  all_goals rw [rounds_succ]
  all_goals go_wp2
  all_goals have k0 : ∀ x y z u t, ((((((w1.alloc x).alloc y).alloc z).alloc u).alloc t).setCell ⟨w.heap.size, 0, none⟩ (.int .u8 o)).cell? ⟨w.heap.size, 0, none⟩ = some (.int .u8 o) := fun x y z u t => (blk_cell (blk_set (HN'.out x y z u t) 0 _) 0).trans (by simp)
  all_goals have k1 : ∀ x y z u t, (((((((w1.alloc x).alloc y).alloc z).alloc u).alloc t).setCell ⟨w.heap.size, 0, none⟩ (.int .u8 o)).setCell ⟨w.heap.size, 1, none⟩ (.int .u8 a)).cell? ⟨w.heap.size, 1, none⟩ = some (.int .u8 a) := fun x y z u t => (blk_cell (blk_set (blk_set (HN'.out x y z u t) 0 _) 1 _) 1).trans (by simp)
  all_goals have k2 : ∀ x y z u t, ((((((((w1.alloc x).alloc y).alloc z).alloc u).alloc t).setCell ⟨w.heap.size, 0, none⟩ (.int .u8 o)).setCell ⟨w.heap.size, 1, none⟩ (.int .u8 a)).setCell ⟨w.heap.size, 2, none⟩ (.int .u8 0)).cell? ⟨w.heap.size, 2, none⟩ = some (.int .u8 0) := fun x y z u t => (blk_cell (blk_set (blk_set (blk_set (HN'.out x y z u t) 0 _) 1 _) 2 _) 2).trans (by simp)
  all_goals have k3 : ∀ x y z u t, (((((((((w1.alloc x).alloc y).alloc z).alloc u).alloc t).setCell ⟨w.heap.size, 0, none⟩ (.int .u8 o)).setCell ⟨w.heap.size, 1, none⟩ (.int .u8 a)).setCell ⟨w.heap.size, 2, none⟩ (.int .u8 0)).setCell ⟨w.heap.size, 3, none⟩ (.int .u16 n)).cell? ⟨w.heap.size, 3, none⟩ = some (.int .u16 n) := fun x y z u t => (blk_cell (blk_set (blk_set (blk_set (blk_set (HN'.out x y z u t) 0 _) 1 _) 2 _) 3 _) 3).trans (by simp)
  all_goals refine bodyPost_ret (v := .tuple #[insV o a 0 n, .bool true]) (by simp [results, Tryd.results43, go_sem, insV, k0, k1, k2, k3]) rfl ⟨rfl, ?_⟩
  all_goals have HB : Only [] w w1 := Only.of_below (((Below.refl w.heap.size w).alloc (Nat.le_refl _) _).trans (Hb.out.mono (by simp)))
  all_goals refine Only.below (S := []) ?_ (Nat.le_refl _) (by simp)
  all_goals repeat' (first | exact HB | refine Only.setCell ?_ (.inr (Nat.le_refl _)) _ | refine Only.alloc ?_ _)

set_option maxRecDepth 100000 in
set_option maxHeartbeats 1600000 in
theorem with_110 (o a b n : Int) (w : World) (A : Option Addr) (c : Nat) (hr : Reads w A (opndVs [.reg a, .reg b])) (hc : 2 ≤ c) (hs : ∀ w, Calls Tryd.prog 41 #[.int .u8 o] w fun e w' => e = .returned (.agg #[.bool true, .bool true, .bool false]) ∧ Below w.heap.size w w') :
    Calls Tryd.prog 43 #[.int .u8 o, .slice A 2 c] w (WithL w ((o, a, b, 0), true)) := by
  obtain ⟨p0, rfl, -, l0⟩ := Reads.head hr
  obtain ⟨p0', hp0, d0⟩ := hr 0 (by simp [opndVs])
  obtain rfl := Option.some.inj hp0
  clear hp0
  have d0 : w.cell? (p0.add 0) = some (opndV (.reg a)) := d0
  unfold opndV at d0
  dsimp only at d0
  rw [addr_add_zero] at d0
  obtain ⟨p0', hp1, d1⟩ := hr 1 (by simp [opndVs])
  obtain rfl := Option.some.inj hp1
  clear hp1
  have d1 : w.cell? (p0.add 1) = some (opndV (.reg b)) := d1
  unfold opndV at d1
  dsimp only at d1
  simp only [Addr.add] at d1
  simp at d1
  have HS := Lib.hid hs
  clear hs hr
  unfold WithL insV
  go_enter Tryd.func43, Tryd.ntmps43
  go_wp2_with fail
  refine (HS.out _).mono ?_
  rintro e w1 ⟨rfl, hb⟩
  have e0 := (hb.cell (by simp <;> omega)).trans ((cell_alloc _ _ _ (by exact l0)).trans d0)
  have e1 := (hb.cell (by simp <;> omega)).trans ((cell_alloc _ _ _ (by exact l0)).trans d1)
  have hz := hb.size
  simp only [World.size_alloc] at hz
  have q0 : p0.block < w1.heap.size := by omega
  have Hb := Lib.hid hb
  have q0' := Lib.hid q0
  have f0 := cell_alloc4 w1 _ _ (by exact q0) e0
  have f1 := cell_alloc5 w1 _ _ (by exact q0) e1
  have HN := blk_alloc5 w1 w.heap.size _ ((hb.block w.heap.size (by simp)).trans (heap_alloc_new w _))
  have g0 := fun x y z u t => blk_cell (HN x y z u t) 0
  have h0 := fun x y z u t => blk_frozen (HN x y z u t) 0
  simp at g0
  have g1 := fun x y z u t => blk_cell (HN x y z u t) 1
  have h1 := fun x y z u t => blk_frozen (HN x y z u t) 1
  simp at g1
  have g2 := fun x y z u t => blk_cell (HN x y z u t) 2
  have h2 := fun x y z u t => blk_frozen (HN x y z u t) 2
  simp at g2
  have g3 := fun x y z u t => blk_cell (HN x y z u t) 3
  have h3 := fun x y z u t => blk_frozen (HN x y z u t) 3
  simp at g3
  have HN' := Lib.hid HN
  clear HN
  clear hb d0 e0 d1 e1 q0 l0
  go_wp2
  refine wp_loop_rounds 3 ?_
  rw [rounds_succ]
  go_wp2
  all_goals rw [rounds_succ]
  all_goals go_wp2
  all_goals rw [rounds_succ]
  all_goals go_wp2
  all_goals have k0 : ∀ x y z u t, ((((((w1.alloc x).alloc y).alloc z).alloc u).alloc t).setCell ⟨w.heap.size, 0, none⟩ (.int .u8 o)).cell? ⟨w.heap.size, 0, none⟩ = some (.int .u8 o) := fun x y z u t => (blk_cell (blk_set (HN'.out x y z u t) 0 _) 0).trans (by simp)
  all_goals have k1 : ∀ x y z u t, (((((((w1.alloc x).alloc y).alloc z).alloc u).alloc t).setCell ⟨w.heap.size, 0, none⟩ (.int .u8 o)).setCell ⟨w.heap.size, 1, none⟩ (.int .u8 a)).cell? ⟨w.heap.size, 1, none⟩ = some (.int .u8 a) := fun x y z u t => (blk_cell (blk_set (blk_set (HN'.out x y z u t) 0 _) 1 _) 1).trans (by simp)
  all_goals have k2 : ∀ x y z u t, ((((((((w1.alloc x).alloc y).alloc z).alloc u).alloc t).setCell ⟨w.heap.size, 0, none⟩ (.int .u8 o)).setCell ⟨w.heap.size, 1, none⟩ (.int .u8 a)).setCell ⟨w.heap.size, 2, none⟩ (.int .u8 b)).cell? ⟨w.heap.size, 2, none⟩ = some (.int .u8 b) := fun x y z u t => (blk_cell (blk_set (blk_set (blk_set (HN'.out x y z u t) 0 _) 1 _) 2 _) 2).trans (by simp)
  all_goals have k3 : ∀ x y z u t, (((((((((w1.alloc x).alloc y).alloc z).alloc u).alloc t).setCell ⟨w.heap.size, 0, none⟩ (.int .u8 o)).setCell ⟨w.heap.size, 1, none⟩ (.int .u8 a)).setCell ⟨w.heap.size, 2, none⟩ (.int .u8 b)).setCell ⟨w.heap.size, 3, none⟩ (.int .u16 0)).cell? ⟨w.heap.size, 3, none⟩ = some (.int .u16 0) := fun x y z u t => (blk_cell (blk_set (blk_set (blk_set (blk_set (HN'.out x y z u t) 0 _) 1 _) 2 _) 3 _) 3).trans (by simp)
  all_goals refine bodyPost_ret (v := .tuple #[insV o a b 0, .bool true]) (by simp [results, Tryd.results43, go_sem, insV, k0, k1, k2, k3]) rfl ⟨rfl, ?_⟩
  all_goals have HB : Only [] w w1 := Only.of_below (((Below.refl w.heap.size w).alloc (Nat.le_refl _) _).trans (Hb.out.mono (by simp)))
  all_goals refine Only.below (S := []) ?_ (Nat.le_refl _) (by simp)
  all_goals repeat' (first | exact HB | refine Only.setCell ?_ (.inr (Nat.le_refl _)) _ | refine Only.alloc ?_ _)

set_option maxRecDepth 100000 in
set_option maxHeartbeats 1600000 in
theorem with_111 (o a b n : Int) (w : World) (A : Option Addr) (c : Nat) (hr : Reads w A (opndVs [.reg a, .reg b, .imm n])) (hc : 3 ≤ c) (hs : ∀ w, Calls Tryd.prog 41 #[.int .u8 o] w fun e w' => e = .returned (.agg #[.bool true, .bool true, .bool true]) ∧ Below w.heap.size w w') :
    Calls Tryd.prog 43 #[.int .u8 o, .slice A 3 c] w (WithL w ((o, a, b, n), true)) := by
  obtain ⟨p0, rfl, -, l0⟩ := Reads.head hr
  obtain ⟨p0', hp0, d0⟩ := hr 0 (by simp [opndVs])
  obtain rfl := Option.some.inj hp0
  clear hp0
  have d0 : w.cell? (p0.add 0) = some (opndV (.reg a)) := d0
  unfold opndV at d0
  dsimp only at d0
  rw [addr_add_zero] at d0
  obtain ⟨p0', hp1, d1⟩ := hr 1 (by simp [opndVs])
  obtain rfl := Option.some.inj hp1
  clear hp1
  have d1 : w.cell? (p0.add 1) = some (opndV (.reg b)) := d1
  unfold opndV at d1
  dsimp only at d1
  simp only [Addr.add] at d1
  simp at d1
  obtain ⟨p0', hp2, d2⟩ := hr 2 (by simp [opndVs])
  obtain rfl := Option.some.inj hp2
  clear hp2
  have d2 : w.cell? (p0.add 2) = some (opndV (.imm n)) := d2
  unfold opndV at d2
  dsimp only at d2
  simp only [Addr.add] at d2
  simp at d2
  have HS := Lib.hid hs
  clear hs hr
  unfold WithL insV
  go_enter Tryd.func43, Tryd.ntmps43
  go_wp2_with fail
  refine (HS.out _).mono ?_
  rintro e w1 ⟨rfl, hb⟩
  have e0 := (hb.cell (by simp <;> omega)).trans ((cell_alloc _ _ _ (by exact l0)).trans d0)
  have e1 := (hb.cell (by simp <;> omega)).trans ((cell_alloc _ _ _ (by exact l0)).trans d1)
  have e2 := (hb.cell (by simp <;> omega)).trans ((cell_alloc _ _ _ (by exact l0)).trans d2)
  have hz := hb.size
  simp only [World.size_alloc] at hz
  have q0 : p0.block < w1.heap.size := by omega
  have Hb := Lib.hid hb
  have q0' := Lib.hid q0
  have f0 := cell_alloc4 w1 _ _ (by exact q0) e0
  have f1 := cell_alloc5 w1 _ _ (by exact q0) e1
  have f2 := cell_alloc5 w1 _ _ (by exact q0) e2
  have HN := blk_alloc5 w1 w.heap.size _ ((hb.block w.heap.size (by simp)).trans (heap_alloc_new w _))
  have g0 := fun x y z u t => blk_cell (HN x y z u t) 0
  have h0 := fun x y z u t => blk_frozen (HN x y z u t) 0
  simp at g0
  have g1 := fun x y z u t => blk_cell (HN x y z u t) 1
  have h1 := fun x y z u t => blk_frozen (HN x y z u t) 1
  simp at g1
  have g2 := fun x y z u t => blk_cell (HN x y z u t) 2
  have h2 := fun x y z u t => blk_frozen (HN x y z u t) 2
  simp at g2
  have g3 := fun x y z u t => blk_cell (HN x y z u t) 3
  have h3 := fun x y z u t => blk_frozen (HN x y z u t) 3
  simp at g3
  have HN' := Lib.hid HN
  clear HN
  clear hb d0 e0 d1 e1 d2 e2 q0 l0
  go_wp2
  refine wp_loop_rounds 3 ?_
  rw [rounds_succ]
  go_wp2
  all_goals rw [rounds_succ]
  all_goals go_wp2
  all_goals rw [rounds_succ]
  all_goals go_wp2
  all_goals have k0 : ∀ x y z u t, ((((((w1.alloc x).alloc y).alloc z).alloc u).alloc t).setCell ⟨w.heap.size, 0, none⟩ (.int .u8 o)).cell? ⟨w.heap.size, 0, none⟩ = some (.int .u8 o) := fun x y z u t => (blk_cell (blk_set (HN'.out x y z u t) 0 _) 0).trans (by simp)
  all_goals have k1 : ∀ x y z u t, (((((((w1.alloc x).alloc y).alloc z).alloc u).alloc t).setCell ⟨w.heap.size, 0, none⟩ (.int .u8 o)).setCell ⟨w.heap.size, 1, none⟩ (.int .u8 a)).cell? ⟨w.heap.size, 1, none⟩ = some (.int .u8 a) := fun x y z u t => (blk_cell (blk_set (blk_set (HN'.out x y z u t) 0 _) 1 _) 1).trans (by simp)
  all_goals have k2 : ∀ x y z u t, ((((((((w1.alloc x).alloc y).alloc z).alloc u).alloc t).setCell ⟨w.heap.size, 0, none⟩ (.int .u8 o)).setCell ⟨w.heap.size, 1, none⟩ (.int .u8 a)).setCell ⟨w.heap.size, 2, none⟩ (.int .u8 b)).cell? ⟨w.heap.size, 2, none⟩ = some (.int .u8 b) := fun x y z u t => (blk_cell (blk_set (blk_set (blk_set (HN'.out x y z u t) 0 _) 1 _) 2 _) 2).trans (by simp)
  all_goals have k3 : ∀ x y z u t, (((((((((w1.alloc x).alloc y).alloc z).alloc u).alloc t).setCell ⟨w.heap.size, 0, none⟩ (.int .u8 o)).setCell ⟨w.heap.size, 1, none⟩ (.int .u8 a)).setCell ⟨w.heap.size, 2, none⟩ (.int .u8 b)).setCell ⟨w.heap.size, 3, none⟩ (.int .u16 n)).cell? ⟨w.heap.size, 3, none⟩ = some (.int .u16 n) := fun x y z u t => (blk_cell (blk_set (blk_set (blk_set (blk_set (HN'.out x y z u t) 0 _) 1 _) 2 _) 3 _) 3).trans (by simp)
  all_goals refine bodyPost_ret (v := .tuple #[insV o a b n, .bool true]) (by simp [results, Tryd.results43, go_sem, insV, k0, k1, k2, k3]) rfl ⟨rfl, ?_⟩
  all_goals have HB : Only [] w w1 := Only.of_below (((Below.refl w.heap.size w).alloc (Nat.le_refl _) _).trans (Hb.out.mono (by simp)))
  all_goals refine Only.below (S := []) ?_ (Nat.le_refl _) (by simp)
  all_goals repeat' (first | exact HB | refine Only.setCell ?_ (.inr (Nat.le_refl _)) _ | refine Only.alloc ?_ _)
end Go.Proofs.YtjopikjefpenkaaDoor

/- Quanta: a deed on both, walked. -/
import Derived.Test.YtfdldlgnhdgmnaaRd
import Derived.Deep.RegionHeld3
namespace Go.Proofs.Ytfdldlgnhdgmnaa
open Go.RowKit

/-- Where both vectors lie, and the box of a deed's copy. -/
structure Where where
  b : Nat
  b1 : Nat
  b2 : Nat
  r : Nat
structure Deed where
  kd : Int
  place : Int
  env : Int
  tgt : Int
structure Deed.Ok (x : Deed) : Prop where
  e0 : 0 ≤ x.env
  e1 : x.env ≤ 255
  t0 : 0 ≤ x.tgt
  t1 : x.tgt ≤ 255
def Deed.val (x : Deed) : Value := .agg #[.int .i64 x.kd, .int .i64 x.place, .int .u8 x.env, .int .u8 x.tgt]
structure Both (w0 : World) (l : Where) (N : Nat) (x : Deed) (m1 m2 : QM) (w : World) : Prop where
  v : VecAt w l.b l.b1 l.b2 m1
  r : RefAt w l.r m2
  n : w.heap[N]? = some (.cells #[.int .i64 x.kd, .int .i64 x.place, .int .u8 x.env, .int .u8 x.tgt] 40 (0, 0))
  o : Only [l.b, l.b1, l.b2, l.r] w0 w
def BothL (w0 : World) (l : Where) (N : Nat) (x : Deed) (v : Value) (m1 m2 : QM) (e : Ending) (w' : World) : Prop := e = .returned v ∧ Both w0 l N x m1 m2 w'
theorem Both.ne {w0 l N x m1 m2 w} (h : Both w0 l N x m1 m2 w) : l.r ∉ [l.b, l.b1, l.b2] ∧ N ∉ [l.b, l.b1, l.b2] ∧ l.b ≠ l.r ∧ l.b1 ≠ l.r ∧ l.b2 ≠ l.r ∧ N ≠ l.r := by
  have a1 := blk_ne h.r.s h.v.s (by decide)
  have a2 := blk_ne h.r.s h.v.p (by decide)
  have a3 := blk_ne h.r.s h.v.q (by decide)
  have a4 := blk_ne h.n h.v.s (by decide)
  have a5 := blk_ne h.n h.v.p (by decide)
  have a6 := blk_ne h.n h.v.q (by decide)
  have a7 := blk_ne h.n h.r.s (by decide)
  exact ⟨by simp [a1, a2, a3], by simp [a4, a5, a6], a1.symm, a2.symm, a3.symm, a7⟩
theorem Both.left {w0 l N x m1 m2 w} (h : Both w0 l N x m1 m2 w) {v : Value} {m1' : QM} {e : Ending} {w' : World} (k : Left l.b l.b1 l.b2 w v m1' e w') : BothL w0 l N x v m1' m2 e w' :=
  ⟨k.1, k.2.1, h.r.only k.2.2 h.ne.1, k.2.2.blk h.n h.ne.2.1, h.o.trans (k.2.2.mono (by simp <;> omega))⟩
theorem Both.right {w0 l N x m1 m2 w} (h : Both w0 l N x m1 m2 w) {v : Value} {m2' : QM} {e : Ending} {w' : World} (k : LeftR l.r w v m2' e w') : BothL w0 l N x v m1 m2' e w' := by
  obtain ⟨_, _, a1, a2, a3, a4⟩ := h.ne
  exact ⟨k.1, h.v.only k.2.2 (by simpa using a1) (by simpa using a2) (by simpa using a3), k.2.1, k.2.2.blk h.n (by simpa using a4), h.o.trans (k.2.2.mono (by simp <;> omega))⟩
theorem Both.drew {w0 l N x m1 m2 w} (h : Both w0 l N x m1 m2 w) : Both w0 l N x m1 m2 w.drew := ⟨h.v.drew, h.r.drew, h.n, h.o.drew⟩
/-- The cells of the deed's box. -/
def BoxS (N : Nat) (x : Deed) (w : World) : Prop := w.cell? ⟨N, 0, none⟩ = some (.int .i64 x.kd) ∧ w.cell? ⟨N, 1, none⟩ = some (.int .i64 x.place) ∧ w.cell? ⟨N, 2, none⟩ = some (.int .u8 x.env) ∧ w.cell? ⟨N, 3, none⟩ = some (.int .u8 x.tgt)
theorem Both.s {w0 l N x m1 m2 w} (h : Both w0 l N x m1 m2 w) : BoxS N x w := by
  refine ⟨?_, ?_, ?_, ?_⟩ <;> rw [blk_cell h.n] <;> rfl
theorem Both.cell1 {w0 l N x m1 m2 w} (h : Hid (Both w0 l N x m1 m2 w)) : w.cell? ⟨N, 1, none⟩ = some (.int .i64 x.place) := h.out.s.2.1
theorem Both.cell2 {w0 l N x m1 m2 w} (h : Hid (Both w0 l N x m1 m2 w)) : w.cell? ⟨N, 2, none⟩ = some (.int .u8 x.env) := h.out.s.2.2.1
theorem Both.cell3 {w0 l N x m1 m2 w} (h : Hid (Both w0 l N x m1 m2 w)) : w.cell? ⟨N, 3, none⟩ = some (.int .u8 x.tgt) := h.out.s.2.2.2

section
variable {w0 : World} {l : Where} {N : Nat} {x : Deed} {m1 m2 : QM} {w : World}
theorem bTake (h : Hid (Both w0 l N x m1 m2 w)) (he : 0 ≤ x.env) : Calls Try.prog 11 #[.pointer (some ⟨l.b, 0, none⟩), .int .u8 x.env, .int .i64 x.place] w (BothL w0 l N x (.int .i64 (m1.take x.env x.place).1) (m1.take x.env x.place).2 m2) :=
  (Take_ok h.out.v _ _ he).mono fun _ _ k => h.out.left k
theorem bTakeR (h : Hid (Both w0 l N x m1 m2 w)) (he : 0 ≤ x.env) : Calls Try.prog 36 #[.pointer (some ⟨l.r, 0, none⟩), .int .u8 x.env, .int .i64 x.place] w (BothL w0 l N x (.int .i64 (m2.take x.env x.place).1) m1 (m2.take x.env x.place).2) :=
  (rTake_ok h.out.r _ _ he).mono fun _ _ k => h.out.right k
theorem bGive (h : Hid (Both w0 l N x m1 m2 w)) (hx : Hid x.Ok) : Calls Try.prog 20 #[.pointer (some ⟨l.b, 0, none⟩), .int .u8 x.env, .int .i64 x.place, .int .u8 x.tgt] w (BothL w0 l N x (.int .i64 (m1.give x.env x.place x.tgt).1) (m1.give x.env x.place x.tgt).2 m2) :=
  (Give_ok h.out.v _ _ _ hx.out.t0).mono fun _ _ k => h.out.left k
theorem bGiveR (h : Hid (Both w0 l N x m1 m2 w)) (hx : Hid x.Ok) : Calls Try.prog 37 #[.pointer (some ⟨l.r, 0, none⟩), .int .u8 x.env, .int .i64 x.place, .int .u8 x.tgt] w (BothL w0 l N x (.int .i64 (m2.give x.env x.place x.tgt).1) m1 (m2.give x.env x.place x.tgt).2) :=
  (rGive_ok h.out.r _ _ _ hx.out.e0 hx.out.t0 hx.out.e1).mono fun _ _ k => h.out.right k
theorem bDrop (h : Hid (Both w0 l N x m1 m2 w)) : Calls Try.prog 21 #[.pointer (some ⟨l.b, 0, none⟩), .int .u8 x.env, .int .i64 x.place] w (BothL w0 l N x (.int .i64 (m1.drop x.env x.place).1) (m1.drop x.env x.place).2 m2) :=
  (Drop_ok h.out.v _ _).mono fun _ _ k => h.out.left k
theorem bDropR (h : Hid (Both w0 l N x m1 m2 w)) (hx : Hid x.Ok) : Calls Try.prog 38 #[.pointer (some ⟨l.r, 0, none⟩), .int .u8 x.env, .int .i64 x.place] w (BothL w0 l N x (.int .i64 (m2.drop x.env x.place).1) m1 (m2.drop x.env x.place).2) :=
  (rDrop_ok h.out.r _ _ hx.out.e0 hx.out.e1).mono fun _ _ k => h.out.right k
theorem bOut (h : Hid (Both w0 l N x m1 m2 w)) (hx : Hid x.Ok) : Calls Try.prog 18 #[.pointer (some ⟨l.b, 0, none⟩), .int .u8 x.env] w (BothL w0 l N x (.int .i64 (m1.out x.env).1) (m1.out x.env).2 m2) :=
  (Out_ok h.out.v _ hx.out.e0).mono fun _ _ k => h.out.left k
theorem bOutR (h : Hid (Both w0 l N x m1 m2 w)) (hx : Hid x.Ok) : Calls Try.prog 39 #[.pointer (some ⟨l.r, 0, none⟩), .int .u8 x.env] w (BothL w0 l N x (.int .i64 (m2.out x.env).1) m1 (m2.out x.env).2) :=
  (rOut_ok h.out.r _ hx.out.e0 hx.out.e1).mono fun _ _ k => h.out.right k
theorem bOver (h : Hid (Both w0 l N x m1 m2 w)) (hx : Hid x.Ok) : Calls Try.prog 12 #[.pointer (some ⟨l.b, 0, none⟩), .int .u8 x.env, .int .i64 x.place] w (BothL w0 l N x (.int .i64 (m1.over x.env x.place).1) (m1.over x.env x.place).2 m2) :=
  (Over_ok h.out.v _ _ hx.out.e0).mono fun _ _ k => h.out.left k
theorem bOverR (h : Hid (Both w0 l N x m1 m2 w)) (hx : Hid x.Ok) : Calls Try.prog 40 #[.pointer (some ⟨l.r, 0, none⟩), .int .u8 x.env, .int .i64 x.place] w (BothL w0 l N x (.int .i64 (m2.over x.env x.place).1) m1 (m2.over x.env x.place).2) :=
  (rOver_ok h.out.r _ _ hx.out.e0).mono fun _ _ k => h.out.right k
theorem bTurn (h : Hid (Both w0 l N x m1 m2 w)) : Calls Try.prog 14 #[.pointer (some ⟨l.b, 0, none⟩)] w (BothL w0 l N x (.tuple #[.int .i64 m1.turn.1.1, .int .u8 m1.turn.1.2.1, .bool m1.turn.1.2.2]) m1.turn.2 m2) :=
  (Turn_ok h.out.v).mono fun _ _ k => h.out.left k
theorem bTurnR (h : Hid (Both w0 l N x m1 m2 w)) : Calls Try.prog 41 #[.pointer (some ⟨l.r, 0, none⟩)] w (BothL w0 l N x (.tuple #[.int .i64 m2.turn.1.1, .int .u8 m2.turn.1.2.1, .bool m2.turn.1.2.2]) m1 m2.turn.2) :=
  (rTurn_ok h.out.r).mono fun _ _ k => h.out.right k
end

def QM.deed (m : QM) (x : Deed) : QM :=
  if x.kd = 0 then (m.take x.env x.place).2 else if x.kd = 1 then (m.give x.env x.place x.tgt).2 else if x.kd = 2 then (m.drop x.env x.place).2
  else if x.kd = 3 then (m.out x.env).2 else if x.kd = 4 then (m.over x.env x.place).2 else if x.kd = 5 then m.turn.2 else m

theorem two_beq (a b : Int) (h : a = b) : (a == b) = true := by simp [h]
/-- What the walk of a deed starts with: the deed's box is laid. -/
theorem Both.start {w : World} {l : Where} {x : Deed} {m : QM} (hv : VecAt w l.b l.b1 l.b2 m) (hr : RefAt w l.r m) :
    Both w l w.heap.size x m m (w.alloc (.cells #[.int .i64 x.kd, .int .i64 x.place, .int .u8 x.env, .int .u8 x.tgt] 40)) :=
  Both.mk (hv.alloc _) (hr.only ((Only.refl [] w).alloc _) (by simp)) (heap_alloc_new w _) ((Only.refl _ w).alloc _)
def DoneL (w : World) (l : Where) (m : QM) (w' : World) : Prop := VecAt w' l.b l.b1 l.b2 m ∧ RefAt w' l.r m ∧ Only [l.b, l.b1, l.b2, l.r] w w'
theorem doneOf {w0 : World} {l : Where} {N : Nat} {x : Deed} {m m' : QM} {w : World} (h : Hid (Both w0 l N x m m w)) (e : Hid (m = m')) : Hid (DoneL w0 l m' w) := by
  obtain rfl := e.out
  exact ⟨h.out.v, h.out.r, h.out.o⟩

set_option maxRecDepth 100000 in
set_option maxHeartbeats 800000 in
theorem do0 {w : World} {l : Where} {m : QM} (place env tgt : Int) (hv : VecAt w l.b l.b1 l.b2 m) (hr : RefAt w l.r m) (hx : Deed.Ok ⟨0, place, env, tgt⟩) :
    Calls Try.prog 25 #[.pointer (some ⟨l.b, 0, none⟩), .pointer (some ⟨l.r, 0, none⟩), .agg #[.int .i64 0, .int .i64 place, .int .u8 env, .int .u8 tgt]] w fun e w' => e = .returned (.bool true) ∧ Hid (DoneL w l (m.deed ⟨0, place, env, tgt⟩) w') := by
  have HB : Hid (Both w l w.heap.size ⟨0, place, env, tgt⟩ m m (w.alloc (.cells #[.int .i64 0, .int .i64 place, .int .u8 env, .int .u8 tgt] 40)).drew) := (Both.start hv hr).drew
  have HX := Lib.hid hx
  clear hv hr hx
  have HE : Hid ((m.take env place).2 = m.deed ⟨0, place, env, tgt⟩) := by unfold Hid; simp [QM.deed]
  go_enter Try.func25, Try.ntmps25
  go_wp2_with fail
  go_region_held3 (fun w' => w'.cell? ⟨w.heap.size, 1, none⟩ = some (.int .i64 place) ∧ w'.cell? ⟨w.heap.size, 2, none⟩ = some (.int .u8 env))
    (first | go_keep | exact ⟨Both.cell1 HB, Both.cell2 HB⟩)
    (first | (go_at_call 11; refine (bTake HB HX.out.e0).mono ?_; clear HB; rintro e w3 ⟨rfl, HB⟩; replace HB := Lib.hid HB) | (go_at_call 36; refine (bTakeR HB HX.out.e0).mono ?_; clear HB; rintro e w3 ⟨rfl, HB⟩; replace HB := Lib.hid HB))
  all_goals go_wp2
  all_goals (go_ret; exact ⟨rfl, doneOf HB HE⟩)

set_option maxRecDepth 100000 in
set_option maxHeartbeats 800000 in
theorem do1 {w : World} {l : Where} {m : QM} (place env tgt : Int) (hv : VecAt w l.b l.b1 l.b2 m) (hr : RefAt w l.r m) (hx : Deed.Ok ⟨1, place, env, tgt⟩) :
    Calls Try.prog 25 #[.pointer (some ⟨l.b, 0, none⟩), .pointer (some ⟨l.r, 0, none⟩), .agg #[.int .i64 1, .int .i64 place, .int .u8 env, .int .u8 tgt]] w fun e w' => e = .returned (.bool true) ∧ Hid (DoneL w l (m.deed ⟨1, place, env, tgt⟩) w') := by
  have HB : Hid (Both w l w.heap.size ⟨1, place, env, tgt⟩ m m (w.alloc (.cells #[.int .i64 1, .int .i64 place, .int .u8 env, .int .u8 tgt] 40)).drew) := (Both.start hv hr).drew
  have HX := Lib.hid hx
  clear hv hr hx
  have HE : Hid ((m.give env place tgt).2 = m.deed ⟨1, place, env, tgt⟩) := by unfold Hid; simp [QM.deed]
  go_enter Try.func25, Try.ntmps25
  go_wp2_with fail
  go_region_held3 (fun w' => w'.cell? ⟨w.heap.size, 1, none⟩ = some (.int .i64 place) ∧ w'.cell? ⟨w.heap.size, 2, none⟩ = some (.int .u8 env) ∧ w'.cell? ⟨w.heap.size, 3, none⟩ = some (.int .u8 tgt))
    (first | go_keep | exact ⟨Both.cell1 HB, Both.cell2 HB, Both.cell3 HB⟩)
    (first | (go_at_call 20; refine (bGive HB HX).mono ?_; clear HB; rintro e w3 ⟨rfl, HB⟩; replace HB := Lib.hid HB) | (go_at_call 37; refine (bGiveR HB HX).mono ?_; clear HB; rintro e w3 ⟨rfl, HB⟩; replace HB := Lib.hid HB))
  all_goals go_wp2
  all_goals (go_ret; exact ⟨rfl, doneOf HB HE⟩)

set_option maxRecDepth 100000 in
set_option maxHeartbeats 800000 in
theorem do2 {w : World} {l : Where} {m : QM} (place env tgt : Int) (hv : VecAt w l.b l.b1 l.b2 m) (hr : RefAt w l.r m) (hx : Deed.Ok ⟨2, place, env, tgt⟩) :
    Calls Try.prog 25 #[.pointer (some ⟨l.b, 0, none⟩), .pointer (some ⟨l.r, 0, none⟩), .agg #[.int .i64 2, .int .i64 place, .int .u8 env, .int .u8 tgt]] w fun e w' => e = .returned (.bool true) ∧ Hid (DoneL w l (m.deed ⟨2, place, env, tgt⟩) w') := by
  have HB : Hid (Both w l w.heap.size ⟨2, place, env, tgt⟩ m m (w.alloc (.cells #[.int .i64 2, .int .i64 place, .int .u8 env, .int .u8 tgt] 40)).drew) := (Both.start hv hr).drew
  have HX := Lib.hid hx
  clear hv hr hx
  have HE : Hid ((m.drop env place).2 = m.deed ⟨2, place, env, tgt⟩) := by unfold Hid; simp [QM.deed]
  go_enter Try.func25, Try.ntmps25
  go_wp2_with fail
  go_region_held3 (fun w' => w'.cell? ⟨w.heap.size, 1, none⟩ = some (.int .i64 place) ∧ w'.cell? ⟨w.heap.size, 2, none⟩ = some (.int .u8 env))
    (first | go_keep | exact ⟨Both.cell1 HB, Both.cell2 HB⟩)
    (first | (go_at_call 21; refine (bDrop HB).mono ?_; clear HB; rintro e w3 ⟨rfl, HB⟩; replace HB := Lib.hid HB) | (go_at_call 38; refine (bDropR HB HX).mono ?_; clear HB; rintro e w3 ⟨rfl, HB⟩; replace HB := Lib.hid HB))
  all_goals go_wp2
  all_goals (go_ret; exact ⟨rfl, doneOf HB HE⟩)

set_option maxRecDepth 100000 in
set_option maxHeartbeats 800000 in
theorem do3 {w : World} {l : Where} {m : QM} (place env tgt : Int) (hv : VecAt w l.b l.b1 l.b2 m) (hr : RefAt w l.r m) (hx : Deed.Ok ⟨3, place, env, tgt⟩) :
    Calls Try.prog 25 #[.pointer (some ⟨l.b, 0, none⟩), .pointer (some ⟨l.r, 0, none⟩), .agg #[.int .i64 3, .int .i64 place, .int .u8 env, .int .u8 tgt]] w fun e w' => e = .returned (.bool true) ∧ Hid (DoneL w l (m.deed ⟨3, place, env, tgt⟩) w') := by
  have HB : Hid (Both w l w.heap.size ⟨3, place, env, tgt⟩ m m (w.alloc (.cells #[.int .i64 3, .int .i64 place, .int .u8 env, .int .u8 tgt] 40)).drew) := (Both.start hv hr).drew
  have HX := Lib.hid hx
  clear hv hr hx
  have HE : Hid ((m.out env).2 = m.deed ⟨3, place, env, tgt⟩) := by unfold Hid; simp [QM.deed]
  go_enter Try.func25, Try.ntmps25
  go_wp2_with fail
  go_region_held3 (fun w' => w'.cell? ⟨w.heap.size, 2, none⟩ = some (.int .u8 env))
    (first | go_keep | exact Both.cell2 HB)
    (first | (go_at_call 18; refine (bOut HB HX).mono ?_; clear HB; rintro e w3 ⟨rfl, HB⟩; replace HB := Lib.hid HB) | (go_at_call 39; refine (bOutR HB HX).mono ?_; clear HB; rintro e w3 ⟨rfl, HB⟩; replace HB := Lib.hid HB))
  all_goals go_wp2
  all_goals (go_ret; exact ⟨rfl, doneOf HB HE⟩)

set_option maxRecDepth 100000 in
set_option maxHeartbeats 800000 in
theorem do4 {w : World} {l : Where} {m : QM} (place env tgt : Int) (hv : VecAt w l.b l.b1 l.b2 m) (hr : RefAt w l.r m) (hx : Deed.Ok ⟨4, place, env, tgt⟩) :
    Calls Try.prog 25 #[.pointer (some ⟨l.b, 0, none⟩), .pointer (some ⟨l.r, 0, none⟩), .agg #[.int .i64 4, .int .i64 place, .int .u8 env, .int .u8 tgt]] w fun e w' => e = .returned (.bool true) ∧ Hid (DoneL w l (m.deed ⟨4, place, env, tgt⟩) w') := by
  have HB : Hid (Both w l w.heap.size ⟨4, place, env, tgt⟩ m m (w.alloc (.cells #[.int .i64 4, .int .i64 place, .int .u8 env, .int .u8 tgt] 40)).drew) := (Both.start hv hr).drew
  have HX := Lib.hid hx
  clear hv hr hx
  have HE : Hid ((m.over env place).2 = m.deed ⟨4, place, env, tgt⟩) := by unfold Hid; simp [QM.deed]
  go_enter Try.func25, Try.ntmps25
  go_wp2_with fail
  go_region_held3 (fun w' => w'.cell? ⟨w.heap.size, 1, none⟩ = some (.int .i64 place) ∧ w'.cell? ⟨w.heap.size, 2, none⟩ = some (.int .u8 env))
    (first | go_keep | exact ⟨Both.cell1 HB, Both.cell2 HB⟩)
    (first | (go_at_call 12; refine (bOver HB HX).mono ?_; clear HB; rintro e w3 ⟨rfl, HB⟩; replace HB := Lib.hid HB) | (go_at_call 40; refine (bOverR HB HX).mono ?_; clear HB; rintro e w3 ⟨rfl, HB⟩; replace HB := Lib.hid HB))
  all_goals go_wp2
  all_goals (go_ret; exact ⟨rfl, doneOf HB HE⟩)

set_option maxRecDepth 100000 in
set_option maxHeartbeats 800000 in
theorem do5 {w : World} {l : Where} {m : QM} (place env tgt : Int) (hv : VecAt w l.b l.b1 l.b2 m) (hr : RefAt w l.r m) :
    Calls Try.prog 25 #[.pointer (some ⟨l.b, 0, none⟩), .pointer (some ⟨l.r, 0, none⟩), .agg #[.int .i64 5, .int .i64 place, .int .u8 env, .int .u8 tgt]] w fun e w' => e = .returned (.bool true) ∧ Hid (DoneL w l (m.deed ⟨5, place, env, tgt⟩) w') := by
  have HB : Hid (Both w l w.heap.size ⟨5, place, env, tgt⟩ m m (w.alloc (.cells #[.int .i64 5, .int .i64 place, .int .u8 env, .int .u8 tgt] 40))) := Both.start hv hr
  clear hv hr
  have HE : Hid (m.turn.2 = m.deed ⟨5, place, env, tgt⟩) := by unfold Hid; simp [QM.deed]
  go_enter Try.func25, Try.ntmps25
  go_wp2_with fail
  refine (bTurn HB).mono ?_
  clear HB
  rintro e w3 ⟨rfl, HB⟩
  replace HB := Lib.hid HB
  go_wp2_with fail
  refine (bTurnR HB).mono ?_
  clear HB
  rintro e w4 ⟨rfl, HB⟩
  replace HB := Lib.hid HB
  go_wp2
  go_ret
  exact ⟨by simp, doneOf HB HE⟩

set_option maxRecDepth 100000 in
theorem do6 {w : World} {l : Where} {m : QM} (kd place env tgt : Int) (hk : kd < 0 ∨ 5 < kd) (hv : VecAt w l.b l.b1 l.b2 m) (hr : RefAt w l.r m) :
    Calls Try.prog 25 #[.pointer (some ⟨l.b, 0, none⟩), .pointer (some ⟨l.r, 0, none⟩), .agg #[.int .i64 kd, .int .i64 place, .int .u8 env, .int .u8 tgt]] w fun e w' => e = .returned (.bool true) ∧ Hid (DoneL w l (m.deed ⟨kd, place, env, tgt⟩) w') := by
  have HB : Hid (Both w l w.heap.size ⟨kd, place, env, tgt⟩ m m (w.alloc (.cells #[.int .i64 kd, .int .i64 place, .int .u8 env, .int .u8 tgt] 40))) := Both.start hv hr
  clear hv hr
  have HE : Hid (m = m.deed ⟨kd, place, env, tgt⟩) := by
    unfold Hid QM.deed
    dsimp only
    rw [if_neg (by omega), if_neg (by omega), if_neg (by omega), if_neg (by omega), if_neg (by omega), if_neg (by omega)]
  have k0 : (kd == 0) = false := by simp; omega
  have k1 : (kd == 1) = false := by simp; omega
  have k2 : (kd == 2) = false := by simp; omega
  have k3 : (kd == 3) = false := by simp; omega
  have k4 : (kd == 4) = false := by simp; omega
  have k5 : (kd == 5) = false := by simp; omega
  clear hk
  go_enter Try.func25, Try.ntmps25
  go_wp2
  go_ret
  exact ⟨rfl, doneOf HB HE⟩
theorem do_ok {w : World} {l : Where} {m : QM} (x : Deed) (hv : VecAt w l.b l.b1 l.b2 m) (hr : RefAt w l.r m) (hx : x.Ok) :
    Calls Try.prog 25 #[.pointer (some ⟨l.b, 0, none⟩), .pointer (some ⟨l.r, 0, none⟩), x.val] w fun e w' => e = .returned (.bool true) ∧ Hid (DoneL w l (m.deed x) w') := by
  obtain ⟨kd, place, env, tgt⟩ := x
  unfold Deed.val
  dsimp only
  by_cases h0 : kd = 0
  · subst h0; exact do0 place env tgt hv hr hx
  by_cases h1 : kd = 1
  · subst h1; exact do1 place env tgt hv hr hx
  by_cases h2 : kd = 2
  · subst h2; exact do2 place env tgt hv hr hx
  by_cases h3 : kd = 3
  · subst h3; exact do3 place env tgt hv hr hx
  by_cases h4 : kd = 4
  · subst h4; exact do4 place env tgt hv hr hx
  by_cases h5 : kd = 5
  · subst h5; exact do5 place env tgt hv hr
  exact do6 kd place env tgt (by omega) hv hr
end Go.Proofs.Ytfdldlgnhdgmnaa

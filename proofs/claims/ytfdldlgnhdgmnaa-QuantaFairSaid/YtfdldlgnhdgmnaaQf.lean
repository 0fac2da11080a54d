/- Quanta: live. -/
import Derived.Test.YtfdldlgnhdgmnaaQe
namespace Go.Proofs.Ytfdldlgnhdgmnaa
open Go.RowKit Go.Shelf

theorem Turn_ok {w : World} {b b1 b2 : Nat} {m : QM} (hv : VecAt w b b1 b2 m) :
    Calls Try.prog 14 #[.pointer (some ⟨b, 0, none⟩)] w (Left b b1 b2 w (.tuple #[.int .i64 m.turn.1.1, .int .u8 m.turn.1.2.1, .bool m.turn.1.2.2]) m.turn.2) :=
  (callsIn_wide (n := 3)).1 (Turn_in Fence.wide 3 trivial trivial trivial rfl (by omega) hv)

def qm0 : QM := ⟨newPl 8, List.replicate 6 0, 7⟩
def qm1 : QM := ⟨[1, 6, 6, 6, 6, 6, 6, 6], List.replicate 6 0, 7⟩
def qm2 : QM := ⟨[1, 6, 6, 2, 6, 6, 6, 6], List.replicate 6 0, 7⟩
def qm3 : QM := ⟨[1, 6, 6, 2, 6, 6, 6, 6], List.replicate 6 0, 0⟩
def qm4 : QM := ⟨[1, 6, 6, 2, 6, 6, 6, 6], List.replicate 6 0, 3⟩
theorem live1 : qm0.take 1 0 = (0, qm1) := by rfl
theorem live2 : qm1.take 2 3 = (0, qm2) := by rfl
theorem live3 : qm2.turn = ((0, 1, true), qm3) := by rfl
theorem live4 : qm3.turn = ((3, 2, true), qm4) := by rfl

theorem Left.eq {b b1 b2 w v v' m m' e w'} (h : Left b b1 b2 w v m e w') (hv : v = v') (hm : m = m') : Left b b1 b2 w v' m' e w' := hv ▸ hm ▸ h

theorem Take_to {w b b1 b2 m} (hv : VecAt w b b1 b2 m) (env place r : Int) (m' : QM) (he : 0 ≤ env) (h : m.take env place = (r, m')) :
    Calls Try.prog 11 #[.pointer (some ⟨b, 0, none⟩), .int .u8 env, .int .i64 place] w (Left b b1 b2 w (.int .i64 r) m') := by
  have := Take_ok hv env place he
  rw [h] at this; exact this
theorem Turn_to {w b b1 b2 m} (hv : VecAt w b b1 b2 m) (i e : Int) (ok : Bool) (m' : QM) (h : m.turn = ((i, e, ok), m')) :
    Calls Try.prog 14 #[.pointer (some ⟨b, 0, none⟩)] w (Left b b1 b2 w (.tuple #[.int .i64 i, .int .u8 e, .bool ok]) m') := by
  have := Turn_ok hv
  rw [h] at this; exact this

theorem live_ok (w : World) : Calls Try.prog 15 #[] w fun e w' => e = .returned (.bool true) ∧ Below w.heap.size w w' := by
  go_enter Try.func15, Try.ntmps15
  go_wp2_with fail
  refine (New_ok _).mono ?_
  rintro e w1 ⟨b, b1, b2, rfl, hv, hb, l0, l1, l2⟩
  have T := Take_to hv _ _ _ _ (by omega) live1
  clear hv
  go_wp2_with fail
  refine T.mono ?_
  rintro e w2 ⟨rfl, hv, ho1⟩
  clear T
  have T := Take_to hv _ _ _ _ (by omega) live2
  clear hv
  go_wp2_with fail
  refine T.mono ?_
  rintro e w3 ⟨rfl, hv, ho2⟩
  clear T
  have T := Turn_to hv _ _ _ _ live3
  clear hv
  go_wp2_with fail
  refine T.mono ?_
  rintro e w4 ⟨rfl, hv, ho3⟩
  clear T
  have T := Turn_to hv _ _ _ _ live4
  clear hv
  go_wp2_with fail
  refine T.mono ?_
  rintro e w5 ⟨rfl, hv, ho4⟩
  clear T
  have T := Now_ok hv
  clear hv
  go_wp2_with fail
  refine T.mono ?_
  rintro e w6 ⟨rfl, rfl⟩
  go_wp2
  go_ret
  refine ⟨rfl, hb.trans (Below.trans (Below.trans (Below.trans (ho1.below hb.size ?_) (ho2.below (Nat.le_trans hb.size ho1.size) ?_)) (ho3.below (Nat.le_trans hb.size (Nat.le_trans ho1.size ho2.size)) ?_)) (ho4.below (Nat.le_trans hb.size (Nat.le_trans ho1.size (Nat.le_trans ho2.size ho3.size))) ?_))⟩ <;> (intro x hx; simp at hx; omega)
end Go.Proofs.Ytfdldlgnhdgmnaa

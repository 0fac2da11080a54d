/- QuantaNone: the methods of a nil vector, and the law's walk. -/
import Derived.Test.YtfdldlgnhdgmnaaQy
namespace Go.Proofs.Ytfdldlgnhdgmnaa
open Go.RowKit

theorem mayN (env place : Int) (w : World) : Calls Try.prog 27 #[.pointer none, .int .u8 env, .int .i64 place] w fun e w' => e = .returned (.int .i64 1) ∧ w = w' := by
  go_enter Try.func27, Try.ntmps27
  go_wp2
  go_ret
  exact ⟨rfl, rfl⟩
theorem TakeN (env place : Int) (w : World) : Calls Try.prog 11 #[.pointer none, .int .u8 env, .int .i64 place] w fun e w' => e = .returned (.int .i64 1) ∧ w = w' := by
  go_enter Try.func11, Try.ntmps11
  go_wp2_with (go_at_call 27; refine (mayN _ _ _).mono ?_; rintro e w' ⟨rfl, rfl⟩)
  go_ret
  exact ⟨rfl, rfl⟩
theorem GiveN (env place tgt : Int) (w : World) : Calls Try.prog 20 #[.pointer none, .int .u8 env, .int .i64 place, .int .u8 tgt] w fun e w' => e = .returned (.int .i64 1) ∧ w = w' := by
  go_enter Try.func20, Try.ntmps20
  go_wp2_with (go_at_call 27; refine (mayN _ _ _).mono ?_; rintro e w' ⟨rfl, rfl⟩)
  go_ret
  exact ⟨rfl, rfl⟩
theorem DropN (env place : Int) (w : World) : Calls Try.prog 21 #[.pointer none, .int .u8 env, .int .i64 place] w fun e w' => e = .returned (.int .i64 1) ∧ w = w' := by
  go_enter Try.func21, Try.ntmps21
  go_wp2_with (go_at_call 27; refine (mayN _ _ _).mono ?_; rintro e w' ⟨rfl, rfl⟩)
  go_ret
  exact ⟨rfl, rfl⟩
theorem OverN (env place : Int) (w : World) : Calls Try.prog 12 #[.pointer none, .int .u8 env, .int .i64 place] w fun e w' => e = .returned (.int .i64 1) ∧ w = w' := by
  go_enter Try.func12, Try.ntmps12
  go_wp2_with (go_at_call 27; refine (mayN _ _ _).mono ?_; rintro e w' ⟨rfl, rfl⟩)
  go_ret
  exact ⟨rfl, rfl⟩
theorem PlacesN (env : Int) (w : World) : Calls Try.prog 17 #[.pointer none, .int .u8 env] w fun e w' => e = .returned (.slice none 0 0) ∧ w = w' := by
  go_enter Try.func17, Try.ntmps17
  go_wp2_with (go_at_call 27; refine (mayN _ _ _).mono ?_; rintro e w' ⟨rfl, rfl⟩)
  go_ret
  exact ⟨rfl, rfl⟩
theorem OutN (env : Int) (w : World) : Calls Try.prog 18 #[.pointer none, .int .u8 env] w fun e w' => e = .returned (.int .i64 0) ∧ w = w' := by
  go_enter Try.func18, Try.ntmps18
  go_wp2_with (go_at_call 17; refine (PlacesN _ _).mono ?_; rintro e w' ⟨rfl, rfl⟩)
  go_loop [7, 13] (fun _ i => i = .int .i64 0) (fun _ _ => 0)
  case atStart => rfl
  case round =>
    obtain rfl := hrel
    go_wp2_with (go_at_call 27; refine (mayN _ _ _).mono ?_; rintro e w' ⟨rfl, rfl⟩)
    go_ret
    exact ⟨rfl, rfl⟩
theorem PenaltyN (env : Int) (w : World) : Calls Try.prog 13 #[.pointer none, .int .u8 env] w fun e w' => e = .returned (.int .i64 0) ∧ w = w' := by
  go_enter Try.func13, Try.ntmps13
  go_wp2_with (go_at_call 27; refine (mayN _ _ _).mono ?_; rintro e w' ⟨rfl, rfl⟩)
  go_ret
  exact ⟨rfl, rfl⟩
theorem AtN (place : Int) (w : World) : Calls Try.prog 19 #[.pointer none, .int .i64 place] w fun e w' => e = .returned (.tuple #[.int .u8 0, .bool false]) ∧ w = w' := by
  go_enter Try.func19, Try.ntmps19
  go_wp2_with (go_at_call 27; refine (mayN _ _ _).mono ?_; rintro e w' ⟨rfl, rfl⟩)
  go_ret2
  exact ⟨rfl, rfl⟩
theorem NowN (w : World) : Calls Try.prog 26 #[.pointer none] w fun e w' => e = .returned (.int .i64 (-1)) ∧ w = w' := by
  go_enter Try.func26, Try.ntmps26
  go_wp2
  go_ret
  exact ⟨rfl, rfl⟩
theorem ForkN (w : World) : Calls Try.prog 23 #[.pointer none] w fun e w' => e = .returned (.pointer none) ∧ w = w' := by
  go_enter Try.func23, Try.ntmps23
  go_wp2
  go_ret
  exact ⟨rfl, rfl⟩
theorem TurnN (w : World) : Calls Try.prog 14 #[.pointer none] w fun e w' => e = .returned (.tuple #[.int .i64 0, .int .u8 0, .bool false]) ∧ Below w.heap.size w w' := by
  go_enter Try.func14, Try.ntmps14
  go_wp2
  refine bodyPost_ret (v := .tuple #[.int .i64 0, .int .u8 0, .bool false]) (by simp [results, Try.results14, go_sem]) rfl ⟨rfl, ?_⟩
  exact ((((Below.refl _ _).alloc (by simp) _).alloc (by simp) _).alloc (by simp <;> omega) _).alloc (by simp <;> omega) _

set_option maxRecDepth 100000 in
set_option maxHeartbeats 800000 in
theorem none_walk (kd place env tgt : Int) (w : World) :
    Calls Try.prog 9 #[.agg #[.int .i64 kd, .int .i64 place, .int .u8 env, .int .u8 tgt]] w fun e w' => e = .returned (.bool true) ∧ Below w.heap.size w w' := by
  have HN := heap_alloc_new w (.cells #[.int .i64 kd, .int .i64 place, .int .u8 env, .int .u8 tgt] 40)
  have Hb0 : Hid (Below w.heap.size w (w.alloc (.cells #[.int .i64 kd, .int .i64 place, .int .u8 env, .int .u8 tgt] 40))) := (Below.refl _ w).alloc (by simp) _
  have HNh := Lib.hid HN
  clear HN
  go_enter Try.func9, Try.ntmps9
  go_wp2_with fail
  refine (TurnN _).mono ?_
  rintro e w1 ⟨rfl, hb⟩
  have HN1 := (hb.block _ (by simp)).trans HNh.out
  have d1 : w1.cell? ⟨w.heap.size, 1, none⟩ = some (.int .i64 place) := by rw [blk_cell HN1]; rfl
  have Hb1 := Lib.hid (Hb0.out.trans (hb.mono Hb0.out.size))
  have HNh1 := Lib.hid HN1
  clear hb HN1 HNh Hb0
  go_wp2_with fail
  refine (AtN _ _).mono ?_
  rintro e w' ⟨rfl, rfl⟩
  go_wp2_with fail
  refine (live_ok _).mono ?_
  rintro e w2 ⟨rfl, hb2⟩
  have HN2 := (hb2.block _ (blk_lt HNh1.out)).trans HNh1.out
  have d1 : w2.cell? ⟨w.heap.size, 1, none⟩ = some (.int .i64 place) := by rw [blk_cell HN2]; rfl
  have d2 : w2.cell? ⟨w.heap.size, 2, none⟩ = some (.int .u8 env) := by rw [blk_cell HN2]; rfl
  have d3 : w2.cell? ⟨w.heap.size, 3, none⟩ = some (.int .u8 tgt) := by rw [blk_cell HN2]; rfl
  have Hb2 := Lib.hid (Hb1.out.trans (hb2.mono Hb1.out.size))
  clear hb2 HN2 HNh1 Hb1
  go_wp2_with (first | (go_at_call 11; refine (TakeN _ _ _).mono ?_; rintro e w' ⟨rfl, rfl⟩) | (go_at_call 20; refine (GiveN _ _ _ _).mono ?_; rintro e w' ⟨rfl, rfl⟩) | (go_at_call 21; refine (DropN _ _ _).mono ?_; rintro e w' ⟨rfl, rfl⟩) | (go_at_call 18; refine (OutN _ _).mono ?_; rintro e w' ⟨rfl, rfl⟩) | (go_at_call 12; refine (OverN _ _ _).mono ?_; rintro e w' ⟨rfl, rfl⟩) | (go_at_call 17; refine (PlacesN _ _).mono ?_; rintro e w' ⟨rfl, rfl⟩) | (go_at_call 13; refine (PenaltyN _ _).mono ?_; rintro e w' ⟨rfl, rfl⟩) | (go_at_call 26; refine (NowN _).mono ?_; rintro e w' ⟨rfl, rfl⟩) | (go_at_call 23; refine (ForkN _).mono ?_; rintro e w' ⟨rfl, rfl⟩))
  go_ret
  exact ⟨rfl, Hb2.out⟩
end Go.Proofs.Ytfdldlgnhdgmnaa

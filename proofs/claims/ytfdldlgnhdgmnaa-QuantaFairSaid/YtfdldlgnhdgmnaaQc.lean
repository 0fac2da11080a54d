/- Quanta: Penalty, Now, Over, New of the program's vector, walked. -/
import Derived.Test.YtfdldlgnhdgmnaaQb
import Derived.RegionTactic
import Derived.ChangeAlike
import Derived.Deep.QuietTactic
import Derived.BigQuiet
import Derived.BigRegion
import Derived.Outline
namespace Go.Proofs.Ytfdldlgnhdgmnaa
open Go.RowKit

def QM.penalty (m : QM) (env : Int) : Int := if 6 ≤ env then 0 else rd m.pe env
theorem Penalty_ok {w b b1 b2 m} (hv : VecAt w b b1 b2 m) (env : Int) (he : 0 ≤ env) :
    Calls Try.prog 13 #[.pointer (some ⟨b, 0, none⟩), .int .u8 env] w fun e w' => e = .returned (.int .i64 (m.penalty env)) ∧ w = w' := by
  by_cases h : 6 ≤ env
  · have hmay := may_no hv env 0 (by unfold mayE; rw [if_pos (by omega)])
    have ht : m.penalty env = 0 := by simp [QM.penalty, h]
    rw [ht]; clear ht hv
    go_enter Try.func13, Try.ntmps13
    go_wp2_with (go_at_call 27; refine hmay.mono ?_; rintro e w' ⟨rfl, rfl⟩)
    go_ret
    exact ⟨rfl, rfl⟩
  · have hmay := may_yes hv env 0 (by omega) (by omega) (by omega)
    have ht : m.penalty env = rd m.pe env := by simp [QM.penalty, h]
    have c1 := hv.c1
    have hi : env.toNat < 6 := by omega
    have cq := hv.cq env he (by omega)
    rw [ht]; clear ht hv
    go_enter Try.func13, Try.ntmps13
    go_wp2_with (go_at_call 27; refine hmay.mono ?_; rintro e w' ⟨rfl, rfl⟩)
    go_ret
    exact ⟨rfl, rfl⟩
theorem Now_ok {w b b1 b2 m} (hv : VecAt w b b1 b2 m) :
    Calls Try.prog 26 #[.pointer (some ⟨b, 0, none⟩)] w fun e w' => e = .returned (.int .i64 m.now) ∧ w = w' := by
  have c2 := hv.c2
  clear hv
  go_enter Try.func26, Try.ntmps26
  go_wp2
  go_ret
  exact ⟨rfl, rfl⟩

def overP (p steps : Int) : Int := min (p + max (steps - 4) 0) 1000
def QM.over (m : QM) (env steps : Int) : Int × QM :=
  if 6 ≤ env then (2, m) else if steps < 0 ∨ 1000 < steps then (2, m) else (0, { m with pe := m.pe.set env.toNat (overP (rd m.pe env) steps) })
theorem overP_range (p steps : Int) (h0 : 0 ≤ p) (h1 : p ≤ 1000) : 0 ≤ overP p steps ∧ overP p steps ≤ 1000 := by unfold overP; omega

theorem Over_ok {w b b1 b2 m} (hv : VecAt w b b1 b2 m) (env steps : Int) (he : 0 ≤ env) :
    Calls Try.prog 12 #[.pointer (some ⟨b, 0, none⟩), .int .u8 env, .int .i64 steps] w (Left b b1 b2 w (.int .i64 (m.over env steps).1) (m.over env steps).2) := by
  by_cases h : 6 ≤ env
  · have hmay := may_no hv env 0 (by unfold mayE; rw [if_pos (by omega)])
    have ht : m.over env steps = (2, m) := by simp [QM.over, h]
    rw [ht]
    have Hv := Lib.hid hv
    clear ht hv
    go_enter Try.func12, Try.ntmps12
    go_wp2_with (go_at_call 27; refine hmay.mono ?_; rintro e w' ⟨rfl, rfl⟩)
    go_ret
    exact ⟨rfl, Hv.out, Only.refl _ _⟩
  · have hmay := may_yes hv env 0 (by omega) (by omega) (by omega)
    by_cases hs : steps < 0 ∨ 1000 < steps
    · have ht : m.over env steps = (2, m) := by simp [QM.over, h, hs]
      rw [ht]
      have Hv := Lib.hid hv
      clear ht hv
      rcases hs with hs | hs
      · go_enter Try.func12, Try.ntmps12
        go_wp2_with (go_at_call 27; refine hmay.mono ?_; rintro e w' ⟨rfl, rfl⟩)
        go_ret
        exact ⟨rfl, Hv.out, Only.refl _ _⟩
      · have hs' : ¬ steps < 0 := by omega
        go_enter Try.func12, Try.ntmps12
        go_wp2_with (go_at_call 27; refine hmay.mono ?_; rintro e w' ⟨rfl, rfl⟩)
        go_ret
        exact ⟨rfl, Hv.out, Only.refl _ _⟩
    · have ht : m.over env steps = (0, { m with pe := m.pe.set env.toNat (overP (rd m.pe env) steps) }) := by simp [QM.over, h, hs]
      have hr := hv.ok.per' env he (by omega)
      have Hw : Hid (∀ x, x = overP (rd m.pe env) steps → VecAt (w.setCell ⟨b2, env.toNat, none⟩ (.int .i64 x)).drew b b1 b2 { m with pe := m.pe.set env.toNat (overP (rd m.pe env) steps) }) :=
        fun x hx => hx ▸ (hv.setq env.toNat _ (overP_range (rd m.pe env) steps hr.1 hr.2)).drew
      have c1 := hv.c1
      have hi : env.toNat < 6 := by omega
      have cq := hv.cq env he (by omega)
      have fq := blk_frozen hv.q env.toNat
      have hs1 : ¬ steps < 0 := by omega
      have hs2 : ¬ 1000 < steps := by omega
      rw [ht]; clear ht hv hs
      go_enter Try.func12, Try.ntmps12
      go_wp2_with (go_at_call 27; refine hmay.mono ?_; rintro e w' ⟨rfl, rfl⟩)
      go_region
      all_goals go_wp2
      all_goals (go_ret; exact ⟨rfl, Hw.out _ (by unfold overP; omega), ((Only.refl _ _).setCell (by simp) _).drew⟩)

def newPl (k : Nat) : List Int := List.replicate k 6 ++ List.replicate (8 - k) 0
theorem newPl_set (k : Nat) (h : k < 8) : (newPl k).set k 6 = newPl (k + 1) := by
  unfold newPl
  match k, h with
  | 0, _ | 1, _ | 2, _ | 3, _ | 4, _ | 5, _ | 6, _ | 7, _ => rfl
theorem newPl_ok (k : Nat) (h : k ≤ 8) : QM.Ok ⟨newPl k, List.replicate 6 0, 7⟩ :=
  ⟨by simp [newPl]; omega, by simp, fun x hx => by
    simp only [newPl, List.mem_append, List.mem_replicate] at hx
    omega, fun x hx => by simp only [List.mem_replicate] at hx; omega, by simp, by simp⟩
theorem vec_made (w : World) (o o' : Obj) (b b1 b2 : Nat) (h1 : ((w.alloc o).alloc o').heap[b1]? = some (.cells (Array.replicate 8 (.int .u8 0)) 5 (0, 0)))
    (h2 : ((w.alloc o).alloc o').heap[b2]? = some (.cells (Array.replicate 6 (.int .i64 0)) 3 (0, 0))) (hb : b = w.heap.size + 1 + 1) :
    VecAt (((w.alloc o).alloc o').alloc (.cells #[.slice (some ⟨b1, 0, none⟩) 8 8, .slice (some ⟨b2, 0, none⟩) 6 6, .int .i64 7] 55)).drew b b1 b2 ⟨newPl 0, List.replicate 6 0, 7⟩ := by
  refine VecAt.drew ⟨?_, ?_, ?_, newPl_ok 0 (by omega)⟩
  · subst hb; simpa using heap_alloc_new ((w.alloc o).alloc o') _
  · rw [Below.heap_alloc _ _ _ (blk_lt h1), h1]; rfl
  · rw [Below.heap_alloc _ _ _ (blk_lt h2), h2]; rfl
theorem heap_alloc2 (w : World) (o o' : Obj) : ((w.alloc o).alloc o').heap[w.heap.size]? = some o := (Below.heap_alloc _ _ _ (by simp)).trans (heap_alloc_new w o)
theorem heap_alloc3 (w : World) (o o' : Obj) : ((w.alloc o).alloc o').heap[w.heap.size + 1]? = some o' := by simpa using heap_alloc_new (w.alloc o) o'
theorem New_ok (w : World) :
    Calls Try.prog 10 #[] w fun e w' => ∃ b b1 b2, e = .returned (.pointer (some ⟨b, 0, none⟩)) ∧ VecAt w' b b1 b2 ⟨newPl 8, List.replicate 6 0, 7⟩ ∧ Below w.heap.size w w' ∧ w.heap.size ≤ b ∧ w.heap.size ≤ b1 ∧ w.heap.size ≤ b2 := by
  have h1 : ∀ w : World, (Instr.makeSlice 53 (.int .i64 8) (.int .i64 8)).run Try.prog w = .ok (.slice (some ⟨w.heap.size, 0, none⟩) 8 8) (w.alloc (.cells (Array.replicate 8 (.int .u8 0)) 5)) := fun _ => by kernel_rfl
  have h2 : ∀ w : World, (Instr.makeSlice 36 (.int .i64 6) (.int .i64 6)).run Try.prog w = .ok (.slice (some ⟨w.heap.size, 0, none⟩) 6 6) (w.alloc (.cells (Array.replicate 6 (.int .i64 0)) 3)) := fun _ => by kernel_rfl
  go_enter Try.func10, Try.ntmps10
  go_wp2
  go_region
  all_goals go_wp2
  all_goals clear h1 h2
  · go_loopw [2, 12] (fun _ i wr => ∃ k : Nat, k ≤ 8 ∧ i = .int .i64 k ∧ VecAt wr (w.heap.size + 1 + 1) (w.heap.size) (w.heap.size + 1) ⟨newPl k, List.replicate 6 0, 7⟩ ∧ Below w.heap.size w wr) (fun _ i _ => 8 - (intOf i).toNat)
    case atStart =>
      exact ⟨0, by omega, rfl, (vec_made w _ _ _ _ _ (heap_alloc2 _ _ _) (heap_alloc3 _ _ _) rfl), ((((Below.refl _ w).alloc (by simp) _).alloc (by simp) _).alloc (by simp <;> omega) _).drew⟩
    case round =>
      obtain ⟨k, hk, rfl, hv, hb⟩ := hrel
      have c0 := hv.c0
      by_cases hlt : k < 8
      · have cp := hv.cp k (by omega) (by omega)
        have fp := blk_frozen hv.p k
        rw [Int.toNat_natCast] at cp
        have Hv := Lib.hid (hv.setp k 6 (by omega))
        have Hs := Lib.hid (newPl_set k hlt)
        have Hb := Lib.hid (hb.setCell (p := ⟨w.heap.size, k, none⟩) (by simp) (.int .u8 6))
        clear hv hb
        go_wp2
        go_roundw
        case rel => exact ⟨k + 1, by omega, by go_num, by have := Hv.out; simp only [Hs.out] at this; exact this, Hb.out⟩
        case measure => simp [intOf]; omega
      · have e : k = 8 := by omega
        subst e
        have Hv := Lib.hid hv
        have Hb := Lib.hid hb
        clear hv hb
        go_wp2
        go_ret
        exact ⟨_, _, _, rfl, Hv.out, Hb.out, by omega, by omega, by omega⟩
  · go_loopw [2, 12] (fun _ i wr => ∃ k : Nat, k ≤ 8 ∧ i = .int .i64 k ∧ VecAt wr (w.heap.size + 1 + 1) (w.heap.size + 1) (w.heap.size) ⟨newPl k, List.replicate 6 0, 7⟩ ∧ Below w.heap.size w wr) (fun _ i _ => 8 - (intOf i).toNat)
    case atStart =>
      exact ⟨0, by omega, rfl, (vec_made w _ _ _ _ _ (heap_alloc3 _ _ _) (heap_alloc2 _ _ _) rfl), ((((Below.refl _ w).alloc (by simp) _).alloc (by simp) _).alloc (by simp <;> omega) _).drew⟩
    case round =>
      obtain ⟨k, hk, rfl, hv, hb⟩ := hrel
      have c0 := hv.c0
      by_cases hlt : k < 8
      · have cp := hv.cp k (by omega) (by omega)
        have fp := blk_frozen hv.p k
        rw [Int.toNat_natCast] at cp
        have Hv := Lib.hid (hv.setp k 6 (by omega))
        have Hs := Lib.hid (newPl_set k hlt)
        have Hb := Lib.hid (hb.setCell (p := ⟨w.heap.size + 1, k, none⟩) (by simp) (.int .u8 6))
        clear hv hb
        go_wp2
        go_roundw
        case rel => exact ⟨k + 1, by omega, by go_num, by have := Hv.out; simp only [Hs.out] at this; exact this, Hb.out⟩
        case measure => simp [intOf]; omega
      · have e : k = 8 := by omega
        subst e
        have Hv := Lib.hid hv
        have Hb := Lib.hid hb
        clear hv hb
        go_wp2
        go_ret
        exact ⟨_, _, _, rfl, Hv.out, Hb.out, by omega, by omega, by omega⟩
end Go.Proofs.Ytfdldlgnhdgmnaa

/- The document's instruction out of a text's pieces. -/
import Derived.Test.YtjopikjefpenkaaDoorG7
import Derived.Test.YtjopikjefpenkaaDoorGy
import Derived.Test.YtjopikjefpenkaaDoorGo
set_option linter.unusedSimpArgs false
set_option linter.unusedVariables false
set_option linter.unusedSectionVars false
namespace Go.Proofs.YtjopikjefpenkaaDoor
open Go.RowKit
set_option maxRecDepth 1000000
set_option linter.unusedSimpArgs false
set_option maxHeartbeats 16000000
def rgB (j : Nat) : List UInt8 := [114, UInt8.ofNat (48 + j)]
def rgV : Option Int → Value
  | some r => .tuple #[.int .u8 r, .bool true]
  | none => .tuple #[.int .u8 0, .bool false]
theorem rS_bytes {i : Nat} (h : i < 8) : (rS (i : Int)).toList = rgB i := by
  have := List.all_eq_true.1 reg_list i (List.mem_range.2 h)
  rw [ba_toList]
  unfold rgB
  simpa using this
theorem regP_hit {i : Nat} (h : i < 8) : regP (rgB i) = some (i : Int) := by
  have e : (UInt8.ofNat (48 + i)).toNat = 48 + i := by rw [UInt8.toNat_ofNat', Nat.mod_eq_of_lt (by omega)]
  unfold rgB regP
  simp only [e, true_and]
  rw [if_pos ⟨by omega, by omega⟩]
  congr 1
  omega
theorem regP_miss {w : List UInt8} (h : ∀ j, j < 8 → ¬ w = rgB j) : regP w = none := by
  unfold regP
  split
  · rename_i a d
    rw [if_neg]
    rintro ⟨rfl, h1, h2⟩
    refine h (d.toNat - 48) (by omega) ?_
    unfold rgB
    rw [show 48 + (d.toNat - 48) = d.toNat by omega, UInt8.ofNat_toNat]
  · rfl
theorem fnRReadReg (w : List UInt8) : Fn Tryd.prog 51 [.string (bs w)] (rgV (regP w)) := by
  refine Fn.of ?_ rfl (by cases regP w <;> rfl)
  refine pc_of Tryd.func51 rfl (by decide) (by kernel_rfl) (by show 1 ≤ _; decide) (SW.of mixed _ _ _ ?_)
  simp -implicitDefEqProofs
  refine pwp_loop_st (fun i : Nat => ⟨[(4, .int .u8 i), (0, .string (bs w))], []⟩) (fun i => 8 - i) (fun i => i ≤ 8 ∧ ∀ j, j < i → ¬ w = rgB j) 0 [] ⟨by omega, fun j h => by omega⟩ (Sub.mk' (by decide) trivial ?_ ?_) ?_
  · simp -implicitDefEqProofs
  · simp -implicitDefEqProofs
  intro i ⟨hi, hp⟩
  by_cases h8 : i < 8
  · have h1 : (i : Int) < 8 := by omega
    have hw : IntKind.u8.wrap ((i : Int) + 1) = i + 1 := by rw [IntKind.wrap_u8]; omega
    simp -implicitDefEqProofs [h1]
    refine (fnRReg i h8).k ?_
    by_cases hb : rgB i = w
    · have hr : regP w = some (i : Int) := by rw [← hb]; exact regP_hit h8
      have hbb : ((rS (i : Int)).toList == w) = true := by rw [rS_bytes h8, beq_iff_eq]; exact hb
      rw [beq_iff_eq] at hbb
      simp -implicitDefEqProofs [hbb, rgV, hr]
    · have hbb : ¬ (rS (i : Int)).toList = w := by rw [rS_bytes h8]; exact hb
      simp -implicitDefEqProofs [hbb]
      refine Again.mk (i + 1) [] (show 8 - (i + 1) < 8 - i by omega) ⟨by omega, fun j hj => ?_⟩ (Sub.mk' (by decide) trivial ?_ ?_)
      · rcases Nat.lt_or_ge j i with h | h
        · exact hp j h
        · obtain rfl : j = i := by omega
          exact fun e => hb e.symm
      · simp -implicitDefEqProofs
      · simp -implicitDefEqProofs [hw]
  · obtain rfl : i = 8 := by omega
    have hr : regP w = none := regP_miss hp
    simp -implicitDefEqProofs [rgV, hr]
theorem piece_len : ∀ {ws : List (List UInt8)} {w : List UInt8}, w ∈ ws → w.length ≤ (joinP ws).length
  | p :: ps, w, h => by
    obtain ⟨h1, h2⟩ := joinP_len p ps
    rcases List.mem_cons.1 h with rfl | h
    · exact h2
    · exact Nat.le_trans (piece_len h) h1
theorem fin_000_len (W : List UInt8 → Option Int) (o : Int) (ps : List (List UInt8)) (h : ¬ ps.length = 0) : fin_000 o (rdL W 0 0 ps) = errV := by
  cases hr : rdL W 0 0 ps with
  | none => rfl
  | some xs =>
    have := rdL_len W 0 0 ps xs hr
    unfold fin_000
    split
    · rename_i e; cases e; simp at this; omega
    · rfl
theorem rparse_000_0 (o : Int) (p : List UInt8) (r : List (List UInt8)) (h0 : 0 ≤ o) (hA : shA o = false) (hB : shB o = false) (hI : shI o = false) (hp : rdV (bs p) = .tuple #[.int .u8 o, .bool true]) (hcs : ∀ w ∈ p :: r, 32 ∉ w) (hl : (joinP (p :: r)).length ≤ 1000000) :
    PC Tryd.prog 18 [.string (bs (joinP (p :: r)))] [] (fun v _ => v = fin_000 o (rdL wordQ 0 0 (r))) fun _ _ => False := by
  have hR := fnRRead (bs p)
  rw [hp] at hR
  refine pc_of Tryd.func18 rfl (by decide) (by kernel_rfl) (by show 1 ≤ _; decide) (SW.of mixed _ _ _ ?_)
  simp -implicitDefEqProofs
  refine PCq.k (split_q _ (by simp) hcs hl) ?_
  simp -implicitDefEqProofs [strs]
  refine hR.k ?_
  simp -implicitDefEqProofs
  refine (fnRUses o h0).k ?_
  simp -implicitDefEqProofs [hA, hB, hI]
  cases r with
  | nil =>
    have he : fin_000 o (rdL wordQ 0 0 ([])) = .tuple #[insV o 0 0 0, .int .i64 0] := by simp [rdL, rdO, fin_000]
    simp -implicitDefEqProofs [he, insV]
  | cons q r =>
    have he : fin_000 o (rdL wordQ 0 0 (q :: r)) = errV := fin_000_len wordQ o _ (by simp)
    have hne : ¬ (1 : Int) = (r.length : Int) + 1 + 1 := by omega
    simp -implicitDefEqProofs [he, hne, errV, insV]
theorem rparse_000 (o : Int) (p : List UInt8) (ps : List (List UInt8)) (h0 : 0 ≤ o) (hA : shA o = false) (hB : shB o = false) (hI : shI o = false) (hp : rdV (bs p) = .tuple #[.int .u8 o, .bool true]) (hcs : ∀ w ∈ p :: ps, 32 ∉ w) (hl : (joinP (p :: ps)).length ≤ 1000000) :
    Fn Tryd.prog 18 [.string (bs (joinP (p :: ps)))] (fin_000 o (rdL wordQ 0 0 ps)) := by
  refine Fn.of ?_ rfl (fin_000_flat _ _)
  match ps, hcs, hl with
  | r, hcs, hl => exact rparse_000_0 o p  r h0 hA hB hI hp hcs hl
theorem fin_001_len (W : List UInt8 → Option Int) (o : Int) (ps : List (List UInt8)) (h : ¬ ps.length = 1) : fin_001 o (rdL W 0 0 ps) = errV := by
  cases hr : rdL W 0 0 ps with
  | none => rfl
  | some xs =>
    have := rdL_len W 0 0 ps xs hr
    unfold fin_001
    split
    · rename_i e; cases e; simp at this; omega
    · rfl
theorem rparse_001_0 (o : Int) (p : List UInt8) (h0 : 0 ≤ o) (hA : shA o = false) (hB : shB o = false) (hI : shI o = true) (hp : rdV (bs p) = .tuple #[.int .u8 o, .bool true]) (hcs : ∀ w ∈ p :: [], 32 ∉ w) (hl : (joinP (p :: [])).length ≤ 1000000) :
    PC Tryd.prog 18 [.string (bs (joinP (p :: [])))] [] (fun v _ => v = fin_001 o (rdL wordQ 0 0 ([]))) fun _ _ => False := by
  have hR := fnRRead (bs p)
  rw [hp] at hR
  refine pc_of Tryd.func18 rfl (by decide) (by kernel_rfl) (by show 1 ≤ _; decide) (SW.of mixed _ _ _ ?_)
  simp -implicitDefEqProofs
  refine PCq.k (split_q _ (by simp) hcs hl) ?_
  simp -implicitDefEqProofs [strs]
  refine hR.k ?_
  simp -implicitDefEqProofs
  refine (fnRUses o h0).k ?_
  simp -implicitDefEqProofs [hA, hB, hI]
  have he : fin_001 o (rdL wordQ 0 0 ([])) = errV := fin_001_len wordQ o [] (by simp)
  simp -implicitDefEqProofs [he, errV, insV]
theorem rparse_001_1 (o : Int) (p : List UInt8) (w1 : List UInt8) (r : List (List UInt8)) (h0 : 0 ≤ o) (hA : shA o = false) (hB : shB o = false) (hI : shI o = true) (hp : rdV (bs p) = .tuple #[.int .u8 o, .bool true]) (hcs : ∀ w ∈ p :: w1 :: r, 32 ∉ w) (hl : (joinP (p :: w1 :: r)).length ≤ 1000000) :
    PC Tryd.prog 18 [.string (bs (joinP (p :: w1 :: r)))] [] (fun v _ => v = fin_001 o (rdL wordQ 0 0 (w1 :: r))) fun _ _ => False := by
  have hR := fnRRead (bs p)
  rw [hp] at hR
  have hl1 : w1.length ≤ 1000000 := Nat.le_trans (piece_len (ws := p :: w1 :: r) (by simp)) hl
  have z0 : (0 : Int) < (r.length : Int) + 1 + 1 := by omega
  have f0 : ¬ (r.length : Int) + 1 + 1 ≤ 1 := by omega
  have g0 : (1 : Int) < (r.length : Int) + 1 + 1 := by omega
  refine pc_of Tryd.func18 rfl (by decide) (by kernel_rfl) (by show 1 ≤ _; decide) (SW.of mixed _ _ _ ?_)
  simp -implicitDefEqProofs
  refine PCq.k (split_q _ (by simp) hcs hl) ?_
  simp -implicitDefEqProofs [strs, z0, f0, g0]
  refine hR.k ?_
  simp -implicitDefEqProofs
  refine (fnRUses o h0).k ?_
  simp -implicitDefEqProofs [hA, hB, hI, z0, f0, g0]
  refine (fnRParse w1 hl1).k ?_
  cases e1 : wordQ w1 with
  | none =>
    have he : fin_001 o (rdL wordQ 0 0 (w1 :: r)) = errV := by simp [rdL, rdO, e1, fin_001]
    simp -implicitDefEqProofs [optE, he, errV, insV, z0, f0, g0]
  | some x1 =>
    simp -implicitDefEqProofs [optE, strs, z0, f0, g0]
    cases r with
    | nil =>
      have he : fin_001 o (rdL wordQ 0 0 (w1 :: [])) = .tuple #[insV o 0 0 x1, .int .i64 0] := by simp [rdL, rdO, e1, fin_001]
      simp -implicitDefEqProofs [he, insV]
    | cons q r =>
      have he : fin_001 o (rdL wordQ 0 0 (w1 :: q :: r)) = errV := fin_001_len wordQ o _ (by simp)
      have hne : ¬ (2 : Int) = (r.length : Int) + 1 + 1 + 1 := by omega
      simp -implicitDefEqProofs [he, hne, errV, insV]
theorem rparse_001 (o : Int) (p : List UInt8) (ps : List (List UInt8)) (h0 : 0 ≤ o) (hA : shA o = false) (hB : shB o = false) (hI : shI o = true) (hp : rdV (bs p) = .tuple #[.int .u8 o, .bool true]) (hcs : ∀ w ∈ p :: ps, 32 ∉ w) (hl : (joinP (p :: ps)).length ≤ 1000000) :
    Fn Tryd.prog 18 [.string (bs (joinP (p :: ps)))] (fin_001 o (rdL wordQ 0 0 ps)) := by
  refine Fn.of ?_ rfl (fin_001_flat _ _)
  match ps, hcs, hl with
  | [], hcs, hl => exact rparse_001_0 o p  h0 hA hB hI hp hcs hl
  | w1 :: r, hcs, hl => exact rparse_001_1 o p w1 r h0 hA hB hI hp hcs hl
theorem fin_101_len (W : List UInt8 → Option Int) (o : Int) (ps : List (List UInt8)) (h : ¬ ps.length = 2) : fin_101 o (rdL W 1 0 ps) = errV := by
  cases hr : rdL W 1 0 ps with
  | none => rfl
  | some xs =>
    have := rdL_len W 1 0 ps xs hr
    unfold fin_101
    split
    · rename_i e; cases e; simp at this; omega
    · rfl
theorem rparse_101_0 (o : Int) (p : List UInt8) (h0 : 0 ≤ o) (hA : shA o = true) (hB : shB o = false) (hI : shI o = true) (hp : rdV (bs p) = .tuple #[.int .u8 o, .bool true]) (hcs : ∀ w ∈ p :: [], 32 ∉ w) (hl : (joinP (p :: [])).length ≤ 1000000) :
    PC Tryd.prog 18 [.string (bs (joinP (p :: [])))] [] (fun v _ => v = fin_101 o (rdL wordQ 1 0 ([]))) fun _ _ => False := by
  have hR := fnRRead (bs p)
  rw [hp] at hR
  refine pc_of Tryd.func18 rfl (by decide) (by kernel_rfl) (by show 1 ≤ _; decide) (SW.of mixed _ _ _ ?_)
  simp -implicitDefEqProofs
  refine PCq.k (split_q _ (by simp) hcs hl) ?_
  simp -implicitDefEqProofs [strs]
  refine hR.k ?_
  simp -implicitDefEqProofs
  refine (fnRUses o h0).k ?_
  simp -implicitDefEqProofs [hA, hB, hI]
  have he : fin_101 o (rdL wordQ 1 0 ([])) = errV := fin_101_len wordQ o [] (by simp)
  simp -implicitDefEqProofs [he, errV, insV]
theorem rparse_101_1 (o : Int) (p : List UInt8) (w1 : List UInt8) (h0 : 0 ≤ o) (hA : shA o = true) (hB : shB o = false) (hI : shI o = true) (hp : rdV (bs p) = .tuple #[.int .u8 o, .bool true]) (hcs : ∀ w ∈ p :: [w1], 32 ∉ w) (hl : (joinP (p :: [w1])).length ≤ 1000000) :
    PC Tryd.prog 18 [.string (bs (joinP (p :: [w1])))] [] (fun v _ => v = fin_101 o (rdL wordQ 1 0 ([w1]))) fun _ _ => False := by
  have hR := fnRRead (bs p)
  rw [hp] at hR
  have hl1 : w1.length ≤ 1000000 := Nat.le_trans (piece_len (ws := p :: [w1]) (by simp)) hl
  refine pc_of Tryd.func18 rfl (by decide) (by kernel_rfl) (by show 1 ≤ _; decide) (SW.of mixed _ _ _ ?_)
  simp -implicitDefEqProofs
  refine PCq.k (split_q _ (by simp) hcs hl) ?_
  simp -implicitDefEqProofs [strs]
  refine hR.k ?_
  simp -implicitDefEqProofs
  refine (fnRUses o h0).k ?_
  simp -implicitDefEqProofs [hA, hB, hI]
  refine (fnRReadReg w1).k ?_
  cases e1 : regP w1 with
  | none =>
    have he : fin_101 o (rdL wordQ 1 0 ([w1])) = errV := by simp [rdL, rdO, e1, fin_101]
    simp -implicitDefEqProofs [rgV, he, errV, insV]
  | some x1 =>
    simp -implicitDefEqProofs [rgV, strs]
    have he : fin_101 o (rdL wordQ 1 0 ([w1])) = errV := fin_101_len wordQ o [w1] (by simp)
    simp -implicitDefEqProofs [he, errV, insV]
theorem rparse_101_2 (o : Int) (p : List UInt8) (w1 w2 : List UInt8) (r : List (List UInt8)) (h0 : 0 ≤ o) (hA : shA o = true) (hB : shB o = false) (hI : shI o = true) (hp : rdV (bs p) = .tuple #[.int .u8 o, .bool true]) (hcs : ∀ w ∈ p :: w1 :: w2 :: r, 32 ∉ w) (hl : (joinP (p :: w1 :: w2 :: r)).length ≤ 1000000) :
    PC Tryd.prog 18 [.string (bs (joinP (p :: w1 :: w2 :: r)))] [] (fun v _ => v = fin_101 o (rdL wordQ 1 0 (w1 :: w2 :: r))) fun _ _ => False := by
  have hR := fnRRead (bs p)
  rw [hp] at hR
  have hl1 : w1.length ≤ 1000000 := Nat.le_trans (piece_len (ws := p :: w1 :: w2 :: r) (by simp)) hl
  have hl2 : w2.length ≤ 1000000 := Nat.le_trans (piece_len (ws := p :: w1 :: w2 :: r) (by simp)) hl
  have z0 : (0 : Int) < (r.length : Int) + 1 + 1 + 1 := by omega
  have f0 : ¬ (r.length : Int) + 1 + 1 + 1 ≤ 1 := by omega
  have g0 : (1 : Int) < (r.length : Int) + 1 + 1 + 1 := by omega
  have f1 : ¬ (r.length : Int) + 1 + 1 + 1 ≤ 2 := by omega
  have g1 : (2 : Int) < (r.length : Int) + 1 + 1 + 1 := by omega
  refine pc_of Tryd.func18 rfl (by decide) (by kernel_rfl) (by show 1 ≤ _; decide) (SW.of mixed _ _ _ ?_)
  simp -implicitDefEqProofs
  refine PCq.k (split_q _ (by simp) hcs hl) ?_
  simp -implicitDefEqProofs [strs, z0, f0, g0, f1, g1]
  refine hR.k ?_
  simp -implicitDefEqProofs
  refine (fnRUses o h0).k ?_
  simp -implicitDefEqProofs [hA, hB, hI, z0, f0, g0, f1, g1]
  refine (fnRReadReg w1).k ?_
  cases e1 : regP w1 with
  | none =>
    have he : fin_101 o (rdL wordQ 1 0 (w1 :: w2 :: r)) = errV := by simp [rdL, rdO, e1, fin_101]
    simp -implicitDefEqProofs [rgV, he, errV, insV, z0, f0, g0, f1, g1]
  | some x1 =>
    simp -implicitDefEqProofs [rgV, strs, z0, f0, g0, f1, g1]
    refine (fnRParse w2 hl2).k ?_
    cases e2 : wordQ w2 with
    | none =>
      have he : fin_101 o (rdL wordQ 1 0 (w1 :: w2 :: r)) = errV := by simp [rdL, rdO, e1, e2, fin_101]
      simp -implicitDefEqProofs [optE, he, errV, insV, z0, f0, g0, f1, g1]
    | some x2 =>
      simp -implicitDefEqProofs [optE, strs, z0, f0, g0, f1, g1]
      cases r with
      | nil =>
        have he : fin_101 o (rdL wordQ 1 0 (w1 :: w2 :: [])) = .tuple #[insV o x1 0 x2, .int .i64 0] := by simp [rdL, rdO, e1, e2, fin_101]
        simp -implicitDefEqProofs [he, insV]
      | cons q r =>
        have he : fin_101 o (rdL wordQ 1 0 (w1 :: w2 :: q :: r)) = errV := fin_101_len wordQ o _ (by simp)
        have hne : ¬ (3 : Int) = (r.length : Int) + 1 + 1 + 1 + 1 := by omega
        simp -implicitDefEqProofs [he, hne, errV, insV]
theorem rparse_101 (o : Int) (p : List UInt8) (ps : List (List UInt8)) (h0 : 0 ≤ o) (hA : shA o = true) (hB : shB o = false) (hI : shI o = true) (hp : rdV (bs p) = .tuple #[.int .u8 o, .bool true]) (hcs : ∀ w ∈ p :: ps, 32 ∉ w) (hl : (joinP (p :: ps)).length ≤ 1000000) :
    Fn Tryd.prog 18 [.string (bs (joinP (p :: ps)))] (fin_101 o (rdL wordQ 1 0 ps)) := by
  refine Fn.of ?_ rfl (fin_101_flat _ _)
  match ps, hcs, hl with
  | [], hcs, hl => exact rparse_101_0 o p  h0 hA hB hI hp hcs hl
  | [w1], hcs, hl => exact rparse_101_1 o p w1 h0 hA hB hI hp hcs hl
  | w1 :: w2 :: r, hcs, hl => exact rparse_101_2 o p w1 w2 r h0 hA hB hI hp hcs hl
theorem fin_110_len (W : List UInt8 → Option Int) (o : Int) (ps : List (List UInt8)) (h : ¬ ps.length = 2) : fin_110 o (rdL W 2 0 ps) = errV := by
  cases hr : rdL W 2 0 ps with
  | none => rfl
  | some xs =>
    have := rdL_len W 2 0 ps xs hr
    unfold fin_110
    split
    · rename_i e; cases e; simp at this; omega
    · rfl
theorem rparse_110_0 (o : Int) (p : List UInt8) (h0 : 0 ≤ o) (hA : shA o = true) (hB : shB o = true) (hI : shI o = false) (hp : rdV (bs p) = .tuple #[.int .u8 o, .bool true]) (hcs : ∀ w ∈ p :: [], 32 ∉ w) (hl : (joinP (p :: [])).length ≤ 1000000) :
    PC Tryd.prog 18 [.string (bs (joinP (p :: [])))] [] (fun v _ => v = fin_110 o (rdL wordQ 2 0 ([]))) fun _ _ => False := by
  have hR := fnRRead (bs p)
  rw [hp] at hR
  refine pc_of Tryd.func18 rfl (by decide) (by kernel_rfl) (by show 1 ≤ _; decide) (SW.of mixed _ _ _ ?_)
  simp -implicitDefEqProofs
  refine PCq.k (split_q _ (by simp) hcs hl) ?_
  simp -implicitDefEqProofs [strs]
  refine hR.k ?_
  simp -implicitDefEqProofs
  refine (fnRUses o h0).k ?_
  simp -implicitDefEqProofs [hA, hB, hI]
  have he : fin_110 o (rdL wordQ 2 0 ([])) = errV := fin_110_len wordQ o [] (by simp)
  simp -implicitDefEqProofs [he, errV, insV]
theorem rparse_110_1 (o : Int) (p : List UInt8) (w1 : List UInt8) (h0 : 0 ≤ o) (hA : shA o = true) (hB : shB o = true) (hI : shI o = false) (hp : rdV (bs p) = .tuple #[.int .u8 o, .bool true]) (hcs : ∀ w ∈ p :: [w1], 32 ∉ w) (hl : (joinP (p :: [w1])).length ≤ 1000000) :
    PC Tryd.prog 18 [.string (bs (joinP (p :: [w1])))] [] (fun v _ => v = fin_110 o (rdL wordQ 2 0 ([w1]))) fun _ _ => False := by
  have hR := fnRRead (bs p)
  rw [hp] at hR
  have hl1 : w1.length ≤ 1000000 := Nat.le_trans (piece_len (ws := p :: [w1]) (by simp)) hl
  refine pc_of Tryd.func18 rfl (by decide) (by kernel_rfl) (by show 1 ≤ _; decide) (SW.of mixed _ _ _ ?_)
  simp -implicitDefEqProofs
  refine PCq.k (split_q _ (by simp) hcs hl) ?_
  simp -implicitDefEqProofs [strs]
  refine hR.k ?_
  simp -implicitDefEqProofs
  refine (fnRUses o h0).k ?_
  simp -implicitDefEqProofs [hA, hB, hI]
  refine (fnRReadReg w1).k ?_
  cases e1 : regP w1 with
  | none =>
    have he : fin_110 o (rdL wordQ 2 0 ([w1])) = errV := by simp [rdL, rdO, e1, fin_110]
    simp -implicitDefEqProofs [rgV, he, errV, insV]
  | some x1 =>
    simp -implicitDefEqProofs [rgV, strs]
    have he : fin_110 o (rdL wordQ 2 0 ([w1])) = errV := fin_110_len wordQ o [w1] (by simp)
    simp -implicitDefEqProofs [he, errV, insV]
theorem rparse_110_2 (o : Int) (p : List UInt8) (w1 w2 : List UInt8) (r : List (List UInt8)) (h0 : 0 ≤ o) (hA : shA o = true) (hB : shB o = true) (hI : shI o = false) (hp : rdV (bs p) = .tuple #[.int .u8 o, .bool true]) (hcs : ∀ w ∈ p :: w1 :: w2 :: r, 32 ∉ w) (hl : (joinP (p :: w1 :: w2 :: r)).length ≤ 1000000) :
    PC Tryd.prog 18 [.string (bs (joinP (p :: w1 :: w2 :: r)))] [] (fun v _ => v = fin_110 o (rdL wordQ 2 0 (w1 :: w2 :: r))) fun _ _ => False := by
  have hR := fnRRead (bs p)
  rw [hp] at hR
  have hl1 : w1.length ≤ 1000000 := Nat.le_trans (piece_len (ws := p :: w1 :: w2 :: r) (by simp)) hl
  have hl2 : w2.length ≤ 1000000 := Nat.le_trans (piece_len (ws := p :: w1 :: w2 :: r) (by simp)) hl
  have z0 : (0 : Int) < (r.length : Int) + 1 + 1 + 1 := by omega
  have f0 : ¬ (r.length : Int) + 1 + 1 + 1 ≤ 1 := by omega
  have g0 : (1 : Int) < (r.length : Int) + 1 + 1 + 1 := by omega
  have f1 : ¬ (r.length : Int) + 1 + 1 + 1 ≤ 2 := by omega
  have g1 : (2 : Int) < (r.length : Int) + 1 + 1 + 1 := by omega
  refine pc_of Tryd.func18 rfl (by decide) (by kernel_rfl) (by show 1 ≤ _; decide) (SW.of mixed _ _ _ ?_)
  simp -implicitDefEqProofs
  refine PCq.k (split_q _ (by simp) hcs hl) ?_
  simp -implicitDefEqProofs [strs, z0, f0, g0, f1, g1]
  refine hR.k ?_
  simp -implicitDefEqProofs
  refine (fnRUses o h0).k ?_
  simp -implicitDefEqProofs [hA, hB, hI, z0, f0, g0, f1, g1]
  refine (fnRReadReg w1).k ?_
  cases e1 : regP w1 with
  | none =>
    have he : fin_110 o (rdL wordQ 2 0 (w1 :: w2 :: r)) = errV := by simp [rdL, rdO, e1, fin_110]
    simp -implicitDefEqProofs [rgV, he, errV, insV, z0, f0, g0, f1, g1]
  | some x1 =>
    simp -implicitDefEqProofs [rgV, strs, z0, f0, g0, f1, g1]
    refine (fnRReadReg w2).k ?_
    cases e2 : regP w2 with
    | none =>
      have he : fin_110 o (rdL wordQ 2 0 (w1 :: w2 :: r)) = errV := by simp [rdL, rdO, e1, e2, fin_110]
      simp -implicitDefEqProofs [rgV, he, errV, insV, z0, f0, g0, f1, g1]
    | some x2 =>
      simp -implicitDefEqProofs [rgV, strs, z0, f0, g0, f1, g1]
      cases r with
      | nil =>
        have he : fin_110 o (rdL wordQ 2 0 (w1 :: w2 :: [])) = .tuple #[insV o x1 x2 0, .int .i64 0] := by simp [rdL, rdO, e1, e2, fin_110]
        simp -implicitDefEqProofs [he, insV]
      | cons q r =>
        have he : fin_110 o (rdL wordQ 2 0 (w1 :: w2 :: q :: r)) = errV := fin_110_len wordQ o _ (by simp)
        have hne : ¬ (3 : Int) = (r.length : Int) + 1 + 1 + 1 + 1 := by omega
        simp -implicitDefEqProofs [he, hne, errV, insV]
theorem rparse_110 (o : Int) (p : List UInt8) (ps : List (List UInt8)) (h0 : 0 ≤ o) (hA : shA o = true) (hB : shB o = true) (hI : shI o = false) (hp : rdV (bs p) = .tuple #[.int .u8 o, .bool true]) (hcs : ∀ w ∈ p :: ps, 32 ∉ w) (hl : (joinP (p :: ps)).length ≤ 1000000) :
    Fn Tryd.prog 18 [.string (bs (joinP (p :: ps)))] (fin_110 o (rdL wordQ 2 0 ps)) := by
  refine Fn.of ?_ rfl (fin_110_flat _ _)
  match ps, hcs, hl with
  | [], hcs, hl => exact rparse_110_0 o p  h0 hA hB hI hp hcs hl
  | [w1], hcs, hl => exact rparse_110_1 o p w1 h0 hA hB hI hp hcs hl
  | w1 :: w2 :: r, hcs, hl => exact rparse_110_2 o p w1 w2 r h0 hA hB hI hp hcs hl
theorem fin_111_len (W : List UInt8 → Option Int) (o : Int) (ps : List (List UInt8)) (h : ¬ ps.length = 3) : fin_111 o (rdL W 2 0 ps) = errV := by
  cases hr : rdL W 2 0 ps with
  | none => rfl
  | some xs =>
    have := rdL_len W 2 0 ps xs hr
    unfold fin_111
    split
    · rename_i e; cases e; simp at this; omega
    · rfl
theorem rparse_111_0 (o : Int) (p : List UInt8) (h0 : 0 ≤ o) (hA : shA o = true) (hB : shB o = true) (hI : shI o = true) (hp : rdV (bs p) = .tuple #[.int .u8 o, .bool true]) (hcs : ∀ w ∈ p :: [], 32 ∉ w) (hl : (joinP (p :: [])).length ≤ 1000000) :
    PC Tryd.prog 18 [.string (bs (joinP (p :: [])))] [] (fun v _ => v = fin_111 o (rdL wordQ 2 0 ([]))) fun _ _ => False := by
  have hR := fnRRead (bs p)
  rw [hp] at hR
  refine pc_of Tryd.func18 rfl (by decide) (by kernel_rfl) (by show 1 ≤ _; decide) (SW.of mixed _ _ _ ?_)
  simp -implicitDefEqProofs
  refine PCq.k (split_q _ (by simp) hcs hl) ?_
  simp -implicitDefEqProofs [strs]
  refine hR.k ?_
  simp -implicitDefEqProofs
  refine (fnRUses o h0).k ?_
  simp -implicitDefEqProofs [hA, hB, hI]
  have he : fin_111 o (rdL wordQ 2 0 ([])) = errV := fin_111_len wordQ o [] (by simp)
  simp -implicitDefEqProofs [he, errV, insV]
theorem rparse_111_1 (o : Int) (p : List UInt8) (w1 : List UInt8) (h0 : 0 ≤ o) (hA : shA o = true) (hB : shB o = true) (hI : shI o = true) (hp : rdV (bs p) = .tuple #[.int .u8 o, .bool true]) (hcs : ∀ w ∈ p :: [w1], 32 ∉ w) (hl : (joinP (p :: [w1])).length ≤ 1000000) :
    PC Tryd.prog 18 [.string (bs (joinP (p :: [w1])))] [] (fun v _ => v = fin_111 o (rdL wordQ 2 0 ([w1]))) fun _ _ => False := by
  have hR := fnRRead (bs p)
  rw [hp] at hR
  have hl1 : w1.length ≤ 1000000 := Nat.le_trans (piece_len (ws := p :: [w1]) (by simp)) hl
  refine pc_of Tryd.func18 rfl (by decide) (by kernel_rfl) (by show 1 ≤ _; decide) (SW.of mixed _ _ _ ?_)
  simp -implicitDefEqProofs
  refine PCq.k (split_q _ (by simp) hcs hl) ?_
  simp -implicitDefEqProofs [strs]
  refine hR.k ?_
  simp -implicitDefEqProofs
  refine (fnRUses o h0).k ?_
  simp -implicitDefEqProofs [hA, hB, hI]
  refine (fnRReadReg w1).k ?_
  cases e1 : regP w1 with
  | none =>
    have he : fin_111 o (rdL wordQ 2 0 ([w1])) = errV := by simp [rdL, rdO, e1, fin_111]
    simp -implicitDefEqProofs [rgV, he, errV, insV]
  | some x1 =>
    simp -implicitDefEqProofs [rgV, strs]
    have he : fin_111 o (rdL wordQ 2 0 ([w1])) = errV := fin_111_len wordQ o [w1] (by simp)
    simp -implicitDefEqProofs [he, errV, insV]
theorem rparse_111_2 (o : Int) (p : List UInt8) (w1 w2 : List UInt8) (h0 : 0 ≤ o) (hA : shA o = true) (hB : shB o = true) (hI : shI o = true) (hp : rdV (bs p) = .tuple #[.int .u8 o, .bool true]) (hcs : ∀ w ∈ p :: [w1, w2], 32 ∉ w) (hl : (joinP (p :: [w1, w2])).length ≤ 1000000) :
    PC Tryd.prog 18 [.string (bs (joinP (p :: [w1, w2])))] [] (fun v _ => v = fin_111 o (rdL wordQ 2 0 ([w1, w2]))) fun _ _ => False := by
  have hR := fnRRead (bs p)
  rw [hp] at hR
  have hl1 : w1.length ≤ 1000000 := Nat.le_trans (piece_len (ws := p :: [w1, w2]) (by simp)) hl
  have hl2 : w2.length ≤ 1000000 := Nat.le_trans (piece_len (ws := p :: [w1, w2]) (by simp)) hl
  refine pc_of Tryd.func18 rfl (by decide) (by kernel_rfl) (by show 1 ≤ _; decide) (SW.of mixed _ _ _ ?_)
  simp -implicitDefEqProofs
  refine PCq.k (split_q _ (by simp) hcs hl) ?_
  simp -implicitDefEqProofs [strs]
  refine hR.k ?_
  simp -implicitDefEqProofs
  refine (fnRUses o h0).k ?_
  simp -implicitDefEqProofs [hA, hB, hI]
  refine (fnRReadReg w1).k ?_
  cases e1 : regP w1 with
  | none =>
    have he : fin_111 o (rdL wordQ 2 0 ([w1, w2])) = errV := by simp [rdL, rdO, e1, fin_111]
    simp -implicitDefEqProofs [rgV, he, errV, insV]
  | some x1 =>
    simp -implicitDefEqProofs [rgV, strs]
    refine (fnRReadReg w2).k ?_
    cases e2 : regP w2 with
    | none =>
      have he : fin_111 o (rdL wordQ 2 0 ([w1, w2])) = errV := by simp [rdL, rdO, e1, e2, fin_111]
      simp -implicitDefEqProofs [rgV, he, errV, insV]
    | some x2 =>
      simp -implicitDefEqProofs [rgV, strs]
      have he : fin_111 o (rdL wordQ 2 0 ([w1, w2])) = errV := fin_111_len wordQ o [w1, w2] (by simp)
      simp -implicitDefEqProofs [he, errV, insV]
theorem rparse_111_3 (o : Int) (p : List UInt8) (w1 w2 w3 : List UInt8) (r : List (List UInt8)) (h0 : 0 ≤ o) (hA : shA o = true) (hB : shB o = true) (hI : shI o = true) (hp : rdV (bs p) = .tuple #[.int .u8 o, .bool true]) (hcs : ∀ w ∈ p :: w1 :: w2 :: w3 :: r, 32 ∉ w) (hl : (joinP (p :: w1 :: w2 :: w3 :: r)).length ≤ 1000000) :
    PC Tryd.prog 18 [.string (bs (joinP (p :: w1 :: w2 :: w3 :: r)))] [] (fun v _ => v = fin_111 o (rdL wordQ 2 0 (w1 :: w2 :: w3 :: r))) fun _ _ => False := by
  have hR := fnRRead (bs p)
  rw [hp] at hR
  have hl1 : w1.length ≤ 1000000 := Nat.le_trans (piece_len (ws := p :: w1 :: w2 :: w3 :: r) (by simp)) hl
  have hl2 : w2.length ≤ 1000000 := Nat.le_trans (piece_len (ws := p :: w1 :: w2 :: w3 :: r) (by simp)) hl
  have hl3 : w3.length ≤ 1000000 := Nat.le_trans (piece_len (ws := p :: w1 :: w2 :: w3 :: r) (by simp)) hl
  have z0 : (0 : Int) < (r.length : Int) + 1 + 1 + 1 + 1 := by omega
  have f0 : ¬ (r.length : Int) + 1 + 1 + 1 + 1 ≤ 1 := by omega
  have g0 : (1 : Int) < (r.length : Int) + 1 + 1 + 1 + 1 := by omega
  have f1 : ¬ (r.length : Int) + 1 + 1 + 1 + 1 ≤ 2 := by omega
  have g1 : (2 : Int) < (r.length : Int) + 1 + 1 + 1 + 1 := by omega
  have f2 : ¬ (r.length : Int) + 1 + 1 + 1 + 1 ≤ 3 := by omega
  have g2 : (3 : Int) < (r.length : Int) + 1 + 1 + 1 + 1 := by omega
  refine pc_of Tryd.func18 rfl (by decide) (by kernel_rfl) (by show 1 ≤ _; decide) (SW.of mixed _ _ _ ?_)
  simp -implicitDefEqProofs
  refine PCq.k (split_q _ (by simp) hcs hl) ?_
  simp -implicitDefEqProofs [strs, z0, f0, g0, f1, g1, f2, g2]
  refine hR.k ?_
  simp -implicitDefEqProofs
  refine (fnRUses o h0).k ?_
  simp -implicitDefEqProofs [hA, hB, hI, z0, f0, g0, f1, g1, f2, g2]
  refine (fnRReadReg w1).k ?_
  cases e1 : regP w1 with
  | none =>
    have he : fin_111 o (rdL wordQ 2 0 (w1 :: w2 :: w3 :: r)) = errV := by simp [rdL, rdO, e1, fin_111]
    simp -implicitDefEqProofs [rgV, he, errV, insV, z0, f0, g0, f1, g1, f2, g2]
  | some x1 =>
    simp -implicitDefEqProofs [rgV, strs, z0, f0, g0, f1, g1, f2, g2]
    refine (fnRReadReg w2).k ?_
    cases e2 : regP w2 with
    | none =>
      have he : fin_111 o (rdL wordQ 2 0 (w1 :: w2 :: w3 :: r)) = errV := by simp [rdL, rdO, e1, e2, fin_111]
      simp -implicitDefEqProofs [rgV, he, errV, insV, z0, f0, g0, f1, g1, f2, g2]
    | some x2 =>
      simp -implicitDefEqProofs [rgV, strs, z0, f0, g0, f1, g1, f2, g2]
      refine (fnRParse w3 hl3).k ?_
      cases e3 : wordQ w3 with
      | none =>
        have he : fin_111 o (rdL wordQ 2 0 (w1 :: w2 :: w3 :: r)) = errV := by simp [rdL, rdO, e1, e2, e3, fin_111]
        simp -implicitDefEqProofs [optE, he, errV, insV, z0, f0, g0, f1, g1, f2, g2]
      | some x3 =>
        simp -implicitDefEqProofs [optE, strs, z0, f0, g0, f1, g1, f2, g2]
        cases r with
        | nil =>
          have he : fin_111 o (rdL wordQ 2 0 (w1 :: w2 :: w3 :: [])) = .tuple #[insV o x1 x2 x3, .int .i64 0] := by simp [rdL, rdO, e1, e2, e3, fin_111]
          simp -implicitDefEqProofs [he, insV]
        | cons q r =>
          have he : fin_111 o (rdL wordQ 2 0 (w1 :: w2 :: w3 :: q :: r)) = errV := fin_111_len wordQ o _ (by simp)
          have hne : ¬ (4 : Int) = (r.length : Int) + 1 + 1 + 1 + 1 + 1 := by omega
          simp -implicitDefEqProofs [he, hne, errV, insV]
theorem rparse_111 (o : Int) (p : List UInt8) (ps : List (List UInt8)) (h0 : 0 ≤ o) (hA : shA o = true) (hB : shB o = true) (hI : shI o = true) (hp : rdV (bs p) = .tuple #[.int .u8 o, .bool true]) (hcs : ∀ w ∈ p :: ps, 32 ∉ w) (hl : (joinP (p :: ps)).length ≤ 1000000) :
    Fn Tryd.prog 18 [.string (bs (joinP (p :: ps)))] (fin_111 o (rdL wordQ 2 0 ps)) := by
  refine Fn.of ?_ rfl (fin_111_flat _ _)
  match ps, hcs, hl with
  | [], hcs, hl => exact rparse_111_0 o p  h0 hA hB hI hp hcs hl
  | [w1], hcs, hl => exact rparse_111_1 o p w1 h0 hA hB hI hp hcs hl
  | [w1, w2], hcs, hl => exact rparse_111_2 o p w1 w2 h0 hA hB hI hp hcs hl
  | w1 :: w2 :: w3 :: r, hcs, hl => exact rparse_111_3 o p w1 w2 w3 r h0 hA hB hI hp hcs hl
end Go.Proofs.YtjopikjefpenkaaDoor
/- IsaTexts: an instruction as text, what a text says, or the errors. -/
namespace Go.Proofs.YtjopikjefpenkaaDoor
open Go.RowKit
set_option maxRecDepth 1000000
set_option linter.unusedSimpArgs false
set_option maxHeartbeats 16000000
theorem pfindS_lt {s : ByteArray} : ∀ {ws : List ByteArray} {i j : Nat}, pfindS s ws i = some j → j < i + ws.length
  | [], i, j, h => by cases h
  | w :: ws, i, j, h => by
    rw [pfindS] at h
    split at h
    · cases h; simp
    · have := pfindS_lt h; simp; omega
theorem parse_bad (p : List UInt8) (ps : List (List UInt8)) (hp : rdV (bs p) = .tuple #[.int .u8 0, .bool false]) (hc : 32 ∉ p) (hl : (joinP (p :: ps)).length ≤ 1000000) : Fn Tryd.prog 15 [.string (bs (joinP (p :: ps)))] errV := by
  refine Fn.of ?_ rfl rfl
  have hR := fnRead (bs p)
  rw [hp] at hR
  refine pc_of Tryd.func15 rfl (by decide) (by kernel_rfl) (by show 1 ≤ _; decide) (SW.of mixed _ _ _ ?_)
  simp -implicitDefEqProofs
  refine (fnCutP p ps hc hl).k ?_
  simp -implicitDefEqProofs
  refine hR.k ?_
  simp -implicitDefEqProofs [errV, insV]
theorem rparse_bad (p : List UInt8) (ps : List (List UInt8)) (hp : rdV (bs p) = .tuple #[.int .u8 0, .bool false]) (hcs : ∀ w ∈ p :: ps, 32 ∉ w) (hl : (joinP (p :: ps)).length ≤ 1000000) : Fn Tryd.prog 18 [.string (bs (joinP (p :: ps)))] errV := by
  refine Fn.of ?_ rfl rfl
  have hR := fnRRead (bs p)
  rw [hp] at hR
  have e1 : shA 0 = false := rfl
  have e2 : shB 0 = false := rfl
  have e3 : shI 0 = false := rfl
  refine pc_of Tryd.func18 rfl (by decide) (by kernel_rfl) (by show 1 ≤ _; decide) (SW.of mixed _ _ _ ?_)
  simp -implicitDefEqProofs
  refine PCq.k (split_q _ (by simp) hcs hl) ?_
  simp -implicitDefEqProofs [strs]
  refine hR.k ?_
  simp -implicitDefEqProofs
  refine (fnRUses 0 (by decide)).k ?_
  simp -implicitDefEqProofs [e1, e2, e3, errV, insV]
theorem form_000 (o : Int) (x : Option (List Int)) : ∃ a b c n e, fin_000 o x = .tuple #[insV a b c n, .int .i64 e] := by unfold fin_000; split <;> exact ⟨_, _, _, _, _, rfl⟩
theorem form_001 (o : Int) (x : Option (List Int)) : ∃ a b c n e, fin_001 o x = .tuple #[insV a b c n, .int .i64 e] := by unfold fin_001; split <;> exact ⟨_, _, _, _, _, rfl⟩
theorem form_101 (o : Int) (x : Option (List Int)) : ∃ a b c n e, fin_101 o x = .tuple #[insV a b c n, .int .i64 e] := by unfold fin_101; split <;> exact ⟨_, _, _, _, _, rfl⟩
theorem form_110 (o : Int) (x : Option (List Int)) : ∃ a b c n e, fin_110 o x = .tuple #[insV a b c n, .int .i64 e] := by unfold fin_110; split <;> exact ⟨_, _, _, _, _, rfl⟩
theorem form_111 (o : Int) (x : Option (List Int)) : ∃ a b c n e, fin_111 o x = .tuple #[insV a b c n, .int .i64 e] := by unfold fin_111; split <;> exact ⟨_, _, _, _, _, rfl⟩
theorem both_of {f g : FuncId} {args : List Value} {v : Value} (hv : ∃ a b c n e, v = .tuple #[insV a b c n, .int .i64 e]) (h1 : Fn Tryd.prog f args v) (h2 : Fn Tryd.prog g args v) : ∃ a b c n e, Fn Tryd.prog f args (.tuple #[insV a b c n, .int .i64 e]) ∧ Fn Tryd.prog g args (.tuple #[insV a b c n, .int .i64 e]) := by
  obtain ⟨a, b, c, n, e, rfl⟩ := hv
  exact ⟨a, b, c, n, e, h1, h2⟩
theorem parse_both (ps : List (List UInt8)) (h0 : ps ≠ []) (hcs : ∀ w ∈ ps, 32 ∉ w) (hl : (joinP ps).length ≤ 1000000) : ∃ a b c n e, Fn Tryd.prog 15 [.string (bs (joinP ps))] (.tuple #[insV a b c n, .int .i64 e]) ∧ Fn Tryd.prog 18 [.string (bs (joinP ps))] (.tuple #[insV a b c n, .int .i64 e]) := by
  cases ps with
  | nil => exact absurd rfl h0
  | cons p ps =>
    have hc : 32 ∉ p := hcs p (by simp)
    have hcs2 : ∀ w ∈ ps, 32 ∉ w := fun w hw => hcs w (List.mem_cons_of_mem _ hw)
    have hW : ∀ w ∈ ps, Fn Tryd.prog 53 [.string (bs w)] (optE (wordQ w)) := fun w hw => fnParseW w (Nat.le_trans (piece_len (List.mem_cons_of_mem _ hw)) hl)
    cases hf : pfindS (bs p) wordsL 0 with
    | none =>
      have hp : rdV (bs p) = .tuple #[.int .u8 0, .bool false] := by unfold rdV; rw [hf]; rfl
      exact ⟨0, 0, 0, 0, 3, parse_bad p ps hp hc hl, rparse_bad p ps hp hcs hl⟩
    | some o =>
      have hp : rdV (bs p) = .tuple #[.int .u8 (o : Int), .bool true] := by unfold rdV; rw [hf]; rfl
      have ho : o < 24 := by have := pfindS_lt hf; rw [Nat.zero_add] at this; exact this
      have h0' : (0 : Int) ≤ o := by omega
      cases hA : shA o <;> cases hB : shB o <;> cases hI : shI o
      · exact both_of (form_000 o _) (parse_000 wordQ o p ps h0' hA hB hI hp hc hcs2 hl hW) (rparse_000 o p ps h0' hA hB hI hp hcs hl)
      · exact both_of (form_001 o _) (parse_001 wordQ o p ps h0' hA hB hI hp hc hcs2 hl hW) (rparse_001 o p ps h0' hA hB hI hp hcs hl)
      · exfalso; have := shapes_ok o ho; rw [hA, hB, hI] at this; cases this
      · exfalso; have := shapes_ok o ho; rw [hA, hB, hI] at this; cases this
      · exfalso; have := shapes_ok o ho; rw [hA, hB, hI] at this; cases this
      · exact both_of (form_101 o _) (parse_101 wordQ o p ps h0' hA hB hI hp hc hcs2 hl hW) (rparse_101 o p ps h0' hA hB hI hp hcs hl)
      · exact both_of (form_110 o _) (parse_110 wordQ o p ps h0' hA hB hI hp hc hcs2 hl hW) (rparse_110 o p ps h0' hA hB hI hp hcs hl)
      · exact both_of (form_111 o _) (parse_111 wordQ o p ps h0' hA hB hI hp hc hcs2 hl hW) (rparse_111 o p ps h0' hA hB hI hp hcs hl)
theorem cutS_size (s : ByteArray) : (cutS s).size ≤ 300 := by
  unfold cutS
  split
  · rw [ByteArray.size_extract]; omega
  · omega
theorem fnIsaTexts (o : Nat) (a b n : Int) (ha : 0 ≤ a) (hb : 0 ≤ b) (hn : 0 ≤ n) (hn1 : n ≤ 65535) (s : ByteArray) (hs : s.size ≤ 9223372036854775807) : Fn Tryd.prog 5 [insV o a b n, .string s] (.bool true) := by
  refine Fn.of ?_ rfl rfl
  have h0 : (0 : Int) ≤ o := by omega
  obtain ⟨ps, p0, p1, p2⟩ := pieces (cutS s).toList
  have hcs : cutS s = bs (joinP ps) := by rw [← p2]; exact bs_of _
  have hl : (joinP ps).length ≤ 1000000 := by
    have := cutS_size s
    rw [hcs, bs_size] at this
    omega
  obtain ⟨x, y, z, m, e, P1, P2⟩ := parse_both ps p0 p1 hl
  refine pc_of Tryd.func5 rfl (by decide) (by kernel_rfl) (by show 2 ≤ _; decide) (SW.of mixed _ _ _ ?_)
  simp -implicitDefEqProofs
  refine (fnShort s hs).k ?_
  rw [hcs]
  by_cases ok : okF o a b n
  · simp -implicitDefEqProofs [insV]
    refine (fnPrint o a b n ha hb hn hn1 ok).k ?_
    simp -implicitDefEqProofs [insV]
    refine (fnRPrint o a b n ha hb hn hn1 ok).k ?_
    simp -implicitDefEqProofs [insV]
    refine P1.k ?_
    simp -implicitDefEqProofs [insV]
    refine P2.k ?_
    simp -implicitDefEqProofs [insV]
    refine fnLive3.k ?_
    simp -implicitDefEqProofs [insV, insEq, insSame, boolEq]
  · simp -implicitDefEqProofs [insV]
    refine (fnPrint_bad o a b n h0 ok).k ?_
    simp -implicitDefEqProofs [insV]
    refine (rprint_bad o a b n h0 ok).k ?_
    simp -implicitDefEqProofs [insV]
    refine P1.k ?_
    simp -implicitDefEqProofs [insV]
    refine P2.k ?_
    simp -implicitDefEqProofs [insV]
    refine fnLive3.k ?_
    simp -implicitDefEqProofs [insV, insEq, insSame, boolEq]
theorem texts_walk {w : World} (hB : Inv.I w ∧ ∀ k, Inv.B k → k < w.heap.size) {o a b n : Int} {s : ByteArray} (h0 : 0 ≤ o) (ha : 0 ≤ a) (hb : 0 ≤ b) (hn : 0 ≤ n) (hn1 : n ≤ 65535) (hs : s.size ≤ maxLen) : Calls Tryd.prog 5 #[insV o a b n, .string s] w fun e w' => e = .returned (.bool true) ∧ Below w.heap.size w w' := by
  obtain ⟨m, rfl⟩ := Int.eq_ofNat_of_zero_le h0
  exact (fnIsaTexts m a b n ha hb hn hn1 s hs).calls rfl rfl w hB.1 hB.2
end Go.Proofs.YtjopikjefpenkaaDoor

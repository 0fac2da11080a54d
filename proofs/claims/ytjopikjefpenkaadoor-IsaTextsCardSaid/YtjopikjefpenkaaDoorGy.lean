/- The document's text of an instruction. -/
import Derived.Test.YtjopikjefpenkaaDoorGu
import Derived.Test.YtjopikjefpenkaaDoorGo
import Derived.Test.YtjopikjefpenkaaDoorGh
import Derived.Test.YtjopikjefpenkaaDoorGp
import Derived.Lib.SplitLaws
import Derived.Test.YtjopikjefpenkaaDoorGe
import Derived.Test.YtjopikjefpenkaaDoorG8
import Derived.Test.YtjopikjefpenkaaDoorGl
set_option linter.unusedSimpArgs false
set_option linter.unusedVariables false
set_option linter.unusedSectionVars false
namespace Go.Proofs.YtjopikjefpenkaaDoor
open Go.RowKit
set_option maxRecDepth 1000000
set_option maxHeartbeats 8000000
def regF : List FuncId := [47]
theorem regF_ok : regF.all (okFn Tryd.prog) = true := by kernel_rfl
theorem reg_runs : (List.range 8).all (fun i => isStr (rS (i : Int)) (ef Tryd.prog regF xText 30 30 47 [.int .u8 i] [])) = true := by kernel_rfl
theorem fnRReg (i : Nat) (hi : i < 8) : Fn Tryd.prog 47 [.int .u8 i] (.string (rS (i : Int))) := by
  refine Fn.of ?_ rfl rfl
  have h := List.all_eq_true.1 reg_runs i (List.mem_range.2 hi)
  unfold isStr at h
  split at h
  · rename_i s hs e
    have : s = rS (i : Int) := by
      exact WideShapes.bytes_inj (by simpa using h)
    subst this
    exact (ef_sound mixed regF_ok xText_ok _ _ _ _ _ e).mono (fun v h' hv => by cases hv; rfl) (fun v h' hv => by cases hv)
  · cases h
/-- The digits of a number that is not 0. -/
def digD (x : Nat) : List UInt8 := if x = 0 then [] else Lib.decDigits x
theorem dec_step (x : Nat) : Lib.decDigits x = digD (x / 10) ++ [UInt8.ofNat (48 + x % 10)] := by
  rw [Lib.decDigits]
  unfold digD
  split
  · rename_i h
    rw [if_pos (by omega), Nat.mod_eq_of_lt h]; rfl
  · rw [if_neg (by omega)]
theorem digD_step {x : Nat} (h : 0 < x) : digD x = digD (x / 10) ++ [UInt8.ofNat (48 + x % 10)] := by
  rw [← dec_step]; unfold digD; rw [if_neg (by omega)]
def hexS : ByteArray := ⟨#[48, 49, 50, 51, 52, 53, 54, 55, 56, 57, 97, 98, 99, 100, 101, 102]⟩
theorem hex_runs : (List.range 10).all (fun r => (hexS.extract r (r + 1)).data.toList == [UInt8.ofNat (48 + r)]) = true := by kernel_rfl
theorem hex_piece {r : Nat} (h : r < 10) : hexS.extract r (r + 1) = bs [UInt8.ofNat (48 + r)] := by
  have := List.all_eq_true.1 hex_runs r (List.mem_range.2 h)
  exact WideShapes.bytes_inj (by simpa using this)
theorem bs_cat (a b : List UInt8) : bs a ++ bs b = bs (a ++ b) := by
  refine WideShapes.bytes_inj ?_
  rw [bs_data, ByteArray.data_append, Array.toList_append, bs_data, bs_data]
theorem fnRDigits (u : Nat) (hu : u ≤ 65535) : Fn Tryd.prog 48 [.int .u16 u] (.string (nS u)) := by
  refine Fn.of ?_ rfl rfl
  have w0 : IntKind.i64.wrap (u : Int) = u := by rw [IntKind.wrap_i64]; omega
  have hns : nS (u : Int) = bs (Lib.decDigits u) := rfl
  refine pc_of Tryd.func48 rfl (by decide) (by kernel_rfl) (by show 1 ≤ _; decide) (SW.of mixed _ _ _ ?_)
  simp -implicitDefEqProofs [w0, hns]
  refine pwp_loop_st (fun p : Nat × List UInt8 => ⟨[(4, .int .i64 (p.1 : Int)), (3, .string (bs p.2))], []⟩) (fun p => p.1 + if p.2 = [] then 1 else 0) (fun p => p.1 ≤ u ∧ (p.2 = [] ∧ p.1 = u ∨ p.2 ≠ [] ∧ digD p.1 ++ p.2 = Lib.decDigits u)) (u, []) [] ⟨Nat.le_refl _, .inl ⟨rfl, rfl⟩⟩ (Sub.mk' (by decide) trivial ?_ ?_) ?_
  · simp -implicitDefEqProofs
  · simp -implicitDefEqProofs [bs]
  rintro ⟨x, out⟩ ⟨hx, hp⟩
  simp only at hx hp
  have hstep := dec_step x
  have hstep2 : 0 < x → digD x = digD (x / 10) ++ [UInt8.ofNat (48 + x % 10)] := digD_step
  obtain ⟨r, hr⟩ : ∃ r, x % 10 = r := ⟨_, rfl⟩
  obtain ⟨y, hy⟩ : ∃ y, x / 10 = y := ⟨_, rfl⟩
  have hr10 : r < 10 := by omega
  have t1 : (x : Int).tmod 10 = (r : Int) := by rw [Int.tmod_eq_emod_of_nonneg (by omega)]; omega
  have t2 : (x : Int).tdiv 10 = (y : Int) := by rw [Int.tdiv_eq_ediv_of_nonneg (by omega)]; omega
  have w1 : IntKind.i64.wrap (r : Int) = (r : Int) := by rw [IntKind.wrap_i64]; omega
  have w2 : IntKind.i64.wrap ((r : Int) + 1) = (r : Int) + 1 := by rw [IntKind.wrap_i64]; omega
  have w3 : IntKind.i64.wrap (y : Int) = (y : Int) := by rw [IntKind.wrap_i64]; omega
  have w4 : ((r : Int) + 1).toNat = r + 1 := by omega
  have w5 : (r : Int) + 1 ≤ 16 := by omega
  have w6 : (r : Int) ≤ (r : Int) + 1 := by omega
  have hl : out.length ≤ 5 := by
    rcases hp with ⟨h, _⟩ | ⟨_, h⟩
    · subst h; simp
    · have h1 := dec_len 4 u (by omega)
      rw [← h, List.length_append] at h1
      omega
  have hsz : (⟨#[48, 49, 50, 51, 52, 53, 54, 55, 56, 57, 97, 98, 99, 100, 101, 102]⟩ : ByteArray).size = 16 := rfl
  have hp1 : (⟨#[48, 49, 50, 51, 52, 53, 54, 55, 56, 57, 97, 98, 99, 100, 101, 102]⟩ : ByteArray).extract r (r + 1) = bs [UInt8.ofNat (48 + r)] := hex_piece hr10
  rw [hr, hy] at hstep hstep2
  by_cases hx0 : x = 0
  · by_cases ho : out = []
    · have hu0 : u = 0 := by
        rcases hp with ⟨_, h⟩ | ⟨h, _⟩
        · omega
        · exact absurd ho h
      subst ho hx0 hu0
      obtain rfl : r = 0 := by omega
      obtain rfl : y = 0 := by omega
      simp -implicitDefEqProofs [hsz, show (⟨#[48, 49, 50, 51, 52, 53, 54, 55, 56, 57, 97, 98, 99, 100, 101, 102]⟩ : ByteArray).extract 0 1 = bs [48] from hp1, bs_cat]
      refine Again.mk (0, [48]) [] (by simp) ⟨by simp, by right; exact ⟨by simp, by rw [hstep]; rfl⟩⟩ (Sub.mk' (by decide) trivial ?_ ?_)
      · simp -implicitDefEqProofs
      · simp -implicitDefEqProofs
    · subst hx0
      rcases hp with ⟨h, _⟩ | ⟨_, h⟩
      · exact absurd h ho
      have h2 : out = Lib.decDigits u := by rw [← h]; rfl
      subst h2
      simp -implicitDefEqProofs [ho, hns]
  have hx1 : 0 < x := by omega
  have hx2 : (0 : Int) < x := by omega
  simp -implicitDefEqProofs [hx1, hx2, t1, t2, w1, w2, w3, w4, w5, w6, hp1, bs_cat, hsz]
  refine ⟨by omega, ?_⟩
  refine Again.mk (y, UInt8.ofNat (48 + r) :: out) [] ?_ ?_ (Sub.mk' ?_ ?_ ?_ ?_)
  · simp only [List.cons_ne_nil, if_false]; split <;> omega
  · refine ⟨show y ≤ u by omega, .inr ⟨by simp, ?_⟩⟩
    show digD y ++ (UInt8.ofNat (48 + r) :: out) = _
    rcases hp with ⟨rfl, rfl⟩ | ⟨_, h⟩
    · simpa using hstep.symm
    · rw [← h, hstep2 hx1]; simp
  · decide
  · exact trivial
  · simp -implicitDefEqProofs
  · simp -implicitDefEqProofs
/-- ref03.Print. -/
theorem rprint_bad (o a b n : Int) (h0 : 0 ≤ o) (ok : ¬ okF o a b n) : Fn Tryd.prog 17 [insV o a b n] (.tuple #[.string ⟨#[]⟩, .int .i64 3]) := by
  refine Fn.of ?_ rfl rfl
  refine pc_of Tryd.func17 rfl (by decide) (by kernel_rfl) (by show 1 ≤ _; decide) (SW.of mixed _ _ _ ?_)
  simp -implicitDefEqProofs [insV]
  refine (fnRRight o a b n h0).k ?_
  simp -implicitDefEqProofs [ok]
theorem rprint_000 (o : Nat) (a b n : Int) (ha : 0 ≤ a) (hb : 0 ≤ b) (hn : 0 ≤ n) (hn1 : n ≤ 65535) (ok : okF o a b n) (hA : shA o = false) (hB : shB o = false) (hI : shI o = false) : PC Tryd.prog 17 [insV o a b n] [] (fun v _ => v = .tuple #[.string (printS o a b n), .int .i64 0]) fun _ _ => False := by
  have h0 : (0 : Int) ≤ o := by omega
  have o8 := ok.1
  have a8 : a < 8 := ok.2.1
  have b8 : b < 8 := ok.2.2.1
  obtain ⟨p, rfl⟩ := Int.eq_ofNat_of_zero_le ha
  obtain ⟨q, rfl⟩ := Int.eq_ofNat_of_zero_le hb
  obtain ⟨m, rfl⟩ := Int.eq_ofNat_of_zero_le hn
  have lw := (word_piece o (by omega)).2.1
  have lp := (reg_piece p ha a8).2.2.2
  have lq := (reg_piece q hb b8).2.2.2
  have lm := (nS_piece m hn hn1).2.2.2
  have s1 : (⟨#[32]⟩ : ByteArray).size = 1 := rfl
  have sw : (wordB o).size ≤ 5 := lw
  have sp : (rS (p : Int)).size ≤ 5 := lp
  have sq : (rS (q : Int)).size ≤ 5 := lq
  have sm : (nS (m : Int)).size ≤ 5 := lm
  have hS : printS o p q m = wordB o := by
    refine WideShapes.bytes_inj ?_
    unfold printS joinS opndS
    simp [hA, hB, hI, Lib.join, ByteArray.data_append]
  rw [hS]
  refine pc_of Tryd.func17 rfl (by decide) (by kernel_rfl) (by show 1 ≤ _; decide) (SW.of mixed _ _ _ ?_)
  simp -implicitDefEqProofs [insV]
  refine (fnRRight o p q m h0).k ?_
  simp -implicitDefEqProofs [ok]
  refine (fnRUses o h0).k ?_
  simp -implicitDefEqProofs [hA, hB, hI]
  refine (fnRWord o (by omega)).k ?_
  simp -implicitDefEqProofs [hA, hB, hI]
theorem rprint_001 (o : Nat) (a b n : Int) (ha : 0 ≤ a) (hb : 0 ≤ b) (hn : 0 ≤ n) (hn1 : n ≤ 65535) (ok : okF o a b n) (hA : shA o = false) (hB : shB o = false) (hI : shI o = true) : PC Tryd.prog 17 [insV o a b n] [] (fun v _ => v = .tuple #[.string (printS o a b n), .int .i64 0]) fun _ _ => False := by
  have h0 : (0 : Int) ≤ o := by omega
  have o8 := ok.1
  have a8 : a < 8 := ok.2.1
  have b8 : b < 8 := ok.2.2.1
  obtain ⟨p, rfl⟩ := Int.eq_ofNat_of_zero_le ha
  obtain ⟨q, rfl⟩ := Int.eq_ofNat_of_zero_le hb
  obtain ⟨m, rfl⟩ := Int.eq_ofNat_of_zero_le hn
  have lw := (word_piece o (by omega)).2.1
  have lp := (reg_piece p ha a8).2.2.2
  have lq := (reg_piece q hb b8).2.2.2
  have lm := (nS_piece m hn hn1).2.2.2
  have s1 : (⟨#[32]⟩ : ByteArray).size = 1 := rfl
  have sw : (wordB o).size ≤ 5 := lw
  have sp : (rS (p : Int)).size ≤ 5 := lp
  have sq : (rS (q : Int)).size ≤ 5 := lq
  have sm : (nS (m : Int)).size ≤ 5 := lm
  have hS : printS o p q m = (wordB o ++ (⟨#[32]⟩ ++ nS (m : Int))) := by
    refine WideShapes.bytes_inj ?_
    unfold printS joinS opndS
    simp [hA, hB, hI, Lib.join, ByteArray.data_append]
  rw [hS]
  refine pc_of Tryd.func17 rfl (by decide) (by kernel_rfl) (by show 1 ≤ _; decide) (SW.of mixed _ _ _ ?_)
  simp -implicitDefEqProofs [insV]
  refine (fnRRight o p q m h0).k ?_
  simp -implicitDefEqProofs [ok]
  refine (fnRUses o h0).k ?_
  simp -implicitDefEqProofs [hA, hB, hI]
  refine (fnRWord o (by omega)).k ?_
  simp -implicitDefEqProofs [hA, hB, hI]
  refine (fnRDigits m (by omega)).k ?_
  simp -implicitDefEqProofs [hA, hB, hI]
  exact ⟨by omega, by omega⟩
theorem rprint_101 (o : Nat) (a b n : Int) (ha : 0 ≤ a) (hb : 0 ≤ b) (hn : 0 ≤ n) (hn1 : n ≤ 65535) (ok : okF o a b n) (hA : shA o = true) (hB : shB o = false) (hI : shI o = true) : PC Tryd.prog 17 [insV o a b n] [] (fun v _ => v = .tuple #[.string (printS o a b n), .int .i64 0]) fun _ _ => False := by
  have h0 : (0 : Int) ≤ o := by omega
  have o8 := ok.1
  have a8 : a < 8 := ok.2.1
  have b8 : b < 8 := ok.2.2.1
  obtain ⟨p, rfl⟩ := Int.eq_ofNat_of_zero_le ha
  obtain ⟨q, rfl⟩ := Int.eq_ofNat_of_zero_le hb
  obtain ⟨m, rfl⟩ := Int.eq_ofNat_of_zero_le hn
  have lw := (word_piece o (by omega)).2.1
  have lp := (reg_piece p ha a8).2.2.2
  have lq := (reg_piece q hb b8).2.2.2
  have lm := (nS_piece m hn hn1).2.2.2
  have s1 : (⟨#[32]⟩ : ByteArray).size = 1 := rfl
  have sw : (wordB o).size ≤ 5 := lw
  have sp : (rS (p : Int)).size ≤ 5 := lp
  have sq : (rS (q : Int)).size ≤ 5 := lq
  have sm : (nS (m : Int)).size ≤ 5 := lm
  have hS : printS o p q m = ((wordB o ++ (⟨#[32]⟩ ++ rS (p : Int))) ++ (⟨#[32]⟩ ++ nS (m : Int))) := by
    refine WideShapes.bytes_inj ?_
    unfold printS joinS opndS
    simp [hA, hB, hI, Lib.join, ByteArray.data_append]
  rw [hS]
  refine pc_of Tryd.func17 rfl (by decide) (by kernel_rfl) (by show 1 ≤ _; decide) (SW.of mixed _ _ _ ?_)
  simp -implicitDefEqProofs [insV]
  refine (fnRRight o p q m h0).k ?_
  simp -implicitDefEqProofs [ok]
  refine (fnRUses o h0).k ?_
  simp -implicitDefEqProofs [hA, hB, hI]
  refine (fnRWord o (by omega)).k ?_
  simp -implicitDefEqProofs [hA, hB, hI]
  refine (fnRReg p (by omega)).k ?_
  simp -implicitDefEqProofs [hA, hB, hI]
  refine ⟨by omega, by omega, ?_⟩
  refine (fnRDigits m (by omega)).k ?_
  simp -implicitDefEqProofs [hA, hB, hI]
  exact ⟨by omega, by omega⟩
theorem rprint_110 (o : Nat) (a b n : Int) (ha : 0 ≤ a) (hb : 0 ≤ b) (hn : 0 ≤ n) (hn1 : n ≤ 65535) (ok : okF o a b n) (hA : shA o = true) (hB : shB o = true) (hI : shI o = false) : PC Tryd.prog 17 [insV o a b n] [] (fun v _ => v = .tuple #[.string (printS o a b n), .int .i64 0]) fun _ _ => False := by
  have h0 : (0 : Int) ≤ o := by omega
  have o8 := ok.1
  have a8 : a < 8 := ok.2.1
  have b8 : b < 8 := ok.2.2.1
  obtain ⟨p, rfl⟩ := Int.eq_ofNat_of_zero_le ha
  obtain ⟨q, rfl⟩ := Int.eq_ofNat_of_zero_le hb
  obtain ⟨m, rfl⟩ := Int.eq_ofNat_of_zero_le hn
  have lw := (word_piece o (by omega)).2.1
  have lp := (reg_piece p ha a8).2.2.2
  have lq := (reg_piece q hb b8).2.2.2
  have lm := (nS_piece m hn hn1).2.2.2
  have s1 : (⟨#[32]⟩ : ByteArray).size = 1 := rfl
  have sw : (wordB o).size ≤ 5 := lw
  have sp : (rS (p : Int)).size ≤ 5 := lp
  have sq : (rS (q : Int)).size ≤ 5 := lq
  have sm : (nS (m : Int)).size ≤ 5 := lm
  have hS : printS o p q m = ((wordB o ++ (⟨#[32]⟩ ++ rS (p : Int))) ++ (⟨#[32]⟩ ++ rS (q : Int))) := by
    refine WideShapes.bytes_inj ?_
    unfold printS joinS opndS
    simp [hA, hB, hI, Lib.join, ByteArray.data_append]
  rw [hS]
  refine pc_of Tryd.func17 rfl (by decide) (by kernel_rfl) (by show 1 ≤ _; decide) (SW.of mixed _ _ _ ?_)
  simp -implicitDefEqProofs [insV]
  refine (fnRRight o p q m h0).k ?_
  simp -implicitDefEqProofs [ok]
  refine (fnRUses o h0).k ?_
  simp -implicitDefEqProofs [hA, hB, hI]
  refine (fnRWord o (by omega)).k ?_
  simp -implicitDefEqProofs [hA, hB, hI]
  refine (fnRReg p (by omega)).k ?_
  simp -implicitDefEqProofs [hA, hB, hI]
  refine ⟨by omega, by omega, ?_⟩
  refine (fnRReg q (by omega)).k ?_
  simp -implicitDefEqProofs [hA, hB, hI]
  exact ⟨by omega, by omega⟩
theorem rprint_111 (o : Nat) (a b n : Int) (ha : 0 ≤ a) (hb : 0 ≤ b) (hn : 0 ≤ n) (hn1 : n ≤ 65535) (ok : okF o a b n) (hA : shA o = true) (hB : shB o = true) (hI : shI o = true) : PC Tryd.prog 17 [insV o a b n] [] (fun v _ => v = .tuple #[.string (printS o a b n), .int .i64 0]) fun _ _ => False := by
  have h0 : (0 : Int) ≤ o := by omega
  have o8 := ok.1
  have a8 : a < 8 := ok.2.1
  have b8 : b < 8 := ok.2.2.1
  obtain ⟨p, rfl⟩ := Int.eq_ofNat_of_zero_le ha
  obtain ⟨q, rfl⟩ := Int.eq_ofNat_of_zero_le hb
  obtain ⟨m, rfl⟩ := Int.eq_ofNat_of_zero_le hn
  have lw := (word_piece o (by omega)).2.1
  have lp := (reg_piece p ha a8).2.2.2
  have lq := (reg_piece q hb b8).2.2.2
  have lm := (nS_piece m hn hn1).2.2.2
  have s1 : (⟨#[32]⟩ : ByteArray).size = 1 := rfl
  have sw : (wordB o).size ≤ 5 := lw
  have sp : (rS (p : Int)).size ≤ 5 := lp
  have sq : (rS (q : Int)).size ≤ 5 := lq
  have sm : (nS (m : Int)).size ≤ 5 := lm
  have hS : printS o p q m = (((wordB o ++ (⟨#[32]⟩ ++ rS (p : Int))) ++ (⟨#[32]⟩ ++ rS (q : Int))) ++ (⟨#[32]⟩ ++ nS (m : Int))) := by
    refine WideShapes.bytes_inj ?_
    unfold printS joinS opndS
    simp [hA, hB, hI, Lib.join, ByteArray.data_append]
  rw [hS]
  refine pc_of Tryd.func17 rfl (by decide) (by kernel_rfl) (by show 1 ≤ _; decide) (SW.of mixed _ _ _ ?_)
  simp -implicitDefEqProofs [insV]
  refine (fnRRight o p q m h0).k ?_
  simp -implicitDefEqProofs [ok]
  refine (fnRUses o h0).k ?_
  simp -implicitDefEqProofs [hA, hB, hI]
  refine (fnRWord o (by omega)).k ?_
  simp -implicitDefEqProofs [hA, hB, hI]
  refine (fnRReg p (by omega)).k ?_
  simp -implicitDefEqProofs [hA, hB, hI]
  refine ⟨by omega, by omega, ?_⟩
  refine (fnRReg q (by omega)).k ?_
  simp -implicitDefEqProofs [hA, hB, hI]
  refine ⟨by omega, by omega, ?_⟩
  refine (fnRDigits m (by omega)).k ?_
  simp -implicitDefEqProofs [hA, hB, hI]
  exact ⟨by omega, by omega⟩
theorem fnRPrint (o : Nat) (a b n : Int) (ha : 0 ≤ a) (hb : 0 ≤ b) (hn : 0 ≤ n) (hn1 : n ≤ 65535) (ok : okF o a b n) : Fn Tryd.prog 17 [insV o a b n] (.tuple #[.string (printS o a b n), .int .i64 0]) := by
  refine Fn.of ?_ rfl rfl
  have h1 : (shA o, shB o, shI o) = (false, false, false) ∨ (shA o, shB o, shI o) = (false, false, true) ∨ (shA o, shB o, shI o) = (true, false, true) ∨ (shA o, shB o, shI o) = (true, true, false) ∨ (shA o, shB o, shI o) = (true, true, true) := by
    rcases op_cases o (by omega) with e | e | e | e | e | e | e | e | e | e | e | e | e | e | e | e | e | e | e | e | e | e | e | e | h
    all_goals first | (rw [e]; decide) | skip
    left
    simp only [shA, shB, shI, Prod.mk.injEq, decide_eq_false_iff_not]
    omega
  simp only [Prod.mk.injEq] at h1
  rcases h1 with ⟨h1, h2, h3⟩ | ⟨h1, h2, h3⟩ | ⟨h1, h2, h3⟩ | ⟨h1, h2, h3⟩ | ⟨h1, h2, h3⟩
  · exact rprint_000 o a b n ha hb hn hn1 ok h1 h2 h3
  · exact rprint_001 o a b n ha hb hn hn1 ok h1 h2 h3
  · exact rprint_101 o a b n ha hb hn hn1 ok h1 h2 h3
  · exact rprint_110 o a b n ha hb hn hn1 ok h1 h2 h3
  · exact rprint_111 o a b n ha hb hn hn1 ok h1 h2 h3
end Go.Proofs.YtjopikjefpenkaaDoor
/- strings.Split at a blank: a text's pieces. -/
namespace Go.Proofs.YtjopikjefpenkaaDoor
open Go.RowKit
set_option maxRecDepth 100000
theorem idxB (l : List UInt8) : Lib.indexB (bs l) ⟨#[32]⟩ = Lib.index l [32] := by
  show Lib.index (bs l).data.toList _ = _
  rw [bs_data]
theorem bs_ext' (l : List UInt8) (i : Nat) : (bs l).extract i (bs l).size = bs (l.drop i) := by
  rw [bs_ext, bs_size, List.take_length]
/-- The pieces of a joined text. -/
theorem split_join : ∀ (ps : List (List UInt8)), ps ≠ [] → (∀ p ∈ ps, 32 ∉ p) → Lib.countB (bs (joinP ps)) ⟨#[32]⟩ + 1 = ps.length ∧ Lib.splitB ⟨#[32]⟩ 0 (Lib.countB (bs (joinP ps)) ⟨#[32]⟩) (bs (joinP ps)) = ps.map bs
  | [], h, _ => absurd rfl h
  | [p], _, hp => by
    have hm : Lib.indexB (bs (joinP [p])) ⟨#[32]⟩ = -1 := by rw [idxB]; exact idx_miss p (hp p (by simp))
    rw [Lib.countB_miss _ _ hm, Lib.splitB_zero]
    exact ⟨rfl, rfl⟩
  | p :: q :: r, _, hp => by
    have hh : Lib.indexB (bs (joinP (p :: q :: r))) ⟨#[32]⟩ = p.length := by rw [idxB]; exact idx_hit p _ (hp p (by simp))
    have hx : (bs (joinP (p :: q :: r))).extract (p.length + (⟨#[32]⟩ : ByteArray).size) (bs (joinP (p :: q :: r))).size = bs (joinP (q :: r)) := by
      rw [bs_ext']
      congr 1
      show (p ++ 32 :: joinP (q :: r)).drop (p.length + 1) = _
      rw [List.drop_append]
      simp
    have hc := Lib.countB_hit (bs (joinP (p :: q :: r))) ⟨#[32]⟩ p.length (by decide) hh
    obtain ⟨i1, i2⟩ := split_join (q :: r) (by simp) (fun x hx => hp x (by simp at hx ⊢; right; exact hx))
    rw [hx] at hc
    rw [hc]
    refine ⟨by simp at i1 ⊢; omega, ?_⟩
    rw [Nat.add_comm 1, Lib.splitB_hit _ _ _ _ _ hh, hx, i2, List.map_cons]
    congr 1
    rw [bs_ext]
    congr 1
    show ((p ++ 32 :: joinP (q :: r)).take (p.length + 0)).drop 0 = _
    simp
/-- Each text is its pieces. -/
theorem pieces (l : List UInt8) : ∃ ps : List (List UInt8), ps ≠ [] ∧ (∀ p ∈ ps, 32 ∉ p) ∧ l = joinP ps := by
  induction l with
  | nil => exact ⟨[[]], by simp, by simp, rfl⟩
  | cons c l ih =>
    obtain ⟨ps, h0, h1, rfl⟩ := ih
    cases ps with
    | nil => exact absurd rfl h0
    | cons p ps =>
      by_cases hc : c = 32
      · subst hc
        exact ⟨[] :: p :: ps, by simp, fun x hx => by
          rcases List.mem_cons.1 hx with rfl | hx
          · simp
          · exact h1 x hx, rfl⟩
      · refine ⟨(c :: p) :: ps, by simp, fun x hx => by
          rcases List.mem_cons.1 hx with rfl | hx
          · intro hm
            rcases List.mem_cons.1 hm with e | e
            · exact hc e.symm
            · exact h1 p (by simp) e
          · exact h1 x (List.mem_cons_of_mem _ hx), ?_⟩
        cases ps <;> rfl
def strs (ps : List (List UInt8)) : List Value := ps.map fun p => .string (bs p)
theorem split_q (ps : List (List UInt8)) (h0 : ps ≠ []) (hp : ∀ p ∈ ps, 32 ∉ p) (hl : (joinP ps).length ≤ 1000000) {h : List PO} :
    PCq Tryd.prog 49 [.string (bs (joinP ps)), .string ⟨#[32]⟩] h fun v ns => v = .slice (some ⟨h.length, 0, none⟩) ps.length ps.length ∧ ns = [.rw (strs ps)] := by
  refine ⟨callable Tryd.func49 rfl (by decide), fun τ w args' hk hj ha => ?_⟩
  obtain ⟨s', x', rfl, hs, hsep⟩ := ha.two
  obtain rfl := hs.str'
  obtain rfl := hsep.str'
  obtain ⟨m, hm⟩ := hj.1.1
  obtain ⟨c1, c2⟩ := split_join ps h0 hp
  refine (Tryd.strings_Split (bs (joinP ps)) ⟨#[32]⟩ m w (by rw [bs_size]; omega) hm (by decide)).mono fun e w' ⟨h1, h2⟩ => ?_
  rw [c1] at h1
  rw [c2] at h2
  subst h2
  have hOR : OR (τ.put h.length ⟨⟨w.heap.size, 0, none⟩, 0⟩) ⟨⟨w.heap.size, 0, none⟩, 0⟩ (w.alloc (.cells ((ps.map bs).map Value.string).toArray 9)) (.rw (strs ps)) := by
    refine ⟨rfl, rfl, ((ps.map bs).map Value.string).toArray, 9, heap_alloc_new w _, by simp [strs], fun i v v' a b => ?_⟩
    simp only [strs, List.getElem?_map, Option.map_eq_some_iff] at a
    simp only [List.getElem?_toArray, List.getElem?_map, Option.map_eq_some_iff] at b
    obtain ⟨p1, a1, rfl⟩ := a
    obtain ⟨p2, ⟨p3, b1, rfl⟩, rfl⟩ := b
    rw [a1] at b1; cases b1
    exact .str _
  refine ⟨[.rw (strs ps)], τ.put h.length ⟨⟨w.heap.size, 0, none⟩, 0⟩, _, _, ⟨Tau.le_put _ (hk.none (Nat.le_refl _)), fun b q hb => ?_, hk.push rfl hOR, Fr.alloc _ _ _⟩, VR.newSlice, h1, rfl, rfl⟩
  by_cases e : b = h.length
  · subst e
    rw [Tau.put_self] at hb; cases hb
    exact .inr ⟨Nat.le_refl _, Nat.le_refl _⟩
  · rw [Tau.put_ne _ e] at hb; exact .inl hb
end Go.Proofs.YtjopikjefpenkaaDoor
/- The document's operation of a word; IsaUses. -/
namespace Go.Proofs.YtjopikjefpenkaaDoor
open Go.RowKit
set_option maxRecDepth 1000000
set_option maxHeartbeats 8000000
theorem drop_word {i : Nat} (hi : i < 24) : wordsL.drop i = wordB i :: wordsL.drop (i + 1) := by
  have h : i < wordsL.length := by show i < 24; exact hi
  rw [List.drop_eq_getElem_cons h]
  congr 1
  unfold wordB
  rw [List.getD_eq_getElem?_getD, List.getElem?_eq_getElem h]
  rfl
theorem fnRRead (s : ByteArray) : Fn Tryd.prog 50 [.string s] (rdV s) := by
  refine Fn.of ?_ rfl rfl
  refine pc_of Tryd.func50 rfl (by decide) (by kernel_rfl) (by show 1 ≤ _; decide) (SW.of mixed _ _ _ ?_)
  simp -implicitDefEqProofs
  refine pwp_loop_st (fun i : Nat => ⟨[(4, .int .u8 i), (0, .string s)], []⟩) (fun i => 24 - i) (fun i => i ≤ 24 ∧ pfindS s wordsL 0 = pfindS s (wordsL.drop i) i) 0 [] ⟨by omega, rfl⟩ (Sub.mk' (by decide) trivial ?_ ?_) ?_
  · simp -implicitDefEqProofs
  · simp -implicitDefEqProofs
  intro i ⟨hi, hp⟩
  by_cases h24 : i < 24
  · have h1 : (i : Int) ≤ 23 := by omega
    have hw : IntKind.u8.wrap ((i : Int) + 1) = i + 1 := by rw [IntKind.wrap_u8]; omega
    simp -implicitDefEqProofs [h1]
    refine (fnRWord i (by omega)).k ?_
    rw [drop_word h24, pfindS] at hp
    cases hb : (wordB i).toList == s.toList with
    | true =>
      rw [hb] at hp
      simp only [if_true] at hp
      simp -implicitDefEqProofs [hb, rdV, hp]
    | false =>
      rw [hb] at hp
      simp only [Bool.false_eq_true, if_false] at hp
      simp -implicitDefEqProofs [hb]
      refine Again.mk (i + 1) [] (by simp; omega) ⟨by omega, hp⟩ (Sub.mk' (by decide) trivial ?_ ?_)
      · simp -implicitDefEqProofs
      · simp -implicitDefEqProofs [hw]
  · obtain rfl : i = 24 := by omega
    have hd : wordsL.drop 24 = [] := rfl
    rw [hd, pfindS] at hp
    simp -implicitDefEqProofs [rdV, hp]
theorem word_empty : (List.range 256).all (fun i => ((wordB i).toList == (ByteArray.mk #[]).toList) == decide (23 < i)) = true := by kernel_rfl
theorem word_found : (List.range 24).all (fun i => pfindS (wordB i) wordsL 0 == some i) = true := by kernel_rfl
end Go.Proofs.YtjopikjefpenkaaDoor

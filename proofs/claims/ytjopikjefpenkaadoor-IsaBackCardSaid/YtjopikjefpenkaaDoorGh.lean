/- IsaUnlike: unlike right instructions have unlike bytes, and unlike texts. -/
import Derived.Test.YtjopikjefpenkaaDoorGg
import Derived.Test.YtjopikjefpenkaaDoorGd
set_option linter.unusedSimpArgs false
set_option linter.unusedVariables false
set_option linter.unusedSectionVars false
namespace Go.Proofs.YtjopikjefpenkaaDoor
open Go.RowKit
set_option maxRecDepth 100000
set_option maxHeartbeats 8000000
theorem fnPrint (o : Nat) (a b n : Int) (ha : 0 ≤ a) (hb : 0 ≤ b) (hn : 0 ≤ n) (hn1 : n ≤ 65535) (ok : okF o a b n) : Fn Tryd.prog 14 [insV o a b n] (.tuple #[.string (printS o a b n), .int .i64 0]) := by
  refine Fn.of ?_ rfl rfl
  have h1 : (shA o, shB o, shI o) = (false, false, false) ∨ (shA o, shB o, shI o) = (false, false, true) ∨ (shA o, shB o, shI o) = (true, false, true) ∨ (shA o, shB o, shI o) = (true, true, false) ∨ (shA o, shB o, shI o) = (true, true, true) := by
    rcases op_cases o (by omega) with e | e | e | e | e | e | e | e | e | e | e | e | e | e | e | e | e | e | e | e | e | e | e | e | h
    all_goals first | (rw [e]; decide) | skip
    left
    simp only [shA, shB, shI, Prod.mk.injEq, decide_eq_false_iff_not]
    omega
  simp only [Prod.mk.injEq] at h1
  rcases h1 with ⟨h1, h2, h3⟩ | ⟨h1, h2, h3⟩ | ⟨h1, h2, h3⟩ | ⟨h1, h2, h3⟩ | ⟨h1, h2, h3⟩
  · exact print_000 o a b n ha hb hn hn1 ok h1 h2 h3
  · exact print_001 o a b n ha hb hn hn1 ok h1 h2 h3
  · exact print_101 o a b n ha hb hn hn1 ok h1 h2 h3
  · exact print_110 o a b n ha hb hn hn1 ok h1 h2 h3
  · exact print_111 o a b n ha hb hn hn1 ok h1 h2 h3
theorem fnPrint_bad (o a b n : Int) (h0 : 0 ≤ o) (ok : ¬ okF o a b n) : Fn Tryd.prog 14 [insV o a b n] (.tuple #[.string ⟨#[]⟩, .int .i64 3]) := by
  refine Fn.of ?_ rfl rfl
  refine pc_of Tryd.func14 rfl (by decide) (by kernel_rfl) (by show 1 ≤ _; decide) (SW.of mixed _ _ _ ?_)
  simp -implicitDefEqProofs [insV]
  refine (fnRight o a b n h0).k ?_
  simp -implicitDefEqProofs [ok]
def encE (o a b n : Int) : List UInt8 := [UInt8.ofNat o.toNat, UInt8.ofNat (a * 16 + b).toNat, UInt8.ofNat (n / 256).toNat, UInt8.ofNat (n % 256).toNat]
def encS (o a b n : Int) : ByteArray := ⟨(encE o a b n).toArray⟩
theorem encS_eq (o a b n : Int) : ByteArray.mk (encE o a b n).toArray = encS o a b n := rfl
theorem bytesOf_enc (o a b n : Int) : bytesOf (encL o a b n) = some (encE o a b n) := rfl
theorem encL_len (o a b n : Int) : (encL o a b n).length = 4 := rfl
theorem encL_take (o a b n : Int) : (encL o a b n).take 4 = encL o a b n := rfl
theorem ofNat_eq {x y : Int} (hx : 0 ≤ x) (hx1 : x ≤ 255) (hy : 0 ≤ y) (hy1 : y ≤ 255) (h : UInt8.ofNat x.toNat = UInt8.ofNat y.toNat) : x = y := by
  have := congrArg UInt8.toNat h
  rw [UInt8.toNat_ofNat', UInt8.toNat_ofNat', Nat.mod_eq_of_lt (by omega), Nat.mod_eq_of_lt (by omega)] at this
  omega
section
variable {o o' : Nat} {a b n a' b' n' : Int} (ha : 0 ≤ a) (hb : 0 ≤ b) (hn : 0 ≤ n) (hn1 : n ≤ 65535) (ha' : 0 ≤ a') (hb' : 0 ≤ b') (hn' : 0 ≤ n') (hn1' : n' ≤ 65535) (ok : okF o a b n) (ok' : okF o' a' b' n')
include ha hb hn ha' hb' hn' ok ok'
theorem print_same : ((printS o a b n).toList == (printS o' a' b' n').toList) = insSame o a b n o' a' b' n' := by
  rw [Bool.eq_iff_iff, insSame_iff, beq_iff_eq, ba_toList, ba_toList]
  constructor
  · intro h
    have h2 : printS o a b n = printS o' a' b' n' := WideShapes.bytes_inj h
    obtain ⟨e1, e2, e3, e4⟩ := printS_inj ha hb hn ha' hb' hn' ok ok' h2
    exact ⟨by rw [e1], e2, e3, e4⟩
  · rintro ⟨e1, rfl, rfl, rfl⟩
    have : o = o' := by omega
    rw [this]
include hn1 hn1'
theorem enc_same : ((encS o a b n).toList == (encS o' a' b' n').toList) = insSame o a b n o' a' b' n' := by
  have a8 : a < 8 := ok.2.1
  have b8 : b < 8 := ok.2.2.1
  have a8' : a' < 8 := ok'.2.1
  have b8' : b' < 8 := ok'.2.2.1
  have o8 := ok.1
  have o8' := ok'.1
  rw [Bool.eq_iff_iff, insSame_iff, beq_iff_eq, ba_toList, ba_toList]
  constructor
  · intro h
    have h2 : encE o a b n = encE o' a' b' n' := by simpa [encS] using h
    simp only [encE, List.cons.injEq, and_true] at h2
    obtain ⟨e1, e2, e3, e4⟩ := h2
    have f1 := ofNat_eq (by omega) (by omega) (by omega) (by omega) e1
    have f2 := ofNat_eq (by omega) (by omega) (by omega) (by omega) e2
    have f3 := ofNat_eq (by omega) (by omega) (by omega) (by omega) e3
    have f4 := ofNat_eq (by omega) (by omega) (by omega) (by omega) e4
    omega
  · rintro ⟨e1, rfl, rfl, rfl⟩
    have : o = o' := by omega
    rw [this]
end
end Go.Proofs.YtjopikjefpenkaaDoor
/- The document's decimal digits, its registers, its text of an instruction. -/
namespace Go.Proofs.YtjopikjefpenkaaDoor
open Go.RowKit
set_option maxRecDepth 100000
set_option maxHeartbeats 8000000
def hexS : ByteArray := ⟨#[48, 49, 50, 51, 52, 53, 54, 55, 56, 57, 97, 98, 99, 100, 101, 102]⟩
theorem hex_cut : (List.range 10).all (fun d => (hexS.extract d (d + 1)).data.toList == Lib.decDigits d) = true := by kernel_rfl
/-- How far the digits have come. -/
def DigInv (n : Nat) (x : Nat × List UInt8) : Prop := (x.2 = [] ∧ x.1 = n) ∨ (x.2 ≠ [] ∧ (if x.1 = 0 then x.2 else Lib.decDigits x.1 ++ x.2) = Lib.decDigits n)
theorem dig_step {n k : Nat} {t : List UInt8} (h : DigInv n (k, t)) (hk : 0 < k ∨ t = []) : DigInv n (k / 10, Lib.decDigits (k % 10) ++ t) := by
  refine .inr ⟨by simp [dec_ne], ?_⟩
  have hd : Lib.decDigits k = (if k / 10 = 0 then [] else Lib.decDigits (k / 10)) ++ Lib.decDigits (k % 10) := by
    rw [Lib.decDigits.eq_def k, Lib.decDigits_one (show k % 10 < 10 by omega)]
    by_cases h10 : k < 10
    · rw [dif_pos h10, if_pos (by omega), Nat.mod_eq_of_lt h10]; rfl
    · rw [dif_neg h10, if_neg (by omega)]
  have hn : Lib.decDigits n = Lib.decDigits k ++ t := by
    rcases h with ⟨h1, h2⟩ | ⟨h1, h2⟩
    · simp only at h1 h2; subst h1; subst h2; simp
    · simp only at h1 h2
      rcases hk with hk | hk
      · rw [if_neg (by omega)] at h2; exact h2.symm
      · exact absurd hk h1
  rw [hn, hd]
  show (if k / 10 = 0 then _ else _) = _
  split <;> simp
theorem fnRDigits (n : Nat) (h1 : n ≤ 65535) : Fn Tryd.prog 48 [.int .u16 n] (.string ⟨(Lib.decDigits n).toArray⟩) := by
  refine Fn.of ?_ rfl rfl
  have e1 : IntKind.i64.wrap (n : Int) = n := by rw [IntKind.wrap_i64]; omega
  refine pc_of Tryd.func48 rfl (by decide) (by kernel_rfl) (by show 1 ≤ _; decide) (SW.of mixed _ _ _ ?_)
  simp -implicitDefEqProofs [e1]
  refine pwp_loop_st (fun x : Nat × List UInt8 => ⟨[(4, .int .i64 x.1), (3, .string ⟨x.2.toArray⟩)], []⟩) (fun x => x.1 + (if x.2 = [] then 1 else 0)) (fun x => DigInv n x ∧ x.1 ≤ 65535) (n, []) [] ⟨.inl ⟨rfl, rfl⟩, h1⟩ (Sub.mk' (by decide) trivial ?_ ?_) ?_
  · simp -implicitDefEqProofs
  · simp -implicitDefEqProofs
  rintro ⟨k, t⟩ ⟨hI, hk⟩
  simp only at hk
  have hlen : (Lib.decDigits n).length ≤ 21 := by
    have := Lib.itoa_length_le (n : Int) (by omega) (by omega)
    rwa [Lib.itoa_nonneg] at this
  have ht : t.length ≤ 21 := by
    rcases hI with ⟨h2, _⟩ | ⟨_, h2⟩
    · simp only at h2; subst h2; simp
    · simp only at h2
      split at h2
      · rw [h2]; exact hlen
      · have := congrArg List.length h2
        simp only [List.length_append] at this
        omega
  have m1 : (k : Int).tmod 10 = (k : Int) % 10 := Int.tmod_eq_emod_of_nonneg (by omega)
  have m2 : (k : Int).tdiv 10 = (k : Int) / 10 := Int.tdiv_eq_ediv_of_nonneg (by omega)
  have w1 : IntKind.i64.wrap ((k : Int) % 10 + 1) = (k : Int) % 10 + 1 := by rw [IntKind.wrap_i64]; omega
  have w2 : IntKind.i64.wrap ((k : Int) / 10) = (k : Int) / 10 := by rw [IntKind.wrap_i64]; omega
  have t1 : ((k : Int) % 10 + 1).toNat = k % 10 + 1 := by omega
  have t2 : ((k : Int) % 10).toNat = k % 10 := by omega
  have b0 : 0 ≤ (k : Int) % 10 := by omega
  have b1 : (k : Int) % 10 ≤ (k : Int) % 10 + 1 := by omega
  have b2 : (k : Int) % 10 + 1 ≤ 16 := by omega
  have hsz : (ByteArray.mk #[48, 49, 50, 51, 52, 53, 54, 55, 56, 57, 97, 98, 99, 100, 101, 102]).size = 16 := rfl
  have htz : (ByteArray.mk t.toArray).size = t.length := by show t.toArray.size = _; simp
  have b3 : min (k % 10 + 1) 16 - k % 10 + t.length ≤ 9223372036854775807 := by omega
  have hx : (ByteArray.mk #[48, 49, 50, 51, 52, 53, 54, 55, 56, 57, 97, 98, 99, 100, 101, 102]).extract (k % 10) (k % 10 + 1) ++ ByteArray.mk t.toArray = ⟨(Lib.decDigits (k % 10) ++ t).toArray⟩ := by
    have h := List.all_eq_true.1 hex_cut (k % 10) (List.mem_range.2 (by omega))
    rw [beq_iff_eq] at h
    apply WideShapes.bytes_inj
    rw [ByteArray.data_append, Array.toList_append]
    show (hexS.extract (k % 10) (k % 10 + 1)).data.toList ++ _ = _
    rw [h]
  by_cases hk0 : 0 < k
  · have hkz : ¬ k = 0 := by omega
    simp -implicitDefEqProofs [hk0, hkz, m1, m2, w1, w2, hsz, htz, t1, t2, b0, b1, b2, b3]
    refine Again.mk (k / 10, Lib.decDigits (k % 10) ++ t) [] ?_ ⟨dig_step hI (.inl hk0), by simp only; omega⟩ (Sub.mk' (by decide) trivial ?_ ?_)
    · simp only [List.append_eq_nil_iff, dec_ne, false_and, if_false]
      have : k / 10 < k := by omega
      omega
    · simp -implicitDefEqProofs
    · simp -implicitDefEqProofs [hx]
  · obtain rfl : k = 0 := by omega
    by_cases ht0 : t = []
    · subst ht0
      simp -implicitDefEqProofs [hsz]
      refine ⟨by decide, Again.mk (0, Lib.decDigits 0) [] ?_ ⟨by simpa using dig_step hI (.inr rfl), by simp⟩ (Sub.mk' (by decide) trivial ?_ ?_)⟩
      · simp [dec_ne]
      · simp -implicitDefEqProofs
      · simp at hx
        simp -implicitDefEqProofs [hx]
    · simp -implicitDefEqProofs [ht0]
      rcases hI with ⟨h2, _⟩ | ⟨_, h2⟩
      · exact absurd h2 ht0
      · simpa using h2
end Go.Proofs.YtjopikjefpenkaaDoor
/- The document's text of an instruction. -/
namespace Go.Proofs.YtjopikjefpenkaaDoor
open Go.RowKit
set_option maxRecDepth 1000000
set_option maxHeartbeats 8000000
def regF : List FuncId := [47]
theorem regF_ok : regF.all (okFn Tryd.prog) = true := by kernel_rfl
theorem reg_runs : (List.range 8).all (fun i => isStr (rS i) (ef Tryd.prog regF xText 30 30 47 [.int .u8 i] [])) = true := by kernel_rfl
theorem fnRReg (a : Int) (h0 : 0 ≤ a) (h1 : a < 8) : Fn Tryd.prog 47 [.int .u8 a] (.string (rS a)) := by
  obtain ⟨i, rfl⟩ := Int.eq_ofNat_of_zero_le h0
  have h := List.all_eq_true.1 reg_runs i (List.mem_range.2 (by omega))
  refine Fn.of ?_ rfl rfl
  unfold isStr at h
  split at h
  · rename_i s hs e
    have : s = rS i := WideShapes.bytes_inj (by simpa using h)
    subst this
    exact (ef_sound mixed regF_ok xText_ok _ _ _ _ _ e).mono (fun v h' hv => by cases hv; rfl) (fun v h' hv => by cases hv)
  · cases h
theorem fnRDig (n : Int) (h0 : 0 ≤ n) (h1 : n ≤ 65535) : Fn Tryd.prog 48 [.int .u16 n] (.string (nS n)) := by
  obtain ⟨i, rfl⟩ := Int.eq_ofNat_of_zero_le h0
  have := fnRDigits i (by omega)
  unfold nS
  rw [Lib.itoa_nonneg]
  exact this
theorem ba_size (s : ByteArray) : s.size = s.data.toList.length := by show s.data.size = _; simp
theorem printRS (w : ByteArray) (xs : List ByteArray) : joinS (w :: xs) ⟨#[32]⟩ = xs.foldl (fun s x => s ++ (ByteArray.mk #[32] ++ x)) w := by
  induction xs generalizing w with
  | nil => exact WideShapes.bytes_inj (by simp [joinS, Lib.join])
  | cons x xs ih =>
    rw [List.foldl_cons, ← ih]
    apply WideShapes.bytes_inj
    cases xs with
    | nil => simp [joinS, Lib.join]
    | cons y ys => simp [joinS, Lib.join]
theorem printR_000 (o : Nat) (a b n : Int) (ha : 0 ≤ a) (hb : 0 ≤ b) (hn : 0 ≤ n) (hn1 : n ≤ 65535) (ok : okF o a b n) (hA : shA o = false) (hB : shB o = false) (hI : shI o = false) : PC Tryd.prog 17 [insV o a b n] [] (fun v _ => v = .tuple #[.string (printS o a b n), .int .i64 0]) fun _ _ => False := by
  have h0 : (0 : Int) ≤ o := by omega
  have ho : (o : Int) ≤ 23 := ok.1
  have a8 : a < 8 := ok.2.1
  have b8 : b < 8 := ok.2.2.1
  have l0 := word_len (o := o) (by omega)
  have l1 := rS_len (a := a) ha (by omega)
  have l2 := rS_len (a := b) hb (by omega)
  have l3 := nS_len (a := n) hn hn1
  rw [← ba_size] at l0 l1 l2 l3
  have hp : printS o a b n = (opndS (shA o) (shB o) (shI o) a b n).foldl (fun s x => s ++ (ByteArray.mk #[32] ++ x)) (wordB o) := printRS _ _
  have h1s : (ByteArray.mk #[32]).size = 1 := rfl
  rw [hp]
  refine pc_of Tryd.func17 rfl (by decide) (by kernel_rfl) (by show 1 ≤ _; decide) (SW.of mixed _ _ _ ?_)
  simp -implicitDefEqProofs [insV]
  refine (fnRRight o a b n h0).k ?_
  simp -implicitDefEqProofs [ok]
  refine (fnRUses o h0).k ?_
  simp -implicitDefEqProofs [hA, hB, hI]
  refine (fnRWord o (by omega)).k ?_
  simp -implicitDefEqProofs [h1s, ByteArray.size_append, opndS, hA, hB, hI]
theorem printR_001 (o : Nat) (a b n : Int) (ha : 0 ≤ a) (hb : 0 ≤ b) (hn : 0 ≤ n) (hn1 : n ≤ 65535) (ok : okF o a b n) (hA : shA o = false) (hB : shB o = false) (hI : shI o = true) : PC Tryd.prog 17 [insV o a b n] [] (fun v _ => v = .tuple #[.string (printS o a b n), .int .i64 0]) fun _ _ => False := by
  have h0 : (0 : Int) ≤ o := by omega
  have ho : (o : Int) ≤ 23 := ok.1
  have a8 : a < 8 := ok.2.1
  have b8 : b < 8 := ok.2.2.1
  have l0 := word_len (o := o) (by omega)
  have l1 := rS_len (a := a) ha (by omega)
  have l2 := rS_len (a := b) hb (by omega)
  have l3 := nS_len (a := n) hn hn1
  rw [← ba_size] at l0 l1 l2 l3
  have hp : printS o a b n = (opndS (shA o) (shB o) (shI o) a b n).foldl (fun s x => s ++ (ByteArray.mk #[32] ++ x)) (wordB o) := printRS _ _
  have h1s : (ByteArray.mk #[32]).size = 1 := rfl
  rw [hp]
  refine pc_of Tryd.func17 rfl (by decide) (by kernel_rfl) (by show 1 ≤ _; decide) (SW.of mixed _ _ _ ?_)
  simp -implicitDefEqProofs [insV]
  refine (fnRRight o a b n h0).k ?_
  simp -implicitDefEqProofs [ok]
  refine (fnRUses o h0).k ?_
  simp -implicitDefEqProofs [hA, hB, hI]
  refine (fnRWord o (by omega)).k ?_
  simp -implicitDefEqProofs [h1s, ByteArray.size_append]
  refine (fnRDig n hn hn1).k ?_
  simp -implicitDefEqProofs [h1s, ByteArray.size_append, opndS, hA, hB, hI]
  exact ⟨by omega, by omega⟩
theorem printR_101 (o : Nat) (a b n : Int) (ha : 0 ≤ a) (hb : 0 ≤ b) (hn : 0 ≤ n) (hn1 : n ≤ 65535) (ok : okF o a b n) (hA : shA o = true) (hB : shB o = false) (hI : shI o = true) : PC Tryd.prog 17 [insV o a b n] [] (fun v _ => v = .tuple #[.string (printS o a b n), .int .i64 0]) fun _ _ => False := by
  have h0 : (0 : Int) ≤ o := by omega
  have ho : (o : Int) ≤ 23 := ok.1
  have a8 : a < 8 := ok.2.1
  have b8 : b < 8 := ok.2.2.1
  have l0 := word_len (o := o) (by omega)
  have l1 := rS_len (a := a) ha (by omega)
  have l2 := rS_len (a := b) hb (by omega)
  have l3 := nS_len (a := n) hn hn1
  rw [← ba_size] at l0 l1 l2 l3
  have hp : printS o a b n = (opndS (shA o) (shB o) (shI o) a b n).foldl (fun s x => s ++ (ByteArray.mk #[32] ++ x)) (wordB o) := printRS _ _
  have h1s : (ByteArray.mk #[32]).size = 1 := rfl
  rw [hp]
  refine pc_of Tryd.func17 rfl (by decide) (by kernel_rfl) (by show 1 ≤ _; decide) (SW.of mixed _ _ _ ?_)
  simp -implicitDefEqProofs [insV]
  refine (fnRRight o a b n h0).k ?_
  simp -implicitDefEqProofs [ok]
  refine (fnRUses o h0).k ?_
  simp -implicitDefEqProofs [hA, hB, hI]
  refine (fnRWord o (by omega)).k ?_
  simp -implicitDefEqProofs [h1s, ByteArray.size_append]
  refine (fnRReg a ha a8).k ?_
  simp -implicitDefEqProofs [h1s, ByteArray.size_append]
  refine ⟨by omega, by omega, ?_⟩
  refine (fnRDig n hn hn1).k ?_
  simp -implicitDefEqProofs [h1s, ByteArray.size_append, opndS, hA, hB, hI]
  exact ⟨by omega, by omega⟩
theorem printR_110 (o : Nat) (a b n : Int) (ha : 0 ≤ a) (hb : 0 ≤ b) (hn : 0 ≤ n) (hn1 : n ≤ 65535) (ok : okF o a b n) (hA : shA o = true) (hB : shB o = true) (hI : shI o = false) : PC Tryd.prog 17 [insV o a b n] [] (fun v _ => v = .tuple #[.string (printS o a b n), .int .i64 0]) fun _ _ => False := by
  have h0 : (0 : Int) ≤ o := by omega
  have ho : (o : Int) ≤ 23 := ok.1
  have a8 : a < 8 := ok.2.1
  have b8 : b < 8 := ok.2.2.1
  have l0 := word_len (o := o) (by omega)
  have l1 := rS_len (a := a) ha (by omega)
  have l2 := rS_len (a := b) hb (by omega)
  have l3 := nS_len (a := n) hn hn1
  rw [← ba_size] at l0 l1 l2 l3
  have hp : printS o a b n = (opndS (shA o) (shB o) (shI o) a b n).foldl (fun s x => s ++ (ByteArray.mk #[32] ++ x)) (wordB o) := printRS _ _
  have h1s : (ByteArray.mk #[32]).size = 1 := rfl
  rw [hp]
  refine pc_of Tryd.func17 rfl (by decide) (by kernel_rfl) (by show 1 ≤ _; decide) (SW.of mixed _ _ _ ?_)
  simp -implicitDefEqProofs [insV]
  refine (fnRRight o a b n h0).k ?_
  simp -implicitDefEqProofs [ok]
  refine (fnRUses o h0).k ?_
  simp -implicitDefEqProofs [hA, hB, hI]
  refine (fnRWord o (by omega)).k ?_
  simp -implicitDefEqProofs [h1s, ByteArray.size_append]
  refine (fnRReg a ha a8).k ?_
  simp -implicitDefEqProofs [h1s, ByteArray.size_append]
  refine ⟨by omega, by omega, ?_⟩
  refine (fnRReg b hb b8).k ?_
  simp -implicitDefEqProofs [h1s, ByteArray.size_append, opndS, hA, hB, hI]
  exact ⟨by omega, by omega⟩
theorem printR_111 (o : Nat) (a b n : Int) (ha : 0 ≤ a) (hb : 0 ≤ b) (hn : 0 ≤ n) (hn1 : n ≤ 65535) (ok : okF o a b n) (hA : shA o = true) (hB : shB o = true) (hI : shI o = true) : PC Tryd.prog 17 [insV o a b n] [] (fun v _ => v = .tuple #[.string (printS o a b n), .int .i64 0]) fun _ _ => False := by
  have h0 : (0 : Int) ≤ o := by omega
  have ho : (o : Int) ≤ 23 := ok.1
  have a8 : a < 8 := ok.2.1
  have b8 : b < 8 := ok.2.2.1
  have l0 := word_len (o := o) (by omega)
  have l1 := rS_len (a := a) ha (by omega)
  have l2 := rS_len (a := b) hb (by omega)
  have l3 := nS_len (a := n) hn hn1
  rw [← ba_size] at l0 l1 l2 l3
  have hp : printS o a b n = (opndS (shA o) (shB o) (shI o) a b n).foldl (fun s x => s ++ (ByteArray.mk #[32] ++ x)) (wordB o) := printRS _ _
  have h1s : (ByteArray.mk #[32]).size = 1 := rfl
  rw [hp]
  refine pc_of Tryd.func17 rfl (by decide) (by kernel_rfl) (by show 1 ≤ _; decide) (SW.of mixed _ _ _ ?_)
  simp -implicitDefEqProofs [insV]
  refine (fnRRight o a b n h0).k ?_
  simp -implicitDefEqProofs [ok]
  refine (fnRUses o h0).k ?_
  simp -implicitDefEqProofs [hA, hB, hI]
  refine (fnRWord o (by omega)).k ?_
  simp -implicitDefEqProofs [h1s, ByteArray.size_append]
  refine (fnRReg a ha a8).k ?_
  simp -implicitDefEqProofs [h1s, ByteArray.size_append]
  refine ⟨by omega, by omega, ?_⟩
  refine (fnRReg b hb b8).k ?_
  simp -implicitDefEqProofs [h1s, ByteArray.size_append]
  refine ⟨by omega, by omega, ?_⟩
  refine (fnRDig n hn hn1).k ?_
  simp -implicitDefEqProofs [h1s, ByteArray.size_append, opndS, hA, hB, hI]
  exact ⟨by omega, by omega⟩
theorem sh_five (o : Nat) : (shA o, shB o, shI o) = (false, false, false) ∨ (shA o, shB o, shI o) = (false, false, true) ∨ (shA o, shB o, shI o) = (true, false, true) ∨ (shA o, shB o, shI o) = (true, true, false) ∨ (shA o, shB o, shI o) = (true, true, true) := by
  rcases op_cases o (by omega) with e | e | e | e | e | e | e | e | e | e | e | e | e | e | e | e | e | e | e | e | e | e | e | e | h
  all_goals first | (rw [e]; decide) | skip
  left
  simp only [shA, shB, shI, Prod.mk.injEq, decide_eq_false_iff_not]
  omega
theorem fnRPrint (o : Nat) (a b n : Int) (ha : 0 ≤ a) (hb : 0 ≤ b) (hn : 0 ≤ n) (hn1 : n ≤ 65535) (ok : okF o a b n) : Fn Tryd.prog 17 [insV o a b n] (.tuple #[.string (printS o a b n), .int .i64 0]) := by
  refine Fn.of ?_ rfl rfl
  have h1 := sh_five o
  simp only [Prod.mk.injEq] at h1
  rcases h1 with ⟨h1, h2, h3⟩ | ⟨h1, h2, h3⟩ | ⟨h1, h2, h3⟩ | ⟨h1, h2, h3⟩ | ⟨h1, h2, h3⟩
  · exact printR_000 o a b n ha hb hn hn1 ok h1 h2 h3
  · exact printR_001 o a b n ha hb hn hn1 ok h1 h2 h3
  · exact printR_101 o a b n ha hb hn hn1 ok h1 h2 h3
  · exact printR_110 o a b n ha hb hn hn1 ok h1 h2 h3
  · exact printR_111 o a b n ha hb hn hn1 ok h1 h2 h3
theorem fnRPrint_bad (o a b n : Int) (h0 : 0 ≤ o) (ok : ¬ okF o a b n) : Fn Tryd.prog 17 [insV o a b n] (.tuple #[.string ⟨#[]⟩, .int .i64 3]) := by
  refine Fn.of ?_ rfl rfl
  refine pc_of Tryd.func17 rfl (by decide) (by kernel_rfl) (by show 1 ≤ _; decide) (SW.of mixed _ _ _ ?_)
  simp -implicitDefEqProofs [insV]
  refine (fnRRight o a b n h0).k ?_
  simp -implicitDefEqProofs [ok]
end Go.Proofs.YtjopikjefpenkaaDoor

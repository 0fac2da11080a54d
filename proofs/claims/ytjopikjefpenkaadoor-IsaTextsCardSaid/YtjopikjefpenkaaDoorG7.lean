/- The document's word out of a text: in hex; within quotes. -/
import Derived.Test.YtjopikjefpenkaaDoorGu
set_option linter.unusedSimpArgs false
set_option linter.unusedVariables false
set_option linter.unusedSectionVars false
namespace Go.Proofs.YtjopikjefpenkaaDoor
open Go.RowKit
set_option maxRecDepth 1000000
set_option maxHeartbeats 8000000
theorem digB_hex (c : UInt8) : digB 16 c = true ↔ valV 16 c.toNat ≤ 15 := by
  unfold digB
  rw [decide_eq_true_eq]
  show valV 16 c.toNat < 16 ↔ _
  omega
theorem take_snoc {l : List UInt8} {i : Nat} (h : i < l.length) : l.take (i + 1) = l.take i ++ [l[i]] := by
  rw [List.take_add_one, List.getElem?_eq_getElem h]; rfl
theorem foldB_bnd {base : Nat} (hb : base ≤ 16) {l : List UInt8} (h : l.all (digB base) = true) (hl : l.length ≤ 6) : 0 ≤ foldB base l ∧ foldB base l < 16777216 := by
  obtain ⟨h1, h2⟩ := fold_rng base hb l 0 h (by decide)
  have h3 : foldB base l = l.foldl (fun n b => n * base + valV base b.toNat) 0 := rfl
  have h4 : (16 : Int) ^ l.length ≤ 16 ^ 6 := by exact_mod_cast Nat.pow_le_pow_right (by decide : 0 < 16) hl
  omega
theorem numR_bad {base most i : Nat} {l : List UInt8} (hi : i < l.length) (h : ¬ digB base l[i] = true) : numR base most l = none := by
  unfold numR
  rw [if_neg]
  rintro ⟨_, _, h3⟩
  exact h (List.all_eq_true.1 h3 _ (List.getElem_mem hi))
theorem rparse_hex (t : List UInt8) (h5 : t.length ≤ 5) : PC Tryd.prog 52 [.string (bs (120 :: t))] [] (fun v _ => v = optE (numR 16 4 t)) fun _ _ => False := by
  have n1 : ¬ (t.length : Int) + 1 = 0 := by omega
  have n2 : ¬ 6 < (t.length : Int) + 1 := by omega
  refine pc_of Tryd.func52 rfl (by decide) (by kernel_rfl) (by show 1 ≤ _; decide) (SW.of mixed _ _ _ ?_)
  simp -implicitDefEqProofs [n1, n2]
  refine pwp_loop_st (fun i : Nat => ⟨[(5, .int .i64 ((i : Int) + 1)), (4, .int .i64 (foldB 16 (t.take i))), (0, .string (bs (120 :: t)))], []⟩) (fun i => t.length - i) (fun i => i ≤ t.length ∧ (t.take i).all (digB 16) = true) 0 [] ⟨Nat.zero_le _, rfl⟩ (Sub.mk' (by decide) trivial ?_ ?_) ?_
  · simp -implicitDefEqProofs
  · simp -implicitDefEqProofs [foldB]
  rintro i ⟨hi, hall⟩
  by_cases hlt : i < t.length
  · have i1 : (i : Int) < t.length := by omega
    have i2 : (0 : Int) ≤ (i : Int) + 1 := by omega
    have i3 : ((i : Int) + 1).toNat = i + 1 := by omega
    have hb := foldB_bnd (by decide) hall (by rw [List.length_take]; omega)
    have hsn := take_snoc hlt
    have hF := foldB_snoc 16 (t.take i) t[i]
    rw [← hsn] at hF
    simp -implicitDefEqProofs [hlt, i1, i2, i3]
    refine (fnDigit t[i]).k ?_
    by_cases hd : digB 16 t[i] = true
    · have d1 := (digB_hex t[i]).1 hd
      have d2 : ¬ 15 < valV 16 (t[i].toNat : Int) := by omega
      have d3 : 0 ≤ valV 16 (t[i].toNat : Int) := (valV_rng 16 (by decide) (t[i].toNat : Int) (show valV 16 (t[i].toNat : Int) < 16 by omega)).1
      have hall2 : (t.take (i + 1)).all (digB 16) = true := by rw [hsn, List.all_append, hall]; simpa using hd
      have w1 : IntKind.i64.wrap (foldB 16 (t.take i) * 16) = foldB 16 (t.take i) * 16 := by rw [IntKind.wrap_i64]; omega
      have w2 : IntKind.i64.wrap (foldB 16 (t.take i) * 16 + valV 16 (t[i].toNat : Int)) = foldB 16 (t.take i) * 16 + valV 16 (t[i].toNat : Int) := by rw [IntKind.wrap_i64]; omega
      have w3 : IntKind.i64.wrap ((i : Int) + 1 + 1) = (i : Int) + 1 + 1 := by rw [IntKind.wrap_i64]; omega
      have hF2 : foldB 16 (t.take (i + 1)) = foldB 16 (t.take i) * 16 + valV 16 (t[i].toNat : Int) := hF
      simp -implicitDefEqProofs [hlt, i1, i2, i3, d2]
      refine (fnDigit t[i]).k ?_
      simp -implicitDefEqProofs [w1, w2, w3]
      refine Again.mk (i + 1) [] (show t.length - (i + 1) < t.length - i by omega) ⟨by omega, by simpa using hall2⟩ (Sub.mk' (by decide) trivial ?_ ?_)
      · simp -implicitDefEqProofs
      · simp -implicitDefEqProofs [hF2]
    · have d1 : 15 < valV 16 (t[i].toNat : Int) := by
        have hx : ¬ valV 16 (t[i].toNat : Int) ≤ 15 := fun h => hd ((digB_hex _).2 h)
        omega
      have hn : numR 16 4 t = none := numR_bad hlt hd
      simp -implicitDefEqProofs [d1, hn, optE]
  · obtain rfl : i = t.length := by omega
    rw [List.take_length] at hall
    by_cases h0 : t = []
    · subst h0
      simp -implicitDefEqProofs [numR, optE]
    · have h1 : 1 ≤ t.length := by cases t with | nil => exact absurd rfl h0 | cons => simp
      have m1 : 2 ≤ (t.length : Int) + 1 := by omega
      have m2 : ¬ (t.length : Int) + 1 < 2 := by omega
      by_cases h4 : t.length ≤ 4
      · have m3 : ¬ 5 < (t.length : Int) + 1 := by omega
        have hn : numR 16 4 t = some (foldB 16 t) := by unfold numR; rw [if_pos ⟨h0, h4, hall⟩]
        obtain ⟨r0, r1⟩ := numR_rng (by decide) hn
        have w1 : IntKind.u16.wrap (foldB 16 t) = foldB 16 t := by rw [IntKind.wrap_u16]; omega
        simp -implicitDefEqProofs [m1, m2, m3, hn, optE, w1]
      · have m3 : 5 < (t.length : Int) + 1 := by omega
        have hn : numR 16 4 t = none := by unfold numR; rw [if_neg (fun h => h4 h.2.1)]
        simp -implicitDefEqProofs [m1, m2, m3, hn, optE]
theorem rparse_quot (t : List UInt8) (h5 : t.length ≤ 5) : PC Tryd.prog 52 [.string (bs (39 :: t))] [] (fun v _ => v = optE (quotP t)) fun _ _ => False := by
  have n1 : ¬ (t.length : Int) + 1 = 0 := by omega
  have n2 : ¬ 6 < (t.length : Int) + 1 := by omega
  refine pc_of Tryd.func52 rfl (by decide) (by kernel_rfl) (by show 1 ≤ _; decide) (SW.of mixed _ _ _ ?_)
  by_cases h2 : t.length < 2
  · have h2a : (t.length : Int) + 1 < 3 := by omega
    have hq : quotP t = none := by unfold quotP; rw [if_neg (fun h => by omega)]
    simp -implicitDefEqProofs [n1, n2, h2a, hq, optE]
  obtain ⟨u, z, rfl⟩ : ∃ u z, t = u ++ [z] := ⟨t.dropLast, t.getLast (by intro e; subst e; simp at h2), (List.dropLast_concat_getLast _).symm⟩
  have hu1 : 1 ≤ u.length := by simp at h2; omega
  have hu4 : u.length ≤ 4 := by simp at h5; omega
  have hu : u ≠ [] := fun e => by subst e; simp at hu1
  simp only [List.length_append, List.length_singleton, Int.natCast_add, Int.natCast_one] at n1 n2
  have g1 : ¬ (u.length : Int) + 1 + 1 < 3 := by omega
  have g2 : (39 :: (u ++ [z]))[u.length + 1]? = some z := by simp
  have w1 : IntKind.i64.wrap ((u.length : Int) + 1) = (u.length : Int) + 1 := by rw [IntKind.wrap_i64]; omega
  have w2 : ((u.length : Int) + 1).toNat = u.length + 1 := by omega
  have w3 : (0 : Int) ≤ (u.length : Int) + 1 := by omega
  have w4 : (u.length : Int) + 1 < (u.length : Int) + 1 + 1 := by omega
  have w5 : (0 : Int) < (u.length : Int) + 1 + 1 := by omega
  have w6 : (1 : Int) ≤ (u.length : Int) + 1 + 1 := by omega
  have w7 : ((u.length : Int) + 1 + 1).toNat = u.length + 1 + 1 := by omega
  by_cases hz : z = 39
  case neg =>
    have hz2 : ¬ (z.toNat : Int) = 39 := fun h => hz (UInt8.toNat_inj.1 (by show z.toNat = 39; omega))
    have hq : quotP (u ++ [z]) = none := by unfold quotP; rw [if_neg (fun h => hz (by simpa using h.2))]
    simp -implicitDefEqProofs [n1, n2, g1, g2, w1, w2, w3, w4, w5, hz2, hq, optE]
  subst hz
  have g3 : (bs (39 :: (u ++ [39]))).extract 1 (u.length + 1 + 1) = bs (u ++ [39]) := by rw [bs_ext]; simp [List.take_of_length_le]
  rw [quot_snoc u hu]
  obtain ⟨d1, d2, d3, d4⟩ := dec_size u hu
  simp -implicitDefEqProofs [n1, n2, g1, g2, g3, w1, w2, w3, w4, w5, w6, w7]
  have N := fnDecRune (u ++ [39]) (by simp)
  rw [dec_quote u hu] at N
  refine N.k ?_
  have hin : inF u = if (Utf8.decode (bs u) 0).2 = u.length ∧ ¬ ((Utf8.decode (bs u) 0).1 = 65533 ∧ (Utf8.decode (bs u) 0).2 = 1) ∧ 32 ≤ (Utf8.decode (bs u) 0).1 ∧ (Utf8.decode (bs u) 0).1 ≤ 65535 ∧ (Utf8.decode (bs u) 0).1 ≠ 39 then some (((Utf8.decode (bs u) 0).1 : Nat) : Int) else none := rfl
  rw [hin]
  clear hin N
  generalize Utf8.decode (bs u) 0 = d at *
  have w8 : IntKind.i64.wrap ((u.length : Int) + 1 + 1 - 2) = u.length := by rw [IntKind.wrap_i64]; omega
  have w9 : (u.length : Int) + 1 + 1 - 2 = u.length := by omega
  have w10 : IntKind.i64.wrap (u.length : Int) = u.length := by rw [IntKind.wrap_i64]; omega
  have bad : ¬ (d.2 = u.length ∧ ¬ (d.1 = 65533 ∧ d.2 = 1) ∧ 32 ≤ d.1 ∧ d.1 ≤ 65535 ∧ d.1 ≠ 39) → (if d.2 = u.length ∧ ¬ (d.1 = 65533 ∧ d.2 = 1) ∧ 32 ≤ d.1 ∧ d.1 ≤ 65535 ∧ d.1 ≠ 39 then some ((d.1 : Nat) : Int) else none) = none := fun h => if_neg h
  by_cases a0 : d.2 = u.length
  case neg =>
    have b0 : ¬ (d.2 : Int) = u.length := by omega
    rw [bad (fun h => a0 h.1)]
    simp -implicitDefEqProofs [w8, w9, w10, b0, optE]
  have b0 : (d.2 : Int) = u.length := by omega
  by_cases a1 : d.1 = 65533
  · have b1 : (d.1 : Int) = 65533 := by omega
    by_cases a2 : d.2 = 1
    · have b2 : (u.length : Int) = 1 := by omega
      rw [bad (fun h => h.2.1 ⟨a1, a2⟩)]
      simp -implicitDefEqProofs [w8, w9, w10, b0, b1, b2, optE]
    · have b2 : ¬ (u.length : Int) = 1 := by omega
      rw [if_pos ⟨a0, fun h => a2 h.2, by omega, by omega, by omega⟩]
      simp -implicitDefEqProofs [w8, w9, w10, b0, b1, b2, optE]
  have b1 : ¬ (d.1 : Int) = 65533 := by omega
  by_cases a3 : 32 ≤ d.1
  case neg =>
    have b3 : ¬ 32 ≤ (d.1 : Int) := by omega
    have b4 : (d.1 : Int) < 32 := by omega
    rw [bad (fun h => a3 h.2.2.1)]
    simp -implicitDefEqProofs [w8, w9, w10, b0, b1, b3, b4, optE]
  have b3 : 32 ≤ (d.1 : Int) := by omega
  have b4 : ¬ (d.1 : Int) < 32 := by omega
  by_cases a4 : d.1 ≤ 65535
  case neg =>
    have b5 : ¬ (d.1 : Int) ≤ 65535 := by omega
    have b6 : 65535 < (d.1 : Int) := by omega
    rw [bad (fun h => a4 h.2.2.2.1)]
    simp -implicitDefEqProofs [w8, w9, w10, b0, b1, b3, b4, b5, b6, optE]
  have b5 : (d.1 : Int) ≤ 65535 := by omega
  have b6 : ¬ 65535 < (d.1 : Int) := by omega
  by_cases a5 : d.1 = 39
  · have b7 : (d.1 : Int) = 39 := by omega
    rw [bad (fun h => h.2.2.2.2 a5)]
    simp -implicitDefEqProofs [w8, w9, w10, b0, b1, b3, b4, b5, b6, b7, optE]
  · have b7 : ¬ (d.1 : Int) = 39 := by omega
    have b8 : IntKind.u16.wrap (d.1 : Int) = d.1 := by rw [IntKind.wrap_u16]; omega
    rw [if_pos ⟨a0, fun h => a1 h.1, a3, a4, a5⟩]
    simp -implicitDefEqProofs [w8, w9, w10, b0, b1, b3, b4, b5, b6, b7, b8, optE]
end Go.Proofs.YtjopikjefpenkaaDoor
/- The document's word out of a text: digits with a sign; any text. -/
namespace Go.Proofs.YtjopikjefpenkaaDoor
open Go.RowKit
set_option maxRecDepth 1000000
set_option maxHeartbeats 8000000
theorem digB_dec (c : UInt8) : digB 10 c = true ↔ valV 16 c.toNat ≤ 9 := by
  unfold digB valV
  rw [decide_eq_true_eq]
  have := c.toNat_lt
  repeat' split
  all_goals omega
theorem val_dec {c : UInt8} (h : digB 10 c = true) : valV 10 c.toNat = valV 16 c.toNat := by
  have h2 := (digB_dec c).1 h
  unfold valV at h2 ⊢
  split
  · rfl
  · rename_i hn; rw [if_neg hn] at h2; split at h2 <;> omega
theorem rparse_neg (t : List UInt8) (h5 : t.length ≤ 5) : PC Tryd.prog 52 [.string (bs (45 :: t))] [] (fun v _ => v = optE (decF 45 t)) fun _ _ => False := by
  refine pc_of Tryd.func52 rfl (by decide) (by kernel_rfl) (by show 1 ≤ _; decide) (SW.of mixed _ _ _ ?_)
  cases t with
  | nil =>
    have hd : decF 45 [] = none := rfl
    simp -implicitDefEqProofs [hd, optE, show (bs [45]).extract 1 1 = bs [] from by rw [bs_ext]; rfl]
  | cons d u =>
  have h5' : u.length + 1 ≤ 5 := h5
  have n1 : ¬ (u.length : Int) + 1 + 1 = 0 := by omega
  have n2 : ¬ 6 < (u.length : Int) + 1 + 1 := by omega
  have n3 : ¬ 5 < (u.length : Int) + 1 := by omega
  have n4 : (1 : Int) ≤ (u.length : Int) + 1 + 1 := by omega
  have n5 : ¬ (u.length : Int) + 1 = 0 := by omega
  have n6 : (0 : Int) < (u.length : Int) + 1 := by omega
  have n7 : (0 : Int) < (u.length : Int) + 1 + 1 := by omega
  have n8 : ((u.length : Int) + 1 + 1).toNat = u.length + 1 + 1 := by omega
  have g3 : (bs (45 :: d :: u)).extract 1 (u.length + 1 + 1) = bs (d :: u) := by rw [bs_ext]; simp [List.take_of_length_le]
  by_cases hz : d = 48
  · subst hz
    have hd : decF 45 (48 :: u) = none := by unfold decF; rw [if_pos rfl]; cases numR 10 5 (48 :: u) <;> rfl
    simp -implicitDefEqProofs [n1, n2, n3, n4, n5, n6, n7, n8, g3, hd, optE]
  have hz2 : ¬ (d.toNat : Int) = 48 := fun h => hz (UInt8.toNat_inj.1 (by show d.toNat = 48; omega))
  simp -implicitDefEqProofs [n1, n2, n3, n4, n5, n6, n7, n8, g3, hz2]
  refine pwp_loop_st (fun i : Nat => ⟨[(10, .int .i64 (i : Int)), (9, .int .i64 (foldB 10 ((d :: u).take i))), (8, .string (bs (d :: u))), (0, .string (bs (45 :: d :: u)))], []⟩) (fun i => (d :: u).length - i) (fun i => i ≤ (d :: u).length ∧ ((d :: u).take i).all (digB 10) = true) 0 [] ⟨Nat.zero_le _, rfl⟩ (Sub.mk' (by decide) (by simp [preOk]) ?_ ?_) ?_
  · simp -implicitDefEqProofs
  · simp -implicitDefEqProofs [foldB]
  rintro i ⟨hi, hall⟩
  by_cases hlt : i < (d :: u).length
  · have i0 : i < u.length + 1 := hlt
    have i1 : (i : Int) < (u.length : Int) + 1 := by omega
    have hb := foldB_bnd (by decide) hall (by rw [List.length_take]; omega)
    have hsn := take_snoc hlt
    have hF := foldB_snoc 10 ((d :: u).take i) (d :: u)[i]
    rw [← hsn] at hF
    simp -implicitDefEqProofs [i0, i1]
    refine (fnDigit (d :: u)[i]).k ?_
    by_cases hd : digB 10 (d :: u)[i] = true
    · have d1 := (digB_dec (d :: u)[i]).1 hd
      have d2 : ¬ 9 < valV 16 ((d :: u)[i].toNat : Int) := by omega
      have d3 : 0 ≤ valV 16 ((d :: u)[i].toNat : Int) := (valV_rng 16 (by decide) ((d :: u)[i].toNat : Int) (show valV 16 ((d :: u)[i].toNat : Int) < 16 by omega)).1
      have d4 := val_dec hd
      have hall2 : ((d :: u).take (i + 1)).all (digB 10) = true := by rw [hsn, List.all_append, hall]; simpa using hd
      have w1 : IntKind.i64.wrap (foldB 10 ((d :: u).take i) * 10) = foldB 10 ((d :: u).take i) * 10 := by rw [IntKind.wrap_i64]; omega
      have w2 : IntKind.i64.wrap (foldB 10 ((d :: u).take i) * 10 + valV 16 ((d :: u)[i].toNat : Int)) = foldB 10 ((d :: u).take i) * 10 + valV 16 ((d :: u)[i].toNat : Int) := by rw [IntKind.wrap_i64]; omega
      have w3 : IntKind.i64.wrap ((i : Int) + 1) = (i : Int) + 1 := by rw [IntKind.wrap_i64]; omega
      have hF2 : foldB 10 ((d :: u).take (i + 1)) = foldB 10 ((d :: u).take i) * 10 + valV 16 ((d :: u)[i].toNat : Int) := by rw [hF, ← d4]; rfl
      have hF3 : foldB 10 (d :: u.take i) = _ := hF2
      simp -implicitDefEqProofs [i0, i1, d2]
      refine (fnDigit (d :: u)[i]).k ?_
      simp -implicitDefEqProofs [w1, w2, w3]
      refine Again.mk (i + 1) [] (show (d :: u).length - (i + 1) < (d :: u).length - i by omega) ⟨by omega, by simpa using hall2⟩ (Sub.mk' (by decide) (by simp [preOk]) ?_ ?_)
      · simp -implicitDefEqProofs
      · simp -implicitDefEqProofs [hF3]
    · have d1 : 9 < valV 16 ((d :: u)[i].toNat : Int) := by
        have hx : ¬ valV 16 ((d :: u)[i].toNat : Int) ≤ 9 := fun h => hd ((digB_dec _).2 h)
        omega
      have hn : numR 10 5 (d :: u) = none := numR_bad hlt hd
      have hdn : decF 45 (d :: u) = none := by unfold decF; rw [if_pos rfl, hn]
      simp -implicitDefEqProofs [d1, hdn, optE]
  obtain rfl : i = (d :: u).length := by omega
  rw [List.take_length] at hall
  have hn : numR 10 5 (d :: u) = some (foldB 10 (d :: u)) := by unfold numR; rw [if_pos ⟨by simp, h5, hall⟩]
  obtain ⟨r0, r1⟩ := numR_rng (by decide) hn
  have w4 : IntKind.i64.wrap (-foldB 10 (d :: u)) = -foldB 10 (d :: u) := by rw [IntKind.wrap_i64]; omega
  have hd : decF 45 (d :: u) = fromF (-foldB 10 (d :: u)) := by unfold decF; rw [if_pos rfl, hn]; simp [hz]
  simp -implicitDefEqProofs [w4]
  refine (fnRFrom (-foldB 10 (d :: u)) (by omega)).k ?_
  rw [hd]
  cases fromF (-foldB 10 (d :: u)) <;> simp -implicitDefEqProofs [optV, optE]
def rpF : List FuncId := [75, 77, 52]
theorem rpF_ok : rpF.all (okFn Tryd.prog) = true := by kernel_rfl
def isE0L : List Value → Bool
  | [.int .u16 n, .int .i64 m] => n == 0 && m == 0
  | _ => false
theorem isE0L_eq {l : List Value} (h : isE0L l = true) : l = [.int .u16 0, .int .i64 0] := by
  unfold isE0L at h
  split at h
  · simp at h; rw [h.1, h.2]
  · cases h
def isE0 (o : Option Re) : Bool := match o with
  | some (.val (.tuple a) _) => isE0L a.toList
  | _ => false
theorem rp_zero : isE0 (ef Tryd.prog rpF xText 60 60 52 [.string (bs [48])] []) = true := by kernel_rfl
theorem rparse_zero : PC Tryd.prog 52 [.string (bs [48])] [] (fun v _ => v = optE (decF 48 [])) fun _ _ => False := by
  have h := rp_zero
  unfold isE0 at h
  split at h
  · rename_i a hs e
    have ha : a = #[.int .u16 0, .int .i64 0] := by
      obtain ⟨l⟩ := a
      exact congrArg Array.mk (isE0L_eq h)
    subst ha
    exact (ef_sound mixed rpF_ok xText_ok _ _ _ _ _ e).mono (fun v h' hv => by cases hv; rfl) (fun v h' hv => by cases hv)
  · cases h
theorem rparse_pos (c : UInt8) (t : List UInt8) (h5 : t.length ≤ 5) (hx : ¬ c = 120) (hq : ¬ c = 39) (hm : ¬ c = 45) : PC Tryd.prog 52 [.string (bs (c :: t))] [] (fun v _ => v = optE (decF c t)) fun _ _ => False := by
  by_cases hz : c = 48
  · subst hz
    cases t with
    | nil => exact rparse_zero
    | cons d u =>
      have h5' : u.length + 1 ≤ 5 := h5
      have n1 : ¬ (u.length : Int) + 1 + 1 = 0 := by omega
      have n2 : ¬ 6 < (u.length : Int) + 1 + 1 := by omega
      have n5 : (0 : Int) < (u.length : Int) + 1 + 1 := by omega
      have hd : decF 48 (d :: u) = none := by unfold decF; rw [if_neg (by decide)]; cases numR 10 5 (48 :: d :: u) <;> simp
      refine pc_of Tryd.func52 rfl (by decide) (by kernel_rfl) (by show 1 ≤ _; decide) (SW.of mixed _ _ _ ?_)
      by_cases n3 : 5 < (u.length : Int) + 1 + 1
      · have n4 : ¬ (u.length : Int) + 1 + 1 ≤ 5 := by omega
        simp -implicitDefEqProofs [n1, n2, n3, n4, n5, hd, optE]
      · have n4 : (u.length : Int) + 1 + 1 ≤ 5 := by omega
        simp -implicitDefEqProofs [n1, n2, n3, n4, n5, hd, optE]
  have n1 : ¬ (t.length : Int) + 1 = 0 := by omega
  have n2 : ¬ 6 < (t.length : Int) + 1 := by omega
  have n6 : (0 : Int) < (t.length : Int) + 1 := by omega
  have hx2 : ¬ (c.toNat : Int) = 120 := fun h => hx (UInt8.toNat_inj.1 (by show c.toNat = 120; omega))
  have hq2 : ¬ (c.toNat : Int) = 39 := fun h => hq (UInt8.toNat_inj.1 (by show c.toNat = 39; omega))
  have hm2 : ¬ (c.toNat : Int) = 45 := fun h => hm (UInt8.toNat_inj.1 (by show c.toNat = 45; omega))
  have hz2 : ¬ (c.toNat : Int) = 48 := fun h => hz (UInt8.toNat_inj.1 (by show c.toNat = 48; omega))
  refine pc_of Tryd.func52 rfl (by decide) (by kernel_rfl) (by show 1 ≤ _; decide) (SW.of mixed _ _ _ ?_)
  by_cases h4 : t.length ≤ 4
  case neg =>
    have n3 : 5 < (t.length : Int) + 1 := by omega
    have n4 : ¬ (t.length : Int) + 1 ≤ 5 := by omega
    have hn : numR 10 5 (c :: t) = none := by unfold numR; rw [if_neg (fun h => h4 (by have := h.2.1; simp at this; omega))]
    have hd : decF c t = none := by unfold decF; rw [if_neg hm, hn]
    simp -implicitDefEqProofs [n1, n2, n3, n4, n6, hx2, hq2, hm2, hz2, hd, optE]
  have n3 : ¬ 5 < (t.length : Int) + 1 := by omega
  have n4 : (t.length : Int) + 1 ≤ 5 := by omega
  simp -implicitDefEqProofs [n1, n2, n3, n4, n6, hx2, hq2, hm2, hz2]
  refine pwp_loop_st (fun i : Nat => ⟨[(10, .int .i64 (i : Int)), (9, .int .i64 (foldB 10 ((c :: t).take i))), (8, .string (bs (c :: t))), (0, .string (bs (c :: t)))], []⟩) (fun i => (c :: t).length - i) (fun i => i ≤ (c :: t).length ∧ ((c :: t).take i).all (digB 10) = true) 0 [] ⟨Nat.zero_le _, rfl⟩ (Sub.mk' (by decide) (by simp [preOk]) ?_ ?_) ?_
  · simp -implicitDefEqProofs
  · simp -implicitDefEqProofs [foldB]
  rintro i ⟨hi, hall⟩
  by_cases hlt : i < (c :: t).length
  · have i0 : i < t.length + 1 := hlt
    have i1 : (i : Int) < (t.length : Int) + 1 := by omega
    have hb := foldB_bnd (by decide) hall (by rw [List.length_take]; omega)
    have hsn := take_snoc hlt
    have hF := foldB_snoc 10 ((c :: t).take i) (c :: t)[i]
    rw [← hsn] at hF
    simp -implicitDefEqProofs [i0, i1]
    refine (fnDigit (c :: t)[i]).k ?_
    by_cases hd : digB 10 (c :: t)[i] = true
    · have d1 := (digB_dec (c :: t)[i]).1 hd
      have d2 : ¬ 9 < valV 16 ((c :: t)[i].toNat : Int) := by omega
      have d3 : 0 ≤ valV 16 ((c :: t)[i].toNat : Int) := (valV_rng 16 (by decide) ((c :: t)[i].toNat : Int) (show valV 16 ((c :: t)[i].toNat : Int) < 16 by omega)).1
      have d4 := val_dec hd
      have hall2 : ((c :: t).take (i + 1)).all (digB 10) = true := by rw [hsn, List.all_append, hall]; simpa using hd
      have w1 : IntKind.i64.wrap (foldB 10 ((c :: t).take i) * 10) = foldB 10 ((c :: t).take i) * 10 := by rw [IntKind.wrap_i64]; omega
      have w2 : IntKind.i64.wrap (foldB 10 ((c :: t).take i) * 10 + valV 16 ((c :: t)[i].toNat : Int)) = foldB 10 ((c :: t).take i) * 10 + valV 16 ((c :: t)[i].toNat : Int) := by rw [IntKind.wrap_i64]; omega
      have w3 : IntKind.i64.wrap ((i : Int) + 1) = (i : Int) + 1 := by rw [IntKind.wrap_i64]; omega
      have hF2 : foldB 10 ((c :: t).take (i + 1)) = foldB 10 ((c :: t).take i) * 10 + valV 16 ((c :: t)[i].toNat : Int) := by rw [hF, ← d4]; rfl
      have hF3 : foldB 10 (c :: t.take i) = _ := hF2
      simp -implicitDefEqProofs [i0, i1, d2]
      refine (fnDigit (c :: t)[i]).k ?_
      simp -implicitDefEqProofs [w1, w2, w3]
      refine Again.mk (i + 1) [] (show (c :: t).length - (i + 1) < (c :: t).length - i by omega) ⟨by omega, by simpa using hall2⟩ (Sub.mk' (by decide) (by simp [preOk]) ?_ ?_)
      · simp -implicitDefEqProofs
      · simp -implicitDefEqProofs [hF3]
    · have d1 : 9 < valV 16 ((c :: t)[i].toNat : Int) := by
        have hx : ¬ valV 16 ((c :: t)[i].toNat : Int) ≤ 9 := fun h => hd ((digB_dec _).2 h)
        omega
      have hn : numR 10 5 (c :: t) = none := numR_bad hlt hd
      have hdn : decF c t = none := by unfold decF; rw [if_neg hm, hn]
      simp -implicitDefEqProofs [d1, hdn, optE]
  obtain rfl : i = (c :: t).length := by omega
  rw [List.take_length] at hall
  have hn : numR 10 5 (c :: t) = some (foldB 10 (c :: t)) := by unfold numR; rw [if_pos ⟨by simp, by simp; omega, hall⟩]
  obtain ⟨r0, r1⟩ := numR_rng (by decide) hn
  have hd : decF c t = fromF (foldB 10 (c :: t)) := by unfold decF; rw [if_neg hm, hn]; simp [hz]
  simp -implicitDefEqProofs
  refine (fnRFrom (foldB 10 (c :: t)) (by omega)).k ?_
  rw [hd]
  cases fromF (foldB 10 (c :: t)) <;> simp -implicitDefEqProofs [optV, optE]
/-- The document's word.Parse, at any text. -/
theorem fnRParse (l : List UInt8) (hl : l.length ≤ 1000000) : Fn Tryd.prog 52 [.string (bs l)] (optE (wordQ l)) := by
  refine Fn.of ?_ rfl (optE_flat _)
  cases l with
  | nil =>
    refine pc_of Tryd.func52 rfl (by decide) (by kernel_rfl) (by show 1 ≤ _; decide) (SW.of mixed _ _ _ ?_)
    simp -implicitDefEqProofs [wordQ, optE]
  | cons c t =>
    by_cases h5 : t.length ≤ 5
    case neg =>
      have hn : wordQ (c :: t) = none := by
        have e10 : numR 10 5 t = none := by unfold numR; rw [if_neg (fun h => by have := h.2.1; omega)]
        have e11 : numR 10 5 (c :: t) = none := by unfold numR; rw [if_neg (fun h => by have := h.2.1; simp at this; omega)]
        have e16 : numR 16 4 t = none := by unfold numR; rw [if_neg (fun h => by have := h.2.1; omega)]
        by_cases hq : c = 39
        · simp only [wordQ, hq, if_true]
          cases hq : quotP t with
          | none => rfl
          | some n => have := (quotP_len hq).1; omega
        · simp only [wordQ, wordP, hq, if_false, decF, e10, e11, e16]
          repeat' split
          all_goals rfl
      have n1 : ¬ (t.length : Int) + 1 = 0 := by omega
      have n2 : 6 < (t.length : Int) + 1 := by omega
      refine pc_of Tryd.func52 rfl (by decide) (by kernel_rfl) (by show 1 ≤ _; decide) (SW.of mixed _ _ _ ?_)
      simp -implicitDefEqProofs [n1, n2, hn, optE]
    by_cases hq : c = 39
    · subst hq; exact rparse_quot t h5
    have e1 : wordQ (c :: t) = wordP (c :: t) := by simp [wordQ, hq]
    rw [e1]
    by_cases hx : c = 120
    · subst hx; exact rparse_hex t h5
    have e2 : wordP (c :: t) = decF c t := by simp [wordP, hx]
    rw [e2]
    by_cases hm : c = 45
    · subst hm; exact rparse_neg t h5
    · exact rparse_pos c t h5 hx hq hm
end Go.Proofs.YtjopikjefpenkaaDoor

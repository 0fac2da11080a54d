/- What a text says. -/
import Derived.Test.YtjopikjefpenkaaDoorGp
import Derived.Test.YtjopikjefpenkaaDoorGg
set_option linter.unusedSimpArgs false
set_option linter.unusedVariables false
set_option linter.unusedSectionVars false
namespace Go.Proofs.YtjopikjefpenkaaDoor
open Go.RowKit
set_option maxRecDepth 100000
set_option linter.unusedSimpArgs false
set_option maxHeartbeats 16000000
/-- The operand at a place. -/
def rdO (W : List UInt8 → Option Int) (R k : Nat) (w : List UInt8) : Option Int := if R ≤ k then W w else regP w
def rdL (W : List UInt8 → Option Int) (R : Nat) : Nat → List (List UInt8) → Option (List Int)
  | _, [] => some []
  | k, w :: ws => match rdO W R k w, rdL W R (k + 1) ws with
    | some x, some xs => some (x :: xs)
    | _, _ => none
def valsOf (R : Nat) : Nat → List Int → List Value
  | _, [] => []
  | k, x :: xs => (if R ≤ k then immV x else regV x) :: valsOf R (k + 1) xs
theorem valsOf_len (R : Nat) : ∀ (k : Nat) (xs : List Int), (valsOf R k xs).length = xs.length
  | _, [] => rfl
  | k, x :: xs => by simp [valsOf, valsOf_len R (k + 1) xs]
theorem valsOf_flat (R : Nat) : ∀ (k : Nat) (xs : List Int), (valsOf R k xs).all (flat 6) = true
  | _, [] => rfl
  | k, x :: xs => by
    rw [valsOf, List.all_cons, valsOf_flat R (k + 1) xs]
    split <;> rfl
theorem valsOf_snoc (R : Nat) (x : Int) : ∀ (k : Nat) (xs : List Int), valsOf R k (xs ++ [x]) = valsOf R k xs ++ [if R ≤ k + xs.length then immV x else regV x]
  | k, [] => by simp [valsOf]
  | k, y :: xs => by
    rw [List.cons_append, valsOf, valsOf_snoc R x (k + 1) xs, valsOf]
    simp [show k + 1 + xs.length = k + (xs.length + 1) by omega]
theorem rdL_snoc (W : List UInt8 → Option Int) (R : Nat) (w : List UInt8) : ∀ (k : Nat) (l : List (List UInt8)), rdL W R k (l ++ [w]) = match rdL W R k l, rdO W R (k + l.length) w with
    | some xs, some x => some (xs ++ [x])
    | _, _ => none
  | k, [] => by simp [rdL]; cases rdO W R k w <;> rfl
  | k, v :: l => by
    have ih := rdL_snoc W R w (k + 1) l
    rw [show k + 1 + l.length = k + (l.length + 1) by omega] at ih
    rw [List.cons_append, rdL, ih, rdL]
    cases rdO W R k v <;> cases rdL W R (k + 1) l <;> simp
    cases rdO W R (k + (l.length + 1)) w <;> rfl
theorem rdL_none (W : List UInt8 → Option Int) (R : Nat) (m : List (List UInt8)) : ∀ (k : Nat) (l : List (List UInt8)), rdL W R k l = none → rdL W R k (l ++ m) = none
  | k, [], h => by cases h
  | k, v :: l, h => by
    rw [rdL] at h
    rw [List.cons_append, rdL]
    cases hv : rdO W R k v with
    | none => rfl
    | some x =>
      cases hl : rdL W R (k + 1) l with
      | none => rw [rdL_none W R m (k + 1) l hl]
      | some xs => rw [hv, hl] at h; cases h
theorem rdL_len (W : List UInt8 → Option Int) (R : Nat) : ∀ (k : Nat) (l : List (List UInt8)) (xs : List Int), rdL W R k l = some xs → xs.length = l.length
  | k, [], xs, h => by cases h; rfl
  | k, v :: l, xs, h => by
    rw [rdL] at h
    cases hv : rdO W R k v with
    | none => rw [hv] at h; cases h
    | some x =>
      cases hl : rdL W R (k + 1) l with
      | none => rw [hv, hl] at h; cases h
      | some ys => rw [hv, hl] at h; cases h; simp [rdL_len W R (k + 1) l ys hl]
def errV : Value := .tuple #[insV 0 0 0 0, .int .i64 3]
/-- The operands so far. -/
def outW (i : Nat) : Value := if i = 0 then .slice none 0 0 else .slice (some ⟨1, 0, some 1⟩) i i
def outX (R i : Nat) (xs : List Int) : PO := if i = 0 then .dead else .gr (valsOf R 0 xs)
theorem joinP_drop (ps : List (List UInt8)) : ∀ i, (joinP (ps.drop i)).length ≤ (joinP ps).length
  | 0 => by simp
  | i + 1 => by
    have ih := joinP_drop ps i
    rcases Nat.lt_or_ge i ps.length with h | h
    · have := (joinP_len ps[i] (ps.drop (i + 1))).1
      rw [← List.drop_eq_getElem_cons h] at this
      omega
    · rw [List.drop_eq_nil_of_le (by omega)]; simp [joinP]
def fin_000 (o : Int) : Option (List Int) → Value
  | some [] => .tuple #[insV o 0 0 0, .int .i64 0]
  | _ => errV
theorem fin_000_flat (o : Int) (x : Option (List Int)) : flat 6 (fin_000 o x) = true := by unfold fin_000; split <;> rfl
theorem parse_000 (W : List UInt8 → Option Int) (o : Int) (p : List UInt8) (ps : List (List UInt8)) (h0 : 0 ≤ o) (hA : shA o = false) (hB : shB o = false) (hI : shI o = false) (hp : rdV (bs p) = .tuple #[.int .u8 o, .bool true]) (hc : 32 ∉ p) (hcs : ∀ w ∈ ps, 32 ∉ w) (hl : (joinP (p :: ps)).length ≤ 1000000) (hW : ∀ w ∈ ps, Fn Tryd.prog 53 [.string (bs w)] (optE (W w))) :
    Fn Tryd.prog 15 [.string (bs (joinP (p :: ps)))] (fin_000 o (rdL W 0 0 ps)) := by
  refine Fn.of ?_ rfl (fin_000_flat _ _)
  have hps : (joinP ps).length ≤ 1000000 := Nat.le_trans (joinP_len p ps).1 hl
  have hR := fnRead (bs p)
  rw [hp] at hR
  refine pc_of Tryd.func15 rfl (by decide) (by kernel_rfl) (by show 1 ≤ _; decide) (SW.of mixed _ _ _ ?_)
  simp -implicitDefEqProofs
  have hC0 := fnCutP p ps hc hl
  rw [show decide (ps ≠ []) = decide (0 < ps.length) by rw [decide_eq_decide]; exact List.length_pos_iff.symm] at hC0
  refine hC0.k ?_
  simp -implicitDefEqProofs
  refine hR.k ?_
  simp -implicitDefEqProofs
  refine (opnd_000 o 0 0 0 h0 hA hB hI).k ?_
  simp -implicitDefEqProofs
  refine (fnShape o h0).k ?_
  simp -implicitDefEqProofs [hI]
  refine pwp_loop_st (fun x : Nat × List Int => ⟨[(5, .string (bs (joinP (ps.drop x.1)))), (6, .bool (decide (x.1 < ps.length))), (9, outW x.1), (10, .int .i64 0), (7, .int .u8 o), (2, .pointer (some ⟨0, 0, none⟩)), (3, .int .i64 0)], [.rw [.int .u8 0, .int .u8 0, .int .u8 0, .int .u16 0], outX 0 x.1 x.2]⟩) (fun x => ps.length - x.1) (fun x => x.1 ≤ ps.length ∧ rdL W 0 0 (ps.take x.1) = some x.2) (0, []) [0] ⟨Nat.zero_le _, rfl⟩ (Sub.mk' (by decide) trivial ?_ ?_) ?_
  · simp -implicitDefEqProofs
  · simp -implicitDefEqProofs [outW]
  rintro ⟨i, xs⟩ ⟨hi, hx⟩
  simp only at hi hx
  have hxl := rdL_len W 0 0 _ _ hx
  rw [List.length_take, Nat.min_eq_left hi] at hxl
  by_cases hlt : i < ps.length
  · have hd : ps.drop i = ps[i] :: ps.drop (i + 1) := List.drop_eq_getElem_cons hlt
    have hmem : ps[i] ∈ ps := List.getElem_mem hlt
    have htk : ps.take (i + 1) = ps.take i ++ [ps[i]] := by rw [List.take_add_one, List.getElem?_eq_getElem hlt]; rfl
    have hsn := rdL_snoc W 0 ps[i] 0 (ps.take i)
    rw [← htk, hx, List.length_take, Nat.min_eq_left hi, Nat.zero_add] at hsn
    have hdl := joinP_drop ps i
    have hnone : rdO W 0 i ps[i] = none → rdL W 0 0 ps = none := fun h => by
      rw [h] at hsn
      have := rdL_none W 0 (ps.drop (i + 1)) 0 _ hsn
      rwa [List.take_append_drop] at this
    have hcc := hcs _ hmem
    have hWi := hW _ hmem
    rw [hd] at hdl
    have hne : ¬ ps.drop i = [] := by rw [hd]; exact List.cons_ne_nil _ _
    generalize hw : ps[i] = w at *
    simp -implicitDefEqProofs [hlt]
    rw [hd]
    have hC := fnCutP w (ps.drop (i + 1)) hcc (by omega)
    rw [show decide (ps.drop (i + 1) ≠ []) = decide (i + 1 < ps.length) by rw [decide_eq_decide, ← List.length_pos_iff, List.length_drop]; omega] at hC
    refine hC.k ?_
    have hcont : ∀ x v, rdO W 0 i w = some x → (if 0 ≤ i then immV x else regV x) = v → rdL W 0 0 (ps.take (i + 1)) = some (xs ++ [x]) ∧ valsOf 0 0 (xs ++ [x]) = valsOf 0 0 xs ++ [v] := fun x v h1 h2 => by
      rw [h1] at hsn
      refine ⟨hsn, ?_⟩
      rw [valsOf_snoc, Nat.zero_add, hxl, h2]
    have hvl := valsOf_len 0 0 xs
    have hb : i ≤ 1000000 := by
      have : ∀ (l : List (List UInt8)), l.length ≤ (joinP l).length + 1 := fun l => by
        induction l with
        | nil => simp
        | cons q l ih => cases l with
          | nil => simp
          | cons r l => simp only [joinP, List.length_append, List.length_cons] at *; omega
      have := this ps
      omega
    have w1 : IntKind.i64.wrap ((i : Int) + 1) = (i : Int) + 1 := by rw [IntKind.wrap_i64]; omega
    have hreg : 0 ≤ i := Nat.zero_le _
    have hreg2 : (0 : Int) ≤ i := by omega
    have hN := fnReadNum w (W w) hWi
    have hrd : rdO W 0 i w = W w := if_pos hreg
    rw [hrd] at hcont hnone
    by_cases hi0 : i = 0
    · subst hi0
      simp -implicitDefEqProofs [outW, outX, hreg2]
      refine hN.k ?_
      cases hWv : W w with
      | none =>
        simp -implicitDefEqProofs [rdV3, immV, hnone hWv, fin_000, errV, insV, outW, outX]
      | some x =>
        obtain ⟨c1, c2⟩ := hcont x _ hWv (if_pos hreg)
        have e0 : xs = [] := List.eq_nil_of_length_eq_zero hxl
        subst e0
        simp -implicitDefEqProofs [rdV3, immV, rep_succ, rep_zero, qappend, notInt, qelems, Value.oneCell', outW, outX]
        refine Again.mk (1, [x]) [0, 3] (show ps.length - 1 < ps.length by omega) ⟨by omega, c1⟩ (Sub.mk' (by decide) trivial ?_ ?_)
        · simp -implicitDefEqProofs [outX, valsOf, immV, RN_flat]
        · simp -implicitDefEqProofs [outW]
    · simp -implicitDefEqProofs [outW, outX, hi0, hreg2]
      refine hN.k ?_
      cases hWv : W w with
      | none =>
        simp -implicitDefEqProofs [rdV3, immV, hnone hWv, fin_000, errV, insV, outW, outX, hi0]
      | some x =>
        obtain ⟨c1, c2⟩ := hcont x _ hWv (if_pos hreg)
        simp -implicitDefEqProofs [rdV3, immV, rep_succ, rep_zero, qappend, notInt, qelems, Value.oneCell', hvl, hxl, outW, outX, hi0]
        refine ⟨by omega, Again.mk (i + 1, xs ++ [x]) [0, 3] (show ps.length - (i + 1) < ps.length - i by omega) ⟨by omega, c1⟩ (Sub.mk' (by decide) trivial ?_ ?_)⟩
        · simp -implicitDefEqProofs [outX, c2]
          unfold immV
          exact RNs.all (d := 6) (by rw [List.all_append, valsOf_flat]; rfl)
        · simp -implicitDefEqProofs [outW, w1]
  · obtain rfl : i = ps.length := by omega
    have hx2 : rdL W 0 0 ps = some xs := by rwa [List.take_of_length_le (Nat.le_refl _)] at hx
    rw [hx2]
    have hvl := valsOf_len 0 0 xs
    generalize hm : ps.length = m at *
    simp -implicitDefEqProofs [hlt]
    match xs, hxl with
    | [], hxl =>
      subst hxl
      simp -implicitDefEqProofs [outW, outX]
      refine (wth_000 o h0 hA hB hI).k ?_
      simp -implicitDefEqProofs [insV, fin_000, errV]
    | x0 :: ys, hxl =>
      have hlen : ¬ m = 0 := by simp at hxl; omega
      simp -implicitDefEqProofs [outW, outX, hlen]
      refine PCq.k (PC.reads [1] (wthn_000_1 o (valsOf 0 0 (x0 :: ys)) m h0 hA hB hI (by omega)) (fit_row rfl (valsOf_flat 0 0 _)) live_ro (RNs.cons (.int _ _) (RNs.cons (.sl _ _ _ _ rfl) RNs.nil)) rfl) ?_
      simp -implicitDefEqProofs [insV, fin_000, errV]
def fin_001 (o : Int) : Option (List Int) → Value
  | some [n] => .tuple #[insV o 0 0 n, .int .i64 0]
  | _ => errV
theorem fin_001_flat (o : Int) (x : Option (List Int)) : flat 6 (fin_001 o x) = true := by unfold fin_001; split <;> rfl
theorem parse_001 (W : List UInt8 → Option Int) (o : Int) (p : List UInt8) (ps : List (List UInt8)) (h0 : 0 ≤ o) (hA : shA o = false) (hB : shB o = false) (hI : shI o = true) (hp : rdV (bs p) = .tuple #[.int .u8 o, .bool true]) (hc : 32 ∉ p) (hcs : ∀ w ∈ ps, 32 ∉ w) (hl : (joinP (p :: ps)).length ≤ 1000000) (hW : ∀ w ∈ ps, Fn Tryd.prog 53 [.string (bs w)] (optE (W w))) :
    Fn Tryd.prog 15 [.string (bs (joinP (p :: ps)))] (fin_001 o (rdL W 0 0 ps)) := by
  refine Fn.of ?_ rfl (fin_001_flat _ _)
  have hps : (joinP ps).length ≤ 1000000 := Nat.le_trans (joinP_len p ps).1 hl
  have hR := fnRead (bs p)
  rw [hp] at hR
  refine pc_of Tryd.func15 rfl (by decide) (by kernel_rfl) (by show 1 ≤ _; decide) (SW.of mixed _ _ _ ?_)
  simp -implicitDefEqProofs
  have hC0 := fnCutP p ps hc hl
  rw [show decide (ps ≠ []) = decide (0 < ps.length) by rw [decide_eq_decide]; exact List.length_pos_iff.symm] at hC0
  refine hC0.k ?_
  simp -implicitDefEqProofs
  refine hR.k ?_
  simp -implicitDefEqProofs
  refine PCq.k (opndq_001 o 0 0 0 h0 hA hB hI) ?_
  simp -implicitDefEqProofs
  refine (fnShape o h0).k ?_
  simp -implicitDefEqProofs [hI]
  refine pwp_loop_st (fun x : Nat × List Int => ⟨[(5, .string (bs (joinP (ps.drop x.1)))), (6, .bool (decide (x.1 < ps.length))), (9, outW x.1), (10, .int .i64 0), (7, .int .u8 o), (2, .pointer (some ⟨0, 0, none⟩)), (3, .int .i64 0)], [.rw [.int .u8 0, .int .u8 0, .int .u8 0, .int .u16 0], outX 0 x.1 x.2]⟩) (fun x => ps.length - x.1) (fun x => x.1 ≤ ps.length ∧ rdL W 0 0 (ps.take x.1) = some x.2) (0, []) [0] ⟨Nat.zero_le _, rfl⟩ (Sub.mk' (by decide) trivial ?_ ?_) ?_
  · simp -implicitDefEqProofs
  · simp -implicitDefEqProofs [outW]
  rintro ⟨i, xs⟩ ⟨hi, hx⟩
  simp only at hi hx
  have hxl := rdL_len W 0 0 _ _ hx
  rw [List.length_take, Nat.min_eq_left hi] at hxl
  by_cases hlt : i < ps.length
  · have hd : ps.drop i = ps[i] :: ps.drop (i + 1) := List.drop_eq_getElem_cons hlt
    have hmem : ps[i] ∈ ps := List.getElem_mem hlt
    have htk : ps.take (i + 1) = ps.take i ++ [ps[i]] := by rw [List.take_add_one, List.getElem?_eq_getElem hlt]; rfl
    have hsn := rdL_snoc W 0 ps[i] 0 (ps.take i)
    rw [← htk, hx, List.length_take, Nat.min_eq_left hi, Nat.zero_add] at hsn
    have hdl := joinP_drop ps i
    have hnone : rdO W 0 i ps[i] = none → rdL W 0 0 ps = none := fun h => by
      rw [h] at hsn
      have := rdL_none W 0 (ps.drop (i + 1)) 0 _ hsn
      rwa [List.take_append_drop] at this
    have hcc := hcs _ hmem
    have hWi := hW _ hmem
    rw [hd] at hdl
    have hne : ¬ ps.drop i = [] := by rw [hd]; exact List.cons_ne_nil _ _
    generalize hw : ps[i] = w at *
    simp -implicitDefEqProofs [hlt]
    rw [hd]
    have hC := fnCutP w (ps.drop (i + 1)) hcc (by omega)
    rw [show decide (ps.drop (i + 1) ≠ []) = decide (i + 1 < ps.length) by rw [decide_eq_decide, ← List.length_pos_iff, List.length_drop]; omega] at hC
    refine hC.k ?_
    have hcont : ∀ x v, rdO W 0 i w = some x → (if 0 ≤ i then immV x else regV x) = v → rdL W 0 0 (ps.take (i + 1)) = some (xs ++ [x]) ∧ valsOf 0 0 (xs ++ [x]) = valsOf 0 0 xs ++ [v] := fun x v h1 h2 => by
      rw [h1] at hsn
      refine ⟨hsn, ?_⟩
      rw [valsOf_snoc, Nat.zero_add, hxl, h2]
    have hvl := valsOf_len 0 0 xs
    have hb : i ≤ 1000000 := by
      have : ∀ (l : List (List UInt8)), l.length ≤ (joinP l).length + 1 := fun l => by
        induction l with
        | nil => simp
        | cons q l ih => cases l with
          | nil => simp
          | cons r l => simp only [joinP, List.length_append, List.length_cons] at *; omega
      have := this ps
      omega
    have w1 : IntKind.i64.wrap ((i : Int) + 1) = (i : Int) + 1 := by rw [IntKind.wrap_i64]; omega
    have hreg : 0 ≤ i := Nat.zero_le _
    have hreg2 : (0 : Int) ≤ i := by omega
    have hN := fnReadNum w (W w) hWi
    have hrd : rdO W 0 i w = W w := if_pos hreg
    rw [hrd] at hcont hnone
    by_cases hi0 : i = 0
    · subst hi0
      simp -implicitDefEqProofs [outW, outX, hreg2]
      refine hN.k ?_
      cases hWv : W w with
      | none =>
        simp -implicitDefEqProofs [rdV3, immV, hnone hWv, fin_001, errV, insV, outW, outX]
      | some x =>
        obtain ⟨c1, c2⟩ := hcont x _ hWv (if_pos hreg)
        have e0 : xs = [] := List.eq_nil_of_length_eq_zero hxl
        subst e0
        simp -implicitDefEqProofs [rdV3, immV, rep_succ, rep_zero, qappend, notInt, qelems, Value.oneCell', outW, outX]
        refine Again.mk (1, [x]) [0, 3] (show ps.length - 1 < ps.length by omega) ⟨by omega, c1⟩ (Sub.mk' (by decide) trivial ?_ ?_)
        · simp -implicitDefEqProofs [outX, valsOf, immV, RN_flat]
        · simp -implicitDefEqProofs [outW]
    · simp -implicitDefEqProofs [outW, outX, hi0, hreg2]
      refine hN.k ?_
      cases hWv : W w with
      | none =>
        simp -implicitDefEqProofs [rdV3, immV, hnone hWv, fin_001, errV, insV, outW, outX, hi0]
      | some x =>
        obtain ⟨c1, c2⟩ := hcont x _ hWv (if_pos hreg)
        simp -implicitDefEqProofs [rdV3, immV, rep_succ, rep_zero, qappend, notInt, qelems, Value.oneCell', hvl, hxl, outW, outX, hi0]
        refine ⟨by omega, Again.mk (i + 1, xs ++ [x]) [0, 3] (show ps.length - (i + 1) < ps.length - i by omega) ⟨by omega, c1⟩ (Sub.mk' (by decide) trivial ?_ ?_)⟩
        · simp -implicitDefEqProofs [outX, c2]
          unfold immV
          exact RNs.all (d := 6) (by rw [List.all_append, valsOf_flat]; rfl)
        · simp -implicitDefEqProofs [outW, w1]
  · obtain rfl : i = ps.length := by omega
    have hx2 : rdL W 0 0 ps = some xs := by rwa [List.take_of_length_le (Nat.le_refl _)] at hx
    rw [hx2]
    have hvl := valsOf_len 0 0 xs
    generalize hm : ps.length = m at *
    simp -implicitDefEqProofs [hlt]
    match xs, hxl with
    | [], hxl =>
      subst hxl
      simp -implicitDefEqProofs [outW, outX]
      refine (wthn_001_0 o h0 hA hB hI).k ?_
      simp -implicitDefEqProofs [insV, fin_001, errV]
    | [x0], hxl =>
      subst hxl
      simp -implicitDefEqProofs [outW, outX, valsOf]
      refine PCq.k (PC.reads [1] (wth_001 o x0 [immV x0] 1 h0 hA hB hI (Nat.le_refl _) rfl) (fit_row rfl rfl) live_ro (RNs.cons (.int _ _) (RNs.cons (.sl _ _ _ _ rfl) RNs.nil)) rfl) ?_
      simp -implicitDefEqProofs [insV, fin_001, errV]
    | x0 :: x1 :: ys, hxl =>
      have hlen : ¬ m = 0 := by simp at hxl; omega
      simp -implicitDefEqProofs [outW, outX, hlen]
      have hK : ¬ m = 1 := by simp at hxl; omega
      have hK2 : 1 ≤ m := by simp at hxl; omega
      refine PCq.k (PC.reads [1] (wth_001 o x0 (valsOf 0 0 (x0 :: x1 :: ys)) m h0 hA hB hI hK2 rfl) (fit_row rfl (valsOf_flat 0 0 _)) live_ro (RNs.cons (.int _ _) (RNs.cons (.sl _ _ _ _ rfl) RNs.nil)) rfl) ?_
      simp -implicitDefEqProofs [insV, fin_001, errV, hK]
def fin_101 (o : Int) : Option (List Int) → Value
  | some [a, n] => .tuple #[insV o a 0 n, .int .i64 0]
  | _ => errV
theorem fin_101_flat (o : Int) (x : Option (List Int)) : flat 6 (fin_101 o x) = true := by unfold fin_101; split <;> rfl
theorem parse_101 (W : List UInt8 → Option Int) (o : Int) (p : List UInt8) (ps : List (List UInt8)) (h0 : 0 ≤ o) (hA : shA o = true) (hB : shB o = false) (hI : shI o = true) (hp : rdV (bs p) = .tuple #[.int .u8 o, .bool true]) (hc : 32 ∉ p) (hcs : ∀ w ∈ ps, 32 ∉ w) (hl : (joinP (p :: ps)).length ≤ 1000000) (hW : ∀ w ∈ ps, Fn Tryd.prog 53 [.string (bs w)] (optE (W w))) :
    Fn Tryd.prog 15 [.string (bs (joinP (p :: ps)))] (fin_101 o (rdL W 1 0 ps)) := by
  refine Fn.of ?_ rfl (fin_101_flat _ _)
  have hps : (joinP ps).length ≤ 1000000 := Nat.le_trans (joinP_len p ps).1 hl
  have hR := fnRead (bs p)
  rw [hp] at hR
  refine pc_of Tryd.func15 rfl (by decide) (by kernel_rfl) (by show 1 ≤ _; decide) (SW.of mixed _ _ _ ?_)
  simp -implicitDefEqProofs
  have hC0 := fnCutP p ps hc hl
  rw [show decide (ps ≠ []) = decide (0 < ps.length) by rw [decide_eq_decide]; exact List.length_pos_iff.symm] at hC0
  refine hC0.k ?_
  simp -implicitDefEqProofs
  refine hR.k ?_
  simp -implicitDefEqProofs
  refine PCq.k (opndq_101 o 0 0 0 h0 hA hB hI) ?_
  simp -implicitDefEqProofs
  refine (fnShape o h0).k ?_
  simp -implicitDefEqProofs [hI]
  refine pwp_loop_st (fun x : Nat × List Int => ⟨[(5, .string (bs (joinP (ps.drop x.1)))), (6, .bool (decide (x.1 < ps.length))), (9, outW x.1), (10, .int .i64 1), (7, .int .u8 o), (2, .pointer (some ⟨0, 0, none⟩)), (3, .int .i64 0)], [.rw [.int .u8 0, .int .u8 0, .int .u8 0, .int .u16 0], outX 1 x.1 x.2]⟩) (fun x => ps.length - x.1) (fun x => x.1 ≤ ps.length ∧ rdL W 1 0 (ps.take x.1) = some x.2) (0, []) [0] ⟨Nat.zero_le _, rfl⟩ (Sub.mk' (by decide) trivial ?_ ?_) ?_
  · simp -implicitDefEqProofs
  · simp -implicitDefEqProofs [outW]
  rintro ⟨i, xs⟩ ⟨hi, hx⟩
  simp only at hi hx
  have hxl := rdL_len W 1 0 _ _ hx
  rw [List.length_take, Nat.min_eq_left hi] at hxl
  by_cases hlt : i < ps.length
  · have hd : ps.drop i = ps[i] :: ps.drop (i + 1) := List.drop_eq_getElem_cons hlt
    have hmem : ps[i] ∈ ps := List.getElem_mem hlt
    have htk : ps.take (i + 1) = ps.take i ++ [ps[i]] := by rw [List.take_add_one, List.getElem?_eq_getElem hlt]; rfl
    have hsn := rdL_snoc W 1 ps[i] 0 (ps.take i)
    rw [← htk, hx, List.length_take, Nat.min_eq_left hi, Nat.zero_add] at hsn
    have hdl := joinP_drop ps i
    have hnone : rdO W 1 i ps[i] = none → rdL W 1 0 ps = none := fun h => by
      rw [h] at hsn
      have := rdL_none W 1 (ps.drop (i + 1)) 0 _ hsn
      rwa [List.take_append_drop] at this
    have hcc := hcs _ hmem
    have hWi := hW _ hmem
    rw [hd] at hdl
    have hne : ¬ ps.drop i = [] := by rw [hd]; exact List.cons_ne_nil _ _
    generalize hw : ps[i] = w at *
    simp -implicitDefEqProofs [hlt]
    rw [hd]
    have hC := fnCutP w (ps.drop (i + 1)) hcc (by omega)
    rw [show decide (ps.drop (i + 1) ≠ []) = decide (i + 1 < ps.length) by rw [decide_eq_decide, ← List.length_pos_iff, List.length_drop]; omega] at hC
    refine hC.k ?_
    have hcont : ∀ x v, rdO W 1 i w = some x → (if 1 ≤ i then immV x else regV x) = v → rdL W 1 0 (ps.take (i + 1)) = some (xs ++ [x]) ∧ valsOf 1 0 (xs ++ [x]) = valsOf 1 0 xs ++ [v] := fun x v h1 h2 => by
      rw [h1] at hsn
      refine ⟨hsn, ?_⟩
      rw [valsOf_snoc, Nat.zero_add, hxl, h2]
    have hvl := valsOf_len 1 0 xs
    have hb : i ≤ 1000000 := by
      have : ∀ (l : List (List UInt8)), l.length ≤ (joinP l).length + 1 := fun l => by
        induction l with
        | nil => simp
        | cons q l ih => cases l with
          | nil => simp
          | cons r l => simp only [joinP, List.length_append, List.length_cons] at *; omega
      have := this ps
      omega
    have w1 : IntKind.i64.wrap ((i : Int) + 1) = (i : Int) + 1 := by rw [IntKind.wrap_i64]; omega
    by_cases hreg : 1 ≤ i
    · have hreg2 : (1 : Int) ≤ i := by omega
      have hN := fnReadNum w (W w) hWi
      have hrd : rdO W 1 i w = W w := if_pos hreg
      rw [hrd] at hcont hnone
      by_cases hi0 : i = 0
      · omega
      · simp -implicitDefEqProofs [outW, outX, hi0, hreg2]
        refine hN.k ?_
        cases hWv : W w with
        | none =>
          simp -implicitDefEqProofs [rdV3, immV, hnone hWv, fin_101, errV, insV, outW, outX, hi0]
        | some x =>
          obtain ⟨c1, c2⟩ := hcont x _ hWv (if_pos hreg)
          simp -implicitDefEqProofs [rdV3, immV, rep_succ, rep_zero, qappend, notInt, qelems, Value.oneCell', hvl, hxl, outW, outX, hi0]
          refine ⟨by omega, Again.mk (i + 1, xs ++ [x]) [0, 3] (show ps.length - (i + 1) < ps.length - i by omega) ⟨by omega, c1⟩ (Sub.mk' (by decide) trivial ?_ ?_)⟩
          · simp -implicitDefEqProofs [outX, c2]
            unfold immV
            exact RNs.all (d := 6) (by rw [List.all_append, valsOf_flat]; rfl)
          · simp -implicitDefEqProofs [outW, w1]
    · have hreg2 : ¬ (1 : Int) ≤ i := by omega
      have hG := fnReadReg w
      have hrd : rdO W 1 i w = regP w := if_neg hreg
      rw [hrd] at hcont hnone
      by_cases hi0 : i = 0
      · subst hi0
        simp -implicitDefEqProofs [outW, outX, hreg2]
        refine hG.k ?_
        cases hWv : regP w with
        | none =>
          simp -implicitDefEqProofs [rdV2, regV, hnone hWv, fin_101, errV, insV, outW, outX]
        | some x =>
          obtain ⟨c1, c2⟩ := hcont x _ hWv (if_neg hreg)
          have e0 : xs = [] := List.eq_nil_of_length_eq_zero hxl
          subst e0
          simp -implicitDefEqProofs [rdV2, regV, rep_succ, rep_zero, qappend, notInt, qelems, Value.oneCell', outW, outX]
          refine Again.mk (1, [x]) [0, 3] (show ps.length - 1 < ps.length by omega) ⟨by omega, c1⟩ (Sub.mk' (by decide) trivial ?_ ?_)
          · simp -implicitDefEqProofs [outX, valsOf, regV, RN_flat]
          · simp -implicitDefEqProofs [outW]
      · omega
  · obtain rfl : i = ps.length := by omega
    have hx2 : rdL W 1 0 ps = some xs := by rwa [List.take_of_length_le (Nat.le_refl _)] at hx
    rw [hx2]
    have hvl := valsOf_len 1 0 xs
    generalize hm : ps.length = m at *
    simp -implicitDefEqProofs [hlt]
    match xs, hxl with
    | [], hxl =>
      subst hxl
      simp -implicitDefEqProofs [outW, outX]
      refine (wthn_101_0 o h0 hA hB hI).k ?_
      simp -implicitDefEqProofs [insV, fin_101, errV]
    | [x0], hxl =>
      subst hxl
      simp -implicitDefEqProofs [outW, outX, valsOf]
      refine PCq.k (PC.reads [1] (wthn_101_1 o x0 [regV x0] h0 hA hB hI rfl) (fit_row rfl rfl) live_ro (RNs.cons (.int _ _) (RNs.cons (.sl _ _ _ _ rfl) RNs.nil)) rfl) ?_
      simp -implicitDefEqProofs [insV, fin_101, errV]
    | [x0, x1], hxl =>
      subst hxl
      simp -implicitDefEqProofs [outW, outX, valsOf]
      refine PCq.k (PC.reads [1] (wth_101 o x0 x1 [regV x0, immV x1] 2 h0 hA hB hI (Nat.le_refl _) rfl rfl) (fit_row rfl rfl) live_ro (RNs.cons (.int _ _) (RNs.cons (.sl _ _ _ _ rfl) RNs.nil)) rfl) ?_
      simp -implicitDefEqProofs [insV, fin_101, errV]
    | x0 :: x1 :: x2 :: ys, hxl =>
      have hlen : ¬ m = 0 := by simp at hxl; omega
      simp -implicitDefEqProofs [outW, outX, hlen]
      have hK : ¬ m = 2 := by simp at hxl; omega
      have hK2 : 2 ≤ m := by simp at hxl; omega
      refine PCq.k (PC.reads [1] (wth_101 o x0 x1 (valsOf 1 0 (x0 :: x1 :: x2 :: ys)) m h0 hA hB hI hK2 rfl rfl) (fit_row rfl (valsOf_flat 1 0 _)) live_ro (RNs.cons (.int _ _) (RNs.cons (.sl _ _ _ _ rfl) RNs.nil)) rfl) ?_
      simp -implicitDefEqProofs [insV, fin_101, errV, hK]
def fin_110 (o : Int) : Option (List Int) → Value
  | some [a, b] => .tuple #[insV o a b 0, .int .i64 0]
  | _ => errV
theorem fin_110_flat (o : Int) (x : Option (List Int)) : flat 6 (fin_110 o x) = true := by unfold fin_110; split <;> rfl
theorem parse_110 (W : List UInt8 → Option Int) (o : Int) (p : List UInt8) (ps : List (List UInt8)) (h0 : 0 ≤ o) (hA : shA o = true) (hB : shB o = true) (hI : shI o = false) (hp : rdV (bs p) = .tuple #[.int .u8 o, .bool true]) (hc : 32 ∉ p) (hcs : ∀ w ∈ ps, 32 ∉ w) (hl : (joinP (p :: ps)).length ≤ 1000000) (hW : ∀ w ∈ ps, Fn Tryd.prog 53 [.string (bs w)] (optE (W w))) :
    Fn Tryd.prog 15 [.string (bs (joinP (p :: ps)))] (fin_110 o (rdL W 2 0 ps)) := by
  refine Fn.of ?_ rfl (fin_110_flat _ _)
  have hps : (joinP ps).length ≤ 1000000 := Nat.le_trans (joinP_len p ps).1 hl
  have hR := fnRead (bs p)
  rw [hp] at hR
  refine pc_of Tryd.func15 rfl (by decide) (by kernel_rfl) (by show 1 ≤ _; decide) (SW.of mixed _ _ _ ?_)
  simp -implicitDefEqProofs
  have hC0 := fnCutP p ps hc hl
  rw [show decide (ps ≠ []) = decide (0 < ps.length) by rw [decide_eq_decide]; exact List.length_pos_iff.symm] at hC0
  refine hC0.k ?_
  simp -implicitDefEqProofs
  refine hR.k ?_
  simp -implicitDefEqProofs
  refine PCq.k (opndq_110 o 0 0 0 h0 hA hB hI) ?_
  simp -implicitDefEqProofs
  refine (fnShape o h0).k ?_
  simp -implicitDefEqProofs [hI]
  refine pwp_loop_st (fun x : Nat × List Int => ⟨[(5, .string (bs (joinP (ps.drop x.1)))), (6, .bool (decide (x.1 < ps.length))), (9, outW x.1), (10, .int .i64 2), (7, .int .u8 o), (2, .pointer (some ⟨0, 0, none⟩)), (3, .int .i64 0)], [.rw [.int .u8 0, .int .u8 0, .int .u8 0, .int .u16 0], outX 2 x.1 x.2]⟩) (fun x => ps.length - x.1) (fun x => x.1 ≤ ps.length ∧ rdL W 2 0 (ps.take x.1) = some x.2) (0, []) [0] ⟨Nat.zero_le _, rfl⟩ (Sub.mk' (by decide) trivial ?_ ?_) ?_
  · simp -implicitDefEqProofs
  · simp -implicitDefEqProofs [outW]
  rintro ⟨i, xs⟩ ⟨hi, hx⟩
  simp only at hi hx
  have hxl := rdL_len W 2 0 _ _ hx
  rw [List.length_take, Nat.min_eq_left hi] at hxl
  by_cases hlt : i < ps.length
  · have hd : ps.drop i = ps[i] :: ps.drop (i + 1) := List.drop_eq_getElem_cons hlt
    have hmem : ps[i] ∈ ps := List.getElem_mem hlt
    have htk : ps.take (i + 1) = ps.take i ++ [ps[i]] := by rw [List.take_add_one, List.getElem?_eq_getElem hlt]; rfl
    have hsn := rdL_snoc W 2 ps[i] 0 (ps.take i)
    rw [← htk, hx, List.length_take, Nat.min_eq_left hi, Nat.zero_add] at hsn
    have hdl := joinP_drop ps i
    have hnone : rdO W 2 i ps[i] = none → rdL W 2 0 ps = none := fun h => by
      rw [h] at hsn
      have := rdL_none W 2 (ps.drop (i + 1)) 0 _ hsn
      rwa [List.take_append_drop] at this
    have hcc := hcs _ hmem
    have hWi := hW _ hmem
    rw [hd] at hdl
    have hne : ¬ ps.drop i = [] := by rw [hd]; exact List.cons_ne_nil _ _
    generalize hw : ps[i] = w at *
    simp -implicitDefEqProofs [hlt]
    rw [hd]
    have hC := fnCutP w (ps.drop (i + 1)) hcc (by omega)
    rw [show decide (ps.drop (i + 1) ≠ []) = decide (i + 1 < ps.length) by rw [decide_eq_decide, ← List.length_pos_iff, List.length_drop]; omega] at hC
    refine hC.k ?_
    have hcont : ∀ x v, rdO W 2 i w = some x → (if 2 ≤ i then immV x else regV x) = v → rdL W 2 0 (ps.take (i + 1)) = some (xs ++ [x]) ∧ valsOf 2 0 (xs ++ [x]) = valsOf 2 0 xs ++ [v] := fun x v h1 h2 => by
      rw [h1] at hsn
      refine ⟨hsn, ?_⟩
      rw [valsOf_snoc, Nat.zero_add, hxl, h2]
    have hvl := valsOf_len 2 0 xs
    have hb : i ≤ 1000000 := by
      have : ∀ (l : List (List UInt8)), l.length ≤ (joinP l).length + 1 := fun l => by
        induction l with
        | nil => simp
        | cons q l ih => cases l with
          | nil => simp
          | cons r l => simp only [joinP, List.length_append, List.length_cons] at *; omega
      have := this ps
      omega
    have w1 : IntKind.i64.wrap ((i : Int) + 1) = (i : Int) + 1 := by rw [IntKind.wrap_i64]; omega
    by_cases hreg : 2 ≤ i
    · have hreg2 : (2 : Int) ≤ i := by omega
      have hN := fnReadNum w (W w) hWi
      have hrd : rdO W 2 i w = W w := if_pos hreg
      rw [hrd] at hcont hnone
      by_cases hi0 : i = 0
      · omega
      · simp -implicitDefEqProofs [outW, outX, hi0, hreg2]
        refine hN.k ?_
        cases hWv : W w with
        | none =>
          simp -implicitDefEqProofs [rdV3, immV, hnone hWv, fin_110, errV, insV, outW, outX, hi0]
        | some x =>
          obtain ⟨c1, c2⟩ := hcont x _ hWv (if_pos hreg)
          simp -implicitDefEqProofs [rdV3, immV, rep_succ, rep_zero, qappend, notInt, qelems, Value.oneCell', hvl, hxl, outW, outX, hi0]
          refine ⟨by omega, Again.mk (i + 1, xs ++ [x]) [0, 3] (show ps.length - (i + 1) < ps.length - i by omega) ⟨by omega, c1⟩ (Sub.mk' (by decide) trivial ?_ ?_)⟩
          · simp -implicitDefEqProofs [outX, c2]
            unfold immV
            exact RNs.all (d := 6) (by rw [List.all_append, valsOf_flat]; rfl)
          · simp -implicitDefEqProofs [outW, w1]
    · have hreg2 : ¬ (2 : Int) ≤ i := by omega
      have hG := fnReadReg w
      have hrd : rdO W 2 i w = regP w := if_neg hreg
      rw [hrd] at hcont hnone
      by_cases hi0 : i = 0
      · subst hi0
        simp -implicitDefEqProofs [outW, outX, hreg2]
        refine hG.k ?_
        cases hWv : regP w with
        | none =>
          simp -implicitDefEqProofs [rdV2, regV, hnone hWv, fin_110, errV, insV, outW, outX]
        | some x =>
          obtain ⟨c1, c2⟩ := hcont x _ hWv (if_neg hreg)
          have e0 : xs = [] := List.eq_nil_of_length_eq_zero hxl
          subst e0
          simp -implicitDefEqProofs [rdV2, regV, rep_succ, rep_zero, qappend, notInt, qelems, Value.oneCell', outW, outX]
          refine Again.mk (1, [x]) [0, 3] (show ps.length - 1 < ps.length by omega) ⟨by omega, c1⟩ (Sub.mk' (by decide) trivial ?_ ?_)
          · simp -implicitDefEqProofs [outX, valsOf, regV, RN_flat]
          · simp -implicitDefEqProofs [outW]
      · simp -implicitDefEqProofs [outW, outX, hi0, hreg2]
        refine hG.k ?_
        cases hWv : regP w with
        | none =>
          simp -implicitDefEqProofs [rdV2, regV, hnone hWv, fin_110, errV, insV, outW, outX, hi0]
        | some x =>
          obtain ⟨c1, c2⟩ := hcont x _ hWv (if_neg hreg)
          simp -implicitDefEqProofs [rdV2, regV, rep_succ, rep_zero, qappend, notInt, qelems, Value.oneCell', hvl, hxl, outW, outX, hi0]
          refine ⟨by omega, Again.mk (i + 1, xs ++ [x]) [0, 3] (show ps.length - (i + 1) < ps.length - i by omega) ⟨by omega, c1⟩ (Sub.mk' (by decide) trivial ?_ ?_)⟩
          · simp -implicitDefEqProofs [outX, c2]
            unfold regV
            exact RNs.all (d := 6) (by rw [List.all_append, valsOf_flat]; rfl)
          · simp -implicitDefEqProofs [outW, w1]
  · obtain rfl : i = ps.length := by omega
    have hx2 : rdL W 2 0 ps = some xs := by rwa [List.take_of_length_le (Nat.le_refl _)] at hx
    rw [hx2]
    have hvl := valsOf_len 2 0 xs
    generalize hm : ps.length = m at *
    simp -implicitDefEqProofs [hlt]
    match xs, hxl with
    | [], hxl =>
      subst hxl
      simp -implicitDefEqProofs [outW, outX]
      refine (wthn_110_0 o h0 hA hB hI).k ?_
      simp -implicitDefEqProofs [insV, fin_110, errV]
    | [x0], hxl =>
      subst hxl
      simp -implicitDefEqProofs [outW, outX, valsOf]
      refine PCq.k (PC.reads [1] (wthn_110_1 o x0 [regV x0] h0 hA hB hI rfl) (fit_row rfl rfl) live_ro (RNs.cons (.int _ _) (RNs.cons (.sl _ _ _ _ rfl) RNs.nil)) rfl) ?_
      simp -implicitDefEqProofs [insV, fin_110, errV]
    | [x0, x1], hxl =>
      subst hxl
      simp -implicitDefEqProofs [outW, outX, valsOf]
      refine PCq.k (PC.reads [1] (wth_110 o x0 x1 [regV x0, regV x1] 2 h0 hA hB hI (Nat.le_refl _) rfl rfl) (fit_row rfl rfl) live_ro (RNs.cons (.int _ _) (RNs.cons (.sl _ _ _ _ rfl) RNs.nil)) rfl) ?_
      simp -implicitDefEqProofs [insV, fin_110, errV]
    | x0 :: x1 :: x2 :: ys, hxl =>
      have hlen : ¬ m = 0 := by simp at hxl; omega
      simp -implicitDefEqProofs [outW, outX, hlen]
      have hK : ¬ m = 2 := by simp at hxl; omega
      have hK2 : 2 ≤ m := by simp at hxl; omega
      refine PCq.k (PC.reads [1] (wth_110 o x0 x1 (valsOf 2 0 (x0 :: x1 :: x2 :: ys)) m h0 hA hB hI hK2 rfl rfl) (fit_row rfl (valsOf_flat 2 0 _)) live_ro (RNs.cons (.int _ _) (RNs.cons (.sl _ _ _ _ rfl) RNs.nil)) rfl) ?_
      simp -implicitDefEqProofs [insV, fin_110, errV, hK]
def fin_111 (o : Int) : Option (List Int) → Value
  | some [a, b, n] => .tuple #[insV o a b n, .int .i64 0]
  | _ => errV
theorem fin_111_flat (o : Int) (x : Option (List Int)) : flat 6 (fin_111 o x) = true := by unfold fin_111; split <;> rfl
theorem parse_111 (W : List UInt8 → Option Int) (o : Int) (p : List UInt8) (ps : List (List UInt8)) (h0 : 0 ≤ o) (hA : shA o = true) (hB : shB o = true) (hI : shI o = true) (hp : rdV (bs p) = .tuple #[.int .u8 o, .bool true]) (hc : 32 ∉ p) (hcs : ∀ w ∈ ps, 32 ∉ w) (hl : (joinP (p :: ps)).length ≤ 1000000) (hW : ∀ w ∈ ps, Fn Tryd.prog 53 [.string (bs w)] (optE (W w))) :
    Fn Tryd.prog 15 [.string (bs (joinP (p :: ps)))] (fin_111 o (rdL W 2 0 ps)) := by
  refine Fn.of ?_ rfl (fin_111_flat _ _)
  have hps : (joinP ps).length ≤ 1000000 := Nat.le_trans (joinP_len p ps).1 hl
  have hR := fnRead (bs p)
  rw [hp] at hR
  refine pc_of Tryd.func15 rfl (by decide) (by kernel_rfl) (by show 1 ≤ _; decide) (SW.of mixed _ _ _ ?_)
  simp -implicitDefEqProofs
  have hC0 := fnCutP p ps hc hl
  rw [show decide (ps ≠ []) = decide (0 < ps.length) by rw [decide_eq_decide]; exact List.length_pos_iff.symm] at hC0
  refine hC0.k ?_
  simp -implicitDefEqProofs
  refine hR.k ?_
  simp -implicitDefEqProofs
  refine PCq.k (opndq_111 o 0 0 0 h0 hA hB hI) ?_
  simp -implicitDefEqProofs
  refine (fnShape o h0).k ?_
  simp -implicitDefEqProofs [hI]
  refine pwp_loop_st (fun x : Nat × List Int => ⟨[(5, .string (bs (joinP (ps.drop x.1)))), (6, .bool (decide (x.1 < ps.length))), (9, outW x.1), (10, .int .i64 2), (7, .int .u8 o), (2, .pointer (some ⟨0, 0, none⟩)), (3, .int .i64 0)], [.rw [.int .u8 0, .int .u8 0, .int .u8 0, .int .u16 0], outX 2 x.1 x.2]⟩) (fun x => ps.length - x.1) (fun x => x.1 ≤ ps.length ∧ rdL W 2 0 (ps.take x.1) = some x.2) (0, []) [0] ⟨Nat.zero_le _, rfl⟩ (Sub.mk' (by decide) trivial ?_ ?_) ?_
  · simp -implicitDefEqProofs
  · simp -implicitDefEqProofs [outW]
  rintro ⟨i, xs⟩ ⟨hi, hx⟩
  simp only at hi hx
  have hxl := rdL_len W 2 0 _ _ hx
  rw [List.length_take, Nat.min_eq_left hi] at hxl
  by_cases hlt : i < ps.length
  · have hd : ps.drop i = ps[i] :: ps.drop (i + 1) := List.drop_eq_getElem_cons hlt
    have hmem : ps[i] ∈ ps := List.getElem_mem hlt
    have htk : ps.take (i + 1) = ps.take i ++ [ps[i]] := by rw [List.take_add_one, List.getElem?_eq_getElem hlt]; rfl
    have hsn := rdL_snoc W 2 ps[i] 0 (ps.take i)
    rw [← htk, hx, List.length_take, Nat.min_eq_left hi, Nat.zero_add] at hsn
    have hdl := joinP_drop ps i
    have hnone : rdO W 2 i ps[i] = none → rdL W 2 0 ps = none := fun h => by
      rw [h] at hsn
      have := rdL_none W 2 (ps.drop (i + 1)) 0 _ hsn
      rwa [List.take_append_drop] at this
    have hcc := hcs _ hmem
    have hWi := hW _ hmem
    rw [hd] at hdl
    have hne : ¬ ps.drop i = [] := by rw [hd]; exact List.cons_ne_nil _ _
    generalize hw : ps[i] = w at *
    simp -implicitDefEqProofs [hlt]
    rw [hd]
    have hC := fnCutP w (ps.drop (i + 1)) hcc (by omega)
    rw [show decide (ps.drop (i + 1) ≠ []) = decide (i + 1 < ps.length) by rw [decide_eq_decide, ← List.length_pos_iff, List.length_drop]; omega] at hC
    refine hC.k ?_
    have hcont : ∀ x v, rdO W 2 i w = some x → (if 2 ≤ i then immV x else regV x) = v → rdL W 2 0 (ps.take (i + 1)) = some (xs ++ [x]) ∧ valsOf 2 0 (xs ++ [x]) = valsOf 2 0 xs ++ [v] := fun x v h1 h2 => by
      rw [h1] at hsn
      refine ⟨hsn, ?_⟩
      rw [valsOf_snoc, Nat.zero_add, hxl, h2]
    have hvl := valsOf_len 2 0 xs
    have hb : i ≤ 1000000 := by
      have : ∀ (l : List (List UInt8)), l.length ≤ (joinP l).length + 1 := fun l => by
        induction l with
        | nil => simp
        | cons q l ih => cases l with
          | nil => simp
          | cons r l => simp only [joinP, List.length_append, List.length_cons] at *; omega
      have := this ps
      omega
    have w1 : IntKind.i64.wrap ((i : Int) + 1) = (i : Int) + 1 := by rw [IntKind.wrap_i64]; omega
    by_cases hreg : 2 ≤ i
    · have hreg2 : (2 : Int) ≤ i := by omega
      have hN := fnReadNum w (W w) hWi
      have hrd : rdO W 2 i w = W w := if_pos hreg
      rw [hrd] at hcont hnone
      by_cases hi0 : i = 0
      · omega
      · simp -implicitDefEqProofs [outW, outX, hi0, hreg2]
        refine hN.k ?_
        cases hWv : W w with
        | none =>
          simp -implicitDefEqProofs [rdV3, immV, hnone hWv, fin_111, errV, insV, outW, outX, hi0]
        | some x =>
          obtain ⟨c1, c2⟩ := hcont x _ hWv (if_pos hreg)
          simp -implicitDefEqProofs [rdV3, immV, rep_succ, rep_zero, qappend, notInt, qelems, Value.oneCell', hvl, hxl, outW, outX, hi0]
          refine ⟨by omega, Again.mk (i + 1, xs ++ [x]) [0, 3] (show ps.length - (i + 1) < ps.length - i by omega) ⟨by omega, c1⟩ (Sub.mk' (by decide) trivial ?_ ?_)⟩
          · simp -implicitDefEqProofs [outX, c2]
            unfold immV
            exact RNs.all (d := 6) (by rw [List.all_append, valsOf_flat]; rfl)
          · simp -implicitDefEqProofs [outW, w1]
    · have hreg2 : ¬ (2 : Int) ≤ i := by omega
      have hG := fnReadReg w
      have hrd : rdO W 2 i w = regP w := if_neg hreg
      rw [hrd] at hcont hnone
      by_cases hi0 : i = 0
      · subst hi0
        simp -implicitDefEqProofs [outW, outX, hreg2]
        refine hG.k ?_
        cases hWv : regP w with
        | none =>
          simp -implicitDefEqProofs [rdV2, regV, hnone hWv, fin_111, errV, insV, outW, outX]
        | some x =>
          obtain ⟨c1, c2⟩ := hcont x _ hWv (if_neg hreg)
          have e0 : xs = [] := List.eq_nil_of_length_eq_zero hxl
          subst e0
          simp -implicitDefEqProofs [rdV2, regV, rep_succ, rep_zero, qappend, notInt, qelems, Value.oneCell', outW, outX]
          refine Again.mk (1, [x]) [0, 3] (show ps.length - 1 < ps.length by omega) ⟨by omega, c1⟩ (Sub.mk' (by decide) trivial ?_ ?_)
          · simp -implicitDefEqProofs [outX, valsOf, regV, RN_flat]
          · simp -implicitDefEqProofs [outW]
      · simp -implicitDefEqProofs [outW, outX, hi0, hreg2]
        refine hG.k ?_
        cases hWv : regP w with
        | none =>
          simp -implicitDefEqProofs [rdV2, regV, hnone hWv, fin_111, errV, insV, outW, outX, hi0]
        | some x =>
          obtain ⟨c1, c2⟩ := hcont x _ hWv (if_neg hreg)
          simp -implicitDefEqProofs [rdV2, regV, rep_succ, rep_zero, qappend, notInt, qelems, Value.oneCell', hvl, hxl, outW, outX, hi0]
          refine ⟨by omega, Again.mk (i + 1, xs ++ [x]) [0, 3] (show ps.length - (i + 1) < ps.length - i by omega) ⟨by omega, c1⟩ (Sub.mk' (by decide) trivial ?_ ?_)⟩
          · simp -implicitDefEqProofs [outX, c2]
            unfold regV
            exact RNs.all (d := 6) (by rw [List.all_append, valsOf_flat]; rfl)
          · simp -implicitDefEqProofs [outW, w1]
  · obtain rfl : i = ps.length := by omega
    have hx2 : rdL W 2 0 ps = some xs := by rwa [List.take_of_length_le (Nat.le_refl _)] at hx
    rw [hx2]
    have hvl := valsOf_len 2 0 xs
    generalize hm : ps.length = m at *
    simp -implicitDefEqProofs [hlt]
    match xs, hxl with
    | [], hxl =>
      subst hxl
      simp -implicitDefEqProofs [outW, outX]
      refine (wthn_111_0 o h0 hA hB hI).k ?_
      simp -implicitDefEqProofs [insV, fin_111, errV]
    | [x0], hxl =>
      subst hxl
      simp -implicitDefEqProofs [outW, outX, valsOf]
      refine PCq.k (PC.reads [1] (wthn_111_1 o x0 [regV x0] h0 hA hB hI rfl) (fit_row rfl rfl) live_ro (RNs.cons (.int _ _) (RNs.cons (.sl _ _ _ _ rfl) RNs.nil)) rfl) ?_
      simp -implicitDefEqProofs [insV, fin_111, errV]
    | [x0, x1], hxl =>
      subst hxl
      simp -implicitDefEqProofs [outW, outX, valsOf]
      refine PCq.k (PC.reads [1] (wthn_111_2 o x0 x1 [regV x0, regV x1] h0 hA hB hI rfl rfl) (fit_row rfl rfl) live_ro (RNs.cons (.int _ _) (RNs.cons (.sl _ _ _ _ rfl) RNs.nil)) rfl) ?_
      simp -implicitDefEqProofs [insV, fin_111, errV]
    | [x0, x1, x2], hxl =>
      subst hxl
      simp -implicitDefEqProofs [outW, outX, valsOf]
      refine PCq.k (PC.reads [1] (wth_111 o x0 x1 x2 [regV x0, regV x1, immV x2] 3 h0 hA hB hI (Nat.le_refl _) rfl rfl rfl) (fit_row rfl rfl) live_ro (RNs.cons (.int _ _) (RNs.cons (.sl _ _ _ _ rfl) RNs.nil)) rfl) ?_
      simp -implicitDefEqProofs [insV, fin_111, errV]
    | x0 :: x1 :: x2 :: x3 :: ys, hxl =>
      have hlen : ¬ m = 0 := by simp at hxl; omega
      simp -implicitDefEqProofs [outW, outX, hlen]
      have hK : ¬ m = 3 := by simp at hxl; omega
      have hK2 : 3 ≤ m := by simp at hxl; omega
      refine PCq.k (PC.reads [1] (wth_111 o x0 x1 x2 (valsOf 2 0 (x0 :: x1 :: x2 :: x3 :: ys)) m h0 hA hB hI hK2 rfl rfl rfl) (fit_row rfl (valsOf_flat 2 0 _)) live_ro (RNs.cons (.int _ _) (RNs.cons (.sl _ _ _ _ rfl) RNs.nil)) rfl) ?_
      simp -implicitDefEqProofs [insV, fin_111, errV, hK]
end Go.Proofs.YtjopikjefpenkaaDoor
/- A printed instruction, parsed. -/
namespace Go.Proofs.YtjopikjefpenkaaDoor
open Go.RowKit
set_option maxRecDepth 100000
set_option maxHeartbeats 8000000
theorem join_joinP : ∀ (p : List UInt8) (ps : List (List UInt8)), Lib.join (p :: ps) [32] = joinP (p :: ps)
  | p, [] => by rw [Lib.join_one]; rfl
  | p, q :: r => by
    have ih := join_joinP q r
    rw [Lib.join_cons] at ih ⊢
    simp only [Lib.joinTail, List.map_cons, List.flatten_cons] at ih ⊢
    rw [joinP, ← ih]
    simp
theorem printS_bs (o : Nat) (a b n : Int) : printS o a b n = bs (joinP ((wordB o).data.toList :: (opndS (shA o) (shB o) (shI o) a b n).map (·.data.toList))) := by
  unfold printS joinS
  rw [List.map_cons, show (⟨#[32]⟩ : ByteArray).data.toList = [32] from rfl, join_joinP]
  rfl
theorem dec_dig : ∀ u : Nat, (Lib.decDigits u).all (digB 10) = true ∧ foldB 10 (Lib.decDigits u) = u := by
  intro u
  induction u using Nat.strongRecOn with
  | _ u ih =>
    have dg : ∀ d, d < 10 → digB 10 (UInt8.ofNat (48 + d)) = true ∧ valV ((10 : Nat) : Int) ((UInt8.ofNat (48 + d)).toNat : Int) = d := fun d hd => by
      have e : ((UInt8.ofNat (48 + d)).toNat : Int) = 48 + d := by rw [UInt8.toNat_ofNat']; omega
      have v : valV ((10 : Nat) : Int) (48 + (d : Int)) = d := by unfold valV; rw [if_pos (by omega)]; omega
      rw [e]
      refine ⟨?_, v⟩
      unfold digB; rw [e, v]; exact decide_eq_true (by omega)
    by_cases h : u < 10
    · rw [Lib.decDigits_one h]
      obtain ⟨g1, g2⟩ := dg u h
      refine ⟨by rw [List.all_cons, g1]; rfl, ?_⟩
      show (0 : Int) * ((10 : Nat) : Int) + valV ((10 : Nat) : Int) _ = _
      rw [g2]; omega
    · have hd : Lib.decDigits u = Lib.decDigits (u / 10) ++ [UInt8.ofNat (48 + u % 10)] := by
        rw [Lib.decDigits.eq_def u, dif_neg h]
      obtain ⟨i1, i2⟩ := ih (u / 10) (by omega)
      obtain ⟨g1, g2⟩ := dg (u % 10) (by omega)
      rw [hd]
      refine ⟨by rw [List.all_append, i1, List.all_cons, g1]; rfl, ?_⟩
      rw [foldB_snoc, i2, g2]
      omega
theorem dec_len : ∀ (k u : Nat), u < 10 ^ (k + 1) → (Lib.decDigits u).length ≤ k + 1
  | 0, u, h => by rw [Lib.decDigits_one (by omega)]; simp
  | k + 1, u, h => by
    by_cases h10 : u < 10
    · rw [Lib.decDigits_one h10]; simp
    · have hd : Lib.decDigits u = Lib.decDigits (u / 10) ++ [UInt8.ofNat (48 + u % 10)] := by
        rw [Lib.decDigits.eq_def u, dif_neg h10]
      have := dec_len k (u / 10) (by rw [Nat.pow_succ] at h; omega)
      rw [hd, List.length_append]; simp; omega
theorem dec_head : ∀ u : Nat, 0 < u → (Lib.decDigits u).head? ≠ some 48 := by
  intro u
  induction u using Nat.strongRecOn with
  | _ u ih =>
    intro h0
    by_cases h : u < 10
    · rw [Lib.decDigits_one h]
      intro e
      have := congrArg UInt8.toNat (Option.some.inj e)
      rw [UInt8.toNat_ofNat', show (48 : UInt8).toNat = 48 from rfl] at this
      omega
    · have hd : Lib.decDigits u = Lib.decDigits (u / 10) ++ [UInt8.ofNat (48 + u % 10)] := by
        rw [Lib.decDigits.eq_def u, dif_neg h]
      have := ih (u / 10) (by omega) (by omega)
      rw [hd]
      cases hl : Lib.decDigits (u / 10) with
      | nil => exact (dec_ne _ hl).elim
      | cons c t => rw [hl] at this; simpa using this
theorem dig_val {c : UInt8} (h : digB 10 c = true) : 48 ≤ c.toNat ∧ c.toNat ≤ 57 := by
  have : valV 10 c.toNat < 10 := by simpa [digB] using h
  unfold valV at this
  split at this
  · omega
  · split at this <;> omega
theorem wordP_dec (u : Nat) (hu : u ≤ 65535) : wordP (Lib.decDigits u) = some (u : Int) ∧ (Lib.decDigits u).head? ≠ some 39 ∧ 32 ∉ Lib.decDigits u ∧ (Lib.decDigits u).length ≤ 5 := by
  obtain ⟨h1, h2⟩ := dec_dig u
  have h3 := dec_len 4 u (by omega)
  have h4 := dec_head u
  have hne := dec_ne u
  have hall : ∀ c ∈ Lib.decDigits u, 48 ≤ c.toNat ∧ c.toNat ≤ 57 := fun c hc => dig_val (List.all_eq_true.1 h1 c hc)
  have no : ∀ k : Nat, k < 48 → ∀ c ∈ Lib.decDigits u, c ≠ UInt8.ofNat k := fun k hk c hc e => by
    have := hall c hc
    rw [e, UInt8.toNat_ofNat'] at this
    omega
  have hN : numR 10 5 (Lib.decDigits u) = some (u : Int) := by unfold numR; rw [if_pos ⟨hne, h3, h1⟩, h2]
  refine ⟨?_, fun e => ?_, fun e => no 32 (by decide) _ e rfl, h3⟩
  · cases hl : Lib.decDigits u with
    | nil => exact (hne hl).elim
    | cons c t =>
      rw [hl] at hall hN h4 hne
      have hc := hall c (by simp)
      have c1 : ¬ c = 120 := fun e => by rw [e] at hc; exact absurd hc.2 (by decide)
      have c2 : ¬ c = 45 := fun e => by rw [e] at hc; exact absurd hc.1 (by decide)
      have c3 : ¬ (c = 48 ∧ t ≠ []) := fun ⟨e, ht⟩ => by
        rcases Nat.eq_zero_or_pos u with h0 | h0
        · subst h0
          rw [Lib.decDigits_one (by decide)] at hl
          cases hl
          exact ht rfl
        · exact h4 h0 (by rw [e]; rfl)
      have hf : fromF (u : Int) = some (u : Int) := by unfold fromF; rw [if_neg (by omega)]; congr 1; omega
      simp only [wordP, if_neg c1, decF, if_neg c2, hN, if_neg c3, hf]
  · cases hl : Lib.decDigits u with
    | nil => exact (hne hl).elim
    | cons c t =>
      rw [hl] at e
      exact no 39 (by decide) c (by rw [hl]; simp) (Option.some.inj e)
theorem reg_list : (List.range 8).all (fun a => (rS (a : Int)).data.toList == [114, UInt8.ofNat (48 + a)]) = true := by kernel_rfl
theorem reg_piece (a : Int) (h0 : 0 ≤ a) (h1 : a < 8) : regP (rS a).data.toList = some a ∧ (rS a).data.toList.head? ≠ some 39 ∧ 32 ∉ (rS a).data.toList ∧ (rS a).data.toList.length ≤ 5 := by
  obtain ⟨k, rfl⟩ := Int.eq_ofNat_of_zero_le h0
  have hk : k < 8 := by omega
  have h := List.all_eq_true.1 reg_list k (List.mem_range.2 hk)
  rw [beq_iff_eq] at h
  rw [h]
  have e : (UInt8.ofNat (48 + k)).toNat = 48 + k := by rw [UInt8.toNat_ofNat']; omega
  refine ⟨?_, by simp, fun hm => ?_, by simp⟩
  · simp only [regP, e]
    rw [if_pos ⟨trivial, by omega, by omega⟩]; congr 1; omega
  · rcases List.mem_cons.1 hm with h | h
    · cases h
    · have := congrArg UInt8.toNat (List.mem_singleton.1 h)
      rw [e] at this
      simp at this; omega
theorem word_pieces : (List.range 24).all (fun i => !(wordB i).data.toList.contains 32 && decide ((wordB i).data.toList.length ≤ 5) && pfindS (bs (wordB i).data.toList) wordsL 0 == some i) = true := by kernel_rfl
theorem word_piece (o : Nat) (h : o < 24) : 32 ∉ (wordB o).data.toList ∧ (wordB o).data.toList.length ≤ 5 ∧ rdV (bs (wordB o).data.toList) = .tuple #[.int .u8 o, .bool true] := by
  have := List.all_eq_true.1 word_pieces o (List.mem_range.2 h)
  simp only [Bool.and_eq_true, Bool.not_eq_true', decide_eq_true_eq, beq_iff_eq] at this
  refine ⟨fun hm => ?_, this.1.2, by unfold rdV; rw [this.2]; rfl⟩
  have h2 := this.1.1
  rw [List.contains_iff_mem.2 hm] at h2
  cases h2
theorem nS_piece (n : Int) (h0 : 0 ≤ n) (h1 : n ≤ 65535) : wordP (nS n).data.toList = some n ∧ (nS n).data.toList.head? ≠ some 39 ∧ 32 ∉ (nS n).data.toList ∧ (nS n).data.toList.length ≤ 5 := by
  obtain ⟨k, rfl⟩ := Int.eq_ofNat_of_zero_le h0
  have e : (nS (k : Int)).data.toList = Lib.decDigits k := by simp [nS, Lib.itoa_nonneg]
  rw [e]
  exact wordP_dec k (by omega)
theorem joinP_len5 : ∀ (l : List (List UInt8)), (∀ w ∈ l, w.length ≤ 5) → (joinP l).length ≤ 6 * l.length
  | [], _ => by simp [joinP]
  | [p], h => by have := h p (by simp); simp [joinP]; omega
  | p :: q :: r, h => by
    have h1 := h p (by simp)
    have ih := joinP_len5 (q :: r) (fun w hw => h w (List.mem_cons_of_mem _ hw))
    simp only [joinP, List.length_append, List.length_cons] at ih ⊢
    omega
theorem shapes_all : (List.range 24).all (fun i => (shA (i : Int) || (!shB (i : Int))) && (!shA (i : Int) || shB (i : Int) || shI (i : Int))) = true := by kernel_rfl
theorem shapes_ok (o : Nat) (h : o < 24) : ((shA (o : Int) || (!shB (o : Int))) && (!shA (o : Int) || shB (o : Int) || shI (o : Int))) = true := List.all_eq_true.1 shapes_all o (List.mem_range.2 h)
/-- WHAT IS READ OF WHAT WAS WRITTEN IS IT. -/
theorem fnParsePrint (o : Nat) (a b n : Int) (ha : 0 ≤ a) (hb : 0 ≤ b) (hn : 0 ≤ n) (hn1 : n ≤ 65535) (ok : okF o a b n) : Fn Tryd.prog 15 [.string (printS o a b n)] (.tuple #[insV o a b n, .int .i64 0]) := by
  have ho : (o : Int) ≤ 23 := ok.1
  have a8 : a < 8 := ok.2.1
  have b8 : b < 8 := ok.2.2.1
  obtain ⟨k1, k2, k3⟩ := ok.2.2.2
  obtain ⟨w1, w2, w3⟩ := word_piece o (by omega)
  obtain ⟨p1, p2, p3, p4⟩ := reg_piece a ha a8
  obtain ⟨q1, q2, q3, q4⟩ := reg_piece b hb b8
  obtain ⟨n1, n2, n3, n4⟩ := nS_piece n hn hn1
  rw [printS_bs]
  have hP : ∀ w : List UInt8, w.length ≤ 5 → w.head? ≠ some 39 → Fn Tryd.prog 53 [.string (bs w)] (optE (wordP w)) := fun w h1 h2 => fnParse w (by omega) h2
  have hlen : ∀ (l : List (List UInt8)), l.length ≤ 3 → (∀ w ∈ l, w.length ≤ 5) → (joinP ((wordB o).data.toList :: l)).length ≤ 1000000 := fun l h1 h2 => by
    have := joinP_len5 ((wordB o).data.toList :: l) (fun w hw => by
      rcases List.mem_cons.1 hw with rfl | hw
      · exact w2
      · exact h2 w hw)
    simp only [List.length_cons] at this
    omega
  have h0 : (0 : Int) ≤ o := by omega
  cases hA : shA o <;> cases hB : shB o <;> cases hI : shI o
  · have e1 : a = 0 := k1.resolve_left (by rw [hA]; decide)
    have e2 : b = 0 := k2.resolve_left (by rw [hB]; decide)
    have e3 : n = 0 := k3.resolve_left (by rw [hI]; decide)
    subst e1; subst e2; subst e3
    exact parse_000 wordP o _ [] h0 hA hB hI w3 w1 (by simp) (hlen [] (by simp) (by simp)) (by simp)
  · have e1 : a = 0 := k1.resolve_left (by rw [hA]; decide)
    subst e1
    have e2 : b = 0 := k2.resolve_left (by rw [hB]; decide)
    subst e2
    have hL3 : ∀ w ∈ [(nS n).data.toList], 32 ∉ w := fun w hw => by
      simp only [List.mem_cons, List.not_mem_nil, or_false] at hw
      rcases hw with rfl
      · exact n3
    have hL4 : ∀ w ∈ [(nS n).data.toList], w.length ≤ 5 := fun w hw => by
      simp only [List.mem_cons, List.not_mem_nil, or_false] at hw
      rcases hw with rfl
      · exact n4
    have hLW : ∀ w ∈ [(nS n).data.toList], Fn Tryd.prog 53 [.string (bs w)] (optE (wordP w)) := fun w hw => by
      simp only [List.mem_cons, List.not_mem_nil, or_false] at hw
      rcases hw with rfl
      · exact hP _ n4 n2
    have hr : rdL wordP 0 0 [(nS n).data.toList] = some [n] := by
      simp [rdL, rdO, n1]
    have := parse_001 wordP o (wordB o).data.toList [(nS n).data.toList] h0 hA hB hI w3 w1 hL3 (hlen _ (by simp) hL4) hLW
    rw [hr] at this
    exact this
  · exfalso; have := shapes_ok o (by omega); rw [hA, hB, hI] at this; cases this
  · exfalso; have := shapes_ok o (by omega); rw [hA, hB, hI] at this; cases this
  · exfalso; have := shapes_ok o (by omega); rw [hA, hB, hI] at this; cases this
  · have e2 : b = 0 := k2.resolve_left (by rw [hB]; decide)
    subst e2
    have hL3 : ∀ w ∈ [(rS a).data.toList, (nS n).data.toList], 32 ∉ w := fun w hw => by
      simp only [List.mem_cons, List.not_mem_nil, or_false] at hw
      rcases hw with rfl | rfl
      · exact p3
      · exact n3
    have hL4 : ∀ w ∈ [(rS a).data.toList, (nS n).data.toList], w.length ≤ 5 := fun w hw => by
      simp only [List.mem_cons, List.not_mem_nil, or_false] at hw
      rcases hw with rfl | rfl
      · exact p4
      · exact n4
    have hLW : ∀ w ∈ [(rS a).data.toList, (nS n).data.toList], Fn Tryd.prog 53 [.string (bs w)] (optE (wordP w)) := fun w hw => by
      simp only [List.mem_cons, List.not_mem_nil, or_false] at hw
      rcases hw with rfl | rfl
      · exact hP _ p4 p2
      · exact hP _ n4 n2
    have hr : rdL wordP 1 0 [(rS a).data.toList, (nS n).data.toList] = some [a, n] := by
      simp [rdL, rdO, p1, n1]
    have := parse_101 wordP o (wordB o).data.toList [(rS a).data.toList, (nS n).data.toList] h0 hA hB hI w3 w1 hL3 (hlen _ (by simp) hL4) hLW
    rw [hr] at this
    exact this
  · have e3 : n = 0 := k3.resolve_left (by rw [hI]; decide)
    subst e3
    have hL3 : ∀ w ∈ [(rS a).data.toList, (rS b).data.toList], 32 ∉ w := fun w hw => by
      simp only [List.mem_cons, List.not_mem_nil, or_false] at hw
      rcases hw with rfl | rfl
      · exact p3
      · exact q3
    have hL4 : ∀ w ∈ [(rS a).data.toList, (rS b).data.toList], w.length ≤ 5 := fun w hw => by
      simp only [List.mem_cons, List.not_mem_nil, or_false] at hw
      rcases hw with rfl | rfl
      · exact p4
      · exact q4
    have hLW : ∀ w ∈ [(rS a).data.toList, (rS b).data.toList], Fn Tryd.prog 53 [.string (bs w)] (optE (wordP w)) := fun w hw => by
      simp only [List.mem_cons, List.not_mem_nil, or_false] at hw
      rcases hw with rfl | rfl
      · exact hP _ p4 p2
      · exact hP _ q4 q2
    have hr : rdL wordP 2 0 [(rS a).data.toList, (rS b).data.toList] = some [a, b] := by
      simp [rdL, rdO, p1, q1]
    have := parse_110 wordP o (wordB o).data.toList [(rS a).data.toList, (rS b).data.toList] h0 hA hB hI w3 w1 hL3 (hlen _ (by simp) hL4) hLW
    rw [hr] at this
    exact this
  · have hL3 : ∀ w ∈ [(rS a).data.toList, (rS b).data.toList, (nS n).data.toList], 32 ∉ w := fun w hw => by
      simp only [List.mem_cons, List.not_mem_nil, or_false] at hw
      rcases hw with rfl | rfl | rfl
      · exact p3
      · exact q3
      · exact n3
    have hL4 : ∀ w ∈ [(rS a).data.toList, (rS b).data.toList, (nS n).data.toList], w.length ≤ 5 := fun w hw => by
      simp only [List.mem_cons, List.not_mem_nil, or_false] at hw
      rcases hw with rfl | rfl | rfl
      · exact p4
      · exact q4
      · exact n4
    have hLW : ∀ w ∈ [(rS a).data.toList, (rS b).data.toList, (nS n).data.toList], Fn Tryd.prog 53 [.string (bs w)] (optE (wordP w)) := fun w hw => by
      simp only [List.mem_cons, List.not_mem_nil, or_false] at hw
      rcases hw with rfl | rfl | rfl
      · exact hP _ p4 p2
      · exact hP _ q4 q2
      · exact hP _ n4 n2
    have hr : rdL wordP 2 0 [(rS a).data.toList, (rS b).data.toList, (nS n).data.toList] = some [a, b, n] := by
      simp [rdL, rdO, p1, q1, n1]
    have := parse_111 wordP o (wordB o).data.toList [(rS a).data.toList, (rS b).data.toList, (nS n).data.toList] h0 hA hB hI w3 w1 hL3 (hlen _ (by simp) hL4) hLW
    rw [hr] at this
    exact this
end Go.Proofs.YtjopikjefpenkaaDoor

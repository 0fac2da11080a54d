/- A word's digits: value, number. -/
import Derived.Test.YtjopikjefpenkaaDoorGe
import Derived.Lib.DecodeN
import Derived.Test.YtjopikjefpenkaaDoorGg
set_option linter.unusedSimpArgs false
set_option linter.unusedVariables false
set_option linter.unusedSectionVars false
namespace Go.Proofs.YtjopikjefpenkaaDoor
open Go.RowKit
set_option maxRecDepth 100000
set_option maxHeartbeats 8000000
def oN (o : Option (Prop × Value × List PO)) [c : KVH] : Prop := match o with
  | some (_, v, h') => c.k v h'
  | none => False
theorem oN_some (p : Prop) (v : Value) (h' : List PO) (K : Value → List PO → Prop) : @oN (some (p, v, h')) ⟨K⟩ = K v h' := rfl
theorem pop_next {P : Program} {e : Env} {h : List PO} {K Kp : Value → List PO → Prop} {it : Operand} : pop P (.next it true) e h K Kp = @oN (qw P e h (.next it true)) ⟨K⟩ := rfl
/-- A sign's value as a digit, to a base. -/
def valV (base c : Int) : Int := if 48 ≤ c ∧ c ≤ 57 then c - 48 else if 97 ≤ c ∧ c ≤ 102 then c - 87 else base
theorem fnValue (c base : Int) (h0 : 0 ≤ c) (h1 : c ≤ 1114111) : Fn Tryd.prog 96 [.int .i32 c, .int .i64 base] (.tuple #[.int .i64 (valV base c), .bool (decide (valV base c < base))]) := by
  refine Fn.of ?_ rfl rfl
  have e1 : IntKind.i32.wrap (c - 48) = c - 48 := by rw [IntKind.wrap_i32]; omega
  have e2 : IntKind.i64.wrap (c - 48) = c - 48 := by rw [IntKind.wrap_i64]; omega
  have e3 : IntKind.i32.wrap (c - 97) = c - 97 := by rw [IntKind.wrap_i32]; omega
  have e4 : IntKind.i64.wrap (c - 97) = c - 97 := by rw [IntKind.wrap_i64]; omega
  have e5 : IntKind.i64.wrap (c - 97 + 10) = c - 87 := by rw [IntKind.wrap_i64]; omega
  refine pc_of Tryd.func96 rfl (by decide) (by kernel_rfl) (by show 2 ≤ _; decide) (SW.of mixed _ _ _ ?_)
  by_cases a1 : 48 ≤ c
  all_goals by_cases a2 : c ≤ 57
  all_goals by_cases a3 : 97 ≤ c
  all_goals by_cases a4 : c ≤ 102
  all_goals simp -implicitDefEqProofs [a1, a2, a3, a4, e1, e2, e3, e4, e5, valV]
/-- A byte that is a digit. -/
def digB (base : Nat) (b : UInt8) : Bool := decide (valV base b.toNat < base)
def foldB (base : Nat) (l : List UInt8) : Int := l.foldl (fun n b => n * base + valV base b.toNat) 0
theorem foldB_snoc (base : Nat) (l : List UInt8) (b : UInt8) : foldB base (l ++ [b]) = foldB base l * base + valV base b.toNat := by simp [foldB]
def numR (base most : Nat) (l : List UInt8) : Option Int := if l ≠ [] ∧ l.length ≤ most ∧ l.all (digB base) = true then some (foldB base l) else none
def numV (base most : Nat) (l : List UInt8) : Value := match numR base most l with
  | some n => .tuple #[.int .i64 n, .bool true]
  | none => .tuple #[.int .i64 0, .bool false]
theorem numV_flat (base most : Nat) (l : List UInt8) : flat 6 (numV base most l) = true := by unfold numV; split <;> rfl
theorem dec_asc (s : ByteArray) (i : Nat) (h : i < s.size) : ((s.toList.getD i 0).toNat < 128 → Utf8.decode s i = ((s.toList.getD i 0).toNat, 1)) ∧ (128 ≤ (s.toList.getD i 0).toNat → 128 ≤ (Utf8.decode s i).1) ∧ (Utf8.decode s i).1 ≤ 1114111 := by
  have hg : (s.get! i).toNat = (s.toList.getD i 0).toNat := by
    have hl : i < s.data.toList.length := by simpa using h
    have : s.get! i = s.data.toList.getD i 0 := by
      unfold ByteArray.get!
      rw [List.getD_eq_getElem?_getD, List.getElem?_eq_getElem hl]
      show s.data[i]! = _
      rw [getElem!_pos s.data i (by simpa using h)]
      simp
    rw [this, ba_toList]
  rw [Lib.decode_at, hg]
  have hlt := (s.toList.getD i 0).toNat_lt
  generalize (s.toList.getD i 0).toNat = b at *
  refine ⟨fun hb => ?_, fun hb => ?_, ?_⟩
  · unfold Lib.decodeN; rw [if_pos hb]
  · unfold Lib.decodeN
    repeat' split
    all_goals (simp only; omega)
  · unfold Lib.decodeN
    repeat' split
    all_goals (simp only; omega)
theorem val_hi (base : Nat) {c : Int} (h : 128 ≤ c) : valV base c = base := by unfold valV; rw [if_neg (by omega), if_neg (by omega)]
theorem valV_rng (base : Nat) (hb : base ≤ 16) (c : Int) (h : valV base c < base) : 0 ≤ valV base c ∧ valV base c ≤ 15 := by
  unfold valV at *
  split at h
  · rw [if_pos (by assumption)]; omega
  · split at h
    · rw [if_neg (by assumption), if_pos (by assumption)]; omega
    · omega
theorem fnNumber (s : ByteArray) (base most : Nat) (hb : base = 10 ∨ base = 16) (hm : most ≤ 5) : Fn Tryd.prog 78 [.string s, .int .i64 base, .int .i64 most] (numV base most s.toList) := by
  refine Fn.of ?_ rfl (numV_flat _ _ _)
  have hlen : s.toList.length = s.size := by rw [ba_toList]; exact Array.length_toList
  refine pc_of Tryd.func78 rfl (by decide) (by kernel_rfl) (by show 3 ≤ _; decide) (SW.of mixed _ _ _ ?_)
  by_cases h0 : s.toList = []
  · have hn : numV base most [] = .tuple #[.int .i64 0, .bool false] := by unfold numV numR; rw [if_neg (fun h => h.1 rfl)]
    simp -implicitDefEqProofs [h0, hn]
  by_cases h1 : (most : Int) < s.size
  · have hn : numV base most s.toList = .tuple #[.int .i64 0, .bool false] := by
      unfold numV numR; rw [if_neg (fun h => by have := h.2.1; omega)]
    simp -implicitDefEqProofs [h0, h1, hn]
  have hle : s.size ≤ 5 := by omega
  simp -implicitDefEqProofs [h0, h1, pop_range]
  refine pwp_loop_st (fun i : Nat => ⟨[(22, .pointer (some ⟨0, 0, none⟩)), (8, .int .i64 (foldB base (s.toList.take i))), (1, .int .i64 base)], [.si s i]⟩) (fun i => s.size - i) (fun i => i ≤ s.size ∧ (s.toList.take i).all (digB base) = true ∧ 0 ≤ foldB base (s.toList.take i) ∧ foldB base (s.toList.take i) < 16 ^ i) 0 [0] ⟨Nat.zero_le _, by simp, by simp [foldB], by simp [foldB]⟩ (Sub.mk' (by decide) trivial ?_ ?_) ?_
  · simp -implicitDefEqProofs [ORN]
  · simp -implicitDefEqProofs [foldB]
  rintro i ⟨hi, hall, r0, r1⟩
  by_cases hlt : i < s.size
  · obtain ⟨d1, d2, d3⟩ := dec_asc s i hlt
    have hget : s.toList[i]? = some (s.toList.getD i 0) := by
      rw [List.getD_eq_getElem?_getD, List.getElem?_eq_getElem (by omega)]; rfl
    have htake : s.toList.take (i + 1) = s.toList.take i ++ [s.toList.getD i 0] := by
      rw [List.take_add_one, hget]; rfl
    generalize hbv : s.toList.getD i 0 = b at *
    simp -implicitDefEqProofs [pop_next, qw, hlt, oN_some]
    refine (fnValue ((Utf8.decode s i).1 : Nat) base (by omega) (by omega)).k ?_
    by_cases hdig : digB base b = true
    · have hv : valV base b.toNat < base := by simpa [digB] using hdig
      have hb128 : b.toNat < 128 := by
        rcases Nat.lt_or_ge b.toNat 128 with h | h
        · exact h
        · have := val_hi base (c := b.toNat) (by omega); omega
      obtain ⟨v0, v1⟩ := valV_rng base (by omega) _ hv
      have hpow : (16 : Int) ^ i ≤ 16 ^ 5 := by
        have : 16 ^ i ≤ 16 ^ 5 := Nat.pow_le_pow_right (by decide : 0 < 16) (by omega)
        exact_mod_cast this
      have hpow2 : (16 : Int) ^ (i + 1) = 16 ^ i * 16 := Int.pow_succ _ _
      generalize (16 : Int) ^ i = p at *
      have hF := foldB_snoc base (s.toList.take i) b
      rw [← htake] at hF
      generalize foldB base (s.toList.take i) = f at *
      have m0 : 0 ≤ f * base := Int.mul_nonneg r0 (by omega)
      have m1 : f * base ≤ f * 16 := Int.mul_le_mul_of_nonneg_left (by omega) r0
      have w1 : IntKind.i64.wrap (f * base) = f * base := by rw [IntKind.wrap_i64]; omega
      have w2 : IntKind.i64.wrap (f * base + valV base b.toNat) = f * base + valV base b.toNat := by rw [IntKind.wrap_i64]; omega
      have hall2 : (s.toList.take (i + 1)).all (digB base) = true := by rw [htake, List.all_append, hall]; simpa using hdig
      rw [d1 hb128]
      simp -implicitDefEqProofs [hv, w1, w2]
      refine Again.mk (i + 1) [0] (by omega) ⟨by omega, by simpa using hall2, by rw [hF]; omega, by rw [hF, hpow2]; omega⟩ (Sub.mk' (by decide) trivial ?_ ?_)
      · simp -implicitDefEqProofs [ORN]
      · simp -implicitDefEqProofs [hF]
    · have hv : ¬ valV base ((Utf8.decode s i).1 : Nat) < base := by
        rcases Nat.lt_or_ge b.toNat 128 with h | h
        · rw [d1 h]; simpa [digB] using hdig
        · rw [val_hi base (by have := d2 h; omega)]; omega
      have hn : numV base most s.toList = .tuple #[.int .i64 0, .bool false] := by
        have : ¬ s.toList.all (digB base) = true := fun h => hdig (List.all_eq_true.1 h b (List.mem_of_getElem? hget))
        unfold numV numR; rw [if_neg (fun h => this h.2.2)]
      simp -implicitDefEqProofs [hv, hn]
  · have hi' : i = s.size := by omega
    have ht : s.toList.take i = s.toList := List.take_of_length_le (by omega)
    rw [ht] at hall
    have hn : numV base most s.toList = .tuple #[.int .i64 (foldB base s.toList), .bool true] := by
      have h2 : s.toList.length ≤ most := by omega
      unfold numV numR
      rw [if_pos ⟨h0, h2, hall⟩]
    simp -implicitDefEqProofs [pop_next, qw, hlt, oN_some, ht, hn]
end Go.Proofs.YtjopikjefpenkaaDoor
/- A word out of digits. -/
namespace Go.Proofs.YtjopikjefpenkaaDoor
open Go.RowKit
set_option maxRecDepth 100000
set_option maxHeartbeats 8000000
/-- A string of bytes. -/
def bs (l : List UInt8) : ByteArray := ⟨l.toArray⟩
@[simp] theorem bs_toList (l : List UInt8) : (bs l).toList = l := by rw [ba_toList]; simp [bs]
@[simp] theorem bs_data (l : List UInt8) : (bs l).data.toList = l := by simp [bs]
@[simp] theorem bs_size (l : List UInt8) : (bs l).size = l.length := by show l.toArray.size = _; simp
theorem bs_of (s : ByteArray) : s = bs s.toList := by rw [ba_toList]; rfl
theorem bs_ext (l : List UInt8) (i j : Nat) : (bs l).extract i j = bs ((l.take j).drop i) := by
  rw [bs_of ((bs l).extract i j)]
  congr 1
  rw [ba_toList, ByteArray.data_extract, Array.toList_extract, List.extract_eq_drop_take', bs_data]
theorem fold_rng (base : Nat) (hb : base ≤ 16) : ∀ (l : List UInt8) (acc : Int), l.all (digB base) = true → 0 ≤ acc → 0 ≤ l.foldl (fun n b => n * base + valV base b.toNat) acc ∧ l.foldl (fun n b => n * base + valV base b.toNat) acc + 1 ≤ (acc + 1) * 16 ^ l.length
  | [], acc, _, h0 => by simp; exact h0
  | b :: l, acc, h, h0 => by
    rw [List.all_cons, Bool.and_eq_true] at h
    have hv : valV base b.toNat < base := by simpa [digB] using h.1
    obtain ⟨v0, v1⟩ := valV_rng base hb _ hv
    have m0 : 0 ≤ acc * base := Int.mul_nonneg h0 (by omega)
    have m1 : acc * base ≤ acc * 16 := Int.mul_le_mul_of_nonneg_left (by omega) h0
    obtain ⟨i0, i1⟩ := fold_rng base hb l (acc * base + valV base b.toNat) h.2 (by omega)
    rw [List.foldl_cons]
    refine ⟨i0, Int.le_trans i1 ?_⟩
    rw [List.length_cons, Int.pow_succ, Int.mul_comm (16 ^ l.length) 16, ← Int.mul_assoc]
    have hp : (0 : Int) ≤ 16 ^ l.length := by exact_mod_cast Nat.zero_le _
    exact Int.mul_le_mul_of_nonneg_right (by omega) hp
theorem numR_rng {base most : Nat} {l : List UInt8} {n : Int} (hb : base ≤ 16) (h : numR base most l = some n) : 0 ≤ n ∧ n < 16 ^ most := by
  unfold numR at h
  split at h
  · rename_i hc
    cases h
    obtain ⟨h0, h1⟩ := fold_rng base hb l 0 hc.2.2 (by decide)
    refine ⟨h0, ?_⟩
    have hp : (16 : Int) ^ l.length ≤ 16 ^ most := by exact_mod_cast Nat.pow_le_pow_right (by decide : 0 < 16) hc.2.1
    have : foldB base l = l.foldl (fun n b => n * base + valV base b.toNat) 0 := rfl
    omega
  · cases h
def fromF (n : Int) : Option Int := if n < -32768 ∨ 65536 ≤ n then none else some (n % 65536)
def optV : Option Int → Value
  | some n => .tuple #[.int .u16 n, .bool true]
  | none => .tuple #[.int .u16 0, .bool false]
def optE : Option Int → Value
  | some n => .tuple #[.int .u16 n, .int .i64 0]
  | none => .tuple #[.int .u16 0, .int .i64 3]
theorem optV_flat (o : Option Int) : flat 6 (optV o) = true := by cases o <;> rfl
theorem optE_flat (o : Option Int) : flat 6 (optE o) = true := by cases o <;> rfl
theorem fnFrom (n : Int) : Fn Tryd.prog 99 [.int .i64 n] (optV (fromF n)) := by
  refine Fn.of ?_ rfl (optV_flat _)
  have e1 : IntKind.u16.wrap n = n % 65536 := IntKind.wrap_u16 n
  refine pc_of Tryd.func99 rfl (by decide) (by kernel_rfl) (by show 1 ≤ _; decide) (SW.of mixed _ _ _ ?_)
  by_cases h1 : n < -32768
  · simp -implicitDefEqProofs [h1, fromF, optV]
  · by_cases h2 : 65536 ≤ n
    · simp -implicitDefEqProofs [h1, h2, fromF, optV]
    · simp -implicitDefEqProofs [h1, h2, fromF, optV, e1]
/-- Digits with a sign. -/
def decF (c : UInt8) (t : List UInt8) : Option Int :=
  if c = 45 then match numR 10 5 t with
    | some n => if t.head? = some 48 then none else fromF (-n)
    | none => none
  else match numR 10 5 (c :: t) with
    | some n => if c = 48 ∧ t ≠ [] then none else fromF n
    | none => none
theorem u8_eq (c : UInt8) (n : Nat) (hn : n < 256) : (((c.toNat : Int) == (n : Int)) = (c == UInt8.ofNat n)) := by
  rw [Bool.eq_iff_iff, beq_iff_eq, beq_iff_eq]
  constructor
  · intro h
    apply UInt8.toNat_inj.1
    rw [UInt8.toNat_ofNat', Nat.mod_eq_of_lt hn]; omega
  · intro h; rw [h, UInt8.toNat_ofNat', Nat.mod_eq_of_lt hn]
theorem fnDecimal (c : UInt8) (t : List UInt8) (ht : t.length ≤ 1000000) : Fn Tryd.prog 80 [.string (bs (c :: t))] (optV (decF c t)) := by
  refine Fn.of ?_ rfl (optV_flat _)
  have hx : (bs (c :: t)).extract 1 (t.length + 1) = bs t := by rw [bs_ext]; simp
  have hsz : (1 : Int) ≤ (t.length : Int) + 1 := by omega
  have N1 : Fn Tryd.prog 78 [.string (bs t), .int .i64 10, .int .i64 5] (numV 10 5 t) := by
    have := fnNumber (bs t) 10 5 (.inl rfl) (by decide)
    rw [bs_toList] at this; exact this
  have N2 : Fn Tryd.prog 78 [.string (bs (c :: t)), .int .i64 10, .int .i64 5] (numV 10 5 (c :: t)) := by
    have := fnNumber (bs (c :: t)) 10 5 (.inl rfl) (by decide)
    rw [bs_toList] at this; exact this
  refine pc_of Tryd.func80 rfl (by decide) (by kernel_rfl) (by show 1 ≤ _; decide) (SW.of mixed _ _ _ ?_)
  by_cases hc : c = 45
  · subst hc
    simp -implicitDefEqProofs [hx, hsz]
    refine N1.k ?_
    cases hN : numR 10 5 t with
    | none => simp -implicitDefEqProofs [numV, hN, decF, optV]
    | some n =>
      obtain ⟨n0, n1⟩ := numR_rng (by decide) hN
      have w1 : IntKind.i64.wrap (-n) = -n := by rw [IntKind.wrap_i64]; omega
      cases t with
      | nil => simp [numR] at hN
      | cons d u =>
        by_cases hd : d = 48
        · subst hd
          simp -implicitDefEqProofs [numV, hN, decF, optV]
          skip
        · have hd2 : ¬ (d.toNat : Int) = 48 := fun h => hd (UInt8.toNat_inj.1 (by show d.toNat = 48; omega))
          have hlt : (u.length : Int) < u.length + 1 := by omega
          simp -implicitDefEqProofs [numV, hN, hd2, w1, hlt]
          refine (fnFrom (-n)).k ?_
          have hf : decF 45 (d :: u) = fromF (-n) := by simp [decF, hN, hd]
          rw [hf]
          cases fromF (-n) <;> simp -implicitDefEqProofs [optV]
  · have hc2 : ¬ (c.toNat : Int) = 45 := fun h => hc (UInt8.toNat_inj.1 (by show c.toNat = 45; omega))
    simp -implicitDefEqProofs [hc2]
    refine N2.k ?_
    cases hN : numR 10 5 (c :: t) with
    | none => simp -implicitDefEqProofs [numV, hN, decF, optV, hc]
    | some n =>
      by_cases h0 : c = 48
      · subst h0
        cases t with
        | nil =>
          simp -implicitDefEqProofs [numV, hN]
          refine (fnFrom n).k ?_
          have hf : decF 48 [] = fromF n := by simp [decF, hN]
          rw [hf]
          cases fromF n <;> simp -implicitDefEqProofs [optV]
        | cons d u =>
          simp -implicitDefEqProofs [numV, hN, decF, optV]
          omega
      · have h02 : ¬ (c.toNat : Int) = 48 := fun h => h0 (UInt8.toNat_inj.1 (by show c.toNat = 48; omega))
        simp -implicitDefEqProofs [numV, hN, h02]
        refine (fnFrom n).k ?_
        have hf : decF c t = fromF n := by simp [decF, hN, hc, h0]
        rw [hf]
        cases fromF n <;> simp -implicitDefEqProofs [optV]
/-- What a text says as a word, where it doesn't begin with a quote. -/
def wordP : List UInt8 → Option Int
  | [] => none
  | c :: t => if c = 120 then numR 16 4 t else decF c t
theorem fnParse (l : List UInt8) (hl : l.length ≤ 1000000) (hq : l.head? ≠ some 39) : Fn Tryd.prog 53 [.string (bs l)] (optE (wordP l)) := by
  refine Fn.of ?_ rfl (optE_flat _)
  cases l with
  | nil =>
    refine pc_of Tryd.func53 rfl (by decide) (by kernel_rfl) (by show 1 ≤ _; decide) (SW.of mixed _ _ _ ?_)
    simp -implicitDefEqProofs [wordP, optE]
  | cons c t =>
    have hx : (bs (c :: t)).extract 1 (t.length + 1) = bs t := by rw [bs_ext]; simp
    have hsz : (1 : Int) ≤ (t.length : Int) + 1 := by omega
    have hc39 : ¬ c = 39 := fun h => hq (by rw [h]; rfl)
    have h39 : ¬ (c.toNat : Int) = 39 := fun h => hc39 (UInt8.toNat_inj.1 (by show c.toNat = 39; omega))
    have N1 : Fn Tryd.prog 78 [.string (bs t), .int .i64 16, .int .i64 4] (numV 16 4 t) := by
      have := fnNumber (bs t) 16 4 (.inr rfl) (by decide)
      rw [bs_toList] at this; exact this
    refine pc_of Tryd.func53 rfl (by decide) (by kernel_rfl) (by show 1 ≤ _; decide) (SW.of mixed _ _ _ ?_)
    by_cases hc : c = 120
    · subst hc
      simp -implicitDefEqProofs [hx, hsz]
      refine N1.k ?_
      cases hN : numR 16 4 t with
      | none => simp -implicitDefEqProofs [numV, hN, wordP, optE]
      | some n =>
        obtain ⟨n0, n1⟩ := numR_rng (by decide) hN
        have w1 : IntKind.u16.wrap n = n := by rw [IntKind.wrap_u16]; omega
        simp -implicitDefEqProofs [numV, hN, wordP, optE, w1]
    · have hc2 : ¬ (c.toNat : Int) = 120 := fun h => hc (UInt8.toNat_inj.1 (by show c.toNat = 120; omega))
      simp -implicitDefEqProofs [hc2, h39]
      refine (fnDecimal c t (by simp at hl; omega)).k ?_
      have hw : wordP (c :: t) = decF c t := by simp [wordP, hc]
      rw [hw]
      cases decF c t <;> simp -implicitDefEqProofs [optV, optE]
end Go.Proofs.YtjopikjefpenkaaDoor
/- An operation with operands. -/
namespace Go.Proofs.YtjopikjefpenkaaDoor
open Go.RowKit
set_option maxRecDepth 100000
set_option linter.unusedSimpArgs false
set_option maxHeartbeats 16000000
def regV (r : Int) : Value := .iface 107 (.int .u8 r)
def immV (n : Int) : Value := .iface 108 (.int .u16 n)
theorem wth_000 (o : Int) (h0 : 0 ≤ o) (hA : shA o = false) (hB : shB o = false) (hI : shI o = false) : Fn Tryd.prog 43 [.int .u8 o, .slice none 0 0] (.tuple #[insV o 0 0 0, .bool true]) := by
  refine Fn.of ?_ rfl rfl
  refine pc_of Tryd.func43 rfl (by decide) (by kernel_rfl) (by show 2 ≤ _; decide) (SW.of mixed _ _ _ ?_)
  simp -implicitDefEqProofs
  refine (fnShape o h0).k ?_
  simp -implicitDefEqProofs [hA, hB, hI, rep_succ, rep_zero]
  refine pwp_rounds 3 ?_
  rw [Rounds_succ]
  simp -implicitDefEqProofs [rep_succ, rep_zero]
  rw [Rounds_succ]
  simp -implicitDefEqProofs [rep_succ, rep_zero]
  rw [Rounds_succ]
  simp -implicitDefEqProofs [hI, insV]
theorem wth_001 (o n : Int) (cs : List Value) (L : Nat) (h0 : 0 ≤ o) (hA : shA o = false) (hB : shB o = false) (hI : shI o = true) (hL : 1 ≤ L) (c0 : cs[0]? = some (immV n)) : PC Tryd.prog 43 [.int .u8 o, .slice (some ⟨0, 0, some 1⟩) L L] [.ro cs] (fun v h' => v = .tuple #[insV o 0 0 n, .bool (decide (L = 1))] ∧ Kept [.ro cs] h') fun _ _ => False := by
  unfold immV at *
  obtain ⟨M, rfl⟩ : ∃ M, L = M + 1 := ⟨L - 1, by omega⟩
  have e1 : ¬ (M : Int) + 1 = 0 := by omega
  have p1 : 0 < (M : Int) + 1 := by omega
  have q1 : 1 ≤ (M : Int) + 1 := by omega
  have t1 : ((M : Int) + 1 - 1).toNat = M + 0 := by omega
  refine pc_of Tryd.func43 rfl (by decide) (by kernel_rfl) (by show 2 ≤ _; decide) (SW.of mixed _ _ _ ?_)
  simp -implicitDefEqProofs
  refine (fnShape o h0).k ?_
  simp -implicitDefEqProofs [hA, hB, hI, rep_succ, rep_zero]
  refine pwp_rounds 3 ?_
  rw [Rounds_succ]
  simp -implicitDefEqProofs [rep_succ, rep_zero, c0, e1, p1, q1, t1]
  rw [Rounds_succ]
  simp -implicitDefEqProofs [rep_succ, rep_zero, c0, e1, p1, q1, t1]
  rw [Rounds_succ]
  simp -implicitDefEqProofs [rep_succ, rep_zero, c0, e1, p1, q1, t1, hI, insV, Kept]
  rw [Bool.eq_iff_iff]; simp
theorem wth_101 (o r1 n : Int) (cs : List Value) (L : Nat) (h0 : 0 ≤ o) (hA : shA o = true) (hB : shB o = false) (hI : shI o = true) (hL : 2 ≤ L) (c0 : cs[0]? = some (regV r1)) (c1 : cs[1]? = some (immV n)) : PC Tryd.prog 43 [.int .u8 o, .slice (some ⟨0, 0, some 1⟩) L L] [.ro cs] (fun v h' => v = .tuple #[insV o r1 0 n, .bool (decide (L = 2))] ∧ Kept [.ro cs] h') fun _ _ => False := by
  unfold regV immV at *
  obtain ⟨M, rfl⟩ : ∃ M, L = M + 2 := ⟨L - 2, by omega⟩
  have e2 : ¬ (M : Int) + 2 = 0 := by omega
  have p2 : 0 < (M : Int) + 2 := by omega
  have q2 : 1 ≤ (M : Int) + 2 := by omega
  have t2 : ((M : Int) + 2 - 1).toNat = M + 1 := by omega
  have e1 : ¬ (M : Int) + 1 = 0 := by omega
  have p1 : 0 < (M : Int) + 1 := by omega
  have q1 : 1 ≤ (M : Int) + 1 := by omega
  have t1 : ((M : Int) + 1 - 1).toNat = M + 0 := by omega
  refine pc_of Tryd.func43 rfl (by decide) (by kernel_rfl) (by show 2 ≤ _; decide) (SW.of mixed _ _ _ ?_)
  simp -implicitDefEqProofs
  refine (fnShape o h0).k ?_
  simp -implicitDefEqProofs [hA, hB, hI, rep_succ, rep_zero]
  refine pwp_rounds 3 ?_
  rw [Rounds_succ]
  simp -implicitDefEqProofs [rep_succ, rep_zero, c0, c1, e2, p2, q2, t2, e1, p1, q1, t1]
  rw [Rounds_succ]
  simp -implicitDefEqProofs [rep_succ, rep_zero, c0, c1, e2, p2, q2, t2, e1, p1, q1, t1]
  rw [Rounds_succ]
  simp -implicitDefEqProofs [rep_succ, rep_zero, c0, c1, e2, p2, q2, t2, e1, p1, q1, t1, hI, insV, Kept]
  rw [Bool.eq_iff_iff]; simp
theorem wth_110 (o r1 r2 : Int) (cs : List Value) (L : Nat) (h0 : 0 ≤ o) (hA : shA o = true) (hB : shB o = true) (hI : shI o = false) (hL : 2 ≤ L) (c0 : cs[0]? = some (regV r1)) (c1 : cs[1]? = some (regV r2)) : PC Tryd.prog 43 [.int .u8 o, .slice (some ⟨0, 0, some 1⟩) L L] [.ro cs] (fun v h' => v = .tuple #[insV o r1 r2 0, .bool (decide (L = 2))] ∧ Kept [.ro cs] h') fun _ _ => False := by
  unfold regV at *
  obtain ⟨M, rfl⟩ : ∃ M, L = M + 2 := ⟨L - 2, by omega⟩
  have e2 : ¬ (M : Int) + 2 = 0 := by omega
  have p2 : 0 < (M : Int) + 2 := by omega
  have q2 : 1 ≤ (M : Int) + 2 := by omega
  have t2 : ((M : Int) + 2 - 1).toNat = M + 1 := by omega
  have e1 : ¬ (M : Int) + 1 = 0 := by omega
  have p1 : 0 < (M : Int) + 1 := by omega
  have q1 : 1 ≤ (M : Int) + 1 := by omega
  have t1 : ((M : Int) + 1 - 1).toNat = M + 0 := by omega
  refine pc_of Tryd.func43 rfl (by decide) (by kernel_rfl) (by show 2 ≤ _; decide) (SW.of mixed _ _ _ ?_)
  simp -implicitDefEqProofs
  refine (fnShape o h0).k ?_
  simp -implicitDefEqProofs [hA, hB, hI, rep_succ, rep_zero]
  refine pwp_rounds 3 ?_
  rw [Rounds_succ]
  simp -implicitDefEqProofs [rep_succ, rep_zero, c0, c1, e2, p2, q2, t2, e1, p1, q1, t1]
  rw [Rounds_succ]
  simp -implicitDefEqProofs [rep_succ, rep_zero, c0, c1, e2, p2, q2, t2, e1, p1, q1, t1]
  rw [Rounds_succ]
  simp -implicitDefEqProofs [rep_succ, rep_zero, c0, c1, e2, p2, q2, t2, e1, p1, q1, t1, hI, insV, Kept]
  rw [Bool.eq_iff_iff]; simp
theorem wth_111 (o r1 r2 n : Int) (cs : List Value) (L : Nat) (h0 : 0 ≤ o) (hA : shA o = true) (hB : shB o = true) (hI : shI o = true) (hL : 3 ≤ L) (c0 : cs[0]? = some (regV r1)) (c1 : cs[1]? = some (regV r2)) (c2 : cs[2]? = some (immV n)) : PC Tryd.prog 43 [.int .u8 o, .slice (some ⟨0, 0, some 1⟩) L L] [.ro cs] (fun v h' => v = .tuple #[insV o r1 r2 n, .bool (decide (L = 3))] ∧ Kept [.ro cs] h') fun _ _ => False := by
  unfold regV immV at *
  obtain ⟨M, rfl⟩ : ∃ M, L = M + 3 := ⟨L - 3, by omega⟩
  have e3 : ¬ (M : Int) + 3 = 0 := by omega
  have p3 : 0 < (M : Int) + 3 := by omega
  have q3 : 1 ≤ (M : Int) + 3 := by omega
  have t3 : ((M : Int) + 3 - 1).toNat = M + 2 := by omega
  have e2 : ¬ (M : Int) + 2 = 0 := by omega
  have p2 : 0 < (M : Int) + 2 := by omega
  have q2 : 1 ≤ (M : Int) + 2 := by omega
  have t2 : ((M : Int) + 2 - 1).toNat = M + 1 := by omega
  have e1 : ¬ (M : Int) + 1 = 0 := by omega
  have p1 : 0 < (M : Int) + 1 := by omega
  have q1 : 1 ≤ (M : Int) + 1 := by omega
  have t1 : ((M : Int) + 1 - 1).toNat = M + 0 := by omega
  refine pc_of Tryd.func43 rfl (by decide) (by kernel_rfl) (by show 2 ≤ _; decide) (SW.of mixed _ _ _ ?_)
  simp -implicitDefEqProofs
  refine (fnShape o h0).k ?_
  simp -implicitDefEqProofs [hA, hB, hI, rep_succ, rep_zero]
  refine pwp_rounds 3 ?_
  rw [Rounds_succ]
  simp -implicitDefEqProofs [rep_succ, rep_zero, c0, c1, c2, e3, p3, q3, t3, e2, p2, q2, t2, e1, p1, q1, t1]
  rw [Rounds_succ]
  simp -implicitDefEqProofs [rep_succ, rep_zero, c0, c1, c2, e3, p3, q3, t3, e2, p2, q2, t2, e1, p1, q1, t1]
  rw [Rounds_succ]
  simp -implicitDefEqProofs [rep_succ, rep_zero, c0, c1, c2, e3, p3, q3, t3, e2, p2, q2, t2, e1, p1, q1, t1, hI, insV, Kept]
  rw [Bool.eq_iff_iff]; simp
theorem wthn_000_1 (o : Int) (cs : List Value) (L : Nat) (h0 : 0 ≤ o) (hA : shA o = false) (hB : shB o = false) (hI : shI o = false) (hL : 1 ≤ L) : PC Tryd.prog 43 [.int .u8 o, .slice (some ⟨0, 0, some 1⟩) L L] [.ro cs] (fun v h' => v = .tuple #[insV o 0 0 0, .bool false] ∧ Kept [.ro cs] h') fun _ _ => False := by
  have e1 : ¬ L = 0 := by omega
  refine pc_of Tryd.func43 rfl (by decide) (by kernel_rfl) (by show 2 ≤ _; decide) (SW.of mixed _ _ _ ?_)
  simp -implicitDefEqProofs
  refine (fnShape o h0).k ?_
  simp -implicitDefEqProofs [hA, hB, hI, rep_succ, rep_zero]
  refine pwp_rounds 3 ?_
  rw [Rounds_succ]
  simp -implicitDefEqProofs [rep_succ, rep_zero]
  rw [Rounds_succ]
  simp -implicitDefEqProofs [rep_succ, rep_zero]
  rw [Rounds_succ]
  simp -implicitDefEqProofs [hI, insV, Kept, e1]
theorem wthn_001_0 (o : Int) (h0 : 0 ≤ o) (hA : shA o = false) (hB : shB o = false) (hI : shI o = true) : Fn Tryd.prog 43 [.int .u8 o, .slice none 0 0] (.tuple #[insV 0 0 0 0, .bool false]) := by
  refine Fn.of ?_ rfl rfl
  refine pc_of Tryd.func43 rfl (by decide) (by kernel_rfl) (by show 2 ≤ _; decide) (SW.of mixed _ _ _ ?_)
  simp -implicitDefEqProofs
  refine (fnShape o h0).k ?_
  simp -implicitDefEqProofs [hA, hB, hI, rep_succ, rep_zero]
  refine pwp_rounds 3 ?_
  rw [Rounds_succ]
  simp -implicitDefEqProofs [rep_succ, rep_zero]
  rw [Rounds_succ]
  simp -implicitDefEqProofs [rep_succ, rep_zero]
  rw [Rounds_succ]
  simp -implicitDefEqProofs [rep_succ, rep_zero, hI, insV, Kept]
theorem wthn_101_0 (o : Int) (h0 : 0 ≤ o) (hA : shA o = true) (hB : shB o = false) (hI : shI o = true) : Fn Tryd.prog 43 [.int .u8 o, .slice none 0 0] (.tuple #[insV 0 0 0 0, .bool false]) := by
  refine Fn.of ?_ rfl rfl
  refine pc_of Tryd.func43 rfl (by decide) (by kernel_rfl) (by show 2 ≤ _; decide) (SW.of mixed _ _ _ ?_)
  simp -implicitDefEqProofs
  refine (fnShape o h0).k ?_
  simp -implicitDefEqProofs [hA, hB, hI, rep_succ, rep_zero]
  refine pwp_rounds 3 ?_
  rw [Rounds_succ]
  simp -implicitDefEqProofs [rep_succ, rep_zero, hI, insV, Kept]
theorem wthn_101_1 (o r1 : Int) (cs : List Value) (h0 : 0 ≤ o) (hA : shA o = true) (hB : shB o = false) (hI : shI o = true) (c0 : cs[0]? = some (regV r1)) : PC Tryd.prog 43 [.int .u8 o, .slice (some ⟨0, 0, some 1⟩) 1 1] [.ro cs] (fun v h' => v = .tuple #[insV 0 0 0 0, .bool false] ∧ Kept [.ro cs] h') fun _ _ => False := by
  unfold regV at *
  refine pc_of Tryd.func43 rfl (by decide) (by kernel_rfl) (by show 2 ≤ _; decide) (SW.of mixed _ _ _ ?_)
  simp -implicitDefEqProofs
  refine (fnShape o h0).k ?_
  simp -implicitDefEqProofs [hA, hB, hI, rep_succ, rep_zero]
  refine pwp_rounds 3 ?_
  rw [Rounds_succ]
  simp -implicitDefEqProofs [rep_succ, rep_zero, c0]
  rw [Rounds_succ]
  simp -implicitDefEqProofs [rep_succ, rep_zero, c0]
  rw [Rounds_succ]
  simp -implicitDefEqProofs [rep_succ, rep_zero, c0, hI, insV, Kept]
theorem wthn_110_0 (o : Int) (h0 : 0 ≤ o) (hA : shA o = true) (hB : shB o = true) (hI : shI o = false) : Fn Tryd.prog 43 [.int .u8 o, .slice none 0 0] (.tuple #[insV 0 0 0 0, .bool false]) := by
  refine Fn.of ?_ rfl rfl
  refine pc_of Tryd.func43 rfl (by decide) (by kernel_rfl) (by show 2 ≤ _; decide) (SW.of mixed _ _ _ ?_)
  simp -implicitDefEqProofs
  refine (fnShape o h0).k ?_
  simp -implicitDefEqProofs [hA, hB, hI, rep_succ, rep_zero]
  refine pwp_rounds 3 ?_
  rw [Rounds_succ]
  simp -implicitDefEqProofs [rep_succ, rep_zero, hI, insV, Kept]
theorem wthn_110_1 (o r1 : Int) (cs : List Value) (h0 : 0 ≤ o) (hA : shA o = true) (hB : shB o = true) (hI : shI o = false) (c0 : cs[0]? = some (regV r1)) : PC Tryd.prog 43 [.int .u8 o, .slice (some ⟨0, 0, some 1⟩) 1 1] [.ro cs] (fun v h' => v = .tuple #[insV 0 0 0 0, .bool false] ∧ Kept [.ro cs] h') fun _ _ => False := by
  unfold regV at *
  refine pc_of Tryd.func43 rfl (by decide) (by kernel_rfl) (by show 2 ≤ _; decide) (SW.of mixed _ _ _ ?_)
  simp -implicitDefEqProofs
  refine (fnShape o h0).k ?_
  simp -implicitDefEqProofs [hA, hB, hI, rep_succ, rep_zero]
  refine pwp_rounds 3 ?_
  rw [Rounds_succ]
  simp -implicitDefEqProofs [rep_succ, rep_zero, c0]
  rw [Rounds_succ]
  simp -implicitDefEqProofs [rep_succ, rep_zero, c0, hI, insV, Kept]
theorem wthn_111_0 (o : Int) (h0 : 0 ≤ o) (hA : shA o = true) (hB : shB o = true) (hI : shI o = true) : Fn Tryd.prog 43 [.int .u8 o, .slice none 0 0] (.tuple #[insV 0 0 0 0, .bool false]) := by
  refine Fn.of ?_ rfl rfl
  refine pc_of Tryd.func43 rfl (by decide) (by kernel_rfl) (by show 2 ≤ _; decide) (SW.of mixed _ _ _ ?_)
  simp -implicitDefEqProofs
  refine (fnShape o h0).k ?_
  simp -implicitDefEqProofs [hA, hB, hI, rep_succ, rep_zero]
  refine pwp_rounds 3 ?_
  rw [Rounds_succ]
  simp -implicitDefEqProofs [rep_succ, rep_zero, hI, insV, Kept]
theorem wthn_111_1 (o r1 : Int) (cs : List Value) (h0 : 0 ≤ o) (hA : shA o = true) (hB : shB o = true) (hI : shI o = true) (c0 : cs[0]? = some (regV r1)) : PC Tryd.prog 43 [.int .u8 o, .slice (some ⟨0, 0, some 1⟩) 1 1] [.ro cs] (fun v h' => v = .tuple #[insV 0 0 0 0, .bool false] ∧ Kept [.ro cs] h') fun _ _ => False := by
  unfold regV at *
  refine pc_of Tryd.func43 rfl (by decide) (by kernel_rfl) (by show 2 ≤ _; decide) (SW.of mixed _ _ _ ?_)
  simp -implicitDefEqProofs
  refine (fnShape o h0).k ?_
  simp -implicitDefEqProofs [hA, hB, hI, rep_succ, rep_zero]
  refine pwp_rounds 3 ?_
  rw [Rounds_succ]
  simp -implicitDefEqProofs [rep_succ, rep_zero, c0]
  rw [Rounds_succ]
  simp -implicitDefEqProofs [rep_succ, rep_zero, c0, hI, insV, Kept]
theorem wthn_111_2 (o r1 r2 : Int) (cs : List Value) (h0 : 0 ≤ o) (hA : shA o = true) (hB : shB o = true) (hI : shI o = true) (c0 : cs[0]? = some (regV r1)) (c1 : cs[1]? = some (regV r2)) : PC Tryd.prog 43 [.int .u8 o, .slice (some ⟨0, 0, some 1⟩) 2 2] [.ro cs] (fun v h' => v = .tuple #[insV 0 0 0 0, .bool false] ∧ Kept [.ro cs] h') fun _ _ => False := by
  unfold regV at *
  refine pc_of Tryd.func43 rfl (by decide) (by kernel_rfl) (by show 2 ≤ _; decide) (SW.of mixed _ _ _ ?_)
  simp -implicitDefEqProofs
  refine (fnShape o h0).k ?_
  simp -implicitDefEqProofs [hA, hB, hI, rep_succ, rep_zero]
  refine pwp_rounds 3 ?_
  rw [Rounds_succ]
  simp -implicitDefEqProofs [rep_succ, rep_zero, c0, c1]
  rw [Rounds_succ]
  simp -implicitDefEqProofs [rep_succ, rep_zero, c0, c1]
  rw [Rounds_succ]
  simp -implicitDefEqProofs [rep_succ, rep_zero, c0, c1, hI, insV, Kept]
end Go.Proofs.YtjopikjefpenkaaDoor
/- A text's pieces; the operand that a piece says. -/
namespace Go.Proofs.YtjopikjefpenkaaDoor
open Go.RowKit
set_option maxRecDepth 100000
set_option maxHeartbeats 8000000
theorem idx_hit : ∀ (p q : List UInt8), 32 ∉ p → Lib.index (p ++ 32 :: q) [32] = p.length
  | [], q, _ => by simp [Lib.index]
  | b :: p, q, h => by
    have hb : ¬ b = 32 := fun e => h (by simp [e])
    have hb2 : ¬ (32 : UInt8) = b := fun e => hb e.symm
    have ih := idx_hit p q (fun e => h (by simp [e]))
    rw [List.cons_append, Lib.index, ih]
    have h1 : ¬ ((p.length : Int) == -1) = true := by rw [beq_iff_eq]; omega
    simp [hb2, h1]
theorem idx_miss : ∀ (p : List UInt8), 32 ∉ p → Lib.index p [32] = -1
  | [], _ => rfl
  | b :: p, h => by
    have hb2 : ¬ (32 : UInt8) = b := fun e => h (by simp [e])
    have ih := idx_miss p (fun e => h (by simp [e]))
    rw [Lib.index, ih]
    simp [hb2]
/-- Pieces, a blank between each two. -/
def joinP : List (List UInt8) → List UInt8
  | [] => []
  | [p] => p
  | p :: q :: r => p ++ 32 :: joinP (q :: r)
theorem cut_join (p : List UInt8) (ps : List (List UInt8)) (hp : 32 ∉ p) : cutV (bs (joinP (p :: ps))) ⟨#[32]⟩ = .tuple #[.string (bs p), .string (bs (joinP ps)), .bool (decide (ps ≠ []))] := by
  have hsep : (⟨#[32]⟩ : ByteArray).data.toList = [32] := rfl
  unfold cutV Lib.cut
  rw [bs_data, hsep]
  cases ps with
  | nil =>
    rw [show joinP [p] = p from rfl, idx_miss p hp]
    simp [bs, joinP]
  | cons q r =>
    rw [show joinP (p :: q :: r) = p ++ 32 :: joinP (q :: r) from rfl, idx_hit p _ hp]
    simp [bs]
theorem fnCutP (p : List UInt8) (ps : List (List UInt8)) (hp : 32 ∉ p) (hl : (joinP (p :: ps)).length ≤ 1000000) : Fn Tryd.prog 39 [.string (bs (joinP (p :: ps))), .string ⟨#[32]⟩] (.tuple #[.string (bs p), .string (bs (joinP ps)), .bool (decide (ps ≠ []))]) := by
  have := fnCut (bs (joinP (p :: ps))) ⟨#[32]⟩ (by rw [bs_size]; omega)
  rw [cut_join p ps hp] at this
  exact this
theorem joinP_len (p : List UInt8) (ps : List (List UInt8)) : (joinP ps).length ≤ (joinP (p :: ps)).length ∧ p.length ≤ (joinP (p :: ps)).length := by
  cases ps with
  | nil => simp [joinP]
  | cons q r => simp [joinP]; omega
/-- A register's text. -/
def regP : List UInt8 → Option Int
  | [a, d] => if a = 114 ∧ 48 ≤ d.toNat ∧ d.toNat < 56 then some ((d.toNat : Int) - 48) else none
  | _ => none
def rdV2 : Option Int → Value
  | some r => .tuple #[regV r, .bool true]
  | none => .tuple #[.nilIface, .bool false]
theorem rdV2_flat (o : Option Int) : flat 6 (rdV2 o) = true := by cases o <;> rfl
theorem fnReadReg (w : List UInt8) : Fn Tryd.prog 42 [.string (bs w), .bool false] (rdV2 (regP w)) := by
  refine Fn.of ?_ rfl (rdV2_flat _)
  refine pc_of Tryd.func42 rfl (by decide) (by kernel_rfl) (by show 2 ≤ _; decide) (SW.of mixed _ _ _ ?_)
  match w with
  | [] => simp -implicitDefEqProofs [regP, rdV2]
  | [a] => simp -implicitDefEqProofs [regP, rdV2]
  | a :: b :: c :: t =>
    have h1 : ¬ (t.length : Int) + 1 + 1 + 1 = 2 := by omega
    simp -implicitDefEqProofs [regP, rdV2, h1]
  | [a, d] =>
    by_cases ha : a = 114
    · subst ha
      by_cases h1 : d.toNat < 48
      · have g1 : (d.toNat : Int) < 48 := by omega
        have g2 : ¬ 48 ≤ d.toNat := by omega
        simp -implicitDefEqProofs [regP, rdV2, g1, g2]
      · by_cases h2 : d.toNat < 56
        · have g1 : ¬ (d.toNat : Int) < 48 := by omega
          have g2 : ¬ 56 ≤ (d.toNat : Int) := by omega
          have g3 : 48 ≤ d.toNat := by omega
          have w1 : IntKind.u8.wrap ((d.toNat : Int) - 48) = (d.toNat : Int) - 48 := by rw [IntKind.wrap_u8]; omega
          simp -implicitDefEqProofs [regP, rdV2, g1, g2, g3, h2, w1, regV]
        · have g1 : ¬ (d.toNat : Int) < 48 := by omega
          have g2 : 56 ≤ (d.toNat : Int) := by omega
          simp -implicitDefEqProofs [regP, rdV2, g1, g2, h2]
    · have ha2 : ¬ (a.toNat : Int) = 114 := fun h => ha (UInt8.toNat_inj.1 (by show a.toNat = 114; omega))
      simp -implicitDefEqProofs [regP, rdV2, ha, ha2]
def rdV3 (x : Option Int) : Value := .tuple #[immV (x.getD 0), .bool x.isSome]
theorem fnReadNum (w : List UInt8) (x : Option Int) (N : Fn Tryd.prog 53 [.string (bs w)] (optE x)) : Fn Tryd.prog 42 [.string (bs w), .bool true] (rdV3 x) := by
  refine Fn.of ?_ rfl rfl
  refine pc_of Tryd.func42 rfl (by decide) (by kernel_rfl) (by show 2 ≤ _; decide) (SW.of mixed _ _ _ ?_)
  simp -implicitDefEqProofs
  refine N.k ?_
  cases x <;> simp -implicitDefEqProofs [optE, rdV3, immV]
end Go.Proofs.YtjopikjefpenkaaDoor

/- A sign within quotes: what the bytes say. -/
import Derived.Test.YtjopikjefpenkaaDoorGp
import Derived.Lib.ValidU
import Derived.Lib.RuneCount
import Derived.Test.YtjopikjefpenkaaDoorShelf
import Derived.Test.YtjopikjefpenkaaDoorShelfV
import Derived.Shelf.Unicode.ValidAny
set_option linter.unusedSimpArgs false
set_option linter.unusedVariables false
set_option linter.unusedSectionVars false
namespace Go.Proofs.YtjopikjefpenkaaDoor
open Go.RowKit
theorem bs_get (l : List UInt8) (i : Nat) : (bs l).get! i = l.getD i 0 := by
  show l.toArray[i]! = _
  rw [List.getD_eq_getElem?_getD]
  simp [Array.getElem!_eq_getD]
  rfl
theorem dec_bs (l : List UInt8) : Utf8.decode (bs l) 0 = Lib.decodeN l.length (l.getD 0 0).toNat (l.getD 1 0).toNat (l.getD 2 0).toNat (l.getD 3 0).toNat := by
  rw [Lib.decode_at, bs_get, bs_get, bs_get, bs_get, bs_size]
  rfl
/-- A quote behind it changes nothing. -/
theorem dec_quote (l : List UInt8) (hl : l ≠ []) : Utf8.decode (bs (l ++ [39])) 0 = Utf8.decode (bs l) 0 := by
  rw [dec_bs, dec_bs]
  match l, hl with
  | [a], _ => simp [Lib.decodeN]
  | [a, b], _ => simp [Lib.decodeN]
  | [a, b, c], _ => simp [Lib.decodeN]
  | a :: b :: c :: d :: t, _ =>
    have h1 : 1 < t.length + 1 + 1 + 1 + 1 + 1 := by omega
    have h2 : 1 < t.length + 1 + 1 + 1 + 1 := by omega
    have h3 : 2 < t.length + 1 + 1 + 1 + 1 + 1 := by omega
    have h4 : 2 < t.length + 1 + 1 + 1 + 1 := by omega
    have h5 : 3 < t.length + 1 + 1 + 1 + 1 + 1 := by omega
    have h6 : 3 < t.length + 1 + 1 + 1 + 1 := by omega
    simp [Lib.decodeN, h1, h2, h3, h4, h5, h6]
theorem dec_size (l : List UInt8) (hl : l ≠ []) : 1 ≤ (Utf8.decode (bs l) 0).2 ∧ (Utf8.decode (bs l) 0).2 ≤ l.length ∧ ((Utf8.decode (bs l) 0).1 ≤ 65535 → (Utf8.decode (bs l) 0).2 ≤ 3) ∧ (Utf8.decode (bs l) 0).1 ≤ 1114111 := by
  have h0 : 1 ≤ l.length := by cases l with | nil => exact absurd rfl hl | cons => simp
  have g0 := (l.getD 0 0).toNat_lt
  rw [dec_bs]
  generalize l.length = n at *
  unfold Lib.decodeN
  repeat' split
  all_goals (simp only; omega)
theorem runes_one (l : List UInt8) (hl : l ≠ []) : Lib.runeCount (bs l) = 1 ↔ (Utf8.decode (bs l) 0).2 = l.length := by
  obtain ⟨h1, h2, _⟩ := dec_size l hl
  unfold Lib.runeCount
  rw [bs_size]
  obtain ⟨n, hn⟩ : ∃ n, l.length = n + 1 := ⟨l.length - 1, by cases l with | nil => exact absurd rfl hl | cons => simp⟩
  rw [hn, Lib.runeCountFrom, bs_size, hn, if_pos (by omega)]
  cases n with
  | zero => simp [Lib.runeCountFrom]; omega
  | succ m =>
    rw [Lib.runeCountFrom, bs_size, hn]
    split
    · omega
    · omega
theorem valid_one (l : List UInt8) (hl : l ≠ []) (h : (Utf8.decode (bs l) 0).2 = l.length) : Lib.validD l = !decide ((Utf8.decode (bs l) 0).1 = 65533 ∧ (Utf8.decode (bs l) 0).2 = 1) := by
  unfold Lib.validD
  obtain ⟨n, hn⟩ : ∃ n, l.length = n + 1 := ⟨l.length - 1, by cases l with | nil => exact absurd rfl hl | cons => simp⟩
  have hd : Lib.decodeL l = Utf8.decode (bs l) 0 := rfl
  rw [hn, Lib.validGoD, if_neg hl, hd]
  split
  · rename_i hc; simp [hc]
  · rename_i hc
    rw [h, List.drop_length]
    have : ∀ k, Lib.validGoD k [] = true := fun k => by cases k <;> simp [Lib.validGoD]
    rw [this]
    simp only [h] at hc
    simp [hc]
/-- What is within the quotes. -/
def inF (l : List UInt8) : Option Int :=
  if (Utf8.decode (bs l) 0).2 = l.length ∧ ¬ ((Utf8.decode (bs l) 0).1 = 65533 ∧ (Utf8.decode (bs l) 0).2 = 1) ∧ 32 ≤ (Utf8.decode (bs l) 0).1 ∧ (Utf8.decode (bs l) 0).1 ≤ 65535 ∧ (Utf8.decode (bs l) 0).1 ≠ 39 then some ((Utf8.decode (bs l) 0).1 : Nat) else none
/-- What stands behind the first quote says. -/
def quotP (t : List UInt8) : Option Int := if 2 ≤ t.length ∧ t.getLast? = some 39 then inF t.dropLast else none
def wordQ : List UInt8 → Option Int
  | [] => none
  | c :: t => if c = 39 then quotP t else wordP (c :: t)
theorem quotP_len {t : List UInt8} {n : Int} (h : quotP t = some n) : t.length ≤ 4 ∧ 0 ≤ n ∧ n ≤ 65535 := by
  unfold quotP at h
  split at h
  · rename_i hc
    unfold inF at h
    split at h
    · rename_i hd
      cases h
      have hne : t.dropLast ≠ [] := fun e => by
        have := congrArg List.length e
        rw [List.length_dropLast] at this
        simp at this; omega
      have h3 := (dec_size _ hne).2.2.1 hd.2.2.2.1
      have := hd.1
      rw [List.length_dropLast] at this
      refine ⟨by omega, by omega, by omega⟩
    · cases h
  · cases h
theorem quot_snoc (l : List UInt8) (hl : l ≠ []) : quotP (l ++ [39]) = inF l := by
  have h0 : 1 ≤ l.length := by cases l with | nil => exact absurd rfl hl | cons => simp
  unfold quotP
  rw [if_pos ⟨by simp; omega, by simp⟩, List.dropLast_concat]
end Go.Proofs.YtjopikjefpenkaaDoor
/- word.quoted, word.Parse: what any text says as a word. -/
namespace Go.Proofs.YtjopikjefpenkaaDoor
open Go.RowKit
set_option maxRecDepth 100000
set_option maxHeartbeats 8000000
theorem fnValid (l : List UInt8) (hl : l.length ≤ 1000000) : Fn Tryd.prog 97 [.string (bs l)] (.bool (Lib.validD l)) :=
  Fn.of_calls (callable Tryd.func97 rfl (by decide)) rfl rfl fun w hI => by
    have := Any.utf8_ValidString Tryd.laysValid (bs l) w (by rw [bs_size]; omega) hI.2.2
    rw [bs_data] at this
    exact this
theorem fnRunes (l : List UInt8) (hl : l.length ≤ 1000000) : Fn Tryd.prog 98 [.string (bs l)] (.int .i64 (Lib.runeCount (bs l))) :=
  Fn.of_calls (callable Tryd.func98 rfl (by decide)) rfl rfl fun w hI =>
    (Tryd.utf8_RuneCountInString (bs l) w (by rw [bs_size]; omega)).mono fun e w' ⟨h1, pos, h2⟩ => ⟨h1, by rw [h2]; exact (Below.refl _ _).alloc (Nat.le_refl _) _⟩
theorem fnDecRune (l : List UInt8) (hl : l ≠ []) : Fn Tryd.prog 76 [.string (bs l)] (.tuple #[.int .i32 (Utf8.decode (bs l) 0).1, .int .i64 (Utf8.decode (bs l) 0).2]) :=
  Fn.of_calls (callable Tryd.func76 rfl (by decide)) rfl rfl fun w hI => by
    have := Tryd.utf8_DecodeRuneInString (bs l) w hI.2.2
    unfold Lib.decodeGo at this
    rw [if_neg (by rw [bs_size]; exact fun h => hl (List.eq_nil_of_length_eq_zero h))] at this
    exact this
theorem fnQuoted (t : List UInt8) (ht : t.length ≤ 1000000) : Fn Tryd.prog 79 [.string (bs (39 :: t))] (optV (quotP t)) := by
  refine Fn.of ?_ rfl (optV_flat _)
  refine pc_of Tryd.func79 rfl (by decide) (by kernel_rfl) (by show 1 ≤ _; decide) (SW.of mixed _ _ _ ?_)
  by_cases h2 : t.length < 2
  · have h2a : (t.length : Int) + 1 < 3 := by omega
    have hq : quotP t = none := by unfold quotP; rw [if_neg (fun h => by omega)]
    simp -implicitDefEqProofs [h2a, hq, optV]
  obtain ⟨u, z, rfl⟩ : ∃ u z, t = u ++ [z] := ⟨t.dropLast, t.getLast (by intro e; subst e; simp at h2), (List.dropLast_concat_getLast _).symm⟩
  have hu1 : 1 ≤ u.length := by simp at h2; omega
  have hu : u ≠ [] := fun e => by subst e; simp at hu1
  have hul : u.length ≤ 1000000 := by simp at ht; omega
  have g1 : ¬ (u.length : Int) + 1 + 1 < 3 := by omega
  have g2 : (39 :: (u ++ [z]))[u.length + 1]? = some z := by simp
  have g3 : (bs (39 :: (u ++ [z]))).extract 1 (u.length + 1) = bs u := by rw [bs_ext]; simp
  have w1 : IntKind.i64.wrap ((u.length : Int) + 1) = (u.length : Int) + 1 := by rw [IntKind.wrap_i64]; omega
  have w2 : ((u.length : Int) + 1).toNat = u.length + 1 := by omega
  have w3 : (0 : Int) ≤ (u.length : Int) + 1 := by omega
  have w4 : (u.length : Int) + 1 < (u.length : Int) + 1 + 1 := by omega
  have w5 : (1 : Int) ≤ (u.length : Int) + 1 := by omega
  have w6 : (u.length : Int) + 1 ≤ (u.length : Int) + 1 + 1 := by omega
  by_cases hz : z = 39
  case neg =>
    have hz2 : ¬ (z.toNat : Int) = 39 := fun h => hz (UInt8.toNat_inj.1 (by show z.toNat = 39; omega))
    have hq : quotP (u ++ [z]) = none := by unfold quotP; rw [if_neg (fun h => hz (by simpa using h.2))]
    simp -implicitDefEqProofs [g1, g2, g3, w1, w2, w3, w4, w5, w6, hz2, hq, optV]
  subst hz
  rw [quot_snoc u hu]
  obtain ⟨d1, d2, d3, d4⟩ := dec_size u hu
  simp -implicitDefEqProofs [g1, g2, g3, w1, w2, w3, w4, w5, w6]
  refine (fnValid u hul).k ?_
  by_cases hs : (Utf8.decode (bs u) 0).2 = u.length
  case neg =>
    have hr : ¬ (Lib.runeCount (bs u) : Int) = 1 := fun h => hs ((runes_one u hu).1 (by exact_mod_cast h))
    have hi : inF u = none := by unfold inF; rw [if_neg (fun h => hs h.1)]
    cases Lib.validD u with
    | false => simp -implicitDefEqProofs [hi, optV]
    | true =>
      simp -implicitDefEqProofs
      refine (fnRunes u hul).k ?_
      simp -implicitDefEqProofs [hr, hi, optV]
  rw [valid_one u hu hs]
  by_cases he : (Utf8.decode (bs u) 0).1 = 65533 ∧ (Utf8.decode (bs u) 0).2 = 1
  · have hi : inF u = none := by unfold inF; rw [if_neg (fun h => h.2.1 he)]
    simp -implicitDefEqProofs [hi, optV, he]
  have hr : (Lib.runeCount (bs u) : Int) = 1 := by exact_mod_cast (runes_one u hu).2 hs
  simp -implicitDefEqProofs [he]
  refine (fnRunes u hul).k ?_
  simp -implicitDefEqProofs [hr, pop_range]
  refine pwp_rounds 1 ?_
  rw [Rounds_succ]
  have hup : 0 < u.length := hu1
  have hin : inF u = if 32 ≤ (Utf8.decode (bs u) 0).1 ∧ (Utf8.decode (bs u) 0).1 ≤ 65535 ∧ (Utf8.decode (bs u) 0).1 ≠ 39 then some (((Utf8.decode (bs u) 0).1 : Nat) : Int) else none := by
    unfold inF
    simp only [hs, true_and]
    rw [hs] at he
    simp only [he, not_false_eq_true, true_and]
  rw [hin]
  clear hin he hr hs
  obtain ⟨d, hd⟩ : ∃ d, Utf8.decode (bs u) 0 = d := ⟨_, rfl⟩
  rw [hd] at d1 d2 d3 d4
  simp only [hd]
  by_cases a1 : 32 ≤ d.1
  case neg =>
    have b1 : ¬ 32 ≤ (d.1 : Int) := by omega
    have b2 : (d.1 : Int) < 32 := by omega
    simp -implicitDefEqProofs [pop_next, qw, hup, oN_some, hd, a1, b1, b2, optV]
  have b1 : 32 ≤ (d.1 : Int) := by omega
  have b2 : ¬ (d.1 : Int) < 32 := by omega
  by_cases a2 : d.1 ≤ 65535
  case neg =>
    have b3 : ¬ (d.1 : Int) ≤ 65535 := by omega
    have b4 : 65535 < (d.1 : Int) := by omega
    simp -implicitDefEqProofs [pop_next, qw, hup, oN_some, hd, a1, a2, b1, b2, b3, b4, optV]
  have b3 : (d.1 : Int) ≤ 65535 := by omega
  have b4 : ¬ 65535 < (d.1 : Int) := by omega
  by_cases a3 : d.1 = 39
  · have b5 : (d.1 : Int) = 39 := by omega
    simp -implicitDefEqProofs [pop_next, qw, hup, oN_some, hd, a1, a2, a3, b1, b2, b3, b4, b5, optV]
  · have b5 : ¬ (d.1 : Int) = 39 := by omega
    have b6 : IntKind.u16.wrap (d.1 : Int) = d.1 := by rw [IntKind.wrap_u16]; omega
    simp -implicitDefEqProofs [pop_next, qw, hup, oN_some, hd, a1, a2, a3, b1, b2, b3, b4, b5, b6, optV]
/-- word.Parse at any text. -/
theorem fnParseW (l : List UInt8) (hl : l.length ≤ 1000000) : Fn Tryd.prog 53 [.string (bs l)] (optE (wordQ l)) := by
  cases l with
  | nil => exact fnParse [] (by decide) (by simp)
  | cons c t =>
    by_cases hc : c = 39
    case neg =>
      have := fnParse (c :: t) hl (by simp [hc])
      rwa [show wordP (c :: t) = wordQ (c :: t) by simp [wordQ, hc]] at this
    subst hc
    have hq : wordQ (39 :: t) = quotP t := rfl
    rw [hq]
    refine Fn.of ?_ rfl (optE_flat _)
    refine pc_of Tryd.func53 rfl (by decide) (by kernel_rfl) (by show 1 ≤ _; decide) (SW.of mixed _ _ _ ?_)
    simp -implicitDefEqProofs
    refine (fnQuoted t (by simp at hl; omega)).k ?_
    cases quotP t <;> simp -implicitDefEqProofs [optV, optE]
end Go.Proofs.YtjopikjefpenkaaDoor
/- The document's digits; a number as a word. -/
namespace Go.Proofs.YtjopikjefpenkaaDoor
open Go.RowKit
set_option maxRecDepth 1000000
set_option maxHeartbeats 8000000
def isI64 (n : Int) (o : Option Re) : Bool := match o with
  | some (.val (.int .i64 m) _) => m == n
  | _ => false
def digF : List FuncId := [75]
theorem digF_ok : digF.all (okFn Tryd.prog) = true := by kernel_rfl
theorem dig_runs : (List.range 256).all (fun i => isI64 (valV 16 i) (ef Tryd.prog digF xText 60 60 75 [.int .u8 i] [])) = true := by kernel_rfl
theorem fnDigit (c : UInt8) : Fn Tryd.prog 75 [.int .u8 c.toNat] (.int .i64 (valV 16 c.toNat)) := by
  refine Fn.of ?_ rfl rfl
  have h := List.all_eq_true.1 dig_runs c.toNat (List.mem_range.2 c.toNat_lt)
  unfold isI64 at h
  split at h
  · rename_i m hs e
    obtain rfl := by simpa using h
    exact (ef_sound mixed digF_ok xText_ok _ _ _ _ _ e).mono (fun v h' hv => by cases hv; rfl) (fun v h' hv => by cases hv)
  · cases h
theorem fnRFrom (n : Int) (hn : -9999999 ≤ n ∧ n ≤ 9999999) : Fn Tryd.prog 77 [.int .i64 n] (optV (fromF n)) := by
  refine Fn.of ?_ rfl (optV_flat _)
  have e1 : IntKind.u16.wrap n = n % 65536 := IntKind.wrap_u16 n
  have e2 : IntKind.i64.wrap (n + 65536) = n + 65536 := by rw [IntKind.wrap_i64]; omega
  have e3 : IntKind.u16.wrap (n + 65536) = n % 65536 := by rw [IntKind.wrap_u16]; omega
  refine pc_of Tryd.func77 rfl (by decide) (by kernel_rfl) (by show 1 ≤ _; decide) (SW.of mixed _ _ _ ?_)
  by_cases h1 : n < -32768
  · simp -implicitDefEqProofs [h1, fromF, optV]
  · by_cases h2 : 65536 ≤ n
    · have h3 : 65535 < n := by omega
      simp -implicitDefEqProofs [h1, h2, h3, fromF, optV]
    · have h3 : ¬ 65535 < n := by omega
      by_cases h4 : n < 0
      · simp -implicitDefEqProofs [h1, h2, h3, h4, fromF, optV, e1, e2, e3]
      · simp -implicitDefEqProofs [h1, h2, h3, h4, fromF, optV, e1, e2, e3]
end Go.Proofs.YtjopikjefpenkaaDoor

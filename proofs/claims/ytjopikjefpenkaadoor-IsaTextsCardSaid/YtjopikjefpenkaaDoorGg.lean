/- An instruction's operands, and their texts. -/
import Derived.Test.YtjopikjefpenkaaDoorG8
import Derived.Test.YtjopikjefpenkaaDoorGe
import Derived.Lib.ItoaLen
import Derived.Lib.Join
set_option linter.unusedSimpArgs false
set_option linter.unusedVariables false
set_option linter.unusedSectionVars false
namespace Go.Proofs.YtjopikjefpenkaaDoor
open Go.RowKit
set_option maxRecDepth 100000
set_option maxHeartbeats 8000000
def rS (a : Int) : ByteArray := ⟨#[114]⟩ ++ ⟨(Lib.itoa a).toArray⟩
def nS (n : Int) : ByteArray := ⟨(Lib.itoa n).toArray⟩
theorem fnTextR (a : Int) (h0 : 0 ≤ a) (h1 : a ≤ 255) : Fn Tryd.prog 37 [.iface 107 (.int .u8 a)] (.string (rS a)) := by
  refine Fn.of ?_ rfl rfl
  have e1 : IntKind.i64.wrap a = a := by rw [IntKind.wrap_i64]; omega
  refine pc_of Tryd.func37 rfl (by decide) (by kernel_rfl) (by show 1 ≤ _; decide) (SW.of mixed _ _ _ ?_)
  simp -implicitDefEqProofs [e1]
  refine (fnItoa a (by omega) (by omega)).k ?_
  have hl := Lib.itoa_length_le a (by omega) (by omega)
  have hs : (ByteArray.mk #[114]).size + (ByteArray.mk (Lib.itoa a).toArray).size ≤ 9223372036854775807 := by
    show 1 + (Lib.itoa a).toArray.size ≤ _
    simp; omega
  simp -implicitDefEqProofs [rS, hs]
theorem fnTextN (n : Int) (h0 : 0 ≤ n) (h1 : n ≤ 65535) : Fn Tryd.prog 37 [.iface 108 (.int .u16 n)] (.string (nS n)) := by
  refine Fn.of ?_ rfl rfl
  have e1 : IntKind.i64.wrap n = n := by rw [IntKind.wrap_i64]; omega
  refine pc_of Tryd.func37 rfl (by decide) (by kernel_rfl) (by show 1 ≤ _; decide) (SW.of mixed _ _ _ ?_)
  simp -implicitDefEqProofs [e1]
  refine (fnItoa n (by omega) (by omega)).k ?_
  simp -implicitDefEqProofs [nS]
def opndL (sa sb si : Bool) (a b n : Int) : List Value := (if sa then [.iface 107 (.int .u8 a)] else []) ++ ((if sb then [.iface 107 (.int .u8 b)] else []) ++ (if si then [.iface 108 (.int .u16 n)] else []))
theorem opnd_001 (o a b n : Int) (h0 : 0 ≤ o) (hA : shA o = false) (hB : shB o = false) (hI : shI o = true) : PC Tryd.prog 36 [insV o a b n] [] (fun v h' => ∃ k, v = .slice (some ⟨k, 0, some 1⟩) 1 1 ∧ 0 ≤ k ∧ h'[k]? = some (.gr (opndL false false true a b n)) ∧ Kept [] h') fun _ _ => False := by
  refine pc_of Tryd.func36 rfl (by decide) (by kernel_rfl) (by show 1 ≤ _; decide) (SW.of mixed _ _ _ ?_)
  simp -implicitDefEqProofs [insV]
  refine (fnShape o h0).k ?_
  simp -implicitDefEqProofs [hA, hB, hI, rep_succ, rep_zero, qappend, notInt, qelems, Value.oneCell', opndL, Kept]
theorem opndq_001 {h : List PO} (o a b n : Int) (h0 : 0 ≤ o) (hA : shA o = false) (hB : shB o = false) (hI : shI o = true) : PCq Tryd.prog 36 [insV o a b n] h fun v ns => v = .slice (some ⟨h.length, 0, some 1⟩) 1 1 ∧ ns = [.gr (opndL false false true a b n)] :=
  PC.readsRow [] (opnd_001 o a b n h0 hA hB hI) fit_none live_nil (RNs.of_flat fun v hv => ⟨6, by simp at hv; subst hv; rfl⟩) rfl
theorem opnd_101 (o a b n : Int) (h0 : 0 ≤ o) (hA : shA o = true) (hB : shB o = false) (hI : shI o = true) : PC Tryd.prog 36 [insV o a b n] [] (fun v h' => ∃ k, v = .slice (some ⟨k, 0, some 1⟩) 2 2 ∧ 0 ≤ k ∧ h'[k]? = some (.gr (opndL true false true a b n)) ∧ Kept [] h') fun _ _ => False := by
  refine pc_of Tryd.func36 rfl (by decide) (by kernel_rfl) (by show 1 ≤ _; decide) (SW.of mixed _ _ _ ?_)
  simp -implicitDefEqProofs [insV]
  refine (fnShape o h0).k ?_
  simp -implicitDefEqProofs [hA, hB, hI, rep_succ, rep_zero, qappend, notInt, qelems, Value.oneCell', opndL, Kept]
theorem opndq_101 {h : List PO} (o a b n : Int) (h0 : 0 ≤ o) (hA : shA o = true) (hB : shB o = false) (hI : shI o = true) : PCq Tryd.prog 36 [insV o a b n] h fun v ns => v = .slice (some ⟨h.length, 0, some 1⟩) 2 2 ∧ ns = [.gr (opndL true false true a b n)] :=
  PC.readsRow [] (opnd_101 o a b n h0 hA hB hI) fit_none live_nil (RNs.of_flat fun v hv => ⟨6, by simp at hv; subst hv; rfl⟩) rfl
theorem opnd_110 (o a b n : Int) (h0 : 0 ≤ o) (hA : shA o = true) (hB : shB o = true) (hI : shI o = false) : PC Tryd.prog 36 [insV o a b n] [] (fun v h' => ∃ k, v = .slice (some ⟨k, 0, some 1⟩) 2 2 ∧ 0 ≤ k ∧ h'[k]? = some (.gr (opndL true true false a b n)) ∧ Kept [] h') fun _ _ => False := by
  refine pc_of Tryd.func36 rfl (by decide) (by kernel_rfl) (by show 1 ≤ _; decide) (SW.of mixed _ _ _ ?_)
  simp -implicitDefEqProofs [insV]
  refine (fnShape o h0).k ?_
  simp -implicitDefEqProofs [hA, hB, hI, rep_succ, rep_zero, qappend, notInt, qelems, Value.oneCell', opndL, Kept]
theorem opndq_110 {h : List PO} (o a b n : Int) (h0 : 0 ≤ o) (hA : shA o = true) (hB : shB o = true) (hI : shI o = false) : PCq Tryd.prog 36 [insV o a b n] h fun v ns => v = .slice (some ⟨h.length, 0, some 1⟩) 2 2 ∧ ns = [.gr (opndL true true false a b n)] :=
  PC.readsRow [] (opnd_110 o a b n h0 hA hB hI) fit_none live_nil (RNs.of_flat fun v hv => ⟨6, by simp at hv; subst hv; rfl⟩) rfl
theorem opnd_111 (o a b n : Int) (h0 : 0 ≤ o) (hA : shA o = true) (hB : shB o = true) (hI : shI o = true) : PC Tryd.prog 36 [insV o a b n] [] (fun v h' => ∃ k, v = .slice (some ⟨k, 0, some 1⟩) 3 3 ∧ 0 ≤ k ∧ h'[k]? = some (.gr (opndL true true true a b n)) ∧ Kept [] h') fun _ _ => False := by
  refine pc_of Tryd.func36 rfl (by decide) (by kernel_rfl) (by show 1 ≤ _; decide) (SW.of mixed _ _ _ ?_)
  simp -implicitDefEqProofs [insV]
  refine (fnShape o h0).k ?_
  simp -implicitDefEqProofs [hA, hB, hI, rep_succ, rep_zero, qappend, notInt, qelems, Value.oneCell', opndL, Kept]
theorem opndq_111 {h : List PO} (o a b n : Int) (h0 : 0 ≤ o) (hA : shA o = true) (hB : shB o = true) (hI : shI o = true) : PCq Tryd.prog 36 [insV o a b n] h fun v ns => v = .slice (some ⟨h.length, 0, some 1⟩) 3 3 ∧ ns = [.gr (opndL true true true a b n)] :=
  PC.readsRow [] (opnd_111 o a b n h0 hA hB hI) fit_none live_nil (RNs.of_flat fun v hv => ⟨6, by simp at hv; subst hv; rfl⟩) rfl
theorem opnd_000 (o a b n : Int) (h0 : 0 ≤ o) (hA : shA o = false) (hB : shB o = false) (hI : shI o = false) : Fn Tryd.prog 36 [insV o a b n] (.slice none 0 0) := by
  refine Fn.of ?_ rfl rfl
  refine pc_of Tryd.func36 rfl (by decide) (by kernel_rfl) (by show 1 ≤ _; decide) (SW.of mixed _ _ _ ?_)
  simp -implicitDefEqProofs [insV]
  refine (fnShape o h0).k ?_
  simp -implicitDefEqProofs [hA, hB, hI]
end Go.Proofs.YtjopikjefpenkaaDoor
/- An instruction as text. -/
namespace Go.Proofs.YtjopikjefpenkaaDoor
open Go.RowKit
set_option maxRecDepth 100000
set_option maxHeartbeats 8000000
def opndS (sa sb si : Bool) (a b n : Int) : List ByteArray := (if sa then [rS a] else []) ++ ((if sb then [rS b] else []) ++ (if si then [nS n] else []))
def printS (o : Nat) (a b n : Int) : ByteArray := joinS (wordB o :: opndS (shA o) (shB o) (shI o) a b n) ⟨#[32]⟩
theorem word_lens : (List.range 24).all (fun i => decide ((wordB i).data.toList.length ≤ 4)) = true := by kernel_rfl
theorem word_len {o : Nat} (ho : o < 24) : (wordB o).data.toList.length ≤ 4 := by simpa using List.all_eq_true.1 word_lens o (List.mem_range.2 ho)
theorem rS_len {a : Int} (h0 : 0 ≤ a) (h1 : a ≤ 255) : (rS a).data.toList.length ≤ 22 := by
  have := Lib.itoa_length_le a (by omega) (by omega)
  simp [rS]; omega
theorem nS_len {a : Int} (h0 : 0 ≤ a) (h1 : a ≤ 65535) : (nS a).data.toList.length ≤ 21 := Lib.itoa_length_le a (by omega) (by omega)
theorem print_000 (o : Nat) (a b n : Int) (ha : 0 ≤ a) (hb : 0 ≤ b) (hn : 0 ≤ n) (hn1 : n ≤ 65535) (ok : okF o a b n) (hA : shA o = false) (hB : shB o = false) (hI : shI o = false) : PC Tryd.prog 14 [insV o a b n] [] (fun v _ => v = .tuple #[.string (printS o a b n), .int .i64 0]) fun _ _ => False := by
  have h0 : (0 : Int) ≤ o := by omega
  have ho : (o : Int) ≤ 23 := ok.1
  have a8 : a < 8 := ok.2.1
  have b8 : b < 8 := ok.2.2.1
  refine pc_of Tryd.func14 rfl (by decide) (by kernel_rfl) (by show 1 ≤ _; decide) (SW.of mixed _ _ _ ?_)
  simp -implicitDefEqProofs [insV]
  refine (fnRight o a b n h0).k ?_
  simp -implicitDefEqProofs [ok]
  refine (fnWord o (by omega)).k ?_
  simp -implicitDefEqProofs [rep_succ, rep_zero]
  refine (opnd_000 o a b n h0 hA hB hI).k ?_
  simp -implicitDefEqProofs [opndL]
  refine pwp_rounds 1 ?_
  rw [Rounds_succ]
  simp -implicitDefEqProofs
  have l0 := word_len (o := o) (by omega)
  have l1 := rS_len (a := a) ha (by omega)
  have l2 := rS_len (a := b) hb (by omega)
  have l3 := nS_len (a := n) hn hn1
  refine (join_q (xs := [wordB o]) (cs := [.string (wordB o)]) (.inr rfl) (by simp) rfl (by simp) (by simp [Lib.join] at l0 l1 l2 l3 ⊢; omega) (by simp)).k ?_
  simp -implicitDefEqProofs [printS, opndS, hA, hB, hI]
theorem print_001 (o : Nat) (a b n : Int) (ha : 0 ≤ a) (hb : 0 ≤ b) (hn : 0 ≤ n) (hn1 : n ≤ 65535) (ok : okF o a b n) (hA : shA o = false) (hB : shB o = false) (hI : shI o = true) : PC Tryd.prog 14 [insV o a b n] [] (fun v _ => v = .tuple #[.string (printS o a b n), .int .i64 0]) fun _ _ => False := by
  have h0 : (0 : Int) ≤ o := by omega
  have ho : (o : Int) ≤ 23 := ok.1
  have a8 : a < 8 := ok.2.1
  have b8 : b < 8 := ok.2.2.1
  refine pc_of Tryd.func14 rfl (by decide) (by kernel_rfl) (by show 1 ≤ _; decide) (SW.of mixed _ _ _ ?_)
  simp -implicitDefEqProofs [insV]
  refine (fnRight o a b n h0).k ?_
  simp -implicitDefEqProofs [ok]
  refine (fnWord o (by omega)).k ?_
  simp -implicitDefEqProofs [rep_succ, rep_zero]
  refine (opndq_001 o a b n h0 hA hB hI).k ?_
  simp -implicitDefEqProofs [opndL]
  refine pwp_rounds 2 ?_
  rw [Rounds_succ]
  simp -implicitDefEqProofs
  refine (fnTextN n hn hn1).k ?_
  simp -implicitDefEqProofs [rep_succ, rep_zero, qappend, notInt, qelems, Value.oneCell']
  rw [Rounds_succ]
  simp -implicitDefEqProofs
  have l0 := word_len (o := o) (by omega)
  have l1 := rS_len (a := a) ha (by omega)
  have l2 := rS_len (a := b) hb (by omega)
  have l3 := nS_len (a := n) hn hn1
  refine (join_q (xs := [wordB o, nS n]) (cs := [.string (wordB o), .string (nS n)]) (.inl rfl) (by simp) rfl (by simp) (by simp [Lib.join] at l0 l1 l2 l3 ⊢; omega) (by simp)).k ?_
  simp -implicitDefEqProofs [printS, opndS, hA, hB, hI]
theorem print_101 (o : Nat) (a b n : Int) (ha : 0 ≤ a) (hb : 0 ≤ b) (hn : 0 ≤ n) (hn1 : n ≤ 65535) (ok : okF o a b n) (hA : shA o = true) (hB : shB o = false) (hI : shI o = true) : PC Tryd.prog 14 [insV o a b n] [] (fun v _ => v = .tuple #[.string (printS o a b n), .int .i64 0]) fun _ _ => False := by
  have h0 : (0 : Int) ≤ o := by omega
  have ho : (o : Int) ≤ 23 := ok.1
  have a8 : a < 8 := ok.2.1
  have b8 : b < 8 := ok.2.2.1
  refine pc_of Tryd.func14 rfl (by decide) (by kernel_rfl) (by show 1 ≤ _; decide) (SW.of mixed _ _ _ ?_)
  simp -implicitDefEqProofs [insV]
  refine (fnRight o a b n h0).k ?_
  simp -implicitDefEqProofs [ok]
  refine (fnWord o (by omega)).k ?_
  simp -implicitDefEqProofs [rep_succ, rep_zero]
  refine (opndq_101 o a b n h0 hA hB hI).k ?_
  simp -implicitDefEqProofs [opndL]
  refine pwp_rounds 3 ?_
  rw [Rounds_succ]
  simp -implicitDefEqProofs
  refine (fnTextR a ha (by omega)).k ?_
  simp -implicitDefEqProofs [rep_succ, rep_zero, qappend, notInt, qelems, Value.oneCell']
  rw [Rounds_succ]
  simp -implicitDefEqProofs
  refine (fnTextN n hn hn1).k ?_
  simp -implicitDefEqProofs [rep_succ, rep_zero, qappend, notInt, qelems, Value.oneCell']
  rw [Rounds_succ]
  simp -implicitDefEqProofs
  have l0 := word_len (o := o) (by omega)
  have l1 := rS_len (a := a) ha (by omega)
  have l2 := rS_len (a := b) hb (by omega)
  have l3 := nS_len (a := n) hn hn1
  refine (join_q (xs := [wordB o, rS a, nS n]) (cs := [.string (wordB o), .string (rS a), .string (nS n)]) (.inl rfl) (by simp) rfl (by simp) (by simp [Lib.join] at l0 l1 l2 l3 ⊢; omega) (by simp)).k ?_
  simp -implicitDefEqProofs [printS, opndS, hA, hB, hI]
theorem print_110 (o : Nat) (a b n : Int) (ha : 0 ≤ a) (hb : 0 ≤ b) (hn : 0 ≤ n) (hn1 : n ≤ 65535) (ok : okF o a b n) (hA : shA o = true) (hB : shB o = true) (hI : shI o = false) : PC Tryd.prog 14 [insV o a b n] [] (fun v _ => v = .tuple #[.string (printS o a b n), .int .i64 0]) fun _ _ => False := by
  have h0 : (0 : Int) ≤ o := by omega
  have ho : (o : Int) ≤ 23 := ok.1
  have a8 : a < 8 := ok.2.1
  have b8 : b < 8 := ok.2.2.1
  refine pc_of Tryd.func14 rfl (by decide) (by kernel_rfl) (by show 1 ≤ _; decide) (SW.of mixed _ _ _ ?_)
  simp -implicitDefEqProofs [insV]
  refine (fnRight o a b n h0).k ?_
  simp -implicitDefEqProofs [ok]
  refine (fnWord o (by omega)).k ?_
  simp -implicitDefEqProofs [rep_succ, rep_zero]
  refine (opndq_110 o a b n h0 hA hB hI).k ?_
  simp -implicitDefEqProofs [opndL]
  refine pwp_rounds 3 ?_
  rw [Rounds_succ]
  simp -implicitDefEqProofs
  refine (fnTextR a ha (by omega)).k ?_
  simp -implicitDefEqProofs [rep_succ, rep_zero, qappend, notInt, qelems, Value.oneCell']
  rw [Rounds_succ]
  simp -implicitDefEqProofs
  refine (fnTextR b hb (by omega)).k ?_
  simp -implicitDefEqProofs [rep_succ, rep_zero, qappend, notInt, qelems, Value.oneCell']
  rw [Rounds_succ]
  simp -implicitDefEqProofs
  have l0 := word_len (o := o) (by omega)
  have l1 := rS_len (a := a) ha (by omega)
  have l2 := rS_len (a := b) hb (by omega)
  have l3 := nS_len (a := n) hn hn1
  refine (join_q (xs := [wordB o, rS a, rS b]) (cs := [.string (wordB o), .string (rS a), .string (rS b)]) (.inl rfl) (by simp) rfl (by simp) (by simp [Lib.join] at l0 l1 l2 l3 ⊢; omega) (by simp)).k ?_
  simp -implicitDefEqProofs [printS, opndS, hA, hB, hI]
theorem print_111 (o : Nat) (a b n : Int) (ha : 0 ≤ a) (hb : 0 ≤ b) (hn : 0 ≤ n) (hn1 : n ≤ 65535) (ok : okF o a b n) (hA : shA o = true) (hB : shB o = true) (hI : shI o = true) : PC Tryd.prog 14 [insV o a b n] [] (fun v _ => v = .tuple #[.string (printS o a b n), .int .i64 0]) fun _ _ => False := by
  have h0 : (0 : Int) ≤ o := by omega
  have ho : (o : Int) ≤ 23 := ok.1
  have a8 : a < 8 := ok.2.1
  have b8 : b < 8 := ok.2.2.1
  refine pc_of Tryd.func14 rfl (by decide) (by kernel_rfl) (by show 1 ≤ _; decide) (SW.of mixed _ _ _ ?_)
  simp -implicitDefEqProofs [insV]
  refine (fnRight o a b n h0).k ?_
  simp -implicitDefEqProofs [ok]
  refine (fnWord o (by omega)).k ?_
  simp -implicitDefEqProofs [rep_succ, rep_zero]
  refine (opndq_111 o a b n h0 hA hB hI).k ?_
  simp -implicitDefEqProofs [opndL]
  refine pwp_rounds 4 ?_
  rw [Rounds_succ]
  simp -implicitDefEqProofs
  refine (fnTextR a ha (by omega)).k ?_
  simp -implicitDefEqProofs [rep_succ, rep_zero, qappend, notInt, qelems, Value.oneCell']
  rw [Rounds_succ]
  simp -implicitDefEqProofs
  refine (fnTextR b hb (by omega)).k ?_
  simp -implicitDefEqProofs [rep_succ, rep_zero, qappend, notInt, qelems, Value.oneCell']
  rw [Rounds_succ]
  simp -implicitDefEqProofs
  refine (fnTextN n hn hn1).k ?_
  simp -implicitDefEqProofs [rep_succ, rep_zero, qappend, notInt, qelems, Value.oneCell']
  rw [Rounds_succ]
  simp -implicitDefEqProofs
  have l0 := word_len (o := o) (by omega)
  have l1 := rS_len (a := a) ha (by omega)
  have l2 := rS_len (a := b) hb (by omega)
  have l3 := nS_len (a := n) hn hn1
  refine (join_q (xs := [wordB o, rS a, rS b, nS n]) (cs := [.string (wordB o), .string (rS a), .string (rS b), .string (nS n)]) (.inl rfl) (by simp) rfl (by simp) (by simp [Lib.join] at l0 l1 l2 l3 ⊢; omega) (by simp)).k ?_
  simp -implicitDefEqProofs [printS, opndS, hA, hB, hI]
end Go.Proofs.YtjopikjefpenkaaDoor
/- Texts joined by spaces; decimal digits: each has one reading. -/
namespace Go.Proofs.YtjopikjefpenkaaDoor
theorem cut_inj {c : UInt8} : ∀ {x y r s : List UInt8}, c ∉ x → c ∉ y → x ++ c :: r = y ++ c :: s → x = y ∧ r = s
  | [], [], r, s, _, _, h => by simp at h; exact ⟨rfl, h⟩
  | [], b :: y, r, s, _, hy, h => by simp at h; exact absurd (by rw [h.1]; simp) hy
  | a :: x, [], r, s, hx, _, h => by simp at h; exact absurd (by rw [← h.1]; simp) hx
  | a :: x, b :: y, r, s, hx, hy, h => by
    simp only [List.cons_append, List.cons.injEq] at h
    obtain ⟨h1, h2⟩ := cut_inj (fun q => hx (by simp [q])) (fun q => hy (by simp [q])) h.2
    exact ⟨by rw [h.1, h1], h2⟩
theorem join_inj {c : UInt8} : ∀ (xs ys : List (List UInt8)), (∀ x ∈ xs, c ∉ x) → (∀ y ∈ ys, c ∉ y) → xs ≠ [] → ys ≠ [] → Lib.join xs [c] = Lib.join ys [c] → xs = ys
  | [], _, _, _, h, _, _ => absurd rfl h
  | _, [], _, _, _, h, _ => absurd rfl h
  | [x], [y], _, _, _, _, h => by simpa [Lib.join] using h
  | [x], y :: y2 :: ys, hx, _, _, _, h => by
    simp [Lib.join] at h
    exact absurd (by rw [h]; simp) (hx x (by simp))
  | x :: x2 :: xs, [y], _, hy, _, _, h => by
    simp [Lib.join] at h
    exact absurd (by rw [← h]; simp) (hy y (by simp))
  | x :: x2 :: xs, y :: y2 :: ys, hx, hy, _, _, h => by
    have e : x ++ c :: Lib.join (x2 :: xs) [c] = y ++ c :: Lib.join (y2 :: ys) [c] := by simpa [Lib.join] using h
    obtain ⟨h1, h2⟩ := cut_inj (hx x (by simp)) (hy y (by simp)) e
    rw [h1, join_inj (x2 :: xs) (y2 :: ys) (fun z hz => hx z (by simp [hz])) (fun z hz => hy z (by simp [hz])) (by simp) (by simp) h2]
theorem dig_eq {u v : Nat} (hu : u < 10) (hv : v < 10) (h : UInt8.ofNat (48 + u) = UInt8.ofNat (48 + v)) : u = v := by
  have := congrArg UInt8.toNat h
  simp at this
  omega
theorem dec_ne (u : Nat) : Lib.decDigits u ≠ [] := by
  rw [Lib.decDigits]
  split <;> simp
theorem dec_inj : ∀ (u v : Nat), Lib.decDigits u = Lib.decDigits v → u = v := by
  intro u
  induction u using Nat.strongRecOn with
  | _ u ih =>
    intro v h
    rw [Lib.decDigits.eq_def u, Lib.decDigits.eq_def v] at h
    split at h
    · split at h
      · exact dig_eq (by assumption) (by assumption) (List.cons.inj h).1
      · exfalso
        have := congrArg List.length h
        simp at this
        exact dec_ne _ this
    · split at h
      · exfalso
        have := congrArg List.length h
        simp at this
        exact dec_ne _ this
      · obtain ⟨h1, h2⟩ := List.append_inj' h rfl
        have e1 := ih (u / 10) (by omega) (v / 10) h1
        have e2 := dig_eq (u := u % 10) (v := v % 10) (by omega) (by omega) (List.cons.inj h2).1
        omega
theorem dec_no32 (u : Nat) : (32 : UInt8) ∉ Lib.decDigits u := by
  induction u using Nat.strongRecOn with
  | _ u ih =>
    have dg : ∀ k, k < 10 → (32 : UInt8) ≠ UInt8.ofNat (48 + k) := fun k hk e => by
      have := congrArg UInt8.toNat e
      simp at this
      omega
    rw [Lib.decDigits.eq_def u]
    split
    · intro e; rw [List.mem_singleton] at e; exact dg u (by assumption) e
    · simp only [List.mem_append, List.mem_singleton]
      rintro (h | h)
      · exact ih (u / 10) (by omega) h
      · exact dg _ (by omega) h
theorem itoa_inj {u v : Int} (hu : 0 ≤ u) (hv : 0 ≤ v) (h : Lib.itoa u = Lib.itoa v) : u = v := by
  obtain ⟨n, rfl⟩ := Int.eq_ofNat_of_zero_le hu
  obtain ⟨k, rfl⟩ := Int.eq_ofNat_of_zero_le hv
  rw [Lib.itoa_nonneg, Lib.itoa_nonneg] at h
  rw [dec_inj n k h]
theorem itoa_no32 {u : Int} (hu : 0 ≤ u) : (32 : UInt8) ∉ Lib.itoa u := by
  obtain ⟨n, rfl⟩ := Int.eq_ofNat_of_zero_le hu
  rw [Lib.itoa_nonneg]
  exact dec_no32 n
end Go.Proofs.YtjopikjefpenkaaDoor
/- Unlike right instructions have unlike texts. -/
namespace Go.Proofs.YtjopikjefpenkaaDoor
open Go.RowKit
set_option maxRecDepth 1000000
theorem word_inj : (List.range 24).all (fun i => (List.range 24).all fun j => !((wordB i).data.toList == (wordB j).data.toList) || i == j) = true := by kernel_rfl
theorem word_no32 : (List.range 24).all (fun i => !((wordB i).data.toList.contains 32)) = true := by kernel_rfl
theorem rS_data (a : Int) : (rS a).data.toList = 114 :: Lib.itoa a := by simp [rS]
theorem nS_data (n : Int) : (nS n).data.toList = Lib.itoa n := rfl
theorem printS_inj {o o' : Nat} {a b n a' b' n' : Int} (ha : 0 ≤ a) (hb : 0 ≤ b) (hn : 0 ≤ n) (ha' : 0 ≤ a') (hb' : 0 ≤ b') (hn' : 0 ≤ n') (ok : okF o a b n) (ok' : okF o' a' b' n') (h : printS o a b n = printS o' a' b' n') : o = o' ∧ a = a' ∧ b = b' ∧ n = n' := by
  have hj := congrArg (fun x : ByteArray => x.data.toList) h
  simp only [printS, joinS] at hj
  have ho : o < 24 := by have := ok.1; omega
  have ho' : o' < 24 := by have := ok'.1; omega
  have nw : ∀ i, i < 24 → (32 : UInt8) ∉ (wordB i).data.toList := fun i hi => by simpa using List.all_eq_true.1 word_no32 i (List.mem_range.2 hi)
  have nr : ∀ {a : Int}, 0 ≤ a → (32 : UInt8) ∉ (rS a).data.toList := fun {a} ha => by
    rw [rS_data]
    simp only [List.mem_cons, not_or]
    exact ⟨by decide, itoa_no32 ha⟩
  have nn : ∀ {n : Int}, 0 ≤ n → (32 : UInt8) ∉ (nS n).data.toList := fun {n} hn => by rw [nS_data]; exact itoa_no32 hn
  have key : ∀ {o : Nat} {sa sb si : Bool} {a b n : Int}, o < 24 → 0 ≤ a → 0 ≤ b → 0 ≤ n → ∀ x ∈ (wordB o :: opndS sa sb si a b n).map (·.data.toList), (32 : UInt8) ∉ x := fun {o sa sb si a b n} ho ha hb hn x hx => by
    obtain ⟨y, hy, rfl⟩ := List.mem_map.1 hx
    rcases List.mem_cons.1 hy with rfl | hy
    · exact nw _ ho
    · unfold opndS at hy
      rcases List.mem_append.1 hy with hy | hy
      · cases sa <;> simp at hy
        subst hy; exact nr ha
      · rcases List.mem_append.1 hy with hy | hy
        · cases sb <;> simp at hy
          subst hy; exact nr hb
        · cases si <;> simp at hy
          subst hy; exact nn hn
  have hl := join_inj _ _ (key ho ha hb hn) (key ho' ha' hb' hn') (by simp) (by simp) (by simpa using hj)
  simp only [List.map_cons, List.cons.injEq] at hl
  obtain ⟨hw, hr⟩ := hl
  have hoo : o = o' := by
    have := List.all_eq_true.1 (List.all_eq_true.1 word_inj o (List.mem_range.2 ho)) o' (List.mem_range.2 ho')
    rw [hw] at this
    simpa using this
  subst hoo
  have f := okF_bool o a b n
  have f' := okF_bool o a' b' n'
  rw [decide_eq_true ok] at f
  rw [decide_eq_true ok'] at f'
  have f := f.symm
  have f' := f'.symm
  simp only [Bool.and_eq_true] at f f'
  obtain ⟨_, _, _, fA, fB, fI⟩ := f
  obtain ⟨_, _, _, fA', fB', fI'⟩ := f'
  refine ⟨rfl, ?_⟩
  revert hr fA fB fI fA' fB' fI'
  cases shA o <;> cases shB o <;> cases shI o <;> simp [opndS, rS_data, nS_data]
  all_goals (intros; refine ⟨?_, ?_, ?_⟩ <;> first | assumption | (apply itoa_inj <;> assumption) | (subst_vars; rfl) | omega)
end Go.Proofs.YtjopikjefpenkaaDoor

/- Operations, their words, the operation of a word. -/
import Derived.Test.YtjopikjefpenkaaDoorGj
import Derived.Test.YtjopikjefpenkaaDoorG8
import Derived.Test.YtjopikjefpenkaaDoorGq
set_option linter.unusedSimpArgs false
set_option linter.unusedVariables false
set_option linter.unusedSectionVars false
namespace Go.Proofs.YtjopikjefpenkaaDoor
open Go.RowKit
set_option maxRecDepth 1000000
set_option maxHeartbeats 8000000
def wordsL : List ByteArray := [⟨#[110, 111, 112]⟩, ⟨#[104, 97, 108, 116]⟩, ⟨#[108, 105]⟩, ⟨#[109, 111, 118]⟩, ⟨#[97, 100, 100]⟩, ⟨#[115, 117, 98]⟩, ⟨#[109, 117, 108]⟩, ⟨#[100, 105, 118]⟩, ⟨#[97, 110, 100]⟩, ⟨#[111, 114]⟩, ⟨#[120, 111, 114]⟩, ⟨#[115, 104, 108]⟩, ⟨#[115, 104, 114]⟩, ⟨#[108, 100]⟩, ⟨#[115, 116]⟩, ⟨#[108, 100, 98]⟩, ⟨#[115, 116, 98]⟩, ⟨#[106, 109, 112]⟩, ⟨#[106, 122]⟩, ⟨#[106, 110, 122]⟩, ⟨#[106, 108, 116]⟩, ⟨#[99, 97, 108, 108]⟩, ⟨#[114, 101, 116]⟩, ⟨#[115, 121, 115]⟩]
def wordB (i : Nat) : ByteArray := wordsL.getD i ⟨#[]⟩
def isStr (b : ByteArray) (o : Option Re) : Bool := match o with
  | some (.val (.string s) _) => s.data.toList == b.data.toList
  | _ => false
def wordF : List FuncId := [35, 66, 67, 46]
theorem wordF_ok : wordF.all (okFn Tryd.prog) = true := by kernel_rfl
theorem word_runs : (List.range 256).all (fun i => isStr (wordB i) (ef Tryd.prog wordF xText 30 30 35 [.int .u8 i] [])) = true := by kernel_rfl
theorem wordR_runs : (List.range 256).all (fun i => isStr (wordB i) (ef Tryd.prog wordF xText 30 30 46 [.int .u8 i] [])) = true := by kernel_rfl
theorem isStr_fn {f : FuncId} {args : List Value} {b : ByteArray} (h : isStr b (ef Tryd.prog wordF xText 30 30 f args []) = true) (ha : flats args = true) : Fn Tryd.prog f args (.string b) := by
  refine Fn.of ?_ ha rfl
  unfold isStr at h
  split at h
  · rename_i s hs e
    have : s = b := by
      obtain ⟨s⟩ := s
      obtain ⟨b⟩ := b
      congr 1
      exact Array.ext' (by simpa using h)
    subst this
    exact (ef_sound mixed wordF_ok xText_ok _ _ _ _ _ e).mono (fun v h' hv => by cases hv; rfl) (fun v h' hv => by cases hv)
  · cases h
theorem fnWord (i : Nat) (hi : i ≤ 255) : Fn Tryd.prog 35 [.int .u8 i] (.string (wordB i)) := isStr_fn (List.all_eq_true.1 word_runs i (List.mem_range.2 (by omega))) rfl
theorem fnRWord (i : Nat) (hi : i ≤ 255) : Fn Tryd.prog 46 [.int .u8 i] (.string (wordB i)) := isStr_fn (List.all_eq_true.1 wordR_runs i (List.mem_range.2 (by omega))) rfl
theorem fnShape (o : Int) (h0 : 0 ≤ o) : Fn Tryd.prog 41 [.int .u8 o] (.agg #[.bool (shA o), .bool (shB o), .bool (shI o)]) := Fn.of_calls (callable Tryd.func41 rfl (by decide)) rfl rfl fun w _ => shapeOf_ok o h0 w
theorem fnRUses (o : Int) (h0 : 0 ≤ o) : Fn Tryd.prog 45 [.int .u8 o] (.tuple #[.bool (shA o), .bool (shB o), .bool (shI o)]) := Fn.of_calls (callable Tryd.func45 rfl (by decide)) rfl rfl fun w _ => usesR_ok o h0 w
theorem fnUses (o : Int) (h0 : 0 ≤ o) : Fn Tryd.prog 58 [.int .u8 o] (.tuple #[.bool (shA o), .bool (shB o), .bool (shI o)]) := by
  refine Fn.of ?_ rfl rfl
  refine pc_of Tryd.func58 rfl (by decide) (by kernel_rfl) (by show 1 ≤ _; decide) (SW.of mixed _ _ _ ?_)
  simp -implicitDefEqProofs
  refine (fnShape o h0).k ?_
  simp -implicitDefEqProofs
  refine pdk_at [] (by kernel_rfl) ?_
  simp -implicitDefEqProofs
def cutS (s : ByteArray) : ByteArray := if 300 < s.size then s.extract 0 300 else s
theorem fnShort (s : ByteArray) (hs : s.size ≤ 9223372036854775807) : Fn Tryd.prog 16 [.string s] (.string (cutS s)) := by
  refine Fn.of ?_ rfl rfl
  refine pc_of Tryd.func16 rfl (by decide) (by kernel_rfl) (by show 1 ≤ _; decide) (SW.of mixed _ _ _ ?_)
  unfold cutS
  by_cases h : 300 < s.size
  · have h1 : (300 : Int) < s.size := by omega
    have h2 : (300 : Int) ≤ s.size := by omega
    simp -implicitDefEqProofs [h, h1, h2]
  · have h1 : ¬ ((300 : Int) < s.size) := by omega
    simp -implicitDefEqProofs [h, h1]
/-- Where a word stands. -/
def pfindS (s : ByteArray) : List ByteArray → Nat → Option Nat
  | [], _ => none
  | w :: ws, i => if w.toList == s.toList then some i else pfindS s ws (i + 1)
def rdV (s : ByteArray) : Value := .tuple #[.int .u8 ((pfindS s wordsL 0).getD 0), .bool (pfindS s wordsL 0).isSome]
end Go.Proofs.YtjopikjefpenkaaDoor
/- The operation of a word. -/
namespace Go.Proofs.YtjopikjefpenkaaDoor
open Go.RowKit
set_option maxRecDepth 1000000
set_option maxHeartbeats 8000000
theorem ba_loop (s : ByteArray) : ∀ (n i : Nat) (r : List UInt8), s.size - i = n → ByteArray.toList.loop s i r = r.reverse ++ s.data.toList.drop i := by
  intro n
  induction n with
  | zero =>
    intro i r h
    rw [ByteArray.toList.loop.eq_def]
    have : ¬ i < s.size := by omega
    rw [if_neg this, List.drop_eq_nil_of_le (by simpa using (show s.data.size ≤ i by have : s.data.size = s.size := rfl; omega))]
    simp
  | succ n ih =>
    intro i r h
    rw [ByteArray.toList.loop.eq_def]
    have hlt : i < s.size := by omega
    rw [if_pos hlt, ih (i + 1) _ (by omega)]
    have hl : i < s.data.toList.length := by simpa using hlt
    have hg : s.get! i = s.data.toList[i] := by
      show s.data[i]! = _
      have h2 : i < s.data.size := hlt
      rw [getElem!_pos s.data i h2]
      simp
    rw [List.drop_eq_getElem_cons hl, hg]
    simp
theorem ba_toList (s : ByteArray) : s.toList = s.data.toList := by
  unfold ByteArray.toList
  rw [ba_loop s _ 0 [] rfl]
  simp
theorem ba_eq (a b : ByteArray) : (a.toList == b.toList) = (b == a) := by
  rw [Bool.eq_iff_iff, MapKept.bytes_beq, beq_iff_eq, ba_toList, ba_toList]
  constructor
  · intro h
    obtain ⟨a⟩ := a
    obtain ⟨b⟩ := b
    congr 1
    exact (Array.ext' h).symm
  · rintro rfl; rfl
def wordsE : List (Value × Value) := wordsL.zipIdx.map fun x => (.string x.1, .int .u8 x.2)
theorem words_run : ef Tryd.prog textL xText 40 40 73 [] [] = some (.val (.map (some 0)) [.mp wordsE]) := by kernel_rfl
theorem words_pc : PC Tryd.prog 73 [] [] (fun v h' => v = .map (some 0) ∧ h' = [.mp wordsE]) fun _ _ => False :=
  (ef_sound mixed textL_ok xText_ok _ _ _ _ _ words_run).mono (fun v h' hv => by cases hv; exact ⟨rfl, rfl⟩) fun v h' hv => by cases hv
theorem pfind_words (s : ByteArray) : ∀ (ws : List ByteArray) (i : Nat), pfind .string (.string s) ((ws.zipIdx i).map fun x => (.string x.1, .int .u8 x.2)) i = some ((pfindS s ws i).map fun j => (j, .int .u8 (j : Int)))
  | [], i => rfl
  | w :: ws, i => by
    simp only [List.zipIdx_cons, List.map_cons, pfind, pfindS, Instr.sameNow, ba_eq]
    cases s == w
    · simp only [pfind_words s ws (i + 1)]; rfl
    · rfl
theorem fnRead (s : ByteArray) : Fn Tryd.prog 40 [.string s] (rdV s) := by
  refine Fn.of ?_ rfl rfl
  have hp : pfind .string (.string s) wordsE 0 = some ((pfindS s wordsL 0).map fun j => (j, .int .u8 (j : Int))) := pfind_words s wordsL 0
  refine pc_of Tryd.func40 rfl (by decide) (by kernel_rfl) (by show 1 ≤ _; decide) (SW.of mixed _ _ _ ?_)
  simp -implicitDefEqProofs
  refine words_pc.k (fun v h' hv => ?_) fun _ _ x => x.elim
  obtain ⟨rfl, rfl⟩ := hv
  unfold rdV
  cases hr : pfindS s wordsL 0 with
  | none =>
    rw [hr] at hp
    simp -implicitDefEqProofs [pop_lookup, qm, mread, pkey, hp, lkv]
  | some j =>
    rw [hr] at hp
    simp -implicitDefEqProofs [pop_lookup, qm, mread, pkey, hp, lkv]
end Go.Proofs.YtjopikjefpenkaaDoor

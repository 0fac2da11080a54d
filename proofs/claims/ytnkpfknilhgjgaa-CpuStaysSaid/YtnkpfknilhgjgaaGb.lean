/- Instructions out of bytes. -/
import Derived.Test.YtnkpfknilhgjgaaG8x
import Derived.Test.YtnkpfknilhgjgaaG3
import Derived.Test.YtnkpfknilhgjgaaGa
import Derived.Test.YtnkpfknilhgjgaaGq
set_option linter.unusedSimpArgs false
set_option linter.unusedVariables false
namespace Go.Proofs.Ytnkpfknilhgjgaa
open Go.RowKit
set_option maxRecDepth 100000
set_option maxHeartbeats 4000000
def u8s (bs : List UInt8) : List Value := bs.map fun b => .int .u8 b.toNat
@[simp] theorem u8s_len (bs : List UInt8) : (u8s bs).length = bs.length := by simp [u8s]
theorem u8s_flat (bs : List UInt8) {n : Nat} : (u8s bs).all (flat (n + 1)) = true := by simp [u8s, List.all_eq_true]
theorem u8s_get {bs : List UInt8} {i : Nat} (h : i < bs.length) : (u8s bs)[i]? = some (.int .u8 (bs.getD i 0).toNat) := by
  simp [u8s, h, List.getD_eq_getElem?_getD]
theorem byte_le (b : UInt8) : (b.toNat : Int) ≤ 255 := by have := b.toNat_lt; omega
theorem byte_ge (b : UInt8) : 0 ≤ (b.toNat : Int) := by omega
/-- The instruction of four bytes. -/
def decV (x0 x1 x2 x3 : Int) : Value := if okF x0 (x1 / 16) (x1 % 16) (x2 * 256 + x3) then .tuple #[insV x0 (x1 / 16) (x1 % 16) (x2 * 256 + x3), .int .i64 0] else .tuple #[insV 0 0 0 0, .int .i64 3]
theorem decV_flat (x0 x1 x2 x3 : Int) : flat 6 (decV x0 x1 x2 x3) = true := by unfold decV; split <;> rfl
theorem fnJoin (x y : Int) (h0 : 0 ≤ x) (h1 : x ≤ 255) (h2 : 0 ≤ y) (h3 : y ≤ 255) : Fn Try.prog 61 [.int .u8 x, .int .u8 y] (.int .u16 (x * 256 + y)) := Fn.same (callable Try.func61 rfl (by decide)) rfl rfl (wJoin_ok x y h0 h1 h2 h3)
theorem fnRJoin (x y : Int) (h0 : 0 ≤ x) (h1 : x ≤ 255) (h2 : 0 ≤ y) (h3 : y ≤ 255) : Fn Try.prog 47 [.int .u8 x, .int .u8 y] (.int .u16 (x * 256 + y)) := Fn.same (callable Try.func47 rfl (by decide)) rfl rfl (rJoin_ok x y h0 h1 h2 h3)
theorem u8_and15 (x : Int) (h0 : 0 ≤ x) (h1 : x ≤ 255) : bitI (fun _ u v => u &&& v) .u8 x 15 = x % 16 := by
  obtain ⟨n, rfl⟩ := Int.eq_ofNat_of_zero_le h0
  have hn : n < 256 := by omega
  have : ∀ m : Fin 256, bitI (fun _ u v => u &&& v) .u8 (m.val : Nat) 15 = (m.val : Int) % 16 := by decide +kernel
  exact this ⟨n, hn⟩
section
variable (cs : List Value) (o c : Nat) (sp : Option Nat) (x0 x1 x2 x3 : Int) (g0 : 0 ≤ x0) (g1 : 0 ≤ x1 ∧ x1 ≤ 255) (g2 : 0 ≤ x2 ∧ x2 ≤ 255) (g3 : 0 ≤ x3 ∧ x3 ≤ 255) (e0 : cs[o]? = some (.int .u8 x0)) (e1 : cs[o + 1]? = some (.int .u8 x1)) (e2 : cs[o + 2]? = some (.int .u8 x2)) (e3 : cs[o + 3]? = some (.int .u8 x3))
include g0 g1 g2 g3 e0 e1 e2 e3
theorem decode_small :
    PC Try.prog 46 [.slice (some ⟨0, o, sp⟩) 4 c] [.ro cs] (fun v h' => v = decV x0 x1 x2 x3 ∧ Kept [.ro cs] h') fun _ _ => False := by
  have a1 := u8_and15 x1 g1.1 g1.2
  have a2 : x1.fdiv (2 ^ min 4 IntKind.u8.bits) = x1 / 16 := Int.fdiv_eq_ediv_of_nonneg _ (by decide)
  refine pc_of Try.func46 rfl (by decide) (by kernel_rfl) (by show 1 ≤ _; decide) (SW.of mixed _ _ _ ?_)
  simp -implicitDefEqProofs
  refine pdk_at [] (by kernel_rfl) ?_
  simp -implicitDefEqProofs [e0, e1, e2, e3]
  refine (fnJoin x2 x3 g2.1 g2.2 g3.1 g3.2).kq ?_
  simp -implicitDefEqProofs [a1, a2]
  refine (fnRight x0 (x1 / 16) (x1 % 16) (x2 * 256 + x3) g0).k ?_
  by_cases hok : okF x0 (x1 / 16) (x1 % 16) (x2 * 256 + x3)
  · simp -implicitDefEqProofs [hok, decV, insV, Kept]
  · simp -implicitDefEqProofs [hok, decV, insV, Kept]
theorem decodeR_small :
    PC Try.prog 32 [.slice (some ⟨0, o, sp⟩) 4 c] [.ro cs] (fun v h' => v = decV x0 x1 x2 x3 ∧ Kept [.ro cs] h') fun _ _ => False := by
  have a1 : x1.tmod 16 = x1 % 16 := Int.tmod_eq_emod_of_nonneg g1.1
  have a2 : IntKind.u8.wrap (x1.tdiv 16) = x1 / 16 := by rw [Int.tdiv_eq_ediv_of_nonneg g1.1, IntKind.wrap_u8]; omega
  refine pc_of Try.func32 rfl (by decide) (by kernel_rfl) (by show 1 ≤ _; decide) (SW.of mixed _ _ _ ?_)
  simp -implicitDefEqProofs
  refine pdk_at [] (by kernel_rfl) ?_
  simp -implicitDefEqProofs [e0, e1, e2, e3]
  refine (fnRJoin x2 x3 g2.1 g2.2 g3.1 g3.2).kq ?_
  simp -implicitDefEqProofs [a1, a2]
  refine (fnRRight x0 (x1 / 16) (x1 % 16) (x2 * 256 + x3) g0).k ?_
  by_cases hok : okF x0 (x1 / 16) (x1 % 16) (x2 * 256 + x3)
  · simp -implicitDefEqProofs [hok, decV, insV, Kept]
  · simp -implicitDefEqProofs [hok, decV, insV, Kept]
end
end Go.Proofs.Ytnkpfknilhgjgaa
/- A code's instructions, one behind the other. -/
namespace Go.Proofs.Ytnkpfknilhgjgaa
open Go.RowKit
set_option maxRecDepth 100000
set_option maxHeartbeats 4000000
section
variable {P : Program} {f : FuncId} {args : List Value} {h : List PO} {v : Value} {os : List PO} {K Kp : Value → List PO → Prop}
theorem PCq.k (q : PCq P f args h fun v' ns => v' = v ∧ ns = os) (hK : K v (h ++ os)) : @PCk P f args h ⟨K, Kp⟩ := (q.mono' (K' := fun v ns => K v (h ++ ns)) fun v' ns ⟨h1, h2⟩ => by subst h1; subst h2; exact hK).pc
theorem PCq.kq (q : PCq P f args h fun v' ns => v' = v ∧ ns = os) (hK : K v os) : @PCqk P f args h ⟨K, Kp⟩ := ⟨v, os, q, hK⟩
end
/-- A byte. -/
def byt (B : List UInt8) (i : Nat) : Int := (B.getD i 0).toNat
theorem byt_ge (B i) : 0 ≤ byt B i := by unfold byt; omega
theorem byt_le (B i) : byt B i ≤ 255 := by unfold byt; have := (B.getD i 0).toNat_lt; omega
theorem byt_get {B : List UInt8} {i : Nat} (h : i < B.length) : (u8s B)[i]? = some (.int .u8 (byt B i)) := u8s_get h
def decB (B : List UInt8) (i : Nat) : Value := decV (byt B i) (byt B (i + 1)) (byt B (i + 2)) (byt B (i + 3))
theorem row_args {o n c : Nat} {b : Nat} {sp : Option Nat} {l l' : List Value} (h : RNs (fun i => [b][i]?) l l') : RNs (fun i => [b][i]?) (.slice (some ⟨0, o, sp⟩) n c :: l) (.slice (some ⟨b, o, sp⟩) n c :: l') := RNs.cons (.sl _ _ _ _ rfl) h
theorem decode_q {h : List PO} {b o c : Nat} {sp : Option Nat} {B : List UInt8} (hb : hcells h b = some (u8s B)) (hl : o + 4 ≤ B.length) : PCq Try.prog 46 [.slice (some ⟨b, o, sp⟩) 4 c] h fun v ns => v = decB B o ∧ ns = [] :=
  PC.reads [b] (decode_small (u8s B) o c sp _ _ _ _ (byt_ge _ _) ⟨byt_ge _ _, byt_le _ _⟩ ⟨byt_ge _ _, byt_le _ _⟩ ⟨byt_ge _ _, byt_le _ _⟩ (byt_get (by omega)) (byt_get (by omega)) (byt_get (by omega)) (byt_get (by omega))) (fit_row hb (u8s_flat B)) live_ro (row_args RNs.nil) (decV_flat _ _ _ _)
theorem decodeR_q {h : List PO} {b o c : Nat} {sp : Option Nat} {B : List UInt8} (hb : hcells h b = some (u8s B)) (hl : o + 4 ≤ B.length) : PCq Try.prog 32 [.slice (some ⟨b, o, sp⟩) 4 c] h fun v ns => v = decB B o ∧ ns = [] :=
  PC.reads [b] (decodeR_small (u8s B) o c sp _ _ _ _ (byt_ge _ _) ⟨byt_ge _ _, byt_le _ _⟩ ⟨byt_ge _ _, byt_le _ _⟩ ⟨byt_ge _ _, byt_le _ _⟩ (byt_get (by omega)) (byt_get (by omega)) (byt_get (by omega)) (byt_get (by omega))) (fit_row hb (u8s_flat B)) live_ro (row_args RNs.nil) (decV_flat _ _ _ _)
/-- The instruction at a place. -/
def atOut (n : Nat) (pc : Int) : Prop := ¬ (pc % 4 = 0) ∨ (n : Int) < pc + 4
instance (n : Nat) (pc : Int) : Decidable (atOut n pc) := by unfold atOut; infer_instance
def atV (B : List UInt8) (n : Nat) (pc : Int) : Value := if atOut n pc then .tuple #[insV 0 0 0 0, .int .i64 10] else decB B pc.toNat
theorem decB_cases (B : List UInt8) (i : Nat) : ∃ o a b n e, decB B i = .tuple #[insV o a b n, .int .i64 e] := by
  unfold decB decV; split <;> exact ⟨_, _, _, _, _, rfl⟩
theorem at_row (B : List UInt8) (n c : Nat) (pc : Int) (h0 : 0 ≤ pc) (h1 : pc ≤ 65535) (hn : n ≤ B.length) (hc : n ≤ c) : PC Try.prog 31 [.slice (some ⟨0, 0, none⟩) n c, .int .u16 pc] [.ro (u8s B)] (fun v h' => v = atV B n pc ∧ Kept [.ro (u8s B)] h') fun _ _ => False := by
  obtain ⟨k, rfl⟩ := Int.eq_ofNat_of_zero_le h0
  have w1 : IntKind.i64.wrap (k : Int) = k := by rw [IntKind.wrap_i64]; omega
  have w2 : IntKind.i64.wrap ((k : Int) + 4) = k + 4 := by rw [IntKind.wrap_i64]; omega
  have m1 : (k : Int).tmod 4 = k % 4 := Int.tmod_eq_emod_of_nonneg (by omega)
  refine pc_of Try.func31 rfl (by decide) (by kernel_rfl) (by show 2 ≤ _; decide) (SW.of mixed _ _ _ ?_)
  by_cases h4 : (k : Int) % 4 = 0
  · by_cases h5 : (n : Int) < (k : Int) + 4
    · have h6 : atOut n k := .inr h5
      simp -implicitDefEqProofs [w1, w2, m1, h4, h5, atV, h6, insV, Kept]
    · have h6 : ¬ atOut n k := by unfold atOut; omega
      have h7 : ((k : Int) + 4) ≤ n := by omega
      have h8 : (k : Int) + 4 ≤ c := by omega
      have h9 : ((k : Int) + 4 - k).toNat = 4 := by omega
      have h10 : ¬ ((c : Int) = k) := by omega
      have h11 : (k : Int) ≤ k + 4 := by omega
      simp -implicitDefEqProofs [w1, w2, m1, h4, h5, h8, h9, h10, h11]
      refine (decode_q (B := B) (o := k) ?_ (by omega)).k ?_
      · rfl
      obtain ⟨o, a, b, m, e, he⟩ := decB_cases B k
      simp -implicitDefEqProofs [atV, h6, insV, he, Kept]
  · have h6 : atOut n k := .inl h4
    have h7 : ¬ (4 ∣ (k : Int)) := by omega
    simp -implicitDefEqProofs [w1, w2, m1, h4, h7, atV, h6, insV, Kept]
theorem at_q {h : List PO} {b : Nat} {B : List UInt8} {n c : Nat} {pc : Int} (hb : hcells h b = some (u8s B)) (h0 : 0 ≤ pc) (h1 : pc ≤ 65535) (hn : n ≤ B.length) (hc : n ≤ c) : PCq Try.prog 31 [.slice (some ⟨b, 0, none⟩) n c, .int .u16 pc] h fun v ns => v = atV B n pc ∧ ns = [] :=
  PC.reads [b] (at_row B n c pc h0 h1 hn hc) (fit_row hb (u8s_flat B)) live_ro (row_args (RNs.of_flat fun v hv => ⟨6, by simp at hv; subst hv; rfl⟩)) (by unfold atV; split; rfl; exact decV_flat _ _ _ _)
theorem at_nil {h : List PO} {pc : Int} (h0 : 0 ≤ pc) (h1 : pc ≤ 65535) : PCq Try.prog 31 [.slice none 0 0, .int .u16 pc] h fun v ns => v = atV [] 0 pc ∧ ns = [] := by
  refine PC.reads (h0 := []) [] ?_ fit_none live_nil (RNs.of_flat fun v hv => ⟨6, by simp at hv; rcases hv with rfl | rfl <;> rfl⟩) (by unfold atV; split; rfl; exact decV_flat _ _ _ _)
  obtain ⟨k, rfl⟩ := Int.eq_ofNat_of_zero_le h0
  have w1 : IntKind.i64.wrap (k : Int) = k := by rw [IntKind.wrap_i64]; omega
  have w2 : IntKind.i64.wrap ((k : Int) + 4) = k + 4 := by rw [IntKind.wrap_i64]; omega
  have m1 : (k : Int).tmod 4 = k % 4 := Int.tmod_eq_emod_of_nonneg (by omega)
  refine pc_of Try.func31 rfl (by decide) (by kernel_rfl) (by show 2 ≤ _; decide) (SW.of mixed _ _ _ ?_)
  have h5 : 0 < (k : Int) + 4 := by omega
  have h6 : atOut 0 k := .inr h5
  by_cases h4 : (k : Int) % 4 = 0
  · simp -implicitDefEqProofs [w1, w2, m1, h4, h5, atV, h6, insV, Kept]
  · simp -implicitDefEqProofs [w1, w2, m1, h4, atV, h6, insV, Kept]
/-- One step of a code. -/
def stepF (B : List UInt8) (n : Nat) (r : Nat → Int) : (Nat → Int) × Acc :=
  if atOut n (r 0) then (r, ⟨7, 0, 0, 0, 10⟩)
  else execF r (byt B (r 0).toNat) (byt B ((r 0).toNat + 1) / 16) (byt B ((r 0).toNat + 1) % 16) (byt B ((r 0).toNat + 2) * 256 + byt B ((r 0).toNat + 3))
/-- Steps, until one asks for something. -/
def runF (B : List UInt8) (n : Nat) : Nat → (Nat → Int) → (Nat → Int) × Acc × Nat
  | 0, r => (r, ⟨0, 0, 0, 0, 0⟩, 0)
  | m + 1, r => let s := stepF B n r
    if s.2.k = 0 then let t := runF B n m s.1; (t.1, t.2.1, t.2.2 + 1)
    else if s.2.k = 7 then (s.1, s.2, 0) else (s.1, s.2, 1)
end Go.Proofs.Ytnkpfknilhgjgaa
/- Running a code. -/
namespace Go.Proofs.Ytnkpfknilhgjgaa
open Go.RowKit
set_option maxRecDepth 100000
set_option maxHeartbeats 4000000
theorem regL_flat (r : Nat → Int) {n : Nat} : (regL r).all (flat (n + 1)) = true := rfl
@[simp] theorem RNs_regL {ρ : Nat → Option Nat} (r : Nat → Int) : RNs ρ (regL r) (regL r) = True := RNs_flat (regL_flat r)
/-- What a run of at most `m` steps answers. -/
def runV (t : (Nat → Int) × Acc × Nat) : Value := .tuple #[regsV t.1, t.2.1.val, .int .i64 t.2.2]
def plus (t : (Nat → Int) × Acc × Nat) (k : Nat) : (Nat → Int) × Acc × Nat := (t.1, t.2.1, t.2.2 + k)
def RunInv (B : List UInt8) (n m : Nat) (r : Nat → Int) (a : Nat × (Nat → Int)) : Prop := RegsOk a.2 ∧ a.1 ≤ m ∧ runF B n m r = plus (runF B n (m - a.1) a.2) a.1
theorem upd_ok {r : Nat → Int} (h : RegsOk r) {i : Nat} {v : Int} (h0 : 0 ≤ v) (h1 : v ≤ 65535) : RegsOk (upd r i v) := fun k => by
  unfold upd; split
  · exact ⟨h0, h1⟩
  · exact h k
theorem stepR_ok {r : Nat → Int} (h : RegsOk r) : RegsOk (stepR r) := upd_ok h (by omega) (by omega)
theorem byt2 (B : List UInt8) (i j : Nat) : 0 ≤ byt B i * 256 + byt B j ∧ byt B i * 256 + byt B j ≤ 65535 := by
  have := byt_ge B i; have := byt_ge B j; have := byt_le B i; have := byt_le B j; omega
def Dd.putOk : Dd → Prop
  | .put _ v => 0 ≤ v ∧ v ≤ 65535
  | .leap t _ => 0 ≤ t ∧ t ≤ 65535
  | _ => True
theorem done_ok {r : Nat → Int} (h : RegsOk r) {d : Dd} (hd : d.putOk) : RegsOk (d.done r).1 := by
  cases d with
  | nothing => exact stepR_ok h
  | put a v => exact upd_ok (stepR_ok h) hd.1 hd.2
  | leap t l =>
    simp only [Dd.done]
    refine upd_ok ?_ hd.1 hd.2
    cases l
    · exact stepR_ok h
    · exact upd_ok (stepR_ok h) (by omega) (by omega)
  | ask x => exact stepR_ok h
  | stop x => exact h
theorem putOk_ite (c : Prop) [Decidable c] (x y : Dd) (hx : x.putOk) (hy : y.putOk) : (if c then x else y).putOk := by split <;> assumption
theorem bits_range (op : BinOp) (x y : Int) : 0 ≤ bits op .u16 x y ∧ bits op .u16 x y ≤ 65535 := by
  unfold bits
  split <;> (rw [IntKind.wrap_u16]; omega)
theorem sumF_range {o a b : Int} (ha0 : 0 ≤ a) (ha1 : a ≤ 65535) (hb0 : 0 ≤ b) (hb1 : b ≤ 65535) : 0 ≤ sumF o a b ∧ sumF o a b ≤ 65535 := by
  unfold sumF
  repeat' split
  all_goals first
    | omega
    | exact bits_range _ _ _
    | exact wShl_range _ _
    | exact wShr_range _ _ ha0 ha1
    | exact ⟨Int.ediv_nonneg ha0 hb0, Int.le_trans (Int.ediv_le_self _ ha0) ha1⟩
theorem deed_putOk {r : Nat → Int} (hr : RegsOk r) {o a b n : Int} (hn0 : 0 ≤ n) (hn1 : n ≤ 65535) : (deedF r o a b n).putOk := by
  have ha := hr (1 + a.toNat)
  have hb := hr (1 + b.toNat)
  unfold deedF
  repeat' (first | apply putOk_ite | exact trivial | exact ⟨hn0, hn1⟩ | exact hr 8 | exact sumF_range ha.1 ha.2 hb.1 hb.2)
theorem exec_regs {r : Nat → Int} (hr : RegsOk r) {o a b n : Int} (hn0 : 0 ≤ n) (hn1 : n ≤ 65535) : RegsOk (execF r o a b n).1 := by
  unfold execF
  split
  · exact done_ok hr (deed_putOk hr hn0 hn1)
  · exact hr
theorem step_regs {B : List UInt8} {n : Nat} {r : Nat → Int} (hr : RegsOk r) : RegsOk (stepF B n r).1 := by
  unfold stepF
  split
  · exact hr
  · exact exec_regs hr (byt2 _ _ _).1 (byt2 _ _ _).2
def Dd.askOk : Dd → Prop
  | .ask x => x.k ≤ 5
  | _ => True
theorem askOk_ite (c : Prop) [Decidable c] (x y : Dd) (hx : x.askOk) (hy : y.askOk) : (if c then x else y).askOk := by split <;> assumption
theorem accF_k (o ra a b n : Int) : (accF o ra a b n).k ≤ 5 := by
  unfold accF
  repeat' split
  all_goals (simp only []; omega)
theorem deed_ask {r : Nat → Int} {o a b n : Int} {x : Acc} (h : deedF r o a b n = .ask x) : x.k ≤ 5 := by
  have : (deedF r o a b n).askOk := by
    unfold deedF
    repeat' (first | apply askOk_ite | exact trivial | exact accF_k _ _ _ _ _ | (show (5 : Int) ≤ 5; decide))
  rw [h] at this
  exact this
/-- A trap leaves the registers as they were. -/
theorem exec_trap {r : Nat → Int} {o a b n : Int} (h : (execF r o a b n).2.k = 7) : (execF r o a b n).1 = r := by
  unfold execF at h ⊢
  split
  · rename_i hok
    rw [if_pos hok] at h
    cases hd : deedF r o a b n with
    | nothing => rw [hd] at h; simp [Dd.done] at h
    | put a v => rw [hd] at h; simp [Dd.done] at h
    | leap t l => rw [hd] at h; simp [Dd.done] at h
    | ask x =>
      rw [hd] at h
      exfalso
      have h2 : x.k = 7 := h
      have := deed_ask hd
      omega
    | stop x => rfl
  · rfl
theorem runF_zero (B : List UInt8) (n : Nat) (r : Nat → Int) : runF B n 0 r = (r, ⟨0, 0, 0, 0, 0⟩, 0) := rfl
theorem run_gen (B : List UInt8) (n : Nat) (sv : Value) (hsv : ∀ ρ : Nat → Option Nat, ρ 0 = some 0 → RN ρ sv sv) (hat : ∀ (h : List PO) (pc : Int), h[0]? = some (.ro (u8s B)) → 0 ≤ pc → pc ≤ 65535 → PCq Try.prog 31 [sv, .int .u16 pc] h fun v ns => v = atV B n pc ∧ ns = []) (r : Nat → Int) (hr : RegsOk r) (most : Int) : PC Try.prog 13 [regsV r, sv, .int .i64 most] [.ro (u8s B)] (fun v h' => v = runV (runF B n (min (max most 0) 1000).toNat r) ∧ Kept [.ro (u8s B)] h') fun _ _ => False := by
  refine pc_of Try.func13 rfl (by decide) (by kernel_rfl) (by show 3 ≤ _; decide) (SW.of mixed _ _ _ ?_)
  have hm : ∃ m : Nat, m ≤ 1000 ∧ min (max most 0) 1000 = m := ⟨(min (max most 0) 1000).toNat, by omega, by omega⟩
  obtain ⟨m, hm1, hm2⟩ := hm
  have e1 : (if (0 : Int) > most then 0 else most) = max most 0 := by split <;> omega
  have e2 : (if (1000 : Int) < max most 0 then 1000 else max most 0) = m := by rw [← hm2]; split <;> omega
  rw [hm2]
  simp -implicitDefEqProofs [e1, e2]
  refine pwp_loop_st (fun a => ⟨[(16, .int .i64 a.1), (15, .int .i64 m), (3, .pointer (some ⟨1, 0, none⟩)), (6, .pointer (some ⟨2, 0, none⟩)), (7, .pointer (some ⟨3, 0, none⟩)), (1, sv), (2, .int .i64 most)], [.ro (u8s B), .rw (regL a.2), .rw (regL fun _ => 0), .rw [.int .u8 0, .int .u16 0, .int .u16 0, .int .u8 0, .int .i64 0]]⟩) (fun a => m - a.1) (RunInv B n m r) (0, r) [0, 1, 2, 3] ⟨hr, by omega, rfl⟩ (Sub.mk' (by decide) ⟨rfl, trivial⟩ ?_ ?_) ?_
  · simp -implicitDefEqProofs [RNs_flat (u8s_flat B), Acc.val, regL]
  · simp -implicitDefEqProofs [hsv]
  · rintro ⟨k, q⟩ ⟨hq, hk, hrun⟩
    simp only at hq hk hrun ⊢
    by_cases hlt : k < m
    · obtain ⟨j, hj⟩ : ∃ j, m - k = j + 1 := ⟨m - k - 1, by omega⟩
      rw [hj] at hrun
      simp -implicitDefEqProofs [hlt]
      refine (hat _ (q 0) rfl (hq 0).1 (hq 0).2).k ?_
      by_cases hout : atOut n (q 0)
      · simp -implicitDefEqProofs [atV, hout, insV, Kept]
        rw [hrun]
        simp [runV, runF, stepF, hout, plus, Acc.val]
      · have hs : stepF B n q = execF q (byt B (q 0).toNat) (byt B ((q 0).toNat + 1) / 16) (byt B ((q 0).toNat + 1) % 16) (byt B ((q 0).toNat + 2) * 256 + byt B ((q 0).toNat + 3)) := if_neg hout
        have hb1 := byt_ge B ((q 0).toNat + 1)
        have hb2 := byt2 B ((q 0).toNat + 2) ((q 0).toNat + 3)
        by_cases hok : okF (byt B (q 0).toNat) (byt B ((q 0).toNat + 1) / 16) (byt B ((q 0).toNat + 1) % 16) (byt B ((q 0).toNat + 2) * 256 + byt B ((q 0).toNat + 3))
        · have hx := fnExec q hq (byt B (q 0).toNat) (byt B ((q 0).toNat + 1) / 16) (byt B ((q 0).toNat + 1) % 16) (byt B ((q 0).toNat + 2) * 256 + byt B ((q 0).toNat + 3)) (byt_ge _ _) (by omega) (by omega)
          have hreg : RegsOk (stepF B n q).1 := step_regs hq
          simp -implicitDefEqProofs [atV, hout, decB, decV, hok, insV]
          refine hx.k ?_
          rw [← hs]
          generalize hS : stepF B n q = S at hreg
          obtain ⟨q', x⟩ := S
          have hw : IntKind.i64.wrap ((k : Int) + 1) = k + 1 := by rw [IntKind.wrap_i64]; omega
          have hrf : runF B n (j + 1) q = if x.k = 0 then ((runF B n j q').1, (runF B n j q').2.1, (runF B n j q').2.2 + 1) else if x.k = 7 then (q', x, 0) else (q', x, 1) := by simp only [runF, hS]
          by_cases h0 : x.k = 0
          · simp -implicitDefEqProofs [Acc.val, h0]
            refine Again.mk (k + 1, q') [0, 1, 2, 3] (by simp; omega) ⟨hreg, hlt, ?_⟩ (Sub.mk' (by decide) ⟨rfl, trivial⟩ ?_ ?_)
            · rw [hrun, hrf, if_pos h0, show m - (k + 1) = j by omega]
              simp only [plus, Prod.mk.injEq, true_and]; omega
            · simp -implicitDefEqProofs [RNs_flat (u8s_flat B)]
            · simp -implicitDefEqProofs [hw, hsv]
          · by_cases h7 : x.k = 7
            · simp -implicitDefEqProofs [Acc.val, h0, h7]
              refine pdk_at [(3, 1)] (by kernel_rfl) ?_
              simp -implicitDefEqProofs [Kept]
              rw [hrun, hrf, if_neg h0, if_pos h7]
              simp [runV, plus, Acc.val, h7]
            · simp -implicitDefEqProofs [Acc.val, h0, h7]
              refine pdk_at [(4, 1)] (by kernel_rfl) ?_
              simp -implicitDefEqProofs [Kept, hw]
              rw [hrun, hrf, if_neg h0, if_neg h7]
              simp [runV, plus, Acc.val]
              omega
        · simp -implicitDefEqProofs [atV, hout, decB, decV, hok, insV, Kept]
          rw [hrun]
          simp [runV, runF, hs, execF, hok, plus, Acc.val]
    · simp -implicitDefEqProofs [hlt, e1, e2, Kept]
      have hkm : k = m := by omega
      subst hkm
      rw [hrun, Nat.sub_self, runF_zero]
      simp [runV, plus, Acc.val]
theorem runV_flat (t : (Nat → Int) × Acc × Nat) : flat 6 (runV t) = true := rfl
theorem run_q {h : List PO} {b : Nat} {B : List UInt8} {n c : Nat} {r : Nat → Int} {most : Int} (hb : hcells h b = some (u8s B)) (hn : n ≤ B.length) (hc : n ≤ c) (hr : RegsOk r) : PCq Try.prog 13 [regsV r, .slice (some ⟨b, 0, none⟩) n c, .int .i64 most] h fun v ns => v = runV (runF B n (min (max most 0) 1000).toNat r) ∧ ns = [] :=
  PC.reads [b] (run_gen B n _ (fun ρ hρ => .sl _ _ _ _ hρ) (fun h pc h0 h1 h2 => at_q (by simp [hcells, h0, PO.cells]) h1 h2 hn hc) r hr most) (fit_row hb (u8s_flat B)) live_ro (RNs.cons (RN.of_flat (n := 6) rfl) (row_args (RNs.cons (.int _ _) RNs.nil))) (runV_flat _)
theorem fit_dead {h0 h : List PO} : Fit [] h0 h := ⟨by simp, fun i c hi => by simp at hi⟩
theorem run_nil {h : List PO} {r : Nat → Int} {most : Int} (hr : RegsOk r) : PCq Try.prog 13 [regsV r, .slice none 0 0, .int .i64 most] h fun v ns => v = runV (runF [] 0 (min (max most 0) 1000).toNat r) ∧ ns = [] :=
  PC.reads [] (run_gen [] 0 _ (fun ρ hρ => .snil) (fun h pc h0 h1 h2 => at_nil h1 h2) r hr most) fit_dead live_ro (RNs.cons (RN.of_flat (n := 6) rfl) (RNs.cons .snil (RNs.cons (.int _ _) RNs.nil))) (runV_flat _)
end Go.Proofs.Ytnkpfknilhgjgaa
/- The document's run of a code. -/
namespace Go.Proofs.Ytnkpfknilhgjgaa
open Go.RowKit
set_option maxRecDepth 100000
set_option maxHeartbeats 4000000
def Dd.kOk : Dd → Prop
  | .ask x => 1 ≤ x.k
  | .stop x => 6 ≤ x.k
  | _ => True
theorem kOk_ite (c : Prop) [Decidable c] (x y : Dd) (hx : x.kOk) (hy : y.kOk) : (if c then x else y).kOk := by split <;> assumption
theorem accF_k1 (o ra a b n : Int) : 1 ≤ (accF o ra a b n).k := by
  unfold accF
  repeat' split
  all_goals (simp only []; omega)
theorem exec_calm {r : Nat → Int} {o a b n : Int} (h : (execF r o a b n).2.k = 0) : (execF r o a b n).2 = ⟨0, 0, 0, 0, 0⟩ := by
  unfold execF at h ⊢
  split
  · rename_i hok
    rw [if_pos hok] at h
    have hk : (deedF r o a b n).kOk := by
      unfold deedF
      repeat' (first | apply kOk_ite | exact trivial | exact accF_k1 _ _ _ _ _ | (show (1 : Int) ≤ 5; decide) | (show (6 : Int) ≤ 6; decide) | (show (6 : Int) ≤ 7; decide))
    cases hd : deedF r o a b n with
    | nothing => rfl
    | put a v => rfl
    | leap t l => rfl
    | ask x => rw [hd] at h hk; have h2 : x.k = 0 := h; have h3 : 1 ≤ x.k := hk; omega
    | stop x => rw [hd] at h hk; have h2 : x.k = 0 := h; have h3 : 6 ≤ x.k := hk; omega
  · rename_i hok
    rw [if_neg hok] at h
    simp at h
def RunInvR (B : List UInt8) (n m : Nat) (r : Nat → Int) (a : Nat × (Nat → Int) × Acc) : Prop := RegsOk a.2.1 ∧ a.1 ≤ m ∧ ((a.2.2 = ⟨0, 0, 0, 0, 0⟩ ∧ runF B n m r = plus (runF B n (m - a.1) a.2.1) a.1) ∨ (a.2.2.k ≠ 0 ∧ runF B n m r = (a.2.1, a.2.2, a.1)))
theorem runR_row (B : List UInt8) (n c : Nat) (r : Nat → Int) (hr : RegsOk r) (most : Int) (hn : n ≤ B.length) (hc : n ≤ c) (hc2 : n ≤ 9223372036854775807) : PC Try.prog 15 [regsV r, .slice (some ⟨0, 0, none⟩) n c, .int .i64 most] [.ro (u8s B)] (fun v h' => v = runV (runF B n (min (max most 0) 1000).toNat r) ∧ Kept [.ro (u8s B)] h') fun _ _ => False := by
  refine pc_of Try.func15 rfl (by decide) (by kernel_rfl) (by show 3 ≤ _; decide) (SW.of mixed _ _ _ ?_)
  have hm : ∃ M : Int, M = (if 1000 < most then 1000 else most) ∧ (min (max most 0) 1000).toNat = M.toNat ∧ M ≤ 1000 := ⟨_, rfl, by split <;> omega, by split <;> omega⟩
  obtain ⟨M, hM, hM2, hM3⟩ := hm
  rw [hM2]
  obtain ⟨m, hm⟩ : ∃ m : Nat, M.toNat = m := ⟨_, rfl⟩
  rw [hm]
  by_cases hbig : 1000 < most
  · obtain rfl : M = 1000 := by rw [hM, if_pos hbig]
    clear hM hM2
    simp -implicitDefEqProofs [hbig]
    refine pwp_loop_st (fun a : Nat × (Nat → Int) × Acc => ⟨[(9, .int .i64 a.1), (2, .int .i64 1000), (3, .pointer (some ⟨1, 0, none⟩)), (6, .pointer (some ⟨2, 0, none⟩)), (7, .pointer (some ⟨3, 0, none⟩)), (10, .pointer (some ⟨4, 0, none⟩)), (1, .slice (some ⟨0, 0, none⟩) n c)], [.ro (u8s B), .rw (regL a.2.1), .rw (regL fun _ => 0), .rw [.int .u8 0, .int .u16 0, .int .u16 0, .int .u8 0, .int .i64 0], .rw a.2.2.val.cells.toList]⟩) (fun a => m - a.1) (RunInvR B n m r) (0, r, ⟨0, 0, 0, 0, 0⟩) [0, 1, 2, 3, 4] ⟨hr, by omega, .inl ⟨rfl, rfl⟩⟩ (Sub.mk' (by decide) ⟨rfl, trivial⟩ ?_ ?_) ?_
    · simp -implicitDefEqProofs [RNs_flat (u8s_flat B), Acc.val, regL]
    · simp -implicitDefEqProofs
    rintro ⟨k, q, x⟩ ⟨hq, hk, hrun⟩
    simp only at hq hk hrun ⊢
    obtain ⟨p, hp⟩ := Int.eq_ofNat_of_zero_le (hq 0).1
    have hp2 : (p : Int) ≤ 65535 := by have := (hq 0).2; omega
    have w1 : IntKind.i64.wrap (p : Int) = p := by rw [IntKind.wrap_i64]; omega
    have w2 : IntKind.i64.wrap ((p : Int) + 4) = p + 4 := by rw [IntKind.wrap_i64]; omega
    have w3 : IntKind.i64.wrap ((n : Int) - 4) = n - 4 := by rw [IntKind.wrap_i64]; omega
    have m1 : (p : Int).tmod 4 = p % 4 := Int.tmod_eq_emod_of_nonneg (by omega)
    by_cases hlt : (k : Int) < 1000
    · have hlt2 : k < m := by omega
      rcases hrun with ⟨rfl, hrun⟩ | ⟨hx, hrun⟩
      · obtain ⟨j, hj⟩ : ∃ j, m - k = j + 1 := ⟨m - k - 1, by omega⟩
        rw [hj] at hrun
        by_cases h4 : (p : Int) % 4 = 0
        · by_cases h5 : (n : Int) - 4 < p
          · have h6 : atOut n (q 0) := by rw [hp]; exact .inr (by omega)
            simp -implicitDefEqProofs [hlt, Acc.val, hp, w1, w3, m1, h4, h5, Kept]
            rw [hrun]
            simp [runV, runF, stepF, h6, plus, Acc.val]
          · have h6 : ¬ atOut n (q 0) := by rw [hp]; unfold atOut; omega
            have h7 : (p : Int) + 4 ≤ c := by omega
            have h8 : ¬ ((c : Int) = p) := by omega
            have h9 : ((p : Int) + 4 - p).toNat = 4 := by omega
            have h10 : (p : Int) ≤ p + 4 := by omega
            simp -implicitDefEqProofs [hlt, Acc.val, hp, w1, w2, w3, m1, h4, h5, h7, h8, h9, h10]
            refine (decodeR_q (B := B) (b := 0) (o := p) ?_ (by omega)).k ?_
            · rfl
            have hs : stepF B n q = execF q (byt B p) (byt B (p + 1) / 16) (byt B (p + 1) % 16) (byt B (p + 2) * 256 + byt B (p + 3)) := by unfold stepF; rw [if_neg h6, hp]; rfl
            have hb1 := byt_ge B (p + 1)
            have hb2 := byt2 B (p + 2) (p + 3)
            by_cases hok : okF (byt B p) (byt B (p + 1) / 16) (byt B (p + 1) % 16) (byt B (p + 2) * 256 + byt B (p + 3))
            · have hxx := fnRExec q hq (byt B p) (byt B (p + 1) / 16) (byt B (p + 1) % 16) (byt B (p + 2) * 256 + byt B (p + 3)) (byt_ge _ _) (by omega) (by omega) hb2.1 hb2.2
              have hreg : RegsOk (stepF B n q).1 := step_regs hq
              have hcalm := fun h => exec_calm (r := q) (o := byt B p) (a := byt B (p + 1) / 16) (b := byt B (p + 1) % 16) (n := byt B (p + 2) * 256 + byt B (p + 3)) h
              simp -implicitDefEqProofs [decB, decV, hok, insV]
              refine hxx.k ?_
              rw [← hs] at hcalm ⊢
              generalize hS : stepF B n q = S at hreg hcalm
              obtain ⟨q', x⟩ := S
              have hw : IntKind.i64.wrap ((k : Int) + 1) = k + 1 := by rw [IntKind.wrap_i64]; omega
              have hrf : runF B n (j + 1) q = if x.k = 0 then ((runF B n j q').1, (runF B n j q').2.1, (runF B n j q').2.2 + 1) else if x.k = 7 then (q', x, 0) else (q', x, 1) := by simp only [runF, hS]
              by_cases h77 : x.k = 7
              · have h0 : ¬ x.k = 0 := by omega
                simp -implicitDefEqProofs [Acc.val, h77]
                refine pdk_at [(3, 1)] (by kernel_rfl) ?_
                simp -implicitDefEqProofs [Kept]
                rw [hrun, hrf, if_neg h0, if_pos h77]
                simp [runV, plus, Acc.val, h77]
              · simp -implicitDefEqProofs [Acc.val, h77]
                refine Again.mk (k + 1, q', x) [0, 1, 2, 3, 4] (by simp; omega) ⟨hreg, hlt2, ?_⟩ (Sub.mk' (by decide) ⟨rfl, trivial⟩ ?_ ?_)
                · by_cases h0 : x.k = 0
                  · refine .inl ⟨hcalm h0, ?_⟩
                    rw [hrun, hrf, if_pos h0, show m - (k + 1) = j by omega]
                    simp only [plus, Prod.mk.injEq, true_and]; omega
                  · refine .inr ⟨h0, ?_⟩
                    rw [hrun, hrf, if_neg h0, if_neg h77]
                    simp only [plus, Prod.mk.injEq, true_and]; omega
                · simp -implicitDefEqProofs [RNs_flat (u8s_flat B), Acc.val]
                · simp -implicitDefEqProofs [hw]
            · simp -implicitDefEqProofs [decB, decV, hok, insV, Kept]
              rw [hrun]
              simp [runV, runF, hs, execF, hok, plus, Acc.val]
        · have h6 : atOut n (q 0) := by rw [hp]; exact .inl h4
          simp -implicitDefEqProofs [hlt, Acc.val, hp, w1, m1, h4, Kept]
          rw [hrun]
          simp [runV, runF, stepF, h6, plus, Acc.val]
      · simp -implicitDefEqProofs [hlt, Acc.val, hx]
        refine pdk_at [(3, 1)] (by kernel_rfl) ?_
        simp -implicitDefEqProofs [Kept]
        rw [hrun]
        simp [runV, Acc.val]
    · have hkm : k = m := by omega
      simp -implicitDefEqProofs [hlt, Acc.val]
      refine pdk_at [(3, 1)] (by kernel_rfl) ?_
      simp -implicitDefEqProofs [Kept]
      rcases hrun with ⟨rfl, hrun⟩ | ⟨hx, hrun⟩
      · subst hkm
        rw [hrun, Nat.sub_self, runF_zero]
        simp [runV, plus, Acc.val]
      · rw [hrun]
        simp [runV, Acc.val]
  · obtain rfl : M = most := by rw [hM, if_neg hbig]
    clear hM hM2
    simp -implicitDefEqProofs [hbig]
    refine pwp_loop_st (fun a : Nat × (Nat → Int) × Acc => ⟨[(9, .int .i64 a.1), (2, .int .i64 M), (3, .pointer (some ⟨1, 0, none⟩)), (6, .pointer (some ⟨2, 0, none⟩)), (7, .pointer (some ⟨3, 0, none⟩)), (10, .pointer (some ⟨4, 0, none⟩)), (1, .slice (some ⟨0, 0, none⟩) n c)], [.ro (u8s B), .rw (regL a.2.1), .rw (regL fun _ => 0), .rw [.int .u8 0, .int .u16 0, .int .u16 0, .int .u8 0, .int .i64 0], .rw a.2.2.val.cells.toList]⟩) (fun a => m - a.1) (RunInvR B n m r) (0, r, ⟨0, 0, 0, 0, 0⟩) [0, 1, 2, 3, 4] ⟨hr, by omega, .inl ⟨rfl, rfl⟩⟩ (Sub.mk' (by decide) ⟨rfl, trivial⟩ ?_ ?_) ?_
    · simp -implicitDefEqProofs [RNs_flat (u8s_flat B), Acc.val, regL]
    · simp -implicitDefEqProofs
    rintro ⟨k, q, x⟩ ⟨hq, hk, hrun⟩
    simp only at hq hk hrun ⊢
    obtain ⟨p, hp⟩ := Int.eq_ofNat_of_zero_le (hq 0).1
    have hp2 : (p : Int) ≤ 65535 := by have := (hq 0).2; omega
    have w1 : IntKind.i64.wrap (p : Int) = p := by rw [IntKind.wrap_i64]; omega
    have w2 : IntKind.i64.wrap ((p : Int) + 4) = p + 4 := by rw [IntKind.wrap_i64]; omega
    have w3 : IntKind.i64.wrap ((n : Int) - 4) = n - 4 := by rw [IntKind.wrap_i64]; omega
    have m1 : (p : Int).tmod 4 = p % 4 := Int.tmod_eq_emod_of_nonneg (by omega)
    by_cases hlt : (k : Int) < M
    · have hlt2 : k < m := by omega
      rcases hrun with ⟨rfl, hrun⟩ | ⟨hx, hrun⟩
      · obtain ⟨j, hj⟩ : ∃ j, m - k = j + 1 := ⟨m - k - 1, by omega⟩
        rw [hj] at hrun
        by_cases h4 : (p : Int) % 4 = 0
        · by_cases h5 : (n : Int) - 4 < p
          · have h6 : atOut n (q 0) := by rw [hp]; exact .inr (by omega)
            simp -implicitDefEqProofs [hlt, Acc.val, hp, w1, w3, m1, h4, h5, Kept]
            rw [hrun]
            simp [runV, runF, stepF, h6, plus, Acc.val]
          · have h6 : ¬ atOut n (q 0) := by rw [hp]; unfold atOut; omega
            have h7 : (p : Int) + 4 ≤ c := by omega
            have h8 : ¬ ((c : Int) = p) := by omega
            have h9 : ((p : Int) + 4 - p).toNat = 4 := by omega
            have h10 : (p : Int) ≤ p + 4 := by omega
            simp -implicitDefEqProofs [hlt, Acc.val, hp, w1, w2, w3, m1, h4, h5, h7, h8, h9, h10]
            refine (decodeR_q (B := B) (b := 0) (o := p) ?_ (by omega)).k ?_
            · rfl
            have hs : stepF B n q = execF q (byt B p) (byt B (p + 1) / 16) (byt B (p + 1) % 16) (byt B (p + 2) * 256 + byt B (p + 3)) := by unfold stepF; rw [if_neg h6, hp]; rfl
            have hb1 := byt_ge B (p + 1)
            have hb2 := byt2 B (p + 2) (p + 3)
            by_cases hok : okF (byt B p) (byt B (p + 1) / 16) (byt B (p + 1) % 16) (byt B (p + 2) * 256 + byt B (p + 3))
            · have hxx := fnRExec q hq (byt B p) (byt B (p + 1) / 16) (byt B (p + 1) % 16) (byt B (p + 2) * 256 + byt B (p + 3)) (byt_ge _ _) (by omega) (by omega) hb2.1 hb2.2
              have hreg : RegsOk (stepF B n q).1 := step_regs hq
              have hcalm := fun h => exec_calm (r := q) (o := byt B p) (a := byt B (p + 1) / 16) (b := byt B (p + 1) % 16) (n := byt B (p + 2) * 256 + byt B (p + 3)) h
              simp -implicitDefEqProofs [decB, decV, hok, insV]
              refine hxx.k ?_
              rw [← hs] at hcalm ⊢
              generalize hS : stepF B n q = S at hreg hcalm
              obtain ⟨q', x⟩ := S
              have hw : IntKind.i64.wrap ((k : Int) + 1) = k + 1 := by rw [IntKind.wrap_i64]; omega
              have hrf : runF B n (j + 1) q = if x.k = 0 then ((runF B n j q').1, (runF B n j q').2.1, (runF B n j q').2.2 + 1) else if x.k = 7 then (q', x, 0) else (q', x, 1) := by simp only [runF, hS]
              by_cases h77 : x.k = 7
              · have h0 : ¬ x.k = 0 := by omega
                simp -implicitDefEqProofs [Acc.val, h77]
                refine pdk_at [(3, 1)] (by kernel_rfl) ?_
                simp -implicitDefEqProofs [Kept]
                rw [hrun, hrf, if_neg h0, if_pos h77]
                simp [runV, plus, Acc.val, h77]
              · simp -implicitDefEqProofs [Acc.val, h77]
                refine Again.mk (k + 1, q', x) [0, 1, 2, 3, 4] (by simp; omega) ⟨hreg, hlt2, ?_⟩ (Sub.mk' (by decide) ⟨rfl, trivial⟩ ?_ ?_)
                · by_cases h0 : x.k = 0
                  · refine .inl ⟨hcalm h0, ?_⟩
                    rw [hrun, hrf, if_pos h0, show m - (k + 1) = j by omega]
                    simp only [plus, Prod.mk.injEq, true_and]; omega
                  · refine .inr ⟨h0, ?_⟩
                    rw [hrun, hrf, if_neg h0, if_neg h77]
                    simp only [plus, Prod.mk.injEq, true_and]; omega
                · simp -implicitDefEqProofs [RNs_flat (u8s_flat B), Acc.val]
                · simp -implicitDefEqProofs [hw]
            · simp -implicitDefEqProofs [decB, decV, hok, insV, Kept]
              rw [hrun]
              simp [runV, runF, hs, execF, hok, plus, Acc.val]
        · have h6 : atOut n (q 0) := by rw [hp]; exact .inl h4
          simp -implicitDefEqProofs [hlt, Acc.val, hp, w1, m1, h4, Kept]
          rw [hrun]
          simp [runV, runF, stepF, h6, plus, Acc.val]
      · simp -implicitDefEqProofs [hlt, Acc.val, hx]
        refine pdk_at [(3, 1)] (by kernel_rfl) ?_
        simp -implicitDefEqProofs [Kept]
        rw [hrun]
        simp [runV, Acc.val]
    · have hkm : k = m := by omega
      simp -implicitDefEqProofs [hlt, Acc.val]
      refine pdk_at [(3, 1)] (by kernel_rfl) ?_
      simp -implicitDefEqProofs [Kept]
      rcases hrun with ⟨rfl, hrun⟩ | ⟨hx, hrun⟩
      · subst hkm
        rw [hrun, Nat.sub_self, runF_zero]
        simp [runV, plus, Acc.val]
      · rw [hrun]
        simp [runV, Acc.val]
end Go.Proofs.Ytnkpfknilhgjgaa
/- Runs in every memory; loads, fetches; what must be whatever is asked. -/
namespace Go.Proofs.Ytnkpfknilhgjgaa
open Go.RowKit
set_option maxRecDepth 100000
set_option maxHeartbeats 4000000
theorem runR_q {h : List PO} {b : Nat} {B : List UInt8} {n c : Nat} {r : Nat → Int} {most : Int} (hb : hcells h b = some (u8s B)) (hn : n ≤ B.length) (hc : n ≤ c) (hc2 : n ≤ 9223372036854775807) (hr : RegsOk r) : PCq Try.prog 15 [regsV r, .slice (some ⟨b, 0, none⟩) n c, .int .i64 most] h fun v ns => v = runV (runF B n (min (max most 0) 1000).toNat r) ∧ ns = [] :=
  PC.reads [b] (runR_row B n c r hr most hn hc hc2) (fit_row hb (u8s_flat B)) live_ro (RNs.cons (RN.of_flat (n := 6) rfl) (row_args (RNs.cons (.int _ _) RNs.nil))) (runV_flat _)
theorem runF_nil (m : Nat) (r : Nat → Int) (h0 : 0 ≤ r 0) : runF [] 0 m r = if m = 0 then (r, ⟨0, 0, 0, 0, 0⟩, 0) else (r, ⟨7, 0, 0, 0, 10⟩, 0) := by
  cases m with
  | zero => rfl
  | succ m =>
    have : atOut 0 (r 0) := .inr (by show ((0 : Nat) : Int) < _; omega)
    simp [runF, stepF, this]
theorem runR_nil0 (r : Nat → Int) (hr : RegsOk r) (most : Int) : PC Try.prog 15 [regsV r, .slice none 0 0, .int .i64 most] [] (fun v h' => v = runV (runF [] 0 (min (max most 0) 1000).toNat r) ∧ Kept [] h') fun _ _ => False := by
  refine pc_of Try.func15 rfl (by decide) (by kernel_rfl) (by show 3 ≤ _; decide) (SW.of mixed _ _ _ ?_)
  rw [runF_nil _ _ (hr 0).1]
  obtain ⟨p, hp⟩ := Int.eq_ofNat_of_zero_le (hr 0).1
  have hp2 : (p : Int) ≤ 65535 := by have := (hr 0).2; omega
  have w1 : IntKind.i64.wrap (p : Int) = p := by rw [IntKind.wrap_i64]; omega
  have m1 : (p : Int).tmod 4 = p % 4 := Int.tmod_eq_emod_of_nonneg (by omega)
  have h5 : IntKind.i64.wrap (-4) < (p : Int) := by rw [IntKind.wrap_i64]; omega
  by_cases hbig : 1000 < most
  · have hz : ¬ (min (max most 0) 1000).toNat = 0 := by omega
    simp -implicitDefEqProofs [hbig]
    refine pwp_loop_once (s0 := ⟨[(9, .int .i64 0), (2, .int .i64 1000), (3, .pointer (some ⟨0, 0, none⟩)), (6, .pointer (some ⟨1, 0, none⟩)), (7, .pointer (some ⟨2, 0, none⟩)), (10, .pointer (some ⟨3, 0, none⟩)), (1, .slice none 0 0)], [.rw (regL r), .rw (regL fun _ => 0), .rw [.int .u8 0, .int .u16 0, .int .u16 0, .int .u8 0, .int .i64 0], .rw [.int .u8 0, .int .u16 0, .int .u16 0, .int .u8 0, .int .i64 0]]⟩) (l := [0, 1, 2, 3]) (Sub.mk' (by decide) trivial ?_ ?_) ?_
    · simp -implicitDefEqProofs [regL]
    · simp -implicitDefEqProofs
    by_cases h4 : (p : Int) % 4 = 0
    · simp -implicitDefEqProofs [hp, w1, m1, h4, h5, Kept, hz]
      simp [runV, Acc.val]
      all_goals (intro hle; exact absurd hle (by omega))
    · simp -implicitDefEqProofs [hp, w1, m1, h4, h5, Kept, hz]
      simp [runV, Acc.val]
      all_goals (intro hle; exact absurd hle (by omega))
  · simp -implicitDefEqProofs [hbig]
    refine pwp_loop_once (l := [0, 1, 2, 3]) (s0 := ⟨[(9, .int .i64 0), (2, .int .i64 most), (3, .pointer (some ⟨0, 0, none⟩)), (6, .pointer (some ⟨1, 0, none⟩)), (7, .pointer (some ⟨2, 0, none⟩)), (10, .pointer (some ⟨3, 0, none⟩)), (1, .slice none 0 0)], [.rw (regL r), .rw (regL fun _ => 0), .rw [.int .u8 0, .int .u16 0, .int .u16 0, .int .u8 0, .int .i64 0], .rw [.int .u8 0, .int .u16 0, .int .u16 0, .int .u8 0, .int .i64 0]]⟩) (Sub.mk' (by decide) trivial ?_ ?_) ?_
    · simp -implicitDefEqProofs [regL]
    · simp -implicitDefEqProofs
    by_cases hlt : 0 < most
    · have hz : ¬ (min (max most 0) 1000).toNat = 0 := by omega
      by_cases h4 : (p : Int) % 4 = 0
      · simp -implicitDefEqProofs [hlt, hp, w1, m1, h4, h5, Kept, hz]
        simp [runV, Acc.val]
        all_goals (intro hle; exact absurd hle (by omega))
      · simp -implicitDefEqProofs [hlt, hp, w1, m1, h4, h5, Kept, hz]
        simp [runV, Acc.val]
        all_goals (intro hle; exact absurd hle (by omega))
    · have hz : (min (max most 0) 1000).toNat = 0 := by omega
      simp -implicitDefEqProofs [hlt]
      refine pdk_at [(3, 1)] (by kernel_rfl) ?_
      simp -implicitDefEqProofs [Kept, hz]
      simp [runV, Acc.val]
      all_goals (intro hle; exact absurd hle (by omega))
theorem runR_nil {h : List PO} {r : Nat → Int} {most : Int} (hr : RegsOk r) : PCq Try.prog 15 [regsV r, .slice none 0 0, .int .i64 most] h fun v ns => v = runV (runF [] 0 (min (max most 0) 1000).toNat r) ∧ ns = [] :=
  PC.reads [] (runR_nil0 r hr most) fit_none live_nil (RNs.cons (RN.of_flat (n := 6) rfl) (RNs.cons .snil (RNs.cons (.int _ _) RNs.nil))) (runV_flat _)
/-! ### loads -/
def loadV (r : Nat → Int) (i : Int) (w : Int) : Value := if 8 ≤ i then .tuple #[regsV fun _ => 0, .int .i64 2] else .tuple #[regsV (upd r (1 + i.toNat) w), .int .i64 0]
theorem loadV_flat (r : Nat → Int) (i w : Int) : flat 6 (loadV r i w) = true := by unfold loadV; split <;> rfl
theorem fnLoad (r : Nat → Int) (i w : Int) (h0 : 0 ≤ i) (h1 : i ≤ 255) : Fn Try.prog 16 [regsV r, .int .u8 i, .int .u16 w] (loadV r i w) := by
  refine Fn.of ?_ rfl (loadV_flat _ _ _)
  refine pc_of Try.func16 rfl (by decide) (by kernel_rfl) (by show 3 ≤ _; decide) (SW.of mixed _ _ _ ?_)
  obtain ⟨k, rfl⟩ := Int.eq_ofNat_of_zero_le h0
  have w1 : IntKind.i64.wrap (k : Int) = k := by rw [IntKind.wrap_i64]; omega
  by_cases h8 : (8 : Int) ≤ k
  · simp -implicitDefEqProofs [w1, h8, loadV]
    rfl
  · have h2 : (k : Int) < 8 := by omega
    have h3 : 1 + k ≤ 8 := by omega
    have h4 : 1 + k < 9 := by omega
    simp -implicitDefEqProofs [w1, h8, h2, h3, h4, loadV, regL_set]
theorem fnRLoad (r : Nat → Int) (i w : Int) (h0 : 0 ≤ i) (h1 : i ≤ 255) : Fn Try.prog 17 [regsV r, .int .u8 i, .int .u16 w] (loadV r i w) := by
  refine Fn.of ?_ rfl (loadV_flat _ _ _)
  refine pc_of Try.func17 rfl (by decide) (by kernel_rfl) (by show 3 ≤ _; decide) (SW.of mixed _ _ _ ?_)
  obtain ⟨k, rfl⟩ := Int.eq_ofNat_of_zero_le h0
  by_cases h8 : (8 : Int) ≤ k
  · simp -implicitDefEqProofs [h8, loadV]
    rfl
  · have h2 : (k : Int) < 8 := by omega
    have h3 : 1 + k ≤ 8 := by omega
    have h4 : 1 + k < 9 := by omega
    simp -implicitDefEqProofs [h8, h2, h3, h4, loadV, regL_set]
def fetchV (r : Nat → Int) : Value := if r 0 % 4 = 0 ∧ r 0 ≤ 508 then .tuple #[.int .u16 (r 0), .int .i64 0] else .tuple #[.int .u16 0, .int .i64 10]
theorem fetchV_flat (r : Nat → Int) : flat 6 (fetchV r) = true := by unfold fetchV; split <;> rfl
theorem fnFetch (r : Nat → Int) (hr : RegsOk r) : Fn Try.prog 18 [regsV r] (fetchV r) := by
  refine Fn.of ?_ rfl (fetchV_flat _)
  refine pc_of Try.func18 rfl (by decide) (by kernel_rfl) (by show 1 ≤ _; decide) (SW.of mixed _ _ _ ?_)
  have m1 : (r 0).tmod 4 = r 0 % 4 := Int.tmod_eq_emod_of_nonneg (hr 0).1
  by_cases h4 : r 0 % 4 = 0
  · by_cases h5 : 508 < r 0
    · have h6 : ¬ (r 0 ≤ 508) := by omega
      simp -implicitDefEqProofs [m1, h4, h5, h6, fetchV]
    · have h6 : r 0 ≤ 508 := by omega
      simp -implicitDefEqProofs [m1, h4, h5, h6, fetchV]
  · simp -implicitDefEqProofs [m1, h4, fetchV]
theorem fnRFetch (r : Nat → Int) (hr : RegsOk r) : Fn Try.prog 19 [regsV r] (fetchV r) := by
  refine Fn.of ?_ rfl (fetchV_flat _)
  refine pc_of Try.func19 rfl (by decide) (by kernel_rfl) (by show 1 ≤ _; decide) (SW.of mixed _ _ _ ?_)
  have m1 : (r 0).tmod 4 = r 0 % 4 := Int.tmod_eq_emod_of_nonneg (hr 0).1
  have w1 : IntKind.i64.wrap (r 0) = r 0 := by have := hr 0; rw [IntKind.wrap_i64]; omega
  by_cases h4 : r 0 % 4 = 0
  · by_cases h5 : 508 < r 0
    · have h6 : ¬ (r 0 ≤ 508) := by omega
      simp -implicitDefEqProofs [m1, w1, h4, h5, h6, fetchV]
    · have h6 : r 0 ≤ 508 := by omega
      simp -implicitDefEqProofs [m1, w1, h4, h5, h6, fetchV]
  · simp -implicitDefEqProofs [m1, h4, fetchV]
end Go.Proofs.Ytnkpfknilhgjgaa

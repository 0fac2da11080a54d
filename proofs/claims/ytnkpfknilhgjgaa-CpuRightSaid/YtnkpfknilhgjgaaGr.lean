/- Registers, rising: what cpu.rising makes of one or two. -/
import Derived.Test.YtnkpfknilhgjgaaGb
import Derived.Test.YtnkpfknilhgjgaaGj
set_option linter.unusedSimpArgs false
set_option linter.unusedVariables false
namespace Go.Proofs.Ytnkpfknilhgjgaa
open Go.RowKit
set_option maxRecDepth 1000000
/-- The outside table: strings.Join, bits.Len. -/
def xBits : Cl := fun f args h => if f = 63 then match args with
    | [.int .u64 x] => if 0 ≤ x ∧ x ≤ 18446744073709551615 then some (.val (.int .i64 (Lib.bitLen x.toNat)) h) else none
    | _ => none
  else xJoin f args h
theorem xBits_ok : ClOk Try.prog xBits := fun f args h r k => by
  unfold xBits at k
  split at k
  · rename_i hf; subst hf
    split at k
    · split at k
      · rename_i hx
        cases k
        exact (Fn.same (callable Try.func63 rfl (by decide)) rfl rfl fun w => (Try.bits_Len _ w hx.1 hx.2).mono fun _ _ ⟨h1, h2⟩ => ⟨h1, h2.symm⟩).pc rfl
      · cases k
    · cases k
  · exact xJoin_ok _ _ _ _ k
def riseL : List FuncId := [33, 48, 62, 67, 73, 85, 49]
theorem riseL_ok : riseL.all (okFn Try.prog) = true := by kernel_rfl
noncomputable def rise1B (x : Int) : Bool := match ef Try.prog riseL xBits 9 9 33 [.slice (some ⟨0, 0, none⟩) 1 1] [.rw [.int .u8 x]] with
  | some (.val (.slice (some ⟨0, 0, none⟩) 1 1) (.rw [.int .u8 y] :: _)) => x == y
  | _ => false
def rise2F (x y : Int) : Nat × Int × Int := if x = y then (1, x, 0) else if x < y then (2, x, y) else (2, y, x)
noncomputable def rise2B (x y : Int) : Bool := match ef Try.prog riseL xBits 9 9 33 [.slice (some ⟨0, 0, none⟩) 2 2] [.rw [.int .u8 x, .int .u8 y]] with
  | some (.val (.slice (some ⟨0, 0, none⟩) n 2) (.rw [.int .u8 p, .int .u8 q] :: _)) => rise2F x y == (n, p, q)
  | _ => false
theorem rise1_all : (List.range 8).all (fun x => rise1B x) = true := by kernel_rfl
theorem rise2_0 : (List.range 8).all (fun y => rise2B 0 y) = true := by kernel_rfl
theorem rise2_1 : (List.range 8).all (fun y => rise2B 1 y) = true := by kernel_rfl
theorem rise2_2 : (List.range 8).all (fun y => rise2B 2 y) = true := by kernel_rfl
theorem rise2_3 : (List.range 8).all (fun y => rise2B 3 y) = true := by kernel_rfl
theorem rise2_4 : (List.range 8).all (fun y => rise2B 4 y) = true := by kernel_rfl
theorem rise2_5 : (List.range 8).all (fun y => rise2B 5 y) = true := by kernel_rfl
theorem rise2_6 : (List.range 8).all (fun y => rise2B 6 y) = true := by kernel_rfl
theorem rise2_7 : (List.range 8).all (fun y => rise2B 7 y) = true := by kernel_rfl
theorem rise1_at (x : Int) (h0 : 0 ≤ x) (h1 : x < 8) : rise1B x = true := by
  obtain ⟨k, rfl⟩ := Int.eq_ofNat_of_zero_le h0
  exact List.all_eq_true.1 rise1_all k (by simp; omega)
theorem rise2_at (x y : Int) (h0 : 0 ≤ x) (h1 : x < 8) (h2 : 0 ≤ y) (h3 : y < 8) : rise2B x y = true := by
  obtain ⟨k, rfl⟩ := Int.eq_ofNat_of_zero_le h2
  have hk : k ∈ List.range 8 := by simp; omega
  obtain rfl | rfl | rfl | rfl | rfl | rfl | rfl | rfl : x = 0 ∨ x = 1 ∨ x = 2 ∨ x = 3 ∨ x = 4 ∨ x = 5 ∨ x = 6 ∨ x = 7 := by omega
  · exact List.all_eq_true.1 rise2_0 k hk
  · exact List.all_eq_true.1 rise2_1 k hk
  · exact List.all_eq_true.1 rise2_2 k hk
  · exact List.all_eq_true.1 rise2_3 k hk
  · exact List.all_eq_true.1 rise2_4 k hk
  · exact List.all_eq_true.1 rise2_5 k hk
  · exact List.all_eq_true.1 rise2_6 k hk
  · exact List.all_eq_true.1 rise2_7 k hk
theorem rise1_pc (x : Int) (h0 : 0 ≤ x) (h1 : x < 8) : PC Try.prog 33 [.slice (some ⟨0, 0, none⟩) 1 1] [.rw [.int .u8 x]] (fun v h' => v = .slice (some ⟨0, 0, none⟩) 1 1 ∧ h'[0]? = some (.rw [.int .u8 x])) fun _ _ => False := by
  have h := rise1_at x h0 h1
  unfold rise1B at h
  split at h
  · rename_i hs e
    have hx := eq_of_beq h
    subst hx
    exact (ef_sound mixed riseL_ok xBits_ok _ _ _ _ _ e).mono (fun v h' hv => by cases hv; exact ⟨rfl, rfl⟩) (fun v h' hv => by cases hv)
  · cases h
theorem rise2_pc (x y : Int) (h0 : 0 ≤ x) (h1 : x < 8) (h2 : 0 ≤ y) (h3 : y < 8) : PC Try.prog 33 [.slice (some ⟨0, 0, none⟩) 2 2] [.rw [.int .u8 x, .int .u8 y]] (fun v h' => v = .slice (some ⟨0, 0, none⟩) (rise2F x y).1 2 ∧ h'[0]? = some (.rw [.int .u8 (rise2F x y).2.1, .int .u8 (rise2F x y).2.2])) fun _ _ => False := by
  have h := rise2_at x y h0 h1 h2 h3
  unfold rise2B at h
  split at h
  · rename_i hs e
    have hx := eq_of_beq h
    rw [hx]
    exact (ef_sound mixed riseL_ok xBits_ok _ _ _ _ _ e).mono (fun v h' hv => by cases hv; exact ⟨rfl, rfl⟩) (fun v h' hv => by cases hv)
  · cases h
/-- A call that turns one row in its place. -/
theorem PC.inPlace {P : Program} {f : FuncId} {args0 args : List Value} {cs cs' : List Value} {v0 v : Value} {h : List PO} {k : Nat} (q : PC P f args0 [.rw cs] (fun v' h' => v' = v0 ∧ h'[0]? = some (.rw cs')) fun _ _ => False) (hk : h[k]? = some (.rw cs)) (hc : cs.all (flat 6) = true) (hc' : cs'.all (flat 6) = true) (ha : RNs (fun b => [k][b]?) args0 args) (hv : RN (rho [k] h.length []) v v0) :
    PC P f args h (fun v' h' => v' = v ∧ h' = h.set k (.rw cs')) fun _ _ => False := by
  have hlt := (List.getElem?_eq_some_iff.1 hk).1
  refine PC.frame [k] q ⟨by simp, fun b c hb => ?_⟩ ha (fun v0' h0' ⟨e1, e2⟩ => ⟨[], v, h.set k (.rw cs'), ⟨.nil, by simp, fun c hc hn => ?_, fun b c hb => ?_, fun j b hj => by simp at hj⟩, by subst e1; exact hv, rfl, rfl⟩) fun _ _ x => x.elim
  · cases b with
    | zero => simp at hb; subst hb; exact ⟨_, _, rfl, hk, RNs.all hc⟩
    | succ b => simp at hb
  · rw [List.getElem?_set_ne]
    intro e; subst e; simp at hn
  · cases b with
    | zero =>
      simp at hb; subst hb
      exact ⟨.rw cs', _, _, List.getElem?_set_self hlt, e2, RNs.all hc', hk, fun _ => rfl⟩
    | succ b => simp at hb
theorem rise1_k {h : List PO} {k : Nat} {x : Int} (hk : h[k]? = some (.rw [.int .u8 x])) (h0 : 0 ≤ x) (h1 : x < 8) : PC Try.prog 33 [.slice (some ⟨k, 0, none⟩) 1 1] h (fun v' h' => v' = .slice (some ⟨k, 0, none⟩) 1 1 ∧ h' = h) fun _ _ => False := by
  have := PC.inPlace (v := .slice (some ⟨k, 0, none⟩) 1 1) (args := [.slice (some ⟨k, 0, none⟩) 1 1]) (rise1_pc x h0 h1) hk rfl rfl (RNs.cons (.sl _ _ _ _ rfl) .nil) (.sl _ _ _ _ (rho_at (by simp) (List.getElem?_eq_some_iff.1 hk).1 rfl))
  rwa [List.set_getElem?_self' hk] at this
theorem rise2_k {h : List PO} {k : Nat} {x y : Int} (hk : h[k]? = some (.rw [.int .u8 x, .int .u8 y])) (h0 : 0 ≤ x) (h1 : x < 8) (h2 : 0 ≤ y) (h3 : y < 8) : PC Try.prog 33 [.slice (some ⟨k, 0, none⟩) 2 2] h (fun v' h' => v' = .slice (some ⟨k, 0, none⟩) (rise2F x y).1 2 ∧ h' = h.set k (.rw [.int .u8 (rise2F x y).2.1, .int .u8 (rise2F x y).2.2])) fun _ _ => False :=
  PC.inPlace (rise2_pc x y h0 h1 h2 h3) hk rfl rfl (RNs.cons (.sl _ _ _ _ rfl) .nil) (.sl _ _ _ _ (rho_at (by simp) (List.getElem?_eq_some_iff.1 hk).1 rfl))
end Go.Proofs.Ytnkpfknilhgjgaa
/- Which registers an instruction reads and writes. -/
namespace Go.Proofs.Ytnkpfknilhgjgaa
open Go.RowKit
set_option maxRecDepth 100000
set_option maxHeartbeats 4000000
/-- Registers, rising: none; one; two; one that stood twice. -/
inductive RL where
  | nil
  | one (x : Int)
  | two (x y : Int)
  | eq (x : Int)
def RL.v (k : Nat) : RL → Value
  | .nil => .slice none 0 0
  | .one _ => .slice (some ⟨k, 0, none⟩) 1 1
  | .two _ _ => .slice (some ⟨k, 0, none⟩) 2 2
  | .eq _ => .slice (some ⟨k, 0, none⟩) 1 2
def RL.cells : RL → List Value
  | .nil => []
  | .one x => [.int .u8 x]
  | .two x y => [.int .u8 x, .int .u8 y]
  | .eq x => [.int .u8 x, .int .u8 0]
def RL.ns : RL → List PO
  | .nil => []
  | r => [.rw r.cells]
def RL.list : RL → List Int
  | .nil => []
  | .one x => [x]
  | .two x y => [x, y]
  | .eq x => [x]
def pairRL (x y : Int) : RL := if x = y then .eq x else if x < y then .two x y else .two y x
def readsRL (o a b : Int) : RL := if o = 3 ∨ o = 13 ∨ o = 15 then .one b else if o = 18 ∨ o = 19 then .one a else if o = 22 then .one 7 else if shB o then pairRL a b else .nil
def writesRL (o a : Int) : RL := if 2 ≤ o ∧ o ≤ 12 ∨ o = 13 ∨ o = 15 then .one a else if o = 21 then .one 7 else .nil
/-- What such a call comes to in the small memory. -/
def RLpost (l : RL) (v : Value) (h : List PO) : Prop := match l with
  | .nil => v = .slice none 0 0
  | l => ∃ k, v = l.v k ∧ h[k]? = some (.rw l.cells)
theorem PC.rl {P : Program} {f : FuncId} {args : List Value} {l : RL} (q : PC P f args [] (fun v h => RLpost l v h) fun _ _ => False) (ha : ∀ v ∈ args, ∃ n, flat n v = true) (h : List PO) : PCq P f args h fun v ns => v = l.v h.length ∧ ns = l.ns := by
  cases l with
  | nil => exact PC.reads [] (q.mono (fun v h e => ⟨e, fun b hb => absurd hb (Nat.not_lt_zero _)⟩) fun _ _ x => x) fit_none live_nil (RNs.of_flat ha) rfl
  | one x => exact PC.readsRow' [] (q.mono (fun v h ⟨k, e1, e2⟩ => ⟨k, e1, Nat.zero_le _, e2, fun b hb => absurd hb (Nat.not_lt_zero _)⟩) fun _ _ x => x) fit_none live_nil (RNs.of_flat ha) rfl
  | two x y => exact PC.readsRow' [] (q.mono (fun v h ⟨k, e1, e2⟩ => ⟨k, e1, Nat.zero_le _, e2, fun b hb => absurd hb (Nat.not_lt_zero _)⟩) fun _ _ x => x) fit_none live_nil (RNs.of_flat ha) rfl
  | eq x => exact PC.readsRow' [] (q.mono (fun v h ⟨k, e1, e2⟩ => ⟨k, e1, Nat.zero_le _, e2, fun b hb => absurd hb (Nat.not_lt_zero _)⟩) fun _ _ x => x) fit_none live_nil (RNs.of_flat ha) rfl
theorem PC.ke {P : Program} {f : FuncId} {args : List Value} {h h1 : List PO} {v : Value} {K Kp : Value → List PO → Prop} (q : PC P f args h (fun v' h' => v' = v ∧ h' = h1) fun _ _ => False) (hK : K v h1) : @PCk P f args h ⟨K, Kp⟩ := q.mono (fun v' h' ⟨e1, e2⟩ => by subst e1; subst e2; exact hK) fun _ _ x => x.elim
theorem fnShape (o : Int) (h0 : 0 ≤ o) : Fn Try.prog 50 [.int .u8 o] (.agg #[.bool (shA o), .bool (shB o), .bool (shI o)]) := Fn.of_calls (callable Try.func50 rfl (by decide)) rfl rfl (shapeOf_ok o h0)
theorem fnUses (o : Int) (h0 : 0 ≤ o) : Fn Try.prog 34 [.int .u8 o] (.tuple #[.bool (shA o), .bool (shB o), .bool (shI o)]) := by
  refine Fn.of ?_ rfl rfl
  refine pc_of Try.func34 rfl (by decide) (by kernel_rfl) (by show 1 ≤ _; decide) (SW.of mixed _ _ _ ?_)
  simp -implicitDefEqProofs
  refine (fnShape o h0).k ?_
  simp -implicitDefEqProofs
  refine pdk_at [] (by kernel_rfl) ?_
  simp -implicitDefEqProofs
theorem pair_v {k : Nat} {x y : Int} : (.slice (some ⟨k, 0, none⟩) (rise2F x y).1 2) = (pairRL x y).v k := by
  unfold rise2F pairRL
  repeat' split
  all_goals rfl
theorem pair_cells {x y : Int} : [.int .u8 (rise2F x y).2.1, .int .u8 (rise2F x y).2.2] = (pairRL x y).cells := by
  unfold rise2F pairRL
  repeat' split
  all_goals rfl
theorem pair_post {k : Nat} {x y : Int} {v : Value} {h : List PO} (hv : v = .slice (some ⟨k, 0, none⟩) (rise2F x y).1 2) (hh : h[k]? = some (.rw [.int .u8 (rise2F x y).2.1, .int .u8 (rise2F x y).2.2])) : RLpost (pairRL x y) v h := by
  rw [pair_v] at hv
  rw [pair_cells] at hh
  unfold pairRL at *
  repeat' split
  all_goals (simp_all [RLpost]; exact ⟨k, rfl, hh⟩)
theorem reads_small (o a b n : Int) (h0 : 0 ≤ o) (ha0 : 0 ≤ a) (hb0 : 0 ≤ b) (hok : okF o a b n) : PC Try.prog 22 [insV o a b n] [] (fun v h => RLpost (readsRL o a b) v h) fun _ _ => False := by
  refine pc_of Try.func22 rfl (by decide) (by kernel_rfl) (by show 1 ≤ _; decide) (SW.of mixed _ _ _ ?_)
  have ha := hok.2.1
  have hb := hok.2.2.1
  simp -implicitDefEqProofs [insV]
  refine (fnRight o a b n h0).k ?_
  simp -implicitDefEqProofs [hok]
  by_cases h1 : o = 3 ∨ o = 13 ∨ o = 15
  · rcases h1 with rfl | rfl | rfl
    all_goals
      simp -implicitDefEqProofs [rep_succ, rep_zero]
      refine PC.ke (rise1_k ?_ hb0 hb) ?_
      · rfl
      simp -implicitDefEqProofs [readsRL, RLpost, RL.v, RL.cells]
  by_cases h2 : o = 18 ∨ o = 19
  · rcases h2 with rfl | rfl
    all_goals
      simp -implicitDefEqProofs [rep_succ, rep_zero]
      refine PC.ke (rise1_k ?_ ha0 ha) ?_
      · rfl
      simp -implicitDefEqProofs [readsRL, RLpost, RL.v, RL.cells]
  by_cases h3 : o = 22
  · subst h3
    simp -implicitDefEqProofs [rep_succ, rep_zero]
    refine PC.ke (rise1_k (x := 7) ?_ (by decide) (by decide)) ?_
    · rfl
    simp -implicitDefEqProofs [readsRL, RLpost, RL.v, RL.cells]
  have n1 : ¬ o = 3 := fun e => h1 (.inl e)
  have n2 : ¬ o = 13 := fun e => h1 (.inr (.inl e))
  have n3 : ¬ o = 15 := fun e => h1 (.inr (.inr e))
  have n4 : ¬ o = 18 := fun e => h2 (.inl e)
  have n5 : ¬ o = 19 := fun e => h2 (.inr e)
  simp -implicitDefEqProofs [n1, n2, n3, n4, n5, h3]
  refine (fnUses o h0).k ?_
  cases hs : shB o with
  | true =>
    simp -implicitDefEqProofs [hs, rep_succ, rep_zero]
    refine PC.ke (rise2_k ?_ ha0 ha hb0 hb) ?_
    · rfl
    simp -implicitDefEqProofs
    simp only [readsRL, n1, n2, n3, n4, n5, h3, hs, or_self, if_false, if_true]
    exact pair_post rfl rfl
  | false =>
    simp -implicitDefEqProofs [hs]
    simp [readsRL, n1, n2, n3, n4, n5, h3, hs, RLpost]
theorem writes_small (o a b n : Int) (h0 : 0 ≤ o) (ha0 : 0 ≤ a) (hb0 : 0 ≤ b) (hok : okF o a b n) : PC Try.prog 20 [insV o a b n] [] (fun v h => RLpost (writesRL o a) v h) fun _ _ => False := by
  refine pc_of Try.func20 rfl (by decide) (by kernel_rfl) (by show 1 ≤ _; decide) (SW.of mixed _ _ _ ?_)
  have ha := hok.2.1
  have hb := hok.2.2.1
  let q : Nat → Int := fun i => if i = 0 then 0 else 1
  have hq : RegsOk q := fun i => by simp only [q]; split <;> omega
  have hq1 : ∀ i, q (1 + i) = 1 := fun i => by simp only [q]; rw [if_neg (by omega)]
  have ho := hok.1
  rcases op_cases o h0 with rfl | rfl | rfl | rfl | rfl | rfl | rfl | rfl | rfl | rfl | rfl | rfl | rfl | rfl | rfl | rfl | rfl | rfl | rfl | rfl | rfl | rfl | rfl | rfl | hbig
  · have hd := fnDeed q hq 0 a b n (by decide) (by decide) ha0 ha hb0 hb
    simp -implicitDefEqProofs [deedF, hq1, Dd.val] at hd
    simp -implicitDefEqProofs [insV]
    refine (fnRight 0 a b n (by decide)).k ?_
    simp -implicitDefEqProofs [hok]
    refine hd.k ?_
    simp -implicitDefEqProofs [writesRL, RLpost]
  · have hd := fnDeed q hq 1 a b n (by decide) (by decide) ha0 ha hb0 hb
    simp -implicitDefEqProofs [deedF, hq1, Dd.val] at hd
    simp -implicitDefEqProofs [insV]
    refine (fnRight 1 a b n (by decide)).k ?_
    simp -implicitDefEqProofs [hok]
    refine hd.k ?_
    simp -implicitDefEqProofs [writesRL, RLpost]
  · have hd := fnDeed q hq 2 a b n (by decide) (by decide) ha0 ha hb0 hb
    simp -implicitDefEqProofs [deedF, hq1, Dd.val] at hd
    simp -implicitDefEqProofs [insV]
    refine (fnRight 2 a b n (by decide)).k ?_
    simp -implicitDefEqProofs [hok]
    refine hd.k ?_
    simp -implicitDefEqProofs [rep_succ, rep_zero]
    refine PC.ke (rise1_k (x := a) ?_ ha0 ha) ?_
    · rfl
    simp -implicitDefEqProofs [writesRL, RLpost, RL.v, RL.cells]
  · have hd := fnDeed q hq 3 a b n (by decide) (by decide) ha0 ha hb0 hb
    simp -implicitDefEqProofs [deedF, hq1, Dd.val] at hd
    simp -implicitDefEqProofs [insV]
    refine (fnRight 3 a b n (by decide)).k ?_
    simp -implicitDefEqProofs [hok]
    refine hd.k ?_
    simp -implicitDefEqProofs [rep_succ, rep_zero]
    refine PC.ke (rise1_k (x := a) ?_ ha0 ha) ?_
    · rfl
    simp -implicitDefEqProofs [writesRL, RLpost, RL.v, RL.cells]
  · have hd := fnDeed q hq 4 a b n (by decide) (by decide) ha0 ha hb0 hb
    simp -implicitDefEqProofs [deedF, hq1, Dd.val] at hd
    simp -implicitDefEqProofs [insV]
    refine (fnRight 4 a b n (by decide)).k ?_
    simp -implicitDefEqProofs [hok]
    refine hd.k ?_
    simp -implicitDefEqProofs [rep_succ, rep_zero]
    refine PC.ke (rise1_k (x := a) ?_ ha0 ha) ?_
    · rfl
    simp -implicitDefEqProofs [writesRL, RLpost, RL.v, RL.cells]
  · have hd := fnDeed q hq 5 a b n (by decide) (by decide) ha0 ha hb0 hb
    simp -implicitDefEqProofs [deedF, hq1, Dd.val] at hd
    simp -implicitDefEqProofs [insV]
    refine (fnRight 5 a b n (by decide)).k ?_
    simp -implicitDefEqProofs [hok]
    refine hd.k ?_
    simp -implicitDefEqProofs [rep_succ, rep_zero]
    refine PC.ke (rise1_k (x := a) ?_ ha0 ha) ?_
    · rfl
    simp -implicitDefEqProofs [writesRL, RLpost, RL.v, RL.cells]
  · have hd := fnDeed q hq 6 a b n (by decide) (by decide) ha0 ha hb0 hb
    simp -implicitDefEqProofs [deedF, hq1, Dd.val] at hd
    simp -implicitDefEqProofs [insV]
    refine (fnRight 6 a b n (by decide)).k ?_
    simp -implicitDefEqProofs [hok]
    refine hd.k ?_
    simp -implicitDefEqProofs [rep_succ, rep_zero]
    refine PC.ke (rise1_k (x := a) ?_ ha0 ha) ?_
    · rfl
    simp -implicitDefEqProofs [writesRL, RLpost, RL.v, RL.cells]
  · have hd := fnDeed q hq 7 a b n (by decide) (by decide) ha0 ha hb0 hb
    simp -implicitDefEqProofs [deedF, hq1, Dd.val] at hd
    simp -implicitDefEqProofs [insV]
    refine (fnRight 7 a b n (by decide)).k ?_
    simp -implicitDefEqProofs [hok]
    refine hd.k ?_
    simp -implicitDefEqProofs [rep_succ, rep_zero]
    refine PC.ke (rise1_k (x := a) ?_ ha0 ha) ?_
    · rfl
    simp -implicitDefEqProofs [writesRL, RLpost, RL.v, RL.cells]
  · have hd := fnDeed q hq 8 a b n (by decide) (by decide) ha0 ha hb0 hb
    simp -implicitDefEqProofs [deedF, hq1, Dd.val] at hd
    simp -implicitDefEqProofs [insV]
    refine (fnRight 8 a b n (by decide)).k ?_
    simp -implicitDefEqProofs [hok]
    refine hd.k ?_
    simp -implicitDefEqProofs [rep_succ, rep_zero]
    refine PC.ke (rise1_k (x := a) ?_ ha0 ha) ?_
    · rfl
    simp -implicitDefEqProofs [writesRL, RLpost, RL.v, RL.cells]
  · have hd := fnDeed q hq 9 a b n (by decide) (by decide) ha0 ha hb0 hb
    simp -implicitDefEqProofs [deedF, hq1, Dd.val] at hd
    simp -implicitDefEqProofs [insV]
    refine (fnRight 9 a b n (by decide)).k ?_
    simp -implicitDefEqProofs [hok]
    refine hd.k ?_
    simp -implicitDefEqProofs [rep_succ, rep_zero]
    refine PC.ke (rise1_k (x := a) ?_ ha0 ha) ?_
    · rfl
    simp -implicitDefEqProofs [writesRL, RLpost, RL.v, RL.cells]
  · have hd := fnDeed q hq 10 a b n (by decide) (by decide) ha0 ha hb0 hb
    simp -implicitDefEqProofs [deedF, hq1, Dd.val] at hd
    simp -implicitDefEqProofs [insV]
    refine (fnRight 10 a b n (by decide)).k ?_
    simp -implicitDefEqProofs [hok]
    refine hd.k ?_
    simp -implicitDefEqProofs [rep_succ, rep_zero]
    refine PC.ke (rise1_k (x := a) ?_ ha0 ha) ?_
    · rfl
    simp -implicitDefEqProofs [writesRL, RLpost, RL.v, RL.cells]
  · have hd := fnDeed q hq 11 a b n (by decide) (by decide) ha0 ha hb0 hb
    simp -implicitDefEqProofs [deedF, hq1, Dd.val] at hd
    simp -implicitDefEqProofs [insV]
    refine (fnRight 11 a b n (by decide)).k ?_
    simp -implicitDefEqProofs [hok]
    refine hd.k ?_
    simp -implicitDefEqProofs [rep_succ, rep_zero]
    refine PC.ke (rise1_k (x := a) ?_ ha0 ha) ?_
    · rfl
    simp -implicitDefEqProofs [writesRL, RLpost, RL.v, RL.cells]
  · have hd := fnDeed q hq 12 a b n (by decide) (by decide) ha0 ha hb0 hb
    simp -implicitDefEqProofs [deedF, hq1, Dd.val] at hd
    simp -implicitDefEqProofs [insV]
    refine (fnRight 12 a b n (by decide)).k ?_
    simp -implicitDefEqProofs [hok]
    refine hd.k ?_
    simp -implicitDefEqProofs [rep_succ, rep_zero]
    refine PC.ke (rise1_k (x := a) ?_ ha0 ha) ?_
    · rfl
    simp -implicitDefEqProofs [writesRL, RLpost, RL.v, RL.cells]
  · have hd := fnDeed q hq 13 a b n (by decide) (by decide) ha0 ha hb0 hb
    simp -implicitDefEqProofs [deedF, hq1, Dd.val] at hd
    simp -implicitDefEqProofs [insV]
    refine (fnRight 13 a b n (by decide)).k ?_
    simp -implicitDefEqProofs [hok]
    refine hd.k ?_
    simp -implicitDefEqProofs [rep_succ, rep_zero]
    refine PC.ke (rise1_k (x := a) ?_ ha0 ha) ?_
    · rfl
    simp -implicitDefEqProofs [writesRL, RLpost, RL.v, RL.cells]
  · have hd := fnDeed q hq 14 a b n (by decide) (by decide) ha0 ha hb0 hb
    simp -implicitDefEqProofs [deedF, hq1, Dd.val] at hd
    simp -implicitDefEqProofs [insV]
    refine (fnRight 14 a b n (by decide)).k ?_
    simp -implicitDefEqProofs [hok]
    refine hd.k ?_
    simp -implicitDefEqProofs [writesRL, RLpost]
  · have hd := fnDeed q hq 15 a b n (by decide) (by decide) ha0 ha hb0 hb
    simp -implicitDefEqProofs [deedF, hq1, Dd.val] at hd
    simp -implicitDefEqProofs [insV]
    refine (fnRight 15 a b n (by decide)).k ?_
    simp -implicitDefEqProofs [hok]
    refine hd.k ?_
    simp -implicitDefEqProofs [rep_succ, rep_zero]
    refine PC.ke (rise1_k (x := a) ?_ ha0 ha) ?_
    · rfl
    simp -implicitDefEqProofs [writesRL, RLpost, RL.v, RL.cells]
  · have hd := fnDeed q hq 16 a b n (by decide) (by decide) ha0 ha hb0 hb
    simp -implicitDefEqProofs [deedF, hq1, Dd.val] at hd
    simp -implicitDefEqProofs [insV]
    refine (fnRight 16 a b n (by decide)).k ?_
    simp -implicitDefEqProofs [hok]
    refine hd.k ?_
    simp -implicitDefEqProofs [writesRL, RLpost]
  · have hd := fnDeed q hq 17 a b n (by decide) (by decide) ha0 ha hb0 hb
    simp -implicitDefEqProofs [deedF, hq1, Dd.val] at hd
    simp -implicitDefEqProofs [insV]
    refine (fnRight 17 a b n (by decide)).k ?_
    simp -implicitDefEqProofs [hok]
    refine hd.k ?_
    simp -implicitDefEqProofs [writesRL, RLpost]
  · have hd := fnDeed q hq 18 a b n (by decide) (by decide) ha0 ha hb0 hb
    simp -implicitDefEqProofs [deedF, hq1, Dd.val] at hd
    simp -implicitDefEqProofs [insV]
    refine (fnRight 18 a b n (by decide)).k ?_
    simp -implicitDefEqProofs [hok]
    refine hd.k ?_
    simp -implicitDefEqProofs [writesRL, RLpost]
  · have hd := fnDeed q hq 19 a b n (by decide) (by decide) ha0 ha hb0 hb
    simp -implicitDefEqProofs [deedF, hq1, Dd.val] at hd
    simp -implicitDefEqProofs [insV]
    refine (fnRight 19 a b n (by decide)).k ?_
    simp -implicitDefEqProofs [hok]
    refine hd.k ?_
    simp -implicitDefEqProofs [writesRL, RLpost]
  · have hd := fnDeed q hq 20 a b n (by decide) (by decide) ha0 ha hb0 hb
    simp -implicitDefEqProofs [deedF, hq1, Dd.val] at hd
    simp -implicitDefEqProofs [insV]
    refine (fnRight 20 a b n (by decide)).k ?_
    simp -implicitDefEqProofs [hok]
    refine hd.k ?_
    simp -implicitDefEqProofs [writesRL, RLpost]
  · have hd := fnDeed q hq 21 a b n (by decide) (by decide) ha0 ha hb0 hb
    simp -implicitDefEqProofs [deedF, hq1, Dd.val] at hd
    simp -implicitDefEqProofs [insV]
    refine (fnRight 21 a b n (by decide)).k ?_
    simp -implicitDefEqProofs [hok]
    refine hd.k ?_
    simp -implicitDefEqProofs [rep_succ, rep_zero]
    refine PC.ke (rise1_k (x := 7) ?_ (by decide) (by decide)) ?_
    · rfl
    simp -implicitDefEqProofs [writesRL, RLpost, RL.v, RL.cells]
  · have hd := fnDeed q hq 22 a b n (by decide) (by decide) ha0 ha hb0 hb
    simp -implicitDefEqProofs [deedF, hq1, Dd.val] at hd
    simp -implicitDefEqProofs [insV]
    refine (fnRight 22 a b n (by decide)).k ?_
    simp -implicitDefEqProofs [hok]
    refine hd.k ?_
    simp -implicitDefEqProofs [writesRL, RLpost]
  · have hd := fnDeed q hq 23 a b n (by decide) (by decide) ha0 ha hb0 hb
    simp -implicitDefEqProofs [deedF, hq1, Dd.val] at hd
    simp -implicitDefEqProofs [insV]
    refine (fnRight 23 a b n (by decide)).k ?_
    simp -implicitDefEqProofs [hok]
    refine hd.k ?_
    simp -implicitDefEqProofs [writesRL, RLpost]
  · omega
end Go.Proofs.Ytnkpfknilhgjgaa

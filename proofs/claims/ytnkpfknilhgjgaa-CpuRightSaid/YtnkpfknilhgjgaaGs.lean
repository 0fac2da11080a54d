/- The processor's other laws, walked. -/
import Derived.Test.YtnkpfknilhgjgaaGr
import Derived.Test.YtnkpfknilhgjgaaGc
set_option linter.unusedSimpArgs false
set_option linter.unusedVariables false
namespace Go.Proofs.Ytnkpfknilhgjgaa
open Go.RowKit
set_option maxRecDepth 100000
set_option maxHeartbeats 4000000
def rdF (o a b n : Int) : RL := if okF o a b n then readsRL o a b else .nil
def wrF (o a b n : Int) : RL := if okF o a b n then writesRL o a else .nil
theorem flat_ins (o a b n : Int) : ∀ v ∈ [insV o a b n], ∃ m, flat m v = true := fun v hv => ⟨6, by simp at hv; subst hv; rfl⟩
theorem reads_q (o a b n : Int) (h0 : 0 ≤ o) (ha0 : 0 ≤ a) (hb0 : 0 ≤ b) (h : List PO) : PCq Try.prog 22 [insV o a b n] h fun v ns => v = (rdF o a b n).v h.length ∧ ns = (rdF o a b n).ns := by
  refine PC.rl ?_ (flat_ins o a b n) h
  unfold rdF
  split
  · rename_i hok; exact reads_small o a b n h0 ha0 hb0 hok
  · rename_i hok
    refine pc_of Try.func22 rfl (by decide) (by kernel_rfl) (by show 1 ≤ _; decide) (SW.of mixed _ _ _ ?_)
    simp -implicitDefEqProofs [insV]
    refine (fnRight o a b n h0).k ?_
    simp -implicitDefEqProofs [hok, RLpost]
theorem writes_q (o a b n : Int) (h0 : 0 ≤ o) (ha0 : 0 ≤ a) (hb0 : 0 ≤ b) (h : List PO) : PCq Try.prog 20 [insV o a b n] h fun v ns => v = (wrF o a b n).v h.length ∧ ns = (wrF o a b n).ns := by
  refine PC.rl ?_ (flat_ins o a b n) h
  unfold wrF
  split
  · rename_i hok; exact writes_small o a b n h0 ha0 hb0 hok
  · rename_i hok
    refine pc_of Try.func20 rfl (by decide) (by kernel_rfl) (by show 1 ≤ _; decide) (SW.of mixed _ _ _ ?_)
    simp -implicitDefEqProofs [insV]
    refine (fnRight o a b n h0).k ?_
    simp -implicitDefEqProofs [hok, RLpost]
/-! ### what an instruction comes to -/
theorem deed_kinds (r : Nat → Int) (o a b n : Int) (h0 : 0 ≤ o) (h1 : o ≤ 23) : let x := ((deedF r o a b n).done r).2; x.k ≤ 7 ∧ (x.k = 7 → o = 7 ∧ x.er = 14) ∧ (x.k = 5 ↔ o = 23) := by
  rcases op_cases o h0 with rfl | rfl | rfl | rfl | rfl | rfl | rfl | rfl | rfl | rfl | rfl | rfl | rfl | rfl | rfl | rfl | rfl | rfl | rfl | rfl | rfl | rfl | rfl | rfl | hbig
  all_goals first | omega | (simp [deedF, accF, Dd.done]; done) | (simp only [deedF]; simp; split <;> simp [Dd.done])
theorem deed_agree (r q : Nat → Int) (o a b n : Int) (h0 : 0 ≤ o) (h23 : o ≤ 23) (h : ∀ i ∈ (readsRL o a b).list, q (1 + i.toNat) = r (1 + i.toNat)) : deedF q o a b n = deedF r o a b n := by
  have hp : ∀ i, i = a ∨ i = b → i ∈ (pairRL a b).list := fun i hi => by
    unfold pairRL
    repeat' split
    all_goals rcases hi with rfl | rfl <;> simp_all [RL.list]
  rcases op_cases o h0 with rfl | rfl | rfl | rfl | rfl | rfl | rfl | rfl | rfl | rfl | rfl | rfl | rfl | rfl | rfl | rfl | rfl | rfl | rfl | rfl | rfl | rfl | rfl | rfl | hbig
  all_goals first
    | omega
    | (simp [deedF]; done)
    | (have h1 := h a (hp a (.inl rfl)); have h2 := h b (hp b (.inr rfl)); simp [deedF, accF, h1, h2]; done)
    | (have h1 := h a (by simp [readsRL, RL.list]); simp [deedF, accF, h1]; done)
    | (have h1 := h b (by simp [readsRL, RL.list]); simp [deedF, accF, sumF, h1]; done)
    | (have h1 := h 7 (by simp [readsRL, RL.list]); simp [deedF, accF]; exact h1)
theorem done_same (r q : Nat → Int) (d : Dd) (h : q 0 = r 0) : (d.done q).2 = (d.done r).2 ∧ (d.done q).1 0 = (d.done r).1 0 := by
  cases d with
  | nothing => simp [Dd.done, stepR, h]
  | put x v => simp [Dd.done, stepR, h, upd]
  | leap t l => simp [Dd.done]
  | ask x => simp [Dd.done, stepR, h]
  | stop x => simp [Dd.done, h]
/-- What is not written stays. -/
theorem exec_stays (r : Nat → Int) (o a b n : Int) (h0 : 0 ≤ o) (ha0 : 0 ≤ a) (j : Nat) (hj : j < 8) (h : (j : Int) ∉ (wrF o a b n).list) : (execF r o a b n).1 (1 + j) = r (1 + j) := by
  unfold execF
  unfold wrF at h
  split
  · rename_i hok
    rw [if_pos hok] at h
    obtain ⟨i, rfl⟩ := Int.eq_ofNat_of_zero_le ha0
    have ho := hok.1
    rcases op_cases o h0 with rfl | rfl | rfl | rfl | rfl | rfl | rfl | rfl | rfl | rfl | rfl | rfl | rfl | rfl | rfl | rfl | rfl | rfl | rfl | rfl | rfl | rfl | rfl | rfl | hbig
    all_goals first
      | omega
      | (simp [writesRL, RL.list] at h; have h2 : ¬ j = i := by omega
         simp [deedF, accF, Dd.done, stepR, upd]; omega)
      | (simp [writesRL, RL.list] at h; have h2 : ¬ j = i := by omega
         simp only [deedF]; simp; split <;> (simp [Dd.done, stepR, upd]; try omega))
      | (simp [writesRL, RL.list] at h; simp [deedF, accF, Dd.done, stepR, upd]; done)
      | (simp [writesRL, RL.list] at h; simp [deedF, accF, Dd.done, stepR, upd]; omega)
      | (simp only [deedF]; simp; split <;> (simp [Dd.done, stepR, upd]; try omega))
  · rfl
theorem exec_stopped (r : Nat → Int) (o a b n : Int) (h : (execF r o a b n).2.k = 6 ∨ (execF r o a b n).2.k = 7) : (execF r o a b n).1 = r := by
  unfold execF at h ⊢
  split
  · rename_i hok
    rw [if_pos hok] at h
    cases hd : deedF r o a b n with
    | nothing => rw [hd] at h; simp [Dd.done] at h
    | put x v => rw [hd] at h; simp [Dd.done] at h
    | leap t l => rw [hd] at h; simp [Dd.done] at h
    | ask x =>
      rw [hd] at h
      exfalso
      have h2 : x.k = 6 ∨ x.k = 7 := h
      have := deed_ask hd
      omega
    | stop x => rfl
  · rfl
end Go.Proofs.Ytnkpfknilhgjgaa
/- The processor's other laws, walked: the walks. -/
namespace Go.Proofs.Ytnkpfknilhgjgaa
open Go.RowKit
set_option maxRecDepth 100000
set_option maxHeartbeats 4000000
theorem fnCpuRight (r : Nat → Int) (hr : RegsOk r) (o a b n : Int) (h0 : 0 ≤ o) (ha0 : 0 ≤ a) (hb0 : 0 ≤ b) : Fn Try.prog 9 [regsV r, insV o a b n] (.bool true) := by
  refine Fn.of ?_ rfl rfl
  refine pc_of Try.func9 rfl (by decide) (by kernel_rfl) (by show 2 ≤ _; decide) (SW.of mixed _ _ _ ?_)
  simp -implicitDefEqProofs [insV]
  refine (fnExec r hr o a b n h0 ha0 hb0).k ?_
  simp -implicitDefEqProofs
  refine (fnRRight o a b n h0).k ?_
  by_cases hok : okF o a b n
  · obtain ⟨k1, k2, k3⟩ := deed_kinds r o a b n h0 hok.1
    simp -implicitDefEqProofs [hok]
    refine fnLive.k ?_
    have he : execF r o a b n = (deedF r o a b n).done r := by unfold execF; rw [if_pos hok]
    rw [he]
    generalize ((deedF r o a b n).done r).2 = x at k1 k2 k3
    by_cases h7 : x.k = 7
    · obtain ⟨e1, e2⟩ := k2 h7
      subst e1
      simp -implicitDefEqProofs [h7, e2, qeq]
    · by_cases h5 : x.k = 5
      · have e1 := k3.1 h5
        subst e1
        simp -implicitDefEqProofs [h5, qeq]
      · have e1 : ¬ o = 23 := fun e => h5 (k3.2 e)
        simp -implicitDefEqProofs [k1, h7, qeq]
        rw [show (x.k == 5) = false by simpa using h5, show (o == 23) = false by simpa using e1]
  · have he : execF r o a b n = (r, ⟨7, 0, 0, 0, 3⟩) := by unfold execF; rw [if_neg hok]
    have hrd : rdF o a b n = .nil := by unfold rdF; rw [if_neg hok]
    have hwr : wrF o a b n = .nil := by unfold wrF; rw [if_neg hok]
    have hR := fun h => reads_q o a b n h0 ha0 hb0 h
    have hW := fun h => writes_q o a b n h0 ha0 hb0 h
    rw [hrd] at hR
    rw [hwr] at hW
    simp -implicitDefEqProofs [hok]
    refine fnLive.k ?_
    simp -implicitDefEqProofs [he, qeq, qeqF, qpart]
    refine (hR _).k ?_
    simp -implicitDefEqProofs [RL.v]
    refine (hW _).k ?_
    simp -implicitDefEqProofs [RL.v]
/-- Is a register one of some? -/
theorem has_row (cs : List Value) (xs : List Int) (j m : Int) (n c : Nat) (hn : xs.length = n) (hl : xs.length ≤ 2) (hx : ∀ i, i < n → ∃ x, xs[i]? = some x ∧ cs[i]? = some (.int .u8 x) ∧ 0 ≤ x ∧ x < 8) : PC Try.prog 21 [.slice (some ⟨0, 0, none⟩) n c, .int .i64 j] [.ro cs] (fun v h' => v = .bool (decide (j ∈ xs)) ∧ Kept [.ro cs] h') fun _ _ => False := by
  refine pc_of Try.func21 rfl (by decide) (by kernel_rfl) (by show 2 ≤ _; decide) (SW.of mixed _ _ _ ?_)
  have wr : ∀ x : Int, 0 ≤ x → x < 8 → IntKind.i64.wrap x = x := fun x h0 h1 => by rw [IntKind.wrap_i64]; omega
  simp -implicitDefEqProofs
  refine pwp_rounds 3 ?_
  match xs, hn, hl, hx with
  | [], hn, _, _ =>
    subst hn
    rw [Rounds_succ]
    simp -implicitDefEqProofs [Kept]
  | [x], hn, _, hx =>
    obtain ⟨x', e1, e2, e3, e4⟩ := hx 0 (by rw [← hn]; simp)
    simp at e1; subst e1
    subst hn
    rw [Rounds_succ]
    have := wr x e3 e4
    by_cases hj : x = j
    · subst hj; simp -implicitDefEqProofs [Kept, e2, this]
    · have hj' : ¬ j = x := fun e => hj e.symm
      simp -implicitDefEqProofs [Kept, e2, this, hj]
      rw [Rounds_succ]
      simp -implicitDefEqProofs [Kept, hj']
  | [x, y], hn, _, hx =>
    obtain ⟨x', e1, e2, e3, e4⟩ := hx 0 (by rw [← hn]; simp)
    obtain ⟨y', f1, f2, f3, f4⟩ := hx 1 (by rw [← hn]; simp)
    simp at e1 f1; subst e1; subst f1
    subst hn
    have g1 := wr x e3 e4
    have g2 := wr y f3 f4
    rw [Rounds_succ]
    by_cases hj : x = j
    · subst hj; simp -implicitDefEqProofs [Kept, e2, g1]
    · have hj' : ¬ j = x := fun e => hj e.symm
      simp -implicitDefEqProofs [Kept, e2, g1, hj]
      rw [Rounds_succ]
      by_cases hk : y = j
      · subst hk; simp -implicitDefEqProofs [Kept, f2, g2]
      · have hk' : ¬ j = y := fun e => hk e.symm
        simp -implicitDefEqProofs [Kept, f2, g2, hk]
        rw [Rounds_succ]
        simp -implicitDefEqProofs [Kept, hj', hk']
theorem pairRL_regs {x y : Int} (h0 : 0 ≤ x ∧ x < 8) (h1 : 0 ≤ y ∧ y < 8) : ∀ z ∈ (pairRL x y).list, 0 ≤ z ∧ z < 8 := fun z hz => by
  unfold pairRL at hz
  repeat' split at hz
  all_goals simp [RL.list] at hz
  · subst hz; exact h0
  · rcases hz with rfl | rfl <;> assumption
  · rcases hz with rfl | rfl <;> assumption
theorem wrF_regs {o a b n : Int} (ha0 : 0 ≤ a) : ∀ z ∈ (wrF o a b n).list, 0 ≤ z ∧ z < 8 := fun z hz => by
  unfold wrF at hz
  split at hz
  · rename_i hok
    unfold writesRL at hz
    repeat' split at hz
    all_goals simp [RL.list] at hz
    · subst hz; exact ⟨ha0, hok.2.1⟩
    · subst hz; decide
  · simp [RL.list] at hz
theorem rdF_regs {o a b n : Int} (ha0 : 0 ≤ a) (hb0 : 0 ≤ b) : ∀ z ∈ (rdF o a b n).list, 0 ≤ z ∧ z < 8 := fun z hz => by
  unfold rdF at hz
  split at hz
  · rename_i hok
    unfold readsRL at hz
    have ha := hok.2.1
    have hb := hok.2.2.1
    split at hz
    · simp [RL.list] at hz; subst hz; exact ⟨hb0, hb⟩
    · split at hz
      · simp [RL.list] at hz; subst hz; exact ⟨ha0, ha⟩
      · split at hz
        · simp [RL.list] at hz; subst hz; decide
        · split at hz
          · exact pairRL_regs ⟨ha0, ha⟩ ⟨hb0, hb⟩ z hz
          · simp [RL.list] at hz
  · simp [RL.list] at hz
theorem has_q {h : List PO} {k : Nat} {l : RL} (hk : l.ns = [] ∨ h[k]? = some (.rw l.cells)) (hr : ∀ z ∈ l.list, 0 ≤ z ∧ z < 8) (j : Int) : PCq Try.prog 21 [l.v k, .int .i64 j] h fun v ns => v = .bool (decide (j ∈ l.list)) ∧ ns = [] := by
  have flatc : l.cells.all (flat 6) = true := by cases l <;> rfl
  have hcell : ∀ {n c : Nat} {x0 : Int} {xs : List Int}, l.ns ≠ [] → l.v k = .slice (some ⟨k, 0, none⟩) n c → l.list = xs → xs.length = n → xs.length ≤ 2 → (∀ i, i < n → ∃ x, xs[i]? = some x ∧ l.cells[i]? = some (.int .u8 x) ∧ 0 ≤ x ∧ x < 8) → PCq Try.prog 21 [l.v k, .int .i64 j] h fun v ns => v = .bool (decide (j ∈ l.list)) ∧ ns = [] := fun {n c x0 xs} hne e1 e2 e3 e4 e5 => by
    rcases hk with hk | hk
    · exact (hne hk).elim
    · rw [e1, e2]
      exact PC.reads [k] (has_row l.cells xs j 0 n c e3 e4 e5) (fit_row (by simp [hcells, hk, PO.cells]) flatc) live_ro (row_args (RNs.cons (.int _ _) RNs.nil)) rfl
  cases l with
  | nil =>
    refine PC.reads [] (h0 := []) ?_ fit_none live_nil (RNs.cons .snil (RNs.cons (.int _ _) RNs.nil)) rfl
    refine pc_of Try.func21 rfl (by decide) (by kernel_rfl) (by show 2 ≤ _; decide) (SW.of mixed _ _ _ ?_)
    simp -implicitDefEqProofs
    refine pwp_rounds 1 ?_
    rw [Rounds_succ]
    simp -implicitDefEqProofs [Kept, RL.list]
  | one x => exact hcell (x0 := 0) (by simp [RL.ns]) rfl rfl rfl (show (1 : Nat) ≤ 2 by decide) (fun i hi => by
      obtain rfl : i = 0 := by omega
      exact ⟨x, rfl, rfl, hr x (List.mem_cons_self ..)⟩)
  | two x y => exact hcell (x0 := 0) (by simp [RL.ns]) rfl rfl rfl (show (2 : Nat) ≤ 2 by decide) (fun i hi => by
      obtain rfl | rfl : i = 0 ∨ i = 1 := by omega
      · exact ⟨x, rfl, rfl, hr x (List.mem_cons_self ..)⟩
      · exact ⟨y, rfl, rfl, hr y (List.mem_cons_of_mem _ (List.mem_cons_self ..))⟩)
  | eq x => exact hcell (x0 := 0) (by simp [RL.ns]) rfl rfl rfl (show (1 : Nat) ≤ 2 by decide) (fun i hi => by
      obtain rfl : i = 0 := by omega
      exact ⟨x, rfl, rfl, hr x (List.mem_cons_self ..)⟩)
theorem RN_v {ρ : Nat → Option Nat} {k k' : Nat} (l : RL) (h : ρ k = some k') : RN ρ (l.v k) (l.v k') := by
  cases l <;> first | exact .snil | exact .sl _ _ _ _ h
theorem fnCpuStays (r : Nat → Int) (hr : RegsOk r) (o a b n : Int) (h0 : 0 ≤ o) (ha0 : 0 ≤ a) (hb0 : 0 ≤ b) : Fn Try.prog 7 [regsV r, insV o a b n] (.bool true) := by
  refine Fn.of ?_ rfl rfl
  refine pc_of Try.func7 rfl (by decide) (by kernel_rfl) (by show 2 ≤ _; decide) (SW.of mixed _ _ _ ?_)
  simp -implicitDefEqProofs [insV]
  refine (fnExec r hr o a b n h0 ha0 hb0).k ?_
  simp -implicitDefEqProofs
  refine (writes_q o a b n h0 ha0 hb0 _).k ?_
  have hst := exec_stays r o a b n h0 ha0
  have hsp := exec_stopped r o a b n
  have hwr := wrF_regs (o := o) (b := b) (n := n) ha0
  generalize wrF o a b n = W at hst hwr
  generalize execF r o a b n = S at hst hsp
  obtain ⟨q, x⟩ := S
  have hhas := fun (h : List PO) hk (j : Int) => has_q (h := h) (k := 4) (l := W) hk hwr j
  simp only at hst hsp
  obtain ⟨mem, hmem⟩ : ∃ mem : Int → Bool, mem = fun j => decide (j ∈ W.list) := ⟨_, rfl⟩
  have hhas2 : ∀ (h : List PO), (W.ns = [] ∨ h[4]? = some (.rw W.cells)) → ∀ j : Int, PCq Try.prog 21 [W.v 4, .int .i64 j] h fun v ns => v = .bool (mem j) ∧ ns = [] := fun h hk j => by rw [hmem]; exact hhas h hk j
  have hst2 : ∀ j : Nat, j < 8 → mem j = false → q (1 + j) = r (1 + j) := fun j hj hm => hst j hj (by rw [hmem] at hm; simpa using hm)
  clear hhas hst hmem
  obtain ⟨st, hS⟩ : ∃ st : Nat → St, st = fun k => ⟨[(8, .int .i64 k), (7, W.v 4), (5, .pointer (some ⟨2, 0, none⟩)), (6, .pointer (some ⟨3, 0, none⟩)), (2, .pointer (some ⟨0, 0, none⟩))], [.rw (regL r), .rw (insV o a b n).cells.toList, .rw (regL q), .rw x.val.cells.toList] ++ W.ns⟩ := ⟨_, rfl⟩
  obtain ⟨ks, hks⟩ : ∃ ks : List Nat, ks = match W with | .nil => [0, 1, 2, 3] | _ => [0, 1, 2, 3, 4] := ⟨_, rfl⟩
  cases W
  all_goals
    simp only [RL.v, RL.ns, RL.cells] at hS hks
    simp -implicitDefEqProofs [RL.v, RL.ns, RL.cells]
    refine pwp_loop_st st (fun k => 8 - k) (fun k => k ≤ 8) 0 ks (by decide) (Sub.mk' (by rw [hks]; decide) trivial ?_ ?_) ?_
    · subst hS; subst hks
      simp -implicitDefEqProofs [regL, insV]
    · subst hS; subst hks
      simp -implicitDefEqProofs
    intro k hk
    subst hS
    by_cases h8 : k < 8
    · have h8' : (k : Int) < 8 := by omega
      have hk9 : 1 + k ≤ 8 := by omega
      have hk10 : 1 + k < 9 := by omega
      have hw : IntKind.i64.wrap ((k : Int) + 1) = k + 1 := by rw [IntKind.wrap_i64]; omega
      simp -implicitDefEqProofs [h8', h8]
      refine pdk_at [] (by kernel_rfl) ?_
      simp -implicitDefEqProofs
      have hs := hst2 k h8
      refine (hhas2 _ (by first | exact .inl rfl | exact .inr rfl) k).kq ?_
      generalize mem k = m at hs
      cases m with
      | true =>
        simp -implicitDefEqProofs
        refine Again.mk (k + 1) ks (by simp; omega) (by omega) (Sub.mk' (by rw [hks]; decide) trivial ?_ ?_)
        · subst hks
          simp -implicitDefEqProofs [regL, insV]
        · subst hks
          simp -implicitDefEqProofs [hw]
      | false =>
        have hs' := hs rfl
        simp -implicitDefEqProofs [h8', h8, hk9, hk10, hs']
        refine Again.mk (k + 1) ks (by simp; omega) (by omega) (Sub.mk' (by rw [hks]; decide) trivial ?_ ?_)
        · subst hks
          simp -implicitDefEqProofs [regL, insV]
        · subst hks
          simp -implicitDefEqProofs [hw]
    · obtain rfl : k = 8 := by omega
      simp -implicitDefEqProofs
      refine fnLive.k ?_
      by_cases h7 : x.k = 7
      · have e := hsp (.inr h7)
        subst e
        simp -implicitDefEqProofs [h7]
      · by_cases h6 : x.k = 6
        · have e := hsp (.inl h6)
          subst e
          simp -implicitDefEqProofs [h6]
        · simp -implicitDefEqProofs [h7, h6]
end Go.Proofs.Ytnkpfknilhgjgaa

/- The plain machine's conditions, as booleans. -/
import Derived.Test.YtjopikjefpenkaaDoorG2
set_option linter.unusedSimpArgs false
set_option linter.unusedVariables false
set_option linter.unusedSectionVars false
namespace Go.Proofs.YtjopikjefpenkaaDoor
open Go.RowKit
def qbinB (op : BinOp) (x y : Value) : Bool :=
  match op with
  | .add => match x, y with
    | .string a, .string b => decide (a.size + b.size ≤ 9223372036854775807)
    | _, _ => true
  | .quo | .rem => match y with
    | .int _ b => decide (b ≠ 0)
    | _ => true
  | .shl | .shr => match y with
    | .int _ b => decide (0 ≤ b)
    | _ => true
  | _ => true
section
variable {P : Program}
theorem qbin_chk {op : BinOp} {t : TypeId} {nil : Bool} {x y : Value} {c : Prop} {v : Value} (h : qbin P op t nil x y = some (c, v)) (hb : qbinB op x y = true) : c := by
  have triv : ∀ {o : Option Bool} {f : Bool → Value}, o.map (fun r => (True, f r)) = some (c, v) → c := fun {o f} e => by
    cases o with
    | none => cases e
    | some r => cases e; trivial
  unfold qbin at h
  repeat' split at h
  all_goals first
    | (cases h; done)
    | (cases h; trivial)
    | (exact triv h)
    | (cases h; simpa [qbinB] using hb)
end
def qsliceB (P : Program) (t : TypeId) (x : Value) (lo hi mx : Option Int) : Bool :=
  match P.underlying t, x with
  | some .string, .string s => decide (0 ≤ lo.getD 0 ∧ lo.getD 0 ≤ hi.getD s.size ∧ hi.getD s.size ≤ s.size)
  | some (.slice _), .slice none 0 0 => decide (0 ≤ lo.getD 0 ∧ lo.getD 0 ≤ hi.getD (0 : Nat) ∧ hi.getD (0 : Nat) ≤ mx.getD (0 : Nat) ∧ mx.getD (0 : Nat) ≤ 0 ∧ (mx.isSome → hi.isSome))
  | some (.slice _), .slice (some ⟨_, _, some _⟩) n _ => match mx with
    | none => decide (0 ≤ lo.getD 0 ∧ lo.getD 0 ≤ hi.getD n ∧ hi.getD n ≤ n)
    | some m => decide (0 ≤ lo.getD 0 ∧ lo.getD 0 ≤ hi.getD n ∧ hi.getD n ≤ m ∧ m ≤ n ∧ hi.isSome)
  | some (.slice _), .slice (some ⟨_, _, none⟩) n c => decide (0 ≤ lo.getD 0 ∧ lo.getD 0 ≤ hi.getD n ∧ hi.getD n ≤ mx.getD c ∧ mx.getD c ≤ c ∧ (mx.isSome → hi.isSome))
  | some (.array n _), .pointer (some ⟨_, _, none⟩) => decide (0 ≤ lo.getD 0 ∧ lo.getD 0 ≤ hi.getD n ∧ hi.getD n ≤ mx.getD n ∧ mx.getD n ≤ n ∧ (mx.isSome → hi.isSome))
  | _, _ => true
def qpB (P : Program) (e : Env) : Op → Bool
  | .binOp op _ x y _ => match ev e x, ev e y with
    | some u, some v => qbinB op u v
    | _, _ => true
  | .indexAddr t x i => match P.underlying t, ev e x, ev e i with
    | some (.array n _), some (.pointer _), some (.int _ i) => decide (0 ≤ i ∧ i < n)
    | some (.slice _), some (.slice _ n _), some (.int _ i) => decide (0 ≤ i ∧ i < n)
    | _, _, _ => true
  | .index t x i => match P.underlying t, ev e x, ev e i with
    | some (.array n _), some (.agg _), some (.int _ i) => decide (0 ≤ i ∧ i < n)
    | some .string, some (.string s), some (.int _ i) => decide (0 ≤ i ∧ i < s.size)
    | _, _, _ => true
  | .slice t x lo hi mx => match ev e x, evo e lo, evo e hi, evo e mx with
    | some v, some lo, some hi, some mx => qsliceB P t v lo hi mx
    | _, _, _, _ => true
  | .sliceToArrayPointer t x => match P.underlying t, ev e x with
    | some (.array n _), some (.slice _ m _) => decide (n ≤ m ∧ 0 < m)
    | _, _ => true
  | _ => true
section
variable {P : Program}
theorem qslice_chk {t : TypeId} {x : Value} {lo hi mx : Option Int} {c : Prop} {v : Value} (h : qslice P t x lo hi mx = some (c, v)) (hb : qsliceB P t x lo hi mx = true) : c := by
  unfold qslice at h
  unfold qsliceB at hb
  repeat' split at h
  all_goals first
    | (cases h; done)
    | (cases h; simp_all; done)
    | (cases h; cases mx <;> simp_all)
theorem qp_chk {e : Env} {op : Op} {c : Prop} {v : Value} (h : qp P e op = some (c, v)) (hb : qpB P e op = true) : c := by
  have triv : ∀ {α : Type} {o : Option α} {f : α → Value}, o.map (fun r => (True, f r)) = some (c, v) → c := fun {α o f} e => by
    cases o with
    | none => cases e
    | some r => cases e; trivial
  unfold qp at h
  split at h
  case h_4 =>
    split at h
    · rename_i hx hy
      simp only [qpB, hx, hy] at hb
      exact qbin_chk h hb
    · cases h
  all_goals skip
  all_goals first
    | exact triv h
    | (simp only [qpB] at hb; repeat' split at h
       all_goals first
         | (cases h; done)
         | (cases h; trivial)
         | (exact triv h)
         | (exact qslice_chk h (by simp_all))
         | (cases h; simp_all; done))
end
end Go.Proofs.YtjopikjefpenkaaDoor
/- The plain machine's conditions, as booleans: what makes and writes. -/
namespace Go.Proofs.YtjopikjefpenkaaDoor
open Go.RowKit
def qmB (P : Program) (e : Env) : Op → Bool
  | .makeSlice t l c => match P.underlying t, ev e l, ev e c with
    | some (.slice el), some (.int _ l), some (.int _ c) => match P.info? el with
      | some i => decide (0 ≤ l ∧ l ≤ c ∧ c ≤ 9223372036854775807 ∧ i.bytes * c ≤ 281474976710656)
      | none => true
    | _, _, _ => true
  | .convert _ _ x => match ev e x with
    | some (.string s) => decide (s.size ≤ 9223372036854775807)
    | _ => true
  | _ => true
def onesB (l : List Value) : Bool := l.all fun v => v.oneCell'
theorem ones_chk {l : List Value} (h : onesB l = true) : ∀ v ∈ l, v.oneCell' = true := fun v hv => List.all_eq_true.1 h v hv
def qappendB (P : Program) (h : List PO) (t : TypeId) (s x : Value) : Bool :=
  match P.underlying t with
  | some (.slice el) => match P.info? el with
    | some i => match qelems h i.size x, vlen s with
      | some (n, new), some m => decide ((m + n) * i.bytes ≤ 140737488355328) && onesB new
      | _, _ => false
    | none => false
  | _ => false
def qbwB (P : Program) (h : List PO) (b : Builtin) (tys : List TypeId) (args : List Value) : Bool :=
  match b, tys, args with
  | .append, [t, _], [s, x] => qappendB P h t s x
  | .copy, [t, _], [d, x] => match P.underlying t, vlen x with
    | some (.slice el), some m => match szOf P el, d with
      | some sz, .slice (some ⟨_, _, _⟩) n _ => match qfirst h sz (min m n) x with
        | some new => onesB new
        | none => true
      | _, _ => true
    | _, _ => true
  | .clear, [t], [_] => match P.underlying t with
    | some (.slice el) => match zOf P el with
      | some z => onesB z.cells.toList
      | none => true
    | _ => true
  | _, _, _ => true
section
variable {P : Program}
theorem qm_chk {e : Env} {h : List PO} {op : Op} {c : Prop} {v : Value} {ns : List PO} (k : qm P e h op = some (c, v, ns)) (hb : qmB P e op = true) : c := by
  have triv : ∀ {α : Type} {o : Option α} {f : α → Value}, o.map (fun r => (True, f r, ([] : List PO))) = some (c, v, ns) → c := fun {α o f} e => by
    cases o with
    | none => cases e
    | some r => cases e; trivial
  unfold qm at k
  repeat' split at k
  all_goals first
    | (cases k; done)
    | (cases k; trivial)
    | (exact triv k)
    | (cases k; simp_all [qmB]; done)
theorem qappend_chk {h : List PO} {t tx : TypeId} {s x : Value} {c : Prop} {v : Value} {h' : List PO} (k : qappend P h t tx s x = some (c, v, h')) (hb : qappendB P h t s x = true) : c := by
  unfold qappend at k
  unfold qappendB at hb
  split at k
  · rename_i el e1 e2
    rw [e1] at hb
    simp only [] at hb
    split at k
    · rename_i i e3
      rw [e3] at hb
      simp only [] at hb
      split at k
      · rename_i z n new e4 e5
        rw [e5] at hb
        split at hb
        · rename_i n' new' m' e6 e7
          cases e6
          rw [Bool.and_eq_true, decide_eq_true_eq] at hb
          obtain ⟨hb1, hb2⟩ := hb
          have hb3 := ones_chk hb2
          split at k
          · split at k
            · cases e7
              split at k
              · cases k; trivial
              · cases k; simpa using hb1
            · cases e7
              split at k
              · split at k
                · cases k; exact ⟨hb1, hb3⟩
                · cases k
              · cases k
            · cases e7
              split at k
              · obtain ⟨h1, e8, e9⟩ := Option.map_eq_some_iff.1 k
                cases e9; exact hb3
              · split at k
                · split at k
                  · cases k; exact hb1
                  · cases k
                · cases k
            · cases k
          · cases k
        · cases hb
      · cases k
    · cases k
  · cases k
theorem qbw_chk {h : List PO} {b : Builtin} {tys : List TypeId} {args : List Value} {c : Prop} {v : Value} {h' : List PO} (k : qbw P h b tys args = some (c, v, h')) (hb : qbwB P h b tys args = true) : c := by
  unfold qbw at k
  split at k
  · exact qappend_chk k hb
  · split at k
    · rename_i el m e1 e2
      simp only [qbwB, e1, e2] at hb
      split at k
      · cases k; trivial
      · rename_i sz bb o q n q2 e3
        simp only [e3] at hb
        split at k
        · rename_i new e4
          simp only [e4] at hb
          obtain ⟨h1, e8, e9⟩ := Option.map_eq_some_iff.1 k
          cases e9; exact ones_chk hb
        · cases k
      · cases k
    · cases k
  · split at k
    · cases k; trivial
    · rename_i el bb o q n q2 e1
      simp only [qbwB, e1] at hb
      split at k
      · rename_i z e2
        simp only [e2] at hb
        split at k
        · obtain ⟨h1, e8, e9⟩ := Option.map_eq_some_iff.1 k
          cases e9; exact ones_chk hb
        · cases k
      · cases k
    · cases k
  · cases k
end
end Go.Proofs.YtjopikjefpenkaaDoor
/- A call that may only read: run in a frozen memory. -/
namespace Go.Proofs.YtjopikjefpenkaaDoor
open Go.RowKit
variable [Inv]
def PO.frz : PO → PO
  | .rw cs | .gr cs | .ro cs => .ro cs
  | _ => .dead
theorem PO.frz_own (o : PO) : o.frz.own = false := by cases o <;> rfl
theorem PO.frz_live {o : PO} (h : o.frz.live = true) : o.live = true := by cases o <;> first | rfl | cases h
section
variable {P : Program} {τ : Tau}
theorem OR.frz {p : Pl} {w : World} {o : PO} (h : OR τ p w o) : OR τ p w o.frz := by
  cases o with
  | ro cs => exact h
  | rw cs => exact fun i v hi => OR.cell h rfl hi
  | gr cs => exact fun i v hi => OR.cell h rfl hi
  | _ => trivial
theorem RH.frz {h : List PO} {w : World} (k : RH τ h w) : RH τ (h.map PO.frz) w := by
  refine ⟨fun b p hb => ?_, fun b c p q o o' _ _ _ h1 h2 _ _ => ?_⟩
  · obtain ⟨o, h1, h2, h3⟩ := k.ob b p hb
    exact ⟨o.frz, by simp [h1], h2.frz, fun x => h3 (PO.frz_live x)⟩
  · rw [List.getElem?_map] at h1
    obtain ⟨o1, _, rfl⟩ := Option.map_eq_some_iff.1 h1
    rw [PO.frz_own] at h2; cases h2
theorem wset_frz {h : List PO} {k : Nat} : ¬ wset τ (h.map PO.frz) k := fun ⟨b, p, o, _, h1, h2, _⟩ => by
  rw [List.getElem?_map] at h1
  obtain ⟨o1, _, rfl⟩ := Option.map_eq_some_iff.1 h1
  rw [PO.frz_own] at h2; cases h2
end
/-- Only such handles. -/
def newV (g : Nat → Bool) : Nat → Value → Bool
  | 0, _ => false
  | d + 1, v => match v with
    | .bool _ | .int _ _ | .string _ | .pointer none | .slice none 0 0 | .map none | .nilFunc | .nilIface => true
    | .pointer (some ⟨b, _, none⟩) => g b
    | .slice (some ⟨b, _, _⟩) _ _ => g b
    | .map (some b) => g b
    | .iface _ x => newV g d x
    | .agg cs | .tuple cs => cs.toList.all (newV g d)
    | .func f a b => !isY f && (a.toList.all (newV g d) && b.toList.all (newV g d))
    | _ => false
def newO (g : Nat → Bool) (d : Nat) : PO → Bool
  | .dead => true
  | .ro cs | .rw cs | .gr cs => cs.all (newV g d)
  | .mp es => es.all fun x => newV g d x.2
  | .si _ _ => true
  | .lp _ _ => false
def fromN (g : Nat → Bool) (b : Nat) : Option Nat := if g b then some b else none
theorem newV_RN {m : Nat → Bool} : ∀ {n : Nat} {v : Value}, newV m n v = true → RN (fromN m) v v
  | 0, _, h => by simp [newV] at h
  | n + 1, v, h => by
    have key : ∀ {cs : Array Value}, cs.toList.all (newV m n) = true → ∀ (i : Nat) v v', cs[i]? = some v → cs[i]? = some v' → RN (fromN m) v v' := fun hc i v v' h1 h2 => by
      rw [h1] at h2; cases h2
      exact newV_RN (List.all_eq_true.1 hc _ (mem_of_getElem?' h1))
    have f : ∀ {b}, m b = true → fromN m b = some b := fun {b} hb => by simp only [fromN, hb, if_true]
    unfold newV at h
    split at h
    · exact .bool _
    · exact .int _ _
    · exact .str _
    · exact .pnil
    · exact .snil
    · exact .mnil
    · exact .fnil
    · exact .inil
    · exact .ptr _ (f h)
    · exact .sl _ _ _ _ (f h)
    · exact .map (f h)
    · exact .iface _ (newV_RN h)
    · exact .agg rfl (key h)
    · exact .tuple rfl (key h)
    · simp only [Bool.and_eq_true, Bool.not_eq_true'] at h; exact .func _ h.1 rfl rfl (key h.2.1) (key h.2.2)
    · cases h
theorem newO_ORN {m : Nat → Bool} {n : Nat} {o : PO} (h : newO m n o = true) : ORN (fromN m) o o := by
  have key : ∀ {cs : List Value}, cs.all (newV m n) = true → RNs (fromN m) cs cs := fun {cs} hc => ⟨rfl, fun i v v' h1 h2 => by
    rw [h1] at h2; cases h2
    exact newV_RN (List.all_eq_true.1 hc _ (List.mem_of_getElem? h1))⟩
  cases o with
  | dead => trivial
  | ro cs => exact key h
  | rw cs => exact key h
  | gr cs => exact key h
  | mp es => exact ⟨rfl, fun i x y h1 h2 => by
      rw [h1] at h2; cases h2
      exact ⟨rfl, newV_RN (List.all_eq_true.1 h _ (List.mem_of_getElem? h1))⟩⟩
  | si s i => exact ⟨rfl, rfl⟩
  | lp r e => cases h
def freshG (n : Nat) (h : List PO) (b : Nat) : Bool := decide (n ≤ b) && match h[b]? with | some o => o.own | none => false
def newAll (n d : Nat) (v : Value) (h : List PO) : Bool := newV (freshG n h) d v && (h.drop n).all fun o => !o.own || newO (freshG n h) d o
theorem PC.quiet {P : Program} {f : FuncId} {args : List Value} {h : List PO} {v : Value} {h1 : List PO} {d : Nat} (q : PC P f args (h.map PO.frz) (fun v' h' => v' = v ∧ h' = h1) fun _ _ => False) (hn : newAll h.length d v h1 = true) :
    PCq P f args h fun v' ns' => v' = v ∧ ns' = h1.drop h.length := by
  refine ⟨q.1, fun τ w args' hk hj ha => ?_⟩
  refine (q.2 τ w args' hk.frz (hj.sub fun k hk => (wset_frz hk).elim) ha).mono fun e w' hp => ?_
  obtain ⟨h', τ', v0, v', g, hv, hd⟩ := hp
  rcases hd with ⟨rfl, rfl, rfl⟩ | ⟨_, hf⟩
  case inr => exact hf.elim
  have hfr : Fr (fun _ => False) w w' := g.fr.mono fun k _ hk => (wset_frz hk).elim
  simp only [newAll, Bool.and_eq_true] at hn
  let G := freshG h.length h'
  have hG : ∀ b, G b = true → h.length ≤ b ∧ ∃ o, h'[b]? = some o ∧ o.own = true := fun b hb => by
    simp only [G, freshG, Bool.and_eq_true, decide_eq_true_eq] at hb
    obtain ⟨h1, h2⟩ := hb
    split at h2
    · rename_i o ho; exact ⟨h1, o, ho, h2⟩
    · cases h2
  let σ : Tau := fun b => if b < h.length then τ b else if G b then τ' b else none
  have hσ1 : ∀ b, b < h.length → σ b = τ b := fun b hb => by simp only [σ, hb, if_true]
  have hσ2 : ∀ b p, h.length ≤ b → σ b = some p → G b = true ∧ τ' b = some p := fun b p hb h2 => by
    simp only [σ, Nat.not_lt.2 hb, if_false] at h2
    split at h2
    · rename_i hg; exact ⟨hg, h2⟩
    · cases h2
  have hle : τ.le σ := fun b p hb => by rw [hσ1 b (hk.lt hb)]; exact hb
  have hren : (τ'.ren (fromN G)).le σ := fun b p hb => by
    unfold Tau.ren fromN at hb
    split at hb
    · rename_i hb2
      have := (hG b hb2).1
      simp only [σ, Nat.not_lt.2 this, if_false, hb2, if_true]; exact hb
    · cases hb
  have hblk : ∀ b p, h.length ≤ b → σ b = some p → w.heap.size ≤ p.base.block := fun b p hb h2 => by
    obtain ⟨h3, h4⟩ := hσ2 b p hb h2
    obtain ⟨_, o, h5, h6⟩ := hG b h3
    rcases g.ws p.base.block ⟨b, p, o, h4, h5, h6, rfl⟩ with h7 | h7
    · exact (wset_frz h7).elim
    · exact h7
  have hold : ∀ b, b < h.length → (h ++ h'.drop h.length)[b]? = h[b]? := fun b hb => by rw [List.getElem?_append_left hb]
  have hnew : ∀ b o, h.length ≤ b → h'[b]? = some o → (h ++ h'.drop h.length)[b]? = some o := fun b o hb ho => by
    rw [List.getElem?_append_right hb, List.getElem?_drop, show h.length + (b - h.length) = b by omega]; exact ho
  have hk' := hk.fr hfr
  have hlt0 : ∀ b p o, b < h.length → τ b = some p → h[b]? = some o → o.live = true → p.base.block < w.heap.size := fun b p o _ h2 h3 h4 => by
    obtain ⟨o1, k1, _, k3⟩ := hk.ob b p h2
    rw [h3] at k1; cases k1; exact k3 h4
  refine ⟨h'.drop h.length, σ, v0, v', ⟨hle, fun b p hb => ?_, ⟨fun b p hb => ?_, fun b c p q o o' hne hb hc h1 h2 h3 h4 => ?_⟩, hfr⟩, (RN.comp (newV_RN hn.1) hv).mono hren, rfl, rfl, rfl⟩
  · by_cases hlt : b < h.length
    · rw [hσ1 b hlt] at hb; exact .inl hb
    · exact .inr ⟨by omega, hblk b p (by omega) hb⟩
  · by_cases hlt : b < h.length
    · rw [hσ1 b hlt] at hb
      obtain ⟨o, k1, k2, k3⟩ := hk'.ob b p hb
      exact ⟨o, by rw [hold b hlt]; exact k1, k2.mono hle, k3⟩
    · obtain ⟨h3, h4⟩ := hσ2 b p (by omega) hb
      obtain ⟨h5, o, h6, h7⟩ := hG b h3
      obtain ⟨o1, k1, k2, k3⟩ := g.rh.ob b p h4
      rw [h6] at k1; cases k1
      have h8 := List.all_eq_true.1 hn.2 o (by
        have : (h'.drop h.length)[b - h.length]? = some o := by rw [List.getElem?_drop, show h.length + (b - h.length) = b by omega]; exact h6
        exact List.mem_of_getElem? this)
      rw [h7, Bool.not_true, Bool.false_or] at h8
      exact ⟨o, hnew b o h5 h6, (ORN.comp (newO_ORN h8) k2).mono hren, k3⟩
  · by_cases hb1 : b < h.length
    · rw [hσ1 b hb1] at hb
      rw [hold b hb1] at h1
      by_cases hc1 : c < h.length
      · rw [hσ1 c hc1] at hc
        rw [hold c hc1] at h3
        exact hk.inj b c p q o o' hne hb hc h1 h2 h3 h4
      · have := hblk c q (by omega) hc
        have := hlt0 b p o hb1 hb h1 (by cases o <;> first | rfl | cases h2)
        omega
    · have k1 := hblk b p (by omega) hb
      by_cases hc1 : c < h.length
      · rw [hσ1 c hc1] at hc
        rw [hold c hc1] at h3
        have := hlt0 c q o' hc1 hc h3 h4
        omega
      · obtain ⟨q1, q2⟩ := hσ2 b p (by omega) hb
        obtain ⟨q3, q4⟩ := hσ2 c q (by omega) hc
        obtain ⟨_, ob, q5, q6⟩ := hG b q1
        obtain ⟨_, oc, q7, q8⟩ := hG c q3
        exact g.rh.inj b c p q ob oc hne q2 q4 q5 q6 q7 (by cases oc <;> first | rfl | cases q8)
end Go.Proofs.YtjopikjefpenkaaDoor
/- The plain machine as a program: it runs. -/
namespace Go.Proofs.YtjopikjefpenkaaDoor
open Go.RowKit
variable [Inv]
/-- How a call ends: with a value, or with a panic. -/
inductive Re where
  | val (v : Value) (h : List PO)
  | pan (v : Value) (h : List PO)
abbrev Cl := FuncId → List Value → List PO → Option Re
def Re.K (K Kp : Value → List PO → Prop) : Re → Prop
  | .val v h => K v h
  | .pan v h => Kp v h
def ClOk (P : Program) (cl : Cl) : Prop := ∀ f args h r, cl f args h = some r → PC P f args h (fun v h' => r = .val v h') fun v h' => r = .pan v h'
def eop (P : Program) (cl : Cl) (o : Op) (e : Env) (h : List PO) : Option Re :=
  match o with
  | .store t a x => match ev e a, ev e x, szOf P t with
    | some (.pointer (some ⟨b, o, none⟩)), some v, some n => match hput h b o v.cells.toList with
      | some h' => if v.cells.size = n ∧ onesB v.cells.toList = true then some (.val undef h') else none
      | none => none
    | _, _, _ => none
  | .panic x => match ev e x with
    | some (.iface t v) => some (.pan (.iface t v) h)
    | _ => none
  | .call { callee := .value f, args, argTypes := _ } => match ev e f, evs e args.toList with
    | some (.func (.func f) first cap), some as => cl f (first.toList ++ as ++ cap.toList) h
    | _, _ => none
  | .call { callee := .builtin b, args, argTypes } => match qp P e (.call { callee := .builtin b, args, argTypes }) with
    | some (_, v) => if qpB P e (.call { callee := .builtin b, args, argTypes }) then some (.val v h) else none
    | none => match evs e args.toList with
      | some as => match qbw P h b argTypes.toList as with
        | some (_, v, h') => if qbwB P h b argTypes.toList as then some (.val v h') else none
        | none => none
      | none => none
  | op => match qp P e op with
    | some (_, v) => if qpB P e op then some (.val v h) else none
    | none => match qm P e h op with
      | some (_, v, ns) => if qmB P e op then some (.val v (h ++ ns)) else none
      | none => match qw P e h op with
        | some (_, v, h') => some (.val v h')
        | none => none
section
variable {P : Program} {cl : Cl}
theorem eop_sound (hc : ClOk P cl) {o : Op} {e : Env} {h : List PO} {r : Re} {K Kp : Value → List PO → Prop} (k : eop P cl o e h = some r) (hK : r.K K Kp) : pop P o e h K Kp := by
  unfold eop at k
  unfold pop
  split at k
  · split at k
    · rename_i e1 e2 e3
      simp only [e1, e2, e3]
      split at k
      · rename_i h' e4
        split at k
        · rename_i e5
          cases k
          simp only [e4]
          exact ⟨e5.1, ones_chk e5.2, hK⟩
        · cases k
      · cases k
    · cases k
  · split at k
    · rename_i e1
      cases k
      simp only [e1]; exact hK
    · cases k
  · split at k
    · rename_i e1 e2
      simp only [e1, e2]
      exact (hc _ _ _ _ k).mono (fun v h x => by subst x; exact hK) (fun v h x => by subst x; exact hK)
    · cases k
  · split at k
    · rename_i c v e1
      split at k
      · rename_i e2
        cases k
        simp only [e1]; exact ⟨qp_chk e1 e2, hK⟩
      · cases k
    · rename_i e1
      split at k
      · rename_i as e2
        split at k
        · rename_i c v h' e3
          split at k
          · rename_i e4
            cases k
            simp only [e1, e2, e3]
            exact ⟨qbw_chk e3 e4, hK⟩
          · cases k
        · cases k
      · cases k
  · split
    iterate 4 (· exfalso; simp_all)
    · split at k
      · rename_i c v e1
        split at k
        · rename_i e2
          cases k
          simp only [e1]; exact ⟨qp_chk e1 e2, hK⟩
        · cases k
      · rename_i e1
        split at k
        · rename_i c v ns e3
          split at k
          · rename_i e4
            cases k
            simp only [e1, e3]
            exact ⟨qm_chk e3 e4, hK⟩
          · cases k
        · rename_i e3
          split at k
          · rename_i c v h' e4
            cases k
            simp only [e1, e3, e4]; exact hK
          · cases k
end
/-- How a region ends. -/
inductive Rr where
  | norm (e : Env) (h : List PO)
  | pan (v : Value) (h : List PO)
def Rr.K (K : Env → List PO → Prop) (Kp : Value → List PO → Prop) : Rr → Prop
  | .norm e h => K e h
  | .pan v h => Kp v h
def eops (P : Program) (cl : Cl) (ops : Array Oper) : List Oper → Env → List PO → Option Rr
  | [], e, h => some (.norm e h)
  | o :: os, e, h => match o.guard with
    | none => match eop P cl o.op e h with
      | some (.val v h') => eops P cl ops os (e.putO o.dst v) h'
      | some (.pan v h') => some (.pan v h')
      | none => none
    | some (j, want) => match (ops[j]?).bind (·.dst) with
      | some d => match e.get d with
        | some (.bool b) => if b = want then match eop P cl o.op e h with
            | some (.val v h') => eops P cl ops os (e.putO o.dst v) h'
            | some (.pan v h') => some (.pan v h')
            | none => none
          else eops P cl ops os (e.putO o.dst undef) h
        | some (.tuple _) => eops P cl ops os (e.putO o.dst undef) h
        | _ => none
      | none => none
section
variable {P : Program} {cl : Cl}
theorem eops_sound (hc : ClOk P cl) {ops : Array Oper} {K : Env → List PO → Prop} {Kp : Value → List PO → Prop} : ∀ {os : List Oper} {e : Env} {h : List PO} {r : Rr}, eops P cl ops os e h = some r → r.K K Kp → pops P ops K Kp os e h
  | [], e, h, r, k, hK => by cases k; exact hK
  | o :: os, e, h, r, k, hK => by
    have one : (match eop P cl o.op e h with
      | some (.val v h') => eops P cl ops os (e.putO o.dst v) h'
      | some (.pan v h') => some (.pan v h')
      | none => none) = some r → pop P o.op e h (fun v h' => pops P ops K Kp os (e.putO o.dst v) h') Kp := fun k => by
      split at k
      · rename_i v h' e1
        exact eop_sound hc e1 (eops_sound hc k hK)
      · rename_i v h' e1
        cases k
        exact eop_sound hc e1 hK
      · cases k
    unfold eops at k
    unfold pops
    split at k
    · rename_i e0
      simp only [e0]; exact one k
    · rename_i j want e0
      simp only [e0]
      split at k
      · rename_i d e1
        simp only [e1]
        split at k
        · rename_i b e2
          simp only [e2]
          split at k
          · rename_i e3; exact ⟨fun _ => one k, fun n => (n e3).elim⟩
          · rename_i e3; exact ⟨fun n => (e3 n).elim, fun _ => eops_sound hc k hK⟩
        · rename_i e2
          simp only [e2]
          exact eops_sound hc k hK
        · cases k
      · cases k
end
end Go.Proofs.YtjopikjefpenkaaDoor
/- The plain machine as a program: regions whose order is drawn, code, calls. -/
namespace Go.Proofs.YtjopikjefpenkaaDoor
open Go.RowKit
variable [Inv]
def edop (P : Program) (cl : Cl) (o : Op) (e : Env) (h : List PO) : Option DR :=
  match o with
  | .store t a x => match ev e a, ev e x, szOf P t with
    | some (.pointer (some ⟨b, o, none⟩)), some v, some n => if v.cells.size = n ∧ onesB v.cells.toList = true then some (.wr b o v.cells.toList) else none
    | _, _, _ => none
  | .call { callee := .value f, args, argTypes := _ } => match ev e f, evs e args.toList with
    | some (.func (.func f) first cap), some as => match cl f (first.toList ++ as ++ cap.toList) (h.map PO.frz) with
      | some (.val v h') => if newAll h.length 6 v h' then some (.val v (h'.drop h.length)) else none
      | _ => none
    | _, _ => none
  | op => match qp P e op with
    | some (_, v) => if qpB P e op then some (.val v []) else none
    | none => match qm P e h op with
      | some (_, v, ns) => if qmB P e op then some (.val v ns) else none
      | none => none
def epd (P : Program) (cl : Cl) (ops : Array Oper) : List Oper → Env → List PO → List (Nat × Nat × List Value) → Option (Env × List PO × List (Nat × Nat × List Value))
  | [], e, h, ws => some (e, h, ws)
  | o :: os, e, h, ws => match o.guard with
    | none => match edop P cl o.op e h with
      | some r => epd P cl ops os (e.putO o.dst r.v) (h ++ r.ns) (ws ++ r.ws)
      | none => none
    | some (j, want) => match (ops[j]?).bind (·.dst) with
      | some d => match e.get d with
        | some (.bool b) => if b = want then match edop P cl o.op e h with
            | some r => epd P cl ops os (e.putO o.dst r.v) (h ++ r.ns) (ws ++ r.ws)
            | none => none
          else epd P cl ops os (e.putO o.dst undef) h ws
        | some (.tuple _) => epd P cl ops os (e.putO o.dst undef) h ws
        | _ => none
      | none => none
def apartB : Option Nat → Option (Option Nat) → Bool
  | some b, some (some b') => !(b == b')
  | some _, some none => false
  | _, _ => true
def edraw (P : Program) (cl : Cl) (ops : Array Oper) (e : Env) (h : List PO) : Option (Env × List PO) :=
  match epd P cl ops ops.toList e h [] with
  | some (e', h', ws) => if (drawPairs ops).all (fun p => apartB ((ops[p.1]?).bind fun o => wblk e' o.op) ((ops[p.2]?).bind fun o => rblk P e' o.op)) then (happly h' ws).map fun h2 => (e', h2) else none
  | none => none
section
variable {P : Program} {cl : Cl}
theorem edop_sound (hc : ClOk P cl) {o : Op} {e : Env} {h : List PO} {r : DR} {K : DR → Prop} (k : edop P cl o e h = some r) (hK : K r) : dop P o e h K := by
  unfold edop at k
  unfold dop
  split at k
  · split at k
    · rename_i e1 e2 e3
      simp only [e1, e2, e3]
      split at k
      · rename_i e5
        cases k
        exact ⟨e5.1, ones_chk e5.2, hK⟩
      · cases k
    · cases k
  · split at k
    · rename_i e1 e2
      simp only [e1, e2]
      split at k
      · rename_i v h' e3
        split at k
        · rename_i e4
          cases k
          exact ⟨v, h'.drop h.length, ((hc _ _ _ _ e3).mono (fun v2 h2 x => by cases x; exact ⟨rfl, rfl⟩) (fun v2 h2 x => by cases x)).quiet e4, hK⟩
        · cases k
      · cases k
    · cases k
  · split
    iterate 2 (· exfalso; simp_all)
    · split at k
      · rename_i c v e1
        split at k
        · rename_i e2
          cases k
          simp only [e1]; exact ⟨qp_chk e1 e2, hK⟩
        · cases k
      · rename_i e1
        split at k
        · rename_i c v ns e3
          split at k
          · rename_i e4
            cases k
            simp only [e1, e3]
            exact ⟨qm_chk e3 e4, hK⟩
          · cases k
        · cases k
theorem epd_sound (hc : ClOk P cl) {ops : Array Oper} {K : Env → List PO → List (Nat × Nat × List Value) → Prop} : ∀ {os : List Oper} {e : Env} {h : List PO} {ws : List (Nat × Nat × List Value)} {r : Env × List PO × List (Nat × Nat × List Value)}, epd P cl ops os e h ws = some r → K r.1 r.2.1 r.2.2 → pd P ops K os e h ws
  | [], e, h, ws, r, k, hK => by cases k; exact hK
  | o :: os, e, h, ws, r, k, hK => by
    have one : (match edop P cl o.op e h with
      | some r => epd P cl ops os (e.putO o.dst r.v) (h ++ r.ns) (ws ++ r.ws)
      | none => none) = some r → dop P o.op e h fun r => pd P ops K os (e.putO o.dst r.v) (h ++ r.ns) (ws ++ r.ws) := fun k => by
      split at k
      · rename_i r1 e1
        exact edop_sound hc e1 (epd_sound hc k hK)
      · cases k
    unfold epd at k
    unfold pd
    split at k
    · rename_i e0
      simp only [e0]; exact one k
    · rename_i j want e0
      simp only [e0]
      split at k
      · rename_i d e1
        simp only [e1]
        split at k
        · rename_i b e2
          simp only [e2]
          split at k
          · rename_i e3; exact ⟨fun _ => one k, fun n => (n e3).elim⟩
          · rename_i e3; exact ⟨fun n => (e3 n).elim, fun _ => epd_sound hc k hK⟩
        · rename_i e2
          simp only [e2]
          exact epd_sound hc k hK
        · cases k
      · cases k
theorem apartB_sound {a : Option Nat} {b : Option (Option Nat)} (h : apartB a b = true) : apart1 a b := by
  match a, b, h with
  | some b, some (some b'), h => simpa [apartB, apart1] using h
  | none, _, _ => trivial
  | some _, none, _ => trivial
theorem edraw_sound (hc : ClOk P cl) {ops : Array Oper} {e : Env} {h : List PO} {r : Env × List PO} {K : Env → List PO → Prop} (k : edraw P cl ops e h = some r) (hK : K r.1 r.2) : pdraw P ops e h K := by
  unfold edraw at k
  split at k
  · rename_i e' h' ws e1
    split at k
    · rename_i e2
      obtain ⟨h2, e3, rfl⟩ := Option.map_eq_some_iff.1 k
      exact ⟨_, rfl, epd_sound hc e1 ⟨fun p hp => apartB_sound (List.all_eq_true.1 e2 p hp), by simp only [e3]; exact hK⟩⟩
    · cases k
  · cases k
end
def iter (f : St → Option (PX × St)) : Nat → St → Option (PX × St)
  | 0, _ => none
  | n + 1, s => match f s with
    | some (.normal, s') => iter f n s'
    | r => r
def ec (P : Program) (cl : Cl) (n : Nat) : Code → St → Option (PX × St)
  | .skip, s => some (.normal, s)
  | .label _, s => some (.normal, s)
  | .exit id, s => some (.exit id, s)
  | .ret, s => some (.ret, s)
  | .region _ ops dr, s => match dr with
    | false => match eops P cl ops ops.toList s.e s.h with
      | some (.norm e h) => some (.normal, ⟨e, h⟩)
      | some (.pan v h) => some (.pan v, ⟨[], h⟩)
      | none => none
    | true => match edraw P cl ops s.e s.h with
      | some r => some (.normal, ⟨r.1, r.2⟩)
      | none => none
  | .seq a b, s => match ec P cl n a s with
    | some (.normal, s') => ec P cl n b s'
    | r => r
  | .cond c a b, s => match ev s.e c with
    | some (.bool t) => if t then ec P cl n a s else ec P cl n b s
    | _ => none
  | .block id c, s => match ec P cl n c s with
    | some (.exit i, s') => if i = id then some (.normal, s') else some (.exit i, s')
    | r => r
  | .loop c, s => iter (ec P cl n c) n s
  | .scope c, s => ec P cl n c s
  | _, _ => none
section
variable {P : Program} {cl : Cl} {N : Nat} {hs : List PO}
theorem SW.loop0 {c : Code} {Q : PX → St → Prop} {s : St} (I : Nat → St → Prop) (h0 : ∃ n, I n s) (h : ∀ n s0, I n s0 → SW P N hs c (PX.then (fun s' => ∃ m, m < n ∧ I m s') Q) s0) : SW P N hs (.loop c) Q s := by
  obtain ⟨n, hI⟩ := h0
  refine SW.loop I ⟨n, s, .inl rfl, hI⟩ fun n s0 hI => (h n s0 hI).mono fun x s' k => ?_
  cases x with
  | normal => obtain ⟨m, hlt, hI1⟩ := k; exact ⟨m, s', hlt, .inl rfl, hI1⟩
  | exit i => exact k
  | ret => exact k
  | pan v => exact k
theorem ec_sound (hm : P.follows .mixedOrders = true) (hc : ClOk P cl) {n : Nat} : ∀ (c : Code) {s : St} {r : PX × St} {Q : PX → St → Prop}, ec P cl n c s = some r → Q r.1 r.2 → SW P N hs c Q s
  | .skip, s, r, Q, k, hQ => by cases k; exact SW.of hm .skip Q s hQ
  | .label i, s, r, Q, k, hQ => by cases k; exact SW.of hm (.label i) Q s hQ
  | .exit i, s, r, Q, k, hQ => by cases k; exact SW.of hm (.exit i) Q s hQ
  | .ret, s, r, Q, k, hQ => by cases k; exact SW.of hm .ret Q s hQ
  | .region id ops dr, s, r, Q, k, hQ => by
    unfold ec at k
    cases dr with
    | false =>
      simp only [] at k
      split at k
      · rename_i e1; cases k; exact SW.region (eops_sound hc e1 hQ)
      · rename_i e1; cases k; exact SW.region (eops_sound hc e1 hQ)
      · cases k
    | true =>
      simp only [] at k
      split at k
      · rename_i e1; cases k; exact SW.draw hm (edraw_sound hc e1 hQ)
      · cases k
  | .seq a b, s, r, Q, k, hQ => by
    unfold ec at k
    refine SW.seq ?_
    split at k
    · rename_i s' e1; exact ec_sound hm hc a e1 (ec_sound hm hc b k hQ)
    · rename_i r1 e1
      refine ec_sound hm hc a k ?_
      obtain ⟨x, t⟩ := r
      cases x with
      | normal => exact (e1 _ k).elim
      | _ => exact hQ
  | .cond c a b, s, r, Q, k, hQ => by
    unfold ec at k
    split at k
    · rename_i t e1
      refine SW.cond e1 ?_
      cases t
      · exact ec_sound hm hc b k hQ
      · exact ec_sound hm hc a k hQ
    · cases k
  | .block id c, s, r, Q, k, hQ => by
    unfold ec at k
    refine SW.block ?_
    split at k
    · rename_i i s' e1
      refine ec_sound hm hc c e1 ?_
      simp only [PX.inBlock]
      split at k
      · rename_i hi; cases k; rw [if_pos hi]; exact hQ
      · rename_i hi; cases k; rw [if_neg hi]; exact hQ
    · rename_i r1 e1
      refine ec_sound hm hc c k ?_
      obtain ⟨x, t⟩ := r
      cases x with
      | exit i => exact (e1 _ _ k).elim
      | _ => exact hQ
  | .loop c, s, r, Q, k, hQ => by
    refine SW.loop0 (fun m t => iter (ec P cl n c) m t = some r) ⟨n, k⟩ (fun m t ht => ?_)
    cases m with
    | zero => cases ht
    | succ m =>
      unfold iter at ht
      split at ht
      · rename_i s' e1; exact ec_sound hm hc c e1 ⟨m, Nat.lt_succ_self m, ht⟩
      · rename_i r1 e1
        refine ec_sound hm hc c ht ?_
        obtain ⟨x, t⟩ := r
        cases x with
        | normal => exact (e1 _ ht).elim
        | _ => exact hQ
  | .scope c, s, r, Q, k, hQ => SW.scope (ec_sound hm hc c k hQ)
  | .rangeFunc .., _, _, _, k, _ => by cases k
  | .goto _, _, _, _, k, _ => by cases k
  | .refuse _, _, _, _, k, _ => by cases k
end
/-- Functions that the machine may enter. -/
def okFn (P : Program) (f : FuncId) : Bool := match P.funcs[f]? with
  | some fn => match fn.body with
    | some body => decide (fn.name ≠ "runtime.NumGoroutine") && codeOk fn.ntmps body
    | none => false
  | none => false
/-- Calls, as deep as `d`, with loops of `n` turns; `X` tells what functions come to that are not run. -/
def ef (P : Program) (L : List FuncId) (X : Cl) (n : Nat) : Nat → Cl
  | 0, _, _, _ => none
  | d + 1, f, args, h => if L.contains f then match P.funcs[f]? with
    | some fn => match fn.body with
      | some body => if args.length ≤ fn.ntmps then match ec P (ef P L X n d) n body ⟨argsEnv 0 args, h⟩ with
          | some (.normal, s) | some (.ret, s) => (presults P s fn.results.toList).map fun v => .val v s.h
          | some (.pan v, s) => some (.pan v s.h)
          | _ => none
        else none
      | none => none
    | none => none
    else X f args h
theorem ClOk.nothing {P : Program} : ClOk P fun _ _ _ => none := fun _ _ _ _ k => by cases k
theorem ef_sound {P : Program} (hm : P.follows .mixedOrders = true) {L : List FuncId} (hL : L.all (okFn P) = true) {X : Cl} (hX : ClOk P X) {n : Nat} : ∀ d, ClOk P (ef P L X n d)
  | 0, f, args, h, r, k => by cases k
  | d + 1, f, args, h, r, k => by
    unfold ef at k
    split at k
    case isFalse => exact hX f args h r k
    rename_i hf
    have h1 := List.all_eq_true.1 hL f (List.contains_iff_mem.1 hf)
    unfold okFn at h1
    split at k
    · rename_i fn e1
      rw [e1] at h1
      simp only [] at h1
      split at k
      · rename_i body e2
        rw [e2] at h1
        simp only [Bool.and_eq_true, decide_eq_true_eq] at h1
        split at k
        · rename_i hl
          refine pc_of e1 e2 h1.1 h1.2 hl ?_
          have ret : ∀ s, (presults P s fn.results.toList).map (fun v => Re.val v s.h) = some r → ∀ x, x = .normal ∨ x = .ret → Qret P fn.results.toList (fun v h' => r = .val v h') (fun v h' => r = .pan v h') x s := fun s k x hx => by
            obtain ⟨v, e3, e4⟩ := Option.map_eq_some_iff.1 k
            rcases hx with rfl | rfl <;> simp only [Qret, e3] <;> exact e4.symm
          split at k
          · rename_i s e3; exact ec_sound hm (ef_sound hm hL hX d) body e3 (ret s k _ (.inl rfl))
          · rename_i s e3; exact ec_sound hm (ef_sound hm hL hX d) body e3 (ret s k _ (.inr rfl))
          · rename_i v s e3; cases k; exact ec_sound hm (ef_sound hm hL hX d) body e3 rfl
          · cases k
        · cases k
      · cases k
    · cases k
end Go.Proofs.YtjopikjefpenkaaDoor
/- A call in a small memory is one in a large memory. -/
namespace Go.Proofs.YtjopikjefpenkaaDoor
open Go.RowKit
variable [Inv]
/-- The small memory's handles lie at `l` in the large one. -/
structure Fit (l : List Nat) (h0 h : List PO) : Prop where
  nodup : l.Nodup
  obj : ∀ (b c : Nat), l[b]? = some c → ∃ o0 o, h0[b]? = some o0 ∧ h[c]? = some o ∧ ORN (fun b => l[b]?) o0 o
/-- Which of the small memory's handles one of the large memory is, behind the call: `ks` are the new ones that are kept. -/
def rho (l : List Nat) (n : Nat) (ks : List Nat) (c : Nat) : Option Nat :=
  if n ≤ c then ks[c - n]? else (List.range l.length).find? fun b => l[b]? == some c
/-- The large memory behind the call. -/
structure Out (l ks : List Nat) (n0 : Nat) (h h' h0' : List PO) : Prop where
  nodup : ks.Nodup
  len : h'.length = h.length + ks.length
  same : ∀ c, c < h.length → c ∉ l → h'[c]? = h[c]?
  obj : ∀ (b c : Nat), l[b]? = some c → ∃ o o0 o1, h'[c]? = some o ∧ h0'[b]? = some o0 ∧ ORN (rho l h.length ks) o o0 ∧ h[c]? = some o1 ∧ (o.live = true → o1.live = true)
  new : ∀ (j b : Nat), ks[j]? = some b → n0 ≤ b ∧ ∃ o o0, h'[h.length + j]? = some o ∧ h0'[b]? = some o0 ∧ ORN (rho l h.length ks) o o0 ∧ (o.live = true → o.own = true)
theorem rho_some {l ks : List Nat} {n c b : Nat} (h : rho l n ks c = some b) : (c < n ∧ l[b]? = some c) ∨ (n ≤ c ∧ ks[c - n]? = some b) := by
  unfold rho at h
  split at h
  · rename_i hc; exact .inr ⟨hc, h⟩
  · rename_i hc
    have := List.find?_some h
    exact .inl ⟨by omega, by simpa using this⟩
theorem rho_none {l ks : List Nat} {n c : Nat} (h : rho l n ks c = none) (hc : c < n) : c ∉ l := by
  unfold rho at h
  rw [if_neg (by omega)] at h
  intro hm
  obtain ⟨i, hi, e⟩ := List.getElem_of_mem hm
  have := List.find?_eq_none.1 h i (by simpa using hi)
  simp [List.getElem?_eq_getElem hi, e] at this
theorem rho_at {l ks : List Nat} {n c b : Nat} (hl : l.Nodup) (hc : c < n) (h : l[b]? = some c) : rho l n ks c = some b := by
  cases e : rho l n ks c with
  | none => exact (rho_none e hc (List.mem_of_getElem? h)).elim
  | some b' =>
    rcases rho_some e with ⟨_, h2⟩ | ⟨h2, _⟩
    · obtain ⟨i1, e1⟩ := List.getElem?_eq_some_iff.1 h
      obtain ⟨i2, e2⟩ := List.getElem?_eq_some_iff.1 h2
      rw [(List.getElem_inj hl).1 (e1.trans e2.symm)]
    · omega
theorem PO.own_live {o : PO} (h : o.own = true) : o.live = true := by cases o <;> first | rfl | cases h
section
variable {P : Program} {τ : Tau}
theorem Fit.small {l : List Nat} {h0 h : List PO} (hf : Fit l h0 h) {w : World} (hk : RH τ h w) : RH (τ.ren fun b => l[b]?) h0 w := by
  have inv : ∀ b p, τ.ren (fun b => l[b]?) b = some p → ∃ c, l[b]? = some c ∧ τ c = some p := fun b p hb => Option.bind_eq_some_iff.1 hb
  refine ⟨fun b p hb => ?_, fun b c p q o o' hne hb hc h1 h2 h3 h4 => ?_⟩
  · obtain ⟨c, hc, hp⟩ := inv b p hb
    obtain ⟨o0, o, h1, h2, h3⟩ := hf.obj b c hc
    obtain ⟨o2, k1, k2, k3⟩ := hk.ob c p hp
    rw [h2] at k1; cases k1
    exact ⟨o0, h1, h3.comp k2, fun x => k3 (h3.own.2 x)⟩
  · obtain ⟨b', hb1, hp⟩ := inv b p hb
    obtain ⟨c', hc1, hq⟩ := inv c q hc
    obtain ⟨o0, o2, g1, g2, g3⟩ := hf.obj b b' hb1
    obtain ⟨o0', o2', g4, g5, g6⟩ := hf.obj c c' hc1
    rw [h1] at g1; cases g1
    rw [h3] at g4; cases g4
    refine hk.inj b' c' p q o2 o2' (fun e => hne ?_) hp hq g2 (g3.own.1 h2) g5 (g6.own.2 h4)
    subst e
    obtain ⟨i1, e1⟩ := List.getElem?_eq_some_iff.1 hb1
    obtain ⟨i2, e2⟩ := List.getElem?_eq_some_iff.1 hc1
    exact (List.getElem_inj hf.nodup).1 (e1.trans e2.symm)
theorem Fit.wset {l : List Nat} {h0 h : List PO} (hf : Fit l h0 h) {k : Nat} (hw : wset (τ.ren fun b => l[b]?) h0 k) : Go.Proofs.YtjopikjefpenkaaDoor.wset τ h k := by
  obtain ⟨b, p, o, h1, h2, h3, h4⟩ := hw
  obtain ⟨c, h5, h6⟩ := Option.bind_eq_some_iff.1 h1
  obtain ⟨o0, o2, g1, g2, g3⟩ := hf.obj b c h5
  rw [h2] at g1; cases g1
  exact ⟨c, p, o2, h6, g2, g3.own.1 h3, h4⟩
theorem RNs.vrs {ρ : Nat → Option Nat} {a b : List Value} (h : RNs ρ a b) {c : Array Value} (k : VRs τ b.toArray c) : VRs (τ.ren ρ) a.toArray c := by
  refine ⟨by have := k.1; have := h.1; simp at *; omega, fun i v v' h1 h2 => ?_⟩
  obtain ⟨v2, e1, e2⟩ := RNs.comp (τ := τ) h (by simpa using h1)
  exact e2 (k.2 i v2 v' (by simpa using e1) h2)
theorem Out.gr {l ks : List Nat} {h0 h h0' h' : List PO} (hf : Fit l h0 h) (ho : Out l ks h0.length h h' h0') {w w' : World} {τ0' : Tau} (hk : RH τ h w) (g : Gr (τ.ren fun b => l[b]?) h0 w τ0' h0' w') :
    ∃ τf, Gr τ h w τf h' w' ∧ (τ0'.ren (rho l h.length ks)).le τf := by
  let ρ := rho l h.length ks
  let τf : Tau := fun c => match ρ c with
    | some b => τ0' b
    | none => if c < h.length then τ c else none
  have lt0 : ∀ {b c}, l[b]? = some c → b < h0.length ∧ c < h.length := fun {b c} hb => by
    obtain ⟨o0, o, h1, h2, _⟩ := hf.obj b c hb
    exact ⟨(List.getElem?_eq_some_iff.1 h1).1, (List.getElem?_eq_some_iff.1 h2).1⟩
  have ren0 : ∀ {b p}, (τ.ren fun b => l[b]?) b = some p → ∃ c, l[b]? = some c ∧ τ c = some p := fun {b p} hb => Option.bind_eq_some_iff.1 hb
  have ren1 : ∀ {b c p}, l[b]? = some c → τ c = some p → (τ.ren fun b => l[b]?) b = some p := fun {b c p} h1 h2 => by simp [Tau.ren, h1, h2]
  have some_f : ∀ {c b}, ρ c = some b → τf c = τ0' b := fun {c b} e => by simp only [τf, e]
  have none_f : ∀ {c}, ρ c = none → c < h.length → τf c = τ c := fun {c} e hc => by simp only [τf, e, if_pos hc]
  have inv : ∀ {c p}, τf c = some p → (∃ b, ρ c = some b ∧ τ0' b = some p) ∨ (ρ c = none ∧ c < h.length ∧ τ c = some p) := fun {c p} e => by
    cases hr : ρ c with
    | some b => rw [some_f hr] at e; exact .inl ⟨b, rfl, e⟩
    | none =>
      by_cases hc : c < h.length
      · rw [none_f hr hc] at e; exact .inr ⟨rfl, hc, e⟩
      · simp only [τf, hr, if_neg hc] at e; cases e
  have hle : τ.le τf := fun c p hc => by
    have hlt := hk.lt hc
    cases hr : ρ c with
    | none => rw [none_f hr hlt]; exact hc
    | some b =>
      rw [some_f hr]
      rcases rho_some hr with ⟨_, h1⟩ | ⟨h1, _⟩
      · exact g.le b p (ren1 h1 hc)
      · omega
  have hren : (τ0'.ren ρ).le τf := fun c p hc => by
    obtain ⟨b, h1, h2⟩ := Option.bind_eq_some_iff.1 hc
    rw [some_f h1]; exact h2
  -- what a mapped handle is
  have mapped : ∀ {c b}, ρ c = some b → ∃ o o0, h'[c]? = some o ∧ h0'[b]? = some o0 ∧ ORN ρ o o0 ∧ ((l[b]? = some c ∧ ∃ o1, h[c]? = some o1 ∧ (o.live = true → o1.live = true)) ∨ (h0.length ≤ b ∧ (o.live = true → o.own = true))) := fun {c b} e => by
    rcases rho_some e with ⟨h1, h2⟩ | ⟨h1, h2⟩
    · obtain ⟨o, o0, o1, k1, k2, k3, k4, k5⟩ := ho.obj b c h2
      exact ⟨o, o0, k1, k2, k3, .inl ⟨h2, o1, k4, k5⟩⟩
    · obtain ⟨k0, o, o0, k1, k2, k3, k4⟩ := ho.new (c - h.length) b h2
      rw [show h.length + (c - h.length) = c by omega] at k1
      exact ⟨o, o0, k1, k2, k3, .inr ⟨k0, k4⟩⟩
  have ws0 : ∀ {k}, wset (τ.ren fun b => l[b]?) h0 k → ∃ b c p o, l[b]? = some c ∧ τ c = some p ∧ h[c]? = some o ∧ o.own = true ∧ p.base.block = k := fun {k} ⟨b, p, o, h1, h2, h3, h4⟩ => by
    obtain ⟨c, h5, h6⟩ := ren0 h1
    obtain ⟨o0, o2, g1, g2, g3⟩ := hf.obj b c h5
    rw [h2] at g1; cases g1
    exact ⟨b, c, p, o2, h5, h6, g2, g3.own.1 h3, h4⟩
  have ltw : ∀ {c p o}, τ c = some p → h[c]? = some o → o.live = true → p.base.block < w.heap.size := fun {c p o} h1 h2 h3 => by
    obtain ⟨o1, k1, _, k3⟩ := hk.ob c p h1
    rw [h2] at k1; cases k1; exact k3 h3
  have apart : ∀ {c d p q o o' b}, ρ c = none → c < h.length → τ c = some p → h[c]? = some o → o.live = true → ρ d = some b → τ0' b = some q → h'[d]? = some o' → (o'.own = true ∨ (o.own = true ∧ o'.live = true)) → p.base.block ≠ q.base.block := fun {c d p q o o' b} r1 hc hp ho1 hl r2 hq hd hown => by
    obtain ⟨o2, o0, k1, k2, k3, k4⟩ := mapped r2
    rw [hd] at k1; cases k1
    have viaws : o'.own = true → p.base.block ≠ q.base.block := fun hx => by
      rcases g.ws _ ⟨b, q, o0, hq, k2, k3.own.1 hx, rfl⟩ with h1 | h1
      · obtain ⟨b2, c2, p2, o3, m1, m2, m3, m4, m5⟩ := ws0 h1
        rw [← m5]
        exact fun e => hk.inj c2 c p2 p o3 o (fun e2 => rho_none r1 hc (e2 ▸ List.mem_of_getElem? m1)) m2 hp m3 m4 ho1 hl e.symm
      · have := ltw hp ho1 hl
        omega
    rcases hown with hx | ⟨hx, hy⟩
    · exact viaws hx
    · rcases k4 with ⟨m1, o1, m2, m3⟩ | ⟨_, m2⟩
      · rcases g.dom b q hq with m4 | m4
        · obtain ⟨d2, m5, m6⟩ := ren0 m4
          rw [m1] at m5; cases m5
          exact hk.inj c d p q o o1 (fun e2 => rho_none r1 hc (e2 ▸ List.mem_of_getElem? m1)) hp m6 ho1 hx m2 (m3 hy)
        · have := (lt0 m1).1; omega
      · exact viaws (m2 hy)
  refine ⟨τf, ⟨hle, ⟨fun c p hc => ?_, fun c d p q o o' hne hc hd h1 h2 h3 h4 => ?_⟩, ?_, fun k hw => ?_, fun c p hc => ?_, by rw [ho.len]; omega⟩, hren⟩
  · rcases inv hc with ⟨b, r1, r2⟩ | ⟨r1, r2, r3⟩
    · obtain ⟨o, o0, k1, k2, k3, _⟩ := mapped r1
      obtain ⟨o2, m1, m2, m3⟩ := g.rh.ob b p r2
      rw [k2] at m1; cases m1
      exact ⟨o, k1, (k3.comp m2).mono hren, fun x => m3 (k3.own.2 x)⟩
    · obtain ⟨o, k1, k2, k3⟩ := hk.ob c p r3
      refine ⟨o, by rw [ho.same c r2 (rho_none r1 r2)]; exact k1, ?_, fun x => Nat.lt_of_lt_of_le (k3 x) g.fr.size⟩
      by_cases hl : o.live = true
      · refine (k2.same (g.fr.block _ (k3 hl) fun hx => ?_)).mono hle
        obtain ⟨b2, c2, p2, o3, m1, m2, m3, m4, m5⟩ := ws0 hx
        exact hk.inj c2 c p2 p o3 o (fun e2 => rho_none r1 r2 (e2 ▸ List.mem_of_getElem? m1)) m2 r3 m3 m4 k1 hl m5
      · cases o <;> first | trivial | exact absurd rfl hl
  · rcases inv hc with ⟨b, r1, r2⟩ | ⟨r1, r2, r3⟩
    · rcases inv hd with ⟨b', s1, s2⟩ | ⟨s1, s2, s3⟩
      · obtain ⟨o1, o0, k1, k2, k3, k4⟩ := mapped r1
        obtain ⟨o1', o0', k1', k2', k3', k4'⟩ := mapped s1
        rw [h1] at k1; cases k1
        rw [h3] at k1'; cases k1'
        refine g.rh.inj b b' p q o0 o0' (fun e => hne ?_) r2 s2 k2 (k3.own.1 h2) k2' (k3'.own.2 h4)
        subst e
        rcases rho_some r1 with ⟨_, a1⟩ | ⟨a0, a1⟩
        · rcases rho_some s1 with ⟨_, a2⟩ | ⟨_, a2⟩
          · rw [a1] at a2; exact Option.some.inj a2
          · have := (ho.new _ _ a2).1; have := (lt0 a1).1; omega
        · rcases rho_some s1 with ⟨_, a2⟩ | ⟨a3, a2⟩
          · have := (ho.new _ _ a1).1; have := (lt0 a2).1; omega
          · obtain ⟨i1, e1⟩ := List.getElem?_eq_some_iff.1 a1
            obtain ⟨i2, e2⟩ := List.getElem?_eq_some_iff.1 a2
            have := (List.getElem_inj ho.nodup).1 (e1.trans e2.symm)
            omega
      · have e1 := ho.same d s2 (rho_none s1 s2)
        rw [h3] at e1
        exact fun e => apart s1 s2 s3 e1.symm h4 r1 r2 h1 (.inl h2) e.symm
    · have e1 := ho.same c r2 (rho_none r1 r2)
      rw [h1] at e1
      rcases inv hd with ⟨b', s1, s2⟩ | ⟨s1, s2, s3⟩
      · exact apart r1 r2 r3 e1.symm (PO.own_live h2) s1 s2 h3 (.inr ⟨h2, h4⟩)
      · have e2 := ho.same d s2 (rho_none s1 s2)
        rw [h3] at e2
        exact hk.inj c d p q o o' hne r3 s3 e1.symm h2 e2.symm h4
  · refine g.fr.mono fun k _ hx => ?_
    obtain ⟨b2, c2, p2, o3, m1, m2, m3, m4, m5⟩ := ws0 hx
    exact ⟨c2, p2, o3, m2, m3, m4, m5⟩
  · obtain ⟨c, p, o, h1, h2, h3, rfl⟩ := hw
    rcases inv h1 with ⟨b, r1, r2⟩ | ⟨r1, r2, r3⟩
    · obtain ⟨o1, o0, k1, k2, k3, _⟩ := mapped r1
      rw [h2] at k1; cases k1
      rcases g.ws _ ⟨b, p, o0, r2, k2, k3.own.1 h3, rfl⟩ with m1 | m1
      · obtain ⟨b2, c2, p2, o3, m1, m2, m3, m4, m5⟩ := ws0 m1
        exact .inl ⟨c2, p2, o3, m2, m3, m4, m5⟩
      · exact .inr m1
    · have e1 := ho.same c r2 (rho_none r1 r2)
      rw [h2] at e1
      exact .inl ⟨c, p, o, r3, e1.symm, h3, rfl⟩
  · rcases inv hc with ⟨b, r1, r2⟩ | ⟨_, _, r3⟩
    · rcases rho_some r1 with ⟨_, a1⟩ | ⟨a0, a1⟩
      · rcases g.dom b p r2 with m4 | m4
        · obtain ⟨d2, m5, m6⟩ := ren0 m4
          rw [a1] at m5; cases m5
          exact .inl m6
        · have := (lt0 a1).1; omega
      · exact .inr a0
    · exact .inl r3
/-- A call in a small memory, in a large one. -/
theorem PC.frame {f : FuncId} {args0 args : List Value} {h0 h : List PO} {K0 Kp0 K Kp : Value → List PO → Prop} (l : List Nat) (q : PC P f args0 h0 K0 Kp0) (hf : Fit l h0 h) (ha : RNs (fun b => l[b]?) args0 args)
    (hK : ∀ v0 h0', K0 v0 h0' → ∃ ks v h', Out l ks h0.length h h' h0' ∧ RN (rho l h.length ks) v v0 ∧ K v h')
    (hKp : ∀ v0 h0', Kp0 v0 h0' → ∃ ks v h', Out l ks h0.length h h' h0' ∧ RN (rho l h.length ks) v v0 ∧ Kp v h') : PC P f args h K Kp := by
  refine ⟨q.1, fun τ w args' hk hj hargs => ?_⟩
  refine (q.2 _ w args' (hf.small hk) (hj.sub fun k hk => hf.wset hk) (ha.vrs hargs)).mono fun e w' ⟨h0', τ0', v0, v0', g, hv, hd⟩ => ?_
  rcases hd with ⟨rfl, hx⟩ | ⟨rfl, hx⟩
  · obtain ⟨ks, v, h', ho, hrn, hk2⟩ := hK v0 h0' hx
    obtain ⟨τf, g2, hren⟩ := ho.gr hf hk g
    exact ⟨h', τf, v, v0', g2, (hrn.comp hv).mono hren, .inl ⟨rfl, hk2⟩⟩
  · obtain ⟨ks, v, h', ho, hrn, hk2⟩ := hKp v0 h0' hx
    obtain ⟨τf, g2, hren⟩ := ho.gr hf hk g
    exact ⟨h', τf, v, v0', g2, (hrn.comp hv).mono hren, .inr ⟨rfl, hk2⟩⟩
end
end Go.Proofs.YtjopikjefpenkaaDoor
/- Calls that read: their contracts in a small memory hold in every memory. -/
namespace Go.Proofs.YtjopikjefpenkaaDoor
open Go.RowKit
variable [Inv]
theorem RN.symm {ρ ρ' : Nat → Option Nat} (hr : ∀ b c, ρ b = some c → ρ' c = some b) {v v' : Value} (h : RN ρ v v') : RN ρ' v' v := by
  induction h with
  | bool b => exact .bool _
  | int k n => exact .int _ _
  | str s => exact .str _
  | pnil => exact .pnil
  | ptr o e => exact .ptr o (hr _ _ e)
  | snil => exact .snil
  | sl o sp n m e => exact .sl o sp n m (hr _ _ e)
  | mnil => exact .mnil
  | map e => exact .map (hr _ _ e)
  | fnil => exact .fnil
  | yld h => exact .yld (hr _ _ h)
  | func f hy e1 e2 _ _ i1 i2 => exact .func f hy e1.symm e2.symm (fun i v v' h1 h2 => i1 i v' v h2 h1) (fun i v v' h1 h2 => i2 i v' v h2 h1)
  | inil => exact .inil
  | iface t _ i => exact .iface t i
  | agg e _ i => exact .agg e.symm (fun i' v v' h1 h2 => i i' v' v h2 h1)
  | tuple e _ i => exact .tuple e.symm (fun i' v v' h1 h2 => i i' v' v h2 h1)
theorem ORN.symm {ρ ρ' : Nat → Option Nat} (hr : ∀ b c, ρ b = some c → ρ' c = some b) {a b : PO} (hl : a.live = true) (h : ORN ρ a b) : ORN ρ' b a := by
  cases a <;> cases b <;> first | exact h.elim | (cases hl; done) | skip
  · exact ⟨h.1.symm, fun i v v' h1 h2 => (h.2 i v' v h2 h1).symm hr⟩
  · exact ⟨h.1.symm, fun i v v' h1 h2 => (h.2 i v' v h2 h1).symm hr⟩
  · exact ⟨h.1.symm, fun i v v' h1 h2 => (h.2 i v' v h2 h1).symm hr⟩
  · exact ⟨h.1.symm, fun i v v' h1 h2 => ⟨(h.2 i v' v h2 h1).1.symm, (h.2 i v' v h2 h1).2.symm hr⟩⟩
  · exact ⟨h.1.symm, h.2.symm⟩
  · obtain ⟨h1, h2, h3⟩ := h
    refine ⟨h1.symm, fun t v hv => ?_, fun t v hv => ?_⟩
    · obtain ⟨v', g1, g2⟩ := h3 t v hv; exact ⟨v', g1, g2.symm hr⟩
    · obtain ⟨v', g1, g2⟩ := h2 t v hv; exact ⟨v', g1, g2.symm hr⟩
theorem newV_flat {g : Nat → Bool} : ∀ {n : Nat} {v : Value}, flat n v = true → newV g n v = true
  | 0, _, h => by simp [flat] at h
  | n + 1, v, h => by
    have key : ∀ {cs : Array Value}, cs.toList.all (flat n) = true → cs.toList.all (newV g n) = true := fun hc => List.all_eq_true.2 fun v hv => newV_flat (List.all_eq_true.1 hc v hv)
    unfold flat at h
    split at h
    all_goals first
      | rfl
      | (unfold newV; exact newV_flat h)
      | (unfold newV; exact key h)
      | (unfold newV; simp only [Bool.and_eq_true] at h ⊢; exact ⟨h.1, key h.2.1, key h.2.2⟩)
      | cases h
/-- The memory is as it was. -/
def Kept (h0 h' : List PO) : Prop := ∀ b, b < h0.length → h'[b]? = h0[b]?
section
variable {P : Program}
theorem PC.readsG {f : FuncId} {args0 args : List Value} {h0 h : List PO} {K0 : Value → List PO → Prop} (l : List Nat) (q : PC P f args0 h0 K0 fun _ _ => False) (hf : Fit l h0 (h.map PO.frz)) (hlive : ∀ o ∈ h0, o.live = true) (ha : RNs (fun b => l[b]?) args0 args) {v : Value} {os : List PO} {d : Nat}
    (hK : ∀ v0 h0', K0 v0 h0' → Kept h0 h0' ∧ ∃ ks : List Nat, ks.Nodup ∧ ks.length = os.length ∧ RN (rho l h.length ks) v v0 ∧ ∀ (j b : Nat), ks[j]? = some b → h0.length ≤ b ∧ ∃ o o0, os[j]? = some o ∧ h0'[b]? = some o0 ∧ ORN (rho l h.length ks) o o0 ∧ o.own = true)
    (hn : newAll h.length d v (h.map PO.frz ++ os) = true) : PCq P f args h fun v' ns => v' = v ∧ ns = os := by
  have q2 : PC P f args (h.map PO.frz) (fun v' h' => v' = v ∧ h' = h.map PO.frz ++ os) fun _ _ => False := by
    refine PC.frame l q hf ha (fun v0 h0' hk => ?_) fun _ _ x => x.elim
    obtain ⟨hkept, ks, k1, k2, k3, k4⟩ := hK v0 h0' hk
    have hlen : (h.map PO.frz).length = h.length := by simp
    refine ⟨ks, v, _, ⟨k1, by simp [k2], fun c hc _ => by rw [List.getElem?_append_left hc], fun b c hb => ?_, fun j b hj => ?_⟩, by rw [hlen]; exact k3, rfl, rfl⟩
    · obtain ⟨o0, o, h1, h2, h3⟩ := hf.obj b c hb
      have hc := (List.getElem?_eq_some_iff.1 h2).1
      have hb0 := (List.getElem?_eq_some_iff.1 h1).1
      refine ⟨o, o0, o, by rw [List.getElem?_append_left hc]; exact h2, by rw [hkept b hb0]; exact h1, ?_, h2, id⟩
      refine h3.symm (fun b' c' e => ?_) (hlive _ (List.mem_of_getElem? h1))
      obtain ⟨_, o', _, h5, _⟩ := hf.obj b' c' e
      exact rho_at hf.nodup (List.getElem?_eq_some_iff.1 h5).1 e
    · obtain ⟨g1, o, o0, g2, g3, g4, g5⟩ := k4 j b hj
      exact ⟨g1, o, o0, by rw [List.getElem?_append_right (by omega)]; simpa using g2, g3, by rw [hlen]; exact g4, fun _ => g5⟩
  have := q2.quiet (h := h) (d := d) hn
  exact this.mono' fun v' ns ⟨e1, e2⟩ => ⟨e1, by rw [e2, List.drop_append_of_le_length (by simp), List.drop_eq_nil_of_le (by simp), List.nil_append]⟩
/-- A bare value. -/
theorem PC.reads {f : FuncId} {args0 args : List Value} {h0 h : List PO} {v : Value} (l : List Nat) (q : PC P f args0 h0 (fun v' h' => v' = v ∧ Kept h0 h') fun _ _ => False) (hf : Fit l h0 (h.map PO.frz)) (hlive : ∀ o ∈ h0, o.live = true) (ha : RNs (fun b => l[b]?) args0 args) (hv : flat 6 v = true) : PCq P f args h fun v' ns => v' = v ∧ ns = [] := by
  refine PC.readsG l q hf hlive ha (d := 6) (fun v0 h0' ⟨e, hk⟩ => ⟨hk, [], .nil, rfl, by subst e; exact RN.of_flat hv, fun j b hj => by simp at hj⟩) ?_
  simp only [newAll, Bool.and_eq_true]
  exact ⟨newV_flat hv, by rw [List.append_nil, List.drop_eq_nil_of_le (by simp)]; rfl⟩
theorem newO_gr {g : Nat → Bool} {cs : List Value} {d : Nat} (h : cs.all (flat d) = true) : newO g d (.gr cs) = true := by
  unfold newO; exact List.all_eq_true.2 fun v hv => newV_flat (List.all_eq_true.1 h v hv)
theorem RNs.all {ρ : Nat → Option Nat} {cs : List Value} {d : Nat} (h : cs.all (flat d) = true) : RNs ρ cs cs := RNs.of_flat fun v hv => ⟨d, List.all_eq_true.1 h v hv⟩
/-- A new row of bare values, read from `o` on. -/
theorem PC.readsRow {f : FuncId} {args0 args : List Value} {h0 h : List PO} {o n m : Nat} {sp : Option Nat} {cs : List Value} (l : List Nat) (q : PC P f args0 h0 (fun v' h' => ∃ k, v' = .slice (some ⟨k, o, sp⟩) n m ∧ h0.length ≤ k ∧ h'[k]? = some (.gr cs) ∧ Kept h0 h') fun _ _ => False) (hf : Fit l h0 (h.map PO.frz)) (hlive : ∀ o ∈ h0, o.live = true) (ha : RNs (fun b => l[b]?) args0 args) (hc : cs.all (flat 6) = true) : PCq P f args h fun v' ns => v' = .slice (some ⟨h.length, o, sp⟩) n m ∧ ns = [.gr cs] := by
  refine PC.readsG l q hf hlive ha (d := 6) (fun v0 h0' ⟨k, e, h1, h2, hk⟩ => ⟨hk, [k], by simp, rfl, ?_, fun j b hj => ?_⟩) ?_
  · subst e; exact .sl _ _ _ _ (by simp [rho])
  · cases j with
    | zero => simp at hj; subst hj; exact ⟨h1, .gr cs, _, rfl, h2, RNs.all hc, rfl⟩
    | succ j => simp at hj
  · simp only [newAll, Bool.and_eq_true]
    refine ⟨by simp [newV, freshG, PO.own], ?_⟩
    rw [List.drop_append_of_le_length (by simp), List.drop_eq_nil_of_le (by simp)]
    simp [PO.own, newO_gr hc]
theorem PC.readsRow' {f : FuncId} {args0 args : List Value} {h0 h : List PO} {o n m : Nat} {sp : Option Nat} {cs : List Value} (l : List Nat) (q : PC P f args0 h0 (fun v' h' => ∃ k, v' = .slice (some ⟨k, o, sp⟩) n m ∧ h0.length ≤ k ∧ h'[k]? = some (.rw cs) ∧ Kept h0 h') fun _ _ => False) (hf : Fit l h0 (h.map PO.frz)) (hlive : ∀ o ∈ h0, o.live = true) (ha : RNs (fun b => l[b]?) args0 args) (hc : cs.all (flat 6) = true) : PCq P f args h fun v' ns => v' = .slice (some ⟨h.length, o, sp⟩) n m ∧ ns = [.rw cs] := by
  refine PC.readsG l q hf hlive ha (d := 6) (fun v0 h0' ⟨k, e, h1, h2, hk⟩ => ⟨hk, [k], by simp, rfl, ?_, fun j b hj => ?_⟩) ?_
  · subst e; exact .sl _ _ _ _ (by simp [rho])
  · cases j with
    | zero => simp at hj; subst hj; exact ⟨h1, .rw cs, _, rfl, h2, RNs.all hc, rfl⟩
    | succ j => simp at hj
  · simp only [newAll, Bool.and_eq_true]
    refine ⟨by simp [newV, freshG, PO.own], ?_⟩
    rw [List.drop_append_of_le_length (by simp), List.drop_eq_nil_of_le (by simp)]
    have : newO (freshG h.length (h.map PO.frz ++ [.rw cs])) 6 (.rw cs) = true := by
      unfold newO; exact List.all_eq_true.2 fun v hv => newV_flat (List.all_eq_true.1 hc v hv)
    simp [PO.own, this]
theorem frz_cells {o : PO} {cs : List Value} (h : o.cells = some cs) : o.frz = .ro cs := by cases o <;> cases h <;> rfl
/-- One row, read. -/
theorem fit_row {h : List PO} {b : Nat} {cs : List Value} (hb : hcells h b = some cs) (hc : cs.all (flat 6) = true) : Fit [b] [.ro cs] (h.map PO.frz) := by
  refine ⟨by simp, fun i c hi => ?_⟩
  cases i with
  | zero =>
    simp at hi; subst hi
    obtain ⟨o, h1, h2⟩ := Option.bind_eq_some_iff.1 hb
    exact ⟨_, .ro cs, rfl, by simp [h1, frz_cells h2], RNs.all hc⟩
  | succ i => simp at hi
theorem fit_none {h : List PO} : Fit [] [] h := ⟨by simp, fun i c hi => by simp at hi⟩
theorem live_ro {cs : List Value} : ∀ o ∈ [PO.ro cs], o.live = true := by simp [PO.live]
theorem live_nil : ∀ o ∈ ([] : List PO), o.live = true := by simp
end
end Go.Proofs.YtjopikjefpenkaaDoor

/- The plain machine's append. -/
import Derived.Test.YtjopikjefpenkaaDoorG1
import Derived.Laws.Append
import Derived.RangeFuncIn
import Derived.RangeFuncRecord
import Derived.RangeFuncLeaves
import Derived.OrdersIn
import Derived.Scope
set_option linter.unusedSimpArgs false
set_option linter.unusedVariables false
set_option linter.unusedSectionVars false
namespace Go.Proofs.YtjopikjefpenkaaDoor
open Go.RowKit
/-- The elements of a slice or a string, of so many cells each. -/
def qelems (h : List PO) (sz : Nat) : Value → Option (Nat × List Value)
  | .slice none _ _ => some (0, [])
  | .slice (some ⟨b, o, _⟩) n _ => match hcells h b with
    | some cs => if o + n * sz ≤ cs.length then some (n, (cs.drop o).take (n * sz)) else if n = 0 then some (0, []) else none
    | none => if n = 0 then some (0, []) else none
  | .string s => if sz = 1 then some (s.size, s.data.toList.map fun b => .int .u8 b.toNat) else none
  | _ => none
def notInt (P : Program) (t : TypeId) : Bool := match P.underlying t with
  | some (.slice _) | some .string => true
  | _ => false
/-- append: what must be, the value, the memory. -/
def qappend (P : Program) (h : List PO) (t tx : TypeId) (s x : Value) : Option (Prop × Value × List PO) :=
  match P.underlying t, notInt P tx with
  | some (.slice el), true => match P.info? el with
    | some i => match i.zero, qelems h i.size x with
      | some z, some (n, new) => if 0 < i.size ∧ 0 < i.bytes ∧ z.cells.size = i.size then match s with
        | .slice none 0 0 => if n = 0 then some (True, .slice none 0 0, h) else some (n * i.bytes ≤ 140737488355328, .slice (some ⟨h.length, 0, some i.size⟩) n n, h ++ [.gr new])
        | .slice (some ⟨b, o, some sz⟩) m _ => match h[b]? with
          | some (.gr cs) => if sz = i.size ∧ o + m * sz = cs.length then some ((m + n) * i.bytes ≤ 140737488355328 ∧ ∀ v ∈ new, v.oneCell' = true, .slice (some ⟨h.length, 0, some sz⟩) (m + n) (m + n), h.set b .dead ++ [.gr (cs.drop o ++ new)]) else none
          | _ => none
        | .slice (some ⟨b, o, none⟩) m c => if m + n ≤ c then (hput h b (o + m * i.size) new).map fun h' => (∀ v ∈ new, v.oneCell' = true, .slice (some ⟨b, o, none⟩) (m + n) c, h')
          else match hcells h b with
            | some cs => if o + m * i.size ≤ cs.length then some ((m + n) * i.bytes ≤ 140737488355328, .slice (some ⟨h.length, 0, some i.size⟩) (m + n) (m + n), h ++ [.gr ((cs.drop o).take (m * i.size) ++ new)]) else none
            | none => none
        | _ => none
        else none
      | _, _ => none
    | none => none
  | _, _ => none
section
variable {P : Program} {τ : Tau}
theorem run_append_fit {t tx ty e : TypeId} {i : TypeInfo} {dx : TypeDesc} (ht : P.underlying t = some (.slice e)) (hi : P.info? e = some i) (hx : P.underlying tx = some dx) (hdx : ∀ k, dx ≠ .int k) {base : Option Addr} {sLen sCap n : Nat} {x : Value} {new : List Value} {w w' : World}
    (hl : (Builtin.lenOf x).run P w = .ok n w) (hn : (Builtin.firstCells i.size n x).run P w = .ok new.toArray w) (hfit : sLen + n ≤ sCap) (hb : base = none → w' = w) (hst : ∀ a, base = some a → (storeCells (a.add (sLen * i.size)) new).run P w = .ok () w') :
    (Builtin.append_ #[t, tx] ty #[.slice base sLen sCap, x]).run P w = .ok (.slice base (sLen + n) sCap) w' := by
  have hz : ((dx matches .int _) : Bool) = false := by cases dx <;> first | rfl | exact absurd rfl (hdx _)
  have hs : szOf P e = some i.size := by simp [szOf, hi]
  cases base with
  | none =>
    obtain rfl := hb rfl
    simp [Builtin.append_, run_und ht, run_und hx, run_szOf hs, hz, hl, hn, hfit]
  | some a =>
    simp [Builtin.append_, run_und ht, run_und hx, run_szOf hs, hz, hl, hn, hfit, hst a rfl]
theorem run_append_new {t tx ty e : TypeId} {i : TypeInfo} {z : Value} {dx : TypeDesc} (ht : P.underlying t = some (.slice e)) (hi : P.info? e = some i) (hzo : i.zero = some z) (hx : P.underlying tx = some dx) (hdx : ∀ k, dx ≠ .int k) (hby : 0 < i.bytes) {base : Option Addr} {sLen sCap n : Nat} {x : Value} {new old : List Value} {w : World}
    (hl : (Builtin.lenOf x).run P w = .ok n w) (hn : (Builtin.firstCells i.size n x).run P w.drew = .ok new.toArray w.drew) (ho : (Builtin.firstCells i.size sLen (.slice base sLen sCap)).run P w.drew = .ok old.toArray w.drew) (hfit : sCap < sLen + n) (hlim : (sLen + n) * i.bytes ≤ 140737488355328) :
    ∃ cap, sLen + n ≤ cap ∧ cap ≤ 9223372036854775807 ∧ (Builtin.append_ #[t, tx] ty #[.slice base sLen sCap, x]).run P w = .ok (.slice (some ⟨w.heap.size, 0, none⟩) (sLen + n) cap) (w.drew.alloc (.cells ((old ++ new).toArray ++ Builtin.zeroCells z.cells (cap - (sLen + n))) e)) := by
  have hz : ((dx matches .int _) : Bool) = false := by cases dx <;> first | rfl | exact absurd rfl (hdx _)
  have hs : szOf P e = some i.size := by simp [szOf, hi]
  have hzz : zOf P e = some z := by simp [zOf, hi, hzo]
  have hle : sLen + n ≤ (sLen + n) * i.bytes := Nat.le_mul_of_pos_right _ hby
  have h63 : ¬ (9223372036854775807 < ((sLen : Int) + (n : Int))) := by omega
  have h48 : ¬ (281474976710656 < Builtin.nextslicecap (sLen + n) sCap * i.bytes) := by
    have := growslice_fits (bytes := i.bytes) hfit (by omega)
    omega
  have hn' : ¬ (sLen + n ≤ sCap) := by omega
  have hb0 : i.bytes ≠ 0 := by omega
  refine ⟨(Question.appendCap (sLen + n) sCap e).cut (w.tape w.drawn (.appendCap (sLen + n) sCap e)), by simp [Question.cut], ?_, ?_⟩
  · have := Nat.mod_lt (w.tape w.drawn (.appendCap (sLen + n) sCap e)) (show 0 < 2 ^ 63 - (sLen + n) by omega)
    simp only [Question.cut]
    omega
  · simp [Builtin.append_, run_und ht, run_und hx, run_szOf hs, run_zOf hzz, typeInfo, hi, hz, hl, hn, ho, hn', h63, h48, hb0, Question.forced, newRow]
    show w.drew.alloc _ = _
    congr 2
    apply Array.ext'
    simp
theorem qelems_sound {h : List PO} {w : World} (k : RH τ h w) {sz n : Nat} {x x' : Value} {new : List Value} (hq : qelems h sz x = some (n, new)) (hx : VR τ x x') :
    ∃ new' : List Value, VRs τ new.toArray new'.toArray ∧ (∀ w, (Builtin.lenOf x').run P w = .ok n w) ∧ (Builtin.firstCells sz n x').run P w = .ok new'.toArray w ∧ new.length = n * sz := by
  unfold qelems at hq
  have e0 : ∀ (a : Addr) (c : Nat) (w : World), (Builtin.firstCells sz 0 (.slice (some a) 0 c)).run P w = .ok #[] w := fun a c w => by simp [Builtin.firstCells, loadCells, loadCellsFrom]
  have v0 : VRs τ ([] : List Value).toArray ([] : List Value).toArray := ⟨rfl, fun i v v' h => by simp at h⟩
  have z0 : ∀ {b o m sp} {y : Value}, VR τ (.slice (some ⟨b, o, sp⟩) 0 m) y → ∃ new' : List Value, VRs τ ([] : List Value).toArray new'.toArray ∧ (∀ w, (Builtin.lenOf y).run P w = .ok 0 w) ∧ (Builtin.firstCells sz 0 y).run P w = .ok new'.toArray w ∧ ([] : List Value).length = 0 * sz := fun hy => by
    obtain ⟨a, c, rfl⟩ := hy.sliceSome
    exact ⟨[], v0, fun w => by simp [Builtin.lenOf], by rw [e0], by simp⟩
  split at hq
  · cases hq
    obtain rfl := hx.sliceNone
    exact ⟨[], v0, fun w => by simp [Builtin.lenOf], by simp [Builtin.firstCells], by simp⟩
  · rename_i b o sp m c
    split at hq
    · rename_i cs hcs
      split at hq
      · rename_i hle
        cases hq
        by_cases hm : n = 0
        · subst hm
          obtain ⟨new', h1, h2, h3, h4⟩ := z0 hx
          exact ⟨new', by simpa using h1, h2, h3, by simp⟩
        · obtain ⟨p, cc, hp, rfl⟩ := hx.slicePos (by omega)
          obtain ⟨vs, e1, e2, e3⟩ := k.cells hp hcs o (n * sz) hle
          refine ⟨vs, e2, fun w => by simp [Builtin.lenOf], ?_, by simp; omega⟩
          have hr := run_loadCells_list (P := P) w _ vs e3
          rw [e1] at hr
          simpa [Builtin.firstCells] using hr
      · split at hq
        · rename_i hm; cases hq; subst hm
          exact z0 hx
        · cases hq
    · split at hq
      · rename_i hm; cases hq; subst hm
        exact z0 hx
      · cases hq
  · rename_i s
    split at hq
    · rename_i hsz
      cases hq; subst hsz
      obtain rfl := hx.str'
      refine ⟨s.data.toList.map fun b => .int .u8 b.toNat, ⟨rfl, fun i v v' h1 h2 => ?_⟩, fun w => by simp [Builtin.lenOf], ?_, by simp⟩
      · rw [h1] at h2; cases h2
        simp only [List.getElem?_toArray, List.getElem?_map] at h1
        obtain ⟨b, _, rfl⟩ := Option.map_eq_some_iff.1 h1
        exact .int _ _
      · have hx : (s.extract 0 s.size) = s := by simp
        simp only [Builtin.firstCells, hx, Sem.run_pure]
        congr 1
        apply Array.ext'
        simp
    · cases hq
  · cases hq
/-- A row is killed, and a longer one stands for what it has become: in its place, or elsewhere. -/
theorem RH.kill {h : List PO} {w : World} (k : RH τ h w) (b : Nat) : RH τ (h.set b .dead) w := by
  refine ⟨fun c q hc => ?_, fun c d q r o1 o2 hne hc hd h1 h2 h3 h4 => ?_⟩
  · obtain ⟨o, h1, h2, h3⟩ := k.ob c q hc
    by_cases e : c = b
    · subst e; exact ⟨.dead, by rw [List.getElem?_set_self (List.getElem?_eq_some_iff.1 h1).1], trivial, fun x => by cases x⟩
    · exact ⟨o, by rw [List.getElem?_set_ne (Ne.symm e)]; exact h1, h2, h3⟩
  · have key : ∀ (x : Nat) (y : PO), (h.set b .dead)[x]? = some y → y.live = true → h[x]? = some y := fun x y hx hy => by
      by_cases e : x = b
      · subst e
        rw [List.getElem?_set] at hx
        split at hx
        · split at hx
          · cases hx; cases hy
          · cases hx
        · exact hx
      · rw [List.getElem?_set_ne (Ne.symm e)] at hx; exact hx
    exact k.inj c d q r o1 o2 hne hc hd (key c o1 h1 (by cases o1 <;> first | rfl | simp [PO.own] at h2)) h2 (key d o2 h3 h4) h4
theorem wset_kill {h : List PO} {b k : Nat} (hw : wset τ (h.set b .dead) k) : wset τ h k := by
  obtain ⟨c, p, x, h1, h2, h3, h4⟩ := hw
  by_cases e : c = b
  · subst e
    rw [List.getElem?_set] at h2
    split at h2
    · split at h2
      · cases h2; simp [PO.own] at h3
      · cases h2
    · exact ⟨c, p, x, h1, h2, h3, h4⟩
  · rw [List.getElem?_set_ne (Ne.symm e)] at h2; exact ⟨c, p, x, h1, h2, h3, h4⟩
theorem Tau.put_dom {n : Nat} {q : Pl} {c : Nat} {p : Pl} (h : (τ.put n q) c = some p) : τ c = some p ∨ n ≤ c := by
  by_cases e : c = n
  · exact .inr (by omega)
  · rw [Tau.put_ne _ e] at h; exact .inl h
/-- A fresh row. -/
theorem fresh_row {h : List PO} {w : World} (k : RH τ h w) {all all' : List Value} (hall : VRs τ all.toArray all'.toArray) (Z : Array Value) (el : TypeId) {n cap sz : Nat} (hsz : 0 < sz) (hn : n ≤ cap) (hcap : cap ≤ 9223372036854775807) (hlen : all.length = n * sz) (hZ : Z.size = (cap - n) * sz) :
    ∃ τ', τ.le τ' ∧ RH τ' (h ++ [.gr all]) (w.drew.alloc (.cells (all'.toArray ++ Z) el)) ∧ VR τ' (.slice (some ⟨h.length, 0, some sz⟩) n n) (.slice (some ⟨w.heap.size, 0, none⟩) n cap) ∧ Fr (fun _ => False) w (w.drew.alloc (.cells (all'.toArray ++ Z) el)) ∧ ((∀ j, wset τ' (h ++ [.gr all]) j → wset τ h j ∨ w.heap.size ≤ j) ∧ (∀ c p, τ' c = some p → τ c = some p ∨ h.length ≤ c)) := by
  have hfr : Fr (fun _ => False) w w.drew := Fr.drawn _ _ _
  have kd := k.fr hfr
  have hnone := k.none (Nat.le_refl _)
  have hl' : all'.length = all.length := by simpa using hall.1.symm
  have hsize : (all'.toArray ++ Z).size = cap * sz := by
    simp only [Array.size_append, List.size_toArray, hl', hlen, hZ]
    rw [← Nat.add_mul]; congr 1; omega
  have hle := Tau.le_put τ (b := h.length) (p := ⟨⟨w.heap.size, 0, none⟩, cap * sz⟩) hnone
  refine ⟨τ.put h.length ⟨⟨w.heap.size, 0, none⟩, cap * sz⟩, hle, kd.push rfl ⟨rfl, _, el, (0, 0), heap_alloc_new _ _, .inl (Nat.le_refl _), by rw [hsize]; simp, ?_, fun i v v' h1 h2 => ?_⟩, ?_, hfr.trans (Fr.alloc _ _ _), fun j hw => ?_, fun c p hc => Tau.put_dom hc⟩
  · rw [hlen]; exact Nat.mul_le_mul_right _ hn
  · have hi : i < all'.length := by rw [hl']; exact (List.getElem?_eq_some_iff.1 h1).1
    rw [Nat.zero_add, Array.getElem?_append_left (by simpa using hi)] at h2
    exact (hall.2 i v v' (by simpa using h1) h2).mono hle
  · exact .sun (p := ⟨⟨w.heap.size, 0, none⟩, cap * sz⟩) 0 sz n n cap (Tau.put_self _ _ _) hsz hn hcap (by simp)
  · obtain ⟨c, p, x, h1, h2, h3, rfl⟩ := hw
    by_cases e : c = h.length
    · subst e; rw [Tau.put_self] at h1; cases h1; exact .inr (Nat.le_refl _)
    · rw [Tau.put_ne _ e] at h1
      obtain ⟨o1, h4, _⟩ := k.ob c p h1
      rw [List.getElem?_append_left (List.getElem?_eq_some_iff.1 h4).1] at h2
      exact .inl ⟨c, p, x, h1, h2, h3, rfl⟩
/-- A world that has turned where no live handle lies. -/
theorem RH.other {h : List PO} {w w' : World} (k : RH τ h w) {K : Nat} (hf : Fr (· = K) w w') (hn : ∀ c q o, τ c = some q → h[c]? = some o → o.live = true → q.base.block ≠ K) : RH τ h w' := by
  refine ⟨fun b p hb => ?_, k.inj⟩
  obtain ⟨o, h1, h2, h3⟩ := k.ob b p hb
  by_cases hl : o.live = true
  · exact ⟨o, h1, h2.same (hf.block _ (h3 hl) (hn b p o hb h1 hl)), fun _ => Nat.lt_of_lt_of_le (h3 hl) hf.size⟩
  · cases o <;> first | exact ⟨_, h1, trivial, fun x => absurd x hl⟩ | exact absurd rfl hl
theorem room_row {h : List PO} {w : World} (k : RH τ h w) {b o m n cc sz : Nat} {p : Pl} {cs new new' : List Value} (hp : τ b = some p) (hb : h[b]? = some (.gr cs)) (hsz : 0 < sz) (hlim : o + cc * sz ≤ p.lim) (hcc : cc ≤ 9223372036854775807) (hlen : o + m * sz = cs.length) (hnew : VRs τ new.toArray new'.toArray) (hnl : new.length = n * sz) (h1 : ∀ v ∈ new, v.oneCell' = true) (hfit : m + n ≤ cc) :
    ∃ w' τ', (storeCells ((p.base.add o).add (m * sz)) new').run P w = .ok () w' ∧ τ.le τ' ∧ RH τ' (h.set b .dead ++ [.gr (cs.drop o ++ new)]) w' ∧ VR τ' (.slice (some ⟨h.length, 0, some sz⟩) (m + n) (m + n)) (.slice (some (p.base.add o)) (m + n) cc) ∧ Fr (wset τ h) w w' ∧ ((∀ j, wset τ' (h.set b .dead ++ [.gr (cs.drop o ++ new)]) j → wset τ h j) ∧ (∀ c p, τ' c = some p → τ c = some p ∨ h.length ≤ c)) := by
  have hnone := k.none (Nat.le_refl _)
  obtain ⟨ob, g1, g2, g3⟩ := k.ob b p hp
  rw [hb] at g1; cases g1
  obtain ⟨es, cs', el, fr, eb, ef, ez, el', ev⟩ := g2
  have hl' : new'.length = new.length := by simpa using hnew.1.symm
  have hbo : p.base.add o = ⟨p.base.block, p.base.off + o, none⟩ := by
    obtain ⟨⟨x, y, z⟩, l⟩ := p
    simp only at es; subst es
    unfold Addr.add; split <;> simp_all
  have hbase : (p.base.add o).add (m * sz) = ⟨p.base.block, p.base.off + o + m * sz, none⟩ := by
    rw [hbo]; unfold Addr.add; split <;> simp_all
  have hmul : (m + n) * sz ≤ cc * sz := Nat.mul_le_mul_right _ hfit
  rw [Nat.add_mul] at hmul
  have h1' : ∀ v ∈ new', v.oneCell' = true := fun v hm => by
    obtain ⟨i, hi, rfl⟩ := List.getElem_of_mem hm
    have hi' : i < new.length := by omega
    rw [(hnew.2 i new[i] new'[i] (by simp [hi']) (by simp [hi])).oneCell]
    exact h1 _ (List.getElem_mem _)
  obtain ⟨w', cur', r1, r2, r3, r4, r5⟩ := run_storeCells_blk (P := P) p.base.block (p.base.off + o + m * sz) el fr new' 0 cs' w eb ef (by omega) h1'
  have hle := Tau.le_put τ (b := h.length) (p := ⟨p.base.add o, p.lim - o⟩) hnone
  have kk := (k.kill b).other r3 (fun c q ob' hc hh hl => by
    by_cases e : c = b
    · subst e
      rw [List.getElem?_set_self (List.getElem?_eq_some_iff.1 hb).1] at hh
      cases hh; cases hl
    · rw [List.getElem?_set_ne (Ne.symm e)] at hh
      exact fun e2 => k.inj b c p q (.gr cs) ob' (Ne.symm e) hp hc hb rfl hh hl e2.symm)
  have kk2 := kk.append [.gr (cs.drop o ++ new)]
  refine ⟨w', τ.put h.length ⟨p.base.add o, p.lim - o⟩, by rw [hbase]; exact r1, hle, ?_, ?_, r3.mono (fun x _ e => ⟨b, p, _, hp, hb, rfl, e.symm⟩), fun j hw => ?_, fun c p hc => Tau.put_dom hc⟩
  · refine kk2.put (o := .gr (cs.drop o ++ new)) hnone (by simp) ⟨by rw [hbo], cur', el, fr, by rw [hbo]; exact r2, by rw [r4]; exact ef, by rw [r4, hbo]; simp only; omega, by simp; omega, fun i v v' a1 a2 => ?_⟩ (fun _ => by rw [hbo]; exact Nat.lt_of_lt_of_le (g3 rfl) r3.size) (fun c q ob' hc hh hl => ?_)
    · rw [hbo] at a2
      simp only at a2
      rw [r5] at a2
      by_cases hi : i < (cs.drop o).length
      · rw [List.getElem?_append_left hi, List.getElem?_drop] at a1
        simp only [List.length_drop] at hi
        rw [if_neg (by omega)] at a2
        exact (ev (o + i) v v' a1 (by rw [← Nat.add_assoc]; exact a2)).mono hle
      · rw [List.getElem?_append_right (by omega)] at a1
        have hi2 := (List.getElem?_eq_some_iff.1 a1).1
        simp only [List.length_drop] at hi hi2 a1
        rw [if_pos (by omega), show p.base.off + o + i - (p.base.off + o + m * sz + 0) = i - (cs.length - o) by omega] at a2
        exact (hnew.2 _ v v' (by simpa using a1) (by simpa using a2)).mono hle
    · rw [hbo]
      simp only
      obtain ⟨o1, h4, _⟩ := kk.ob c q hc
      rw [List.getElem?_append_left (List.getElem?_eq_some_iff.1 h4).1] at hh
      by_cases e : c = b
      · subst e
        rw [List.getElem?_set_self (List.getElem?_eq_some_iff.1 hb).1] at hh
        cases hh; cases hl
      · rw [List.getElem?_set_ne (Ne.symm e)] at hh
        exact fun e2 => k.inj b c p q (.gr cs) ob' (Ne.symm e) hp hc hb rfl hh hl e2.symm
  · exact .sun (p := ⟨p.base.add o, p.lim - o⟩) 0 sz (m + n) (m + n) cc (Tau.put_self _ _ _) hsz hfit hcc (by simp; omega)
  · obtain ⟨c, q, x, a1, a2, a3, rfl⟩ := hw
    by_cases e : c = h.length
    · subst e
      rw [Tau.put_self] at a1; cases a1
      rw [hbo]
      exact ⟨b, p, _, hp, hb, rfl, rfl⟩
    · rw [Tau.put_ne _ e] at a1
      obtain ⟨o1, h4, _⟩ := k.ob c q a1
      have hcl := (List.getElem?_eq_some_iff.1 h4).1
      rw [List.getElem?_append_left (by simpa using hcl)] at a2
      exact wset_kill ⟨c, q, x, a1, a2, a3, rfl⟩
theorem notInt_und {t : TypeId} (h : notInt P t = true) : ∃ d, P.underlying t = some d ∧ ∀ k, d ≠ .int k := by
  unfold notInt at h
  split at h
  · rename_i e he; exact ⟨_, he, fun k x => by cases x⟩
  · rename_i he; exact ⟨_, he, fun k x => by cases x⟩
  · cases h
theorem VRs.app {a a' b b' : List Value} (h : VRs τ a.toArray a'.toArray) (k : VRs τ b.toArray b'.toArray) : VRs τ (a ++ b).toArray (a' ++ b').toArray := by
  have e1 : a.length = a'.length := by simpa using h.1
  have e2 : b.length = b'.length := by simpa using k.1
  refine ⟨by simp [e1, e2], fun i v v' h1 h2 => ?_⟩
  simp only [List.getElem?_toArray, List.getElem?_append] at h1 h2
  split at h1
  · rename_i hi; rw [if_pos (by omega)] at h2; exact h.2 i v v' (by simpa using h1) (by simpa using h2)
  · rename_i hi; rw [if_neg (by omega), ← e1] at h2; exact k.2 _ v v' (by simpa using h1) (by simpa using h2)
theorem _root_.List.set_getElem?_self' {α : Type} {l : List α} {b : Nat} {x : α} (h : l[b]? = some x) : l.set b x = l := by
  apply List.ext_getElem?
  intro i
  rw [List.getElem?_set]
  split
  · rename_i e; subst e
    rw [if_pos (List.getElem?_eq_some_iff.1 h).1, h]
  · rfl
theorem zeroCells_size (z : Array Value) (n : Nat) : (Builtin.zeroCells z n).size = n * z.size := by simp [Builtin.zeroCells]
set_option maxHeartbeats 800000 in
theorem qappend_sound {h h' : List PO} {w : World} (k : RH τ h w) {t tx ty : TypeId} {s x s' x' v : Value} {c : Prop} (hq : qappend P h t tx s x = some (c, v, h')) (hc : c) (hs : VR τ s s') (hx : VR τ x x') :
    ∃ v' w' τ', (Builtin.append_ #[t, tx] ty #[s', x']).run P w = .ok v' w' ∧ τ.le τ' ∧ RH τ' h' w' ∧ VR τ' v v' ∧ Fr (wset τ h) w w' ∧ (∀ j, wset τ' h' j → wset τ h j ∨ w.heap.size ≤ j) ∧ (∀ c p, τ' c = some p → τ c = some p ∨ h.length ≤ c) := by
  unfold qappend at hq
  split at hq
  · rename_i el ht htx
    obtain ⟨dx, hdx, hni⟩ := notInt_und htx
    split at hq
    · rename_i i hi
      split at hq
      · rename_i z n new hz hel
        have kd := k.fr (Fr.drawn (fun _ => False) w (w.drawn + 1))
        split at hq
        · rename_i hpos
          obtain ⟨p1, p2, p3⟩ := hpos
          split at hq
          · -- nil
            obtain rfl := hs.sliceNone
            split at hq
            · rename_i hn
              cases hq; subst hn
              obtain ⟨new', hnew, hlen, hfc, hnl⟩ := qelems_sound k hel hx
              have h0 : new' = [] := by have := hnew.1; simp [hnl] at this; exact List.eq_nil_of_length_eq_zero this.symm
              subst h0
              refine ⟨_, w, τ, run_append_fit ht hi hdx hni (hlen w) hfc (Nat.le_refl _) (fun _ => rfl) (fun a ha => by cases ha), Tau.le_refl _, k, .snil, Fr.refl _ _, fun j hj => .inl hj, fun _ _ x => .inl x⟩
            · rename_i hn
              cases hq
              obtain ⟨new', hnew, hlen, hfc, hnl⟩ := qelems_sound kd hel hx
              obtain ⟨cap, c1, c2, hr⟩ := run_append_new (P := P) (ty := ty) (base := none) (sLen := 0) (sCap := 0) (old := []) ht hi hz hdx hni p2 (hlen w) hfc (by simp [Builtin.firstCells]) (by omega) (by rw [Nat.zero_add]; exact hc)
              rw [Nat.zero_add] at hr c1
              obtain ⟨τ', q1, q2, q3, q4, q5⟩ := fresh_row k hnew (Builtin.zeroCells z.cells (cap - n)) el p1 c1 c2 hnl (by rw [zeroCells_size, p3])
              exact ⟨_, _, τ', hr, q1, q2, q3, q4.mono (fun _ _ x => x.elim), q5⟩
          · -- a row with room behind it
            rename_i b o sz m m'
            split at hq
            · rename_i cs hb
              split at hq
              · rename_i hcnd
                obtain ⟨hsz0, hlen0⟩ := hcnd
                cases hq
                obtain ⟨hlim, hone⟩ := hc
                have hcs : hcells h b = some cs := by simp [hcells, hb, PO.cells]
                cases hs with
                | @sun _ p _ _ _ _ cc hp hsz hmc hcc hl =>
                  subst hsz0
                  by_cases hfit : m + n ≤ cc
                  · obtain ⟨new', hnew, hlen, hfc, hnl⟩ := qelems_sound k hel hx
                    obtain ⟨w', τ', r1, r2, r3, r4, r5, r6⟩ := room_row (P := P) k hp hb hsz hl hcc hlen0 hnew hnl hone hfit
                    exact ⟨_, w', τ', run_append_fit ht hi hdx hni (hlen w) hfc hfit (fun h => by cases h) (fun a ha => by cases ha; exact r1), r2, r3, r4, r5, fun j hj => .inl (r6.1 j hj), r6.2⟩
                  · obtain ⟨new', hnew, hlen, hfc, hnl⟩ := qelems_sound kd hel hx
                    obtain ⟨old', e1, e2, e3⟩ := kd.cells hp hcs o (m * i.size) (by omega)
                    have hold : (cs.drop o).take (m * i.size) = cs.drop o := List.take_of_length_le (by simp; omega)
                    rw [hold] at e2
                    have hro : (Builtin.firstCells i.size m (.slice (some (p.base.add o)) m cc)).run P w.drew = .ok old'.toArray w.drew := by
                      have hr := run_loadCells_list (P := P) w.drew _ old' e3
                      rw [e1] at hr
                      simpa [Builtin.firstCells] using hr
                    obtain ⟨cap, c1, c2, hr⟩ := run_append_new (P := P) (ty := ty) ht hi hz hdx hni p2 (hlen w) hfc hro (by omega) hlim
                    obtain ⟨τ', q1, q2, q3, q4, q5⟩ := fresh_row (k.kill b) (all := cs.drop o ++ new) (all' := old' ++ new') (e2.app hnew) (Builtin.zeroCells z.cells (cap - (m + n))) el p1 c1 c2 (by simp [hnl, Nat.add_mul]; omega) (by rw [zeroCells_size, p3])
                    simp only [List.length_set] at q2 q3 q5
                    exact ⟨_, _, τ', hr, q1, q2, q3, q4.mono (fun _ _ x => x.elim), fun j hj => (q5.1 j hj).imp wset_kill id, by simpa using q5.2⟩
                | sue _ _ _ _ a =>
                  subst hsz0
                  have hd : cs.drop o = [] := List.drop_eq_nil_of_le (by omega)
                  by_cases hn : n = 0
                  · subst hn
                    obtain ⟨new', hnew, hlen, hfc, hnl⟩ := qelems_sound k hel hx
                    have h0 : new' = [] := by have := hnew.1; simp [hnl] at this; exact List.eq_nil_of_length_eq_zero this.symm
                    subst h0
                    refine ⟨_, w, τ, run_append_fit ht hi hdx hni (hlen w) hfc (Nat.le_refl _) (fun h => by cases h) (fun a' ha => by cases ha; simp [storeCells]), Tau.le_refl _, (k.kill b).append _, .sue _ _ _ _ _, Fr.refl _ _, fun j hj => ?_, fun _ _ x => .inl x⟩
                    obtain ⟨c, q, x, a1, a2, a3, rfl⟩ := hj
                    obtain ⟨o1, h4, _⟩ := (k.kill b).ob c q a1
                    rw [List.getElem?_append_left (List.getElem?_eq_some_iff.1 h4).1] at a2
                    exact .inl (wset_kill ⟨c, q, x, a1, a2, a3, rfl⟩)
                  · obtain ⟨new', hnew, hlen, hfc, hnl⟩ := qelems_sound kd hel hx
                    obtain ⟨cap, c1, c2, hr⟩ := run_append_new (P := P) (ty := ty) (base := some a) (sLen := 0) (sCap := 0) (old := []) ht hi hz hdx hni p2 (hlen w) hfc (by simp [Builtin.firstCells, loadCells, loadCellsFrom]) (by omega) (by simpa using hlim)
                    obtain ⟨τ', q1, q2, q3, q4, q5⟩ := fresh_row (k.kill b) (all := cs.drop o ++ new) (all' := [] ++ new') (by rw [hd]; exact hnew) (Builtin.zeroCells z.cells (cap - (0 + n))) el p1 c1 c2 (by simp [hnl, hd]) (by rw [zeroCells_size, p3])
                    simp only [List.length_set] at q2 q3 q5
                    exact ⟨_, _, τ', hr, q1, q2, q3, q4.mono (fun _ _ x => x.elim), fun j hj => (q5.1 j hj).imp wset_kill id, by simpa using q5.2⟩
                | su0 => omega
              · cases hq
            · cases hq
          · -- a slice whose capacity is known
            rename_i b o m cp
            split at hq
            · rename_i hfit
              obtain ⟨h1, hput1, hq⟩ := Option.map_eq_some_iff.1 hq
              cases hq
              obtain ⟨new', hnew, hlen, hfc, hnl⟩ := qelems_sound k hel hx
              cases hs with
              | @sex _ p _ _ _ hp =>
                obtain ⟨w', r1, r2, r3, r4⟩ := hput_sound (P := P) k hp hnew hc hput1
                exact ⟨_, w', τ, run_append_fit ht hi hdx hni (hlen w) hfc hfit (fun h => by cases h) (fun a ha => by cases ha; rw [add_add']; exact r1), Tau.le_refl _, r2, .sex _ _ _ hp, r3, fun j hj => .inl (r4 j hj), fun _ _ x => .inl x⟩
              | se0 _ _ a =>
                obtain rfl : n = 0 := by omega
                have hn0 : new = [] := List.eq_nil_of_length_eq_zero (by simpa using hnl)
                subst hn0
                have h0 : new' = [] := by have := hnew.1; simp at this; exact List.eq_nil_of_length_eq_zero this.symm
                subst h0
                have hsame : h' = h := by
                  unfold hput at hput1
                  have hl0 : ∀ (cs : List Value) (j : Nat), laid cs [] j = cs := fun cs j => by simp [laid]
                  split at hput1
                  · rename_i cs hb
                    split at hput1
                    · cases hput1; rw [hl0]; exact List.set_getElem?_self' hb
                    · cases hput1
                  · rename_i cs hb
                    split at hput1
                    · cases hput1; rw [hl0]; exact List.set_getElem?_self' hb
                    · cases hput1
                  · cases hput1
                subst hsame
                exact ⟨_, w, τ, run_append_fit ht hi hdx hni (hlen w) hfc hfit (fun h => by cases h) (fun a' ha => by cases ha; simp [storeCells]), Tau.le_refl _, k, .se0 _ _ _, Fr.refl _ _, fun j hj => .inl hj, fun _ _ x => .inl x⟩
            · rename_i hfit
              split at hq
              · rename_i cs hcs
                split at hq
                · rename_i hle
                  cases hq
                  obtain ⟨new', hnew, hlen, hfc, hnl⟩ := qelems_sound kd hel hx
                  cases hs with
                  | @sex _ p _ _ _ hp =>
                    obtain ⟨old', e1, e2, e3⟩ := kd.cells hp hcs o (m * i.size) hle
                    have hro : (Builtin.firstCells i.size m (.slice (some (p.base.add o)) m cp)).run P w.drew = .ok old'.toArray w.drew := by
                      have hr := run_loadCells_list (P := P) w.drew _ old' e3
                      rw [e1] at hr
                      simpa [Builtin.firstCells] using hr
                    obtain ⟨cap, c1, c2, hr⟩ := run_append_new (P := P) (ty := ty) ht hi hz hdx hni p2 (hlen w) hfc hro (by omega) hc
                    obtain ⟨τ', q1, q2, q3, q4, q5⟩ := fresh_row k (all := (cs.drop o).take (m * i.size) ++ new) (all' := old' ++ new') (e2.app hnew) (Builtin.zeroCells z.cells (cap - (m + n))) el p1 c1 c2 (by simp [hnl, Nat.add_mul]; omega) (by rw [zeroCells_size, p3])
                    exact ⟨_, _, τ', hr, q1, q2, q3, q4.mono (fun _ _ x => x.elim), q5⟩
                  | se0 _ _ a =>
                    obtain ⟨cap, c1, c2, hr⟩ := run_append_new (P := P) (ty := ty) (base := some a) (sLen := 0) (sCap := 0) (old := []) ht hi hz hdx hni p2 (hlen w) hfc (by simp [Builtin.firstCells, loadCells, loadCellsFrom]) (by omega) (by simpa using hc)
                    obtain ⟨τ', q1, q2, q3, q4, q5⟩ := fresh_row k (all := (cs.drop o).take (0 * i.size) ++ new) (all' := [] ++ new') (by simpa using hnew) (Builtin.zeroCells z.cells (cap - (0 + n))) el p1 c1 c2 (by simp [hnl]) (by rw [zeroCells_size, p3])
                    exact ⟨_, _, τ', hr, q1, q2, q3, q4.mono (fun _ _ x => x.elim), q5⟩
                · cases hq
              · cases hq
          · cases hq
        · cases hq
      · cases hq
    · cases hq
  · cases hq
end
end Go.Proofs.YtjopikjefpenkaaDoor
/- The plain machine's copy and clear; all that writes. -/
namespace Go.Proofs.YtjopikjefpenkaaDoor
open Go.RowKit
/-- The first so many elements of a slice or a string. -/
def qfirst (h : List PO) (sz n : Nat) : Value → Option (List Value)
  | .slice none _ _ => if n = 0 then some [] else none
  | .slice (some ⟨b, o, _⟩) m _ => match hcells h b with
    | some cs => if o + n * sz ≤ cs.length ∧ n ≤ m then some ((cs.drop o).take (n * sz)) else if n = 0 then some [] else none
    | none => if n = 0 then some [] else none
  | .string s => if sz = 1 ∧ n ≤ s.size then some ((s.data.toList.take n).map fun b => .int .u8 b.toNat) else none
  | _ => none
def vlen : Value → Option Nat
  | .slice _ n _ => some n
  | .string s => some s.size
  | _ => none
/-- What a call of a builtin that writes slices comes to. -/
def qbw (P : Program) (h : List PO) (b : Builtin) (tys : List TypeId) (args : List Value) : Option (Prop × Value × List PO) :=
  match b, tys, args with
  | .append, [t, tx], [s, x] => qappend P h t tx s x
  | .copy, [t, _], [d, x] => match P.underlying t, vlen x with
    | some (.slice el), some m => match szOf P el, d with
      | some _, .slice none _ _ => some (True, .int .i64 0, h)
      | some sz, .slice (some ⟨b, o, _⟩) n _ => match qfirst h sz (min m n) x with
        | some new => (hput h b o new).map fun h' => (∀ v ∈ new, v.oneCell' = true, .int .i64 (min m n : Nat), h')
        | none => none
      | _, _ => none
    | _, _ => none
  | .clear, [t], [x] => match P.underlying t, x with
    | some (.slice _), .slice none _ _ => some (True, .tuple #[], h)
    | some (.slice el), .slice (some ⟨b, o, _⟩) n _ => match zOf P el with
      | some z => if flat 6 z ∧ 0 < z.cells.size then (hput h b o (rep n z.cells.toList)).map fun h' => (∀ v ∈ z.cells.toList, v.oneCell' = true, .tuple #[], h') else none
      | none => none
    | _, _ => none
  | _, _, _ => none
section
variable {P : Program} {τ : Tau}
theorem hput_nil {h h' : List PO} {b o : Nat} (hh : hput h b o [] = some h') : h' = h := by
  unfold hput at hh
  have hl0 : ∀ (cs : List Value) (j : Nat), laid cs [] j = cs := fun cs j => by simp [laid]
  split at hh
  · rename_i cs hb
    split at hh
    · cases hh; rw [hl0]; exact List.set_getElem?_self' hb
    · cases hh
  · rename_i cs hb
    split at hh
    · cases hh; rw [hl0]; exact List.set_getElem?_self' hb
    · cases hh
  · cases hh
theorem hput_slice {h h' : List PO} {w : World} (k : RH τ h w) {b o n c : Nat} {sp : Option Nat} {s' : Value} (hs : VR τ (.slice (some ⟨b, o, sp⟩) n c) s') {vs vs' : List Value} (hv : VRs τ vs.toArray vs'.toArray) (h1 : ∀ v ∈ vs, v.oneCell' = true) (hh : hput h b o vs = some h') (hn : n = 0 → vs = []) :
    ∃ A c' w', s' = .slice (some A) n c' ∧ (storeCells A vs').run P w = .ok () w' ∧ RH τ h' w' ∧ Fr (wset τ h) w w' ∧ ∀ j, wset τ h' j → wset τ h j := by
  by_cases h0 : n = 0
  · obtain ⟨A, c', rfl⟩ := hs.sliceSome
    have hvs := hn h0
    subst hvs
    have h0 : vs' = [] := by have := hv.1; simp at this; exact List.eq_nil_of_length_eq_zero this.symm
    subst h0
    obtain rfl := hput_nil hh
    exact ⟨A, c', w, rfl, by simp [storeCells], k, Fr.refl _ _, fun j hj => hj⟩
  · obtain ⟨p, cc, hp, rfl⟩ := hs.slicePos (by omega)
    obtain ⟨w', r1, r2, r3, r4⟩ := hput_sound (P := P) k hp hv h1 hh
    exact ⟨_, _, w', rfl, r1, r2, r3, r4⟩
theorem qfirst_sound {h : List PO} {w : World} (k : RH τ h w) {sz n : Nat} {x x' : Value} {new : List Value} (hq : qfirst h sz n x = some new) (hx : VR τ x x') :
    ∃ new' : List Value, VRs τ new.toArray new'.toArray ∧ (Builtin.firstCells sz n x').run P w = .ok new'.toArray w ∧ new.length = n * sz := by
  unfold qfirst at hq
  have v0 : VRs τ ([] : List Value).toArray ([] : List Value).toArray := ⟨rfl, fun i v v' h => by simp at h⟩
  have z0 : ∀ {b o m c sp} {y : Value}, VR τ (.slice (some ⟨b, o, sp⟩) m c) y → ∃ new' : List Value, VRs τ ([] : List Value).toArray new'.toArray ∧ (Builtin.firstCells sz 0 y).run P w = .ok new'.toArray w ∧ ([] : List Value).length = 0 * sz := fun hy => by
    obtain ⟨a, c, rfl⟩ := hy.sliceSome
    exact ⟨[], v0, by simp [Builtin.firstCells, loadCells, loadCellsFrom], by simp⟩
  split at hq
  · split at hq
    · rename_i hn
      cases hq; subst hn
      obtain rfl := hx.sliceNone
      exact ⟨[], v0, by simp [Builtin.firstCells], by simp⟩
    · cases hq
  · rename_i b o sp m c
    split at hq
    · rename_i cs hcs
      split at hq
      · rename_i hle
        cases hq
        by_cases hm : n = 0
        · subst hm
          obtain ⟨new', h1, h2, h3⟩ := z0 hx
          exact ⟨new', by simpa using h1, h2, by simp⟩
        · obtain ⟨p, cc, hp, rfl⟩ := hx.slicePos (by omega)
          obtain ⟨vs, e1, e2, e3⟩ := k.cells hp hcs o (n * sz) hle.1
          refine ⟨vs, e2, ?_, by simp; omega⟩
          have hr := run_loadCells_list (P := P) w _ vs e3
          rw [e1] at hr
          simpa [Builtin.firstCells] using hr
      · split at hq
        · rename_i hm; cases hq; subst hm
          exact z0 hx
        · cases hq
    · split at hq
      · rename_i hm; cases hq; subst hm
        exact z0 hx
      · cases hq
  · rename_i s
    split at hq
    · rename_i hsz
      cases hq
      obtain ⟨rfl, hn⟩ := hsz
      obtain rfl := hx.str'
      refine ⟨(s.data.toList.take n).map fun b => .int .u8 b.toNat, ⟨rfl, fun i v v' h1 h2 => ?_⟩, ?_, by simp; exact Nat.min_eq_left hn⟩
      · rw [h1] at h2; cases h2
        simp only [List.getElem?_toArray, List.getElem?_map] at h1
        obtain ⟨b, _, rfl⟩ := Option.map_eq_some_iff.1 h1
        exact .int _ _
      · simp only [Builtin.firstCells, Sem.run_pure]
        congr 1
        apply Array.ext'
        simp
    · cases hq
  · cases hq
theorem qbw_sound {h h' : List PO} {w : World} (k : RH τ h w) {b : Builtin} {tys : Array TypeId} {ty : TypeId} {args : List Value} {args' : Array Value} {v : Value} {c : Prop} (hq : qbw P h b tys.toList args = some (c, v, h')) (hc : c) (ha : VRs τ args.toArray args') (consts : Array Bool) :
    ∃ v' w' τ', (builtin b tys ty consts args').run P w = .ok (.value v') w' ∧ τ.le τ' ∧ RH τ' h' w' ∧ VR τ' v v' ∧ Fr (wset τ h) w w' ∧ (∀ j, wset τ' h' j → wset τ h j ∨ w.heap.size ≤ j) ∧ (∀ c p, τ' c = some p → τ c = some p ∨ h.length ≤ c) := by
  unfold qbw at hq
  split at hq
  · rename_i t tx s x hty
    obtain ⟨s', x', rfl, hs, hx⟩ := ha.two
    obtain rfl : tys = #[t, tx] := Array.ext' (by simpa using hty)
    obtain ⟨v', w', τ', r1, r2⟩ := qappend_sound (ty := ty) k hq hc hs hx
    exact ⟨v', w', τ', by simp only [builtin, Sem.run_bind, r1, Result.andThen_ok, Sem.run_pure], r2⟩
  · rename_i t tx d x hty
    obtain ⟨d', x', rfl, hd, hx⟩ := ha.two
    obtain rfl : tys = #[t, tx] := Array.ext' (by simpa using hty)
    split at hq
    · rename_i el m ht hm
      have hlen : ∀ w, (Builtin.lenOf x').run P w = .ok m w := by
        unfold vlen at hm
        split at hm
        · cases hm
          intro w
          cases hx <;> simp [Builtin.lenOf]
        · cases hm
          intro w
          cases hx; simp [Builtin.lenOf]
        · cases hm
      split at hq
      · rename_i sz n0 c0 hs
        cases hq
        obtain rfl := hd.sliceNone
        have hfc : (Builtin.firstCells sz 0 x').run P w = .ok #[] w := by
          unfold vlen at hm
          split at hm
          · cases hx <;> simp [Builtin.firstCells, loadCells, loadCellsFrom]
          · cases hx; simp [Builtin.firstCells]
          · cases hm
        refine ⟨.int .i64 0, w, τ, ?_, Tau.le_refl _, k, .int _ _, Fr.refl _ _, fun j hj => .inl hj, fun _ _ x => .inl x⟩
        simp only [builtin, Builtin.copy_, Sem.run_bind]
        simp [run_und ht, run_szOf hs, hlen, hfc, goInt]
      · rename_i sz b o sp n cp hs
        split at hq
        · rename_i new hnew
          obtain ⟨h1, hput1, hq⟩ := Option.map_eq_some_iff.1 hq
          cases hq
          obtain ⟨new', e1, e2, e3⟩ := qfirst_sound (P := P) k hnew hx
          obtain ⟨A, c', w', rfl, r1, r2, r3, r4⟩ := hput_slice (P := P) k hd e1 hc hput1 (fun hn => List.eq_nil_of_length_eq_zero (by rw [e3, hn]; simp))
          refine ⟨.int .i64 (min m n : Nat), w', τ, ?_, Tau.le_refl _, r2, .int _ _, r3, fun j hj => .inl (r4 j hj), fun _ _ x => .inl x⟩
          simp only [builtin, Builtin.copy_, Sem.run_bind]
          have e2' : (Builtin.firstCells sz (Nat.min m n) x').run P w = .ok new'.toArray w := e2
          simp [run_und ht, run_szOf hs, hlen, e2', r1, goInt]
        · cases hq
      · cases hq
    · cases hq
  · rename_i t x hty
    obtain ⟨x', rfl, hx⟩ := ha.one
    obtain rfl : tys = #[t] := Array.ext' (by simpa using hty)
    split at hq
    · rename_i el n0 c0 ht
      cases hq
      obtain rfl := hx.sliceNone
      refine ⟨.tuple #[], w, τ, ?_, Tau.le_refl _, k, .tuple rfl (fun i v v' h => by simp at h), Fr.refl _ _, fun j hj => .inl hj, fun _ _ x => .inl x⟩
      simp only [builtin, Builtin.clear_, Sem.run_bind]
      simp [run_und ht]
    · rename_i el b o sp n cp ht
      split at hq
      · rename_i z hz
        split at hq
        · rename_i hcnd
          obtain ⟨h1, hput1, hq⟩ := Option.map_eq_some_iff.1 hq
          cases hq
          have hfr := flat_rep (VRs.of_flat (τ := τ) hcnd.1) n
          obtain ⟨A, c', w', rfl, r1, r2, r3, r4⟩ := hput_slice (P := P) k hx hfr (fun v hv => by
            simp only [rep, List.mem_flatten, List.mem_replicate] at hv
            obtain ⟨l, ⟨_, rfl⟩, hv⟩ := hv
            exact hc v hv) hput1 (fun hn => by subst hn; rfl)
          refine ⟨.tuple #[], w', τ, ?_, Tau.le_refl _, r2, .tuple rfl (fun i v v' h => by simp at h), r3, fun j hj => .inl (r4 j hj), fun _ _ x => .inl x⟩
          by_cases hn : n = 0
          · subst hn
            have hw : w' = w := by simpa [rep, storeCells] using r1.symm
            subst hw
            simp only [builtin, Builtin.clear_, Sem.run_bind]
            simp [run_und ht]
          · have hzc : (Builtin.zeroCells z.cells n).toList = rep n z.cells.toList := by
              have := rep_cells n z.cells hcnd.2
              unfold Builtin.zeroCells
              rw [this]
            simp only [builtin, Builtin.clear_, Sem.run_bind]
            simp [run_und ht, run_zOf hz, hzc, r1]
        · cases hq
      · cases hq
    · cases hq
  · cases hq
theorem hput_len {h h' : List PO} {b o : Nat} {vs : List Value} (hh : hput h b o vs = some h') : h'.length = h.length := by
  unfold hput at hh
  split at hh
  · split at hh
    · cases hh; simp
    · cases hh
  · split at hh
    · cases hh; simp
    · cases hh
  · cases hh
theorem qappend_len {h h' : List PO} {t tx : TypeId} {s x v : Value} {c : Prop} (hq : qappend P h t tx s x = some (c, v, h')) : h.length ≤ h'.length := by
  unfold qappend at hq
  repeat' split at hq
  all_goals first
    | (cases hq; done)
    | (cases hq; simp; done)
    | (obtain ⟨h1, e1, e2⟩ := Option.map_eq_some_iff.1 hq; cases e2; rw [hput_len e1]; exact Nat.le_refl _)
theorem qbw_len {h h' : List PO} {b : Builtin} {tys : List TypeId} {args : List Value} {v : Value} {c : Prop} (hq : qbw P h b tys args = some (c, v, h')) : h.length ≤ h'.length := by
  unfold qbw at hq
  repeat' split at hq
  all_goals first
    | (cases hq; done)
    | (cases hq; exact Nat.le_refl _)
    | (exact qappend_len hq)
    | (obtain ⟨h1, e1, e2⟩ := Option.map_eq_some_iff.1 hq; cases e2; rw [hput_len e1]; exact Nat.le_refl _)
end
end Go.Proofs.YtjopikjefpenkaaDoor
/- The plain machine's operations that write maps and walkers. -/
namespace Go.Proofs.YtjopikjefpenkaaDoor
open Go.RowKit
/-- The entries with one put. -/
def mput (es : List (Value × Value)) (k v : Value) : Option (Nat × Value) → List (Value × Value)
  | some p => es.set p.1 (k, v)
  | none => es ++ [(k, v)]
def qw (P : Program) (e : Env) (h : List PO) : Op → Option (Prop × Value × List PO)
  | .mapUpdate t m k x => match P.underlying t, ev e m, ev e k, ev e x with
    | some (.map kt _), some (.map (some b)), some k, some v => match P.underlying kt, h[b]? with
      | some d, some (.mp es) => if pkey d k then (pfind d k es 0).map fun r => (True, undef, h.set b (.mp (mput es k v r))) else none
      | _, _ => none
    | _, _, _, _ => none
  | .next it true => match ev e it with
    | some (.pointer (some ⟨b, 0, none⟩)) => match h[b]? with
      | some (.si s pos) => if pos < s.size then some (True, .tuple #[.bool true, .int .i64 pos, .int .i32 (Utf8.decode s pos).1], h.set b (.si s (pos + (Utf8.decode s pos).2))) else some (True, .tuple #[.bool false], h)
      | _ => none
    | _ => none
  | _ => none
section
variable {P : Program} {τ : Tau}
theorem qw_true {e : Env} {h h' : List PO} {op : Op} {c : Prop} {v : Value} (hq : qw P e h op = some (c, v, h')) : c := by
  unfold qw at hq
  repeat' split at hq
  all_goals first
    | (cases hq; done)
    | (cases hq; trivial)
    | (obtain ⟨r, _, e1⟩ := Option.map_eq_some_iff.1 hq; cases e1; trivial)
theorem Fr.set (w : World) (b : Nat) (o : Obj) : Fr (· = b) w { w with heap := w.heap.setIfInBounds b o } :=
  ⟨rfl, rfl, rfl, by simp, fun k _ hn => by simp [Ne.symm hn]⟩
theorem run_setObj_si {w : World} {r : Nat} {s : ByteArray} {pos : Nat} (o : Obj) (hb : w.heap[r]? = some (.stringIter s pos)) : (setObj r o).run P w = .ok () { w with heap := w.heap.setIfInBounds r o } := by
  simp [setObj, Sem.run, hb]
theorem run_getObj_si {w : World} {r : Nat} {s : ByteArray} {pos : Nat} (hb : w.heap[r]? = some (.stringIter s pos)) : (getObj r).run P w = .ok (.stringIter s pos) w := by
  simp [getObj, Sem.run, hb]
theorem qw_sound {e : Env} {a : Act} {o : Oper} {h h' : List PO} {w : World} {c : Prop} {v : Value} (hx : Ag τ e a) (k : RH τ h w) (hq : qw P e h o.op = some (c, v, h')) :
    ∃ r v' w', (execOp a.eval o).run P w = .ok r w' ∧ (r = .value v' ∨ (r = .skip ∧ v' = undef)) ∧ RH τ h' w' ∧ VR τ v v' ∧ Fr (wset τ h) w w' ∧ (∀ j, wset τ h' j → wset τ h j) ∧ h'.length = h.length := by
  obtain ⟨dst, op, type, pos, after, guard⟩ := o
  simp only at hq
  unfold qw at hq
  split at hq
  · rename_i t m ko x
    split at hq
    · rename_i kt et b kv v1 ht h1 h2 h3
      split at hq
      · rename_i d es hd hb
        split at hq
        · rename_i hpk
          obtain ⟨r, hr, hq⟩ := Option.map_eq_some_iff.1 hq
          cases hq
          have hk2 := pkey_isKey hpk
          have e2 : a.eval ko = kv := (hx _ _ h2).flat_eq 1 (by
            unfold pkey at hpk
            split at hpk <;> first | rfl | cases hpk)
          have hv1 := hx _ _ h3
          have e1 := hx _ _ h1
          generalize hmv : a.eval m = mv at e1
          cases e1 with
          | map hp h0 =>
          rename_i p
          obtain ⟨o, g1, g2, _⟩ := k.ob b p hp
          rw [hb] at g1; cases g1
          obtain ⟨es', ck, _, q1, q2, q3, q4, q5⟩ := g2.map
          have hfs := pfind_sound es es'.toList 0 r q2 q3 hr
          have hck := MapKept.run_checkKey (w := w) hd hk2 false 9999
          have hlen : es'.size = es.length := by simpa using q2
          cases r with
          | none =>
            have hfk := MapKept.run_findKey (w := w) hd hfs
            refine ⟨.skip, undef, _, ?_, .inr ⟨rfl, rfl⟩, k.turn hp hb rfl rfl (Fr.set w _ (.map (es'.push { key := kv, val := a.eval x, born := ck }) (ck + 1))) ⟨h0, _, ck + 1, (MapKept.heap_set q1).1, ?_, ?_, ?_⟩, (.tuple rfl (fun i v v' h => by simp at h)), (Fr.set w _ _).mono (fun j _ ej => ⟨b, p, _, hp, hb, rfl, ej.symm⟩), fun j => wset_turn hb rfl, by simp⟩
            · simp only [execOp, hmv, e2, Instr.mapUpdate, Sem.run_bind, run_und ht, Result.andThen_ok, MapKept.run_getObj_map q1, hck, hfk, MapKept.run_setObj_map _ q1, Sem.run_pure]
            · simp [mput, hlen]
            · intro i kx vx ex a1 a2
              simp only [mput] at a1
              by_cases hi : i < es.length
              · rw [List.getElem?_append_left hi] at a1
                rw [Array.getElem?_push, if_neg (by omega)] at a2
                obtain ⟨b1, b2, b3⟩ := q4 i kx vx ex a1 a2
                exact ⟨b1, b2, by omega⟩
              · have hi2 : i = es.length := by
                  have := (List.getElem?_eq_some_iff.1 a1).1
                  simp at this; omega
                subst hi2
                simp at a1
                rw [Array.getElem?_push, if_pos hlen.symm] at a2
                cases a2
                obtain ⟨rfl, rfl⟩ := a1
                exact ⟨rfl, hv1, by simp⟩
            · intro i j ex fx a1 a2 hbn
              have old : ∀ (i : Nat) (ex : MapEntry), es'[i]? = some ex → ex.born < ck := fun i ex ha => by
                have hi : i < es.length := by have := (Array.getElem?_eq_some_iff.1 ha).1; omega
                exact (q4 i (es[i]).1 (es[i]).2 ex (by simp [hi]) ha).2.2
              rw [Array.getElem?_push] at a1 a2
              split at a1
              · split at a2
                · omega
                · cases a1
                  have := old _ _ a2
                  simp at hbn; omega
              · split at a2
                · cases a2
                  have := old _ _ a1
                  simp at hbn; omega
                · exact q5 i j ex fx a1 a2 hbn
          | some pr =>
            obtain ⟨i0, v0⟩ := pr
            obtain ⟨v', f1, f2, _, x0, f3, f4⟩ := hfs
            subst f4
            have hfk := MapKept.run_findKey (w := w) hd f1
            simp only [Nat.sub_zero] at f3
            have hi0 : i0 < es.length := (List.getElem?_eq_some_iff.1 f3).1
            obtain ⟨e0, he0⟩ : ∃ e0, es'[i0]? = some e0 := ⟨es'[i0]'(by omega), by simp [hlen, hi0]⟩
            obtain ⟨c1, c2, c3⟩ := q4 i0 _ _ e0 f3 he0
            have hst := MapKept.run_keyThatStays (P := P) (w := w) hk2
            refine ⟨.skip, undef, _, ?_, .inr ⟨rfl, rfl⟩, k.turn hp hb rfl rfl (Fr.set w _ (.map (es'.modify i0 fun e => { e with key := x0, val := a.eval x }) ck)) ⟨h0, _, ck, (MapKept.heap_set q1).1, ?_, ?_, ?_⟩, (.tuple rfl (fun i v v' h => by simp at h)), (Fr.set w _ _).mono (fun j _ ej => ⟨b, p, _, hp, hb, rfl, ej.symm⟩), fun j => wset_turn hb rfl, by simp⟩
            · simp only [execOp, hmv, e2, Instr.mapUpdate, Sem.run_bind, run_und ht, Result.andThen_ok, MapKept.run_getObj_map q1, hck, hfk, he0, Option.map_some, Option.getD_some, c1, hst, MapKept.run_setObj_map _ q1, Sem.run_pure]
            · simp [mput, hlen]
            · intro i kx vx ex a1 a2
              simp only [mput] at a1
              rw [Array.getElem?_modify] at a2
              by_cases hi : i0 = i
              · subst hi
                rw [List.getElem?_set_self hi0] at a1
                rw [if_pos rfl, he0] at a2
                cases a1; cases a2
                exact ⟨rfl, hv1, c3⟩
              · rw [List.getElem?_set_ne hi] at a1
                rw [if_neg hi] at a2
                exact q4 i kx vx ex a1 a2
            · intro i j ex fx a1 a2 hbn
              have old : ∀ (i : Nat) (ex : MapEntry), (es'.modify i0 fun e => { e with key := x0, val := a.eval x })[i]? = some ex → ∃ ey, es'[i]? = some ey ∧ ey.born = ex.born := fun i ex ha => by
                rw [Array.getElem?_modify] at ha
                split at ha
                · rename_i hi; subst hi
                  rw [he0] at ha; cases ha
                  exact ⟨e0, he0, rfl⟩
                · exact ⟨ex, ha, rfl⟩
              obtain ⟨ey, r1, r2⟩ := old _ _ a1
              obtain ⟨fy, r3, r4⟩ := old _ _ a2
              exact q5 i j ey fy r1 r3 (by rw [r2, r4, hbn])
        · cases hq
      · cases hq
    · cases hq
  · rename_i it
    split at hq
    · rename_i b h1
      split at hq
      · rename_i s pos hb
        obtain ⟨p, hp, e1⟩ := (hx _ _ h1).ptr'
        obtain ⟨o, g1, g2, _⟩ := k.ob b p hp
        rw [hb] at g1; cases g1
        obtain ⟨h0, h00, g3⟩ := g2
        have e1' : a.eval it = .pointer (some ⟨p.base.block, 0, none⟩) := by
          rw [e1]
          obtain ⟨⟨x, y, z⟩, l⟩ := p
          simp only at h0 h00; subst h0; subst h00; rfl
        split at hq
        · rename_i hlt
          cases hq
          refine ⟨.value (.tuple #[.bool true, .int .i64 pos, .int .i32 (Utf8.decode s pos).1]), .tuple #[.bool true, .int .i64 pos, .int .i32 (Utf8.decode s pos).1], _, ?_, .inl rfl, k.turn hp hb rfl rfl (Fr.set w _ (.stringIter s (pos + (Utf8.decode s pos).2))) ⟨h0, h00, (MapKept.heap_set g3).1⟩, .tuple rfl (fun i v v' q1 q2 => ?_), (Fr.set w _ _).mono (fun j _ ej => ⟨b, p, _, hp, hb, rfl, ej.symm⟩), fun j => wset_turn hb rfl, by simp⟩
          · simp only [execOp, e1', Instr.next, Sem.run_bind, run_getObj_si g3, Result.andThen_ok, hlt, if_true, run_setObj_si _ g3, Sem.run_pure, goInt]
          · match i with
            | 0 => cases q1; cases q2; exact .bool _
            | 1 => cases q1; cases q2; exact .int _ _
            | 2 => cases q1; cases q2; exact .int _ _
            | n + 3 => simp at q1
        · rename_i hlt
          cases hq
          refine ⟨.value (.tuple #[.bool false]), .tuple #[.bool false], w, ?_, .inl rfl, k, .tuple rfl (fun i v v' q1 q2 => ?_), Fr.refl _ _, fun j hj => hj, rfl⟩
          · simp only [execOp, e1', Instr.next, Sem.run_bind, run_getObj_si g3, Result.andThen_ok, hlt, if_false, Sem.run_pure]
          · match i with
            | 0 => cases q1; cases q2; exact .bool _
            | n + 1 => simp at q1
      · cases hq
    · cases hq
  · cases hq
end
end Go.Proofs.YtjopikjefpenkaaDoor
/- The plain machine's steps: operations, calls, regions. -/
namespace Go.Proofs.YtjopikjefpenkaaDoor
open Go.RowKit
/-- What has become of the memories. -/
structure Gr (τ : Tau) (h : List PO) (w : World) (τ' : Tau) (h' : List PO) (w' : World) : Prop where
  le : τ.le τ'
  rh : RH τ' h' w'
  fr : Fr (wset τ h) w w'
  ws : ∀ k, wset τ' h' k → wset τ h k ∨ w.heap.size ≤ k
  dom : ∀ b p, τ' b = some p → τ b = some p ∨ h.length ≤ b
  len : h.length ≤ h'.length
theorem Gr.refl {τ : Tau} {h : List PO} {w : World} (k : RH τ h w) : Gr τ h w τ h w := ⟨Tau.le_refl _, k, Fr.refl _ _, fun _ x => .inl x, fun _ _ x => .inl x, Nat.le_refl _⟩
theorem Gr.trans {τ τ' τ'' : Tau} {h h' h'' : List PO} {w w' w'' : World} (a : Gr τ h w τ' h' w') (b : Gr τ' h' w' τ'' h'' w'') : Gr τ h w τ'' h'' w'' :=
  ⟨Tau.le_trans a.le b.le, b.rh, a.fr.trans' b.fr a.ws, fun k hk => by
    rcases b.ws k hk with h1 | h1
    · exact a.ws k h1
    · exact .inr (Nat.le_trans a.fr.size h1), fun c p hc => by
    rcases b.dom c p hc with h1 | h1
    · exact a.dom c p h1
    · exact .inr (Nat.le_trans a.len h1), Nat.le_trans a.len b.len⟩
/-- Nothing old has turned, some was made. -/
structure Qr (τ : Tau) (h : List PO) (w : World) (τ' : Tau) (ns : List PO) (w' : World) : Prop where
  le : τ.le τ'
  dom : ∀ b p, τ' b = some p → τ b = some p ∨ (h.length ≤ b ∧ w.heap.size ≤ p.base.block)
  rh : RH τ' (h ++ ns) w'
  fr : Fr (fun _ => False) w w'
theorem Qr.gr {τ τ' : Tau} {h ns : List PO} {w w' : World} (hk : RH τ h w) (q : Qr τ h w τ' ns w') : Gr τ h w τ' (h ++ ns) w' := by
  refine ⟨q.le, q.rh, q.fr.mono (fun _ _ x => x.elim), fun k hw => ?_, fun b p hb => (q.dom b p hb).imp id And.left, by simp⟩
  obtain ⟨b, p, ob, g1, g2, g3, rfl⟩ := hw
  rcases q.dom b p g1 with g4 | ⟨_, g4⟩
  · obtain ⟨o1, g5, _⟩ := hk.ob b p g4
    rw [List.getElem?_append_left (List.getElem?_eq_some_iff.1 g5).1] at g2
    exact .inl ⟨b, p, ob, g4, g2, g3, rfl⟩
  · exact .inr g4
/-- A function that is walked into where it is called. -/
def Callable (P : Program) (f : FuncId) : Prop := ∃ fn, P.funcs[f]? = some fn ∧ fn.name ≠ "runtime.NumGoroutine" ∧ fn.body.isSome = true
theorem Callable.run {P : Program} {f : FuncId} (h : Callable P f) (args : Array Value) (w : World) : (callFunc f args).run P w = .ok (.enter f args) w := by
  obtain ⟨fn, h1, h2, h3⟩ := h
  have h4 : fn.body.isNone = false := by cases hb : fn.body <;> simp_all
  have h5 : (fn.name == "runtime.NumGoroutine") = false := by simpa using h2
  simp only [callFunc, Sem.run_bind, run_program, Result.andThen_ok, h1, h5, Bool.false_eq_true, if_false, h4, Sem.run_pure]
def panEntry (v : Value) : PanicEntry := { v, recovered := false }
/-- What holds of the world all along: it hangs on some old blocks alone. -/
class Inv where
  I : World → Prop
  B : Nat → Prop
  stable : ∀ w w' : World, (∀ k, B k → w'.heap[k]? = w.heap[k]?) → I w → I w'
variable [Inv]
/-- It holds, and no handle owns these blocks. -/
def J (τ : Tau) (h : List PO) (w : World) : Prop := Inv.I w ∧ ∀ k, Inv.B k → k < w.heap.size ∧ ¬ wset τ h k
theorem J.gr {τ τ' : Tau} {h h' : List PO} {w w' : World} (j : J τ h w) (g : Gr τ h w τ' h' w') : J τ' h' w' :=
  ⟨Inv.stable w w' (fun k hk => g.fr.block k (j.2 k hk).1 (j.2 k hk).2) j.1, fun k hk => ⟨Nat.lt_of_lt_of_le (j.2 k hk).1 g.fr.size, fun hw => by
    rcases g.ws k hw with h1 | h1
    · exact (j.2 k hk).2 h1
    · have := (j.2 k hk).1; omega⟩⟩
theorem J.sub {τ τ' : Tau} {h h' : List PO} {w : World} (j : J τ h w) (hs : ∀ k, wset τ' h' k → wset τ h k) : J τ' h' w := ⟨j.1, fun k hk => ⟨(j.2 k hk).1, fun hw => (j.2 k hk).2 (hs k hw)⟩⟩
theorem J.none {τ : Tau} {h h' : List PO} {w : World} (j : J τ h w) : J (fun _ => none) h' w := j.sub fun k ⟨b, p, o, h1, _⟩ => by cases h1
/-- A call, whatever stands for the memory. -/
def PC (P : Program) (f : FuncId) (args : List Value) (h : List PO) (K Kp : Value → List PO → Prop) : Prop :=
  Callable P f ∧ ∀ τ w args', RH τ h w → J τ h w → VRs τ args.toArray args' → Calls P f args' w fun e w' => ∃ h' τ' v v', Gr τ h w τ' h' w' ∧ VR τ' v v' ∧ ((e = .returned v' ∧ K v h') ∨ (e = .panicked [panEntry v'] ∧ Kp v h'))
/-- A call that only reads and makes. -/
def PCq (P : Program) (f : FuncId) (args : List Value) (h : List PO) (K : Value → List PO → Prop) : Prop :=
  Callable P f ∧ ∀ τ w args', RH τ h w → J τ h w → VRs τ args.toArray args' → Calls P f args' w fun e w' => ∃ ns τ' v v', Qr τ h w τ' ns w' ∧ VR τ' v v' ∧ e = .returned v' ∧ K v ns
theorem PCq.pc {P : Program} {f : FuncId} {args : List Value} {h : List PO} {K Kp : Value → List PO → Prop} (q : PCq P f args h fun v ns => K v (h ++ ns)) : PC P f args h K Kp :=
  ⟨q.1, fun τ w args' hk hj ha => (q.2 τ w args' hk hj ha).mono fun _ _ ⟨ns, τ', v, v', g, hv, he, hK⟩ => ⟨_, τ', v, v', g.gr hk, hv, .inl ⟨he, hK⟩⟩⟩
theorem PC.mono {P : Program} {f : FuncId} {args : List Value} {h : List PO} {K Kp K' Kp' : Value → List PO → Prop} (q : PC P f args h K Kp) (hK : ∀ v h, K v h → K' v h) (hp : ∀ v h, Kp v h → Kp' v h) : PC P f args h K' Kp' :=
  ⟨q.1, fun τ w args' hk hj ha => (q.2 τ w args' hk hj ha).mono fun _ _ ⟨h', τ', v, v', g, hv, he⟩ => ⟨h', τ', v, v', g, hv, he.imp (fun ⟨a, b⟩ => ⟨a, hK _ _ b⟩) (fun ⟨a, b⟩ => ⟨a, hp _ _ b⟩)⟩⟩
/-- All functions, any depth; in a round of a range over a function, or in none. -/
abbrev Fo (ro : Option Nat) : Fence := { Fence.wide with round := ro }
theorem fo_calls {ro : Option Nat} {P : Program} {f : FuncId} {args : Array Value} {w : World} {R : Ending → World → Prop} (h : Calls P f args w R) : CallsIn (Fo ro) 0 P f args w R := (callsIn_wide (n := 0)).2 h
/-- A round that yield asks for, whatever stands for the memory. -/
def PY (P : Program) (b : Nat) (args : List Value) (h : List PO) (K : Value → List PO → Prop) : Prop :=
  ∀ τ w args' p, τ b = some p → RH τ h w → J τ h w → VRs τ args.toArray args' → ∃ fn tmps assign body, (Instr.yield p.base.block args').run P w = .ok (.round p.base.block fn tmps assign body) w ∧ RoundIn Fence.wide 0 P p.base.block fn tmps assign body w fun e w' => ∃ h' τ' v v', Gr τ h w τ' h' w' ∧ VR τ' v v' ∧ e = .returned v' ∧ K v h'
theorem PY.mono {P : Program} {b : Nat} {args : List Value} {h : List PO} {K K' : Value → List PO → Prop} (q : PY P b args h K) (hK : ∀ v h, K v h → K' v h) : PY P b args h K' :=
  fun τ w args' p hp hk hj ha => by
    obtain ⟨fn, tmps, assign, body, h1, h2⟩ := q τ w args' p hp hk hj ha
    exact ⟨fn, tmps, assign, body, h1, h2.mono fun _ _ ⟨h', τ', v, v', g, hv, he, k⟩ => ⟨h', τ', v, v', g, hv, he, hK _ _ k⟩⟩
/-- An operation: what must be, for what comes then. -/
def pop (P : Program) (o : Op) (e : Env) (h : List PO) (K Kp : Value → List PO → Prop) : Prop :=
  match o with
  | .store t a x => match ev e a, ev e x, szOf P t with
    | some (.pointer (some ⟨b, o, none⟩)), some v, some n => match hput h b o v.cells.toList with
      | some h' => v.cells.size = n ∧ (∀ u ∈ v.cells.toList, u.oneCell' = true) ∧ K undef h'
      | none => False
    | _, _, _ => False
  | .panic x => match ev e x with
    | some (.iface t v) => Kp (.iface t v) h
    | _ => False
  | .call { callee := .value f, args, argTypes := _ } => match ev e f, evs e args.toList with
    | some (.func (.func f) first cap), some as => PC P f (first.toList ++ as ++ cap.toList) h K Kp
    | some (.func (.yield b) _ _), some as => PY P b as h K
    | _, _ => False
  | .call { callee := .builtin b, args, argTypes } => match qp P e (.call { callee := .builtin b, args, argTypes }) with
    | some (c, v) => c ∧ K v h
    | none => match evs e args.toList with
      | some as => match qbw P h b argTypes.toList as with
        | some (c, v, h') => c ∧ K v h'
        | none => False
      | none => False
  | op => match qp P e op with
    | some (c, v) => c ∧ K v h
    | none => match qm P e h op with
      | some (c, v, ns) => c ∧ K v (h ++ ns)
      | none => match qw P e h op with
        | some (_, v, h') => K v h'
        | none => False
section
variable {P : Program} {τ : Tau}
theorem wpo {ro : Option Nat} {a : Act} {o : Oper} {w : World} {next : Act → World → Prop} {Q : Exit → Act → World → Prop} (hnd : ∀ c, o.op ≠ .defer c) (h : o.uponIn (Fo ro) 0 P a next Q ((execOp a.eval o).run P w)) : o.wpIn (Fo ro) 0 P a w next Q :=
  ⟨fun _ _ => trivial, by rw [Oper.semAt_eq _ _ _ hnd]; exact h⟩
theorem wp_value {ro : Option Nat} {a : Act} {o : Oper} {w w' : World} {v' : Value} {next : Act → World → Prop} {Q : Exit → Act → World → Prop} (hnd : ∀ c, o.op ≠ .defer c) (hr : (execOp a.eval o).run P w = .ok (.value v') w') (h : next (a.put o.dst v') w') : o.wpIn (Fo ro) 0 P a w next Q := by
  refine wpo hnd ?_; rw [hr]; exact h
theorem wp_skip' {ro : Option Nat} {a : Act} {o : Oper} {w w' : World} {next : Act → World → Prop} {Q : Exit → Act → World → Prop} (hnd : ∀ c, o.op ≠ .defer c) (hr : (execOp a.eval o).run P w = .ok .skip w') (h : next (a.put o.dst undef) w') : o.wpIn (Fo ro) 0 P a w next Q := by
  refine wpo hnd ?_; rw [hr]; exact h
theorem pop_nd {op : Op} {e : Env} {h : List PO} {K Kp : Value → List PO → Prop} (hp : pop P op e h K Kp) : ∀ c, op ≠ .defer c := by
  rintro c rfl
  exact hp
theorem undef_VR : VR τ undef undef := .tuple rfl (fun i v v' h => by simp at h)
theorem VR.func' {f : FuncId} {a c : Array Value} {y : Value} (h : VR τ (.func (.func f) a c) y) : ∃ a' c', y = .func (.func f) a' c' ∧ VRs τ a a' ∧ VRs τ c c' := by
  cases h with | func _ _ h1 h2 h3 h4 => exact ⟨_, _, rfl, ⟨h1, h3⟩, ⟨h2, h4⟩⟩
theorem VR.yld' {b : Nat} {a c : Array Value} {y : Value} (h : VR τ (.func (.yield b) a c) y) : ∃ p, τ b = some p ∧ y = .func (.yield p.base.block) #[] #[] ∧ a = #[] ∧ c = #[] := by
  cases h with
  | yld h => exact ⟨_, h, rfl, rfl, rfl⟩
  | func _ hy => cases hy
theorem VRs.app' {a a' b b' : Array Value} (h : VRs τ a a') (k : VRs τ b b') : VRs τ (a ++ b) (a' ++ b') := by
  have := VRs.app (a := a.toList) (a' := a'.toList) (b := b.toList) (b' := b'.toList) (by simpa using h) (by simpa using k)
  rw [show a ++ b = (a.toList ++ b.toList).toArray by apply Array.ext'; simp, show a' ++ b' = (a'.toList ++ b'.toList).toArray by apply Array.ext'; simp]
  exact this
theorem VR.iface' {t : TypeId} {v y : Value} (h : VR τ (.iface t v) y) : ∃ v', y = .iface t v' ∧ VR τ v v' := by
  cases h with | iface _ h => exact ⟨_, rfl, h⟩
theorem pop_sound {ro : Option Nat} {o : Oper} {e : Env} {a : Act} {h : List PO} {w : World} {K Kp : Value → List PO → Prop} {next : Act → World → Prop} {Q : Exit → Act → World → Prop} (hpop : pop P o.op e h K Kp) (hx : Ag τ e a) (hk : RH τ h w) (hj : J τ h w)
    (hK : ∀ v h' τ' w' v', K v h' → Gr τ h w τ' h' w' → VR τ' v v' → next (a.put o.dst v') w')
    (hKp : ∀ v h' τ' w' v', Kp v h' → Gr τ h w τ' h' w' → VR τ' v v' → Q (.panic [panEntry v']) a w') : o.wpIn (Fo ro) 0 P a w next Q := by
  have hnd := pop_nd hpop
  have quiet : (match qp P e o.op with
    | some (c, v) => c ∧ K v h
    | none => match qm P e h o.op with
      | some (c, v, ns) => c ∧ K v (h ++ ns)
      | none => match qw P e h o.op with
        | some (_, v, h') => K v h'
        | none => False) → o.wpIn (Fo ro) 0 P a w next Q := by
    intro hq
    split at hq
    · rename_i c v hqp
      obtain ⟨v', h1, h2⟩ := qp_sound hx hqp hq.1
      exact wp_value hnd (h2 w) (hK v h τ w v' hq.2 (Gr.refl hk) h1)
    · split at hq
      · rename_i c v ns hqm
        obtain ⟨v', w', τ', h1, h2, h3, h4, h5, h6⟩ := qm_sound hx hk hqm hq.1
        exact wp_value hnd h1 (hK v _ τ' w' v' hq.2 (Qr.gr hk ⟨h2, h3, h4, h6⟩) h5)
      · split at hq
        · rename_i c v h' hqw
          obtain ⟨r, v', w', h1, h2, h3, h4, h5, h6, h7⟩ := qw_sound hx hk hqw
          have g : Gr τ h w τ h' w' := ⟨Tau.le_refl _, h3, h5, fun k hk => .inl (h6 k hk), fun _ _ x => .inl x, by rw [h7]; exact Nat.le_refl _⟩
          rcases h2 with rfl | ⟨rfl, rfl⟩
          · exact wp_value hnd h1 (hK v h' τ w' v' hq g h4)
          · exact wp_skip' hnd h1 (hK v h' τ w' undef hq g h4)
        · exact hq.elim
  obtain ⟨dst, op, type, pos, after, guard⟩ := o
  dsimp only at hpop
  unfold pop at hpop
  split at hpop
  · rename_i t ad x
    split at hpop
    · rename_i b o v n h1 h2 h3
      split at hpop
      · rename_i h' hput1
        obtain ⟨hsz, hone, hfin⟩ := hpop
        obtain ⟨p, hp, e1⟩ := (hx _ _ h1).ptr'
        have hv := hx _ _ h2
        have hcs := hv.cells
        obtain ⟨w', r1, r2, r3, r4⟩ := hput_sound (P := P) (vs' := (a.eval x).cells.toList) hk hp (by simpa using hcs) hone hput1
        refine wp_skip' (w' := w') hnd ?_ (hK undef h' τ w' undef hfin ⟨Tau.le_refl _, r2, r3, fun k hk => .inl (r4 k hk), fun _ _ x => .inl x, by rw [hput_len hput1]; exact Nat.le_refl _⟩ undef_VR)
        have hsz' : ¬ ((a.eval x).cells.size ≠ n) := by rw [← hcs.1]; simpa using hsz
        simp only [execOp, e1, Instr.storeAt, Instr.sureAddr, storeVar, Sem.run_bind, Sem.run_pure, Result.andThen_ok, run_szOf h3, Sem.run_ite, if_neg hsz', r1]
      · exact hpop.elim
    · exact hpop.elim
  · rename_i x
    split at hpop
    · rename_i t v h1
      obtain ⟨v', e1, hv'⟩ := (hx _ _ h1).iface'
      have := hKp _ h τ w _ hpop (Gr.refl hk) (.iface t hv')
      refine wpo hnd ?_
      have hr : (execOp a.eval ⟨dst, .panic x, type, pos, after, guard⟩).run P w = .halt (.panic (.iface t v')) w := by
        simp only [execOp, e1, Sem.run_bind, run_panic_iface, Result.andThen_halt]
      rw [hr]
      exact this
    · exact hpop.elim
  · rename_i f args _
    split at hpop
    · rename_i g first cap as h1 h2
      obtain ⟨hcall, hpc⟩ := hpop
      obtain ⟨first', cap', e1, hf, hc⟩ := (hx _ _ h1).func'
      have has := evs_sound hx _ _ h2
      have hall : VRs τ (first.toList ++ as ++ cap.toList).toArray (first' ++ args.map a.eval ++ cap') := by
        have := (hf.app' has).app' hc
        rw [show (first.toList ++ as ++ cap.toList).toArray = first ++ as.toArray ++ cap by apply Array.ext'; simp, show args.map a.eval = (List.map a.eval args.toList).toArray by rw [← List.map_toArray]]
        exact this
      have hcalls := hpc τ w _ hk hj hall
      have hr : ∀ ty, (execOp a.eval ⟨dst, .call ⟨.value f, args, ty⟩, type, pos, after, guard⟩).run P w = .ok (.enter g (first' ++ args.map a.eval ++ cap')) w := fun ty => by
        simp only [execOp, resolve, Deferred.ofValue, e1, Sem.run_bind, Sem.run_pure, Result.andThen_ok, invoke, hcall.run]
      refine wpo hnd ?_
      rw [hr]
      refine ⟨(fun h => by cases h), CallsIn.mono (fo_calls hcalls) ?_⟩
      rintro e' w' ⟨h', τ', v, v', g1, g2, g3⟩
      rcases g3 with ⟨rfl, g3⟩ | ⟨rfl, g3⟩
      · exact hK v h' τ' w' v' g3 g1 g2
      · exact hKp v h' τ' w' v' g3 g1 g2
    · rename_i b _ _ as h1 h2
      obtain ⟨p, hp, e1, rfl, rfl⟩ := (hx _ _ h1).yld'
      have has := evs_sound hx _ _ h2
      have hall : VRs τ as.toArray (#[] ++ args.map a.eval) := by
        rw [Array.empty_append, show args.map a.eval = (List.map a.eval args.toList).toArray by rw [← List.map_toArray]]
        exact has
      obtain ⟨fn, tmps, assign, body, q1, q2⟩ := hpop τ w _ p hp hk hj hall
      have hr : ∀ ty, (execOp a.eval ⟨dst, .call ⟨.value f, args, ty⟩, type, pos, after, guard⟩).run P w = .ok (.round p.base.block fn tmps assign body) w := fun ty => by
        simp only [execOp, resolve, Deferred.ofValue, e1, Sem.run_bind, Sem.run_pure, Result.andThen_ok, invoke, q1]
      refine wpo hnd ?_
      rw [hr]
      refine ⟨(fun h => by cases h), RoundIn.mono (F := Fo ro) q2 ?_⟩
      rintro e' w' ⟨h', τ', v, v', g1, g2, rfl, g3⟩
      exact hK v h' τ' w' v' g3 g1 g2
    · exact hpop.elim
  · rename_i b args tys
    split at hpop
    · rename_i c v hqp
      exact quiet (by simp only [hqp]; exact hpop)
    · split at hpop
      · rename_i as h2
        split at hpop
        · rename_i c v h' hq
          obtain ⟨v', w', τ', r1, r2, r3, r4, r5, r6, r7⟩ := qbw_sound (ty := type) hk hq hpop.1 (evs_sound hx _ _ h2) (args.map fun | .const _ => true | _ => false)
          refine wp_value (v' := v') (w' := w') hnd ?_ (hK v h' τ' w' v' hpop.2 ⟨r2, r3, r5, r6, r7, qbw_len hq⟩ r4)
          simp only [execOp, resolve, Sem.run_bind, Sem.run_pure, Result.andThen_ok, invoke]
          rw [show args.map a.eval = (List.map a.eval args.toList).toArray by rw [← List.map_toArray]]
          exact r1
        · exact hpop.elim
      · exact hpop.elim
  · exact quiet hpop
end
end Go.Proofs.YtjopikjefpenkaaDoor
/- The plain machine's regions and code. -/
namespace Go.Proofs.YtjopikjefpenkaaDoor
open Go.RowKit
variable [Inv]
/-- The frame's slots, as far as they are known. -/
structure ER (τ : Tau) (N : Nat) (e : Env) (a : Act) (D : List Deferred := []) : Prop where
  size : a.tmps.size = N
  defers : a.defers = D
  vals : ∀ t v, Env.get e t = some v → VR τ v (a.tmps.getD t undef)
theorem ER.ag {τ : Tau} {N : Nat} {e : Env} {a : Act} {D : List Deferred} (h : ER τ N e a D) : Ag τ e a := fun x v hv => by
  cases x with
  | tmp t => exact h.vals t v hv
  | const c =>
    simp only [ev] at hv
    split at hv
    · rename_i hf; cases hv; exact VR.of_flat hf
    · cases hv
  | func f => cases hv; exact .func _ rfl rfl rfl (fun i v v' h => by simp at h) (fun i v v' h => by simp at h)
  | global g => cases hv
theorem ER.mono {τ τ' : Tau} {N : Nat} {e : Env} {a : Act} {D : List Deferred} (h : ER τ N e a D) (hl : τ.le τ') : ER τ' N e a D := ⟨h.size, h.defers, fun t v hv => (h.vals t v hv).mono hl⟩
theorem ER.put {τ : Tau} {N : Nat} {e : Env} {a : Act} {D : List Deferred} (h : ER τ N e a D) {dst : Option Tmp} (hd : ∀ d, dst = some d → d < N) {v v' : Value} (hv : VR τ v v') : ER τ N (e.putO dst v) (a.put dst v') D := by
  cases dst with
  | none => exact h
  | some d =>
    have hlt := hd d rfl
    refine ⟨by simp [Act.put, h.size], h.defers, fun t u hu => ?_⟩
    simp only [Env.putO, Env.get] at hu
    by_cases e : t = d
    · subst e
      rw [if_pos rfl] at hu; cases hu
      have : t < a.tmps.size := by rw [h.size]; exact hlt
      simpa [Act.put, this] using hv
    · rw [if_neg e] at hu
      have := h.vals t u hu
      have e2 : ((a.put (some d) v').tmps).getD t undef = a.tmps.getD t undef := by
        simp [Act.put, Array.getElem?_setIfInBounds_ne (Ne.symm e)]
      rw [e2]; exact this
/-- A plain region's operations, one behind the other. -/
def pops (P : Program) (ops : Array Oper) (K : Env → List PO → Prop) (Kp : Value → List PO → Prop) : List Oper → Env → List PO → Prop
  | [], e, h => K e h
  | o :: os, e, h => match o.guard with
    | none => pop P o.op e h (fun v h' => pops P ops K Kp os (e.putO o.dst v) h') Kp
    | some (j, want) => match (ops[j]?).bind (·.dst) with
      | some d => match e.get d with
        | some (.bool b) => (b = want → pop P o.op e h (fun v h' => pops P ops K Kp os (e.putO o.dst v) h') Kp) ∧ (b ≠ want → pops P ops K Kp os (e.putO o.dst undef) h)
        | some (.tuple _) => pops P ops K Kp os (e.putO o.dst undef) h
        | _ => False
      | none => False
/-- How a piece of code is left. -/
inductive PX where
  | normal
  | exit (id : Nat)
  | ret
  | pan (v : Value)
structure St where
  e : Env
  h : List PO
section
variable {P : Program}
theorem getD_get {a : Array Value} {d : Nat} {b : Bool} (h : a.getD d undef = .bool b) : a[d]? = some (.bool b) := by
  rw [Array.getD_eq_getD_getElem?] at h
  cases hd : a[d]? with
  | none => rw [hd] at h; cases h
  | some v => rw [hd] at h; simp only [Option.getD_some] at h; rw [h]
theorem yielded_bool {ops : Array Oper} {τ : Tau} {N : Nat} {e : Env} {a : Act} {D : List Deferred} (h : ER τ N e a D) {j d : Nat} {b : Bool} (hj : (ops[j]?).bind (·.dst) = some d) (hd : e.get d = some (.bool b)) : yielded ops a.tmps j = some b := by
  have := getD_get (h.vals d _ hd).bool'
  simp [yielded, hj, this]
theorem yielded_tuple {ops : Array Oper} {τ : Tau} {N : Nat} {e : Env} {a : Act} {D : List Deferred} (h : ER τ N e a D) {j d : Nat} {vs : Array Value} (hj : (ops[j]?).bind (·.dst) = some d) (hd : e.get d = some (.tuple vs)) : yielded ops a.tmps j = none := by
  obtain ⟨vs', e1, _⟩ := (h.vals d _ hd).tuple'
  rw [Array.getD_eq_getD_getElem?] at e1
  simp only [yielded, hj, Option.bind_some]
  cases ht : a.tmps[d]? with
  | none => rfl
  | some v => rw [ht] at e1; simp only [Option.getD_some] at e1; rw [e1]
theorem pops_sound {ro : Option Nat} {D : List Deferred} {ops : Array Oper} {N : Nat} {K : Env → List PO → Prop} {Kp : Value → List PO → Prop} {Q : Exit → Act → World → Prop} (hN : ∀ o ∈ ops.toList, ∀ d, o.dst = some d → d < N) : ∀ (l : List Oper) (k : Nat), ops.toList.drop k = l → ∀ {τ : Tau} {e : Env} {a : Act} {h : List PO} {w : World}, pops P ops K Kp l e h → ER τ N e a D → RH τ h w → J τ h w →
    (∀ e' h' τ' a' w', K e' h' → Gr τ h w τ' h' w' → ER τ' N e' a' D → Q .normal a' w') →
    (∀ v h' τ' a' w' v', Kp v h' → Gr τ h w τ' h' w' → VR τ' v v' → a'.defers = D → Q (.panic [panEntry v']) a' w') →
    wpOpsIn (Fo ro) 0 P ops Q (List.range' k l.length) a w
  | [], k, _, τ, e, a, h, w, hp, he, hk, hj, hK, _ => by
    simp only [List.length_nil, List.range'_zero, wpOpsIn]
    exact hK e h τ a w hp (Gr.refl hk) he
  | o :: os, k, hl, τ, e, a, h, w, hp, he, hk, hjj, hK, hKp => by
    have hlt : k < ops.toList.length := by
      rcases Nat.lt_or_ge k ops.toList.length with h | h
      · exact h
      · rw [List.drop_eq_nil_of_le h] at hl; cases hl
    have hko : ops[k]? = some o := by
      have : ops.toList[k]? = some o := by rw [← List.head?_drop, hl]; rfl
      simpa using this
    have hos : ops.toList.drop (k + 1) = os := by
      rw [← List.drop_drop, hl]; rfl
    have hmem : o ∈ ops.toList := by
      have : ops.toList[k]? = some o := by simpa using hko
      exact List.mem_of_getElem? this
    have hd := hN o hmem
    simp only [List.length_cons, List.range'_succ, wpOpsIn, hko]
    have step : pop P o.op e h (fun v h' => pops P ops K Kp os (e.putO o.dst v) h') Kp → o.wpIn (Fo ro) 0 P a w (wpOpsIn (Fo ro) 0 P ops Q (List.range' (k + 1) os.length)) Q := fun hpop =>
      pop_sound hpop he.ag hk hjj
        (fun v h' τ' w' v' hK' g hv => pops_sound hN os (k + 1) hos hK' ((he.mono g.le).put hd hv) g.rh (hjj.gr g)
          (fun e2 h2 τ2 a2 w2 q1 q2 q3 => hK e2 h2 τ2 a2 w2 q1 (g.trans q2) q3)
          (fun v2 h2 τ2 a2 w2 v2' q1 q2 q3 q4 => hKp v2 h2 τ2 a2 w2 v2' q1 (g.trans q2) q3 q4))
        (fun v h' τ' w' v' q1 q2 q3 => hKp v h' τ' a w' v' q1 q2 q3 he.defers)
    have skip : pops P ops K Kp os (e.putO o.dst undef) h → wpOpsIn (Fo ro) 0 P ops Q (List.range' (k + 1) os.length) (a.put o.dst undef) w := fun hps =>
      pops_sound hN os (k + 1) hos hps (he.put hd undef_VR) hk hjj hK hKp
    unfold pops at hp
    split at hp
    · rename_i hg
      have hw : Region.wanted o (yielded ops a.tmps) = true := by simp [Region.wanted, hg]
      rw [if_pos hw]
      exact step hp
    · rename_i j want hg
      split at hp
      · rename_i d hj
        split at hp
        · rename_i b hb
          have hy := yielded_bool he hj hb
          by_cases hbw : b = want
          · have hw : Region.wanted o (yielded ops a.tmps) = true := by simp [Region.wanted, hg, hy, hbw]
            rw [if_pos hw]
            exact step (hp.1 hbw)
          · have hw : ¬ Region.wanted o (yielded ops a.tmps) = true := by simp [Region.wanted, hg, hy, hbw]
            rw [if_neg hw]
            exact ⟨fun _ _ => trivial, skip (hp.2 hbw)⟩
        · rename_i vs hb
          have hy := yielded_tuple he hj hb
          have hw : ¬ Region.wanted o (yielded ops a.tmps) = true := by simp [Region.wanted, hg, hy]
          rw [if_neg hw]
          exact ⟨fun _ _ => trivial, skip hp⟩
        · exact hp.elim
      · exact hp.elim
theorem region_sound {ro : Option Nat} {D : List Deferred} {id : Nat} {ops : Array Oper} {N : Nat} {K : Env → List PO → Prop} {Kp : Value → List PO → Prop} {Q : Exit → Act → World → Prop} (hN : ∀ o ∈ ops.toList, ∀ d, o.dst = some d → d < N) {τ : Tau} {e : Env} {a : Act} {h : List PO} {w : World} (hp : pops P ops K Kp ops.toList e h) (he : ER τ N e a D) (hk : RH τ h w) (hj : J τ h w)
    (hK : ∀ e' h' τ' a' w', K e' h' → Gr τ h w τ' h' w' → ER τ' N e' a' D → Q .normal a' w')
    (hKp : ∀ v h' τ' a' w' v', Kp v h' → Gr τ h w τ' h' w' → VR τ' v v' → a'.defers = D → Q (.panic [panEntry v']) a' w') : (Code.region id ops false).wpIn (Fo ro) 0 P Q a w := by
  refine wpIn_region ?_
  have := pops_sound (ro := ro) (P := P) hN ops.toList 0 (by simp) hp he hk hj hK hKp
  simpa [List.range_eq_range'] using this
end
end Go.Proofs.YtjopikjefpenkaaDoor
/- Regions that draw their order: what stands ahead of what. -/
namespace Go.Proofs.YtjopikjefpenkaaDoor
open Go.RowKit
/-- Operation i stands ahead of operation j, in every order. -/
inductive Reach (ops : Array Oper) : Nat → Nat → Prop
  | one {i j : Nat} {o : Oper} {e : Edge} : ops[j]? = some o → e ∈ o.after.toList → Region.binds .any e = true → e.on = i → Reach ops i j
  | more {i j : Nat} {o : Oper} {e : Edge} : ops[j]? = some o → e ∈ o.after.toList → Region.binds .any e = true → Reach ops i e.on → Reach ops i j
theorem Reach.listed {ops : Array Oper} {L : Nat → Prop} (hc : ∀ j o, L j → ops[j]? = some o → ∀ e ∈ o.after.toList, Region.binds .any e = true → L e.on) {i j : Nat} (h : Reach ops i j) : (∀ o, ops[j]? = some o → ∀ e ∈ o.after.toList, Region.binds .any e = true → L e.on) → L i := by
  induction h with
  | one ho he hb heq => intro k; exact heq ▸ k _ ho _ he hb
  | more ho he hb _ ih => intro k; exact ih (fun o ho' => hc _ o (k _ ho _ he hb) ho')
theorem inner_bits (acc : Array Nat) (b : Nat) : ∀ (l : List Edge) (s : Nat), (l.foldl (fun s e => if Region.binds .any e then s ||| 2 ^ e.on ||| acc.getD e.on 0 else s) s).testBit b = true → s.testBit b = true ∨ ∃ e ∈ l, Region.binds .any e = true ∧ (e.on = b ∨ (acc.getD e.on 0).testBit b = true)
  | [], s, h => .inl h
  | e :: l, s, h => by
    rw [List.foldl_cons] at h
    rcases inner_bits acc b l _ h with h1 | ⟨x, hx, h2⟩
    · split at h1
      · rename_i hb
        rw [Nat.testBit_or, Nat.testBit_or, Bool.or_eq_true, Bool.or_eq_true] at h1
        rcases h1 with (h1 | h1) | h1
        · exact .inl h1
        · refine .inr ⟨e, by simp, hb, .inl ?_⟩
          rw [Nat.testBit_two_pow] at h1
          simpa using h1
        · exact .inr ⟨e, by simp, hb, .inr h1⟩
      · exact .inl h1
    · exact .inr ⟨x, List.mem_cons_of_mem _ hx, h2⟩
theorem before_list (ops : Array Oper) : ∀ (l : List Oper) (acc : Array Nat), ops.toList.drop acc.size = l → (∀ j b, (acc.getD j 0).testBit b = true → Reach ops b j) →
    ∀ j b, ((l.foldl (fun acc o => acc.push (o.after.foldl (fun s e => if Region.binds .any e then s ||| 2 ^ e.on ||| acc.getD e.on 0 else s) 0)) acc).getD j 0).testBit b = true → Reach ops b j
  | [], acc, _, h => h
  | o :: os, acc, hl, h => by
    have hlt : acc.size < ops.toList.length := by
      rcases Nat.lt_or_ge acc.size ops.toList.length with h | h
      · exact h
      · rw [List.drop_eq_nil_of_le h] at hl; cases hl
    have hko : ops[acc.size]? = some o := by
      have : ops.toList[acc.size]? = some o := by rw [← List.head?_drop, hl]; rfl
      simpa using this
    rw [List.foldl_cons]
    refine before_list ops os _ (by rw [Array.size_push, ← List.drop_drop, hl]; rfl) (fun j b hb => ?_)
    rw [Array.getD_eq_getD_getElem?] at hb
    by_cases hj : j = acc.size
    · subst hj
      rw [Array.getElem?_push_size, Option.getD_some, ← Array.foldl_toList] at hb
      rcases inner_bits acc b _ 0 hb with h3 | ⟨e, he, h3, h4⟩
      · simp at h3
      · rcases h4 with h4 | h4
        · exact .one hko he h3 h4
        · exact .more hko he h3 (h e.on b h4)
    · rw [Array.getElem?_push, if_neg hj, ← Array.getD_eq_getD_getElem?] at hb
      exact h j b hb
theorem before_reach (ops : Array Oper) (i j : Nat) (h : ((Region.before ops).getD j 0).testBit i = true) : Reach ops i j := by
  unfold Region.before at h
  rw [← Array.foldl_toList] at h
  exact before_list ops ops.toList #[] (by simp) (fun j b hb => by simp [Array.getD_eq_getD_getElem?] at hb) j i h
end Go.Proofs.YtjopikjefpenkaaDoor
/- Regions that draw their order: the plain machine goes by the text's. -/
namespace Go.Proofs.YtjopikjefpenkaaDoor
open Go.RowKit
variable [Inv]
/-- What an operation of such a region comes to. -/
inductive DR where
  | skip
  | val (v : Value) (ns : List PO)
  | wr (b o : Nat) (vs : List Value)
def DR.v : DR → Value
  | .val v _ => v
  | _ => undef
def DR.ns : DR → List PO
  | .val _ ns => ns
  | _ => []
def preB (ops : Array Oper) (i j : Nat) : Bool := ((Region.before ops).getD j 0).testBit i
def isStore (o : Oper) : Bool := match o.op with | .store .. => true | _ => false
def isReader (o : Oper) : Bool := match o.op with | .load .. | .convert .. | .call .. | .store .. | .lookup .. => true | _ => false
/-- What must be of such a region's text. -/
def drawStat (N : Nat) (ops : Array Oper) : Bool :=
  let l := ops.toList.zipIdx
  l.all fun (o, i) =>
    (o.after.toList.all fun e => !Region.binds .any e || decide (e.on < i)) &&
    (match o.dst with | some d => decide (d < N) | none => true) &&
    l.all fun (p, j) =>
      (match o.dst with
       | some d => (i == j || p.dst != some d) && (!(p.looksAt ops).contains d || (if i < j then preB ops i j else (i == j || preB ops j i) && !isReader p))
       | none => true) &&
      (!(isStore o && isStore p && decide (i < j)) || preB ops i j)
/-- A store, and a reader that need not stand ahead of it. -/
def drawPairs (ops : Array Oper) : List (Nat × Nat) :=
  (ops.toList.zipIdx.flatMap fun (o, i) => if isStore o then ops.toList.zipIdx.filterMap fun (p, j) => if isReader p && !isStore p && !preB ops j i then some (i, j) else none else [])
/-- Is it wanted? -/
def gw (ops : Array Oper) (e : Env) : Option (Nat × Bool) → Option Bool
  | none => some true
  | some (j, want) => match (ops[j]?).bind (·.dst) with
    | some d => match e.get d with
      | some (.bool b) => some (b == want)
      | some (.tuple _) => some false
      | _ => none
    | none => none
def flats (l : List Value) : Bool := l.all (flat 4)
/-- Which block is read: none; one; any. -/
def rblk (P : Program) (e : Env) : Op → Option (Option Nat)
  | .load _ x => match ev e x with
    | some (.pointer (some a)) => some (some a.block)
    | _ => none
  | .lookup _ x _ _ => match ev e x with
    | some (.map (some b)) => some (some b)
    | _ => none
  | .convert _ _ x => match ev e x with
    | some (.int _ _) => none
    | _ => some none
  | .call { callee := .value f, args, argTypes := _ } => match ev e f, evs e args.toList with
    | some (.func _ first cap), some as => if flats (first.toList ++ as ++ cap.toList) then none else some none
    | _, _ => none
  | _ => none
def wblk (e : Env) : Op → Option Nat
  | .store _ a _ => match ev e a with
    | some (.pointer (some a)) => some a.block
    | _ => none
  | _ => none
def apart1 : Option Nat → Option (Option Nat) → Prop
  | some b, some (some b') => b ≠ b'
  | some _, some none => False
  | _, _ => True
def apartAt (P : Program) (e : Env) (ops : Array Oper) (p : Nat × Nat) : Prop :=
  apart1 ((ops[p.1]?).bind fun o => wblk e o.op) ((ops[p.2]?).bind fun o => rblk P e o.op)
/-- An operation's step. -/
def dop (P : Program) (o : Op) (e : Env) (h : List PO) (K : DR → Prop) : Prop :=
  match o with
  | .store t a x => match ev e a, ev e x, szOf P t with
    | some (.pointer (some ⟨b, o, none⟩)), some v, some n => v.cells.size = n ∧ (∀ u ∈ v.cells.toList, u.oneCell' = true) ∧ K (.wr b o v.cells.toList)
    | _, _, _ => False
  | .call { callee := .value f, args, argTypes := _ } => match ev e f, evs e args.toList with
    | some (.func (.func f) first cap), some as => ∃ v ns, PCq P f (first.toList ++ as ++ cap.toList) h (fun v' ns' => v' = v ∧ ns' = ns) ∧ K (.val v ns)
    | _, _ => False
  | op => match qp P e op with
    | some (c, v) => c ∧ K (.val v [])
    | none => match qm P e h op with
      | some (c, v, ns) => c ∧ K (.val v ns)
      | none => False
def happly (h : List PO) : List (Nat × Nat × List Value) → Option (List PO)
  | [] => some h
  | (b, o, vs) :: ws => (hput h b o vs).bind (happly · ws)
def DR.ws : DR → List (Nat × Nat × List Value)
  | .wr b o vs => [(b, o, vs)]
  | _ => []
/-- The region, by the text's order, its stores last. -/
def pd (P : Program) (ops : Array Oper) (K : Env → List PO → List (Nat × Nat × List Value) → Prop) : List Oper → Env → List PO → List (Nat × Nat × List Value) → Prop
  | [], e, h, ws => K e h ws
  | o :: os, e, h, ws => match o.guard with
    | none => dop P o.op e h fun r => pd P ops K os (e.putO o.dst r.v) (h ++ r.ns) (ws ++ r.ws)
    | some (j, want) => match (ops[j]?).bind (·.dst) with
      | some d => match e.get d with
        | some (.bool b) => (b = want → dop P o.op e h fun r => pd P ops K os (e.putO o.dst r.v) (h ++ r.ns) (ws ++ r.ws)) ∧ (b ≠ want → pd P ops K os (e.putO o.dst undef) h ws)
        | some (.tuple _) => pd P ops K os (e.putO o.dst undef) h ws
        | _ => False
      | none => False
def pdraw (P : Program) (ops : Array Oper) (e : Env) (h : List PO) (K : Env → List PO → Prop) : Prop :=
  ∃ L, drawPairs ops = L ∧ pd P ops (fun e' h' ws => (∀ p ∈ L, apartAt P e' ops p) ∧ match happly h' ws with
    | some h2 => K e' h2
    | none => False) ops.toList e h []
/-- One step, as a relation. -/
def dstep (P : Program) (ops : Array Oper) (o : Oper) (e : Env) (h : List PO) (r : DR) : Prop :=
  match gw ops e o.guard with
  | some true => r ≠ .skip ∧ dop P o.op e h (fun r' => r' = r)
  | some false => r = .skip
  | none => False
theorem dop_mono {P : Program} {o : Op} {e : Env} {h : List PO} {K : DR → Prop} (hd : dop P o e h K) : ∃ r, r ≠ .skip ∧ dop P o e h (fun r' => r' = r) ∧ K r := by
  unfold dop at hd ⊢
  split at hd
  · split at hd
    · obtain ⟨h1, h2, h3⟩ := hd
      exact ⟨_, by simp, ⟨h1, h2, rfl⟩, h3⟩
    · exact hd.elim
  · split at hd
    · obtain ⟨v, ns, h1, h2⟩ := hd
      exact ⟨_, by simp, ⟨v, ns, h1, rfl⟩, h2⟩
    · exact hd.elim
  · split at hd
    · exact ⟨_, by simp, ⟨hd.1, rfl⟩, hd.2⟩
    · split at hd
      · exact ⟨_, by simp, ⟨hd.1, rfl⟩, hd.2⟩
      · exact hd.elim
/-- The steps of a whole text. -/
def DT (P : Program) (ops : Array Oper) : List Oper → Env → List PO → List DR → Prop
  | [], _, _, rs => rs = []
  | o :: os, e, h, rs => ∃ r rs', rs = r :: rs' ∧ dstep P ops o e h r ∧ DT P ops os (e.putO o.dst r.v) (h ++ r.ns) rs'
def eEnd : List Oper → List DR → Env → Env
  | o :: os, r :: rs, e => eEnd os rs (e.putO o.dst r.v)
  | _, _, e => e
def hEnd (rs : List DR) (h : List PO) : List PO := h ++ (rs.map DR.ns).flatten
def wEnd (rs : List DR) : List (Nat × Nat × List Value) := (rs.map DR.ws).flatten
theorem pd_DT {P : Program} {ops : Array Oper} {K : Env → List PO → List (Nat × Nat × List Value) → Prop} : ∀ (l : List Oper) (e : Env) (h : List PO) (ws), pd P ops K l e h ws → ∃ rs, DT P ops l e h rs ∧ K (eEnd l rs e) (hEnd rs h) (ws ++ wEnd rs)
  | [], e, h, ws, hp => ⟨[], rfl, by simpa [eEnd, hEnd, wEnd, pd] using hp⟩
  | o :: os, e, h, ws, hp => by
    have fin : ∀ r, dstep P ops o e h r → pd P ops K os (e.putO o.dst r.v) (h ++ r.ns) (ws ++ r.ws) → ∃ rs, DT P ops (o :: os) e h rs ∧ K (eEnd (o :: os) rs e) (hEnd rs h) (ws ++ wEnd rs) := fun r hr hp => by
      obtain ⟨rs, h1, h2⟩ := pd_DT os _ _ _ hp
      exact ⟨r :: rs, ⟨r, rs, rfl, hr, h1⟩, by simpa [eEnd, hEnd, wEnd, List.append_assoc] using h2⟩
    unfold pd at hp
    split at hp
    · rename_i hg
      obtain ⟨r, h0, h1, h2⟩ := dop_mono hp
      exact fin r (by simp only [dstep, gw, hg]; exact ⟨h0, h1⟩) h2
    · rename_i j want hg
      split at hp
      · rename_i d hj
        split at hp
        · rename_i b hb
          by_cases hbw : b = want
          · obtain ⟨r, h0, h1, h2⟩ := dop_mono (hp.1 hbw)
            exact fin r (by simp only [dstep, gw, hg, hj, hb, hbw, beq_self_eq_true]; exact ⟨h0, h1⟩) h2
          · refine fin .skip ?_ (by simpa [DR.v, DR.ns, DR.ws] using hp.2 hbw)
            have : (b == want) = false := by simpa using hbw
            simp only [dstep, gw, hg, hj, hb, this]
        · rename_i vs hb
          exact fin .skip (by simp only [dstep, gw, hg, hj, hb]) (by simpa [DR.v, DR.ns, DR.ws] using hp)
        · exact hp.elim
      · exact hp.elim
end Go.Proofs.YtjopikjefpenkaaDoor
/- Regions that draw their order: an operation hangs on its operands alone. -/
namespace Go.Proofs.YtjopikjefpenkaaDoor
open Go.RowKit
variable [Inv]
section
variable {P : Program} {e1 e2 : Env}
theorem evs_congr : ∀ (l : List Operand), (∀ x ∈ l, ev e1 x = ev e2 x) → evs e1 l = evs e2 l
  | [], _ => rfl
  | x :: l, h => by unfold evs; rw [h x (by simp), evs_congr l (fun y hy => h y (List.mem_cons_of_mem _ hy))]
theorem evp_congr : ∀ (l : List (Nat × Operand)), (∀ x ∈ l.map (·.2), ev e1 x = ev e2 x) → evp e1 l = evp e2 l
  | [], _ => rfl
  | (i, x) :: l, h => by unfold evp; rw [h x (by simp), evp_congr l (fun y hy => h y (by simp only [List.map_cons]; exact List.mem_cons_of_mem _ hy))]
theorem evo_congr (o : Option Operand) (h : ∀ x ∈ o.toList, ev e1 x = ev e2 x) : evo e1 o = evo e2 o := by
  cases o with
  | none => rfl
  | some x => simp only [evo, h x (by simp)]
def AgOn (e1 e2 : Env) (op : Op) : Prop := ∀ x ∈ op.operands.toList, ev e1 x = ev e2 x
theorem qp_congr {op : Op} (h : AgOn e1 e2 op) : qp P e1 op = qp P e2 op := by
  unfold AgOn at h
  cases op with
  | call c =>
    obtain ⟨callee, args, tys⟩ := c
    cases callee with
    | builtin b =>
      have : evs e1 args.toList = evs e2 args.toList := evs_congr _ (fun x hx => h x (by simp [Op.operands, Call.operands] at hx ⊢; exact hx))
      simp only [qp, this]
    | value f => rfl
    | invoke r m => rfl
  | build t ps =>
    have : evp e1 ps.toList = evp e2 ps.toList := evp_congr _ (fun x hx => h x (by simpa [Op.operands] using hx))
    simp only [qp, this]
  | makeFunc f a c =>
    have h1 : evs e1 a.toList = evs e2 a.toList := evs_congr _ (fun x hx => h x (by simp [Op.operands] at hx ⊢; exact .inl hx))
    have h2 : evs e1 c.toList = evs e2 c.toList := evs_congr _ (fun x hx => h x (by simp [Op.operands] at hx ⊢; exact .inr hx))
    simp only [qp, h1, h2]
  | slice t x lo hi mx =>
    have h0 := h x (by simp [Op.operands])
    have h1 : evo e1 lo = evo e2 lo := evo_congr _ (fun y hy => h y (by simp [Op.operands] at hy ⊢; exact .inr (.inl hy)))
    have h2 : evo e1 hi = evo e2 hi := evo_congr _ (fun y hy => h y (by simp [Op.operands] at hy ⊢; exact .inr (.inr (.inl hy))))
    have h3 : evo e1 mx = evo e2 mx := evo_congr _ (fun y hy => h y (by simp [Op.operands] at hy ⊢; exact .inr (.inr (.inr hy))))
    simp only [qp, h0, h1, h2, h3]
  | pick c a b => simp only [qp, h c (by simp [Op.operands]), h a (by simp [Op.operands]), h b (by simp [Op.operands])]
  | binOp op t x y u => simp only [qp, h x (by simp [Op.operands]), h y (by simp [Op.operands])]
  | indexAddr t x y => simp only [qp, h x (by simp [Op.operands]), h y (by simp [Op.operands])]
  | index t x y => simp only [qp, h x (by simp [Op.operands]), h y (by simp [Op.operands])]
  | move x => simp only [qp, h x (by simp [Op.operands])]
  | assign x => simp only [qp, h x (by simp [Op.operands])]
  | unOp o t x => simp only [qp, h x (by simp [Op.operands])]
  | convert s d x => simp only [qp, h x (by simp [Op.operands])]
  | makeInterface t x => simp only [qp, h x (by simp [Op.operands])]
  | fieldAddr t x i => simp only [qp, h x (by simp [Op.operands])]
  | field t x i => simp only [qp, h x (by simp [Op.operands])]
  | typeAssert x t a ok => simp only [qp, h x (by simp [Op.operands])]
  | extract x i => simp only [qp, h x (by simp [Op.operands])]
  | nilCheck x => simp only [qp, h x (by simp [Op.operands])]
  | sliceToArrayPointer t x => simp only [qp, h x (by simp [Op.operands])]
  | _ => rfl
theorem qm_congr {op : Op} {h1 h2 : List PO} (h : AgOn e1 e2 op) (hl : h1.length = h2.length) (hb : ∀ b, rblk P e2 op = some (some b) → h1[b]? = h2[b]?) (hn : (∃ s d x, op = .convert s d x) → h1 = h2) : qm P e1 h1 op = qm P e2 h2 op := by
  unfold AgOn at h
  cases op with
  | load t x =>
    have hx := h x (by simp [Op.operands])
    simp only [qm, hx]
    cases hv : ev e2 x with
    | none => rfl
    | some v =>
      cases v <;> try rfl
      rename_i a
      cases a with
      | none => rfl
      | some a =>
        obtain ⟨b, o, sp⟩ := a
        cases sp with
        | some s => rfl
        | none =>
          have := hb b (by simp [rblk, hv])
          simp only [qload, hcells, this]
  | convert s d x =>
    have hx := h x (by simp [Op.operands])
    have := hn ⟨s, d, x, rfl⟩
    subst this
    simp only [qm, hx]
  | alloc t => simp only [qm, hl]
  | box t x => simp only [qm, hl, h x (by simp [Op.operands])]
  | buildSlice t n ps =>
    have : evp e1 ps.toList = evp e2 ps.toList := evp_congr _ (fun x hx => h x (by simpa [Op.operands] using hx))
    simp only [qm, hl, this]
  | makeSlice t l c => simp only [qm, hl, h l (by simp [Op.operands]), h c (by simp [Op.operands])]
  | makeMap t r => cases r <;> simp only [qm, hl]
  | range t x => simp only [qm, hl, h x (by simp [Op.operands])]
  | lookup t x ix ok =>
    have hx := h x (by simp [Op.operands])
    have hi := h ix (by simp [Op.operands])
    simp only [qm, hx, hi]
    have hm : ∀ m, ev e2 x = some m → mread h1 m = mread h2 m := fun m hv => by
      cases m <;> try rfl
      rename_i r
      cases r with
      | none => rfl
      | some b => simp only [mread, hb b (by simp [rblk, hv])]
    have hm2 : ∀ m, ev e2 x = some m → (match P.underlying t, some m, ev e2 ix with
      | some (.map kt et), some m, some k => match P.underlying kt, zOf P et, mread h1 m with
        | some d, some z, some es => if pkey d k ∧ flat 6 z then (pfind d k es 0).map fun r => (True, lkv ok z r, ([] : List PO)) else none
        | _, _, _ => none
      | _, _, _ => none) = (match P.underlying t, some m, ev e2 ix with
      | some (.map kt et), some m, some k => match P.underlying kt, zOf P et, mread h2 m with
        | some d, some z, some es => if pkey d k ∧ flat 6 z then (pfind d k es 0).map fun r => (True, lkv ok z r, ([] : List PO)) else none
        | _, _, _ => none
      | _, _, _ => none) := fun m hv => by
      split
      · rename_i h0 h1 h2; cases h1; rw [hm _ hv]
      · rfl
    cases hv : ev e2 x with
    | none => cases P.underlying t with
      | none => rfl
      | some d => cases d <;> rfl
    | some m => exact hm2 m hv
  | _ => rfl
theorem qm_convert {h : List PO} {s d : TypeId} {x : Operand} {r : Prop × Value × List PO} (hq : qm P e1 h (.convert s d x) = some r) : rblk P e1 (.convert s d x) = some none := by
  simp only [qm] at hq
  simp only [rblk]
  split at hq
  · rename_i el v hs hd hv
    rw [hv]
    split at hq
    · split at hq
      · rfl
      · rfl
      · cases hq
    · cases hq
  · rename_i d1 el s1 hs hd hv
    rw [hv]
  · cases hq
theorem rblk_congr {op : Op} (h : AgOn e1 e2 op) : rblk P e1 op = rblk P e2 op := by
  unfold AgOn at h
  cases op with
  | load t x => simp only [rblk, h x (by simp [Op.operands])]
  | lookup t x ix ok => simp only [rblk, h x (by simp [Op.operands])]
  | convert s d x => simp only [rblk, h x (by simp [Op.operands])]
  | call c =>
    obtain ⟨callee, args, tys⟩ := c
    cases callee with
    | value f =>
      have h1 : evs e1 args.toList = evs e2 args.toList := evs_congr _ (fun x hx => h x (by simp [Op.operands, Call.operands] at hx ⊢; exact .inr hx))
      simp only [rblk, h1, h f (by simp [Op.operands, Call.operands])]
    | builtin b => rfl
    | invoke r m => rfl
  | _ => rfl
theorem ev_only (ts : List Tmp) (e : Env) (t : Tmp) : Env.get (e.filter fun x => ts.contains x.1) t = if ts.contains t then e.get t else none := by
  induction e with
  | nil => simp [Env.get]
  | cons x e ih =>
    obtain ⟨k, v⟩ := x
    rw [List.filter_cons]
    by_cases hk : ts.contains k = true
    · rw [if_pos hk]
      simp only [Env.get]
      by_cases e : t = k
      · subst e; rw [if_pos rfl, if_pos rfl, if_pos hk]
      · rw [if_neg e, if_neg e, ih]
    · rw [if_neg hk, ih]
      simp only [Env.get]
      by_cases e : t = k
      · subst e; rw [if_neg hk, if_neg hk]
      · rw [if_neg e]
/-- The slots that an operation looks at, alone. -/
def onlyOf (ops : Array Oper) (o : Oper) (e : Env) : Env := e.filter fun x => (o.looksAt ops).contains x.1
theorem onlyOf_ag (ops : Array Oper) (o : Oper) (e : Env) : AgOn (onlyOf ops o e) e o.op := fun x hx => by
  cases x with
  | tmp t =>
    show Env.get _ t = Env.get e t
    unfold onlyOf
    rw [ev_only, if_pos]
    have : t ∈ o.looksAt ops := by
      unfold Oper.looksAt
      refine List.mem_append_left _ (List.mem_filterMap.2 ⟨.tmp t, hx, rfl⟩)
    simpa using this
  | const v => rfl
  | func f => rfl
  | global g => rfl
end
end Go.Proofs.YtjopikjefpenkaaDoor
/- Regions that draw their order: the parts of what is to be shown. -/
namespace Go.Proofs.YtjopikjefpenkaaDoor
open Go.RowKit
variable [Inv]
theorem merge {τ τ1 τ'' : Tau} {M H1 ns : List PO} {w w' : World} (hM : RH τ M w) (h1 : RH τ1 H1 w) (hle1 : τ1.le τ) (q : Qr τ1 H1 w τ'' ns w') (hns : ∀ (i : Nat) o, ns[i]? = some o → M[H1.length + i]? = some o) (hfree : ∀ b, H1.length ≤ b → b < H1.length + ns.length → τ b = none) :
    ∃ τn : Tau, τ.le τn ∧ τ''.le τn ∧ RH τn M w' ∧ (∀ b p, τn b = some p → τ b = some p ∨ (H1.length ≤ b ∧ b < H1.length + ns.length ∧ w.heap.size ≤ p.base.block ∧ τ'' b = some p)) := by
  have hnew : ∀ b p, τ'' b = some p → H1.length ≤ b → b < H1.length + ns.length ∧ w.heap.size ≤ p.base.block := fun b p hb hle => by
    obtain ⟨o, g1, _⟩ := q.rh.ob b p hb
    have := (List.getElem?_eq_some_iff.1 g1).1
    rcases q.dom b p hb with g | g
    · obtain ⟨o2, g2, _⟩ := h1.ob b p g
      have := (List.getElem?_eq_some_iff.1 g2).1
      omega
    · exact ⟨by simpa using this, g.2⟩
  have hold : ∀ b p, τ'' b = some p → b < H1.length → τ b = some p := fun b p hb hlt => by
    rcases q.dom b p hb with g | g
    · exact hle1 b p g
    · omega
  let τn : Tau := fun b => if H1.length ≤ b ∧ b < H1.length + ns.length then τ'' b else τ b
  have e1 : ∀ b, (H1.length ≤ b ∧ b < H1.length + ns.length) → τn b = τ'' b := fun b h => if_pos h
  have e2 : ∀ b, ¬ (H1.length ≤ b ∧ b < H1.length + ns.length) → τn b = τ b := fun b h => if_neg h
  have l1 : τ.le τn := fun b p hb => by
    by_cases h : H1.length ≤ b ∧ b < H1.length + ns.length
    · rw [hfree b h.1 h.2] at hb; cases hb
    · rw [e2 b h]; exact hb
  have l2 : τ''.le τn := fun b p hb => by
    by_cases h : H1.length ≤ b
    · rw [e1 b ⟨h, (hnew b p hb h).1⟩]; exact hb
    · rw [e2 b (by omega)]; exact hold b p hb (by omega)
  have hobj : ∀ b p, τ'' b = some p → H1.length ≤ b → ∃ o, M[b]? = some o ∧ (H1 ++ ns)[b]? = some o := fun b p hb hle => by
    obtain ⟨o, g1, _⟩ := q.rh.ob b p hb
    refine ⟨o, ?_, g1⟩
    rw [List.getElem?_append_right hle] at g1
    have := hns _ o g1
    rwa [show H1.length + (b - H1.length) = b by omega] at this
  refine ⟨τn, l1, l2, ⟨fun b p hb => ?_, fun b c p q' o o' hne hb hc h3 h4 h5 h6 => ?_⟩, fun b p hb => ?_⟩
  · by_cases h : H1.length ≤ b ∧ b < H1.length + ns.length
    · rw [e1 b h] at hb
      obtain ⟨o, g1, g2⟩ := hobj b p hb h.1
      obtain ⟨o2, g3, g4, g5⟩ := q.rh.ob b p hb
      rw [g2] at g3; cases g3
      exact ⟨o, g1, g4.mono l2, g5⟩
    · rw [e2 b h] at hb
      obtain ⟨o, g1, g2, g3⟩ := (hM.fr q.fr).ob b p hb
      exact ⟨o, g1, g2.mono l1, g3⟩
  · have hl : ∀ {x : PO}, x.own = true → x.live = true := fun {x} hx => by cases x <;> first | rfl | simp [PO.own] at hx
    by_cases hB : H1.length ≤ b ∧ b < H1.length + ns.length
    · rw [e1 b hB] at hb
      obtain ⟨o1, g1, g2⟩ := hobj b p hb hB.1
      rw [g1] at h3; cases h3
      by_cases hC : H1.length ≤ c ∧ c < H1.length + ns.length
      · rw [e1 c hC] at hc
        obtain ⟨o2, g3, g4⟩ := hobj c q' hc hC.1
        rw [g3] at h5; cases h5
        exact q.rh.inj b c p q' _ _ hne hb hc g2 h4 g4 h6
      · rw [e2 c hC] at hc
        obtain ⟨o2, g3, _, g4⟩ := hM.ob c q' hc
        rw [g3] at h5; cases h5
        have := g4 h6
        have := (hnew b p hb hB.1).2
        omega
    · rw [e2 b hB] at hb
      obtain ⟨o1, g1, _, g2⟩ := hM.ob b p hb
      rw [g1] at h3; cases h3
      have hlt := g2 (hl h4)
      by_cases hC : H1.length ≤ c ∧ c < H1.length + ns.length
      · rw [e1 c hC] at hc
        have := (hnew c q' hc hC.1).2
        omega
      · rw [e2 c hC] at hc
        exact hM.inj b c p q' _ _ hne hb hc g1 h4 h5 h6
  · by_cases h : H1.length ≤ b ∧ b < H1.length + ns.length
    · rw [e1 b h] at hb; exact .inr ⟨h.1, h.2, (hnew b p hb h.1).2, hb⟩
    · rw [e2 b h] at hb; exact .inl hb
theorem happly_append (a b : List (Nat × Nat × List Value)) : ∀ h : List PO, happly h (a ++ b) = (happly h a).bind (happly · b) := by
  induction a with
  | nil => intro h; rfl
  | cons x a ih =>
    intro h
    obtain ⟨k, o, vs⟩ := x
    simp only [List.cons_append, happly]
    cases hput h k o vs with
    | none => rfl
    | some h' => simp [ih]
theorem hput_get {h h' : List PO} {b o : Nat} {vs : List Value} (hh : hput h b o vs = some h') : h'.length = h.length ∧ ∀ c, c ≠ b → h'[c]? = h[c]? := by
  unfold hput at hh
  split at hh
  · split at hh
    · cases hh; exact ⟨by simp, fun c hc => by rw [List.getElem?_set_ne (Ne.symm hc)]⟩
    · cases hh
  · split at hh
    · cases hh; exact ⟨by simp, fun c hc => by rw [List.getElem?_set_ne (Ne.symm hc)]⟩
    · cases hh
  · cases hh
theorem happly_get : ∀ (ws : List (Nat × Nat × List Value)) (h h' : List PO), happly h ws = some h' → h'.length = h.length ∧ ∀ c, (∀ x ∈ ws, x.1 ≠ c) → h'[c]? = h[c]?
  | [], h, h', hh => by cases hh; exact ⟨rfl, fun _ _ => rfl⟩
  | (b, o, vs) :: ws, h, h', hh => by
    simp only [happly] at hh
    obtain ⟨h1, h2, h3⟩ := Option.bind_eq_some_iff.1 hh
    obtain ⟨g1, g2⟩ := hput_get h2
    obtain ⟨g3, g4⟩ := happly_get ws h1 h' h3
    exact ⟨g3.trans g1, fun c hc => (g4 c (fun x hx => hc x (List.mem_cons_of_mem _ hx))).trans (g2 c (fun e => hc (b, o, vs) (by simp) e.symm))⟩
/-- The stores that have been done, in the text's order. -/
def Wl (L : Nat → Bool) : Nat → List DR → List (Nat × Nat × List Value)
  | _, [] => []
  | k, r :: rs => (if L k then r.ws else []) ++ Wl L (k + 1) rs
theorem Wl_congr {L L' : Nat → Bool} : ∀ (rs : List DR) (k : Nat), (∀ (i : Nat) r, rs[i]? = some r → r.ws ≠ [] → L (k + i) = L' (k + i)) → Wl L k rs = Wl L' k rs
  | [], _, _ => rfl
  | r :: rs, k, h => by
    have ih : Wl L (k + 1) rs = Wl L' (k + 1) rs := Wl_congr rs (k + 1) (fun i r' hr hw => by
      have h2 := h (i + 1) r' (by simpa using hr) hw
      have e : k + (i + 1) = k + 1 + i := by omega
      rw [← e]; exact h2)
    show (if L k then r.ws else []) ++ Wl L (k + 1) rs = (if L' k then r.ws else []) ++ Wl L' (k + 1) rs
    rw [ih]
    by_cases hr : r.ws = []
    · simp [hr]
    · have := h 0 r rfl hr
      rw [Nat.add_zero] at this
      rw [this]
theorem Wl_none {L : Nat → Bool} : ∀ (rs : List DR) (k : Nat), (∀ (i : Nat) r, rs[i]? = some r → r.ws ≠ [] → L (k + i) = false) → Wl L k rs = []
  | [], _, _ => rfl
  | r :: rs, k, h => by
    have ih : Wl L (k + 1) rs = [] := Wl_none rs (k + 1) (fun i r' hr hw => by
      have h2 := h (i + 1) r' (by simpa using hr) hw
      have e : k + (i + 1) = k + 1 + i := by omega
      rw [← e]; exact h2)
    show (if L k then r.ws else []) ++ Wl L (k + 1) rs = []
    rw [ih]
    by_cases hr : r.ws = []
    · simp [hr]
    · have := h 0 r rfl hr
      rw [Nat.add_zero] at this
      simp [this]
theorem Wl_all {L : Nat → Bool} : ∀ (rs : List DR) (k : Nat), (∀ (i : Nat) r, rs[i]? = some r → L (k + i) = true) → Wl L k rs = wEnd rs
  | [], _, _ => rfl
  | r :: rs, k, h => by
    have ih : Wl L (k + 1) rs = wEnd rs := Wl_all rs (k + 1) (fun i r' hr => by
      have h2 := h (i + 1) r' (by simpa using hr)
      have e : k + (i + 1) = k + 1 + i := by omega
      rw [← e]; exact h2)
    show (if L k then r.ws else []) ++ Wl L (k + 1) rs = _
    have := h 0 r rfl
    rw [Nat.add_zero] at this
    rw [ih, this]
    simp [wEnd]
theorem Wl_last {L : Nat → Bool} : ∀ (rs : List DR) (k j : Nat) (r : DR), rs[j]? = some r → L (k + j) = false → (∀ (i : Nat) r', j < i → rs[i]? = some r' → r'.ws ≠ [] → L (k + i) = false) →
    Wl (fun i => if i = k + j then true else L i) k rs = Wl L k rs ++ r.ws
  | [], _, _, _, h, _, _ => by simp at h
  | x :: rs, k, 0, r, h, hL, hlast => by
    simp only [List.getElem?_cons_zero, Option.some.injEq] at h
    subst h
    have h1 : Wl L (k + 1) rs = [] := Wl_none rs (k + 1) (fun i r' hr hw => by
      have h2 := hlast (i + 1) r' (by omega) (by simpa using hr) hw
      have e : k + (i + 1) = k + 1 + i := by omega
      rw [← e]; exact h2)
    have h2 : Wl (fun i => if i = k + 0 then true else L i) (k + 1) rs = [] := by
      rw [← h1]
      exact Wl_congr rs (k + 1) (fun i r' hr hw => if_neg (by omega))
    rw [Nat.add_zero] at hL
    show (if (if k = k + 0 then true else L k) then x.ws else []) ++ Wl (fun i => if i = k + 0 then true else L i) (k + 1) rs = ((if L k then x.ws else []) ++ Wl L (k + 1) rs) ++ x.ws
    rw [h1, h2]
    simp [hL]
  | x :: rs, k, j + 1, r, h, hL, hlast => by
    have hj : k + 1 + j = k + (j + 1) := by omega
    have ih := Wl_last (L := L) rs (k + 1) j r (by simpa using h) (by rw [hj]; exact hL) (fun i r' hi hr hw => by
      have h2 := hlast (i + 1) r' (by omega) (by simpa using hr) hw
      have e : k + (i + 1) = k + 1 + i := by omega
      rw [← e]; exact h2)
    rw [hj] at ih
    show (if (if k = k + (j + 1) then true else L k) then x.ws else []) ++ Wl (fun i => if i = k + (j + 1) then true else L i) (k + 1) rs = ((if L k then x.ws else []) ++ Wl L (k + 1) rs) ++ r.ws
    rw [ih, if_neg (show ¬ (k = k + (j + 1)) by omega), List.append_assoc]
theorem DT.length {P : Program} {ops : Array Oper} : ∀ {l : List Oper} {e : Env} {h : List PO} {rs : List DR}, DT P ops l e h rs → rs.length = l.length
  | [], _, _, _, h => by cases h; rfl
  | o :: os, e, h, _, ⟨r, rs', rfl, _, h2⟩ => by simp [DT.length h2]
theorem DT.at {P : Program} {ops : Array Oper} : ∀ {l : List Oper} {e : Env} {h : List PO} {rs : List DR}, DT P ops l e h rs → ∀ (i : Nat) (o : Oper), l[i]? = some o → ∃ r, rs[i]? = some r ∧ dstep P ops o (eEnd (l.take i) (rs.take i) e) (hEnd (rs.take i) h) r
  | [], _, _, _, _, i, o, hi => by simp at hi
  | o :: os, e, h, _, ⟨r, rs', rfl, h1, h2⟩, 0, o', hi => by
    simp only [List.getElem?_cons_zero, Option.some.injEq] at hi
    subst hi
    exact ⟨r, rfl, by simpa [eEnd, hEnd] using h1⟩
  | o :: os, e, h, _, ⟨r, rs', rfl, h1, h2⟩, i + 1, o', hi => by
    obtain ⟨r', g1, g2⟩ := DT.at h2 i o' (by simpa using hi)
    refine ⟨r', by simpa using g1, ?_⟩
    simpa [eEnd, hEnd, List.append_assoc] using g2
theorem eEnd_none : ∀ (l : List Oper) (rs : List DR) (e : Env) (t : Tmp), (∀ (i : Nat) (o : Oper), l[i]? = some o → o.dst ≠ some t) → (eEnd l rs e).get t = e.get t
  | [], rs, e, t, _ => by simp [eEnd]
  | o :: os, [], e, t, _ => by simp [eEnd]
  | o :: os, r :: rs, e, t, h => by
    simp only [eEnd]
    rw [eEnd_none os rs _ t (fun i o' ho => h (i + 1) o' (by simpa using ho))]
    have h0 := h 0 o rfl
    cases hd : o.dst with
    | none => rfl
    | some d =>
      rw [hd] at h0
      simp only [Env.putO, Env.get]
      rw [if_neg (fun e => h0 (by rw [e]))]
theorem eEnd_some : ∀ (l : List Oper) (rs : List DR) (e : Env) (t : Tmp) (i : Nat) (o : Oper) (r : DR), l[i]? = some o → rs[i]? = some r → o.dst = some t → (∀ (k : Nat) (o' : Oper), i < k → l[k]? = some o' → o'.dst ≠ some t) → (eEnd l rs e).get t = some r.v
  | [], _, _, _, _, _, _, h, _, _, _ => by simp at h
  | _ :: _, [], _, _, _, _, _, _, h, _, _ => by simp at h
  | x :: os, y :: rs, e, t, 0, o, r, h1, h2, h3, h4 => by
    simp only [List.getElem?_cons_zero, Option.some.injEq] at h1 h2
    subst h1; subst h2
    simp only [eEnd]
    rw [eEnd_none os rs _ t (fun i o' ho => h4 (i + 1) o' (by omega) (by simpa using ho)), h3]
    simp [Env.putO, Env.get]
  | x :: os, y :: rs, e, t, i + 1, o, r, h1, h2, h3, h4 => by
    simp only [eEnd]
    exact eEnd_some os rs _ t i o r (by simpa using h1) (by simpa using h2) h3 (fun k o' hk ho => h4 (k + 1) o' (by omega) (by simpa using ho))
end Go.Proofs.YtjopikjefpenkaaDoor
/- Regions that draw their order: shown. -/
namespace Go.Proofs.YtjopikjefpenkaaDoor
open Go.RowKit
variable [Inv]
section
variable {D : List Deferred} {P : Program} {ops : Array Oper} {N : Nat}
structure Stat (N : Nat) (ops : Array Oper) : Prop where
  edges : ∀ j o, ops[j]? = some o → ∀ e ∈ o.after.toList, Region.binds .any e = true → e.on < j
  lt : ∀ (j : Nat) (o : Oper) d, ops[j]? = some o → o.dst = some d → d < N
  uniq : ∀ (i j : Nat) (o p : Oper) d, ops[i]? = some o → ops[j]? = some p → o.dst = some d → p.dst = some d → i = j
  look : ∀ (i j : Nat) (o p : Oper) d, ops[i]? = some o → ops[j]? = some p → o.dst = some d → d ∈ p.looksAt ops → (i < j ∧ preB ops i j = true) ∨ (j ≤ i ∧ (i = j ∨ preB ops j i = true) ∧ isReader p = false)
  store : ∀ (i j : Nat) (o p : Oper), ops[i]? = some o → ops[j]? = some p → isStore o = true → isStore p = true → i < j → preB ops i j = true
theorem stat_of (h : drawStat N ops = true) : Stat N ops := by
  unfold drawStat at h
  simp only [List.all_eq_true] at h
  have mem : ∀ (i : Nat) (o : Oper), ops[i]? = some o → (o, i) ∈ ops.toList.zipIdx := fun i o hi => by
    rw [List.mem_zipIdx_iff_getElem?]; simpa using hi
  refine ⟨fun j o hj e he hb => ?_, fun j o d hj hd => ?_, fun i j o p d hi hj ho hp => ?_, fun i j o p d hi hj ho hp => ?_, fun i j o p hi hj ho hp hlt => ?_⟩
  · have := h _ (mem j o hj)
    simp only [Bool.and_eq_true, List.all_eq_true] at this
    have := this.1.1 e he
    simpa [hb] using this
  · have := h _ (mem j o hj)
    simp only [Bool.and_eq_true, hd] at this
    simpa using this.1.2
  · have := h _ (mem i o hi)
    simp only [Bool.and_eq_true, List.all_eq_true] at this
    have := (this.2 _ (mem j p hj)).1
    simp only [ho, hp, Bool.and_eq_true] at this
    simpa using this.1
  · have := h _ (mem i o hi)
    simp only [Bool.and_eq_true, List.all_eq_true] at this
    have := (this.2 _ (mem j p hj)).1
    simp only [ho, Bool.and_eq_true] at this
    have := this.2
    have hc : (p.looksAt ops).contains d = true := by simpa using hp
    rw [hc] at this
    simp only [Bool.not_true, Bool.false_or] at this
    split at this
    · rename_i hlt; exact .inl ⟨hlt, this⟩
    · rename_i hlt
      simp only [Bool.and_eq_true, Bool.not_eq_true', Bool.or_eq_true, beq_iff_eq] at this
      exact .inr ⟨by omega, this.1, this.2⟩
  · have := h _ (mem i o hi)
    simp only [Bool.and_eq_true, List.all_eq_true] at this
    have := (this.2 _ (mem j p hj)).2
    simpa [ho, hp, hlt] using this
variable {e0 : Env} {h0 : List PO} {rs : List DR} {τ0 : Tau} {w0 : World}
def Tau.upto (τ : Tau) (m : Nat) : Tau := fun b => if b < m then τ b else none
theorem Tau.upto_le (τ : Tau) (m : Nat) : (τ.upto m).le τ := fun b p h => by
  unfold Tau.upto at h
  split at h
  · exact h
  · cases h
theorem Tau.upto_mono {τ τ' : Tau} {m m' : Nat} (h : τ.le τ') (hm : m ≤ m') : (τ.upto m).le (τ'.upto m') := fun b p hb => by
  unfold Tau.upto at hb ⊢
  split at hb
  · rename_i hlt; rw [if_pos (by omega)]; exact h b p hb
  · cases hb
def posOf (rs : List DR) (h0 : List PO) (i : Nat) : Nat := (hEnd (rs.take i) h0).length
structure DInv (D : List Deferred) (ops : Array Oper) (N : Nat) (e0 : Env) (h0 : List PO) (rs : List DR) (τ0 : Tau) (w0 : World) (L : Nat → Bool) (a : Act) (w : World) (τ : Tau) (M : List PO) : Prop where
  le : τ0.le τ
  dom : ∀ b p, τ b = some p → τ0 b = some p ∨ (w0.heap.size ≤ p.base.block ∧ ∃ i r, L i = true ∧ rs[i]? = some r ∧ posOf rs h0 i ≤ b ∧ b < posOf rs h0 i + r.ns.length)
  mem : happly (hEnd rs h0) (Wl L 0 rs) = some M
  rh : RH τ M w
  fr : Fr (wset τ0 h0) w0 w
  wl : ∀ x ∈ Wl L 0 rs, τ x.1 ≠ none
  un : ∀ b p o, τ b = some p → (∀ x ∈ Wl L 0 rs, x.1 ≠ b) → (hEnd rs h0)[b]? = some o → ∀ k, b < posOf rs h0 k → OR (τ.upto (posOf rs h0 k)) p w o
  size : a.tmps.size = N
  defers : a.defers = D
  t1 : ∀ (m : Nat) (o : Oper) r t, ops[m]? = some o → o.dst = some t → L m = true → rs[m]? = some r → VR (τ.upto (posOf rs h0 (m + 1))) r.v (a.tmps.getD t undef)
  t2 : ∀ t v, e0.get t = some v → (∀ (m : Nat) (o : Oper), ops[m]? = some o → o.dst = some t → L m = false) → VR (τ.upto (posOf rs h0 0)) v (a.tmps.getD t undef)
theorem hEnd_len (rs : List DR) (h : List PO) : (hEnd rs h).length = h.length + (rs.map fun r => r.ns.length).sum := by
  simp [hEnd, List.length_flatten, Function.comp_def]
theorem posOf_succ {i : Nat} {r : DR} (h : rs[i]? = some r) : posOf rs h0 (i + 1) = posOf rs h0 i + r.ns.length := by
  unfold posOf
  have hi := (List.getElem?_eq_some_iff.1 h)
  obtain ⟨hi, he⟩ := hi
  rw [List.take_succ_eq_append_getElem hi, he]
  simp [hEnd, List.flatten_append]
  omega
theorem posOf_mono {i j : Nat} (h : i ≤ j) : posOf rs h0 i ≤ posOf rs h0 j := by
  unfold posOf
  have : rs.take i = (rs.take j).take i := by rw [List.take_take, Nat.min_eq_left h]
  rw [this, hEnd_len, hEnd_len]
  have h2 : ((rs.take j).map fun r => r.ns.length).sum = (((rs.take j).take i).map fun r => r.ns.length).sum + (((rs.take j).drop i).map fun r => r.ns.length).sum := by
    rw [← List.sum_append, ← List.map_append, List.take_append_drop]
  omega
theorem hEnd_prefix (i : Nat) : hEnd rs h0 = hEnd (rs.take i) h0 ++ ((rs.drop i).map DR.ns).flatten := by
  unfold hEnd
  rw [List.append_assoc, ← List.flatten_append, ← List.map_append, List.take_append_drop]
theorem hEnd_low {i b : Nat} (h : b < posOf rs h0 i) : (hEnd rs h0)[b]? = (hEnd (rs.take i) h0)[b]? := by
  rw [hEnd_prefix i, List.getElem?_append_left h]
theorem hEnd_new {i k : Nat} {r : DR} {o : PO} (h : rs[i]? = some r) (hk : r.ns[k]? = some o) : (hEnd rs h0)[posOf rs h0 i + k]? = some o := by
  obtain ⟨hi, he⟩ := List.getElem?_eq_some_iff.1 h
  have hkl := (List.getElem?_eq_some_iff.1 hk).1
  rw [hEnd_prefix i, List.getElem?_append_right (by unfold posOf; omega)]
  unfold posOf
  rw [Nat.add_sub_cancel_left, List.drop_eq_getElem_cons hi, he]
  simp only [List.map_cons, List.flatten_cons]
  rw [List.getElem?_append_left hkl, hk]
end
end Go.Proofs.YtjopikjefpenkaaDoor
/- Regions that draw their order: one step. -/
namespace Go.Proofs.YtjopikjefpenkaaDoor
open Go.RowKit
variable [Inv]
section
variable {D : List Deferred} {P : Program} {ops : Array Oper} {N : Nat} {e0 : Env} {h0 : List PO} {rs : List DR} {τ0 : Tau} {w0 : World} {L : Nat → Bool} {a : Act} {w : World} {τ : Tau} {M : List PO}
theorem DInv.next (hs : Stat N ops) (inv : DInv D ops N e0 h0 rs τ0 w0 L a w τ M) {j : Nat} {o : Oper} {r : DR} (hro : rs[j]? = some r) (ho : ops[j]? = some o) (hj : L j = false) {τn : Tau} {w' : World} {M' : List PO} {v' : Value} (hle : τ.le τn) (hdom : ∀ b p, τn b = some p → τ b = some p ∨ (posOf rs h0 j ≤ b ∧ b < posOf rs h0 j + r.ns.length ∧ w.heap.size ≤ p.base.block))
    (hM : happly (hEnd rs h0) (Wl (fun i => if i = j then true else L i) 0 rs) = some M') (hrh : RH τn M' w') (hfr : Fr (wset τ0 h0) w0 w') (hwl : ∀ x ∈ Wl (fun i => if i = j then true else L i) 0 rs, τn x.1 ≠ none) (hun : ∀ b p o, τn b = some p → (∀ x ∈ Wl (fun i => if i = j then true else L i) 0 rs, x.1 ≠ b) → (hEnd rs h0)[b]? = some o → ∀ k, b < posOf rs h0 k → OR (τn.upto (posOf rs h0 k)) p w' o) (hv : VR (τn.upto (posOf rs h0 (j + 1))) r.v v') :
    DInv D ops N e0 h0 rs τ0 w0 (fun i => if i = j then true else L i) (a.put o.dst v') w' τn M' := by
  have hget : ∀ t, (o.dst = some t → (a.put o.dst v').tmps.getD t undef = v') ∧ (o.dst ≠ some t → (a.put o.dst v').tmps.getD t undef = a.tmps.getD t undef) := fun t => by
    refine ⟨fun hd => ?_, fun hd => ?_⟩
    · have hlt := hs.lt j o t ho hd
      rw [← inv.size] at hlt
      rw [hd]
      simp [Act.put, hlt]
    · cases hdd : o.dst with
      | none => rfl
      | some d =>
        rw [hdd] at hd
        have : d ≠ t := fun e => hd (by rw [e])
        simp [Act.put, Array.getElem?_setIfInBounds_ne this]
  refine ⟨Tau.le_trans inv.le hle, fun b p hb => ?_, hM, hrh, hfr, hwl, hun, ?_, ?_, fun m o' r' t h1 h2 h3 h4 => ?_, fun t v h1 h2 => ?_⟩
  · rcases hdom b p hb with h | ⟨h1, h2, h3⟩
    · rcases inv.dom b p h with h | ⟨h1, i, r', h2, h3⟩
      · exact .inl h
      · exact .inr ⟨h1, i, r', by simp [h2], h3⟩
    · exact .inr ⟨Nat.le_trans inv.fr.size h3, j, r, by simp, hro, h1, h2⟩
  · cases o.dst <;> simp [Act.put, inv.size]
  · cases o.dst <;> simp [Act.put, inv.defers]
  · by_cases e : m = j
    · subst e
      rw [ho] at h1; cases h1
      rw [hro] at h4; cases h4
      rw [(hget t).1 h2]; exact hv
    · simp only [if_neg e] at h3
      rw [(hget t).2 (fun hd => e (hs.uniq m j o' o t h1 ho h2 hd))]
      exact (inv.t1 m o' r' t h1 h2 h3 h4).mono (Tau.upto_mono hle (Nat.le_refl _))
  · have hd : o.dst ≠ some t := fun hd => by have := h2 j o ho hd; simp at this
    rw [(hget t).2 hd]
    refine (inv.t2 t v h1 (fun m o' g1 g2 => ?_)).mono (Tau.upto_mono hle (Nat.le_refl _))
    by_cases e : m = j
    · subst e; exact hj
    · have := h2 m o' g1 g2; simpa [e] using this
/-- What is known of a drawn region in its midst. -/
structure Mid (P : Program) (ops : Array Oper) (N : Nat) (e0 : Env) (h0 : List PO) (rs : List DR) (L : Nat → Bool) : Prop where
  st : Stat N ops
  dt : DT P ops ops.toList e0 h0 rs
  cl : ∀ i o, L i = true → ops[i]? = some o → ∀ e ∈ o.after.toList, Region.binds .any e = true → L e.on = true
theorem Mid.pre (k : Mid P ops N e0 h0 rs L) {j : Nat} (hr : ∀ o, ops[j]? = some o → ∀ e ∈ o.after.toList, Region.binds .any e = true → L e.on = true) {i : Nat} (hp : preB ops i j = true) : L i = true :=
  (before_reach ops i j hp).listed (L := fun i => L i = true) (fun j o hl ho e he hb => k.cl j o hl ho e he hb) hr
theorem Mid.pre' (k : Mid P ops N e0 h0 rs L) {i j : Nat} (hi : L i = true) (hp : preB ops j i = true) : L j = true :=
  k.pre (fun o ho e he hb => k.cl i o hi ho e he hb) hp
def eI (ops : Array Oper) (rs : List DR) (e0 : Env) (j : Nat) : Env := eEnd (ops.toList.take j) (rs.take j) e0
theorem eI_some (hs : Stat N ops) {j m : Nat} {p : Oper} {r : DR} {t : Tmp} (hm : ops[m]? = some p) (hr : rs[m]? = some r) (hd : p.dst = some t) (hlt : m < j) : (eI ops rs e0 j).get t = some r.v := by
  refine eEnd_some _ _ _ t m p r ?_ ?_ hd (fun k o' hk ho hd' => ?_)
  · rw [List.getElem?_take, if_pos hlt]; simpa using hm
  · rw [List.getElem?_take, if_pos hlt]; exact hr
  · rw [List.getElem?_take] at ho
    split at ho
    · have := hs.uniq m k p o' t hm (by simpa using ho) hd hd'
      omega
    · cases ho
theorem eI_none {j : Nat} {t : Tmp} (h : ∀ (m : Nat) (p : Oper), m < j → ops[m]? = some p → p.dst ≠ some t) : (eI ops rs e0 j).get t = e0.get t := by
  refine eEnd_none _ _ _ t (fun i o ho => ?_)
  rw [List.getElem?_take] at ho
  split at ho
  · rename_i hlt; exact h i o hlt (by simpa using ho)
  · cases ho
theorem looks_er (k : Mid P ops N e0 h0 rs L) (inv : DInv D ops N e0 h0 rs τ0 w0 L a w τ M) {j : Nat} {o : Oper} (ho : ops[j]? = some o) (hj : L j = false) (hr : ∀ o, ops[j]? = some o → ∀ e ∈ o.after.toList, Region.binds .any e = true → L e.on = true) : ER (τ.upto (posOf rs h0 j)) N (onlyOf ops o (eI ops rs e0 j)) a D := by
  refine ⟨inv.size, inv.defers, fun t v hv => ?_⟩
  unfold onlyOf at hv
  rw [ev_only] at hv
  split at hv
  · rename_i hc
    have hl : t ∈ o.looksAt ops := by simpa using hc
    by_cases h : ∃ (m : Nat) (p : Oper), m < j ∧ ops[m]? = some p ∧ p.dst = some t
    · obtain ⟨m, p, h1, h2, h3⟩ := h
      have hlen := k.dt.length
      have hm : m < rs.length := by
        rw [hlen]
        have := (Array.getElem?_eq_some_iff.1 h2).1
        simpa using this
      have hrs : rs[m]? = some rs[m] := List.getElem?_eq_getElem hm
      rw [eI_some k.st h2 hrs h3 h1] at hv
      cases hv
      have hL : L m = true := by
        rcases k.st.look m j p o t h2 ho h3 hl with ⟨_, e⟩ | ⟨e, _⟩
        · exact k.pre hr e
        · omega
      exact (inv.t1 m p _ t h2 h3 hL hrs).mono (Tau.upto_mono (Tau.le_refl _) (posOf_mono h1))
    · rw [eI_none (fun m p h1 h2 h3 => h ⟨m, p, h1, h2, h3⟩)] at hv
      refine (inv.t2 t v hv (fun m p h1 h2 => ?_)).mono (Tau.upto_mono (Tau.le_refl _) (posOf_mono (Nat.zero_le _)))
      cases hL : L m with
      | false => rfl
      | true =>
        rcases k.st.look m j p o t h1 ho h2 hl with ⟨e, _⟩ | ⟨_, e | e, _⟩
        · exact (h ⟨m, p, e, h1, h2⟩).elim
        · subst e; rw [hj] at hL; cases hL
        · have := k.pre' hL e; rw [hj] at this; cases this
  · cases hv
theorem gw_wanted {o : Oper} {e : Env} (he : ER τ N (onlyOf ops o e) a D) {b : Bool} (hg : gw ops e o.guard = some b) : Region.wanted o (yielded ops a.tmps) = b := by
  unfold gw at hg
  split at hg
  · rename_i g; cases hg; simp [Region.wanted, g]
  · rename_i j want g
    split at hg
    · rename_i d hd
      have hl : (o.looksAt ops).contains d = true := by
        have : d ∈ o.looksAt ops := by
          unfold Oper.looksAt
          refine List.mem_append_right _ ?_
          rw [g]
          simp only [hd]
          simp
        simpa using this
      have hget : (onlyOf ops o e).get d = e.get d := by unfold onlyOf; rw [ev_only, if_pos hl]
      split at hg
      · rename_i x hx
        cases hg
        have := yielded_bool he hd (hget.trans hx)
        simp [Region.wanted, g, this]
      · rename_i vs hx
        cases hg
        have := yielded_tuple he hd (hget.trans hx)
        simp [Region.wanted, g, this]
      · cases hg
    · cases hg
/-- A reader's operands stay as they are to the end. -/
theorem eI_stable (k : Mid P ops N e0 h0 rs L) {j : Nat} {o : Oper} (ho : ops[j]? = some o) (hrd : isReader o = true) : AgOn (eEnd ops.toList rs e0) (eI ops rs e0 j) o.op := fun x hx => by
  cases x with
  | tmp t =>
    show Env.get _ t = Env.get _ t
    have hl : t ∈ o.looksAt ops := by
      unfold Oper.looksAt
      exact List.mem_append_left _ (List.mem_filterMap.2 ⟨.tmp t, hx, rfl⟩)
    have hlen := k.dt.length
    have hend : eEnd ops.toList rs e0 = eI ops rs e0 ops.size := by
      unfold eI
      rw [List.take_of_length_le (by simp), List.take_of_length_le (by rw [hlen]; simp)]
    rw [hend]
    by_cases h : ∃ (m : Nat) (p : Oper), m < j ∧ ops[m]? = some p ∧ p.dst = some t
    · obtain ⟨m, p, h1, h2, h3⟩ := h
      have hml := (Array.getElem?_eq_some_iff.1 h2).1
      have hm : m < rs.length := by rw [hlen]; simpa using hml
      have hrs : rs[m]? = some rs[m] := List.getElem?_eq_getElem hm
      rw [eI_some k.st h2 hrs h3 h1, eI_some k.st h2 hrs h3 hml]
    · rw [eI_none (fun m p h1 h2 h3 => h ⟨m, p, h1, h2, h3⟩), eI_none (fun m p h1 h2 h3 => ?_)]
      rcases k.st.look m j p o t h2 ho h3 hl with ⟨e, _⟩ | ⟨_, _, e⟩
      · exact h ⟨m, p, e, h2, h3⟩
      · rw [hrd] at e; cases e
  | const v => rfl
  | func f => rfl
  | global g => rfl
theorem Wl_mem {L : Nat → Bool} {x : Nat × Nat × List Value} : ∀ (rs : List DR) (k : Nat), x ∈ Wl L k rs → ∃ (i : Nat) (r : DR), rs[i]? = some r ∧ L (k + i) = true ∧ x ∈ r.ws
  | [], _, h => by simp [Wl] at h
  | r :: rs, k, h => by
    unfold Wl at h
    rcases List.mem_append.1 h with h | h
    · split at h
      · rename_i hL; exact ⟨0, r, rfl, by simpa using hL, h⟩
      · simp at h
    · obtain ⟨i, r', h1, h2, h3⟩ := Wl_mem rs (k + 1) h
      exact ⟨i + 1, r', by simpa using h1, by rwa [show k + (i + 1) = k + 1 + i by omega], h3⟩
theorem wEnd_split (m : Nat) : wEnd rs = wEnd (rs.take m) ++ wEnd (rs.drop m) := by
  unfold wEnd; rw [← List.flatten_append, ← List.map_append, List.take_append_drop]
theorem Wl_lt : ∀ (rs : List DR) (k m : Nat), Wl (fun i => decide (i < k + m)) k rs = wEnd (rs.take m)
  | [], _, _ => by simp [Wl, wEnd]
  | r :: rs, k, 0 => by
    rw [Wl_none _ _ (fun i r' _ _ => by simp)]
    simp [wEnd]
  | r :: rs, k, m + 1 => by
    have ih := Wl_lt rs (k + 1) m
    rw [show k + 1 + m = k + (m + 1) by omega] at ih
    show (if decide (k < k + (m + 1)) then r.ws else []) ++ Wl _ (k + 1) rs = _
    rw [ih]
    simp [wEnd]
theorem hput_own {h h' : List PO} {b o : Nat} {vs : List Value} (hh : hput h b o vs = some h') {c : Nat} {x : PO} (hx : h'[c]? = some x) (ho : x.own = true) : ∃ y, h[c]? = some y ∧ y.own = true := by
  by_cases e : c = b
  · subst e
    unfold hput at hh
    split at hh
    · rename_i cs hb; exact ⟨_, hb, rfl⟩
    · rename_i cs hb; exact ⟨_, hb, rfl⟩
    · cases hh
  · rw [(hput_get hh).2 c e] at hx; exact ⟨x, hx, ho⟩
theorem happly_own : ∀ (ws : List (Nat × Nat × List Value)) {h h' : List PO}, happly h ws = some h' → ∀ {c : Nat} {x : PO}, h'[c]? = some x → x.own = true → ∃ y, h[c]? = some y ∧ y.own = true
  | [], h, h', hh, c, x, hx, ho => by cases hh; exact ⟨x, hx, ho⟩
  | (b, o, vs) :: ws, h, h', hh, c, x, hx, ho => by
    simp only [happly] at hh
    obtain ⟨h1, h2, h3⟩ := Option.bind_eq_some_iff.1 hh
    obtain ⟨y, g1, g2⟩ := happly_own ws h3 hx ho
    exact hput_own h2 g1 g2
end
end Go.Proofs.YtjopikjefpenkaaDoor
/- Regions that draw their order: an operation is done. -/
namespace Go.Proofs.YtjopikjefpenkaaDoor
open Go.RowKit
variable [Inv]
section
variable {D : List Deferred} {P : Program} {ops : Array Oper} {N : Nat} {e0 : Env} {h0 : List PO} {rs : List DR} {τ0 : Tau} {w0 : World} {L : Nat → Bool} {a : Act} {w : World} {τ : Tau} {M : List PO}
theorem RH.lt {τ : Tau} {h : List PO} {w : World} (k : RH τ h w) {b : Nat} {p : Pl} (hb : τ b = some p) : b < h.length := by
  obtain ⟨o, h1, _⟩ := k.ob b p hb
  exact (List.getElem?_eq_some_iff.1 h1).1
theorem wset_old (k0 : RH τ0 h0 w0) (inv : DInv D ops N e0 h0 rs τ0 w0 L a w τ M) {x : Nat} (hx : wset τ M x) : wset τ0 h0 x ∨ w0.heap.size ≤ x := by
  obtain ⟨b, p, o, h1, h2, h3, rfl⟩ := hx
  rcases inv.dom b p h1 with h | ⟨h, _⟩
  · obtain ⟨y, g1, g2⟩ := happly_own _ inv.mem h2 h3
    have hlt := k0.lt h
    unfold hEnd at g1
    rw [List.getElem?_append_left hlt] at g1
    exact .inl ⟨b, p, y, h, g1, g2, rfl⟩
  · exact .inr h
def deadAt (ws : List (Nat × Nat × List Value)) (h : List PO) : List PO := h.mapIdx fun b o => if ws.any (fun x => x.1 == b) then .dead else o
theorem deadAt_len (ws) (h : List PO) : (deadAt ws h).length = h.length := by simp [deadAt]
theorem deadAt_nil (h : List PO) : deadAt [] h = h := by
  apply List.ext_getElem?
  intro i
  simp [deadAt, List.getElem?_mapIdx]
theorem deadAt_get {ws : List (Nat × Nat × List Value)} {h : List PO} {b : Nat} (hn : ∀ x ∈ ws, x.1 ≠ b) : (deadAt ws h)[b]? = h[b]? := by
  have : ws.any (fun x => x.1 == b) = false := by
    rw [List.any_eq_false]; intro x hx; simpa using hn x hx
  simp [deadAt, List.getElem?_mapIdx, this]
theorem deadAt_cases {ws : List (Nat × Nat × List Value)} {h : List PO} {b : Nat} {o : PO} (ho : h[b]? = some o) : ((deadAt ws h)[b]? = some .dead ∧ ∃ x ∈ ws, x.1 = b) ∨ ((deadAt ws h)[b]? = some o ∧ ∀ x ∈ ws, x.1 ≠ b) := by
  by_cases hc : ws.any (fun x => x.1 == b) = true
  · refine .inl ⟨by simp [deadAt, List.getElem?_mapIdx, ho, hc], ?_⟩
    obtain ⟨x, h1, h2⟩ := List.any_eq_true.1 hc
    exact ⟨x, h1, by simpa using h2⟩
  · have hn : ∀ x ∈ ws, x.1 ≠ b := fun x hx e => hc (List.any_eq_true.2 ⟨x, hx, by simpa using e⟩)
    exact .inr ⟨by rw [deadAt_get hn]; exact ho, hn⟩
/-- What an operation may look at. -/
theorem DInv.view (inv : DInv D ops N e0 h0 rs τ0 w0 L a w τ M) (j : Nat) : RH (τ.upto (posOf rs h0 j)) (deadAt (Wl L 0 rs) (hEnd (rs.take j) h0)) w := by
  have hM := inv.mem
  have key : ∀ b p, τ.upto (posOf rs h0 j) b = some p → τ b = some p ∧ b < posOf rs h0 j := fun b p hb => by
    unfold Tau.upto at hb
    split at hb
    · rename_i hlt; exact ⟨hb, hlt⟩
    · cases hb
  have obj : ∀ b p, τ.upto (posOf rs h0 j) b = some p → ∃ o, (hEnd (rs.take j) h0)[b]? = some o ∧ (hEnd rs h0)[b]? = some o := fun b p hb => by
    obtain ⟨_, hlt⟩ := key b p hb
    have hlt' : b < (hEnd (rs.take j) h0).length := hlt
    exact ⟨_, List.getElem?_eq_getElem hlt', by rw [hEnd_low hlt]; exact List.getElem?_eq_getElem hlt'⟩
  have same : ∀ {b : Nat} {o : PO}, (hEnd rs h0)[b]? = some o → (∀ x ∈ Wl L 0 rs, x.1 ≠ b) → M[b]? = some o := fun {b o} ho hn => by
    rw [(happly_get _ _ _ hM).2 b hn]; exact ho
  refine ⟨fun b p hb => ?_, fun b c p q o o' hne hb hc h1 h2 h3 h4 => ?_⟩
  · obtain ⟨hb', hlt⟩ := key b p hb
    obtain ⟨o, g1, g2⟩ := obj b p hb
    rcases deadAt_cases (ws := Wl L 0 rs) g1 with ⟨g3, _⟩ | ⟨g3, g4⟩
    · exact ⟨.dead, g3, trivial, fun x => by cases x⟩
    · obtain ⟨o2, k1, _, k3⟩ := inv.rh.ob b p hb'
      rw [same g2 g4] at k1; cases k1
      exact ⟨o, g3, inv.un b p o hb' g4 g2 j hlt, k3⟩
  · obtain ⟨hb', hlt⟩ := key b p hb
    obtain ⟨hc', hlt'⟩ := key c q hc
    obtain ⟨o1, g1, g2⟩ := obj b p hb
    obtain ⟨o2, g3, g4⟩ := obj c q hc
    rcases deadAt_cases (ws := Wl L 0 rs) g1 with ⟨g5, _⟩ | ⟨g5, g6⟩
    · rw [g5] at h1; cases h1; cases h2
    · rcases deadAt_cases (ws := Wl L 0 rs) g3 with ⟨g7, _⟩ | ⟨g7, g8⟩
      · rw [g7] at h3; cases h3; cases h4
      · rw [g5] at h1; cases h1
        rw [g7] at h3; cases h3
        exact inv.rh.inj b c p q o o' hne hb' hc' (same g2 g6) h2 (same g4 g8) h4
/-- An operation that writes nothing has been done. -/
theorem DInv.quiet (hs : Stat N ops) (k0 : RH τ0 h0 w0) (inv : DInv D ops N e0 h0 rs τ0 w0 L a w τ M) {j : Nat} {o : Oper} {r : DR} (hro : rs[j]? = some r) (ho : ops[j]? = some o) (hj : L j = false) (hrw : r.ws = []) {τ1 τ'' : Tau} {H1 : List PO} {w' : World} {v' : Value} (h1 : RH τ1 H1 w) (hle1 : τ1.le τ) (hlen : H1.length = posOf rs h0 j) (q : Qr τ1 H1 w τ'' r.ns w') (hv : VR τ'' r.v v') :
    ∃ τn, DInv D ops N e0 h0 rs τ0 w0 (fun i => if i = j then true else L i) (a.put o.dst v') w' τn M := by
  have hfree : ∀ b, H1.length ≤ b → b < H1.length + r.ns.length → τ b = none := fun b hb1 hb2 => by
    cases e : τ b with
    | none => rfl
    | some p =>
      rcases inv.dom b p e with g | ⟨_, i, r', g1, g2, g3, g4⟩
      · have := k0.lt g
        have := posOf_mono (rs := rs) (h0 := h0) (Nat.zero_le j)
        have e0 : posOf rs h0 0 = h0.length := by simp [posOf, hEnd]
        omega
      · have hij : i ≠ j := fun e => by rw [e, hj] at g1; cases g1
        rcases Nat.lt_or_gt_of_ne hij with h | h
        · have := posOf_mono (rs := rs) (h0 := h0) (show i + 1 ≤ j from h)
          rw [posOf_succ g2] at this
          omega
        · have := posOf_mono (rs := rs) (h0 := h0) (show j + 1 ≤ i from h)
          rw [posOf_succ hro] at this
          omega
  have hun0 : ∀ b, H1.length ≤ b → b < H1.length + r.ns.length → ∀ x ∈ Wl L 0 rs, x.1 ≠ b := fun b hb1 hb2 x hx e => by
    have := inv.wl x hx
    rw [e] at this
    exact this (hfree b hb1 hb2)
  have hns : ∀ (i : Nat) o, r.ns[i]? = some o → M[H1.length + i]? = some o := fun i o hi => by
    have hil := (List.getElem?_eq_some_iff.1 hi).1
    rw [(happly_get _ _ _ inv.mem).2 _ (hun0 _ (by omega) (by omega)), hlen]
    exact hEnd_new hro hi
  obtain ⟨τn, l1, l2, l3, l4⟩ := merge inv.rh h1 hle1 q hns hfree
  have hWl : Wl (fun i => if i = j then true else L i) 0 rs = Wl L 0 rs := Wl_congr rs 0 (fun i r' hr hw => by
    rw [Nat.zero_add]
    by_cases e : i = j
    · subst e; rw [hro] at hr; cases hr; exact (hw hrw).elim
    · exact if_neg e)
  have hτ'' : τ''.le (τn.upto (posOf rs h0 (j + 1))) := fun b p hb => by
    have := q.rh.lt hb
    rw [List.length_append, hlen, ← posOf_succ hro] at this
    unfold Tau.upto
    rw [if_pos this]
    exact l2 b p hb
  have f1 : ∀ x ∈ Wl L 0 rs, τn x.1 ≠ none := fun x hx => by
    have := inv.wl x hx
    cases e : τ x.1 with
    | none => exact (this e).elim
    | some p => rw [l1 _ p e]; simp
  have f2 : ∀ b p o, τn b = some p → (∀ x ∈ Wl L 0 rs, x.1 ≠ b) → (hEnd rs h0)[b]? = some o → ∀ k, b < posOf rs h0 k → OR (τn.upto (posOf rs h0 k)) p w' o := fun b p o' hb hn ho' k hk => by
    rcases l4 b p hb with g | ⟨g1, g2, g3, hb''⟩
    · obtain ⟨o2, k1, _, k3⟩ := inv.rh.ob b p g
      rw [(happly_get _ _ _ inv.mem).2 b hn, ho'] at k1; cases k1
      have hor := inv.un b p o' g hn ho' k hk
      by_cases hl : o'.live = true
      · exact (hor.same (q.fr.block _ (k3 hl) (fun x => x))).mono (Tau.upto_mono l1 (Nat.le_refl _))
      · cases o' <;> first | trivial | exact absurd rfl hl
    · -- a new block
      have hk' : j + 1 ≤ k := by
        rcases Nat.lt_or_ge j k with h | h
        · exact h
        · have := posOf_mono (rs := rs) (h0 := h0) h; omega
      obtain ⟨o2, k1, k2, _⟩ := q.rh.ob b p hb''
      rw [List.getElem?_append_right g1] at k1
      have k4 := hEnd_new (h0 := h0) hro k1
      rw [← hlen, show H1.length + (b - H1.length) = b by omega, ho'] at k4
      cases k4
      exact k2.mono (Tau.le_trans hτ'' (Tau.upto_mono (Tau.le_refl _) (posOf_mono hk')))
  exact ⟨τn, inv.next hs hro ho hj l1 (fun b p hb => by rw [← hlen]; exact (l4 b p hb).imp id (fun h => ⟨h.1, h.2.1, h.2.2.1⟩)) (by rw [hWl]; exact inv.mem) l3 (inv.fr.trans (q.fr.mono (fun _ _ x => x.elim))) (by rw [hWl]; exact f1) (by rw [hWl]; exact f2) (hv.mono hτ'')⟩
end
end Go.Proofs.YtjopikjefpenkaaDoor
/- Regions that draw their order: each operation is done, in whatever order. -/
namespace Go.Proofs.YtjopikjefpenkaaDoor
open Go.RowKit
variable [Inv]
section
variable {D : List Deferred} {P : Program} {ops : Array Oper} {N : Nat} {e0 : Env} {h0 : List PO} {rs : List DR} {τ0 : Tau} {w0 : World} {L : Nat → Bool} {a : Act} {w : World} {τ : Tau} {M : List PO}
theorem DInv.stored (hs : Stat N ops) (k0 : RH τ0 h0 w0) (inv : DInv D ops N e0 h0 rs τ0 w0 L a w τ M) {j : Nat} {o : Oper} {b off : Nat} {vs : List Value} (hro : rs[j]? = some (.wr b off vs)) (ho : ops[j]? = some o) (hj : L j = false) {w' : World} {M' : List PO} {p : Pl} (hp : τ b = some p) (hW : Wl (fun i => if i = j then true else L i) 0 rs = Wl L 0 rs ++ [(b, off, vs)]) (hput1 : hput M b off vs = some M') (hrh : RH τ M' w') (hfr : Fr (wset τ M) w w') (hfb : Fr (· = p.base.block) w w') :
    DInv D ops N e0 h0 rs τ0 w0 (fun i => if i = j then true else L i) (a.put o.dst undef) w' τ M' := by
  refine inv.next hs hro ho hj (Tau.le_refl _) (fun b p hb => .inl hb) ?_ hrh (inv.fr.trans' hfr (fun x hx => wset_old k0 inv hx)) ?_ ?_ undef_VR
  · rw [hW, happly_append, inv.mem]
    simp [happly, hput1]
  · rw [hW]
    intro x hx
    rcases List.mem_append.1 hx with h | h
    · exact inv.wl x h
    · simp only [List.mem_singleton] at h
      subst h
      rw [hp]; simp
  · rw [hW]
    intro c q o' hc hn ho' k hk
    have hn1 : ∀ x ∈ Wl L 0 rs, x.1 ≠ c := fun x hx => hn x (List.mem_append_left _ hx)
    have hcb : b ≠ c := hn (b, off, vs) (List.mem_append_right _ (by simp))
    have hor := inv.un c q o' hc hn1 ho' k hk
    have hMc : M[c]? = some o' := by rw [(happly_get _ _ _ inv.mem).2 c hn1]; exact ho'
    by_cases hl : o'.live = true
    · obtain ⟨o2, k1, _, k3⟩ := inv.rh.ob c q hc
      rw [hMc] at k1; cases k1
      obtain ⟨ob, g1, g2⟩ : ∃ ob, M[b]? = some ob ∧ ob.own = true := by
        unfold hput at hput1
        split at hput1
        · rename_i cs hb; exact ⟨_, hb, rfl⟩
        · rename_i cs hb; exact ⟨_, hb, rfl⟩
        · cases hput1
      have hne := inv.rh.inj b c p q ob o' hcb hp hc g1 g2 hMc hl
      exact hor.same (hfb.block _ (k3 hl) (fun e => hne e.symm))
    · cases o' <;> first | trivial | exact absurd rfl hl
/-- What holds of the whole text. -/
structure Whole (P : Program) (ops : Array Oper) (N : Nat) (e0 : Env) (h0 : List PO) (rs : List DR) (h2 : List PO) : Prop where
  st : Stat N ops
  dt : DT P ops ops.toList e0 h0 rs
  ap : ∀ p ∈ drawPairs ops, apartAt P (eEnd ops.toList rs e0) ops p
  ha : happly (hEnd rs h0) (wEnd rs) = some h2
theorem isStore_ws {o : Oper} {e : Env} {h : List PO} {r : DR} (hd : dstep P ops o e h r) (hw : r.ws ≠ []) : isStore o = true ∧ ∃ b off vs t ad x, r = .wr b off vs ∧ o.op = .store t ad x ∧ ev e ad = some (.pointer (some ⟨b, off, none⟩)) := by
  unfold dstep at hd
  split at hd
  · obtain ⟨h1, h2⟩ := hd
    unfold dop at h2
    split at h2
    · rename_i t ad x hop
      split at h2
      · rename_i b off v n g1 g2 g3
        obtain ⟨_, _, rfl⟩ := h2
        exact ⟨by simp [isStore, hop], b, off, _, t, ad, x, rfl, hop, g1⟩
      · exact h2.elim
    · split at h2
      · obtain ⟨v, ns, _, rfl⟩ := h2; simp [DR.ws] at hw
      · exact h2.elim
    · split at h2
      · obtain ⟨_, rfl⟩ := h2; simp [DR.ws] at hw
      · split at h2
        · obtain ⟨_, rfl⟩ := h2; simp [DR.ws] at hw
        · exact h2.elim
  · subst hd; simp [DR.ws] at hw
  · exact hd.elim
theorem mem_pairs {i j : Nat} {o p : Oper} (hi : ops[i]? = some o) (hj : ops[j]? = some p) (h1 : isStore o = true) (h2 : isReader p = true) (h3 : isStore p = false) (h4 : preB ops j i = false) : (i, j) ∈ drawPairs ops := by
  unfold drawPairs
  rw [List.mem_flatMap]
  refine ⟨(o, i), by rw [List.mem_zipIdx_iff_getElem?]; simpa using hi, ?_⟩
  simp only [h1, if_true]
  rw [List.mem_filterMap]
  exact ⟨(p, j), by rw [List.mem_zipIdx_iff_getElem?]; simpa using hj, by simp [h2, h3, h4]⟩
/-- A reader has nothing written ahead of it that it may not see. -/
theorem apart_of {L2 : List PO} (W : Whole P ops N e0 h0 rs L2) (k : Mid P ops N e0 h0 rs L) {j : Nat} {o : Oper} (ho : ops[j]? = some o) (hj : L j = false) (hrd : isReader o = true) (hns : isStore o = false) : ∀ x ∈ Wl L 0 rs, apart1 (some x.1) (rblk P (eI ops rs e0 j) o.op) := by
  intro x hx
  obtain ⟨i, r, h1, h2, h3⟩ := Wl_mem rs 0 hx
  rw [Nat.zero_add] at h2
  have hlen := W.dt.length
  have hil := (List.getElem?_eq_some_iff.1 h1).1
  obtain ⟨oi, hio⟩ : ∃ oi, ops[i]? = some oi := ⟨_, Array.getElem?_eq_getElem (show i < ops.size by rw [hlen] at hil; simpa using hil)⟩
  obtain ⟨r', g1, g2⟩ := W.dt.at i oi (by rw [Array.getElem?_toList]; exact hio)
  rw [h1] at g1; cases g1
  have hws : r.ws ≠ [] := fun e => by rw [e] at h3; simp at h3
  obtain ⟨s1, b, off, vs, t, ad, xx, rfl, hop, hev⟩ := isStore_ws g2 hws
  simp only [DR.ws, List.mem_singleton] at h3
  subst h3
  have hpre : preB ops j i = false := by
    cases e : preB ops j i with
    | false => rfl
    | true => have := k.pre' h2 e; rw [hj] at this; cases this
  have hap := W.ap _ (mem_pairs hio ho s1 hrd hns hpre)
  unfold apartAt at hap
  simp only [hio, ho, Option.bind_some] at hap
  have st1 := eI_stable k hio (by simp [isReader, hop])
  have st2 := eI_stable k ho hrd
  have e1 : wblk (eEnd ops.toList rs e0) oi.op = some b := by
    rw [hop]
    have := st1 ad (by rw [hop]; simp [Op.operands])
    have hev' : ev (eI ops rs e0 i) ad = some (.pointer (some ⟨b, off, none⟩)) := hev
    simp only [wblk, this, hev']
  rw [e1] at hap
  have e2 : rblk P (eEnd ops.toList rs e0) o.op = rblk P (eI ops rs e0 j) o.op := rblk_congr st2
  rw [e2] at hap
  exact hap
end
end Go.Proofs.YtjopikjefpenkaaDoor
/- Regions that draw their order: the end. -/
namespace Go.Proofs.YtjopikjefpenkaaDoor
open Go.RowKit
variable [Inv]
section
variable {ro : Option Nat} {D : List Deferred} {P : Program} {ops : Array Oper} {N : Nat} {e0 : Env} {h0 : List PO} {rs : List DR} {τ0 : Tau} {w0 : World} {L : Nat → Bool} {a : Act} {w : World} {τ : Tau} {M : List PO} {h2 : List PO} {Q : Exit → Act → World → Prop}
def Go1 (D : List Deferred) (ops : Array Oper) (N : Nat) (e0 : Env) (h0 : List PO) (rs : List DR) (τ0 : Tau) (w0 : World) (L : Nat → Bool) : Act → World → Prop := fun a w => ∃ τ M, DInv D ops N e0 h0 rs τ0 w0 L a w τ M
theorem Qr.refl {τ : Tau} {h : List PO} {w : World} (k : RH τ h w) : Qr τ h w τ [] w := ⟨Tau.le_refl _, fun _ _ h => .inl h, by simpa using k, Fr.refl _ _⟩
theorem flats_eq {l : List Value} (h : flats l = true) {τ : Tau} {args' : Array Value} (hv : VRs τ l.toArray args') (τ1 : Tau) : VRs τ1 l.toArray args' := by
  refine ⟨hv.1, fun i v v' h1 h2 => ?_⟩
  have hm : v ∈ l := List.mem_of_getElem? (by simpa using h1)
  have hf : flat 4 v = true := List.all_eq_true.1 h v hm
  rw [(hv.2 i v v' h1 h2).flat_eq 4 hf]
  exact VR.of_flat hf
theorem rh_empty (h : List PO) (w : World) : RH (fun _ => Option.none) h w := by
  constructor
  · intro b p hb; exact absurd hb (by simp)
  · intro b c p q o o' _ hb; exact absurd hb (by simp)
set_option maxHeartbeats 800000 in
theorem J_view (k0 : RH τ0 h0 w0) (j0 : J τ0 h0 w0) (inv : DInv D ops N e0 h0 rs τ0 w0 L a w τ M) {j : Nat} {τ1 : Tau} (hle : τ1.le τ) : J τ1 (hEnd (rs.take j) h0) w :=
  ⟨Inv.stable w0 w (fun k hk => inv.fr.block k (j0.2 k hk).1 (j0.2 k hk).2) j0.1, fun k hk => ⟨Nat.lt_of_lt_of_le (j0.2 k hk).1 inv.fr.size, fun ⟨b, p, o, h1, h2, h3, h4⟩ => by
    rcases inv.dom b p (hle b p h1) with h5 | ⟨h5, _⟩
    · have hb := k0.lt h5
      unfold hEnd at h2
      rw [List.getElem?_append_left hb] at h2
      exact (j0.2 k hk).2 ⟨b, p, o, h5, h2, h3, h4⟩
    · have := (j0.2 k hk).1; omega⟩⟩
theorem exec_op (W : Whole P ops N e0 h0 rs h2) (k : Mid P ops N e0 h0 rs L) (k0 : RH τ0 h0 w0) (j0 : J τ0 h0 w0) (inv : DInv D ops N e0 h0 rs τ0 w0 L a w τ M) {j : Nat} {o : Oper} (ho : ops[j]? = some o) (hj : L j = false) (hr : ∀ o, ops[j]? = some o → ∀ e ∈ o.after.toList, Region.binds .any e = true → L e.on = true) :
    wpOpIn (Fo ro) 0 P ops Q j (Go1 D ops N e0 h0 rs τ0 w0 (fun i => if i = j then true else L i)) a w := by
  obtain ⟨r, hro, hst⟩ := W.dt.at j o (by rw [Array.getElem?_toList]; exact ho)
  have he := looks_er k inv ho hj hr
  have hag := onlyOf_ag ops o (eI ops rs e0 j)
  have hview := inv.view j
  have hvlen : (deadAt (Wl L 0 rs) (hEnd (rs.take j) h0)).length = posOf rs h0 j := by rw [deadAt_len]; rfl
  unfold wpOpIn
  simp only [ho]
  unfold dstep at hst
  split at hst
  · rename_i hg
    have hw := gw_wanted he hg
    rw [if_pos hw]
    obtain ⟨hns, hd⟩ := hst
    have hnd : ∀ c, o.op ≠ .defer c := fun c hc => by rw [hc] at hd; exact hd
    have quiet : ∀ {v' : Value} {w' : World} {τ1 τ'' : Tau} {H1 : List PO}, r.ws = [] → RH τ1 H1 w → τ1.le τ → H1.length = posOf rs h0 j → Qr τ1 H1 w τ'' r.ns w' → VR τ'' r.v v' → Go1 D ops N e0 h0 rs τ0 w0 (fun i => if i = j then true else L i) (a.put o.dst v') w' := fun hrw h1 hle1 hlen q hv => by
      obtain ⟨τn, hn⟩ := inv.quiet W.st k0 hro ho hj hrw h1 hle1 hlen q hv
      exact ⟨τn, M, hn⟩
    unfold dop at hd
    split at hd
    · -- a store
      rename_i t ad x hop
      split at hd
      · rename_i b off v n g1 g2 g3
        obtain ⟨hsz, hone, hrr⟩ := hd
        subst hrr
        have g1' : ev (onlyOf ops o (eI ops rs e0 j)) ad = some (.pointer (some ⟨b, off, none⟩)) := by rw [hag ad (by rw [hop]; simp [Op.operands])]; exact g1
        have g2' : ev (onlyOf ops o (eI ops rs e0 j)) x = some v := by rw [hag x (by rw [hop]; simp [Op.operands])]; exact g2
        obtain ⟨p, hp, e1⟩ := (he.ag _ _ g1').ptr'
        have hv := he.ag _ _ g2'
        have hcs := hv.cells
        have hp' := Tau.upto_le _ _ _ _ hp
        have hiso : isStore o = true := by simp [isStore, hop]
        have hlenr := W.dt.length
        have storeat : ∀ (i : Nat) r', rs[i]? = some r' → r'.ws ≠ [] → ∃ oi, ops[i]? = some oi ∧ isStore oi = true := fun i r' hi hw' => by
          have hil := (List.getElem?_eq_some_iff.1 hi).1
          obtain ⟨oi, hio⟩ : ∃ oi, ops[i]? = some oi := ⟨_, Array.getElem?_eq_getElem (show i < ops.size by rw [hlenr] at hil; simpa using hil)⟩
          obtain ⟨r2, q1, q2⟩ := W.dt.at i oi (by rw [Array.getElem?_toList]; exact hio)
          rw [hi] at q1; cases q1
          exact ⟨oi, hio, (isStore_ws q2 hw').1⟩
        have hW : Wl (fun i => if i = j then true else L i) 0 rs = Wl L 0 rs ++ [(b, off, v.cells.toList)] := by
          have := Wl_last (L := L) rs 0 j _ hro (by rw [Nat.zero_add]; exact hj) (fun i r' hi hri hw' => by
            rw [Nat.zero_add]
            obtain ⟨oi, q1, q2⟩ := storeat i r' hri hw'
            cases hL : L i with
            | false => rfl
            | true =>
              have := k.pre' hL (W.st.store j i o oi ho q1 hiso q2 hi)
              rw [hj] at this; cases this)
          simp only [Nat.zero_add] at this
          exact this
        have hW2 : Wl (fun i => if i = j then true else L i) 0 rs = wEnd (rs.take (j + 1)) := by
          have := Wl_lt rs 0 (j + 1)
          rw [← this]
          refine Wl_congr rs 0 (fun i r' hri hw' => ?_)
          rw [Nat.zero_add]
          obtain ⟨oi, q1, q2⟩ := storeat i r' hri hw'
          by_cases e : i = j
          · simp [e]
          · simp only [if_neg e]
            rcases Nat.lt_or_gt_of_ne e with h | h
            · have := k.pre hr (W.st.store i j oi o q1 ho q2 hiso h)
              rw [this]; simp; omega
            · cases hL : L i with
              | false => simp; omega
              | true =>
                have := k.pre' hL (W.st.store j i o oi ho q1 hiso q2 h)
                rw [hj] at this; cases this
        obtain ⟨M', hM'⟩ : ∃ M', hput M b off v.cells.toList = some M' := by
          have hall := W.ha
          rw [wEnd_split (j + 1), happly_append, ← hW2, hW, happly_append, inv.mem] at hall
          simp only [Option.bind_some, happly] at hall
          cases e : hput M b off v.cells.toList with
          | none => rw [e] at hall; simp at hall
          | some M' => exact ⟨M', rfl⟩
        obtain ⟨w', r1, r2, r3, r4, r5⟩ := hput_sound' (P := P) (vs' := (a.eval x).cells.toList) inv.rh hp' (by simpa using hcs.mono (Tau.upto_le _ _)) hone hM'
        have hfin := inv.stored W.st k0 hro ho hj hp' hW hM' r2 r3 r5
        refine wp_skip' (w' := w') hnd ?_ ⟨τ, M', hfin⟩
        have hsz' : ¬ ((a.eval x).cells.size ≠ n) := by rw [← hcs.1]; simpa using hsz
        simp only [execOp, hop, e1, Instr.storeAt, Instr.sureAddr, storeVar, Sem.run_bind, Sem.run_pure, Result.andThen_ok, run_szOf g3, Sem.run_ite, if_neg hsz', r1]
      · exact hd.elim
    · -- a call
      rename_i f args tys hop
      split at hd
      · rename_i g first cap as g1 g2
        obtain ⟨v, ns, hpc, hrr⟩ := hd
        subst hrr
        have g1' : ev (onlyOf ops o (eI ops rs e0 j)) f = some (.func (.func g) first cap) := by rw [hag f (by rw [hop]; simp [Op.operands, Call.operands])]; exact g1
        have g2' : evs (onlyOf ops o (eI ops rs e0 j)) args.toList = some as := by rw [evs_congr args.toList (fun x hx => hag x (by rw [hop]; simp [Op.operands, Call.operands] at hx ⊢; exact .inr hx))]; exact g2
        obtain ⟨hcall, hpc⟩ := hpc
        obtain ⟨first', cap', e1, hf, hc⟩ := (he.ag _ _ g1').func'
        have has := evs_sound he.ag _ _ g2'
        have hall : VRs (τ.upto (posOf rs h0 j)) (first.toList ++ as ++ cap.toList).toArray (first' ++ args.map a.eval ++ cap') := by
          have := (hf.app' has).app' hc
          rw [show (first.toList ++ as ++ cap.toList).toArray = first ++ as.toArray ++ cap by apply Array.ext'; simp, show args.map a.eval = (List.map a.eval args.toList).toArray by rw [← List.map_toArray]]
          exact this
        have hrun : (execOp a.eval o).run P w = .ok (.enter g (first' ++ args.map a.eval ++ cap')) w := by
          simp only [execOp, hop, resolve, Deferred.ofValue, e1, Sem.run_bind, Sem.run_pure, Result.andThen_ok, invoke, hcall.run]
        have go : ∀ {τ1 : Tau}, RH τ1 (hEnd (rs.take j) h0) w → τ1.le τ → VRs τ1 (first.toList ++ as ++ cap.toList).toArray (first' ++ args.map a.eval ++ cap') → o.wpIn (Fo ro) 0 P a w (Go1 D ops N e0 h0 rs τ0 w0 (fun i => if i = j then true else L i)) Q := fun {τ1} h1 hle1 hargs => by
          refine wpo hnd ?_
          rw [hrun]
          refine ⟨(fun h => by cases h), CallsIn.mono (fo_calls (hpc τ1 w _ h1 (J_view k0 j0 inv hle1) hargs)) ?_⟩
          rintro e' w' ⟨ns', τ'', v1, v', q1, q2, rfl, rfl, rfl⟩
          exact quiet rfl h1 hle1 rfl q1 q2
        cases hfl : flats (first.toList ++ as ++ cap.toList) with
        | true => exact go (rh_empty _ _) (fun _ _ h => by cases h) (flats_eq hfl hall _)
        | false =>
          have hrb : rblk P (eI ops rs e0 j) o.op = some none := by
            rw [hop]
            have g1e : ev (eI ops rs e0 j) f = some (.func (.func g) first cap) := g1
            have g2e : evs (eI ops rs e0 j) args.toList = some as := g2
            simp only [rblk, g1e, g2e, hfl, Bool.false_eq_true, if_false]
          have hnil : Wl L 0 rs = [] := by
            cases hW : Wl L 0 rs with
            | nil => rfl
            | cons x xs =>
              have := apart_of W k ho hj (by simp [isReader, hop]) (by simp [isStore, hop]) x (by rw [hW]; simp)
              rw [hrb] at this
              exact this.elim
          rw [hnil, deadAt_nil] at hview
          exact go hview (Tau.upto_le _ _) hall
      · exact hd.elim
    · -- what is left
      rename_i hnst hncall
      have hqp : qp P (onlyOf ops o (eI ops rs e0 j)) o.op = qp P (eI ops rs e0 j) o.op := qp_congr hag
      split at hd
      · rename_i c v hq
        obtain ⟨hc, hrr⟩ := hd
        subst hrr
        have hq' : qp P (onlyOf ops o (eI ops rs e0 j)) o.op = some (c, v) := hqp.trans hq
        obtain ⟨v', q1, q2⟩ := qp_sound he.ag hq' hc
        exact wp_value hnd (q2 w) (quiet rfl hview (Tau.upto_le _ _) hvlen (Qr.refl hview) q1)
      · split at hd
        · rename_i c v ns hq
          obtain ⟨hc, hrr⟩ := hd
          subst hrr
          have hq1 : qm P (eI ops rs e0 j) (hEnd (rs.take j) h0) o.op = some (c, v, ns) := hq
          have hnst' : isStore o = false := by
            unfold isStore
            split
            · rename_i h; exact (hnst _ _ _ h).elim
            · rfl
          have hap : isReader o = true → ∀ x ∈ Wl L 0 rs, apart1 (some x.1) (rblk P (eI ops rs e0 j) o.op) := fun hrd => apart_of W k ho hj hrd hnst'
          have hq' : qm P (onlyOf ops o (eI ops rs e0 j)) (deadAt (Wl L 0 rs) (hEnd (rs.take j) h0)) o.op = some (c, v, ns) := by
            rw [qm_congr (h2 := hEnd (rs.take j) h0) hag (deadAt_len _ _) (fun b hb => ?_) (fun ⟨s, d, x, hcv⟩ => ?_)]
            · exact hq1
            · refine deadAt_get (fun x hx => ?_)
              have hrd : isReader o = true := by
                unfold isReader
                unfold rblk at hb
                split at hb <;> first | rfl | (simp_all; done) | cases hb
              have := hap hrd x hx
              rw [hb] at this
              exact this
            · have hrb : rblk P (eI ops rs e0 j) o.op = some none := by rw [hcv] at hq1 ⊢; exact qm_convert hq1
              have hnil : Wl L 0 rs = [] := by
                cases hW : Wl L 0 rs with
                | nil => rfl
                | cons x xs =>
                  have := hap (by simp [isReader, hcv]) x (by rw [hW]; simp)
                  rw [hrb] at this
                  exact this.elim
              rw [hnil, deadAt_nil]
          obtain ⟨v', w', τ'', q1, q2, q3, q4, q5, q6⟩ := qm_sound he.ag hview hq' hc
          refine wp_value hnd q1 (quiet rfl hview (Tau.upto_le _ _) hvlen ⟨q2, fun b p hb => ?_, q4, q6⟩ q5)
          exact q3 b p hb
        · exact hd.elim
  · rename_i hg
    have hw := gw_wanted he hg
    subst hst
    rw [if_neg (by rw [hw]; simp)]
    obtain ⟨τn, hn⟩ := inv.quiet (v' := undef) W.st k0 hro ho hj rfl hview (Tau.upto_le _ _) hvlen (Qr.refl hview) undef_VR
    exact ⟨fun _ _ => trivial, τn, M, hn⟩
  · exact hst.elim
theorem countP_drop {α : Type} (p q : α → Bool) (j : α) (h : p j = true) (hq : q j = false) (hle : ∀ i, q i = true → p i = true) : ∀ (l : List α), j ∈ l → l.countP q < l.countP p
  | [], hj => by simp at hj
  | x :: l, hj => by
    have hmono : l.countP q ≤ l.countP p := List.countP_mono_left (fun i _ => hle i)
    rw [List.countP_cons, List.countP_cons]
    rcases List.mem_cons.1 hj with e | hj
    · subst e
      rw [hq, h]
      simp; omega
    · have := countP_drop p q j h hq hle l hj
      by_cases hx : q x = true
      · rw [if_pos hx, if_pos (hle x hx)]; omega
      · rw [if_neg hx]
        split <;> omega
theorem happly_len : ∀ {ws : List (Nat × Nat × List Value)} {h h' : List PO}, happly h ws = some h' → h'.length = h.length
  | [], h, h', e => by cases e; rfl
  | (b, o, vs) :: ws, h, h', e => by
    obtain ⟨h1, e1, e2⟩ := Option.bind_eq_some_iff.1 e
    rw [happly_len e2, hput_len e1]
/-- The order is drawn; the text's order tells what comes of it. -/
theorem any_sound (W : Whole P ops N e0 h0 rs h2) (k0 : RH τ0 h0 w0) (j0 : J τ0 h0 w0) (hQ : ∀ a w τ, Gr τ0 h0 w0 τ h2 w → ER τ N (eEnd ops.toList rs e0) a D → Q .normal a w) :
    ∀ (fuel : Nat) (listed : Array Bool) (a : Act) (w : World), listed.size = ops.size → ((List.range ops.size).countP fun i => !listed.getD i false) ≤ fuel →
      (∀ i o, listed.getD i false = true → ops[i]? = some o → ∀ e ∈ o.after.toList, Region.binds .any e = true → listed.getD e.on false = true) →
      Go1 D ops N e0 h0 rs τ0 w0 (fun i => listed.getD i false) a w → wpAnyIn (Fo ro) 0 P .any ops Q fuel listed a w := by
  have fin : ∀ (listed : Array Bool) (a : Act) (w : World), (∀ i, i < ops.size → listed.getD i false = true) → Go1 D ops N e0 h0 rs τ0 w0 (fun i => listed.getD i false) a w → Q .normal a w := by
    rintro listed a w hall ⟨τ, M, inv⟩
    have hlen := W.dt.length
    have hWl : Wl (fun i => listed.getD i false) 0 rs = wEnd rs := Wl_all rs 0 (fun i r hr => by
      rw [Nat.zero_add]
      have := (List.getElem?_eq_some_iff.1 hr).1
      exact hall i (by rw [hlen] at this; simpa using this))
    have hM : M = h2 := by
      have := inv.mem
      rw [hWl, W.ha] at this
      exact (Option.some.inj this).symm
    subst hM
    refine hQ a w τ ⟨inv.le, inv.rh, inv.fr, fun x hx => wset_old k0 inv hx, fun b p hb => (inv.dom b p hb).imp id (fun ⟨_, i, r, _, _, h3, _⟩ => Nat.le_trans (by unfold posOf hEnd; simp) h3), by rw [happly_len W.ha]; unfold hEnd; simp⟩ ⟨inv.size, inv.defers, fun t v hv => ?_⟩
    have hend : eEnd ops.toList rs e0 = eI ops rs e0 ops.size := by
      unfold eI
      rw [List.take_of_length_le (by simp), List.take_of_length_le (by rw [hlen]; simp)]
    rw [hend] at hv
    by_cases h : ∃ (m : Nat) (p : Oper), m < ops.size ∧ ops[m]? = some p ∧ p.dst = some t
    · obtain ⟨m, p, h1, h3, h4⟩ := h
      have hm : m < rs.length := by rw [hlen]; simpa using h1
      have hrs : rs[m]? = some rs[m] := List.getElem?_eq_getElem hm
      rw [eI_some W.st h3 hrs h4 h1] at hv
      cases hv
      exact (inv.t1 m p _ t h3 h4 (hall m h1) hrs).mono (Tau.upto_le _ _)
    · rw [eI_none (fun m p h1 h3 h4 => h ⟨m, p, h1, h3, h4⟩)] at hv
      exact (inv.t2 t v hv (fun m p h3 h4 => (h ⟨m, p, (Array.getElem?_eq_some_iff.1 h3).1, h3, h4⟩).elim)).mono (Tau.upto_le _ _)
  have rdy : ∀ (listed : Array Bool), listed.size = ops.size → Region.ready .any ops listed = [] → ∀ i, i < ops.size → listed.getD i false = true := by
    intro listed hsz hr i
    induction i using Nat.strongRecOn with
    | _ i ih =>
      intro hi
      cases hc : listed.getD i false with
      | true => rfl
      | false =>
        have hmem : i ∈ Region.ready .any ops listed := by
          unfold Region.ready
          rw [List.mem_filter]
          refine ⟨by simpa using hi, ?_⟩
          have h1 : listed.getD i true = false := by
            rw [Array.getD_eq_getD_getElem?] at hc ⊢
            rw [Array.getElem?_eq_getElem (by omega)] at hc ⊢
            simpa using hc
          rw [h1, Array.getElem?_eq_getElem hi]
          simp only [Bool.not_false, Option.map_some, Option.getD_some, Bool.true_and]
          rw [Array.all_eq_true_iff_forall_mem]
          intro e he
          cases hb : Region.binds .any e with
          | false => rfl
          | true =>
            have := W.st.edges i _ (Array.getElem?_eq_getElem hi) e (Array.mem_toList_iff.2 he) hb
            rw [ih e.on this (by omega)]
            rfl
        rw [hr] at hmem
        simp at hmem
  intro fuel
  induction fuel with
  | zero =>
    intro listed a w hsz hcnt hcl hg
    have hall : ∀ i, i < ops.size → listed.getD i false = true := fun i hi => by
      have h0 : ((List.range ops.size).countP fun i => !listed.getD i false) = 0 := by omega
      rw [List.countP_eq_zero] at h0
      have := h0 i (by simpa using hi)
      simpa using this
    refine ⟨?_, fin listed a w hall hg⟩
    unfold Region.ready
    rw [List.filter_eq_nil_iff]
    intro i hi
    have hi' : i < ops.size := by simpa using hi
    have h1 : listed.getD i true = true := by
      have := hall i hi'
      rw [Array.getD_eq_getD_getElem?] at this ⊢
      rw [Array.getElem?_eq_getElem (by omega)] at this ⊢
      simpa using this
    rw [h1]
    simp
  | succ fuel ih =>
    intro listed a w hsz hcnt hcl hg
    refine ⟨fun hr => fin listed a w (rdy listed hsz hr) hg, fun j hj => ?_⟩
    unfold Region.ready at hj
    rw [List.mem_filter] at hj
    obtain ⟨hj1, hj2⟩ := hj
    have hjl : j < ops.size := by simpa using hj1
    rw [Array.getElem?_eq_getElem hjl] at hj2
    simp only [Bool.and_eq_true, Bool.not_eq_true', Option.map_some, Option.getD_some, Array.all_eq_true_iff_forall_mem] at hj2
    obtain ⟨hj3, hj4⟩ := hj2
    have hjF : listed.getD j false = false := by
      rw [Array.getD_eq_getD_getElem?] at hj3 ⊢
      rw [Array.getElem?_eq_getElem (by omega)] at hj3 ⊢
      simpa using hj3
    obtain ⟨τ, M, inv⟩ := hg
    have hready : ∀ o, ops[j]? = some o → ∀ e ∈ o.after.toList, Region.binds .any e = true → listed.getD e.on false = true := fun o ho e he hb => by
      rw [Array.getElem?_eq_getElem hjl] at ho
      cases ho
      have := hj4 e (Array.mem_toList_iff.1 he)
      simpa [hb] using this
    have hset : (fun i => if i = j then true else listed.getD i false) = fun i => (listed.setIfInBounds j true).getD i false := by
      funext i
      by_cases e : i = j
      · subst e
        rw [if_pos rfl, Array.getD_eq_getD_getElem?, Array.getElem?_setIfInBounds_self_of_lt (by omega)]
        rfl
      · rw [if_neg e, Array.getD_eq_getD_getElem?, Array.getD_eq_getD_getElem?, Array.getElem?_setIfInBounds_ne (Ne.symm e)]
    have hstep := exec_op (ro := ro) (Q := Q) W ⟨W.st, W.dt, hcl⟩ k0 j0 inv (Array.getElem?_eq_getElem hjl) hjF hready
    refine wpOpIn_mono (fun a' w' hg' => ?_) hstep
    rw [hset] at hg'
    refine ih (listed.setIfInBounds j true) a' w' (by simpa using hsz) ?_ (fun i o hi ho e he hb => ?_) hg'
    · have key : ((List.range ops.size).countP fun i => !(listed.setIfInBounds j true).getD i false) < ((List.range ops.size).countP fun i => !listed.getD i false) := by
        refine countP_drop _ _ j (by simp [hjF]) (by have := congrFun hset j; rw [if_pos rfl] at this; rw [← this]; rfl) (fun i hi => ?_) _ hj1
        have := congrFun hset i
        rw [← this] at hi
        by_cases e : i = j
        · simp [e] at hi
        · simpa [e] using hi
      omega
    · have hs : ∀ i, (if i = j then true else listed.getD i false) = (listed.setIfInBounds j true).getD i false := fun i => congrFun hset i
      rw [← hs] at hi ⊢
      by_cases e1 : e.on = j
      · simp [e1]
      · rw [if_neg e1]
        by_cases e2 : i = j
        · subst e2; exact hready o ho e he hb
        · rw [if_neg e2] at hi; exact hcl i o hi ho e he hb
/-- A region that draws its order. -/
theorem draw_sound {id : Nat} (hm : P.follows .mixedOrders = true) (hst : drawStat N ops = true) {e : Env} {h : List PO} {K : Env → List PO → Prop} (hp : pdraw P ops e h K) (he : ER τ N e a D) (hk : RH τ h w) (hjj : J τ h w)
    (hK : ∀ e' h' τ' a' w', K e' h' → Gr τ h w τ' h' w' → ER τ' N e' a' D → Q .normal a' w') : (Code.region id ops true).wpIn (Fo ro) 0 P Q a w := by
  obtain ⟨Lp, hLp, hpd⟩ := hp
  obtain ⟨rs, hDT, hfin⟩ := pd_DT _ _ _ _ hpd
  rw [List.nil_append] at hfin
  obtain ⟨hap, hha⟩ := hfin
  cases hh : happly (hEnd rs h) (wEnd rs) with
  | none => rw [hh] at hha; exact hha.elim
  | some h2 =>
    rw [hh] at hha
    have W : Whole P ops N e h rs h2 := ⟨stat_of hst, hDT, by rw [hLp]; exact hap, hh⟩
    refine wpIn_region_any hm ?_
    have hkd : RH τ h { w with drawn := w.drawn + 1 } := hk.fr (Fr.drawn _ _ _)
    refine any_sound (D := D) (rs := rs) (τ0 := τ) (w0 := { w with drawn := w.drawn + 1 }) W hkd ⟨Inv.stable w _ (fun _ _ => rfl) hjj.1, hjj.2⟩ (fun a' w' τ' g he' => ?_) ops.size _ a _ (by simp) ?_ (fun i o hi => ?_) ⟨τ, hEnd rs h, ?_⟩
    · refine hK _ _ τ' a' w' hha ⟨g.le, g.rh, ?_, fun k hk' => g.ws k hk', g.dom, g.len⟩ he'
      exact (Fr.drawn (wset τ h) w (w.drawn + 1)).trans g.fr
    · exact Nat.le_trans List.countP_le_length (by simp)
    · simp [Array.getD_eq_getD_getElem?, Array.getElem?_replicate] at hi
      split at hi <;> simp at hi
    · have hF : ∀ i, (Array.replicate ops.size false).getD i false = false := fun i => by
        rw [Array.getD_eq_getD_getElem?, Array.getElem?_replicate]
        split <;> rfl
      have hWl : Wl (fun i => (Array.replicate ops.size false).getD i false) 0 rs = [] := Wl_none rs 0 (fun i r _ _ => hF _)
      have hlow : ∀ k, h.length ≤ posOf rs h k := fun k => by
        have := posOf_mono (rs := rs) (h0 := h) (Nat.zero_le k)
        have e0 : posOf rs h 0 = h.length := by simp [posOf, hEnd]
        omega
      have hup : ∀ k, τ.le (τ.upto (posOf rs h k)) := fun k b p hb => by
        have := hk.lt hb
        unfold Tau.upto
        rw [if_pos (Nat.lt_of_lt_of_le this (hlow k))]
        exact hb
      refine ⟨Tau.le_refl _, fun b p hb => .inl hb, by rw [hWl]; rfl, ?_, Fr.refl _ _, by rw [hWl]; intro x hx; simp at hx, fun b p o hb _ ho k _ => ?_, he.size, he.defers, fun m o r t _ _ hL => ?_, fun t v hv _ => ?_⟩
      · exact hkd.append _
      · obtain ⟨o2, k1, k2, _⟩ := hkd.ob b p hb
        unfold hEnd at ho
        rw [List.getElem?_append_left (hk.lt hb), k1] at ho
        cases ho
        exact k2.mono (hup k)
      · rw [hF] at hL; cases hL
      · exact (he.vals t v hv).mono (hup 0)
end
end Go.Proofs.YtjopikjefpenkaaDoor
/- The plain machine's code: what is known may be forgotten, handles renamed. -/
namespace Go.Proofs.YtjopikjefpenkaaDoor
open Go.RowKit
variable [Inv]
/-- A value, and the same one in a memory whose handles have other numbers. -/
inductive RN (ρ : Nat → Option Nat) : Value → Value → Prop
  | bool (b) : RN ρ (.bool b) (.bool b)
  | int (k n) : RN ρ (.int k n) (.int k n)
  | str (s) : RN ρ (.string s) (.string s)
  | pnil : RN ρ (.pointer none) (.pointer none)
  | ptr {b c} (o) : ρ b = some c → RN ρ (.pointer (some ⟨b, o, none⟩)) (.pointer (some ⟨c, o, none⟩))
  | snil : RN ρ (.slice none 0 0) (.slice none 0 0)
  | sl {b c} (o sp n m) : ρ b = some c → RN ρ (.slice (some ⟨b, o, sp⟩) n m) (.slice (some ⟨c, o, sp⟩) n m)
  | mnil : RN ρ (.map none) (.map none)
  | map {b c} : ρ b = some c → RN ρ (.map (some b)) (.map (some c))
  | fnil : RN ρ .nilFunc .nilFunc
  | yld {b c} : ρ b = some c → RN ρ (.func (.yield b) #[] #[]) (.func (.yield c) #[] #[])
  | func (f) {a a' c c' : Array Value} : isY f = false → a.size = a'.size → c.size = c'.size → (∀ (i : Nat) v v', a[i]? = some v → a'[i]? = some v' → RN ρ v v') → (∀ (i : Nat) v v', c[i]? = some v → c'[i]? = some v' → RN ρ v v') → RN ρ (.func f a c) (.func f a' c')
  | inil : RN ρ .nilIface .nilIface
  | iface (t) {v v'} : RN ρ v v' → RN ρ (.iface t v) (.iface t v')
  | agg {a a' : Array Value} : a.size = a'.size → (∀ (i : Nat) v v', a[i]? = some v → a'[i]? = some v' → RN ρ v v') → RN ρ (.agg a) (.agg a')
  | tuple {a a' : Array Value} : a.size = a'.size → (∀ (i : Nat) v v', a[i]? = some v → a'[i]? = some v' → RN ρ v v') → RN ρ (.tuple a) (.tuple a')
def Tau.ren (τ : Tau) (ρ : Nat → Option Nat) : Tau := fun b => (ρ b).bind τ
theorem mid_get {a a' : Array Value} (h : a.size = a'.size) {i : Nat} {v : Value} (e : a[i]? = some v) : ∃ v', a'[i]? = some v' := by
  have := (Array.getElem?_eq_some_iff.1 e).1
  exact ⟨_, Array.getElem?_eq_getElem (h ▸ this)⟩
theorem RN.comp {ρ : Nat → Option Nat} {τ : Tau} {v v2 : Value} (h : RN ρ v v2) : ∀ {v' : Value}, VR τ v2 v' → VR (τ.ren ρ) v v' := by
  have key : ∀ {b c p}, ρ b = some c → τ c = some p → τ.ren ρ b = some p := fun {b c p} h1 h2 => by simp [Tau.ren, h1, h2]
  induction h with
  | bool b => intro v' k; cases k; exact .bool _
  | int k n => intro v' k; cases k; exact .int _ _
  | str s => intro v' k; cases k; exact .str _
  | pnil => intro v' k; cases k; exact .pnil
  | ptr o h => intro v' k; cases k with | ptr _ h2 => exact .ptr o (key h h2)
  | snil => intro v' k; cases k; exact .snil
  | sl o sp n m h =>
    intro v' k
    cases k with
    | sex _ _ _ h2 => exact .sex _ _ _ (key h h2)
    | sun _ _ _ _ _ h2 h3 h4 h5 h6 => exact .sun _ _ _ _ _ (key h h2) h3 h4 h5 h6
    | sue => exact .sue _ _ _ _ _
    | su0 _ _ _ _ _ h2 => exact .su0 _ _ _ _ _ h2
    | se0 => exact .se0 _ _ _
  | mnil => intro v' k; cases k; exact .mnil
  | map h => intro v' k; cases k with | map h2 h3 => exact .map (key h h2) h3
  | fnil => intro v' k; cases k; exact .fnil
  | yld h =>
    intro v' k
    obtain ⟨p, h2, rfl, _, _⟩ := k.yld'
    exact .yld (key h h2)
  | func f hy e1 e2 _ _ i1 i2 =>
    intro v' k
    cases k with
    | yld => cases hy
    | func _ _ g1 g2 g3 g4 =>
      refine .func f hy (e1.trans g1) (e2.trans g2) (fun i v v' h1 h2 => ?_) (fun i v v' h1 h2 => ?_)
      · obtain ⟨u, hu⟩ := mid_get e1 h1; exact i1 i v u h1 hu (g3 i u v' hu h2)
      · obtain ⟨u, hu⟩ := mid_get e2 h1; exact i2 i v u h1 hu (g4 i u v' hu h2)
  | inil => intro v' k; cases k; exact .inil
  | iface t _ i => intro v' k; cases k with | iface _ h => exact .iface t (i h)
  | agg e1 _ i1 =>
    intro v' k
    cases k with
    | agg g1 g3 => exact .agg (e1.trans g1) (fun i v v' h1 h2 => by obtain ⟨u, hu⟩ := mid_get e1 h1; exact i1 i v u h1 hu (g3 i u v' hu h2))
  | tuple e1 _ i1 =>
    intro v' k
    cases k with
    | tuple g1 g3 => exact .tuple (e1.trans g1) (fun i v v' h1 h2 => by obtain ⟨u, hu⟩ := mid_get e1 h1; exact i1 i v u h1 hu (g3 i u v' hu h2))
theorem RN.of_flat {ρ : Nat → Option Nat} : ∀ {n : Nat} {v : Value}, flat n v = true → RN ρ v v
  | 0, _, h => by simp [flat] at h
  | n + 1, v, h => by
    have key : ∀ {cs : Array Value}, cs.toList.all (flat n) = true → ∀ (i : Nat) v v', cs[i]? = some v → cs[i]? = some v' → RN ρ v v' := fun hc i v v' h1 h2 => by
      rw [h1] at h2; cases h2
      exact RN.of_flat (List.all_eq_true.1 hc _ (mem_of_getElem?' h1))
    unfold flat at h
    split at h
    · exact .bool _
    · exact .int _ _
    · exact .str _
    · exact .pnil
    · exact .snil
    · exact .mnil
    · exact .fnil
    · exact .inil
    · exact .iface _ (RN.of_flat h)
    · exact .agg rfl (key h)
    · exact .tuple rfl (key h)
    · simp only [Bool.and_eq_true, Bool.not_eq_true'] at h; exact .func _ h.1 rfl rfl (key h.2.1) (key h.2.2)
    · cases h
def RNs (ρ : Nat → Option Nat) (a b : List Value) : Prop := a.length = b.length ∧ ∀ (i : Nat) v v', a[i]? = some v → b[i]? = some v' → RN ρ v v'
theorem RNs.of_flat {ρ : Nat → Option Nat} {l : List Value} (h : ∀ v ∈ l, ∃ n, flat n v = true) : RNs ρ l l := ⟨rfl, fun i v v' h1 h2 => by
  rw [h1] at h2; cases h2
  obtain ⟨n, hn⟩ := h v (List.mem_of_getElem? h1)
  exact RN.of_flat hn⟩
theorem RNs.nil {ρ : Nat → Option Nat} : RNs ρ [] [] := ⟨rfl, fun i v v' h => by simp at h⟩
theorem RNs.cons {ρ : Nat → Option Nat} {a b : Value} {l m : List Value} (h : RN ρ a b) (k : RNs ρ l m) : RNs ρ (a :: l) (b :: m) := by
  refine ⟨by simp [k.1], fun i v v' h1 h2 => ?_⟩
  cases i with
  | zero => simp at h1 h2; subst h1; subst h2; exact h
  | succ i => exact k.2 i v v' (by simpa using h1) (by simpa using h2)
/-- A handle's object, and the same one under other numbers; nothing is asked of one that is dead. -/
def ORN (ρ : Nat → Option Nat) : PO → PO → Prop
  | .dead, _ => True
  | .ro a, .ro b => RNs ρ a b
  | .rw a, .rw b => RNs ρ a b
  | .gr a, .gr b => RNs ρ a b
  | .mp a, .mp b => a.length = b.length ∧ ∀ (i : Nat) x y, a[i]? = some x → b[i]? = some y → x.1 = y.1 ∧ RN ρ x.2 y.2
  | .si s i, .si t j => s = t ∧ i = j
  | .lp r e, .lp r' e' => r = r' ∧ (∀ t v, e.get t = some v → ∃ v', e'.get t = some v' ∧ RN ρ v v') ∧ ∀ t v', e'.get t = some v' → ∃ v, e.get t = some v ∧ RN ρ v v'
  | _, _ => False
theorem ORN.own {ρ : Nat → Option Nat} {a b : PO} (h : ORN ρ a b) : (a.own = true → b.own = true) ∧ (a.live = true → b.live = true) := by
  cases a <;> cases b <;> first | exact ⟨id, id⟩ | exact h.elim | exact ⟨fun x => (by cases x), fun x => (by cases x)⟩
theorem RNs.comp {ρ : Nat → Option Nat} {τ : Tau} {a b : List Value} (h : RNs ρ a b) {i : Nat} {v : Value} (hi : a[i]? = some v) : ∃ v2, b[i]? = some v2 ∧ ∀ {v'}, VR τ v2 v' → VR (τ.ren ρ) v v' := by
  have := (List.getElem?_eq_some_iff.1 hi).1
  have h2 : b[i]? = some (b[i]'(h.1 ▸ this)) := List.getElem?_eq_getElem _
  exact ⟨_, h2, fun k => (h.2 i v _ hi h2).comp k⟩
theorem ORN.comp {ρ : Nat → Option Nat} {τ : Tau} {a b : PO} (h : ORN ρ a b) {p : Pl} {w : World} (k : OR τ p w b) : OR (τ.ren ρ) p w a := by
  cases a <;> cases b <;> first | trivial | exact h.elim | skip
  · intro i v hi
    obtain ⟨v2, h1, h2⟩ := RNs.comp (τ := τ) h hi
    obtain ⟨v', g1, g2⟩ := k i v2 h1
    exact ⟨v', g1, h2 g2⟩
  · obtain ⟨k0, k1, cs', el, k2, k3, k4⟩ := k
    refine ⟨k0, k1, cs', el, k2, k3.trans h.1.symm, fun i v v' h1 h2 => ?_⟩
    obtain ⟨v2, g1, g2⟩ := RNs.comp (τ := τ) h h1
    exact g2 (k4 i v2 v' g1 h2)
  · obtain ⟨k1, cs', el, fr, k2, k3, k4, k5, k6⟩ := k
    refine ⟨k1, cs', el, fr, k2, k3, k4, by rw [h.1]; exact k5, fun i v v' h1 h2 => ?_⟩
    obtain ⟨v2, g1, g2⟩ := RNs.comp (τ := τ) h h1
    exact g2 (k6 i v2 v' g1 h2)
  · obtain ⟨k0, es', ck, k1, k2, k3, k4⟩ := k
    refine ⟨k0, es', ck, k1, k2.trans h.1.symm, fun i x v e h1 h2 => ?_, k4⟩
    rename_i as bs
    have hi := (List.getElem?_eq_some_iff.1 h1).1
    have hb : bs[i]? = some (bs[i]'(h.1 ▸ hi)) := List.getElem?_eq_getElem _
    obtain ⟨q1, q2⟩ := h.2 i _ _ h1 hb
    have := k3 i (bs[i]'(h.1 ▸ hi)).1 (bs[i]'(h.1 ▸ hi)).2 e hb h2
    exact ⟨this.1.trans q1.symm, q2.comp this.2.1, this.2.2⟩
  · obtain ⟨rfl, rfl⟩ := h
    exact k
  · obtain ⟨rfl, h3, _⟩ := h
    obtain ⟨k0, k1, k2, k3⟩ := k
    refine ⟨k0, k1, k2, fun t v hv => ?_⟩
    obtain ⟨v2, g1, g2⟩ := h3 t v hv
    exact g2.comp (k3 t v2 g1)
/-- Fewer things are known. `l` tells which handle each is. -/
structure Sub (n0 : Nat) (l : List Nat) (s0 s : St) : Prop where
  nodup : l.Nodup
  pre : ∀ b, b < n0 → l[b]? = some b
  obj : ∀ (b c : Nat), l[b]? = some c → ∃ o0 o, s0.h[b]? = some o0 ∧ s.h[c]? = some o ∧ ORN (fun b => l[b]?) o0 o
  env : ∀ t v, s0.e.get t = some v → ∃ v2, s.e.get t = some v2 ∧ RN (fun b => l[b]?) v v2
section
variable {P : Program} {τ : Tau} {N : Nat} {τs : Tau} {hs : List PO} {ws : World}
theorem Sub.sound {l : List Nat} {s0 s : St} (h : Sub hs.length l s0 s) {a : Act} {w : World} {D : List Deferred} (hks : RH τs hs ws) (g : Gr τs hs ws τ s.h w) (he : ER τ N s.e a D) : (Gr τs hs ws (τ.ren fun b => l[b]?) s0.h w ∧ ER (τ.ren fun b => l[b]?) N s0.e a D) ∧ ∀ k, wset (τ.ren fun b => l[b]?) s0.h k → wset τ s.h k := by
  have inv : ∀ b p, τ.ren (fun b => l[b]?) b = some p → ∃ c, l[b]? = some c ∧ τ c = some p := fun b p hb => by
    unfold Tau.ren at hb
    exact Option.bind_eq_some_iff.1 hb
  have hws : ∀ k, wset (τ.ren fun b => l[b]?) s0.h k → wset τ s.h k := fun k hk => by
    obtain ⟨b, p, o, h1, h2, h3, rfl⟩ := hk
    obtain ⟨b', hb1, hp⟩ := inv b p h1
    obtain ⟨o0, o2, g1, g2, g3⟩ := h.obj b b' hb1
    rw [h2] at g1; cases g1
    exact ⟨b', p, o2, hp, g2, g3.own.1 h3, rfl⟩
  refine ⟨⟨⟨fun b p hb => ?_, ⟨fun b p hb => ?_, fun b c p q o o' hne hb hc h1 h2 h3 h4 => ?_⟩, g.fr, fun k hk => g.ws _ (hws k hk), fun b p hb => ?_, ?_⟩, he.size, he.defers, fun t v hv => ?_⟩, hws⟩
  · have hlt := hks.lt hb
    have := g.le b p hb
    simp [Tau.ren, h.pre b hlt, this]
  · obtain ⟨c, hc, hp⟩ := inv b p hb
    obtain ⟨o0, o, h1, h2, h3⟩ := h.obj b c hc
    obtain ⟨o2, k1, k2, k3⟩ := g.rh.ob c p hp
    rw [h2] at k1; cases k1
    exact ⟨o0, h1, h3.comp k2, fun x => k3 (h3.own.2 x)⟩
  · obtain ⟨b', hb1, hp⟩ := inv b p hb
    obtain ⟨c', hc1, hq⟩ := inv c q hc
    obtain ⟨o0, o2, g1, g2, g3⟩ := h.obj b b' hb1
    obtain ⟨o0', o2', g4, g5, g6⟩ := h.obj c c' hc1
    rw [h1] at g1; cases g1
    rw [h3] at g4; cases g4
    refine g.rh.inj b' c' p q o2 o2' (fun e => hne ?_) hp hq g2 (g3.own.1 h2) g5 (g6.own.2 h4)
    subst e
    have l1 := List.getElem?_eq_some_iff.1 hb1
    have l2 := List.getElem?_eq_some_iff.1 hc1
    obtain ⟨i1, e1⟩ := l1
    obtain ⟨i2, e2⟩ := l2
    exact (List.getElem_inj h.nodup).1 (e1.trans e2.symm)
  · obtain ⟨c, hc, hp⟩ := inv b p hb
    by_cases hlt : b < hs.length
    · rw [h.pre b hlt] at hc; cases hc
      exact g.dom b p hp
    · exact .inr (Nat.le_of_not_lt hlt)
  · rcases Nat.eq_zero_or_pos hs.length with e | e
    · omega
    · obtain ⟨o0, o, h1, _⟩ := h.obj (hs.length - 1) _ (h.pre (hs.length - 1) (by omega))
      have := (List.getElem?_eq_some_iff.1 h1).1
      omega
  · obtain ⟨v2, h1, h2⟩ := h.env t v hv
    exact h2.comp (he.vals t v2 h1)
/-- The same state, or fewer things are known. -/
def Sb (n0 : Nat) (s0 s : St) : Prop := s0 = s ∨ ∃ l, Sub n0 l s0 s
theorem Sb.sound {s0 s : St} (h : Sb hs.length s0 s) {a : Act} {w : World} {D : List Deferred} (hks : RH τs hs ws) (g : Gr τs hs ws τ s.h w) (he : ER τ N s.e a D) : ∃ τ', (Gr τs hs ws τ' s0.h w ∧ ER τ' N s0.e a D) ∧ ∀ k, wset τ' s0.h k → wset τ s.h k := by
  rcases h with rfl | ⟨l, h⟩
  · exact ⟨τ, ⟨g, he⟩, fun _ h => h⟩
  · exact ⟨_, h.sound hks g he⟩
end
end Go.Proofs.YtjopikjefpenkaaDoor
/- The plain machine's code stands for the model's; functions. -/
namespace Go.Proofs.YtjopikjefpenkaaDoor
open Go.RowKit
variable [Inv]
/-- What must be of the text. -/
def noRF : Code → Bool
  | .seq a b => noRF a && noRF b
  | .cond _ a b => noRF a && noRF b
  | .block _ c => noRF c
  | .loop c => noRF c
  | .scope c => noRF c
  | .rangeFunc .. => false
  | _ => true
def codeOk (N : Nat) : Code → Bool
  | .region _ ops dr => (ops.toList.all fun o => match o.dst with | some d => decide (d < N) | none => true) && (!dr || drawStat N ops)
  | .seq a b => codeOk N a && codeOk N b
  | .cond _ a b => codeOk N a && codeOk N b
  | .block _ c => codeOk N c
  | .loop c => codeOk N c
  | .scope c => codeOk N c
  | .rangeFunc _ ps a b => ps.toList.all (fun d => decide (d < N)) && (codeOk N a && noRF a) && (codeOk N b && noRF b)
  | _ => true
def codeIn (N : Nat) (ps : Array Tmp) (a b : Code) : Bool := ps.toList.all (fun d => decide (d < N)) && (codeOk N a && noRF a) && (codeOk N b && noRF b)
/-- What comes of a piece of code. -/
def pwp (P : Program) (n0 : Nat) : Code → (PX → St → Prop) → St → Prop
  | .skip, Q, s => Q .normal s
  | .label _, Q, s => Q .normal s
  | .region _ ops dr, Q, s => match dr with
    | false => pops P ops (fun e h => Q .normal ⟨e, h⟩) (fun v h => Q (.pan v) ⟨[], h⟩) ops.toList s.e s.h
    | true => pdraw P ops s.e s.h fun e h => Q .normal ⟨e, h⟩
  | .seq a b, Q, s => pwp P n0 a (fun x s' => match x with
    | .normal => pwp P n0 b Q s'
    | x => Q x s') s
  | .cond c a b, Q, s => match ev s.e c with
    | some (.bool t) => (t = true → pwp P n0 a Q s) ∧ (t = false → pwp P n0 b Q s)
    | _ => False
  | .block id c, Q, s => pwp P n0 c (fun x s' => match x with
    | .exit i => if i = id then Q .normal s' else Q (.exit i) s'
    | x => Q x s') s
  | .loop c, Q, s => ∃ I : Nat → St → Prop, (∃ n s0, Sb n0 s0 s ∧ I n s0) ∧ ∀ n s0, I n s0 → pwp P n0 c (fun x s' => match x with
    | .normal => ∃ m s1, m < n ∧ Sb n0 s1 s' ∧ I m s1
    | x => Q x s') s0
  | .exit id, Q, s => Q (.exit id) s
  | .scope c, Q, s => pwp P n0 c Q s
  | .ret, Q, s => Q .ret s
  | .rangeFunc g ps assign body, Q, s => match ev s.e g with
    | some (.func (.func gf) first cap) => ∃ e0 : Env, (∀ t v, e0.get t = some v → s.e.get t = some v) ∧ ∀ fn tmps df, codeIn tmps.size ps assign body = true →
      PC P gf (first.toList ++ [.func (.yield s.h.length) #[] #[]] ++ cap.toList) (s.h ++ [.lp { state := .ready, pending := none, fn, tmps, params := ps, assign, body, defers := df } e0])
        (fun _ h' => ∃ r, h'[s.h.length]? = some (.lp r e0) ∧ r.state ≠ .busy ∧ match r.pending with
          | none => Q .normal ⟨s.e, h'.set s.h.length .dead⟩
          | some .ret => Q .ret ⟨s.e, h'.set s.h.length .dead⟩
          | some (.exit i) => Q (.exit i) ⟨s.e, h'.set s.h.length .dead⟩
          | _ => False)
        (fun v h' => Q (.pan v) ⟨[], h'⟩)
    | _ => False
  | _, _, _ => False
section
variable {P : Program}
theorem pop_imp {o : Op} {e : Env} {h : List PO} {K Kp K' Kp' : Value → List PO → Prop} (hK : ∀ v h, K v h → K' v h) (hp : ∀ v h, Kp v h → Kp' v h) (q : pop P o e h K Kp) : pop P o e h K' Kp' := by
  unfold pop at q ⊢
  split
  · dsimp only at q
    split
    · rename_i h1 h2 h3
      simp only [h1, h2, h3] at q
      split
      · rename_i h4
        simp only [h4] at q
        exact ⟨q.1, q.2.1, hK _ _ q.2.2⟩
      · rename_i h4; simp only [h4] at q
    · rename_i hno
      split at q
      · rename_i h1 h2 h3; exact (hno _ _ _ _ h1 h2 h3).elim
      · exact q
  · dsimp only at q
    split
    · rename_i h1; simp only [h1] at q; exact hp _ _ q
    · rename_i hno
      split at q
      · rename_i h1; exact (hno _ _ h1).elim
      · exact q
  · dsimp only at q
    split
    · rename_i h1 h2; simp only [h1, h2] at q; exact q.mono hK hp
    · rename_i h1 h2; simp only [h1, h2] at q; exact q.mono hK
    · rename_i hno hno2
      split at q
      · rename_i h1 h2; exact (hno _ _ _ _ h1 h2).elim
      · rename_i h1 h2; exact (hno2 _ _ _ _ h1 h2).elim
      · exact q
  · dsimp only at q
    split
    · rename_i h1; simp only [h1] at q; exact ⟨q.1, hK _ _ q.2⟩
    · rename_i h1
      simp only [h1] at q
      split
      · rename_i h2
        simp only [h2] at q
        split
        · rename_i h3; simp only [h3] at q; exact ⟨q.1, hK _ _ q.2⟩
        · rename_i h3; simp only [h3] at q
      · rename_i h2; simp only [h2] at q
  · split at q
    iterate 4 (· exfalso; simp_all)
    · split
      · rename_i h1; simp only [h1] at q; exact ⟨q.1, hK _ _ q.2⟩
      · rename_i h1
        simp only [h1] at q
        split
        · rename_i h2; simp only [h2] at q; exact ⟨q.1, hK _ _ q.2⟩
        · rename_i h2; simp only [h2] at q
          split
          · rename_i h3; simp only [h3] at q; exact hK _ _ q
          · rename_i h3; simp only [h3] at q
theorem pops_imp {ops : Array Oper} {K K' : Env → List PO → Prop} {Kp Kp' : Value → List PO → Prop} (hK : ∀ e h, K e h → K' e h) (hp : ∀ v h, Kp v h → Kp' v h) : ∀ (l : List Oper) {e : Env} {h : List PO}, pops P ops K Kp l e h → pops P ops K' Kp' l e h
  | [], e, h, q => hK _ _ q
  | o :: os, e, h, q => by
    unfold pops at q ⊢
    split
    · rename_i h1; simp only [h1] at q
      exact pop_imp (fun v h k => pops_imp hK hp os k) hp q
    · rename_i h1; simp only [h1] at q
      split
      · rename_i h2; simp only [h2] at q
        split
        · rename_i h3; simp only [h3] at q
          exact ⟨fun x => pop_imp (fun v h k => pops_imp hK hp os k) hp (q.1 x), fun x => pops_imp hK hp os (q.2 x)⟩
        · rename_i h3; simp only [h3] at q; exact pops_imp hK hp os q
        · rename_i h3 h4
          split at q
          · rename_i h5; exact (h3 _ h5).elim
          · rename_i h5; exact (h4 _ h5).elim
          · exact q
      · rename_i h2; simp only [h2] at q
theorem dop_imp {o : Op} {e : Env} {h : List PO} {K K' : DR → Prop} (hK : ∀ r, K r → K' r) (q : dop P o e h K) : dop P o e h K' := by
  obtain ⟨r, hr, h1, h2⟩ := dop_mono q
  unfold dop at h1 ⊢
  split
  · dsimp only at h1
    split
    · rename_i a b c; simp only [a, b, c] at h1; obtain ⟨x, y, rfl⟩ := h1; exact ⟨x, y, hK _ h2⟩
    · rename_i hno
      split at h1
      · rename_i a b c; exact (hno _ _ _ _ a b c).elim
      · exact h1
  · dsimp only at h1
    split
    · rename_i a b; simp only [a, b] at h1; obtain ⟨v, ns, x, rfl⟩ := h1; exact ⟨v, ns, x, hK _ h2⟩
    · rename_i hno
      split at h1
      · rename_i a b; exact (hno _ _ _ _ a b).elim
      · exact h1
  · split at h1
    iterate 2 (· exfalso; simp_all)
    · split
      · rename_i a; simp only [a] at h1; obtain ⟨x, rfl⟩ := h1; exact ⟨x, hK _ h2⟩
      · rename_i a; simp only [a] at h1
        split
        · rename_i b; simp only [b] at h1; obtain ⟨x, rfl⟩ := h1; exact ⟨x, hK _ h2⟩
        · rename_i b; simp only [b] at h1
theorem pd_imp {ops : Array Oper} {K K' : Env → List PO → List (Nat × Nat × List Value) → Prop} (hK : ∀ e h ws, K e h ws → K' e h ws) : ∀ (l : List Oper) {e : Env} {h : List PO} {ws}, pd P ops K l e h ws → pd P ops K' l e h ws
  | [], e, h, ws, q => hK _ _ _ q
  | o :: os, e, h, ws, q => by
    unfold pd at q ⊢
    split
    · rename_i h1; simp only [h1] at q
      exact dop_imp (fun r k => pd_imp hK os k) q
    · rename_i h1; simp only [h1] at q
      split
      · rename_i h2; simp only [h2] at q
        split
        · rename_i h3; simp only [h3] at q
          exact ⟨fun x => dop_imp (fun r k => pd_imp hK os k) (q.1 x), fun x => pd_imp hK os (q.2 x)⟩
        · rename_i h3; simp only [h3] at q; exact pd_imp hK os q
        · rename_i h3 h4
          split at q
          · rename_i h5; exact (h3 _ h5).elim
          · rename_i h5; exact (h4 _ h5).elim
          · exact q
      · rename_i h2; simp only [h2] at q
theorem pwp_mono {n0 : Nat} : ∀ (c : Code) {Q Q' : PX → St → Prop} {s : St}, pwp P n0 c Q s → (∀ x s, Q x s → Q' x s) → pwp P n0 c Q' s
  | .skip, Q, Q', s, q, h => h _ _ q
  | .label _, Q, Q', s, q, h => h _ _ q
  | .exit _, Q, Q', s, q, h => h _ _ q
  | .ret, Q, Q', s, q, h => h _ _ q
  | .region _ ops dr, Q, Q', s, q, h => by
    cases dr with
    | false => exact pops_imp (fun e m k => h _ _ k) (fun v m k => h _ _ k) _ q
    | true =>
      obtain ⟨L, h1, h2⟩ := q
      refine ⟨L, h1, pd_imp (fun e m ws k => ⟨k.1, ?_⟩) _ h2⟩
      have := k.2
      split
      · rename_i h3; simp only [h3] at this; exact h _ _ this
      · rename_i h3; simp only [h3] at this
  | .seq a b, Q, Q', s, q, h => pwp_mono a q fun x s' k => by
    cases x
    · exact pwp_mono b k h
    all_goals exact h _ _ k
  | .cond c a b, Q, Q', s, q, h => by
    unfold pwp at q ⊢
    split
    · rename_i h1; simp only [h1] at q
      exact ⟨fun x => pwp_mono a (q.1 x) h, fun x => pwp_mono b (q.2 x) h⟩
    · rename_i hno
      split at q
      · rename_i h1; exact (hno _ h1).elim
      · exact q
  | .block id c, Q, Q', s, q, h => pwp_mono c q fun x s' k => by
    cases x
    case exit i =>
      dsimp only at k ⊢
      split
      · rename_i e; rw [if_pos e] at k; exact h _ _ k
      · rename_i e; rw [if_neg e] at k; exact h _ _ k
    all_goals exact h _ _ k
  | .loop c, Q, Q', s, q, h => by
    obtain ⟨I, h1, h2⟩ := q
    exact ⟨I, h1, fun n s0 hI => pwp_mono c (h2 n s0 hI) fun x s' k => by
      cases x
      · exact k
      all_goals exact h _ _ k⟩
  | .scope c, Q, Q', s, q, h => pwp_mono c q h
  | .rangeFunc g ps assign body, Q, Q', s, q, h => by
    unfold pwp at q ⊢
    split
    · rename_i h1; simp only [h1] at q
      obtain ⟨e0, he0, q⟩ := q
      refine ⟨e0, he0, fun fn tmps df hok => ?_⟩
      refine (q fn tmps df hok).mono (fun v h' k => ?_) fun v h' k => h _ _ k
      obtain ⟨r, k1, k2, k3⟩ := k
      refine ⟨r, k1, k2, ?_⟩
      split
      · rename_i h2; simp only [h2] at k3; exact h _ _ k3
      · rename_i h2; simp only [h2] at k3; exact h _ _ k3
      · rename_i h2; simp only [h2] at k3; exact h _ _ k3
      · rename_i n1 n2 n3
        split at k3
        · rename_i h2; exact (n1 h2).elim
        · rename_i h2; exact (n2 h2).elim
        · rename_i h2; exact (n3 _ h2).elim
        · exact k3
    · rename_i hno
      split at q
      · rename_i h1; exact (hno _ _ _ h1).elim
      · exact q
  | .goto _, _, _, _, q, _ => q.elim
  | .refuse _, _, _, _, q, _ => q.elim
end
/-- The marks among a frame's deferred calls: blocks of its own, which nothing here owns. -/
def Mks (B : Nat) (τ : Tau) (h : List PO) (w : World) (D : List Deferred) : Prop :=
  ∃ rs : List Nat, rs.Nodup ∧ D = rs.map (fun r => { target := .collected r, args := #[] }) ∧ ∀ r ∈ rs, B ≤ r ∧ w.heap[r]? = some (.deferred (some [])) ∧ ¬ wset τ h r
theorem Mks.nil {B : Nat} {τ : Tau} {h : List PO} {w : World} : Mks B τ h w [] := ⟨[], .nil, rfl, fun r hr => by simp at hr⟩
theorem Mks.gr {B : Nat} {τ τ' : Tau} {h h' : List PO} {w w' : World} {D : List Deferred} (m : Mks B τ h w D) (g : Gr τ h w τ' h' w') : Mks B τ' h' w' D := by
  obtain ⟨rs, h1, h2, h3⟩ := m
  refine ⟨rs, h1, h2, fun r hr => ?_⟩
  obtain ⟨k1, k2, k3⟩ := h3 r hr
  have hlt := (Array.getElem?_eq_some_iff.1 k2).1
  refine ⟨k1, (g.fr.block r hlt k3).trans k2, fun hw => ?_⟩
  rcases g.ws r hw with h | h
  · exact k3 h
  · omega
theorem Mks.sub {B : Nat} {τ τ' : Tau} {h h' : List PO} {w : World} {D : List Deferred} (m : Mks B τ h w D) (hs : ∀ k, wset τ' h' k → wset τ h k) : Mks B τ' h' w D := by
  obtain ⟨rs, h1, h2, h3⟩ := m
  exact ⟨rs, h1, h2, fun r hr => ⟨(h3 r hr).1, (h3 r hr).2.1, fun hw => (h3 r hr).2.2 (hs _ hw)⟩⟩
theorem ER.own {τ : Tau} {N : Nat} {e : Env} {a : Act} {D : List Deferred} (h : ER τ N e a D) : ER τ N e a a.defers := ⟨h.size, rfl, h.vals⟩
/-- How the model leaves it. -/
def PRel (N B : Nat) (w : World) (τ : Tau) : PX → St → Exit → Act → Prop
  | .normal, s, ex, a => ex = .normal ∧ ER τ N s.e a a.defers ∧ Mks B τ s.h w a.defers
  | .exit i, s, ex, a => ex = .exit i ∧ ER τ N s.e a a.defers ∧ Mks B τ s.h w a.defers
  | .ret, s, ex, a => ex = .ret ∧ ER τ N s.e a a.defers ∧ Mks B τ s.h w a.defers
  | .pan v, s, ex, a => ∃ v', ex = .panic [panEntry v'] ∧ VR τ v v' ∧ Mks B τ s.h w a.defers
/-- In the model: whatever stands for the memory; in a round, or in none. -/
def SW (P : Program) (N : Nat) (hs : List PO) (c : Code) (Q : PX → St → Prop) (s : St) : Prop :=
  codeOk N c = true → ∀ ro, (ro.isSome = true → noRF c = true) → ∀ τs ws τ a w, RH τs hs ws → J τs hs ws → Gr τs hs ws τ s.h w → ER τ N s.e a a.defers → Mks ws.heap.size τ s.h w a.defers →
    ∀ Q' : Exit → Act → World → Prop, (∀ x s' τ' ex a' w', Q x s' → Gr τs hs ws τ' s'.h w' → PRel N ws.heap.size w' τ' x s' ex a' → Q' ex a' w') → c.wpIn (Fo ro) 0 P Q' a w
section
variable {P : Program} {N : Nat} {hs : List PO}
theorem SW.mono {c : Code} {Q Q2 : PX → St → Prop} {s : St} (h : SW P N hs c Q s) (hq : ∀ x s, Q x s → Q2 x s) : SW P N hs c Q2 s :=
  fun hok ro hro τs ws τ a w h1 hj h2 h3 h4 Q' hQ => h hok ro hro τs ws τ a w h1 hj h2 h3 h4 Q' (fun x s' τ' ex a' w' k => hQ x s' τ' ex a' w' (hq x s' k))
/-- Less is known. -/
theorem SW.sub {c : Code} {Q : PX → St → Prop} {s s0 : St} {l : List Nat} (hsub : Sub hs.length l s0 s) (h : SW P N hs c Q s0) : SW P N hs c Q s :=
  fun hok ro hro τs ws τ a w h1 hj h2 h3 h4 Q' hQ => by
    obtain ⟨⟨g, he⟩, hw⟩ := hsub.sound h1 h2 h3
    exact h hok ro hro τs ws _ a w h1 hj g he (h4.sub hw) Q' hQ
def PX.then (K : St → Prop) (Q : PX → St → Prop) : PX → St → Prop
  | .normal, s => K s
  | x, s => Q x s
theorem SW.seq {a b : Code} {Q : PX → St → Prop} {s : St} (h : SW P N hs a (PX.then (SW P N hs b Q) Q) s) : SW P N hs (.seq a b) Q s :=
  fun hok ro hro τs ws τ ac w h1 hj h2 h3 h4 Q' hQ => by
    simp only [codeOk, Bool.and_eq_true] at hok
    have hro1 : ro.isSome = true → noRF a = true := fun x => by have := hro x; simp only [noRF, Bool.and_eq_true] at this; exact this.1
    have hro2 : ro.isSome = true → noRF b = true := fun x => by have := hro x; simp only [noRF, Bool.and_eq_true] at this; exact this.2
    refine wpIn_seq (h hok.1 ro hro1 τs ws τ ac w h1 hj h2 h3 h4 _ (fun x s' τ' ex a' w' k g r => ?_))
    cases x with
    | normal =>
      obtain ⟨rfl, he, hm⟩ := r
      exact k hok.2 ro hro2 τs ws τ' a' w' h1 hj g he hm Q' hQ
    | exit i => obtain ⟨rfl, he⟩ := r; exact hQ (.exit i) s' τ' _ a' w' k g ⟨rfl, he⟩
    | ret => obtain ⟨rfl, he⟩ := r; exact hQ .ret s' τ' _ a' w' k g ⟨rfl, he⟩
    | pan v => obtain ⟨v', rfl, he⟩ := r; exact hQ (.pan v) s' τ' _ a' w' k g ⟨v', rfl, he⟩
theorem SW.cond {c : Operand} {a b : Code} {Q : PX → St → Prop} {s : St} {t : Bool} (hc : ev s.e c = some (.bool t)) (h : SW P N hs (if t then a else b) Q s) : SW P N hs (.cond c a b) Q s :=
  fun hok ro hro τs ws τ ac w h1 hj h2 h3 h4 Q' hQ => by
    simp only [codeOk, Bool.and_eq_true] at hok
    refine wpIn_cond (h3.ag c _ hc).bool' ?_
    exact h (by cases t; exact hok.2; exact hok.1) ro (fun x => by have := hro x; simp only [noRF, Bool.and_eq_true] at this; cases t; exact this.2; exact this.1) τs ws τ ac w h1 hj h2 h3 h4 Q' hQ
def PX.inBlock (id : Nat) (Q : PX → St → Prop) : PX → St → Prop
  | .exit i, s => if i = id then Q .normal s else Q (.exit i) s
  | x, s => Q x s
theorem SW.block {id : Nat} {c : Code} {Q : PX → St → Prop} {s : St} (h : SW P N hs c (PX.inBlock id Q) s) : SW P N hs (.block id c) Q s :=
  fun hok ro hro τs ws τ ac w h1 hj h2 h3 h4 Q' hQ => by
    refine wpIn_block (h hok ro hro τs ws τ ac w h1 hj h2 h3 h4 _ (fun x s' τ' ex a' w' k g r => ?_))
    cases x with
    | normal => obtain ⟨rfl, he⟩ := r; exact hQ .normal s' τ' _ a' w' k g ⟨rfl, he⟩
    | exit i =>
      obtain ⟨rfl, he⟩ := r
      simp only [PX.inBlock] at k
      simp only [Exit.inBlock]
      split
      · rename_i hi; rw [if_pos hi] at k; exact hQ .normal s' τ' _ a' w' k g ⟨rfl, he⟩
      · rename_i hi; rw [if_neg hi] at k; exact hQ (.exit i) s' τ' _ a' w' k g ⟨rfl, he⟩
    | ret => obtain ⟨rfl, he⟩ := r; exact hQ .ret s' τ' _ a' w' k g ⟨rfl, he⟩
    | pan v => obtain ⟨v', rfl, he⟩ := r; exact hQ (.pan v) s' τ' _ a' w' k g ⟨v', rfl, he⟩
theorem least {p : Nat → Prop} (h : ∃ n, p n) : ∃ n, p n ∧ ∀ m, p m → n ≤ m := by
  obtain ⟨n, hn⟩ := h
  induction n using Nat.strongRecOn with
  | _ n ih =>
    by_cases h : ∃ m, m < n ∧ p m
    · obtain ⟨m, h1, h2⟩ := h; exact ih m h1 h2
    · exact ⟨n, hn, fun m hm => Nat.le_of_not_lt (fun hlt => h ⟨m, hlt, hm⟩)⟩
theorem SW.loop {c : Code} {Q : PX → St → Prop} {s : St} (I : Nat → St → Prop) (h0 : ∃ n s0, Sb hs.length s0 s ∧ I n s0) (h : ∀ n s0, I n s0 → SW P N hs c (PX.then (fun s' => ∃ m s1, m < n ∧ Sb hs.length s1 s' ∧ I m s1) Q) s0) : SW P N hs (.loop c) Q s :=
  fun hok ro hro τs ws τ ac w h1 hj h2 h3 h4 Q' hQ => by
    obtain ⟨n, s0, hsub, hI⟩ := h0
    obtain ⟨τ0, ⟨g0, he0⟩, hw0⟩ := hsub.sound h1 h2 h3
    let J : Nat → Act → World → Prop := fun n a w => ∃ s τ, I n s ∧ Gr τs hs ws τ s.h w ∧ ER τ N s.e a a.defers ∧ Mks ws.heap.size τ s.h w a.defers
    classical
    let μ : Act → World → Nat := fun a w => if h : ∃ n, J n a w then Classical.choose (least h) else 0
    have hμ : ∀ a w, (∃ n, J n a w) → J (μ a w) a w ∧ ∀ m, J m a w → μ a w ≤ m := fun a w hJ => by
      have : μ a w = Classical.choose (least hJ) := dif_pos hJ
      rw [this]
      exact Classical.choose_spec (least hJ)
    refine wpIn_loop (fun a w => ∃ n, J n a w) μ ⟨n, s0, _, hI, g0, he0, h4.sub hw0⟩ (fun a w hJ => ?_)
    obtain ⟨⟨s, τ1, k1, k2, k3, k4⟩, _⟩ := hμ a w hJ
    refine h (μ a w) s k1 hok ro hro τs ws τ1 a w h1 hj k2 k3 k4 _ (fun x s' τ' ex a' w' k g r => ?_)
    cases x with
    | normal =>
      obtain ⟨rfl, he, hm⟩ := r
      obtain ⟨m, s1, hlt, hs1, hI1⟩ := k
      obtain ⟨τ2, ⟨g1, he1⟩, hw1⟩ := hs1.sound h1 g he
      have hJ1 : J m a' w' := ⟨s1, _, hI1, g1, he1, hm.sub hw1⟩
      exact ⟨⟨m, hJ1⟩, Nat.lt_of_le_of_lt ((hμ a' w' ⟨m, hJ1⟩).2 m hJ1) hlt⟩
    | exit i => obtain ⟨rfl, he⟩ := r; exact hQ (.exit i) s' τ' _ a' w' k g ⟨rfl, he⟩
    | ret => obtain ⟨rfl, he⟩ := r; exact hQ .ret s' τ' _ a' w' k g ⟨rfl, he⟩
    | pan v => obtain ⟨v', rfl, he⟩ := r; exact hQ (.pan v) s' τ' _ a' w' k g ⟨v', rfl, he⟩
theorem stepR_scope {b : Frame} {a : Act} {k : List Item} {cs : List Frame} {w : World} {c : Code} : step P (lone (b.atR a (.code (.scope c) :: k)) cs w) = .next (lone (b.atR a (.code c :: .inScope c :: k)) cs w) :=
  step_lone_go (by simp [stepG, stepG.exec, Frame.atR])
theorem stepR_inScope {b : Frame} {a : Act} {k : List Item} {cs : List Frame} {w : World} {c : Code} : step P (lone (b.atR a (.inScope c :: k)) cs w) = .next (lone (b.atR a k) cs w) :=
  step_lone_go (by simp [stepG, stepG.exec, Frame.atR])
theorem wpIn_scope_straight {F : Fence} {n : Nat} {Q : Exit → Act → World → Prop} {a : Act} {w : World} {c : Code} (h : c.wpIn F n P (Exit.noGoto Q) a w) : (Code.scope c).wpIn F n P Q a w := by
  intro b k cs hro hb hr
  have h0 : (lone (b.atR a (.code (.scope c) :: k)) cs w).fenced P F := fenced_calm hb hr rfl
  obtain ⟨e, a₁, w₁, hq, harr⟩ := h b (.inScope c :: k) cs hro hb hr
  cases e with
  | normal => exact ⟨.normal, a₁, w₁, hq, .head h0 stepR_scope (StepsIn.trans harr (.one (fenced_calm hb hr rfl) stepR_inScope))⟩
  | exit id =>
    have hx : ∀ id, exitTo id (.inScope c :: k) = exitTo id k := fun id => by simp [exitTo]
    exact ⟨.exit id, a₁, w₁, hq, fun k' hk => .head h0 stepR_scope (harr.1 k' (by rw [hx]; exact hk)), fun hr' hk => let ⟨k₁, h1, h2⟩ := harr.2 hr' (by rw [hx]; exact hk); ⟨k₁, h1, .head h0 stepR_scope h2⟩⟩
  | goto l => exact hq.elim
  | ret => exact ⟨_, a₁, w₁, hq, .of_steps (.one h0 stepR_scope) harr⟩
  | panic ch => exact ⟨_, a₁, w₁, hq, .of_steps (.one h0 stepR_scope) harr⟩
  | outgrown => exact ⟨_, a₁, w₁, hq, .of_steps (.one h0 stepR_scope) harr⟩
theorem SW.scope {c : Code} {Q : PX → St → Prop} {s : St} (h : SW P N hs c Q s) : SW P N hs (.scope c) Q s :=
  fun hok ro hro τs ws τ ac w h1 hj h2 h3 h4 Q' hQ => by
    refine wpIn_scope_straight (h hok ro hro τs ws τ ac w h1 hj h2 h3 h4 _ (fun x s' τ' ex a' w' k g r => ?_))
    cases x with
    | normal => obtain ⟨rfl, he⟩ := r; exact hQ .normal s' τ' _ a' w' k g ⟨rfl, he⟩
    | exit i => obtain ⟨rfl, he⟩ := r; exact hQ (.exit i) s' τ' _ a' w' k g ⟨rfl, he⟩
    | ret => obtain ⟨rfl, he⟩ := r; exact hQ .ret s' τ' _ a' w' k g ⟨rfl, he⟩
    | pan v => obtain ⟨v', rfl, he⟩ := r; exact hQ (.pan v) s' τ' _ a' w' k g ⟨v', rfl, he⟩
theorem SW.region {id : Nat} {ops : Array Oper} {Q : PX → St → Prop} {s : St} (h : pops P ops (fun e h => Q .normal ⟨e, h⟩) (fun v h => Q (.pan v) ⟨[], h⟩) ops.toList s.e s.h) : SW P N hs (.region id ops false) Q s :=
  fun hok ro hro τs ws τ ac w h1 hj h2 h3 h4 Q' hQ => by
    simp only [codeOk, Bool.and_eq_true, List.all_eq_true] at hok
    refine region_sound (N := N) (fun o ho d hd => ?_) h h3 h2.rh (hj.gr h2) (fun e' h' τ' a' w' k g he => hQ _ _ τ' _ a' w' k (h2.trans g) ⟨rfl, he.own, by rw [he.defers]; exact h4.gr g⟩) (fun v h' τ' a' w' v' k g hv hd => hQ _ _ τ' _ a' w' k (h2.trans g) ⟨v', rfl, hv, by rw [hd]; exact h4.gr g⟩)
    have := hok.1 o ho
    simpa [hd] using this
theorem SW.draw {id : Nat} {ops : Array Oper} {Q : PX → St → Prop} {s : St} (hm : P.follows .mixedOrders = true) (h : pdraw P ops s.e s.h fun e h => Q .normal ⟨e, h⟩) : SW P N hs (.region id ops true) Q s :=
  fun hok ro hro τs ws τ ac w h1 hj h2 h3 h4 Q' hQ => by
    simp only [codeOk, Bool.and_eq_true, Bool.not_true, Bool.false_or] at hok
    exact draw_sound hm hok.2 h h3 h2.rh (hj.gr h2) (fun e' h' τ' a' w' k g he => hQ _ _ τ' _ a' w' k (h2.trans g) ⟨rfl, he.own, by rw [he.defers]; exact h4.gr g⟩)
/-- The record's state turns. -/
theorem putlp {τ : Tau} {h : List PO} {w : World} {b : Nat} {p : Pl} {r : Loop} {e : Env} (k : RH τ h w) (hp : τ b = some p) (hb : h[b]? = some (.lp r e)) (o' : PO) (r' : Loop) (ho : o' = .dead ∨ o' = .lp r' e) (ht : r'.tmps = r.tmps) : Gr τ h w τ (h.set b o') (w.putObj p.base.block (.loop r')) ∧ w.heap[p.base.block]? = some (.loop r) := by
  obtain ⟨o, g1, hor, g6⟩ := k.ob b p hp
  rw [hb] at g1; cases g1
  obtain ⟨g2, g3, g4, g5⟩ := hor
  have hlt := (Array.getElem?_eq_some_iff.1 g4).1
  have hbl := (List.getElem?_eq_some_iff.1 hb).1
  have hfr : Fr (· = p.base.block) w (w.putObj p.base.block (.loop r')) := ⟨rfl, rfl, rfl, by simp, fun k _ hk => World.putObj_heap_other (fun e => hk e)⟩
  have hne : ∀ c q o, c ≠ b → τ c = some q → h[c]? = some o → o.live = true → q.base.block ≠ p.base.block := fun c q o hc hq ho hl => (k.inj b c p q _ o (Ne.symm hc) hp hq hb rfl ho hl).symm
  have get : ∀ (c : Nat) (o : PO), c ≠ b → ((h.set b o')[c]? = some o ↔ h[c]? = some o) := fun c o hc => by rw [List.getElem?_set_ne (Ne.symm hc)]
  have ownl : ∀ {x : PO}, x.own = true → x.live = true := fun {x} hx => by cases x <;> first | rfl | simp [PO.own] at hx
  refine ⟨⟨Tau.le_refl _, ⟨fun c q hq => ?_, fun c d q s o1 o2 hcd hq hs h1 h2 h3 h4 => ?_⟩, hfr.mono fun x _ hx => ⟨b, p, _, hp, hb, rfl, hx.symm⟩, fun x hx => .inl ?_, fun _ _ x => .inl x, by simp⟩, g4⟩
  · by_cases hc : c = b
    · subst hc
      rw [hp] at hq; cases hq
      refine ⟨o', by rw [List.getElem?_set_self hbl], ?_, fun _ => by simpa using hlt⟩
      rcases ho with rfl | rfl
      · trivial
      · exact ⟨g2, g3, World.putObj_heap_same hlt, by rw [ht]; exact g5⟩
    · obtain ⟨o1, k1, k2, k3⟩ := k.ob c q hq
      refine ⟨o1, (get c o1 hc).2 k1, ?_, fun hl => by simpa using k3 hl⟩
      by_cases hl : o1.live = true
      · exact k2.same (hfr.block _ (k3 hl) (hne c q o1 hc hq k1 hl))
      · cases o1 <;> first | trivial | exact absurd rfl hl
  · have key : ∀ (c : Nat) (q : Pl) (o : PO), τ c = some q → (h.set b o')[c]? = some o → o.live = true → ∃ o0, h[c]? = some o0 ∧ (o.own = true → o0.own = true) ∧ o0.live = true := fun c q o hq hc hl => by
      by_cases e : c = b
      · subst e; exact ⟨_, hb, fun _ => rfl, rfl⟩
      · exact ⟨o, (get c o e).1 hc, id, hl⟩
    obtain ⟨p1, a1, a2, a3⟩ := key c q o1 hq h1 (ownl h2)
    obtain ⟨p2, b1, b2, b3⟩ := key d s o2 hs h3 h4
    exact k.inj c d q s p1 p2 hcd hq hs a1 (a2 h2) b1 b3
  · obtain ⟨c, q, o, h1, h2, h3, rfl⟩ := hx
    by_cases hc : c = b
    · subst hc; exact ⟨c, q, _, h1, hb, rfl, rfl⟩
    · exact ⟨c, q, o, h1, (get c o hc).1 h2, h3, rfl⟩
theorem ER.set {τ : Tau} {N : Nat} : ∀ (ps : List Tmp) (vs vs' : List Value) {e : Env} {a : Act} {D : List Deferred}, ER τ N e a D → (∀ d ∈ ps, d < N) → VRs τ vs.toArray vs'.toArray → ER τ N ((ps.zip vs).foldl (fun e x => x :: e) e) { a with tmps := (ps.zip vs').foldl (fun t (x : Tmp × Value) => t.setIfInBounds x.1 x.2) a.tmps } D
  | [], _, _, e, a, D, h, _, _ => by simpa using h
  | p :: ps, [], vs', e, a, D, h, _, hv => by
    have : vs' = [] := by have := hv.1; simp at this; exact List.eq_nil_of_length_eq_zero this.symm
    subst this; simpa using h
  | p :: ps, v :: vs, [], e, a, D, h, _, hv => by have := hv.1; simp at this
  | p :: ps, v :: vs, v' :: vs', e, a, D, h, hN, hv => by
    simp only [List.zip_cons_cons, List.foldl_cons]
    have h0 := hv.2 0 v v' (by simp) (by simp)
    have hr : VRs τ vs.toArray vs'.toArray := ⟨by have := hv.1; simpa using this, fun i x x' h1 h2 => hv.2 (i + 1) x x' (by simpa using h1) (by simpa using h2)⟩
    have := h.put (dst := some p) (fun d hd => by cases hd; exact hN p (by simp)) h0
    exact ER.set ps vs vs' this (fun d hd => hN d (List.mem_cons_of_mem _ hd)) hr
/-- What a round leaves. -/
def Qround (b : Nat) (r : Loop) (e0 : Env) (K : Value → List PO → Prop) : PX → St → Prop
  | .normal, s => s.h[b]? = some (.lp { r with state := .busy } e0) ∧ K (.bool true) (s.h.set b (.lp { r with state := .ready, pending := none } e0))
  | .ret, s => s.h[b]? = some (.lp { r with state := .busy } e0) ∧ K (.bool false) (s.h.set b (.lp { r with state := .done, pending := some .ret } e0))
  | .exit i, s => s.h[b]? = some (.lp { r with state := .busy } e0) ∧ K (.bool false) (s.h.set b (.lp { r with state := .done, pending := some (.exit i) } e0))
  | .pan _, _ => False
def Qassign (P : Program) (N b : Nat) (h : List PO) (r : Loop) (e0 : Env) (K : Value → List PO → Prop) : PX → St → Prop
  | .normal, s => s.h[b]? = some (.lp r e0) ∧ SW P N h r.body (Qround b r e0 K) ⟨s.e, s.h.set b (.lp { r with state := .busy } e0)⟩
  | _, _ => False
/-- A round, out of its body's walk. -/
theorem PY.of {b : Nat} {r : Loop} {e0 : Env} {h : List PO} {args : List Value} {K : Value → List PO → Prop} (hb : h[b]? = some (.lp r e0)) (hst : r.state = .ready) (hsz : args.length = r.params.size) (hok : codeIn r.tmps.size r.params r.assign r.body = true)
    (hw : SW P r.tmps.size h r.assign (Qassign P r.tmps.size b h r e0 K) ⟨(r.params.toList.zip args).foldl (fun e x => x :: e) e0, h⟩) : PY P b args h K := by
  intro τ w args' p hp hk hj ha
  obtain ⟨o, g1, hor, g6⟩ := hk.ob b p hp
  rw [hb] at g1; cases g1
  obtain ⟨g2, g3, g4, g5⟩ := hor
  simp only [codeIn, Bool.and_eq_true, List.all_eq_true, decide_eq_true_eq] at hok
  obtain ⟨⟨hN, ha1, ha2⟩, hb1, hb2⟩ := hok
  have hsz' : args'.size = r.params.size := by have := ha.1; simp at this; omega
  refine ⟨_, _, _, _, run_yield g4 hsz', roundIn_of_wpIn trivial ?_⟩
  have hE : ER τ r.tmps.size ((r.params.toList.zip args).foldl (fun e x => x :: e) e0) { tmps := (r.params.zip args').foldl (fun tmps (x : Tmp × Value) => tmps.setIfInBounds x.1 x.2) r.tmps, defers := [] } [] := by
    have h0 : ER τ r.tmps.size e0 { tmps := r.tmps, defers := [] } [] := ⟨rfl, rfl, g5⟩
    have := ER.set r.params.toList args args'.toList h0 hN (by simpa using ha)
    have e1 : (r.params.zip args').foldl (fun tmps (x : Tmp × Value) => tmps.setIfInBounds x.1 x.2) r.tmps = (r.params.toList.zip args'.toList).foldl (fun tmps (x : Tmp × Value) => tmps.setIfInBounds x.1 x.2) r.tmps := by rw [← Array.toList_zip, Array.foldl_toList]
    rw [e1]
    exact this
  have hbl : p.base.block < w.heap.size := (Array.getElem?_eq_some_iff.1 g4).1
  refine hw ha1 (some p.base.block) (fun _ => ha2) τ w τ _ w hk hj (Gr.refl hk) hE Mks.nil _ (fun x s' τ' ex a' w' k g rr => ?_)
  cases x with
  | exit i => exact k.elim
  | ret => exact k.elim
  | pan v => exact k.elim
  | normal =>
    obtain ⟨rfl, he, hm⟩ := rr
    obtain ⟨k1, k2⟩ := k
    obtain ⟨q1, q2⟩ := putlp g.rh (g.le b p hp) k1 (.lp { r with state := .busy } e0) { r with state := .busy } (.inr rfl) rfl
    have hgb := g.trans q1
    refine ⟨_, run_beginRound q2 hst, ?_⟩
    refine k2 hb1 (some p.base.block) (fun _ => hb2) τ w τ' a' _ hk hj hgb ⟨he.size, rfl, he.vals⟩ (hm.gr q1) _ (fun x s2 τ2 ex a2 w2 kk g2 rr2 => ?_)
    have fin : ∀ (jump : Option Code), s2.h[b]? = some (.lp { r with state := .busy } e0) → ∃ w3, (Instr.endRound p.base.block jump).run P w2 = .ok (.bool jump.isNone) w3 ∧ Gr τ h w τ2 (s2.h.set b (.lp { r with state := if jump.isNone then .ready else .done, pending := jump } e0)) w3 := fun jump hs2 => by
      obtain ⟨q3, q4⟩ := putlp g2.rh (g2.le b p hp) hs2 (.lp { r with state := if jump.isNone then .ready else .done, pending := jump } e0) { r with state := if jump.isNone then .ready else .done, pending := jump } (.inr rfl) rfl
      exact ⟨_, run_endRound jump q4, g2.trans q3⟩
    cases x with
    | pan v => exact kk.elim
    | normal =>
      obtain ⟨rfl, _⟩ := rr2
      obtain ⟨w3, f1, f2⟩ := fin none kk.1
      exact ⟨_, _, f1, _, τ2, _, _, f2, .bool _, rfl, kk.2⟩
    | ret =>
      obtain ⟨rfl, _⟩ := rr2
      obtain ⟨w3, f1, f2⟩ := fin (some .ret) kk.1
      exact ⟨_, _, f1, _, τ2, _, _, f2, .bool _, rfl, kk.2⟩
    | exit i =>
      obtain ⟨rfl, _⟩ := rr2
      obtain ⟨w3, f1, f2⟩ := fin (some (.exit i)) kk.1
      exact ⟨_, _, f1, _, τ2, _, _, f2, .bool _, rfl, kk.2⟩
/-- A range over a function, in no round. -/
theorem SW.range {g : Operand} {ps : Array Tmp} {assign body : Code} {Q : PX → St → Prop} {s : St} (h : pwp P hs.length (.rangeFunc g ps assign body) Q s) : SW P N hs (.rangeFunc g ps assign body) Q s :=
  fun hok ro hro τs ws τ a w h1 hj h2 h3 h4 Q' hQ => by
    have hn : ro = none := by
      cases ro with
      | none => rfl
      | some l => have := hro rfl; cases this
    subst hn
    unfold pwp at h
    split at h
    rename_i gf first cap hg
    case h_2 => exact h.elim
    obtain ⟨first', cap', e1, hf, hc⟩ := (h3.ag _ _ hg).func'
    obtain ⟨e0, he0, h⟩ := h
    refine wpIn_rangeFunc fun fn _ => ?_
    obtain ⟨hcall, hpc⟩ := h fn a.tmps w.heap.size (by rw [h3.size]; exact hok)
    obtain ⟨R, hR⟩ : ∃ R : Loop, R = { state := .ready, pending := none, fn, tmps := a.tmps, params := ps, assign, body, defers := w.heap.size } := ⟨_, rfl⟩
    obtain ⟨W1, hW1⟩ : ∃ W1, (w.alloc (.deferred (some []))).alloc (.loop R) = W1 := ⟨_, rfl⟩
    have hsz1 : (w.alloc (.deferred (some []))).heap.size = w.heap.size + 1 := by simp
    have hnone := h2.rh.none (Nat.le_refl s.h.length)
    have g0 : Gr τ s.h w τ s.h (w.alloc (.deferred (some []))) := ⟨Tau.le_refl _, h2.rh.fr (Fr.alloc _ _ _), (Fr.alloc _ _ _), fun _ x => .inl x, fun _ _ x => .inl x, Nat.le_refl _⟩
    let p : Pl := ⟨⟨w.heap.size + 1, 0, none⟩, 0⟩
    have hle := Tau.le_put τ (b := s.h.length) (p := p) hnone
    have hL1 : W1.heap[w.heap.size + 1]? = some (.loop R) := by rw [← hW1]; have := heap_alloc_new (w.alloc (.deferred (some []))) (.loop R); rwa [hsz1] at this
    have k1 : RH (τ.put s.h.length p) (s.h ++ [.lp R e0]) W1 := by
      rw [← hW1]
      refine g0.rh.push (by simp [p]) ⟨rfl, rfl, ?_, fun t v hv => ?_⟩
      · rw [hW1]; exact hL1
      · rw [hR]; exact (h3.vals t v (he0 t v hv)).mono hle
    have g1 : Gr τ s.h w (τ.put s.h.length p) (s.h ++ [.lp R e0]) W1 := by
      refine g0.trans ⟨hle, k1, by rw [← hW1]; exact Fr.alloc _ _ _, fun x hx => ?_, fun b q hb => Tau.put_dom hb, by simp⟩
      obtain ⟨b, q, o, q1, q2, q3, rfl⟩ := hx
      by_cases e : b = s.h.length
      · subst e; rw [Tau.put_self] at q1; cases q1; exact .inr (by simp [p])
      · rw [Tau.put_ne _ e] at q1
        have hb := g0.rh.lt q1
        rw [List.getElem?_append_left hb] at q2
        exact .inl ⟨b, q, o, q1, q2, q3, rfl⟩
    have hD : W1.heap[w.heap.size]? = some (.deferred (some [])) := by
      rw [← hW1]; exact (Below.heap_alloc _ _ _ (by simp)).trans (heap_alloc_new w _)
    have hm1 : Mks ws.heap.size (τ.put s.h.length p) (s.h ++ [.lp R e0]) W1 ({ target := .collected w.heap.size, args := #[] } :: a.defers) := by
      obtain ⟨rs, m1, m2, m3⟩ := h4
      have hold : ∀ x, wset (τ.put s.h.length p) (s.h ++ [.lp R e0]) x → wset τ s.h x ∨ x = w.heap.size + 1 := fun x hx => by
        obtain ⟨b, q, o, q1, q2, q3, rfl⟩ := hx
        by_cases e : b = s.h.length
        · subst e; rw [Tau.put_self] at q1; cases q1; exact .inr rfl
        · rw [Tau.put_ne _ e] at q1
          have hb := g0.rh.lt q1
          rw [List.getElem?_append_left hb] at q2
          exact .inl ⟨b, q, o, q1, q2, q3, rfl⟩
      refine ⟨w.heap.size :: rs, List.nodup_cons.2 ⟨fun hm => ?_, m1⟩, by rw [m2]; rfl, fun r hr => ?_⟩
      · have := (Array.getElem?_eq_some_iff.1 (m3 _ hm).2.1).1; omega
      · rcases List.mem_cons.1 hr with rfl | hr
        · refine ⟨h2.fr.size, hD, fun hx => ?_⟩
          rcases hold _ hx with ⟨b, q, o, q1, q2, q3, q4⟩ | hx
          · obtain ⟨o1, _, _, q5⟩ := h2.rh.ob b q q1
            have := h2.rh.inj
            obtain ⟨o2, r1, r2, r3⟩ := h2.rh.ob b q q1
            rw [q2] at r1; cases r1
            have := r3 (by cases o <;> first | rfl | simp [PO.own] at q3)
            omega
          · omega
        · obtain ⟨n1, n2, n3⟩ := m3 r hr
          have hlt := (Array.getElem?_eq_some_iff.1 n2).1
          refine ⟨n1, (g1.fr.block r hlt n3).trans n2, fun hx => ?_⟩
          rcases hold _ hx with hx | hx
          · exact n3 hx
          · omega
    have hargs : VRs (τ.put s.h.length p) (first.toList ++ [Value.func (.yield s.h.length) #[] #[]] ++ cap.toList).toArray (first' ++ #[Value.func (.yield (w.heap.size + 1)) #[] #[]] ++ cap') := by
      have hy : VR (τ.put s.h.length p) (Value.func (.yield s.h.length) #[] #[]) (Value.func (.yield (w.heap.size + 1)) #[] #[]) := .yld (p := p) (Tau.put_self _ _ _)
      have := ((hf.mono hle).app' (VRs.single hy)).app' (hc.mono hle)
      rw [show (first.toList ++ [Value.func (.yield s.h.length) #[] #[]] ++ cap.toList).toArray = first ++ #[Value.func (.yield s.h.length) #[] #[]] ++ cap by apply Array.ext'; simp]
      exact this
    rw [← hR] at hpc
    have hcalls := hpc _ W1 _ k1 ((hj.gr h2).gr g1) hargs
    refine ⟨w.heap.size + 1, [{ target := .collected w.heap.size, args := #[] }], W1, { target := .fn (.func gf) cap', args := first' ++ #[Value.func (.yield (w.heap.size + 1)) #[] #[]] }, W1, gf, first' ++ #[Value.func (.yield (w.heap.size + 1)) #[] #[]] ++ cap', W1, ?_, ?_, fun _ _ => trivial, ?_, (fun h => by cases h), CallsIn.mono (fo_calls (ro := none) hcalls) ?_⟩
    · rw [← hW1, hR]; exact run_enterLoop_outer _ _ _ _ _
    · simp only [resolve, Deferred.ofValue, e1, Sem.run_bind, Sem.run_pure, Result.andThen_ok]
      simp [Act.eval]
    · simp only [invoke, Sem.run_bind, hcall.run]
    · rintro e' w' ⟨h', τ', v, v', q1, q2, q3⟩
      have hp' := q1.le _ _ (Tau.put_self τ s.h.length p)
      have hmw := hm1.gr q1
      rcases q3 with ⟨rfl, r, r1, r2, r3⟩ | ⟨rfl, q3⟩
      · have hbusy : r.state ≠ .busy := r2
        obtain ⟨s1, s2⟩ := putlp q1.rh hp' r1 .dead { r with state := .exhausted } (.inl rfl) rfl
        have hend := run_endLoop (P := P) s2 hbusy
        have hb0 : p.base.block = w.heap.size + 1 := rfl
        rw [hb0] at s1 hend
        generalize w'.putObj (w.heap.size + 1) (.loop { r with state := .exhausted }) = W4 at s1 hend
        have gall := ((h2.trans g1).trans q1).trans s1
        have hE : ER τ' N s.e { a with defers := { target := .collected w.heap.size, args := #[] } :: a.defers } ({ target := .collected w.heap.size, args := #[] } :: a.defers) := ⟨h3.size, rfl, fun t v hv => (h3.vals t v hv).mono (Tau.le_trans hle q1.le)⟩
        refine ⟨r.pending, W4, hend, ?_⟩
        split at r3
        · rename_i hpn; rw [hpn]; exact hQ _ _ τ' _ _ _ r3 gall ⟨rfl, hE, hmw.gr s1⟩
        · rename_i hpn; rw [hpn]; exact wpIn_ret (hQ _ _ τ' _ _ _ r3 gall ⟨rfl, hE, hmw.gr s1⟩)
        · rename_i i hpn; rw [hpn]; exact wpIn_exit (hQ _ _ τ' _ _ _ r3 gall ⟨rfl, hE, hmw.gr s1⟩)
        · exact r3.elim
      · exact hQ _ _ τ' _ _ _ q3 ((h2.trans g1).trans q1) ⟨v', rfl, q2, hmw⟩
theorem SW.of (hm : P.follows .mixedOrders = true) : ∀ (c : Code) (Q : PX → St → Prop) (s : St), pwp P hs.length c Q s → SW P N hs c Q s
  | .skip, Q, s, h => fun hok ro hro τs ws τ ac w h1 hj h2 h3 h4 Q' hQ => wpIn_skip (hQ _ _ τ _ _ _ h h2 ⟨rfl, h3, h4⟩)
  | .label _, Q, s, h => fun hok ro hro τs ws τ ac w h1 hj h2 h3 h4 Q' hQ => wpIn_label (hQ _ _ τ _ _ _ h h2 ⟨rfl, h3, h4⟩)
  | .exit id, Q, s, h => fun hok ro hro τs ws τ ac w h1 hj h2 h3 h4 Q' hQ => wpIn_exit (hQ _ _ τ _ _ _ h h2 ⟨rfl, h3, h4⟩)
  | .ret, Q, s, h => fun hok ro hro τs ws τ ac w h1 hj h2 h3 h4 Q' hQ => wpIn_ret (hQ _ _ τ _ _ _ h h2 ⟨rfl, h3, h4⟩)
  | .region id ops dr, Q, s, h => by
    cases dr with
    | false => exact SW.region h
    | true => exact SW.draw hm h
  | .seq a b, Q, s, h => SW.seq ((SW.of hm a _ s h).mono fun x s' k => by
    cases x with
    | normal => exact SW.of hm b Q s' k
    | exit i => exact k
    | ret => exact k
    | pan v => exact k)
  | .cond c a b, Q, s, h => by
    unfold pwp at h
    split at h
    · rename_i t ht
      refine SW.cond ht ?_
      cases t
      · exact SW.of hm b Q s (h.2 rfl)
      · exact SW.of hm a Q s (h.1 rfl)
    · exact h.elim
  | .block id c, Q, s, h => SW.block ((SW.of hm c _ s h).mono fun x s' k => by cases x <;> exact k)
  | .loop c, Q, s, h => by
    obtain ⟨I, h0, h1⟩ := h
    exact SW.loop I h0 (fun n s0 hI => (SW.of hm c _ s0 (h1 n s0 hI)).mono fun x s' k => by cases x <;> exact k)
  | .scope c, Q, s, h => SW.scope (SW.of hm c Q s h)
  | .rangeFunc .., _, _, h => SW.range h
  | .goto _, _, _, h => h.elim
  | .refuse _, _, _, h => h.elim
end
end Go.Proofs.YtjopikjefpenkaaDoor
/- The plain machine's functions. -/
namespace Go.Proofs.YtjopikjefpenkaaDoor
open Go.RowKit
variable [Inv]
def pres1 (P : Program) (s : St) : ResultVar → Option Value
  | .tmp t => s.e.get t
  | .cell a t => match s.e.get a with
    | some (.pointer (some ⟨b, o, none⟩)) => qload P s.h t b o
    | _ => none
def presl (P : Program) (s : St) : List ResultVar → Option (List Value)
  | [] => some []
  | r :: rs => match pres1 P s r, presl P s rs with
    | some v, some vs => some (v :: vs)
    | _, _ => none
def presults (P : Program) (s : St) (rs : List ResultVar) : Option Value :=
  match presl P s rs with
  | some [v] => some v
  | some vs => some (.tuple vs.toArray)
  | none => none
/-- What a function's body leaves. -/
def Qret (P : Program) (rs : List ResultVar) (K Kp : Value → List PO → Prop) : PX → St → Prop
  | .normal, s | .ret, s => match presults P s rs with
    | some v => K v s.h
    | none => False
  | .pan v, s => Kp v s.h
  | .exit _, _ => False
def argsEnv : Nat → List Value → Env
  | _, [] => []
  | k, v :: vs => (k, v) :: argsEnv (k + 1) vs
theorem argsEnv_get : ∀ (vs : List Value) (k t : Nat), (argsEnv k vs).get t = if k ≤ t then vs[t - k]? else none
  | [], k, t => by simp [argsEnv, Env.get]
  | v :: vs, k, t => by
    simp only [argsEnv, Env.get]
    by_cases e : t = k
    · subst e; simp
    · rw [if_neg e, argsEnv_get vs (k + 1) t]
      by_cases h : k ≤ t
      · rw [if_pos h, if_pos (by omega), show t - k = (t - (k + 1)) + 1 by omega, List.getElem?_cons_succ]
      · rw [if_neg h, if_neg (by omega)]
section
variable {P : Program} {τ : Tau} {N : Nat}
def resSem (tmps : Array Value) : ResultVar → Sem Value
  | .tmp t => Pure.pure (tmps.getD t undef)
  | .cell ad t => do loadVar t (← asAddr (tmps.getD ad undef))
theorem results_eq (fn : Func) (tmps : Array Value) : results fn tmps = (do let vs ← fn.results.mapM (resSem tmps); Pure.pure (if h : vs.size = 1 then vs[0] else .tuple vs)) := by
  unfold results
  congr 1
theorem run_mapM_results {h : List PO} {w : World} {e : Env} {a : Act} {D : List Deferred} (hk : RH τ h w) (he : ER τ N e a D) : ∀ (rs : List ResultVar) (vs : List Value), presl P ⟨e, h⟩ rs = some vs →
    ∃ vs' : List Value, VRs τ vs.toArray vs'.toArray ∧ (rs.mapM (resSem a.tmps)).run P w = .ok vs' w
  | [], vs, hp => by cases hp; exact ⟨[], ⟨rfl, fun i v v' h => by simp at h⟩, by simp⟩
  | r :: rs, vs, hp => by
    unfold presl at hp
    split at hp
    · rename_i v vs1 h1 h2
      cases hp
      obtain ⟨vs', g1, g2⟩ := run_mapM_results hk he rs vs1 h2
      have one : ∃ v', VR τ v v' ∧ (resSem a.tmps r).run P w = .ok v' w := by
        cases r with
        | tmp t => exact ⟨_, he.vals t v h1, rfl⟩
        | cell ad t =>
          simp only [pres1] at h1
          split at h1
          · rename_i b o hb
            obtain ⟨p, hp, e1⟩ := (he.vals ad _ hb).ptr'
            obtain ⟨v', q1, q2⟩ := qload_sound (P := P) hk hp h1
            exact ⟨v', q1, by simp only [resSem, e1, asAddr, Sem.run_bind, Sem.run_pure, Result.andThen_ok, q2]⟩
          · cases h1
      obtain ⟨v', g3, g4⟩ := one
      refine ⟨v' :: vs', VRs.app (a := [v]) (a' := [v']) (VRs.single g3) g1, ?_⟩
      rw [List.mapM_cons, Sem.run_bind, g4]
      simp only [Result.andThen_ok, Sem.run_bind, g2, Sem.run_pure]
    · cases hp
theorem run_results {fn : Func} {h : List PO} {w : World} {e : Env} {a : Act} {D : List Deferred} (hk : RH τ h w) (he : ER τ N e a D) {v : Value} (hp : presults P ⟨e, h⟩ fn.results.toList = some v) : ∃ v', VR τ v v' ∧ (results fn a.tmps).run P w = .ok v' w := by
  unfold presults at hp
  have key : ∀ vs, presl P ⟨e, h⟩ fn.results.toList = some vs → ∃ vs' : List Value, VRs τ vs.toArray vs'.toArray ∧ (results fn a.tmps).run P w = .ok (if h : vs'.toArray.size = 1 then vs'.toArray[0] else .tuple vs'.toArray) w := fun vs hvs => by
    obtain ⟨vs', g1, g2⟩ := run_mapM_results (P := P) hk he _ _ hvs
    refine ⟨vs', g1, ?_⟩
    rw [results_eq, Array.mapM_eq_mapM_toList, Sem.run_bind, Sem.run_map]
    have g3 := congrArg (fun r => (r.andThen fun a w' => Result.ok (α := Array Value) a.toArray w').andThen fun vs w' => (Pure.pure (if h : vs.size = 1 then vs[0] else .tuple vs) : Sem Value).run P w') g2
    exact g3
  split at hp
  · rename_i v1 hv
    cases hp
    obtain ⟨vs', g1, g2⟩ := key _ hv
    obtain ⟨x', e1, hx⟩ := g1.one
    obtain rfl : vs' = [x'] := by simpa using congrArg Array.toList e1
    exact ⟨x', hx, g2⟩
  · rename_i vs hne hv
    cases hp
    obtain ⟨vs', g1, g2⟩ := key _ hv
    have : ¬ (vs'.toArray.size = 1) := fun h => by
      rw [← g1.1] at h
      match vs, h, hne with
      | [x], _, hne => exact hne x rfl
    rw [dif_neg this] at g2
    exact ⟨_, g1.tuple, g2⟩
  · cases hp
/-- A mark's block is shut. -/
theorem Gr.shut {τ0 : Tau} {h0 h : List PO} {w0 w : World} {r : Nat} {d : Option (List Deferred)} (g : Gr τ0 h0 w0 τ h w) (hr : w0.heap.size ≤ r) (hd : w.heap[r]? = some (.deferred d)) (hn : ¬ wset τ h r) : Gr τ0 h0 w0 τ h (w.putObj r (.deferred none)) := by
  have hsame : ∀ k, k ≠ r → (w.putObj r (.deferred none)).heap[k]? = w.heap[k]? := fun k hk => World.putObj_heap_other hk
  refine ⟨g.le, ⟨fun b p hb => ?_, g.rh.inj⟩, ⟨g.fr.os, g.fr.tape, g.fr.output, by simpa using g.fr.size, fun k hk hs => (hsame k (by omega)).trans (g.fr.block k hk hs)⟩, g.ws, g.dom, g.len⟩
  obtain ⟨o, k1, k2, k3⟩ := g.rh.ob b p hb
  refine ⟨o, k1, ?_, fun hl => by simpa using k3 hl⟩
  by_cases hbr : p.base.block = r
  · cases o with
    | dead => trivial
    | ro cs =>
      intro i v hi
      obtain ⟨v', q1, q2⟩ := k2 i v hi
      exfalso
      have hblk : (p.base.add i).block = p.base.block := by unfold Addr.add; split <;> rfl
      unfold World.cell? at q1
      rw [hblk, hbr, hd] at q1
      cases q1
    | _ => exact (hn ⟨b, p, _, hb, k1, rfl, hbr⟩).elim
  · exact k2.same (hsame _ hbr)
theorem leaves_marks {F : Fence} {n : Nat} {fn : Func} {tmps : Array Value} {R : Ending → World → Prop} {u : FrameMode} (hu : u ≠ .run) {τ0 : Tau} {h0 h : List PO} {w0 : World} : ∀ (rs : List Nat) (w : World), rs.Nodup → (∀ r ∈ rs, w0.heap.size ≤ r ∧ w.heap[r]? = some (.deferred (some [])) ∧ ¬ wset τ h r) → Gr τ0 h0 w0 τ h w →
    (∀ w', Gr τ0 h0 w0 τ h w' → LeavesIn F n P fn tmps R [] u w') → LeavesInM F n P fn tmps R (rs.map fun r => { target := .collected r, args := #[] }) u w
  | [], w, _, _, g, hw => hw w g
  | r :: rs, w, hn, hm, g, hw => by
    obtain ⟨h1, h2, h3⟩ := hm r (by simp)
    obtain ⟨n1, n2⟩ := List.nodup_cons.1 hn
    refine ⟨hu, .inl ⟨r, _, rfl, run_takeDeferred h2, leaves_marks hu rs _ n2 (fun r' hr' => ?_) (g.shut h1 h2 h3) hw⟩⟩
    obtain ⟨k1, k2, k3⟩ := hm r' (List.mem_cons_of_mem _ hr')
    have hne : r' ≠ r := fun e => n1 (by rw [← e]; exact hr')
    exact ⟨k1, (World.putObj_heap_other hne).trans k2, k3⟩
/-- A call of a function with a body. -/
theorem pc_of {f : FuncId} {fn : Func} {body : Code} (hf : P.funcs[f]? = some fn) (hb : fn.body = some body) (hn : fn.name ≠ "runtime.NumGoroutine") (hok : codeOk fn.ntmps body = true) {args : List Value} (hl : args.length ≤ fn.ntmps) {h : List PO} {K Kp : Value → List PO → Prop}
    (hw : SW P fn.ntmps h body (Qret P fn.results.toList K Kp) ⟨argsEnv 0 args, h⟩) : PC P f args h K Kp := by
  refine ⟨⟨fn, hf, hn, by rw [hb]; rfl⟩, fun τ w args' hk hj ha => ?_⟩
  have hsz : args'.size = args.length := by simpa using ha.1.symm
  refine (callsIn_wide (n := 0)).1 (callsIn_of_wp_marks hf hb trivial ?_)
  refine hw hok none (fun h => by cases h) τ w τ _ w hk hj (Gr.refl hk) ⟨by simp; omega, rfl, fun t v hv => ?_⟩ Mks.nil _ (fun x s' τ' ex a' w' k g r => ?_)
  · rw [argsEnv_get] at hv
    simp only [Nat.zero_le, if_true, Nat.sub_zero] at hv
    have hlt := (List.getElem?_eq_some_iff.1 hv).1
    have hlt' : t < args'.size := by omega
    have := ha.2 t v args'[t] (by simpa using hv) (Array.getElem?_eq_getElem hlt')
    rw [Array.getD_eq_getD_getElem?, Array.getElem?_append_left hlt', Array.getElem?_eq_getElem hlt']
    exact this
  · have ret : ∀ v, presults P s' fn.results.toList = some v → K v s'.h → ER τ' fn.ntmps s'.e a' a'.defers → Mks w.heap.size τ' s'.h w' a'.defers → LeavesInM Fence.wide 0 P fn a'.tmps (fun e w' => ∃ h' τ'' v1 v1', Gr τ h w τ'' h' w' ∧ VR τ'' v1 v1' ∧ ((e = .returned v1' ∧ K v1 h') ∨ (e = .panicked [panEntry v1'] ∧ Kp v1 h'))) a'.defers .returning w' := fun v hv hK he hm => by
      obtain ⟨rs, m1, m2, m3⟩ := hm
      rw [m2]
      refine leaves_marks (by simp) rs w' m1 m3 g fun w2 g2 => ?_
      obtain ⟨v', q1, q2⟩ := run_results (fn := fn) g2.rh he hv
      exact ⟨v', q2, s'.h, τ', v, v', g2, q1, .inl ⟨rfl, hK⟩⟩
    cases x with
    | normal =>
      obtain ⟨rfl, he, hm⟩ := r
      simp only [Qret] at k
      split at k
      · rename_i v hv; exact ret v hv k he hm
      · exact k.elim
    | ret =>
      obtain ⟨rfl, he, hm⟩ := r
      simp only [Qret] at k
      split at k
      · rename_i v hv; exact ret v hv k he hm
      · exact k.elim
    | exit i => exact k.elim
    | pan v =>
      obtain ⟨v', rfl, hv, hm⟩ := r
      obtain ⟨rs, m1, m2, m3⟩ := hm
      show LeavesInM _ _ _ _ _ _ _ _ _
      rw [m2]
      exact leaves_marks (by simp) rs w' m1 m3 g fun w2 g2 => ⟨s'.h, τ', v, v', g2, hv, .inr ⟨rfl, k⟩⟩
end
end Go.Proofs.YtjopikjefpenkaaDoor
/- The plain machine: calls from bare values to bare values. -/
namespace Go.Proofs.YtjopikjefpenkaaDoor
open Go.RowKit
variable [Inv]
/-- A call of bare values that comes to a bare value and leaves nothing. -/
def Fn (P : Program) (f : FuncId) (args : List Value) (v : Value) : Prop := ∀ h, PCq P f args h fun v' ns => v' = v ∧ ns = []
section
variable {P : Program} {f : FuncId} {args : List Value} {v : Value}
theorem PCq.mono' {h : List PO} {K K' : Value → List PO → Prop} (q : PCq P f args h K) (hK : ∀ v ns, K v ns → K' v ns) : PCq P f args h K' :=
  ⟨q.1, fun τ w args' hk hj ha => (q.2 τ w args' hk hj ha).mono fun e w' ⟨ns, τ', v, v', g, hv, he, k⟩ => ⟨ns, τ', v, v', g, hv, he, hK _ _ k⟩⟩
theorem Fn.pc (q : Fn P f args v) {h : List PO} {K Kp : Value → List PO → Prop} (hK : K v h) : PC P f args h K Kp :=
  ((q h).mono' fun v' ns ⟨h1, h2⟩ => by subst h1; subst h2; rw [List.append_nil]; exact hK).pc
theorem Fn.q (q : Fn P f args v) {h : List PO} {K : Value → List PO → Prop} (hK : K v []) : ∃ v ns, PCq P f args h (fun v' ns' => v' = v ∧ ns' = ns) ∧ K v ns := ⟨v, [], q h, hK⟩
theorem Fn.of (q : PC P f args [] (fun v' _ => v' = v) fun _ _ => False) (ha : flats args = true) (hv : flat 6 v = true) : Fn P f args v := fun h => by
  refine ⟨q.1, fun τ w args' hk hj h1 => ?_⟩
  let τ0 : Tau := fun _ => none
  have hk0 : RH τ0 [] w := ⟨fun b p hb => (nomatch hb), fun b c p q o o' _ hb => (nomatch hb)⟩
  refine (q.2 τ0 w args' hk0 hj.none (flats_eq ha h1 τ0)).mono fun e w' ⟨h', τ', v1, v1', g, hv1, hd⟩ => ?_
  rcases hd with ⟨rfl, rfl⟩ | ⟨_, hf⟩
  case inr => exact hf.elim
  have hfr : Fr (fun _ => False) w w' := g.fr.mono fun k _ ⟨b, p, o, h1, _⟩ => by cases h1
  rw [VR.flat_eq hv1 6 hv]
  exact ⟨[], τ, v1, v1, ⟨Tau.le_refl _, fun b p hb => .inl hb, by rw [List.append_nil]; exact hk.fr hfr, hfr⟩, VR.of_flat hv, rfl, rfl, rfl⟩
/-- What the world's own law says of such a call. -/
theorem Fn.calls (q : Fn P f args v) (ha : flats args = true) (hv : flat 6 v = true) (w : World) (hI : Inv.I w) (hB : ∀ k, Inv.B k → k < w.heap.size) : Calls P f args.toArray w fun e w' => e = .returned v ∧ Below w.heap.size w w' := by
  let τ0 : Tau := fun _ => none
  have hk0 : RH τ0 [] w := ⟨fun b p hb => (nomatch hb), fun b c p q o o' _ hb => (nomatch hb)⟩
  refine ((q []).2 τ0 w args.toArray hk0 ⟨hI, fun k hk => ⟨hB k hk, fun ⟨b, p, o, h1, _⟩ => by cases h1⟩⟩ ?_).mono fun e w' ⟨ns, τ', v1, v1', g, hv1, he, h1, h2⟩ => ?_
  · refine ⟨rfl, fun i v v' h1 h2 => ?_⟩
    rw [h1] at h2; cases h2
    exact VR.of_flat (List.all_eq_true.1 ha v (mem_of_getElem?' h1))
  · subst h1
    rw [VR.flat_eq hv1 6 hv] at he
    exact ⟨he, g.fr.below⟩
/-- And back. -/
theorem Fn.of_calls (hc : Callable P f) (ha : flats args = true) (hv : flat 6 v = true) (q : ∀ w, Inv.I w → Calls P f args.toArray w fun e w' => e = .returned v ∧ Below w.heap.size w w') : Fn P f args v := fun h => by
  refine ⟨hc, fun τ w args' hk hj h1 => ?_⟩
  have : args' = args.toArray := by
    have := VRs.list_eq (l := args) (l' := args'.toList) (by simpa using h1) (fun v hv => ⟨4, List.all_eq_true.1 ha v hv⟩)
    rw [← this]
  subst this
  exact (q w hj.1).mono fun e w' ⟨h2, h3⟩ => ⟨[], τ, v, v, ⟨Tau.le_refl _, fun b p hb => .inl hb, by rw [List.append_nil]; exact hk.fr (Fr.of_below h3 _), Fr.of_below h3 _⟩, VR.of_flat hv, h2, rfl, rfl⟩
end
@[congr] theorem PC_congr {P : Program} {f : FuncId} {a a' : List Value} {h h' : List PO} {K Kp : Value → List PO → Prop} (h1 : a = a') (h2 : h = h') : PC P f a h K Kp = PC P f a' h' K Kp := by rw [h1, h2]
@[congr] theorem PCq_congr {P : Program} {f : FuncId} {a a' : List Value} {h h' : List PO} {K : Value → List PO → Prop} (h1 : a = a') (h2 : h = h') : PCq P f a h K = PCq P f a' h' K := by rw [h1, h2]
end Go.Proofs.YtjopikjefpenkaaDoor
/- Calls whose contracts were walked in the model, for the plain machine. -/
namespace Go.Proofs.YtjopikjefpenkaaDoor
open Go.RowKit
variable [Inv]
theorem draw_at {P : Program} {ops : Array Oper} {e : Env} {h : List PO} {K : Env → List PO → Prop} (L : List (Nat × Nat)) (hL : drawPairs ops = L) (k : pd P ops (fun e' h' ws => (∀ p ∈ L, apartAt P e' ops p) ∧ match happly h' ws with
    | some h2 => K e' h2
    | none => False) ops.toList e h []) : pdraw P ops e h K := ⟨L, hL, k⟩
@[congr] theorem pdraw_congr {P : Program} {ops : Array Oper} {e e' : Env} {h h' : List PO} {K : Env → List PO → Prop} (h1 : e = e') (h2 : h = h') : pdraw P ops e h K = pdraw P ops e' h' K := by rw [h1, h2]
theorem callable {P : Program} {f : FuncId} {fn : Func} {body : Code} (hf : P.funcs[f]? = some fn) (hb : fn.body = some body) (hn : fn.name ≠ "runtime.NumGoroutine") : Callable P f := ⟨fn, hf, hn, by rw [hb]; rfl⟩
theorem Fn.only {P : Program} {f : FuncId} {args : List Value} {v : Value} (hc : Callable P f) (ha : flats args = true) (hv : flat 6 v = true) (q : ∀ w, Calls P f args.toArray w fun e w' => e = .returned v ∧ Only [] w w') : Fn P f args v :=
  Fn.of_calls hc ha hv fun w _ => (q w).mono fun _ _ ⟨h1, h2⟩ => ⟨h1, h2.below (Nat.le_refl _) (by simp)⟩
theorem Fn.same {P : Program} {f : FuncId} {args : List Value} {v : Value} (hc : Callable P f) (ha : flats args = true) (hv : flat 6 v = true) (q : ∀ w, Calls P f args.toArray w fun e w' => e = .returned v ∧ w = w') : Fn P f args v :=
  Fn.of_calls hc ha hv fun w _ => (q w).mono fun _ _ ⟨h1, h2⟩ => ⟨h1, by subst h2; exact Below.refl _ _⟩
end Go.Proofs.YtjopikjefpenkaaDoor

/- strings.Join, as a call of the plain machine. -/
import Derived.Test.YtjopikjefpenkaaDoorShelf
import Derived.Test.YtjopikjefpenkaaDoorG2
import Derived.Test.YtjopikjefpenkaaDoorGv
import Derived.Test.YtjopikjefpenkaaDoorG3
import Derived.Lib.AppendIntMem
import Derived.Test.YtjopikjefpenkaaDoorTg
set_option linter.unusedSimpArgs false
set_option linter.unusedVariables false
set_option linter.unusedSectionVars false
namespace Go.Proofs.YtjopikjefpenkaaDoor
open Go.RowKit
/-- The strings that cells hold. -/
def strsOf : List Value → Option (List ByteArray)
  | [] => some []
  | .string s :: l => (strsOf l).map (s :: ·)
  | _ :: _ => none
theorem strsOf_get : ∀ {l : List Value} {xs : List ByteArray}, strsOf l = some xs → xs.length = l.length ∧ ∀ (j : Nat) x, xs[j]? = some x → l[j]? = some (.string x)
  | [], xs, h => by cases h; exact ⟨rfl, fun j x hx => by simp at hx⟩
  | v :: l, xs, h => by
    cases v
    case string s =>
      obtain ⟨ys, h1, rfl⟩ := Option.map_eq_some_iff.1 h
      obtain ⟨h2, h3⟩ := strsOf_get h1
      refine ⟨by simp [h2], fun j x hx => ?_⟩
      cases j with
      | zero => simp at hx; subst hx; rfl
      | succ j => exact h3 j x (by simpa using hx)
    all_goals cases h
theorem addr_add_none (b o i : Nat) : (⟨b, o, none⟩ : Addr).add i = ⟨b, o + i, none⟩ := by
  unfold Addr.add
  split
  · rename_i h; have : i = 0 := by simpa using h
    subst this; rfl
  · rfl
def joinS (xs : List ByteArray) (sep : ByteArray) : ByteArray := ⟨(Lib.join (xs.map (·.data.toList)) sep.data.toList).toArray⟩
theorem join_q {h : List PO} {b o n c : Nat} {sp : Option Nat} {cs : List Value} {xs : List ByteArray} {sep : ByteArray} (hb : h[b]? = some (.gr cs) ∨ h[b]? = some (.rw cs)) (hl : o + n ≤ cs.length) (hx : strsOf ((cs.drop o).take n) = some xs) (hnc : n ≤ c) (hlim : (Lib.join (xs.map (·.data.toList)) sep.data.toList).length ≤ 140737488355328) (hn : n ≤ 140737488355328) :
    PCq Tryd.prog 38 [.slice (some ⟨b, o, sp⟩) n c, .string sep] h fun v ns => v = .string (joinS xs sep) ∧ ns = [] := by
  refine ⟨callable Tryd.func38 rfl (by decide), fun τ w args' hk hj ha => ?_⟩
  obtain ⟨s', x', rfl, hs, hsep⟩ := ha.two
  obtain rfl := hsep.str'
  obtain ⟨hlen, hget⟩ := strsOf_get hx
  have hxl : xs.length = n := by rw [hlen]; simp; omega
  have done : ∀ {A : Option Addr} {c' : Nat}, Calls Tryd.prog 38 #[.slice A xs.length c', .string sep] w (fun e w' => e = .returned (.string (joinS xs sep)) ∧ Below w.heap.size w w') → Calls Tryd.prog 38 #[.slice A n c', .string sep] w fun e w' => ∃ ns τ' v v', Qr τ h w τ' ns w' ∧ VR τ' v v' ∧ e = .returned v' ∧ v = .string (joinS xs sep) ∧ ns = [] := fun {A c'} q => by
    rw [hxl] at q
    refine q.mono fun e w' ⟨h1, h2⟩ => ?_
    exact ⟨[], τ, _, _, ⟨Tau.le_refl _, fun b p hb => .inl hb, by rw [List.append_nil]; exact hk.fr (Fr.of_below h2 _), Fr.of_below h2 _⟩, .str _, h1, rfl, rfl⟩
  have empty : n = 0 → joinS xs sep = ⟨#[]⟩ := fun h0 => by
    have : xs = [] := List.eq_nil_of_length_eq_zero (by omega)
    subst this; rfl
  by_cases h0 : n = 0
  · obtain ⟨A, c', e1⟩ := hs.sliceSome
    subst e1
    refine done ?_
    rw [hxl, h0, empty h0]
    refine (Tryd.strings_Join_none (some A) c' sep w).mono fun e w' ⟨h1, h2⟩ => ⟨h1, by rw [h2]; exact Below.refl _ _⟩
  · have key : ∀ {p : Pl} {c' : Nat}, τ b = some p → n ≤ c' → Calls Tryd.prog 38 #[.slice (some (p.base.add o)) xs.length c', .string sep] w (fun e w' => e = .returned (.string (joinS xs sep)) ∧ Below w.heap.size w w') := fun {p c'} hp hc' => by
      obtain ⟨ob, g1, g2, g3⟩ := hk.ob b p hp
      obtain ⟨hlive, es0, hcell⟩ : ob.live = true ∧ p.base.spot = none ∧ ob.cells = some cs := by
        rcases hb with hb | hb
        · rw [hb] at g1; cases g1; exact ⟨rfl, g2.1, rfl⟩
        · rw [hb] at g1; cases g1; exact ⟨rfl, g2.2.1, rfl⟩
      have hlt := g3 hlive
      have hsp : p.base.add o = ⟨p.base.block, p.base.off + o, none⟩ := by
        have es := es0
        obtain ⟨⟨x, y, z⟩, l⟩ := p
        simp only at es; subst es
        exact addr_add_none _ _ _
      rw [hsp]
      refine Tryd.strings_Join p.base.block (p.base.off + o) c' xs sep w (fun j x hj => ?_) hlt (by omega) (by omega) hlim
      have h1 := hget j x hj
      have hj2 : j < n := by have := (List.getElem?_eq_some_iff.1 hj).1; omega
      rw [List.getElem?_take, if_pos hj2, List.getElem?_drop] at h1
      obtain ⟨v', e1, e2⟩ := OR.cell g2 hcell h1
      cases e2
      have : p.base.add (o + j) = ⟨p.base.block, p.base.off + o + j, none⟩ := by
        have es := es0
        obtain ⟨⟨x, y, z⟩, l⟩ := p
        simp only at es; subst es
        rw [addr_add_none, Nat.add_assoc]
      rw [this] at e1
      exact e1
    cases hs with
    | sex _ _ _ hp => exact done (key hp hnc)
    | sun _ _ _ _ _ hp _ hc' _ _ => exact done (key hp hc')
    | sue => exact (h0 rfl).elim
    | su0 _ _ _ _ _ hc' => exact (h0 rfl).elim
    | se0 => exact (h0 rfl).elim
/-- The outside table: strings.Join. -/
def xJoin : Cl := fun f args h => if f = 38 then match args with
    | [.slice (some ⟨b, o, _⟩) n c, .string sep] => match h[b]? with
      | some (.gr cs) => match strsOf ((cs.drop o).take n) with
        | some xs => if o + n ≤ cs.length ∧ n ≤ c ∧ (Lib.join (xs.map (·.data.toList)) sep.data.toList).length ≤ 140737488355328 ∧ n ≤ 140737488355328 then some (.val (.string (joinS xs sep)) h) else none
        | none => none
      | _ => none
    | _ => none
  else none
theorem xJoin_ok : ClOk Tryd.prog xJoin := fun f args h r k => by
  unfold xJoin at k
  split at k
  · rename_i hf; subst hf
    split at k
    · split at k
      · rename_i hb
        split at k
        · rename_i hx
          split at k
          · rename_i hc
            cases k
            exact ((join_q (.inl hb) hc.1 hx hc.2.1 hc.2.2.1 hc.2.2.2).mono' (K' := fun v ns => Re.val (.string _) h = Re.val v (h ++ ns)) fun v ns ⟨h1, h2⟩ => by subst h1; subst h2; simp).pc
          · cases k
        · cases k
      · cases k
    · cases k
  · cases k
end Go.Proofs.YtjopikjefpenkaaDoor
/- strings.Cut and a small strconv.Itoa, as calls of the plain machine. -/
namespace Go.Proofs.YtjopikjefpenkaaDoor
open Go.RowKit
def cutV (s sep : ByteArray) : Value := .tuple #[.string ⟨(Lib.cut s.data.toList sep.data.toList).1.toArray⟩, .string ⟨(Lib.cut s.data.toList sep.data.toList).2.1.toArray⟩, .bool (Lib.cut s.data.toList sep.data.toList).2.2]
theorem below_drewN (w : World) (n : Nat) : Below w.heap.size w (w.drewN n) := ⟨rfl, rfl, rfl, Nat.le_refl _, fun _ _ => rfl⟩
theorem fnCut (s sep : ByteArray) (hs : s.size < 4294967281) : Fn Tryd.prog 39 [.string s, .string sep] (cutV s sep) :=
  Fn.of_calls (callable Tryd.func39 rfl (by decide)) rfl rfl fun w ⟨⟨m, hm⟩, _⟩ => (Tryd.strings_Cut s sep m w hs hm).mono fun e w' ⟨h1, n, h2⟩ => ⟨h1, by rw [h2]; exact below_drewN w n⟩
theorem fnItoaS (i : Nat) (hi : i < 100) : Fn Tryd.prog 68 [.int .i64 i] (.string ⟨(Lib.decDigits i).toArray⟩) :=
  Fn.of_calls (callable Tryd.func68 rfl (by decide)) rfl rfl fun w _ => (Tryd.strconv_Itoa_small i hi w).mono fun e w' ⟨h1, h2⟩ => ⟨h1, by rw [h2]; exact Below.refl _ _⟩
theorem fnItoa (n : Int) (h0 : -9223372036854775808 ≤ n) (h1 : n ≤ 9223372036854775807) : Fn Tryd.prog 68 [.int .i64 n] (.string ⟨(Lib.itoa n).toArray⟩) :=
  Fn.of_calls (callable Tryd.func68 rfl (by decide)) rfl rfl fun w hI => (Tryd.strconv_Itoa n h0 h1 w hI.2.1).mono fun e w' ⟨h1, k, os, h2⟩ => ⟨h1, by rw [h2]; exact Lib.below_grow _ _ (Nat.le_refl _) _ _⟩
/-- The outside table: strings.Cut, strconv.Itoa, and strings.Join. -/
def xText : Cl := fun f args h => if f = 39 then match args with
    | [.string s, .string sep] => if s.size < 4294967281 then some (.val (cutV s sep) h) else none
    | _ => none
  else if f = 68 then match args with
    | [.int .i64 (.ofNat i)] => if i < 100 then some (.val (.string ⟨(Lib.decDigits i).toArray⟩) h) else none
    | _ => none
  else xJoin f args h
theorem xText_ok : ClOk Tryd.prog xText := fun f args h r k => by
  unfold xText at k
  split at k
  · rename_i hf; subst hf
    split at k
    · split at k
      · rename_i hs
        cases k
        exact (fnCut _ _ hs).pc rfl
      · cases k
    · cases k
  · split at k
    · rename_i hf; subst hf
      split at k
      · split at k
        · rename_i hs
          cases k
          exact (fnItoaS _ hs).pc rfl
        · cases k
      · cases k
    · exact xJoin_ok f args h r k
end Go.Proofs.YtjopikjefpenkaaDoor
/- What must be whatever is asked: it is. -/
namespace Go.Proofs.YtjopikjefpenkaaDoor
open Go.RowKit
set_option maxRecDepth 1000000
def isTrue (o : Option Re) : Bool := match o with
  | some (.val (.bool true) _) => true
  | _ => false
def textL : List FuncId := [12, 15, 40, 73, 35, 66, 67, 36, 41, 42, 53, 78, 96, 80, 99, 43, 29, 34, 61, 14, 37]
theorem textL_ok : textL.all (okFn Tryd.prog) = true := by kernel_rfl
theorem live3_run : isTrue (ef Tryd.prog textL xText 30 30 12 [] []) = true := by kernel_rfl
theorem fnLive3 : Fn Tryd.prog 12 [] (.bool true) := by
  refine Fn.of ?_ rfl rfl
  have h := live3_run
  unfold isTrue at h
  split at h
  · rename_i hs e
    exact (ef_sound mixed textL_ok xText_ok _ _ _ _ _ e).mono (fun v h' hv => by cases hv; rfl) (fun v h' hv => by cases hv)
  · cases h
end Go.Proofs.YtjopikjefpenkaaDoor

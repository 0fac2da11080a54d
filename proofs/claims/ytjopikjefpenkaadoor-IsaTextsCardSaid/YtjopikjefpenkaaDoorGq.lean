/- The plain machine, laid out for simp: what stands behind a call or a drawn region is not looked at before its turn. -/
import Derived.Test.YtjopikjefpenkaaDoorG2
set_option linter.unusedSimpArgs false
set_option linter.unusedVariables false
set_option linter.unusedSectionVars false
namespace Go.Proofs.YtjopikjefpenkaaDoor
open Go.RowKit
variable [Inv]
class Kont where
  k : Value → List PO → Prop
  kp : Value → List PO → Prop
class KontE where
  k : Env → List PO → Prop
/-- A call that waits. -/
def PCk (P : Program) (f : FuncId) (args : List Value) (h : List PO) [c : Kont] : Prop := PC P f args h c.k c.kp
/-- A round that waits. -/
def PYk (P : Program) (b : Nat) (args : List Value) (h : List PO) [c : Kont] : Prop := PY P b args h c.k
def PCqk (P : Program) (f : FuncId) (args : List Value) (h : List PO) [c : Kont] : Prop := ∃ v ns, PCq P f args h (fun v' ns' => v' = v ∧ ns' = ns) ∧ c.k v ns
def pdk (P : Program) (ops : Array Oper) (e : Env) (h : List PO) [c : KontE] : Prop := pdraw P ops e h c.k
class KV where
  k : Value → Prop
class KVH where
  k : Value → List PO → Prop
class KAB where
  a : Unit → Prop
  b : Unit → Prop
class KD where
  k : DR → Prop
def oG (o : Option Value) (want : Bool) [c : KAB] : Prop := match o with
  | some (.bool b) => if b = want then c.a () else c.b ()
  | some (.tuple _) => c.b ()
  | _ => False
theorem oG_bool (b want : Bool) (A B : Unit → Prop) : @oG (some (.bool b)) want ⟨A, B⟩ = if b = want then A () else B () := rfl
theorem oG_tuple (cs : Array Value) (want : Bool) (A B : Unit → Prop) : @oG (some (.tuple cs)) want ⟨A, B⟩ = B () := rfl
theorem oG_undef (want : Bool) (A B : Unit → Prop) : @oG (some undef) want ⟨A, B⟩ = B () := rfl
def oB (o : Option Value) [c : KAB] : Prop := match o with
  | some (.bool b) => if b = true then c.a () else c.b ()
  | _ => False
theorem oB_bool (b : Bool) (A B : Unit → Prop) : @oB (some (.bool b)) ⟨A, B⟩ = if b = true then A () else B () := rfl
def oM (o : Option Value) [c : KV] : Prop := match o with | some v => c.k v | none => False
theorem oM_some (v : Value) (k : Value → Prop) : @oM (some v) ⟨k⟩ = k v := rfl
def oP (o : Option (Prop × Value)) [c : KV] : Prop := match o with | some (p, v) => p ∧ c.k v | none => False
theorem oP_some (p : Prop) (v : Value) (k : Value → Prop) : @oP (some (p, v)) ⟨k⟩ = (p ∧ k v) := rfl
theorem oP_true (v : Value) (k : Value → Prop) : @oP (some (True, v)) ⟨k⟩ = k v := by simp [oP]
def oS (o : Option (Prop × List PO)) [c : KVH] : Prop := match o with | some (p, h) => p ∧ c.k undef h | none => False
theorem oS_some (p : Prop) (h : List PO) (k : Value → List PO → Prop) : @oS (some (p, h)) ⟨k⟩ = (p ∧ k undef h) := rfl
def qld (P : Program) (h : List PO) (t : TypeId) : Option Value → Option Value
  | some (.pointer (some ⟨b, o, none⟩)) => qload P h t b o
  | _ => none
theorem qld_p (P : Program) (h : List PO) (t : TypeId) (b o : Nat) : qld P h t (some (.pointer (some ⟨b, o, none⟩))) = qload P h t b o := rfl
def qst (P : Program) (h : List PO) (t : TypeId) : Option Value → Option Value → Option (Prop × List PO)
  | some (.pointer (some ⟨b, o, none⟩)), some v => match szOf P t with
    | some n => (hput h b o v.cells.toList).map fun h' => (v.cells.size = n ∧ (∀ u ∈ v.cells.toList, u.oneCell' = true), h')
    | none => none
  | _, _ => none
theorem qst_p (P : Program) (h : List PO) (t : TypeId) (b o : Nat) (v : Value) : qst P h t (some (.pointer (some ⟨b, o, none⟩))) (some v) = match szOf P t with
    | some n => (hput h b o v.cells.toList).map fun h' => (v.cells.size = n ∧ (∀ u ∈ v.cells.toList, u.oneCell' = true), h')
    | none => none := rfl
def qbi (P : Program) (op : BinOp) (t : TypeId) (n : Bool) : Option Value → Option Value → Option (Prop × Value)
  | some u, some v => qbin P op t n u v
  | _, _ => none
theorem qbi_some (P : Program) (op : BinOp) (t : TypeId) (n : Bool) (u v : Value) : qbi P op t n (some u) (some v) = qbin P op t n u v := rfl
def PCc (P : Program) (o : Option Value) (as : Option (List Value)) (h : List PO) [c : Kont] : Prop := match o, as with
  | some (.func (.func f) first cap), some as => PCk P f (first.toList ++ as ++ cap.toList) h
  | some (.func (.yield b) _ _), some as => PYk P b as h
  | _, _ => False
theorem PCc_yld (P : Program) (b : Nat) (first cap : Array Value) (as : List Value) (h : List PO) (K Kp : Value → List PO → Prop) : @PCc _ P (some (.func (.yield b) first cap)) (some as) h ⟨K, Kp⟩ = @PYk _ P b as h ⟨K, Kp⟩ := rfl
theorem PCc_some (P : Program) (f : FuncId) (first cap : Array Value) (as : List Value) (h : List PO) (K Kp : Value → List PO → Prop) : @PCc _ P (some (.func (.func f) first cap)) (some as) h ⟨K, Kp⟩ = @PCk _ P f (first.toList ++ as ++ cap.toList) h ⟨K, Kp⟩ := rfl
def PCqc (P : Program) (o : Option Value) (as : Option (List Value)) (h : List PO) [c : Kont] : Prop := match o, as with
  | some (.func (.func f) first cap), some as => PCqk P f (first.toList ++ as ++ cap.toList) h
  | _, _ => False
theorem PCqc_some (P : Program) (f : FuncId) (first cap : Array Value) (as : List Value) (h : List PO) (K Kp : Value → List PO → Prop) : @PCqc _ P (some (.func (.func f) first cap)) (some as) h ⟨K, Kp⟩ = @PCqk _ P f (first.toList ++ as ++ cap.toList) h ⟨K, Kp⟩ := rfl
def oQ (a : Option (Prop × Value)) (b : Unit → Option (Prop × Value × List PO)) (h : List PO) [c : KVH] : Prop := match a with
  | some (p, v) => p ∧ c.k v h
  | none => match b () with
    | some (p, v, ns) => p ∧ c.k v (h ++ ns)
    | none => False
def oR (b : Option (Prop × Value × List PO)) (h : List PO) [c : KVH] : Prop := match b with
    | some (p, v, ns) => p ∧ c.k v (h ++ ns)
    | none => False
theorem oQ_some (p : Prop) (v : Value) (b : Unit → Option (Prop × Value × List PO)) (K : Value → List PO → Prop) (h : List PO) : @oQ (some (p, v)) b h ⟨K⟩ = (p ∧ K v h) := rfl
theorem oQ_true (v : Value) (b : Unit → Option (Prop × Value × List PO)) (K : Value → List PO → Prop) (h : List PO) : @oQ (some (True, v)) b h ⟨K⟩ = K v h := by simp [oQ]
theorem oQ_none (b : Unit → Option (Prop × Value × List PO)) (K : Value → List PO → Prop) (h : List PO) : @oQ none b h ⟨K⟩ = @oR (b ()) h ⟨K⟩ := rfl
theorem oR_some (p : Prop) (v : Value) (ns : List PO) (K : Value → List PO → Prop) (h : List PO) : @oR (some (p, v, ns)) h ⟨K⟩ = (p ∧ K v (h ++ ns)) := rfl
def oD (a : Option (Prop × Value)) (b : Unit → Option (Prop × Value × List PO)) [c : KD] : Prop := match a with
  | some (p, v) => p ∧ c.k (.val v [])
  | none => match b () with
    | some (p, v, ns) => p ∧ c.k (.val v ns)
    | none => False
theorem oD_some (p : Prop) (v : Value) (b : Unit → Option (Prop × Value × List PO)) (K : DR → Prop) : @oD (some (p, v)) b ⟨K⟩ = (p ∧ K (.val v [])) := rfl
def oE (b : Option (Prop × Value × List PO)) [c : KD] : Prop := match b with
    | some (p, v, ns) => p ∧ c.k (.val v ns)
    | none => False
theorem oD_none (b : Unit → Option (Prop × Value × List PO)) (K : DR → Prop) : @oD none b ⟨K⟩ = @oE (b ()) ⟨K⟩ := rfl
theorem oE_some (p : Prop) (v : Value) (ns : List PO) (K : DR → Prop) : @oE (some (p, v, ns)) ⟨K⟩ = (p ∧ K (.val v ns)) := rfl
def qdst (P : Program) (t : TypeId) : Option Value → Option Value → Option (Prop × DR)
  | some (.pointer (some ⟨b, o, none⟩)), some v => match szOf P t with
    | some n => some (v.cells.size = n ∧ (∀ u ∈ v.cells.toList, u.oneCell' = true), .wr b o v.cells.toList)
    | none => none
  | _, _ => none
theorem qdst_p (P : Program) (t : TypeId) (b o : Nat) (v : Value) : qdst P t (some (.pointer (some ⟨b, o, none⟩))) (some v) = match szOf P t with
    | some n => some (v.cells.size = n ∧ (∀ u ∈ v.cells.toList, u.oneCell' = true), .wr b o v.cells.toList)
    | none => none := rfl
def oW (o : Option (Prop × DR)) [c : KD] : Prop := match o with | some (p, r) => p ∧ c.k r | none => False
theorem oW_some (p : Prop) (r : DR) (K : DR → Prop) : @oW (some (p, r)) ⟨K⟩ = (p ∧ K r) := rfl
section
variable {P : Program} {e : Env} {h : List PO} {K Kp : Value → List PO → Prop}
theorem Fn.k {f : FuncId} {args : List Value} {v : Value} (q : Fn P f args v) (hK : K v h) : @PCk _ P f args h ⟨K, Kp⟩ := q.pc hK
theorem Fn.kq {f : FuncId} {args : List Value} {v : Value} (q : Fn P f args v) (hK : K v []) : @PCqk _ P f args h ⟨K, Kp⟩ := q.q hK
theorem PC.k {f : FuncId} {args : List Value} {K' Kp' : Value → List PO → Prop} (q : PC P f args h K' Kp') (hK : ∀ v h, K' v h → K v h) (hp : ∀ v h, Kp' v h → Kp v h) : @PCk _ P f args h ⟨K, Kp⟩ := q.mono hK hp
theorem pdk_at {l : List Oper} {K : Env → List PO → Prop} (L : List (Nat × Nat)) (hL : drawPairs l.toArray = L) (k : pd P l.toArray (fun e' h' ws => (∀ p ∈ L, apartAt P e' l.toArray p) ∧ match happly h' ws with
    | some h2 => K e' h2
    | none => False) l e h []) : @pdk _ P l.toArray e h ⟨K⟩ := ⟨L, hL, k⟩
theorem pops_go {ops : Array Oper} {K : Env → List PO → Prop} {dst op type pos after} {os : List Oper} : pops P ops K Kp ({ dst, op, type, pos, after, guard := none } :: os) e h = pop P op e h (fun v h' => pops P ops K Kp os (e.putO dst v) h') Kp := rfl
theorem pops_if {ops : Array Oper} {K : Env → List PO → Prop} {dst op type pos after} {j : Nat} {want : Bool} {os : List Oper} : pops P ops K Kp ({ dst, op, type, pos, after, guard := some (j, want) } :: os) e h = @oG (((ops[j]?).bind (·.dst)).bind fun d => e.get d) want ⟨fun _ => pop P op e h (fun v h' => pops P ops K Kp os (e.putO dst v) h') Kp, fun _ => pops P ops K Kp os (e.putO dst undef) h⟩ := by
  cases h1 : (ops[j]?).bind (·.dst) with
  | none => simp only [pops, h1, Option.bind_none]; rfl
  | some d =>
    cases h2 : e.get d with
    | none => simp only [pops, h1, h2, Option.bind_some]; rfl
    | some v =>
      cases v
      case bool b =>
        simp only [pops, h1, h2, oG, Option.bind_some]
        split
        · rename_i hb; exact propext ⟨fun x => x.1 hb, fun x => ⟨fun _ => x, fun y => (y hb).elim⟩⟩
        · rename_i hb; exact propext ⟨fun x => x.2 hb, fun x => ⟨fun y => (hb y).elim, fun _ => x⟩⟩
      all_goals (simp only [pops, h1, h2, Option.bind_some]; rfl)
theorem pops_end {ops : Array Oper} {K : Env → List PO → Prop} : pops P ops K Kp [] e h = K e h := rfl
theorem pd_go {ops : Array Oper} {K : Env → List PO → List (Nat × Nat × List Value) → Prop} {dst op type pos after} {os : List Oper} {ws} : pd P ops K ({ dst, op, type, pos, after, guard := none } :: os) e h ws = dop P op e h fun r => pd P ops K os (e.putO dst r.v) (h ++ r.ns) (ws ++ r.ws) := rfl
theorem pd_end {ops : Array Oper} {K : Env → List PO → List (Nat × Nat × List Value) → Prop} {ws} : pd P ops K [] e h ws = K e h ws := rfl
theorem pop_move {x : Operand} : pop P (.move x) e h K Kp = @oM (ev e x) ⟨(K · h)⟩ := by simp [pop, qp, oM]; cases ev e x <;> simp [qm, qw]
theorem pop_assign {x : Operand} : pop P (.assign x) e h K Kp = @oM (ev e x) ⟨(K · h)⟩ := by simp [pop, qp, oM]; cases ev e x <;> simp [qm, qw]
theorem pop_call {f : Operand} {args : Array Operand} {tys : Array TypeId} : pop P (.call { callee := .value f, args, argTypes := tys }) e h K Kp = @PCc _ P (ev e f) (evs e args.toList) h ⟨K, Kp⟩ := rfl
theorem pop_load {t : TypeId} {x : Operand} : pop P (.load t x) e h K Kp = @oM (qld P h t (ev e x)) ⟨(K · h)⟩ := by
  simp only [pop, qp, qm]
  cases hx : ev e x with
  | none => rfl
  | some v =>
    cases v
    case pointer a =>
      cases a with
      | none => rfl
      | some a =>
        obtain ⟨b, o, s⟩ := a
        cases s with
        | none =>
          simp only [qld]
          cases hl : qload P h t b o with
          | none => rfl
          | some u => simp [oM]
        | some s => rfl
    all_goals rfl
theorem pop_store {t : TypeId} {a x : Operand} : pop P (.store t a x) e h K Kp = @oS (qst P h t (ev e a) (ev e x)) ⟨K⟩ := by
  simp only [pop]
  cases hx : ev e a with
  | none => rfl
  | some v =>
    cases v
    case pointer a =>
      cases a with
      | none => rfl
      | some a =>
        obtain ⟨b, o, s⟩ := a
        cases s with
        | none =>
          cases hy : ev e x with
          | none => rfl
          | some y =>
            simp only [qst]
            cases hs : szOf P t with
            | none => rfl
            | some n =>
              simp only []
              cases hl : hput h b o y.cells.toList with
              | none => rfl
              | some u => simp only [Option.map, oS]; exact propext ⟨fun ⟨h1, h2, h3⟩ => ⟨⟨h1, h2⟩, h3⟩, fun ⟨⟨h1, h2⟩, h3⟩ => ⟨h1, h2, h3⟩⟩
        | some s => rfl
    all_goals rfl
theorem pop_binOp {op : BinOp} {t : TypeId} {x y : Operand} {s : TypeId} : pop P (.binOp op t x y s) e h K Kp = @oP (qbi P op t ((x matches .const _) || (y matches .const _)) (ev e x) (ev e y)) ⟨(K · h)⟩ := by
  simp only [pop, qp, qm]
  cases hx : ev e x with
  | none => rfl
  | some u =>
    cases hy : ev e y with
    | none => rfl
    | some v =>
      simp only [qbi]
      cases hq : qbin P op t ((x matches .const _) || (y matches .const _)) u v with
      | none => rfl
      | some r => rfl
theorem pop_fieldAddr {t} {x} {i} : pop P (.fieldAddr t x i) e h K Kp = @oQ (qp P e (.fieldAddr t x i)) (fun _ => qm P e h (.fieldAddr t x i)) h ⟨K⟩ := rfl
theorem dop_fieldAddr {K : DR → Prop} {t} {x} {i} : dop P (.fieldAddr t x i) e h K = @oD (qp P e (.fieldAddr t x i)) (fun _ => qm P e h (.fieldAddr t x i)) ⟨K⟩ := rfl
theorem pop_field {t} {x} {i} : pop P (.field t x i) e h K Kp = @oQ (qp P e (.field t x i)) (fun _ => qm P e h (.field t x i)) h ⟨K⟩ := rfl
theorem dop_field {K : DR → Prop} {t} {x} {i} : dop P (.field t x i) e h K = @oD (qp P e (.field t x i)) (fun _ => qm P e h (.field t x i)) ⟨K⟩ := rfl
theorem pop_indexAddr {t} {x} {i} : pop P (.indexAddr t x i) e h K Kp = @oQ (qp P e (.indexAddr t x i)) (fun _ => qm P e h (.indexAddr t x i)) h ⟨K⟩ := rfl
theorem dop_indexAddr {K : DR → Prop} {t} {x} {i} : dop P (.indexAddr t x i) e h K = @oD (qp P e (.indexAddr t x i)) (fun _ => qm P e h (.indexAddr t x i)) ⟨K⟩ := rfl
theorem pop_index {t} {x} {i} : pop P (.index t x i) e h K Kp = @oQ (qp P e (.index t x i)) (fun _ => qm P e h (.index t x i)) h ⟨K⟩ := rfl
theorem dop_index {K : DR → Prop} {t} {x} {i} : dop P (.index t x i) e h K = @oD (qp P e (.index t x i)) (fun _ => qm P e h (.index t x i)) ⟨K⟩ := rfl
theorem pop_slice {t} {x} {l} {g} {m} : pop P (.slice t x l g m) e h K Kp = @oQ (qp P e (.slice t x l g m)) (fun _ => qm P e h (.slice t x l g m)) h ⟨K⟩ := rfl
theorem dop_slice {K : DR → Prop} {t} {x} {l} {g} {m} : dop P (.slice t x l g m) e h K = @oD (qp P e (.slice t x l g m)) (fun _ => qm P e h (.slice t x l g m)) ⟨K⟩ := rfl
theorem pop_typeAssert {x} {s} {a} {ok} : pop P (.typeAssert x s a ok) e h K Kp = @oQ (qp P e (.typeAssert x s a ok)) (fun _ => qm P e h (.typeAssert x s a ok)) h ⟨K⟩ := rfl
theorem dop_typeAssert {K : DR → Prop} {x} {s} {a} {ok} : dop P (.typeAssert x s a ok) e h K = @oD (qp P e (.typeAssert x s a ok)) (fun _ => qm P e h (.typeAssert x s a ok)) ⟨K⟩ := rfl
theorem pop_extract {x} {i} : pop P (.extract x i) e h K Kp = @oQ (qp P e (.extract x i)) (fun _ => qm P e h (.extract x i)) h ⟨K⟩ := rfl
theorem dop_extract {K : DR → Prop} {x} {i} : dop P (.extract x i) e h K = @oD (qp P e (.extract x i)) (fun _ => qm P e h (.extract x i)) ⟨K⟩ := rfl
theorem pop_nilCheck {x} : pop P (.nilCheck x) e h K Kp = @oQ (qp P e (.nilCheck x)) (fun _ => qm P e h (.nilCheck x)) h ⟨K⟩ := rfl
theorem dop_nilCheck {K : DR → Prop} {x} : dop P (.nilCheck x) e h K = @oD (qp P e (.nilCheck x)) (fun _ => qm P e h (.nilCheck x)) ⟨K⟩ := rfl
theorem pop_build {t} {ps} : pop P (.build t ps) e h K Kp = @oQ (qp P e (.build t ps)) (fun _ => qm P e h (.build t ps)) h ⟨K⟩ := rfl
theorem dop_build {K : DR → Prop} {t} {ps} : dop P (.build t ps) e h K = @oD (qp P e (.build t ps)) (fun _ => qm P e h (.build t ps)) ⟨K⟩ := rfl
theorem pop_sliceToArrayPointer {t} {x} : pop P (.sliceToArrayPointer t x) e h K Kp = @oQ (qp P e (.sliceToArrayPointer t x)) (fun _ => qm P e h (.sliceToArrayPointer t x)) h ⟨K⟩ := rfl
theorem dop_sliceToArrayPointer {K : DR → Prop} {t} {x} : dop P (.sliceToArrayPointer t x) e h K = @oD (qp P e (.sliceToArrayPointer t x)) (fun _ => qm P e h (.sliceToArrayPointer t x)) ⟨K⟩ := rfl
theorem pop_pick {x} {l} {g} : pop P (.pick x l g) e h K Kp = @oQ (qp P e (.pick x l g)) (fun _ => qm P e h (.pick x l g)) h ⟨K⟩ := rfl
theorem dop_pick {K : DR → Prop} {x} {l} {g} : dop P (.pick x l g) e h K = @oD (qp P e (.pick x l g)) (fun _ => qm P e h (.pick x l g)) ⟨K⟩ := rfl
theorem pop_unOp {op} {t} {x} : pop P (.unOp op t x) e h K Kp = @oQ (qp P e (.unOp op t x)) (fun _ => qm P e h (.unOp op t x)) h ⟨K⟩ := rfl
theorem dop_unOp {K : DR → Prop} {op} {t} {x} : dop P (.unOp op t x) e h K = @oD (qp P e (.unOp op t x)) (fun _ => qm P e h (.unOp op t x)) ⟨K⟩ := rfl
theorem pop_convert {s} {t} {x} : pop P (.convert s t x) e h K Kp = @oQ (qp P e (.convert s t x)) (fun _ => qm P e h (.convert s t x)) h ⟨K⟩ := rfl
theorem dop_convert {K : DR → Prop} {s} {t} {x} : dop P (.convert s t x) e h K = @oD (qp P e (.convert s t x)) (fun _ => qm P e h (.convert s t x)) ⟨K⟩ := rfl
theorem pop_makeInterface {t} {x} : pop P (.makeInterface t x) e h K Kp = @oQ (qp P e (.makeInterface t x)) (fun _ => qm P e h (.makeInterface t x)) h ⟨K⟩ := rfl
theorem dop_makeInterface {K : DR → Prop} {t} {x} : dop P (.makeInterface t x) e h K = @oD (qp P e (.makeInterface t x)) (fun _ => qm P e h (.makeInterface t x)) ⟨K⟩ := rfl
theorem pop_makeFunc {f} {as} {cs} : pop P (.makeFunc f as cs) e h K Kp = @oQ (qp P e (.makeFunc f as cs)) (fun _ => qm P e h (.makeFunc f as cs)) h ⟨K⟩ := rfl
theorem dop_makeFunc {K : DR → Prop} {f} {as} {cs} : dop P (.makeFunc f as cs) e h K = @oD (qp P e (.makeFunc f as cs)) (fun _ => qm P e h (.makeFunc f as cs)) ⟨K⟩ := rfl
theorem pop_alloc {t} : pop P (.alloc t) e h K Kp = @oQ (qp P e (.alloc t)) (fun _ => qm P e h (.alloc t)) h ⟨K⟩ := rfl
theorem dop_alloc {K : DR → Prop} {t} : dop P (.alloc t) e h K = @oD (qp P e (.alloc t)) (fun _ => qm P e h (.alloc t)) ⟨K⟩ := rfl
theorem pop_box {t} {x} : pop P (.box t x) e h K Kp = @oQ (qp P e (.box t x)) (fun _ => qm P e h (.box t x)) h ⟨K⟩ := rfl
theorem dop_box {K : DR → Prop} {t} {x} : dop P (.box t x) e h K = @oD (qp P e (.box t x)) (fun _ => qm P e h (.box t x)) ⟨K⟩ := rfl
theorem pop_buildSlice {t} {n} {ps} : pop P (.buildSlice t n ps) e h K Kp = @oQ (qp P e (.buildSlice t n ps)) (fun _ => qm P e h (.buildSlice t n ps)) h ⟨K⟩ := rfl
theorem dop_buildSlice {K : DR → Prop} {t} {n} {ps} : dop P (.buildSlice t n ps) e h K = @oD (qp P e (.buildSlice t n ps)) (fun _ => qm P e h (.buildSlice t n ps)) ⟨K⟩ := rfl
theorem pop_makeSlice {t} {l} {g} : pop P (.makeSlice t l g) e h K Kp = @oQ (qp P e (.makeSlice t l g)) (fun _ => qm P e h (.makeSlice t l g)) h ⟨K⟩ := rfl
theorem dop_makeSlice {K : DR → Prop} {t} {l} {g} : dop P (.makeSlice t l g) e h K = @oD (qp P e (.makeSlice t l g)) (fun _ => qm P e h (.makeSlice t l g)) ⟨K⟩ := rfl
theorem pop_makeMap {t} {m} : pop P (.makeMap t m) e h K Kp = @oQ (qp P e (.makeMap t m)) (fun _ => qm P e h (.makeMap t m)) h ⟨K⟩ := rfl
theorem dop_makeMap {K : DR → Prop} {t} {m} : dop P (.makeMap t m) e h K = @oD (qp P e (.makeMap t m)) (fun _ => qm P e h (.makeMap t m)) ⟨K⟩ := rfl
theorem pop_lookup {t} {x i} {ok} : pop P (.lookup t x i ok) e h K Kp = @oQ (qp P e (.lookup t x i ok)) (fun _ => qm P e h (.lookup t x i ok)) h ⟨K⟩ := rfl
theorem dop_lookup {K : DR → Prop} {t} {x i} {ok} : dop P (.lookup t x i ok) e h K = @oD (qp P e (.lookup t x i ok)) (fun _ => qm P e h (.lookup t x i ok)) ⟨K⟩ := rfl
theorem pop_range {t} {x} : pop P (.range t x) e h K Kp = @oQ (qp P e (.range t x)) (fun _ => qm P e h (.range t x)) h ⟨K⟩ := rfl
theorem dop_move {K : DR → Prop} {x} : dop P (.move x) e h K = @oD (qp P e (.move x)) (fun _ => qm P e h (.move x)) ⟨K⟩ := rfl
theorem dop_assign {K : DR → Prop} {x} : dop P (.assign x) e h K = @oD (qp P e (.assign x)) (fun _ => qm P e h (.assign x)) ⟨K⟩ := rfl
theorem dop_load {K : DR → Prop} {t} {x} : dop P (.load t x) e h K = @oD (qp P e (.load t x)) (fun _ => qm P e h (.load t x)) ⟨K⟩ := rfl
theorem dop_binOp {K : DR → Prop} {op} {t} {x} {y} {s} : dop P (.binOp op t x y s) e h K = @oD (qp P e (.binOp op t x y s)) (fun _ => qm P e h (.binOp op t x y s)) ⟨K⟩ := rfl
theorem dop_store {K : DR → Prop} {t : TypeId} {a x : Operand} : dop P (.store t a x) e h K = @oW (qdst P t (ev e a) (ev e x)) ⟨K⟩ := by
  simp only [dop]
  cases hx : ev e a with
  | none => rfl
  | some v =>
    cases v
    case pointer a =>
      cases a with
      | none => rfl
      | some a =>
        obtain ⟨b, o, s⟩ := a
        cases s with
        | none =>
          cases hy : ev e x with
          | none => rfl
          | some y =>
            simp only [qdst]
            cases hs : szOf P t with
            | none => rfl
            | some n => simp only [oW]; exact propext ⟨fun ⟨h1, h2, h3⟩ => ⟨⟨h1, h2⟩, h3⟩, fun ⟨⟨h1, h2⟩, h3⟩ => ⟨h1, h2, h3⟩⟩
        | some s => rfl
    all_goals rfl
theorem dop_call {K : DR → Prop} {f : Operand} {args : Array Operand} {tys : Array TypeId} : dop P (.call { callee := .value f, args, argTypes := tys }) e h K = @PCqc _ P (ev e f) (evs e args.toList) h ⟨fun v ns => K (.val v ns), fun _ _ => False⟩ := rfl
theorem pop_len {args : Array Operand} {tys : Array TypeId} : pop P (.call { callee := .builtin .len, args, argTypes := tys }) e h K Kp = match evs e args.toList, tys[0]? with
    | some [x], some t => @oM (qlen P t x) ⟨(K · h)⟩
    | _, _ => False := by
  simp only [pop, qp]
  cases h1 : evs e args.toList with
  | none => rfl
  | some l =>
    match l with
    | [] => rfl
    | [x] =>
      cases h2 : tys[0]? with
      | none => rfl
      | some t =>
        simp only []
        cases h3 : qlen P t x with
        | none => rfl
        | some v => simp [oM]
    | _ :: _ :: _ => rfl
theorem pwp_cond {n0 : Nat} {c : Operand} {a b : Code} {Q : PX → St → Prop} {s : St} : pwp P n0 (.cond c a b) Q s = @oB (ev s.e c) ⟨fun _ => pwp P n0 a Q s, fun _ => pwp P n0 b Q s⟩ := by
  have : pwp P n0 (.cond c a b) Q s = match ev s.e c with
    | some (.bool t) => (t = true → pwp P n0 a Q s) ∧ (t = false → pwp P n0 b Q s)
    | _ => False := rfl
  rw [this]
  cases ev s.e c with
  | none => rfl
  | some v =>
    cases v
    case bool t => cases t <;> simp [oB]
    all_goals rfl
def QSeq (P : Program) (n0 : Nat) (b : Code) (Q : PX → St → Prop) : PX → St → Prop := fun x s' => match x with
    | .normal => pwp P n0 b Q s'
    | x => Q x s'
theorem QSeq_normal {n0 : Nat} {b : Code} {Q : PX → St → Prop} {s : St} : QSeq P n0 b Q .normal s = pwp P n0 b Q s := rfl
theorem QSeq_exit {n0 : Nat} {b : Code} {Q : PX → St → Prop} {s : St} {i : Nat} : QSeq P n0 b Q (.exit i) s = Q (.exit i) s := rfl
theorem QSeq_ret {n0 : Nat} {b : Code} {Q : PX → St → Prop} {s : St} : QSeq P n0 b Q .ret s = Q .ret s := rfl
theorem QSeq_pan {n0 : Nat} {b : Code} {Q : PX → St → Prop} {s : St} {v : Value} : QSeq P n0 b Q (.pan v) s = Q (.pan v) s := rfl
def QBlk (id : Nat) (Q : PX → St → Prop) : PX → St → Prop := fun x s' => match x with
    | .exit i => if i = id then Q .normal s' else Q (.exit i) s'
    | x => Q x s'
theorem QBlk_normal {id : Nat} {Q : PX → St → Prop} {s : St} : QBlk id Q .normal s = Q .normal s := rfl
theorem QBlk_exit {id : Nat} {Q : PX → St → Prop} {s : St} {i : Nat} : QBlk id Q (.exit i) s = if i = id then Q .normal s else Q (.exit i) s := rfl
theorem QBlk_ret {id : Nat} {Q : PX → St → Prop} {s : St} : QBlk id Q .ret s = Q .ret s := rfl
theorem QBlk_pan {id : Nat} {Q : PX → St → Prop} {s : St} {v : Value} : QBlk id Q (.pan v) s = Q (.pan v) s := rfl
theorem pwp_seq {n0 : Nat} {a b : Code} {Q : PX → St → Prop} {s : St} : pwp P n0 (.seq a b) Q s = pwp P n0 a (QSeq P n0 b Q) s := rfl
theorem pwp_block {n0 : Nat} {id : Nat} {c : Code} {Q : PX → St → Prop} {s : St} : pwp P n0 (.block id c) Q s = pwp P n0 c (QBlk id Q) s := rfl
theorem pwp_exit {n0 : Nat} {id : Nat} {Q : PX → St → Prop} {s : St} : pwp P n0 (.exit id) Q s = Q (.exit id) s := rfl
theorem pwp_ret {n0 : Nat} {Q : PX → St → Prop} {s : St} : pwp P n0 .ret Q s = Q .ret s := rfl
theorem pwp_skip {n0 : Nat} {Q : PX → St → Prop} {s : St} : pwp P n0 .skip Q s = Q .normal s := rfl
theorem pwp_scope {n0 : Nat} {c : Code} {Q : PX → St → Prop} {s : St} : pwp P n0 (.scope c) Q s = pwp P n0 c Q s := rfl
theorem pwp_region {n0 : Nat} {id : Nat} {l : List Oper} {Q : PX → St → Prop} {s : St} : pwp P n0 (.region id l.toArray false) Q s = pops P l.toArray (fun e h => Q .normal ⟨e, h⟩) (fun v h => Q (.pan v) ⟨[], h⟩) l s.e s.h := rfl
theorem pwp_draw {n0 : Nat} {id : Nat} {ops : Array Oper} {Q : PX → St → Prop} {s : St} : pwp P n0 (.region id ops true) Q s = @pdk _ P ops s.e s.h ⟨fun e h => Q .normal ⟨e, h⟩⟩ := rfl
theorem Qret_norm {rs : List ResultVar} {s : St} : Qret P rs K Kp .normal s = @oM (presults P s rs) ⟨(K · s.h)⟩ := by
  simp only [Qret, oM]; cases presults P s rs <;> rfl
theorem Qret_ret {rs : List ResultVar} {s : St} : Qret P rs K Kp .ret s = @oM (presults P s rs) ⟨(K · s.h)⟩ := by
  simp only [Qret, oM]; cases presults P s rs <;> rfl
theorem Qret_pan {rs : List ResultVar} {s : St} {v : Value} : Qret P rs K Kp (.pan v) s = Kp v s.h := rfl
end
@[simp] theorem cells_agg (cs : Array Value) : (Value.agg cs).cells = cs := rfl
@[simp] theorem cells_int (k : IntKind) (n : Int) : (Value.int k n).cells = #[.int k n] := rfl
@[simp] theorem cells_bool (b : Bool) : (Value.bool b).cells = #[.bool b] := rfl
@[simp] theorem cells_string (s : ByteArray) : (Value.string s).cells = #[.string s] := rfl
@[simp] theorem cells_pointer (a : Option Addr) : (Value.pointer a).cells = #[.pointer a] := rfl
@[simp] theorem cells_slice (a : Option Addr) (n c : Nat) : (Value.slice a n c).cells = #[.slice a n c] := rfl
@[simp] theorem cells_map (a : Option Nat) : (Value.map a).cells = #[.map a] := rfl
@[simp] theorem cells_iface (t : TypeId) (v : Value) : (Value.iface t v).cells = #[.iface t v] := rfl
@[simp] theorem cells_nilIface : Value.nilIface.cells = #[.nilIface] := rfl
@[simp] theorem cells_func (f : Go.Fn) (a c : Array Value) : (Value.func f a c).cells = #[.func f a c] := rfl
@[simp] theorem cells_nilFunc : Value.nilFunc.cells = #[.nilFunc] := rfl
@[simp] theorem cells_tuple (cs : Array Value) : (Value.tuple cs).cells = #[.tuple cs] := rfl
@[simp] theorem one_int (k : IntKind) (n : Int) : (Value.int k n).oneCell' = true := rfl
@[simp] theorem one_bool (b : Bool) : (Value.bool b).oneCell' = true := rfl
@[simp] theorem one_string (s : ByteArray) : (Value.string s).oneCell' = true := rfl
@[simp] theorem one_pointer (a : Option Addr) : (Value.pointer a).oneCell' = true := rfl
@[simp] theorem one_slice (a : Option Addr) (n c : Nat) : (Value.slice a n c).oneCell' = true := rfl
@[simp] theorem one_map (a : Option Nat) : (Value.map a).oneCell' = true := rfl
@[simp] theorem one_iface (t : TypeId) (v : Value) : (Value.iface t v).oneCell' = true := rfl
@[simp] theorem one_nilIface : Value.nilIface.oneCell' = true := rfl
@[simp] theorem laid_nil (cs : List Value) : laid cs [] 0 = cs := by simp [laid]
@[simp] theorem laid_zero (c v : Value) (cs vs : List Value) : laid (c :: cs) (v :: vs) 0 = v :: laid cs vs 0 := by simp [laid]
@[simp] theorem laid_succ (c : Value) (cs vs : List Value) (n : Nat) : laid (c :: cs) vs (n + 1) = c :: laid cs vs n := by simp [laid, Nat.succ_add]
theorem laid_all (cs vs : List Value) (h : cs.length = vs.length) : laid cs vs 0 = vs := by simp [laid, ← h]
@[simp] theorem flat_int (n : Nat) (k : IntKind) (i : Int) : flat (n + 1) (.int k i) = true := rfl
@[simp] theorem flat_bool (n : Nat) (b : Bool) : flat (n + 1) (.bool b) = true := rfl
@[simp] theorem flat_string (n : Nat) (s : ByteArray) : flat (n + 1) (.string s) = true := rfl
@[simp] theorem flat_pnil (n : Nat) : flat (n + 1) (.pointer none) = true := rfl
@[simp] theorem flat_snil (n : Nat) : flat (n + 1) (.slice none 0 0) = true := rfl
@[simp] theorem flat_mnil (n : Nat) : flat (n + 1) (.map none) = true := rfl
@[simp] theorem flat_fnil (n : Nat) : flat (n + 1) .nilFunc = true := rfl
@[simp] theorem flat_inil (n : Nat) : flat (n + 1) .nilIface = true := rfl
@[simp] theorem flat_iface (n : Nat) (t : TypeId) (v : Value) : flat (n + 1) (.iface t v) = flat n v := rfl
@[simp] theorem flat_agg (n : Nat) (cs : Array Value) : flat (n + 1) (.agg cs) = cs.toList.all (flat n) := rfl
@[simp] theorem flat_tuple (n : Nat) (cs : Array Value) : flat (n + 1) (.tuple cs) = cs.toList.all (flat n) := rfl
@[simp] theorem flat_arr (n : Nat) (cs : List Value) : (cs.toArray.all (flat n)) = cs.all (flat n) := by simp
attribute [simp↓] QSeq_normal QSeq_exit QSeq_ret QSeq_pan QBlk_normal QBlk_exit QBlk_ret QBlk_pan pops_go pops_if pops_end pd_go pd_end pop_move pop_assign pop_call pop_load pop_store pop_binOp pop_len pwp_cond pwp_seq pwp_block pwp_exit pwp_ret pwp_skip pwp_scope pwp_region pwp_draw Qret_norm Qret_ret Qret_pan
attribute [simp↓] pop_fieldAddr pop_field pop_indexAddr pop_index pop_slice pop_typeAssert pop_extract pop_nilCheck pop_build pop_sliceToArrayPointer pop_pick pop_unOp pop_convert pop_makeInterface pop_makeFunc pop_alloc pop_box pop_buildSlice pop_makeSlice pop_makeMap dop_fieldAddr dop_field dop_indexAddr dop_index dop_slice dop_typeAssert dop_extract dop_nilCheck dop_build dop_sliceToArrayPointer dop_pick dop_unOp dop_convert dop_makeInterface dop_makeFunc dop_alloc dop_box dop_buildSlice dop_makeSlice dop_makeMap dop_move dop_assign dop_load dop_binOp dop_store dop_call
attribute [simp] isY oG_bool oG_undef oG_tuple oB_bool oP_true oQ_true oS_some qld_p qst_p qbi_some PCc_some PCc_yld PCqc_some oR_some oD_some oD_none oE_some qdst_p oW_some DR.v DR.ns DR.ws apartAt apart1 wblk rblk happly oM_some oP_some oQ_some oQ_none qp qm qbin qun ev evs evp evo Env.get Env.putO argsEnv qload hcells PO.cells hput qassert qbuild qfill qplaces qpart presults presl pres1 qlen qconv qslice
end Go.Proofs.YtjopikjefpenkaaDoor
/- The plain machine's loops, laid out for simp. -/
namespace Go.Proofs.YtjopikjefpenkaaDoor
open Go.RowKit
variable [Inv]
section
variable {P : Program} {n0 : Nat} {c : Code} {Q : PX → St → Prop} {s : St}
/-- What stands behind a loop's round. -/
def Again {α : Type} (n0 : Nat) (st : α → St) (μ : α → Nat) (J : α → Prop) (m : Nat) (s : St) : Prop := ∃ a, μ a < m ∧ J a ∧ Sb n0 (st a) s
def QLoop {α : Type} (n0 : Nat) (st : α → St) (μ : α → Nat) (J : α → Prop) (m : Nat) (Q : PX → St → Prop) : PX → St → Prop := fun x s' => match x with
  | .normal => Again n0 st μ J m s'
  | x => Q x s'
theorem QLoop_normal {α : Type} {st : α → St} {μ : α → Nat} {J : α → Prop} {m : Nat} : QLoop n0 st μ J m Q .normal s = Again n0 st μ J m s := (propext ⟨id, id⟩)
theorem QLoop_exit {α : Type} {st : α → St} {μ : α → Nat} {J : α → Prop} {m i : Nat} : QLoop n0 st μ J m Q (.exit i) s = Q (.exit i) s := (propext ⟨id, id⟩)
theorem QLoop_ret {α : Type} {st : α → St} {μ : α → Nat} {J : α → Prop} {m : Nat} : QLoop n0 st μ J m Q .ret s = Q .ret s := (propext ⟨id, id⟩)
theorem QLoop_pan {α : Type} {st : α → St} {μ : α → Nat} {J : α → Prop} {m : Nat} {v : Value} : QLoop n0 st μ J m Q (.pan v) s = Q (.pan v) s := (propext ⟨id, id⟩)
class KQ where
  q : PX → St → Prop
/-- A loop that waits. -/
def pwpL (P : Program) (n0 : Nat) (c : Code) (s : St) [k : KQ] : Prop := pwp P n0 (.loop c) k.q s
theorem pwp_loop : pwp P n0 (.loop c) Q s = @pwpL _ P n0 c s ⟨Q⟩ := (propext ⟨id, id⟩)
theorem pwpL_congr {s' : St} [KQ] (h : s = s') : pwpL P n0 c s = pwpL P n0 c s' := by rw [h]
/-- A range over a function that waits. -/
def pwpR (P : Program) (n0 : Nat) (g : Operand) (ps : Array Tmp) (assign body : Code) (s : St) [k : KQ] : Prop := pwp P n0 (.rangeFunc g ps assign body) k.q s
theorem pwp_range {g : Operand} {ps : Array Tmp} {assign body : Code} : pwp P n0 (.rangeFunc g ps assign body) Q s = @pwpR _ P n0 g ps assign body s ⟨Q⟩ := (propext ⟨id, id⟩)
theorem pwpR_congr {g : Operand} {ps : Array Tmp} {assign body : Code} {s' : St} [KQ] (h : s = s') : pwpR P n0 g ps assign body s = pwpR P n0 g ps assign body s' := by rw [h]
attribute [congr] pwpR_congr
/-- Fewer slots are known. -/
def envSub (e : Env) : Env → Prop
  | [] => True
  | (t, v) :: e0 => e.get t = some v ∧ envSub e e0
theorem envSub_get {e : Env} : ∀ {e0 : Env}, envSub e e0 → ∀ t v, e0.get t = some v → e.get t = some v
  | [], _, t, v, hv => by cases hv
  | (k, u) :: e0, h, t, v, hv => by
    simp only [Env.get] at hv
    split at hv
    · rename_i ht; cases hv; subst ht; exact h.1
    · exact envSub_get h.2 t v hv
def envSelf (ρ : Nat → Option Nat) : Env → Prop
  | [] => True
  | (_, v) :: e => RN ρ v v ∧ envSelf ρ e
theorem envSelf_get {ρ : Nat → Option Nat} : ∀ {e : Env}, envSelf ρ e → ∀ t v, e.get t = some v → RN ρ v v
  | [], _, t, v, hv => by cases hv
  | (k, u) :: e, h, t, v, hv => by
    simp only [Env.get] at hv
    split at hv
    · cases hv; exact h.1
    · exact envSelf_get h.2 t v hv
theorem ORN_lp {ρ : Nat → Option Nat} {r : Loop} {e : Env} (h : envSelf ρ e) : ORN ρ (.lp r e) (.lp r e) :=
  ⟨rfl, fun t v hv => ⟨v, hv, envSelf_get h t v hv⟩, fun t v hv => ⟨v, hv, envSelf_get h t v hv⟩⟩
/-- The record that a range over a function lays. -/
def rec0 (fn : FuncId) (tmps : Array Value) (df : Nat) (ps : Array Tmp) (assign body : Code) : Loop := { state := .ready, pending := none, fn, tmps, params := ps, assign, body, defers := df }
/-- How the record stands when the function has come back. -/
def RPost (n : Nat) (e0 e : Env) (Q : PX → St → Prop) (h' : List PO) : Prop := ∃ r, h'[n]? = some (.lp r e0) ∧ r.state ≠ .busy ∧ match r.pending with
  | none => Q .normal ⟨e, h'.set n .dead⟩
  | some .ret => Q .ret ⟨e, h'.set n .dead⟩
  | some (.exit i) => Q (.exit i) ⟨e, h'.set n .dead⟩
  | _ => False
theorem pwpR_of {g : Operand} {ps : Array Tmp} {assign body : Code} {gf : FuncId} {first cap : Array Value} (hg : ev s.e g = some (.func (.func gf) first cap))
    (e0 : Env) (he0 : envSub s.e e0)
    (h : ∀ fn tmps df, codeIn tmps.size ps assign body = true → PC P gf (first.toList ++ [.func (.yield s.h.length) #[] #[]] ++ cap.toList) (s.h ++ [.lp (rec0 fn tmps df ps assign body) e0]) (fun _ h' => RPost s.h.length e0 s.e Q h') (fun v h' => Q (.pan v) ⟨[], h'⟩)) : @pwpR _ P n0 g ps assign body s ⟨Q⟩ := by
  show pwp P n0 (.rangeFunc g ps assign body) Q s
  unfold pwp
  rw [hg]
  exact ⟨e0, envSub_get he0, h⟩
/-- A round: the record lies at `b`. -/
theorem PY.k {b : Nat} {fn : FuncId} {tmps : Array Value} {df : Nat} {ps : Array Tmp} {assign body : Code} {e0 : Env} {h : List PO} {args : List Value} {K Kp : Value → List PO → Prop} (hm : P.follows .mixedOrders = true) (hb : h[b]? = some (.lp (rec0 fn tmps df ps assign body) e0)) (hsz : args.length = ps.size) (hok : codeIn tmps.size ps assign body = true)
    (hw : pwp P h.length assign (Qassign P tmps.size b h (rec0 fn tmps df ps assign body) e0 K) ⟨(ps.toList.zip args).foldl (fun e x => x :: e) e0, h⟩) : @PYk _ P b args h ⟨K, Kp⟩ :=
  PY.of hb rfl hsz hok (SW.of hm _ _ _ hw)
theorem Qassign_norm (hm : P.follows .mixedOrders = true) {N b : Nat} {h : List PO} {r : Loop} {e0 : Env} {K : Value → List PO → Prop} (h1 : s.h[b]? = some (.lp r e0)) (h2 : pwp P h.length r.body (Qround b r e0 K) ⟨s.e, s.h.set b (.lp { r with state := .busy } e0)⟩) : Qassign P N b h r e0 K .normal s := ⟨h1, SW.of hm _ _ _ h2⟩
attribute [congr] pwpL_congr
attribute [simp↓] pwp_range
attribute [simp↓] pwp_loop QLoop_normal QLoop_exit QLoop_ret QLoop_pan
/-- A loop: its states, a measure, what holds of them. -/
theorem pwp_loop_st {α : Type} (st : α → St) (μ : α → Nat) (J : α → Prop) (a0 : α) (l : List Nat) (h0 : J a0) (hsub : Sub n0 l (st a0) s) (h : ∀ a, J a → pwp P n0 c (QLoop n0 st μ J (μ a) Q) (st a)) : @pwpL _ P n0 c s ⟨Q⟩ := by
  refine ⟨fun n s0 => ∃ a, J a ∧ s0 = st a ∧ n = μ a, ⟨_, _, .inr ⟨l, hsub⟩, a0, h0, rfl, rfl⟩, fun n s0 ⟨a, h1, h2, h3⟩ => ?_⟩
  subst h2; subst h3
  have := h a h1
  have e : (QLoop n0 st μ J (μ a) Q) = (fun x s' => match x with
    | .normal => ∃ m s1, m < μ a ∧ Sb n0 s1 s' ∧ ∃ a, J a ∧ s1 = st a ∧ m = μ a
    | x => Q x s') := by
    funext x s'
    cases x
    · exact propext ⟨fun ⟨a', h1, h2, h3⟩ => ⟨_, _, h1, h3, a', h2, rfl, rfl⟩, fun ⟨m, s1, h1, h2, a', h3, h4, h5⟩ => by subst h4; subst h5; exact ⟨a', h1, h3, h2⟩⟩
    all_goals rfl
  rw [e] at this
  exact this
/-- Handles of which each is known by another number: what must be of them. -/
def objsOk (ρ : Nat → Option Nat) (h0 h : List PO) : Nat → List Nat → Prop
  | _, [] => True
  | b, c :: cs => (match h0[b]?, h[c]? with
    | some o0, some o => ORN ρ o0 o
    | _, _ => False) ∧ objsOk ρ h0 h (b + 1) cs
def envOk (ρ : Nat → Option Nat) (e : Env) : Env → Prop
  | [] => True
  | (t, v) :: e0 => (match e.get t with
    | some v2 => RN ρ v v2
    | none => False) ∧ envOk ρ e e0
def preOk (l : List Nat) : Nat → Prop
  | 0 => True
  | n + 1 => l[n]? = some n ∧ preOk l n
theorem preOk_get {l : List Nat} : ∀ {n : Nat}, preOk l n → ∀ b, b < n → l[b]? = some b
  | 0, _, b, hb => by omega
  | n + 1, h, b, hb => by
    by_cases e : b = n
    · subst e; exact h.1
    · exact preOk_get h.2 b (by omega)
theorem objsOk_get {ρ : Nat → Option Nat} {h0 h : List PO} : ∀ {cs : List Nat} {k : Nat}, objsOk ρ h0 h k cs → ∀ i c, cs[i]? = some c → ∃ o0 o, h0[k + i]? = some o0 ∧ h[c]? = some o ∧ ORN ρ o0 o
  | [], _, _, i, c, hc => by simp at hc
  | d :: cs, k, hk, i, c, hc => by
    cases i with
    | zero =>
      simp at hc; subst hc
      have := hk.1
      split at this
      · rename_i o0 o h1 h2; exact ⟨o0, o, h1, h2, this⟩
      · exact this.elim
    | succ i =>
      have := objsOk_get hk.2 i c (by simpa using hc)
      rwa [show k + 1 + i = k + (i + 1) by omega] at this
theorem envOk_get {ρ : Nat → Option Nat} {e : Env} : ∀ {e0 : Env}, envOk ρ e e0 → ∀ t v, e0.get t = some v → ∃ v2, e.get t = some v2 ∧ RN ρ v v2
  | [], _, t, v, hv => by cases hv
  | (k, u) :: e0, h, t, v, hv => by
    simp only [Env.get] at hv
    split at hv
    · rename_i ht; cases hv; subst ht
      have := h.1
      split at this
      · rename_i v2 hv2; exact ⟨v2, hv2, this⟩
      · exact this.elim
    · exact envOk_get h.2 t v hv
theorem Sub.mk' {l : List Nat} {s0 s : St} (hl : l.Nodup) (h1 : preOk l n0) (h2 : objsOk (fun b => l[b]?) s0.h s.h 0 l) (h3 : envOk (fun b => l[b]?) s.e s0.e) : Sub n0 l s0 s :=
  ⟨hl, preOk_get h1, fun b c hb => by have := objsOk_get h2 b c hb; rwa [Nat.zero_add] at this, envOk_get h3⟩
theorem pwp_loop_once {l : List Nat} {s0 : St} (hsub : Sub n0 l s0 s) (h : pwp P n0 c (QLoop n0 (fun _ : Unit => s0) (fun _ => 0) (fun _ => True) 0 Q) s0) : @pwpL _ P n0 c s ⟨Q⟩ :=
  pwp_loop_st (fun _ : Unit => s0) (fun _ => 0) (fun _ => True) () l trivial hsub fun _ _ => h
/-- So many rounds at most. -/
def Rounds (P : Program) (n0 : Nat) (c : Code) (Q : PX → St → Prop) : Nat → St → Prop
  | 0, _ => False
  | n + 1, s => pwp P n0 c (fun x s' => match x with
    | .normal => Rounds P n0 c Q n s'
    | x => Q x s') s
class KN where
  k : Nat → PX → St → Prop
def QRound (P : Program) (n0 : Nat) (c : Code) (Q : PX → St → Prop) (n : Nat) : PX → St → Prop := fun x s' => match x with
    | .normal => Rounds P n0 c Q n s'
    | x => Q x s'
theorem QRound_normal {n : Nat} : QRound P n0 c Q n .normal s = Rounds P n0 c Q n s := (propext ⟨id, id⟩)
theorem QRound_exit {n i : Nat} : QRound P n0 c Q n (.exit i) s = Q (.exit i) s := (propext ⟨id, id⟩)
theorem QRound_ret {n : Nat} : QRound P n0 c Q n .ret s = Q .ret s := (propext ⟨id, id⟩)
theorem QRound_pan {n : Nat} {v : Value} : QRound P n0 c Q n (.pan v) s = Q (.pan v) s := (propext ⟨id, id⟩)
theorem Rounds_succ {n : Nat} : Rounds P n0 c Q (n + 1) s = pwp P n0 c (QRound P n0 c Q n) s := (propext ⟨id, id⟩)
attribute [simp↓] QRound_normal QRound_exit QRound_ret QRound_pan
/-- A loop that is left within so many rounds. -/
theorem pwp_rounds (n : Nat) (h : Rounds P n0 c Q n s) : @pwpL _ P n0 c s ⟨Q⟩ := by
  refine ⟨fun m s0 => Rounds P n0 c Q m s0, ⟨n, s, .inl rfl, h⟩, fun m s0 hm => ?_⟩
  cases m with
  | zero => exact hm.elim
  | succ m =>
    have e : (fun (x : PX) (s' : St) => match x with
      | .normal => Rounds P n0 c Q m s'
      | x => Q x s') = QRound P n0 c Q m := rfl
    have hm' : pwp P n0 c (QRound P n0 c Q m) s0 := hm
    exact pwp_mono _ hm' fun x s' hx => by
      cases x
      · exact ⟨m, s', Nat.lt_succ_self m, .inl rfl, hx⟩
      all_goals exact hx
theorem Again.mk {α : Type} {st : α → St} {μ : α → Nat} {J : α → Prop} {m : Nat} (a : α) (l : List Nat) (h1 : μ a < m) (h2 : J a) (h3 : Sub n0 l (st a) s) : Again n0 st μ J m s := ⟨a, h1, h2, .inr ⟨l, h3⟩⟩
end
def oMx (f : Int → Int → Int) (o : Option (List Value)) [c : KV] : Prop := match o with
  | some [.int k x, .int k' y] => if k = k' then c.k (.int k (f x y)) else False
  | _ => False
theorem oMx_some (f : Int → Int → Int) (k : IntKind) (x y : Int) (K : Value → Prop) : @oMx f (some [.int k x, .int k y]) ⟨K⟩ = K (.int k (f x y)) := by simp [oMx]
theorem pop_max {P : Program} {e : Env} {h : List PO} {K Kp : Value → List PO → Prop} {args : Array Operand} {tys : Array TypeId} : pop P (.call { callee := .builtin .max, args, argTypes := tys }) e h K Kp = @oMx (fun x y => if y > x then y else x) (evs e args.toList) ⟨(K · h)⟩ := by
  simp only [pop, qp]
  cases evs e args.toList with
  | none => rfl
  | some l =>
    match l with
    | [] => rfl
    | [x] => cases x <;> rfl
    | [x, y] =>
      cases x <;> cases y <;> first | rfl | skip
      rename_i k a k' b
      by_cases hk : k = k'
      · subst hk; simp [oMx]
      · simp [oMx, hk, qbw]
    | x :: y :: _ :: _ => cases x <;> cases y <;> rfl
theorem pop_min {P : Program} {e : Env} {h : List PO} {K Kp : Value → List PO → Prop} {args : Array Operand} {tys : Array TypeId} : pop P (.call { callee := .builtin .min, args, argTypes := tys }) e h K Kp = @oMx (fun x y => if y < x then y else x) (evs e args.toList) ⟨(K · h)⟩ := by
  simp only [pop, qp]
  cases evs e args.toList with
  | none => rfl
  | some l =>
    match l with
    | [] => rfl
    | [x] => cases x <;> rfl
    | [x, y] =>
      cases x <;> cases y <;> first | rfl | skip
      rename_i k a k' b
      by_cases hk : k = k'
      · subst hk; simp [oMx]
      · simp [oMx, hk, qbw]
    | x :: y :: _ :: _ => cases x <;> cases y <;> rfl
def oA (o : Option (Prop × Value × List PO)) [c : KVH] : Prop := match o with
  | some (p, v, h') => p ∧ c.k v h'
  | none => False
theorem oA_some (p : Prop) (v : Value) (h' : List PO) (K : Value → List PO → Prop) : @oA (some (p, v, h')) ⟨K⟩ = (p ∧ K v h') := propext ⟨id, id⟩
def qbw' (P : Program) (h : List PO) (b : Builtin) (tys : List TypeId) : Option (List Value) → Option (Prop × Value × List PO)
  | some as => qbw P h b tys as
  | none => none
theorem pop_append {P : Program} {e : Env} {h : List PO} {K Kp : Value → List PO → Prop} {args : Array Operand} {tys : Array TypeId} : pop P (.call { callee := .builtin .append, args, argTypes := tys }) e h K Kp = @oA (qbw' P h .append tys.toList (evs e args.toList)) ⟨K⟩ := by
  simp only [pop, qp]
  cases evs e args.toList <;> rfl
theorem pop_copy {P : Program} {e : Env} {h : List PO} {K Kp : Value → List PO → Prop} {args : Array Operand} {tys : Array TypeId} : pop P (.call { callee := .builtin .copy, args, argTypes := tys }) e h K Kp = @oA (qbw' P h .copy tys.toList (evs e args.toList)) ⟨K⟩ := by
  simp only [pop, qp]
  cases evs e args.toList <;> rfl
theorem qbw_append {P : Program} {h : List PO} {t tx : TypeId} {s x : Value} : qbw' P h .append [t, tx] (some [s, x]) = qappend P h t tx s x := by unfold qbw'; rfl
attribute [simp↓] pop_max pop_min pop_append pop_copy
attribute [simp] oMx_some oA_some qbw_append
theorem RN_int {ρ : Nat → Option Nat} {k n} : RN ρ (.int k n) (.int k n) = True := eq_true (.int k n)
theorem RN_bool {ρ : Nat → Option Nat} {b} : RN ρ (.bool b) (.bool b) = True := eq_true (.bool b)
theorem RN_str {ρ : Nat → Option Nat} {s} : RN ρ (.string s) (.string s) = True := eq_true (.str s)
theorem RN_snil {ρ : Nat → Option Nat} : RN ρ (.slice none 0 0) (.slice none 0 0) = True := eq_true .snil
theorem RN_ptr {ρ : Nat → Option Nat} {b c o : Nat} : RN ρ (.pointer (some ⟨b, o, none⟩)) (.pointer (some ⟨c, o, none⟩)) = (ρ b = some c) := propext ⟨fun h => by cases h; assumption, fun h => .ptr o h⟩
theorem RN_sl {ρ : Nat → Option Nat} {b c o n m : Nat} {sp : Option Nat} : RN ρ (.slice (some ⟨b, o, sp⟩) n m) (.slice (some ⟨c, o, sp⟩) n m) = (ρ b = some c) := propext ⟨fun h => by cases h; assumption, fun h => .sl o sp n m h⟩
theorem RN_flat {ρ : Nat → Option Nat} {v : Value} (h : flat 6 v = true) : RN ρ v v = True := eq_true (RN.of_flat h)
theorem ORN_ro {ρ : Nat → Option Nat} {a b : List Value} : ORN ρ (.ro a) (.ro b) = RNs ρ a b := propext ⟨id, id⟩
theorem ORN_rw {ρ : Nat → Option Nat} {a b : List Value} : ORN ρ (.rw a) (.rw b) = RNs ρ a b := propext ⟨id, id⟩
theorem ORN_gr {ρ : Nat → Option Nat} {a b : List Value} : ORN ρ (.gr a) (.gr b) = RNs ρ a b := propext ⟨id, id⟩
theorem RNs_flat {ρ : Nat → Option Nat} {a : List Value} (h : a.all (flat 6) = true) : RNs ρ a a = True := eq_true (RNs.of_flat fun v hv => ⟨6, List.all_eq_true.1 h v hv⟩)
theorem RNs_nil {ρ : Nat → Option Nat} : RNs ρ [] [] = True := eq_true RNs.nil
theorem RNs_cons {ρ : Nat → Option Nat} {a b : Value} {l m : List Value} : RNs ρ (a :: l) (b :: m) = (RN ρ a b ∧ RNs ρ l m) := propext ⟨fun h => ⟨h.2 0 a b rfl rfl, by have := h.1; simpa using this, fun i v v' h1 h2 => h.2 (i + 1) v v' (by simpa using h1) (by simpa using h2)⟩, fun h => .cons h.1 h.2⟩
attribute [simp] objsOk envOk RN_int RN_bool RN_str RN_snil RN_ptr RN_sl ORN_ro ORN_rw ORN_gr RNs_nil RNs_cons
theorem pd_if {P : Program} {e : Env} {h : List PO} {ops : Array Oper} {K : Env → List PO → List (Nat × Nat × List Value) → Prop} {dst op type pos after} {j : Nat} {want : Bool} {os : List Oper} {ws} : pd P ops K ({ dst, op, type, pos, after, guard := some (j, want) } :: os) e h ws = @oG (((ops[j]?).bind (·.dst)).bind fun d => e.get d) want ⟨fun _ => dop P op e h fun r => pd P ops K os (e.putO dst r.v) (h ++ r.ns) (ws ++ r.ws), fun _ => pd P ops K os (e.putO dst undef) h ws⟩ := by
  cases h1 : (ops[j]?).bind (·.dst) with
  | none => simp only [pd, h1, Option.bind_none]; rfl
  | some d =>
    cases h2 : e.get d with
    | none => simp only [pd, h1, h2, Option.bind_some]; rfl
    | some v =>
      cases v
      case bool b =>
        simp only [pd, h1, h2, oG, Option.bind_some]
        split
        · rename_i hb; exact propext ⟨fun x => x.1 hb, fun x => ⟨fun _ => x, fun y => (y hb).elim⟩⟩
        · rename_i hb; exact propext ⟨fun x => x.2 hb, fun x => ⟨fun y => (hb y).elim, fun _ => x⟩⟩
      all_goals (simp only [pd, h1, h2, Option.bind_some]; rfl)
attribute [simp↓] pd_if
@[simp] theorem wrap_i64_in {n : Int} (h : -9223372036854775808 ≤ n) (h2 : n ≤ 9223372036854775807) : IntKind.i64.wrap n = n := by rw [IntKind.wrap_i64]; omega
@[simp] theorem wrap_i32_in {n : Int} (h : -2147483648 ≤ n) (h2 : n ≤ 2147483647) : IntKind.i32.wrap n = n := by rw [IntKind.wrap_i32]; omega
@[simp] theorem wrap_u8_in {n : Int} (h : 0 ≤ n) (h2 : n ≤ 255) : IntKind.u8.wrap n = n := by rw [IntKind.wrap_u8]; omega
@[simp] theorem wrap_u16_in {n : Int} (h : 0 ≤ n) (h2 : n ≤ 65535) : IntKind.u16.wrap n = n := by rw [IntKind.wrap_u16]; omega
theorem rep_zero (cs : List Value) : rep 0 cs = [] := by unfold rep; simp
theorem rep_succ (n : Nat) (cs : List Value) : rep (n + 1) cs = cs ++ rep n cs := by unfold rep; simp [List.replicate_succ]
end Go.Proofs.YtjopikjefpenkaaDoor

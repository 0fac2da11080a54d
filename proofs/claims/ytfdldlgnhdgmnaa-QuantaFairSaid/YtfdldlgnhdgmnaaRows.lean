/-
  No cell of these rows narrows 'for every input' (looked for: loops, veiled, ifaces, maps, wideKeys, modest, calm, conditions, laid).
  DERIVED. THE GIVEN ROWS OF THIS SEAT. 7 by the template 'for every input the law returns true; each argument reads behind the call as it read before'; 0 by the template 'total and deterministic' (their statements: YtfdldlgnhdgmnaaTotals.lean).
  GIVEN WITH THE SEED: the statements are not yours to turn. If you find one false, say at which input.
  Laid BY PROGRAM, IN A SANDBOX (cutbox-rows.mjs): the forced cells as the released guide's own fill.sh prints them over the translation aef5b0ba9de13a5b… (all of the seat's roots in one cut). By AI agents, Wed Nov 11 2026. No macro, syntax, notation, axiom, sorry.
-/
import Derived.Test.YtfdldlgnhdgmnaaChecked
import GoSem.Claim
import GoSem.ClaimJoined
import GoSem.ClaimMapViews
import Derived.JoinedTies
import Derived.KernelRfl
namespace Go.Proofs.Ytfdldlgnhdgmnaa
/- THE CELL 'sum', in the pinned program and in every row, IS THE sha256 OF THE DUMP (.gsa) THAT YtfdldlgnhdgmnaaProg.lean LOADS. Nothing in Lean hashes anything: it is a label: what it is worth is what the hold of that sum in a sandbox is worth. -/
noncomputable def Try.pinned : Pinned := { name := "ytfdldlgnhdgmnaa", sum := "aef5b0ba9de13a5bb0e13e19acb8bcfae5d58c667871d7d94b6dcd074d381944", checked := Try.checked }
namespace Rows
def none {H : Type} : Left H := { results := [], args := [] }

/-- 'embrasurelaw11.QuantaCosts': WHATEVER THE INPUT: true; the input reads as it did. -/
def quantaCostsSpec : ChangeSpec := { name := "quantaCosts", fn := fun _ => fun
  | [d1, d2] => { results := [.lit (.bool true)], args := [d1, d2] }
  | _ => none }
def quantaCostsRow : OpenClaim := { program := "ytfdldlgnhdgmnaa", sum := "aef5b0ba9de13a5bb0e13e19acb8bcfae5d58c667871d7d94b6dcd074d381944", func := "embrasure/embrasurelaw11.QuantaCosts", spec := "quantaCosts", unfollowed := true, recurses := true, apart := false }
def QuantaCostsSaid : Prop := quantaCostsRow.holds Try.pinned (OpenSpec.ofChange quantaCostsSpec)

/-- ITS FALSE NEIGHBOUR: 'it returns false'. Refute it at one input. -/
def quantaCostsWrong : ChangeSpec := { name := "quantaCosts", fn := fun _ => fun
  | [d1, d2] => { results := [.lit (.bool false)], args := [d1, d2] }
  | _ => none }
def QuantaCostsWrongFalsely : Prop := quantaCostsRow.holds Try.pinned (OpenSpec.ofChange quantaCostsWrong)

/-- 'embrasurelaw11.QuantaFair': WHATEVER THE INPUT: true; the input reads as it did. -/
def quantaFairSpec : ChangeSpec := { name := "quantaFair", fn := fun _ => fun
  | [d1, d2] => { results := [.lit (.bool true)], args := [d1, d2] }
  | _ => none }
def quantaFairRow : OpenClaim := { program := "ytfdldlgnhdgmnaa", sum := "aef5b0ba9de13a5bb0e13e19acb8bcfae5d58c667871d7d94b6dcd074d381944", func := "embrasure/embrasurelaw11.QuantaFair", spec := "quantaFair", unfollowed := true, recurses := true, apart := false }
def QuantaFairSaid : Prop := quantaFairRow.holds Try.pinned (OpenSpec.ofChange quantaFairSpec)

/-- ITS FALSE NEIGHBOUR: 'it returns false'. Refute it at one input. -/
def quantaFairWrong : ChangeSpec := { name := "quantaFair", fn := fun _ => fun
  | [d1, d2] => { results := [.lit (.bool false)], args := [d1, d2] }
  | _ => none }
def QuantaFairWrongFalsely : Prop := quantaFairRow.holds Try.pinned (OpenSpec.ofChange quantaFairWrong)

/-- 'embrasurelaw11.QuantaOnce': WHATEVER THE INPUT: true; the input reads as it did. -/
def quantaOnceSpec : ChangeSpec := { name := "quantaOnce", fn := fun _ => fun
  | [d1, d2] => { results := [.lit (.bool true)], args := [d1, d2] }
  | _ => none }
def quantaOnceRow : OpenClaim := { program := "ytfdldlgnhdgmnaa", sum := "aef5b0ba9de13a5bb0e13e19acb8bcfae5d58c667871d7d94b6dcd074d381944", func := "embrasure/embrasurelaw11.QuantaOnce", spec := "quantaOnce", unfollowed := true, recurses := true, apart := false }
def QuantaOnceSaid : Prop := quantaOnceRow.holds Try.pinned (OpenSpec.ofChange quantaOnceSpec)

/-- ITS FALSE NEIGHBOUR: 'it returns false'. Refute it at one input. -/
def quantaOnceWrong : ChangeSpec := { name := "quantaOnce", fn := fun _ => fun
  | [d1, d2] => { results := [.lit (.bool false)], args := [d1, d2] }
  | _ => none }
def QuantaOnceWrongFalsely : Prop := quantaOnceRow.holds Try.pinned (OpenSpec.ofChange quantaOnceWrong)

/-- 'embrasurelaw11.QuantaOut': WHATEVER THE INPUT: true; the input reads as it did. -/
def quantaOutSpec : ChangeSpec := { name := "quantaOut", fn := fun _ => fun
  | [d1, d2, d3] => { results := [.lit (.bool true)], args := [d1, d2, d3] }
  | _ => none }
def quantaOutRow : OpenClaim := { program := "ytfdldlgnhdgmnaa", sum := "aef5b0ba9de13a5bb0e13e19acb8bcfae5d58c667871d7d94b6dcd074d381944", func := "embrasure/embrasurelaw11.QuantaOut", spec := "quantaOut", unfollowed := true, recurses := true, apart := false }
def QuantaOutSaid : Prop := quantaOutRow.holds Try.pinned (OpenSpec.ofChange quantaOutSpec)

/-- ITS FALSE NEIGHBOUR: 'it returns false'. Refute it at one input. -/
def quantaOutWrong : ChangeSpec := { name := "quantaOut", fn := fun _ => fun
  | [d1, d2, d3] => { results := [.lit (.bool false)], args := [d1, d2, d3] }
  | _ => none }
def QuantaOutWrongFalsely : Prop := quantaOutRow.holds Try.pinned (OpenSpec.ofChange quantaOutWrong)

/-- 'embrasurelaw11.QuantaPlays': WHATEVER THE INPUT: true; the input reads as it did. -/
def quantaPlaysSpec : ChangeSpec := { name := "quantaPlays", fn := fun _ => fun
  | [d] => { results := [.lit (.bool true)], args := [d] }
  | _ => none }
def quantaPlaysRow : OpenClaim := { program := "ytfdldlgnhdgmnaa", sum := "aef5b0ba9de13a5bb0e13e19acb8bcfae5d58c667871d7d94b6dcd074d381944", func := "embrasure/embrasurelaw11.QuantaPlays", spec := "quantaPlays", unfollowed := true, recurses := true, apart := false }
def QuantaPlaysSaid : Prop := quantaPlaysRow.holds Try.pinned (OpenSpec.ofChange quantaPlaysSpec)

/-- ITS FALSE NEIGHBOUR: 'it returns false'. Refute it at one input. -/
def quantaPlaysWrong : ChangeSpec := { name := "quantaPlays", fn := fun _ => fun
  | [d] => { results := [.lit (.bool false)], args := [d] }
  | _ => none }
def QuantaPlaysWrongFalsely : Prop := quantaPlaysRow.holds Try.pinned (OpenSpec.ofChange quantaPlaysWrong)

/-- 'embrasurelaw11.QuantaForks': WHATEVER THE INPUT: true; the input reads as it did. -/
def quantaForksSpec : ChangeSpec := { name := "quantaForks", fn := fun _ => fun
  | [d1, d2] => { results := [.lit (.bool true)], args := [d1, d2] }
  | _ => none }
def quantaForksRow : OpenClaim := { program := "ytfdldlgnhdgmnaa", sum := "aef5b0ba9de13a5bb0e13e19acb8bcfae5d58c667871d7d94b6dcd074d381944", func := "embrasure/embrasurelaw11.QuantaForks", spec := "quantaForks", unfollowed := true, recurses := true, apart := false }
def QuantaForksSaid : Prop := quantaForksRow.holds Try.pinned (OpenSpec.ofChange quantaForksSpec)

/-- ITS FALSE NEIGHBOUR: 'it returns false'. Refute it at one input. -/
def quantaForksWrong : ChangeSpec := { name := "quantaForks", fn := fun _ => fun
  | [d1, d2] => { results := [.lit (.bool false)], args := [d1, d2] }
  | _ => none }
def QuantaForksWrongFalsely : Prop := quantaForksRow.holds Try.pinned (OpenSpec.ofChange quantaForksWrong)

/-- 'embrasurelaw11.QuantaNone': WHATEVER THE INPUT: true; the input reads as it did. -/
def quantaNoneSpec : ChangeSpec := { name := "quantaNone", fn := fun _ => fun
  | [d] => { results := [.lit (.bool true)], args := [d] }
  | _ => none }
def quantaNoneRow : OpenClaim := { program := "ytfdldlgnhdgmnaa", sum := "aef5b0ba9de13a5bb0e13e19acb8bcfae5d58c667871d7d94b6dcd074d381944", func := "embrasure/embrasurelaw11.QuantaNone", spec := "quantaNone", unfollowed := true, recurses := true, apart := false }
def QuantaNoneSaid : Prop := quantaNoneRow.holds Try.pinned (OpenSpec.ofChange quantaNoneSpec)

/-- ITS FALSE NEIGHBOUR: 'it returns false'. Refute it at one input. -/
def quantaNoneWrong : ChangeSpec := { name := "quantaNone", fn := fun _ => fun
  | [d] => { results := [.lit (.bool false)], args := [d] }
  | _ => none }
def QuantaNoneWrongFalsely : Prop := quantaNoneRow.holds Try.pinned (OpenSpec.ofChange quantaNoneWrong)

/- THE SECOND FORM. 'bulk': how many values and letters a reading holds, each counted each time it is reached (what is shared counts as often as it is met; a slice's spare places count too). A statement '..UptoSaid' is the law's where the arguments, and the package variables that the reading takes, are together of bulk at most 1048576: NARROWER than '..Said'. Prove '..Said' where nothing that the law and all that it calls make is longer than what came in: it says more and counts as full. Else prove '..UptoSaid'. A law counts once. -/
mutual
def uptoBulk {H : Type} : DataW H → Nat
  | .lit (.string bytes) => bytes.length + 1
  | .lit _ => 1
  | .nil => 1
  | .ptr d => uptoBulk d + 1
  | .slice elems spare => uptoBulkAll elems + uptoBulkAll spare + 1
  | .agg parts => uptoBulkAll parts + 1
  | .iface _ d => uptoBulk d + 1
  | .map entries => uptoBulkEntries entries + 1
  | .held _ => 1
def uptoBulkAll {H : Type} : List (DataW H) → Nat
  | [] => 0
  | d :: r => uptoBulk d + uptoBulkAll r
def uptoBulkEntries {H : Type} : List (Lit × DataW H) → Nat
  | [] => 0
  | x :: r => uptoBulkEntry x + uptoBulkEntries r
def uptoBulkEntry {H : Type} : Lit × DataW H → Nat
  | (.string bytes, d) => bytes.length + uptoBulk d + 1
  | (_, d) => uptoBulk d + 1
 end
def uptoSmall : (H : Type) → List (DataW H) → Bool := fun _ ds => decide (uptoBulkAll ds ≤ 1048576)
def OpenSpec.upto (s : _root_.Go.ChangeSpec) : _root_.Go.OpenSpec := { _root_.Go.OpenSpec.ofChange s with cond := some uptoSmall }

/-- 'embrasurelaw11.QuantaCosts', WHERE WHAT IT READS IS OF BULK AT MOST 1048576: true; the input reads as it did. -/
def quantaCostsUptoRow : OpenClaim := { program := "ytfdldlgnhdgmnaa", sum := "aef5b0ba9de13a5bb0e13e19acb8bcfae5d58c667871d7d94b6dcd074d381944", func := "embrasure/embrasurelaw11.QuantaCosts", spec := "quantaCosts", unfollowed := true, recurses := true, apart := false, narrowed := true }
def QuantaCostsUptoSaid : Prop := quantaCostsUptoRow.holds Try.pinned (OpenSpec.upto quantaCostsSpec)

/-- 'embrasurelaw11.QuantaFair', WHERE WHAT IT READS IS OF BULK AT MOST 1048576: true; the input reads as it did. -/
def quantaFairUptoRow : OpenClaim := { program := "ytfdldlgnhdgmnaa", sum := "aef5b0ba9de13a5bb0e13e19acb8bcfae5d58c667871d7d94b6dcd074d381944", func := "embrasure/embrasurelaw11.QuantaFair", spec := "quantaFair", unfollowed := true, recurses := true, apart := false, narrowed := true }
def QuantaFairUptoSaid : Prop := quantaFairUptoRow.holds Try.pinned (OpenSpec.upto quantaFairSpec)

/-- 'embrasurelaw11.QuantaOnce', WHERE WHAT IT READS IS OF BULK AT MOST 1048576: true; the input reads as it did. -/
def quantaOnceUptoRow : OpenClaim := { program := "ytfdldlgnhdgmnaa", sum := "aef5b0ba9de13a5bb0e13e19acb8bcfae5d58c667871d7d94b6dcd074d381944", func := "embrasure/embrasurelaw11.QuantaOnce", spec := "quantaOnce", unfollowed := true, recurses := true, apart := false, narrowed := true }
def QuantaOnceUptoSaid : Prop := quantaOnceUptoRow.holds Try.pinned (OpenSpec.upto quantaOnceSpec)

/-- 'embrasurelaw11.QuantaOut', WHERE WHAT IT READS IS OF BULK AT MOST 1048576: true; the input reads as it did. -/
def quantaOutUptoRow : OpenClaim := { program := "ytfdldlgnhdgmnaa", sum := "aef5b0ba9de13a5bb0e13e19acb8bcfae5d58c667871d7d94b6dcd074d381944", func := "embrasure/embrasurelaw11.QuantaOut", spec := "quantaOut", unfollowed := true, recurses := true, apart := false, narrowed := true }
def QuantaOutUptoSaid : Prop := quantaOutUptoRow.holds Try.pinned (OpenSpec.upto quantaOutSpec)

/-- 'embrasurelaw11.QuantaPlays', WHERE WHAT IT READS IS OF BULK AT MOST 1048576: true; the input reads as it did. -/
def quantaPlaysUptoRow : OpenClaim := { program := "ytfdldlgnhdgmnaa", sum := "aef5b0ba9de13a5bb0e13e19acb8bcfae5d58c667871d7d94b6dcd074d381944", func := "embrasure/embrasurelaw11.QuantaPlays", spec := "quantaPlays", unfollowed := true, recurses := true, apart := false, narrowed := true }
def QuantaPlaysUptoSaid : Prop := quantaPlaysUptoRow.holds Try.pinned (OpenSpec.upto quantaPlaysSpec)

/-- 'embrasurelaw11.QuantaForks', WHERE WHAT IT READS IS OF BULK AT MOST 1048576: true; the input reads as it did. -/
def quantaForksUptoRow : OpenClaim := { program := "ytfdldlgnhdgmnaa", sum := "aef5b0ba9de13a5bb0e13e19acb8bcfae5d58c667871d7d94b6dcd074d381944", func := "embrasure/embrasurelaw11.QuantaForks", spec := "quantaForks", unfollowed := true, recurses := true, apart := false, narrowed := true }
def QuantaForksUptoSaid : Prop := quantaForksUptoRow.holds Try.pinned (OpenSpec.upto quantaForksSpec)

/-- 'embrasurelaw11.QuantaNone', WHERE WHAT IT READS IS OF BULK AT MOST 1048576: true; the input reads as it did. -/
def quantaNoneUptoRow : OpenClaim := { program := "ytfdldlgnhdgmnaa", sum := "aef5b0ba9de13a5bb0e13e19acb8bcfae5d58c667871d7d94b6dcd074d381944", func := "embrasure/embrasurelaw11.QuantaNone", spec := "quantaNone", unfollowed := true, recurses := true, apart := false, narrowed := true }
def QuantaNoneUptoSaid : Prop := quantaNoneUptoRow.holds Try.pinned (OpenSpec.upto quantaNoneSpec)

end Rows
end Go.Proofs.Ytfdldlgnhdgmnaa

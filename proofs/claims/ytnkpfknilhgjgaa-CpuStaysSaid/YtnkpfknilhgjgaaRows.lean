/-
  No cell of these rows narrows 'for every input' (looked for: loops, veiled, ifaces, maps, wideKeys, modest, calm, conditions, laid).
  DERIVED. THE GIVEN ROWS OF THIS SEAT. 7 by the template 'for every input the law returns true; each argument reads behind the call as it read before'; 0 by the template 'total and deterministic' (their statements: YtnkpfknilhgjgaaTotals.lean).
  GIVEN WITH THE SEED: the statements are not yours to turn. If you find one false, say at which input.
  Laid BY PROGRAM, IN A SANDBOX (cutbox-rows.mjs): the forced cells as the released guide's own fill.sh prints them over the translation ac5c926b81847457… (all of the seat's roots in one cut). By AI agents, Wed Nov 11 2026. No macro, syntax, notation, axiom, sorry.
-/
import Derived.Test.YtnkpfknilhgjgaaChecked
import GoSem.Claim
import GoSem.ClaimJoined
import GoSem.ClaimMapViews
import Derived.JoinedTies
import Derived.KernelRfl
namespace Go.Proofs.Ytnkpfknilhgjgaa
/- THE CELL 'sum', in the pinned program and in every row, IS THE sha256 OF THE DUMP (.gsa) THAT YtnkpfknilhgjgaaProg.lean LOADS. Nothing in Lean hashes anything: it is a label: what it is worth is what the hold of that sum in a sandbox is worth. -/
noncomputable def Try.pinned : Pinned := { name := "ytnkpfknilhgjgaa", sum := "ac5c926b8184745778a1d28e5773f099cf017ec15b94bf3e5010d05913bd92c2", checked := Try.checked }
namespace Rows
def none {H : Type} : Left H := { results := [], args := [] }

/-- 'embrasurelaw05.CpuExecs': WHATEVER THE INPUT: true; the input reads as it did. -/
def cpuExecsSpec : ChangeSpec := { name := "cpuExecs", fn := fun _ => fun
  | [d1, d2] => { results := [.lit (.bool true)], args := [d1, d2] }
  | _ => none }
def cpuExecsRow : OpenClaim := { program := "ytnkpfknilhgjgaa", sum := "ac5c926b8184745778a1d28e5773f099cf017ec15b94bf3e5010d05913bd92c2", func := "embrasure/embrasurelaw05.CpuExecs", spec := "cpuExecs", inPlace := ["internal/abi.NoEscape", "internal/bytealg.MakeNoZero"], apart := false }
def CpuExecsSaid : Prop := cpuExecsRow.holds Try.pinned (OpenSpec.ofChange cpuExecsSpec)

/-- ITS FALSE NEIGHBOUR: 'it returns false'. Refute it at one input. -/
def cpuExecsWrong : ChangeSpec := { name := "cpuExecs", fn := fun _ => fun
  | [d1, d2] => { results := [.lit (.bool false)], args := [d1, d2] }
  | _ => none }
def CpuExecsWrongFalsely : Prop := cpuExecsRow.holds Try.pinned (OpenSpec.ofChange cpuExecsWrong)

/-- 'embrasurelaw05.CpuRuns': WHATEVER THE INPUT: true; the input reads as it did. -/
def cpuRunsSpec : ChangeSpec := { name := "cpuRuns", fn := fun _ => fun
  | [d1, d2, d3] => { results := [.lit (.bool true)], args := [d1, d2, d3] }
  | _ => none }
def cpuRunsRow : OpenClaim := { program := "ytnkpfknilhgjgaa", sum := "ac5c926b8184745778a1d28e5773f099cf017ec15b94bf3e5010d05913bd92c2", func := "embrasure/embrasurelaw05.CpuRuns", spec := "cpuRuns", inPlace := ["internal/abi.NoEscape", "internal/bytealg.MakeNoZero"], apart := false }
def CpuRunsSaid : Prop := cpuRunsRow.holds Try.pinned (OpenSpec.ofChange cpuRunsSpec)

/-- ITS FALSE NEIGHBOUR: 'it returns false'. Refute it at one input. -/
def cpuRunsWrong : ChangeSpec := { name := "cpuRuns", fn := fun _ => fun
  | [d1, d2, d3] => { results := [.lit (.bool false)], args := [d1, d2, d3] }
  | _ => none }
def CpuRunsWrongFalsely : Prop := cpuRunsRow.holds Try.pinned (OpenSpec.ofChange cpuRunsWrong)

/-- 'embrasurelaw05.CpuJoins': WHATEVER THE INPUT: true; the input reads as it did. -/
def cpuJoinsSpec : ChangeSpec := { name := "cpuJoins", fn := fun _ => fun
  | [d1, d2, d3] => { results := [.lit (.bool true)], args := [d1, d2, d3] }
  | _ => none }
def cpuJoinsRow : OpenClaim := { program := "ytnkpfknilhgjgaa", sum := "ac5c926b8184745778a1d28e5773f099cf017ec15b94bf3e5010d05913bd92c2", func := "embrasure/embrasurelaw05.CpuJoins", spec := "cpuJoins", inPlace := ["internal/abi.NoEscape", "internal/bytealg.MakeNoZero"], apart := false }
def CpuJoinsSaid : Prop := cpuJoinsRow.holds Try.pinned (OpenSpec.ofChange cpuJoinsSpec)

/-- ITS FALSE NEIGHBOUR: 'it returns false'. Refute it at one input. -/
def cpuJoinsWrong : ChangeSpec := { name := "cpuJoins", fn := fun _ => fun
  | [d1, d2, d3] => { results := [.lit (.bool false)], args := [d1, d2, d3] }
  | _ => none }
def CpuJoinsWrongFalsely : Prop := cpuJoinsRow.holds Try.pinned (OpenSpec.ofChange cpuJoinsWrong)

/-- 'embrasurelaw05.CpuLoads': WHATEVER THE INPUT: true; the input reads as it did. -/
def cpuLoadsSpec : ChangeSpec := { name := "cpuLoads", fn := fun _ => fun
  | [d1, d2, d3] => { results := [.lit (.bool true)], args := [d1, d2, d3] }
  | _ => none }
def cpuLoadsRow : OpenClaim := { program := "ytnkpfknilhgjgaa", sum := "ac5c926b8184745778a1d28e5773f099cf017ec15b94bf3e5010d05913bd92c2", func := "embrasure/embrasurelaw05.CpuLoads", spec := "cpuLoads", inPlace := ["internal/abi.NoEscape", "internal/bytealg.MakeNoZero"], apart := false }
def CpuLoadsSaid : Prop := cpuLoadsRow.holds Try.pinned (OpenSpec.ofChange cpuLoadsSpec)

/-- ITS FALSE NEIGHBOUR: 'it returns false'. Refute it at one input. -/
def cpuLoadsWrong : ChangeSpec := { name := "cpuLoads", fn := fun _ => fun
  | [d1, d2, d3] => { results := [.lit (.bool false)], args := [d1, d2, d3] }
  | _ => none }
def CpuLoadsWrongFalsely : Prop := cpuLoadsRow.holds Try.pinned (OpenSpec.ofChange cpuLoadsWrong)

/-- 'embrasurelaw05.CpuStays': WHATEVER THE INPUT: true; the input reads as it did. -/
def cpuStaysSpec : ChangeSpec := { name := "cpuStays", fn := fun _ => fun
  | [d1, d2] => { results := [.lit (.bool true)], args := [d1, d2] }
  | _ => none }
def cpuStaysRow : OpenClaim := { program := "ytnkpfknilhgjgaa", sum := "ac5c926b8184745778a1d28e5773f099cf017ec15b94bf3e5010d05913bd92c2", func := "embrasure/embrasurelaw05.CpuStays", spec := "cpuStays", inPlace := ["internal/abi.NoEscape", "internal/bytealg.MakeNoZero"], recurses := true, apart := false }
def CpuStaysSaid : Prop := cpuStaysRow.holds Try.pinned (OpenSpec.ofChange cpuStaysSpec)

/-- ITS FALSE NEIGHBOUR: 'it returns false'. Refute it at one input. -/
def cpuStaysWrong : ChangeSpec := { name := "cpuStays", fn := fun _ => fun
  | [d1, d2] => { results := [.lit (.bool false)], args := [d1, d2] }
  | _ => none }
def CpuStaysWrongFalsely : Prop := cpuStaysRow.holds Try.pinned (OpenSpec.ofChange cpuStaysWrong)

/-- 'embrasurelaw05.CpuHangs': WHATEVER THE INPUT: true; the input reads as it did. -/
def cpuHangsSpec : ChangeSpec := { name := "cpuHangs", fn := fun _ => fun
  | [d1, d2, d3] => { results := [.lit (.bool true)], args := [d1, d2, d3] }
  | _ => none }
def cpuHangsRow : OpenClaim := { program := "ytnkpfknilhgjgaa", sum := "ac5c926b8184745778a1d28e5773f099cf017ec15b94bf3e5010d05913bd92c2", func := "embrasure/embrasurelaw05.CpuHangs", spec := "cpuHangs", inPlace := ["internal/abi.NoEscape", "internal/bytealg.MakeNoZero"], recurses := true, apart := false }
def CpuHangsSaid : Prop := cpuHangsRow.holds Try.pinned (OpenSpec.ofChange cpuHangsSpec)

/-- ITS FALSE NEIGHBOUR: 'it returns false'. Refute it at one input. -/
def cpuHangsWrong : ChangeSpec := { name := "cpuHangs", fn := fun _ => fun
  | [d1, d2, d3] => { results := [.lit (.bool false)], args := [d1, d2, d3] }
  | _ => none }
def CpuHangsWrongFalsely : Prop := cpuHangsRow.holds Try.pinned (OpenSpec.ofChange cpuHangsWrong)

/-- 'embrasurelaw05.CpuRight': WHATEVER THE INPUT: true; the input reads as it did. -/
def cpuRightSpec : ChangeSpec := { name := "cpuRight", fn := fun _ => fun
  | [d1, d2] => { results := [.lit (.bool true)], args := [d1, d2] }
  | _ => none }
def cpuRightRow : OpenClaim := { program := "ytnkpfknilhgjgaa", sum := "ac5c926b8184745778a1d28e5773f099cf017ec15b94bf3e5010d05913bd92c2", func := "embrasure/embrasurelaw05.CpuRight", spec := "cpuRight", inPlace := ["internal/abi.NoEscape", "internal/bytealg.MakeNoZero"], recurses := true, apart := false }
def CpuRightSaid : Prop := cpuRightRow.holds Try.pinned (OpenSpec.ofChange cpuRightSpec)

/-- ITS FALSE NEIGHBOUR: 'it returns false'. Refute it at one input. -/
def cpuRightWrong : ChangeSpec := { name := "cpuRight", fn := fun _ => fun
  | [d1, d2] => { results := [.lit (.bool false)], args := [d1, d2] }
  | _ => none }
def CpuRightWrongFalsely : Prop := cpuRightRow.holds Try.pinned (OpenSpec.ofChange cpuRightWrong)

/- THE SECOND FORM. 'bulk': how many values and letters a reading holds, each counted each time it is reached (what is shared counts as often as it is met; a slice's spare places count too). A statement '..UptoSaid' is the law's where the arguments, and the package variables that the reading takes, are together of bulk at most 1048576: NARROWER than '..Said'. Prove '..Said' where nothing that the law and all that it calls make is longer than what came in: it says more and counts as full. Else prove '..UptoSaid'. A law counts once. -/
mutual
def uptoBulk {H : Type} : DataW H → Nat
  | .lit (.string bytes) => bytes.length + 1
  | .lit _ => 1
  | .nil => 1
  | .ptr d => uptoBulk d + 1
  | .slice elems spare => uptoBulkAll elems + uptoBulkAll spare + 1
  | .agg parts => uptoBulkAll parts + 1
  | .iface _ d => uptoBulk d + 1
  | .map entries => uptoBulkEntries entries + 1
  | .held _ => 1
def uptoBulkAll {H : Type} : List (DataW H) → Nat
  | [] => 0
  | d :: r => uptoBulk d + uptoBulkAll r
def uptoBulkEntries {H : Type} : List (Lit × DataW H) → Nat
  | [] => 0
  | x :: r => uptoBulkEntry x + uptoBulkEntries r
def uptoBulkEntry {H : Type} : Lit × DataW H → Nat
  | (.string bytes, d) => bytes.length + uptoBulk d + 1
  | (_, d) => uptoBulk d + 1
 end
def uptoSmall : (H : Type) → List (DataW H) → Bool := fun _ ds => decide (uptoBulkAll ds ≤ 1048576)
def OpenSpec.upto (s : _root_.Go.ChangeSpec) : _root_.Go.OpenSpec := { _root_.Go.OpenSpec.ofChange s with cond := some uptoSmall }

/-- 'embrasurelaw05.CpuExecs', WHERE WHAT IT READS IS OF BULK AT MOST 1048576: true; the input reads as it did. -/
def cpuExecsUptoRow : OpenClaim := { program := "ytnkpfknilhgjgaa", sum := "ac5c926b8184745778a1d28e5773f099cf017ec15b94bf3e5010d05913bd92c2", func := "embrasure/embrasurelaw05.CpuExecs", spec := "cpuExecs", inPlace := ["internal/abi.NoEscape", "internal/bytealg.MakeNoZero"], apart := false, narrowed := true }
def CpuExecsUptoSaid : Prop := cpuExecsUptoRow.holds Try.pinned (OpenSpec.upto cpuExecsSpec)

/-- 'embrasurelaw05.CpuRuns', WHERE WHAT IT READS IS OF BULK AT MOST 1048576: true; the input reads as it did. -/
def cpuRunsUptoRow : OpenClaim := { program := "ytnkpfknilhgjgaa", sum := "ac5c926b8184745778a1d28e5773f099cf017ec15b94bf3e5010d05913bd92c2", func := "embrasure/embrasurelaw05.CpuRuns", spec := "cpuRuns", inPlace := ["internal/abi.NoEscape", "internal/bytealg.MakeNoZero"], apart := false, narrowed := true }
def CpuRunsUptoSaid : Prop := cpuRunsUptoRow.holds Try.pinned (OpenSpec.upto cpuRunsSpec)

/-- 'embrasurelaw05.CpuJoins', WHERE WHAT IT READS IS OF BULK AT MOST 1048576: true; the input reads as it did. -/
def cpuJoinsUptoRow : OpenClaim := { program := "ytnkpfknilhgjgaa", sum := "ac5c926b8184745778a1d28e5773f099cf017ec15b94bf3e5010d05913bd92c2", func := "embrasure/embrasurelaw05.CpuJoins", spec := "cpuJoins", inPlace := ["internal/abi.NoEscape", "internal/bytealg.MakeNoZero"], apart := false, narrowed := true }
def CpuJoinsUptoSaid : Prop := cpuJoinsUptoRow.holds Try.pinned (OpenSpec.upto cpuJoinsSpec)

/-- 'embrasurelaw05.CpuLoads', WHERE WHAT IT READS IS OF BULK AT MOST 1048576: true; the input reads as it did. -/
def cpuLoadsUptoRow : OpenClaim := { program := "ytnkpfknilhgjgaa", sum := "ac5c926b8184745778a1d28e5773f099cf017ec15b94bf3e5010d05913bd92c2", func := "embrasure/embrasurelaw05.CpuLoads", spec := "cpuLoads", inPlace := ["internal/abi.NoEscape", "internal/bytealg.MakeNoZero"], apart := false, narrowed := true }
def CpuLoadsUptoSaid : Prop := cpuLoadsUptoRow.holds Try.pinned (OpenSpec.upto cpuLoadsSpec)

/-- 'embrasurelaw05.CpuStays', WHERE WHAT IT READS IS OF BULK AT MOST 1048576: true; the input reads as it did. -/
def cpuStaysUptoRow : OpenClaim := { program := "ytnkpfknilhgjgaa", sum := "ac5c926b8184745778a1d28e5773f099cf017ec15b94bf3e5010d05913bd92c2", func := "embrasure/embrasurelaw05.CpuStays", spec := "cpuStays", inPlace := ["internal/abi.NoEscape", "internal/bytealg.MakeNoZero"], recurses := true, apart := false, narrowed := true }
def CpuStaysUptoSaid : Prop := cpuStaysUptoRow.holds Try.pinned (OpenSpec.upto cpuStaysSpec)

/-- 'embrasurelaw05.CpuHangs', WHERE WHAT IT READS IS OF BULK AT MOST 1048576: true; the input reads as it did. -/
def cpuHangsUptoRow : OpenClaim := { program := "ytnkpfknilhgjgaa", sum := "ac5c926b8184745778a1d28e5773f099cf017ec15b94bf3e5010d05913bd92c2", func := "embrasure/embrasurelaw05.CpuHangs", spec := "cpuHangs", inPlace := ["internal/abi.NoEscape", "internal/bytealg.MakeNoZero"], recurses := true, apart := false, narrowed := true }
def CpuHangsUptoSaid : Prop := cpuHangsUptoRow.holds Try.pinned (OpenSpec.upto cpuHangsSpec)

/-- 'embrasurelaw05.CpuRight', WHERE WHAT IT READS IS OF BULK AT MOST 1048576: true; the input reads as it did. -/
def cpuRightUptoRow : OpenClaim := { program := "ytnkpfknilhgjgaa", sum := "ac5c926b8184745778a1d28e5773f099cf017ec15b94bf3e5010d05913bd92c2", func := "embrasure/embrasurelaw05.CpuRight", spec := "cpuRight", inPlace := ["internal/abi.NoEscape", "internal/bytealg.MakeNoZero"], recurses := true, apart := false, narrowed := true }
def CpuRightUptoSaid : Prop := cpuRightUptoRow.holds Try.pinned (OpenSpec.upto cpuRightSpec)

end Rows
end Go.Proofs.Ytnkpfknilhgjgaa

/- Whether an instruction is right, as calls of the plain machine. -/
import Derived.Test.YtjopikjefpenkaaG2
import Derived.Test.YtjopikjefpenkaaGv
import Derived.Test.YtjopikjefpenkaaTg
import Derived.Test.YtjopikjefpenkaaG6
set_option linter.unusedSimpArgs false
set_option linter.unusedVariables false
set_option linter.unusedSectionVars false
namespace Go.Proofs.Ytjopikjefpenkaa
open Go.RowKit
theorem fnRight (o a b n : Int) (h0 : 0 ≤ o) : Fn Try.prog 9 [insV o a b n] (.bool (decide (okF o a b n))) := Fn.of_calls (callable Try.func9 rfl (by decide)) rfl rfl fun w _ => right_ok o a b n h0 w
end Go.Proofs.Ytjopikjefpenkaa

/- What this seat's calls know of the world: nothing. -/
import Derived.Test.YtjopikjefpenkaaG2
set_option linter.unusedSimpArgs false
set_option linter.unusedVariables false
set_option linter.unusedSectionVars false
namespace Go.Proofs.Ytjopikjefpenkaa
instance : Inv := ⟨fun _ => True, fun _ => False, fun _ _ _ _ => trivial⟩
end Go.Proofs.Ytjopikjefpenkaa

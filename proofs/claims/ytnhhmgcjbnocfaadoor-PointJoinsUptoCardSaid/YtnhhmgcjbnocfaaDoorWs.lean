/- What the evaluator comes to in these functions. -/
import Derived.Test.YtnhhmgcjbnocfaaDoorW0
import Derived.Test.YtnhhmgcjbnocfaaDoorWvLb
import Derived.KernelRfl
namespace Go.Proofs.YtnhhmgcjbnocfaaDoor.Wa
open Go Go.Weave
set_option maxRecDepth 100000
set_option linter.unusedVariables false
end Go.Proofs.YtnhhmgcjbnocfaaDoor.Wa

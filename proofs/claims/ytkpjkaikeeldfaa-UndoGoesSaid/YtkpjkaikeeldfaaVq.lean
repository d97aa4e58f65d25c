/- Records: right, and the same. -/
import Derived.Test.YtkpjkaikeeldfaaWvLc
import Derived.Test.YtkpjkaikeeldfaaVapi
namespace Go.Proofs.Ytkpjkaikeeldfaa.Wa
open Go Go.Weave
set_option maxRecDepth 100000
set_option linter.unusedSimpArgs false
set_option linter.unusedVariables false
set_option linter.unusedSectionVars false

def rright (k c l p : Int) : Bool := decide (1 ≤ k ∧ k ≤ 9 ∧ 0 ≤ c ∧ c ≤ 3 ∧ 1 ≤ l ∧ l ≤ 2147483647 ∧ 0 ≤ p ∧ p < l)
/-! ### The same record -/
def rsame (a b : Rec) : Bool := a.kind == b.kind && a.chain == b.chain && a.lsn == b.lsn && a.prev == b.prev && a.data == b.data
def rsame' (k c l p : Int) (dt : List UInt8) (k' c' l' p' : Int) (dt' : List UInt8) : Bool := k == k' && c == c' && l == l' && p == p' && dt == dt'
theorem rsame_refl (a : Rec) : rsame a a = true := by simp [rsame]
end Go.Proofs.Ytkpjkaikeeldfaa.Wa

/-
  Proved: what some functions of the program answer, or a law of the evaluator that shows it, one theorem each; its conditions are the hypotheses that stand ahead of it.
-/
import Derived.Test.YtdgodofdnaligaaDoorCK
import Derived.Test.YtdgodofdnaligaaDoorD1
import Derived.KernelRfl
set_option maxRecDepth 100000
set_option maxHeartbeats 4000000
set_option linter.unusedSimpArgs false
set_option linter.unusedVariables false
namespace Go.Sx
open Go.Proofs Sp
theorem size_toList (b : ByteArray) : b.data.toList.length = b.size := by rw [Array.length_toList]; rfl
end Go.Sx

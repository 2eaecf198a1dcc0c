/-
  Proved: what some functions of the program answer, or a law of the evaluator that shows it, one theorem each; its conditions are the hypotheses that stand ahead of it.
-/
import Derived.Test.YtgekmpfoihidpaaGreatDoorG2
import Derived.Test.YtgekmpfoihidpaaGreatDoorNB
import Derived.KernelRfl
import Derived.Test.YtgekmpfoihidpaaGreatDoorK6
import Derived.Test.YtgekmpfoihidpaaGreatDoorPSt
set_option maxRecDepth 100000
set_option maxHeartbeats 4000000
set_option linter.unusedSimpArgs false
set_option linter.unusedVariables false
namespace Go.Sx
open Go.Proofs Sp
end Go.Sx
set_option maxRecDepth 100000
set_option maxHeartbeats 4000000
set_option linter.unusedSimpArgs false
set_option linter.unusedVariables false
namespace Go.Sx
open Go.Proofs Sp
theorem get67 : P.funcs[67]? = some Tryz.f67 := by kernel_rfl
theorem ent67 : entersP P 67 = true := by kernel_rfl
theorem kind_ok (o : Int)  : CallsF P G 67 [int o] (bool (decide (0 ≤ o) && decide (o ≤ 5))) := by
  refine sx_fn (hs := [.br [] []]) ((((decide (o ≥ 0)) = (true)) → ((bool (decide (o ≤ 5))) = (bool (decide (0 ≤ o) && decide (o ≤ 5))))) ∧ (((decide (o ≥ 0)) = (false)) → ((bool false) = (bool (decide (0 ≤ o) && decide (o ≤ 5)))))) get67 ent67 (by kernel_rfl) ?_
  refine ⟨fun hi => ?_, fun hi => ?_⟩
  all_goals first | (simp_all; done) | (simp [V.kind, V.num, V.text, V.items, *]; done)
end Go.Sx
set_option maxRecDepth 100000
set_option maxHeartbeats 4000000
set_option linter.unusedSimpArgs false
set_option linter.unusedVariables false
namespace Go.Sx
open Go.Proofs Sp
end Go.Sx
set_option maxRecDepth 100000
set_option maxHeartbeats 4000000
set_option linter.unusedSimpArgs false
set_option linter.unusedVariables false
namespace Go.Sx
open Go.Proofs Sp
end Go.Sx
set_option maxRecDepth 100000
set_option maxHeartbeats 4000000
set_option linter.unusedSimpArgs false
set_option linter.unusedVariables false
namespace Go.Sx
open Go.Proofs Sp
end Go.Sx
set_option maxRecDepth 100000
set_option maxHeartbeats 4000000
set_option linter.unusedSimpArgs false
set_option linter.unusedVariables false
namespace Go.Sx
open Go.Proofs Sp
end Go.Sx

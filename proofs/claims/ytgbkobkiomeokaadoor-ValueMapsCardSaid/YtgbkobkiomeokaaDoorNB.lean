/-
  Proved: what some functions of the program answer, or a law of the evaluator that shows it, one theorem each; its conditions are the hypotheses that stand ahead of it.
-/
import Derived.Test.YtgbkobkiomeokaaDoorR3
import Derived.KernelRfl
set_option maxRecDepth 100000
set_option maxHeartbeats 4000000
set_option linter.unusedSimpArgs false
set_option linter.unusedVariables false
namespace Go.Sx
open Go.Proofs Sp
end Go.Sx
set_option maxRecDepth 100000
set_option maxHeartbeats 4000000
set_option linter.unusedSimpArgs false
set_option linter.unusedVariables false
namespace Go.Sx
open Go.Proofs Sp
theorem cellsPs_app : ∀ a b : List (V × V), cellsPs (a ++ b) = cellsPs a ++ cellsPs b
  | [], b => rfl
  | x :: a, b => by simp [cellsPs, cellsPs_app a b]
end Go.Sx
set_option linter.unusedVariables false
namespace Go.Sx
open Sp
theorem oneF_cellsPs : ∀ L : List (V × V), oneF (cellsPs L)
  | [] => by simp [oneF, cellsPs]
  | v :: L => by
    intro x hx
    simp only [cellsPs, List.flatten_cons, List.mem_append] at hx
    rcases hx with (hx | hx) | hx
    · simp only [cellsP, List.mem_cons, List.not_mem_nil, or_false] at hx
      rcases hx with rfl | rfl | rfl | rfl <;> rfl
    · simp only [cellsP, List.mem_cons, List.not_mem_nil, or_false] at hx
      rcases hx with rfl | rfl | rfl | rfl <;> rfl
    · exact oneF_cellsPs L x hx
theorem cellsPs_take : ∀ (n : Nat) (l : List (V × V)), (cellsPs l).take n = cellsPs (l.take n)
  | 0, l => by simp [cellsPs]
  | n + 1, [] => by simp [cellsPs]
  | n + 1, x :: l => by simp [cellsPs, cellsPs_take n l]
theorem cellsPs_drop : ∀ (n : Nat) (l : List (V × V)), (cellsPs l).drop n = cellsPs (l.drop n)
  | 0, l => by simp
  | n + 1, [] => by simp [cellsPs]
  | n + 1, x :: l => by simp [cellsPs, cellsPs_drop n l]
end Go.Sx

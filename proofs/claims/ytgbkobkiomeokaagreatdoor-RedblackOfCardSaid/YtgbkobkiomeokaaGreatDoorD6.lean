/-
  Proved: what some functions of the program answer, or a law of the evaluator that shows it, one theorem each; its conditions are the hypotheses that stand ahead of it.
-/
import Derived.Test.YtgbkobkiomeokaaGreatDoorD4
import Derived.KernelRfl
set_option maxRecDepth 100000
namespace Go.Sx
theorem sx_fnO {Q : Program} {G' : Gr} {f : Nat} {fn : Func} {args : List FV} {hs : List Hint} {e sz : Nat} {es : List (List FV)} (OB : Prop) (hf : Q.funcs[f]? = some fn) (he : entersP Q f = true) (ev : evalFnO Q G' fn args hs e sz es = OB) (h : OB) : CallsO Q G' f args e sz es :=
  CallsO_of_evalFnO hf he (by rw [ev]; exact h)
theorem sx_fnW {Q : Program} {G' : Gr} {f : Nat} {fn : Func} {rest : List FV} {hs : List Hint} {e sz : Nat} {es es' : List (List FV)} (OB : Prop) (hf : Q.funcs[f]? = some fn) (he : entersP Q f = true) (ev : evalFnW Q G' fn e sz es rest hs es' none = OB) (h : OB) : CallsW Q G' f e sz es rest es' none :=
  CallsW_of_evalFnW hf he (by rw [ev]; exact h)
end Go.Sx
set_option maxRecDepth 100000
set_option maxHeartbeats 4000000
set_option linter.unusedSimpArgs false
set_option linter.unusedVariables false
namespace Go.Sx
open Go.Proofs Sp
theorem oneF_cellsVs : ∀ l : List V, oneF (cellsVs l)
  | [] => by simp [oneF, cellsVs]
  | v :: l => by
    intro x hx
    simp only [cellsVs, List.flatten_cons, List.mem_append] at hx
    rcases hx with hx | hx
    · rw [cellsP_eq] at hx
      simp only [cellsP, List.mem_cons, List.not_mem_nil, or_false] at hx
      rcases hx with rfl | rfl | rfl | rfl <;> rfl
    · exact oneF_cellsVs l x hx
end Go.Sx
set_option maxRecDepth 100000
set_option maxHeartbeats 4000000
set_option linter.unusedSimpArgs false
set_option linter.unusedVariables false
namespace Go.Sx
open Go.Proofs Sp
section
variable {q : V → V → Bool} {l : List V} {N : Nat}
theorem take_front {α : Type} (a b c : List α) (k : Nat) (h : k ≤ a.length) : (a.take k ++ b ++ c).take k = a.take k := by
  rw [List.append_assoc, List.take_append_of_le_length (by rw [List.length_take]; omega), List.take_take, Nat.min_self]
end
end Go.Sx

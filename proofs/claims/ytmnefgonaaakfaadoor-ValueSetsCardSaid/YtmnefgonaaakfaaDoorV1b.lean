/-
  Proved: what some functions of the program answer, or a law of the evaluator that shows it, one theorem each; its conditions are the hypotheses that stand ahead of it.
-/
import Derived.Test.YtmnefgonaaakfaaDoorD4
set_option maxRecDepth 100000
namespace Go.Sx
theorem sx_fnO {Q : Program} {G' : Gr} {f : Nat} {fn : Func} {args : List FV} {hs : List Hint} {e sz : Nat} {es : List (List FV)} (OB : Prop) (hf : Q.funcs[f]? = some fn) (he : entersP Q f = true) (ev : evalFnO Q G' fn args hs e sz es = OB) (h : OB) : CallsO Q G' f args e sz es :=
  CallsO_of_evalFnO hf he (by rw [ev]; exact h)
theorem sx_fnW {Q : Program} {G' : Gr} {f : Nat} {fn : Func} {rest : List FV} {hs : List Hint} {e sz : Nat} {es es' : List (List FV)} (OB : Prop) (hf : Q.funcs[f]? = some fn) (he : entersP Q f = true) (ev : evalFnW Q G' fn e sz es rest hs es' none = OB) (h : OB) : CallsW Q G' f e sz es rest es' none :=
  CallsW_of_evalFnW hf he (by rw [ev]; exact h)
end Go.Sx

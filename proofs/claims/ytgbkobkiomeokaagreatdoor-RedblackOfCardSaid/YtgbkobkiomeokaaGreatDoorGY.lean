/-
  Proved: what some functions of the program answer, or a law of the evaluator that shows it, one theorem each; its conditions are the hypotheses that stand ahead of it.
-/
import Derived.Test.YtgbkobkiomeokaaGreatDoorG2
import Derived.KernelRfl
set_option maxRecDepth 100000
set_option maxHeartbeats 4000000
set_option linter.unusedSimpArgs false
set_option linter.unusedVariables false
namespace Go.Sx
open Go.Proofs Sp
end Go.Sx
set_option maxRecDepth 100000
set_option maxHeartbeats 4000000
set_option linter.unusedSimpArgs false
set_option linter.unusedVariables false
namespace Go.Sx
open Go.Proofs Sp
end Go.Sx
set_option maxRecDepth 100000
set_option maxHeartbeats 4000000
set_option linter.unusedSimpArgs false
set_option linter.unusedVariables false
namespace Go.Sx
open Go.Proofs Sp
theorem of_kind (o : Int) (l : List (V × V)) (h : o < 0 ∨ 5 < o) : CallsF P G 4 [int o, encPs l] (.tup [.sc (.pointer none), int 4]) := by
  refine sx_fn (hs := [.call (FV.tup [FV.sc (Value.pointer none), int 4]), .dec false, .dec true]) ((CallsF P G 13 [int o] (FV.tup [FV.sc (Value.pointer none), int 4])) ∧ (E (false)) ∧ (E (true)) ∧ E (FV.tup [FV.sc (Value.pointer none), int 4])) get4 ent4 (by kernel_rfl) ?_
  refine ⟨?_, ⟨rfl, ⟨rfl, rfl⟩⟩⟩
  all_goals exact new_bad _ h
theorem of_wrong (o e : Int) (l : List (V × V)) (ho : 0 ≤ o ∧ o ≤ 5) (he : e ≠ 0) (h : CallsF P G 14 [encPs l] (int e)) : CallsF P G 4 [int o, encPs l] (.tup [.sc (.pointer none), int e]) := by
  refine sx_fn (hs := [.call (FV.tup [encM o 0 T.nil, int 0]), .dec true, .call (int e), .br [] []]) (CallsF P G 13 [int o] (FV.tup [encM o 0 T.nil, int 0]) ∧ E true ∧ CallsF P G 14 [FV.sl 8 (cellsPs l)] (int e) ∧ Br (e != 0) (E (FV.tup [FV.sc (Value.pointer none), int e])) False) get4 ent4 (by kernel_rfl) ?_
  refine ⟨?_, rfl, ?_, fun hi => rfl, fun hi => ?_⟩
  all_goals first | exact new_ok _ ho | exact h | (exfalso; simp_all; done)
end Go.Sx

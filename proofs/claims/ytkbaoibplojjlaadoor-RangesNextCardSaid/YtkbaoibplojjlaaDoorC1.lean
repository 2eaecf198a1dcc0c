/-
  Proved: what some functions of the program answer, or a law of the evaluator that shows it, one theorem each; its conditions are the hypotheses that stand ahead of it.
-/
import Derived.Test.YtkbaoibplojjlaaDoorV0
import Derived.KernelRfl
set_option maxRecDepth 100000
set_option maxHeartbeats 4000000
set_option linter.unusedSimpArgs false
set_option linter.unusedVariables false
namespace Go.Sx
open Go.Proofs Sp
theorem get92 : P.funcs[92]? = some Tryd.f92 := by kernel_rfl
theorem ent92 : entersP P 92 = true := by kernel_rfl
theorem isNaN_ok {g : Gr} (a : Int)  : CallsF P g 92 [int a] (bool false) := by
  refine sx_fn (hs := []) ((bool (a != a)) = (bool false)) get92 ent92 (by kernel_rfl) ?_
  all_goals simp
theorem get93 : P.funcs[93]? = some Tryd.f93 := by kernel_rfl
theorem ent93 : entersP P 93 = true := by kernel_rfl
theorem isNaN64_ok {g : Gr} (a : Int)  : CallsF P g 93 [int a] (bool false) := by
  refine sx_fn (hs := []) ((bool (a != a)) = (bool false)) get93 ent93 (by kernel_rfl) ?_
  all_goals simp
theorem get80 : P.funcs[80]? = some Tryd.f80 := by kernel_rfl
theorem ent80 : entersP P 80 = true := by kernel_rfl
theorem cmpInt_lt {g : Gr} (a b : Int) (h : a < b) : CallsF P g 80 [int a, int b] (int (-1)) := by
  refine sx_fn (hs := [.call (bool false), .call (bool false), .dec false, .dec false, .dec true]) ((CallsF P g 92 [int a] (bool false)) ∧ (CallsF P g 92 [int b] (bool false)) ∧ (E (false)) ∧ (E (false)) ∧ ((decide (a < b)) = (true)) ∧ E (int (-1))) get80 ent80 (by kernel_rfl) ?_
  refine ⟨?_, ⟨?_, ⟨rfl, ⟨rfl, ⟨?_, rfl⟩⟩⟩⟩⟩
  all_goals first | exact isNaN_ok _ | (simp only [decide_eq_true_eq, decide_eq_false_iff_not]; omega)
theorem cmpInt_gt {g : Gr} (a b : Int) (h : b < a) : CallsF P g 80 [int a, int b] (int 1) := by
  refine sx_fn (hs := [.call (bool false), .call (bool false), .dec false, .dec false, .dec false, .dec true]) ((CallsF P g 92 [int a] (bool false)) ∧ (CallsF P g 92 [int b] (bool false)) ∧ (E (false)) ∧ (E (false)) ∧ ((decide (a < b)) = (false)) ∧ ((decide (a > b)) = (true)) ∧ E (int 1)) get80 ent80 (by kernel_rfl) ?_
  refine ⟨?_, ⟨?_, ⟨rfl, ⟨rfl, ⟨?_, ⟨?_, rfl⟩⟩⟩⟩⟩⟩
  all_goals first | exact isNaN_ok _ | (simp only [decide_eq_true_eq, decide_eq_false_iff_not]; omega)
theorem cmpInt_eq {g : Gr} (a b : Int) (h : a = b) : CallsF P g 80 [int a, int b] (int 0) := by
  refine sx_fn (hs := [.call (bool false), .call (bool false), .dec false, .dec false, .dec false, .dec false]) ((CallsF P g 92 [int a] (bool false)) ∧ (CallsF P g 92 [int b] (bool false)) ∧ (E (false)) ∧ (E (false)) ∧ ((decide (a < b)) = (false)) ∧ ((decide (a > b)) = (false)) ∧ E (int 0)) get80 ent80 (by kernel_rfl) ?_
  refine ⟨?_, ⟨?_, ⟨rfl, ⟨rfl, ⟨?_, ⟨?_, rfl⟩⟩⟩⟩⟩⟩
  all_goals first | exact isNaN_ok _ | (simp only [decide_eq_true_eq, decide_eq_false_iff_not]; omega)
theorem cmpInt_ok {g : Gr} (a b : Int) : CallsF P g 80 [int a, int b] (int (cmpI a b)) := by
  unfold cmpI
  split
  · exact cmpInt_lt a b (by assumption)
  · split
    · exact cmpInt_gt a b (by assumption)
    · exact cmpInt_eq a b (by omega)
theorem get81 : P.funcs[81]? = some Tryd.f81 := by kernel_rfl
theorem ent81 : entersP P 81 = true := by kernel_rfl
theorem cmpInt64_lt {g : Gr} (a b : Int) (h : a < b) : CallsF P g 81 [int a, int b] (int (-1)) := by
  refine sx_fn (hs := [.call (bool false), .call (bool false), .dec false, .dec false, .dec true]) ((CallsF P g 93 [int a] (bool false)) ∧ (CallsF P g 93 [int b] (bool false)) ∧ (E (false)) ∧ (E (false)) ∧ ((decide (a < b)) = (true)) ∧ E (int (-1))) get81 ent81 (by kernel_rfl) ?_
  refine ⟨?_, ⟨?_, ⟨rfl, ⟨rfl, ⟨?_, rfl⟩⟩⟩⟩⟩
  all_goals first | exact isNaN64_ok _ | (simp only [decide_eq_true_eq, decide_eq_false_iff_not]; omega)
theorem cmpInt64_gt {g : Gr} (a b : Int) (h : b < a) : CallsF P g 81 [int a, int b] (int 1) := by
  refine sx_fn (hs := [.call (bool false), .call (bool false), .dec false, .dec false, .dec false, .dec true]) ((CallsF P g 93 [int a] (bool false)) ∧ (CallsF P g 93 [int b] (bool false)) ∧ (E (false)) ∧ (E (false)) ∧ ((decide (a < b)) = (false)) ∧ ((decide (a > b)) = (true)) ∧ E (int 1)) get81 ent81 (by kernel_rfl) ?_
  refine ⟨?_, ⟨?_, ⟨rfl, ⟨rfl, ⟨?_, ⟨?_, rfl⟩⟩⟩⟩⟩⟩
  all_goals first | exact isNaN64_ok _ | (simp only [decide_eq_true_eq, decide_eq_false_iff_not]; omega)
theorem cmpInt64_eq {g : Gr} (a b : Int) (h : a = b) : CallsF P g 81 [int a, int b] (int 0) := by
  refine sx_fn (hs := [.call (bool false), .call (bool false), .dec false, .dec false, .dec false, .dec false]) ((CallsF P g 93 [int a] (bool false)) ∧ (CallsF P g 93 [int b] (bool false)) ∧ (E (false)) ∧ (E (false)) ∧ ((decide (a < b)) = (false)) ∧ ((decide (a > b)) = (false)) ∧ E (int 0)) get81 ent81 (by kernel_rfl) ?_
  refine ⟨?_, ⟨?_, ⟨rfl, ⟨rfl, ⟨?_, ⟨?_, rfl⟩⟩⟩⟩⟩⟩
  all_goals first | exact isNaN64_ok _ | (simp only [decide_eq_true_eq, decide_eq_false_iff_not]; omega)
theorem cmpInt64_ok {g : Gr} (a b : Int) : CallsF P g 81 [int a, int b] (int (cmpI a b)) := by
  unfold cmpI
  split
  · exact cmpInt64_lt a b (by assumption)
  · split
    · exact cmpInt64_gt a b (by assumption)
    · exact cmpInt64_eq a b (by omega)
end Go.Sx

/-
  Proved: what some functions of the program answer, or a law of the evaluator that shows it, one theorem each; its conditions are the hypotheses that stand ahead of it.
-/
import Derived.Test.YtmnefgonaaakfaaDoorV0
import Derived.KernelRfl
set_option maxRecDepth 100000
set_option linter.unusedSimpArgs false
set_option linter.unusedVariables false
namespace Go.Sx
open Go.Proofs Sp
theorem get70 : P.funcs[70]? = some Tryd.f70 := by kernel_rfl
theorem ent70 : entersP P 70 = true := by kernel_rfl
theorem isNaN_ok {g : Gr} (a : Int)  : CallsF P g 70 [int a] (bool false) := by
  refine sx_fn (hs := []) ((FV.sc (Value.bool (a != a))) = (FV.sc (Value.bool false))) get70 ent70 (by kernel_rfl) ?_
  all_goals first | simp | assumption | (simp only [decide_eq_true_eq, decide_eq_false_iff_not]; omega) | (simp [V.kind, V.num, V.text, V.items, *]; done) | (simp_all [V.kind, V.num, V.text, V.items]; done)
theorem get71 : P.funcs[71]? = some Tryd.f71 := by kernel_rfl
theorem ent71 : entersP P 71 = true := by kernel_rfl
theorem isNaN64_ok {g : Gr} (a : Int)  : CallsF P g 71 [int a] (bool false) := by
  refine sx_fn (hs := []) ((FV.sc (Value.bool (a != a))) = (FV.sc (Value.bool false))) get71 ent71 (by kernel_rfl) ?_
  all_goals first | simp | assumption | (simp only [decide_eq_true_eq, decide_eq_false_iff_not]; omega) | (simp [V.kind, V.num, V.text, V.items, *]; done) | (simp_all [V.kind, V.num, V.text, V.items]; done)
theorem get33 : P.funcs[33]? = some Tryd.f33 := by kernel_rfl
theorem ent33 : entersP P 33 = true := by kernel_rfl
theorem cmpInt_lt {g : Gr} (a b : Int) (h : a < b) : CallsF P g 33 [int a, int b] (int (-1)) := by
  refine sx_fn (hs := [.call (bool false), .call (bool false), .dec false, .dec false, .dec true]) ((CallsF P g 70 [FV.sc (Value.int IntKind.i64 a)] (FV.sc (Value.bool false))) ∧ (CallsF P g 70 [FV.sc (Value.int IntKind.i64 b)] (FV.sc (Value.bool false))) ∧ ((false) = (false)) ∧ ((false) = (false)) ∧ ((decide (a < b)) = (true)) ∧ (FV.sc (Value.int IntKind.i64 (Int.negSucc 0))) = (FV.sc (Value.int IntKind.i64 (Int.negSucc 0)))) get33 ent33 (by kernel_rfl) ?_
  refine ⟨?_, ⟨?_, ⟨rfl, ⟨rfl, ⟨?_, rfl⟩⟩⟩⟩⟩
  all_goals first | exact isNaN_ok _ | assumption | (simp only [decide_eq_true_eq, decide_eq_false_iff_not]; omega) | (simp [V.kind, V.num, V.text, V.items, *]; done) | (simp_all [V.kind, V.num, V.text, V.items]; done)
theorem cmpInt_gt {g : Gr} (a b : Int) (h : b < a) : CallsF P g 33 [int a, int b] (int 1) := by
  refine sx_fn (hs := [.call (bool false), .call (bool false), .dec false, .dec false, .dec false, .dec true]) ((CallsF P g 70 [FV.sc (Value.int IntKind.i64 a)] (FV.sc (Value.bool false))) ∧ (CallsF P g 70 [FV.sc (Value.int IntKind.i64 b)] (FV.sc (Value.bool false))) ∧ ((false) = (false)) ∧ ((false) = (false)) ∧ ((decide (a < b)) = (false)) ∧ ((decide (a > b)) = (true)) ∧ (FV.sc (Value.int IntKind.i64 (Int.ofNat 1))) = (FV.sc (Value.int IntKind.i64 (Int.ofNat 1)))) get33 ent33 (by kernel_rfl) ?_
  refine ⟨?_, ⟨?_, ⟨rfl, ⟨rfl, ⟨?_, ⟨?_, rfl⟩⟩⟩⟩⟩⟩
  all_goals first | exact isNaN_ok _ | assumption | (simp only [decide_eq_true_eq, decide_eq_false_iff_not]; omega) | (simp [V.kind, V.num, V.text, V.items, *]; done) | (simp_all [V.kind, V.num, V.text, V.items]; done)
theorem cmpInt_eq {g : Gr} (a b : Int) (h : a = b) : CallsF P g 33 [int a, int b] (int 0) := by
  refine sx_fn (hs := [.call (bool false), .call (bool false), .dec false, .dec false, .dec false, .dec false]) ((CallsF P g 70 [FV.sc (Value.int IntKind.i64 a)] (FV.sc (Value.bool false))) ∧ (CallsF P g 70 [FV.sc (Value.int IntKind.i64 b)] (FV.sc (Value.bool false))) ∧ ((false) = (false)) ∧ ((false) = (false)) ∧ ((decide (a < b)) = (false)) ∧ ((decide (a > b)) = (false)) ∧ (FV.sc (Value.int IntKind.i64 (Int.ofNat 0))) = (FV.sc (Value.int IntKind.i64 (Int.ofNat 0)))) get33 ent33 (by kernel_rfl) ?_
  refine ⟨?_, ⟨?_, ⟨rfl, ⟨rfl, ⟨?_, ⟨?_, rfl⟩⟩⟩⟩⟩⟩
  all_goals first | exact isNaN_ok _ | assumption | (simp only [decide_eq_true_eq, decide_eq_false_iff_not]; omega) | (simp [V.kind, V.num, V.text, V.items, *]; done) | (simp_all [V.kind, V.num, V.text, V.items]; done)
theorem cmpInt_ok {g : Gr} (a b : Int) : CallsF P g 33 [int a, int b] (int (cmpI a b)) := by
  unfold cmpI
  split
  · exact cmpInt_lt a b (by assumption)
  · split
    · exact cmpInt_gt a b (by assumption)
    · exact cmpInt_eq a b (by omega)
theorem get34 : P.funcs[34]? = some Tryd.f34 := by kernel_rfl
theorem ent34 : entersP P 34 = true := by kernel_rfl
theorem cmpInt64_lt {g : Gr} (a b : Int) (h : a < b) : CallsF P g 34 [int a, int b] (int (-1)) := by
  refine sx_fn (hs := [.call (bool false), .call (bool false), .dec false, .dec false, .dec true]) ((CallsF P g 71 [FV.sc (Value.int IntKind.i64 a)] (FV.sc (Value.bool false))) ∧ (CallsF P g 71 [FV.sc (Value.int IntKind.i64 b)] (FV.sc (Value.bool false))) ∧ ((false) = (false)) ∧ ((false) = (false)) ∧ ((decide (a < b)) = (true)) ∧ (FV.sc (Value.int IntKind.i64 (Int.negSucc 0))) = (FV.sc (Value.int IntKind.i64 (Int.negSucc 0)))) get34 ent34 (by kernel_rfl) ?_
  refine ⟨?_, ⟨?_, ⟨rfl, ⟨rfl, ⟨?_, rfl⟩⟩⟩⟩⟩
  all_goals first | exact isNaN64_ok _ | assumption | (simp only [decide_eq_true_eq, decide_eq_false_iff_not]; omega) | (simp [V.kind, V.num, V.text, V.items, *]; done) | (simp_all [V.kind, V.num, V.text, V.items]; done)
theorem cmpInt64_gt {g : Gr} (a b : Int) (h : b < a) : CallsF P g 34 [int a, int b] (int 1) := by
  refine sx_fn (hs := [.call (bool false), .call (bool false), .dec false, .dec false, .dec false, .dec true]) ((CallsF P g 71 [FV.sc (Value.int IntKind.i64 a)] (FV.sc (Value.bool false))) ∧ (CallsF P g 71 [FV.sc (Value.int IntKind.i64 b)] (FV.sc (Value.bool false))) ∧ ((false) = (false)) ∧ ((false) = (false)) ∧ ((decide (a < b)) = (false)) ∧ ((decide (a > b)) = (true)) ∧ (FV.sc (Value.int IntKind.i64 (Int.ofNat 1))) = (FV.sc (Value.int IntKind.i64 (Int.ofNat 1)))) get34 ent34 (by kernel_rfl) ?_
  refine ⟨?_, ⟨?_, ⟨rfl, ⟨rfl, ⟨?_, ⟨?_, rfl⟩⟩⟩⟩⟩⟩
  all_goals first | exact isNaN64_ok _ | assumption | (simp only [decide_eq_true_eq, decide_eq_false_iff_not]; omega) | (simp [V.kind, V.num, V.text, V.items, *]; done) | (simp_all [V.kind, V.num, V.text, V.items]; done)
theorem cmpInt64_eq {g : Gr} (a b : Int) (h : a = b) : CallsF P g 34 [int a, int b] (int 0) := by
  refine sx_fn (hs := [.call (bool false), .call (bool false), .dec false, .dec false, .dec false, .dec false]) ((CallsF P g 71 [FV.sc (Value.int IntKind.i64 a)] (FV.sc (Value.bool false))) ∧ (CallsF P g 71 [FV.sc (Value.int IntKind.i64 b)] (FV.sc (Value.bool false))) ∧ ((false) = (false)) ∧ ((false) = (false)) ∧ ((decide (a < b)) = (false)) ∧ ((decide (a > b)) = (false)) ∧ (FV.sc (Value.int IntKind.i64 (Int.ofNat 0))) = (FV.sc (Value.int IntKind.i64 (Int.ofNat 0)))) get34 ent34 (by kernel_rfl) ?_
  refine ⟨?_, ⟨?_, ⟨rfl, ⟨rfl, ⟨?_, ⟨?_, rfl⟩⟩⟩⟩⟩⟩
  all_goals first | exact isNaN64_ok _ | assumption | (simp only [decide_eq_true_eq, decide_eq_false_iff_not]; omega) | (simp [V.kind, V.num, V.text, V.items, *]; done) | (simp_all [V.kind, V.num, V.text, V.items]; done)
theorem cmpInt64_ok {g : Gr} (a b : Int) : CallsF P g 34 [int a, int b] (int (cmpI a b)) := by
  unfold cmpI
  split
  · exact cmpInt64_lt a b (by assumption)
  · split
    · exact cmpInt64_gt a b (by assumption)
    · exact cmpInt64_eq a b (by omega)
end Go.Sx

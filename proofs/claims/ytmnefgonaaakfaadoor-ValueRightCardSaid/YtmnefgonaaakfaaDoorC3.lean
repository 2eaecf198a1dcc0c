/-
  Proved: what some functions of the program answer, or a law of the evaluator that shows it, one theorem each; its conditions are the hypotheses that stand ahead of it.
-/
import Derived.Test.YtmnefgonaaakfaaDoorC2
import Derived.Lib.Bytealg
import Derived.KernelRfl
set_option maxRecDepth 100000
set_option linter.unusedSimpArgs false
set_option linter.unusedVariables false
namespace Go.Sx
open Go.Proofs Sp
theorem cmpB_lib : ∀ a b : List UInt8, Lib.compareBytes a b = cmpB a b
  | [], [] => rfl
  | [], _ :: _ => rfl
  | _ :: _, [] => rfl
  | a :: l, b :: m => by simp only [Lib.compareBytes, cmpB, cmpB_lib l m]
theorem get81 : P.funcs[81]? = some Tryd.f81 := by kernel_rfl
theorem cmpstr_ok {g : Gr} (a b : List UInt8) : CallsF P g 81 [str a, str b] (int (cmpB a b)) := by
  intro w ok vs hg hok hv
  simp only [FRelL, str, FRel] at hv
  obtain ⟨v, r, rfl, rfl, u, r', rfl, rfl, rfl⟩ := hv
  unfold CallY
  rw [show [Value.string ⟨a.toArray⟩, Value.string ⟨b.toArray⟩].toArray = #[Value.string ⟨a.toArray⟩, Value.string ⟨b.toArray⟩] from rfl,
    run_callFunc_extern get81 (by kernel_rfl) (by kernel_rfl) (by kernel_rfl) (e := Extern.BytealgCompare.compare) (by kernel_rfl), Lib.run_compareString]
  simp only [Result.andThen]
  refine ⟨?_, Ext.refl w⟩
  simp [FRel, int, cmpB_lib]
theorem get72 : P.funcs[72]? = some Tryd.f72 := by kernel_rfl
theorem ent72 : entersP P 72 = true := by kernel_rfl
theorem cmpString_ok {g : Gr} (a b : List UInt8)  : CallsF P g 72 [str a, str b] (int (cmpB a b)) := by
  refine sx_fn (hs := [.call (int (cmpB a b))]) ((CallsF P g 81 [FV.sc (Value.string { data := List.toArray a }), FV.sc (Value.string { data := List.toArray b })] (FV.sc (Value.int IntKind.i64 (cmpB a b)))) ∧ (FV.sc (Value.int IntKind.i64 (cmpB a b))) = (FV.sc (Value.int IntKind.i64 (cmpB a b)))) get72 ent72 (by kernel_rfl) ?_
  refine ⟨?_, rfl⟩
  all_goals first | exact cmpstr_ok a b | assumption | (simp only [decide_eq_true_eq, decide_eq_false_iff_not]; omega) | (simp [V.kind, V.num, V.text, V.items, *]; done) | (simp_all [V.kind, V.num, V.text, V.items]; done)
theorem get35 : P.funcs[35]? = some Tryd.f35 := by kernel_rfl
theorem ent35 : entersP P 35 = true := by kernel_rfl
theorem stringsCompare_ok {g : Gr} (a b : List UInt8)  : CallsF P g 35 [str a, str b] (int (cmpB a b)) := by
  refine sx_fn (hs := [.call (int (cmpB a b))]) ((CallsF P g 72 [FV.sc (Value.string { data := List.toArray a }), FV.sc (Value.string { data := List.toArray b })] (FV.sc (Value.int IntKind.i64 (cmpB a b)))) ∧ (FV.sc (Value.int IntKind.i64 (cmpB a b))) = (FV.sc (Value.int IntKind.i64 (cmpB a b)))) get35 ent35 (by kernel_rfl) ?_
  refine ⟨?_, rfl⟩
  all_goals first | exact cmpString_ok a b | assumption | (simp only [decide_eq_true_eq, decide_eq_false_iff_not]; omega) | (simp [V.kind, V.num, V.text, V.items, *]; done) | (simp_all [V.kind, V.num, V.text, V.items]; done)
theorem get9 : P.funcs[9]? = some Tryd.f9 := by kernel_rfl
theorem ent9 : entersP P 9 = true := by kernel_rfl
theorem cmpV_kind {g : Gr} (k n k2 n2 : Int) (s s2 : List UInt8) (l l2 : List V) (h : k ≠ k2) : CallsF P g 9 [encV (.mk k n s l), encV (.mk k2 n2 s2 l2)] (int (cmpI k k2)) := by
  refine sx_fn (hs := [.dec true, .call (int (cmpI k k2))]) (((V.kind (V.mk k n s l) != V.kind (V.mk k2 n2 s2 l2)) = (true)) ∧ (CallsF P g 33 [FV.sc (Value.int IntKind.i64 (V.kind (V.mk k n s l))), FV.sc (Value.int IntKind.i64 (V.kind (V.mk k2 n2 s2 l2)))] (FV.sc (Value.int IntKind.i64 (cmpI k k2)))) ∧ (FV.sc (Value.int IntKind.i64 (cmpI k k2))) = (FV.sc (Value.int IntKind.i64 (cmpI k k2)))) get9 ent9 (by kernel_rfl) ?_
  refine ⟨?_, ⟨?_, rfl⟩⟩
  all_goals first | exact cmpInt_ok _ _ | (simp [h]; done) | assumption | (simp only [decide_eq_true_eq, decide_eq_false_iff_not]; omega) | (simp [V.kind, V.num, V.text, V.items, *]; done) | (simp_all [V.kind, V.num, V.text, V.items]; done)
theorem cmpV_num1 {g : Gr} (n n2 : Int) (s s2 : List UInt8) (l l2 : List V)  : CallsF P g 9 [encV (.mk 1 n s l), encV (.mk 1 n2 s2 l2)] (int (cmpI n n2)) := by
  refine sx_fn (hs := [.dec false, .dec true, .dec true, .call (int (cmpI n n2))]) (((false) = (false)) ∧ ((true) = (true)) ∧ ((true) = (true)) ∧ (CallsF P g 34 [FV.sc (Value.int IntKind.i64 (V.num (V.mk 1 n s l))), FV.sc (Value.int IntKind.i64 (V.num (V.mk 1 n2 s2 l2)))] (FV.sc (Value.int IntKind.i64 (cmpI n n2)))) ∧ (FV.sc (Value.int IntKind.i64 (cmpI n n2))) = (FV.sc (Value.int IntKind.i64 (cmpI n n2)))) get9 ent9 (by kernel_rfl) ?_
  refine ⟨rfl, ⟨rfl, ⟨rfl, ⟨?_, rfl⟩⟩⟩⟩
  all_goals first | exact cmpInt64_ok _ _ | assumption | (simp only [decide_eq_true_eq, decide_eq_false_iff_not]; omega) | (simp [V.kind, V.num, V.text, V.items, *]; done) | (simp_all [V.kind, V.num, V.text, V.items]; done)
theorem cmpV_num2 {g : Gr} (n n2 : Int) (s s2 : List UInt8) (l l2 : List V)  : CallsF P g 9 [encV (.mk 2 n s l), encV (.mk 2 n2 s2 l2)] (int (cmpI n n2)) := by
  refine sx_fn (hs := [.dec false, .dec false, .dec true, .call (int (cmpI n n2))]) (((false) = (false)) ∧ ((false) = (false)) ∧ ((true) = (true)) ∧ (CallsF P g 34 [FV.sc (Value.int IntKind.i64 (V.num (V.mk 2 n s l))), FV.sc (Value.int IntKind.i64 (V.num (V.mk 2 n2 s2 l2)))] (FV.sc (Value.int IntKind.i64 (cmpI n n2)))) ∧ (FV.sc (Value.int IntKind.i64 (cmpI n n2))) = (FV.sc (Value.int IntKind.i64 (cmpI n n2)))) get9 ent9 (by kernel_rfl) ?_
  refine ⟨rfl, ⟨rfl, ⟨rfl, ⟨?_, rfl⟩⟩⟩⟩
  all_goals first | exact cmpInt64_ok _ _ | assumption | (simp only [decide_eq_true_eq, decide_eq_false_iff_not]; omega) | (simp [V.kind, V.num, V.text, V.items, *]; done) | (simp_all [V.kind, V.num, V.text, V.items]; done)
theorem cmpV_text {g : Gr} (n n2 : Int) (s s2 : List UInt8) (l l2 : List V)  : CallsF P g 9 [encV (.mk 3 n s l), encV (.mk 3 n2 s2 l2)] (int (cmpB s s2)) := by
  refine sx_fn (hs := [.dec false, .dec false, .dec false, .dec true, .call (int (cmpB s s2))]) (((false) = (false)) ∧ ((false) = (false)) ∧ ((false) = (false)) ∧ ((true) = (true)) ∧ (CallsF P g 35 [FV.sc (Value.string { data := List.toArray (V.text (V.mk 3 n s l)) }), FV.sc (Value.string { data := List.toArray (V.text (V.mk 3 n2 s2 l2)) })] (FV.sc (Value.int IntKind.i64 (cmpB s s2)))) ∧ (FV.sc (Value.int IntKind.i64 (cmpB s s2))) = (FV.sc (Value.int IntKind.i64 (cmpB s s2)))) get9 ent9 (by kernel_rfl) ?_
  refine ⟨rfl, ⟨rfl, ⟨rfl, ⟨rfl, ⟨?_, rfl⟩⟩⟩⟩⟩
  all_goals first | exact stringsCompare_ok _ _ | assumption | (simp only [decide_eq_true_eq, decide_eq_false_iff_not]; omega) | (simp [V.kind, V.num, V.text, V.items, *]; done) | (simp_all [V.kind, V.num, V.text, V.items]; done)
theorem cmpV_items4 {g : Gr} (n n2 : Int) (s s2 : List UInt8) (l l2 : List V) (x : Int) (h : CallsF P g 36 [encI l, encI l2, .fn 9 [] []] (int x)) : CallsF P g 9 [encV (.mk 4 n s l), encV (.mk 4 n2 s2 l2)] (int x) := by
  refine sx_fn (hs := [.dec false, .dec false, .dec false, .dec false, .dec true, .dec true, .call (int x)]) (((false) = (false)) ∧ ((false) = (false)) ∧ ((false) = (false)) ∧ ((false) = (false)) ∧ ((true) = (true)) ∧ ((true) = (true)) ∧ (CallsF P g 36 [FV.sl 4 (cellsVs (V.items (V.mk 4 n s l))), FV.sl 4 (cellsVs (V.items (V.mk 4 n2 s2 l2))), FV.fn 9 [] []] (FV.sc (Value.int IntKind.i64 x))) ∧ (FV.sc (Value.int IntKind.i64 x)) = (FV.sc (Value.int IntKind.i64 x))) get9 ent9 (by kernel_rfl) ?_
  refine ⟨rfl, ⟨rfl, ⟨rfl, ⟨rfl, ⟨rfl, ⟨rfl, ⟨?_, rfl⟩⟩⟩⟩⟩⟩⟩
  all_goals first | assumption | (simp only [decide_eq_true_eq, decide_eq_false_iff_not]; omega) | (simp [V.kind, V.num, V.text, V.items, *]; done) | (simp_all [V.kind, V.num, V.text, V.items]; done)
theorem cmpV_items5 {g : Gr} (n n2 : Int) (s s2 : List UInt8) (l l2 : List V) (x : Int) (h : CallsF P g 36 [encI l, encI l2, .fn 9 [] []] (int x)) : CallsF P g 9 [encV (.mk 5 n s l), encV (.mk 5 n2 s2 l2)] (int x) := by
  refine sx_fn (hs := [.dec false, .dec false, .dec false, .dec false, .dec false, .dec true, .dec true, .call (int x)]) (((false) = (false)) ∧ ((false) = (false)) ∧ ((false) = (false)) ∧ ((false) = (false)) ∧ ((false) = (false)) ∧ ((true) = (true)) ∧ ((true) = (true)) ∧ (CallsF P g 36 [FV.sl 4 (cellsVs (V.items (V.mk 5 n s l))), FV.sl 4 (cellsVs (V.items (V.mk 5 n2 s2 l2))), FV.fn 9 [] []] (FV.sc (Value.int IntKind.i64 x))) ∧ (FV.sc (Value.int IntKind.i64 x)) = (FV.sc (Value.int IntKind.i64 x))) get9 ent9 (by kernel_rfl) ?_
  refine ⟨rfl, ⟨rfl, ⟨rfl, ⟨rfl, ⟨rfl, ⟨rfl, ⟨rfl, ⟨?_, rfl⟩⟩⟩⟩⟩⟩⟩⟩
  all_goals first | assumption | (simp only [decide_eq_true_eq, decide_eq_false_iff_not]; omega) | (simp [V.kind, V.num, V.text, V.items, *]; done) | (simp_all [V.kind, V.num, V.text, V.items]; done)
theorem cmpV_items6 {g : Gr} (n n2 : Int) (s s2 : List UInt8) (l l2 : List V) (x : Int) (h : CallsF P g 36 [encI l, encI l2, .fn 9 [] []] (int x)) : CallsF P g 9 [encV (.mk 6 n s l), encV (.mk 6 n2 s2 l2)] (int x) := by
  refine sx_fn (hs := [.dec false, .dec false, .dec false, .dec false, .dec false, .dec false, .dec true, .call (int x)]) (((false) = (false)) ∧ ((false) = (false)) ∧ ((false) = (false)) ∧ ((false) = (false)) ∧ ((false) = (false)) ∧ ((false) = (false)) ∧ ((true) = (true)) ∧ (CallsF P g 36 [FV.sl 4 (cellsVs (V.items (V.mk 6 n s l))), FV.sl 4 (cellsVs (V.items (V.mk 6 n2 s2 l2))), FV.fn 9 [] []] (FV.sc (Value.int IntKind.i64 x))) ∧ (FV.sc (Value.int IntKind.i64 x)) = (FV.sc (Value.int IntKind.i64 x))) get9 ent9 (by kernel_rfl) ?_
  refine ⟨rfl, ⟨rfl, ⟨rfl, ⟨rfl, ⟨rfl, ⟨rfl, ⟨rfl, ⟨?_, rfl⟩⟩⟩⟩⟩⟩⟩⟩
  all_goals first | assumption | (simp only [decide_eq_true_eq, decide_eq_false_iff_not]; omega) | (simp [V.kind, V.num, V.text, V.items, *]; done) | (simp_all [V.kind, V.num, V.text, V.items]; done)
theorem cmpV_else {g : Gr} (k n n2 : Int) (s s2 : List UInt8) (l l2 : List V) (h1 : k ≠ 1) (h2 : k ≠ 2) (h3 : k ≠ 3) (h4 : k ≠ 4) (h5 : k ≠ 5) (h6 : k ≠ 6) : CallsF P g 9 [encV (.mk k n s l), encV (.mk k n2 s2 l2)] (int 0) := by
  refine sx_fn (hs := [.dec false, .dec false, .dec false, .dec false, .dec false, .dec false, .dec false]) (((V.kind (V.mk k n s l) != V.kind (V.mk k n2 s2 l2)) = (false)) ∧ ((V.kind (V.mk k n s l) == 1) = (false)) ∧ ((V.kind (V.mk k n s l) == 2) = (false)) ∧ ((V.kind (V.mk k n s l) == 3) = (false)) ∧ ((V.kind (V.mk k n s l) == 4) = (false)) ∧ ((V.kind (V.mk k n s l) == 5) = (false)) ∧ ((V.kind (V.mk k n s l) == 6) = (false)) ∧ (FV.sc (Value.int IntKind.i64 (Int.ofNat 0))) = (FV.sc (Value.int IntKind.i64 (Int.ofNat 0)))) get9 ent9 (by kernel_rfl) ?_
  refine ⟨?_, ⟨?_, ⟨?_, ⟨?_, ⟨?_, ⟨?_, ⟨?_, rfl⟩⟩⟩⟩⟩⟩⟩
  all_goals first | (simp [h1, h2, h3, h4, h5, h6]; done) | assumption | (simp only [decide_eq_true_eq, decide_eq_false_iff_not]; omega) | (simp [V.kind, V.num, V.text, V.items, *]; done) | (simp_all [V.kind, V.num, V.text, V.items]; done)
end Go.Sx

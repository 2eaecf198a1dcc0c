/-
  Proved: what some functions of the program answer, or a law of the evaluator that shows it, one theorem each; its conditions are the hypotheses that stand ahead of it.
-/
import Derived.Test.YtkbaoibplojjlaaDoorC2
import Derived.Lib.Bytealg
import Derived.KernelRfl
set_option maxRecDepth 100000
set_option maxHeartbeats 4000000
set_option linter.unusedSimpArgs false
set_option linter.unusedVariables false
namespace Go.Sx
open Go.Proofs Sp
theorem cmpB_lib : ∀ a b : List UInt8, Lib.compareBytes a b = cmpB a b
  | [], [] => rfl
  | [], _ :: _ => rfl
  | _ :: _, [] => rfl
  | a :: l, b :: m => by simp only [Lib.compareBytes, cmpB, cmpB_lib l m]
theorem get104 : P.funcs[104]? = some Tryd.f104 := by kernel_rfl
theorem cmpstr_ok {g : Gr} (a b : List UInt8) : CallsF P g 104 [str a, str b] (int (cmpB a b)) := by
  intro w ok vs hg hok hv
  simp only [FRelL, str, FRel] at hv
  obtain ⟨v, r, rfl, rfl, u, r', rfl, rfl, rfl⟩ := hv
  unfold CallY
  rw [show [Value.string ⟨a.toArray⟩, Value.string ⟨b.toArray⟩].toArray = #[Value.string ⟨a.toArray⟩, Value.string ⟨b.toArray⟩] from rfl,
    run_callFunc_extern get104 (by kernel_rfl) (by kernel_rfl) (by kernel_rfl) (e := Extern.BytealgCompare.compare) (by kernel_rfl), Lib.run_compareString]
  simp only [Result.andThen]
  refine ⟨?_, Ext.refl w⟩
  simp [FRel, int, cmpB_lib]
theorem get94 : P.funcs[94]? = some Tryd.f94 := by kernel_rfl
theorem ent94 : entersP P 94 = true := by kernel_rfl
theorem cmpString_ok {g : Gr} (a b : List UInt8)  : CallsF P g 94 [str a, str b] (int (cmpB a b)) := by
  refine sx_fn (hs := [.call (int (cmpB a b))]) ((CallsF P g 104 [str a, str b] (int (cmpB a b))) ∧ E (int (cmpB a b))) get94 ent94 (by kernel_rfl) ?_
  refine ⟨?_, rfl⟩
  all_goals exact cmpstr_ok a b
theorem get82 : P.funcs[82]? = some Tryd.f82 := by kernel_rfl
theorem ent82 : entersP P 82 = true := by kernel_rfl
theorem stringsCompare_ok {g : Gr} (a b : List UInt8)  : CallsF P g 82 [str a, str b] (int (cmpB a b)) := by
  refine sx_fn (hs := [.call (int (cmpB a b))]) ((CallsF P g 94 [str a, str b] (int (cmpB a b))) ∧ E (int (cmpB a b))) get82 ent82 (by kernel_rfl) ?_
  refine ⟨?_, rfl⟩
  all_goals exact cmpString_ok a b
theorem get77 : P.funcs[77]? = some Tryd.f77 := by kernel_rfl
theorem ent77 : entersP P 77 = true := by kernel_rfl
theorem cmpV_kind {g : Gr} (k n k2 n2 : Int) (s s2 : List UInt8) (l l2 : List V) (h : k ≠ k2) : CallsF P g 77 [encV (.mk k n s l), encV (.mk k2 n2 s2 l2)] (int (cmpI k k2)) := by
  refine sx_fn (hs := [.dec true, .call (int (cmpI k k2))]) (((k != k2) = (true)) ∧ (CallsF P g 80 [int k, int k2] (int (cmpI k k2))) ∧ E (int (cmpI k k2))) get77 ent77 (by kernel_rfl) ?_
  refine ⟨?_, ⟨?_, rfl⟩⟩
  all_goals first | exact cmpInt_ok _ _ | (simp [h]; done)
theorem cmpV_num1 {g : Gr} (n n2 : Int) (s s2 : List UInt8) (l l2 : List V)  : CallsF P g 77 [encV (.mk 1 n s l), encV (.mk 1 n2 s2 l2)] (int (cmpI n n2)) := by
  refine sx_fn (hs := [.dec false, .dec true, .dec true, .call (int (cmpI n n2))]) ((E (false)) ∧ (E (true)) ∧ (E (true)) ∧ (CallsF P g 81 [int n, int n2] (int (cmpI n n2))) ∧ E (int (cmpI n n2))) get77 ent77 (by kernel_rfl) ?_
  refine ⟨rfl, ⟨rfl, ⟨rfl, ⟨?_, rfl⟩⟩⟩⟩
  all_goals exact cmpInt64_ok _ _
theorem cmpV_num2 {g : Gr} (n n2 : Int) (s s2 : List UInt8) (l l2 : List V)  : CallsF P g 77 [encV (.mk 2 n s l), encV (.mk 2 n2 s2 l2)] (int (cmpI n n2)) := by
  refine sx_fn (hs := [.dec false, .dec false, .dec true, .call (int (cmpI n n2))]) ((E (false)) ∧ (E (false)) ∧ (E (true)) ∧ (CallsF P g 81 [int n, int n2] (int (cmpI n n2))) ∧ E (int (cmpI n n2))) get77 ent77 (by kernel_rfl) ?_
  refine ⟨rfl, ⟨rfl, ⟨rfl, ⟨?_, rfl⟩⟩⟩⟩
  all_goals exact cmpInt64_ok _ _
theorem cmpV_text {g : Gr} (n n2 : Int) (s s2 : List UInt8) (l l2 : List V)  : CallsF P g 77 [encV (.mk 3 n s l), encV (.mk 3 n2 s2 l2)] (int (cmpB s s2)) := by
  refine sx_fn (hs := [.dec false, .dec false, .dec false, .dec true, .call (int (cmpB s s2))]) ((E (false)) ∧ (E (false)) ∧ (E (false)) ∧ (E (true)) ∧ (CallsF P g 82 [str s, str s2] (int (cmpB s s2))) ∧ E (int (cmpB s s2))) get77 ent77 (by kernel_rfl) ?_
  refine ⟨rfl, ⟨rfl, ⟨rfl, ⟨rfl, ⟨?_, rfl⟩⟩⟩⟩⟩
  all_goals exact stringsCompare_ok _ _
theorem cmpV_items4 {g : Gr} (n n2 : Int) (s s2 : List UInt8) (l l2 : List V) (x : Int) (h : CallsF P g 83 [encI l, encI l2, .fn 77 [] []] (int x)) : CallsF P g 77 [encV (.mk 4 n s l), encV (.mk 4 n2 s2 l2)] (int x) := by
  refine sx_fn (hs := [.dec false, .dec false, .dec false, .dec false, .dec true, .dec true, .call (int x)]) ((E (false)) ∧ (E (false)) ∧ (E (false)) ∧ (E (false)) ∧ (E (true)) ∧ (E (true)) ∧ (CallsF P g 83 [encI l, encI l2, FV.fn 77 [] []] (int x)) ∧ E (int x)) get77 ent77 (by kernel_rfl) ?_
  refine ⟨rfl, ⟨rfl, ⟨rfl, ⟨rfl, ⟨rfl, ⟨rfl, ⟨?_, rfl⟩⟩⟩⟩⟩⟩⟩
  all_goals assumption
theorem cmpV_items5 {g : Gr} (n n2 : Int) (s s2 : List UInt8) (l l2 : List V) (x : Int) (h : CallsF P g 83 [encI l, encI l2, .fn 77 [] []] (int x)) : CallsF P g 77 [encV (.mk 5 n s l), encV (.mk 5 n2 s2 l2)] (int x) := by
  refine sx_fn (hs := [.dec false, .dec false, .dec false, .dec false, .dec false, .dec true, .dec true, .call (int x)]) ((E (false)) ∧ (E (false)) ∧ (E (false)) ∧ (E (false)) ∧ (E (false)) ∧ (E (true)) ∧ (E (true)) ∧ (CallsF P g 83 [encI l, encI l2, FV.fn 77 [] []] (int x)) ∧ E (int x)) get77 ent77 (by kernel_rfl) ?_
  refine ⟨rfl, ⟨rfl, ⟨rfl, ⟨rfl, ⟨rfl, ⟨rfl, ⟨rfl, ⟨?_, rfl⟩⟩⟩⟩⟩⟩⟩⟩
  all_goals assumption
theorem cmpV_items6 {g : Gr} (n n2 : Int) (s s2 : List UInt8) (l l2 : List V) (x : Int) (h : CallsF P g 83 [encI l, encI l2, .fn 77 [] []] (int x)) : CallsF P g 77 [encV (.mk 6 n s l), encV (.mk 6 n2 s2 l2)] (int x) := by
  refine sx_fn (hs := [.dec false, .dec false, .dec false, .dec false, .dec false, .dec false, .dec true, .call (int x)]) ((E (false)) ∧ (E (false)) ∧ (E (false)) ∧ (E (false)) ∧ (E (false)) ∧ (E (false)) ∧ (E (true)) ∧ (CallsF P g 83 [encI l, encI l2, FV.fn 77 [] []] (int x)) ∧ E (int x)) get77 ent77 (by kernel_rfl) ?_
  refine ⟨rfl, ⟨rfl, ⟨rfl, ⟨rfl, ⟨rfl, ⟨rfl, ⟨rfl, ⟨?_, rfl⟩⟩⟩⟩⟩⟩⟩⟩
  all_goals assumption
theorem cmpV_else {g : Gr} (k n n2 : Int) (s s2 : List UInt8) (l l2 : List V) (h1 : k ≠ 1) (h2 : k ≠ 2) (h3 : k ≠ 3) (h4 : k ≠ 4) (h5 : k ≠ 5) (h6 : k ≠ 6) : CallsF P g 77 [encV (.mk k n s l), encV (.mk k n2 s2 l2)] (int 0) := by
  refine sx_fn (hs := [.dec false, .dec false, .dec false, .dec false, .dec false, .dec false, .dec false]) (((k != k) = (false)) ∧ ((k == 1) = (false)) ∧ ((k == 2) = (false)) ∧ ((k == 3) = (false)) ∧ ((k == 4) = (false)) ∧ ((k == 5) = (false)) ∧ ((k == 6) = (false)) ∧ E (int 0)) get77 ent77 (by kernel_rfl) ?_
  refine ⟨?_, ⟨?_, ⟨?_, ⟨?_, ⟨?_, ⟨?_, ⟨?_, rfl⟩⟩⟩⟩⟩⟩⟩
  all_goals (simp [h1, h2, h3, h4, h5, h6]; done)
end Go.Sx

/-
  Proved: what some functions of the program answer, or a law of the evaluator that shows it, one theorem each; its conditions are the hypotheses that stand ahead of it.
-/
import Derived.Test.YtgbkobkiomeokaaDoorV0
import Derived.KernelRfl
import Derived.Lib.Bytealg
set_option maxRecDepth 100000
set_option maxHeartbeats 4000000
set_option linter.unusedSimpArgs false
set_option linter.unusedVariables false
namespace Go.Sx
open Go.Proofs Sp
theorem get50 : P.funcs[50]? = some Tryd.f50 := by kernel_rfl
theorem ent50 : entersP P 50 = true := by kernel_rfl
theorem isNaN_ok {g : Gr} (a : Int)  : CallsF P g 50 [int a] (bool false) := by
  refine sx_fn (hs := []) ((bool (a != a)) = (bool false)) get50 ent50 (by kernel_rfl) ?_
  all_goals simp
theorem get51 : P.funcs[51]? = some Tryd.f51 := by kernel_rfl
theorem ent51 : entersP P 51 = true := by kernel_rfl
theorem isNaN64_ok {g : Gr} (a : Int)  : CallsF P g 51 [int a] (bool false) := by
  refine sx_fn (hs := []) ((bool (a != a)) = (bool false)) get51 ent51 (by kernel_rfl) ?_
  all_goals simp
theorem get35 : P.funcs[35]? = some Tryd.f35 := by kernel_rfl
theorem ent35 : entersP P 35 = true := by kernel_rfl
theorem cmpInt_lt {g : Gr} (a b : Int) (h : a < b) : CallsF P g 35 [int a, int b] (int (-1)) := by
  refine sx_fn (hs := [.call (bool false), .call (bool false), .dec false, .dec false, .dec true]) ((CallsF P g 50 [int a] (bool false)) ∧ (CallsF P g 50 [int b] (bool false)) ∧ (E (false)) ∧ (E (false)) ∧ ((decide (a < b)) = (true)) ∧ E (int (-1))) get35 ent35 (by kernel_rfl) ?_
  refine ⟨?_, ⟨?_, ⟨rfl, ⟨rfl, ⟨?_, rfl⟩⟩⟩⟩⟩
  all_goals first | exact isNaN_ok _ | (simp only [decide_eq_true_eq, decide_eq_false_iff_not]; omega)
theorem cmpInt_gt {g : Gr} (a b : Int) (h : b < a) : CallsF P g 35 [int a, int b] (int 1) := by
  refine sx_fn (hs := [.call (bool false), .call (bool false), .dec false, .dec false, .dec false, .dec true]) (CallsF P g 50 [int a] (bool false) ∧ CallsF P g 50 [int b] (bool false) ∧ E false ∧ E false ∧ decide (a < b) = false ∧ decide (a > b) = true ∧ E (int 1)) get35 ent35 (by kernel_rfl) ?_
  refine ⟨?_, ?_, rfl, rfl, ?_, ?_, rfl⟩
  all_goals first | exact isNaN_ok _ | (simp only [decide_eq_true_eq, decide_eq_false_iff_not]; omega)
theorem cmpInt_eq {g : Gr} (a b : Int) (h : a = b) : CallsF P g 35 [int a, int b] (int 0) := by
  refine sx_fn (hs := [.call (bool false), .call (bool false), .dec false, .dec false, .dec false, .dec false]) (CallsF P g 50 [int a] (bool false) ∧ CallsF P g 50 [int b] (bool false) ∧ E false ∧ E false ∧ decide (a < b) = false ∧ decide (a > b) = false ∧ E (int 0)) get35 ent35 (by kernel_rfl) ?_
  refine ⟨?_, ?_, rfl, rfl, ?_, ?_, rfl⟩
  all_goals first | exact isNaN_ok _ | (simp only [decide_eq_true_eq, decide_eq_false_iff_not]; omega)
theorem cmpInt_ok {g : Gr} (a b : Int) : CallsF P g 35 [int a, int b] (int (cmpI a b)) := by
  unfold cmpI
  split
  · exact cmpInt_lt a b (by assumption)
  · split
    · exact cmpInt_gt a b (by assumption)
    · exact cmpInt_eq a b (by omega)
theorem get36 : P.funcs[36]? = some Tryd.f36 := by kernel_rfl
theorem ent36 : entersP P 36 = true := by kernel_rfl
theorem cmpInt64_lt {g : Gr} (a b : Int) (h : a < b) : CallsF P g 36 [int a, int b] (int (-1)) := by
  refine sx_fn (hs := [.call (bool false), .call (bool false), .dec false, .dec false, .dec true]) ((CallsF P g 51 [int a] (bool false)) ∧ (CallsF P g 51 [int b] (bool false)) ∧ (E (false)) ∧ (E (false)) ∧ ((decide (a < b)) = (true)) ∧ E (int (-1))) get36 ent36 (by kernel_rfl) ?_
  refine ⟨?_, ⟨?_, ⟨rfl, ⟨rfl, ⟨?_, rfl⟩⟩⟩⟩⟩
  all_goals first | exact isNaN64_ok _ | (simp only [decide_eq_true_eq, decide_eq_false_iff_not]; omega)
theorem cmpInt64_gt {g : Gr} (a b : Int) (h : b < a) : CallsF P g 36 [int a, int b] (int 1) := by
  refine sx_fn (hs := [.call (bool false), .call (bool false), .dec false, .dec false, .dec false, .dec true]) (CallsF P g 51 [int a] (bool false) ∧ CallsF P g 51 [int b] (bool false) ∧ E false ∧ E false ∧ decide (a < b) = false ∧ decide (a > b) = true ∧ E (int 1)) get36 ent36 (by kernel_rfl) ?_
  refine ⟨?_, ?_, rfl, rfl, ?_, ?_, rfl⟩
  all_goals first | exact isNaN64_ok _ | (simp only [decide_eq_true_eq, decide_eq_false_iff_not]; omega)
theorem cmpInt64_eq {g : Gr} (a b : Int) (h : a = b) : CallsF P g 36 [int a, int b] (int 0) := by
  refine sx_fn (hs := [.call (bool false), .call (bool false), .dec false, .dec false, .dec false, .dec false]) (CallsF P g 51 [int a] (bool false) ∧ CallsF P g 51 [int b] (bool false) ∧ E false ∧ E false ∧ decide (a < b) = false ∧ decide (a > b) = false ∧ E (int 0)) get36 ent36 (by kernel_rfl) ?_
  refine ⟨?_, ?_, rfl, rfl, ?_, ?_, rfl⟩
  all_goals first | exact isNaN64_ok _ | (simp only [decide_eq_true_eq, decide_eq_false_iff_not]; omega)
theorem cmpInt64_ok {g : Gr} (a b : Int) : CallsF P g 36 [int a, int b] (int (cmpI a b)) := by
  unfold cmpI
  split
  · exact cmpInt64_lt a b (by assumption)
  · split
    · exact cmpInt64_gt a b (by assumption)
    · exact cmpInt64_eq a b (by omega)
end Go.Sx
set_option maxRecDepth 100000
set_option maxHeartbeats 4000000
set_option linter.unusedSimpArgs false
set_option linter.unusedVariables false
namespace Go.Sx
open Go.Proofs Sp
theorem lex_split {α : Type} [Inhabited α] (c : α → α → Int) : ∀ (l m : List α), ∃ N, N ≤ l.length ∧ N ≤ m.length ∧ (∀ i, i < N → c (l.getD i default) (m.getD i default) = 0) ∧
    ((N = l.length ∧ N = m.length ∧ lexC c l m = 0) ∨ (N = l.length ∧ N < m.length ∧ lexC c l m = -1) ∨ (N = m.length ∧ N < l.length ∧ lexC c l m = 1) ∨
     (N < l.length ∧ N < m.length ∧ c (l.getD N default) (m.getD N default) ≠ 0 ∧ lexC c l m = c (l.getD N default) (m.getD N default)))
  | [], [] => ⟨0, by simp [lexC]⟩
  | [], _ :: _ => ⟨0, by simp [lexC]⟩
  | _ :: _, [] => ⟨0, by simp [lexC]⟩
  | a :: l, b :: m => by
    by_cases h : c a b = 0
    · obtain ⟨N, h1, h2, h3, h4⟩ := lex_split c l m
      refine ⟨N + 1, by simp; omega, by simp; omega, ?_, ?_⟩
      · intro i hi
        cases i with
        | zero => simpa using h
        | succ i => simpa using h3 i (by omega)
      · simp only [lexC, if_pos h, List.length_cons, List.getD_cons_succ]
        omega
    · exact ⟨0, by simp, by simp, by simp, by simp [lexC, h]⟩
def Scmp (f : Nat) (l m : List V) (i : Nat) : St := { sl := slots 39 [(0, .f (encI l)), (1, .f (encI m)), (2, .f (.fn f [] [])), (6, .f (int 0)), (11, .f (encI l)), (12, .f (int (cellsVs l).length)), (13, .f (int i))], ob := [], nx := 0 }
def Hcmp (l m : List V) (i : Nat) : List Hint := [.dec true, .el (cellsP (l.getD i default)), .dec false, .el (cellsP (m.getD i default)), .call (int 0), .dec false]
theorem get38 : P.funcs[38]? = some Tryd.f38 := by kernel_rfl
theorem ent38 : entersP P 38 = true := by kernel_rfl
theorem cmpF_less {g : Gr} (f : Nat) (l m : List V) (N : Nat) (hl : l.length ≤ 9223372036854775806) (hc : ∀ i, i < N → CallsF P g f [encV (l.getD i default), encV (m.getD i default)] (int 0)) (h1 : N ≤ l.length) (h2 : N ≤ m.length) (h3 : N = l.length) (h4 : N < m.length) : CallsF P g 38 [encI l, encI m, .fn f [] []] (int (-1)) := by
  refine sx_fn (hs := [.loop [] [] (Scmp f l m) N (Hcmp l m), .dec false, .dec true]) (let z1 := (↑(List.length (cellsVs l)) : Int); let z2 := (↑(List.length (cellsVs m)) : Int); (E true ∧ (E (AV.f (encI l)) ∧ E (AV.f (encI m)) ∧ E (AV.f (FV.fn f [] [])) ∧ E (AV.f (int 0)) ∧ E (AV.f (encI l)) ∧ E (AV.f (int z1)) ∧ AV.f (int 0) = AV.f (int (Int.ofNat 0)) ∧ True) ∧ True ∧ E true ∧ (false = true → false = true)) ∧ (∀ (i : Nat), i < N → decide ((i : Int) < z1) = true ∧ (E 4 ∧ (0 : Int) ≤ (i : Int) ∧ (cellsVs l)[i]? = some (cellsP (List.getD l i default))) ∧ decide ((i : Int) ≥ z2) = false ∧ (E 4 ∧ (0 : Int) ≤ (i : Int) ∧ (cellsVs m)[i]? = some (cellsP (List.getD m i default))) ∧ CallsF P g f [encV (List.getD l i default), encV (List.getD m i default)] (int 0) ∧ E false ∧ E true ∧ (E (AV.f (encI l)) ∧ E (AV.f (encI m)) ∧ E (AV.f (FV.fn f [] [])) ∧ E (AV.f (int 0)) ∧ E (AV.f (encI l)) ∧ E (AV.f (int z1)) ∧ AV.f (int (IntKind.wrap IntKind.i64 ((i : Int) + 1))) = AV.f (int (↑(i + 1) : Int)) ∧ True) ∧ True ∧ E true ∧ (false = true → false = true)) ∧ decide ((N : Int) < z1) = false ∧ decide (z1 < z2) = true ∧ E (int (-1))) get38 ent38 (by kernel_rfl) ?_
  refine ⟨⟨rfl, ⟨rfl, rfl, rfl, rfl, rfl, rfl, ?_, trivial⟩, trivial, rfl, fun hi => ?_⟩, fun i => fun hi => ⟨?_, ⟨rfl, ?_, ?_⟩, ?_, ⟨rfl, ?_, ?_⟩, ?_, rfl, rfl, ⟨rfl, rfl, rfl, rfl, rfl, rfl, ?_, trivial⟩, trivial, rfl, fun hi => ?_⟩, ?_, ?_, rfl⟩
  all_goals first | exact hc i hi | exact cellsVs_get l i (by omega) | exact cellsVs_get m i (by omega) | (simp [cellsVs_length]; done) | (simp [cellsVs_length]; omega) | (rw [wrapS _ (by omega) (by omega)]; rfl) | assumption
theorem cmpF_same {g : Gr} (f : Nat) (l m : List V) (N : Nat) (hl : l.length ≤ 9223372036854775806) (hc : ∀ i, i < N → CallsF P g f [encV (l.getD i default), encV (m.getD i default)] (int 0)) (h1 : N ≤ l.length) (h2 : N ≤ m.length) (h3 : N = l.length) (h4 : N = m.length) : CallsF P g 38 [encI l, encI m, .fn f [] []] (int 0) := by
  refine sx_fn (hs := [.loop [] [] (Scmp f l m) N (Hcmp l m), .dec false, .dec false]) (let z1 := (↑(List.length (cellsVs l)) : Int); let z2 := (↑(List.length (cellsVs m)) : Int); (E true ∧ (E (AV.f (encI l)) ∧ E (AV.f (encI m)) ∧ E (AV.f (FV.fn f [] [])) ∧ E (AV.f (int 0)) ∧ E (AV.f (encI l)) ∧ E (AV.f (int z1)) ∧ AV.f (int 0) = AV.f (int (Int.ofNat 0)) ∧ True) ∧ True ∧ E true ∧ (false = true → false = true)) ∧ (∀ (i : Nat), i < N → decide ((i : Int) < z1) = true ∧ (E 4 ∧ (0 : Int) ≤ (i : Int) ∧ (cellsVs l)[i]? = some (cellsP (List.getD l i default))) ∧ decide ((i : Int) ≥ z2) = false ∧ (E 4 ∧ (0 : Int) ≤ (i : Int) ∧ (cellsVs m)[i]? = some (cellsP (List.getD m i default))) ∧ CallsF P g f [encV (List.getD l i default), encV (List.getD m i default)] (int 0) ∧ E false ∧ E true ∧ (E (AV.f (encI l)) ∧ E (AV.f (encI m)) ∧ E (AV.f (FV.fn f [] [])) ∧ E (AV.f (int 0)) ∧ E (AV.f (encI l)) ∧ E (AV.f (int z1)) ∧ AV.f (int (IntKind.wrap IntKind.i64 ((i : Int) + 1))) = AV.f (int (↑(i + 1) : Int)) ∧ True) ∧ True ∧ E true ∧ (false = true → false = true)) ∧ decide ((N : Int) < z1) = false ∧ decide (z1 < z2) = false ∧ E (int 0)) get38 ent38 (by kernel_rfl) ?_
  refine ⟨⟨rfl, ⟨rfl, rfl, rfl, rfl, rfl, rfl, ?_, trivial⟩, trivial, rfl, fun hi => ?_⟩, fun i => fun hi => ⟨?_, ⟨rfl, ?_, ?_⟩, ?_, ⟨rfl, ?_, ?_⟩, ?_, rfl, rfl, ⟨rfl, rfl, rfl, rfl, rfl, rfl, ?_, trivial⟩, trivial, rfl, fun hi => ?_⟩, ?_, ?_, rfl⟩
  all_goals first | exact hc i hi | exact cellsVs_get l i (by omega) | exact cellsVs_get m i (by omega) | (simp [cellsVs_length]; done) | (simp [cellsVs_length]; omega) | (rw [wrapS _ (by omega) (by omega)]; rfl) | assumption
theorem cmpF_more {g : Gr} (f : Nat) (l m : List V) (N : Nat) (hl : l.length ≤ 9223372036854775806) (hc : ∀ i, i < N → CallsF P g f [encV (l.getD i default), encV (m.getD i default)] (int 0)) (h1 : N ≤ l.length) (h2 : N ≤ m.length) (h3 : N = m.length) (h4 : N < l.length) : CallsF P g 38 [encI l, encI m, .fn f [] []] (int 1) := by
  refine sx_fn (hs := [.loop [] [] (Scmp f l m) N (Hcmp l m), .dec true, .el (cellsP (l.getD N default)), .dec true]) (let z1 := (↑(List.length (cellsVs l)) : Int); let z2 := (↑(List.length (cellsVs m)) : Int); (E true ∧ (E (AV.f (encI l)) ∧ E (AV.f (encI m)) ∧ E (AV.f (FV.fn f [] [])) ∧ E (AV.f (int 0)) ∧ E (AV.f (encI l)) ∧ E (AV.f (int z1)) ∧ AV.f (int 0) = AV.f (int (Int.ofNat 0)) ∧ True) ∧ True ∧ E true ∧ (false = true → false = true)) ∧ (∀ (i : Nat), i < N → decide ((i : Int) < z1) = true ∧ (E 4 ∧ (0 : Int) ≤ (i : Int) ∧ (cellsVs l)[i]? = some (cellsP (List.getD l i default))) ∧ decide ((i : Int) ≥ z2) = false ∧ (E 4 ∧ (0 : Int) ≤ (i : Int) ∧ (cellsVs m)[i]? = some (cellsP (List.getD m i default))) ∧ CallsF P g f [encV (List.getD l i default), encV (List.getD m i default)] (int 0) ∧ E false ∧ E true ∧ (E (AV.f (encI l)) ∧ E (AV.f (encI m)) ∧ E (AV.f (FV.fn f [] [])) ∧ E (AV.f (int 0)) ∧ E (AV.f (encI l)) ∧ E (AV.f (int z1)) ∧ AV.f (int (IntKind.wrap IntKind.i64 ((i : Int) + 1))) = AV.f (int (↑(i + 1) : Int)) ∧ True) ∧ True ∧ E true ∧ (false = true → false = true)) ∧ decide ((N : Int) < z1) = true ∧ (E 4 ∧ (0 : Int) ≤ (N : Int) ∧ (cellsVs l)[N]? = some (cellsP (List.getD l N default))) ∧ decide ((N : Int) ≥ z2) = true ∧ E (int 1)) get38 ent38 (by kernel_rfl) ?_
  refine ⟨⟨rfl, ⟨rfl, rfl, rfl, rfl, rfl, rfl, ?_, trivial⟩, trivial, rfl, fun hi => ?_⟩, fun i => fun hi => ⟨?_, ⟨rfl, ?_, ?_⟩, ?_, ⟨rfl, ?_, ?_⟩, ?_, rfl, rfl, ⟨rfl, rfl, rfl, rfl, rfl, rfl, ?_, trivial⟩, trivial, rfl, fun hi => ?_⟩, ?_, ⟨rfl, ?_, ?_⟩, ?_, rfl⟩
  all_goals first | exact hc i hi | exact cellsVs_get l i (by omega) | exact cellsVs_get m i (by omega) | exact cellsVs_get l N (by omega) | (simp [cellsVs_length]; done) | (simp [cellsVs_length]; omega) | (rw [wrapS _ (by omega) (by omega)]; rfl) | assumption
theorem cmpF_at {g : Gr} (f : Nat) (l m : List V) (N : Nat) (x : Int) (hl : l.length ≤ 9223372036854775806) (hc : ∀ i, i < N → CallsF P g f [encV (l.getD i default), encV (m.getD i default)] (int 0)) (h1 : N ≤ l.length) (h2 : N ≤ m.length) (h3 : N < l.length) (h4 : N < m.length) (hx : x ≠ 0) (hlast : CallsF P g f [encV (l.getD N default), encV (m.getD N default)] (int x)) : CallsF P g 38 [encI l, encI m, .fn f [] []] (int x) := by
  refine sx_fn (hs := [.loop [] [] (Scmp f l m) N (Hcmp l m), .dec true, .el (cellsP (l.getD N default)), .dec false, .el (cellsP (m.getD N default)), .call (int x), .dec true]) (let z1 := (↑(List.length (cellsVs l)) : Int); let z2 := (↑(List.length (cellsVs m)) : Int); (E true ∧ (E (AV.f (encI l)) ∧ E (AV.f (encI m)) ∧ E (AV.f (FV.fn f [] [])) ∧ E (AV.f (int 0)) ∧ E (AV.f (encI l)) ∧ E (AV.f (int z1)) ∧ AV.f (int 0) = AV.f (int (Int.ofNat 0)) ∧ True) ∧ True ∧ E true ∧ (false = true → false = true)) ∧ (∀ (i : Nat), i < N → decide ((i : Int) < z1) = true ∧ (E 4 ∧ (0 : Int) ≤ (i : Int) ∧ (cellsVs l)[i]? = some (cellsP (List.getD l i default))) ∧ decide ((i : Int) ≥ z2) = false ∧ (E 4 ∧ (0 : Int) ≤ (i : Int) ∧ (cellsVs m)[i]? = some (cellsP (List.getD m i default))) ∧ CallsF P g f [encV (List.getD l i default), encV (List.getD m i default)] (int 0) ∧ E false ∧ E true ∧ (E (AV.f (encI l)) ∧ E (AV.f (encI m)) ∧ E (AV.f (FV.fn f [] [])) ∧ E (AV.f (int 0)) ∧ E (AV.f (encI l)) ∧ E (AV.f (int z1)) ∧ AV.f (int (IntKind.wrap IntKind.i64 ((i : Int) + 1))) = AV.f (int (↑(i + 1) : Int)) ∧ True) ∧ True ∧ E true ∧ (false = true → false = true)) ∧ decide ((N : Int) < z1) = true ∧ (E 4 ∧ (0 : Int) ≤ (N : Int) ∧ (cellsVs l)[N]? = some (cellsP (List.getD l N default))) ∧ decide ((N : Int) ≥ z2) = false ∧ (E 4 ∧ (0 : Int) ≤ (N : Int) ∧ (cellsVs m)[N]? = some (cellsP (List.getD m N default))) ∧ CallsF P g f [encV (List.getD l N default), encV (List.getD m N default)] (int x) ∧ (x != 0) = true ∧ E (int x)) get38 ent38 (by kernel_rfl) ?_
  refine ⟨⟨rfl, ⟨rfl, rfl, rfl, rfl, rfl, rfl, ?_, trivial⟩, trivial, rfl, fun hi => ?_⟩, fun i => fun hi => ⟨?_, ⟨rfl, ?_, ?_⟩, ?_, ⟨rfl, ?_, ?_⟩, ?_, rfl, rfl, ⟨rfl, rfl, rfl, rfl, rfl, rfl, ?_, trivial⟩, trivial, rfl, fun hi => ?_⟩, ?_, ⟨rfl, ?_, ?_⟩, ?_, ⟨rfl, ?_, ?_⟩, ?_, ?_, rfl⟩
  all_goals first | exact hc i hi | exact cellsVs_get l i (by omega) | exact cellsVs_get m i (by omega) | exact cellsVs_get l N (by omega) | exact cellsVs_get m N (by omega) | exact hlast | (simp [cellsVs_length]; done) | (simp [cellsVs_length]; omega) | (rw [wrapS _ (by omega) (by omega)]; rfl) | assumption
theorem cmpF_ok {g : Gr} (f : Nat) (c : V → V → Int) (l m : List V) (hl : l.length ≤ 9223372036854775806) (hc : ∀ a b, a ∈ l → b ∈ m → CallsF P g f [encV a, encV b] (int (c a b))) : CallsF P g 38 [encI l, encI m, .fn f [] []] (int (lexC c l m)) := by
  obtain ⟨N, h1, h2, h3, h4⟩ := lex_split c l m
  have hg : ∀ (l : List V) i, i < l.length → l.getD i default ∈ l := fun l i h => by
    rw [List.getD_eq_getElem?_getD, List.getElem?_eq_getElem h]; exact List.getElem_mem h
  have hN : ∀ i, i < N → CallsF P g f [encV (l.getD i default), encV (m.getD i default)] (int 0) := fun i hi => by
    have := hc _ _ (hg l i (by omega)) (hg m i (by omega))
    rwa [h3 i hi] at this
  rcases h4 with ⟨a, b, e⟩ | ⟨a, b, e⟩ | ⟨a, b, e⟩ | ⟨a, b, x, e⟩
  · rw [e]; exact cmpF_same f l m N hl hN h1 h2 a b
  · rw [e]; exact cmpF_less f l m N hl hN h1 h2 a b
  · rw [e]; exact cmpF_more f l m N hl hN h1 h2 a b
  · rw [e]; exact cmpF_at f l m N _ hl hN h1 h2 a b x (hc _ _ (hg l N a) (hg m N b))
end Go.Sx
set_option maxRecDepth 100000
set_option maxHeartbeats 4000000
set_option linter.unusedSimpArgs false
set_option linter.unusedVariables false
namespace Go.Sx
open Go.Proofs Sp
theorem cmpB_lib : ∀ a b : List UInt8, Lib.compareBytes a b = cmpB a b
  | [], [] => rfl
  | [], _ :: _ => rfl
  | _ :: _, [] => rfl
  | a :: l, b :: m => by simp only [Lib.compareBytes, cmpB, cmpB_lib l m]
theorem get61 : P.funcs[61]? = some Tryd.f61 := by kernel_rfl
theorem cmpstr_ok {g : Gr} (a b : List UInt8) : CallsF P g 61 [str a, str b] (int (cmpB a b)) := by
  intro w ok vs hg hok hv
  simp only [FRelL, str, FRel] at hv
  obtain ⟨v, r, rfl, rfl, u, r', rfl, rfl, rfl⟩ := hv
  unfold CallY
  rw [show [Value.string ⟨a.toArray⟩, Value.string ⟨b.toArray⟩].toArray = #[Value.string ⟨a.toArray⟩, Value.string ⟨b.toArray⟩] from rfl,
    run_callFunc_extern get61 (by kernel_rfl) (by kernel_rfl) (by kernel_rfl) (e := Extern.BytealgCompare.compare) (by kernel_rfl), Lib.run_compareString]
  simp only [Result.andThen]
  refine ⟨?_, Ext.refl w⟩
  simp [FRel, int, cmpB_lib]
theorem get52 : P.funcs[52]? = some Tryd.f52 := by kernel_rfl
theorem ent52 : entersP P 52 = true := by kernel_rfl
theorem cmpString_ok {g : Gr} (a b : List UInt8)  : CallsF P g 52 [str a, str b] (int (cmpB a b)) := by
  refine sx_fn (hs := [.call (int (cmpB a b))]) ((CallsF P g 61 [str a, str b] (int (cmpB a b))) ∧ E (int (cmpB a b))) get52 ent52 (by kernel_rfl) ?_
  refine ⟨?_, rfl⟩
  all_goals exact cmpstr_ok a b
theorem get37 : P.funcs[37]? = some Tryd.f37 := by kernel_rfl
theorem ent37 : entersP P 37 = true := by kernel_rfl
theorem stringsCompare_ok {g : Gr} (a b : List UInt8)  : CallsF P g 37 [str a, str b] (int (cmpB a b)) := by
  refine sx_fn (hs := [.call (int (cmpB a b))]) ((CallsF P g 52 [str a, str b] (int (cmpB a b))) ∧ E (int (cmpB a b))) get37 ent37 (by kernel_rfl) ?_
  refine ⟨?_, rfl⟩
  all_goals exact cmpString_ok a b
theorem get16 : P.funcs[16]? = some Tryd.f16 := by kernel_rfl
theorem ent16 : entersP P 16 = true := by kernel_rfl
theorem cmpV_kind {g : Gr} (k n k2 n2 : Int) (s s2 : List UInt8) (l l2 : List V) (h : k ≠ k2) : CallsF P g 16 [encV (.mk k n s l), encV (.mk k2 n2 s2 l2)] (int (cmpI k k2)) := by
  refine sx_fn (hs := [.dec true, .call (int (cmpI k k2))]) (((k != k2) = (true)) ∧ (CallsF P g 35 [int k, int k2] (int (cmpI k k2))) ∧ E (int (cmpI k k2))) get16 ent16 (by kernel_rfl) ?_
  refine ⟨?_, ⟨?_, rfl⟩⟩
  all_goals first | exact cmpInt_ok _ _ | (simp [h]; done)
theorem cmpV_num1 {g : Gr} (n n2 : Int) (s s2 : List UInt8) (l l2 : List V)  : CallsF P g 16 [encV (.mk 1 n s l), encV (.mk 1 n2 s2 l2)] (int (cmpI n n2)) := by
  refine sx_fn (hs := [.dec false, .dec true, .dec true, .call (int (cmpI n n2))]) ((E (false)) ∧ (E (true)) ∧ (E (true)) ∧ (CallsF P g 36 [int n, int n2] (int (cmpI n n2))) ∧ E (int (cmpI n n2))) get16 ent16 (by kernel_rfl) ?_
  refine ⟨rfl, ⟨rfl, ⟨rfl, ⟨?_, rfl⟩⟩⟩⟩
  all_goals exact cmpInt64_ok _ _
theorem cmpV_num2 {g : Gr} (n n2 : Int) (s s2 : List UInt8) (l l2 : List V)  : CallsF P g 16 [encV (.mk 2 n s l), encV (.mk 2 n2 s2 l2)] (int (cmpI n n2)) := by
  refine sx_fn (hs := [.dec false, .dec false, .dec true, .call (int (cmpI n n2))]) ((E (false)) ∧ (E (false)) ∧ (E (true)) ∧ (CallsF P g 36 [int n, int n2] (int (cmpI n n2))) ∧ E (int (cmpI n n2))) get16 ent16 (by kernel_rfl) ?_
  refine ⟨rfl, ⟨rfl, ⟨rfl, ⟨?_, rfl⟩⟩⟩⟩
  all_goals exact cmpInt64_ok _ _
theorem cmpV_text {g : Gr} (n n2 : Int) (s s2 : List UInt8) (l l2 : List V)  : CallsF P g 16 [encV (.mk 3 n s l), encV (.mk 3 n2 s2 l2)] (int (cmpB s s2)) := by
  refine sx_fn (hs := [.dec false, .dec false, .dec false, .dec true, .call (int (cmpB s s2))]) ((E (false)) ∧ (E (false)) ∧ (E (false)) ∧ (E (true)) ∧ (CallsF P g 37 [str s, str s2] (int (cmpB s s2))) ∧ E (int (cmpB s s2))) get16 ent16 (by kernel_rfl) ?_
  refine ⟨rfl, ⟨rfl, ⟨rfl, ⟨rfl, ⟨?_, rfl⟩⟩⟩⟩⟩
  all_goals exact stringsCompare_ok _ _
theorem cmpV_items4 {g : Gr} (n n2 : Int) (s s2 : List UInt8) (l l2 : List V) (x : Int) (h : CallsF P g 38 [encI l, encI l2, .fn 16 [] []] (int x)) : CallsF P g 16 [encV (.mk 4 n s l), encV (.mk 4 n2 s2 l2)] (int x) := by
  refine sx_fn (hs := [.dec false, .dec false, .dec false, .dec false, .dec true, .dec true, .call (int x)]) ((E (false)) ∧ (E (false)) ∧ (E (false)) ∧ (E (false)) ∧ (E (true)) ∧ (E (true)) ∧ (CallsF P g 38 [encI l, encI l2, FV.fn 16 [] []] (int x)) ∧ E (int x)) get16 ent16 (by kernel_rfl) ?_
  refine ⟨rfl, ⟨rfl, ⟨rfl, ⟨rfl, ⟨rfl, ⟨rfl, ⟨?_, rfl⟩⟩⟩⟩⟩⟩⟩
  all_goals assumption
theorem cmpV_items5 {g : Gr} (n n2 : Int) (s s2 : List UInt8) (l l2 : List V) (x : Int) (h : CallsF P g 38 [encI l, encI l2, .fn 16 [] []] (int x)) : CallsF P g 16 [encV (.mk 5 n s l), encV (.mk 5 n2 s2 l2)] (int x) := by
  refine sx_fn (hs := [.dec false, .dec false, .dec false, .dec false, .dec false, .dec true, .dec true, .call (int x)]) (E false ∧ E false ∧ E false ∧ E false ∧ E false ∧ E true ∧ E true ∧ CallsF P g 38 [encI l, encI l2, FV.fn 16 [] []] (int x) ∧ E (int x)) get16 ent16 (by kernel_rfl) ?_
  refine ⟨rfl, rfl, rfl, rfl, rfl, rfl, rfl, ?_, rfl⟩
  all_goals assumption
theorem cmpV_items6 {g : Gr} (n n2 : Int) (s s2 : List UInt8) (l l2 : List V) (x : Int) (h : CallsF P g 38 [encI l, encI l2, .fn 16 [] []] (int x)) : CallsF P g 16 [encV (.mk 6 n s l), encV (.mk 6 n2 s2 l2)] (int x) := by
  refine sx_fn (hs := [.dec false, .dec false, .dec false, .dec false, .dec false, .dec false, .dec true, .call (int x)]) (E false ∧ E false ∧ E false ∧ E false ∧ E false ∧ E false ∧ E true ∧ CallsF P g 38 [encI l, encI l2, FV.fn 16 [] []] (int x) ∧ E (int x)) get16 ent16 (by kernel_rfl) ?_
  refine ⟨rfl, rfl, rfl, rfl, rfl, rfl, rfl, ?_, rfl⟩
  all_goals assumption
theorem cmpV_else {g : Gr} (k n n2 : Int) (s s2 : List UInt8) (l l2 : List V) (h1 : k ≠ 1) (h2 : k ≠ 2) (h3 : k ≠ 3) (h4 : k ≠ 4) (h5 : k ≠ 5) (h6 : k ≠ 6) : CallsF P g 16 [encV (.mk k n s l), encV (.mk k n2 s2 l2)] (int 0) := by
  refine sx_fn (hs := [.dec false, .dec false, .dec false, .dec false, .dec false, .dec false, .dec false]) ((k != k) = false ∧ (k == 1) = false ∧ (k == 2) = false ∧ (k == 3) = false ∧ (k == 4) = false ∧ (k == 5) = false ∧ (k == 6) = false ∧ E (int 0)) get16 ent16 (by kernel_rfl) ?_
  refine ⟨?_, ?_, ?_, ?_, ?_, ?_, ?_, rfl⟩
  all_goals (simp [h1, h2, h3, h4, h5, h6]; done)
end Go.Sx
set_option maxRecDepth 100000
set_option maxHeartbeats 4000000
set_option linter.unusedSimpArgs false
set_option linter.unusedVariables false
namespace Go.Sx
open Go.Proofs Sp
/-- A value whose numbers and lengths are a machine's. -/
inductive Fine : V → Prop where
  | mk (k n : Int) (s : List UInt8) (l : List V) (hk : -9223372036854775808 ≤ k ∧ k ≤ 9223372036854775807) (hn : -9223372036854775808 ≤ n ∧ n ≤ 9223372036854775807)
    (hs : s.length ≤ 140737488351232) (hl : l.length ≤ 2513169434844) (hi : ∀ x, x ∈ l → Fine x) : Fine (.mk k n s l)
theorem Fine.items {k n : Int} {s : List UInt8} {l : List V} (h : Fine (.mk k n s l)) : l.length ≤ 1152921504606846976 ∧ ∀ x, x ∈ l → Fine x := by
  cases h; exact ⟨by omega, by assumption⟩
theorem Fine.len {k n : Int} {s : List UInt8} {l : List V} (h : Fine (.mk k n s l)) : l.length ≤ 2513169434844 ∧ s.length ≤ 140737488351232 := by
  cases h; exact ⟨by assumption, by assumption⟩
theorem compare_ok {g : Gr} : ∀ a b, Fine a → CallsF P g 16 [encV a, encV b] (int (cmpV a b)) := by
  intro a
  induction a using V.ind with
  | h k n s l ih =>
    intro b ha
    cases b with
    | mk k2 n2 s2 l2 =>
      obtain ⟨hl, hi⟩ := ha.items
      have hitems : CallsF P g 38 [encI l, encI l2, .fn 16 [] []] (int (lexC cmpV l l2)) :=
        cmpF_ok _ cmpV l l2 (by omega) fun x y hx _ => ih x hx y (hi x hx)
      rw [cmpV_mk]
      by_cases hk : k = k2
      · subst hk
        rw [if_neg (by simp)]
        by_cases h1 : k = 1
        · subst h1; exact cmpV_num1 _ _ _ _ _ _
        · by_cases h2 : k = 2
          · subst h2; exact cmpV_num2 _ _ _ _ _ _
          · rw [if_neg (by omega)]
            by_cases h3 : k = 3
            · subst h3; exact cmpV_text _ _ _ _ _ _
            · rw [if_neg h3]
              by_cases h4 : k = 4
              · subst h4; exact cmpV_items4 _ _ _ _ _ _ _ hitems
              · by_cases h5 : k = 5
                · subst h5; exact cmpV_items5 _ _ _ _ _ _ _ hitems
                · by_cases h6 : k = 6
                  · subst h6; exact cmpV_items6 _ _ _ _ _ _ _ hitems
                  · rw [if_neg (by omega)]
                    exact cmpV_else _ _ _ _ _ _ _ h1 h2 h3 h4 h5 h6
      · rw [if_pos hk]
        exact cmpV_kind _ _ _ _ _ _ _ _ hk
theorem get19 : P.funcs[19]? = some Tryd.f19 := by kernel_rfl
theorem ent19 : entersP P 19 = true := by kernel_rfl
theorem equal_ok {g : Gr} (a b : V) (ha : Fine a) : CallsF P g 19 [encV a, encV b] (bool (cmpV a b == 0)) := by
  refine sx_fn (hs := [.call (int (cmpV a b))]) ((CallsF P g 16 [encV a, encV b] (int (cmpV a b))) ∧ E (bool (cmpV a b == 0))) get19 ent19 (by kernel_rfl) ?_
  refine ⟨?_, rfl⟩
  all_goals exact compare_ok a b ha
end Go.Sx

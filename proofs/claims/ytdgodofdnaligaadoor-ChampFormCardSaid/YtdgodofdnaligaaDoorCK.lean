/-
  Proved: what some functions of the program answer, or a law of the evaluator that shows it, one theorem each; its conditions are the hypotheses that stand ahead of it.
-/
import Derived.Test.YtdgodofdnaligaaDoorC7
import Derived.KernelRfl
import Derived.Test.YtdgodofdnaligaaDoorC2
set_option maxRecDepth 100000
set_option maxHeartbeats 4000000
set_option linter.unusedSimpArgs false
set_option linter.unusedVariables false
namespace Go.Sx
open Go.Proofs Sp
/-- What stands against a value, its items apart. -/
noncomputable def badV : V → Int → Int → Bool
  | .mk k n s l, d, m => decide (m < 1) || decide (m ≤ l.length) || (decide (0 < l.length) && decide (d = 0)) || !plainB (.mk k n s l)
mutual
noncomputable def countV : V → Int → Int → Int
  | .mk k n s l, d, m => if badV (.mk k n s l) d m then 0 else if countL l (d - 1) m 1 = 0 then 0 else if formB (.mk k n s l) then countL l (d - 1) m 1 else 0
noncomputable def countL : List V → Int → Int → Int → Int
  | [], _, _, n => n
  | x :: l, d, m, n => if countV x d (m - n) = 0 then 0 else countL l d m (n + countV x d (m - n))
end
noncomputable def accV (l : List V) (d m : Int) : Nat → Int
  | 0 => 1
  | i + 1 => accV l d m i + countV (l.getD i default) d (m - accV l d m i)
def Scount (k n : Int) (s : List UInt8) (l : List V) (d m : Int) (a : Nat → Int) (i : Nat) : St := { sl := slots 59 [(1, .f (int d)), (2, .f (int m)), (3, .loc 0 0), (6, .f (int 0)), (7, .f (int (a i))), (36, .f (encI l)), (37, .f (int (cellsVs l).length)), (38, .f (int (i : Int)))], ob := [(0, .box ((cellsP (.mk k n s l)).map .f))], nx := 1 }
theorem plain_all : ∀ v : V, CallsF P G 64 [encV v] (bool (plainB v))
  | .mk k n s l => plain_ok k n s l
theorem get52 : P.funcs[52]? = some Tryd.f52 := by kernel_rfl
theorem ent52 : entersP P 52 = true := by kernel_rfl
theorem count_bad (k n : Int) (s : List UInt8) (l : List V) (d m : Int) (h : badV (.mk k n s l) d m = true) : CallsF P G 52 [encV (.mk k n s l), int d, int m] (int 0) := by
  refine sx_fn (hs := let z1 := bool (plainB (V.mk k n s l)); [.br [.dec true, .dec true, .dec true] [.br [.dec true, .dec true] [.br [.br [.dec true] [.call z1, .br [] []]] [.dec false, .call z1, .br [] []]]]]) (let z1 := (↑(List.length (cellsVs l)) : Int); let z2 := bool (plainB (V.mk k n s l)); Br (decide (m < 1)) (E true ∧ E true ∧ E true ∧ E (int 0)) (Br (decide (z1 ≥ m)) (E true ∧ E true ∧ E (int 0)) (Br (decide (z1 > 0)) (Br (d == 0) (E true ∧ E (int 0)) (CallsF P G 64 [FV.agg [int k, int n, str s, encI l]] z2 ∧ Br (!plainB (V.mk k n s l)) (E (int 0)) False)) (E false ∧ CallsF P G 64 [FV.agg [int k, int n, str s, encI l]] z2 ∧ Br (!plainB (V.mk k n s l)) (E (int 0)) False)))) get52 ent52 (by kernel_rfl) ?_
  refine ⟨fun hi => ⟨rfl, rfl, rfl, rfl⟩, fun hi => ⟨fun hi => ⟨rfl, rfl, rfl⟩, fun hi => ⟨fun hi => ⟨fun hi => ⟨rfl, rfl⟩, fun hi => ⟨?_, fun hi => rfl, fun hi => ?_⟩⟩, fun hi => ⟨rfl, ?_, fun hi => rfl, fun hi => ?_⟩⟩⟩⟩
  all_goals first | exact plain_all (.mk k n s l) | (exfalso; simp only [badV, Bool.or_eq_true, Bool.and_eq_true, cellsVs_length, V.items, decide_eq_true_eq, decide_eq_false_iff_not, beq_iff_eq, beq_eq_false_iff_ne, Bool.not_eq_true'] at *; simp_all; done)
theorem count_stop (k n : Int) (s : List UInt8) (l : List V) (d m : Int) (N : Nat) (h : badV (.mk k n s l) d m = false) (hl : l.length ≤ 1152921504606846976) (hN : N ≤ l.length) (hd : 0 < l.length → IntKind.wrap IntKind.i64 (d - 1) = d - 1)
  (hm : ∀ i, i ≤ N → IntKind.wrap IntKind.i64 (m - accV l (d - 1) m i) = m - accV l (d - 1) m i) (ha : ∀ i, i < N → IntKind.wrap IntKind.i64 (accV l (d - 1) m i + countV (l.getD i default) (d - 1) (m - accV l (d - 1) m i)) = accV l (d - 1) m (i + 1))
  (hk : ∀ i, i < N → countV (l.getD i default) (d - 1) (m - accV l (d - 1) m i) ≠ 0)
  (ih : ∀ i, i < l.length → i ≤ N → CallsF P G 52 [encV (l.getD i default), int (d - 1), int (m - accV l (d - 1) m i)] (int (countV (l.getD i default) (d - 1) (m - accV l (d - 1) m i)))) (h2 : N < l.length) (h3 : countV (l.getD N default) (d - 1) (m - accV l (d - 1) m N) = 0) : CallsF P G 52 [encV (.mk k n s l), int d, int m] (int 0) := by
  refine sx_fn (hs := let z2 := IntKind.wrap IntKind.i64 (d - 1); let z3 := List.getD l N default; let z1 := int (countV z3 z2 (IntKind.wrap IntKind.i64 (m - accV l (d - 1) m N))); let z4 := Scount k n s l d m (accV l (d - 1) m); let z5 := bool (plainB (V.mk k n s l)); let z6 := bool (formB (V.mk k n s l)); [.br [.dec true, .dec true, .dec true] [.br [.dec true, .dec true] [.br [.br [.dec true] [.call z5, .br [] [.loop [(0, 0)] [(0, 0)] z4 (N) (fun i => [.br [.el (cellsP (List.getD l i default)), .call (int (countV (List.getD l i default) z2 (IntKind.wrap IntKind.i64 (m - accV l (d - 1) m i)))), .br [] []] []]), .br [.el (cellsP z3), .call z1, .br [] []] [.call z6, .br [] []]]]] [.dec false, .call z5, .br [] [.loop [(0, 0)] [(0, 0)] z4 (N) (fun i => [.br [.el (cellsP (List.getD l i default)), .call (int (countV (List.getD l i default) z2 (IntKind.wrap IntKind.i64 (m - accV l (d - 1) m i)))), .br [] []] []]), .br [.el (cellsP z3), .call z1, .br [] []] [.call z6, .br [] []]]]]]]) (let z2 := IntKind.wrap IntKind.i64 (d - 1); let z3 := (↑(List.length (cellsVs l)) : Int); let z4 := E (Ob.box [AV.f (int k), AV.f (int n), AV.f (str s), AV.f (encI l)]) ∧ True; let z5 := E (AV.f (int d)) ∧ E (AV.f (int m)) ∧ E (AV.loc 0 0) ∧ E (AV.f (int 0)) ∧ AV.f (int 1) = AV.f (int (accV l (d - 1) m 0)) ∧ E (AV.f (encI l)) ∧ E (AV.f (int z3)) ∧ AV.f (int 0) = AV.f (int (Int.ofNat 0)) ∧ True; let z6 := CallsF P G 65 [FV.agg [int k, int n, str s, encI l]] (bool (formB (V.mk k n s l))) ∧ Br (!formB (V.mk k n s l)) (E (int 0)) (int (accV l (d - 1) m N) = int 0); let z7 := IntKind.wrap IntKind.i64 (m - accV l (d - 1) m N); let z8 := List.getD l N default; let z1 := (E 4 ∧ (0 : Int) ≤ (N : Int) ∧ (cellsVs l)[N]? = some (cellsP z8)) ∧ CallsF P G 52 [encV z8, int z2, int z7] (int (countV z8 z2 z7)) ∧ Br (countV z8 z2 z7 == 0) (E (int 0)) False; let z9 := bool (plainB (V.mk k n s l)); Br (decide (m < 1)) (E true ∧ E true ∧ E true ∧ E (int 0)) (Br (decide (z3 ≥ m)) (E true ∧ E true ∧ E (int 0)) (Br (decide (z3 > 0)) (Br (d == 0) (E true ∧ E (int 0)) (CallsF P G 64 [FV.agg [int k, int n, str s, encI l]] z9 ∧ Br (!plainB (V.mk k n s l)) (E (int 0)) ((E true ∧ z5 ∧ z4 ∧ E true ∧ (false = true → false = true)) ∧ (∀ (i : Nat), (let z10 := IntKind.wrap IntKind.i64 (m - accV l (d - 1) m i); let z11 := List.getD l i default; i < N → Br (decide ((i : Int) < z3)) ((E 4 ∧ (0 : Int) ≤ (i : Int) ∧ (cellsVs l)[i]? = some (cellsP z11)) ∧ CallsF P G 52 [encV z11, int z2, int z10] (int (countV z11 z2 z10)) ∧ Br (countV z11 z2 z10 == 0) False (E true ∧ (E (AV.f (int d)) ∧ E (AV.f (int m)) ∧ E (AV.loc 0 0) ∧ E (AV.f (int 0)) ∧ AV.f (int (IntKind.wrap IntKind.i64 (accV l (d - 1) m i + countV z11 z2 z10))) = AV.f (int (accV l (d - 1) m (i + 1))) ∧ E (AV.f (encI l)) ∧ E (AV.f (int z3)) ∧ AV.f (int (IntKind.wrap IntKind.i64 ((i : Int) + 1))) = AV.f (int (↑(i + 1) : Int)) ∧ True) ∧ z4 ∧ E true ∧ (St.nd (Scount k n s l d m (accV l (d - 1) m) (i + 1)) = true → false = true))) False)) ∧ Br (decide ((N : Int) < z3)) z1 z6))) (E false ∧ CallsF P G 64 [FV.agg [int k, int n, str s, encI l]] z9 ∧ Br (!plainB (V.mk k n s l)) (E (int 0)) ((E true ∧ z5 ∧ z4 ∧ E true ∧ (false = true → false = true)) ∧ (∀ (i : Nat), (let z12 := IntKind.wrap IntKind.i64 (m - accV l (d - 1) m i); let z13 := List.getD l i default; i < N → Br (decide ((i : Int) < z3)) ((E 4 ∧ (0 : Int) ≤ (i : Int) ∧ (cellsVs l)[i]? = some (cellsP z13)) ∧ CallsF P G 52 [encV z13, int z2, int z12] (int (countV z13 z2 z12)) ∧ Br (countV z13 z2 z12 == 0) False (E true ∧ (E (AV.f (int d)) ∧ E (AV.f (int m)) ∧ E (AV.loc 0 0) ∧ E (AV.f (int 0)) ∧ AV.f (int (IntKind.wrap IntKind.i64 (accV l (d - 1) m i + countV z13 z2 z12))) = AV.f (int (accV l (d - 1) m (i + 1))) ∧ E (AV.f (encI l)) ∧ E (AV.f (int z3)) ∧ AV.f (int (IntKind.wrap IntKind.i64 ((i : Int) + 1))) = AV.f (int (↑(i + 1) : Int)) ∧ True) ∧ z4 ∧ E true ∧ (St.nd (Scount k n s l d m (accV l (d - 1) m) (i + 1)) = true → false = true))) False)) ∧ Br (decide ((N : Int) < z3)) z1 z6))))) get52 ent52 (by kernel_rfl) ?_
  refine ⟨fun hi => ⟨rfl, rfl, rfl, rfl⟩, fun hi => ⟨fun hi => ⟨rfl, rfl, rfl⟩, fun hi => ⟨fun hi => ⟨fun hi => ⟨rfl, rfl⟩, fun hi => ⟨?_, fun hi => rfl, fun hi => ⟨⟨rfl, ⟨rfl, rfl, rfl, rfl, ?_, rfl, rfl, ?_, trivial⟩, ⟨rfl, trivial⟩, rfl, fun hi => ?_⟩, fun i => fun hlt => ⟨fun hi => ⟨⟨rfl, ?_, ?_⟩, ?_, fun hi => ?_, fun hi => ⟨rfl, ⟨rfl, rfl, rfl, rfl, ?_, rfl, rfl, ?_, trivial⟩, ⟨rfl, trivial⟩, rfl, fun hi => ?_⟩⟩, fun hi => ?_⟩, fun hi => ⟨⟨rfl, ?_, ?_⟩, ?_, fun hi => rfl, fun hi => ?_⟩, fun hi => ⟨?_, fun hi => rfl, fun hi => ?_⟩⟩⟩⟩, fun hi => ⟨rfl, ?_, fun hi => rfl, fun hi => ⟨⟨rfl, ⟨rfl, rfl, rfl, rfl, ?_, rfl, rfl, ?_, trivial⟩, ⟨rfl, trivial⟩, rfl, fun hi => ?_⟩, fun i => fun hlt => ⟨fun hi => ⟨⟨rfl, ?_, ?_⟩, ?_, fun hi => ?_, fun hi => ⟨rfl, ⟨rfl, rfl, rfl, rfl, ?_, rfl, rfl, ?_, trivial⟩, ⟨rfl, trivial⟩, rfl, fun hi => ?_⟩⟩, fun hi => ?_⟩, fun hi => ⟨⟨rfl, ?_, ?_⟩, ?_, fun hi => rfl, fun hi => ?_⟩, fun hi => ⟨?_, fun hi => rfl, fun hi => ?_⟩⟩⟩⟩⟩⟩
  all_goals first | rfl | exact plain_all (.mk k n s l) | (simp only [cellsVs_length, decide_eq_true_eq, decide_eq_false_iff_not] at *; omega) | (exact cellsVs_get l _ (by omega)) | (rw [hd (by omega), hm i (by omega)]; exact ih i (by omega) (by omega)) | (have h9 : N < l.length := by (simp only [cellsVs_length, decide_eq_true_eq] at hi; omega)); (rw [hd (by omega), hm N (by omega)]; exact ih N h9 (by omega)) | (exfalso; rw [hd (by omega), hm i (by omega)] at hi; simp only [beq_iff_eq] at hi; exact hk i hlt hi) | (rw [hd (by omega), hm i (by omega)]; exact congrArg (fun x => AV.f (int x)) (ha i hlt)) | (exact congrArg (fun x => AV.f (int x)) (wrapS ((i : Int) + 1) (by omega) (by omega))) | (exfalso; simp only [badV, Bool.or_eq_true, Bool.and_eq_true, Bool.or_eq_false_iff, Bool.and_eq_false_imp, cellsVs_length, V.items, decide_eq_true_eq, decide_eq_false_iff_not, beq_iff_eq, beq_eq_false_iff_ne, Bool.not_eq_true', Bool.not_eq_false'] at *; simp_all; done) | assumption
theorem count_full (k n : Int) (s : List UInt8) (l : List V) (d m : Int) (N : Nat) (h : badV (.mk k n s l) d m = false) (hl : l.length ≤ 1152921504606846976) (hN : N ≤ l.length) (hd : 0 < l.length → IntKind.wrap IntKind.i64 (d - 1) = d - 1)
  (hm : ∀ i, i ≤ N → IntKind.wrap IntKind.i64 (m - accV l (d - 1) m i) = m - accV l (d - 1) m i) (ha : ∀ i, i < N → IntKind.wrap IntKind.i64 (accV l (d - 1) m i + countV (l.getD i default) (d - 1) (m - accV l (d - 1) m i)) = accV l (d - 1) m (i + 1))
  (hk : ∀ i, i < N → countV (l.getD i default) (d - 1) (m - accV l (d - 1) m i) ≠ 0)
  (ih : ∀ i, i < l.length → i ≤ N → CallsF P G 52 [encV (l.getD i default), int (d - 1), int (m - accV l (d - 1) m i)] (int (countV (l.getD i default) (d - 1) (m - accV l (d - 1) m i)))) (h2 : N = l.length) (hf : CallsF P G 65 [encV (.mk k n s l)] (bool (formB (.mk k n s l)))) : CallsF P G 52 [encV (.mk k n s l), int d, int m] (int (if formB (.mk k n s l) then accV l (d - 1) m N else 0)) := by
  refine sx_fn (hs := let z2 := IntKind.wrap IntKind.i64 (d - 1); let z3 := List.getD l N default; let z1 := int (countV z3 z2 (IntKind.wrap IntKind.i64 (m - accV l (d - 1) m N))); let z4 := Scount k n s l d m (accV l (d - 1) m); let z5 := bool (plainB (V.mk k n s l)); let z6 := bool (formB (V.mk k n s l)); [.br [.dec true, .dec true, .dec true] [.br [.dec true, .dec true] [.br [.br [.dec true] [.call z5, .br [] [.loop [(0, 0)] [(0, 0)] z4 (N) (fun i => [.br [.el (cellsP (List.getD l i default)), .call (int (countV (List.getD l i default) z2 (IntKind.wrap IntKind.i64 (m - accV l (d - 1) m i)))), .br [] []] []]), .br [.el (cellsP z3), .call z1, .br [] []] [.call z6, .br [] []]]]] [.dec false, .call z5, .br [] [.loop [(0, 0)] [(0, 0)] z4 (N) (fun i => [.br [.el (cellsP (List.getD l i default)), .call (int (countV (List.getD l i default) z2 (IntKind.wrap IntKind.i64 (m - accV l (d - 1) m i)))), .br [] []] []]), .br [.el (cellsP z3), .call z1, .br [] []] [.call z6, .br [] []]]]]]]) (let z1 := if formB (V.mk k n s l) = true then accV l (d - 1) m N else 0; let z3 := IntKind.wrap IntKind.i64 (d - 1); let z4 := (↑(List.length (cellsVs l)) : Int); let z5 := E (Ob.box [AV.f (int k), AV.f (int n), AV.f (str s), AV.f (encI l)]) ∧ True; let z6 := E (AV.f (int d)) ∧ E (AV.f (int m)) ∧ E (AV.loc 0 0) ∧ E (AV.f (int 0)) ∧ AV.f (int 1) = AV.f (int (accV l (d - 1) m 0)) ∧ E (AV.f (encI l)) ∧ E (AV.f (int z4)) ∧ AV.f (int 0) = AV.f (int (Int.ofNat 0)) ∧ True; let z7 := CallsF P G 65 [FV.agg [int k, int n, str s, encI l]] (bool (formB (V.mk k n s l))) ∧ Br (!formB (V.mk k n s l)) (int 0 = int z1) (int (accV l (d - 1) m N) = int z1); let z8 := IntKind.wrap IntKind.i64 (m - accV l (d - 1) m N); let z9 := List.getD l N default; let z2 := (E 4 ∧ (0 : Int) ≤ (N : Int) ∧ (cellsVs l)[N]? = some (cellsP z9)) ∧ CallsF P G 52 [encV z9, int z3, int z8] (int (countV z9 z3 z8)) ∧ Br (countV z9 z3 z8 == 0) (int 0 = int z1) False; let z10 := bool (plainB (V.mk k n s l)); Br (decide (m < 1)) (E true ∧ E true ∧ E true ∧ int 0 = int z1) (Br (decide (z4 ≥ m)) (E true ∧ E true ∧ int 0 = int z1) (Br (decide (z4 > 0)) (Br (d == 0) (E true ∧ int 0 = int z1) (CallsF P G 64 [FV.agg [int k, int n, str s, encI l]] z10 ∧ Br (!plainB (V.mk k n s l)) (int 0 = int z1) ((E true ∧ z6 ∧ z5 ∧ E true ∧ (false = true → false = true)) ∧ (∀ (i : Nat), (let z11 := IntKind.wrap IntKind.i64 (m - accV l (d - 1) m i); let z12 := List.getD l i default; i < N → Br (decide ((i : Int) < z4)) ((E 4 ∧ (0 : Int) ≤ (i : Int) ∧ (cellsVs l)[i]? = some (cellsP z12)) ∧ CallsF P G 52 [encV z12, int z3, int z11] (int (countV z12 z3 z11)) ∧ Br (countV z12 z3 z11 == 0) False (E true ∧ (E (AV.f (int d)) ∧ E (AV.f (int m)) ∧ E (AV.loc 0 0) ∧ E (AV.f (int 0)) ∧ AV.f (int (IntKind.wrap IntKind.i64 (accV l (d - 1) m i + countV z12 z3 z11))) = AV.f (int (accV l (d - 1) m (i + 1))) ∧ E (AV.f (encI l)) ∧ E (AV.f (int z4)) ∧ AV.f (int (IntKind.wrap IntKind.i64 ((i : Int) + 1))) = AV.f (int (↑(i + 1) : Int)) ∧ True) ∧ z5 ∧ E true ∧ (St.nd (Scount k n s l d m (accV l (d - 1) m) (i + 1)) = true → false = true))) False)) ∧ Br (decide ((N : Int) < z4)) z2 z7))) (E false ∧ CallsF P G 64 [FV.agg [int k, int n, str s, encI l]] z10 ∧ Br (!plainB (V.mk k n s l)) (int 0 = int z1) ((E true ∧ z6 ∧ z5 ∧ E true ∧ (false = true → false = true)) ∧ (∀ (i : Nat), (let z13 := IntKind.wrap IntKind.i64 (m - accV l (d - 1) m i); let z14 := List.getD l i default; i < N → Br (decide ((i : Int) < z4)) ((E 4 ∧ (0 : Int) ≤ (i : Int) ∧ (cellsVs l)[i]? = some (cellsP z14)) ∧ CallsF P G 52 [encV z14, int z3, int z13] (int (countV z14 z3 z13)) ∧ Br (countV z14 z3 z13 == 0) False (E true ∧ (E (AV.f (int d)) ∧ E (AV.f (int m)) ∧ E (AV.loc 0 0) ∧ E (AV.f (int 0)) ∧ AV.f (int (IntKind.wrap IntKind.i64 (accV l (d - 1) m i + countV z14 z3 z13))) = AV.f (int (accV l (d - 1) m (i + 1))) ∧ E (AV.f (encI l)) ∧ E (AV.f (int z4)) ∧ AV.f (int (IntKind.wrap IntKind.i64 ((i : Int) + 1))) = AV.f (int (↑(i + 1) : Int)) ∧ True) ∧ z5 ∧ E true ∧ (St.nd (Scount k n s l d m (accV l (d - 1) m) (i + 1)) = true → false = true))) False)) ∧ Br (decide ((N : Int) < z4)) z2 z7))))) get52 ent52 (by kernel_rfl) ?_
  refine ⟨fun hi => ⟨rfl, rfl, rfl, ?_⟩, fun hi => ⟨fun hi => ⟨rfl, rfl, ?_⟩, fun hi => ⟨fun hi => ⟨fun hi => ⟨rfl, ?_⟩, fun hi => ⟨?_, fun hi => ?_, fun hi => ⟨⟨rfl, ⟨rfl, rfl, rfl, rfl, ?_, rfl, rfl, ?_, trivial⟩, ⟨rfl, trivial⟩, rfl, fun hi => ?_⟩, fun i => fun hlt => ⟨fun hi => ⟨⟨rfl, ?_, ?_⟩, ?_, fun hi => ?_, fun hi => ⟨rfl, ⟨rfl, rfl, rfl, rfl, ?_, rfl, rfl, ?_, trivial⟩, ⟨rfl, trivial⟩, rfl, fun hi => ?_⟩⟩, fun hi => ?_⟩, fun hi => ⟨⟨rfl, ?_, ?_⟩, ?_, fun hi => ?_, fun hi => ?_⟩, fun hi => ⟨?_, fun hi => ?_, fun hi => ?_⟩⟩⟩⟩, fun hi => ⟨rfl, ?_, fun hi => ?_, fun hi => ⟨⟨rfl, ⟨rfl, rfl, rfl, rfl, ?_, rfl, rfl, ?_, trivial⟩, ⟨rfl, trivial⟩, rfl, fun hi => ?_⟩, fun i => fun hlt => ⟨fun hi => ⟨⟨rfl, ?_, ?_⟩, ?_, fun hi => ?_, fun hi => ⟨rfl, ⟨rfl, rfl, rfl, rfl, ?_, rfl, rfl, ?_, trivial⟩, ⟨rfl, trivial⟩, rfl, fun hi => ?_⟩⟩, fun hi => ?_⟩, fun hi => ⟨⟨rfl, ?_, ?_⟩, ?_, fun hi => ?_, fun hi => ?_⟩, fun hi => ⟨?_, fun hi => ?_, fun hi => ?_⟩⟩⟩⟩⟩⟩
  all_goals first | rfl | exact plain_all (.mk k n s l) | (simp only [cellsVs_length, decide_eq_true_eq, decide_eq_false_iff_not] at *; omega) | (exact cellsVs_get l _ (by omega)) | (rw [hd (by omega), hm i (by omega)]; exact ih i (by omega) (by omega)) | (exfalso; rw [hd (by omega), hm i (by omega)] at hi; simp only [beq_iff_eq] at hi; exact hk i hlt hi) | (rw [hd (by omega), hm i (by omega)]; exact congrArg (fun x => AV.f (int x)) (ha i hlt)) | (exact congrArg (fun x => AV.f (int x)) (wrapS ((i : Int) + 1) (by omega) (by omega))) | (exfalso; simp only [badV, Bool.or_eq_true, Bool.and_eq_true, Bool.or_eq_false_iff, Bool.and_eq_false_imp, cellsVs_length, V.items, decide_eq_true_eq, decide_eq_false_iff_not, beq_iff_eq, beq_eq_false_iff_ne, Bool.not_eq_true', Bool.not_eq_false'] at *; simp_all; done) | exact hf | (simp only [Bool.not_eq_true', Bool.not_eq_false'] at hi; simp [int, hi]; done) | assumption
end Go.Sx
set_option maxRecDepth 100000
set_option maxHeartbeats 4000000
set_option linter.unusedSimpArgs false
set_option linter.unusedVariables false
namespace Go.Sx
open Go.Proofs Sp
theorem countL_bd (l : List V) (h : ∀ x, x ∈ l → ∀ d m, 0 ≤ countV x d m ∧ (countV x d m ≤ m ∨ countV x d m = 0)) : ∀ d m n, 1 ≤ n → countL l d m n = 0 ∨ (n ≤ countL l d m n ∧ (countL l d m n ≤ m ∨ countL l d m n = n)) := by
  induction l with
  | nil => intro d m n hn; right; simp [countL]
  | cons x l ih =>
    intro d m n hn
    simp only [countL]
    have h1 := h x (by simp) d (m - n)
    split
    · exact .inl rfl
    · have h2 := ih (fun y hy => h y (by simp [hy])) d m (n + countV x d (m - n)) (by omega)
      omega
theorem countV_bd : ∀ v d m, 0 ≤ countV v d m ∧ (countV v d m ≤ m ∨ countV v d m = 0) := by
  intro v
  induction v using V.ind with
  | h k n s l ih =>
    intro d m
    simp only [countV]
    split
    · omega
    · rename_i hb
      have h1 := countL_bd l ih (d - 1) m 1 (by omega)
      have hm : 1 ≤ m := by
        simp only [badV, Bool.or_eq_true, decide_eq_true_eq, not_or] at hb
        omega
      split
      · omega
      · split
        · omega
        · omega
theorem drop_cons {l : List V} {i : Nat} (h : i < l.length) : l.drop i = l.getD i default :: l.drop (i + 1) := by
  rw [List.getD_eq_getElem?_getD, List.getElem?_eq_getElem h, List.drop_eq_getElem_cons h]; rfl
theorem countL_acc (l : List V) (d m : Int) : ∀ i, i ≤ l.length → (∀ j, j < i → countV (l.getD j default) d (m - accV l d m j) ≠ 0) → countL l d m 1 = countL (l.drop i) d m (accV l d m i)
  | 0, _, _ => by simp [accV]
  | i + 1, hi, h => by
    rw [countL_acc l d m i (by omega) (fun j hj => h j (by omega)), drop_cons (by omega)]
    simp only [countL, accV]
    rw [if_neg (h i (by omega))]
theorem accV_bd (l : List V) (d m : Int) (hm : 1 ≤ m) : ∀ i, (∀ j, j < i → countV (l.getD j default) d (m - accV l d m j) ≠ 0) → 1 ≤ accV l d m i ∧ accV l d m i ≤ m
  | 0, _ => by simp [accV]; omega
  | i + 1, h => by
    have h1 := accV_bd l d m hm i (fun j hj => h j (by omega))
    have h2 := countV_bd (l.getD i default) d (m - accV l d m i)
    have h3 := h i (by omega)
    simp only [accV]
    omega
theorem count_ok : ∀ v, Fine v → ∀ d m, 0 ≤ d → d ≤ 1152921504606846976 → -1152921504606846976 ≤ m → m ≤ 1152921504606846976 → CallsF P G 52 [encV v, int d, int m] (int (countV v d m)) := by
  intro v
  induction v using V.ind with
  | h k n s l ih =>
    intro hv d m hd hd2 hm1 hm2
    obtain ⟨hl, hi⟩ := hv.items
    simp only [countV]
    cases hb : badV (.mk k n s l) d m with
    | true => rw [if_pos rfl]; exact count_bad k n s l d m hb
    | false =>
      rw [if_neg (by simp)]
      have hm : 1 ≤ m ∧ (0 < l.length → d ≠ 0) := by
        simp only [badV, Bool.or_eq_false_iff, Bool.and_eq_false_imp, decide_eq_true_eq, decide_eq_false_iff_not] at hb
        exact ⟨by omega, fun h => hb.1.2 h⟩
      obtain ⟨N, h1, h2⟩ := exists_least (fun i => i = l.length ∨ (i < l.length ∧ countV (l.getD i default) (d - 1) (m - accV l (d - 1) m i) = 0)) ⟨l.length, .inl rfl⟩
      have hN : N ≤ l.length := by rcases h1 with h | h <;> omega
      have hk : ∀ i, i < N → countV (l.getD i default) (d - 1) (m - accV l (d - 1) m i) ≠ 0 := fun i hi h => by
        have := h2 i (.inr ⟨by omega, h⟩); omega
      have hacc : ∀ i, i ≤ N → 1 ≤ accV l (d - 1) m i ∧ accV l (d - 1) m i ≤ m := fun i hi => accV_bd l (d - 1) m hm.1 i (fun j hj => hk j (by omega))
      have hwd : 0 < l.length → IntKind.wrap IntKind.i64 (d - 1) = d - 1 := fun _ => wrapS _ (by omega) (by omega)
      have hwm : ∀ i, i ≤ N → IntKind.wrap IntKind.i64 (m - accV l (d - 1) m i) = m - accV l (d - 1) m i := fun i hi => by
        have := hacc i hi; exact wrapS _ (by omega) (by omega)
      have hwa : ∀ i, i < N → IntKind.wrap IntKind.i64 (accV l (d - 1) m i + countV (l.getD i default) (d - 1) (m - accV l (d - 1) m i)) = accV l (d - 1) m (i + 1) := fun i hi => by
        have h5 := hacc (i + 1) hi
        simp only [accV] at h5 ⊢
        exact wrapS _ (by omega) (by omega)
      have hih : ∀ i, i < l.length → i ≤ N → CallsF P G 52 [encV (l.getD i default), int (d - 1), int (m - accV l (d - 1) m i)] (int (countV (l.getD i default) (d - 1) (m - accV l (d - 1) m i))) := fun i hil hiN => by
        have h5 := hacc i hiN
        have hmem : l.getD i default ∈ l := by rw [List.getD_eq_getElem?_getD, List.getElem?_eq_getElem hil]; exact List.getElem_mem hil
        have := hm.2 (by omega)
        exact ih _ hmem (hi _ hmem) _ _ (by omega) (by omega) (by omega) (by omega)
      rcases h1 with h1 | ⟨h1, h3⟩
      · have hcl : countL l (d - 1) m 1 = accV l (d - 1) m N := by
          rw [countL_acc l (d - 1) m N hN hk, show l.drop N = [] from by rw [h1]; simp]
          simp only [countL]
        have h5 := hacc N (Nat.le_refl _)
        rw [hcl, if_neg (by omega)]
        exact count_full k n s l d m N hb hl hN hwd hwm hwa hk hih h1 (form_ok _ hv)
      · have hcl : countL l (d - 1) m 1 = 0 := by
          rw [countL_acc l (d - 1) m N hN hk, drop_cons h1]
          simp only [countL]
          rw [if_pos h3]
        rw [hcl, if_pos rfl]
        exact count_stop k n s l d m N hb hl hN hwd hwm hwa hk hih h1 h3
/-- A right value, in the program's words. -/
noncomputable def rightB (v : V) : Bool := decide (0 < countV v 16 1024)
theorem get33 : P.funcs[33]? = some Tryd.f33 := by kernel_rfl
theorem ent33 : entersP P 33 = true := by kernel_rfl
theorem right_ok (v : V) (hv : Fine v) : CallsF P G 33 [encV v] (bool (rightB v)) := by
  refine sx_fn (hs := [.call (int (countV v (Int.ofNat 16) (Int.ofNat 1024)))]) ((CallsF P G 52 [encV v, int 16, int 1024] (int (countV v (Int.ofNat 16) (Int.ofNat 1024)))) ∧ (bool (decide (countV v (Int.ofNat 16) (Int.ofNat 1024) > 0))) = (bool (rightB v))) get33 ent33 (by kernel_rfl) ?_
  refine ⟨?_, ?_⟩
  all_goals first | exact count_ok v hv 16 1024 (by omega) (by omega) (by omega) (by omega) | rfl
theorem get19 : P.funcs[19]? = some Tryd.f19 := by kernel_rfl
theorem ent19 : entersP P 19 = true := by kernel_rfl
theorem check_ok (v : V) (hv : Fine v) : CallsF P G 19 [encV v] (int (if rightB v then 0 else 3)) := by
  refine sx_fn (hs := [.call (bool (rightB v)), .br [] []]) ((CallsF P G 33 [encV v] (bool (rightB v))) ∧ (((!rightB v) = (true)) → ((int 3) = (int (if rightB v = true then 0 else 3)))) ∧ (((!rightB v) = (false)) → ((int 0) = (int (if rightB v = true then 0 else 3))))) get19 ent19 (by kernel_rfl) ?_
  refine ⟨?_, ⟨fun hi => ?_, fun hi => ?_⟩⟩
  all_goals first | exact right_ok v hv | (simp at hi; simp [int, hi]; done)
end Go.Sx
set_option linter.unusedVariables false
set_option linter.unusedSimpArgs false
namespace Sp
/-- A red-black tree. -/
inductive T where
  | nil
  | node (red : Bool) (l r : T) (k v : V)
deriving Inhabited
namespace T
def isNil : T → Bool | nil => true | _ => false
def red : T → Bool | nil => false | node c _ _ _ _ => c
def black : T → Bool | nil => false | node c _ _ _ _ => !c
def left : T → T | nil => nil | node _ l _ _ _ => l
def right : T → T | nil => nil | node _ _ r _ _ => r
def key : T → V | nil => default | node _ _ _ k _ => k
def val : T → V | nil => default | node _ _ _ _ v => v
@[simp] theorem isNil_nil : nil.isNil = true := rfl
@[simp] theorem isNil_mk (c : Bool) (l r : T) (k v : V) : (node c l r k v).isNil = false := rfl
@[simp] theorem red_nil : nil.red = false := rfl
@[simp] theorem red_mk (c : Bool) (l r : T) (k v : V) : (node c l r k v).red = c := rfl
@[simp] theorem black_nil : nil.black = false := rfl
@[simp] theorem black_mk (c : Bool) (l r : T) (k v : V) : (node c l r k v).black = !c := rfl
@[simp] theorem left_mk (c : Bool) (l r : T) (k v : V) : (node c l r k v).left = l := rfl
@[simp] theorem right_mk (c : Bool) (l r : T) (k v : V) : (node c l r k v).right = r := rfl
@[simp] theorem key_mk (c : Bool) (l r : T) (k v : V) : (node c l r k v).key = k := rfl
@[simp] theorem val_mk (c : Bool) (l r : T) (k v : V) : (node c l r k v).val = v := rfl
def toList : T → List (V × V)
  | nil => []
  | node _ l r k v => l.toList ++ (k, v) :: r.toList
end T
end Sp
set_option linter.unusedVariables false
namespace Go.Sx
open Go.Proofs Sp
end Go.Sx
set_option maxRecDepth 100000
set_option maxHeartbeats 4000000
set_option linter.unusedSimpArgs false
set_option linter.unusedVariables false
namespace Go.Sx
open Go.Proofs Sp
end Go.Sx
namespace Go.Sx
def chkI (b : Bool) : Int := if b then 0 else 3
end Go.Sx

/-
  Proved: what some functions of the program answer, or a law of the evaluator that shows it, one theorem each; its conditions are the hypotheses that stand ahead of it.
-/
import Derived.Test.YtgbkobkiomeokaaGreatDoorR5
import Derived.KernelRfl
set_option maxRecDepth 100000
set_option maxHeartbeats 4000000
set_option linter.unusedSimpArgs false
set_option linter.unusedVariables false
namespace Go.Sx
open Go.Proofs Sp
theorem pairs_ok (o n : Int) (t : T) (hf : ∀ p, p ∈ t.toList → Fine p.1 ∧ Fine p.2) (hs : t.size ≤ 131072) : CallsF P G 25 [encM o n t] (encPs t.toList) := by
  have := pairs_run o n t hf hs
  rw [List.take_length] at this
  exact this
def Slisted (g : Nat) (first caps : List FV) (l : List V) (i : Nat) : St := { sl := slots 38 [(4, .loc 0 0), (6, .loc 1 0), (24, .f (encI l)), (25, .f (int (cellsVs l).length)), (26, .f (int (i : Int)))], ob := [(1, .box [.f (.fn g first caps)]), (0, .box [.f (.sc .nilFunc)])], nx := 2 }
theorem get112 : P.funcs[112]? = some Tryz.f112 := by kernel_rfl
theorem ent112 : entersP P 112 = true := by kernel_rfl
theorem by32_ok (m : FV)  : CallsF P G 112 [.fn 113 [] []] (.agg [.fn 121 [] [.ptr [.fn 113 [] []] 0]]) := by
  refine sx_fn (hs := [.ones, .ones, .lfz [0]]) ((E (true)) ∧ ((E (true)) ∧ True) ∧ E (FV.agg [FV.fn 121 [] [FV.ptr [FV.fn 113 [] []] 0]])) get112 ent112 (by kernel_rfl) ?_
  exact ⟨rfl, ⟨⟨rfl, trivial⟩, rfl⟩⟩
theorem get114 : P.funcs[114]? = some Tryz.f114 := by kernel_rfl
theorem ent114 : entersP P 114 = true := by kernel_rfl
theorem byint_ok (m : FV)  : CallsF P G 114 [.fn 115 [] []] (.agg [.fn 125 [] [.ptr [.fn 115 [] []] 0]]) := by
  refine sx_fn (hs := [.ones, .ones, .lfz [0]]) ((E (true)) ∧ ((E (true)) ∧ True) ∧ E (FV.agg [FV.fn 125 [] [FV.ptr [FV.fn 115 [] []] 0]])) get114 ent114 (by kernel_rfl) ?_
  exact ⟨rfl, ⟨⟨rfl, trivial⟩, rfl⟩⟩
theorem get101 : P.funcs[101]? = some Tryz.f101 := by kernel_rfl
theorem ent101 : entersP P 101 = true := by kernel_rfl
theorem table_ok   : CallsF P G 101 [] (.sl 1 [[.fn 53 [] []], [.fn 111 [] []], [.fn 121 [] [.ptr [.fn 113 [] []] 0]], [.fn 125 [] [.ptr [.fn 115 [] []] 0]], [.fn 116 [] []], [.fn 117 [] []]]) := by
  refine sx_fn (hs := [.call (FV.agg [FV.fn 121 [] [FV.ptr [FV.fn 113 [] []] 0]]), .call (FV.agg [FV.fn 125 [] [FV.ptr [FV.fn 115 [] []] 0]]), .ones, .ones, .lfz [0]]) (CallsF P G 112 [FV.fn 113 [] []] (FV.agg [FV.fn 121 [] [FV.ptr [FV.fn 113 [] []] 0]]) ∧ CallsF P G 114 [FV.fn 115 [] []] (FV.agg [FV.fn 125 [] [FV.ptr [FV.fn 115 [] []] 0]]) ∧ (E true ∧ True) ∧ (E true ∧ True) ∧ E (FV.sl 1 [[FV.fn 53 [] []], [FV.fn 111 [] []], [FV.fn 121 [] [FV.ptr [FV.fn 113 [] []] 0]], [FV.fn 125 [] [FV.ptr [FV.fn 115 [] []] 0]], [FV.fn 116 [] []], [FV.fn 117 [] []]])) get101 ent101 (by kernel_rfl) ?_
  refine ⟨?_, ?_, ⟨rfl, trivial⟩, ⟨rfl, trivial⟩, rfl⟩
  all_goals first | exact by32_ok .nils | exact byint_ok .nils
theorem get83 : P.funcs[83]? = some Tryz.f83 := by kernel_rfl
theorem ent83 : entersP P 83 = true := by kernel_rfl
theorem asked_0   : CallsF P G 83 [int 0] (.tup [.agg [.fn 53 [] []], int 0]) := by
  refine sx_fn (hs := [.dec false, .dec false, .call (FV.sl 1 [[FV.fn 53 [] []], [FV.fn 111 [] []], [FV.fn 121 [] [FV.ptr [FV.fn 113 [] []] 0]], [FV.fn 125 [] [FV.ptr [FV.fn 115 [] []] 0]], [FV.fn 116 [] []], [FV.fn 117 [] []]]), .el ([FV.fn 53 [] []])]) (E false ∧ E false ∧ CallsF P G 101 [] (FV.sl 1 [[FV.fn 53 [] []], [FV.fn 111 [] []], [FV.fn 121 [] [FV.ptr [FV.fn 113 [] []] 0]], [FV.fn 125 [] [FV.ptr [FV.fn 115 [] []] 0]], [FV.fn 116 [] []], [FV.fn 117 [] []]]) ∧ (E 1 ∧ (0 : Int) ≤ 0 ∧ E (some [FV.fn 53 [] []])) ∧ E (FV.tup [FV.agg [FV.fn 53 [] []], int 0])) get83 ent83 (by kernel_rfl) ?_
  refine ⟨rfl, rfl, ?_, ⟨rfl, ?_, rfl⟩, rfl⟩
  all_goals first | exact table_ok | omega
theorem asked_1   : CallsF P G 83 [int 1] (.tup [.agg [.fn 111 [] []], int 0]) := by
  refine sx_fn (hs := [.dec false, .dec false, .call (FV.sl 1 [[FV.fn 53 [] []], [FV.fn 111 [] []], [FV.fn 121 [] [FV.ptr [FV.fn 113 [] []] 0]], [FV.fn 125 [] [FV.ptr [FV.fn 115 [] []] 0]], [FV.fn 116 [] []], [FV.fn 117 [] []]]), .el ([FV.fn 111 [] []])]) (E false ∧ E false ∧ CallsF P G 101 [] (FV.sl 1 [[FV.fn 53 [] []], [FV.fn 111 [] []], [FV.fn 121 [] [FV.ptr [FV.fn 113 [] []] 0]], [FV.fn 125 [] [FV.ptr [FV.fn 115 [] []] 0]], [FV.fn 116 [] []], [FV.fn 117 [] []]]) ∧ (E 1 ∧ (0 : Int) ≤ 1 ∧ E (some [FV.fn 111 [] []])) ∧ E (FV.tup [FV.agg [FV.fn 111 [] []], int 0])) get83 ent83 (by kernel_rfl) ?_
  refine ⟨rfl, rfl, ?_, ⟨rfl, ?_, rfl⟩, rfl⟩
  all_goals first | exact table_ok | omega
theorem asked_2   : CallsF P G 83 [int 2] (.tup [.agg [.fn 121 [] [.ptr [.fn 113 [] []] 0]], int 0]) := by
  refine sx_fn (hs := [.dec false, .dec false, .call (FV.sl 1 [[FV.fn 53 [] []], [FV.fn 111 [] []], [FV.fn 121 [] [FV.ptr [FV.fn 113 [] []] 0]], [FV.fn 125 [] [FV.ptr [FV.fn 115 [] []] 0]], [FV.fn 116 [] []], [FV.fn 117 [] []]]), .el ([FV.fn 121 [] [FV.ptr [FV.fn 113 [] []] 0]])]) (E false ∧ E false ∧ CallsF P G 101 [] (FV.sl 1 [[FV.fn 53 [] []], [FV.fn 111 [] []], [FV.fn 121 [] [FV.ptr [FV.fn 113 [] []] 0]], [FV.fn 125 [] [FV.ptr [FV.fn 115 [] []] 0]], [FV.fn 116 [] []], [FV.fn 117 [] []]]) ∧ (E 1 ∧ (0 : Int) ≤ 2 ∧ E (some [FV.fn 121 [] [FV.ptr [FV.fn 113 [] []] 0]])) ∧ E (FV.tup [FV.agg [FV.fn 121 [] [FV.ptr [FV.fn 113 [] []] 0]], int 0])) get83 ent83 (by kernel_rfl) ?_
  refine ⟨rfl, rfl, ?_, ⟨rfl, ?_, rfl⟩, rfl⟩
  all_goals first | exact table_ok | omega
theorem asked_3   : CallsF P G 83 [int 3] (.tup [.agg [.fn 125 [] [.ptr [.fn 115 [] []] 0]], int 0]) := by
  refine sx_fn (hs := [.dec false, .dec false, .call (FV.sl 1 [[FV.fn 53 [] []], [FV.fn 111 [] []], [FV.fn 121 [] [FV.ptr [FV.fn 113 [] []] 0]], [FV.fn 125 [] [FV.ptr [FV.fn 115 [] []] 0]], [FV.fn 116 [] []], [FV.fn 117 [] []]]), .el ([FV.fn 125 [] [FV.ptr [FV.fn 115 [] []] 0]])]) (E false ∧ E false ∧ CallsF P G 101 [] (FV.sl 1 [[FV.fn 53 [] []], [FV.fn 111 [] []], [FV.fn 121 [] [FV.ptr [FV.fn 113 [] []] 0]], [FV.fn 125 [] [FV.ptr [FV.fn 115 [] []] 0]], [FV.fn 116 [] []], [FV.fn 117 [] []]]) ∧ (E 1 ∧ (0 : Int) ≤ 3 ∧ E (some [FV.fn 125 [] [FV.ptr [FV.fn 115 [] []] 0]])) ∧ E (FV.tup [FV.agg [FV.fn 125 [] [FV.ptr [FV.fn 115 [] []] 0]], int 0])) get83 ent83 (by kernel_rfl) ?_
  refine ⟨rfl, rfl, ?_, ⟨rfl, ?_, rfl⟩, rfl⟩
  all_goals first | exact table_ok | omega
theorem asked_4   : CallsF P G 83 [int 4] (.tup [.agg [.fn 116 [] []], int 0]) := by
  refine sx_fn (hs := [.dec false, .dec false, .call (FV.sl 1 [[FV.fn 53 [] []], [FV.fn 111 [] []], [FV.fn 121 [] [FV.ptr [FV.fn 113 [] []] 0]], [FV.fn 125 [] [FV.ptr [FV.fn 115 [] []] 0]], [FV.fn 116 [] []], [FV.fn 117 [] []]]), .el ([FV.fn 116 [] []])]) (E false ∧ E false ∧ CallsF P G 101 [] (FV.sl 1 [[FV.fn 53 [] []], [FV.fn 111 [] []], [FV.fn 121 [] [FV.ptr [FV.fn 113 [] []] 0]], [FV.fn 125 [] [FV.ptr [FV.fn 115 [] []] 0]], [FV.fn 116 [] []], [FV.fn 117 [] []]]) ∧ (E 1 ∧ (0 : Int) ≤ 4 ∧ E (some [FV.fn 116 [] []])) ∧ E (FV.tup [FV.agg [FV.fn 116 [] []], int 0])) get83 ent83 (by kernel_rfl) ?_
  refine ⟨rfl, rfl, ?_, ⟨rfl, ?_, rfl⟩, rfl⟩
  all_goals first | exact table_ok | omega
theorem asked_5   : CallsF P G 83 [int 5] (.tup [.agg [.fn 117 [] []], int 0]) := by
  refine sx_fn (hs := [.dec false, .dec false, .call (FV.sl 1 [[FV.fn 53 [] []], [FV.fn 111 [] []], [FV.fn 121 [] [FV.ptr [FV.fn 113 [] []] 0]], [FV.fn 125 [] [FV.ptr [FV.fn 115 [] []] 0]], [FV.fn 116 [] []], [FV.fn 117 [] []]]), .el ([FV.fn 117 [] []])]) (E false ∧ E false ∧ CallsF P G 101 [] (FV.sl 1 [[FV.fn 53 [] []], [FV.fn 111 [] []], [FV.fn 121 [] [FV.ptr [FV.fn 113 [] []] 0]], [FV.fn 125 [] [FV.ptr [FV.fn 115 [] []] 0]], [FV.fn 116 [] []], [FV.fn 117 [] []]]) ∧ (E 1 ∧ (0 : Int) ≤ 5 ∧ E (some [FV.fn 117 [] []])) ∧ E (FV.tup [FV.agg [FV.fn 117 [] []], int 0])) get83 ent83 (by kernel_rfl) ?_
  refine ⟨rfl, rfl, ?_, ⟨rfl, ?_, rfl⟩, rfl⟩
  all_goals first | exact table_ok | omega
theorem allD {l : List V} {p : V → Prop} (h : ∀ x, x ∈ l → p x) {i : Nat} (hi : i < l.length) : p (l.getD i default) := by
  rw [List.getD_eq_getElem?_getD, List.getElem?_eq_getElem hi]; exact h _ (List.getElem_mem hi)
theorem check_chk (v : V) (h : Fine v) : CallsF P G 46 [encV v] (int (chkI (rightB v))) := check_ok v h
theorem get64 : P.funcs[64]? = some Tryz.f64 := by kernel_rfl
theorem ent64 : entersP P 64 = true := by kernel_rfl
theorem listed_run (g : Nat) (first caps : List FV) (o : Int) (l : List V) (N : Nat) (hl : l.length ≤ 65536) (hN : N = l.length) (hf : ∀ x, x ∈ l → Fine x) (hr : ∀ x, x ∈ l → rightB x = true) (ha : CallsF P G 83 [int o] (.tup [.agg [.fn g first caps], int 0])) : CallsF P G 64 [int o, encI l] (.tup [.agg [.fn g first caps], int 0]) := by
  refine sx_fn (hs := [.call (FV.tup [FV.agg [FV.fn g first caps], int 0]), .dec false, .br [] [.loop [(0, 0), (1, 1)] [(0, 0), (1, 1)] (Slisted g first caps l) (N) (fun i => [.br [.el (cellsP (List.getD l i default)), .call (int (chkI (rightB (List.getD l i default)))), .br [] []] []]), .br [.el (cellsP (List.getD l N default)), .call (int (chkI (rightB (List.getD l N default)))), .br [] []] []]]) (let z1 := (↑(List.length (cellsVs l)) : Int); let z2 := E (Ob.box [AV.f (FV.fn g first caps)]) ∧ E (Ob.box [AV.f (FV.sc Value.nilFunc)]) ∧ True; let z3 := List.getD l N default; let z4 := FV.tup [FV.agg [FV.fn g first caps], int 0]; CallsF P G 83 [int o] z4 ∧ E false ∧ Br (decide (z1 > 65536)) (FV.tup [FV.agg [FV.fn g first caps], int 2] = FV.tup [FV.agg [FV.fn g first caps], int 0]) ((E true ∧ (E (AV.loc 0 0) ∧ E (AV.loc 1 0) ∧ E (AV.f (encI l)) ∧ E (AV.f (int z1)) ∧ AV.f (int 0) = AV.f (int (Int.ofNat 0)) ∧ True) ∧ z2 ∧ E true ∧ (false = true → false = true)) ∧ (∀ (i : Nat), (let z5 := List.getD l i default; i < N → Br (decide ((i : Int) < z1)) ((E 4 ∧ (0 : Int) ≤ (i : Int) ∧ (cellsVs l)[i]? = some (cellsP z5)) ∧ CallsF P G 46 [encV z5] (int (chkI (rightB z5))) ∧ Br (chkI (rightB z5) != 0) False (E true ∧ (E (AV.loc 0 0) ∧ E (AV.loc 1 0) ∧ E (AV.f (encI l)) ∧ E (AV.f (int z1)) ∧ AV.f (int (IntKind.wrap IntKind.i64 ((i : Int) + 1))) = AV.f (int (↑(i + 1) : Int)) ∧ True) ∧ z2 ∧ E true ∧ (St.nd (Slisted g first caps l (i + 1)) = true → false = true))) False)) ∧ Br (decide ((N : Int) < z1)) ((E 4 ∧ (0 : Int) ≤ (N : Int) ∧ (cellsVs l)[N]? = some (cellsP z3)) ∧ CallsF P G 46 [encV z3] (int (chkI (rightB z3))) ∧ Br (chkI (rightB z3) != 0) (FV.tup [FV.agg [FV.fn g first caps], int (chkI (rightB z3))] = FV.tup [FV.agg [FV.fn g first caps], int 0]) False) (E z4))) get64 ent64 (by kernel_rfl) ?_
  refine ⟨?_, rfl, fun hi => ?_, fun hi => ⟨⟨rfl, ⟨rfl, rfl, rfl, rfl, ?_, trivial⟩, ⟨rfl, rfl, trivial⟩, rfl, fun hi => ?_⟩, fun i => fun hlt => ⟨fun hi => ⟨⟨rfl, ?_, ?_⟩, ?_, fun hi => ?_, fun hi => ⟨rfl, ⟨rfl, rfl, rfl, rfl, ?_, trivial⟩, ⟨rfl, rfl, trivial⟩, rfl, fun hi => ?_⟩⟩, fun hi => ?_⟩, fun hi => ⟨⟨rfl, ?_, ?_⟩, ?_, fun hi => ?_, fun hi => ?_⟩, fun hi => rfl⟩⟩
  all_goals first | exact ha | exact cellsVs_get l _ (by omega) | (exact check_chk _ (allD hf (by omega))) | (simp only [cellsVs_length, decide_eq_true_eq, decide_eq_false_iff_not] at *; omega) | (exfalso; rw [allD (p := fun x => rightB x = true) hr (by omega)] at hi; simp [chkI] at hi; done) | (exact congrArg (fun x => AV.f (int x)) (wrapS ((i : Int) + 1) (by omega) (by omega))) | assumption | (simp [V.kind, V.num, V.text, V.items, *]; done)
theorem get111 : P.funcs[111]? = some Tryz.f111 := by kernel_rfl
theorem ent111 : entersP P 111 = true := by kernel_rfl
theorem turned_cmp (a b : V) (hb : Fine b) : CallsF P G 111 [encV a, encV b] (int (cmpV b a)) := by
  refine sx_fn (hs := [.call (int (cmpV b a))]) ((CallsF P G 53 [encV b, encV a] (int (cmpV b a))) ∧ E (int (cmpV b a))) get111 ent111 (by kernel_rfl) ?_
  refine ⟨?_, rfl⟩
  all_goals exact compare_ok _ _ hb
theorem listed_two {g : Nat} {first caps : List FV} (o : Int) (a b : V) (ha : Fine a) (hb : Fine b) (hra : rightB a = true) (hrb : rightB b = true) (h : CallsF P G 83 [int o] (.tup [.agg [.fn g first caps], int 0])) :
    CallsF P G 64 [int o, .sl 4 [cellsP a, cellsP b]] (.tup [.agg [.fn g first caps], int 0]) := by
  have := listed_run g first caps o [a, b] 2 (by simp) rfl (by simp [ha, hb]) (by simp [hra, hrb]) h
  have e : encI [a, b] = .sl 4 [cellsP a, cellsP b] := by simp [encI, cellsVs, cellsP_eq]
  rw [e] at this
  exact this
theorem get40 : P.funcs[40]? = some Tryz.f40 := by kernel_rfl
theorem ent40 : entersP P 40 = true := by kernel_rfl
theorem ocmp_0 (a b : V) (ha : Fine a) (hb : Fine b) (hra : rightB a = true) (hrb : rightB b = true) : CallsF P G 40 [int 0, encV a, encV b] (.tup [int (cmpV a b), int 0]) := by
  refine sx_fn (hs := [.lfz [2], .call (FV.tup [FV.agg [FV.fn 53 [] []], int 0]), .dec false, .call (int (cmpV a b))]) (CallsF P G 64 [int 0, FV.sl 4 [cellsP a, cellsP b]] (FV.tup [FV.agg [FV.fn 53 [] []], int 0]) ∧ E false ∧ CallsF P G 53 [encV a, encV b] (int (cmpV a b)) ∧ E (FV.tup [int (cmpV a b), int 0])) get40 ent40 (by kernel_rfl) ?_
  refine ⟨?_, rfl, ?_, rfl⟩
  all_goals first | (have h := listed_two 0 a b ha hb hra hrb asked_0; exact h) | exact compare_ok _ _ ha
theorem ocmp_1 (a b : V) (ha : Fine a) (hb : Fine b) (hra : rightB a = true) (hrb : rightB b = true) : CallsF P G 40 [int 1, encV a, encV b] (.tup [int (cmpV b a), int 0]) := by
  refine sx_fn (hs := [.lfz [2], .call (FV.tup [FV.agg [FV.fn 111 [] []], int 0]), .dec false, .call (int (cmpV b a))]) (CallsF P G 64 [int 1, FV.sl 4 [cellsP a, cellsP b]] (FV.tup [FV.agg [FV.fn 111 [] []], int 0]) ∧ E false ∧ CallsF P G 111 [encV a, encV b] (int (cmpV b a)) ∧ E (FV.tup [int (cmpV b a), int 0])) get40 ent40 (by kernel_rfl) ?_
  refine ⟨?_, rfl, ?_, rfl⟩
  all_goals first | (have h := listed_two 1 a b ha hb hra hrb asked_1; exact h) | exact turned_cmp _ _ hb
theorem get20 : P.funcs[20]? = some Tryz.f20 := by kernel_rfl
theorem ent20 : entersP P 20 = true := by kernel_rfl
theorem mcmp_1 (n : Int) (t : T) (a b : V) (ha : Fine a) (hb : Fine b) (hra : rightB a = true) (hrb : rightB b = true) : CallsF P G 20 [encM 1 n t, encV a, encV b] (int (cmpV b a)) := by
  refine sx_fn (hs := [.nat 10, .call (int 1), .call (FV.tup [int (cmpV b a), int 0])]) ((E (true)) ∧ (CallsF P G 22 [encM 1 n t] (int 1)) ∧ (CallsF P G 40 [int 1, encV a, encV b] (FV.tup [int (cmpV b a), int 0])) ∧ E (int (cmpV b a))) get20 ent20 (by kernel_rfl) ?_
  refine ⟨rfl, ⟨?_, ⟨?_, rfl⟩⟩⟩
  all_goals first | exact order_ok _ _ _ | exact ocmp_1 _ _ ha hb hra hrb
end Go.Sx

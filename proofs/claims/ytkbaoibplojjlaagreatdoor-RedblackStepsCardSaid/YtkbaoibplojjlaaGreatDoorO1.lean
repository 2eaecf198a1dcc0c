/-
  Proved: what some functions of the program answer, or a law of the evaluator that shows it, one theorem each; its conditions are the hypotheses that stand ahead of it.
-/
import Derived.Test.YtkbaoibplojjlaaGreatDoorR5
import Derived.KernelRfl
set_option maxRecDepth 100000
set_option maxHeartbeats 4000000
set_option linter.unusedSimpArgs false
set_option linter.unusedVariables false
namespace Go.Sx
open Go.Proofs Sp
theorem pairs_ok (o n : Int) (t : T) (hf : ∀ p, p ∈ t.toList → Fine p.1 ∧ Fine p.2) (hs : t.size ≤ 131072) : CallsF P G 20 [encM o n t] (encPs t.toList) := by
  have := pairs_run o n t hf hs
  rw [List.take_length] at this
  exact this
def Slisted (g : Nat) (first caps : List FV) (l : List V) (i : Nat) : St := { sl := slots 38 [(4, .loc 0 0), (6, .loc 1 0), (24, .f (encI l)), (25, .f (int (cellsVs l).length)), (26, .f (int (i : Int)))], ob := [(1, .box [.f (.fn g first caps)]), (0, .box [.f (.sc .nilFunc)])], nx := 2 }
theorem get173 : P.funcs[173]? = some Tryz.f173 := by kernel_rfl
theorem ent173 : entersP P 173 = true := by kernel_rfl
theorem by32_ok (m : FV)  : CallsF P G 173 [.fn 174 [] []] (.agg [.fn 182 [] [.ptr [.fn 174 [] []] 0]]) := by
  refine sx_fn (hs := [.ones, .ones, .lfz [0]]) ((E (true)) ∧ ((E (true)) ∧ True) ∧ E (FV.agg [FV.fn 182 [] [FV.ptr [FV.fn 174 [] []] 0]])) get173 ent173 (by kernel_rfl) ?_
  exact ⟨rfl, ⟨⟨rfl, trivial⟩, rfl⟩⟩
theorem get175 : P.funcs[175]? = some Tryz.f175 := by kernel_rfl
theorem ent175 : entersP P 175 = true := by kernel_rfl
theorem byint_ok (m : FV)  : CallsF P G 175 [.fn 176 [] []] (.agg [.fn 186 [] [.ptr [.fn 176 [] []] 0]]) := by
  refine sx_fn (hs := [.ones, .ones, .lfz [0]]) ((E (true)) ∧ ((E (true)) ∧ True) ∧ E (FV.agg [FV.fn 186 [] [FV.ptr [FV.fn 176 [] []] 0]])) get175 ent175 (by kernel_rfl) ?_
  exact ⟨rfl, ⟨⟨rfl, trivial⟩, rfl⟩⟩
theorem get164 : P.funcs[164]? = some Tryz.f164 := by kernel_rfl
theorem ent164 : entersP P 164 = true := by kernel_rfl
theorem table_ok   : CallsF P G 164 [] (.sl 1 [[.fn 95 [] []], [.fn 172 [] []], [.fn 182 [] [.ptr [.fn 174 [] []] 0]], [.fn 186 [] [.ptr [.fn 176 [] []] 0]], [.fn 177 [] []], [.fn 178 [] []]]) := by
  refine sx_fn (hs := [.call (FV.agg [FV.fn 182 [] [FV.ptr [FV.fn 174 [] []] 0]]), .call (FV.agg [FV.fn 186 [] [FV.ptr [FV.fn 176 [] []] 0]]), .ones, .ones, .lfz [0]]) ((CallsF P G 173 [FV.fn 174 [] []] (FV.agg [FV.fn 182 [] [FV.ptr [FV.fn 174 [] []] 0]])) ∧ (CallsF P G 175 [FV.fn 176 [] []] (FV.agg [FV.fn 186 [] [FV.ptr [FV.fn 176 [] []] 0]])) ∧ ((E (true)) ∧ True) ∧ ((E (true)) ∧ True) ∧ E (FV.sl 1 [[FV.fn 95 [] []], [FV.fn 172 [] []], [FV.fn 182 [] [FV.ptr [FV.fn 174 [] []] 0]], [FV.fn 186 [] [FV.ptr [FV.fn 176 [] []] 0]], [FV.fn 177 [] []], [FV.fn 178 [] []]])) get164 ent164 (by kernel_rfl) ?_
  refine ⟨?_, ⟨?_, ⟨⟨rfl, trivial⟩, ⟨⟨rfl, trivial⟩, rfl⟩⟩⟩⟩
  all_goals first | exact by32_ok .nils | exact byint_ok .nils
theorem get149 : P.funcs[149]? = some Tryz.f149 := by kernel_rfl
theorem ent149 : entersP P 149 = true := by kernel_rfl
theorem asked_0   : CallsF P G 149 [int 0] (.tup [.agg [.fn 95 [] []], int 0]) := by
  refine sx_fn (hs := [.dec false, .dec false, .call (FV.sl 1 [[FV.fn 95 [] []], [FV.fn 172 [] []], [FV.fn 182 [] [FV.ptr [FV.fn 174 [] []] 0]], [FV.fn 186 [] [FV.ptr [FV.fn 176 [] []] 0]], [FV.fn 177 [] []], [FV.fn 178 [] []]]), .el ([FV.fn 95 [] []])]) ((E (false)) ∧ (E (false)) ∧ (CallsF P G 164 [] (FV.sl 1 [[FV.fn 95 [] []], [FV.fn 172 [] []], [FV.fn 182 [] [FV.ptr [FV.fn 174 [] []] 0]], [FV.fn 186 [] [FV.ptr [FV.fn 176 [] []] 0]], [FV.fn 177 [] []], [FV.fn 178 [] []]])) ∧ ((E (1)) ∧ ((0 : Int) ≤ 0) ∧ E (some [FV.fn 95 [] []])) ∧ E (FV.tup [FV.agg [FV.fn 95 [] []], int 0])) get149 ent149 (by kernel_rfl) ?_
  refine ⟨rfl, ⟨rfl, ⟨?_, ⟨⟨rfl, ⟨?_, rfl⟩⟩, rfl⟩⟩⟩⟩
  all_goals first | exact table_ok | omega
theorem asked_1   : CallsF P G 149 [int 1] (.tup [.agg [.fn 172 [] []], int 0]) := by
  refine sx_fn (hs := [.dec false, .dec false, .call (FV.sl 1 [[FV.fn 95 [] []], [FV.fn 172 [] []], [FV.fn 182 [] [FV.ptr [FV.fn 174 [] []] 0]], [FV.fn 186 [] [FV.ptr [FV.fn 176 [] []] 0]], [FV.fn 177 [] []], [FV.fn 178 [] []]]), .el ([FV.fn 172 [] []])]) ((E (false)) ∧ (E (false)) ∧ (CallsF P G 164 [] (FV.sl 1 [[FV.fn 95 [] []], [FV.fn 172 [] []], [FV.fn 182 [] [FV.ptr [FV.fn 174 [] []] 0]], [FV.fn 186 [] [FV.ptr [FV.fn 176 [] []] 0]], [FV.fn 177 [] []], [FV.fn 178 [] []]])) ∧ ((E (1)) ∧ ((0 : Int) ≤ 1) ∧ E (some [FV.fn 172 [] []])) ∧ E (FV.tup [FV.agg [FV.fn 172 [] []], int 0])) get149 ent149 (by kernel_rfl) ?_
  refine ⟨rfl, ⟨rfl, ⟨?_, ⟨⟨rfl, ⟨?_, rfl⟩⟩, rfl⟩⟩⟩⟩
  all_goals first | exact table_ok | omega
theorem asked_2   : CallsF P G 149 [int 2] (.tup [.agg [.fn 182 [] [.ptr [.fn 174 [] []] 0]], int 0]) := by
  refine sx_fn (hs := [.dec false, .dec false, .call (FV.sl 1 [[FV.fn 95 [] []], [FV.fn 172 [] []], [FV.fn 182 [] [FV.ptr [FV.fn 174 [] []] 0]], [FV.fn 186 [] [FV.ptr [FV.fn 176 [] []] 0]], [FV.fn 177 [] []], [FV.fn 178 [] []]]), .el ([FV.fn 182 [] [FV.ptr [FV.fn 174 [] []] 0]])]) ((E (false)) ∧ (E (false)) ∧ (CallsF P G 164 [] (FV.sl 1 [[FV.fn 95 [] []], [FV.fn 172 [] []], [FV.fn 182 [] [FV.ptr [FV.fn 174 [] []] 0]], [FV.fn 186 [] [FV.ptr [FV.fn 176 [] []] 0]], [FV.fn 177 [] []], [FV.fn 178 [] []]])) ∧ ((E (1)) ∧ ((0 : Int) ≤ 2) ∧ E (some [FV.fn 182 [] [FV.ptr [FV.fn 174 [] []] 0]])) ∧ E (FV.tup [FV.agg [FV.fn 182 [] [FV.ptr [FV.fn 174 [] []] 0]], int 0])) get149 ent149 (by kernel_rfl) ?_
  refine ⟨rfl, ⟨rfl, ⟨?_, ⟨⟨rfl, ⟨?_, rfl⟩⟩, rfl⟩⟩⟩⟩
  all_goals first | exact table_ok | omega
theorem asked_3   : CallsF P G 149 [int 3] (.tup [.agg [.fn 186 [] [.ptr [.fn 176 [] []] 0]], int 0]) := by
  refine sx_fn (hs := [.dec false, .dec false, .call (FV.sl 1 [[FV.fn 95 [] []], [FV.fn 172 [] []], [FV.fn 182 [] [FV.ptr [FV.fn 174 [] []] 0]], [FV.fn 186 [] [FV.ptr [FV.fn 176 [] []] 0]], [FV.fn 177 [] []], [FV.fn 178 [] []]]), .el ([FV.fn 186 [] [FV.ptr [FV.fn 176 [] []] 0]])]) ((E (false)) ∧ (E (false)) ∧ (CallsF P G 164 [] (FV.sl 1 [[FV.fn 95 [] []], [FV.fn 172 [] []], [FV.fn 182 [] [FV.ptr [FV.fn 174 [] []] 0]], [FV.fn 186 [] [FV.ptr [FV.fn 176 [] []] 0]], [FV.fn 177 [] []], [FV.fn 178 [] []]])) ∧ ((E (1)) ∧ ((0 : Int) ≤ 3) ∧ E (some [FV.fn 186 [] [FV.ptr [FV.fn 176 [] []] 0]])) ∧ E (FV.tup [FV.agg [FV.fn 186 [] [FV.ptr [FV.fn 176 [] []] 0]], int 0])) get149 ent149 (by kernel_rfl) ?_
  refine ⟨rfl, ⟨rfl, ⟨?_, ⟨⟨rfl, ⟨?_, rfl⟩⟩, rfl⟩⟩⟩⟩
  all_goals first | exact table_ok | omega
theorem asked_4   : CallsF P G 149 [int 4] (.tup [.agg [.fn 177 [] []], int 0]) := by
  refine sx_fn (hs := [.dec false, .dec false, .call (FV.sl 1 [[FV.fn 95 [] []], [FV.fn 172 [] []], [FV.fn 182 [] [FV.ptr [FV.fn 174 [] []] 0]], [FV.fn 186 [] [FV.ptr [FV.fn 176 [] []] 0]], [FV.fn 177 [] []], [FV.fn 178 [] []]]), .el ([FV.fn 177 [] []])]) ((E (false)) ∧ (E (false)) ∧ (CallsF P G 164 [] (FV.sl 1 [[FV.fn 95 [] []], [FV.fn 172 [] []], [FV.fn 182 [] [FV.ptr [FV.fn 174 [] []] 0]], [FV.fn 186 [] [FV.ptr [FV.fn 176 [] []] 0]], [FV.fn 177 [] []], [FV.fn 178 [] []]])) ∧ ((E (1)) ∧ ((0 : Int) ≤ 4) ∧ E (some [FV.fn 177 [] []])) ∧ E (FV.tup [FV.agg [FV.fn 177 [] []], int 0])) get149 ent149 (by kernel_rfl) ?_
  refine ⟨rfl, ⟨rfl, ⟨?_, ⟨⟨rfl, ⟨?_, rfl⟩⟩, rfl⟩⟩⟩⟩
  all_goals first | exact table_ok | omega
theorem asked_5   : CallsF P G 149 [int 5] (.tup [.agg [.fn 178 [] []], int 0]) := by
  refine sx_fn (hs := [.dec false, .dec false, .call (FV.sl 1 [[FV.fn 95 [] []], [FV.fn 172 [] []], [FV.fn 182 [] [FV.ptr [FV.fn 174 [] []] 0]], [FV.fn 186 [] [FV.ptr [FV.fn 176 [] []] 0]], [FV.fn 177 [] []], [FV.fn 178 [] []]]), .el ([FV.fn 178 [] []])]) ((E (false)) ∧ (E (false)) ∧ (CallsF P G 164 [] (FV.sl 1 [[FV.fn 95 [] []], [FV.fn 172 [] []], [FV.fn 182 [] [FV.ptr [FV.fn 174 [] []] 0]], [FV.fn 186 [] [FV.ptr [FV.fn 176 [] []] 0]], [FV.fn 177 [] []], [FV.fn 178 [] []]])) ∧ ((E (1)) ∧ ((0 : Int) ≤ 5) ∧ E (some [FV.fn 178 [] []])) ∧ E (FV.tup [FV.agg [FV.fn 178 [] []], int 0])) get149 ent149 (by kernel_rfl) ?_
  refine ⟨rfl, ⟨rfl, ⟨?_, ⟨⟨rfl, ⟨?_, rfl⟩⟩, rfl⟩⟩⟩⟩
  all_goals first | exact table_ok | omega
theorem allD {l : List V} {p : V → Prop} (h : ∀ x, x ∈ l → p x) {i : Nat} (hi : i < l.length) : p (l.getD i default) := by
  rw [List.getD_eq_getElem?_getD, List.getElem?_eq_getElem hi]; exact h _ (List.getElem_mem hi)
theorem check_chk (v : V) (h : Fine v) : CallsF P G 73 [encV v] (int (chkI (rightB v))) := check_ok v h
theorem get132 : P.funcs[132]? = some Tryz.f132 := by kernel_rfl
theorem ent132 : entersP P 132 = true := by kernel_rfl
theorem listed_run (g : Nat) (first caps : List FV) (o : Int) (l : List V) (N : Nat) (hl : l.length ≤ 65536) (hN : N = l.length) (hf : ∀ x, x ∈ l → Fine x) (hr : ∀ x, x ∈ l → rightB x = true) (ha : CallsF P G 149 [int o] (.tup [.agg [.fn g first caps], int 0])) : CallsF P G 132 [int o, encI l] (.tup [.agg [.fn g first caps], int 0]) := by
  refine sx_fn (hs := [.call (FV.tup [FV.agg [FV.fn g first caps], int 0]), .dec false, .br [] [.loop [(0, 0), (1, 1)] [(0, 0), (1, 1)] (Slisted g first caps l) (N) (fun i => [.br [.el (cellsP (List.getD l i default)), .call (int (chkI (rightB (List.getD l i default)))), .br [] []] []]), .br [.el (cellsP (List.getD l N default)), .call (int (chkI (rightB (List.getD l N default)))), .br [] []] []]]) ((CallsF P G 149 [int o] (FV.tup [FV.agg [FV.fn g first caps], int 0])) ∧ (E (false)) ∧ (((decide ((↑(List.length (cellsVs l)) : Int) > 65536)) = (true)) → ((FV.tup [FV.agg [FV.fn g first caps], int 2]) = (FV.tup [FV.agg [FV.fn g first caps], int 0]))) ∧ (((decide ((↑(List.length (cellsVs l)) : Int) > 65536)) = (false)) → (((E (true)) ∧ ((E (AV.loc 0 0)) ∧ (E (AV.loc 1 0)) ∧ (E (AV.f (encI l))) ∧ (E (AV.f (int (↑(List.length (cellsVs l)) : Int)))) ∧ ((AV.f (int 0)) = (AV.f (int (Int.ofNat 0)))) ∧ True) ∧ ((E (Ob.box [AV.f (FV.fn g first caps)])) ∧ (E (Ob.box [AV.f (FV.sc Value.nilFunc)])) ∧ True) ∧ (E (true)) ∧ (((false) = (true)) → ((false) = (true)))) ∧ (∀ (i : Nat), (i < N) → ((((decide ((i : Int) < (↑(List.length (cellsVs l)) : Int))) = (true)) → (((E (4)) ∧ ((0 : Int) ≤ (i : Int)) ∧ ((cellsVs l)[i]?) = (some (cellsP (List.getD l i default)))) ∧ (CallsF P G 73 [encV (List.getD l i default)] (int (chkI (rightB (List.getD l i default))))) ∧ (((chkI (rightB (List.getD l i default)) != 0) = (true)) → (False)) ∧ (((chkI (rightB (List.getD l i default)) != 0) = (false)) → ((E (true)) ∧ ((E (AV.loc 0 0)) ∧ (E (AV.loc 1 0)) ∧ (E (AV.f (encI l))) ∧ (E (AV.f (int (↑(List.length (cellsVs l)) : Int)))) ∧ ((AV.f (int (IntKind.wrap IntKind.i64 ((i : Int) + 1)))) = (AV.f (int (↑(i + 1) : Int)))) ∧ True) ∧ ((E (Ob.box [AV.f (FV.fn g first caps)])) ∧ (E (Ob.box [AV.f (FV.sc Value.nilFunc)])) ∧ True) ∧ (E (true)) ∧ ((St.nd (Slisted g first caps l (i + 1)) = true) → ((false) = (true))))))) ∧ (((decide ((i : Int) < (↑(List.length (cellsVs l)) : Int))) = (false)) → (False)))) ∧ (((decide ((N : Int) < (↑(List.length (cellsVs l)) : Int))) = (true)) → (((E (4)) ∧ ((0 : Int) ≤ (N : Int)) ∧ ((cellsVs l)[N]?) = (some (cellsP (List.getD l N default)))) ∧ (CallsF P G 73 [encV (List.getD l N default)] (int (chkI (rightB (List.getD l N default))))) ∧ (((chkI (rightB (List.getD l N default)) != 0) = (true)) → ((FV.tup [FV.agg [FV.fn g first caps], int (chkI (rightB (List.getD l N default)))]) = (FV.tup [FV.agg [FV.fn g first caps], int 0]))) ∧ (((chkI (rightB (List.getD l N default)) != 0) = (false)) → (False)))) ∧ (((decide ((N : Int) < (↑(List.length (cellsVs l)) : Int))) = (false)) → (E (FV.tup [FV.agg [FV.fn g first caps], int 0])))))) get132 ent132 (by kernel_rfl) ?_
  refine ⟨?_, ⟨rfl, ⟨fun hi => ?_, fun hi => ⟨⟨rfl, ⟨⟨rfl, ⟨rfl, ⟨rfl, ⟨rfl, ⟨?_, trivial⟩⟩⟩⟩⟩, ⟨⟨rfl, ⟨rfl, trivial⟩⟩, ⟨rfl, fun hi => ?_⟩⟩⟩⟩, fun i => fun hlt => ⟨fun hi => ⟨⟨rfl, ⟨?_, ?_⟩⟩, ⟨?_, ⟨fun hi => ?_, fun hi => ⟨rfl, ⟨⟨rfl, ⟨rfl, ⟨rfl, ⟨rfl, ⟨?_, trivial⟩⟩⟩⟩⟩, ⟨⟨rfl, ⟨rfl, trivial⟩⟩, ⟨rfl, fun hi => ?_⟩⟩⟩⟩⟩⟩⟩, fun hi => ?_⟩, ⟨fun hi => ⟨⟨rfl, ⟨?_, ?_⟩⟩, ⟨?_, ⟨fun hi => ?_, fun hi => ?_⟩⟩⟩, fun hi => rfl⟩⟩⟩⟩⟩
  all_goals first | exact ha | exact cellsVs_get l _ (by omega) | (exact check_chk _ (allD hf (by omega))) | (simp only [cellsVs_length, decide_eq_true_eq, decide_eq_false_iff_not] at *; omega) | (exfalso; rw [allD (p := fun x => rightB x = true) hr (by omega)] at hi; simp [chkI] at hi; done) | (exact congrArg (fun x => AV.f (int x)) (wrapS ((i : Int) + 1) (by omega) (by omega))) | assumption | (simp [V.kind, V.num, V.text, V.items, *]; done)
theorem get172 : P.funcs[172]? = some Tryz.f172 := by kernel_rfl
theorem ent172 : entersP P 172 = true := by kernel_rfl
theorem turned_cmp (a b : V) (hb : Fine b) : CallsF P G 172 [encV a, encV b] (int (cmpV b a)) := by
  refine sx_fn (hs := [.call (int (cmpV b a))]) ((CallsF P G 95 [encV b, encV a] (int (cmpV b a))) ∧ E (int (cmpV b a))) get172 ent172 (by kernel_rfl) ?_
  refine ⟨?_, rfl⟩
  all_goals exact compare_ok _ _ hb
theorem listed_two {g : Nat} {first caps : List FV} (o : Int) (a b : V) (ha : Fine a) (hb : Fine b) (hra : rightB a = true) (hrb : rightB b = true) (h : CallsF P G 149 [int o] (.tup [.agg [.fn g first caps], int 0])) :
    CallsF P G 132 [int o, .sl 4 [cellsP a, cellsP b]] (.tup [.agg [.fn g first caps], int 0]) := by
  have := listed_run g first caps o [a, b] 2 (by simp) rfl (by simp [ha, hb]) (by simp [hra, hrb]) h
  have e : encI [a, b] = .sl 4 [cellsP a, cellsP b] := by simp [encI, cellsVs, cellsP_eq]
  rw [e] at this
  exact this
theorem get102 : P.funcs[102]? = some Tryz.f102 := by kernel_rfl
theorem ent102 : entersP P 102 = true := by kernel_rfl
theorem ocmp_0 (a b : V) (ha : Fine a) (hb : Fine b) (hra : rightB a = true) (hrb : rightB b = true) : CallsF P G 102 [int 0, encV a, encV b] (.tup [int (cmpV a b), int 0]) := by
  refine sx_fn (hs := [.lfz [2], .call (FV.tup [FV.agg [FV.fn 95 [] []], int 0]), .dec false, .call (int (cmpV a b))]) ((CallsF P G 132 [int 0, FV.sl 4 [cellsP a, cellsP b]] (FV.tup [FV.agg [FV.fn 95 [] []], int 0])) ∧ (E (false)) ∧ (CallsF P G 95 [encV a, encV b] (int (cmpV a b))) ∧ E (FV.tup [int (cmpV a b), int 0])) get102 ent102 (by kernel_rfl) ?_
  refine ⟨?_, ⟨rfl, ⟨?_, rfl⟩⟩⟩
  all_goals first | (have h := listed_two 0 a b ha hb hra hrb asked_0; exact h) | exact compare_ok _ _ ha
theorem ocmp_1 (a b : V) (ha : Fine a) (hb : Fine b) (hra : rightB a = true) (hrb : rightB b = true) : CallsF P G 102 [int 1, encV a, encV b] (.tup [int (cmpV b a), int 0]) := by
  refine sx_fn (hs := [.lfz [2], .call (FV.tup [FV.agg [FV.fn 172 [] []], int 0]), .dec false, .call (int (cmpV b a))]) ((CallsF P G 132 [int 1, FV.sl 4 [cellsP a, cellsP b]] (FV.tup [FV.agg [FV.fn 172 [] []], int 0])) ∧ (E (false)) ∧ (CallsF P G 172 [encV a, encV b] (int (cmpV b a))) ∧ E (FV.tup [int (cmpV b a), int 0])) get102 ent102 (by kernel_rfl) ?_
  refine ⟨?_, ⟨rfl, ⟨?_, rfl⟩⟩⟩
  all_goals first | (have h := listed_two 1 a b ha hb hra hrb asked_1; exact h) | exact turned_cmp _ _ hb
theorem get79 : P.funcs[79]? = some Tryz.f79 := by kernel_rfl
theorem ent79 : entersP P 79 = true := by kernel_rfl
theorem mcmp_0 (n : Int) (t : T) (a b : V) (ha : Fine a) (hb : Fine b) (hra : rightB a = true) (hrb : rightB b = true) : CallsF P G 79 [encM 0 n t, encV a, encV b] (int (cmpV a b)) := by
  refine sx_fn (hs := [.nat 10, .call (int 0), .call (FV.tup [int (cmpV a b), int 0])]) ((E (true)) ∧ (CallsF P G 45 [encM 0 n t] (int 0)) ∧ (CallsF P G 102 [int 0, encV a, encV b] (FV.tup [int (cmpV a b), int 0])) ∧ E (int (cmpV a b))) get79 ent79 (by kernel_rfl) ?_
  refine ⟨rfl, ⟨?_, ⟨?_, rfl⟩⟩⟩
  all_goals first | exact order_ok _ _ _ | exact ocmp_0 _ _ ha hb hra hrb
theorem mcmp_1 (n : Int) (t : T) (a b : V) (ha : Fine a) (hb : Fine b) (hra : rightB a = true) (hrb : rightB b = true) : CallsF P G 79 [encM 1 n t, encV a, encV b] (int (cmpV b a)) := by
  refine sx_fn (hs := [.nat 10, .call (int 1), .call (FV.tup [int (cmpV b a), int 0])]) ((E (true)) ∧ (CallsF P G 45 [encM 1 n t] (int 1)) ∧ (CallsF P G 102 [int 1, encV a, encV b] (FV.tup [int (cmpV b a), int 0])) ∧ E (int (cmpV b a))) get79 ent79 (by kernel_rfl) ?_
  refine ⟨rfl, ⟨?_, ⟨?_, rfl⟩⟩⟩
  all_goals first | exact order_ok _ _ _ | exact ocmp_1 _ _ ha hb hra hrb
end Go.Sx

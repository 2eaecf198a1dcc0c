/-
  Proved: what some functions of the program answer, or a law of the evaluator that shows it, one theorem each; its conditions are the hypotheses that stand ahead of it.
-/
import Derived.Test.YtgekmpfoihidpaaGreatDoorR5
import Derived.KernelRfl
set_option maxRecDepth 100000
set_option maxHeartbeats 4000000
set_option linter.unusedSimpArgs false
set_option linter.unusedVariables false
namespace Go.Sx
open Go.Proofs Sp
theorem pairs_ok (o n : Int) (t : T) (hf : ∀ p, p ∈ t.toList → Fine p.1 ∧ Fine p.2) (hs : t.size ≤ 131072) : CallsF P G 72 [encM o n t] (encPs t.toList) := by
  have := pairs_run o n t hf hs
  rw [List.take_length] at this
  exact this
def Slisted (g : Nat) (first caps : List FV) (l : List V) (i : Nat) : St := { sl := slots 38 [(4, .loc 0 0), (6, .loc 1 0), (24, .f (encI l)), (25, .f (int (cellsVs l).length)), (26, .f (int (i : Int)))], ob := [(1, .box [.f (.fn g first caps)]), (0, .box [.f (.sc .nilFunc)])], nx := 2 }
theorem get240 : P.funcs[240]? = some Tryz.f240 := by kernel_rfl
theorem ent240 : entersP P 240 = true := by kernel_rfl
theorem by32_ok (m : FV)  : CallsF P G 240 [.fn 241 [] []] (.agg [.fn 249 [] [.ptr [.fn 241 [] []] 0]]) := by
  refine sx_fn (hs := [.ones, .ones, .lfz [0]]) ((E (true)) ∧ ((E (true)) ∧ True) ∧ E (FV.agg [FV.fn 249 [] [FV.ptr [FV.fn 241 [] []] 0]])) get240 ent240 (by kernel_rfl) ?_
  exact ⟨rfl, ⟨⟨rfl, trivial⟩, rfl⟩⟩
theorem get242 : P.funcs[242]? = some Tryz.f242 := by kernel_rfl
theorem ent242 : entersP P 242 = true := by kernel_rfl
theorem byint_ok (m : FV)  : CallsF P G 242 [.fn 243 [] []] (.agg [.fn 253 [] [.ptr [.fn 243 [] []] 0]]) := by
  refine sx_fn (hs := [.ones, .ones, .lfz [0]]) ((E (true)) ∧ ((E (true)) ∧ True) ∧ E (FV.agg [FV.fn 253 [] [FV.ptr [FV.fn 243 [] []] 0]])) get242 ent242 (by kernel_rfl) ?_
  exact ⟨rfl, ⟨⟨rfl, trivial⟩, rfl⟩⟩
theorem get230 : P.funcs[230]? = some Tryz.f230 := by kernel_rfl
theorem ent230 : entersP P 230 = true := by kernel_rfl
theorem table_ok   : CallsF P G 230 [] (.sl 1 [[.fn 131 [] []], [.fn 239 [] []], [.fn 249 [] [.ptr [.fn 241 [] []] 0]], [.fn 253 [] [.ptr [.fn 243 [] []] 0]], [.fn 244 [] []], [.fn 245 [] []]]) := by
  refine sx_fn (hs := [.call (FV.agg [FV.fn 249 [] [FV.ptr [FV.fn 241 [] []] 0]]), .call (FV.agg [FV.fn 253 [] [FV.ptr [FV.fn 243 [] []] 0]]), .ones, .ones, .lfz [0]]) (CallsF P G 240 [FV.fn 241 [] []] (FV.agg [FV.fn 249 [] [FV.ptr [FV.fn 241 [] []] 0]]) ∧ CallsF P G 242 [FV.fn 243 [] []] (FV.agg [FV.fn 253 [] [FV.ptr [FV.fn 243 [] []] 0]]) ∧ (E true ∧ True) ∧ (E true ∧ True) ∧ E (FV.sl 1 [[FV.fn 131 [] []], [FV.fn 239 [] []], [FV.fn 249 [] [FV.ptr [FV.fn 241 [] []] 0]], [FV.fn 253 [] [FV.ptr [FV.fn 243 [] []] 0]], [FV.fn 244 [] []], [FV.fn 245 [] []]])) get230 ent230 (by kernel_rfl) ?_
  refine ⟨?_, ?_, ⟨rfl, trivial⟩, ⟨rfl, trivial⟩, rfl⟩
  all_goals first | exact by32_ok .nils | exact byint_ok .nils
theorem get208 : P.funcs[208]? = some Tryz.f208 := by kernel_rfl
theorem ent208 : entersP P 208 = true := by kernel_rfl
theorem asked_0   : CallsF P G 208 [int 0] (.tup [.agg [.fn 131 [] []], int 0]) := by
  refine sx_fn (hs := [.dec false, .dec false, .call (FV.sl 1 [[FV.fn 131 [] []], [FV.fn 239 [] []], [FV.fn 249 [] [FV.ptr [FV.fn 241 [] []] 0]], [FV.fn 253 [] [FV.ptr [FV.fn 243 [] []] 0]], [FV.fn 244 [] []], [FV.fn 245 [] []]]), .el ([FV.fn 131 [] []])]) (E false ∧ E false ∧ CallsF P G 230 [] (FV.sl 1 [[FV.fn 131 [] []], [FV.fn 239 [] []], [FV.fn 249 [] [FV.ptr [FV.fn 241 [] []] 0]], [FV.fn 253 [] [FV.ptr [FV.fn 243 [] []] 0]], [FV.fn 244 [] []], [FV.fn 245 [] []]]) ∧ (E 1 ∧ (0 : Int) ≤ 0 ∧ E (some [FV.fn 131 [] []])) ∧ E (FV.tup [FV.agg [FV.fn 131 [] []], int 0])) get208 ent208 (by kernel_rfl) ?_
  refine ⟨rfl, rfl, ?_, ⟨rfl, ?_, rfl⟩, rfl⟩
  all_goals first | exact table_ok | omega
theorem asked_1   : CallsF P G 208 [int 1] (.tup [.agg [.fn 239 [] []], int 0]) := by
  refine sx_fn (hs := [.dec false, .dec false, .call (FV.sl 1 [[FV.fn 131 [] []], [FV.fn 239 [] []], [FV.fn 249 [] [FV.ptr [FV.fn 241 [] []] 0]], [FV.fn 253 [] [FV.ptr [FV.fn 243 [] []] 0]], [FV.fn 244 [] []], [FV.fn 245 [] []]]), .el ([FV.fn 239 [] []])]) (E false ∧ E false ∧ CallsF P G 230 [] (FV.sl 1 [[FV.fn 131 [] []], [FV.fn 239 [] []], [FV.fn 249 [] [FV.ptr [FV.fn 241 [] []] 0]], [FV.fn 253 [] [FV.ptr [FV.fn 243 [] []] 0]], [FV.fn 244 [] []], [FV.fn 245 [] []]]) ∧ (E 1 ∧ (0 : Int) ≤ 1 ∧ E (some [FV.fn 239 [] []])) ∧ E (FV.tup [FV.agg [FV.fn 239 [] []], int 0])) get208 ent208 (by kernel_rfl) ?_
  refine ⟨rfl, rfl, ?_, ⟨rfl, ?_, rfl⟩, rfl⟩
  all_goals first | exact table_ok | omega
theorem asked_2   : CallsF P G 208 [int 2] (.tup [.agg [.fn 249 [] [.ptr [.fn 241 [] []] 0]], int 0]) := by
  refine sx_fn (hs := [.dec false, .dec false, .call (FV.sl 1 [[FV.fn 131 [] []], [FV.fn 239 [] []], [FV.fn 249 [] [FV.ptr [FV.fn 241 [] []] 0]], [FV.fn 253 [] [FV.ptr [FV.fn 243 [] []] 0]], [FV.fn 244 [] []], [FV.fn 245 [] []]]), .el ([FV.fn 249 [] [FV.ptr [FV.fn 241 [] []] 0]])]) (E false ∧ E false ∧ CallsF P G 230 [] (FV.sl 1 [[FV.fn 131 [] []], [FV.fn 239 [] []], [FV.fn 249 [] [FV.ptr [FV.fn 241 [] []] 0]], [FV.fn 253 [] [FV.ptr [FV.fn 243 [] []] 0]], [FV.fn 244 [] []], [FV.fn 245 [] []]]) ∧ (E 1 ∧ (0 : Int) ≤ 2 ∧ E (some [FV.fn 249 [] [FV.ptr [FV.fn 241 [] []] 0]])) ∧ E (FV.tup [FV.agg [FV.fn 249 [] [FV.ptr [FV.fn 241 [] []] 0]], int 0])) get208 ent208 (by kernel_rfl) ?_
  refine ⟨rfl, rfl, ?_, ⟨rfl, ?_, rfl⟩, rfl⟩
  all_goals first | exact table_ok | omega
theorem asked_3   : CallsF P G 208 [int 3] (.tup [.agg [.fn 253 [] [.ptr [.fn 243 [] []] 0]], int 0]) := by
  refine sx_fn (hs := [.dec false, .dec false, .call (FV.sl 1 [[FV.fn 131 [] []], [FV.fn 239 [] []], [FV.fn 249 [] [FV.ptr [FV.fn 241 [] []] 0]], [FV.fn 253 [] [FV.ptr [FV.fn 243 [] []] 0]], [FV.fn 244 [] []], [FV.fn 245 [] []]]), .el ([FV.fn 253 [] [FV.ptr [FV.fn 243 [] []] 0]])]) (E false ∧ E false ∧ CallsF P G 230 [] (FV.sl 1 [[FV.fn 131 [] []], [FV.fn 239 [] []], [FV.fn 249 [] [FV.ptr [FV.fn 241 [] []] 0]], [FV.fn 253 [] [FV.ptr [FV.fn 243 [] []] 0]], [FV.fn 244 [] []], [FV.fn 245 [] []]]) ∧ (E 1 ∧ (0 : Int) ≤ 3 ∧ E (some [FV.fn 253 [] [FV.ptr [FV.fn 243 [] []] 0]])) ∧ E (FV.tup [FV.agg [FV.fn 253 [] [FV.ptr [FV.fn 243 [] []] 0]], int 0])) get208 ent208 (by kernel_rfl) ?_
  refine ⟨rfl, rfl, ?_, ⟨rfl, ?_, rfl⟩, rfl⟩
  all_goals first | exact table_ok | omega
theorem asked_4   : CallsF P G 208 [int 4] (.tup [.agg [.fn 244 [] []], int 0]) := by
  refine sx_fn (hs := [.dec false, .dec false, .call (FV.sl 1 [[FV.fn 131 [] []], [FV.fn 239 [] []], [FV.fn 249 [] [FV.ptr [FV.fn 241 [] []] 0]], [FV.fn 253 [] [FV.ptr [FV.fn 243 [] []] 0]], [FV.fn 244 [] []], [FV.fn 245 [] []]]), .el ([FV.fn 244 [] []])]) (E false ∧ E false ∧ CallsF P G 230 [] (FV.sl 1 [[FV.fn 131 [] []], [FV.fn 239 [] []], [FV.fn 249 [] [FV.ptr [FV.fn 241 [] []] 0]], [FV.fn 253 [] [FV.ptr [FV.fn 243 [] []] 0]], [FV.fn 244 [] []], [FV.fn 245 [] []]]) ∧ (E 1 ∧ (0 : Int) ≤ 4 ∧ E (some [FV.fn 244 [] []])) ∧ E (FV.tup [FV.agg [FV.fn 244 [] []], int 0])) get208 ent208 (by kernel_rfl) ?_
  refine ⟨rfl, rfl, ?_, ⟨rfl, ?_, rfl⟩, rfl⟩
  all_goals first | exact table_ok | omega
theorem asked_5   : CallsF P G 208 [int 5] (.tup [.agg [.fn 245 [] []], int 0]) := by
  refine sx_fn (hs := [.dec false, .dec false, .call (FV.sl 1 [[FV.fn 131 [] []], [FV.fn 239 [] []], [FV.fn 249 [] [FV.ptr [FV.fn 241 [] []] 0]], [FV.fn 253 [] [FV.ptr [FV.fn 243 [] []] 0]], [FV.fn 244 [] []], [FV.fn 245 [] []]]), .el ([FV.fn 245 [] []])]) (E false ∧ E false ∧ CallsF P G 230 [] (FV.sl 1 [[FV.fn 131 [] []], [FV.fn 239 [] []], [FV.fn 249 [] [FV.ptr [FV.fn 241 [] []] 0]], [FV.fn 253 [] [FV.ptr [FV.fn 243 [] []] 0]], [FV.fn 244 [] []], [FV.fn 245 [] []]]) ∧ (E 1 ∧ (0 : Int) ≤ 5 ∧ E (some [FV.fn 245 [] []])) ∧ E (FV.tup [FV.agg [FV.fn 245 [] []], int 0])) get208 ent208 (by kernel_rfl) ?_
  refine ⟨rfl, rfl, ?_, ⟨rfl, ?_, rfl⟩, rfl⟩
  all_goals first | exact table_ok | omega
theorem allD {l : List V} {p : V → Prop} (h : ∀ x, x ∈ l → p x) {i : Nat} (hi : i < l.length) : p (l.getD i default) := by
  rw [List.getD_eq_getElem?_getD, List.getElem?_eq_getElem hi]; exact h _ (List.getElem_mem hi)
theorem check_chk (v : V) (h : Fine v) : CallsF P G 125 [encV v] (int (chkI (rightB v))) := check_ok v h
theorem get188 : P.funcs[188]? = some Tryz.f188 := by kernel_rfl
theorem ent188 : entersP P 188 = true := by kernel_rfl
theorem listed_run (g : Nat) (first caps : List FV) (o : Int) (l : List V) (N : Nat) (hl : l.length ≤ 65536) (hN : N = l.length) (hf : ∀ x, x ∈ l → Fine x) (hr : ∀ x, x ∈ l → rightB x = true) (ha : CallsF P G 208 [int o] (.tup [.agg [.fn g first caps], int 0])) : CallsF P G 188 [int o, encI l] (.tup [.agg [.fn g first caps], int 0]) := by
  refine sx_fn (hs := [.call (FV.tup [FV.agg [FV.fn g first caps], int 0]), .dec false, .br [] [.loop [(0, 0), (1, 1)] [(0, 0), (1, 1)] (Slisted g first caps l) (N) (fun i => [.br [.el (cellsP (List.getD l i default)), .call (int (chkI (rightB (List.getD l i default)))), .br [] []] []]), .br [.el (cellsP (List.getD l N default)), .call (int (chkI (rightB (List.getD l N default)))), .br [] []] []]]) (let z1 := (↑(List.length (cellsVs l)) : Int); let z2 := E (Ob.box [AV.f (FV.fn g first caps)]) ∧ E (Ob.box [AV.f (FV.sc Value.nilFunc)]) ∧ True; let z3 := List.getD l N default; let z4 := FV.tup [FV.agg [FV.fn g first caps], int 0]; CallsF P G 208 [int o] z4 ∧ E false ∧ Br (decide (z1 > 65536)) (FV.tup [FV.agg [FV.fn g first caps], int 2] = FV.tup [FV.agg [FV.fn g first caps], int 0]) ((E true ∧ (E (AV.loc 0 0) ∧ E (AV.loc 1 0) ∧ E (AV.f (encI l)) ∧ E (AV.f (int z1)) ∧ AV.f (int 0) = AV.f (int (Int.ofNat 0)) ∧ True) ∧ z2 ∧ E true ∧ (false = true → false = true)) ∧ (∀ (i : Nat), (let z5 := List.getD l i default; i < N → Br (decide ((i : Int) < z1)) ((E 4 ∧ (0 : Int) ≤ (i : Int) ∧ (cellsVs l)[i]? = some (cellsP z5)) ∧ CallsF P G 125 [encV z5] (int (chkI (rightB z5))) ∧ Br (chkI (rightB z5) != 0) False (E true ∧ (E (AV.loc 0 0) ∧ E (AV.loc 1 0) ∧ E (AV.f (encI l)) ∧ E (AV.f (int z1)) ∧ AV.f (int (IntKind.wrap IntKind.i64 ((i : Int) + 1))) = AV.f (int (↑(i + 1) : Int)) ∧ True) ∧ z2 ∧ E true ∧ (St.nd (Slisted g first caps l (i + 1)) = true → false = true))) False)) ∧ Br (decide ((N : Int) < z1)) ((E 4 ∧ (0 : Int) ≤ (N : Int) ∧ (cellsVs l)[N]? = some (cellsP z3)) ∧ CallsF P G 125 [encV z3] (int (chkI (rightB z3))) ∧ Br (chkI (rightB z3) != 0) (FV.tup [FV.agg [FV.fn g first caps], int (chkI (rightB z3))] = FV.tup [FV.agg [FV.fn g first caps], int 0]) False) (E z4))) get188 ent188 (by kernel_rfl) ?_
  refine ⟨?_, rfl, fun hi => ?_, fun hi => ⟨⟨rfl, ⟨rfl, rfl, rfl, rfl, ?_, trivial⟩, ⟨rfl, rfl, trivial⟩, rfl, fun hi => ?_⟩, fun i => fun hlt => ⟨fun hi => ⟨⟨rfl, ?_, ?_⟩, ?_, fun hi => ?_, fun hi => ⟨rfl, ⟨rfl, rfl, rfl, rfl, ?_, trivial⟩, ⟨rfl, rfl, trivial⟩, rfl, fun hi => ?_⟩⟩, fun hi => ?_⟩, fun hi => ⟨⟨rfl, ?_, ?_⟩, ?_, fun hi => ?_, fun hi => ?_⟩, fun hi => rfl⟩⟩
  all_goals first | exact ha | exact cellsVs_get l _ (by omega) | (exact check_chk _ (allD hf (by omega))) | (simp only [cellsVs_length, decide_eq_true_eq, decide_eq_false_iff_not] at *; omega) | (exfalso; rw [allD (p := fun x => rightB x = true) hr (by omega)] at hi; simp [chkI] at hi; done) | (exact congrArg (fun x => AV.f (int x)) (wrapS ((i : Int) + 1) (by omega) (by omega))) | assumption | (simp [V.kind, V.num, V.text, V.items, *]; done)
theorem get239 : P.funcs[239]? = some Tryz.f239 := by kernel_rfl
theorem ent239 : entersP P 239 = true := by kernel_rfl
theorem turned_cmp (a b : V) (hb : Fine b) : CallsF P G 239 [encV a, encV b] (int (cmpV b a)) := by
  refine sx_fn (hs := [.call (int (cmpV b a))]) ((CallsF P G 131 [encV b, encV a] (int (cmpV b a))) ∧ E (int (cmpV b a))) get239 ent239 (by kernel_rfl) ?_
  refine ⟨?_, rfl⟩
  all_goals exact compare_ok _ _ hb
theorem listed_two {g : Nat} {first caps : List FV} (o : Int) (a b : V) (ha : Fine a) (hb : Fine b) (hra : rightB a = true) (hrb : rightB b = true) (h : CallsF P G 208 [int o] (.tup [.agg [.fn g first caps], int 0])) :
    CallsF P G 188 [int o, .sl 4 [cellsP a, cellsP b]] (.tup [.agg [.fn g first caps], int 0]) := by
  have := listed_run g first caps o [a, b] 2 (by simp) rfl (by simp [ha, hb]) (by simp [hra, hrb]) h
  have e : encI [a, b] = .sl 4 [cellsP a, cellsP b] := by simp [encI, cellsVs, cellsP_eq]
  rw [e] at this
  exact this
theorem get147 : P.funcs[147]? = some Tryz.f147 := by kernel_rfl
theorem ent147 : entersP P 147 = true := by kernel_rfl
theorem ocmp_0 (a b : V) (ha : Fine a) (hb : Fine b) (hra : rightB a = true) (hrb : rightB b = true) : CallsF P G 147 [int 0, encV a, encV b] (.tup [int (cmpV a b), int 0]) := by
  refine sx_fn (hs := [.lfz [2], .call (FV.tup [FV.agg [FV.fn 131 [] []], int 0]), .dec false, .call (int (cmpV a b))]) (CallsF P G 188 [int 0, FV.sl 4 [cellsP a, cellsP b]] (FV.tup [FV.agg [FV.fn 131 [] []], int 0]) ∧ E false ∧ CallsF P G 131 [encV a, encV b] (int (cmpV a b)) ∧ E (FV.tup [int (cmpV a b), int 0])) get147 ent147 (by kernel_rfl) ?_
  refine ⟨?_, rfl, ?_, rfl⟩
  all_goals first | (have h := listed_two 0 a b ha hb hra hrb asked_0; exact h) | exact compare_ok _ _ ha
theorem ocmp_1 (a b : V) (ha : Fine a) (hb : Fine b) (hra : rightB a = true) (hrb : rightB b = true) : CallsF P G 147 [int 1, encV a, encV b] (.tup [int (cmpV b a), int 0]) := by
  refine sx_fn (hs := [.lfz [2], .call (FV.tup [FV.agg [FV.fn 239 [] []], int 0]), .dec false, .call (int (cmpV b a))]) (CallsF P G 188 [int 1, FV.sl 4 [cellsP a, cellsP b]] (FV.tup [FV.agg [FV.fn 239 [] []], int 0]) ∧ E false ∧ CallsF P G 239 [encV a, encV b] (int (cmpV b a)) ∧ E (FV.tup [int (cmpV b a), int 0])) get147 ent147 (by kernel_rfl) ?_
  refine ⟨?_, rfl, ?_, rfl⟩
  all_goals first | (have h := listed_two 1 a b ha hb hra hrb asked_1; exact h) | exact turned_cmp _ _ hb
theorem get113 : P.funcs[113]? = some Tryz.f113 := by kernel_rfl
theorem ent113 : entersP P 113 = true := by kernel_rfl
end Go.Sx

/-
  Proved: what some functions of the program answer, or a law of the evaluator that shows it, one theorem each; its conditions are the hypotheses that stand ahead of it.
-/
import Derived.Test.YtgbkobkiomeokaaDoorXD
import Derived.Test.YtgbkobkiomeokaaDoorD6
import Derived.Test.YtgbkobkiomeokaaDoorWI
import Derived.KernelRfl
set_option maxRecDepth 100000
set_option maxHeartbeats 4000000
set_option linter.unusedSimpArgs false
set_option linter.unusedVariables false
namespace Go.Sx
open Go.Proofs Sp
/-- A contract over the draws alone is one over the program's ground. -/
theorem CallsW.toG {Q : Program} {f e sz : Nat} {es es' : List (List FV)} {rest : List FV} {r : Option FV} (h : CallsW Q G0 f e sz es rest es' r) : CallsW Q G f e sz es rest es' r := by
  intro w ok v xs vs _ hok _ hown hfr hl hv
  refine CallY.mono (h w ok v xs vs trivial hok (fun _ _ h => h.elim) hown hfr hl hv) ?_
  rintro u w' ⟨v', xs', h1, h2, h3, h4, h5, h6⟩
  exact ⟨v', xs', h1, h2, h3, h4, h5, ⟨h6.os, h6.tape, h6.output, h6.size, h6.block, fun hs => by cases hs⟩⟩
/-- A set's members: sorted, each once. -/
noncomputable def setL (l : List V) : List V := comp (fun a b => cmpV a b == 0) (l.mergeSort fun x y => decide (cmpV x y ≤ 0))
theorem get29 : P.funcs[29]? = some Tryd.f29 := by kernel_rfl
theorem ent29 : entersP P 29 = true := by kernel_rfl
theorem set_bad (l : List V) (h : CallsF P G 44 [encI l] (int (listE l))) (h0 : listE l ≠ 0) : CallsF P G 29 [encI l] (.tup [.agg [int 0, int 0, str [], .nils], int (listE l)]) := by
  refine sx_fn (hs := [.call (int (listE l)), .dec true]) ((CallsF P G 44 [encI l] (int (listE l))) ∧ ((listE l != 0) = (true)) ∧ E (FV.tup [FV.agg [int 0, int 0, str [], FV.nils], int (listE l)])) get29 ent29 (by kernel_rfl) ?_
  refine ⟨?_, ⟨?_, rfl⟩⟩
  all_goals first | exact h | (simp [h0]; done)
theorem set_yes (l : List V) (h : CallsF P G 44 [encI l] (int 0)) (hl : l.length ≤ 65536) (hf : ∀ x, x ∈ l → Fine x) (hr : ∀ x, x ∈ l → rightB x = true) (hm : CallsF P G 20 [int 5, encI (setL l)] (.tup [encV (.mk 5 0 [] (setL l)), int 0])) : CallsF P G 29 [encI l] (.tup [encV (.mk 5 0 [] (setL l)), int 0]) := by
  refine sx_fn (hs := [.call (int 0), .dec false, .callO 25 4 (cellsVs l), .callW (cellsVs (l.mergeSort fun x y => decide (cmpV x y ≤ 0))) (some (.tup [])), .callW (cellsVs (setL l)) none, .frz [2], .call (.tup [encV (.mk 5 0 [] (setL l)), int 0])]) (let z1 := FV.tup [FV.agg [int 5, int 0, str [], encI (setL l)], int 0]; CallsF P G 44 [encI l] (int 0) ∧ E false ∧ CallsO P G 45 [encI l] (25) (4) (cellsVs l) ∧ CallsW P G 46 (25) (4) (cellsVs l) ([FV.fn 16 [] []]) (cellsVs (List.mergeSort l fun x y => decide (cmpV x y ≤ 0))) (some (FV.tup [])) ∧ CallsW P G 47 (25) (4) (cellsVs (List.mergeSort l fun x y => decide (cmpV x y ≤ 0))) ([FV.fn 19 [] []]) (cellsVs (setL l)) (none) ∧ CallsF P G 20 [int 5, encI (setL l)] z1 ∧ E z1) get29 ent29 (by kernel_rfl) ?_
  refine ⟨?_, rfl, ?_, ?_, ?_, ?_, rfl⟩
  all_goals first | exact h | exact hm | exact clone_ok l (by omega) | exact CallsW.toG (sort_ok _ l hf (fun a b ha hb h => rightB_same (hr a ha) (hr b hb) h) (by omega)) | exact compact_ok (fun a b => cmpV a b == 0) _ _ (by rw [List.length_mergeSort]; omega) (fun i hi => equal_ok _ _ (fineD (fun x hx => hf x (by simpa using hx)) (by omega)))
theorem set_no (l : List V) (h : CallsF P G 44 [encI l] (int 0)) (hl : l.length ≤ 65536) (hf : ∀ x, x ∈ l → Fine x) (hr : ∀ x, x ∈ l → rightB x = true) (hm : CallsF P G 20 [int 5, encI (setL l)] (.tup [.agg [int 0, int 0, str [], .nils], int 2])) : CallsF P G 29 [encI l] (.tup [.agg [int 0, int 0, str [], .nils], int 2]) := by
  refine sx_fn (hs := [.call (int 0), .dec false, .callO 25 4 (cellsVs l), .callW (cellsVs (l.mergeSort fun x y => decide (cmpV x y ≤ 0))) (some (.tup [])), .callW (cellsVs (setL l)) none, .frz [2], .call (.tup [.agg [int 0, int 0, str [], .nils], int 2])]) (let z1 := FV.tup [FV.agg [int 0, int 0, str [], FV.nils], int 2]; CallsF P G 44 [encI l] (int 0) ∧ E false ∧ CallsO P G 45 [encI l] (25) (4) (cellsVs l) ∧ CallsW P G 46 (25) (4) (cellsVs l) ([FV.fn 16 [] []]) (cellsVs (List.mergeSort l fun x y => decide (cmpV x y ≤ 0))) (some (FV.tup [])) ∧ CallsW P G 47 (25) (4) (cellsVs (List.mergeSort l fun x y => decide (cmpV x y ≤ 0))) ([FV.fn 19 [] []]) (cellsVs (setL l)) (none) ∧ CallsF P G 20 [int 5, encI (setL l)] z1 ∧ E z1) get29 ent29 (by kernel_rfl) ?_
  refine ⟨?_, rfl, ?_, ?_, ?_, ?_, rfl⟩
  all_goals first | exact h | exact hm | exact clone_ok l (by omega) | exact CallsW.toG (sort_ok _ l hf (fun a b ha hb h => rightB_same (hr a ha) (hr b hb) h) (by omega)) | exact compact_ok (fun a b => cmpV a b == 0) _ _ (by rw [List.length_mergeSort]; omega) (fun i hi => equal_ok _ _ (fineD (fun x hx => hf x (by simpa using hx)) (by omega)))
theorem comp_mem (q : V → V → Bool) (l : List V) : ∀ x, x ∈ comp q l → x ∈ l := by
  have main : ∀ (l : List V) (p x : V), x ∈ compF q p l → x ∈ l := by
    intro l
    induction l with
    | nil => intro p x h; simp [compF] at h
    | cons y l ih =>
      intro p x h
      simp only [compF] at h
      split at h
      · exact .tail _ (ih _ _ h)
      · rcases List.mem_cons.1 h with rfl | h
        · exact .head _
        · exact .tail _ (ih _ _ h)
  cases l with
  | nil => intro x h; simp [comp] at h
  | cons y l =>
    intro x h
    simp only [comp] at h
    rcases List.mem_cons.1 h with rfl | h
    · exact .head _
    · exact .tail _ (main _ _ _ h)
theorem comp_len (q : V → V → Bool) (l : List V) : (comp q l).length ≤ l.length := by
  have main : ∀ (l : List V) (p : V), (compF q p l).length ≤ l.length := by
    intro l
    induction l with
    | nil => intro p; simp [compF]
    | cons y l ih =>
      intro p
      simp only [compF]
      split
      · have := ih y; simp; omega
      · have := ih y; simp; omega
  cases l with
  | nil => simp [comp]
  | cons y l => have := main l y; simp [comp]; omega
theorem setL_mem {l : List V} {x : V} (h : x ∈ setL l) : x ∈ l := by simpa using comp_mem _ _ x h
theorem setL_len (l : List V) : (setL l).length ≤ l.length := by have := comp_len (fun a b => cmpV a b == 0) (l.mergeSort fun x y => decide (cmpV x y ≤ 0)); simpa [setL] using this
noncomputable def setR (l : List V) : V × Int := if listE l = 0 then madeR 5 (setL l) else (V0, listE l)
theorem listE_zero {l : List V} (h : listE l = 0) : l.length ≤ 65536 ∧ ∀ x, x ∈ l → rightB x = true := by
  unfold listE at h
  split at h
  · omega
  · split at h
    · rename_i h1 h2
      exact ⟨by omega, by simpa using h2⟩
    · omega
theorem set_ok (l : List V) (hf : ∀ x, x ∈ l → Fine x) : CallsF P G 29 [encI l] (.tup [encV (setR l).1, int (setR l).2]) := by
  unfold setR
  by_cases h0 : listE l = 0
  · rw [if_pos h0]
    obtain ⟨hl, hr⟩ := listE_zero h0
    have hv := values_ok l hf
    rw [h0] at hv
    have hF : ∀ x, x ∈ setL l → Fine x := fun x hx => hf x (setL_mem hx)
    have hlen := setL_len l
    have hFF := fineL hF hlen (by omega) 5 (by omega)
    unfold madeR
    cases h : rightB (.mk 5 0 [] (setL l)) with
    | true => rw [if_pos rfl]; exact set_yes l hv hl hf hr (made_yes 5 _ (by have := right_ok _ hFF; rwa [h] at this ⊢) (own_ok _ hFF) h)
    | false => rw [if_neg (by simp)]; exact (set_no l hv hl hf hr (made_no 5 _ (right_ok _ hFF) h)).weak (nilT _)
  · rw [if_neg h0]
    exact (set_bad l (values_ok l hf) h0).weak (nilT _)
def mkI (n : Int) : V := .mk 2 n [] []
def SInts (l : List Int) (i : Nat) : St := { sl := slots 19 [(3, .lsl 0), (6, .f (.sl 1 (l.map fun n => [int n]))), (7, .f (int (l.map fun n => [int n]).length)), (8, .f (int (i : Int)))], ob := [(0, .row 4 25 (cellsVs ((l.take i).map mkI)))], nx := 1 }
theorem ints_get (l : List Int) (i : Nat) (h : i < l.length) : (l.map fun n => [int n])[i]? = some [int (l.getD i 0)] := by simp [List.getD_eq_getElem?_getD, h]
theorem ints_step (l : List Int) (i : Nat) (h : i < l.length) : cellsVs ((l.take i).map mkI) ++ [cellsP (mkI (l.getD i 0))] = cellsVs ((l.take (i + 1)).map mkI) := by
  rw [List.take_succ_eq_append_getElem h, List.map_append, cellsVs_app]
  simp [cellsVs, cellsP_eq, List.getD_eq_getElem?_getD, h]
theorem get30 : P.funcs[30]? = some Tryd.f30 := by kernel_rfl
theorem ent30 : entersP P 30 = true := by kernel_rfl
theorem ints_all (l : List Int) (hl : l.length ≤ 65536) : CallsF P G 30 [.sl 1 (l.map fun n => [int n])] (.sl 4 (cellsVs (l.map mkI))) := by
  refine sx_fn (hs := let z1 := List.getD l (List.length l) 0; [Hint.pre [Hint.nrow 3 4 25], .loop [(0, 0)] [(2, 0)] (SInts l) (List.length l) (fun i => [.br [.el ([int (List.getD l i 0)]), .call (encV (mkI (List.getD l i 0)))] []]), .br [.el ([int z1]), .call (encV (mkI z1))] [.lfz [0]]]) (let z1 := List.getD l (List.length l) 0; let z2 := List.map mkI (List.take (List.length l) l); let z3 := chunk 4 1 (cellsP (mkI z1)); (E true ∧ (E (AV.lsl 0) ∧ E (AV.f (FV.sl 1 (List.map (fun n => [int n]) l))) ∧ E (AV.f (int (↑(List.length (List.map (fun n => [int n]) l)) : Int))) ∧ AV.f (int 0) = AV.f (int (Int.ofNat 0)) ∧ True) ∧ (E (Ob.row 4 25 []) ∧ True) ∧ E true ∧ (false = true → false = true)) ∧ (∀ (i : Nat), (let z4 := mkI (List.getD l i 0); let z5 := List.map mkI (List.take i l); i < List.length l → Br (decide ((i : Int) < (↑(List.length (List.map (fun n => [int n]) l)) : Int))) ((E 1 ∧ (0 : Int) ≤ (i : Int) ∧ (List.map (fun n => [int n]) l)[i]? = some [int (List.getD l i 0)]) ∧ CallsF P G 33 [int (List.getD l i 0)] (FV.agg [int (V.kind z4), int (V.num z4), str (V.text z4), FV.sl 4 []]) ∧ (oneF ([[int (V.kind z4), int (V.num z4), str (V.text z4), FV.sl 4 []]]) ∧ List.length (cellsVs z5) + List.length (chunk 4 1 (cellsP z4)) ≤ maxLen ∧ (List.length (cellsVs z5) + List.length (chunk 4 1 (cellsP z4))) * 56 ≤ 140737488355328 ∧ E false) ∧ E true ∧ (E (AV.lsl 0) ∧ E (AV.f (FV.sl 1 (List.map (fun n => [int n]) l))) ∧ E (AV.f (int (↑(List.length (List.map (fun n => [int n]) l)) : Int))) ∧ AV.f (int (IntKind.wrap IntKind.i64 ((i : Int) + 1))) = AV.f (int (↑(i + 1) : Int)) ∧ True) ∧ (Ob.row 4 25 (cellsVs z5 ++ chunk (TypeInfo.size (Tables.types (Program.toTables P))[25]) 1 (cellsP z4)) = Ob.row 4 25 (cellsVs (List.map mkI (List.take (i + 1) l))) ∧ True) ∧ E true ∧ (St.nd (SInts l (i + 1)) = true → false = true)) False)) ∧ Br (decide ((↑(List.length l) : Int) < (↑(List.length (List.map (fun n => [int n]) l)) : Int))) ((E 1 ∧ (0 : Int) ≤ (↑(List.length l) : Int) ∧ (List.map (fun n => [int n]) l)[List.length l]? = some [int z1]) ∧ CallsF P G 33 [int z1] (FV.agg [int (V.kind (mkI z1)), int (V.num (mkI z1)), str (V.text (mkI z1)), FV.sl 4 []]) ∧ (oneF ([[int (V.kind (mkI z1)), int (V.num (mkI z1)), str (V.text (mkI z1)), FV.sl 4 []]]) ∧ List.length (cellsVs z2) + List.length z3 ≤ maxLen ∧ (List.length (cellsVs z2) + List.length z3) * 56 ≤ 140737488355328 ∧ E false) ∧ False) (encI z2 = encI (List.map mkI l))) get30 ent30 (by kernel_rfl) ?_
  refine ⟨⟨rfl, ⟨rfl, rfl, rfl, ?_, trivial⟩, ⟨rfl, trivial⟩, rfl, fun hi => ?_⟩, fun i => fun hlt => ⟨fun hi => ⟨⟨rfl, ?_, ?_⟩, ?_, ⟨?_, ?_, ?_, rfl⟩, rfl, ⟨rfl, rfl, rfl, ?_, trivial⟩, ⟨?_, trivial⟩, rfl, fun hi => ?_⟩, fun hi => ?_⟩, fun hi => ⟨⟨rfl, ?_, ?_⟩, ?_, ⟨?_, ?_, ?_, rfl⟩, ?_⟩, fun hi => ?_⟩
  all_goals first | exact int_ok _ | rfl | exact ints_get l _ (by omega) | (simp; done) | (simp only [List.length_map, decide_eq_true_eq, decide_eq_false_iff_not, Int.toNat_natCast] at *; omega) | (exact congrArg (fun x => AV.f (int x)) (wrapS ((i : Int) + 1) (by omega) (by omega))) | (intro x hx; simp at hx; rcases hx with rfl | rfl | rfl | rfl <;> rfl) | (simp only [cellsVs_length, List.length_map, List.length_take, chunk, List.length_cons, List.length_nil, maxLen]; omega) | trivial | exact congrArg (Ob.row 4 25) (ints_step l i (by omega))
theorem count_mkI (n : Int) (d m : Int) (hm : 1 ≤ m) : countV (mkI n) d m = 1 := by
  simp only [mkI, countV, badV, plainB, formB, countL]
  simp
  omega
theorem right_mkI (n : Int) : rightB (mkI n) = true := by simp [rightB, count_mkI n 16 1024 (by omega)]
theorem cmp_mkI (a b : Int) : cmpV (mkI a) (mkI b) = cmpI a b := by simp [mkI, cmpV_mk]
theorem count_s3 : countV (V.mk 5 0 [] [mkI 1, mkI 2]) 16 1024 = 3 := by
  have hr : risingB 1 [mkI 1, mkI 2] = true := by
    unfold risingB
    simp only [decide_eq_true_eq]
    intro i hi
    have : i = 0 := by simp at hi; omega
    subst this
    simp [cmp_mkI, cmpI]
  simp only [countV, badV, plainB, formB, countL, hr, count_mkI 1 15 1023 (by omega), count_mkI 2 15 1022 (by omega)]
  simp [count_mkI 1 15 1023 (by omega), count_mkI 2 15 1022 (by omega)]
theorem right_s3 : rightB (V.mk 5 0 [] [mkI 1, mkI 2]) = true := by simp [rightB, count_s3]
theorem right_b2 : rightB (V.mk 1 2 [] []) = false := by
  have : countV (V.mk 1 2 [] []) 16 1024 = 0 := by simp [countV, badV, plainB]
  simp [rightB, this]
theorem set_212 : setR [mkI 2, mkI 1, mkI 2] = (V.mk 5 0 [] [mkI 1, mkI 2], 0) := by
  have hl : listE [mkI 2, mkI 1, mkI 2] = 0 := by simp [listE, right_mkI]
  have hs : [mkI 2, mkI 1, mkI 2].mergeSort (fun x y => decide (cmpV x y ≤ 0)) = [mkI 1, mkI 2, mkI 2] := by
    refine (sorted_unique _ [mkI 1, mkI 2, mkI 2] (List.Perm.swap _ _ _) ?_ ?_).symm
    · simp [cmp_mkI, cmpI]
    · intro x y hx hy h
      simp only [List.mem_cons, List.not_mem_nil, or_false] at hx hy
      rcases hx with rfl | rfl | rfl <;> rcases hy with rfl | rfl | rfl <;> first | rfl | (simp [cmp_mkI, cmpI] at h; done)
  have hc : setL [mkI 2, mkI 1, mkI 2] = [mkI 1, mkI 2] := by
    unfold setL
    rw [hs]
    simp [comp, compF, cmp_mkI, cmpI]
  simp [setR, hl, hc, madeR, right_s3]
theorem fine_mkI (n : Int) (h : -9223372036854775808 ≤ n ∧ n ≤ 9223372036854775807) : Fine (mkI n) := Fine.mk 2 n [] [] (by omega) h (by simp) (by simp) (by simp)
theorem fine_s3 : Fine (V.mk 5 0 [] [mkI 1, mkI 2]) := Fine.mk 5 0 [] _ (by omega) (by omega) (by simp) (by simp) (by
  intro x hx
  simp only [List.mem_cons, List.not_mem_nil, or_false] at hx
  rcases hx with rfl | rfl <;> exact fine_mkI _ (by omega))
theorem fine_b2 : Fine (V.mk 1 2 [] []) := Fine.mk 1 2 [] [] (by omega) (by omega) (by simp) (by simp) (by simp)
theorem fine_212 : ∀ x, x ∈ [mkI 2, mkI 1, mkI 2] → Fine x := by
  intro x hx
  simp only [List.mem_cons, List.not_mem_nil, or_false] at hx
  rcases hx with rfl | rfl | rfl <;> exact fine_mkI _ (by omega)
theorem nilA (k n : Int) (s : List UInt8) : ∀ w ok vs, FRelL w ok [.agg [int k, int n, str s, .nils]] vs → FRelL w ok [encV (.mk k n s [])] vs := by
  intro w ok vs h
  simp only [FRelL] at h ⊢
  obtain ⟨v, r, rfl, h1, h2⟩ := h
  exact ⟨v, r, rfl, nilV k n s w ok v h1, h2⟩
theorem get10 : P.funcs[10]? = some Tryd.f10 := by kernel_rfl
theorem ent10 : entersP P 10 = true := by kernel_rfl
theorem speaks_ok   : CallsF P G 10 [] (bool true) := by
  refine sx_fn (hs := [.lfz [0], .call (encI [mkI 2, mkI 1, mkI 2]), .call (FV.tup [encV (V.mk 5 0 [] [mkI 1, mkI 2]), int 0]), .call (FV.tup [int 3, int 0]), .dec true, .dec true, .dec true, .dec true, .call (int 0), .dec true, .call (int 3), .dec true, .call (encV (mkI (Int.ofNat 1))), .call (encV (mkI (Int.ofNat 2))), .call (int (-1))]) (CallsF P G 30 [FV.sl 1 [[int 2], [int 1], [int 2]]] (FV.sl 4 [[int 2, int 2, str [], FV.sl 4 []], [int 2, int 1, str [], FV.sl 4 []], [int 2, int 2, str [], FV.sl 4 []]]) ∧ CallsF P G 29 [FV.sl 4 [[int 2, int 2, str [], FV.sl 4 []], [int 2, int 1, str [], FV.sl 4 []], [int 2, int 2, str [], FV.sl 4 []]]] (FV.tup [FV.agg [int 5, int 0, str [], FV.sl 4 [[int 2, int 1, str [], FV.sl 4 []], [int 2, int 2, str [], FV.sl 4 []]]], int 0]) ∧ CallsF P G 31 [FV.agg [int 5, int 0, str [], FV.sl 4 [[int 2, int 1, str [], FV.sl 4 []], [int 2, int 2, str [], FV.sl 4 []]]]] (FV.tup [int 3, int 0]) ∧ E true ∧ E true ∧ E true ∧ E true ∧ CallsF P G 32 [FV.agg [int 5, int 0, str [], FV.sl 4 [[int 2, int 1, str [], FV.sl 4 []], [int 2, int 2, str [], FV.sl 4 []]]]] (int 0) ∧ E true ∧ CallsF P G 32 [FV.agg [int 1, int 2, str [], FV.nils]] (int 3) ∧ E true ∧ CallsF P G 33 [int 1] (FV.agg [int 2, int 1, str (V.text (mkI (Int.ofNat 1))), FV.sl 4 []]) ∧ CallsF P G 33 [int 2] (FV.agg [int 2, int 2, str (V.text (mkI (Int.ofNat 2))), FV.sl 4 []]) ∧ CallsF P G 16 [FV.agg [int 2, int 1, str (V.text (mkI (Int.ofNat 1))), FV.sl 4 []], FV.agg [int 2, int 2, str (V.text (mkI (Int.ofNat 2))), FV.sl 4 []]] (int (-1)) ∧ E (bool true)) get10 ent10 (by kernel_rfl) ?_
  refine ⟨?_, ?_, ?_, rfl, rfl, rfl, rfl, ?_, rfl, ?_, rfl, ?_, ?_, ?_, rfl⟩
  all_goals first | exact ints_all [2, 1, 2] (by simp) | (have h := set_ok [mkI 2, mkI 1, mkI 2] fine_212; rw [set_212] at h; exact h) | (have h := parts_ok (V.mk 5 0 [] [mkI 1, mkI 2]) fine_s3; rw [count_s3, right_s3] at h; exact h) | (have h := check_ok (V.mk 5 0 [] [mkI 1, mkI 2]) fine_s3; rw [right_s3] at h; exact h) | (have h := check_ok (V.mk 1 2 [] []) fine_b2; rw [right_b2] at h; exact h.args (nilA 1 2 [])) | exact int_ok _ | (have h := compare_ok (g := G) (mkI 1) (mkI 2) (fine_mkI 1 (by omega)); rw [cmp_mkI] at h; exact h)
end Go.Sx

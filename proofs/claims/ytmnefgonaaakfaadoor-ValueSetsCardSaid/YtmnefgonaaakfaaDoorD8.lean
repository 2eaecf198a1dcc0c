/-
  Proved: what some functions of the program answer, or a law of the evaluator that shows it, one theorem each; its conditions are the hypotheses that stand ahead of it.
-/
import Derived.Test.YtmnefgonaaakfaaDoorXD
import Derived.Test.YtmnefgonaaakfaaDoorD6
import Derived.Test.YtmnefgonaaakfaaDoorPLine
import Derived.KernelRfl
set_option maxRecDepth 100000
set_option linter.unusedSimpArgs false
set_option linter.unusedVariables false
namespace Go.Sx
open Go.Proofs Sp
/-- A contract over the draws alone is one over the program's ground. -/
theorem CallsW.toG {Q : Program} {f e sz : Nat} {es es' : List (List FV)} {rest : List FV} {r : Option FV} (h : CallsW Q G0 f e sz es rest es' r) : CallsW Q G f e sz es rest es' r := by
  intro w ok v xs vs _ hok _ hown hfr hl hv
  refine CallY.mono (h w ok v xs vs trivial hok (fun _ _ h => h.elim) hown hfr hl hv) ?_
  rintro u w' ⟨v', xs', h1, h2, h3, h4, h5, h6⟩
  exact ⟨v', xs', h1, h2, h3, h4, h5, ⟨h6.os, h6.tape, h6.output, h6.size, h6.block, fun hs => by cases hs⟩⟩
theorem fineL {l : List V} {N : Nat} (h : ∀ x, x ∈ l → Fine x) (hl : l.length ≤ N) (hN : N ≤ 2513169434844) (k : Int) (hk : 0 ≤ k ∧ k ≤ 6) : Fine (.mk k 0 [] l) := Fine.mk k 0 [] l (by omega) (by omega) (by simp) (by omega) h
/-- A set's members: sorted, each once. -/
noncomputable def setL (l : List V) : List V := comp (fun a b => cmpV a b == 0) (l.mergeSort fun x y => decide (cmpV x y ≤ 0))
theorem get14 : P.funcs[14]? = some Tryd.f14 := by kernel_rfl
theorem ent14 : entersP P 14 = true := by kernel_rfl
theorem set_bad (l : List V) (h : CallsF P G 40 [encI l] (int (listE l))) (h0 : listE l ≠ 0) : CallsF P G 14 [encI l] (.tup [.agg [int 0, int 0, str [], .nils], int (listE l)]) := by
  refine sx_fn (hs := [.call (int (listE l)), .dec true]) ((CallsF P G 40 [FV.sl 4 (cellsVs l)] (FV.sc (Value.int IntKind.i64 (listE l)))) ∧ ((listE l != 0) = (true)) ∧ (FV.tup [FV.agg [FV.sc (Value.int IntKind.i64 (Int.ofNat 0)), FV.sc (Value.int IntKind.i64 (Int.ofNat 0)), FV.sc (Value.string { data := #[] }), FV.nils], FV.sc (Value.int IntKind.i64 (listE l))]) = (FV.tup [FV.agg [FV.sc (Value.int IntKind.i64 (Int.ofNat 0)), FV.sc (Value.int IntKind.i64 (Int.ofNat 0)), FV.sc (Value.string { data := #[] }), FV.nils], FV.sc (Value.int IntKind.i64 (listE l))])) get14 ent14 (by kernel_rfl) ?_
  refine ⟨?_, ⟨?_, rfl⟩⟩
  all_goals first | exact h | (simp [h0]; done) | assumption | omega | (simp only [decide_eq_true_eq, decide_eq_false_iff_not]; omega) | (simp only [decide_eq_true_eq, decide_eq_false_iff_not, beq_iff_eq, beq_eq_false_iff_ne, cellsVs_length, List.length_append, List.length_map, List.length_take, List.length_drop, List.length_reverse, List.length_set, List.length_replicate, chunk, List.length_cons, List.length_nil, Int.toNat_natCast, V.items, maxLen]; omega) | (exfalso; simp only [decide_eq_true_eq, decide_eq_false_iff_not, beq_iff_eq, beq_eq_false_iff_ne, cellsVs_length, List.length_append, List.length_map, List.length_take, List.length_drop, List.length_reverse, List.length_set, List.length_replicate, chunk, List.length_cons, List.length_nil, Int.toNat_natCast, V.items, maxLen] at *; omega) | (rw [wrapS _ (by omega) (by omega)]; omega) | (exact congrArg (fun x => AV.f (int x)) (by (try simp only [cellsVs_length, List.length_append, List.length_map, List.length_take, List.length_drop, List.length_reverse, List.length_set, List.length_replicate, chunk, List.length_cons, List.length_nil, Int.toNat_natCast, V.items, maxLen]); rw [wrapS _ (by omega) (by omega)]; (try omega))) | (intro x hx; simp at hx; rcases hx with rfl | rfl | rfl | rfl <;> rfl) | (intro x hx; simp at hx; rcases hx with rfl | rfl | rfl | rfl | rfl | rfl | rfl | rfl <;> rfl) | (simp [V.kind, V.num, V.text, V.items, *]; done) | (simp_all [V.kind, V.num, V.text, V.items]; done)
theorem set_yes (l : List V) (h : CallsF P G 40 [encI l] (int 0)) (hl : l.length ≤ 65536) (hf : ∀ x, x ∈ l → Fine x) (hr : ∀ x, x ∈ l → rightB x = true) (hm : CallsF P G 43 [int 5, encI (setL l)] (.tup [encV (.mk 5 0 [] (setL l)), int 0])) : CallsF P G 14 [encI l] (.tup [encV (.mk 5 0 [] (setL l)), int 0]) := by
  refine sx_fn (hs := [.call (int 0), .dec false, .callO 24 4 (cellsVs l), .callW (cellsVs (l.mergeSort fun x y => decide (cmpV x y ≤ 0))) (some (.tup [])), .callW (cellsVs (setL l)) none, .frz [2], .call (.tup [encV (.mk 5 0 [] (setL l)), int 0])]) ((CallsF P G 40 [FV.sl 4 (cellsVs l)] (FV.sc (Value.int IntKind.i64 (Int.ofNat 0)))) ∧ ((false) = (false)) ∧ (CallsO P G 41 [FV.sl 4 (cellsVs l)] (24) (4) (cellsVs l)) ∧ (CallsW P G 42 (24) (4) (cellsVs l) ([FV.fn 9 [] []]) (cellsVs (List.mergeSort l fun x y => decide (cmpV x y ≤ 0))) (some (FV.tup []))) ∧ (CallsW P G 44 (24) (4) (cellsVs (List.mergeSort l fun x y => decide (cmpV x y ≤ 0))) ([FV.fn 11 [] []]) (cellsVs (setL l)) (none)) ∧ (CallsF P G 43 [FV.sc (Value.int IntKind.i64 (Int.ofNat 5)), FV.sl 4 (cellsVs (setL l))] (FV.tup [FV.agg [FV.sc (Value.int IntKind.i64 (V.kind (V.mk 5 0 [] (setL l)))), FV.sc (Value.int IntKind.i64 (V.num (V.mk 5 0 [] (setL l)))), FV.sc (Value.string { data := List.toArray (V.text (V.mk 5 0 [] (setL l))) }), FV.sl 4 (cellsVs (V.items (V.mk 5 0 [] (setL l))))], FV.sc (Value.int IntKind.i64 (Int.ofNat 0))])) ∧ (FV.tup [FV.agg [FV.sc (Value.int IntKind.i64 (V.kind (V.mk 5 0 [] (setL l)))), FV.sc (Value.int IntKind.i64 (V.num (V.mk 5 0 [] (setL l)))), FV.sc (Value.string { data := List.toArray (V.text (V.mk 5 0 [] (setL l))) }), FV.sl 4 (cellsVs (V.items (V.mk 5 0 [] (setL l))))], FV.sc (Value.int IntKind.i64 (Int.ofNat 0))]) = (FV.tup [FV.agg [FV.sc (Value.int IntKind.i64 (V.kind (V.mk 5 0 [] (setL l)))), FV.sc (Value.int IntKind.i64 (V.num (V.mk 5 0 [] (setL l)))), FV.sc (Value.string { data := List.toArray (V.text (V.mk 5 0 [] (setL l))) }), FV.sl 4 (cellsVs (V.items (V.mk 5 0 [] (setL l))))], FV.sc (Value.int IntKind.i64 (Int.ofNat 0))])) get14 ent14 (by kernel_rfl) ?_
  refine ⟨?_, ⟨rfl, ⟨?_, ⟨?_, ⟨?_, ⟨?_, rfl⟩⟩⟩⟩⟩⟩
  all_goals first | exact h | exact hm | exact clone_ok l (by omega) | exact CallsW.toG (sort_ok _ l hf (fun a b ha hb h => rightB_same (hr a ha) (hr b hb) h) (by omega)) | exact compact_ok (fun a b => cmpV a b == 0) _ _ (by rw [List.length_mergeSort]; omega) (fun i hi => equal_ok _ _ (fineD (fun x hx => hf x (by simpa using hx)) (by omega))) | assumption | omega | (simp only [decide_eq_true_eq, decide_eq_false_iff_not]; omega) | (simp only [decide_eq_true_eq, decide_eq_false_iff_not, beq_iff_eq, beq_eq_false_iff_ne, cellsVs_length, List.length_append, List.length_map, List.length_take, List.length_drop, List.length_reverse, List.length_set, List.length_replicate, chunk, List.length_cons, List.length_nil, Int.toNat_natCast, V.items, maxLen]; omega) | (exfalso; simp only [decide_eq_true_eq, decide_eq_false_iff_not, beq_iff_eq, beq_eq_false_iff_ne, cellsVs_length, List.length_append, List.length_map, List.length_take, List.length_drop, List.length_reverse, List.length_set, List.length_replicate, chunk, List.length_cons, List.length_nil, Int.toNat_natCast, V.items, maxLen] at *; omega) | (rw [wrapS _ (by omega) (by omega)]; omega) | (exact congrArg (fun x => AV.f (int x)) (by (try simp only [cellsVs_length, List.length_append, List.length_map, List.length_take, List.length_drop, List.length_reverse, List.length_set, List.length_replicate, chunk, List.length_cons, List.length_nil, Int.toNat_natCast, V.items, maxLen]); rw [wrapS _ (by omega) (by omega)]; (try omega))) | (intro x hx; simp at hx; rcases hx with rfl | rfl | rfl | rfl <;> rfl) | (intro x hx; simp at hx; rcases hx with rfl | rfl | rfl | rfl | rfl | rfl | rfl | rfl <;> rfl) | (simp [V.kind, V.num, V.text, V.items, *]; done) | (simp_all [V.kind, V.num, V.text, V.items]; done)
theorem set_no (l : List V) (h : CallsF P G 40 [encI l] (int 0)) (hl : l.length ≤ 65536) (hf : ∀ x, x ∈ l → Fine x) (hr : ∀ x, x ∈ l → rightB x = true) (hm : CallsF P G 43 [int 5, encI (setL l)] (.tup [.agg [int 0, int 0, str [], .nils], int 2])) : CallsF P G 14 [encI l] (.tup [.agg [int 0, int 0, str [], .nils], int 2]) := by
  refine sx_fn (hs := [.call (int 0), .dec false, .callO 24 4 (cellsVs l), .callW (cellsVs (l.mergeSort fun x y => decide (cmpV x y ≤ 0))) (some (.tup [])), .callW (cellsVs (setL l)) none, .frz [2], .call (.tup [.agg [int 0, int 0, str [], .nils], int 2])]) ((CallsF P G 40 [FV.sl 4 (cellsVs l)] (FV.sc (Value.int IntKind.i64 (Int.ofNat 0)))) ∧ ((false) = (false)) ∧ (CallsO P G 41 [FV.sl 4 (cellsVs l)] (24) (4) (cellsVs l)) ∧ (CallsW P G 42 (24) (4) (cellsVs l) ([FV.fn 9 [] []]) (cellsVs (List.mergeSort l fun x y => decide (cmpV x y ≤ 0))) (some (FV.tup []))) ∧ (CallsW P G 44 (24) (4) (cellsVs (List.mergeSort l fun x y => decide (cmpV x y ≤ 0))) ([FV.fn 11 [] []]) (cellsVs (setL l)) (none)) ∧ (CallsF P G 43 [FV.sc (Value.int IntKind.i64 (Int.ofNat 5)), FV.sl 4 (cellsVs (setL l))] (FV.tup [FV.agg [FV.sc (Value.int IntKind.i64 (Int.ofNat 0)), FV.sc (Value.int IntKind.i64 (Int.ofNat 0)), FV.sc (Value.string { data := #[] }), FV.nils], FV.sc (Value.int IntKind.i64 (Int.ofNat 2))])) ∧ (FV.tup [FV.agg [FV.sc (Value.int IntKind.i64 (Int.ofNat 0)), FV.sc (Value.int IntKind.i64 (Int.ofNat 0)), FV.sc (Value.string { data := #[] }), FV.nils], FV.sc (Value.int IntKind.i64 (Int.ofNat 2))]) = (FV.tup [FV.agg [FV.sc (Value.int IntKind.i64 (Int.ofNat 0)), FV.sc (Value.int IntKind.i64 (Int.ofNat 0)), FV.sc (Value.string { data := #[] }), FV.nils], FV.sc (Value.int IntKind.i64 (Int.ofNat 2))])) get14 ent14 (by kernel_rfl) ?_
  refine ⟨?_, ⟨rfl, ⟨?_, ⟨?_, ⟨?_, ⟨?_, rfl⟩⟩⟩⟩⟩⟩
  all_goals first | exact h | exact hm | exact clone_ok l (by omega) | exact CallsW.toG (sort_ok _ l hf (fun a b ha hb h => rightB_same (hr a ha) (hr b hb) h) (by omega)) | exact compact_ok (fun a b => cmpV a b == 0) _ _ (by rw [List.length_mergeSort]; omega) (fun i hi => equal_ok _ _ (fineD (fun x hx => hf x (by simpa using hx)) (by omega))) | assumption | omega | (simp only [decide_eq_true_eq, decide_eq_false_iff_not]; omega) | (simp only [decide_eq_true_eq, decide_eq_false_iff_not, beq_iff_eq, beq_eq_false_iff_ne, cellsVs_length, List.length_append, List.length_map, List.length_take, List.length_drop, List.length_reverse, List.length_set, List.length_replicate, chunk, List.length_cons, List.length_nil, Int.toNat_natCast, V.items, maxLen]; omega) | (exfalso; simp only [decide_eq_true_eq, decide_eq_false_iff_not, beq_iff_eq, beq_eq_false_iff_ne, cellsVs_length, List.length_append, List.length_map, List.length_take, List.length_drop, List.length_reverse, List.length_set, List.length_replicate, chunk, List.length_cons, List.length_nil, Int.toNat_natCast, V.items, maxLen] at *; omega) | (rw [wrapS _ (by omega) (by omega)]; omega) | (exact congrArg (fun x => AV.f (int x)) (by (try simp only [cellsVs_length, List.length_append, List.length_map, List.length_take, List.length_drop, List.length_reverse, List.length_set, List.length_replicate, chunk, List.length_cons, List.length_nil, Int.toNat_natCast, V.items, maxLen]); rw [wrapS _ (by omega) (by omega)]; (try omega))) | (intro x hx; simp at hx; rcases hx with rfl | rfl | rfl | rfl <;> rfl) | (intro x hx; simp at hx; rcases hx with rfl | rfl | rfl | rfl | rfl | rfl | rfl | rfl <;> rfl) | (simp [V.kind, V.num, V.text, V.items, *]; done) | (simp_all [V.kind, V.num, V.text, V.items]; done)
theorem nilT {a b c : FV} (l : List FV) : ∀ w ok v, FRel w ok (.tup (.agg [a, b, c, .nils] :: l)) v → FRel w ok (.tup (.agg [a, b, c, .sl 4 []] :: l)) v := by
  intro w ok v h
  simp only [FRel, FRelL] at h ⊢
  obtain ⟨cs, e, v0, r0, e0, ⟨cs1, e1, h1⟩, h2⟩ := h
  refine ⟨cs, e, v0, r0, e0, ⟨cs1, e1, ?_⟩, h2⟩
  obtain ⟨v1, r1, e1, h1, v2, r2, e2, h2, v3, r3, e3, h3, v4, r4, e4, h4, h5⟩ := h1
  exact ⟨v1, r1, e1, h1, v2, r2, e2, h2, v3, r3, e3, h3, v4, r4, e4, .inl ⟨trivial, .inl h4⟩, h5⟩
/-- What is told where nothing is. -/
def V0 : V := .mk 0 0 [] []
theorem comp_mem (q : V → V → Bool) (l : List V) : ∀ x, x ∈ comp q l → x ∈ l := by
  have main : ∀ (l : List V) (p x : V), x ∈ compF q p l → x ∈ l := by
    intro l
    induction l with
    | nil => intro p x h; simp [compF] at h
    | cons y l ih =>
      intro p x h
      simp only [compF] at h
      split at h
      · exact .tail _ (ih _ _ h)
      · rcases List.mem_cons.1 h with rfl | h
        · exact .head _
        · exact .tail _ (ih _ _ h)
  cases l with
  | nil => intro x h; simp [comp] at h
  | cons y l =>
    intro x h
    simp only [comp] at h
    rcases List.mem_cons.1 h with rfl | h
    · exact .head _
    · exact .tail _ (main _ _ _ h)
theorem comp_len (q : V → V → Bool) (l : List V) : (comp q l).length ≤ l.length := by
  have main : ∀ (l : List V) (p : V), (compF q p l).length ≤ l.length := by
    intro l
    induction l with
    | nil => intro p; simp [compF]
    | cons y l ih =>
      intro p
      simp only [compF]
      split
      · have := ih y; simp; omega
      · have := ih y; simp; omega
  cases l with
  | nil => simp [comp]
  | cons y l => have := main l y; simp [comp]; omega
theorem setL_mem {l : List V} {x : V} (h : x ∈ setL l) : x ∈ l := by simpa using comp_mem _ _ x h
theorem setL_len (l : List V) : (setL l).length ≤ l.length := by have := comp_len (fun a b => cmpV a b == 0) (l.mergeSort fun x y => decide (cmpV x y ≤ 0)); simpa [setL] using this
/-- What is made of items: it, or nothing and what is wrong. -/
noncomputable def madeR (k : Int) (l : List V) : V × Int := if rightB (.mk k 0 [] l) then (.mk k 0 [] l, 0) else (V0, 2)
noncomputable def setR (l : List V) : V × Int := if listE l = 0 then madeR 5 (setL l) else (V0, listE l)
theorem made_ok (k : Int) (hk : 0 ≤ k ∧ k ≤ 6) (l : List V) (hf : ∀ x, x ∈ l → Fine x) (hl : l.length ≤ 2513169434844) : CallsF P G 43 [int k, encI l] (.tup [encV (madeR k l).1, int (madeR k l).2]) := by
  have hF := fineL hf hl (Nat.le_refl _) k hk
  unfold madeR
  cases h : rightB (.mk k 0 [] l) with
  | true => rw [if_pos rfl]; exact made_yes k l (by have := right_ok _ hF; rwa [h] at this ⊢) (own_ok _ hF) h
  | false => rw [if_neg (by simp)]; exact (made_no k l (right_ok _ hF) h).weak (nilT _)
theorem listE_zero {l : List V} (h : listE l = 0) : l.length ≤ 65536 ∧ ∀ x, x ∈ l → rightB x = true := by
  unfold listE at h
  split at h
  · omega
  · split at h
    · rename_i h1 h2
      exact ⟨by omega, by simpa using h2⟩
    · omega
theorem set_ok (l : List V) (hf : ∀ x, x ∈ l → Fine x) : CallsF P G 14 [encI l] (.tup [encV (setR l).1, int (setR l).2]) := by
  unfold setR
  by_cases h0 : listE l = 0
  · rw [if_pos h0]
    obtain ⟨hl, hr⟩ := listE_zero h0
    have hv := values_ok l hf
    rw [h0] at hv
    have hF : ∀ x, x ∈ setL l → Fine x := fun x hx => hf x (setL_mem hx)
    have hlen := setL_len l
    have hFF := fineL hF hlen (by omega) 5 (by omega)
    unfold madeR
    cases h : rightB (.mk 5 0 [] (setL l)) with
    | true => rw [if_pos rfl]; exact set_yes l hv hl hf hr (made_yes 5 _ (by have := right_ok _ hFF; rwa [h] at this ⊢) (own_ok _ hFF) h)
    | false => rw [if_neg (by simp)]; exact (set_no l hv hl hf hr (made_no 5 _ (right_ok _ hFF) h)).weak (nilT _)
  · rw [if_neg h0]
    exact (set_bad l (values_ok l hf) h0).weak (nilT _)
def mkI (n : Int) : V := .mk 2 n [] []
def SInts (l : List Int) (i : Nat) : St := { sl := slots 19 [(3, .lsl 0), (6, .f (.sl 1 (l.map fun n => [int n]))), (7, .f (int (l.map fun n => [int n]).length)), (8, .f (int (i : Int)))], ob := [(0, .row 4 24 (cellsVs ((l.take i).map mkI)))], nx := 1 }
theorem ints_get (l : List Int) (i : Nat) (h : i < l.length) : (l.map fun n => [int n])[i]? = some [int (l.getD i 0)] := by simp [List.getD_eq_getElem?_getD, h]
theorem ints_step (l : List Int) (i : Nat) (h : i < l.length) : cellsVs ((l.take i).map mkI) ++ [cellsP (mkI (l.getD i 0))] = cellsVs ((l.take (i + 1)).map mkI) := by
  rw [List.take_succ_eq_append_getElem h, List.map_append, cellsVs_app]
  simp [cellsVs, cellsP_eq, List.getD_eq_getElem?_getD, h]
theorem get38 : P.funcs[38]? = some Tryd.f38 := by kernel_rfl
theorem ent38 : entersP P 38 = true := by kernel_rfl
theorem ints_all (l : List Int) (hl : l.length ≤ 65536) : CallsF P G 38 [.sl 1 (l.map fun n => [int n])] (.sl 4 (cellsVs (l.map mkI))) := by
  refine sx_fn (hs := [Hint.pre [Hint.nrow 3 4 24], .loop [(0, 0)] [(2, 0)] (SInts l) (List.length l) (fun i => [.br [.el ([int (List.getD l (Int.toNat (↑i : Int)) 0)]), .call (encV (mkI (List.getD l (Int.toNat (↑i : Int)) 0)))] []]), .br [.el ([int (List.getD l (Int.toNat (↑(List.length l) : Int)) 0)]), .call (encV (mkI (List.getD l (Int.toNat (↑(List.length l) : Int)) 0)))] [.frz [0]]]) ((((true) = (true)) ∧ (((AV.lsl 0) = (AV.lsl 0)) ∧ ((AV.f (FV.sl 1 (List.map (fun n => [int n]) l))) = (AV.f (FV.sl 1 (List.map (fun n => [int n]) l)))) ∧ ((AV.f (FV.sc (Value.int IntKind.i64 (↑(List.length (List.map (fun n => [int n]) l)) : Int)))) = (AV.f (FV.sc (Value.int IntKind.i64 (↑(List.length (List.map (fun n => [int n]) l)) : Int))))) ∧ ((AV.f (FV.sc (Value.int IntKind.i64 (Int.ofNat 0)))) = (AV.f (FV.sc (Value.int IntKind.i64 (Int.ofNat 0))))) ∧ True) ∧ ((Ob.row 4 24 []) = (Ob.row 4 24 [])) ∧ True) ∧ (∀ (i : Nat), (i < List.length l) → ((((decide ((↑i : Int) < (↑(List.length (List.map (fun n => [int n]) l)) : Int))) = (true)) → ((((1) = (1)) ∧ (0 ≤ (↑i : Int)) ∧ ((List.map (fun n => [int n]) l)[Int.toNat (↑i : Int)]?) = (some [FV.sc (Value.int IntKind.i64 (List.getD l (Int.toNat (↑i : Int)) 0))])) ∧ (CallsF P G 39 [FV.sc (Value.int IntKind.i64 (List.getD l (Int.toNat (↑i : Int)) 0))] (FV.agg [FV.sc (Value.int IntKind.i64 (V.kind (mkI (List.getD l (Int.toNat (↑i : Int)) 0)))), FV.sc (Value.int IntKind.i64 (V.num (mkI (List.getD l (Int.toNat (↑i : Int)) 0)))), FV.sc (Value.string { data := List.toArray (V.text (mkI (List.getD l (Int.toNat (↑i : Int)) 0))) }), FV.sl 4 []])) ∧ ((oneF ([[FV.sc (Value.int IntKind.i64 (V.kind (mkI (List.getD l (Int.toNat (↑i : Int)) 0)))), FV.sc (Value.int IntKind.i64 (V.num (mkI (List.getD l (Int.toNat (↑i : Int)) 0)))), FV.sc (Value.string { data := List.toArray (V.text (mkI (List.getD l (Int.toNat (↑i : Int)) 0))) }), FV.sl 4 []]])) ∧ (List.length (cellsVs (List.map mkI (List.take i l))) + List.length (chunk 4 1 [int (V.kind (mkI (List.getD l (Int.toNat (↑i : Int)) 0))), int (V.num (mkI (List.getD l (Int.toNat (↑i : Int)) 0))), str (V.text (mkI (List.getD l (Int.toNat (↑i : Int)) 0))), FV.sl 4 (cellsVs (V.items (mkI (List.getD l (Int.toNat (↑i : Int)) 0))))]) ≤ maxLen) ∧ ((List.length (cellsVs (List.map mkI (List.take i l))) + List.length (chunk 4 1 [int (V.kind (mkI (List.getD l (Int.toNat (↑i : Int)) 0))), int (V.num (mkI (List.getD l (Int.toNat (↑i : Int)) 0))), str (V.text (mkI (List.getD l (Int.toNat (↑i : Int)) 0))), FV.sl 4 (cellsVs (V.items (mkI (List.getD l (Int.toNat (↑i : Int)) 0))))])) * 56 ≤ 140737488355328) ∧ (false) = (false)) ∧ ((true) = (true)) ∧ (((AV.lsl 0) = (AV.lsl 0)) ∧ ((AV.f (FV.sl 1 (List.map (fun n => [int n]) l))) = (AV.f (FV.sl 1 (List.map (fun n => [int n]) l)))) ∧ ((AV.f (FV.sc (Value.int IntKind.i64 (↑(List.length (List.map (fun n => [int n]) l)) : Int)))) = (AV.f (FV.sc (Value.int IntKind.i64 (↑(List.length (List.map (fun n => [int n]) l)) : Int))))) ∧ ((AV.f (FV.sc (Value.int IntKind.i64 (IntKind.wrap IntKind.i64 ((↑i : Int) + 1))))) = (AV.f (FV.sc (Value.int IntKind.i64 (↑(i + 1) : Int))))) ∧ True) ∧ ((Ob.row 4 24 (cellsVs (List.map mkI (List.take i l)) ++ chunk (TypeInfo.size (Tables.types (Program.toTables P))[24]) 1 [int (V.kind (mkI (List.getD l (Int.toNat (↑i : Int)) 0))), int (V.num (mkI (List.getD l (Int.toNat (↑i : Int)) 0))), str (V.text (mkI (List.getD l (Int.toNat (↑i : Int)) 0))), FV.sl 4 (cellsVs (V.items (mkI (List.getD l (Int.toNat (↑i : Int)) 0))))])) = (Ob.row 4 24 (cellsVs (List.map mkI (List.take (i + 1) l))))) ∧ True)) ∧ (((decide ((↑i : Int) < (↑(List.length (List.map (fun n => [int n]) l)) : Int))) = (false)) → (False)))) ∧ (((decide ((↑(List.length l) : Int) < (↑(List.length (List.map (fun n => [int n]) l)) : Int))) = (true)) → ((((1) = (1)) ∧ (0 ≤ (↑(List.length l) : Int)) ∧ ((List.map (fun n => [int n]) l)[Int.toNat (↑(List.length l) : Int)]?) = (some [FV.sc (Value.int IntKind.i64 (List.getD l (Int.toNat (↑(List.length l) : Int)) 0))])) ∧ (CallsF P G 39 [FV.sc (Value.int IntKind.i64 (List.getD l (Int.toNat (↑(List.length l) : Int)) 0))] (FV.agg [FV.sc (Value.int IntKind.i64 (V.kind (mkI (List.getD l (Int.toNat (↑(List.length l) : Int)) 0)))), FV.sc (Value.int IntKind.i64 (V.num (mkI (List.getD l (Int.toNat (↑(List.length l) : Int)) 0)))), FV.sc (Value.string { data := List.toArray (V.text (mkI (List.getD l (Int.toNat (↑(List.length l) : Int)) 0))) }), FV.sl 4 []])) ∧ ((oneF ([[FV.sc (Value.int IntKind.i64 (V.kind (mkI (List.getD l (Int.toNat (↑(List.length l) : Int)) 0)))), FV.sc (Value.int IntKind.i64 (V.num (mkI (List.getD l (Int.toNat (↑(List.length l) : Int)) 0)))), FV.sc (Value.string { data := List.toArray (V.text (mkI (List.getD l (Int.toNat (↑(List.length l) : Int)) 0))) }), FV.sl 4 []]])) ∧ (List.length (cellsVs (List.map mkI (List.take (List.length l) l))) + List.length (chunk 4 1 [int (V.kind (mkI (List.getD l (Int.toNat (↑(List.length l) : Int)) 0))), int (V.num (mkI (List.getD l (Int.toNat (↑(List.length l) : Int)) 0))), str (V.text (mkI (List.getD l (Int.toNat (↑(List.length l) : Int)) 0))), FV.sl 4 (cellsVs (V.items (mkI (List.getD l (Int.toNat (↑(List.length l) : Int)) 0))))]) ≤ maxLen) ∧ ((List.length (cellsVs (List.map mkI (List.take (List.length l) l))) + List.length (chunk 4 1 [int (V.kind (mkI (List.getD l (Int.toNat (↑(List.length l) : Int)) 0))), int (V.num (mkI (List.getD l (Int.toNat (↑(List.length l) : Int)) 0))), str (V.text (mkI (List.getD l (Int.toNat (↑(List.length l) : Int)) 0))), FV.sl 4 (cellsVs (V.items (mkI (List.getD l (Int.toNat (↑(List.length l) : Int)) 0))))])) * 56 ≤ 140737488355328) ∧ (false) = (false)) ∧ False)) ∧ (((decide ((↑(List.length l) : Int) < (↑(List.length (List.map (fun n => [int n]) l)) : Int))) = (false)) → ((FV.sl 4 (cellsVs (List.map mkI (List.take (List.length l) l)))) = (FV.sl 4 (cellsVs (List.map mkI l)))))) get38 ent38 (by kernel_rfl) ?_
  refine ⟨⟨rfl, ⟨⟨rfl, ⟨rfl, ⟨rfl, ⟨rfl, trivial⟩⟩⟩⟩, ⟨rfl, trivial⟩⟩⟩, fun i => fun hlt => ⟨fun hi => ⟨⟨rfl, ⟨?_, ?_⟩⟩, ⟨?_, ⟨⟨?_, ⟨?_, ⟨?_, rfl⟩⟩⟩, ⟨rfl, ⟨⟨rfl, ⟨rfl, ⟨rfl, ⟨?_, trivial⟩⟩⟩⟩, ⟨?_, trivial⟩⟩⟩⟩⟩⟩, fun hi => ?_⟩, ⟨fun hi => ⟨⟨rfl, ⟨?_, ?_⟩⟩, ⟨?_, ⟨⟨?_, ⟨?_, ⟨?_, rfl⟩⟩⟩, ?_⟩⟩⟩, fun hi => ?_⟩⟩
  all_goals first | exact int_ok _ | rfl | exact ints_get l _ (by omega) | (simp; done) | (simp only [List.length_map, decide_eq_true_eq, decide_eq_false_iff_not, Int.toNat_natCast] at *; omega) | (exact congrArg (fun x => AV.f (int x)) (wrapS ((i : Int) + 1) (by omega) (by omega))) | (rw [Int.toNat_natCast]; exact congrArg (Ob.row 4 24) (ints_step l i (by omega))) | (simp only [List.length_append, cellsVs_length, List.length_map, List.length_take, List.length_cons, List.length_nil, maxLen]; omega) | (simp; omega) | (intro x hx; simp at hx; rcases hx with rfl | rfl | rfl | rfl <;> rfl) | (simp only [cellsVs_length, List.length_map, List.length_take, chunk, List.length_cons, List.length_nil, maxLen]; omega) | trivial | rfl | exact congrArg (Ob.row 4 24) (ints_step l i (by omega)) | assumption | omega | (simp only [decide_eq_true_eq, decide_eq_false_iff_not]; omega) | (simp only [decide_eq_true_eq, decide_eq_false_iff_not, beq_iff_eq, beq_eq_false_iff_ne, cellsVs_length, List.length_append, List.length_map, List.length_take, List.length_drop, List.length_reverse, List.length_set, List.length_replicate, chunk, List.length_cons, List.length_nil, Int.toNat_natCast, V.items, maxLen]; omega) | (exfalso; simp only [decide_eq_true_eq, decide_eq_false_iff_not, beq_iff_eq, beq_eq_false_iff_ne, cellsVs_length, List.length_append, List.length_map, List.length_take, List.length_drop, List.length_reverse, List.length_set, List.length_replicate, chunk, List.length_cons, List.length_nil, Int.toNat_natCast, V.items, maxLen] at *; omega) | (rw [wrapS _ (by omega) (by omega)]; omega) | (exact congrArg (fun x => AV.f (int x)) (by (try simp only [cellsVs_length, List.length_append, List.length_map, List.length_take, List.length_drop, List.length_reverse, List.length_set, List.length_replicate, chunk, List.length_cons, List.length_nil, Int.toNat_natCast, V.items, maxLen]); rw [wrapS _ (by omega) (by omega)]; (try omega))) | (intro x hx; simp at hx; rcases hx with rfl | rfl | rfl | rfl <;> rfl) | (intro x hx; simp at hx; rcases hx with rfl | rfl | rfl | rfl | rfl | rfl | rfl | rfl <;> rfl) | (simp [V.kind, V.num, V.text, V.items, *]; done) | (simp_all [V.kind, V.num, V.text, V.items]; done)
end Go.Sx

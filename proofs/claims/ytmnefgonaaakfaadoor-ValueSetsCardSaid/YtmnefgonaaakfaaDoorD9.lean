/-
  Proved: what some functions of the program answer, or a law of the evaluator that shows it, one theorem each; its conditions are the hypotheses that stand ahead of it.
-/
import Derived.Test.YtmnefgonaaakfaaDoorD8
import Derived.KernelRfl
set_option maxRecDepth 100000
set_option linter.unusedSimpArgs false
set_option linter.unusedVariables false
namespace Go.Sx
open Go.Proofs Sp
theorem count_mkI (n : Int) (d m : Int) (hm : 1 ≤ m) : countV (mkI n) d m = 1 := by
  simp only [mkI, countV, badV, plainB, formB, countL]
  simp
  omega
theorem right_mkI (n : Int) : rightB (mkI n) = true := by simp [rightB, count_mkI n 16 1024 (by omega)]
theorem cmp_mkI (a b : Int) : cmpV (mkI a) (mkI b) = cmpI a b := by simp [mkI, cmpV_mk]
theorem count_s3 : countV (V.mk 5 0 [] [mkI 1, mkI 2]) 16 1024 = 3 := by
  have hr : risingB 1 [mkI 1, mkI 2] = true := by
    unfold risingB
    simp only [decide_eq_true_eq]
    intro i hi
    have : i = 0 := by simp at hi; omega
    subst this
    simp [cmp_mkI, cmpI]
  simp only [countV, badV, plainB, formB, countL, hr, count_mkI 1 15 1023 (by omega), count_mkI 2 15 1022 (by omega)]
  simp [count_mkI 1 15 1023 (by omega), count_mkI 2 15 1022 (by omega)]
theorem right_s3 : rightB (V.mk 5 0 [] [mkI 1, mkI 2]) = true := by simp [rightB, count_s3]
theorem right_b2 : rightB (V.mk 1 2 [] []) = false := by
  have : countV (V.mk 1 2 [] []) 16 1024 = 0 := by simp [countV, badV, plainB]
  simp [rightB, this]
theorem set_212 : setR [mkI 2, mkI 1, mkI 2] = (V.mk 5 0 [] [mkI 1, mkI 2], 0) := by
  have hl : listE [mkI 2, mkI 1, mkI 2] = 0 := by simp [listE, right_mkI]
  have hs : [mkI 2, mkI 1, mkI 2].mergeSort (fun x y => decide (cmpV x y ≤ 0)) = [mkI 1, mkI 2, mkI 2] := by
    refine (sorted_unique _ [mkI 1, mkI 2, mkI 2] (List.Perm.swap _ _ _) ?_ ?_).symm
    · simp [cmp_mkI, cmpI]
    · intro x y hx hy h
      simp only [List.mem_cons, List.not_mem_nil, or_false] at hx hy
      rcases hx with rfl | rfl | rfl <;> rcases hy with rfl | rfl | rfl <;> first | rfl | (simp [cmp_mkI, cmpI] at h; done)
  have hc : setL [mkI 2, mkI 1, mkI 2] = [mkI 1, mkI 2] := by
    unfold setL
    rw [hs]
    simp [comp, compF, cmp_mkI, cmpI]
  simp [setR, hl, hc, madeR, right_s3]
theorem fine_mkI (n : Int) (h : -9223372036854775808 ≤ n ∧ n ≤ 9223372036854775807) : Fine (mkI n) := Fine.mk 2 n [] [] (by omega) h (by simp) (by simp) (by simp)
theorem fine_s3 : Fine (V.mk 5 0 [] [mkI 1, mkI 2]) := Fine.mk 5 0 [] _ (by omega) (by omega) (by simp) (by simp) (by
  intro x hx
  simp only [List.mem_cons, List.not_mem_nil, or_false] at hx
  rcases hx with rfl | rfl <;> exact fine_mkI _ (by omega))
theorem fine_b2 : Fine (V.mk 1 2 [] []) := Fine.mk 1 2 [] [] (by omega) (by omega) (by simp) (by simp) (by simp)
theorem fine_212 : ∀ x, x ∈ [mkI 2, mkI 1, mkI 2] → Fine x := by
  intro x hx
  simp only [List.mem_cons, List.not_mem_nil, or_false] at hx
  rcases hx with rfl | rfl | rfl <;> exact fine_mkI _ (by omega)
/-- Arguments that say more. -/
theorem CallsF.args {Q : Program} {g : Gr} {f : Nat} {us bs : List FV} {r : FV} (h : CallsF Q g f us r) (hw : ∀ w ok vs, FRelL w ok bs vs → FRelL w ok us vs) : CallsF Q g f bs r :=
  fun w ok vs hg hok hv => h w ok vs hg hok (hw w ok vs hv)
theorem nilA (k n : Int) (s : List UInt8) : ∀ w ok vs, FRelL w ok [.agg [int k, int n, str s, .nils]] vs → FRelL w ok [encV (.mk k n s [])] vs := by
  intro w ok vs h
  simp only [FRelL] at h ⊢
  obtain ⟨v, r, rfl, h1, h2⟩ := h
  exact ⟨v, r, rfl, nilV k n s w ok v h1, h2⟩
theorem get13 : P.funcs[13]? = some Tryd.f13 := by kernel_rfl
theorem ent13 : entersP P 13 = true := by kernel_rfl
theorem speaks_ok   : CallsF P G 13 [] (bool true) := by
  refine sx_fn (hs := [.lfz [0], .call (FV.sl 4 (cellsVs [mkI 2, mkI 1, mkI 2])), .call (FV.tup [encV (V.mk 5 0 [] [mkI 1, mkI 2]), int 0]), .call (FV.tup [int 3, int 0]), .dec true, .dec true, .dec true, .dec true, .call (int 0), .dec true, .call (int 3), .dec true, .call (encV (mkI (Int.ofNat 1))), .call (encV (mkI (Int.ofNat 2))), .call (int (-1))]) ((CallsF P G 38 [FV.sl 1 [[FV.sc (Value.int IntKind.i64 (Int.ofNat 2))], [FV.sc (Value.int IntKind.i64 (Int.ofNat 1))], [FV.sc (Value.int IntKind.i64 (Int.ofNat 2))]]] (FV.sl 4 [[FV.sc (Value.int IntKind.i64 (Int.ofNat 2)), FV.sc (Value.int IntKind.i64 (Int.ofNat 2)), FV.sc (Value.string { data := #[] }), FV.sl 4 []], [FV.sc (Value.int IntKind.i64 (Int.ofNat 2)), FV.sc (Value.int IntKind.i64 (Int.ofNat 1)), FV.sc (Value.string { data := #[] }), FV.sl 4 []], [FV.sc (Value.int IntKind.i64 (Int.ofNat 2)), FV.sc (Value.int IntKind.i64 (Int.ofNat 2)), FV.sc (Value.string { data := #[] }), FV.sl 4 []]])) ∧ (CallsF P G 14 [FV.sl 4 [[FV.sc (Value.int IntKind.i64 (Int.ofNat 2)), FV.sc (Value.int IntKind.i64 (Int.ofNat 2)), FV.sc (Value.string { data := #[] }), FV.sl 4 []], [FV.sc (Value.int IntKind.i64 (Int.ofNat 2)), FV.sc (Value.int IntKind.i64 (Int.ofNat 1)), FV.sc (Value.string { data := #[] }), FV.sl 4 []], [FV.sc (Value.int IntKind.i64 (Int.ofNat 2)), FV.sc (Value.int IntKind.i64 (Int.ofNat 2)), FV.sc (Value.string { data := #[] }), FV.sl 4 []]]] (FV.tup [FV.agg [FV.sc (Value.int IntKind.i64 (Int.ofNat 5)), FV.sc (Value.int IntKind.i64 (Int.ofNat 0)), FV.sc (Value.string { data := List.toArray (V.text (V.mk 5 0 [] [mkI 1, mkI 2])) }), FV.sl 4 [[FV.sc (Value.int IntKind.i64 (Int.ofNat 2)), FV.sc (Value.int IntKind.i64 (Int.ofNat 1)), FV.sc (Value.string { data := #[] }), FV.sl 4 []], [FV.sc (Value.int IntKind.i64 (Int.ofNat 2)), FV.sc (Value.int IntKind.i64 (Int.ofNat 2)), FV.sc (Value.string { data := #[] }), FV.sl 4 []]]], FV.sc (Value.int IntKind.i64 (Int.ofNat 0))])) ∧ (CallsF P G 15 [FV.agg [FV.sc (Value.int IntKind.i64 (Int.ofNat 5)), FV.sc (Value.int IntKind.i64 (Int.ofNat 0)), FV.sc (Value.string { data := List.toArray (V.text (V.mk 5 0 [] [mkI 1, mkI 2])) }), FV.sl 4 [[FV.sc (Value.int IntKind.i64 (Int.ofNat 2)), FV.sc (Value.int IntKind.i64 (Int.ofNat 1)), FV.sc (Value.string { data := #[] }), FV.sl 4 []], [FV.sc (Value.int IntKind.i64 (Int.ofNat 2)), FV.sc (Value.int IntKind.i64 (Int.ofNat 2)), FV.sc (Value.string { data := #[] }), FV.sl 4 []]]]] (FV.tup [FV.sc (Value.int IntKind.i64 (Int.ofNat 3)), FV.sc (Value.int IntKind.i64 (Int.ofNat 0))])) ∧ ((true) = (true)) ∧ ((true) = (true)) ∧ ((true) = (true)) ∧ ((true) = (true)) ∧ (CallsF P G 10 [FV.agg [FV.sc (Value.int IntKind.i64 (Int.ofNat 5)), FV.sc (Value.int IntKind.i64 (Int.ofNat 0)), FV.sc (Value.string { data := List.toArray (V.text (V.mk 5 0 [] [mkI 1, mkI 2])) }), FV.sl 4 [[FV.sc (Value.int IntKind.i64 (Int.ofNat 2)), FV.sc (Value.int IntKind.i64 (Int.ofNat 1)), FV.sc (Value.string { data := #[] }), FV.sl 4 []], [FV.sc (Value.int IntKind.i64 (Int.ofNat 2)), FV.sc (Value.int IntKind.i64 (Int.ofNat 2)), FV.sc (Value.string { data := #[] }), FV.sl 4 []]]]] (FV.sc (Value.int IntKind.i64 (Int.ofNat 0)))) ∧ ((true) = (true)) ∧ (CallsF P G 10 [FV.agg [FV.sc (Value.int IntKind.i64 (Int.ofNat 1)), FV.sc (Value.int IntKind.i64 (Int.ofNat 2)), FV.sc (Value.string { data := #[] }), FV.nils]] (FV.sc (Value.int IntKind.i64 (Int.ofNat 3)))) ∧ ((true) = (true)) ∧ (CallsF P G 39 [FV.sc (Value.int IntKind.i64 (Int.ofNat 1))] (FV.agg [FV.sc (Value.int IntKind.i64 (Int.ofNat 2)), FV.sc (Value.int IntKind.i64 (Int.ofNat 1)), FV.sc (Value.string { data := List.toArray (V.text (mkI (Int.ofNat 1))) }), FV.sl 4 []])) ∧ (CallsF P G 39 [FV.sc (Value.int IntKind.i64 (Int.ofNat 2))] (FV.agg [FV.sc (Value.int IntKind.i64 (Int.ofNat 2)), FV.sc (Value.int IntKind.i64 (Int.ofNat 2)), FV.sc (Value.string { data := List.toArray (V.text (mkI (Int.ofNat 2))) }), FV.sl 4 []])) ∧ (CallsF P G 9 [FV.agg [FV.sc (Value.int IntKind.i64 (Int.ofNat 2)), FV.sc (Value.int IntKind.i64 (Int.ofNat 1)), FV.sc (Value.string { data := List.toArray (V.text (mkI (Int.ofNat 1))) }), FV.sl 4 []], FV.agg [FV.sc (Value.int IntKind.i64 (Int.ofNat 2)), FV.sc (Value.int IntKind.i64 (Int.ofNat 2)), FV.sc (Value.string { data := List.toArray (V.text (mkI (Int.ofNat 2))) }), FV.sl 4 []]] (FV.sc (Value.int IntKind.i64 (Int.negSucc 0)))) ∧ (FV.sc (Value.bool true)) = (FV.sc (Value.bool true))) get13 ent13 (by kernel_rfl) ?_
  refine ⟨?_, ⟨?_, ⟨?_, ⟨rfl, ⟨rfl, ⟨rfl, ⟨rfl, ⟨?_, ⟨rfl, ⟨?_, ⟨rfl, ⟨?_, ⟨?_, ⟨?_, rfl⟩⟩⟩⟩⟩⟩⟩⟩⟩⟩⟩⟩⟩⟩
  all_goals first | exact ints_all [2, 1, 2] (by simp) | (have h := set_ok [mkI 2, mkI 1, mkI 2] fine_212; rw [set_212] at h; exact h) | (have h := parts_ok (V.mk 5 0 [] [mkI 1, mkI 2]) fine_s3; rw [count_s3, right_s3] at h; exact h) | (have h := check_ok (V.mk 5 0 [] [mkI 1, mkI 2]) fine_s3; rw [right_s3] at h; exact h) | (have h := check_ok (V.mk 1 2 [] []) fine_b2; rw [right_b2] at h; exact h.args (nilA 1 2 [])) | exact int_ok _ | (have h := compare_ok (g := G) (mkI 1) (mkI 2) (fine_mkI 1 (by omega)); rw [cmp_mkI] at h; exact h) | assumption | omega | (simp only [decide_eq_true_eq, decide_eq_false_iff_not]; omega) | (simp only [decide_eq_true_eq, decide_eq_false_iff_not, beq_iff_eq, beq_eq_false_iff_ne, cellsVs_length, List.length_append, List.length_map, List.length_take, List.length_drop, List.length_reverse, List.length_set, List.length_replicate, chunk, List.length_cons, List.length_nil, Int.toNat_natCast, V.items, maxLen]; omega) | (exfalso; simp only [decide_eq_true_eq, decide_eq_false_iff_not, beq_iff_eq, beq_eq_false_iff_ne, cellsVs_length, List.length_append, List.length_map, List.length_take, List.length_drop, List.length_reverse, List.length_set, List.length_replicate, chunk, List.length_cons, List.length_nil, Int.toNat_natCast, V.items, maxLen] at *; omega) | (rw [wrapS _ (by omega) (by omega)]; omega) | (exact congrArg (fun x => AV.f (int x)) (by (try simp only [cellsVs_length, List.length_append, List.length_map, List.length_take, List.length_drop, List.length_reverse, List.length_set, List.length_replicate, chunk, List.length_cons, List.length_nil, Int.toNat_natCast, V.items, maxLen]); rw [wrapS _ (by omega) (by omega)]; (try omega))) | (intro x hx; simp at hx; rcases hx with rfl | rfl | rfl | rfl <;> rfl) | (intro x hx; simp at hx; rcases hx with rfl | rfl | rfl | rfl | rfl | rfl | rfl | rfl <;> rfl) | (simp [V.kind, V.num, V.text, V.items, *]; done) | (simp_all [V.kind, V.num, V.text, V.items]; done)
end Go.Sx

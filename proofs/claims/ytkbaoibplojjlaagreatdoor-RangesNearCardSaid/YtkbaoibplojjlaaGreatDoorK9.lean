/-
  Proved: what some functions of the program answer, or a law of the evaluator that shows it, one theorem each; its conditions are the hypotheses that stand ahead of it.
-/
import Derived.Test.YtkbaoibplojjlaaGreatDoorK4
import Derived.Test.YtkbaoibplojjlaaGreatDoorH9
import Derived.KernelRfl
import Derived.Test.YtkbaoibplojjlaaGreatDoorGY
set_option maxRecDepth 100000
set_option maxHeartbeats 4000000
set_option linter.unusedSimpArgs false
set_option linter.unusedVariables false
namespace Go.Sx
open Go.Proofs Sp
theorem get133 : P.funcs[133]? = some Tryz.f133 := by kernel_rfl
theorem ent133 : entersP P 133 = true := by kernel_rfl
theorem less_ok (a b : Int)  : CallsF P G 133 [.sc (.int .u64 a), .sc (.int .u64 b)] (int (cmpI a b)) := by
  refine sx_fn (hs := [.br [] [.br [] []]]) ((((decide (a < b)) = (true)) → ((int (-1)) = (int (cmpI a b)))) ∧ (((decide (a < b)) = (false)) → ((((decide (a > b)) = (true)) → ((int 1) = (int (cmpI a b)))) ∧ (((decide (a > b)) = (false)) → ((int 0) = (int (cmpI a b))))))) get133 ent133 (by kernel_rfl) ?_
  refine ⟨fun hi => ?_, fun hi => ⟨fun hi => ?_, fun hi => ?_⟩⟩
  all_goals (exact congrArg int (by simp only [decide_eq_true_eq, decide_eq_false_iff_not] at *; unfold cmpI; split <;> (try split) <;> omega))
theorem get137 : P.funcs[137]? = some Tryz.f137 := by kernel_rfl
theorem ent137 : entersP P 137 = true := by kernel_rfl
theorem far_ok (n : Int)  : CallsF P G 137 [int n] (.sc (.int .u64 (awayI n))) := by
  refine sx_fn (hs := [.br [] []]) ((((decide (n < 0)) = (true)) → ((FV.sc (Value.int IntKind.u64 (IntKind.wrap IntKind.u64 (0 - IntKind.wrap IntKind.u64 n)))) = (FV.sc (Value.int IntKind.u64 (awayI n))))) ∧ (((decide (n < 0)) = (false)) → ((FV.sc (Value.int IntKind.u64 (IntKind.wrap IntKind.u64 n))) = (FV.sc (Value.int IntKind.u64 (awayI n)))))) get137 ent137 (by kernel_rfl) ?_
  refine ⟨fun hi => ?_, fun hi => ?_⟩
  all_goals first | (exact congrArg (fun x => FV.sc (.int .u64 x)) (if_pos (of_decide_eq_true hi)).symm) | (exact congrArg (fun x => FV.sc (.int .u64 x)) (if_neg (of_decide_eq_false hi)).symm)
theorem get106 : P.funcs[106]? = some Tryz.f106 := by kernel_rfl
theorem ent106 : entersP P 106 = true := by kernel_rfl
theorem first_01 (o : Int) (a b : V) (ho : o ≠ 2 ∧ o ≠ 3 ∧ o ≠ 4 ∧ o ≠ 5) : CallsF P G 106 [int o, encV a, encV b] (int 0) := by
  refine sx_fn (hs := [.dec false, .dec false, .dec false, .dec false]) (((o == 2) = (false)) ∧ ((o == 3) = (false)) ∧ ((o == 4) = (false)) ∧ ((o == 5) = (false)) ∧ E (int 0)) get106 ent106 (by kernel_rfl) ?_
  refine ⟨?_, ⟨?_, ⟨?_, ⟨?_, rfl⟩⟩⟩⟩
  all_goals (simp only [beq_eq_false_iff_ne]; omega)
theorem first_2 (a b : V) (w1 : CallsF P G 134 [encV a] (.sc (.int .u32 (fullH a)))) (w2 : CallsF P G 134 [encV b] (.sc (.int .u32 (fullH b)))) : CallsF P G 106 [int 2, encV a, encV b] (int (cmpI (IntKind.u64.wrap (fullH a)) (IntKind.u64.wrap (fullH b)))) := by
  refine sx_fn (hs := [.dec true, .nat 8, .call (FV.sc (Value.int IntKind.u32 (fullH a))), .call (FV.sc (Value.int IntKind.u32 (fullH b))), .call (int (cmpI (IntKind.wrap IntKind.u64 (fullH a)) (IntKind.wrap IntKind.u64 (fullH b))))]) ((E (true)) ∧ (E (true)) ∧ (CallsF P G 134 [encV a] (FV.sc (Value.int IntKind.u32 (fullH a)))) ∧ (CallsF P G 134 [encV b] (FV.sc (Value.int IntKind.u32 (fullH b)))) ∧ (CallsF P G 133 [FV.sc (Value.int IntKind.u64 (IntKind.wrap IntKind.u64 (fullH a))), FV.sc (Value.int IntKind.u64 (IntKind.wrap IntKind.u64 (fullH b)))] (int (cmpI (IntKind.wrap IntKind.u64 (fullH a)) (IntKind.wrap IntKind.u64 (fullH b))))) ∧ E (int (cmpI (IntKind.wrap IntKind.u64 (fullH a)) (IntKind.wrap IntKind.u64 (fullH b))))) get106 ent106 (by kernel_rfl) ?_
  refine ⟨rfl, ⟨rfl, ⟨?_, ⟨?_, ⟨?_, rfl⟩⟩⟩⟩⟩
  all_goals first | exact w1 | exact w2 | exact less_ok _ _
theorem first_3 (a b : V) (w1 : CallsF P G 135 [encV a] (.tup [int (countV a 16 1024), int 0])) (w2 : CallsF P G 135 [encV b] (.tup [int (countV b 16 1024), int 0])) : CallsF P G 106 [int 3, encV a, encV b] (int (cmpI (IntKind.u64.wrap (countV a 16 1024)) (IntKind.u64.wrap (countV b 16 1024)))) := by
  refine sx_fn (hs := [.dec false, .dec true, .call (FV.tup [int (countV a 16 1024), int 0]), .call (FV.tup [int (countV b 16 1024), int 0]), .call (int (cmpI (IntKind.wrap IntKind.u64 (countV a 16 1024)) (IntKind.wrap IntKind.u64 (countV b 16 1024))))]) ((E (false)) ∧ (E (true)) ∧ (CallsF P G 135 [encV a] (FV.tup [int (countV a 16 1024), int 0])) ∧ (CallsF P G 135 [encV b] (FV.tup [int (countV b 16 1024), int 0])) ∧ (CallsF P G 133 [FV.sc (Value.int IntKind.u64 (IntKind.wrap IntKind.u64 (countV a 16 1024))), FV.sc (Value.int IntKind.u64 (IntKind.wrap IntKind.u64 (countV b 16 1024)))] (int (cmpI (IntKind.wrap IntKind.u64 (countV a 16 1024)) (IntKind.wrap IntKind.u64 (countV b 16 1024))))) ∧ E (int (cmpI (IntKind.wrap IntKind.u64 (countV a 16 1024)) (IntKind.wrap IntKind.u64 (countV b 16 1024))))) get106 ent106 (by kernel_rfl) ?_
  refine ⟨rfl, ⟨rfl, ⟨?_, ⟨?_, ⟨?_, rfl⟩⟩⟩⟩⟩
  all_goals first | exact w1 | exact w2 | exact less_ok _ _
theorem first_4 (a b : V) (h : a.kind = 3 ∧ b.kind = 3) (w1 : CallsF P G 136 [str a.text] (int (lettersN ⟨a.text.toArray⟩ : Nat))) (w2 : CallsF P G 136 [str b.text] (int (lettersN ⟨b.text.toArray⟩ : Nat))) : CallsF P G 106 [int 4, encV a, encV b] (int (cmpI (IntKind.u64.wrap (lettersN ⟨a.text.toArray⟩ : Nat)) (IntKind.u64.wrap (lettersN ⟨b.text.toArray⟩ : Nat)))) := by
  refine sx_fn (hs := [.dec false, .dec false, .dec true, .br [.br [.nat 10, .call (int (↑(lettersN { data := List.toArray (V.text a) }) : Int)), .call (int (↑(lettersN { data := List.toArray (V.text b) }) : Int)), .call (int (cmpI (IntKind.wrap IntKind.u64 (↑(lettersN { data := List.toArray (V.text a) }) : Int)) (IntKind.wrap IntKind.u64 (↑(lettersN { data := List.toArray (V.text b) }) : Int))))] []] [.dec false]]) ((E (false)) ∧ (E (false)) ∧ (E (true)) ∧ (((V.kind a == 3) = (true)) → ((((V.kind b == 3) = (true)) → ((E (true)) ∧ (CallsF P G 136 [str (V.text a)] (int (↑(lettersN { data := List.toArray (V.text a) }) : Int))) ∧ (CallsF P G 136 [str (V.text b)] (int (↑(lettersN { data := List.toArray (V.text b) }) : Int))) ∧ (CallsF P G 133 [FV.sc (Value.int IntKind.u64 (IntKind.wrap IntKind.u64 (↑(lettersN { data := List.toArray (V.text a) }) : Int))), FV.sc (Value.int IntKind.u64 (IntKind.wrap IntKind.u64 (↑(lettersN { data := List.toArray (V.text b) }) : Int)))] (int (cmpI (IntKind.wrap IntKind.u64 (↑(lettersN { data := List.toArray (V.text a) }) : Int)) (IntKind.wrap IntKind.u64 (↑(lettersN { data := List.toArray (V.text b) }) : Int))))) ∧ E (int (cmpI (IntKind.wrap IntKind.u64 (↑(lettersN { data := List.toArray (V.text a) }) : Int)) (IntKind.wrap IntKind.u64 (↑(lettersN { data := List.toArray (V.text b) }) : Int)))))) ∧ (((V.kind b == 3) = (false)) → ((int 0) = (int (cmpI (IntKind.wrap IntKind.u64 (↑(lettersN { data := List.toArray (V.text a) }) : Int)) (IntKind.wrap IntKind.u64 (↑(lettersN { data := List.toArray (V.text b) }) : Int)))))))) ∧ (((V.kind a == 3) = (false)) → ((E (false)) ∧ (int 0) = (int (cmpI (IntKind.wrap IntKind.u64 (↑(lettersN { data := List.toArray (V.text a) }) : Int)) (IntKind.wrap IntKind.u64 (↑(lettersN { data := List.toArray (V.text b) }) : Int))))))) get106 ent106 (by kernel_rfl) ?_
  refine ⟨rfl, ⟨rfl, ⟨rfl, ⟨fun hi => ⟨fun hi => ⟨rfl, ⟨?_, ⟨?_, ⟨?_, rfl⟩⟩⟩⟩, fun hi => ?_⟩, fun hi => ⟨rfl, ?_⟩⟩⟩⟩⟩
  all_goals first | exact w1 | exact w2 | exact less_ok _ _ | (exfalso; simp_all; done)
theorem first_4n (a b : V) (h : ¬ (a.kind = 3 ∧ b.kind = 3)) : CallsF P G 106 [int 4, encV a, encV b] (int 0) := by
  refine sx_fn (hs := [.dec false, .dec false, .dec true, .br [.br [.nat 10, .call (int (↑(lettersN { data := List.toArray (V.text a) }) : Int)), .call (int (↑(lettersN { data := List.toArray (V.text b) }) : Int)), .call (int (cmpI (IntKind.wrap IntKind.u64 (↑(lettersN { data := List.toArray (V.text a) }) : Int)) (IntKind.wrap IntKind.u64 (↑(lettersN { data := List.toArray (V.text b) }) : Int))))] []] [.dec false]]) ((E (false)) ∧ (E (false)) ∧ (E (true)) ∧ (((V.kind a == 3) = (true)) → ((((V.kind b == 3) = (true)) → ((E (true)) ∧ (CallsF P G 136 [str (V.text a)] (int (↑(lettersN { data := List.toArray (V.text a) }) : Int))) ∧ (CallsF P G 136 [str (V.text b)] (int (↑(lettersN { data := List.toArray (V.text b) }) : Int))) ∧ (CallsF P G 133 [FV.sc (Value.int IntKind.u64 (IntKind.wrap IntKind.u64 (↑(lettersN { data := List.toArray (V.text a) }) : Int))), FV.sc (Value.int IntKind.u64 (IntKind.wrap IntKind.u64 (↑(lettersN { data := List.toArray (V.text b) }) : Int)))] (int (cmpI (IntKind.wrap IntKind.u64 (↑(lettersN { data := List.toArray (V.text a) }) : Int)) (IntKind.wrap IntKind.u64 (↑(lettersN { data := List.toArray (V.text b) }) : Int))))) ∧ (int (cmpI (IntKind.wrap IntKind.u64 (↑(lettersN { data := List.toArray (V.text a) }) : Int)) (IntKind.wrap IntKind.u64 (↑(lettersN { data := List.toArray (V.text b) }) : Int)))) = (int 0))) ∧ (((V.kind b == 3) = (false)) → (E (int 0))))) ∧ (((V.kind a == 3) = (false)) → ((E (false)) ∧ E (int 0)))) get106 ent106 (by kernel_rfl) ?_
  refine ⟨rfl, ⟨rfl, ⟨rfl, ⟨fun hi => ⟨fun hi => ⟨rfl, ⟨?_, ⟨?_, ⟨?_, ?_⟩⟩⟩⟩, fun hi => rfl⟩, fun hi => ⟨rfl, rfl⟩⟩⟩⟩⟩
  all_goals (exfalso; simp_all; done)
theorem first_5 (a b : V) (h : a.kind = 2 ∧ b.kind = 2) : CallsF P G 106 [int 5, encV a, encV b] (int (cmpI (awayI a.num) (awayI b.num))) := by
  refine sx_fn (hs := [.dec false, .dec false, .dec false, .dec true, .br [.br [.nat 8, .call (FV.sc (Value.int IntKind.u64 (awayI (V.num a)))), .call (FV.sc (Value.int IntKind.u64 (awayI (V.num b)))), .call (int (cmpI (awayI (V.num a)) (awayI (V.num b))))] []] [.dec false]]) ((E (false)) ∧ (E (false)) ∧ (E (false)) ∧ (E (true)) ∧ (((V.kind a == 2) = (true)) → ((((V.kind b == 2) = (true)) → ((E (true)) ∧ (CallsF P G 137 [int (V.num a)] (FV.sc (Value.int IntKind.u64 (awayI (V.num a))))) ∧ (CallsF P G 137 [int (V.num b)] (FV.sc (Value.int IntKind.u64 (awayI (V.num b))))) ∧ (CallsF P G 133 [FV.sc (Value.int IntKind.u64 (awayI (V.num a))), FV.sc (Value.int IntKind.u64 (awayI (V.num b)))] (int (cmpI (awayI (V.num a)) (awayI (V.num b))))) ∧ E (int (cmpI (awayI (V.num a)) (awayI (V.num b)))))) ∧ (((V.kind b == 2) = (false)) → ((int 0) = (int (cmpI (awayI (V.num a)) (awayI (V.num b)))))))) ∧ (((V.kind a == 2) = (false)) → ((E (false)) ∧ (int 0) = (int (cmpI (awayI (V.num a)) (awayI (V.num b))))))) get106 ent106 (by kernel_rfl) ?_
  refine ⟨rfl, ⟨rfl, ⟨rfl, ⟨rfl, ⟨fun hi => ⟨fun hi => ⟨rfl, ⟨?_, ⟨?_, ⟨?_, rfl⟩⟩⟩⟩, fun hi => ?_⟩, fun hi => ⟨rfl, ?_⟩⟩⟩⟩⟩⟩
  all_goals first | exact far_ok _ | exact less_ok _ _ | (exfalso; simp_all; done)
theorem first_5n (a b : V) (h : ¬ (a.kind = 2 ∧ b.kind = 2)) : CallsF P G 106 [int 5, encV a, encV b] (int 0) := by
  refine sx_fn (hs := [.dec false, .dec false, .dec false, .dec true, .br [.br [.nat 8, .call (FV.sc (Value.int IntKind.u64 (awayI (V.num a)))), .call (FV.sc (Value.int IntKind.u64 (awayI (V.num b)))), .call (int (cmpI (awayI (V.num a)) (awayI (V.num b))))] []] [.dec false]]) ((E (false)) ∧ (E (false)) ∧ (E (false)) ∧ (E (true)) ∧ (((V.kind a == 2) = (true)) → ((((V.kind b == 2) = (true)) → ((E (true)) ∧ (CallsF P G 137 [int (V.num a)] (FV.sc (Value.int IntKind.u64 (awayI (V.num a))))) ∧ (CallsF P G 137 [int (V.num b)] (FV.sc (Value.int IntKind.u64 (awayI (V.num b))))) ∧ (CallsF P G 133 [FV.sc (Value.int IntKind.u64 (awayI (V.num a))), FV.sc (Value.int IntKind.u64 (awayI (V.num b)))] (int (cmpI (awayI (V.num a)) (awayI (V.num b))))) ∧ (int (cmpI (awayI (V.num a)) (awayI (V.num b)))) = (int 0))) ∧ (((V.kind b == 2) = (false)) → (E (int 0))))) ∧ (((V.kind a == 2) = (false)) → ((E (false)) ∧ E (int 0)))) get106 ent106 (by kernel_rfl) ?_
  refine ⟨rfl, ⟨rfl, ⟨rfl, ⟨rfl, ⟨fun hi => ⟨fun hi => ⟨rfl, ⟨?_, ⟨?_, ⟨?_, ?_⟩⟩⟩⟩, fun hi => rfl⟩, fun hi => ⟨rfl, rfl⟩⟩⟩⟩⟩⟩
  all_goals (exfalso; simp_all; done)
theorem get76 : P.funcs[76]? = some Tryz.f76 := by kernel_rfl
theorem ent76 : entersP P 76 = true := by kernel_rfl
theorem ord_run (o f : Int) (a b : V) (ho : o ≠ 1) (h : CallsF P G 106 [int o, encV a, encV b] (int f)) (hc : CallsF P G 96 [encV a, encV b] (int (cmpV a b))) : CallsF P G 76 [int o, encV a, encV b] (int (orI f (cmpV a b))) := by
  refine sx_fn (hs := [.call (int f), .br [.call (int (cmpV a b)), .br [] []] [.br [] []]]) ((CallsF P G 106 [int o, encV a, encV b] (int f)) ∧ (((f == 0) = (true)) → ((CallsF P G 96 [encV a, encV b] (int (cmpV a b))) ∧ (((o == 1) = (true)) → ((int (IntKind.wrap IntKind.i64 (0 - cmpV a b))) = (int (orI f (cmpV a b))))) ∧ (((o == 1) = (false)) → ((int (cmpV a b)) = (int (orI f (cmpV a b))))))) ∧ (((f == 0) = (false)) → ((((o == 1) = (true)) → ((int (IntKind.wrap IntKind.i64 (0 - f))) = (int (orI f (cmpV a b))))) ∧ (((o == 1) = (false)) → ((int f) = (int (orI f (cmpV a b)))))))) get76 ent76 (by kernel_rfl) ?_
  refine ⟨?_, ⟨fun hi => ⟨?_, ⟨fun hi => ?_, fun hi => ?_⟩⟩, fun hi => ⟨fun hi => ?_, fun hi => ?_⟩⟩⟩
  all_goals first | exact h | exact hc | (exfalso; simp_all; done) | (simp_all [orI]; done)
theorem ord_1 (a b : V) (h : CallsF P G 106 [int 1, encV a, encV b] (int 0)) (hc : CallsF P G 96 [encV a, encV b] (int (cmpV a b))) : CallsF P G 76 [int 1, encV a, encV b] (int (IntKind.i64.wrap (-(cmpV a b)))) := by
  refine sx_fn (hs := [.call (int 0), .dec true, .call (int (cmpV a b)), .dec true]) ((CallsF P G 106 [int 1, encV a, encV b] (int 0)) ∧ (E (true)) ∧ (CallsF P G 96 [encV a, encV b] (int (cmpV a b))) ∧ (E (true)) ∧ (int (IntKind.wrap IntKind.i64 (0 - cmpV a b))) = (int (IntKind.wrap IntKind.i64 (-cmpV a b)))) get76 ent76 (by kernel_rfl) ?_
  refine ⟨?_, ⟨rfl, ⟨?_, ⟨rfl, ?_⟩⟩⟩⟩
  all_goals first | exact h | exact hc | (simp [V.kind, V.num, V.text, V.items, *]; done)
theorem get65 : P.funcs[65]? = some Tryz.f65 := by kernel_rfl
theorem ent65 : entersP P 65 = true := by kernel_rfl
theorem same_run (a b : V) (hc : CallsF P G 96 [encV a, encV b] (int (cmpV a b))) : CallsF P G 65 [encV a, encV b] (bool (cmpV a b == 0)) := by
  refine sx_fn (hs := [.call (int (cmpV a b))]) ((CallsF P G 96 [encV a, encV b] (int (cmpV a b))) ∧ E (bool (cmpV a b == 0))) get65 ent65 (by kernel_rfl) ?_
  refine ⟨?_, rfl⟩
  all_goals exact hc
end Go.Sx
set_option maxRecDepth 100000
set_option maxHeartbeats 4000000
set_option linter.unusedSimpArgs false
set_option linter.unusedVariables false
namespace Go.Sx
open Go.Proofs Sp
theorem wrap_u32 (n : Int) : 0 ≤ IntKind.u32.wrap n ∧ IntKind.u32.wrap n < 4294967296 := by
  simp only [IntKind.wrap, IntKind.signed, IntKind.bits]; simp; omega
theorem wrap_u64 (n : Int) (h : 0 ≤ n ∧ n < 4294967296) : IntKind.u64.wrap n = n := by
  simp only [IntKind.wrap, IntKind.signed, IntKind.bits]; simp; omega
theorem finH_range (h n : Int) : 0 ≤ finH h n ∧ finH h n < 4294967296 := by
  unfold finH fin3 xo32; exact wrap_u32 _
theorem fullH_range (v : V) : 0 ≤ fullH v ∧ fullH v < 4294967296 := by
  cases v with
  | mk k n s l =>
    rw [fullH]
    unfold hashK
    split
    · split <;> omega
    · split
      · unfold longH; split
        · omega
        · exact finH_range _ _
      · split
        · unfold intH; split
          · omega
          · exact finH_range _ _
        · split
          · unfold ordH collH; exact finH_range _ _
          · split
            · unfold unordH collH; exact finH_range _ _
            · split
              · unfold unordH collH; exact finH_range _ _
              · omega
theorem refLetters_ok {v : V} (hv : Fine v) (hr : rightB v = true) (h3 : v.kind = 3) : CallsF P G 136 [str v.text] (int (lettersN ⟨v.text.toArray⟩ : Nat)) := by
  cases v with
  | mk k n s l =>
    simp only [V.kind] at h3
    subst h3
    have h1 : 0 < countV (.mk 3 n s l) 16 1024 := by simpa [rightB] using hr
    have h2 := plain_text (countV_parts 3 n s l 16 1024 h1).1
    obtain ⟨q1, q2⟩ := letters_spec ⟨s.toArray⟩
    exact let_good ⟨s.toArray⟩ (lettersN ⟨s.toArray⟩) (by rw [size_mk]; omega) (fun i hi => ⟨q2 i hi, fun h => (utfB_iff.1 h2.2 i (q2 i hi)) ((bad_refU _ _ (q2 i hi)).2 h)⟩) q1
theorem orI_0 (x : Int) : orI 0 x = x := by simp [orI]
theorem refOrd_ok (o : Int) (ho : 0 ≤ o ∧ o ≤ 5) (a b : V) (ha : Fine a) (hb : Fine b) (hra : rightB a = true) (hrb : rightB b = true) : CallsF P G 76 [int o, encV a, encV b] (int (cmpO o a b)) := by
  have hc := refCompare_ok (g := G) a b ha
  rcases (show o = 0 ∨ o = 1 ∨ o = 2 ∨ o = 3 ∨ o = 4 ∨ o = 5 by omega) with rfl | rfl | rfl | rfl | rfl | rfl
  · have h := ord_run 0 0 a b (by omega) (first_01 0 a b (by omega)) hc
    rw [orI_0] at h
    rw [cmpO_0]; exact h
  · have h := ord_1 a b (first_01 1 a b (by omega)) hc
    have h3 := cmpV_line.three a b trivial trivial
    rw [wrapS _ (by omega) (by omega), ← cmpV_line.turn a b trivial trivial] at h
    rw [cmpO_1]; exact h
  · have h := ord_run 2 _ a b (by omega) (first_2 a b (whole_ok a ha 16 1024 (by omega) (by simpa [rightB] using hra)) (whole_ok b hb 16 1024 (by omega) (by simpa [rightB] using hrb))) hc
    rw [wrap_u64 _ (fullH_range a), wrap_u64 _ (fullH_range b)] at h
    rw [cmpO_2]; exact h
  · have pa := refParts_ok a ha
    have pb := refParts_ok b hb
    rw [hra] at pa; rw [hrb] at pb
    have h := ord_run 3 _ a b (by omega) (first_3 a b pa pb) hc
    have ba := countV_bd a 16 1024
    have bb := countV_bd b 16 1024
    rw [wrap_u64 _ (by omega), wrap_u64 _ (by omega)] at h
    rw [cmpO_3]; exact h
  · rw [cmpO_4]
    unfold runesC
    by_cases h3 : a.kind = 3 ∧ b.kind = 3
    · rw [if_pos h3]
      have h := ord_run 4 _ a b (by omega) (first_4 a b h3 (refLetters_ok ha hra h3.1) (refLetters_ok hb hrb h3.2)) hc
      have la := letters_le ⟨a.text.toArray⟩
      have lb := letters_le ⟨b.text.toArray⟩
      have ta := right_text hra
      have tb := right_text hrb
      rw [size_mk] at la lb
      rw [wrap_u64 _ (by omega), wrap_u64 _ (by omega)] at h
      exact h
    · rw [if_neg h3]
      have h := ord_run 4 0 a b (by omega) (first_4n a b h3) hc
      rw [orI_0] at h
      exact h
  · rw [cmpO_5]
    unfold nearC
    by_cases h2 : a.kind = 2 ∧ b.kind = 2
    · rw [if_pos h2]
      have h := ord_run 5 _ a b (by omega) (first_5 a b h2) hc
      have e : cmpV a b = cmpI a.num b.num := by
        cases a with | mk k n s l => cases b with | mk k' n' s' l' =>
        simp only [V.kind] at h2
        obtain ⟨rfl, rfl⟩ := h2
        simp [cmpV_mk, V.num]
      rw [e] at h
      exact h
    · rw [if_neg h2]
      have h := ord_run 5 0 a b (by omega) (first_5n a b h2) hc
      rw [orI_0] at h
      exact h
theorem same_ok (a b : V) (ha : Fine a) : CallsF P G 65 [encV a, encV b] (bool (cmpV a b == 0)) := same_run a b (refCompare_ok (g := G) a b ha)
end Go.Sx
set_option maxRecDepth 100000
set_option maxHeartbeats 4000000
set_option linter.unusedSimpArgs false
set_option linter.unusedVariables false
namespace Go.Sx
open Go.Proofs Sp
def SRank (o : Int) (L : List (V × V)) (k : V) (i : Nat) : St := { sl := slots 40 [(0, .f (int o)), (1, .f (encPs L)), (5, .loc 0 0), (8, .f (int (i : Int)))], ob := [(0, .box ((cellsP k).map .f))], nx := 1 }
theorem get30 : P.funcs[30]? = some Tryz.f30 := by kernel_rfl
theorem ent30 : entersP P 30 = true := by kernel_rfl
theorem rrank_in (o : Int) (L : List (V × V)) (k : V) (N : Nat) (hl : L.length ≤ 1000000) (hord : ∀ i, i < L.length → CallsF P G 76 [int o, encV (L.getD i default).1, encV k] (int (cmpO o (L.getD i default).1 k))) (h1 : ∀ i, i < N → i < L.length ∧ cmpO o (L.getD i default).1 k < 0) (hN : N < L.length) (h2 : ¬ cmpO o (L.getD N default).1 k < 0) (hs : CallsF P G 65 [encV (L.getD N default).1, encV k] (bool (cmpV (L.getD N default).1 k == 0))) : CallsF P G 30 [int o, encPs L, encV k] (.tup [int (N : Int), bool (cmpV (L.getD N default).1 k == 0)]) := by
  refine sx_fn (hs := [.loop [(0, 0)] [(0, 0)] (SRank o L k) (N) (fun i => [.nat 15, .br [.el (cellsP (Prod.fst (List.getD L i default)) ++ cellsP (Prod.snd (List.getD L i default))), .call (int (cmpO o (Prod.fst (List.getD L i default)) k)), .br [] []] [.dec false]]), .nat 15, .br [.el (cellsP (Prod.fst (List.getD L N default)) ++ cellsP (Prod.snd (List.getD L N default))), .call (int (cmpO o (Prod.fst (List.getD L N default)) k)), .br [] [.nat 16, .dec true, .el (cellsP (Prod.fst (List.getD L N default)) ++ cellsP (Prod.snd (List.getD L N default))), .call (bool (cmpV (Prod.fst (List.getD L N default)) k == 0))]] [.dec false, .nat 16, .dec false]]) (((E (true)) ∧ ((E (AV.f (int o))) ∧ (E (AV.f (FV.sl 8 (cellsPs L)))) ∧ (E (AV.loc 0 0)) ∧ ((AV.f (int 0)) = (AV.f (int (Int.ofNat 0)))) ∧ True) ∧ ((E (Ob.box [AV.f (int (V.kind k)), AV.f (int (V.num k)), AV.f (str (V.text k)), AV.f (encI (V.items k))])) ∧ True) ∧ (E (true)) ∧ (((false) = (true)) → ((false) = (true)))) ∧ (∀ (i : Nat), (i < N) → ((E (true)) ∧ (((decide ((i : Int) < (↑(List.length (cellsPs L)) : Int))) = (true)) → (((E (8)) ∧ ((0 : Int) ≤ (i : Int)) ∧ ((cellsPs L)[i]?) = (some (int (V.kind (Prod.fst (List.getD L i default))) :: int (V.num (Prod.fst (List.getD L i default))) :: str (V.text (Prod.fst (List.getD L i default))) :: encI (V.items (Prod.fst (List.getD L i default))) :: cellsP (Prod.snd (List.getD L i default))))) ∧ (CallsF P G 76 [int o, encV (Prod.fst (List.getD L i default)), encV k] (int (cmpO o (Prod.fst (List.getD L i default)) k))) ∧ (((decide (cmpO o (Prod.fst (List.getD L i default)) k < 0)) = (true)) → ((E (true)) ∧ ((E (AV.f (int o))) ∧ (E (AV.f (FV.sl 8 (cellsPs L)))) ∧ (E (AV.loc 0 0)) ∧ ((AV.f (int (IntKind.wrap IntKind.i64 ((i : Int) + 1)))) = (AV.f (int (↑(i + 1) : Int)))) ∧ True) ∧ ((E (Ob.box [AV.f (int (V.kind k)), AV.f (int (V.num k)), AV.f (str (V.text k)), AV.f (encI (V.items k))])) ∧ True) ∧ (E (true)) ∧ ((St.nd (SRank o L k (i + 1)) = true) → ((false) = (true))))) ∧ (((decide (cmpO o (Prod.fst (List.getD L i default)) k < 0)) = (false)) → (False)))) ∧ (((decide ((i : Int) < (↑(List.length (cellsPs L)) : Int))) = (false)) → ((E (false)) ∧ False)))) ∧ (E (true)) ∧ (((decide ((N : Int) < (↑(List.length (cellsPs L)) : Int))) = (true)) → (((E (8)) ∧ ((0 : Int) ≤ (N : Int)) ∧ ((cellsPs L)[N]?) = (some (int (V.kind (Prod.fst (List.getD L N default))) :: int (V.num (Prod.fst (List.getD L N default))) :: str (V.text (Prod.fst (List.getD L N default))) :: encI (V.items (Prod.fst (List.getD L N default))) :: cellsP (Prod.snd (List.getD L N default))))) ∧ (CallsF P G 76 [int o, encV (Prod.fst (List.getD L N default)), encV k] (int (cmpO o (Prod.fst (List.getD L N default)) k))) ∧ (((decide (cmpO o (Prod.fst (List.getD L N default)) k < 0)) = (true)) → (False)) ∧ (((decide (cmpO o (Prod.fst (List.getD L N default)) k < 0)) = (false)) → ((E (true)) ∧ ((decide ((N : Int) < (↑(List.length (cellsPs L)) : Int))) = (true)) ∧ ((E (8)) ∧ ((0 : Int) ≤ (N : Int)) ∧ ((cellsPs L)[N]?) = (some (int (V.kind (Prod.fst (List.getD L N default))) :: int (V.num (Prod.fst (List.getD L N default))) :: str (V.text (Prod.fst (List.getD L N default))) :: encI (V.items (Prod.fst (List.getD L N default))) :: cellsP (Prod.snd (List.getD L N default))))) ∧ (CallsF P G 65 [encV (Prod.fst (List.getD L N default)), encV k] (bool (cmpV (Prod.fst (List.getD L N default)) k == 0))) ∧ E (FV.tup [int (N : Int), bool (cmpV (Prod.fst (List.getD L N default)) k == 0)]))))) ∧ (((decide ((N : Int) < (↑(List.length (cellsPs L)) : Int))) = (false)) → ((E (false)) ∧ (E (true)) ∧ ((decide ((N : Int) < (↑(List.length (cellsPs L)) : Int))) = (false)) ∧ (FV.tup [int (N : Int), bool false]) = (FV.tup [int (N : Int), bool (cmpV (Prod.fst (List.getD L N default)) k == 0)])))) get30 ent30 (by kernel_rfl) ?_
  refine ⟨⟨rfl, ⟨⟨rfl, ⟨rfl, ⟨rfl, ⟨?_, trivial⟩⟩⟩⟩, ⟨⟨rfl, trivial⟩, ⟨rfl, fun hi => ?_⟩⟩⟩⟩, fun i => fun hlt => ⟨rfl, ⟨fun hi => ⟨⟨rfl, ⟨?_, ?_⟩⟩, ⟨?_, ⟨fun hi => ⟨rfl, ⟨⟨rfl, ⟨rfl, ⟨rfl, ⟨?_, trivial⟩⟩⟩⟩, ⟨⟨rfl, trivial⟩, ⟨rfl, fun hi => ?_⟩⟩⟩⟩, fun hi => ?_⟩⟩⟩, fun hi => ⟨rfl, ?_⟩⟩⟩, ⟨rfl, ⟨fun hi => ⟨⟨rfl, ⟨?_, ?_⟩⟩, ⟨?_, ⟨fun hi => ?_, fun hi => ⟨rfl, ⟨?_, ⟨⟨rfl, ⟨?_, ?_⟩⟩, ⟨?_, rfl⟩⟩⟩⟩⟩⟩⟩, fun hi => ⟨rfl, ⟨rfl, ⟨?_, ?_⟩⟩⟩⟩⟩⟩
  all_goals first | exact hs | exact hord i (h1 i (by assumption)).1 | exact hord N (by omega) | exact cellsPs_get L _ (by omega) | (have h9 := h1 i (by assumption); simp only [cellsPs_length, decide_eq_true_eq, decide_eq_false_iff_not] at *; omega) | (simp only [cellsPs_length, decide_eq_true_eq, decide_eq_false_iff_not] at *; omega) | (exact congrArg (fun x => AV.f (int x)) (wrapS ((i : Int) + 1) (by have h9 := (h1 i (by assumption)).1; omega) (by have h9 := (h1 i (by assumption)).1; omega))) | assumption | (simp [V.kind, V.num, V.text, V.items, *]; done)
theorem rrank_end (o : Int) (L : List (V × V)) (k : V) (N : Nat) (hl : L.length ≤ 1000000) (hord : ∀ i, i < L.length → CallsF P G 76 [int o, encV (L.getD i default).1, encV k] (int (cmpO o (L.getD i default).1 k))) (h1 : ∀ i, i < N → i < L.length ∧ cmpO o (L.getD i default).1 k < 0) (hN : N = L.length) : CallsF P G 30 [int o, encPs L, encV k] (.tup [int (N : Int), bool false]) := by
  refine sx_fn (hs := [.loop [(0, 0)] [(0, 0)] (SRank o L k) (N) (fun i => [.nat 15, .br [.el (cellsP (Prod.fst (List.getD L i default)) ++ cellsP (Prod.snd (List.getD L i default))), .call (int (cmpO o (Prod.fst (List.getD L i default)) k)), .br [] []] [.dec false]]), .nat 15, .br [.el (cellsP (Prod.fst (List.getD L N default)) ++ cellsP (Prod.snd (List.getD L N default))), .call (int (cmpO o (Prod.fst (List.getD L N default)) k)), .br [] [.nat 16, .dec true, .el (cellsP (Prod.fst (List.getD L N default)) ++ cellsP (Prod.snd (List.getD L N default))), .call (bool (cmpV (Prod.fst (List.getD L N default)) k == 0))]] [.dec false, .nat 16, .dec false]]) (((E (true)) ∧ ((E (AV.f (int o))) ∧ (E (AV.f (FV.sl 8 (cellsPs L)))) ∧ (E (AV.loc 0 0)) ∧ ((AV.f (int 0)) = (AV.f (int (Int.ofNat 0)))) ∧ True) ∧ ((E (Ob.box [AV.f (int (V.kind k)), AV.f (int (V.num k)), AV.f (str (V.text k)), AV.f (encI (V.items k))])) ∧ True) ∧ (E (true)) ∧ (((false) = (true)) → ((false) = (true)))) ∧ (∀ (i : Nat), (i < N) → ((E (true)) ∧ (((decide ((i : Int) < (↑(List.length (cellsPs L)) : Int))) = (true)) → (((E (8)) ∧ ((0 : Int) ≤ (i : Int)) ∧ ((cellsPs L)[i]?) = (some (int (V.kind (Prod.fst (List.getD L i default))) :: int (V.num (Prod.fst (List.getD L i default))) :: str (V.text (Prod.fst (List.getD L i default))) :: encI (V.items (Prod.fst (List.getD L i default))) :: cellsP (Prod.snd (List.getD L i default))))) ∧ (CallsF P G 76 [int o, encV (Prod.fst (List.getD L i default)), encV k] (int (cmpO o (Prod.fst (List.getD L i default)) k))) ∧ (((decide (cmpO o (Prod.fst (List.getD L i default)) k < 0)) = (true)) → ((E (true)) ∧ ((E (AV.f (int o))) ∧ (E (AV.f (FV.sl 8 (cellsPs L)))) ∧ (E (AV.loc 0 0)) ∧ ((AV.f (int (IntKind.wrap IntKind.i64 ((i : Int) + 1)))) = (AV.f (int (↑(i + 1) : Int)))) ∧ True) ∧ ((E (Ob.box [AV.f (int (V.kind k)), AV.f (int (V.num k)), AV.f (str (V.text k)), AV.f (encI (V.items k))])) ∧ True) ∧ (E (true)) ∧ ((St.nd (SRank o L k (i + 1)) = true) → ((false) = (true))))) ∧ (((decide (cmpO o (Prod.fst (List.getD L i default)) k < 0)) = (false)) → (False)))) ∧ (((decide ((i : Int) < (↑(List.length (cellsPs L)) : Int))) = (false)) → ((E (false)) ∧ False)))) ∧ (E (true)) ∧ (((decide ((N : Int) < (↑(List.length (cellsPs L)) : Int))) = (true)) → (((E (8)) ∧ ((0 : Int) ≤ (N : Int)) ∧ ((cellsPs L)[N]?) = (some (int (V.kind (Prod.fst (List.getD L N default))) :: int (V.num (Prod.fst (List.getD L N default))) :: str (V.text (Prod.fst (List.getD L N default))) :: encI (V.items (Prod.fst (List.getD L N default))) :: cellsP (Prod.snd (List.getD L N default))))) ∧ (CallsF P G 76 [int o, encV (Prod.fst (List.getD L N default)), encV k] (int (cmpO o (Prod.fst (List.getD L N default)) k))) ∧ (((decide (cmpO o (Prod.fst (List.getD L N default)) k < 0)) = (true)) → (False)) ∧ (((decide (cmpO o (Prod.fst (List.getD L N default)) k < 0)) = (false)) → ((E (true)) ∧ ((decide ((N : Int) < (↑(List.length (cellsPs L)) : Int))) = (true)) ∧ ((E (8)) ∧ ((0 : Int) ≤ (N : Int)) ∧ ((cellsPs L)[N]?) = (some (int (V.kind (Prod.fst (List.getD L N default))) :: int (V.num (Prod.fst (List.getD L N default))) :: str (V.text (Prod.fst (List.getD L N default))) :: encI (V.items (Prod.fst (List.getD L N default))) :: cellsP (Prod.snd (List.getD L N default))))) ∧ (CallsF P G 65 [encV (Prod.fst (List.getD L N default)), encV k] (bool (cmpV (Prod.fst (List.getD L N default)) k == 0))) ∧ (FV.tup [int (N : Int), bool (cmpV (Prod.fst (List.getD L N default)) k == 0)]) = (FV.tup [int (N : Int), bool false]))))) ∧ (((decide ((N : Int) < (↑(List.length (cellsPs L)) : Int))) = (false)) → ((E (false)) ∧ (E (true)) ∧ ((decide ((N : Int) < (↑(List.length (cellsPs L)) : Int))) = (false)) ∧ E (FV.tup [int (N : Int), bool false])))) get30 ent30 (by kernel_rfl) ?_
  refine ⟨⟨rfl, ⟨⟨rfl, ⟨rfl, ⟨rfl, ⟨?_, trivial⟩⟩⟩⟩, ⟨⟨rfl, trivial⟩, ⟨rfl, fun hi => ?_⟩⟩⟩⟩, fun i => fun hlt => ⟨rfl, ⟨fun hi => ⟨⟨rfl, ⟨?_, ?_⟩⟩, ⟨?_, ⟨fun hi => ⟨rfl, ⟨⟨rfl, ⟨rfl, ⟨rfl, ⟨?_, trivial⟩⟩⟩⟩, ⟨⟨rfl, trivial⟩, ⟨rfl, fun hi => ?_⟩⟩⟩⟩, fun hi => ?_⟩⟩⟩, fun hi => ⟨rfl, ?_⟩⟩⟩, ⟨rfl, ⟨fun hi => ⟨⟨rfl, ⟨?_, ?_⟩⟩, ⟨?_, ⟨fun hi => ?_, fun hi => ⟨rfl, ⟨?_, ⟨⟨rfl, ⟨?_, ?_⟩⟩, ⟨?_, ?_⟩⟩⟩⟩⟩⟩⟩, fun hi => ⟨rfl, ⟨rfl, ⟨?_, rfl⟩⟩⟩⟩⟩⟩
  all_goals first | exact hord i (h1 i (by assumption)).1 | exact cellsPs_get L _ (by omega) | (have h9 := h1 i (by assumption); simp only [cellsPs_length, decide_eq_true_eq, decide_eq_false_iff_not] at *; omega) | (simp only [cellsPs_length, decide_eq_true_eq, decide_eq_false_iff_not] at *; omega) | (exact congrArg (fun x => AV.f (int x)) (wrapS ((i : Int) + 1) (by have h9 := (h1 i (by assumption)).1; omega) (by have h9 := (h1 i (by assumption)).1; omega))) | assumption | (simp [V.kind, V.num, V.text, V.items, *]; done)
end Go.Sx
set_option maxRecDepth 100000
set_option maxHeartbeats 4000000
set_option linter.unusedSimpArgs false
set_option linter.unusedVariables false
namespace Go.Sx
open Go.Proofs Sp
theorem get69 : P.funcs[69]? = some Tryz.f69 := by kernel_rfl
theorem ent69 : entersP P 69 = true := by kernel_rfl
theorem rnear_run (L : List (V × V)) (i z : Int) (q : V × V) (h : CallsF P G 99 [encPs L, int i] (.tup [encQ q, int z])) : CallsF P G 69 [encPs L, int i] (.tup [encQ q, bool (z == 0)]) := by
  refine sx_fn (hs := [.call (FV.tup [encQ q, int z])]) ((CallsF P G 99 [FV.sl 8 (cellsPs L), int i] (FV.tup [FV.agg (int (V.kind (Prod.fst q)) :: int (V.num (Prod.fst q)) :: str (V.text (Prod.fst q)) :: encI (V.items (Prod.fst q)) :: cellsP (Prod.snd q)), int z])) ∧ E (FV.tup [FV.agg (int (V.kind (Prod.fst q)) :: int (V.num (Prod.fst q)) :: str (V.text (Prod.fst q)) :: encI (V.items (Prod.fst q)) :: cellsP (Prod.snd q)), bool (z == 0)])) get69 ent69 (by kernel_rfl) ?_
  refine ⟨?_, rfl⟩
  all_goals exact h
theorem near_ok2 (L : List (V × V)) (i : Int) (hl : L.length ≤ 1000000) : CallsF P G 69 [encPs L, int i] (.tup [encQ (atQ L i), bool (inQ L i)]) := by
  have h := rnear_run L i _ _ (rat_ok L hl i)
  rw [show (((if inQ L i then 0 else 5 : Int)) == 0) = inQ L i by cases inQ L i <;> rfl] at h
  exact h
theorem get22 : P.funcs[22]? = some Tryz.f22 := by kernel_rfl
theorem ent22 : entersP P 22 = true := by kernel_rfl
theorem rfl_in (o : Int) (L : List (V × V)) (k : V) (n : Nat) (hl : n < L.length) (h : CallsF P G 68 [encV k] (bool true)) (hr : CallsF P G 30 [int o, encPs L, encV k] (.tup [int (n : Int), bool true])) : CallsF P G 22 [int o, encPs L, encV k, bool true] (.tup [encQ (L.getD n default), bool true, int 0]) := by
  refine sx_fn (hs := [.call (bool true), .dec false, .call (FV.tup [int (n : Int), bool true]), .dec true, .dec true, .el (cellsP (Prod.fst (List.getD L n default)) ++ cellsP (Prod.snd (List.getD L n default)))]) ((CallsF P G 68 [encV k] (bool true)) ∧ (E (false)) ∧ (CallsF P G 30 [int o, FV.sl 8 (cellsPs L), encV k] (FV.tup [int (n : Int), bool true])) ∧ (E (true)) ∧ (E (true)) ∧ ((E (8)) ∧ ((0 : Int) ≤ (n : Int)) ∧ ((cellsPs L)[n]?) = (some (int (V.kind (Prod.fst (List.getD L n default))) :: int (V.num (Prod.fst (List.getD L n default))) :: str (V.text (Prod.fst (List.getD L n default))) :: encI (V.items (Prod.fst (List.getD L n default))) :: cellsP (Prod.snd (List.getD L n default))))) ∧ E (FV.tup [FV.agg (int (V.kind (Prod.fst (List.getD L n default))) :: int (V.num (Prod.fst (List.getD L n default))) :: str (V.text (Prod.fst (List.getD L n default))) :: encI (V.items (Prod.fst (List.getD L n default))) :: cellsP (Prod.snd (List.getD L n default))), bool true, int 0])) get22 ent22 (by kernel_rfl) ?_
  refine ⟨?_, ⟨rfl, ⟨?_, ⟨rfl, ⟨rfl, ⟨⟨rfl, ⟨?_, ?_⟩⟩, rfl⟩⟩⟩⟩⟩⟩
  all_goals first | exact h | exact hr | exact cellsPs_get L _ (by omega) | omega
theorem rfl_n (o : Int) (L : List (V × V)) (k : V) (n : Nat) (q : V × V) (b : Bool) (w : Bool) (h : CallsF P G 68 [encV k] (bool true)) (hr : CallsF P G 30 [int o, encPs L, encV k] (.tup [int (n : Int), bool false])) (hn : CallsF P G 69 [encPs L, int (IntKind.i64.wrap ((n : Int) - 1))] (.tup [encQ q, bool b])) : CallsF P G 22 [int o, encPs L, encV k, bool w] (.tup [encQ q, bool b, int 0]) := by
  refine sx_fn (hs := [.call (bool true), .dec false, .call (FV.tup [int (n : Int), bool false]), .dec false, .dec false, .call (FV.tup [encQ q, bool b])]) ((CallsF P G 68 [encV k] (bool true)) ∧ (E (false)) ∧ (CallsF P G 30 [int o, FV.sl 8 (cellsPs L), encV k] (FV.tup [int (n : Int), bool false])) ∧ (E (false)) ∧ (E (false)) ∧ (CallsF P G 69 [FV.sl 8 (cellsPs L), int (IntKind.wrap IntKind.i64 ((n : Int) - 1))] (FV.tup [FV.agg (int (V.kind (Prod.fst q)) :: int (V.num (Prod.fst q)) :: str (V.text (Prod.fst q)) :: encI (V.items (Prod.fst q)) :: cellsP (Prod.snd q)), bool b])) ∧ E (FV.tup [FV.agg (int (V.kind (Prod.fst q)) :: int (V.num (Prod.fst q)) :: str (V.text (Prod.fst q)) :: encI (V.items (Prod.fst q)) :: cellsP (Prod.snd q)), bool b, int 0])) get22 ent22 (by kernel_rfl) ?_
  refine ⟨?_, ⟨rfl, ⟨?_, ⟨rfl, ⟨rfl, ⟨?_, rfl⟩⟩⟩⟩⟩⟩
  all_goals first | exact h | exact hr | exact hn
theorem rfl_f (o : Int) (L : List (V × V)) (k : V) (n : Nat) (q : V × V) (b : Bool) (h : CallsF P G 68 [encV k] (bool true)) (hr : CallsF P G 30 [int o, encPs L, encV k] (.tup [int (n : Int), bool true])) (hn : CallsF P G 69 [encPs L, int (IntKind.i64.wrap ((n : Int) - 1))] (.tup [encQ q, bool b])) : CallsF P G 22 [int o, encPs L, encV k, bool false] (.tup [encQ q, bool b, int 0]) := by
  refine sx_fn (hs := [.call (bool true), .dec false, .call (FV.tup [int (n : Int), bool true]), .dec true, .dec false, .call (FV.tup [encQ q, bool b])]) ((CallsF P G 68 [encV k] (bool true)) ∧ (E (false)) ∧ (CallsF P G 30 [int o, FV.sl 8 (cellsPs L), encV k] (FV.tup [int (n : Int), bool true])) ∧ (E (true)) ∧ (E (false)) ∧ (CallsF P G 69 [FV.sl 8 (cellsPs L), int (IntKind.wrap IntKind.i64 ((n : Int) - 1))] (FV.tup [FV.agg (int (V.kind (Prod.fst q)) :: int (V.num (Prod.fst q)) :: str (V.text (Prod.fst q)) :: encI (V.items (Prod.fst q)) :: cellsP (Prod.snd q)), bool b])) ∧ E (FV.tup [FV.agg (int (V.kind (Prod.fst q)) :: int (V.num (Prod.fst q)) :: str (V.text (Prod.fst q)) :: encI (V.items (Prod.fst q)) :: cellsP (Prod.snd q)), bool b, int 0])) get22 ent22 (by kernel_rfl) ?_
  refine ⟨?_, ⟨rfl, ⟨?_, ⟨rfl, ⟨rfl, ⟨?_, rfl⟩⟩⟩⟩⟩⟩
  all_goals first | exact h | exact hr | exact hn
theorem get26 : P.funcs[26]? = some Tryz.f26 := by kernel_rfl
theorem ent26 : entersP P 26 = true := by kernel_rfl
theorem rce_n (o : Int) (L : List (V × V)) (k : V) (n : Nat) (q : V × V) (b : Bool) (w : Bool) (h : CallsF P G 68 [encV k] (bool true)) (hr : CallsF P G 30 [int o, encPs L, encV k] (.tup [int (n : Int), bool false])) (hn : CallsF P G 69 [encPs L, int ((n : Int))] (.tup [encQ q, bool b])) : CallsF P G 26 [int o, encPs L, encV k, bool w] (.tup [encQ q, bool b, int 0]) := by
  refine sx_fn (hs := [.call (bool true), .dec false, .call (FV.tup [int (n : Int), bool false]), .dec false, .dec false, .call (FV.tup [encQ q, bool b])]) ((CallsF P G 68 [encV k] (bool true)) ∧ (E (false)) ∧ (CallsF P G 30 [int o, FV.sl 8 (cellsPs L), encV k] (FV.tup [int (n : Int), bool false])) ∧ (E (false)) ∧ (E (false)) ∧ (CallsF P G 69 [FV.sl 8 (cellsPs L), int (n : Int)] (FV.tup [FV.agg (int (V.kind (Prod.fst q)) :: int (V.num (Prod.fst q)) :: str (V.text (Prod.fst q)) :: encI (V.items (Prod.fst q)) :: cellsP (Prod.snd q)), bool b])) ∧ E (FV.tup [FV.agg (int (V.kind (Prod.fst q)) :: int (V.num (Prod.fst q)) :: str (V.text (Prod.fst q)) :: encI (V.items (Prod.fst q)) :: cellsP (Prod.snd q)), bool b, int 0])) get26 ent26 (by kernel_rfl) ?_
  refine ⟨?_, ⟨rfl, ⟨?_, ⟨rfl, ⟨rfl, ⟨?_, rfl⟩⟩⟩⟩⟩⟩
  all_goals first | exact h | exact hr | exact hn
theorem rce_t (o : Int) (L : List (V × V)) (k : V) (n : Nat) (q : V × V) (b : Bool) (h : CallsF P G 68 [encV k] (bool true)) (hr : CallsF P G 30 [int o, encPs L, encV k] (.tup [int (n : Int), bool true])) (hn : CallsF P G 69 [encPs L, int ((n : Int))] (.tup [encQ q, bool b])) : CallsF P G 26 [int o, encPs L, encV k, bool true] (.tup [encQ q, bool b, int 0]) := by
  refine sx_fn (hs := [.call (bool true), .dec false, .call (FV.tup [int (n : Int), bool true]), .dec true, .dec false, .call (FV.tup [encQ q, bool b])]) ((CallsF P G 68 [encV k] (bool true)) ∧ (E (false)) ∧ (CallsF P G 30 [int o, FV.sl 8 (cellsPs L), encV k] (FV.tup [int (n : Int), bool true])) ∧ (E (true)) ∧ (E (false)) ∧ (CallsF P G 69 [FV.sl 8 (cellsPs L), int (n : Int)] (FV.tup [FV.agg (int (V.kind (Prod.fst q)) :: int (V.num (Prod.fst q)) :: str (V.text (Prod.fst q)) :: encI (V.items (Prod.fst q)) :: cellsP (Prod.snd q)), bool b])) ∧ E (FV.tup [FV.agg (int (V.kind (Prod.fst q)) :: int (V.num (Prod.fst q)) :: str (V.text (Prod.fst q)) :: encI (V.items (Prod.fst q)) :: cellsP (Prod.snd q)), bool b, int 0])) get26 ent26 (by kernel_rfl) ?_
  refine ⟨?_, ⟨rfl, ⟨?_, ⟨rfl, ⟨rfl, ⟨?_, rfl⟩⟩⟩⟩⟩⟩
  all_goals first | exact h | exact hr | exact hn
theorem rce_f (o : Int) (L : List (V × V)) (k : V) (n : Nat) (q : V × V) (b : Bool) (h : CallsF P G 68 [encV k] (bool true)) (hr : CallsF P G 30 [int o, encPs L, encV k] (.tup [int (n : Int), bool true])) (hn : CallsF P G 69 [encPs L, int (IntKind.i64.wrap ((n : Int) + 1))] (.tup [encQ q, bool b])) : CallsF P G 26 [int o, encPs L, encV k, bool false] (.tup [encQ q, bool b, int 0]) := by
  refine sx_fn (hs := [.call (bool true), .dec false, .call (FV.tup [int (n : Int), bool true]), .dec true, .dec true, .call (FV.tup [encQ q, bool b])]) ((CallsF P G 68 [encV k] (bool true)) ∧ (E (false)) ∧ (CallsF P G 30 [int o, FV.sl 8 (cellsPs L), encV k] (FV.tup [int (n : Int), bool true])) ∧ (E (true)) ∧ (E (true)) ∧ (CallsF P G 69 [FV.sl 8 (cellsPs L), int (IntKind.wrap IntKind.i64 ((n : Int) + 1))] (FV.tup [FV.agg (int (V.kind (Prod.fst q)) :: int (V.num (Prod.fst q)) :: str (V.text (Prod.fst q)) :: encI (V.items (Prod.fst q)) :: cellsP (Prod.snd q)), bool b])) ∧ E (FV.tup [FV.agg (int (V.kind (Prod.fst q)) :: int (V.num (Prod.fst q)) :: str (V.text (Prod.fst q)) :: encI (V.items (Prod.fst q)) :: cellsP (Prod.snd q)), bool b, int 0])) get26 ent26 (by kernel_rfl) ?_
  refine ⟨?_, ⟨rfl, ⟨?_, ⟨rfl, ⟨rfl, ⟨?_, rfl⟩⟩⟩⟩⟩⟩
  all_goals first | exact h | exact hr | exact hn
theorem rfl_no (o : Int) (L : List (V × V)) (k : V) (w : Bool) (h : CallsF P G 68 [encV k] (bool false)) : CallsF P G 22 [int o, encPs L, encV k, bool w] (.tup [.agg [int 0, int 0, str [], .nils, int 0, int 0, str [], .nils], bool false, int 3]) := by
  refine sx_fn (hs := [.call (bool false), .dec true]) ((CallsF P G 68 [encV k] (bool false)) ∧ (E (true)) ∧ E (FV.tup [FV.agg [int 0, int 0, str [], FV.nils, int 0, int 0, str [], FV.nils], bool false, int 3])) get22 ent22 (by kernel_rfl) ?_
  refine ⟨?_, ⟨rfl, rfl⟩⟩
  all_goals exact h
theorem rce_no (o : Int) (L : List (V × V)) (k : V) (w : Bool) (h : CallsF P G 68 [encV k] (bool false)) : CallsF P G 26 [int o, encPs L, encV k, bool w] (.tup [.agg [int 0, int 0, str [], .nils, int 0, int 0, str [], .nils], bool false, int 3]) := by
  refine sx_fn (hs := [.call (bool false), .dec true]) ((CallsF P G 68 [encV k] (bool false)) ∧ (E (true)) ∧ E (FV.tup [FV.agg [int 0, int 0, str [], FV.nils, int 0, int 0, str [], FV.nils], bool false, int 3])) get26 ent26 (by kernel_rfl) ?_
  refine ⟨?_, ⟨rfl, rfl⟩⟩
  all_goals exact h
noncomputable def thereB (o : Int) (k : V) (L : List (V × V)) : Bool := decide (uptoN (cmpO o) k L = aheadN (cmpO o) k L + 1)
theorem refRank_ok (o : Int) (ho : 0 ≤ o ∧ o ≤ 5) (L : List (V × V)) (k : V) (hl : L.length ≤ 1000000) (hk : Fine k) (hr : rightB k = true) (hp : ∀ p, p ∈ L → RP p) (hR : Rising (cmpO o) L) : CallsF P G 30 [int o, encPs L, encV k] (.tup [int (aheadN (cmpO o) k L : Nat), bool (thereB o k L)]) := by
  obtain ⟨a1, a2, a3⟩ := ahead_place (cmpO_line o) k hR
  obtain ⟨u1, u2, u3⟩ := upto_place (cmpO_line o) k hR
  obtain ⟨w1, w2⟩ := upto_ahead (cmpO_line o) k hR
  have hord : ∀ i, i < L.length → CallsF P G 76 [int o, encV (L.getD i default).1, encV k] (int (cmpO o (L.getD i default).1 k)) := fun i hi => refOrd_ok o ho _ _ (allP hp hi).1 hk (allP hp hi).2.2.1 hr
  have h1 : ∀ i, i < aheadN (cmpO o) k L → i < L.length ∧ cmpO o (L.getD i default).1 k < 0 := fun i hi => ⟨by omega, by have := a2 i hi; simp only [decide_eq_false_iff_not] at this; omega⟩
  rcases Nat.lt_or_ge (aheadN (cmpO o) k L) L.length with hA | hA
  · have h2 := a3 _ (Nat.le_refl _) hA
    simp only [decide_eq_true_eq] at h2
    have hx := allP hp hA
    have h := rrank_in o L k _ hl hord h1 hA (by omega) (same_ok _ _ hx.1)
    have e : (cmpV (L.getD (aheadN (cmpO o) k L) default).1 k == 0) = thereB o k L := by
      unfold thereB
      by_cases h0 : cmpV (L.getD (aheadN (cmpO o) k L) default).1 k = 0
      · have h3 := rightB_same hx.2.2.1 hr h0
        have h4 := upto_self (cmpO_line o) hR hA
        rw [h3] at h4
        rw [h4, beq_iff_eq.2 h0, decide_eq_true rfl]
      · have h3 : ¬ cmpO o (L.getD (aheadN (cmpO o) k L) default).1 k = 0 := fun h3 => h0 (by rw [cmpO_same o hx.2.2.1 hr h3]; exact cmpV_self k)
        have h4 : uptoN (cmpO o) k L ≠ aheadN (cmpO o) k L + 1 := fun h4 => by
          have h5 := u2 (aheadN (cmpO o) k L) (by omega)
          simp only [decide_eq_false_iff_not] at h5
          omega
        rw [beq_eq_false_iff_ne.2 h0, decide_eq_false h4]
    rw [e] at h
    exact h
  · have h := rrank_end o L k _ hl hord h1 (by omega)
    rw [show thereB o k L = false from decide_eq_false (by omega)]
    exact h
theorem refFloor_ok (o : Int) (ho : 0 ≤ o ∧ o ≤ 5) (L : List (V × V)) (k : V) (w : Bool) (hl : L.length ≤ 1000000) (hk : Fine k) (hr : rightB k = true) (hp : ∀ p, p ∈ L → RP p) (hR : Rising (cmpO o) L) : CallsF P G 22 [int o, encPs L, encV k, bool w] (.tup [encQ (atQ L (((if w then uptoN (cmpO o) k L else aheadN (cmpO o) k L : Nat) : Int) - 1)), bool (inQ L (((if w then uptoN (cmpO o) k L else aheadN (cmpO o) k L : Nat) : Int) - 1)), int 0]) := by
  have h := refRank_ok o ho L k hl hk hr hp hR
  have hri := refRight_ok k hk
  rw [hr] at hri
  obtain ⟨u1, _, _⟩ := upto_place (cmpO_line o) k hR
  obtain ⟨w1, w2⟩ := upto_ahead (cmpO_line o) k hR
  have hn := near_ok2 L ((aheadN (cmpO o) k L : Int) - 1) hl
  have hn2 : CallsF P G 69 [encPs L, int (IntKind.i64.wrap ((aheadN (cmpO o) k L : Int) - 1))] (.tup [encQ (atQ L ((aheadN (cmpO o) k L : Int) - 1)), bool (inQ L ((aheadN (cmpO o) k L : Int) - 1))]) := by
    rw [wrapS _ (by omega) (by omega)]; exact hn
  cases ht : thereB o k L with
  | false =>
    rw [ht] at h
    have e : uptoN (cmpO o) k L = aheadN (cmpO o) k L := by have := of_decide_eq_false ht; omega
    rw [e, ite_self]
    exact rfl_n o L k _ _ _ w hri h hn2
  | true =>
    rw [ht] at h
    have e : uptoN (cmpO o) k L = aheadN (cmpO o) k L + 1 := of_decide_eq_true ht
    cases w with
    | false => rw [if_neg (by simp)]; exact rfl_f o L k _ _ _ hri h hn2
    | true =>
      rw [if_pos rfl, e, show (((aheadN (cmpO o) k L + 1 : Nat) : Int) - 1) = (aheadN (cmpO o) k L : Int) from by omega, (inQ_nat (by omega)).1, (inQ_nat (by omega)).2]
      exact rfl_in o L k _ (by omega) hri h
theorem refCeil_ok (o : Int) (ho : 0 ≤ o ∧ o ≤ 5) (L : List (V × V)) (k : V) (w : Bool) (hl : L.length ≤ 1000000) (hk : Fine k) (hr : rightB k = true) (hp : ∀ p, p ∈ L → RP p) (hR : Rising (cmpO o) L) : CallsF P G 26 [int o, encPs L, encV k, bool w] (.tup [encQ (atQ L ((if w then aheadN (cmpO o) k L else uptoN (cmpO o) k L : Nat) : Int)), bool (inQ L ((if w then aheadN (cmpO o) k L else uptoN (cmpO o) k L : Nat) : Int)), int 0]) := by
  have h := refRank_ok o ho L k hl hk hr hp hR
  have hri := refRight_ok k hk
  rw [hr] at hri
  obtain ⟨u1, _, _⟩ := upto_place (cmpO_line o) k hR
  obtain ⟨w1, w2⟩ := upto_ahead (cmpO_line o) k hR
  have hn := near_ok2 L (aheadN (cmpO o) k L : Int) hl
  cases ht : thereB o k L with
  | false =>
    rw [ht] at h
    have e : uptoN (cmpO o) k L = aheadN (cmpO o) k L := by have := of_decide_eq_false ht; omega
    rw [e, ite_self]
    exact rce_n o L k _ _ _ w hri h hn
  | true =>
    rw [ht] at h
    have e : uptoN (cmpO o) k L = aheadN (cmpO o) k L + 1 := of_decide_eq_true ht
    cases w with
    | true => rw [if_pos rfl]; exact rce_t o L k _ _ _ hri h hn
    | false =>
      rw [if_neg (by simp), e]
      have hn3 := near_ok2 L ((aheadN (cmpO o) k L + 1 : Nat) : Int) hl
      refine rce_f o L k _ _ _ hri h ?_
      rw [show IntKind.i64.wrap ((aheadN (cmpO o) k L : Int) + 1) = ((aheadN (cmpO o) k L + 1 : Nat) : Int) from by rw [wrapS _ (by omega) (by omega)]; omega]
      exact hn3
theorem refFloor_not (o : Int) (L : List (V × V)) (k : V) (w : Bool) (hk : Fine k) (hr : rightB k = false) : CallsF P G 22 [int o, encPs L, encV k, bool w] (.tup [encQ noQ, bool false, int 3]) := by
  have hri := refRight_ok k hk
  rw [hr] at hri
  exact (rfl_no o L k w hri).weak (zq_tup _)
theorem refCeil_not (o : Int) (L : List (V × V)) (k : V) (w : Bool) (hk : Fine k) (hr : rightB k = false) : CallsF P G 26 [int o, encPs L, encV k, bool w] (.tup [encQ noQ, bool false, int 3]) := by
  have hri := refRight_ok k hk
  rw [hr] at hri
  exact (rce_no o L k w hri).weak (zq_tup _)
end Go.Sx
set_option maxRecDepth 100000
set_option maxHeartbeats 4000000
set_option linter.unusedSimpArgs false
set_option linter.unusedVariables false
namespace Go.Sx
open Go.Proofs Sp
theorem get4 : P.funcs[4]? = some Tryz.f4 := by kernel_rfl
theorem ent4 : entersP P 4 = true := by kernel_rfl
theorem near_bad (o e : Int) (l : List (V × V)) (k : V) (he : e ≠ 0) (h0 : CallsF P G 9 [int o, encPs l] (.tup [.sc (.pointer none), int e])) (h1 : CallsF P G 19 [] (bool true)) : CallsF P G 4 [int o, encPs l, encV k] (bool true) := by
  refine sx_fn (hs := [.call (FV.tup [FV.sc (Value.pointer none), int e]), .br [.dec true, .call (bool true)] [.dec true]]) ((CallsF P G 9 [int o, FV.sl 8 (cellsPs l)] (FV.tup [FV.sc (Value.pointer none), int e])) ∧ (((e != 0) = (true)) → ((E (true)) ∧ (CallsF P G 19 [] (bool true)) ∧ E (bool true))) ∧ (((e != 0) = (false)) → ((E (true)) ∧ (bool false) = (bool true)))) get4 ent4 (by kernel_rfl) ?_
  refine ⟨?_, ⟨fun hi => ⟨rfl, ⟨?_, rfl⟩⟩, fun hi => ⟨rfl, ?_⟩⟩⟩
  all_goals first | exact h0 | exact h1 | (exfalso; simp_all; done)
theorem near_run (o n z : Int) (t : T) (l L : List (V × V)) (k : V) (q1 q2 q3 q4 : V × V) (b1 b2 b3 b4 : Bool) (qs : List (V × V)) (hqs : qs = [q1, q2, q3, q4]) (h0 : CallsF P G 9 [int o, encPs l] (.tup [encM o n t, int 0])) (h1 : CallsF P G 20 [encM o n t] (encPs L)) (h2 : CallsF P G 21 [encM o n t, encV k] (.tup [encQ q1, bool b1, int z])) (h3 : CallsF P G 22 [int o, encPs L, encV k, bool true] (.tup [encQ q1, bool b1, int z])) (h4 : CallsF P G 24 [encM o n t, encV k] (.tup [encQ q2, bool b2, int z])) (h5 : CallsF P G 22 [int o, encPs L, encV k, bool false] (.tup [encQ q2, bool b2, int z])) (h6 : CallsF P G 25 [encM o n t, encV k] (.tup [encQ q3, bool b3, int z])) (h7 : CallsF P G 26 [int o, encPs L, encV k, bool true] (.tup [encQ q3, bool b3, int z])) (h8 : CallsF P G 27 [encM o n t, encV k] (.tup [encQ q4, bool b4, int z])) (h9 : CallsF P G 26 [int o, encPs L, encV k, bool false] (.tup [encQ q4, bool b4, int z])) (h11 : CallsF P G 19 [] (bool true)) (hPE : ∀ p, p ∈ qs → CallsF P G 23 [encQ p, encQ p] (bool true)) : CallsF P G 4 [int o, encPs l, encV k] (bool true) := by
  refine sx_fn (hs := [.call (FV.tup [encM o n t, int 0]), .dec false, .dec false, .call (encPs L), .call (FV.tup [encQ q1, bool b1, int z]), .call (FV.tup [encQ q1, bool b1, int z]), .call (bool true), .dec false, .br [.dec true] [.br [] [.call (FV.tup [encQ q2, bool b2, int z]), .call (FV.tup [encQ q2, bool b2, int z]), .call (bool true), .dec false, .br [.dec true] [.dec false, .call (FV.tup [encQ q3, bool b3, int z]), .call (FV.tup [encQ q3, bool b3, int z]), .call (bool true), .dec false, .br [.dec true] [.dec false, .call (FV.tup [encQ q4, bool b4, int z]), .call (FV.tup [encQ q4, bool b4, int z]), .call (bool true), .dec true, .br [.br [.call (bool true)] []] [.dec false]]]]]]) ((CallsF P G 9 [int o, FV.sl 8 (cellsPs l)] (FV.tup [encM o n t, int 0])) ∧ (E (false)) ∧ (E (false)) ∧ (CallsF P G 20 [encM o n t] (FV.sl 8 (cellsPs L))) ∧ (CallsF P G 21 [encM o n t, encV k] (FV.tup [FV.agg (int (V.kind (Prod.fst q1)) :: int (V.num (Prod.fst q1)) :: str (V.text (Prod.fst q1)) :: encI (V.items (Prod.fst q1)) :: cellsP (Prod.snd q1)), bool b1, int z])) ∧ (CallsF P G 22 [int o, FV.sl 8 (cellsPs L), encV k, bool true] (FV.tup [FV.agg (int (V.kind (Prod.fst q1)) :: int (V.num (Prod.fst q1)) :: str (V.text (Prod.fst q1)) :: encI (V.items (Prod.fst q1)) :: cellsP (Prod.snd q1)), bool b1, int z])) ∧ (CallsF P G 23 [FV.agg (int (V.kind (Prod.fst q1)) :: int (V.num (Prod.fst q1)) :: str (V.text (Prod.fst q1)) :: encI (V.items (Prod.fst q1)) :: cellsP (Prod.snd q1)), FV.agg (int (V.kind (Prod.fst q1)) :: int (V.num (Prod.fst q1)) :: str (V.text (Prod.fst q1)) :: encI (V.items (Prod.fst q1)) :: cellsP (Prod.snd q1))] (bool true)) ∧ (E (false)) ∧ (((!b1 == b1) = (true)) → ((E (true)) ∧ (bool false) = (bool true))) ∧ (((!b1 == b1) = (false)) → ((((z != z) = (true)) → ((bool false) = (bool true))) ∧ (((z != z) = (false)) → ((CallsF P G 24 [encM o n t, encV k] (FV.tup [FV.agg (int (V.kind (Prod.fst q2)) :: int (V.num (Prod.fst q2)) :: str (V.text (Prod.fst q2)) :: encI (V.items (Prod.fst q2)) :: cellsP (Prod.snd q2)), bool b2, int z])) ∧ (CallsF P G 22 [int o, FV.sl 8 (cellsPs L), encV k, bool false] (FV.tup [FV.agg (int (V.kind (Prod.fst q2)) :: int (V.num (Prod.fst q2)) :: str (V.text (Prod.fst q2)) :: encI (V.items (Prod.fst q2)) :: cellsP (Prod.snd q2)), bool b2, int z])) ∧ (CallsF P G 23 [FV.agg (int (V.kind (Prod.fst q2)) :: int (V.num (Prod.fst q2)) :: str (V.text (Prod.fst q2)) :: encI (V.items (Prod.fst q2)) :: cellsP (Prod.snd q2)), FV.agg (int (V.kind (Prod.fst q2)) :: int (V.num (Prod.fst q2)) :: str (V.text (Prod.fst q2)) :: encI (V.items (Prod.fst q2)) :: cellsP (Prod.snd q2))] (bool true)) ∧ (E (false)) ∧ (((!b2 == b2) = (true)) → ((E (true)) ∧ (bool false) = (bool true))) ∧ (((!b2 == b2) = (false)) → (((z != z) = (false)) ∧ (CallsF P G 25 [encM o n t, encV k] (FV.tup [FV.agg (int (V.kind (Prod.fst q3)) :: int (V.num (Prod.fst q3)) :: str (V.text (Prod.fst q3)) :: encI (V.items (Prod.fst q3)) :: cellsP (Prod.snd q3)), bool b3, int z])) ∧ (CallsF P G 26 [int o, FV.sl 8 (cellsPs L), encV k, bool true] (FV.tup [FV.agg (int (V.kind (Prod.fst q3)) :: int (V.num (Prod.fst q3)) :: str (V.text (Prod.fst q3)) :: encI (V.items (Prod.fst q3)) :: cellsP (Prod.snd q3)), bool b3, int z])) ∧ (CallsF P G 23 [FV.agg (int (V.kind (Prod.fst q3)) :: int (V.num (Prod.fst q3)) :: str (V.text (Prod.fst q3)) :: encI (V.items (Prod.fst q3)) :: cellsP (Prod.snd q3)), FV.agg (int (V.kind (Prod.fst q3)) :: int (V.num (Prod.fst q3)) :: str (V.text (Prod.fst q3)) :: encI (V.items (Prod.fst q3)) :: cellsP (Prod.snd q3))] (bool true)) ∧ (E (false)) ∧ (((!b3 == b3) = (true)) → ((E (true)) ∧ (bool false) = (bool true))) ∧ (((!b3 == b3) = (false)) → (((z != z) = (false)) ∧ (CallsF P G 27 [encM o n t, encV k] (FV.tup [FV.agg (int (V.kind (Prod.fst q4)) :: int (V.num (Prod.fst q4)) :: str (V.text (Prod.fst q4)) :: encI (V.items (Prod.fst q4)) :: cellsP (Prod.snd q4)), bool b4, int z])) ∧ (CallsF P G 26 [int o, FV.sl 8 (cellsPs L), encV k, bool false] (FV.tup [FV.agg (int (V.kind (Prod.fst q4)) :: int (V.num (Prod.fst q4)) :: str (V.text (Prod.fst q4)) :: encI (V.items (Prod.fst q4)) :: cellsP (Prod.snd q4)), bool b4, int z])) ∧ (CallsF P G 23 [FV.agg (int (V.kind (Prod.fst q4)) :: int (V.num (Prod.fst q4)) :: str (V.text (Prod.fst q4)) :: encI (V.items (Prod.fst q4)) :: cellsP (Prod.snd q4)), FV.agg (int (V.kind (Prod.fst q4)) :: int (V.num (Prod.fst q4)) :: str (V.text (Prod.fst q4)) :: encI (V.items (Prod.fst q4)) :: cellsP (Prod.snd q4))] (bool true)) ∧ (E (true)) ∧ (((b4 == b4) = (true)) → ((((z == z) = (true)) → ((CallsF P G 19 [] (bool true)) ∧ E (bool true))) ∧ (((z == z) = (false)) → ((bool false) = (bool true))))) ∧ (((b4 == b4) = (false)) → ((E (false)) ∧ (bool false) = (bool true)))))))))))) get4 ent4 (by kernel_rfl) ?_
  refine ⟨?_, ⟨rfl, ⟨rfl, ⟨?_, ⟨?_, ⟨?_, ⟨?_, ⟨rfl, ⟨fun hi => ⟨rfl, ?_⟩, fun hi => ⟨fun hi => ?_, fun hi => ⟨?_, ⟨?_, ⟨?_, ⟨rfl, ⟨fun hi => ⟨rfl, ?_⟩, fun hi => ⟨?_, ⟨?_, ⟨?_, ⟨?_, ⟨rfl, ⟨fun hi => ⟨rfl, ?_⟩, fun hi => ⟨?_, ⟨?_, ⟨?_, ⟨?_, ⟨rfl, ⟨fun hi => ⟨fun hi => ⟨?_, rfl⟩, fun hi => ?_⟩, fun hi => ⟨rfl, ?_⟩⟩⟩⟩⟩⟩⟩⟩⟩⟩⟩⟩⟩⟩⟩⟩⟩⟩⟩⟩⟩⟩⟩⟩⟩⟩⟩⟩
  all_goals first | exact h0 | exact h1 | exact h2 | exact h3 | exact h4 | exact h5 | exact h6 | exact h7 | exact h8 | exact h9 | exact h11 | (exact hPE _ (by simp_all; done)) | (exfalso; simp_all; done) | (simp_all; done)
theorem get5 : P.funcs[5]? = some Tryz.f5 := by kernel_rfl
theorem ent5 : entersP P 5 = true := by kernel_rfl
theorem rank_bad (o e : Int) (l : List (V × V)) (k : V) (he : e ≠ 0) (h0 : CallsF P G 9 [int o, encPs l] (.tup [.sc (.pointer none), int e])) (h1 : CallsF P G 19 [] (bool true)) : CallsF P G 5 [int o, encPs l, encV k] (bool true) := by
  refine sx_fn (hs := [.call (FV.tup [FV.sc (Value.pointer none), int e]), .br [.dec true, .call (bool true)] [.dec true]]) ((CallsF P G 9 [int o, FV.sl 8 (cellsPs l)] (FV.tup [FV.sc (Value.pointer none), int e])) ∧ (((e != 0) = (true)) → ((E (true)) ∧ (CallsF P G 19 [] (bool true)) ∧ E (bool true))) ∧ (((e != 0) = (false)) → ((E (true)) ∧ (bool false) = (bool true)))) get5 ent5 (by kernel_rfl) ?_
  refine ⟨?_, ⟨fun hi => ⟨rfl, ⟨?_, rfl⟩⟩, fun hi => ⟨rfl, ?_⟩⟩⟩
  all_goals first | exact h0 | exact h1 | (exfalso; simp_all; done)
theorem rank_wrong (o n : Int) (t : T) (l : List (V × V)) (k : V)  (h0 : CallsF P G 9 [int o, encPs l] (.tup [encM o n t, int 0])) (h1 : CallsF P G 28 [encM o n t, encV k] (.tup [int 0, int 3])) (h2 : CallsF P G 29 [encM o n t, encV k] (.tup [.agg [int 0, int 0, str [], .nils], bool false, int 3])) (h3 : CallsF P G 19 [] (bool true)) : CallsF P G 5 [int o, encPs l, encV k] (bool true) := by
  refine sx_fn (hs := [.call (FV.tup [encM o n t, int 0]), .dec false, .dec false, .call (FV.tup [int 0, int 3]), .call (FV.tup [FV.agg [int 0, int 0, str [], FV.nils], bool false, int 3]), .dec false, .dec true, .dec true, .call (bool true)]) ((CallsF P G 9 [int o, FV.sl 8 (cellsPs l)] (FV.tup [encM o n t, int 0])) ∧ (E (false)) ∧ (E (false)) ∧ (CallsF P G 28 [encM o n t, encV k] (FV.tup [int 0, int 3])) ∧ (CallsF P G 29 [encM o n t, encV k] (FV.tup [FV.agg [int 0, int 0, str [], FV.nils], bool false, int 3])) ∧ (E (false)) ∧ (E (true)) ∧ (E (true)) ∧ (CallsF P G 19 [] (bool true)) ∧ E (bool true)) get5 ent5 (by kernel_rfl) ?_
  refine ⟨?_, ⟨rfl, ⟨rfl, ⟨?_, ⟨?_, ⟨rfl, ⟨rfl, ⟨rfl, ⟨?_, rfl⟩⟩⟩⟩⟩⟩⟩⟩⟩
  all_goals first | exact h0 | exact h1 | exact h2 | exact h3
theorem rank_none (o n : Int) (t : T) (l L : List (V × V)) (k v : V) (a : Int) (c : Bool)  (h0 : CallsF P G 9 [int o, encPs l] (.tup [encM o n t, int 0])) (h1 : CallsF P G 20 [encM o n t] (encPs L)) (h2 : CallsF P G 28 [encM o n t, encV k] (.tup [int a, int 0])) (h3 : CallsF P G 29 [encM o n t, encV k] (.tup [.agg [int 0, int 0, str [], .nils], bool false, int 0])) (h4 : CallsF P G 30 [int o, encPs L, encV k] (.tup [int a, bool c])) (h5 : CallsF P G 19 [] (bool true)) : CallsF P G 5 [int o, encPs l, encV k] (bool true) := by
  refine sx_fn (hs := [.call (FV.tup [encM o n t, int 0]), .dec false, .dec false, .call (FV.tup [int a, int 0]), .call (FV.tup [FV.agg [int 0, int 0, str [], FV.nils], bool false, int 0]), .dec false, .dec false, .nat 10, .call (encPs L), .call (FV.tup [int a, bool c]), .br [.call (bool true)] []]) ((CallsF P G 9 [int o, FV.sl 8 (cellsPs l)] (FV.tup [encM o n t, int 0])) ∧ (E (false)) ∧ (E (false)) ∧ (CallsF P G 28 [encM o n t, encV k] (FV.tup [int a, int 0])) ∧ (CallsF P G 29 [encM o n t, encV k] (FV.tup [FV.agg [int 0, int 0, str [], FV.nils], bool false, int 0])) ∧ (E (false)) ∧ (E (false)) ∧ (E (true)) ∧ (CallsF P G 20 [encM o n t] (FV.sl 8 (cellsPs L))) ∧ (CallsF P G 30 [int o, FV.sl 8 (cellsPs L), encV k] (FV.tup [int a, bool c])) ∧ (((a == a) = (true)) → ((CallsF P G 19 [] (bool true)) ∧ E (bool true))) ∧ (((a == a) = (false)) → ((bool false) = (bool true)))) get5 ent5 (by kernel_rfl) ?_
  refine ⟨?_, ⟨rfl, ⟨rfl, ⟨?_, ⟨?_, ⟨rfl, ⟨rfl, ⟨rfl, ⟨?_, ⟨?_, ⟨fun hi => ⟨?_, rfl⟩, fun hi => ?_⟩⟩⟩⟩⟩⟩⟩⟩⟩⟩⟩
  all_goals first | exact h0 | exact h1 | exact h2 | exact h3 | exact h4 | exact h5 | (exfalso; simp_all; done)
theorem rank_some (o n : Int) (t : T) (l L : List (V × V)) (k v : V) (a : Int) (c : Bool)  (h0 : CallsF P G 9 [int o, encPs l] (.tup [encM o n t, int 0])) (h1 : CallsF P G 20 [encM o n t] (encPs L)) (h2 : CallsF P G 28 [encM o n t, encV k] (.tup [int a, int 0])) (h3 : CallsF P G 29 [encM o n t, encV k] (.tup [encV v, bool true, int 0])) (h4 : CallsF P G 30 [int o, encPs L, encV k] (.tup [int a, bool c])) (h5 : CallsF P G 19 [] (bool true)) : CallsF P G 5 [int o, encPs l, encV k] (bool true) := by
  refine sx_fn (hs := [.call (FV.tup [encM o n t, int 0]), .dec false, .dec false, .call (FV.tup [int a, int 0]), .call (FV.tup [encV v, bool true, int 0]), .dec false, .dec false, .nat 10, .call (encPs L), .call (FV.tup [int a, bool c]), .br [.call (bool true)] []]) ((CallsF P G 9 [int o, FV.sl 8 (cellsPs l)] (FV.tup [encM o n t, int 0])) ∧ (E (false)) ∧ (E (false)) ∧ (CallsF P G 28 [encM o n t, encV k] (FV.tup [int a, int 0])) ∧ (CallsF P G 29 [encM o n t, encV k] (FV.tup [encV v, bool true, int 0])) ∧ (E (false)) ∧ (E (false)) ∧ (E (true)) ∧ (CallsF P G 20 [encM o n t] (FV.sl 8 (cellsPs L))) ∧ (CallsF P G 30 [int o, FV.sl 8 (cellsPs L), encV k] (FV.tup [int a, bool c])) ∧ (((a == a) = (true)) → ((CallsF P G 19 [] (bool true)) ∧ E (bool true))) ∧ (((a == a) = (false)) → ((bool false) = (bool true)))) get5 ent5 (by kernel_rfl) ?_
  refine ⟨?_, ⟨rfl, ⟨rfl, ⟨?_, ⟨?_, ⟨rfl, ⟨rfl, ⟨rfl, ⟨?_, ⟨?_, ⟨fun hi => ⟨?_, rfl⟩, fun hi => ?_⟩⟩⟩⟩⟩⟩⟩⟩⟩⟩⟩
  all_goals first | exact h0 | exact h1 | exact h2 | exact h3 | exact h4 | exact h5 | (exfalso; simp_all; done)
theorem find_mem (c : V → V → Int) (k : V) : ∀ (t : T), (T.find c k t).isNil = false → ∃ q, q ∈ t.toList ∧ (T.find c k t).val = q.2
  | .nil, h => by simp [T.find, T.isNil] at h
  | .node b l r xk xv, h => by
    simp only [T.find] at h ⊢
    by_cases h0 : c k xk = 0
    · rw [if_neg (by omega), if_neg (by omega)] at h ⊢
      exact ⟨(xk, xv), by simp [T.toList], rfl⟩
    · by_cases h1 : c k xk < 0
      · rw [if_pos h1] at h ⊢
        obtain ⟨q, hq, hv⟩ := find_mem c k l h
        exact ⟨q, by simp [T.toList, hq], hv⟩
      · rw [if_neg h1, if_pos (by omega)] at h ⊢
        obtain ⟨q, hq, hv⟩ := find_mem c k r h
        exact ⟨q, by simp [T.toList, hq], hv⟩
theorem near_law (o : Int) (l : List (V × V)) (k : V) (hf : ∀ p, p ∈ l → Fine p.1 ∧ Fine p.2) (hk : Fine k) : CallsF P G 4 [int o, encPs l, encV k] (bool true) := by
  rcases of_cases o l hf with ⟨e, he, h⟩ | ⟨ho, hl, hr⟩
  · exact near_bad o e l k he h speaks15
  · obtain ⟨t, hO, hp, hs, hR⟩ := cmpCX o ho l hl hr
    have hf2 : ∀ p, p ∈ t.toList → Fine p.1 ∧ Fine p.2 := fun p h => ⟨(hp p h).1, (hp p h).2.1⟩
    have hP := pairs_ok o (t.size : Int) t hf2 (by omega)
    have hlen := T.toList_length t
    have hQ : ∀ q1 q2 q3 q4 : V × V, (Fine q1.1 ∧ Fine q1.2) → (Fine q2.1 ∧ Fine q2.2) → (Fine q3.1 ∧ Fine q3.2) → (Fine q4.1 ∧ Fine q4.2) → ∀ p, p ∈ [q1, q2, q3, q4] → CallsF P G 23 [encQ p, encQ p] (bool true) := fun q1 q2 q3 q4 h1 h2 h3 h4 p hp2 => by
      refine pairEq_ok p ?_
      simp only [List.mem_cons, List.not_mem_nil, or_false] at hp2
      rcases hp2 with rfl | rfl | rfl | rfl <;> assumption
    have hno : Fine noQ.1 ∧ Fine noQ.2 := ⟨fine_nilW, fine_nilW⟩
    cases hrk : rightB k with
    | false =>
      exact near_run o (t.size : Int) 3 t l t.toList k _ _ _ _ _ _ _ _ _ rfl hO hP (floor_not _ _ _ _ hk hrk) (refFloor_not _ _ _ _ hk hrk) (lower_not _ _ _ _ hk hrk) (refFloor_not _ _ _ _ hk hrk) (ceil_not _ _ _ _ hk hrk) (refCeil_not _ _ _ _ hk hrk) (higher_not _ _ _ _ hk hrk) (refCeil_not _ _ _ _ hk hrk) speaks15 (hQ _ _ _ _ hno hno hno hno)
    | true =>
      obtain ⟨u1, u2⟩ := upto_ahead (cmpO_line o) k hR
      have u3 := (upto_place (cmpO_line o) k hR).1
      exact near_run o (t.size : Int) 0 t l t.toList k _ _ _ _ _ _ _ _ _ rfl hO hP
        (floor_ok o _ t k ho hk hrk hp (by omega) hR (wrapS _ (by omega) (by omega))) (refFloor_ok o ho t.toList k true (by omega) hk hrk hp hR)
        (lower_ok o _ t k ho hk hrk hp (by omega) hR (wrapS _ (by omega) (by omega))) (refFloor_ok o ho t.toList k false (by omega) hk hrk hp hR)
        (ceil_ok o _ t k ho hk hrk hp (by omega) hR) (refCeil_ok o ho t.toList k true (by omega) hk hrk hp hR)
        (higher_ok o _ t k ho hk hrk hp (by omega) hR) (refCeil_ok o ho t.toList k false (by omega) hk hrk hp hR) speaks15 (hQ _ _ _ _ (fine_at hp _) (fine_at hp _) (fine_at hp _) (fine_at hp _))
theorem rank_law (o : Int) (l : List (V × V)) (k : V) (hf : ∀ p, p ∈ l → Fine p.1 ∧ Fine p.2) (hk : Fine k) : CallsF P G 5 [int o, encPs l, encV k] (bool true) := by
  rcases of_cases o l hf with ⟨e, he, h⟩ | ⟨ho, hl, hr⟩
  · exact rank_bad o e l k he h speaks15
  · obtain ⟨t, hO, hp, hs, hR⟩ := cmpCX o ho l hl hr
    have hf2 : ∀ p, p ∈ t.toList → Fine p.1 ∧ Fine p.2 := fun p h => ⟨(hp p h).1, (hp p h).2.1⟩
    have hP := pairs_ok o (t.size : Int) t hf2 (by omega)
    have hlen := T.toList_length t
    cases hrk : rightB k with
    | false => exact rank_wrong o (t.size : Int) t l k hO (rank_not o _ t k hk hrk) (get_bad o _ t k hk hrk) speaks15
    | true =>
      have hRk := rank_ok o (t.size : Int) t k ho hk hrk hp (by omega) hR
      have hRr := refRank_ok o ho t.toList k (by omega) hk hrk hp hR
      have hcmp : ∀ y, y ∈ t.toList.map (·.1) → CallsF P G 79 [encM o (t.size : Int) t, encV k, encV y] (int (cmpO o k y)) := by
        intro y hy
        obtain ⟨q, h1, rfl⟩ := List.mem_map.mp hy
        have h2 := hp q h1
        exact cmpCO o ho _ t k q.1 hk h2.1 hrk h2.2.2.1
      cases hfd : (T.find (cmpO o) k t).isNil with
      | true => exact rank_none o (t.size : Int) t l t.toList k nilW _ _ hO hP hRk (get_none (cmpO o) o _ t k hk hrk hcmp hfd) hRr speaks15
      | false =>
        obtain ⟨q, hq, hv⟩ : ∃ q, q ∈ t.toList ∧ (T.find (cmpO o) k t).val = q.2 := find_mem (cmpO o) k t hfd
        exact rank_some o (t.size : Int) t l t.toList k _ _ _ hO hP hRk (get_some (cmpO o) o _ t k hk hrk hcmp hfd (by rw [hv]; exact (hp q hq).2.1)) hRr speaks15
end Go.Sx

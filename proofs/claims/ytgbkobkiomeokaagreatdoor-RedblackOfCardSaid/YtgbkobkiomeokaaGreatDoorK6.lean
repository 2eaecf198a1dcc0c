/-
  Proved: what some functions of the program answer, or a law of the evaluator that shows it, one theorem each; its conditions are the hypotheses that stand ahead of it.
-/
import Derived.Test.YtgbkobkiomeokaaGreatDoorK4
import Derived.Test.YtgbkobkiomeokaaGreatDoorH9
import Derived.KernelRfl
import Derived.Test.YtgbkobkiomeokaaGreatDoorG2
set_option maxRecDepth 100000
set_option maxHeartbeats 4000000
set_option linter.unusedSimpArgs false
set_option linter.unusedVariables false
namespace Go.Sx
open Go.Proofs Sp
theorem get65 : P.funcs[65]? = some Tryz.f65 := by kernel_rfl
theorem ent65 : entersP P 65 = true := by kernel_rfl
theorem less_ok (a b : Int)  : CallsF P G 65 [.sc (.int .u64 a), .sc (.int .u64 b)] (int (cmpI a b)) := by
  refine sx_fn (hs := [.br [] [.br [] []]]) ((((decide (a < b)) = (true)) → ((int (-1)) = (int (cmpI a b)))) ∧ (((decide (a < b)) = (false)) → ((((decide (a > b)) = (true)) → ((int 1) = (int (cmpI a b)))) ∧ (((decide (a > b)) = (false)) → ((int 0) = (int (cmpI a b))))))) get65 ent65 (by kernel_rfl) ?_
  refine ⟨fun hi => ?_, fun hi => ⟨fun hi => ?_, fun hi => ?_⟩⟩
  all_goals (exact congrArg int (by simp only [decide_eq_true_eq, decide_eq_false_iff_not] at *; unfold cmpI; split <;> (try split) <;> omega))
theorem get69 : P.funcs[69]? = some Tryz.f69 := by kernel_rfl
theorem ent69 : entersP P 69 = true := by kernel_rfl
theorem far_ok (n : Int)  : CallsF P G 69 [int n] (.sc (.int .u64 (awayI n))) := by
  refine sx_fn (hs := [.br [] []]) (let z1 := Value.int IntKind.u64 (awayI n); Br (decide (n < 0)) (FV.sc (Value.int IntKind.u64 (IntKind.wrap IntKind.u64 (0 - IntKind.wrap IntKind.u64 n))) = FV.sc z1) (FV.sc (Value.int IntKind.u64 (IntKind.wrap IntKind.u64 n)) = FV.sc z1)) get69 ent69 (by kernel_rfl) ?_
  refine ⟨fun hi => ?_, fun hi => ?_⟩
  all_goals first | (exact congrArg (fun x => FV.sc (.int .u64 x)) (if_pos (of_decide_eq_true hi)).symm) | (exact congrArg (fun x => FV.sc (.int .u64 x)) (if_neg (of_decide_eq_false hi)).symm)
theorem get41 : P.funcs[41]? = some Tryz.f41 := by kernel_rfl
theorem ent41 : entersP P 41 = true := by kernel_rfl
theorem first_01 (o : Int) (a b : V) (ho : o ≠ 2 ∧ o ≠ 3 ∧ o ≠ 4 ∧ o ≠ 5) : CallsF P G 41 [int o, encV a, encV b] (int 0) := by
  refine sx_fn (hs := [.dec false, .dec false, .dec false, .dec false]) (((o == 2) = (false)) ∧ ((o == 3) = (false)) ∧ ((o == 4) = (false)) ∧ ((o == 5) = (false)) ∧ E (int 0)) get41 ent41 (by kernel_rfl) ?_
  refine ⟨?_, ⟨?_, ⟨?_, ⟨?_, rfl⟩⟩⟩⟩
  all_goals (simp only [beq_eq_false_iff_ne]; omega)
theorem first_2 (a b : V) (w1 : CallsF P G 66 [encV a] (.sc (.int .u32 (fullH a)))) (w2 : CallsF P G 66 [encV b] (.sc (.int .u32 (fullH b)))) : CallsF P G 41 [int 2, encV a, encV b] (int (cmpI (IntKind.u64.wrap (fullH a)) (IntKind.u64.wrap (fullH b)))) := by
  refine sx_fn (hs := [.dec true, .nat 8, .call (FV.sc (Value.int IntKind.u32 (fullH a))), .call (FV.sc (Value.int IntKind.u32 (fullH b))), .call (int (cmpI (IntKind.wrap IntKind.u64 (fullH a)) (IntKind.wrap IntKind.u64 (fullH b))))]) (let z2 := IntKind.wrap IntKind.u64 (fullH a); let z3 := IntKind.wrap IntKind.u64 (fullH b); let z1 := int (cmpI z2 z3); E true ∧ E true ∧ CallsF P G 66 [encV a] (FV.sc (Value.int IntKind.u32 (fullH a))) ∧ CallsF P G 66 [encV b] (FV.sc (Value.int IntKind.u32 (fullH b))) ∧ CallsF P G 65 [FV.sc (Value.int IntKind.u64 z2), FV.sc (Value.int IntKind.u64 z3)] z1 ∧ E z1) get41 ent41 (by kernel_rfl) ?_
  refine ⟨rfl, rfl, ?_, ?_, ?_, rfl⟩
  all_goals first | exact w1 | exact w2 | exact less_ok _ _
theorem first_3 (a b : V) (w1 : CallsF P G 67 [encV a] (.tup [int (countV a 16 1024), int 0])) (w2 : CallsF P G 67 [encV b] (.tup [int (countV b 16 1024), int 0])) : CallsF P G 41 [int 3, encV a, encV b] (int (cmpI (IntKind.u64.wrap (countV a 16 1024)) (IntKind.u64.wrap (countV b 16 1024)))) := by
  refine sx_fn (hs := [.dec false, .dec true, .call (FV.tup [int (countV a 16 1024), int 0]), .call (FV.tup [int (countV b 16 1024), int 0]), .call (int (cmpI (IntKind.wrap IntKind.u64 (countV a 16 1024)) (IntKind.wrap IntKind.u64 (countV b 16 1024))))]) (let z2 := IntKind.wrap IntKind.u64 (countV a 16 1024); let z3 := IntKind.wrap IntKind.u64 (countV b 16 1024); let z1 := int (cmpI z2 z3); E false ∧ E true ∧ CallsF P G 67 [encV a] (FV.tup [int (countV a 16 1024), int 0]) ∧ CallsF P G 67 [encV b] (FV.tup [int (countV b 16 1024), int 0]) ∧ CallsF P G 65 [FV.sc (Value.int IntKind.u64 z2), FV.sc (Value.int IntKind.u64 z3)] z1 ∧ E z1) get41 ent41 (by kernel_rfl) ?_
  refine ⟨rfl, rfl, ?_, ?_, ?_, rfl⟩
  all_goals first | exact w1 | exact w2 | exact less_ok _ _
theorem first_4 (a b : V) (h : a.kind = 3 ∧ b.kind = 3) (w1 : CallsF P G 68 [str a.text] (int (lettersN ⟨a.text.toArray⟩ : Nat))) (w2 : CallsF P G 68 [str b.text] (int (lettersN ⟨b.text.toArray⟩ : Nat))) : CallsF P G 41 [int 4, encV a, encV b] (int (cmpI (IntKind.u64.wrap (lettersN ⟨a.text.toArray⟩ : Nat)) (IntKind.u64.wrap (lettersN ⟨b.text.toArray⟩ : Nat)))) := by
  refine sx_fn (hs := [.dec false, .dec false, .dec true, .br [.br [.nat 10, .call (int (↑(lettersN { data := List.toArray (V.text a) }) : Int)), .call (int (↑(lettersN { data := List.toArray (V.text b) }) : Int)), .call (int (cmpI (IntKind.wrap IntKind.u64 (↑(lettersN { data := List.toArray (V.text a) }) : Int)) (IntKind.wrap IntKind.u64 (↑(lettersN { data := List.toArray (V.text b) }) : Int))))] []] [.dec false]]) (E false ∧ E false ∧ E true ∧ Br (V.kind a == 3) (Br (V.kind b == 3) (E true ∧ CallsF P G 68 [str (V.text a)] (int (↑(lettersN { data := List.toArray (V.text a) }) : Int)) ∧ CallsF P G 68 [str (V.text b)] (int (↑(lettersN { data := List.toArray (V.text b) }) : Int)) ∧ CallsF P G 65 [FV.sc (Value.int IntKind.u64 (IntKind.wrap IntKind.u64 (↑(lettersN { data := List.toArray (V.text a) }) : Int))), FV.sc (Value.int IntKind.u64 (IntKind.wrap IntKind.u64 (↑(lettersN { data := List.toArray (V.text b) }) : Int)))] (int (cmpI (IntKind.wrap IntKind.u64 (↑(lettersN { data := List.toArray (V.text a) }) : Int)) (IntKind.wrap IntKind.u64 (↑(lettersN { data := List.toArray (V.text b) }) : Int)))) ∧ E (int (cmpI (IntKind.wrap IntKind.u64 (↑(lettersN { data := List.toArray (V.text a) }) : Int)) (IntKind.wrap IntKind.u64 (↑(lettersN { data := List.toArray (V.text b) }) : Int))))) (int 0 = int (cmpI (IntKind.wrap IntKind.u64 (↑(lettersN { data := List.toArray (V.text a) }) : Int)) (IntKind.wrap IntKind.u64 (↑(lettersN { data := List.toArray (V.text b) }) : Int))))) (E false ∧ int 0 = int (cmpI (IntKind.wrap IntKind.u64 (↑(lettersN { data := List.toArray (V.text a) }) : Int)) (IntKind.wrap IntKind.u64 (↑(lettersN { data := List.toArray (V.text b) }) : Int))))) get41 ent41 (by kernel_rfl) ?_
  refine ⟨rfl, rfl, rfl, fun hi => ⟨fun hi => ⟨rfl, ?_, ?_, ?_, rfl⟩, fun hi => ?_⟩, fun hi => ⟨rfl, ?_⟩⟩
  all_goals first | exact w1 | exact w2 | exact less_ok _ _ | (exfalso; simp_all; done)
theorem first_4n (a b : V) (h : ¬ (a.kind = 3 ∧ b.kind = 3)) : CallsF P G 41 [int 4, encV a, encV b] (int 0) := by
  refine sx_fn (hs := [.dec false, .dec false, .dec true, .br [.br [.nat 10, .call (int (↑(lettersN { data := List.toArray (V.text a) }) : Int)), .call (int (↑(lettersN { data := List.toArray (V.text b) }) : Int)), .call (int (cmpI (IntKind.wrap IntKind.u64 (↑(lettersN { data := List.toArray (V.text a) }) : Int)) (IntKind.wrap IntKind.u64 (↑(lettersN { data := List.toArray (V.text b) }) : Int))))] []] [.dec false]]) (E false ∧ E false ∧ E true ∧ Br (V.kind a == 3) (Br (V.kind b == 3) (E true ∧ CallsF P G 68 [str (V.text a)] (int (↑(lettersN { data := List.toArray (V.text a) }) : Int)) ∧ CallsF P G 68 [str (V.text b)] (int (↑(lettersN { data := List.toArray (V.text b) }) : Int)) ∧ CallsF P G 65 [FV.sc (Value.int IntKind.u64 (IntKind.wrap IntKind.u64 (↑(lettersN { data := List.toArray (V.text a) }) : Int))), FV.sc (Value.int IntKind.u64 (IntKind.wrap IntKind.u64 (↑(lettersN { data := List.toArray (V.text b) }) : Int)))] (int (cmpI (IntKind.wrap IntKind.u64 (↑(lettersN { data := List.toArray (V.text a) }) : Int)) (IntKind.wrap IntKind.u64 (↑(lettersN { data := List.toArray (V.text b) }) : Int)))) ∧ int (cmpI (IntKind.wrap IntKind.u64 (↑(lettersN { data := List.toArray (V.text a) }) : Int)) (IntKind.wrap IntKind.u64 (↑(lettersN { data := List.toArray (V.text b) }) : Int))) = int 0) (E (int 0))) (E false ∧ E (int 0))) get41 ent41 (by kernel_rfl) ?_
  refine ⟨rfl, rfl, rfl, fun hi => ⟨fun hi => ⟨rfl, ?_, ?_, ?_, ?_⟩, fun hi => rfl⟩, fun hi => ⟨rfl, rfl⟩⟩
  all_goals (exfalso; simp_all; done)
theorem first_5 (a b : V) (h : a.kind = 2 ∧ b.kind = 2) : CallsF P G 41 [int 5, encV a, encV b] (int (cmpI (awayI a.num) (awayI b.num))) := by
  refine sx_fn (hs := [.dec false, .dec false, .dec false, .dec true, .br [.br [.nat 8, .call (FV.sc (Value.int IntKind.u64 (awayI (V.num a)))), .call (FV.sc (Value.int IntKind.u64 (awayI (V.num b)))), .call (int (cmpI (awayI (V.num a)) (awayI (V.num b))))] []] [.dec false]]) (let z1 := cmpI (awayI (V.num a)) (awayI (V.num b)); let z2 := Value.int IntKind.u64 (awayI (V.num a)); let z3 := Value.int IntKind.u64 (awayI (V.num b)); E false ∧ E false ∧ E false ∧ E true ∧ Br (V.kind a == 2) (Br (V.kind b == 2) (E true ∧ CallsF P G 69 [int (V.num a)] (FV.sc z2) ∧ CallsF P G 69 [int (V.num b)] (FV.sc z3) ∧ CallsF P G 65 [FV.sc z2, FV.sc z3] (int z1) ∧ E (int z1)) (int 0 = int z1)) (E false ∧ int 0 = int z1)) get41 ent41 (by kernel_rfl) ?_
  refine ⟨rfl, rfl, rfl, rfl, fun hi => ⟨fun hi => ⟨rfl, ?_, ?_, ?_, rfl⟩, fun hi => ?_⟩, fun hi => ⟨rfl, ?_⟩⟩
  all_goals first | exact far_ok _ | exact less_ok _ _ | (exfalso; simp_all; done)
theorem first_5n (a b : V) (h : ¬ (a.kind = 2 ∧ b.kind = 2)) : CallsF P G 41 [int 5, encV a, encV b] (int 0) := by
  refine sx_fn (hs := [.dec false, .dec false, .dec false, .dec true, .br [.br [.nat 8, .call (FV.sc (Value.int IntKind.u64 (awayI (V.num a)))), .call (FV.sc (Value.int IntKind.u64 (awayI (V.num b)))), .call (int (cmpI (awayI (V.num a)) (awayI (V.num b))))] []] [.dec false]]) (let z1 := cmpI (awayI (V.num a)) (awayI (V.num b)); let z2 := Value.int IntKind.u64 (awayI (V.num a)); let z3 := Value.int IntKind.u64 (awayI (V.num b)); E false ∧ E false ∧ E false ∧ E true ∧ Br (V.kind a == 2) (Br (V.kind b == 2) (E true ∧ CallsF P G 69 [int (V.num a)] (FV.sc z2) ∧ CallsF P G 69 [int (V.num b)] (FV.sc z3) ∧ CallsF P G 65 [FV.sc z2, FV.sc z3] (int z1) ∧ int z1 = int 0) (E (int 0))) (E false ∧ E (int 0))) get41 ent41 (by kernel_rfl) ?_
  refine ⟨rfl, rfl, rfl, rfl, fun hi => ⟨fun hi => ⟨rfl, ?_, ?_, ?_, ?_⟩, fun hi => rfl⟩, fun hi => ⟨rfl, rfl⟩⟩
  all_goals (exfalso; simp_all; done)
theorem get21 : P.funcs[21]? = some Tryz.f21 := by kernel_rfl
theorem ent21 : entersP P 21 = true := by kernel_rfl
theorem ord_run (o f : Int) (a b : V) (ho : o ≠ 1) (h : CallsF P G 41 [int o, encV a, encV b] (int f)) (hc : CallsF P G 42 [encV a, encV b] (int (cmpV a b))) : CallsF P G 21 [int o, encV a, encV b] (int (orI f (cmpV a b))) := by
  refine sx_fn (hs := [.call (int f), .br [.call (int (cmpV a b)), .br [] []] [.br [] []]]) (CallsF P G 41 [int o, encV a, encV b] (int f) ∧ Br (f == 0) (CallsF P G 42 [encV a, encV b] (int (cmpV a b)) ∧ Br (o == 1) (int (IntKind.wrap IntKind.i64 (0 - cmpV a b)) = int (orI f (cmpV a b))) (int (cmpV a b) = int (orI f (cmpV a b)))) (Br (o == 1) (int (IntKind.wrap IntKind.i64 (0 - f)) = int (orI f (cmpV a b))) (int f = int (orI f (cmpV a b))))) get21 ent21 (by kernel_rfl) ?_
  refine ⟨?_, fun hi => ⟨?_, fun hi => ?_, fun hi => ?_⟩, fun hi => ⟨fun hi => ?_, fun hi => ?_⟩⟩
  all_goals first | exact h | exact hc | (exfalso; simp_all; done) | (simp_all [orI]; done)
theorem ord_1 (a b : V) (h : CallsF P G 41 [int 1, encV a, encV b] (int 0)) (hc : CallsF P G 42 [encV a, encV b] (int (cmpV a b))) : CallsF P G 21 [int 1, encV a, encV b] (int (IntKind.i64.wrap (-(cmpV a b)))) := by
  refine sx_fn (hs := [.call (int 0), .dec true, .call (int (cmpV a b)), .dec true]) (CallsF P G 41 [int 1, encV a, encV b] (int 0) ∧ E true ∧ CallsF P G 42 [encV a, encV b] (int (cmpV a b)) ∧ E true ∧ int (IntKind.wrap IntKind.i64 (0 - cmpV a b)) = int (IntKind.wrap IntKind.i64 (-cmpV a b))) get21 ent21 (by kernel_rfl) ?_
  refine ⟨?_, rfl, ?_, rfl, ?_⟩
  all_goals first | exact h | exact hc | (simp [V.kind, V.num, V.text, V.items, *]; done)
end Go.Sx
set_option maxRecDepth 100000
set_option maxHeartbeats 4000000
set_option linter.unusedSimpArgs false
set_option linter.unusedVariables false
namespace Go.Sx
open Go.Proofs Sp
theorem wrap_u32 (n : Int) : 0 ≤ IntKind.u32.wrap n ∧ IntKind.u32.wrap n < 4294967296 := by
  simp only [IntKind.wrap, IntKind.signed, IntKind.bits]; simp; omega
theorem wrap_u64 (n : Int) (h : 0 ≤ n ∧ n < 4294967296) : IntKind.u64.wrap n = n := by
  simp only [IntKind.wrap, IntKind.signed, IntKind.bits]; simp; omega
theorem finH_range (h n : Int) : 0 ≤ finH h n ∧ finH h n < 4294967296 := by
  unfold finH fin3 xo32; exact wrap_u32 _
theorem fullH_range (v : V) : 0 ≤ fullH v ∧ fullH v < 4294967296 := by
  cases v with
  | mk k n s l =>
    rw [fullH]
    unfold hashK
    split
    · split <;> omega
    · split
      · unfold longH; split
        · omega
        · exact finH_range _ _
      · split
        · unfold intH; split
          · omega
          · exact finH_range _ _
        · split
          · unfold ordH collH; exact finH_range _ _
          · split
            · unfold unordH collH; exact finH_range _ _
            · split
              · unfold unordH collH; exact finH_range _ _
              · omega
theorem refLetters_ok {v : V} (hv : Fine v) (hr : rightB v = true) (h3 : v.kind = 3) : CallsF P G 68 [str v.text] (int (lettersN ⟨v.text.toArray⟩ : Nat)) := by
  cases v with
  | mk k n s l =>
    simp only [V.kind] at h3
    subst h3
    have h1 : 0 < countV (.mk 3 n s l) 16 1024 := by simpa [rightB] using hr
    have h2 := plain_text (countV_parts 3 n s l 16 1024 h1).1
    obtain ⟨q1, q2⟩ := letters_spec ⟨s.toArray⟩
    exact let_good ⟨s.toArray⟩ (lettersN ⟨s.toArray⟩) (by rw [size_mk]; omega) (fun i hi => ⟨q2 i hi, fun h => (utfB_iff.1 h2.2 i (q2 i hi)) ((bad_refU _ _ (q2 i hi)).2 h)⟩) q1
theorem orI_0 (x : Int) : orI 0 x = x := by simp [orI]
theorem refOrd_ok (o : Int) (ho : 0 ≤ o ∧ o ≤ 5) (a b : V) (ha : Fine a) (hb : Fine b) (hra : rightB a = true) (hrb : rightB b = true) : CallsF P G 21 [int o, encV a, encV b] (int (cmpO o a b)) := by
  have hc := refCompare_ok (g := G) a b ha
  rcases (show o = 0 ∨ o = 1 ∨ o = 2 ∨ o = 3 ∨ o = 4 ∨ o = 5 by omega) with rfl | rfl | rfl | rfl | rfl | rfl
  · have h := ord_run 0 0 a b (by omega) (first_01 0 a b (by omega)) hc
    rw [orI_0] at h
    rw [cmpO_0]; exact h
  · have h := ord_1 a b (first_01 1 a b (by omega)) hc
    have h3 := cmpV_line.three a b trivial trivial
    rw [wrapS _ (by omega) (by omega), ← cmpV_line.turn a b trivial trivial] at h
    rw [cmpO_1]; exact h
  · have h := ord_run 2 _ a b (by omega) (first_2 a b (whole_ok a ha 16 1024 (by omega) (by simpa [rightB] using hra)) (whole_ok b hb 16 1024 (by omega) (by simpa [rightB] using hrb))) hc
    rw [wrap_u64 _ (fullH_range a), wrap_u64 _ (fullH_range b)] at h
    rw [cmpO_2]; exact h
  · have pa := refParts_ok a ha
    have pb := refParts_ok b hb
    rw [hra] at pa; rw [hrb] at pb
    have h := ord_run 3 _ a b (by omega) (first_3 a b pa pb) hc
    have ba := countV_bd a 16 1024
    have bb := countV_bd b 16 1024
    rw [wrap_u64 _ (by omega), wrap_u64 _ (by omega)] at h
    rw [cmpO_3]; exact h
  · rw [cmpO_4]
    unfold runesC
    by_cases h3 : a.kind = 3 ∧ b.kind = 3
    · rw [if_pos h3]
      have h := ord_run 4 _ a b (by omega) (first_4 a b h3 (refLetters_ok ha hra h3.1) (refLetters_ok hb hrb h3.2)) hc
      have la := letters_le ⟨a.text.toArray⟩
      have lb := letters_le ⟨b.text.toArray⟩
      have ta := right_text hra
      have tb := right_text hrb
      rw [size_mk] at la lb
      rw [wrap_u64 _ (by omega), wrap_u64 _ (by omega)] at h
      exact h
    · rw [if_neg h3]
      have h := ord_run 4 0 a b (by omega) (first_4n a b h3) hc
      rw [orI_0] at h
      exact h
  · rw [cmpO_5]
    unfold nearC
    by_cases h2 : a.kind = 2 ∧ b.kind = 2
    · rw [if_pos h2]
      have h := ord_run 5 _ a b (by omega) (first_5 a b h2) hc
      have e : cmpV a b = cmpI a.num b.num := by
        cases a with | mk k n s l => cases b with | mk k' n' s' l' =>
        simp only [V.kind] at h2
        obtain ⟨rfl, rfl⟩ := h2
        simp [cmpV_mk, V.num]
      rw [e] at h
      exact h
    · rw [if_neg h2]
      have h := ord_run 5 0 a b (by omega) (first_5n a b h2) hc
      rw [orI_0] at h
      exact h
end Go.Sx

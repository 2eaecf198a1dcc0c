/-
  Proved: what some functions of the program answer, or a law of the evaluator that shows it, one theorem each; its conditions are the hypotheses that stand ahead of it.
-/
import Derived.Test.YtgbkobkiomeokaaGreatDoorM5
import Derived.KernelRfl
import Derived.Test.YtgbkobkiomeokaaGreatDoorNL
import Derived.Test.YtgbkobkiomeokaaGreatDoorGY
set_option maxRecDepth 100000
set_option maxHeartbeats 4000000
set_option linter.unusedSimpArgs false
set_option linter.unusedVariables false
namespace Go.Sx
open Go.Proofs Sp
end Go.Sx
set_option maxRecDepth 100000
set_option maxHeartbeats 4000000
set_option linter.unusedSimpArgs false
set_option linter.unusedVariables false
namespace Go.Sx
open Go.Proofs Sp
end Go.Sx
set_option maxRecDepth 100000
set_option maxHeartbeats 4000000
set_option linter.unusedSimpArgs false
set_option linter.unusedVariables false
namespace Go.Sx
open Go.Proofs Sp
theorem halfC (l : List (V × V)) (h : l.length ≤ 1000000) : IntKind.i64.wrap (Int.tdiv ((cellsPs l).length : Int) 2) = ((l.length / 2 : Nat) : Int) := by
  rw [cellsPs_length, show Int.tdiv (l.length : Int) 2 = ((l.length / 2 : Nat) : Int) from by rw [Int.tdiv_eq_ediv_of_nonneg (by omega)]; omega]
  exact wrapS _ (by omega) (by omega)
theorem runB_a {c : V → V → Int} {A B : List (V × V)} {i : Nat} (h : (runB c A B i).2.1 = B.length ∨ ((runB c A B i).1 < A.length ∧ c (A.getD (runB c A B i).1 default).1 (B.getD (runB c A B i).2.1 default).1 < 0)) : runB c A B (i + 1) = ((runB c A B i).1 + 1, (runB c A B i).2.1, (runB c A B i).2.2 ++ [A.getD (runB c A B i).1 default]) := by
  show stepB c A B _ = _; unfold stepB; rw [if_pos h]
theorem runB_e {c : V → V → Int} {A B : List (V × V)} {i : Nat} (h : (runB c A B i).2.1 ≠ B.length ∧ (runB c A B i).1 < A.length ∧ c (A.getD (runB c A B i).1 default).1 (B.getD (runB c A B i).2.1 default).1 = 0) : runB c A B (i + 1) = ((runB c A B i).1 + 1, (runB c A B i).2.1 + 1, (runB c A B i).2.2 ++ [B.getD (runB c A B i).2.1 default]) := by
  show stepB c A B _ = _; unfold stepB; rw [if_neg (by omega), if_pos h.2]
theorem runB_b {c : V → V → Int} {A B : List (V × V)} {i : Nat} (h : (runB c A B i).2.1 ≠ B.length ∧ (A.length ≤ (runB c A B i).1 ∨ 0 < c (A.getD (runB c A B i).1 default).1 (B.getD (runB c A B i).2.1 default).1)) : runB c A B (i + 1) = ((runB c A B i).1, (runB c A B i).2.1 + 1, (runB c A B i).2.2 ++ [B.getD (runB c A B i).2.1 default]) := by
  show stepB c A B _ = _; unfold stepB; rw [if_neg (by omega), if_neg (by omega)]
def Sbld (o : Int) (c : V → V → Int) (A B : List (V × V)) (i : Nat) : St := { sl := slots 134 [(0, .f (int o)), (6, .f (.ptr [int o, encPs A] 0)), (7, .f (.ptr [int o, encPs B] 0)), (8, .loc 0 0), (9, .f (int ((runB c A B i).1 : Int))), (10, .f (int ((runB c A B i).2.1 : Int)))], ob := [(0, .box [.f (int o), .lsl 1]), (1, .row 8 44 (cellsPs (runB c A B i).2.2))], nx := 2 }
theorem get19 : P.funcs[19]? = some Tryz.f19 := by kernel_rfl
theorem ent19 : entersP P 19 = true := by kernel_rfl
theorem bld_0 (o : Int)  : CallsF P G 19 [int o, encPs []] (.ptr [int o, .nils] 0) := by
  refine sx_fn (hs := [.dec true, .ones, .lfz [0]]) ((E (true)) ∧ ((E (true)) ∧ True) ∧ E (FV.ptr [int o, FV.nils] 0)) get19 ent19 (by kernel_rfl) ?_
  exact ⟨rfl, ⟨⟨rfl, trivial⟩, rfl⟩⟩
theorem bld_1 (o : Int) (q : V × V)  : CallsF P G 19 [int o, encPs [q]] (.ptr [int o, encPs [q]] 0) := by
  refine sx_fn (hs := [.dec false, .dec true, .ones, .lfz [1, 2]]) (E false ∧ E true ∧ (oneF ([int (V.kind (Prod.fst q)) :: int (V.num (Prod.fst q)) :: str (V.text (Prod.fst q)) :: encI (V.items (Prod.fst q)) :: cellsP (Prod.snd q)]) ∧ 0 + List.length (cellsPs [q]) ≤ maxLen ∧ (0 + List.length (cellsPs [q])) * 112 ≤ 140737488355328 ∧ E false) ∧ (E true ∧ E true ∧ True) ∧ E (FV.ptr [int o, FV.sl 8 [int (V.kind (Prod.fst q)) :: int (V.num (Prod.fst q)) :: str (V.text (Prod.fst q)) :: encI (V.items (Prod.fst q)) :: cellsP (Prod.snd q)]] 0)) get19 ent19 (by kernel_rfl) ?_
  refine ⟨rfl, rfl, ⟨?_, ?_, ?_, rfl⟩, ⟨rfl, rfl, trivial⟩, rfl⟩
  all_goals first | exact oneF_cellsPs [q] | (simp only [cellsPs_length, List.length_cons, List.length_nil, maxLen]; omega)
theorem bld_m (o : Int) (c : V → V → Int) (l A B : List (V × V)) (N n : Nat) (hn : n = l.length / 2) (hl : 2 ≤ l.length ∧ l.length ≤ 1000000) (hl2 : A.length + B.length ≤ 2000000) (hA : CallsF P G 19 [int o, .sl 8 ((cellsPs l).take n)] (.ptr [int o, encPs A] 0)) (hB : CallsF P G 19 [int o, .sl 8 ((cellsPs l).drop n)] (.ptr [int o, encPs B] 0)) (hord : ∀ i j, i < A.length → j < B.length → CallsF P G 21 [int o, encV (A.getD i default).1, encV (B.getD j default).1] (int (c (A.getD i default).1 (B.getD j default).1))) (h1 : ∀ j, j < N → (runB c A B j).1 < A.length ∨ (runB c A B j).2.1 < B.length) (h2 : ¬ ((runB c A B N).1 < A.length ∨ (runB c A B N).2.1 < B.length)) (hN2 : (runB c A B N).2.2 = mergeL c A B) (hin : ∀ i, i ≤ N → (runB c A B i).1 ≤ A.length ∧ (runB c A B i).2.1 ≤ B.length ∧ i ≤ (runB c A B i).1 + (runB c A B i).2.1 ∧ (runB c A B i).2.2.length = i) : CallsF P G 19 [int o, encPs l] (.ptr [int o, encPs (mergeL c A B)] 0) := by
  refine sx_fn (hs := [.dec false, .dec false, .nat 12, .call (.ptr [int o, encPs A] 0), .call (.ptr [int o, encPs B] 0), .pre [.nrowb 0 1 8 44], .loop [(0,0),(1,1)] [(0,0),(2,1)] (Sbld o c A B) N (fun i => [.br [.dec true, .br [.dec true, .tkn 1 [(12, 4)], .el (cellsP (A.getD (runB c A B i).1 default).1 ++ cellsP (A.getD (runB c A B i).1 default).2)] [.br [.nat 19, .el (cellsP (A.getD (runB c A B i).1 default).1 ++ cellsP (A.getD (runB c A B i).1 default).2), .el (cellsP (B.getD (runB c A B i).2.1 default).1 ++ cellsP (B.getD (runB c A B i).2.1 default).2), .call (int (c (A.getD (runB c A B i).1 default).1 (B.getD (runB c A B i).2.1 default).1)), .br [.tkn 1 [(12, 4)], .el (cellsP (A.getD (runB c A B i).1 default).1 ++ cellsP (A.getD (runB c A B i).1 default).2)] [.br [.tkn 1 [(12, 4)], .el (cellsP (B.getD (runB c A B i).2.1 default).1 ++ cellsP (B.getD (runB c A B i).2.1 default).2)] [.tkn 1 [(12, 4)], .el (cellsP (B.getD (runB c A B i).2.1 default).1 ++ cellsP (B.getD (runB c A B i).2.1 default).2)]]] [.dec false, .dec false, .tkn 1 [(12, 4)], .el (cellsP (B.getD (runB c A B i).2.1 default).1 ++ cellsP (B.getD (runB c A B i).2.1 default).2)]]] [.dec true, .br [.dec true, .tkn 1 [(12, 4)], .el (cellsP (A.getD (runB c A B i).1 default).1 ++ cellsP (A.getD (runB c A B i).1 default).2)] [.br [.nat 19, .el (cellsP (A.getD (runB c A B i).1 default).1 ++ cellsP (A.getD (runB c A B i).1 default).2), .el (cellsP (B.getD (runB c A B i).2.1 default).1 ++ cellsP (B.getD (runB c A B i).2.1 default).2), .call (int (c (A.getD (runB c A B i).1 default).1 (B.getD (runB c A B i).2.1 default).1)), .br [.tkn 1 [(12, 4)], .el (cellsP (A.getD (runB c A B i).1 default).1 ++ cellsP (A.getD (runB c A B i).1 default).2)] [.br [.tkn 1 [(12, 4)], .el (cellsP (B.getD (runB c A B i).2.1 default).1 ++ cellsP (B.getD (runB c A B i).2.1 default).2)] [.tkn 1 [(12, 4)], .el (cellsP (B.getD (runB c A B i).2.1 default).1 ++ cellsP (B.getD (runB c A B i).2.1 default).2)]]] [.dec false, .dec false, .tkn 1 [(12, 4)], .el (cellsP (B.getD (runB c A B i).2.1 default).1 ++ cellsP (B.getD (runB c A B i).2.1 default).2)]]]]), .dec false, .dec false, .lfz [1, 0]]) (let z1 := TypeInfo.size (Tables.types (Program.toTables P))[44]; let z2 := (↑(List.length (cellsPs l)) : Int); let z5 := Ob.box [AV.f (int o), AV.lsl 1]; let z6 := IntKind.wrap IntKind.i64 (Int.tdiv z2 2); let z7 := (↑(List.length (cellsPs A)) : Int); let z8 := (↑(List.length (cellsPs B)) : Int); let z9 := FV.ptr [int o, FV.sl 8 (cellsPs A)] 0; let z3 := AV.f z9; let z10 := FV.ptr [int o, FV.sl 8 (cellsPs B)] 0; let z4 := AV.f z10; (z2 == 0) = false ∧ (z2 == 1) = false ∧ E true ∧ (E 8 ∧ (0 : Int) ≤ 0 ∧ (0 : Int) ≤ Option.getD (some z6) z2 ∧ Option.getD (some z6) z2 ≤ z2) ∧ CallsF P G 19 [int o, FV.sl 8 (List.drop (Int.toNat 0) (List.take (Int.toNat (Option.getD (some z6) z2)) (cellsPs l)))] z9 ∧ (E 8 ∧ (0 : Int) ≤ IntKind.wrap IntKind.i64 (Int.tdiv z2 2) ∧ IntKind.wrap IntKind.i64 (Int.tdiv z2 2) ≤ Option.getD none z2 ∧ Option.getD none z2 ≤ z2) ∧ CallsF P G 19 [int o, FV.sl 8 (List.drop (Int.toNat z6) (List.take (Int.toNat (Option.getD none z2)) (cellsPs l)))] z10 ∧ (E true ∧ (E (AV.f (int o)) ∧ E z3 ∧ E z4 ∧ E (AV.loc 0 0) ∧ AV.f (int 0) = AV.f (int (↑(Prod.fst (runB c A B 0)) : Int)) ∧ AV.f (int 0) = AV.f (int (↑(Prod.fst (Prod.snd (runB c A B 0))) : Int)) ∧ True) ∧ (E z5 ∧ E (Ob.row 8 44 []) ∧ True) ∧ E true ∧ (false = true → false = true)) ∧ (∀ (i : Nat), (let z15 := Prod.snd (runB c A B i); let z25 := Prod.fst (runB c A B i); let z26 := (↑(Prod.fst z15) : Int); let z27 := Prod.snd (runB c A B (i + 1)); let z28 := int (↑(Prod.fst (runB c A B (i + 1))) : Int); let z29 := List.getD B (Prod.fst z15) default; let z20 := Prod.fst z29; let z11 := int (V.kind z20) :: int (V.num z20) :: str (V.text z20) :: encI (V.items z20) :: cellsP (Prod.snd z29); let z19 := E z5 ∧ Ob.row 8 44 (cellsPs (Prod.snd z15) ++ chunk z1 1 z11) = Ob.row 8 44 (cellsPs (Prod.snd z27)) ∧ True; let z21 := E 8 ∧ (0 : Int) ≤ z26 ∧ (cellsPs B)[Prod.fst z15]? = some z11; let z30 := cellsPs (Prod.snd z15); let z13 := oneF ([int (V.kind z20) :: int (V.num z20) :: str (V.text z20) :: encI (V.items z20) :: cellsP (Prod.snd z29)]) ∧ List.length z30 + List.length (chunk 8 1 z11) ≤ maxLen ∧ (List.length z30 + List.length (chunk 8 1 z11)) * 112 ≤ 140737488355328 ∧ E false; let z31 := int (↑(Prod.fst z27) : Int); let z32 := decide ((↑z25 : Int) < z7); let z33 := int (IntKind.wrap IntKind.i64 ((↑z25 : Int) + 1)); let z16 := E (AV.f (int o)) ∧ E z3 ∧ E z4 ∧ E (AV.loc 0 0) ∧ AV.f z33 = AV.f z28 ∧ AV.f (int z26) = AV.f z31 ∧ True; let z34 := List.getD A z25 default; let z18 := Prod.fst z34; let z12 := int (V.kind z18) :: int (V.num z18) :: str (V.text z18) :: encI (V.items z18) :: cellsP (Prod.snd z34); let z14 := oneF ([int (V.kind z18) :: int (V.num z18) :: str (V.text z18) :: encI (V.items z18) :: cellsP (Prod.snd z34)]) ∧ List.length z30 + List.length (chunk 8 1 z12) ≤ maxLen ∧ (List.length z30 + List.length (chunk 8 1 z12)) * 112 ≤ 140737488355328 ∧ E false; let z22 := E 8 ∧ (0 : Int) ≤ (↑z25 : Int) ∧ (cellsPs A)[Prod.fst (runB c A B i)]? = some z12; let z23 := E z5 ∧ Ob.row 8 44 (cellsPs (Prod.snd z15) ++ chunk z1 1 z12) = Ob.row 8 44 (cellsPs (Prod.snd z27)) ∧ True; let z35 := int (IntKind.wrap IntKind.i64 (z26 + 1)); let z17 := E (AV.f (int o)) ∧ E z3 ∧ E z4 ∧ E (AV.loc 0 0) ∧ AV.f (int (↑z25 : Int)) = AV.f z28 ∧ AV.f z35 = AV.f z31 ∧ True; let z24 := E (AV.f (int o)) ∧ E z3 ∧ E z4 ∧ E (AV.loc 0 0) ∧ AV.f z33 = AV.f z28 ∧ AV.f z35 = AV.f z31 ∧ True; i < N → Br z32 (E true ∧ Br (z26 == z8) (E true ∧ E true ∧ z22 ∧ z14 ∧ E true ∧ z16 ∧ z23 ∧ E true ∧ (false = true → false = true)) (Br z32 (E true ∧ z22 ∧ z21 ∧ CallsF P G 21 [int o, encV z18, encV z20] (int (c z18 z20)) ∧ Br (decide (c z18 z20 < 0)) (E true ∧ z22 ∧ z14 ∧ E true ∧ z16 ∧ z23 ∧ E true ∧ (false = true → false = true)) (Br (c z18 z20 == 0) (E true ∧ z21 ∧ z13 ∧ E true ∧ z24 ∧ z19 ∧ E true ∧ (false = true → false = true)) (E true ∧ z21 ∧ z13 ∧ E true ∧ z17 ∧ z19 ∧ E true ∧ (false = true → false = true)))) (E false ∧ E false ∧ E true ∧ z21 ∧ z13 ∧ E true ∧ z17 ∧ z19 ∧ E true ∧ (false = true → false = true)))) (decide (z26 < z8) = true ∧ Br (z26 == z8) (E true ∧ E true ∧ z22 ∧ z14 ∧ E true ∧ z16 ∧ z23 ∧ E true ∧ (false = true → false = true)) (Br z32 (E true ∧ z22 ∧ z21 ∧ CallsF P G 21 [int o, encV z18, encV z20] (int (c z18 z20)) ∧ Br (decide (c z18 z20 < 0)) (E true ∧ z22 ∧ z14 ∧ E true ∧ z16 ∧ z23 ∧ E true ∧ (false = true → false = true)) (Br (c z18 z20 == 0) (E true ∧ z21 ∧ z13 ∧ E true ∧ z24 ∧ z19 ∧ E true ∧ (false = true → false = true)) (E true ∧ z21 ∧ z13 ∧ E true ∧ z17 ∧ z19 ∧ E true ∧ (false = true → false = true)))) (E false ∧ E false ∧ E true ∧ z21 ∧ z13 ∧ E true ∧ z17 ∧ z19 ∧ E true ∧ (false = true → false = true)))))) ∧ decide ((↑(Prod.fst (runB c A B N)) : Int) < z7) = false ∧ decide ((↑(Prod.fst (Prod.snd (runB c A B N))) : Int) < z8) = false ∧ FV.ptr [int o, FV.sl 8 (cellsPs (Prod.snd (Prod.snd (runB c A B N))))] 0 = FV.ptr [int o, FV.sl 8 (cellsPs (mergeL c A B))] 0) get19 ent19 (by kernel_rfl) ?_
  refine ⟨?_, ?_, rfl, ⟨rfl, ?_, ?_, ?_⟩, ?_, ⟨rfl, ?_, ?_, ?_⟩, ?_, ⟨rfl, ⟨rfl, rfl, rfl, rfl, ?_, ?_, trivial⟩, ⟨rfl, rfl, trivial⟩, rfl, fun hi => ?_⟩, fun i => fun hi => ⟨fun hi => ⟨rfl, fun hi => ⟨rfl, rfl, ⟨rfl, ?_, ?_⟩, ⟨?_, ?_, ?_, rfl⟩, rfl, ⟨rfl, rfl, rfl, rfl, ?_, ?_, trivial⟩, ⟨rfl, ?_, trivial⟩, rfl, fun hi => ?_⟩, fun hi => ⟨fun hi => ⟨rfl, ⟨rfl, ?_, ?_⟩, ⟨rfl, ?_, ?_⟩, ?_, fun hi => ⟨rfl, ⟨rfl, ?_, ?_⟩, ⟨?_, ?_, ?_, rfl⟩, rfl, ⟨rfl, rfl, rfl, rfl, ?_, ?_, trivial⟩, ⟨rfl, ?_, trivial⟩, rfl, fun hi => ?_⟩, fun hi => ⟨fun hi => ⟨rfl, ⟨rfl, ?_, ?_⟩, ⟨?_, ?_, ?_, rfl⟩, rfl, ⟨rfl, rfl, rfl, rfl, ?_, ?_, trivial⟩, ⟨rfl, ?_, trivial⟩, rfl, fun hi => ?_⟩, fun hi => ⟨rfl, ⟨rfl, ?_, ?_⟩, ⟨?_, ?_, ?_, rfl⟩, rfl, ⟨rfl, rfl, rfl, rfl, ?_, ?_, trivial⟩, ⟨rfl, ?_, trivial⟩, rfl, fun hi => ?_⟩⟩⟩, fun hi => ⟨rfl, rfl, rfl, ⟨rfl, ?_, ?_⟩, ⟨?_, ?_, ?_, rfl⟩, rfl, ⟨rfl, rfl, rfl, rfl, ?_, ?_, trivial⟩, ⟨rfl, ?_, trivial⟩, rfl, fun hi => ?_⟩⟩⟩, fun hi => ⟨?_, fun hi => ⟨rfl, rfl, ⟨rfl, ?_, ?_⟩, ⟨?_, ?_, ?_, rfl⟩, rfl, ⟨rfl, rfl, rfl, rfl, ?_, ?_, trivial⟩, ⟨rfl, ?_, trivial⟩, rfl, fun hi => ?_⟩, fun hi => ⟨fun hi => ⟨rfl, ⟨rfl, ?_, ?_⟩, ⟨rfl, ?_, ?_⟩, ?_, fun hi => ⟨rfl, ⟨rfl, ?_, ?_⟩, ⟨?_, ?_, ?_, rfl⟩, rfl, ⟨rfl, rfl, rfl, rfl, ?_, ?_, trivial⟩, ⟨rfl, ?_, trivial⟩, rfl, fun hi => ?_⟩, fun hi => ⟨fun hi => ⟨rfl, ⟨rfl, ?_, ?_⟩, ⟨?_, ?_, ?_, rfl⟩, rfl, ⟨rfl, rfl, rfl, rfl, ?_, ?_, trivial⟩, ⟨rfl, ?_, trivial⟩, rfl, fun hi => ?_⟩, fun hi => ⟨rfl, ⟨rfl, ?_, ?_⟩, ⟨?_, ?_, ?_, rfl⟩, rfl, ⟨rfl, rfl, rfl, rfl, ?_, ?_, trivial⟩, ⟨rfl, ?_, trivial⟩, rfl, fun hi => ?_⟩⟩⟩, fun hi => ⟨rfl, rfl, rfl, ⟨rfl, ?_, ?_⟩, ⟨?_, ?_, ?_, rfl⟩, rfl, ⟨rfl, rfl, rfl, rfl, ?_, ?_, trivial⟩, ⟨rfl, ?_, trivial⟩, rfl, fun hi => ?_⟩⟩⟩⟩, ?_, ?_, ?_⟩
  all_goals first | (simp only [cellsPs_length, decide_eq_true_eq, decide_eq_false_iff_not, beq_iff_eq, beq_eq_false_iff_ne] at *; omega) | (have q1 := hin i (by omega); have q2 := h1 i (by assumption); simp only [cellsPs_length, decide_eq_true_eq, decide_eq_false_iff_not, beq_iff_eq, beq_eq_false_iff_ne] at *; omega) | (exact cellsPs_get A _ (by have q1 := hin i (by omega); have q2 := h1 i (by assumption); simp only [cellsPs_length, decide_eq_true_eq, decide_eq_false_iff_not, beq_iff_eq, beq_eq_false_iff_ne] at *; omega)) | (exact cellsPs_get B _ (by have q1 := hin i (by omega); have q2 := h1 i (by assumption); simp only [cellsPs_length, decide_eq_true_eq, decide_eq_false_iff_not, beq_iff_eq, beq_eq_false_iff_ne] at *; omega)) | (exact hord _ _ (by have q1 := hin i (by omega); have q2 := h1 i (by assumption); simp only [cellsPs_length, decide_eq_true_eq, decide_eq_false_iff_not, beq_iff_eq, beq_eq_false_iff_ne] at *; omega) (by have q1 := hin i (by omega); have q2 := h1 i (by assumption); simp only [cellsPs_length, decide_eq_true_eq, decide_eq_false_iff_not, beq_iff_eq, beq_eq_false_iff_ne] at *; omega)) | (have q1 := hin i (by omega); have q2 := h1 i (by assumption); rw [runB_a (c := c) (A := A) (B := B) (i := i) (by simp only [cellsPs_length, decide_eq_true_eq, decide_eq_false_iff_not, beq_iff_eq, beq_eq_false_iff_ne] at *; omega)]; first | rfl | done | exact congrArg (fun x => AV.f (int x)) (wrapS (((runB c A B i).1 : Nat) + 1 : Int) (by omega) (by omega))) | (have q1 := hin i (by omega); have q2 := h1 i (by assumption); rw [runB_a (c := c) (A := A) (B := B) (i := i) (by simp only [cellsPs_length, decide_eq_true_eq, decide_eq_false_iff_not, beq_iff_eq, beq_eq_false_iff_ne] at *; omega)]; exact (congrArg (Ob.row 8 44) (cellsPs_app _ [_])).symm) | (have q1 := hin i (by omega); have q2 := h1 i (by assumption); rw [runB_e (c := c) (A := A) (B := B) (i := i) (by simp only [cellsPs_length, decide_eq_true_eq, decide_eq_false_iff_not, beq_iff_eq, beq_eq_false_iff_ne] at *; omega)]; first | rfl | done | exact congrArg (fun x => AV.f (int x)) (wrapS (((runB c A B i).1 : Nat) + 1 : Int) (by omega) (by omega))) | (have q1 := hin i (by omega); have q2 := h1 i (by assumption); rw [runB_e (c := c) (A := A) (B := B) (i := i) (by simp only [cellsPs_length, decide_eq_true_eq, decide_eq_false_iff_not, beq_iff_eq, beq_eq_false_iff_ne] at *; omega)]; first | rfl | done | exact congrArg (fun x => AV.f (int x)) (wrapS (((runB c A B i).2.1 : Nat) + 1 : Int) (by omega) (by omega))) | (have q1 := hin i (by omega); have q2 := h1 i (by assumption); rw [runB_e (c := c) (A := A) (B := B) (i := i) (by simp only [cellsPs_length, decide_eq_true_eq, decide_eq_false_iff_not, beq_iff_eq, beq_eq_false_iff_ne] at *; omega)]; exact (congrArg (Ob.row 8 44) (cellsPs_app _ [_])).symm) | (have q1 := hin i (by omega); have q2 := h1 i (by assumption); rw [runB_b (c := c) (A := A) (B := B) (i := i) (by simp only [cellsPs_length, decide_eq_true_eq, decide_eq_false_iff_not, beq_iff_eq, beq_eq_false_iff_ne] at *; omega)]; first | rfl | done | exact congrArg (fun x => AV.f (int x)) (wrapS (((runB c A B i).1 : Nat) + 1 : Int) (by omega) (by omega))) | (have q1 := hin i (by omega); have q2 := h1 i (by assumption); rw [runB_b (c := c) (A := A) (B := B) (i := i) (by simp only [cellsPs_length, decide_eq_true_eq, decide_eq_false_iff_not, beq_iff_eq, beq_eq_false_iff_ne] at *; omega)]; first | rfl | done | exact congrArg (fun x => AV.f (int x)) (wrapS (((runB c A B i).2.1 : Nat) + 1 : Int) (by omega) (by omega))) | (have q1 := hin i (by omega); have q2 := h1 i (by assumption); rw [runB_b (c := c) (A := A) (B := B) (i := i) (by simp only [cellsPs_length, decide_eq_true_eq, decide_eq_false_iff_not, beq_iff_eq, beq_eq_false_iff_ne] at *; omega)]; exact (congrArg (Ob.row 8 44) (cellsPs_app _ [_])).symm) | (have q1 := hin i (by omega); have q2 := h1 i (by assumption); simp only [cellsPs_length, chunk, List.length_append, List.length_cons, List.length_nil, maxLen]; omega) | exact oneF_cellsPs [_] | (rw [hN2]; done) | (rw [Option.getD_some, halfC l (by omega), Int.toNat_natCast, show Int.toNat 0 = 0 from rfl, List.drop_zero, ← hn]; exact hA) | (rw [Option.getD_none, halfC l (by omega), Int.toNat_natCast, Int.toNat_natCast, List.take_length, ← hn]; exact hB) | (show (0 : Int) ≤ IntKind.i64.wrap _; rw [halfC l (by omega)]; omega) | (show IntKind.i64.wrap _ ≤ _; rw [halfC l (by omega)]; (try show ((l.length / 2 : Nat) : Int) ≤ (((cellsPs l).length : Nat) : Int)); rw [cellsPs_length]; omega) | assumption | omega | (simp [V.kind, V.num, V.text, V.items, *]; done) | rfl
end Go.Sx
set_option maxRecDepth 100000
set_option maxHeartbeats 4000000
set_option linter.unusedSimpArgs false
set_option linter.unusedVariables false
namespace Go.Sx
open Go.Proofs Sp
def Spd (l : List (V × V)) (i : Nat) : St := { sl := slots 25 [(8, .f (encPs l)), (9, .f (int (cellsPs l).length)), (10, .f (int (i : Int)))], ob := [], nx := 0 }
theorem get18 : P.funcs[18]? = some Tryz.f18 := by kernel_rfl
theorem ent18 : entersP P 18 = true := by kernel_rfl
theorem paired_long (l : List (V × V)) (h : 65536 < l.length) : CallsF P G 18 [encPs l] (int 2) := by
  refine sx_fn (hs := [.br [] []]) ((((decide ((↑(List.length (cellsPs l)) : Int) > 65536)) = (true)) → (E (int 2))) ∧ (((decide ((↑(List.length (cellsPs l)) : Int) > 65536)) = (false)) → (False))) get18 ent18 (by kernel_rfl) ?_
  refine ⟨fun hi => rfl, fun hi => ?_⟩
  all_goals (exfalso; simp only [cellsPs_length, decide_eq_true_eq, decide_eq_false_iff_not] at *; omega)
theorem paired_all (l : List (V × V)) (N : Nat) (hl : l.length ≤ 65536) (hN : N ≤ l.length) (hf : ∀ p, p ∈ l → Fine p.1 ∧ Fine p.2) (hk : ∀ i, i < N → rightB (l.getD i default).1 = true ∧ rightB (l.getD i default).2 = true) (h3 : N = l.length) : CallsF P G 18 [encPs l] (int 0) := by
  refine sx_fn (hs := let z1 := List.getD l N default; [.br [] [.loop [] [] (Spd l) (N) (fun i => [.br [.el (cellsP (Prod.fst (List.getD l i default)) ++ cellsP (Prod.snd (List.getD l i default))), .call (bool (rightB (Prod.fst (List.getD l i default)))), .br [.dec true] [.call (bool (rightB (Prod.snd (List.getD l i default)))), .br [] []]] []]), .br [.el (cellsP (Prod.fst z1) ++ cellsP (Prod.snd z1)), .call (bool (rightB (Prod.fst z1))), .br [.dec true] [.call (bool (rightB (Prod.snd z1))), .br [] []]] []]]) (let z1 := List.getD l N default; let z2 := (↑(List.length (cellsPs l)) : Int); Br (decide (z2 > 65536)) (int 2 = int 0) ((E true ∧ (E (AV.f (FV.sl 8 (cellsPs l))) ∧ E (AV.f (int z2)) ∧ AV.f (int 0) = AV.f (int (Int.ofNat 0)) ∧ True) ∧ True ∧ E true ∧ (false = true → false = true)) ∧ (∀ (i : Nat), (let z3 := List.getD l i default; i < N → Br (decide ((i : Int) < z2)) ((E 8 ∧ (0 : Int) ≤ (i : Int) ∧ (cellsPs l)[i]? = some (int (V.kind (Prod.fst z3)) :: int (V.num (Prod.fst z3)) :: str (V.text (Prod.fst z3)) :: encI (V.items (Prod.fst z3)) :: cellsP (Prod.snd z3))) ∧ CallsF P G 39 [encV (Prod.fst z3)] (bool (rightB (Prod.fst z3))) ∧ Br (!rightB (Prod.fst z3)) (E true ∧ False) (CallsF P G 39 [encV (Prod.snd z3)] (bool (rightB (Prod.snd z3))) ∧ Br (!rightB (Prod.snd z3)) False (E true ∧ (E (AV.f (FV.sl 8 (cellsPs l))) ∧ E (AV.f (int z2)) ∧ AV.f (int (IntKind.wrap IntKind.i64 ((i : Int) + 1))) = AV.f (int (↑(i + 1) : Int)) ∧ True) ∧ True ∧ E true ∧ (St.nd (Spd l (i + 1)) = true → false = true)))) False)) ∧ Br (decide ((N : Int) < z2)) ((E 8 ∧ (0 : Int) ≤ (N : Int) ∧ (cellsPs l)[N]? = some (int (V.kind (Prod.fst z1)) :: int (V.num (Prod.fst z1)) :: str (V.text (Prod.fst z1)) :: encI (V.items (Prod.fst z1)) :: cellsP (Prod.snd z1))) ∧ CallsF P G 39 [encV (Prod.fst z1)] (bool (rightB (Prod.fst z1))) ∧ Br (!rightB (Prod.fst z1)) (E true ∧ int 3 = int 0) (CallsF P G 39 [encV (Prod.snd z1)] (bool (rightB (Prod.snd z1))) ∧ Br (!rightB (Prod.snd z1)) (int 3 = int 0) False)) (E (int 0)))) get18 ent18 (by kernel_rfl) ?_
  refine ⟨fun hi => ?_, fun hi => ⟨⟨rfl, ⟨rfl, rfl, ?_, trivial⟩, trivial, rfl, fun hi => ?_⟩, fun i => fun hlt => ⟨fun hi => ⟨⟨rfl, ?_, ?_⟩, ?_, fun hi => ⟨rfl, ?_⟩, fun hi => ⟨?_, fun hi => ?_, fun hi => ⟨rfl, ⟨rfl, rfl, ?_, trivial⟩, trivial, rfl, fun hi => ?_⟩⟩⟩, fun hi => ?_⟩, fun hi => ⟨⟨rfl, ?_, ?_⟩, ?_, fun hi => ⟨rfl, ?_⟩, fun hi => ⟨?_, fun hi => ?_, fun hi => ?_⟩⟩, fun hi => rfl⟩⟩
  all_goals first | (simp only [cellsPs_length, decide_eq_true_eq, decide_eq_false_iff_not] at *; omega) | exact cellsPs_get l _ (by omega) | exact refRight_ok _ (fineP hf (by omega)).1 | exact refRight_ok _ (fineP hf (by omega)).2 | (exact congrArg (fun x => AV.f (int x)) (wrapS ((i : Int) + 1) (by omega) (by omega))) | (exfalso; have h8 := hk i hlt; simp_all; done) | (simp_all; done) | assumption
theorem paired_not (l : List (V × V)) (N : Nat) (hl : l.length ≤ 65536) (hN : N ≤ l.length) (hf : ∀ p, p ∈ l → Fine p.1 ∧ Fine p.2) (hk : ∀ i, i < N → rightB (l.getD i default).1 = true ∧ rightB (l.getD i default).2 = true) (h3 : N < l.length) (h4 : ¬ (rightB (l.getD N default).1 = true ∧ rightB (l.getD N default).2 = true)) : CallsF P G 18 [encPs l] (int 3) := by
  refine sx_fn (hs := let z1 := List.getD l N default; [.br [] [.loop [] [] (Spd l) (N) (fun i => [.br [.el (cellsP (Prod.fst (List.getD l i default)) ++ cellsP (Prod.snd (List.getD l i default))), .call (bool (rightB (Prod.fst (List.getD l i default)))), .br [.dec true] [.call (bool (rightB (Prod.snd (List.getD l i default)))), .br [] []]] []]), .br [.el (cellsP (Prod.fst z1) ++ cellsP (Prod.snd z1)), .call (bool (rightB (Prod.fst z1))), .br [.dec true] [.call (bool (rightB (Prod.snd z1))), .br [] []]] []]]) (let z1 := List.getD l N default; let z2 := (↑(List.length (cellsPs l)) : Int); Br (decide (z2 > 65536)) (int 2 = int 3) ((E true ∧ (E (AV.f (FV.sl 8 (cellsPs l))) ∧ E (AV.f (int z2)) ∧ AV.f (int 0) = AV.f (int (Int.ofNat 0)) ∧ True) ∧ True ∧ E true ∧ (false = true → false = true)) ∧ (∀ (i : Nat), (let z3 := List.getD l i default; i < N → Br (decide ((i : Int) < z2)) ((E 8 ∧ (0 : Int) ≤ (i : Int) ∧ (cellsPs l)[i]? = some (int (V.kind (Prod.fst z3)) :: int (V.num (Prod.fst z3)) :: str (V.text (Prod.fst z3)) :: encI (V.items (Prod.fst z3)) :: cellsP (Prod.snd z3))) ∧ CallsF P G 39 [encV (Prod.fst z3)] (bool (rightB (Prod.fst z3))) ∧ Br (!rightB (Prod.fst z3)) (E true ∧ False) (CallsF P G 39 [encV (Prod.snd z3)] (bool (rightB (Prod.snd z3))) ∧ Br (!rightB (Prod.snd z3)) False (E true ∧ (E (AV.f (FV.sl 8 (cellsPs l))) ∧ E (AV.f (int z2)) ∧ AV.f (int (IntKind.wrap IntKind.i64 ((i : Int) + 1))) = AV.f (int (↑(i + 1) : Int)) ∧ True) ∧ True ∧ E true ∧ (St.nd (Spd l (i + 1)) = true → false = true)))) False)) ∧ Br (decide ((N : Int) < z2)) ((E 8 ∧ (0 : Int) ≤ (N : Int) ∧ (cellsPs l)[N]? = some (int (V.kind (Prod.fst z1)) :: int (V.num (Prod.fst z1)) :: str (V.text (Prod.fst z1)) :: encI (V.items (Prod.fst z1)) :: cellsP (Prod.snd z1))) ∧ CallsF P G 39 [encV (Prod.fst z1)] (bool (rightB (Prod.fst z1))) ∧ Br (!rightB (Prod.fst z1)) (E true ∧ E (int 3)) (CallsF P G 39 [encV (Prod.snd z1)] (bool (rightB (Prod.snd z1))) ∧ Br (!rightB (Prod.snd z1)) (E (int 3)) False)) (int 0 = int 3))) get18 ent18 (by kernel_rfl) ?_
  refine ⟨fun hi => ?_, fun hi => ⟨⟨rfl, ⟨rfl, rfl, ?_, trivial⟩, trivial, rfl, fun hi => ?_⟩, fun i => fun hlt => ⟨fun hi => ⟨⟨rfl, ?_, ?_⟩, ?_, fun hi => ⟨rfl, ?_⟩, fun hi => ⟨?_, fun hi => ?_, fun hi => ⟨rfl, ⟨rfl, rfl, ?_, trivial⟩, trivial, rfl, fun hi => ?_⟩⟩⟩, fun hi => ?_⟩, fun hi => ⟨⟨rfl, ?_, ?_⟩, ?_, fun hi => ⟨rfl, rfl⟩, fun hi => ⟨?_, fun hi => rfl, fun hi => ?_⟩⟩, fun hi => ?_⟩⟩
  all_goals first | (simp only [cellsPs_length, decide_eq_true_eq, decide_eq_false_iff_not] at *; omega) | exact cellsPs_get l _ (by omega) | exact refRight_ok _ (fineP hf (by omega)).1 | exact refRight_ok _ (fineP hf (by omega)).2 | (exact congrArg (fun x => AV.f (int x)) (wrapS ((i : Int) + 1) (by omega) (by omega))) | (exfalso; have h8 := hk i hlt; simp_all; done) | (exfalso; simp_all; done) | (simp_all; done) | assumption
theorem get5 : P.funcs[5]? = some Tryz.f5 := by kernel_rfl
theorem ent5 : entersP P 5 = true := by kernel_rfl
theorem rof_kind (o : Int) (l : List (V × V)) (h : CallsF P G 17 [int o] (bool false)) : CallsF P G 5 [int o, encPs l] (.tup [.sc (.pointer none), int 4]) := by
  refine sx_fn (hs := [.call (bool false), .dec true]) ((CallsF P G 17 [int o] (bool false)) ∧ (E (true)) ∧ E (FV.tup [FV.sc (Value.pointer none), int 4])) get5 ent5 (by kernel_rfl) ?_
  refine ⟨?_, ⟨rfl, rfl⟩⟩
  all_goals exact h
theorem rof_bad (o e : Int) (l : List (V × V)) (he : e ≠ 0) (h : CallsF P G 17 [int o] (bool true)) (h2 : CallsF P G 18 [encPs l] (int e)) : CallsF P G 5 [int o, encPs l] (.tup [.sc (.pointer none), int e]) := by
  refine sx_fn (hs := [.call (bool true), .dec false, .call (int e), .dec true]) ((CallsF P G 17 [int o] (bool true)) ∧ (E (false)) ∧ (CallsF P G 18 [FV.sl 8 (cellsPs l)] (int e)) ∧ ((e != 0) = (true)) ∧ E (FV.tup [FV.sc (Value.pointer none), int e])) get5 ent5 (by kernel_rfl) ?_
  refine ⟨?_, ⟨rfl, ⟨?_, ⟨?_, rfl⟩⟩⟩⟩
  all_goals first | exact h | exact h2 | (simp_all; done)
theorem rof_run (o : Int) (l L : List (V × V)) (h : CallsF P G 17 [int o] (bool true)) (h2 : CallsF P G 18 [encPs l] (int 0)) (h3 : CallsF P G 19 [int o, encPs l] (.ptr [int o, encPs L] 0)) : CallsF P G 5 [int o, encPs l] (.tup [.ptr [int o, encPs L] 0, int 0]) := by
  refine sx_fn (hs := [.call (bool true), .dec false, .call (int 0), .dec false, .call (FV.ptr [int o, encPs L] 0)]) (CallsF P G 17 [int o] (bool true) ∧ E false ∧ CallsF P G 18 [FV.sl 8 (cellsPs l)] (int 0) ∧ E false ∧ CallsF P G 19 [int o, FV.sl 8 (cellsPs l)] (FV.ptr [int o, FV.sl 8 (cellsPs L)] 0) ∧ E (FV.tup [FV.ptr [int o, FV.sl 8 (cellsPs L)] 0, int 0])) get5 ent5 (by kernel_rfl) ?_
  refine ⟨?_, rfl, ?_, rfl, ?_, rfl⟩
  all_goals first | exact h | exact h2 | exact h3
end Go.Sx
set_option maxRecDepth 100000
set_option maxHeartbeats 4000000
set_option linter.unusedSimpArgs false
set_option linter.unusedVariables false
namespace Go.Sx
open Go.Proofs Sp
end Go.Sx
set_option maxRecDepth 100000
set_option maxHeartbeats 4000000
set_option linter.unusedSimpArgs false
set_option linter.unusedVariables false
namespace Go.Sx
open Go.Proofs Sp
theorem foldL_sub (c : V → V → Int) : ∀ (l A : List (V × V)) (q : V × V), q ∈ foldL c A l → q ∈ A ∨ q ∈ l
  | [], A, q, h => .inl h
  | x :: l, A, q, h => by
    rcases foldL_sub c l (insL c A x) q h with h | h
    · unfold insL at h
      rcases List.mem_append.1 h with h | h
      · exact .inl (List.mem_of_mem_take h)
      · rcases List.mem_cons.1 h with rfl | h
        · exact .inr (by simp)
        · exact .inl (List.mem_of_mem_drop h)
    · exact .inr (by simp [h])
theorem foldL_len {c : V → V → Int} (H : Line c (fun _ => True)) : ∀ (l A : List (V × V)), Rising c A → (foldL c A l).length ≤ A.length + l.length ∧ A.length ≤ (foldL c A l).length
  | [], A, _ => by simp [foldL]
  | x :: l, A, h => by
    obtain ⟨w1, w2⟩ := upto_ahead H x.1 h
    have u1 := (upto_place H x.1 h).1
    have e : (insL c A x).length = aheadN c x.1 A + 1 + (A.length - uptoN c x.1 A) := by
      unfold insL
      rw [List.length_append, List.length_take, List.length_cons, List.length_drop]
      omega
    obtain ⟨h1, h2⟩ := foldL_len H l (insL c A x) (mem_ins H x A h).2
    have e2 : foldL c A (x :: l) = foldL c (insL c A x) l := rfl
    rw [e2, List.length_cons]
    omega
theorem build_ok (o : Int) (ho : 0 ≤ o ∧ o ≤ 5) : ∀ (f : Nat) (l : List (V × V)), l.length ≤ f → l.length ≤ 1000000 → (∀ q, q ∈ l → RP q) → CallsF P G 19 [int o, encPs l] (.ptr [int o, encPs (foldL (cmpO o) [] l)] 0)
  | _, [], _, _, _ => (bld_0 o).le (le_map o)
  | _, [q], _, _, _ => by
    have h := bld_1 o q
    rw [show foldL (cmpO o) [] [q] = [q] from ins_nil _ q]
    exact h
  | 0, x :: y :: l, h, _, _ => by simp at h
  | f + 1, x :: y :: l, h, hl, hR => by
    have hln : (x :: y :: l).length = l.length + 2 := by simp
    generalize hL : x :: y :: l = L at *
    have h1 := build_ok o ho f (L.take (L.length / 2)) (by rw [List.length_take]; omega) (by rw [List.length_take]; omega) fun q hq => hR q (List.mem_of_mem_take hq)
    have h2 := build_ok o ho f (L.drop (L.length / 2)) (by rw [List.length_drop]; omega) (by rw [List.length_drop]; omega) fun q hq => hR q (List.mem_of_mem_drop hq)
    have hA := fold_rising (cmpO_line o) (L.take (L.length / 2)) [] (rising_nil _)
    have hB := fold_rising (cmpO_line o) (L.drop (L.length / 2)) [] (rising_nil _)
    have lA := (foldL_len (cmpO_line o) (L.take (L.length / 2)) [] (rising_nil _)).1
    have lB := (foldL_len (cmpO_line o) (L.drop (L.length / 2)) [] (rising_nil _)).1
    have mA : ∀ q, q ∈ foldL (cmpO o) [] (L.take (L.length / 2)) → RP q := fun q hq => by
      rcases foldL_sub _ _ _ q hq with h | h
      · simp at h
      · exact hR q (List.mem_of_mem_take h)
    have mB : ∀ q, q ∈ foldL (cmpO o) [] (L.drop (L.length / 2)) → RP q := fun q hq => by
      rcases foldL_sub _ _ _ q hq with h | h
      · simp at h
      · exact hR q (List.mem_of_mem_drop h)
    have e := fold_app (cmpO_line o) (L.take (L.length / 2)) (L.drop (L.length / 2))
    rw [List.take_append_drop] at e
    rw [e]
    generalize foldL (cmpO o) [] (L.take (L.length / 2)) = A at *
    generalize foldL (cmpO o) [] (L.drop (L.length / 2)) = B at *
    simp only [List.length_take, List.length_drop, List.length_nil] at lA lB
    obtain ⟨N, n1, n2, n3, n4⟩ := runB_end (cmpO o) A B
    refine bld_m o (cmpO o) L A B N (L.length / 2) rfl (by omega) (by omega) (by rw [cellsPs_take]; exact h1) (by rw [cellsPs_drop]; exact h2) (fun i j hi hj => ?_) n2 n3 n4 fun i hi => ?_
    · have a := allP mA hi
      have b := allP mB hj
      exact refOrd_ok o ho _ _ a.1 b.1 a.2.2.1 b.2.2.1
    · obtain ⟨g1, g2, g3, g4, _⟩ := runB_inv (cmpO o) A B i fun j hj => n2 j (by omega)
      exact ⟨g1, g2, g3, g4⟩
theorem pairE_right {k v : V} (h : pairE k v = 0) : rightB k = true ∧ rightB v = true := by
  simp only [pairE] at h
  cases a : rightB k <;> cases b : rightB v <;> simp [a, b] at h ⊢
theorem pairE_wrong {k v : V} (h : pairE k v = 3) : ¬ (rightB k = true ∧ rightB v = true) := by
  rintro ⟨a, b⟩
  simp [pairE, a, b] at h
theorem of_both (o : Int) (l : List (V × V)) (hf : ∀ p, p ∈ l → Fine p.1 ∧ Fine p.2) :
    (∃ e, e ≠ 0 ∧ CallsF P G 4 [int o, encPs l] (.tup [.sc (.pointer none), int e]) ∧ CallsF P G 5 [int o, encPs l] (.tup [.sc (.pointer none), int e])) ∨ ((0 ≤ o ∧ o ≤ 5) ∧ l.length ≤ 65536 ∧ (∀ q, q ∈ l → RP q)) := by
  have hk := kind_ok o
  by_cases ho : 0 ≤ o ∧ o ≤ 5
  · rw [show (decide (0 ≤ o) && decide (o ≤ 5)) = true by rw [Bool.and_eq_true, decide_eq_true_eq, decide_eq_true_eq]; exact ho] at hk
    by_cases hl : l.length ≤ 65536
    · by_cases hr : ∀ i, i < l.length → pairE (l.getD i default).1 (l.getD i default).2 = 0
      · refine .inr ⟨ho, hl, fun q hq => ?_⟩
        obtain ⟨i, hi, e⟩ := List.getElem_of_mem hq
        have h1 := hr i hi
        rw [List.getD_eq_getElem?_getD, List.getElem?_eq_getElem hi, Option.getD_some, e] at h1
        have h2 := hf q hq
        refine ⟨h2.1, h2.2, ?_⟩
        simp only [pairE] at h1
        cases a : rightB q.1 <;> cases b : rightB q.2 <;> simp [a, b] at h1 ⊢
      · have hr2 : ∃ i, i < l.length ∧ ¬ pairE (l.getD i default).1 (l.getD i default).2 = 0 := Classical.byContradiction fun h => hr fun i hi => Classical.byContradiction fun h2 => h ⟨i, hi, h2⟩
        obtain ⟨N, ⟨h1, h2⟩, h3⟩ := exists_least (fun i => i < l.length ∧ ¬ pairE (l.getD i default).1 (l.getD i default).2 = 0) hr2
        have h0 : ∀ i, i < N → pairE (l.getD i default).1 (l.getD i default).2 = 0 := fun i hi => Classical.byContradiction fun h4 => by have h5 := h3 i ⟨by omega, h4⟩; omega
        have hn : pairE (l.getD N default).1 (l.getD N default).2 = 3 := by
          revert h2
          simp only [pairE]
          split <;> simp
        refine .inl ⟨3, by omega, of_wrong o 3 l ho (by omega) (checked_not l N hl (by omega) hf h0 h1 hn), rof_bad o 3 l (by omega) hk (paired_not l N hl (by omega) hf (fun i hi => pairE_right (h0 i hi)) h1 (pairE_wrong hn))⟩
    · exact .inl ⟨2, by omega, of_wrong o 2 l ho (by omega) (checked_long l (by omega)), rof_bad o 2 l (by omega) hk (paired_long l (by omega))⟩
  · rw [show (decide (0 ≤ o) && decide (o ≤ 5)) = false by rw [Bool.and_eq_false_iff, decide_eq_false_iff_not, decide_eq_false_iff_not]; omega] at hk
    exact .inl ⟨4, by omega, of_kind o l (by omega), rof_kind o l hk⟩
theorem okX_len {x : T × Nat} (hx : OkX x) : x.1.toList.length = x.2 := by rw [T.toList_length]; exact hx.2.2.1
end Go.Sx
set_option maxRecDepth 100000
set_option maxHeartbeats 4000000
set_option linter.unusedSimpArgs false
set_option linter.unusedVariables false
namespace Go.Sx
open Go.Proofs Sp
end Go.Sx

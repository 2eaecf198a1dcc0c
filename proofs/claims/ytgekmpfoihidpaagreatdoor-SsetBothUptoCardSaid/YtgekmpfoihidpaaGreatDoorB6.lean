/-
  Proved: what some functions of the program answer, or a law of the evaluator that shows it, one theorem each; its conditions are the hypotheses that stand ahead of it.
-/
import Derived.Test.YtgekmpfoihidpaaGreatDoorM5
import Derived.KernelRfl
import Derived.Test.YtgekmpfoihidpaaGreatDoorPBu
import Derived.Test.YtgekmpfoihidpaaGreatDoorGY
import Derived.Test.YtgekmpfoihidpaaGreatDoorNL
set_option maxRecDepth 100000
set_option maxHeartbeats 4000000
set_option linter.unusedSimpArgs false
set_option linter.unusedVariables false
namespace Go.Sx
open Go.Proofs Sp
def Sun (o : Int) (X : Nat → T × Nat) (i : Nat) : St := { sl := slots 35 [(4, .loc 0 0), (5, .loc 1 0), (6, .loc 2 0)], ob := [(0, .box [.f (.sc (.pointer none))]), (1, .box [.f (int 0)]), (2, .box [.f (encX o (X i))])], nx := 3 }
theorem get13 : P.funcs[13]? = some Tryz.f13 := by kernel_rfl
theorem ent13 : entersP P 13 = true := by kernel_rfl
theorem union_run (o o2 n2 : Int) (t2 : T) (X : Nat → T × Nat) (N : Nat) (hf : ∀ p, p ∈ t2.toList → Fine p.1 ∧ Fine p.2) (hs : t2.size ≤ 131072) (hN : N = t2.toList.length) (ha : ∀ i, i < N → CallsF P G 79 [encX o (X i), encV (t2.toList.getD i default).1, encV (t2.toList.getD i default).2] (.tup [encX o (X (i + 1)), int 0])) : CallsF P G 13 [encX o (X 0), encM o2 n2 t2] (.tup [encX o (X N), int 0]) := by
  refine sx_fn (hs := [.call (int o), .call (int ((X 0).2 : Int)), .call (encT (X 0).1), .ones, .lfz [2], .call (.fn 127 [] [.ptr [encM o2 n2 t2] 0]), .range [(0,0),(1,1),(3,2)] (Sun o X) N (itL t2.toList) (fun _ => true) (.tup []) none (fun i => [.call (.tup [encX o (X (i + 1)), int 0]), .dec false, .ren [(0,0),(1,1),(2,2)]])]) (let z1 := (↑(Prod.snd (X 0)) : Int); let z2 := E (AV.loc 0 0) ∧ E (AV.loc 1 0) ∧ E (AV.loc 2 0) ∧ True; let z3 := Ob.box [AV.f (FV.sc (Value.pointer none))]; CallsF P G 75 [FV.ptr [int o, int z1, encT (Prod.fst (X 0))] 0] (int o) ∧ CallsF P G 76 [FV.ptr [int o, int z1, encT (Prod.fst (X 0))] 0] (int z1) ∧ CallsF P G 77 [FV.ptr [int o, int z1, encT (Prod.fst (X 0))] 0] (encT (Prod.fst (X 0))) ∧ (E true ∧ E true ∧ AV.one (AV.f (encT (Prod.fst (X 0)))) = true ∧ True) ∧ CallsF P G 78 [encM o2 n2 t2] (FV.fn 127 [] [FV.ptr [encM o2 n2 t2] 0]) ∧ (E true ∧ z2 ∧ (E z3 ∧ E (Ob.box [AV.f (int 0)]) ∧ E (Ob.box [AV.f (FV.ptr [int o, int z1, encT (Prod.fst (X 0))] 0)]) ∧ True) ∧ E true ∧ (false = true → false = true)) ∧ E false ∧ E true ∧ (∀ (i : Nat), i ≤ N → E true) ∧ (∀ (Y : Yd), Yd.it Y = itL (T.toList t2) → Yd.b Y = (fun x => true) → Yd.n Y = N → YLaw P G Y → CallsX P G 127 ([FV.sc (Yd.u Y), FV.ptr [encM o2 n2 t2] 0]) (Y) (0) (FV.tup []) (N)) ∧ (∀ (i : Nat), (let z4 := List.getD (T.toList t2) i default; let z5 := (↑(Prod.snd (X (i + 1))) : Int); i < N → E true ∧ E true ∧ CallsF P G 79 [FV.ptr [int o, int (↑(Prod.snd (X i)) : Int), encT (Prod.fst (X i))] 0, encV (Prod.fst z4), encV (Prod.snd z4)] (FV.tup [FV.ptr [int o, int z5, encT (Prod.fst (X (i + 1)))] 0, int 0]) ∧ E false ∧ E true ∧ E true ∧ z2 ∧ (E z3 ∧ E (Ob.box [AV.f (int 0)]) ∧ E (Ob.box [AV.f (FV.ptr [int o, int z5, encT (Prod.fst (X (i + 1)))] 0)]) ∧ True) ∧ E true ∧ (false = true → false = true))) ∧ (0 < N → E true) ∧ E (FV.tup [FV.ptr [int o, int (↑(Prod.snd (X N)) : Int), encT (Prod.fst (X N))] 0, int 0])) get13 ent13 (by kernel_rfl) ?_
  refine ⟨?_, ?_, ?_, ⟨rfl, rfl, ?_, trivial⟩, ?_, ⟨rfl, ⟨rfl, rfl, rfl, trivial⟩, ⟨rfl, rfl, rfl, trivial⟩, rfl, fun hi => ?_⟩, rfl, rfl, fun i => fun hi => rfl, fun Y => fun hi => fun hi => fun hi => fun hi => ?_, fun i => fun hi => ⟨rfl, rfl, ?_, rfl, rfl, rfl, ⟨rfl, rfl, rfl, trivial⟩, ⟨rfl, rfl, rfl, trivial⟩, rfl, fun hi => ?_⟩, fun hi => rfl, rfl⟩
  all_goals first | exact all_ok _ _ _ | exact encT_one _ | exact order_ok _ _ _ | exact len_ok _ _ _ | exact tree_ok _ _ _ | exact ha i (by assumption) | (rename_i h1 h2 h3; have e : (walkR Y.b t2 0).2 = N := (by rw [h2, walkR_all t2 0 (fun _ _ _ => rfl), hN, T.toList_length]; simp); have h5 := all1_ok Y o2 n2 t2 hf hi (by rw [h3, hN, T.toList_length]; exact Nat.le_refl _) (by rw [h3, hN, T.toList_length]; exact Nat.le_refl _) h1; rw [e] at h5; exact h5) | assumption
end Go.Sx
set_option maxRecDepth 100000
set_option maxHeartbeats 4000000
set_option linter.unusedSimpArgs false
set_option linter.unusedVariables false
namespace Go.Sx
open Go.Proofs Sp
def Seqm (M : FV) (i : Nat) : St := { sl := slots 34 [(3, .loc 0 0), (4, .loc 1 0)], ob := [(0, .box [.f M]), (1, .box [.f (bool false)])], nx := 2 }
theorem get18 : P.funcs[18]? = some Tryz.f18 := by kernel_rfl
theorem ent18 : entersP P 18 = true := by kernel_rfl
theorem requal_len (o n o2 n2 : Int) (t t2 : T) (hn : n ≠ n2) : CallsF P G 18 [encM o n t, encM o2 n2 t2] (bool false) := by
  refine sx_fn (hs := [.nat 5, .call (int n), .call (int n2), .dec true]) ((E (true)) ∧ (CallsF P G 76 [encM o n t] (int n)) ∧ (CallsF P G 76 [encM o2 n2 t2] (int n2)) ∧ ((n != n2) = (true)) ∧ E (bool false)) get18 ent18 (by kernel_rfl) ?_
  refine ⟨rfl, ⟨?_, ⟨?_, ⟨?_, rfl⟩⟩⟩⟩
  all_goals first | exact len_ok _ _ _ | (simp only [bne_iff_ne]; exact hn)
theorem requal_true (o n o2 : Int) (t t2 : T) (N : Nat) (w : Nat → V) (hf : ∀ p, p ∈ t.toList → Fine p.1 ∧ Fine p.2) (hs : t.size ≤ 131072) (hN : N = t.toList.length) (hg : ∀ i, i < N → CallsF P G 73 [encM o2 n t2, encV (t.toList.getD i default).1] (.tup [encV (w i), bool true, int 0])) (hv : ∀ i, i < N → CallsF P G 83 [encV (t.toList.getD i default).2, encV (w i)] (bool true)) : CallsF P G 18 [encM o n t, encM o2 n t2] (bool true) := by
  refine sx_fn (hs := [.nat 5, .call (int n), .call (int n), .dec false, .call (.fn 127 [] [.ptr [encM o n t] 0]), .range [(0,0),(1,1)] (Seqm (encM o2 n t2)) N (itL t.toList) (fun _ => true) (.tup []) none (fun i => [.call (.tup [encV (w i), bool true, int 0]), .dec false, .call (bool true), .dec false, .ren [(0,0),(1,1)]])]) (let z1 := E (Ob.box [AV.f (encM o2 n t2)]) ∧ E (Ob.box [AV.f (bool false)]) ∧ True; let z2 := E (AV.loc 0 0) ∧ E (AV.loc 1 0) ∧ True; E true ∧ CallsF P G 76 [encM o n t] (int n) ∧ CallsF P G 76 [encM o2 n t2] (int n) ∧ (n != n) = false ∧ CallsF P G 78 [encM o n t] (FV.fn 127 [] [FV.ptr [encM o n t] 0]) ∧ (E true ∧ z2 ∧ z1 ∧ E true ∧ (false = true → false = true)) ∧ E false ∧ E true ∧ (∀ (i : Nat), i ≤ N → E true) ∧ (∀ (Y : Yd), Yd.it Y = itL (T.toList t) → Yd.b Y = (fun x => true) → Yd.n Y = N → YLaw P G Y → CallsX P G 127 ([FV.sc (Yd.u Y), FV.ptr [encM o n t] 0]) (Y) (0) (FV.tup []) (N)) ∧ (∀ (i : Nat), (let z3 := List.getD (T.toList t) i default; i < N → E true ∧ E true ∧ CallsF P G 73 [encM o2 n t2, encV (Prod.fst z3)] (FV.tup [encV (w i), bool true, int 0]) ∧ E false ∧ CallsF P G 83 [encV (Prod.snd z3), encV (w i)] (bool true) ∧ E false ∧ E true ∧ E true ∧ z2 ∧ z1 ∧ E true ∧ (false = true → false = true))) ∧ (0 < N → E true) ∧ E (bool true)) get18 ent18 (by kernel_rfl) ?_
  refine ⟨rfl, ?_, ?_, ?_, ?_, ⟨rfl, ⟨rfl, rfl, trivial⟩, ⟨rfl, rfl, trivial⟩, rfl, fun hi => ?_⟩, rfl, rfl, fun i => fun hi => rfl, fun Y => fun hi => fun hi => fun hi => fun hi => ?_, fun i => fun hi => ⟨rfl, rfl, ?_, rfl, ?_, rfl, rfl, rfl, ⟨rfl, rfl, trivial⟩, ⟨rfl, rfl, trivial⟩, rfl, fun hi => ?_⟩, fun hi => rfl, rfl⟩
  all_goals first | exact all_ok _ _ _ | exact len_ok _ _ _ | exact hg i (by assumption) | exact hv i (by assumption) | (simp; done) | (rename_i h1 h2 h3; have e : (walkR Y.b t 0).2 = N := (by rw [h2, walkR_all t 0 (fun _ _ _ => rfl), hN, T.toList_length]; simp); have h5 := all1_ok Y o n t hf hi (by rw [h3, hN, T.toList_length]; exact Nat.le_refl _) (by rw [h3, hN, T.toList_length]; exact Nat.le_refl _) h1; rw [e] at h5; exact h5) | assumption
end Go.Sx
set_option maxRecDepth 100000
set_option maxHeartbeats 4000000
set_option linter.unusedSimpArgs false
set_option linter.unusedVariables false
namespace Go.Sx
open Go.Proofs Sp
theorem halfC (l : List (V × V)) (h : l.length ≤ 1000000) : IntKind.i64.wrap (Int.tdiv ((cellsPs l).length : Int) 2) = ((l.length / 2 : Nat) : Int) := by
  rw [cellsPs_length, show Int.tdiv (l.length : Int) 2 = ((l.length / 2 : Nat) : Int) from by rw [Int.tdiv_eq_ediv_of_nonneg (by omega)]; omega]
  exact wrapS _ (by omega) (by omega)
theorem runB_a {c : V → V → Int} {A B : List (V × V)} {i : Nat} (h : (runB c A B i).2.1 = B.length ∨ ((runB c A B i).1 < A.length ∧ c (A.getD (runB c A B i).1 default).1 (B.getD (runB c A B i).2.1 default).1 < 0)) : runB c A B (i + 1) = ((runB c A B i).1 + 1, (runB c A B i).2.1, (runB c A B i).2.2 ++ [A.getD (runB c A B i).1 default]) := by
  show stepB c A B _ = _; unfold stepB; rw [if_pos h]
theorem runB_e {c : V → V → Int} {A B : List (V × V)} {i : Nat} (h : (runB c A B i).2.1 ≠ B.length ∧ (runB c A B i).1 < A.length ∧ c (A.getD (runB c A B i).1 default).1 (B.getD (runB c A B i).2.1 default).1 = 0) : runB c A B (i + 1) = ((runB c A B i).1 + 1, (runB c A B i).2.1 + 1, (runB c A B i).2.2 ++ [B.getD (runB c A B i).2.1 default]) := by
  show stepB c A B _ = _; unfold stepB; rw [if_neg (by omega), if_pos h.2]
theorem runB_b {c : V → V → Int} {A B : List (V × V)} {i : Nat} (h : (runB c A B i).2.1 ≠ B.length ∧ (A.length ≤ (runB c A B i).1 ∨ 0 < c (A.getD (runB c A B i).1 default).1 (B.getD (runB c A B i).2.1 default).1)) : runB c A B (i + 1) = ((runB c A B i).1, (runB c A B i).2.1 + 1, (runB c A B i).2.2 ++ [B.getD (runB c A B i).2.1 default]) := by
  show stepB c A B _ = _; unfold stepB; rw [if_neg (by omega), if_neg (by omega)]
def Sbld (o : Int) (c : V → V → Int) (A B : List (V × V)) (i : Nat) : St := { sl := slots 134 [(0, .f (int o)), (6, .f (.ptr [int o, encPs A] 0)), (7, .f (.ptr [int o, encPs B] 0)), (8, .loc 0 0), (9, .f (int ((runB c A B i).1 : Int))), (10, .f (int ((runB c A B i).2.1 : Int)))], ob := [(0, .box [.f (int o), .lsl 1]), (1, .row 8 96 (cellsPs (runB c A B i).2.2))], nx := 2 }
theorem get69 : P.funcs[69]? = some Tryz.f69 := by kernel_rfl
theorem ent69 : entersP P 69 = true := by kernel_rfl
theorem bld_0 (o : Int)  : CallsF P G 69 [int o, encPs []] (.ptr [int o, .nils] 0) := by
  refine sx_fn (hs := [.dec true, .ones, .lfz [0]]) ((E (true)) ∧ ((E (true)) ∧ True) ∧ E (FV.ptr [int o, FV.nils] 0)) get69 ent69 (by kernel_rfl) ?_
  exact ⟨rfl, ⟨⟨rfl, trivial⟩, rfl⟩⟩
theorem bld_1 (o : Int) (q : V × V)  : CallsF P G 69 [int o, encPs [q]] (.ptr [int o, encPs [q]] 0) := by
  refine sx_fn (hs := [.dec false, .dec true, .ones, .lfz [1, 2]]) (E false ∧ E true ∧ (oneF ([int (V.kind (Prod.fst q)) :: int (V.num (Prod.fst q)) :: str (V.text (Prod.fst q)) :: encI (V.items (Prod.fst q)) :: cellsP (Prod.snd q)]) ∧ 0 + List.length (cellsPs [q]) ≤ maxLen ∧ (0 + List.length (cellsPs [q])) * 112 ≤ 140737488355328 ∧ E false) ∧ (E true ∧ E true ∧ True) ∧ E (FV.ptr [int o, FV.sl 8 [int (V.kind (Prod.fst q)) :: int (V.num (Prod.fst q)) :: str (V.text (Prod.fst q)) :: encI (V.items (Prod.fst q)) :: cellsP (Prod.snd q)]] 0)) get69 ent69 (by kernel_rfl) ?_
  refine ⟨rfl, rfl, ⟨?_, ?_, ?_, rfl⟩, ⟨rfl, rfl, trivial⟩, rfl⟩
  all_goals first | exact oneF_cellsPs [q] | (simp only [cellsPs_length, List.length_cons, List.length_nil, maxLen]; omega)
theorem bld_m (o : Int) (c : V → V → Int) (l A B : List (V × V)) (N n : Nat) (hn : n = l.length / 2) (hl : 2 ≤ l.length ∧ l.length ≤ 1000000) (hl2 : A.length + B.length ≤ 2000000) (hA : CallsF P G 69 [int o, .sl 8 ((cellsPs l).take n)] (.ptr [int o, encPs A] 0)) (hB : CallsF P G 69 [int o, .sl 8 ((cellsPs l).drop n)] (.ptr [int o, encPs B] 0)) (hord : ∀ i j, i < A.length → j < B.length → CallsF P G 108 [int o, encV (A.getD i default).1, encV (B.getD j default).1] (int (c (A.getD i default).1 (B.getD j default).1))) (h1 : ∀ j, j < N → (runB c A B j).1 < A.length ∨ (runB c A B j).2.1 < B.length) (h2 : ¬ ((runB c A B N).1 < A.length ∨ (runB c A B N).2.1 < B.length)) (hN2 : (runB c A B N).2.2 = mergeL c A B) (hin : ∀ i, i ≤ N → (runB c A B i).1 ≤ A.length ∧ (runB c A B i).2.1 ≤ B.length ∧ i ≤ (runB c A B i).1 + (runB c A B i).2.1 ∧ (runB c A B i).2.2.length = i) : CallsF P G 69 [int o, encPs l] (.ptr [int o, encPs (mergeL c A B)] 0) := by
  refine sx_fn (hs := [.dec false, .dec false, .nat 12, .call (.ptr [int o, encPs A] 0), .call (.ptr [int o, encPs B] 0), .pre [.nrowb 0 1 8 96], .loop [(0,0),(1,1)] [(0,0),(2,1)] (Sbld o c A B) N (fun i => [.br [.dec true, .br [.dec true, .tkn 1 [(12, 4)], .el (cellsP (A.getD (runB c A B i).1 default).1 ++ cellsP (A.getD (runB c A B i).1 default).2)] [.br [.nat 19, .el (cellsP (A.getD (runB c A B i).1 default).1 ++ cellsP (A.getD (runB c A B i).1 default).2), .el (cellsP (B.getD (runB c A B i).2.1 default).1 ++ cellsP (B.getD (runB c A B i).2.1 default).2), .call (int (c (A.getD (runB c A B i).1 default).1 (B.getD (runB c A B i).2.1 default).1)), .br [.tkn 1 [(12, 4)], .el (cellsP (A.getD (runB c A B i).1 default).1 ++ cellsP (A.getD (runB c A B i).1 default).2)] [.br [.tkn 1 [(12, 4)], .el (cellsP (B.getD (runB c A B i).2.1 default).1 ++ cellsP (B.getD (runB c A B i).2.1 default).2)] [.tkn 1 [(12, 4)], .el (cellsP (B.getD (runB c A B i).2.1 default).1 ++ cellsP (B.getD (runB c A B i).2.1 default).2)]]] [.dec false, .dec false, .tkn 1 [(12, 4)], .el (cellsP (B.getD (runB c A B i).2.1 default).1 ++ cellsP (B.getD (runB c A B i).2.1 default).2)]]] [.dec true, .br [.dec true, .tkn 1 [(12, 4)], .el (cellsP (A.getD (runB c A B i).1 default).1 ++ cellsP (A.getD (runB c A B i).1 default).2)] [.br [.nat 19, .el (cellsP (A.getD (runB c A B i).1 default).1 ++ cellsP (A.getD (runB c A B i).1 default).2), .el (cellsP (B.getD (runB c A B i).2.1 default).1 ++ cellsP (B.getD (runB c A B i).2.1 default).2), .call (int (c (A.getD (runB c A B i).1 default).1 (B.getD (runB c A B i).2.1 default).1)), .br [.tkn 1 [(12, 4)], .el (cellsP (A.getD (runB c A B i).1 default).1 ++ cellsP (A.getD (runB c A B i).1 default).2)] [.br [.tkn 1 [(12, 4)], .el (cellsP (B.getD (runB c A B i).2.1 default).1 ++ cellsP (B.getD (runB c A B i).2.1 default).2)] [.tkn 1 [(12, 4)], .el (cellsP (B.getD (runB c A B i).2.1 default).1 ++ cellsP (B.getD (runB c A B i).2.1 default).2)]]] [.dec false, .dec false, .tkn 1 [(12, 4)], .el (cellsP (B.getD (runB c A B i).2.1 default).1 ++ cellsP (B.getD (runB c A B i).2.1 default).2)]]]]), .dec false, .dec false, .lfz [1, 0]]) (let z1 := TypeInfo.size (Tables.types (Program.toTables P))[96]; let z2 := (↑(List.length (cellsPs l)) : Int); let z5 := Ob.box [AV.f (int o), AV.lsl 1]; let z6 := IntKind.wrap IntKind.i64 (Int.tdiv z2 2); let z7 := (↑(List.length (cellsPs A)) : Int); let z8 := (↑(List.length (cellsPs B)) : Int); let z9 := FV.ptr [int o, FV.sl 8 (cellsPs A)] 0; let z3 := AV.f z9; let z10 := FV.ptr [int o, FV.sl 8 (cellsPs B)] 0; let z4 := AV.f z10; (z2 == 0) = false ∧ (z2 == 1) = false ∧ E true ∧ (E 8 ∧ (0 : Int) ≤ 0 ∧ (0 : Int) ≤ Option.getD (some z6) z2 ∧ Option.getD (some z6) z2 ≤ z2) ∧ CallsF P G 69 [int o, FV.sl 8 (List.drop (Int.toNat 0) (List.take (Int.toNat (Option.getD (some z6) z2)) (cellsPs l)))] z9 ∧ (E 8 ∧ (0 : Int) ≤ IntKind.wrap IntKind.i64 (Int.tdiv z2 2) ∧ IntKind.wrap IntKind.i64 (Int.tdiv z2 2) ≤ Option.getD none z2 ∧ Option.getD none z2 ≤ z2) ∧ CallsF P G 69 [int o, FV.sl 8 (List.drop (Int.toNat z6) (List.take (Int.toNat (Option.getD none z2)) (cellsPs l)))] z10 ∧ (E true ∧ (E (AV.f (int o)) ∧ E z3 ∧ E z4 ∧ E (AV.loc 0 0) ∧ AV.f (int 0) = AV.f (int (↑(Prod.fst (runB c A B 0)) : Int)) ∧ AV.f (int 0) = AV.f (int (↑(Prod.fst (Prod.snd (runB c A B 0))) : Int)) ∧ True) ∧ (E z5 ∧ E (Ob.row 8 96 []) ∧ True) ∧ E true ∧ (false = true → false = true)) ∧ (∀ (i : Nat), (let z15 := Prod.snd (runB c A B i); let z25 := Prod.fst (runB c A B i); let z26 := (↑(Prod.fst z15) : Int); let z27 := Prod.snd (runB c A B (i + 1)); let z28 := int (↑(Prod.fst (runB c A B (i + 1))) : Int); let z29 := List.getD B (Prod.fst z15) default; let z20 := Prod.fst z29; let z11 := int (V.kind z20) :: int (V.num z20) :: str (V.text z20) :: encI (V.items z20) :: cellsP (Prod.snd z29); let z19 := E z5 ∧ Ob.row 8 96 (cellsPs (Prod.snd z15) ++ chunk z1 1 z11) = Ob.row 8 96 (cellsPs (Prod.snd z27)) ∧ True; let z21 := E 8 ∧ (0 : Int) ≤ z26 ∧ (cellsPs B)[Prod.fst z15]? = some z11; let z30 := cellsPs (Prod.snd z15); let z13 := oneF ([int (V.kind z20) :: int (V.num z20) :: str (V.text z20) :: encI (V.items z20) :: cellsP (Prod.snd z29)]) ∧ List.length z30 + List.length (chunk 8 1 z11) ≤ maxLen ∧ (List.length z30 + List.length (chunk 8 1 z11)) * 112 ≤ 140737488355328 ∧ E false; let z31 := int (↑(Prod.fst z27) : Int); let z32 := decide ((↑z25 : Int) < z7); let z33 := int (IntKind.wrap IntKind.i64 ((↑z25 : Int) + 1)); let z16 := E (AV.f (int o)) ∧ E z3 ∧ E z4 ∧ E (AV.loc 0 0) ∧ AV.f z33 = AV.f z28 ∧ AV.f (int z26) = AV.f z31 ∧ True; let z34 := List.getD A z25 default; let z18 := Prod.fst z34; let z12 := int (V.kind z18) :: int (V.num z18) :: str (V.text z18) :: encI (V.items z18) :: cellsP (Prod.snd z34); let z14 := oneF ([int (V.kind z18) :: int (V.num z18) :: str (V.text z18) :: encI (V.items z18) :: cellsP (Prod.snd z34)]) ∧ List.length z30 + List.length (chunk 8 1 z12) ≤ maxLen ∧ (List.length z30 + List.length (chunk 8 1 z12)) * 112 ≤ 140737488355328 ∧ E false; let z22 := E 8 ∧ (0 : Int) ≤ (↑z25 : Int) ∧ (cellsPs A)[Prod.fst (runB c A B i)]? = some z12; let z23 := E z5 ∧ Ob.row 8 96 (cellsPs (Prod.snd z15) ++ chunk z1 1 z12) = Ob.row 8 96 (cellsPs (Prod.snd z27)) ∧ True; let z35 := int (IntKind.wrap IntKind.i64 (z26 + 1)); let z17 := E (AV.f (int o)) ∧ E z3 ∧ E z4 ∧ E (AV.loc 0 0) ∧ AV.f (int (↑z25 : Int)) = AV.f z28 ∧ AV.f z35 = AV.f z31 ∧ True; let z24 := E (AV.f (int o)) ∧ E z3 ∧ E z4 ∧ E (AV.loc 0 0) ∧ AV.f z33 = AV.f z28 ∧ AV.f z35 = AV.f z31 ∧ True; i < N → Br z32 (E true ∧ Br (z26 == z8) (E true ∧ E true ∧ z22 ∧ z14 ∧ E true ∧ z16 ∧ z23 ∧ E true ∧ (false = true → false = true)) (Br z32 (E true ∧ z22 ∧ z21 ∧ CallsF P G 108 [int o, encV z18, encV z20] (int (c z18 z20)) ∧ Br (decide (c z18 z20 < 0)) (E true ∧ z22 ∧ z14 ∧ E true ∧ z16 ∧ z23 ∧ E true ∧ (false = true → false = true)) (Br (c z18 z20 == 0) (E true ∧ z21 ∧ z13 ∧ E true ∧ z24 ∧ z19 ∧ E true ∧ (false = true → false = true)) (E true ∧ z21 ∧ z13 ∧ E true ∧ z17 ∧ z19 ∧ E true ∧ (false = true → false = true)))) (E false ∧ E false ∧ E true ∧ z21 ∧ z13 ∧ E true ∧ z17 ∧ z19 ∧ E true ∧ (false = true → false = true)))) (decide (z26 < z8) = true ∧ Br (z26 == z8) (E true ∧ E true ∧ z22 ∧ z14 ∧ E true ∧ z16 ∧ z23 ∧ E true ∧ (false = true → false = true)) (Br z32 (E true ∧ z22 ∧ z21 ∧ CallsF P G 108 [int o, encV z18, encV z20] (int (c z18 z20)) ∧ Br (decide (c z18 z20 < 0)) (E true ∧ z22 ∧ z14 ∧ E true ∧ z16 ∧ z23 ∧ E true ∧ (false = true → false = true)) (Br (c z18 z20 == 0) (E true ∧ z21 ∧ z13 ∧ E true ∧ z24 ∧ z19 ∧ E true ∧ (false = true → false = true)) (E true ∧ z21 ∧ z13 ∧ E true ∧ z17 ∧ z19 ∧ E true ∧ (false = true → false = true)))) (E false ∧ E false ∧ E true ∧ z21 ∧ z13 ∧ E true ∧ z17 ∧ z19 ∧ E true ∧ (false = true → false = true)))))) ∧ decide ((↑(Prod.fst (runB c A B N)) : Int) < z7) = false ∧ decide ((↑(Prod.fst (Prod.snd (runB c A B N))) : Int) < z8) = false ∧ FV.ptr [int o, FV.sl 8 (cellsPs (Prod.snd (Prod.snd (runB c A B N))))] 0 = FV.ptr [int o, FV.sl 8 (cellsPs (mergeL c A B))] 0) get69 ent69 (by kernel_rfl) ?_
  refine ⟨?_, ?_, rfl, ⟨rfl, ?_, ?_, ?_⟩, ?_, ⟨rfl, ?_, ?_, ?_⟩, ?_, ⟨rfl, ⟨rfl, rfl, rfl, rfl, ?_, ?_, trivial⟩, ⟨rfl, rfl, trivial⟩, rfl, fun hi => ?_⟩, fun i => fun hi => ⟨fun hi => ⟨rfl, fun hi => ⟨rfl, rfl, ⟨rfl, ?_, ?_⟩, ⟨?_, ?_, ?_, rfl⟩, rfl, ⟨rfl, rfl, rfl, rfl, ?_, ?_, trivial⟩, ⟨rfl, ?_, trivial⟩, rfl, fun hi => ?_⟩, fun hi => ⟨fun hi => ⟨rfl, ⟨rfl, ?_, ?_⟩, ⟨rfl, ?_, ?_⟩, ?_, fun hi => ⟨rfl, ⟨rfl, ?_, ?_⟩, ⟨?_, ?_, ?_, rfl⟩, rfl, ⟨rfl, rfl, rfl, rfl, ?_, ?_, trivial⟩, ⟨rfl, ?_, trivial⟩, rfl, fun hi => ?_⟩, fun hi => ⟨fun hi => ⟨rfl, ⟨rfl, ?_, ?_⟩, ⟨?_, ?_, ?_, rfl⟩, rfl, ⟨rfl, rfl, rfl, rfl, ?_, ?_, trivial⟩, ⟨rfl, ?_, trivial⟩, rfl, fun hi => ?_⟩, fun hi => ⟨rfl, ⟨rfl, ?_, ?_⟩, ⟨?_, ?_, ?_, rfl⟩, rfl, ⟨rfl, rfl, rfl, rfl, ?_, ?_, trivial⟩, ⟨rfl, ?_, trivial⟩, rfl, fun hi => ?_⟩⟩⟩, fun hi => ⟨rfl, rfl, rfl, ⟨rfl, ?_, ?_⟩, ⟨?_, ?_, ?_, rfl⟩, rfl, ⟨rfl, rfl, rfl, rfl, ?_, ?_, trivial⟩, ⟨rfl, ?_, trivial⟩, rfl, fun hi => ?_⟩⟩⟩, fun hi => ⟨?_, fun hi => ⟨rfl, rfl, ⟨rfl, ?_, ?_⟩, ⟨?_, ?_, ?_, rfl⟩, rfl, ⟨rfl, rfl, rfl, rfl, ?_, ?_, trivial⟩, ⟨rfl, ?_, trivial⟩, rfl, fun hi => ?_⟩, fun hi => ⟨fun hi => ⟨rfl, ⟨rfl, ?_, ?_⟩, ⟨rfl, ?_, ?_⟩, ?_, fun hi => ⟨rfl, ⟨rfl, ?_, ?_⟩, ⟨?_, ?_, ?_, rfl⟩, rfl, ⟨rfl, rfl, rfl, rfl, ?_, ?_, trivial⟩, ⟨rfl, ?_, trivial⟩, rfl, fun hi => ?_⟩, fun hi => ⟨fun hi => ⟨rfl, ⟨rfl, ?_, ?_⟩, ⟨?_, ?_, ?_, rfl⟩, rfl, ⟨rfl, rfl, rfl, rfl, ?_, ?_, trivial⟩, ⟨rfl, ?_, trivial⟩, rfl, fun hi => ?_⟩, fun hi => ⟨rfl, ⟨rfl, ?_, ?_⟩, ⟨?_, ?_, ?_, rfl⟩, rfl, ⟨rfl, rfl, rfl, rfl, ?_, ?_, trivial⟩, ⟨rfl, ?_, trivial⟩, rfl, fun hi => ?_⟩⟩⟩, fun hi => ⟨rfl, rfl, rfl, ⟨rfl, ?_, ?_⟩, ⟨?_, ?_, ?_, rfl⟩, rfl, ⟨rfl, rfl, rfl, rfl, ?_, ?_, trivial⟩, ⟨rfl, ?_, trivial⟩, rfl, fun hi => ?_⟩⟩⟩⟩, ?_, ?_, ?_⟩
  all_goals first | (simp only [cellsPs_length, decide_eq_true_eq, decide_eq_false_iff_not, beq_iff_eq, beq_eq_false_iff_ne] at *; omega) | (have q1 := hin i (by omega); have q2 := h1 i (by assumption); simp only [cellsPs_length, decide_eq_true_eq, decide_eq_false_iff_not, beq_iff_eq, beq_eq_false_iff_ne] at *; omega) | (exact cellsPs_get A _ (by have q1 := hin i (by omega); have q2 := h1 i (by assumption); simp only [cellsPs_length, decide_eq_true_eq, decide_eq_false_iff_not, beq_iff_eq, beq_eq_false_iff_ne] at *; omega)) | (exact cellsPs_get B _ (by have q1 := hin i (by omega); have q2 := h1 i (by assumption); simp only [cellsPs_length, decide_eq_true_eq, decide_eq_false_iff_not, beq_iff_eq, beq_eq_false_iff_ne] at *; omega)) | (exact hord _ _ (by have q1 := hin i (by omega); have q2 := h1 i (by assumption); simp only [cellsPs_length, decide_eq_true_eq, decide_eq_false_iff_not, beq_iff_eq, beq_eq_false_iff_ne] at *; omega) (by have q1 := hin i (by omega); have q2 := h1 i (by assumption); simp only [cellsPs_length, decide_eq_true_eq, decide_eq_false_iff_not, beq_iff_eq, beq_eq_false_iff_ne] at *; omega)) | (have q1 := hin i (by omega); have q2 := h1 i (by assumption); rw [runB_a (c := c) (A := A) (B := B) (i := i) (by simp only [cellsPs_length, decide_eq_true_eq, decide_eq_false_iff_not, beq_iff_eq, beq_eq_false_iff_ne] at *; omega)]; first | rfl | done | exact congrArg (fun x => AV.f (int x)) (wrapS (((runB c A B i).1 : Nat) + 1 : Int) (by omega) (by omega))) | (have q1 := hin i (by omega); have q2 := h1 i (by assumption); rw [runB_a (c := c) (A := A) (B := B) (i := i) (by simp only [cellsPs_length, decide_eq_true_eq, decide_eq_false_iff_not, beq_iff_eq, beq_eq_false_iff_ne] at *; omega)]; exact (congrArg (Ob.row 8 96) (cellsPs_app _ [_])).symm) | (have q1 := hin i (by omega); have q2 := h1 i (by assumption); rw [runB_e (c := c) (A := A) (B := B) (i := i) (by simp only [cellsPs_length, decide_eq_true_eq, decide_eq_false_iff_not, beq_iff_eq, beq_eq_false_iff_ne] at *; omega)]; first | rfl | done | exact congrArg (fun x => AV.f (int x)) (wrapS (((runB c A B i).1 : Nat) + 1 : Int) (by omega) (by omega))) | (have q1 := hin i (by omega); have q2 := h1 i (by assumption); rw [runB_e (c := c) (A := A) (B := B) (i := i) (by simp only [cellsPs_length, decide_eq_true_eq, decide_eq_false_iff_not, beq_iff_eq, beq_eq_false_iff_ne] at *; omega)]; first | rfl | done | exact congrArg (fun x => AV.f (int x)) (wrapS (((runB c A B i).2.1 : Nat) + 1 : Int) (by omega) (by omega))) | (have q1 := hin i (by omega); have q2 := h1 i (by assumption); rw [runB_e (c := c) (A := A) (B := B) (i := i) (by simp only [cellsPs_length, decide_eq_true_eq, decide_eq_false_iff_not, beq_iff_eq, beq_eq_false_iff_ne] at *; omega)]; exact (congrArg (Ob.row 8 96) (cellsPs_app _ [_])).symm) | (have q1 := hin i (by omega); have q2 := h1 i (by assumption); rw [runB_b (c := c) (A := A) (B := B) (i := i) (by simp only [cellsPs_length, decide_eq_true_eq, decide_eq_false_iff_not, beq_iff_eq, beq_eq_false_iff_ne] at *; omega)]; first | rfl | done | exact congrArg (fun x => AV.f (int x)) (wrapS (((runB c A B i).1 : Nat) + 1 : Int) (by omega) (by omega))) | (have q1 := hin i (by omega); have q2 := h1 i (by assumption); rw [runB_b (c := c) (A := A) (B := B) (i := i) (by simp only [cellsPs_length, decide_eq_true_eq, decide_eq_false_iff_not, beq_iff_eq, beq_eq_false_iff_ne] at *; omega)]; first | rfl | done | exact congrArg (fun x => AV.f (int x)) (wrapS (((runB c A B i).2.1 : Nat) + 1 : Int) (by omega) (by omega))) | (have q1 := hin i (by omega); have q2 := h1 i (by assumption); rw [runB_b (c := c) (A := A) (B := B) (i := i) (by simp only [cellsPs_length, decide_eq_true_eq, decide_eq_false_iff_not, beq_iff_eq, beq_eq_false_iff_ne] at *; omega)]; exact (congrArg (Ob.row 8 96) (cellsPs_app _ [_])).symm) | (have q1 := hin i (by omega); have q2 := h1 i (by assumption); simp only [cellsPs_length, chunk, List.length_append, List.length_cons, List.length_nil, maxLen]; omega) | exact oneF_cellsPs [_] | (rw [hN2]; done) | (rw [Option.getD_some, halfC l (by omega), Int.toNat_natCast, show Int.toNat 0 = 0 from rfl, List.drop_zero, ← hn]; exact hA) | (rw [Option.getD_none, halfC l (by omega), Int.toNat_natCast, Int.toNat_natCast, List.take_length, ← hn]; exact hB) | (show (0 : Int) ≤ IntKind.i64.wrap _; rw [halfC l (by omega)]; omega) | (show IntKind.i64.wrap _ ≤ _; rw [halfC l (by omega)]; (try show ((l.length / 2 : Nat) : Int) ≤ (((cellsPs l).length : Nat) : Int)); rw [cellsPs_length]; omega) | assumption | omega | (simp [V.kind, V.num, V.text, V.items, *]; done) | rfl
end Go.Sx
set_option maxRecDepth 100000
set_option maxHeartbeats 4000000
set_option linter.unusedSimpArgs false
set_option linter.unusedVariables false
namespace Go.Sx
open Go.Proofs Sp
theorem get14 : P.funcs[14]? = some Tryz.f14 := by kernel_rfl
theorem ent14 : entersP P 14 = true := by kernel_rfl
theorem runion_ok (o o2 : Int) (L M M2 : List (V × V)) (hn : M2.length ≤ 65536) (hL : L.length ≤ 65536) (hM : M.length ≤ 65536) (h3 : CallsF P G 69 [int o, .sl 8 ([] ++ cellsPs L ++ cellsPs M)] (.ptr [int o, encPs M2] 0)) : CallsF P G 14 [.ptr [int o, encPs L] 0, .ptr [int o2, encPs M] 0] (.tup [.ptr [int o, encPs M2] 0, int 0]) := by
  refine sx_fn (hs := [.pcb [], .lfz [2], .call (.ptr [int o, encPs M2] 0), .dec false]) (let z2 := oneF (cellsPs M) ∧ List.length (chunk 8 0 [] ++ cellsPs L) + List.length (cellsPs M) ≤ maxLen ∧ (List.length (chunk 8 0 [] ++ cellsPs L) + List.length (cellsPs M)) * 112 ≤ 140737488355328 ∧ E false; let z3 := oneF (cellsPs L) ∧ 0 + List.length (cellsPs L) ≤ maxLen ∧ (0 + List.length (cellsPs L)) * 112 ≤ 140737488355328 ∧ E false; let z4 := chunk (TypeInfo.size (Tables.types (Program.toTables P))[96]) 0 [] ++ cellsPs L ++ cellsPs M; let z5 := FV.tup [FV.ptr [int o, FV.sl 8 (cellsPs M2)] 0, int 0]; let z6 := (↑(List.length (cellsPs M2)) : Int) > 65536; let z7 := FV.ptr [int o, FV.sl 8 (cellsPs M2)] 0; let z9 := E false ∧ E false ∧ z3 ∧ E false ∧ z2 ∧ E false ∧ CallsF P G 69 [int o, FV.sl 8 z4] z7 ∧ E true ∧ decide z6 = false ∧ E z5; let z10 := E false ∧ z2 ∧ E false ∧ CallsF P G 69 [int o, FV.sl 8 z4] z7 ∧ E true ∧ decide z6 = false ∧ E z5; let z11 := E false ∧ z3 ∧ E false ∧ z2 ∧ E false ∧ CallsF P G 69 [int o, FV.sl 8 z4] z7 ∧ E true ∧ decide z6 = false ∧ E z5; let z12 := E false ∧ (z3 ∧ E false ∧ E false ∧ z2 ∧ E false ∧ CallsF P G 69 [int o, FV.sl 8 z4] z7 ∧ E true ∧ decide z6 = false ∧ E z5) ∧ E false ∧ z3 ∧ E false ∧ z2 ∧ E false ∧ CallsF P G 69 [int o, FV.sl 8 z4] z7 ∧ E true ∧ decide z6 = false ∧ E z5; let z8 := E false ∧ z12 ∧ E false ∧ E false ∧ z3 ∧ E false ∧ z2 ∧ E false ∧ CallsF P G 69 [int o, FV.sl 8 z4] z7 ∧ E true ∧ decide z6 = false ∧ E z5; let z1 := E false ∧ z8 ∧ (E false ∧ z12 ∧ (z3 ∧ E false ∧ (E false ∧ E false ∧ z2 ∧ E false ∧ CallsF P G 69 [int o, FV.sl 8 z4] z7 ∧ E true ∧ decide z6 = false ∧ E z5) ∧ E false ∧ z10 ∧ z2 ∧ E false ∧ E false ∧ CallsF P G 69 [int o, FV.sl 8 z4] z7 ∧ E true ∧ decide z6 = false ∧ E z5) ∧ E false ∧ z11 ∧ z3 ∧ E false ∧ z10 ∧ z2 ∧ E false ∧ E false ∧ CallsF P G 69 [int o, FV.sl 8 z4] z7 ∧ E true ∧ decide z6 = false ∧ E z5) ∧ E false ∧ z9 ∧ E false ∧ z11 ∧ z3 ∧ E false ∧ z10 ∧ z2 ∧ E false ∧ E false ∧ CallsF P G 69 [int o, FV.sl 8 z4] z7 ∧ E true ∧ decide z6 = false ∧ E z5; E true ∧ E false ∧ (E false ∧ z8 ∧ z8 ∧ E false ∧ z9 ∧ E false ∧ E false ∧ z3 ∧ E false ∧ z2 ∧ E false ∧ CallsF P G 69 [int o, FV.sl 8 z4] z7 ∧ E true ∧ decide z6 = false ∧ E z5) ∧ z1 ∧ z1 ∧ E false ∧ (E false ∧ z9 ∧ E false ∧ E false ∧ z3 ∧ E false ∧ z2 ∧ E false ∧ CallsF P G 69 [int o, FV.sl 8 z4] z7 ∧ E true ∧ decide z6 = false ∧ E z5) ∧ (E false ∧ z9 ∧ E false ∧ z11 ∧ z3 ∧ E false ∧ z10 ∧ z2 ∧ E false ∧ E false ∧ CallsF P G 69 [int o, FV.sl 8 z4] z7 ∧ E true ∧ decide z6 = false ∧ E z5) ∧ E false ∧ z9 ∧ E false ∧ z11 ∧ z3 ∧ E false ∧ z10 ∧ z2 ∧ E false ∧ E false ∧ CallsF P G 69 [int o, FV.sl 8 z4] z7 ∧ E true ∧ decide z6 = false ∧ E z5) get14 ent14 (by kernel_rfl) ?_
  refine ⟨rfl, rfl, ⟨rfl, ⟨rfl, ⟨rfl, ⟨⟨?_, ?_, ?_, rfl⟩, rfl, rfl, ⟨?_, ?_, ?_, rfl⟩, rfl, ?_, rfl, ?_, rfl⟩, rfl, ⟨?_, ?_, ?_, rfl⟩, rfl, ⟨?_, ?_, ?_, rfl⟩, rfl, ?_, rfl, ?_, rfl⟩, rfl, rfl, ⟨?_, ?_, ?_, rfl⟩, rfl, ⟨?_, ?_, ?_, rfl⟩, rfl, ?_, rfl, ?_, rfl⟩, ⟨rfl, ⟨rfl, ⟨⟨?_, ?_, ?_, rfl⟩, rfl, rfl, ⟨?_, ?_, ?_, rfl⟩, rfl, ?_, rfl, ?_, rfl⟩, rfl, ⟨?_, ?_, ?_, rfl⟩, rfl, ⟨?_, ?_, ?_, rfl⟩, rfl, ?_, rfl, ?_, rfl⟩, rfl, rfl, ⟨?_, ?_, ?_, rfl⟩, rfl, ⟨?_, ?_, ?_, rfl⟩, rfl, ?_, rfl, ?_, rfl⟩, rfl, ⟨rfl, rfl, ⟨?_, ?_, ?_, rfl⟩, rfl, ⟨?_, ?_, ?_, rfl⟩, rfl, ?_, rfl, ?_, rfl⟩, rfl, rfl, ⟨?_, ?_, ?_, rfl⟩, rfl, ⟨?_, ?_, ?_, rfl⟩, rfl, ?_, rfl, ?_, rfl⟩, ⟨rfl, ⟨rfl, ⟨rfl, ⟨⟨?_, ?_, ?_, rfl⟩, rfl, rfl, ⟨?_, ?_, ?_, rfl⟩, rfl, ?_, rfl, ?_, rfl⟩, rfl, ⟨?_, ?_, ?_, rfl⟩, rfl, ⟨?_, ?_, ?_, rfl⟩, rfl, ?_, rfl, ?_, rfl⟩, rfl, rfl, ⟨?_, ?_, ?_, rfl⟩, rfl, ⟨?_, ?_, ?_, rfl⟩, rfl, ?_, rfl, ?_, rfl⟩, ⟨rfl, ⟨rfl, ⟨⟨?_, ?_, ?_, rfl⟩, rfl, rfl, ⟨?_, ?_, ?_, rfl⟩, rfl, ?_, rfl, ?_, rfl⟩, rfl, ⟨?_, ?_, ?_, rfl⟩, rfl, ⟨?_, ?_, ?_, rfl⟩, rfl, ?_, rfl, ?_, rfl⟩, ⟨⟨?_, ?_, ?_, rfl⟩, rfl, ⟨rfl, rfl, ⟨?_, ?_, ?_, rfl⟩, rfl, ?_, rfl, ?_, rfl⟩, rfl, ⟨rfl, ⟨?_, ?_, ?_, rfl⟩, rfl, ?_, rfl, ?_, rfl⟩, ⟨?_, ?_, ?_, rfl⟩, rfl, rfl, ?_, rfl, ?_, rfl⟩, rfl, ⟨rfl, ⟨?_, ?_, ?_, rfl⟩, rfl, ⟨?_, ?_, ?_, rfl⟩, rfl, ?_, rfl, ?_, rfl⟩, ⟨?_, ?_, ?_, rfl⟩, rfl, ⟨rfl, ⟨?_, ?_, ?_, rfl⟩, rfl, ?_, rfl, ?_, rfl⟩, ⟨?_, ?_, ?_, rfl⟩, rfl, rfl, ?_, rfl, ?_, rfl⟩, rfl, ⟨rfl, rfl, ⟨?_, ?_, ?_, rfl⟩, rfl, ⟨?_, ?_, ?_, rfl⟩, rfl, ?_, rfl, ?_, rfl⟩, rfl, ⟨rfl, ⟨?_, ?_, ?_, rfl⟩, rfl, ⟨?_, ?_, ?_, rfl⟩, rfl, ?_, rfl, ?_, rfl⟩, ⟨?_, ?_, ?_, rfl⟩, rfl, ⟨rfl, ⟨?_, ?_, ?_, rfl⟩, rfl, ?_, rfl, ?_, rfl⟩, ⟨?_, ?_, ?_, rfl⟩, rfl, rfl, ?_, rfl, ?_, rfl⟩, ⟨rfl, ⟨rfl, ⟨rfl, ⟨⟨?_, ?_, ?_, rfl⟩, rfl, rfl, ⟨?_, ?_, ?_, rfl⟩, rfl, ?_, rfl, ?_, rfl⟩, rfl, ⟨?_, ?_, ?_, rfl⟩, rfl, ⟨?_, ?_, ?_, rfl⟩, rfl, ?_, rfl, ?_, rfl⟩, rfl, rfl, ⟨?_, ?_, ?_, rfl⟩, rfl, ⟨?_, ?_, ?_, rfl⟩, rfl, ?_, rfl, ?_, rfl⟩, ⟨rfl, ⟨rfl, ⟨⟨?_, ?_, ?_, rfl⟩, rfl, rfl, ⟨?_, ?_, ?_, rfl⟩, rfl, ?_, rfl, ?_, rfl⟩, rfl, ⟨?_, ?_, ?_, rfl⟩, rfl, ⟨?_, ?_, ?_, rfl⟩, rfl, ?_, rfl, ?_, rfl⟩, ⟨⟨?_, ?_, ?_, rfl⟩, rfl, ⟨rfl, rfl, ⟨?_, ?_, ?_, rfl⟩, rfl, ?_, rfl, ?_, rfl⟩, rfl, ⟨rfl, ⟨?_, ?_, ?_, rfl⟩, rfl, ?_, rfl, ?_, rfl⟩, ⟨?_, ?_, ?_, rfl⟩, rfl, rfl, ?_, rfl, ?_, rfl⟩, rfl, ⟨rfl, ⟨?_, ?_, ?_, rfl⟩, rfl, ⟨?_, ?_, ?_, rfl⟩, rfl, ?_, rfl, ?_, rfl⟩, ⟨?_, ?_, ?_, rfl⟩, rfl, ⟨rfl, ⟨?_, ?_, ?_, rfl⟩, rfl, ?_, rfl, ?_, rfl⟩, ⟨?_, ?_, ?_, rfl⟩, rfl, rfl, ?_, rfl, ?_, rfl⟩, rfl, ⟨rfl, rfl, ⟨?_, ?_, ?_, rfl⟩, rfl, ⟨?_, ?_, ?_, rfl⟩, rfl, ?_, rfl, ?_, rfl⟩, rfl, ⟨rfl, ⟨?_, ?_, ?_, rfl⟩, rfl, ⟨?_, ?_, ?_, rfl⟩, rfl, ?_, rfl, ?_, rfl⟩, ⟨?_, ?_, ?_, rfl⟩, rfl, ⟨rfl, ⟨?_, ?_, ?_, rfl⟩, rfl, ?_, rfl, ?_, rfl⟩, ⟨?_, ?_, ?_, rfl⟩, rfl, rfl, ?_, rfl, ?_, rfl⟩, rfl, ⟨rfl, ⟨rfl, rfl, ⟨?_, ?_, ?_, rfl⟩, rfl, ⟨?_, ?_, ?_, rfl⟩, rfl, ?_, rfl, ?_, rfl⟩, rfl, rfl, ⟨?_, ?_, ?_, rfl⟩, rfl, ⟨?_, ?_, ?_, rfl⟩, rfl, ?_, rfl, ?_, rfl⟩, ⟨rfl, ⟨rfl, rfl, ⟨?_, ?_, ?_, rfl⟩, rfl, ⟨?_, ?_, ?_, rfl⟩, rfl, ?_, rfl, ?_, rfl⟩, rfl, ⟨rfl, ⟨?_, ?_, ?_, rfl⟩, rfl, ⟨?_, ?_, ?_, rfl⟩, rfl, ?_, rfl, ?_, rfl⟩, ⟨?_, ?_, ?_, rfl⟩, rfl, ⟨rfl, ⟨?_, ?_, ?_, rfl⟩, rfl, ?_, rfl, ?_, rfl⟩, ⟨?_, ?_, ?_, rfl⟩, rfl, rfl, ?_, rfl, ?_, rfl⟩, rfl, ⟨rfl, rfl, ⟨?_, ?_, ?_, rfl⟩, rfl, ⟨?_, ?_, ?_, rfl⟩, rfl, ?_, rfl, ?_, rfl⟩, rfl, ⟨rfl, ⟨?_, ?_, ?_, rfl⟩, rfl, ⟨?_, ?_, ?_, rfl⟩, rfl, ?_, rfl, ?_, rfl⟩, ⟨?_, ?_, ?_, rfl⟩, rfl, ⟨rfl, ⟨?_, ?_, ?_, rfl⟩, rfl, ?_, rfl, ?_, rfl⟩, ⟨?_, ?_, ?_, rfl⟩, rfl, rfl, ?_, rfl, ?_, rfl⟩
  all_goals first | exact h3 | exact oneF_cellsPs _ | (simp only [cellsPs_length, chunk, List.length_cons, List.length_nil, List.length_append, maxLen]; omega) | (simp only [cellsPs_length, decide_eq_true_eq, decide_eq_false_iff_not] at *; omega)
theorem runion_long (o o2 : Int) (L M M2 : List (V × V)) (hn : 65536 < M2.length) (hL : L.length ≤ 65536) (hM : M.length ≤ 65536) (h3 : CallsF P G 69 [int o, .sl 8 ([] ++ cellsPs L ++ cellsPs M)] (.ptr [int o, encPs M2] 0)) : CallsF P G 14 [.ptr [int o, encPs L] 0, .ptr [int o2, encPs M] 0] (.tup [.sc (.pointer none), int 2]) := by
  refine sx_fn (hs := [.pcb [], .lfz [2], .call (.ptr [int o, encPs M2] 0), .dec true]) (let z2 := oneF (cellsPs M) ∧ List.length (chunk 8 0 [] ++ cellsPs L) + List.length (cellsPs M) ≤ maxLen ∧ (List.length (chunk 8 0 [] ++ cellsPs L) + List.length (cellsPs M)) * 112 ≤ 140737488355328 ∧ E false; let z3 := oneF (cellsPs L) ∧ 0 + List.length (cellsPs L) ≤ maxLen ∧ (0 + List.length (cellsPs L)) * 112 ≤ 140737488355328 ∧ E false; let z4 := chunk (TypeInfo.size (Tables.types (Program.toTables P))[96]) 0 [] ++ cellsPs L ++ cellsPs M; let z6 := (↑(List.length (cellsPs M2)) : Int) > 65536; let z7 := FV.tup [FV.sc (Value.pointer none), int 2]; let z8 := FV.ptr [int o, FV.sl 8 (cellsPs M2)] 0; let z9 := E false ∧ E false ∧ z3 ∧ E false ∧ z2 ∧ E false ∧ CallsF P G 69 [int o, FV.sl 8 z4] z8 ∧ E true ∧ decide z6 = true ∧ E z7; let z10 := E false ∧ z2 ∧ E false ∧ CallsF P G 69 [int o, FV.sl 8 z4] z8 ∧ E true ∧ decide z6 = true ∧ E z7; let z11 := E false ∧ z3 ∧ E false ∧ z2 ∧ E false ∧ CallsF P G 69 [int o, FV.sl 8 z4] z8 ∧ E true ∧ decide z6 = true ∧ E z7; let z12 := E false ∧ (z3 ∧ E false ∧ E false ∧ z2 ∧ E false ∧ CallsF P G 69 [int o, FV.sl 8 z4] z8 ∧ E true ∧ decide z6 = true ∧ E z7) ∧ E false ∧ z3 ∧ E false ∧ z2 ∧ E false ∧ CallsF P G 69 [int o, FV.sl 8 z4] z8 ∧ E true ∧ decide z6 = true ∧ E z7; let z5 := E false ∧ z12 ∧ E false ∧ E false ∧ z3 ∧ E false ∧ z2 ∧ E false ∧ CallsF P G 69 [int o, FV.sl 8 z4] z8 ∧ E true ∧ decide z6 = true ∧ E z7; let z1 := E false ∧ z5 ∧ (E false ∧ z12 ∧ (z3 ∧ E false ∧ (E false ∧ E false ∧ z2 ∧ E false ∧ CallsF P G 69 [int o, FV.sl 8 z4] z8 ∧ E true ∧ decide z6 = true ∧ E z7) ∧ E false ∧ z10 ∧ z2 ∧ E false ∧ E false ∧ CallsF P G 69 [int o, FV.sl 8 z4] z8 ∧ E true ∧ decide z6 = true ∧ E z7) ∧ E false ∧ z11 ∧ z3 ∧ E false ∧ z10 ∧ z2 ∧ E false ∧ E false ∧ CallsF P G 69 [int o, FV.sl 8 z4] z8 ∧ E true ∧ decide z6 = true ∧ E z7) ∧ E false ∧ z9 ∧ E false ∧ z11 ∧ z3 ∧ E false ∧ z10 ∧ z2 ∧ E false ∧ E false ∧ CallsF P G 69 [int o, FV.sl 8 z4] z8 ∧ E true ∧ decide z6 = true ∧ E z7; E true ∧ E false ∧ (E false ∧ z5 ∧ z5 ∧ E false ∧ z9 ∧ E false ∧ E false ∧ z3 ∧ E false ∧ z2 ∧ E false ∧ CallsF P G 69 [int o, FV.sl 8 z4] z8 ∧ E true ∧ decide z6 = true ∧ E z7) ∧ z1 ∧ z1 ∧ E false ∧ (E false ∧ z9 ∧ E false ∧ E false ∧ z3 ∧ E false ∧ z2 ∧ E false ∧ CallsF P G 69 [int o, FV.sl 8 z4] z8 ∧ E true ∧ decide z6 = true ∧ E z7) ∧ (E false ∧ z9 ∧ E false ∧ z11 ∧ z3 ∧ E false ∧ z10 ∧ z2 ∧ E false ∧ E false ∧ CallsF P G 69 [int o, FV.sl 8 z4] z8 ∧ E true ∧ decide z6 = true ∧ E z7) ∧ E false ∧ z9 ∧ E false ∧ z11 ∧ z3 ∧ E false ∧ z10 ∧ z2 ∧ E false ∧ E false ∧ CallsF P G 69 [int o, FV.sl 8 z4] z8 ∧ E true ∧ decide z6 = true ∧ E z7) get14 ent14 (by kernel_rfl) ?_
  refine ⟨rfl, rfl, ⟨rfl, ⟨rfl, ⟨rfl, ⟨⟨?_, ?_, ?_, rfl⟩, rfl, rfl, ⟨?_, ?_, ?_, rfl⟩, rfl, ?_, rfl, ?_, rfl⟩, rfl, ⟨?_, ?_, ?_, rfl⟩, rfl, ⟨?_, ?_, ?_, rfl⟩, rfl, ?_, rfl, ?_, rfl⟩, rfl, rfl, ⟨?_, ?_, ?_, rfl⟩, rfl, ⟨?_, ?_, ?_, rfl⟩, rfl, ?_, rfl, ?_, rfl⟩, ⟨rfl, ⟨rfl, ⟨⟨?_, ?_, ?_, rfl⟩, rfl, rfl, ⟨?_, ?_, ?_, rfl⟩, rfl, ?_, rfl, ?_, rfl⟩, rfl, ⟨?_, ?_, ?_, rfl⟩, rfl, ⟨?_, ?_, ?_, rfl⟩, rfl, ?_, rfl, ?_, rfl⟩, rfl, rfl, ⟨?_, ?_, ?_, rfl⟩, rfl, ⟨?_, ?_, ?_, rfl⟩, rfl, ?_, rfl, ?_, rfl⟩, rfl, ⟨rfl, rfl, ⟨?_, ?_, ?_, rfl⟩, rfl, ⟨?_, ?_, ?_, rfl⟩, rfl, ?_, rfl, ?_, rfl⟩, rfl, rfl, ⟨?_, ?_, ?_, rfl⟩, rfl, ⟨?_, ?_, ?_, rfl⟩, rfl, ?_, rfl, ?_, rfl⟩, ⟨rfl, ⟨rfl, ⟨rfl, ⟨⟨?_, ?_, ?_, rfl⟩, rfl, rfl, ⟨?_, ?_, ?_, rfl⟩, rfl, ?_, rfl, ?_, rfl⟩, rfl, ⟨?_, ?_, ?_, rfl⟩, rfl, ⟨?_, ?_, ?_, rfl⟩, rfl, ?_, rfl, ?_, rfl⟩, rfl, rfl, ⟨?_, ?_, ?_, rfl⟩, rfl, ⟨?_, ?_, ?_, rfl⟩, rfl, ?_, rfl, ?_, rfl⟩, ⟨rfl, ⟨rfl, ⟨⟨?_, ?_, ?_, rfl⟩, rfl, rfl, ⟨?_, ?_, ?_, rfl⟩, rfl, ?_, rfl, ?_, rfl⟩, rfl, ⟨?_, ?_, ?_, rfl⟩, rfl, ⟨?_, ?_, ?_, rfl⟩, rfl, ?_, rfl, ?_, rfl⟩, ⟨⟨?_, ?_, ?_, rfl⟩, rfl, ⟨rfl, rfl, ⟨?_, ?_, ?_, rfl⟩, rfl, ?_, rfl, ?_, rfl⟩, rfl, ⟨rfl, ⟨?_, ?_, ?_, rfl⟩, rfl, ?_, rfl, ?_, rfl⟩, ⟨?_, ?_, ?_, rfl⟩, rfl, rfl, ?_, rfl, ?_, rfl⟩, rfl, ⟨rfl, ⟨?_, ?_, ?_, rfl⟩, rfl, ⟨?_, ?_, ?_, rfl⟩, rfl, ?_, rfl, ?_, rfl⟩, ⟨?_, ?_, ?_, rfl⟩, rfl, ⟨rfl, ⟨?_, ?_, ?_, rfl⟩, rfl, ?_, rfl, ?_, rfl⟩, ⟨?_, ?_, ?_, rfl⟩, rfl, rfl, ?_, rfl, ?_, rfl⟩, rfl, ⟨rfl, rfl, ⟨?_, ?_, ?_, rfl⟩, rfl, ⟨?_, ?_, ?_, rfl⟩, rfl, ?_, rfl, ?_, rfl⟩, rfl, ⟨rfl, ⟨?_, ?_, ?_, rfl⟩, rfl, ⟨?_, ?_, ?_, rfl⟩, rfl, ?_, rfl, ?_, rfl⟩, ⟨?_, ?_, ?_, rfl⟩, rfl, ⟨rfl, ⟨?_, ?_, ?_, rfl⟩, rfl, ?_, rfl, ?_, rfl⟩, ⟨?_, ?_, ?_, rfl⟩, rfl, rfl, ?_, rfl, ?_, rfl⟩, ⟨rfl, ⟨rfl, ⟨rfl, ⟨⟨?_, ?_, ?_, rfl⟩, rfl, rfl, ⟨?_, ?_, ?_, rfl⟩, rfl, ?_, rfl, ?_, rfl⟩, rfl, ⟨?_, ?_, ?_, rfl⟩, rfl, ⟨?_, ?_, ?_, rfl⟩, rfl, ?_, rfl, ?_, rfl⟩, rfl, rfl, ⟨?_, ?_, ?_, rfl⟩, rfl, ⟨?_, ?_, ?_, rfl⟩, rfl, ?_, rfl, ?_, rfl⟩, ⟨rfl, ⟨rfl, ⟨⟨?_, ?_, ?_, rfl⟩, rfl, rfl, ⟨?_, ?_, ?_, rfl⟩, rfl, ?_, rfl, ?_, rfl⟩, rfl, ⟨?_, ?_, ?_, rfl⟩, rfl, ⟨?_, ?_, ?_, rfl⟩, rfl, ?_, rfl, ?_, rfl⟩, ⟨⟨?_, ?_, ?_, rfl⟩, rfl, ⟨rfl, rfl, ⟨?_, ?_, ?_, rfl⟩, rfl, ?_, rfl, ?_, rfl⟩, rfl, ⟨rfl, ⟨?_, ?_, ?_, rfl⟩, rfl, ?_, rfl, ?_, rfl⟩, ⟨?_, ?_, ?_, rfl⟩, rfl, rfl, ?_, rfl, ?_, rfl⟩, rfl, ⟨rfl, ⟨?_, ?_, ?_, rfl⟩, rfl, ⟨?_, ?_, ?_, rfl⟩, rfl, ?_, rfl, ?_, rfl⟩, ⟨?_, ?_, ?_, rfl⟩, rfl, ⟨rfl, ⟨?_, ?_, ?_, rfl⟩, rfl, ?_, rfl, ?_, rfl⟩, ⟨?_, ?_, ?_, rfl⟩, rfl, rfl, ?_, rfl, ?_, rfl⟩, rfl, ⟨rfl, rfl, ⟨?_, ?_, ?_, rfl⟩, rfl, ⟨?_, ?_, ?_, rfl⟩, rfl, ?_, rfl, ?_, rfl⟩, rfl, ⟨rfl, ⟨?_, ?_, ?_, rfl⟩, rfl, ⟨?_, ?_, ?_, rfl⟩, rfl, ?_, rfl, ?_, rfl⟩, ⟨?_, ?_, ?_, rfl⟩, rfl, ⟨rfl, ⟨?_, ?_, ?_, rfl⟩, rfl, ?_, rfl, ?_, rfl⟩, ⟨?_, ?_, ?_, rfl⟩, rfl, rfl, ?_, rfl, ?_, rfl⟩, rfl, ⟨rfl, ⟨rfl, rfl, ⟨?_, ?_, ?_, rfl⟩, rfl, ⟨?_, ?_, ?_, rfl⟩, rfl, ?_, rfl, ?_, rfl⟩, rfl, rfl, ⟨?_, ?_, ?_, rfl⟩, rfl, ⟨?_, ?_, ?_, rfl⟩, rfl, ?_, rfl, ?_, rfl⟩, ⟨rfl, ⟨rfl, rfl, ⟨?_, ?_, ?_, rfl⟩, rfl, ⟨?_, ?_, ?_, rfl⟩, rfl, ?_, rfl, ?_, rfl⟩, rfl, ⟨rfl, ⟨?_, ?_, ?_, rfl⟩, rfl, ⟨?_, ?_, ?_, rfl⟩, rfl, ?_, rfl, ?_, rfl⟩, ⟨?_, ?_, ?_, rfl⟩, rfl, ⟨rfl, ⟨?_, ?_, ?_, rfl⟩, rfl, ?_, rfl, ?_, rfl⟩, ⟨?_, ?_, ?_, rfl⟩, rfl, rfl, ?_, rfl, ?_, rfl⟩, rfl, ⟨rfl, rfl, ⟨?_, ?_, ?_, rfl⟩, rfl, ⟨?_, ?_, ?_, rfl⟩, rfl, ?_, rfl, ?_, rfl⟩, rfl, ⟨rfl, ⟨?_, ?_, ?_, rfl⟩, rfl, ⟨?_, ?_, ?_, rfl⟩, rfl, ?_, rfl, ?_, rfl⟩, ⟨?_, ?_, ?_, rfl⟩, rfl, ⟨rfl, ⟨?_, ?_, ?_, rfl⟩, rfl, ?_, rfl, ?_, rfl⟩, ⟨?_, ?_, ?_, rfl⟩, rfl, rfl, ?_, rfl, ?_, rfl⟩
  all_goals first | exact h3 | exact oneF_cellsPs _ | (simp only [cellsPs_length, chunk, List.length_cons, List.length_nil, List.length_append, maxLen]; omega) | (simp only [cellsPs_length, decide_eq_true_eq, decide_eq_false_iff_not] at *; omega)
def Srq (o o2 : Int) (L M : List (V × V)) (i : Nat) : St := { sl := slots 56 [(0, .f (.ptr [int o, encPs L] 0)), (1, .f (.ptr [int o2, encPs M] 0)), (5, .f (int (i : Int)))], ob := [], nx := 0 }
theorem get19 : P.funcs[19]? = some Tryz.f19 := by kernel_rfl
theorem ent19 : entersP P 19 = true := by kernel_rfl
theorem req_len (o o2 : Int) (L M : List (V × V)) (h : L.length ≠ M.length) : CallsF P G 19 [.ptr [int o, encPs L] 0, .ptr [int o2, encPs M] 0] (bool false) := by
  refine sx_fn (hs := [.nat 11, .dec true]) ((E (true)) ∧ (((↑(List.length (cellsPs L)) : Int) != (↑(List.length (cellsPs M)) : Int)) = (true)) ∧ E (bool false)) get19 ent19 (by kernel_rfl) ?_
  refine ⟨rfl, ⟨?_, rfl⟩⟩
  all_goals (simp only [cellsPs_length, bne_iff_ne]; omega)
theorem req_true (o o2 : Int) (L M : List (V × V)) (N : Nat) (w : Nat → V) (h : L.length = M.length) (hN : N = L.length) (hl : L.length ≤ 1000000) (hg : ∀ i, i < N → CallsF P G 84 [.ptr [int o2, encPs M] 0, encV (L.getD i default).1] (.tup [encV (w i), bool true])) (hv : ∀ i, i < N → CallsF P G 85 [encV (w i), encV (L.getD i default).2] (bool true))  : CallsF P G 19 [.ptr [int o, encPs L] 0, .ptr [int o2, encPs M] 0] (bool true) := by
  refine sx_fn (hs := let z1 := cellsP (Prod.fst (List.getD L N default)) ++ cellsP (Prod.snd (List.getD L N default)); [.nat 11, .br [] [.loop [] [] (Srq o o2 L M) (N) (fun i => [.br [.el (cellsP (Prod.fst (List.getD L i default)) ++ cellsP (Prod.snd (List.getD L i default))), .call (FV.tup [encV (w i), bool true]), .nat 15, .dec false, .el (cellsP (Prod.fst (List.getD L i default)) ++ cellsP (Prod.snd (List.getD L i default))), .call (bool true), .dec false] []]), .br [.el z1, .call (FV.tup [encV (w N), bool true]), .nat 15, .dec false, .el z1, .call (bool true), .dec false] []]]) (let z3 := (↑(List.length (cellsPs L)) : Int); let z4 := AV.f (FV.ptr [int o2, FV.sl 8 (cellsPs M)] 0); let z5 := AV.f (FV.ptr [int o, FV.sl 8 (cellsPs L)] 0); let z6 := List.getD L N default; let z2 := Prod.fst z6; let z1 := E 8 ∧ (0 : Int) ≤ (N : Int) ∧ (cellsPs L)[N]? = some (int (V.kind z2) :: int (V.num z2) :: str (V.text z2) :: encI (V.items z2) :: cellsP (Prod.snd z6)); E true ∧ Br (z3 != (↑(List.length (cellsPs M)) : Int)) (bool false = bool true) ((E true ∧ (E z5 ∧ E z4 ∧ AV.f (int 0) = AV.f (int (Int.ofNat 0)) ∧ True) ∧ True ∧ E true ∧ (false = true → false = true)) ∧ (∀ (i : Nat), (let z9 := List.getD L i default; let z8 := Prod.fst z9; let z7 := E 8 ∧ (0 : Int) ≤ (i : Int) ∧ (cellsPs L)[i]? = some (int (V.kind z8) :: int (V.num z8) :: str (V.text z8) :: encI (V.items z8) :: cellsP (Prod.snd z9)); i < N → Br (decide ((i : Int) < z3)) (z7 ∧ CallsF P G 84 [FV.ptr [int o2, FV.sl 8 (cellsPs M)] 0, encV z8] (FV.tup [encV (w i), bool true]) ∧ E true ∧ E false ∧ z7 ∧ CallsF P G 85 [encV (w i), encV (Prod.snd z9)] (bool true) ∧ E false ∧ E true ∧ (E z5 ∧ E z4 ∧ AV.f (int (IntKind.wrap IntKind.i64 ((i : Int) + 1))) = AV.f (int (↑(i + 1) : Int)) ∧ True) ∧ True ∧ E true ∧ (St.nd (Srq o o2 L M (i + 1)) = true → false = true)) False)) ∧ Br (decide ((N : Int) < z3)) (z1 ∧ CallsF P G 84 [FV.ptr [int o2, FV.sl 8 (cellsPs M)] 0, encV z2] (FV.tup [encV (w N), bool true]) ∧ E true ∧ E false ∧ z1 ∧ CallsF P G 85 [encV (w N), encV (Prod.snd z6)] (bool true) ∧ E false ∧ False) (E (bool true)))) get19 ent19 (by kernel_rfl) ?_
  refine ⟨rfl, fun hi => ?_, fun hi => ⟨⟨rfl, ⟨rfl, rfl, ?_, trivial⟩, trivial, rfl, fun hi => ?_⟩, fun i => fun hlt => ⟨fun hi => ⟨⟨rfl, ?_, ?_⟩, ?_, rfl, rfl, ⟨rfl, ?_, ?_⟩, ?_, rfl, rfl, ⟨rfl, rfl, ?_, trivial⟩, trivial, rfl, fun hi => ?_⟩, fun hi => ?_⟩, fun hi => ⟨⟨rfl, ?_, ?_⟩, ?_, rfl, rfl, ⟨rfl, ?_, ?_⟩, ?_, rfl, ?_⟩, fun hi => rfl⟩⟩
  all_goals first | (exfalso; simp only [cellsPs_length, bne_iff_ne] at *; omega) | exact hg i (by assumption) | exact hv i (by assumption) | (exact cellsPs_get L _ (by omega)) | (simp only [cellsPs_length, decide_eq_true_eq, decide_eq_false_iff_not] at *; omega) | (exact congrArg (fun x => AV.f (int x)) (wrapS ((i : Int) + 1) (by omega) (by omega))) | (simp_all; done) | assumption
theorem req_no (o o2 : Int) (L M : List (V × V)) (N : Nat) (w : Nat → V) (z : FV) (h : L.length = M.length) (hN : N < L.length) (hl : L.length ≤ 1000000) (hg : ∀ i, i < N → CallsF P G 84 [.ptr [int o2, encPs M] 0, encV (L.getD i default).1] (.tup [encV (w i), bool true])) (hv : ∀ i, i < N → CallsF P G 85 [encV (w i), encV (L.getD i default).2] (bool true)) (hx : CallsF P G 84 [.ptr [int o2, encPs M] 0, encV (L.getD N default).1] (.tup [.agg [int 0, int 0, str [], .nils], bool false])) : CallsF P G 19 [.ptr [int o, encPs L] 0, .ptr [int o2, encPs M] 0] (bool false) := by
  refine sx_fn (hs := [.nat 11, .br [] [.loop [] [] (Srq o o2 L M) (N) (fun i => [.br [.el (cellsP (Prod.fst (List.getD L i default)) ++ cellsP (Prod.snd (List.getD L i default))), .call (FV.tup [encV (w i), bool true]), .nat 15, .dec false, .el (cellsP (Prod.fst (List.getD L i default)) ++ cellsP (Prod.snd (List.getD L i default))), .call (bool true), .dec false] []]), .br [.el (cellsP (Prod.fst (List.getD L N default)) ++ cellsP (Prod.snd (List.getD L N default))), .call (FV.tup [FV.agg [int 0, int 0, str [], FV.nils], bool false]), .nat 15, .dec true, .dec true] []]]) (let z1 := Prod.fst (List.getD L N default); let z2 := (↑(List.length (cellsPs L)) : Int); let z3 := AV.f (FV.ptr [int o2, FV.sl 8 (cellsPs M)] 0); let z4 := AV.f (FV.ptr [int o, FV.sl 8 (cellsPs L)] 0); E true ∧ Br (z2 != (↑(List.length (cellsPs M)) : Int)) (E (bool false)) ((E true ∧ (E z4 ∧ E z3 ∧ AV.f (int 0) = AV.f (int (Int.ofNat 0)) ∧ True) ∧ True ∧ E true ∧ (false = true → false = true)) ∧ (∀ (i : Nat), (let z7 := List.getD L i default; let z6 := Prod.fst z7; let z5 := E 8 ∧ (0 : Int) ≤ (i : Int) ∧ (cellsPs L)[i]? = some (int (V.kind z6) :: int (V.num z6) :: str (V.text z6) :: encI (V.items z6) :: cellsP (Prod.snd z7)); i < N → Br (decide ((i : Int) < z2)) (z5 ∧ CallsF P G 84 [FV.ptr [int o2, FV.sl 8 (cellsPs M)] 0, encV z6] (FV.tup [encV (w i), bool true]) ∧ E true ∧ E false ∧ z5 ∧ CallsF P G 85 [encV (w i), encV (Prod.snd z7)] (bool true) ∧ E false ∧ E true ∧ (E z4 ∧ E z3 ∧ AV.f (int (IntKind.wrap IntKind.i64 ((i : Int) + 1))) = AV.f (int (↑(i + 1) : Int)) ∧ True) ∧ True ∧ E true ∧ (St.nd (Srq o o2 L M (i + 1)) = true → false = true)) False)) ∧ Br (decide ((N : Int) < z2)) ((E 8 ∧ (0 : Int) ≤ (N : Int) ∧ (cellsPs L)[N]? = some (int (V.kind z1) :: int (V.num z1) :: str (V.text z1) :: encI (V.items z1) :: cellsP (Prod.snd (List.getD L N default)))) ∧ CallsF P G 84 [FV.ptr [int o2, FV.sl 8 (cellsPs M)] 0, encV z1] (FV.tup [FV.agg [int 0, int 0, str [], FV.nils], bool false]) ∧ E true ∧ E true ∧ E true ∧ E (bool false)) (bool true = bool false))) get19 ent19 (by kernel_rfl) ?_
  refine ⟨rfl, fun hi => rfl, fun hi => ⟨⟨rfl, ⟨rfl, rfl, ?_, trivial⟩, trivial, rfl, fun hi => ?_⟩, fun i => fun hlt => ⟨fun hi => ⟨⟨rfl, ?_, ?_⟩, ?_, rfl, rfl, ⟨rfl, ?_, ?_⟩, ?_, rfl, rfl, ⟨rfl, rfl, ?_, trivial⟩, trivial, rfl, fun hi => ?_⟩, fun hi => ?_⟩, fun hi => ⟨⟨rfl, ?_, ?_⟩, ?_, rfl, rfl, rfl, rfl⟩, fun hi => ?_⟩⟩
  all_goals first | exact hx | exact hg i (by assumption) | exact hv i (by assumption) | (exact cellsPs_get L _ (by omega)) | (simp only [cellsPs_length, decide_eq_true_eq, decide_eq_false_iff_not] at *; omega) | (exact congrArg (fun x => AV.f (int x)) (wrapS ((i : Int) + 1) (by omega) (by omega))) | (simp_all; done) | assumption
theorem req_other (o o2 : Int) (L M : List (V × V)) (N : Nat) (w : Nat → V) (h : L.length = M.length) (hN : N < L.length) (hl : L.length ≤ 1000000) (hg : ∀ i, i < N → CallsF P G 84 [.ptr [int o2, encPs M] 0, encV (L.getD i default).1] (.tup [encV (w i), bool true])) (hv : ∀ i, i < N → CallsF P G 85 [encV (w i), encV (L.getD i default).2] (bool true)) (hx : CallsF P G 84 [.ptr [int o2, encPs M] 0, encV (L.getD N default).1] (.tup [encV (w N), bool true])) (hy : CallsF P G 85 [encV (w N), encV (L.getD N default).2] (bool false)) : CallsF P G 19 [.ptr [int o, encPs L] 0, .ptr [int o2, encPs M] 0] (bool false) := by
  refine sx_fn (hs := let z1 := cellsP (Prod.fst (List.getD L N default)) ++ cellsP (Prod.snd (List.getD L N default)); [.nat 11, .br [] [.loop [] [] (Srq o o2 L M) (N) (fun i => [.br [.el (cellsP (Prod.fst (List.getD L i default)) ++ cellsP (Prod.snd (List.getD L i default))), .call (FV.tup [encV (w i), bool true]), .nat 15, .dec false, .el (cellsP (Prod.fst (List.getD L i default)) ++ cellsP (Prod.snd (List.getD L i default))), .call (bool true), .dec false] []]), .br [.el z1, .call (FV.tup [encV (w N), bool true]), .nat 15, .dec false, .el z1, .call (bool false), .dec true] []]]) (let z3 := (↑(List.length (cellsPs L)) : Int); let z4 := AV.f (FV.ptr [int o2, FV.sl 8 (cellsPs M)] 0); let z5 := AV.f (FV.ptr [int o, FV.sl 8 (cellsPs L)] 0); let z6 := List.getD L N default; let z2 := Prod.fst z6; let z1 := E 8 ∧ (0 : Int) ≤ (N : Int) ∧ (cellsPs L)[N]? = some (int (V.kind z2) :: int (V.num z2) :: str (V.text z2) :: encI (V.items z2) :: cellsP (Prod.snd z6)); E true ∧ Br (z3 != (↑(List.length (cellsPs M)) : Int)) (E (bool false)) ((E true ∧ (E z5 ∧ E z4 ∧ AV.f (int 0) = AV.f (int (Int.ofNat 0)) ∧ True) ∧ True ∧ E true ∧ (false = true → false = true)) ∧ (∀ (i : Nat), (let z9 := List.getD L i default; let z8 := Prod.fst z9; let z7 := E 8 ∧ (0 : Int) ≤ (i : Int) ∧ (cellsPs L)[i]? = some (int (V.kind z8) :: int (V.num z8) :: str (V.text z8) :: encI (V.items z8) :: cellsP (Prod.snd z9)); i < N → Br (decide ((i : Int) < z3)) (z7 ∧ CallsF P G 84 [FV.ptr [int o2, FV.sl 8 (cellsPs M)] 0, encV z8] (FV.tup [encV (w i), bool true]) ∧ E true ∧ E false ∧ z7 ∧ CallsF P G 85 [encV (w i), encV (Prod.snd z9)] (bool true) ∧ E false ∧ E true ∧ (E z5 ∧ E z4 ∧ AV.f (int (IntKind.wrap IntKind.i64 ((i : Int) + 1))) = AV.f (int (↑(i + 1) : Int)) ∧ True) ∧ True ∧ E true ∧ (St.nd (Srq o o2 L M (i + 1)) = true → false = true)) False)) ∧ Br (decide ((N : Int) < z3)) (z1 ∧ CallsF P G 84 [FV.ptr [int o2, FV.sl 8 (cellsPs M)] 0, encV z2] (FV.tup [encV (w N), bool true]) ∧ E true ∧ E false ∧ z1 ∧ CallsF P G 85 [encV (w N), encV (Prod.snd z6)] (bool false) ∧ E true ∧ E (bool false)) (bool true = bool false))) get19 ent19 (by kernel_rfl) ?_
  refine ⟨rfl, fun hi => rfl, fun hi => ⟨⟨rfl, ⟨rfl, rfl, ?_, trivial⟩, trivial, rfl, fun hi => ?_⟩, fun i => fun hlt => ⟨fun hi => ⟨⟨rfl, ?_, ?_⟩, ?_, rfl, rfl, ⟨rfl, ?_, ?_⟩, ?_, rfl, rfl, ⟨rfl, rfl, ?_, trivial⟩, trivial, rfl, fun hi => ?_⟩, fun hi => ?_⟩, fun hi => ⟨⟨rfl, ?_, ?_⟩, ?_, rfl, rfl, ⟨rfl, ?_, ?_⟩, ?_, rfl, rfl⟩, fun hi => ?_⟩⟩
  all_goals first | exact hx | exact hy | exact hg i (by assumption) | exact hv i (by assumption) | (exact cellsPs_get L _ (by omega)) | (simp only [cellsPs_length, decide_eq_true_eq, decide_eq_false_iff_not] at *; omega) | (exact congrArg (fun x => AV.f (int x)) (wrapS ((i : Int) + 1) (by omega) (by omega))) | (simp_all; done) | assumption
end Go.Sx
set_option maxRecDepth 100000
set_option maxHeartbeats 4000000
set_option linter.unusedSimpArgs false
set_option linter.unusedVariables false
namespace Go.Sx
open Go.Proofs Sp
theorem stA {N i : Nat} {th ev : Nat → Bool} (hb : ∀ i, i < N → th i = true ∧ ev i = true) (h : (!th i) = true) : ¬ i < N := fun g => by rw [(hb i g).1] at h; cases h
theorem stB {N i : Nat} {th ev : Nat → Bool} (hb : ∀ i, i < N → th i = true ∧ ev i = true) (h : (!ev i) = true) : ¬ i < N := fun g => by rw [(hb i g).2] at h; cases h
theorem stC {N i : Nat} {th ev : Nat → Bool} (hb2 : th N = true → ev N = false) (a : i < N + 1) (b : (!th i) = false) (c : (!ev i) = false) : i < N := by
  rcases Nat.lt_or_ge i N with g | g
  · exact g
  · obtain rfl : i = N := by omega
    cases ht : th i with
    | false => rw [ht] at b; cases b
    | true => rw [hb2 ht] at c; cases c
theorem suA {N i : Nat} {er : Nat → Int} (h0 : ∀ i, i ≤ N → er i = 0) (h : (er (i + 1) != 0) = true) : ¬ i < N := fun g => by rw [h0 (i + 1) (by omega)] at h; simp at h
theorem suB {N i : Nat} {er : Nat → Int} (h1 : er (N + 1) ≠ 0) (a : i < N + 1) (h : (er (i + 1) != 0) = false) : i < N := by
  rcases Nat.lt_or_ge i N with g | g
  · exact g
  · obtain rfl : i = N := by omega
    simp at h; exact absurd h h1
theorem walkR_stop {b : Nat → Bool} : ∀ (t : T) (i m : Nat), i ≤ m → m < i + t.size → (∀ j, i ≤ j → j < m → b j = true) → b m = false → walkR b t i = (false, m + 1)
  | .nil, i, m, h1, h2, _, _ => by simp only [T.size] at h2; omega
  | .node c l r k v, i, m, h1, h2, h3, h4 => by
    simp only [T.size] at h2
    simp only [walkR]
    rcases Nat.lt_or_ge m (i + l.size) with h | h
    · rw [walkR_stop l i m h1 h h3 h4]; simp
    · rw [walkR_all l i fun j g1 g2 => h3 j g1 (by omega)]
      simp only [if_true]
      rcases Nat.lt_or_ge (i + l.size) m with h5 | h5
      · rw [h3 (i + l.size) (by omega) h5]
        simp only [if_true]
        exact walkR_stop r _ m (by omega) (by omega) (fun j g1 g2 => h3 j (by omega) g2) h4
      · obtain rfl : m = i + l.size := by omega
        rw [h4]; simp
theorem walk_stop (Y : Yd) (hlaw : YLaw P G Y) : ∀ (x : T) (i : Nat), (∀ j, j < i + x.size → (∀ k, k < j → Y.b k = true) → j < Y.n) → (∀ j, j < i → Y.b j = true) → (∀ j, j < x.size → Y.it (i + j) = itL x.toList j) →
    CallsX P G 128 [encT x, .sc Y.u] Y i (bool (walkR Y.b x i).1) (walkR Y.b x i).2
  | .nil, i, _, _, _ => walk_nil Y i
  | .node c l r k v, i, hn, hb, hit => by
    simp only [T.size] at hn hit
    have hll := T.toList_length l
    refine walk_step Y _ i rfl (walk_stop Y hlaw l i (fun j hj h2 => hn j (by omega) h2) hb fun j hj => ?_) (fun h => ?_) (fun h h2 => ?_)
    · have hj : j < l.size := hj
      rw [hit j (by omega)]
      simp [itL, T.toList, List.getD_eq_getElem?_getD, List.getElem?_append_left (show j < l.toList.length by omega)]
    · obtain ⟨e1, e2⟩ := walkR_true Y.b l i h
      show YLaw P G Y ∧ Y.alive (walkR Y.b l i).2 ∧ Y.it (walkR Y.b l i).2 = [encV k, encV v]
      rw [e1]
      have hall : ∀ j, j < i + l.size → Y.b j = true := fun j hj => by
        rcases Nat.lt_or_ge j i with h3 | h3
        · exact hb j h3
        · exact e2 j h3 hj
      refine ⟨hlaw, ⟨hall, hn _ (by omega) hall⟩, ?_⟩
      rw [hit l.size (by omega)]
      simp [itL, T.toList, List.getD_eq_getElem?_getD, List.getElem?_append_right (show l.toList.length ≤ l.size by omega), hll]
    · obtain ⟨e1, e2⟩ := walkR_true Y.b l i h
      have h2 : Y.b (walkR Y.b l i).2 = true := h2
      show CallsX P G 128 [encT r, .sc Y.u] Y ((walkR Y.b l i).2 + 1) (bool (walkR Y.b r ((walkR Y.b l i).2 + 1)).1) (walkR Y.b r ((walkR Y.b l i).2 + 1)).2
      rw [e1] at h2 ⊢
      refine walk_stop Y hlaw r _ (fun j hj h2 => hn j (by omega) h2) (fun j hj => ?_) (fun j hj => ?_)
      · rcases Nat.lt_or_ge j i with h3 | h3
        · exact hb j h3
        · rcases Nat.lt_or_ge j (i + l.size) with h4 | h4
          · exact e2 j h3 h4
          · rw [show j = i + l.size from by omega]; exact h2
      · rw [show i + l.size + 1 + j = i + (l.size + 1 + j) from by omega, hit _ (by omega)]
        simp [itL, T.toList, List.getD_eq_getElem?_getD, List.getElem?_append_right (show l.toList.length ≤ l.size + 1 + j by omega), hll, show l.size + 1 + j - l.size = j + 1 from by omega]
theorem all1_stop (Y : Yd) (o n : Int) (t : T) (hf : ∀ p, p ∈ t.toList → Fine p.1 ∧ Fine p.2) (hlaw : YLaw P G Y) (hn1 : Y.n ≤ t.size) (hn : ∀ j, j < t.size → (∀ k, k < j → Y.b k = true) → j < Y.n) (hit : Y.it = itL t.toList) : CallsX P G 127 [.sc Y.u, .ptr [encM o n t] 0] (Y) (0) (.tup []) ((walkR Y.b t 0).2) := by
  refine sx_fnX (hs := [.ones, .call (encT t), .frz [1], .callC 0 1 Y.it (walkR Y.b t 0).2 (bool (walkR Y.b t 0).1)]) (let z1 := Prod.snd (walkR (Yd.b Y) t 0); E true ∧ AV.one (AV.f (FV.sc (Yd.u Y))) = true ∧ CallsF P G 77 [encM o n t] (encT t) ∧ ((∀ (Y' : Yd), (((Yd.it Y') = (Yd.it Y)) → ((((Yd.b Y') = (Yd.b Y)) → ((((Yd.n Y') = (Yd.n Y)) → (((YLaw P G Y') → (CallsX P G 128 ([encT t, FV.sc (Yd.u Y')]) (Y') (0) (bool (Prod.fst (walkR (Yd.b Y) t 0))) z1))))))))) ∧ ∀ (j : Nat), Yd.alive Y j → CallsX P G 129 ([] ++ Yd.it Y j ++ [FV.ptr [FV.sc (Yd.u Y)] 0]) (Y) (j) (bool (Yd.b Y j)) (j + 1)) ∧ E Y ∧ E z1 ∧ E (FV.tup [])) get127 ent127 (by kernel_rfl) ?_
  refine ⟨rfl, ?_, ?_, ⟨fun Y' => fun hi => fun hi => fun hi => fun hi => ?_, fun j => fun hi => ?_⟩, rfl, rfl, rfl⟩
  all_goals first | exact Y.one | exact tree_ok _ _ _ | (rename_i h1 h2 h3; rw [← h2]; exact walk_stop Y' hi t 0 (fun j hj hb => by rw [h3]; exact hn j (by omega) (fun k hk => by rw [← h2]; exact hb k hk)) (fun j hj => by omega) (fun j hj => by rw [h1, hit, Nat.zero_add])) | (have h0 : j < t.toList.length := (by rw [T.toList_length]; have h1 := hi.2; omega); have h9 := fineP hf h0; have h8 : Y.it j = _ := congrFun hit j; have h7 := all11_ok Y _ _ j h9.1 h9.2 hlaw hi h8; rw [h8]; exact h7)
theorem requal_no (o n o2 : Int) (t t2 : T) (N : Nat) (w : Nat → V) (th ev : Nat → Bool) (hf : ∀ p, p ∈ t.toList → Fine p.1 ∧ Fine p.2) (hs : t.size ≤ 131072) (hN : N < t.toList.length) (hg : ∀ i, i < N + 1 → CallsF P G 73 [encM o2 n t2, encV (t.toList.getD i default).1] (.tup [encV (w i), bool (th i), int 0])) (hv : ∀ i, i < N + 1 → th i = true → CallsF P G 83 [encV (t.toList.getD i default).2, encV (w i)] (bool (ev i))) (hb : ∀ i, i < N → th i = true ∧ ev i = true) (hb2 : th N = true → ev N = false) : CallsF P G 18 [encM o n t, encM o2 n t2] (bool false) := by
  refine sx_fn (hs := [.nat 5, .call (int n), .call (int n), .dec false, .call (.fn 127 [] [.ptr [encM o n t] 0]), .range [(0,0),(1,1)] (Seqm (encM o2 n t2)) (N + 1) (itL t.toList) (fun i => decide (i < N)) (.tup []) (some .ret) (fun i => [.call (.tup [encV (w i), bool (th i), int 0]), .br [.br [.ren [(0,0),(1,1)]] [.ren [(0,0),(1,1)]]] [.call (bool (ev i)), .br [.ren [(0,0),(1,1)]] [.ren [(0,0),(1,1)]]]])]) (let z1 := E (Ob.box [AV.f (encM o2 n t2)]) ∧ E (Ob.box [AV.f (bool false)]) ∧ True; let z2 := E (AV.loc 0 0) ∧ E (AV.loc 1 0) ∧ True; E true ∧ CallsF P G 76 [encM o n t] (int n) ∧ CallsF P G 76 [encM o2 n t2] (int n) ∧ (n != n) = false ∧ CallsF P G 78 [encM o n t] (FV.fn 127 [] [FV.ptr [encM o n t] 0]) ∧ (E true ∧ z2 ∧ z1 ∧ E true ∧ (false = true → false = true)) ∧ E false ∧ E true ∧ (∀ (i : Nat), i ≤ N + 1 → E true) ∧ (∀ (Y : Yd), Yd.it Y = itL (T.toList t) → Yd.b Y = (fun i => decide (i < N)) → Yd.n Y = (N + 1) → YLaw P G Y → CallsX P G 127 ([FV.sc (Yd.u Y), FV.ptr [encM o n t] 0]) (Y) (0) (FV.tup []) (N + 1)) ∧ (∀ (i : Nat), (let z3 := List.getD (T.toList t) i default; i < N + 1 → E true ∧ E true ∧ CallsF P G 73 [encM o2 n t2, encV (Prod.fst z3)] (FV.tup [encV (w i), bool (th i), int 0]) ∧ Br (!th i) ((E true → (((fun i => decide (i < N)) i) = false ∧ (i + 1) = (N + 1) ∧ E (some Ex.ret)) ∧ E true ∧ z2 ∧ z1 ∧ E true ∧ (false = true → false = true)) ∧ (true = false → ((fun i => decide (i < N)) i) = true ∧ E true ∧ z2 ∧ z1 ∧ E true ∧ (false = true → false = true))) (CallsF P G 83 [encV (Prod.snd z3), encV (w i)] (bool (ev i)) ∧ Br (!ev i) ((((fun i => decide (i < N)) i) = false ∧ (i + 1) = (N + 1) ∧ E (some Ex.ret)) ∧ E true ∧ z2 ∧ z1 ∧ E true ∧ (false = true → false = true)) (((fun i => decide (i < N)) i) = true ∧ E true ∧ z2 ∧ z1 ∧ E true ∧ (false = true → false = true))))) ∧ ((0 : Nat) < N + 1 ∧ ((fun i => decide (i < N)) (N + 1 - 1)) = false) ∧ E (bool false)) get18 ent18 (by kernel_rfl) ?_
  refine ⟨rfl, ?_, ?_, ?_, ?_, ⟨rfl, ⟨rfl, rfl, trivial⟩, ⟨rfl, rfl, trivial⟩, rfl, fun hi => ?_⟩, rfl, rfl, fun i => fun hi => rfl, fun Y => fun hi => fun hi => fun hi => fun hi => ?_, fun i => fun hi => ⟨rfl, rfl, ?_, fun hi => ⟨fun hi => ⟨⟨?_, ?_, rfl⟩, rfl, ⟨rfl, rfl, trivial⟩, ⟨rfl, rfl, trivial⟩, rfl, fun hi => ?_⟩, fun hi => ⟨?_, rfl, ⟨rfl, rfl, trivial⟩, ⟨rfl, rfl, trivial⟩, rfl, fun hi => ?_⟩⟩, fun hi => ⟨?_, fun hi => ⟨⟨?_, ?_, rfl⟩, rfl, ⟨rfl, rfl, trivial⟩, ⟨rfl, rfl, trivial⟩, rfl, fun hi => ?_⟩, fun hi => ⟨?_, rfl, ⟨rfl, rfl, trivial⟩, ⟨rfl, rfl, trivial⟩, rfl, fun hi => ?_⟩⟩⟩, ⟨?_, ?_⟩, rfl⟩
  all_goals first | exact all_ok _ _ _ | exact len_ok _ _ _ | exact hg i (by assumption) | (rename_i a b; exact decide_eq_false (stA hb b)) | (rename_i a b; have q := stA hb b; omega) | (exact decide_eq_false (stB hb hi)) | (have q := stB hb hi; omega) | (rename_i a b; exact decide_eq_true (stC hb2 a b hi)) | (simp; done) | (rename_i h1 h2 h3; have h8 := T.toList_length t; have e : (walkR Y.b t 0).2 = N + 1 := (by rw [h2, walkR_stop t 0 N (by omega) (by omega) (fun j _ g => decide_eq_true g) (by simp)]); have h5 := all1_stop Y o n t hf hi (by omega) (fun j hj hb => by rw [h3]; exact Nat.lt_succ_of_le (Nat.le_of_not_lt fun g => by have h7 := hb N g; rw [h2] at h7; simp at h7)) h1; rw [e] at h5; exact h5) | assumption | (simp_all [V.kind, V.num, V.text, V.items]; done)
def Sunx (o : Int) (X : Nat → T × Nat) (er : Nat → Int) (i : Nat) : St := { sl := slots 35 [(4, .loc 0 0), (5, .loc 1 0), (6, .loc 2 0)], ob := [(0, .box [.f (.sc (.pointer none))]), (1, .box [.f (int (er i))]), (2, .box [.f (encX o (X i))])], nx := 3 }
theorem union_no (o o2 n2 : Int) (t2 : T) (X : Nat → T × Nat) (D : Nat → FV) (er : Nat → Int) (N : Nat) (hf : ∀ p, p ∈ t2.toList → Fine p.1 ∧ Fine p.2) (hs : t2.size ≤ 131072) (hN : N < t2.toList.length) (ha : ∀ i, i < N + 1 → CallsF P G 79 [encX o (X i), encV (t2.toList.getD i default).1, encV (t2.toList.getD i default).2] (.tup [D i, int (er (i + 1))])) (h0 : ∀ i, i ≤ N → er i = 0) (h1 : er (N + 1) ≠ 0) (hD : ∀ i, i < N → D i = encX o (X (i + 1))) (hX : X (N + 1) = X N) : CallsF P G 13 [encX o (X 0), encM o2 n2 t2] (.tup [.sc (.pointer none), int (er (N + 1))]) := by
  refine sx_fn (hs := [.call (int o), .call (int ((X 0).2 : Int)), .call (encT (X 0).1), .ones, .lfz [2], .call (.fn 127 [] [.ptr [encM o2 n2 t2] 0]), .range [(0,0),(1,1),(3,2)] (Sunx o X er) (N + 1) (itL t2.toList) (fun i => decide (i < N)) (.tup []) (some .ret) (fun i => [.call (.tup [D i, int (er (i + 1))]), .br [.ren [(0,0),(1,1),(2,2)]] [.ones, .ren [(0,0),(1,1),(2,2)]]])]) (let z1 := E (AV.loc 0 0) ∧ E (AV.loc 1 0) ∧ E (AV.loc 2 0) ∧ True; let z2 := (↑(Prod.snd (X 0)) : Int); let z3 := Ob.box [AV.f (FV.sc (Value.pointer none))]; CallsF P G 75 [FV.ptr [int o, int z2, encT (Prod.fst (X 0))] 0] (int o) ∧ CallsF P G 76 [FV.ptr [int o, int z2, encT (Prod.fst (X 0))] 0] (int z2) ∧ CallsF P G 77 [FV.ptr [int o, int z2, encT (Prod.fst (X 0))] 0] (encT (Prod.fst (X 0))) ∧ (E true ∧ E true ∧ AV.one (AV.f (encT (Prod.fst (X 0)))) = true ∧ True) ∧ CallsF P G 78 [encM o2 n2 t2] (FV.fn 127 [] [FV.ptr [encM o2 n2 t2] 0]) ∧ (E true ∧ z1 ∧ (E z3 ∧ Ob.box [AV.f (int 0)] = Ob.box [AV.f (int (er 0))] ∧ E (Ob.box [AV.f (FV.ptr [int o, int z2, encT (Prod.fst (X 0))] 0)]) ∧ True) ∧ E true ∧ (false = true → false = true)) ∧ E false ∧ E true ∧ (∀ (i : Nat), i ≤ N + 1 → E true) ∧ (∀ (Y : Yd), Yd.it Y = itL (T.toList t2) → Yd.b Y = (fun i => decide (i < N)) → Yd.n Y = (N + 1) → YLaw P G Y → CallsX P G 127 ([FV.sc (Yd.u Y), FV.ptr [encM o2 n2 t2] 0]) (Y) (0) (FV.tup []) (N + 1)) ∧ (∀ (i : Nat), (let z4 := FV.ptr [int o, int (↑(Prod.snd (X (i + 1))) : Int), encT (Prod.fst (X (i + 1)))] 0; let z5 := List.getD (T.toList t2) i default; i < N + 1 → E true ∧ E true ∧ CallsF P G 79 [FV.ptr [int o, int (↑(Prod.snd (X i)) : Int), encT (Prod.fst (X i))] 0, encV (Prod.fst z5), encV (Prod.snd z5)] (FV.tup [D i, int (er (i + 1))]) ∧ Br (er (i + 1) != 0) ((((fun i => decide (i < N)) i) = false ∧ (i + 1) = (N + 1) ∧ E (some Ex.ret)) ∧ E true ∧ z1 ∧ (E z3 ∧ E (Ob.box [AV.f (int (er (i + 1)))]) ∧ Ob.box [AV.f (FV.ptr [int o, int (↑(Prod.snd (X i)) : Int), encT (Prod.fst (X i))] 0)] = Ob.box [AV.f z4] ∧ True) ∧ E true ∧ (false = true → false = true)) (AV.one (AV.f (D i)) = true ∧ ((fun i => decide (i < N)) i) = true ∧ E true ∧ z1 ∧ (E z3 ∧ Ob.box [AV.f (int (er i))] = Ob.box [AV.f (int (er (i + 1)))] ∧ Ob.box [AV.f (D i)] = Ob.box [AV.f z4] ∧ True) ∧ E true ∧ (false = true → false = true)))) ∧ ((0 : Nat) < N + 1 ∧ ((fun i => decide (i < N)) (N + 1 - 1)) = false) ∧ E (FV.tup [FV.sc (Value.pointer none), int (er (N + 1))])) get13 ent13 (by kernel_rfl) ?_
  refine ⟨?_, ?_, ?_, ⟨rfl, rfl, ?_, trivial⟩, ?_, ⟨rfl, ⟨rfl, rfl, rfl, trivial⟩, ⟨rfl, ?_, rfl, trivial⟩, rfl, fun hi => ?_⟩, rfl, rfl, fun i => fun hi => rfl, fun Y => fun hi => fun hi => fun hi => fun hi => ?_, fun i => fun hi => ⟨rfl, rfl, ?_, fun hi => ⟨⟨?_, ?_, rfl⟩, rfl, ⟨rfl, rfl, rfl, trivial⟩, ⟨rfl, rfl, ?_, trivial⟩, rfl, fun hi => ?_⟩, fun hi => ⟨?_, ?_, rfl, ⟨rfl, rfl, rfl, trivial⟩, ⟨rfl, ?_, ?_, trivial⟩, rfl, fun hi => ?_⟩⟩, ⟨?_, ?_⟩, rfl⟩
  all_goals first | exact all_ok _ _ _ | exact encT_one _ | exact order_ok _ _ _ | exact len_ok _ _ _ | exact tree_ok _ _ _ | exact ha i (by assumption) | (exact decide_eq_false (suA h0 hi)) | (have q := suA h0 hi; omega) | (rename_i a; exact decide_eq_true (suB h1 a hi)) | (rename_i a; have q : i = N := (by have := suA h0 hi; omega); rw [q, hX]) | (rename_i a; rw [hD i (suB h1 a hi)]; rfl) | (rename_i a; have q := suB h1 a hi; rw [h0 i (by omega), h0 (i + 1) (by omega)]) | (rw [h0 0 (by omega)]) | (rename_i h1 h2 h3; have h8 := T.toList_length t2; have e : (walkR Y.b t2 0).2 = N + 1 := (by rw [h2, walkR_stop t2 0 N (by omega) (by omega) (fun j _ g => decide_eq_true g) (by simp)]); have h5 := all1_stop Y o2 n2 t2 hf hi (by omega) (fun j hj hb => by rw [h3]; exact Nat.lt_succ_of_le (Nat.le_of_not_lt fun g => by have h7 := hb N g; rw [h2] at h7; simp at h7)) h1; rw [e] at h5; exact h5) | assumption | omega | (simp only [decide_eq_true_eq, decide_eq_false_iff_not]; omega)
end Go.Sx
set_option maxRecDepth 100000
set_option maxHeartbeats 4000000
set_option linter.unusedSimpArgs false
set_option linter.unusedVariables false
namespace Go.Sx
open Go.Proofs Sp
theorem assoc_long (c : V → V → Int) (o n : Int) (t : T) (k v : V) (hk : Fine k) (hv : Fine v) (h : pairE k v = 0) (hn : n = 65536) (hf : (T.find c k t).isNil = true) (hc : ∀ y, y ∈ t.toList.map (·.1) → CallsF P G 113 [encM o n t, encV k, encV y] (int (c k y))) : CallsF P G 79 [encM o n t, encV k, encV v] (.tup [.sc (.pointer none), int 2]) := by
  refine sx_fn (hs := [.call (int (pairE k v)), .br [] [.call (int n), .br [.call (encT (T.find c k t)), .isn (T.isNil (T.find c k t)), .br [] [.nat 8, .call (encV k), .call (encV v), .call (withM c o n t k v)]] [.dec false, .nat 8, .call (encV k), .call (encV v), .call (withM c o n t k v)]]]) (let z1 := T.blackened (T.insert c k v t); let z2 := FV.ptr [int o, int (withN c n t k), encT z1] 0; CallsF P G 121 [encV k, encV v] (int (pairE k v)) ∧ Br (pairE k v != 0) (FV.tup [FV.sc (Value.pointer none), int (pairE k v)] = FV.tup [FV.sc (Value.pointer none), int 2]) (CallsF P G 76 [encM o n t] (int n) ∧ Br (n == 65536) (CallsF P G 122 [encM o n t, encV k] (encT (T.find c k t)) ∧ IsNil (encT (T.find c k t)) (T.isNil (T.find c k t)) ∧ Br (T.isNil (T.find c k t)) (E (FV.tup [FV.sc (Value.pointer none), int 2])) (E true ∧ CallsF P G 66 [encV k] (encV k) ∧ CallsF P G 66 [encV v] (encV v) ∧ CallsF P G 65 [encM o n t, encV k, encV v] z2 ∧ FV.tup [FV.ptr [int o, int (withN c n t k), encT z1] 0, int 0] = FV.tup [FV.sc (Value.pointer none), int 2])) (E false ∧ E true ∧ CallsF P G 66 [encV k] (encV k) ∧ CallsF P G 66 [encV v] (encV v) ∧ CallsF P G 65 [encM o n t, encV k, encV v] z2 ∧ FV.tup [FV.ptr [int o, int (withN c n t k), encT z1] 0, int 0] = FV.tup [FV.sc (Value.pointer none), int 2]))) get79 ent79 (by kernel_rfl) ?_
  refine ⟨?_, fun hi => ?_, fun hi => ⟨?_, fun hi => ⟨?_, ?_, fun hi => rfl, fun hi => ⟨rfl, ?_, ?_, ?_, ?_⟩⟩, fun hi => ⟨rfl, rfl, ?_, ?_, ?_, ?_⟩⟩⟩
  all_goals first | (exfalso; rw [h] at *; simp_all; done) | exact encT_isn _ | exact len_ok _ _ _ | exact find_ok _ _ _ _ _ (by assumption) | exact pair_ok _ _ (by assumption) (by assumption)
theorem foldL_sub (c : V → V → Int) : ∀ (l A : List (V × V)) (q : V × V), q ∈ foldL c A l → q ∈ A ∨ q ∈ l
  | [], A, q, h => .inl h
  | x :: l, A, q, h => by
    rcases foldL_sub c l (insL c A x) q h with h | h
    · unfold insL at h
      rcases List.mem_append.1 h with h | h
      · exact .inl (List.mem_of_mem_take h)
      · rcases List.mem_cons.1 h with rfl | h
        · exact .inr (by simp)
        · exact .inl (List.mem_of_mem_drop h)
    · exact .inr (by simp [h])
theorem foldL_len {c : V → V → Int} (H : Line c (fun _ => True)) : ∀ (l A : List (V × V)), Rising c A → (foldL c A l).length ≤ A.length + l.length ∧ A.length ≤ (foldL c A l).length
  | [], A, _ => by simp [foldL]
  | x :: l, A, h => by
    obtain ⟨w1, w2⟩ := upto_ahead H x.1 h
    have u1 := (upto_place H x.1 h).1
    have e : (insL c A x).length = aheadN c x.1 A + 1 + (A.length - uptoN c x.1 A) := by
      unfold insL
      rw [List.length_append, List.length_take, List.length_cons, List.length_drop]
      omega
    obtain ⟨h1, h2⟩ := foldL_len H l (insL c A x) (mem_ins H x A h).2
    have e2 : foldL c A (x :: l) = foldL c (insL c A x) l := rfl
    rw [e2, List.length_cons]
    omega
theorem build_ok (o : Int) (ho : 0 ≤ o ∧ o ≤ 5) : ∀ (f : Nat) (l : List (V × V)), l.length ≤ f → l.length ≤ 1000000 → (∀ q, q ∈ l → RP q) → CallsF P G 69 [int o, encPs l] (.ptr [int o, encPs (foldL (cmpO o) [] l)] 0)
  | _, [], _, _, _ => (bld_0 o).le (le_map o)
  | _, [q], _, _, _ => by
    have h := bld_1 o q
    rw [show foldL (cmpO o) [] [q] = [q] from ins_nil _ q]
    exact h
  | 0, x :: y :: l, h, _, _ => by simp at h
  | f + 1, x :: y :: l, h, hl, hR => by
    have hln : (x :: y :: l).length = l.length + 2 := by simp
    generalize hL : x :: y :: l = L at *
    have h1 := build_ok o ho f (L.take (L.length / 2)) (by rw [List.length_take]; omega) (by rw [List.length_take]; omega) fun q hq => hR q (List.mem_of_mem_take hq)
    have h2 := build_ok o ho f (L.drop (L.length / 2)) (by rw [List.length_drop]; omega) (by rw [List.length_drop]; omega) fun q hq => hR q (List.mem_of_mem_drop hq)
    have hA := fold_rising (cmpO_line o) (L.take (L.length / 2)) [] (rising_nil _)
    have hB := fold_rising (cmpO_line o) (L.drop (L.length / 2)) [] (rising_nil _)
    have lA := (foldL_len (cmpO_line o) (L.take (L.length / 2)) [] (rising_nil _)).1
    have lB := (foldL_len (cmpO_line o) (L.drop (L.length / 2)) [] (rising_nil _)).1
    have mA : ∀ q, q ∈ foldL (cmpO o) [] (L.take (L.length / 2)) → RP q := fun q hq => by
      rcases foldL_sub _ _ _ q hq with h | h
      · simp at h
      · exact hR q (List.mem_of_mem_take h)
    have mB : ∀ q, q ∈ foldL (cmpO o) [] (L.drop (L.length / 2)) → RP q := fun q hq => by
      rcases foldL_sub _ _ _ q hq with h | h
      · simp at h
      · exact hR q (List.mem_of_mem_drop h)
    have e := fold_app (cmpO_line o) (L.take (L.length / 2)) (L.drop (L.length / 2))
    rw [List.take_append_drop] at e
    rw [e]
    generalize foldL (cmpO o) [] (L.take (L.length / 2)) = A at *
    generalize foldL (cmpO o) [] (L.drop (L.length / 2)) = B at *
    simp only [List.length_take, List.length_drop, List.length_nil] at lA lB
    obtain ⟨N, n1, n2, n3, n4⟩ := runB_end (cmpO o) A B
    refine bld_m o (cmpO o) L A B N (L.length / 2) rfl (by omega) (by omega) (by rw [cellsPs_take]; exact h1) (by rw [cellsPs_drop]; exact h2) (fun i j hi hj => ?_) n2 n3 n4 fun i hi => ?_
    · have a := allP mA hi
      have b := allP mB hj
      exact refOrd_ok o ho _ _ a.1 b.1 a.2.2.1 b.2.2.1
    · obtain ⟨g1, g2, g3, g4, _⟩ := runB_inv (cmpO o) A B i fun j hj => n2 j (by omega)
      exact ⟨g1, g2, g3, g4⟩
/-- A map with pairs put in, one by one. -/
def unT (c : V → V → Int) (x : T × Nat) (l : List (V × V)) : Nat → T × Nat
  | 0 => x
  | i + 1 => putT c (unT c x l i) (l.getD i default).1 (l.getD i default).2
theorem unT_ok (o : Int) {x : T × Nat} (hx : OkX x) (hR : Rising (cmpO o) x.1.toList) {l : List (V × V)} (hl : ∀ q, q ∈ l → RP q) : ∀ i, i ≤ l.length → OkX (unT (cmpO o) x l i) ∧ (unT (cmpO o) x l i).1.toList = foldL (cmpO o) x.1.toList (l.take i) ∧ Rising (cmpO o) (unT (cmpO o) x l i).1.toList
  | 0, _ => ⟨hx, by simp [unT, foldL], hR⟩
  | i + 1, hi => by
    obtain ⟨h1, h2, h3⟩ := unT_ok o hx hR hl i (by omega)
    have hm := allP hl (show i < l.length by omega)
    have e := (T.insert_list (cmpO_line o) (l.getD i default).1 (l.getD i default).2 (unT (cmpO o) x l i).1 h3).1
    have e2 : (unT (cmpO o) x l (i + 1)).1.toList = insL (cmpO o) (unT (cmpO o) x l i).1.toList (l.getD i default) := e
    refine ⟨okX_put _ h1 hm, ?_, by rw [e2]; exact (mem_ins (cmpO_line o) _ _ h3).2⟩
    rw [e2, h2, List.take_add_one, List.getD_eq_getElem?_getD, List.getElem?_eq_getElem (by omega)]
    show _ = foldL _ _ (l.take i ++ [l[i]])
    unfold foldL
    rw [List.foldl_append]; rfl
theorem okX_len {x : T × Nat} (hx : OkX x) : x.1.toList.length = x.2 := by rw [T.toList_length]; exact hx.2.2.1
end Go.Sx
set_option maxRecDepth 100000
set_option maxHeartbeats 4000000
set_option linter.unusedSimpArgs false
set_option linter.unusedVariables false
namespace Go.Sx
open Go.Proofs Sp
theorem mem_idx {L : List (V × V)} {q : V × V} (h : q ∈ L) : ∃ j, j < L.length ∧ L.getD j default = q := by
  obtain ⟨j, hj, e⟩ := List.getElem_of_mem h
  exact ⟨j, hj, by rw [List.getD_eq_getElem?_getD, List.getElem?_eq_getElem hj, Option.getD_some, e]⟩
theorem idx_mem {L : List (V × V)} {j : Nat} (h : j < L.length) : L.getD j default ∈ L := by
  rw [List.getD_eq_getElem?_getD, List.getElem?_eq_getElem h]; exact List.getElem_mem h
/-- Two pairs of a map with one key are one pair. -/
theorem rising_key {c : V → V → Int} (H : Line c (fun _ => True)) {L : List (V × V)} (h : Rising c L) {p q : V × V} (hp : p ∈ L) (hq : q ∈ L) (e : c p.1 q.1 = 0) : p = q := by
  obtain ⟨i, hi, rfl⟩ := mem_idx hp
  obtain ⟨j, hj, rfl⟩ := mem_idx hq
  rcases Nat.lt_trichotomy i j with h1 | h1 | h1
  · have := rising_get h h1 hj; omega
  · rw [h1]
  · have := rising_get h h1 hi
    have := H.turn (L.getD i default).1 (L.getD j default).1 trivial trivial
    omega
theorem get_hit (o : Int) (ho : 0 ≤ o ∧ o ≤ 5) {x : T × Nat} (hx : OkX x) (hn : x.2 ≤ 65536) (hR : Rising (cmpO o) x.1.toList) {k w : V} (h : (k, w) ∈ x.1.toList) :
    CallsF P G 73 [encX o x, encV k] (.tup [encV w, bool true, int 0]) ∧ CallsF P G 84 [.ptr [int o, encPs x.1.toList] 0, encV k] (.tup [encV w, bool true]) := by
  have hl := okX_len hx
  have hp := hx.2.2.2 _ h
  obtain ⟨j, hj, e⟩ := mem_idx h
  have a1 := ahead_self (cmpO_line o) hR hj
  have u1 := upto_self (cmpO_line o) hR hj
  rw [e] at a1 u1
  have hcmp := cmpX (cmpCO o ho) hx hp.1 hp.2.2.1 (x.2 : Int) x.1
  have hfi := (T.insert_list (cmpO_line o) k nilW x.1 hR).2
  have hfd : (T.find (cmpO o) k x.1).isNil = false := by
    cases hq : (T.find (cmpO o) k x.1).isNil with
    | false => rfl
    | true => have := hfi.1 hq; simp only at a1 u1; omega
  obtain ⟨q, q1, q2, q3⟩ := T.find_is (cmpO o) k x.1 hfd
  have e2 : q = (k, w) := rising_key (cmpO_line o) hR q1 h (by have := (cmpO_line o).turn k q.1 trivial trivial; simp only; omega)
  constructor
  · have := get_some (cmpO o) o (x.2 : Int) x.1 k hp.1 hp.2.2.1 hcmp hfd (by rw [q2, e2]; exact hp.2.1)
    rw [q2, e2] at this
    exact this
  · have hpl := refPlace_ok o ho x.1.toList k (by omega) hp.1 hp.2.2.1 hx.2.2.2 hR
    simp only at a1 u1
    rw [show thereB o k x.1.toList = true from decide_eq_true (by omega), a1] at hpl
    have := have_in o x.1.toList k j (by omega) hj hpl
    rw [e] at this
    exact this
theorem get_miss (o : Int) (ho : 0 ≤ o ∧ o ≤ 5) {x : T × Nat} (hx : OkX x) (hn : x.2 ≤ 65536) (hR : Rising (cmpO o) x.1.toList) {k : V} (hk : Fine k) (hr : rightB k = true) (h : ∀ p, p ∈ x.1.toList → p.1 ≠ k) :
    CallsF P G 73 [encX o x, encV k] (.tup [encV nilW, bool false, int 0]) ∧ CallsF P G 84 [.ptr [int o, encPs x.1.toList] 0, encV k] (.tup [.agg [int 0, int 0, str [], .nils], bool false]) := by
  have hl := okX_len hx
  have hcmp := cmpX (cmpCO o ho) hx hk hr (x.2 : Int) x.1
  have hfi := (T.insert_list (cmpO_line o) k nilW x.1 hR).2
  have hfd : (T.find (cmpO o) k x.1).isNil = true := by
    cases hq : (T.find (cmpO o) k x.1).isNil with
    | true => rfl
    | false =>
      obtain ⟨q, q1, q2, q3⟩ := T.find_is (cmpO o) k x.1 hq
      exact absurd (cmpO_same o hr (hx.2.2.2 q q1).2.2.1 q3).symm (h q q1)
  refine ⟨(get_none (cmpO o) o _ _ _ hk hr hcmp hfd).le (le_tup (LeL.cons le_zero (LeL.refl _))), ?_⟩
  have hpl := refPlace_ok o ho x.1.toList k (by omega) hk hr hx.2.2.2 hR
  rw [(there_iff o k _ hR).2 (hfi.1 hfd)] at hpl
  exact have_no o _ _ _ hpl
theorem rbEqual_ok (o o2 : Int) (ho : 0 ≤ o ∧ o ≤ 5) (ho2 : 0 ≤ o2 ∧ o2 ≤ 5) {x y : T × Nat} (hx : OkX x) (hy : OkX y) (hnx : x.2 ≤ 65536) (hny : y.2 ≤ 65536) (hR : Rising (cmpO o) x.1.toList) (hR2 : Rising (cmpO o2) y.1.toList) :
    ∃ q, CallsF P G 18 [encX o x, encX o2 y] (bool q) ∧ CallsF P G 19 [.ptr [int o, encPs x.1.toList] 0, .ptr [int o2, encPs y.1.toList] 0] (bool q) ∧ (q = true ↔ (x.2 = y.2 ∧ ∀ r, r ∈ x.1.toList → r ∈ y.1.toList)) := by
  have lx := okX_len hx
  have ly := okX_len hy
  have sx : x.1.size = x.2 := hx.2.2.1
  have hf : ∀ p, p ∈ x.1.toList → Fine p.1 ∧ Fine p.2 := fun p hp => ⟨(hx.2.2.2 p hp).1, (hx.2.2.2 p hp).2.1⟩
  by_cases hl : x.2 = y.2
  case neg => exact ⟨false, requal_len o x.2 o2 y.2 x.1 y.1 (by omega), req_len o o2 _ _ (by omega), ⟨(fun h => by cases h), fun h => absurd h.1 hl⟩⟩
  have hval : ∀ a b : V, Fine a → Fine b → CallsF P G 83 [encV a, encV b] (bool (cmpV a b == 0)) := fun a b ha _ => equal_ok a b ha
  have hself : ∀ a : V, (cmpV a a == 0) = true := fun a => by rw [cmpV_self]; rfl
  by_cases hm : ∀ i, i < x.1.toList.length → x.1.toList.getD i default ∈ y.1.toList
  · refine ⟨true, ?_, ?_, ⟨fun _ => ⟨hl, fun r hr => by (obtain ⟨j, hj, rfl⟩ := mem_idx hr); exact hm j hj⟩, fun _ => rfl⟩⟩
    · have h := requal_true o (x.2 : Int) o2 x.1 y.1 x.1.toList.length (fun i => (x.1.toList.getD i default).2) hf (by omega) rfl (fun i hi => by rw [hl]; exact (get_hit o2 ho2 hy hny hR2 (hm i hi)).1) (fun i hi => by
        have h9 := hf _ (idx_mem hi)
        have h := hval _ _ h9.2 h9.2
        rw [hself] at h; exact h)
      rw [hl] at h
      rw [show encX o x = encM o (y.2 : Int) x.1 by rw [← hl]; rfl]
      exact h
    · exact req_true o o2 _ _ x.1.toList.length (fun i => (x.1.toList.getD i default).2) (by omega) rfl (by omega) (fun i hi => (get_hit o2 ho2 hy hny hR2 (hm i hi)).2) (fun i hi => by
        have h9 := hf _ (idx_mem hi)
        have h := same_ok (x.1.toList.getD i default).2 (x.1.toList.getD i default).2 h9.2
        rw [hself] at h; exact h)
  · have hm2 : ∃ i, i < x.1.toList.length ∧ ¬ x.1.toList.getD i default ∈ y.1.toList := Classical.byContradiction fun h => hm fun i hi => Classical.byContradiction fun h2 => h ⟨i, hi, h2⟩
    obtain ⟨N, ⟨h1, h2⟩, h3⟩ := exists_least (fun i => i < x.1.toList.length ∧ ¬ x.1.toList.getD i default ∈ y.1.toList) hm2
    have h0 : ∀ i, i < N → x.1.toList.getD i default ∈ y.1.toList := fun i hi => Classical.byContradiction fun h4 => by have h5 := h3 i ⟨by omega, h4⟩; omega
    have hN := hx.2.2.2 _ (idx_mem h1)
    refine ⟨false, ?_, ?_, ⟨(fun h => by cases h), fun h => absurd (h.2 _ (idx_mem h1)) h2⟩⟩
    · rw [show encX o x = encM o (y.2 : Int) x.1 by rw [← hl]; rfl]
      by_cases hk : ∀ p, p ∈ y.1.toList → p.1 ≠ (x.1.toList.getD N default).1
      · refine requal_no o (y.2 : Int) o2 x.1 y.1 N (fun i => if i < N then (x.1.toList.getD i default).2 else nilW) (fun i => decide (i < N)) (fun i => true) hf (by omega) h1 (fun i hi => ?_) (fun i hi ht => ?_) (fun i hi => ⟨decide_eq_true hi, rfl⟩) (fun h => by simp at h)
        · rcases Nat.lt_or_ge i N with g | g
          · rw [if_pos g, decide_eq_true g]; exact (get_hit o2 ho2 hy hny hR2 (h0 i g)).1
          · obtain rfl : i = N := by omega
            rw [if_neg (by omega), decide_eq_false (by omega)]
            exact (get_miss o2 ho2 hy hny hR2 hN.1 hN.2.2.1 hk).1
        · have g := of_decide_eq_true ht
          rw [if_pos g]
          have h9 := hf _ (idx_mem (show i < x.1.toList.length by omega))
          have h := hval _ _ h9.2 h9.2
          rw [hself] at h; exact h
      · have hk2 : ∃ p, p ∈ y.1.toList ∧ p.1 = (x.1.toList.getD N default).1 := Classical.byContradiction fun h => hk fun p hp e => h ⟨p, hp, e⟩
        obtain ⟨p, hp, ep⟩ := hk2
        have hpp := hy.2.2.2 p hp
        have hne : cmpV (x.1.toList.getD N default).2 p.2 ≠ 0 := fun hz => h2 (by
          have e3 := rightB_same hN.2.2.2 hpp.2.2.2 hz
          have e4 : x.1.toList.getD N default = p := Prod.ext ep.symm e3
          rw [e4]; exact hp)
        refine requal_no o (y.2 : Int) o2 x.1 y.1 N (fun i => if i < N then (x.1.toList.getD i default).2 else p.2) (fun i => true) (fun i => decide (i < N)) hf (by omega) h1 (fun i hi => ?_) (fun i hi _ => ?_) (fun i hi => ⟨rfl, decide_eq_true hi⟩) (fun h => by simp)
        · rcases Nat.lt_or_ge i N with g | g
          · rw [if_pos g]; exact (get_hit o2 ho2 hy hny hR2 (h0 i g)).1
          · obtain rfl : i = N := by omega
            rw [if_neg (by omega), ← ep]
            exact (get_hit o2 ho2 hy hny hR2 hp).1
        · rcases Nat.lt_or_ge i N with g | g
          · rw [if_pos g, decide_eq_true g]
            have h9 := hf _ (idx_mem (show i < x.1.toList.length by omega))
            have h := hval _ _ h9.2 h9.2
            rw [hself] at h; exact h
          · obtain rfl : i = N := by omega
            rw [if_neg (by omega), decide_eq_false (by omega)]
            have h := hval _ _ hN.2.1 hpp.2.1
            rw [beq_eq_false_iff_ne.2 hne] at h; exact h
    · by_cases hk : ∀ p, p ∈ y.1.toList → p.1 ≠ (x.1.toList.getD N default).1
      · exact req_no o o2 _ _ N (fun i => (x.1.toList.getD i default).2) .nils (by omega) h1 (by omega) (fun i hi => (get_hit o2 ho2 hy hny hR2 (h0 i hi)).2) (fun i hi => by
          have h9 := hf _ (idx_mem (show i < x.1.toList.length by omega))
          have h := same_ok (x.1.toList.getD i default).2 (x.1.toList.getD i default).2 h9.2
          rw [hself] at h; exact h) (get_miss o2 ho2 hy hny hR2 hN.1 hN.2.2.1 hk).2
      · have hk2 : ∃ p, p ∈ y.1.toList ∧ p.1 = (x.1.toList.getD N default).1 := Classical.byContradiction fun h => hk fun p hp e => h ⟨p, hp, e⟩
        obtain ⟨p, hp, ep⟩ := hk2
        have hpp := hy.2.2.2 p hp
        have hne : cmpV p.2 (x.1.toList.getD N default).2 ≠ 0 := fun hz => h2 (by
          have e3 := rightB_same hpp.2.2.2 hN.2.2.2 hz
          have e4 : x.1.toList.getD N default = p := Prod.ext ep.symm e3.symm
          rw [e4]; exact hp)
        refine req_other o o2 _ _ N (fun i => if i < N then (x.1.toList.getD i default).2 else p.2) (by omega) h1 (by omega) (fun i hi => by rw [if_pos hi]; exact (get_hit o2 ho2 hy hny hR2 (h0 i hi)).2) (fun i hi => by
          rw [if_pos hi]
          have h9 := hf _ (idx_mem (show i < x.1.toList.length by omega))
          have h := same_ok (x.1.toList.getD i default).2 (x.1.toList.getD i default).2 h9.2
          rw [hself] at h; exact h) ?_ ?_
        · rw [if_neg (by omega), ← ep]; exact (get_hit o2 ho2 hy hny hR2 hp).2
        · rw [if_neg (by omega)]
          have h := same_ok p.2 (x.1.toList.getD N default).2 hpp.2.1
          rw [beq_eq_false_iff_ne.2 hne] at h; exact h
end Go.Sx
set_option maxRecDepth 100000
set_option maxHeartbeats 4000000
set_option linter.unusedSimpArgs false
set_option linter.unusedVariables false
namespace Go.Sx
open Go.Proofs Sp
theorem union_both (o o2 : Int) (ho : 0 ≤ o ∧ o ≤ 5) {x y : T × Nat} (hx : OkX x) (hy : OkX y) (hnx : x.2 ≤ 65536) (hny : y.2 ≤ 65536) (hR : Rising (cmpO o) x.1.toList) :
    (∃ u : T × Nat, OkX u ∧ u.2 ≤ 65536 ∧ CallsF P G 13 [encX o x, encX o2 y] (.tup [encX o u, int 0]) ∧ CallsF P G 14 [.ptr [int o, encPs x.1.toList] 0, .ptr [int o2, encPs y.1.toList] 0] (.tup [.ptr [int o, encPs u.1.toList] 0, int 0]) ∧ u.1.toList = foldL (cmpO o) x.1.toList y.1.toList ∧ Rising (cmpO o) u.1.toList)
    ∨ (65536 < (foldL (cmpO o) x.1.toList y.1.toList).length ∧ CallsF P G 13 [encX o x, encX o2 y] (.tup [.sc (.pointer none), int 2]) ∧ CallsF P G 14 [.ptr [int o, encPs x.1.toList] 0, .ptr [int o2, encPs y.1.toList] 0] (.tup [.sc (.pointer none), int 2])) := by
  have lx := okX_len hx
  have ly := okX_len hy
  have sy : y.1.size = y.2 := hy.2.2.1
  have hl : ∀ q, q ∈ y.1.toList → RP q := hy.2.2.2
  have hf : ∀ p, p ∈ y.1.toList → Fine p.1 ∧ Fine p.2 := fun p hp => ⟨(hl p hp).1, (hl p hp).2.1⟩
  have hbl : ∀ q, q ∈ x.1.toList ++ y.1.toList → RP q := fun q hq => by
    rcases List.mem_append.1 hq with h | h
    · exact hx.2.2.2 q h
    · exact hl q h
  have hb := build_ok o ho (x.1.toList ++ y.1.toList).length (x.1.toList ++ y.1.toList) (Nat.le_refl _) (by rw [List.length_append]; omega) hbl
  have e0 : foldL (cmpO o) [] (x.1.toList ++ y.1.toList) = foldL (cmpO o) x.1.toList y.1.toList := by
    rw [show foldL (cmpO o) [] (x.1.toList ++ y.1.toList) = foldL (cmpO o) (foldL (cmpO o) [] x.1.toList) y.1.toList from List.foldl_append .., foldL_rising_id (cmpO_line o) _ hR]
  rw [e0, show encPs (x.1.toList ++ y.1.toList) = .sl 8 ([] ++ cellsPs x.1.toList ++ cellsPs y.1.toList) by simp [encPs, cellsPs_app]] at hb
  have hX := unT_ok o hx hR hl
  let X := unT (cmpO o) x y.1.toList
  have hlen : ∀ i, i ≤ y.1.toList.length → (X i).1.toList.length = (X i).2 := fun i hi => okX_len (hX i hi).1
  have hmono : ∀ i, i < y.1.toList.length → (X i).2 ≤ (X (i + 1)).2 ∧ ((X (i + 1)).2 ≤ 65536 → (X i).2 = 65536 → (T.find (cmpO o) (y.1.toList.getD i default).1 (X i).1).isNil = false) := fun i hi => by
    show (X i).2 ≤ (putT (cmpO o) (X i) _ _).2 ∧ ((putT (cmpO o) (X i) _ _).2 ≤ 65536 → _)
    simp only [putT]
    cases (T.find (cmpO o) (y.1.toList.getD i default).1 (X i).1).isNil <;> simp <;> omega
  have hass : ∀ i, i < y.1.toList.length → (X (i + 1)).2 ≤ 65536 → CallsF P G 79 [encX o (X i), encV (y.1.toList.getD i default).1, encV (y.1.toList.getD i default).2] (.tup [encX o (X (i + 1)), int 0]) := fun i hi h => by
    have hp := allP hl hi
    have h1 := (hX i (by omega)).1
    have hm := hmono i hi
    have hcmp := fun (n : Int) (t : T) => cmpX (cmpCO o ho) h1 hp.1 hp.2.2.1 n t
    have hle : (X i).2 ≤ 1000000 := by have := hm.1; omega
    have hw := with_put (cmpCO o ho) h1 hle hp
    have h2 := assoc_ok (cmpO o) o ((X i).2 : Int) (X i).1 (y.1.toList.getD i default).1 (y.1.toList.getD i default).2 hp.1 hp.2.1 (pairE_zero hp.2.2.1 hp.2.2.2) (fun e => hm.2 h (by omega)) (hcmp _ _) (by rw [withM_put]; exact hw)
    rw [withM_put] at h2
    exact h2
  have eL : (X y.1.toList.length).1.toList = foldL (cmpO o) x.1.toList y.1.toList := by
    have := (hX y.1.toList.length (Nat.le_refl _)).2.1
    rwa [List.take_length] at this
  by_cases hN : (X y.1.toList.length).2 ≤ 65536
  · left
    have hup : ∀ j, j ≤ y.1.toList.length → (X (y.1.toList.length - j)).2 ≤ 65536 := fun j => by
      induction j with
      | zero => intro _; exact hN
      | succ j ih =>
        intro hj
        have h1 := ih (by omega)
        have h2 := (hmono (y.1.toList.length - (j + 1)) (by omega)).1
        rw [show y.1.toList.length - (j + 1) + 1 = y.1.toList.length - j from by omega] at h2
        omega
    refine ⟨X y.1.toList.length, (hX _ (Nat.le_refl _)).1, hN, ?_, ?_, eL, (hX _ (Nat.le_refl _)).2.2⟩
    · exact union_run o o2 (y.2 : Int) y.1 X y.1.toList.length hf (by omega) rfl fun i hi => hass i hi (by have := hup (y.1.toList.length - (i + 1)) (by omega); rwa [show y.1.toList.length - (y.1.toList.length - (i + 1)) = i + 1 from by omega] at this)
    · have h1 := hlen _ (Nat.le_refl _)
      rw [eL] at h1
      rw [eL]
      exact runion_ok o o2 _ _ _ (by omega) (by omega) (by omega) hb
  · right
    have h1 := hlen _ (Nat.le_refl _)
    rw [eL] at h1
    refine ⟨by omega, ?_, runion_long o o2 _ _ (foldL (cmpO o) x.1.toList y.1.toList) (by omega) (by omega) (by omega) hb⟩
    have hex : ∃ i, i < y.1.toList.length ∧ ¬ (X (i + 1)).2 ≤ 65536 := by
      rcases Nat.eq_zero_or_pos y.1.toList.length with h0 | h0
      · rw [h0] at hN; exact absurd hnx hN
      · exact ⟨y.1.toList.length - 1, by omega, by rw [show y.1.toList.length - 1 + 1 = y.1.toList.length from by omega]; exact hN⟩
    obtain ⟨N, ⟨n1, n2⟩, n3⟩ := exists_least _ hex
    have h0 : ∀ i, i < N → (X (i + 1)).2 ≤ 65536 := fun i hi => Classical.byContradiction fun h4 => by have h5 := n3 i ⟨by omega, h4⟩; omega
    have hXN : (X N).2 ≤ 65536 := by
      cases N with
      | zero => exact hnx
      | succ N => exact h0 N (by omega)
    have hNf : (X N).2 = 65536 ∧ (T.find (cmpO o) (y.1.toList.getD N default).1 (X N).1).isNil = true := by
      have : ¬ (putT (cmpO o) (X N) (y.1.toList.getD N default).1 (y.1.toList.getD N default).2).2 ≤ 65536 := n2
      simp only [putT] at this
      cases hq : (T.find (cmpO o) (y.1.toList.getD N default).1 (X N).1).isNil with
      | false => rw [hq] at this; simp at this; omega
      | true => rw [hq] at this; simp at this; exact ⟨by omega, rfl⟩
    have hp := allP hl n1
    have h9 := (hX N (by omega)).1
    have hcmp := fun (n : Int) (t : T) => cmpX (cmpCO o ho) h9 hp.1 hp.2.2.1 n t
    have hlong := assoc_long (cmpO o) o ((X N).2 : Int) (X N).1 (y.1.toList.getD N default).1 (y.1.toList.getD N default).2 hp.1 hp.2.1 (pairE_zero hp.2.2.1 hp.2.2.2) (by omega) hNf.2 (hcmp _ _)
    let X2 : Nat → T × Nat := fun i => if i ≤ N then X i else X N
    have h := union_no o o2 (y.2 : Int) y.1 X2 (fun i => if i < N then encX o (X (i + 1)) else .sc (.pointer none)) (fun i => if i ≤ N then 0 else 2) N hf (by omega) n1 (fun i hi => ?_) (fun i hi => if_pos hi) (by simp) (fun i hi => ?_) ?_
    · have e : X2 0 = x := if_pos (Nat.zero_le _)
      have e9 : (if N + 1 ≤ N then (0 : Int) else 2) = 2 := if_neg (by omega)
      have h' : CallsF P G 13 [encX o (X2 0), encM o2 (y.2 : Int) y.1] (.tup [.sc (.pointer none), int (if N + 1 ≤ N then (0 : Int) else 2)]) := h
      rw [e, e9] at h'
      exact h'
    · show CallsF P G _ [encX o (X2 i), _, _] (.tup [if i < N then _ else _, int (if i + 1 ≤ N then 0 else 2)])
      have e : X2 i = X i := if_pos (by omega)
      rw [e]
      rcases Nat.lt_or_ge i N with g | g
      · rw [if_pos g, if_pos (by omega)]; exact hass i (by omega) (h0 i g)
      · obtain rfl : i = N := by omega
        rw [if_neg (by omega), if_neg (by omega)]; exact hlong
    · show (if i < N then encX o (X (i + 1)) else _) = encX o (X2 (i + 1))
      rw [if_pos hi, show X2 (i + 1) = X (i + 1) from if_pos (by omega)]
    · show X2 (N + 1) = X2 N
      rw [show X2 (N + 1) = X N from if_neg (by omega), show X2 N = X N from if_pos (Nat.le_refl _)]
end Go.Sx

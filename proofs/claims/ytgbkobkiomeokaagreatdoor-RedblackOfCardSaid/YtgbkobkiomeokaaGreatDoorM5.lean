/-
  Proved: what some functions of the program answer, or a law of the evaluator that shows it, one theorem each; its conditions are the hypotheses that stand ahead of it.
-/
import Derived.Test.YtgbkobkiomeokaaGreatDoorG2
import Derived.Test.YtgbkobkiomeokaaGreatDoorN1
import Derived.KernelRfl
import Derived.Test.YtgbkobkiomeokaaGreatDoorK6
import Derived.Test.YtgbkobkiomeokaaGreatDoorPSt
set_option maxRecDepth 100000
set_option maxHeartbeats 4000000
set_option linter.unusedSimpArgs false
set_option linter.unusedVariables false
namespace Go.Sx
open Go.Proofs Sp
def Sps (L : List (V × V)) (i : Nat) : St := { sl := slots 27 [(0, .f (encPs L)), (1, .f (encPs L)), (12, .f (int (cellsPs L).length)), (13, .f (int (i : Int)))], ob := [], nx := 0 }
theorem getD_memP (L : List (V × V)) (i : Nat) (h : i < L.length) : L.getD i default ∈ L := by
  rw [List.getD_eq_getElem?_getD, List.getElem?_eq_getElem h]; exact List.getElem_mem h
theorem get24 : P.funcs[24]? = some Tryz.f24 := by kernel_rfl
theorem ent24 : entersP P 24 = true := by kernel_rfl
theorem pairs_same (L : List (V × V)) (hl : L.length ≤ 1000000) (hE : ∀ p, p ∈ L → CallsF P G 43 [encQ p, encQ p] (bool true)) : CallsF P G 24 [encPs L, encPs L] (bool true) := by
  refine sx_fn (hs := [.dec false, .loop [] [] (Sps L) L.length (fun i => [.dec true, .nat 10, .el (cellsP (L.getD i default).1 ++ cellsP (L.getD i default).2), .el (cellsP (L.getD i default).1 ++ cellsP (L.getD i default).2), .call (bool true), .dec false]), .dec false]) (let z1 := (↑(List.length (cellsPs L)) : Int); let z2 := AV.f (FV.sl 8 (cellsPs L)); (z1 != z1) = false ∧ (E true ∧ (E z2 ∧ E z2 ∧ E (AV.f (int z1)) ∧ AV.f (int 0) = AV.f (int (Int.ofNat 0)) ∧ True) ∧ True ∧ E true ∧ (false = true → false = true)) ∧ (∀ (i : Nat), (let z4 := Prod.fst (List.getD L i default); let z3 := int (V.kind z4) :: int (V.num z4) :: str (V.text z4) :: encI (V.items z4) :: cellsP (Prod.snd (List.getD L i default)); let z5 := E 8 ∧ (0 : Int) ≤ (i : Int) ∧ (cellsPs L)[i]? = some z3; i < List.length L → decide ((i : Int) < z1) = true ∧ E true ∧ z5 ∧ z5 ∧ CallsF P G 43 [FV.agg z3, FV.agg z3] (bool true) ∧ E false ∧ E true ∧ (E z2 ∧ E z2 ∧ E (AV.f (int z1)) ∧ AV.f (int (IntKind.wrap IntKind.i64 ((i : Int) + 1))) = AV.f (int (↑(i + 1) : Int)) ∧ True) ∧ True ∧ E true ∧ (false = true → false = true))) ∧ decide ((↑(List.length L) : Int) < z1) = false ∧ E (bool true)) get24 ent24 (by kernel_rfl) ?_
  refine ⟨?_, ⟨rfl, ⟨rfl, rfl, rfl, ?_, trivial⟩, trivial, rfl, fun hi => ?_⟩, fun i => fun hi => ⟨?_, rfl, ⟨rfl, ?_, ?_⟩, ⟨rfl, ?_, ?_⟩, ?_, rfl, rfl, ⟨rfl, rfl, rfl, ?_, trivial⟩, trivial, rfl, fun hi => ?_⟩, ?_, rfl⟩
  all_goals first | exact hE _ (getD_memP L _ (by omega)) | exact cellsPs_get L _ (by omega) | (simp only [cellsPs_length, decide_eq_true_eq, decide_eq_false_iff_not]; omega) | (simp; done) | (exact congrArg (fun x => AV.f (int x)) (wrapS ((i : Int) + 1) (by omega) (by omega))) | assumption
end Go.Sx
set_option maxRecDepth 100000
set_option maxHeartbeats 4000000
set_option linter.unusedSimpArgs false
set_option linter.unusedVariables false
namespace Go.Sx
open Go.Proofs Sp
theorem get17 : P.funcs[17]? = some Tryz.f17 := by kernel_rfl
theorem ent17 : entersP P 17 = true := by kernel_rfl
theorem kind_ok (o : Int)  : CallsF P G 17 [int o] (bool (decide (0 ≤ o) && decide (o ≤ 5))) := by
  refine sx_fn (hs := [.br [] []]) ((((decide (o ≥ 0)) = (true)) → ((bool (decide (o ≤ 5))) = (bool (decide (0 ≤ o) && decide (o ≤ 5))))) ∧ (((decide (o ≥ 0)) = (false)) → ((bool false) = (bool (decide (0 ≤ o) && decide (o ≤ 5)))))) get17 ent17 (by kernel_rfl) ?_
  refine ⟨fun hi => ?_, fun hi => ?_⟩
  all_goals first | (simp_all; done) | (simp [V.kind, V.num, V.text, V.items, *]; done)
end Go.Sx
set_option maxRecDepth 100000
set_option maxHeartbeats 4000000
set_option linter.unusedSimpArgs false
set_option linter.unusedVariables false
namespace Go.Sx
open Go.Proofs Sp
end Go.Sx
set_option maxRecDepth 100000
set_option maxHeartbeats 4000000
set_option linter.unusedSimpArgs false
set_option linter.unusedVariables false
namespace Go.Sx
open Go.Proofs Sp
end Go.Sx
set_option maxRecDepth 100000
set_option maxHeartbeats 4000000
set_option linter.unusedSimpArgs false
set_option linter.unusedVariables false
namespace Go.Sx
open Go.Proofs Sp
def Sgone (o n most : Int) (t : T) (l : List (V × V)) (i : Nat) : St := { sl := slots 31 [(0, .f (encM o n t)), (3, .loc 0 0), (5, .loc 1 0)], ob := [(0, .box [.f (int most)]), (1, .box [.lsl 2]), (2, .row 8 44 (cellsPs (l.take i)))], nx := 3 }
theorem get26 : P.funcs[26]? = some Tryz.f26 := by kernel_rfl
theorem ent26 : entersP P 26 = true := by kernel_rfl
theorem gone_run (o n : Int) (t : T) (N : Nat) (hf : ∀ p, p ∈ t.toList → Fine p.1 ∧ Fine p.2) (hs : t.size ≤ 131072) (hN : N = t.toList.length) : CallsF P G 26 [encM o n t, int ((N : Int) + 1)] (.sl 8 (cellsPs (t.toList.take N))) := by
  refine sx_fn (hs := [.call (.fn 71 [] [.ptr [encM o n t] 0]), .dec false, .dec false, .pre [.nrowb 1 0 8 44], .range [(0,0),(1,1),(2,2)] (Sgone o n ((N : Int) + 1) t t.toList) N (itL t.toList) (fun _ => true) (.tup []) none (fun i => [.dec false, .ren [(0,0),(1,1),(6,2)]]), .frz [2]]) (let z1 := E (AV.f (encM o n t)) ∧ E (AV.loc 0 0) ∧ E (AV.loc 1 0) ∧ True; let z2 := TypeInfo.size (Tables.types (Program.toTables P))[44]; let z3 := Ob.box [AV.f (int ((N : Int) + 1))]; CallsF P G 44 [encM o n t] (FV.fn 71 [] [FV.ptr [encM o n t] 0]) ∧ E false ∧ E false ∧ (E true ∧ z1 ∧ (E z3 ∧ E (Ob.box [AV.lsl 2]) ∧ E (Ob.row 8 44 []) ∧ True) ∧ E true ∧ (false = true → false = true)) ∧ E false ∧ E true ∧ (∀ (i : Nat), i ≤ N → E true) ∧ (∀ (Y : Yd), Yd.it Y = itL (T.toList t) → Yd.b Y = (fun x => true) → Yd.n Y = N → YLaw P G Y → CallsX P G 71 ([FV.sc (Yd.u Y), FV.ptr [encM o n t] 0]) (Y) (0) (FV.tup []) (N)) ∧ (∀ (i : Nat), (let z6 := List.take i (T.toList t); let z7 := List.getD (T.toList t) i default; let z5 := Prod.fst z7; let z4 := int (V.kind z5) :: int (V.num z5) :: str (V.text z5) :: encI (V.items z5) :: cellsP (Prod.snd z7); let z8 := cellsPs z6 ++ chunk z2 1 z4; i < N → E true ∧ E true ∧ (oneF ([int (V.kind z5) :: int (V.num z5) :: str (V.text z5) :: encI (V.items z5) :: cellsP (Prod.snd z7)]) ∧ List.length (cellsPs z6) + List.length (chunk 8 1 z4) ≤ maxLen ∧ (List.length (cellsPs z6) + List.length (chunk 8 1 z4)) * 112 ≤ 140737488355328 ∧ E false) ∧ decide ((↑(List.length z8) : Int) ≥ (N : Int) + 1) = false ∧ E true ∧ E true ∧ z1 ∧ (E z3 ∧ E (Ob.box [AV.lsl 2]) ∧ Ob.row 8 44 z8 = Ob.row 8 44 (cellsPs (List.take (i + 1) (T.toList t))) ∧ True) ∧ E true ∧ (false = true → false = true))) ∧ (0 < N → E true) ∧ E (FV.sl 8 (cellsPs (List.take N (T.toList t))))) get26 ent26 (by kernel_rfl) ?_
  refine ⟨?_, rfl, rfl, ⟨rfl, ⟨rfl, rfl, rfl, trivial⟩, ⟨rfl, rfl, rfl, trivial⟩, rfl, fun hi => ?_⟩, rfl, rfl, fun i => fun hi => rfl, fun Y => fun hi => fun hi => fun hi => fun hi => ?_, fun i => fun hi => ⟨rfl, rfl, ⟨?_, ?_, ?_, rfl⟩, ?_, rfl, rfl, ⟨rfl, rfl, rfl, trivial⟩, ⟨rfl, rfl, ?_, trivial⟩, rfl, fun hi => ?_⟩, fun hi => rfl, rfl⟩
  all_goals first | exact all_ok _ _ _ | (rename_i h1 h2 h3; have e : (walkR Y.b t 0).2 = N := (by rw [h2, walkR_all t 0 (fun _ _ _ => rfl), hN, T.toList_length]; simp); have h5 := all1_ok Y o n t hf hi (by rw [h3, hN, T.toList_length]; exact Nat.le_refl _) (by rw [h3, hN, T.toList_length]; exact Nat.le_refl _) h1; rw [e] at h5; exact h5) | (exact oneF_cellsPs [t.toList.getD i default]) | (exact congrArg (Ob.row 8 44) (cellsPs_snoc _ _ (by omega))) | (have h8 := T.toList_length t; simp only [cellsPs_length, List.length_take, chunk, List.length_cons, List.length_nil, maxLen]; omega) | (have h8 := T.toList_length t; simp only [List.length_append, cellsPs_length, List.length_take, chunk, List.length_cons, List.length_nil, decide_eq_false_iff_not]; omega) | assumption
end Go.Sx
set_option maxRecDepth 100000
set_option maxHeartbeats 4000000
set_option linter.unusedSimpArgs false
set_option linter.unusedVariables false
namespace Go.Sx
open Go.Proofs Sp
theorem get8 : P.funcs[8]? = some Tryz.f8 := by kernel_rfl
theorem ent8 : entersP P 8 = true := by kernel_rfl
theorem same_run2 (o n : Int) (t : T) (L : List (V × V)) (hn : n = (L.length : Int)) (hl : L.length ≤ 100000) (h1 : CallsF P G 22 [encM o n t] (int o)) (h2 : CallsF P G 23 [encM o n t] (int n)) (h3 : CallsF P G 25 [encM o n t] (encPs L)) (h4 : CallsF P G 24 [encPs L, encPs L] (bool true)) (h5 : CallsF P G 26 [encM o n t, int (IntKind.i64.wrap (((cellsPs L).length : Int) + 1))] (encPs L)) (h6 : CallsF P G 27 [encM o n t] (bool true)) : CallsF P G 8 [encM o n t, .ptr [int o, encPs L] 0] (bool true) := by
  refine sx_fn (hs := [.nat 50, .dec true, .call (int o), .dec true, .call (int n), .dec true, .call (encPs L), .call (bool true), .dec true, .call (encPs L), .call (bool true), .dec true, .call (bool true)]) (let z1 := (↑(List.length (cellsPs L)) : Int); E true ∧ E true ∧ CallsF P G 22 [encM o n t] (int o) ∧ (o == o) = true ∧ CallsF P G 23 [encM o n t] (int n) ∧ (n == z1) = true ∧ CallsF P G 25 [encM o n t] (FV.sl 8 (cellsPs L)) ∧ CallsF P G 24 [FV.sl 8 (cellsPs L), FV.sl 8 (cellsPs L)] (bool true) ∧ E true ∧ CallsF P G 26 [encM o n t, int (IntKind.wrap IntKind.i64 (z1 + 1))] (FV.sl 8 (cellsPs L)) ∧ CallsF P G 24 [FV.sl 8 (cellsPs L), FV.sl 8 (cellsPs L)] (bool true) ∧ E true ∧ CallsF P G 27 [encM o n t] (bool true) ∧ E (bool true)) get8 ent8 (by kernel_rfl) ?_
  refine ⟨rfl, rfl, ?_, ?_, ?_, ?_, ?_, ?_, rfl, ?_, ?_, rfl, ?_, rfl⟩
  all_goals first | exact h1 | exact h2 | exact h3 | exact h4 | exact h5 | exact h6 | (simp; done) | (rw [hn, cellsPs_length]; simp; done)
theorem gone_ok (o n : Int) (t : T) (hf : ∀ p, p ∈ t.toList → Fine p.1 ∧ Fine p.2) (hs : t.size ≤ 100000) : CallsF P G 26 [encM o n t, int (IntKind.i64.wrap (((cellsPs t.toList).length : Int) + 1))] (encPs t.toList) := by
  have h8 := T.toList_length t
  rw [cellsPs_length, wrapS _ (by omega) (by omega)]
  have h := gone_run o n t t.toList.length hf (by omega) rfl
  rw [List.take_length] at h
  exact h
theorem lsame_ok (o : Int) {x : T × Nat} (hx : OkX x) (hn : x.2 ≤ 65536) : CallsF P G 8 [encX o x, .ptr [int o, encPs x.1.toList] 0] (bool true) := by
  have hf : ∀ p, p ∈ x.1.toList → Fine p.1 ∧ Fine p.2 := fun p h => ⟨(hx.2.2.2 p h).1, (hx.2.2.2 p h).2.1⟩
  have e : x.1.size = x.2 := hx.2.2.1
  have h8 := T.toList_length x.1
  exact same_run2 o (x.2 : Int) x.1 x.1.toList (by omega) (by omega) (order_ok _ _ _) (len_ok _ _ _) (pairs_ok _ _ _ hf (by omega)) (pairs_same _ (by omega) fun p h => pairEq_ok p (hf p h)) (gone_ok _ _ _ hf (by omega)) (flat_ok hx (by omega))
end Go.Sx

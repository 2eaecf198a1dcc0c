/-
  Proved: what some functions of the program answer, or a law of the evaluator that shows it, one theorem each; its conditions are the hypotheses that stand ahead of it.
-/
import Derived.Test.YtgekmpfoihidpaaGreatDoorK6
import Derived.Test.YtgekmpfoihidpaaGreatDoorGZ
import Derived.Test.YtgekmpfoihidpaaGreatDoorNB
import Derived.KernelRfl
import Derived.Test.YtgekmpfoihidpaaGreatDoorPBt
import Derived.Test.YtgekmpfoihidpaaGreatDoorTC
set_option maxRecDepth 100000
set_option maxHeartbeats 4000000
set_option linter.unusedSimpArgs false
set_option linter.unusedVariables false
namespace Go.Sx
open Go.Proofs Sp
theorem get149 : P.funcs[149]? = some Tryz.f149 := by kernel_rfl
theorem ent149 : entersP P 149 = true := by kernel_rfl
theorem cloneP_ok (L : List (V × V)) (hl : L.length ≤ 1000000) (h0 : 0 < L.length) : CallsF P G 149 [encPs L] (encPs L) := by
  refine sx_fn (hs := [.br [] [.lfz [1]]]) (∀ (bq : Bool), (cellsPs L ≠ [] → bq = false) → Br (bq == true) (FV.nils = FV.sl 8 (cellsPs L)) ((oneF (cellsPs L) ∧ 0 + List.length (cellsPs L) ≤ maxLen ∧ (0 + List.length (cellsPs L)) * 112 ≤ 140737488355328 ∧ E false) ∧ FV.sl 8 (chunk (TypeInfo.size (Tables.types (Program.toTables P))[96]) 0 [] ++ cellsPs L) = FV.sl 8 (cellsPs L))) get149 ent149 (by kernel_rfl) ?_
  refine fun bq => fun hi => ⟨fun hi => ?_, fun hi => ⟨⟨?_, ?_, ?_, rfl⟩, ?_⟩⟩
  all_goals first | exact oneF_cellsPs L | (exfalso; have h9 := cellsPs_ne h0; simp_all; done) | (simp only [cellsPs_length, List.length_nil, maxLen]; omega) | rfl
def Sbt (a b : V) (M : FV) (x y : Bool) (i : Nat) : St := { sl := slots 62 [(0, .f M), (3, .f (bool x)), (4, .f (bool y)), (6, .loc 0 0), (7, .loc 1 0), (23, .lsl 2), (24, .f (int 2)), (25, .f (int (i : Int)))], ob := [(0, .box ((cellsP a).map .f)), (1, .box ((cellsP b).map .f)), (2, .row 4 62 [cellsP a, cellsP b])], nx := 3 }
theorem get142 : P.funcs[142]? = some Tryz.f142 := by kernel_rfl
theorem ent142 : entersP P 142 = true := by kernel_rfl
theorem btw_tt0 (o n : Int) (t : T) (L : List (V × V)) (p q : V) (af uf at2 ut : Nat) (c1 : CallsF P G 125 [encV p] (int 0)) (c2 : CallsF P G 125 [encV q] (int 0)) (s1 : CallsF P G 136 [encM o n t, encV p] (.tup [int (af : Int), int (uf : Int), encPs L])) (s2 : CallsF P G 136 [encM o n t, encV q] (.tup [int (at2 : Int), int (ut : Int), encPs L])) (hl : L.length ≤ 1000000) (hh : af < ut) (hh2 : ut ≤ L.length) (hc : CallsF P G 149 [encPs ((L.take ut).drop af)] (encPs ((L.take ut).drop af))) : CallsF P G 142 [encM o n t, encV p, encV q, bool true, bool true] (.tup [encPs ((L.take ut).drop af), int 0]) := by
  refine sx_fn (hs := [.loop [(0, 0), (1, 1), (2, 2)] [(0, 0), (1, 1), (2, 2)] (Sbt p q (encM o n t) true true) 2 (fun i => [.dec true, .el (cellsP (if i = 0 then p else q)), .call (int 0), .dec false]), .dec false,   .call (.tup [int (af : Int), int (uf : Int), encPs L]), .dec false, .call (.tup [int (at2 : Int), int (ut : Int), encPs L]), .dec true, .dec false, .call (encPs ((L.take ut).drop af))]) (let z1 := E (Ob.box [AV.f (int (V.kind p)), AV.f (int (V.num p)), AV.f (str (V.text p)), AV.f (encI (V.items p))]) ∧ E (Ob.box [AV.f (int (V.kind q)), AV.f (int (V.num q)), AV.f (str (V.text q)), AV.f (encI (V.items q))]) ∧ E (Ob.row 4 62 [cellsP p, cellsP q]) ∧ True; let z2 := (↑(List.length (cellsPs L)) : Int); let z3 := cellsPs (List.drop af (List.take ut L)); (E true ∧ (E (AV.f (encM o n t)) ∧ E (AV.f (bool true)) ∧ E (AV.f (bool true)) ∧ E (AV.loc 0 0) ∧ E (AV.loc 1 0) ∧ E (AV.lsl 2) ∧ AV.f (int (↑(List.length (chunk (TypeInfo.size (Tables.types (Program.toTables P))[62]) 2 (int (V.kind p) :: int (V.num p) :: str (V.text p) :: encI (V.items p) :: cellsP q))) : Int)) = AV.f (int 2) ∧ AV.f (int 0) = AV.f (int (Int.ofNat 0)) ∧ True) ∧ z1 ∧ E true ∧ (false = true → false = true)) ∧ (∀ (i : Nat), i < 2 → decide ((i : Int) < 2) = true ∧ ((0 : Int) ≤ (i : Int) ∧ i < List.length [cellsP p, cellsP q]) ∧ [cellsP p, cellsP q][i]? = some (cellsP (if i = 0 then p else q)) ∧ CallsF P G 125 [encV (if i = 0 then p else q)] (int 0) ∧ E false ∧ E true ∧ (E (AV.f (encM o n t)) ∧ E (AV.f (bool true)) ∧ E (AV.f (bool true)) ∧ E (AV.loc 0 0) ∧ E (AV.loc 1 0) ∧ E (AV.lsl 2) ∧ E (AV.f (int 2)) ∧ AV.f (int (IntKind.wrap IntKind.i64 ((i : Int) + 1))) = AV.f (int (↑(i + 1) : Int)) ∧ True) ∧ z1 ∧ E true ∧ (false = true → false = true)) ∧ E false ∧ CallsF P G 136 [encM o n t, encV p] (FV.tup [int (af : Int), int (uf : Int), FV.sl 8 (cellsPs L)]) ∧ E false ∧ CallsF P G 136 [encM o n t, encV q] (FV.tup [int (at2 : Int), int (ut : Int), FV.sl 8 (cellsPs L)]) ∧ E true ∧ decide ((af : Int) ≥ (ut : Int)) = false ∧ (E 8 ∧ (0 : Int) ≤ (af : Int) ∧ (af : Int) ≤ Option.getD (some (ut : Int)) z2 ∧ Option.getD (some (ut : Int)) z2 ≤ z2) ∧ CallsF P G 149 [FV.sl 8 (List.drop af (List.take (Int.toNat (Option.getD (some (ut : Int)) z2)) (cellsPs L)))] (FV.sl 8 z3) ∧ E (FV.tup [FV.sl 8 z3, int 0])) get142 ent142 (by kernel_rfl) ?_
  refine ⟨⟨rfl, ⟨rfl, rfl, rfl, rfl, rfl, rfl, ?_, ?_, trivial⟩, ⟨rfl, rfl, rfl, trivial⟩, rfl, fun hi => ?_⟩, fun i => fun hi => ⟨?_, ⟨?_, ?_⟩, ?_, ?_, rfl, rfl, ⟨rfl, rfl, rfl, rfl, rfl, rfl, rfl, ?_, trivial⟩, ⟨rfl, rfl, rfl, trivial⟩, rfl, fun hi => ?_⟩, rfl, ?_, rfl, ?_, rfl, ?_, ⟨rfl, ?_, ?_, ?_⟩, ?_, rfl⟩
  all_goals first | exact s1 | exact s2 | (show ((af : Nat) : Int) ≤ ((ut : Nat) : Int); omega) | (show ((ut : Nat) : Int) ≤ (((cellsPs L).length : Nat) : Int); rw [cellsPs_length]; omega) | (show CallsF P G 149 [.sl 8 (((cellsPs L).take ut).drop af)] _; rw [cellsPs_take, cellsPs_drop]; exact hc) | (rcases (show i = 0 ∨ i = 1 by omega) with rfl | rfl <;> rfl) | (rcases (show i = 0 ∨ i = 1 by omega) with rfl | rfl; exact c1; exact c2) | (simp only [decide_eq_true_eq, decide_eq_false_iff_not]; omega) | assumption | omega | (simp [V.kind, V.num, V.text, V.items, *]; done) | rfl
theorem btw_tt1 (o n : Int) (t : T) (L : List (V × V)) (p q : V) (af uf at2 ut : Nat) (c1 : CallsF P G 125 [encV p] (int 0)) (c2 : CallsF P G 125 [encV q] (int 0)) (s1 : CallsF P G 136 [encM o n t, encV p] (.tup [int (af : Int), int (uf : Int), encPs L])) (s2 : CallsF P G 136 [encM o n t, encV q] (.tup [int (at2 : Int), int (ut : Int), encPs L])) (hl : L.length ≤ 1000000) (hh : ut ≤ af) : CallsF P G 142 [encM o n t, encV p, encV q, bool true, bool true] (.tup [.nils, int 0]) := by
  refine sx_fn (hs := [.loop [(0, 0), (1, 1), (2, 2)] [(0, 0), (1, 1), (2, 2)] (Sbt p q (encM o n t) true true) 2 (fun i => [.dec true, .el (cellsP (if i = 0 then p else q)), .call (int 0), .dec false]), .dec false,   .call (.tup [int (af : Int), int (uf : Int), encPs L]), .dec false, .call (.tup [int (at2 : Int), int (ut : Int), encPs L]), .dec true, .dec true]) (let z1 := E (Ob.box [AV.f (int (V.kind p)), AV.f (int (V.num p)), AV.f (str (V.text p)), AV.f (encI (V.items p))]) ∧ E (Ob.box [AV.f (int (V.kind q)), AV.f (int (V.num q)), AV.f (str (V.text q)), AV.f (encI (V.items q))]) ∧ E (Ob.row 4 62 [cellsP p, cellsP q]) ∧ True; (E true ∧ (E (AV.f (encM o n t)) ∧ E (AV.f (bool true)) ∧ E (AV.f (bool true)) ∧ E (AV.loc 0 0) ∧ E (AV.loc 1 0) ∧ E (AV.lsl 2) ∧ AV.f (int (↑(List.length (chunk (TypeInfo.size (Tables.types (Program.toTables P))[62]) 2 (int (V.kind p) :: int (V.num p) :: str (V.text p) :: encI (V.items p) :: cellsP q))) : Int)) = AV.f (int 2) ∧ AV.f (int 0) = AV.f (int (Int.ofNat 0)) ∧ True) ∧ z1 ∧ E true ∧ (false = true → false = true)) ∧ (∀ (i : Nat), i < 2 → decide ((i : Int) < 2) = true ∧ ((0 : Int) ≤ (i : Int) ∧ i < List.length [cellsP p, cellsP q]) ∧ [cellsP p, cellsP q][i]? = some (cellsP (if i = 0 then p else q)) ∧ CallsF P G 125 [encV (if i = 0 then p else q)] (int 0) ∧ E false ∧ E true ∧ (E (AV.f (encM o n t)) ∧ E (AV.f (bool true)) ∧ E (AV.f (bool true)) ∧ E (AV.loc 0 0) ∧ E (AV.loc 1 0) ∧ E (AV.lsl 2) ∧ E (AV.f (int 2)) ∧ AV.f (int (IntKind.wrap IntKind.i64 ((i : Int) + 1))) = AV.f (int (↑(i + 1) : Int)) ∧ True) ∧ z1 ∧ E true ∧ (false = true → false = true)) ∧ E false ∧ CallsF P G 136 [encM o n t, encV p] (FV.tup [int (af : Int), int (uf : Int), FV.sl 8 (cellsPs L)]) ∧ E false ∧ CallsF P G 136 [encM o n t, encV q] (FV.tup [int (at2 : Int), int (ut : Int), FV.sl 8 (cellsPs L)]) ∧ E true ∧ decide ((af : Int) ≥ (ut : Int)) = true ∧ E (FV.tup [FV.nils, int 0])) get142 ent142 (by kernel_rfl) ?_
  refine ⟨⟨rfl, ⟨rfl, rfl, rfl, rfl, rfl, rfl, ?_, ?_, trivial⟩, ⟨rfl, rfl, rfl, trivial⟩, rfl, fun hi => ?_⟩, fun i => fun hi => ⟨?_, ⟨?_, ?_⟩, ?_, ?_, rfl, rfl, ⟨rfl, rfl, rfl, rfl, rfl, rfl, rfl, ?_, trivial⟩, ⟨rfl, rfl, rfl, trivial⟩, rfl, fun hi => ?_⟩, rfl, ?_, rfl, ?_, rfl, ?_, rfl⟩
  all_goals first | exact s1 | exact s2 | (rcases (show i = 0 ∨ i = 1 by omega) with rfl | rfl <;> rfl) | (rcases (show i = 0 ∨ i = 1 by omega) with rfl | rfl; exact c1; exact c2) | (simp only [decide_eq_true_eq, decide_eq_false_iff_not]; omega) | assumption | omega | (simp [V.kind, V.num, V.text, V.items, *]; done) | rfl
theorem btw_tf0 (o n : Int) (t : T) (L : List (V × V)) (p q : V) (af uf at2 ut : Nat) (c1 : CallsF P G 125 [encV p] (int 0)) (c2 : CallsF P G 125 [encV q] (int 0)) (s1 : CallsF P G 136 [encM o n t, encV p] (.tup [int (af : Int), int (uf : Int), encPs L])) (s2 : CallsF P G 136 [encM o n t, encV q] (.tup [int (at2 : Int), int (ut : Int), encPs L])) (hl : L.length ≤ 1000000) (hh : af < at2) (hh2 : at2 ≤ L.length) (hc : CallsF P G 149 [encPs ((L.take at2).drop af)] (encPs ((L.take at2).drop af))) : CallsF P G 142 [encM o n t, encV p, encV q, bool true, bool false] (.tup [encPs ((L.take at2).drop af), int 0]) := by
  refine sx_fn (hs := [.loop [(0, 0), (1, 1), (2, 2)] [(0, 0), (1, 1), (2, 2)] (Sbt p q (encM o n t) true false) 2 (fun i => [.dec true, .el (cellsP (if i = 0 then p else q)), .call (int 0), .dec false]), .dec false,   .call (.tup [int (af : Int), int (uf : Int), encPs L]), .dec false, .call (.tup [int (at2 : Int), int (ut : Int), encPs L]), .dec false, .dec false, .call (encPs ((L.take at2).drop af))]) (let z1 := E (Ob.box [AV.f (int (V.kind p)), AV.f (int (V.num p)), AV.f (str (V.text p)), AV.f (encI (V.items p))]) ∧ E (Ob.box [AV.f (int (V.kind q)), AV.f (int (V.num q)), AV.f (str (V.text q)), AV.f (encI (V.items q))]) ∧ E (Ob.row 4 62 [cellsP p, cellsP q]) ∧ True; let z2 := (↑(List.length (cellsPs L)) : Int); let z3 := cellsPs (List.drop af (List.take at2 L)); (E true ∧ (E (AV.f (encM o n t)) ∧ E (AV.f (bool true)) ∧ E (AV.f (bool false)) ∧ E (AV.loc 0 0) ∧ E (AV.loc 1 0) ∧ E (AV.lsl 2) ∧ AV.f (int (↑(List.length (chunk (TypeInfo.size (Tables.types (Program.toTables P))[62]) 2 (int (V.kind p) :: int (V.num p) :: str (V.text p) :: encI (V.items p) :: cellsP q))) : Int)) = AV.f (int 2) ∧ AV.f (int 0) = AV.f (int (Int.ofNat 0)) ∧ True) ∧ z1 ∧ E true ∧ (false = true → false = true)) ∧ (∀ (i : Nat), i < 2 → decide ((i : Int) < 2) = true ∧ ((0 : Int) ≤ (i : Int) ∧ i < List.length [cellsP p, cellsP q]) ∧ [cellsP p, cellsP q][i]? = some (cellsP (if i = 0 then p else q)) ∧ CallsF P G 125 [encV (if i = 0 then p else q)] (int 0) ∧ E false ∧ E true ∧ (E (AV.f (encM o n t)) ∧ E (AV.f (bool true)) ∧ E (AV.f (bool false)) ∧ E (AV.loc 0 0) ∧ E (AV.loc 1 0) ∧ E (AV.lsl 2) ∧ E (AV.f (int 2)) ∧ AV.f (int (IntKind.wrap IntKind.i64 ((i : Int) + 1))) = AV.f (int (↑(i + 1) : Int)) ∧ True) ∧ z1 ∧ E true ∧ (false = true → false = true)) ∧ E false ∧ CallsF P G 136 [encM o n t, encV p] (FV.tup [int (af : Int), int (uf : Int), FV.sl 8 (cellsPs L)]) ∧ E false ∧ CallsF P G 136 [encM o n t, encV q] (FV.tup [int (at2 : Int), int (ut : Int), FV.sl 8 (cellsPs L)]) ∧ E false ∧ decide ((af : Int) ≥ (at2 : Int)) = false ∧ (E 8 ∧ (0 : Int) ≤ (af : Int) ∧ (af : Int) ≤ Option.getD (some (at2 : Int)) z2 ∧ Option.getD (some (at2 : Int)) z2 ≤ z2) ∧ CallsF P G 149 [FV.sl 8 (List.drop af (List.take (Int.toNat (Option.getD (some (at2 : Int)) z2)) (cellsPs L)))] (FV.sl 8 z3) ∧ E (FV.tup [FV.sl 8 z3, int 0])) get142 ent142 (by kernel_rfl) ?_
  refine ⟨⟨rfl, ⟨rfl, rfl, rfl, rfl, rfl, rfl, ?_, ?_, trivial⟩, ⟨rfl, rfl, rfl, trivial⟩, rfl, fun hi => ?_⟩, fun i => fun hi => ⟨?_, ⟨?_, ?_⟩, ?_, ?_, rfl, rfl, ⟨rfl, rfl, rfl, rfl, rfl, rfl, rfl, ?_, trivial⟩, ⟨rfl, rfl, rfl, trivial⟩, rfl, fun hi => ?_⟩, rfl, ?_, rfl, ?_, rfl, ?_, ⟨rfl, ?_, ?_, ?_⟩, ?_, rfl⟩
  all_goals first | exact s1 | exact s2 | (show ((af : Nat) : Int) ≤ ((at2 : Nat) : Int); omega) | (show ((at2 : Nat) : Int) ≤ (((cellsPs L).length : Nat) : Int); rw [cellsPs_length]; omega) | (show CallsF P G 149 [.sl 8 (((cellsPs L).take at2).drop af)] _; rw [cellsPs_take, cellsPs_drop]; exact hc) | (rcases (show i = 0 ∨ i = 1 by omega) with rfl | rfl <;> rfl) | (rcases (show i = 0 ∨ i = 1 by omega) with rfl | rfl; exact c1; exact c2) | (simp only [decide_eq_true_eq, decide_eq_false_iff_not]; omega) | assumption | omega | (simp [V.kind, V.num, V.text, V.items, *]; done) | rfl
theorem btw_tf1 (o n : Int) (t : T) (L : List (V × V)) (p q : V) (af uf at2 ut : Nat) (c1 : CallsF P G 125 [encV p] (int 0)) (c2 : CallsF P G 125 [encV q] (int 0)) (s1 : CallsF P G 136 [encM o n t, encV p] (.tup [int (af : Int), int (uf : Int), encPs L])) (s2 : CallsF P G 136 [encM o n t, encV q] (.tup [int (at2 : Int), int (ut : Int), encPs L])) (hl : L.length ≤ 1000000) (hh : at2 ≤ af) : CallsF P G 142 [encM o n t, encV p, encV q, bool true, bool false] (.tup [.nils, int 0]) := by
  refine sx_fn (hs := [.loop [(0, 0), (1, 1), (2, 2)] [(0, 0), (1, 1), (2, 2)] (Sbt p q (encM o n t) true false) 2 (fun i => [.dec true, .el (cellsP (if i = 0 then p else q)), .call (int 0), .dec false]), .dec false,   .call (.tup [int (af : Int), int (uf : Int), encPs L]), .dec false, .call (.tup [int (at2 : Int), int (ut : Int), encPs L]), .dec false, .dec true]) (let z1 := E (Ob.box [AV.f (int (V.kind p)), AV.f (int (V.num p)), AV.f (str (V.text p)), AV.f (encI (V.items p))]) ∧ E (Ob.box [AV.f (int (V.kind q)), AV.f (int (V.num q)), AV.f (str (V.text q)), AV.f (encI (V.items q))]) ∧ E (Ob.row 4 62 [cellsP p, cellsP q]) ∧ True; (E true ∧ (E (AV.f (encM o n t)) ∧ E (AV.f (bool true)) ∧ E (AV.f (bool false)) ∧ E (AV.loc 0 0) ∧ E (AV.loc 1 0) ∧ E (AV.lsl 2) ∧ AV.f (int (↑(List.length (chunk (TypeInfo.size (Tables.types (Program.toTables P))[62]) 2 (int (V.kind p) :: int (V.num p) :: str (V.text p) :: encI (V.items p) :: cellsP q))) : Int)) = AV.f (int 2) ∧ AV.f (int 0) = AV.f (int (Int.ofNat 0)) ∧ True) ∧ z1 ∧ E true ∧ (false = true → false = true)) ∧ (∀ (i : Nat), i < 2 → decide ((i : Int) < 2) = true ∧ ((0 : Int) ≤ (i : Int) ∧ i < List.length [cellsP p, cellsP q]) ∧ [cellsP p, cellsP q][i]? = some (cellsP (if i = 0 then p else q)) ∧ CallsF P G 125 [encV (if i = 0 then p else q)] (int 0) ∧ E false ∧ E true ∧ (E (AV.f (encM o n t)) ∧ E (AV.f (bool true)) ∧ E (AV.f (bool false)) ∧ E (AV.loc 0 0) ∧ E (AV.loc 1 0) ∧ E (AV.lsl 2) ∧ E (AV.f (int 2)) ∧ AV.f (int (IntKind.wrap IntKind.i64 ((i : Int) + 1))) = AV.f (int (↑(i + 1) : Int)) ∧ True) ∧ z1 ∧ E true ∧ (false = true → false = true)) ∧ E false ∧ CallsF P G 136 [encM o n t, encV p] (FV.tup [int (af : Int), int (uf : Int), FV.sl 8 (cellsPs L)]) ∧ E false ∧ CallsF P G 136 [encM o n t, encV q] (FV.tup [int (at2 : Int), int (ut : Int), FV.sl 8 (cellsPs L)]) ∧ E false ∧ decide ((af : Int) ≥ (at2 : Int)) = true ∧ E (FV.tup [FV.nils, int 0])) get142 ent142 (by kernel_rfl) ?_
  refine ⟨⟨rfl, ⟨rfl, rfl, rfl, rfl, rfl, rfl, ?_, ?_, trivial⟩, ⟨rfl, rfl, rfl, trivial⟩, rfl, fun hi => ?_⟩, fun i => fun hi => ⟨?_, ⟨?_, ?_⟩, ?_, ?_, rfl, rfl, ⟨rfl, rfl, rfl, rfl, rfl, rfl, rfl, ?_, trivial⟩, ⟨rfl, rfl, rfl, trivial⟩, rfl, fun hi => ?_⟩, rfl, ?_, rfl, ?_, rfl, ?_, rfl⟩
  all_goals first | exact s1 | exact s2 | (rcases (show i = 0 ∨ i = 1 by omega) with rfl | rfl <;> rfl) | (rcases (show i = 0 ∨ i = 1 by omega) with rfl | rfl; exact c1; exact c2) | (simp only [decide_eq_true_eq, decide_eq_false_iff_not]; omega) | assumption | omega | (simp [V.kind, V.num, V.text, V.items, *]; done) | rfl
theorem btw_ft0 (o n : Int) (t : T) (L : List (V × V)) (p q : V) (af uf at2 ut : Nat) (c1 : CallsF P G 125 [encV p] (int 0)) (c2 : CallsF P G 125 [encV q] (int 0)) (s1 : CallsF P G 136 [encM o n t, encV p] (.tup [int (af : Int), int (uf : Int), encPs L])) (s2 : CallsF P G 136 [encM o n t, encV q] (.tup [int (at2 : Int), int (ut : Int), encPs L])) (hl : L.length ≤ 1000000) (hh : uf < ut) (hh2 : ut ≤ L.length) (hc : CallsF P G 149 [encPs ((L.take ut).drop uf)] (encPs ((L.take ut).drop uf))) : CallsF P G 142 [encM o n t, encV p, encV q, bool false, bool true] (.tup [encPs ((L.take ut).drop uf), int 0]) := by
  refine sx_fn (hs := [.loop [(0, 0), (1, 1), (2, 2)] [(0, 0), (1, 1), (2, 2)] (Sbt p q (encM o n t) false true) 2 (fun i => [.dec true, .el (cellsP (if i = 0 then p else q)), .call (int 0), .dec false]), .dec false,   .call (.tup [int (af : Int), int (uf : Int), encPs L]), .dec true, .call (.tup [int (at2 : Int), int (ut : Int), encPs L]), .dec true, .dec false, .call (encPs ((L.take ut).drop uf))]) (let z1 := E (Ob.box [AV.f (int (V.kind p)), AV.f (int (V.num p)), AV.f (str (V.text p)), AV.f (encI (V.items p))]) ∧ E (Ob.box [AV.f (int (V.kind q)), AV.f (int (V.num q)), AV.f (str (V.text q)), AV.f (encI (V.items q))]) ∧ E (Ob.row 4 62 [cellsP p, cellsP q]) ∧ True; let z2 := (↑(List.length (cellsPs L)) : Int); let z3 := cellsPs (List.drop uf (List.take ut L)); (E true ∧ (E (AV.f (encM o n t)) ∧ E (AV.f (bool false)) ∧ E (AV.f (bool true)) ∧ E (AV.loc 0 0) ∧ E (AV.loc 1 0) ∧ E (AV.lsl 2) ∧ AV.f (int (↑(List.length (chunk (TypeInfo.size (Tables.types (Program.toTables P))[62]) 2 (int (V.kind p) :: int (V.num p) :: str (V.text p) :: encI (V.items p) :: cellsP q))) : Int)) = AV.f (int 2) ∧ AV.f (int 0) = AV.f (int (Int.ofNat 0)) ∧ True) ∧ z1 ∧ E true ∧ (false = true → false = true)) ∧ (∀ (i : Nat), i < 2 → decide ((i : Int) < 2) = true ∧ ((0 : Int) ≤ (i : Int) ∧ i < List.length [cellsP p, cellsP q]) ∧ [cellsP p, cellsP q][i]? = some (cellsP (if i = 0 then p else q)) ∧ CallsF P G 125 [encV (if i = 0 then p else q)] (int 0) ∧ E false ∧ E true ∧ (E (AV.f (encM o n t)) ∧ E (AV.f (bool false)) ∧ E (AV.f (bool true)) ∧ E (AV.loc 0 0) ∧ E (AV.loc 1 0) ∧ E (AV.lsl 2) ∧ E (AV.f (int 2)) ∧ AV.f (int (IntKind.wrap IntKind.i64 ((i : Int) + 1))) = AV.f (int (↑(i + 1) : Int)) ∧ True) ∧ z1 ∧ E true ∧ (false = true → false = true)) ∧ E false ∧ CallsF P G 136 [encM o n t, encV p] (FV.tup [int (af : Int), int (uf : Int), FV.sl 8 (cellsPs L)]) ∧ E true ∧ CallsF P G 136 [encM o n t, encV q] (FV.tup [int (at2 : Int), int (ut : Int), FV.sl 8 (cellsPs L)]) ∧ E true ∧ decide ((uf : Int) ≥ (ut : Int)) = false ∧ (E 8 ∧ (0 : Int) ≤ (uf : Int) ∧ (uf : Int) ≤ Option.getD (some (ut : Int)) z2 ∧ Option.getD (some (ut : Int)) z2 ≤ z2) ∧ CallsF P G 149 [FV.sl 8 (List.drop uf (List.take (Int.toNat (Option.getD (some (ut : Int)) z2)) (cellsPs L)))] (FV.sl 8 z3) ∧ E (FV.tup [FV.sl 8 z3, int 0])) get142 ent142 (by kernel_rfl) ?_
  refine ⟨⟨rfl, ⟨rfl, rfl, rfl, rfl, rfl, rfl, ?_, ?_, trivial⟩, ⟨rfl, rfl, rfl, trivial⟩, rfl, fun hi => ?_⟩, fun i => fun hi => ⟨?_, ⟨?_, ?_⟩, ?_, ?_, rfl, rfl, ⟨rfl, rfl, rfl, rfl, rfl, rfl, rfl, ?_, trivial⟩, ⟨rfl, rfl, rfl, trivial⟩, rfl, fun hi => ?_⟩, rfl, ?_, rfl, ?_, rfl, ?_, ⟨rfl, ?_, ?_, ?_⟩, ?_, rfl⟩
  all_goals first | exact s1 | exact s2 | (show ((uf : Nat) : Int) ≤ ((ut : Nat) : Int); omega) | (show ((ut : Nat) : Int) ≤ (((cellsPs L).length : Nat) : Int); rw [cellsPs_length]; omega) | (show CallsF P G 149 [.sl 8 (((cellsPs L).take ut).drop uf)] _; rw [cellsPs_take, cellsPs_drop]; exact hc) | (rcases (show i = 0 ∨ i = 1 by omega) with rfl | rfl <;> rfl) | (rcases (show i = 0 ∨ i = 1 by omega) with rfl | rfl; exact c1; exact c2) | (simp only [decide_eq_true_eq, decide_eq_false_iff_not]; omega) | assumption | omega | (simp [V.kind, V.num, V.text, V.items, *]; done) | rfl
theorem btw_ft1 (o n : Int) (t : T) (L : List (V × V)) (p q : V) (af uf at2 ut : Nat) (c1 : CallsF P G 125 [encV p] (int 0)) (c2 : CallsF P G 125 [encV q] (int 0)) (s1 : CallsF P G 136 [encM o n t, encV p] (.tup [int (af : Int), int (uf : Int), encPs L])) (s2 : CallsF P G 136 [encM o n t, encV q] (.tup [int (at2 : Int), int (ut : Int), encPs L])) (hl : L.length ≤ 1000000) (hh : ut ≤ uf) : CallsF P G 142 [encM o n t, encV p, encV q, bool false, bool true] (.tup [.nils, int 0]) := by
  refine sx_fn (hs := [.loop [(0, 0), (1, 1), (2, 2)] [(0, 0), (1, 1), (2, 2)] (Sbt p q (encM o n t) false true) 2 (fun i => [.dec true, .el (cellsP (if i = 0 then p else q)), .call (int 0), .dec false]), .dec false,   .call (.tup [int (af : Int), int (uf : Int), encPs L]), .dec true, .call (.tup [int (at2 : Int), int (ut : Int), encPs L]), .dec true, .dec true]) (let z1 := E (Ob.box [AV.f (int (V.kind p)), AV.f (int (V.num p)), AV.f (str (V.text p)), AV.f (encI (V.items p))]) ∧ E (Ob.box [AV.f (int (V.kind q)), AV.f (int (V.num q)), AV.f (str (V.text q)), AV.f (encI (V.items q))]) ∧ E (Ob.row 4 62 [cellsP p, cellsP q]) ∧ True; (E true ∧ (E (AV.f (encM o n t)) ∧ E (AV.f (bool false)) ∧ E (AV.f (bool true)) ∧ E (AV.loc 0 0) ∧ E (AV.loc 1 0) ∧ E (AV.lsl 2) ∧ AV.f (int (↑(List.length (chunk (TypeInfo.size (Tables.types (Program.toTables P))[62]) 2 (int (V.kind p) :: int (V.num p) :: str (V.text p) :: encI (V.items p) :: cellsP q))) : Int)) = AV.f (int 2) ∧ AV.f (int 0) = AV.f (int (Int.ofNat 0)) ∧ True) ∧ z1 ∧ E true ∧ (false = true → false = true)) ∧ (∀ (i : Nat), i < 2 → decide ((i : Int) < 2) = true ∧ ((0 : Int) ≤ (i : Int) ∧ i < List.length [cellsP p, cellsP q]) ∧ [cellsP p, cellsP q][i]? = some (cellsP (if i = 0 then p else q)) ∧ CallsF P G 125 [encV (if i = 0 then p else q)] (int 0) ∧ E false ∧ E true ∧ (E (AV.f (encM o n t)) ∧ E (AV.f (bool false)) ∧ E (AV.f (bool true)) ∧ E (AV.loc 0 0) ∧ E (AV.loc 1 0) ∧ E (AV.lsl 2) ∧ E (AV.f (int 2)) ∧ AV.f (int (IntKind.wrap IntKind.i64 ((i : Int) + 1))) = AV.f (int (↑(i + 1) : Int)) ∧ True) ∧ z1 ∧ E true ∧ (false = true → false = true)) ∧ E false ∧ CallsF P G 136 [encM o n t, encV p] (FV.tup [int (af : Int), int (uf : Int), FV.sl 8 (cellsPs L)]) ∧ E true ∧ CallsF P G 136 [encM o n t, encV q] (FV.tup [int (at2 : Int), int (ut : Int), FV.sl 8 (cellsPs L)]) ∧ E true ∧ decide ((uf : Int) ≥ (ut : Int)) = true ∧ E (FV.tup [FV.nils, int 0])) get142 ent142 (by kernel_rfl) ?_
  refine ⟨⟨rfl, ⟨rfl, rfl, rfl, rfl, rfl, rfl, ?_, ?_, trivial⟩, ⟨rfl, rfl, rfl, trivial⟩, rfl, fun hi => ?_⟩, fun i => fun hi => ⟨?_, ⟨?_, ?_⟩, ?_, ?_, rfl, rfl, ⟨rfl, rfl, rfl, rfl, rfl, rfl, rfl, ?_, trivial⟩, ⟨rfl, rfl, rfl, trivial⟩, rfl, fun hi => ?_⟩, rfl, ?_, rfl, ?_, rfl, ?_, rfl⟩
  all_goals first | exact s1 | exact s2 | (rcases (show i = 0 ∨ i = 1 by omega) with rfl | rfl <;> rfl) | (rcases (show i = 0 ∨ i = 1 by omega) with rfl | rfl; exact c1; exact c2) | (simp only [decide_eq_true_eq, decide_eq_false_iff_not]; omega) | assumption | omega | (simp [V.kind, V.num, V.text, V.items, *]; done) | rfl
theorem btw_ff0 (o n : Int) (t : T) (L : List (V × V)) (p q : V) (af uf at2 ut : Nat) (c1 : CallsF P G 125 [encV p] (int 0)) (c2 : CallsF P G 125 [encV q] (int 0)) (s1 : CallsF P G 136 [encM o n t, encV p] (.tup [int (af : Int), int (uf : Int), encPs L])) (s2 : CallsF P G 136 [encM o n t, encV q] (.tup [int (at2 : Int), int (ut : Int), encPs L])) (hl : L.length ≤ 1000000) (hh : uf < at2) (hh2 : at2 ≤ L.length) (hc : CallsF P G 149 [encPs ((L.take at2).drop uf)] (encPs ((L.take at2).drop uf))) : CallsF P G 142 [encM o n t, encV p, encV q, bool false, bool false] (.tup [encPs ((L.take at2).drop uf), int 0]) := by
  refine sx_fn (hs := [.loop [(0, 0), (1, 1), (2, 2)] [(0, 0), (1, 1), (2, 2)] (Sbt p q (encM o n t) false false) 2 (fun i => [.dec true, .el (cellsP (if i = 0 then p else q)), .call (int 0), .dec false]), .dec false,   .call (.tup [int (af : Int), int (uf : Int), encPs L]), .dec true, .call (.tup [int (at2 : Int), int (ut : Int), encPs L]), .dec false, .dec false, .call (encPs ((L.take at2).drop uf))]) (let z1 := E (Ob.box [AV.f (int (V.kind p)), AV.f (int (V.num p)), AV.f (str (V.text p)), AV.f (encI (V.items p))]) ∧ E (Ob.box [AV.f (int (V.kind q)), AV.f (int (V.num q)), AV.f (str (V.text q)), AV.f (encI (V.items q))]) ∧ E (Ob.row 4 62 [cellsP p, cellsP q]) ∧ True; let z2 := (↑(List.length (cellsPs L)) : Int); let z3 := cellsPs (List.drop uf (List.take at2 L)); (E true ∧ (E (AV.f (encM o n t)) ∧ E (AV.f (bool false)) ∧ E (AV.f (bool false)) ∧ E (AV.loc 0 0) ∧ E (AV.loc 1 0) ∧ E (AV.lsl 2) ∧ AV.f (int (↑(List.length (chunk (TypeInfo.size (Tables.types (Program.toTables P))[62]) 2 (int (V.kind p) :: int (V.num p) :: str (V.text p) :: encI (V.items p) :: cellsP q))) : Int)) = AV.f (int 2) ∧ AV.f (int 0) = AV.f (int (Int.ofNat 0)) ∧ True) ∧ z1 ∧ E true ∧ (false = true → false = true)) ∧ (∀ (i : Nat), i < 2 → decide ((i : Int) < 2) = true ∧ ((0 : Int) ≤ (i : Int) ∧ i < List.length [cellsP p, cellsP q]) ∧ [cellsP p, cellsP q][i]? = some (cellsP (if i = 0 then p else q)) ∧ CallsF P G 125 [encV (if i = 0 then p else q)] (int 0) ∧ E false ∧ E true ∧ (E (AV.f (encM o n t)) ∧ E (AV.f (bool false)) ∧ E (AV.f (bool false)) ∧ E (AV.loc 0 0) ∧ E (AV.loc 1 0) ∧ E (AV.lsl 2) ∧ E (AV.f (int 2)) ∧ AV.f (int (IntKind.wrap IntKind.i64 ((i : Int) + 1))) = AV.f (int (↑(i + 1) : Int)) ∧ True) ∧ z1 ∧ E true ∧ (false = true → false = true)) ∧ E false ∧ CallsF P G 136 [encM o n t, encV p] (FV.tup [int (af : Int), int (uf : Int), FV.sl 8 (cellsPs L)]) ∧ E true ∧ CallsF P G 136 [encM o n t, encV q] (FV.tup [int (at2 : Int), int (ut : Int), FV.sl 8 (cellsPs L)]) ∧ E false ∧ decide ((uf : Int) ≥ (at2 : Int)) = false ∧ (E 8 ∧ (0 : Int) ≤ (uf : Int) ∧ (uf : Int) ≤ Option.getD (some (at2 : Int)) z2 ∧ Option.getD (some (at2 : Int)) z2 ≤ z2) ∧ CallsF P G 149 [FV.sl 8 (List.drop uf (List.take (Int.toNat (Option.getD (some (at2 : Int)) z2)) (cellsPs L)))] (FV.sl 8 z3) ∧ E (FV.tup [FV.sl 8 z3, int 0])) get142 ent142 (by kernel_rfl) ?_
  refine ⟨⟨rfl, ⟨rfl, rfl, rfl, rfl, rfl, rfl, ?_, ?_, trivial⟩, ⟨rfl, rfl, rfl, trivial⟩, rfl, fun hi => ?_⟩, fun i => fun hi => ⟨?_, ⟨?_, ?_⟩, ?_, ?_, rfl, rfl, ⟨rfl, rfl, rfl, rfl, rfl, rfl, rfl, ?_, trivial⟩, ⟨rfl, rfl, rfl, trivial⟩, rfl, fun hi => ?_⟩, rfl, ?_, rfl, ?_, rfl, ?_, ⟨rfl, ?_, ?_, ?_⟩, ?_, rfl⟩
  all_goals first | exact s1 | exact s2 | (show ((uf : Nat) : Int) ≤ ((at2 : Nat) : Int); omega) | (show ((at2 : Nat) : Int) ≤ (((cellsPs L).length : Nat) : Int); rw [cellsPs_length]; omega) | (show CallsF P G 149 [.sl 8 (((cellsPs L).take at2).drop uf)] _; rw [cellsPs_take, cellsPs_drop]; exact hc) | (rcases (show i = 0 ∨ i = 1 by omega) with rfl | rfl <;> rfl) | (rcases (show i = 0 ∨ i = 1 by omega) with rfl | rfl; exact c1; exact c2) | (simp only [decide_eq_true_eq, decide_eq_false_iff_not]; omega) | assumption | omega | (simp [V.kind, V.num, V.text, V.items, *]; done) | rfl
theorem btw_ff1 (o n : Int) (t : T) (L : List (V × V)) (p q : V) (af uf at2 ut : Nat) (c1 : CallsF P G 125 [encV p] (int 0)) (c2 : CallsF P G 125 [encV q] (int 0)) (s1 : CallsF P G 136 [encM o n t, encV p] (.tup [int (af : Int), int (uf : Int), encPs L])) (s2 : CallsF P G 136 [encM o n t, encV q] (.tup [int (at2 : Int), int (ut : Int), encPs L])) (hl : L.length ≤ 1000000) (hh : at2 ≤ uf) : CallsF P G 142 [encM o n t, encV p, encV q, bool false, bool false] (.tup [.nils, int 0]) := by
  refine sx_fn (hs := [.loop [(0, 0), (1, 1), (2, 2)] [(0, 0), (1, 1), (2, 2)] (Sbt p q (encM o n t) false false) 2 (fun i => [.dec true, .el (cellsP (if i = 0 then p else q)), .call (int 0), .dec false]), .dec false,   .call (.tup [int (af : Int), int (uf : Int), encPs L]), .dec true, .call (.tup [int (at2 : Int), int (ut : Int), encPs L]), .dec false, .dec true]) (let z1 := E (Ob.box [AV.f (int (V.kind p)), AV.f (int (V.num p)), AV.f (str (V.text p)), AV.f (encI (V.items p))]) ∧ E (Ob.box [AV.f (int (V.kind q)), AV.f (int (V.num q)), AV.f (str (V.text q)), AV.f (encI (V.items q))]) ∧ E (Ob.row 4 62 [cellsP p, cellsP q]) ∧ True; (E true ∧ (E (AV.f (encM o n t)) ∧ E (AV.f (bool false)) ∧ E (AV.f (bool false)) ∧ E (AV.loc 0 0) ∧ E (AV.loc 1 0) ∧ E (AV.lsl 2) ∧ AV.f (int (↑(List.length (chunk (TypeInfo.size (Tables.types (Program.toTables P))[62]) 2 (int (V.kind p) :: int (V.num p) :: str (V.text p) :: encI (V.items p) :: cellsP q))) : Int)) = AV.f (int 2) ∧ AV.f (int 0) = AV.f (int (Int.ofNat 0)) ∧ True) ∧ z1 ∧ E true ∧ (false = true → false = true)) ∧ (∀ (i : Nat), i < 2 → decide ((i : Int) < 2) = true ∧ ((0 : Int) ≤ (i : Int) ∧ i < List.length [cellsP p, cellsP q]) ∧ [cellsP p, cellsP q][i]? = some (cellsP (if i = 0 then p else q)) ∧ CallsF P G 125 [encV (if i = 0 then p else q)] (int 0) ∧ E false ∧ E true ∧ (E (AV.f (encM o n t)) ∧ E (AV.f (bool false)) ∧ E (AV.f (bool false)) ∧ E (AV.loc 0 0) ∧ E (AV.loc 1 0) ∧ E (AV.lsl 2) ∧ E (AV.f (int 2)) ∧ AV.f (int (IntKind.wrap IntKind.i64 ((i : Int) + 1))) = AV.f (int (↑(i + 1) : Int)) ∧ True) ∧ z1 ∧ E true ∧ (false = true → false = true)) ∧ E false ∧ CallsF P G 136 [encM o n t, encV p] (FV.tup [int (af : Int), int (uf : Int), FV.sl 8 (cellsPs L)]) ∧ E true ∧ CallsF P G 136 [encM o n t, encV q] (FV.tup [int (at2 : Int), int (ut : Int), FV.sl 8 (cellsPs L)]) ∧ E false ∧ decide ((uf : Int) ≥ (at2 : Int)) = true ∧ E (FV.tup [FV.nils, int 0])) get142 ent142 (by kernel_rfl) ?_
  refine ⟨⟨rfl, ⟨rfl, rfl, rfl, rfl, rfl, rfl, ?_, ?_, trivial⟩, ⟨rfl, rfl, rfl, trivial⟩, rfl, fun hi => ?_⟩, fun i => fun hi => ⟨?_, ⟨?_, ?_⟩, ?_, ?_, rfl, rfl, ⟨rfl, rfl, rfl, rfl, rfl, rfl, rfl, ?_, trivial⟩, ⟨rfl, rfl, rfl, trivial⟩, rfl, fun hi => ?_⟩, rfl, ?_, rfl, ?_, rfl, ?_, rfl⟩
  all_goals first | exact s1 | exact s2 | (rcases (show i = 0 ∨ i = 1 by omega) with rfl | rfl <;> rfl) | (rcases (show i = 0 ∨ i = 1 by omega) with rfl | rfl; exact c1; exact c2) | (simp only [decide_eq_true_eq, decide_eq_false_iff_not]; omega) | assumption | omega | (simp [V.kind, V.num, V.text, V.items, *]; done) | rfl
end Go.Sx
set_option maxRecDepth 100000
set_option maxHeartbeats 4000000
set_option linter.unusedSimpArgs false
set_option linter.unusedVariables false
namespace Go.Sx
open Go.Proofs Sp
/-- Whether a key stands between two. -/
noncomputable def inB (o : Int) (a b : V) (x y : Bool) (q : V × V) : Bool := (decide (cmpO o a q.1 < 0) || (cmpO o a q.1 == 0) && x) && (decide (cmpO o q.1 b < 0) || (cmpO o q.1 b == 0) && y)
end Go.Sx
set_option maxRecDepth 100000
set_option maxHeartbeats 4000000
set_option linter.unusedSimpArgs false
set_option linter.unusedVariables false
namespace Go.Sx
open Go.Proofs Sp
theorem btw_no1 (o n : Int) (t : T) (p q : V) (x y : Bool) (c1 : CallsF P G 125 [encV p] (int 3)) : CallsF P G 142 [encM o n t, encV p, encV q, bool x, bool y] (.tup [.nils, int 3]) := by
  refine sx_fn (hs := [.loop [(0, 0), (1, 1), (2, 2)] [(0, 0), (1, 1), (2, 2)] (Sbt p q (encM o n t) x y) 0 (fun i => [.dec true, .el (cellsP (if i = 0 then p else q)), .call (int 0), .dec false]), .dec true, .el (cellsP p), .call (int 3), .dec true]) (let z1 := E (Ob.box [AV.f (int (V.kind p)), AV.f (int (V.num p)), AV.f (str (V.text p)), AV.f (encI (V.items p))]) ∧ E (Ob.box [AV.f (int (V.kind q)), AV.f (int (V.num q)), AV.f (str (V.text q)), AV.f (encI (V.items q))]) ∧ E (Ob.row 4 62 [cellsP p, cellsP q]) ∧ True; (E true ∧ (E (AV.f (encM o n t)) ∧ E (AV.f (bool x)) ∧ E (AV.f (bool y)) ∧ E (AV.loc 0 0) ∧ E (AV.loc 1 0) ∧ E (AV.lsl 2) ∧ AV.f (int (↑(List.length (chunk (TypeInfo.size (Tables.types (Program.toTables P))[62]) 2 (int (V.kind p) :: int (V.num p) :: str (V.text p) :: encI (V.items p) :: cellsP q))) : Int)) = AV.f (int 2) ∧ AV.f (int 0) = AV.f (int (Int.ofNat 0)) ∧ True) ∧ z1 ∧ E true ∧ (false = true → false = true)) ∧ (∀ (i : Nat), i < 0 → decide ((i : Int) < 2) = true ∧ ((0 : Int) ≤ (i : Int) ∧ i < List.length [cellsP p, cellsP q]) ∧ [cellsP p, cellsP q][i]? = some (cellsP (if i = 0 then p else q)) ∧ CallsF P G 125 [encV (if i = 0 then p else q)] (int 0) ∧ E false ∧ E true ∧ (E (AV.f (encM o n t)) ∧ E (AV.f (bool x)) ∧ E (AV.f (bool y)) ∧ E (AV.loc 0 0) ∧ E (AV.loc 1 0) ∧ E (AV.lsl 2) ∧ E (AV.f (int 2)) ∧ AV.f (int (IntKind.wrap IntKind.i64 ((i : Int) + 1))) = AV.f (int (↑(i + 1) : Int)) ∧ True) ∧ z1 ∧ E true ∧ (false = true → false = true)) ∧ E true ∧ ((0 : Int) ≤ (0 : Int) ∧ (0 : Nat) < List.length [cellsP p, cellsP q]) ∧ E (some (cellsP p)) ∧ CallsF P G 125 [encV p] (int 3) ∧ E true ∧ E (FV.tup [FV.nils, int 3])) get142 ent142 (by kernel_rfl) ?_
  refine ⟨⟨rfl, ⟨rfl, rfl, rfl, rfl, rfl, rfl, ?_, ?_, trivial⟩, ⟨rfl, rfl, rfl, trivial⟩, rfl, fun hi => ?_⟩, fun i => fun hi => ⟨?_, ⟨?_, ?_⟩, ?_, ?_, rfl, rfl, ⟨rfl, rfl, rfl, rfl, rfl, rfl, rfl, ?_, trivial⟩, ⟨rfl, rfl, rfl, trivial⟩, rfl, fun hi => ?_⟩, rfl, ⟨?_, ?_⟩, rfl, ?_, rfl, rfl⟩
  all_goals first | exact c1 | (exfalso; omega) | assumption | omega | (simp only [decide_eq_true_eq, decide_eq_false_iff_not, beq_iff_eq, beq_eq_false_iff_ne, cellsVs_length, List.length_append, List.length_map, List.length_take, List.length_drop, List.length_reverse, List.length_set, List.length_replicate, chunk, List.length_cons, List.length_nil, Int.toNat_natCast, V.items, maxLen]; omega) | (simp [V.kind, V.num, V.text, V.items, *]; done) | rfl
theorem btw_no2 (o n : Int) (t : T) (p q : V) (x y : Bool) (c1 : CallsF P G 125 [encV p] (int 0)) (c2 : CallsF P G 125 [encV q] (int 3)) : CallsF P G 142 [encM o n t, encV p, encV q, bool x, bool y] (.tup [.nils, int 3]) := by
  refine sx_fn (hs := [.loop [(0, 0), (1, 1), (2, 2)] [(0, 0), (1, 1), (2, 2)] (Sbt p q (encM o n t) x y) 1 (fun i => [.dec true, .el (cellsP (if i = 0 then p else q)), .call (int 0), .dec false]), .dec true, .el (cellsP q), .call (int 3), .dec true]) (let z1 := E (Ob.box [AV.f (int (V.kind p)), AV.f (int (V.num p)), AV.f (str (V.text p)), AV.f (encI (V.items p))]) ∧ E (Ob.box [AV.f (int (V.kind q)), AV.f (int (V.num q)), AV.f (str (V.text q)), AV.f (encI (V.items q))]) ∧ E (Ob.row 4 62 [cellsP p, cellsP q]) ∧ True; (E true ∧ (E (AV.f (encM o n t)) ∧ E (AV.f (bool x)) ∧ E (AV.f (bool y)) ∧ E (AV.loc 0 0) ∧ E (AV.loc 1 0) ∧ E (AV.lsl 2) ∧ AV.f (int (↑(List.length (chunk (TypeInfo.size (Tables.types (Program.toTables P))[62]) 2 (int (V.kind p) :: int (V.num p) :: str (V.text p) :: encI (V.items p) :: cellsP q))) : Int)) = AV.f (int 2) ∧ AV.f (int 0) = AV.f (int (Int.ofNat 0)) ∧ True) ∧ z1 ∧ E true ∧ (false = true → false = true)) ∧ (∀ (i : Nat), i < 1 → decide ((i : Int) < 2) = true ∧ ((0 : Int) ≤ (i : Int) ∧ i < List.length [cellsP p, cellsP q]) ∧ [cellsP p, cellsP q][i]? = some (cellsP (if i = 0 then p else q)) ∧ CallsF P G 125 [encV (if i = 0 then p else q)] (int 0) ∧ E false ∧ E true ∧ (E (AV.f (encM o n t)) ∧ E (AV.f (bool x)) ∧ E (AV.f (bool y)) ∧ E (AV.loc 0 0) ∧ E (AV.loc 1 0) ∧ E (AV.lsl 2) ∧ E (AV.f (int 2)) ∧ AV.f (int (IntKind.wrap IntKind.i64 ((i : Int) + 1))) = AV.f (int (↑(i + 1) : Int)) ∧ True) ∧ z1 ∧ E true ∧ (false = true → false = true)) ∧ E true ∧ ((0 : Int) ≤ (1 : Int) ∧ (1 : Nat) < List.length [cellsP p, cellsP q]) ∧ E (some (cellsP q)) ∧ CallsF P G 125 [encV q] (int 3) ∧ E true ∧ E (FV.tup [FV.nils, int 3])) get142 ent142 (by kernel_rfl) ?_
  refine ⟨⟨rfl, ⟨rfl, rfl, rfl, rfl, rfl, rfl, ?_, ?_, trivial⟩, ⟨rfl, rfl, rfl, trivial⟩, rfl, fun hi => ?_⟩, fun i => fun hi => ⟨?_, ⟨?_, ?_⟩, ?_, ?_, rfl, rfl, ⟨rfl, rfl, rfl, rfl, rfl, rfl, rfl, ?_, trivial⟩, ⟨rfl, rfl, rfl, trivial⟩, rfl, fun hi => ?_⟩, rfl, ⟨?_, ?_⟩, rfl, ?_, rfl, rfl⟩
  all_goals first | exact c2 | (obtain rfl : i = 0 := (by omega); exact c1) | (obtain rfl : i = 0 := (by omega); rfl) | assumption | omega | (simp only [decide_eq_true_eq, decide_eq_false_iff_not, beq_iff_eq, beq_eq_false_iff_ne, cellsVs_length, List.length_append, List.length_map, List.length_take, List.length_drop, List.length_reverse, List.length_set, List.length_replicate, chunk, List.length_cons, List.length_nil, Int.toNat_natCast, V.items, maxLen]; omega) | (simp [V.kind, V.num, V.text, V.items, *]; done) | rfl
theorem get107 : P.funcs[107]? = some Tryz.f107 := by kernel_rfl
theorem ent107 : entersP P 107 = true := by kernel_rfl
theorem cut_ok (o n : Int) (t : T) (p q : V) (x y : Bool) (F : List (V × V)) (n2 : Int) (t2 : T) (h1 : CallsF P G 142 [encM o n t, encV p, encV q, bool x, bool y] (.tup [encPs F, int 0])) (h2 : CallsF P G 10 [int o, encPs F] (.tup [encM o n2 t2, int 0])) : CallsF P G 107 [encM o n t, encV p, encV q, bool x, bool y] (.tup [encM o n2 t2, int 0]) := by
  refine sx_fn (hs := [.call (FV.tup [encPs F, int 0]), .dec false, .call (int o), .call (FV.tup [encM o n2 t2, int 0])]) (let z1 := FV.tup [encM o n2 t2, int 0]; CallsF P G 142 [encM o n t, encV p, encV q, bool x, bool y] (FV.tup [FV.sl 8 (cellsPs F), int 0]) ∧ E false ∧ CallsF P G 75 [encM o n t] (int o) ∧ CallsF P G 10 [int o, FV.sl 8 (cellsPs F)] z1 ∧ E z1) get107 ent107 (by kernel_rfl) ?_
  refine ⟨?_, rfl, ?_, ?_, rfl⟩
  all_goals first | exact h1 | exact h2 | exact order_ok _ _ _
theorem cut_no (o n : Int) (t : T) (p q : V) (x y : Bool) (h1 : CallsF P G 142 [encM o n t, encV p, encV q, bool x, bool y] (.tup [encPs [], int 3])) : CallsF P G 107 [encM o n t, encV p, encV q, bool x, bool y] (.tup [.sc (.pointer none), int 3]) := by
  refine sx_fn (hs := [.call (FV.tup [encPs [], int 3]), .dec true]) ((CallsF P G 142 [encM o n t, encV p, encV q, bool x, bool y] (FV.tup [FV.sl 8 [], int 3])) ∧ (E (true)) ∧ E (FV.tup [FV.sc (Value.pointer none), int 3])) get107 ent107 (by kernel_rfl) ?_
  refine ⟨?_, ⟨rfl, rfl⟩⟩
  all_goals exact h1
theorem nils_tup (z : Nat) (us : List FV) : ∀ w ok v, FRel w ok (.tup (.nils :: us)) v → FRel w ok (.tup (.sl z [] :: us)) v := by
  intro w ok v h
  rw [FRel] at h ⊢
  obtain ⟨cs, e, h⟩ := h
  refine ⟨cs, e, ?_⟩
  rw [FRelL] at h ⊢
  obtain ⟨v1, r1, e1, h1, h2⟩ := h
  exact ⟨v1, r1, e1, nils_sl z _ _ _ h1, h2⟩
theorem chk0 {v : V} (hv : Fine v) (hr : rightB v = true) : CallsF P G 125 [encV v] (int 0) := by have h := check_chk v hv; rw [hr] at h; exact h
theorem chk3 {v : V} (hv : Fine v) (hr : rightB v = false) : CallsF P G 125 [encV v] (int 3) := by have h := check_chk v hv; rw [hr] at h; exact h
theorem btw_wrong (o n : Int) (t : T) (p q : V) (x y : Bool) (hp : Fine p) (hq : Fine q) (h : (rightB p && rightB q) = false) : CallsF P G 142 [encM o n t, encV p, encV q, bool x, bool y] (.tup [encPs [], int 3]) := by
  refine CallsF.weak ?_ (nils_tup 8 [int 3])
  cases h1 : rightB p with
  | false => exact btw_no1 o n t p q x y (chk3 hp h1)
  | true =>
    rw [h1, Bool.true_and] at h
    exact btw_no2 o n t p q x y (chk0 hp h1) (chk3 hq h)
/-- The pairs between two keys. -/
noncomputable def btL (o : Int) (p q : V) (x y : Bool) (L : List (V × V)) : List (V × V) := (L.take (if y then uptoN (cmpO o) q L else aheadN (cmpO o) q L)).drop (if x then aheadN (cmpO o) p L else uptoN (cmpO o) p L)
theorem btw_ok (o n : Int) (t : T) (p q : V) (x y : Bool) (ho : 0 ≤ o ∧ o ≤ 5) (hp : Fine p) (hq : Fine q) (rp : rightB p = true) (rq : rightB q = true) (hpp : ∀ p, p ∈ t.toList → RP p) (hs : t.size ≤ 131072) (hR : Rising (cmpO o) t.toList) : CallsF P G 142 [encM o n t, encV p, encV q, bool x, bool y] (.tup [encPs (btL o p q x y t.toList), int 0]) := by
  have s1 := split_ok o n t p ho hp rp hpp hs hR
  have s2 := split_ok o n t q ho hq rq hpp hs hR
  have hlen := T.toList_length t
  have u1 := (upto_place (cmpO_line o) q hR).1
  have u2 := (ahead_place (cmpO_line o) q hR).1
  have c1 := chk0 hp rp
  have c2 := chk0 hq rq
  unfold btL
  generalize t.toList = L at *
  have hc : ∀ hi lo, lo < hi → hi ≤ L.length → CallsF P G 149 [encPs ((L.take hi).drop lo)] (encPs ((L.take hi).drop lo)) := fun hi lo h1 h2 => cloneP_ok _ (by rw [List.length_drop, List.length_take]; omega) (by rw [List.length_drop, List.length_take]; omega)
  have he : ∀ hi lo, hi ≤ lo → CallsF P G 142 [encM o n t, encV p, encV q, bool x, bool y] (.tup [.nils, int 0]) → CallsF P G 142 [encM o n t, encV p, encV q, bool x, bool y] (.tup [encPs ((L.take hi).drop lo), int 0]) := fun hi lo h1 h2 => by
    rw [List.drop_eq_nil_of_le (by rw [List.length_take]; omega)]
    exact h2.weak (nils_tup 8 [int 0])
  cases x <;> cases y <;> simp only [if_true, if_false, Bool.false_eq_true]
  · rcases Nat.lt_or_ge (uptoN (cmpO o) p L) (aheadN (cmpO o) q L) with h | h
    · exact btw_ff0 o n t L p q _ _ _ _ c1 c2 s1 s2 (by omega) h u2 (hc _ _ h u2)
    · exact he _ _ h (btw_ff1 o n t L p q _ _ _ _ c1 c2 s1 s2 (by omega) h)
  · rcases Nat.lt_or_ge (uptoN (cmpO o) p L) (uptoN (cmpO o) q L) with h | h
    · exact btw_ft0 o n t L p q _ _ _ _ c1 c2 s1 s2 (by omega) h u1 (hc _ _ h u1)
    · exact he _ _ h (btw_ft1 o n t L p q _ _ _ _ c1 c2 s1 s2 (by omega) h)
  · rcases Nat.lt_or_ge (aheadN (cmpO o) p L) (aheadN (cmpO o) q L) with h | h
    · exact btw_tf0 o n t L p q _ _ _ _ c1 c2 s1 s2 (by omega) h u2 (hc _ _ h u2)
    · exact he _ _ h (btw_tf1 o n t L p q _ _ _ _ c1 c2 s1 s2 (by omega) h)
  · rcases Nat.lt_or_ge (aheadN (cmpO o) p L) (uptoN (cmpO o) q L) with h | h
    · exact btw_tt0 o n t L p q _ _ _ _ c1 c2 s1 s2 (by omega) h u1 (hc _ _ h u1)
    · exact he _ _ h (btw_tt1 o n t L p q _ _ _ _ c1 c2 s1 s2 (by omega) h)
theorem filter_btL (o : Int) (p q : V) (x y : Bool) (L : List (V × V)) (hR : Rising (cmpO o) L) : L.filter (inB o p q x y) = btL o p q x y L := by
  obtain ⟨a1, a2, a3⟩ := ahead_place (cmpO_line o) p hR
  obtain ⟨u1, u2, u3⟩ := upto_place (cmpO_line o) p hR
  obtain ⟨b1, b2, b3⟩ := ahead_place (cmpO_line o) q hR
  obtain ⟨v1, v2, v3⟩ := upto_place (cmpO_line o) q hR
  refine filter_between _ L _ _ fun i hi => ?_
  have tp := (cmpO_line o).turn p (L.getD i default).1 trivial trivial
  have e1 : decide (aheadN (cmpO o) p L ≤ i) = decide (0 ≤ cmpO o (L.getD i default).1 p) := by
    rcases Nat.lt_or_ge i (aheadN (cmpO o) p L) with h | h
    · have := a2 i h; simp only at this; rw [this, decide_eq_false (by omega)]
    · have := a3 i h hi; simp only at this; rw [this, decide_eq_true h]
  have e2 : decide (uptoN (cmpO o) p L ≤ i) = decide (0 < cmpO o (L.getD i default).1 p) := by
    rcases Nat.lt_or_ge i (uptoN (cmpO o) p L) with h | h
    · have := u2 i h; simp only at this; rw [this, decide_eq_false (by omega)]
    · have := u3 i h hi; simp only at this; rw [this, decide_eq_true h]
  have e3 : decide (i < aheadN (cmpO o) q L) = !decide (0 ≤ cmpO o (L.getD i default).1 q) := by
    rcases Nat.lt_or_ge i (aheadN (cmpO o) q L) with h | h
    · have := b2 i h; simp only at this; rw [this, decide_eq_true h]; rfl
    · have := b3 i h hi; simp only at this; rw [this, decide_eq_false (by omega)]; rfl
  have e4 : decide (i < uptoN (cmpO o) q L) = !decide (0 < cmpO o (L.getD i default).1 q) := by
    rcases Nat.lt_or_ge i (uptoN (cmpO o) q L) with h | h
    · have := v2 i h; simp only at this; rw [this, decide_eq_true h]; rfl
    · have := v3 i h hi; simp only at this; rw [this, decide_eq_false (by omega)]; rfl
  unfold inB
  generalize (L.getD i default).1 = k at *
  have f1 : (decide (cmpO o p k < 0) || (cmpO o p k == 0) && x) = decide ((if x then aheadN (cmpO o) p L else uptoN (cmpO o) p L) ≤ i) := by
    cases x
    · simp only [Bool.and_false, Bool.or_false, Bool.false_eq_true, if_false]
      rw [e2, Bool.eq_iff_iff, decide_eq_true_eq, decide_eq_true_eq]; omega
    · simp only [Bool.and_true, if_true]
      rw [e1, Bool.eq_iff_iff, Bool.or_eq_true, decide_eq_true_eq, beq_iff_eq, decide_eq_true_eq]; omega
  have f2 : (decide (cmpO o k q < 0) || (cmpO o k q == 0) && y) = decide (i < (if y then uptoN (cmpO o) q L else aheadN (cmpO o) q L)) := by
    cases y
    · simp only [Bool.and_false, Bool.or_false, Bool.false_eq_true, if_false]
      rw [e3, Bool.eq_iff_iff, Bool.not_eq_true', decide_eq_true_eq, decide_eq_false_iff_not]; omega
    · simp only [Bool.and_true, if_true]
      rw [e4, Bool.eq_iff_iff, Bool.or_eq_true, Bool.not_eq_true', decide_eq_true_eq, beq_iff_eq, decide_eq_false_iff_not]; omega
  rw [f1, f2]
end Go.Sx
set_option maxRecDepth 100000
set_option maxHeartbeats 4000000
set_option linter.unusedSimpArgs false
set_option linter.unusedVariables false
namespace Go.Sx
open Go.Proofs Sp
theorem wL_keys (L : List (V × V)) (hz : ∀ q, q ∈ L → q.2 = nilW) : wL (keysL L) = L := by
  induction L with
  | nil => rfl
  | cons q L ih =>
    have := ih fun r hr => hz r (by simp [hr])
    show (q.1, nilW) :: wL (keysL L) = q :: L
    rw [this, show (q.1, nilW) = q from Prod.ext rfl (hz q (by simp)).symm]
theorem sof_got (o : Int) (l : List V) (ho : 0 ≤ o ∧ o ≤ 5) (hl : l.length ≤ 65536) (hv : ∀ v, v ∈ l → Fine v ∧ rightB v = true) : ∃ x : T × Nat, OkX x ∧ x.2 ≤ 65536 ∧ Rising (cmpO o) x.1.toList ∧ x.1.toList = foldL (cmpO o) [] (wL l) ∧ (∀ q, q ∈ x.1.toList → q.2 = nilW) ∧ CallsF P G 20 [int o, encI l] (.tup [.ptr [encX o x] 0, int 0]) := by
  have hR := rp_wL hv
  have h1 := ofT_ok (c := cmpO o) hR (wL l).length (Nat.le_refl _)
  have h2 := ofT_fold (cmpO_line o) (wL l) (wL l).length (Nat.le_refl _)
  rw [List.take_length] at h2
  refine ⟨_, h1.1, by have := h1.2; rw [wL_len] at this; rw [wL_len]; omega, h2.2, h2.1, fun q hq => ?_, sof_ok o ho l hl hv⟩
  rw [h2.1] at hq
  rcases foldL_sub _ _ _ q hq with h | h
  · simp at h
  · obtain ⟨v, _, rfl⟩ := List.mem_map.1 h
    rfl
theorem rat_ok (o i : Int) (L : List (V × V)) : CallsF P G 37 [.ptr [.ptr [int o, encPs L] 0] 0, int i] (.tup [encV (atQ L i).1, int (if inQ L i then 0 else 5)]) := by
  by_cases h : 0 ≤ i ∧ i < (L.length : Int)
  · obtain ⟨j, rfl⟩ := Int.eq_ofNat_of_zero_le h.1
    obtain ⟨e1, e2⟩ := inQ_nat (L := L) (i := j) (by omega)
    rw [e1, e2]
    exact rat_in o j L h.1 h.2
  · have e := inQ_no h
    have e2 : atQ L i = noQ := by unfold atQ; rw [e]; rfl
    rw [e, e2]
    refine CallsF.le ?_ (le_tup (LeL.cons le_zero (LeL.refl _)))
    by_cases h0 : i < 0
    · exact rat_neg o i L h0
    · exact rat_long o i L (by omega) (by omega)
theorem fine_atQ {L : List (V × V)} (hf : ∀ p, p ∈ L → Fine p.1 ∧ Fine p.2) (i : Int) : Fine (atQ L i).1 := by
  by_cases h : 0 ≤ i ∧ i < (L.length : Int)
  · obtain ⟨j, rfl⟩ := Int.eq_ofNat_of_zero_le h.1
    rw [(inQ_nat (L := L) (i := j) (by omega)).2]
    exact (allP hf (by omega)).1
  · unfold atQ; rw [inQ_no h]; exact fine_nilW
theorem filt_takeQ (L : List (V × V)) (f : V × V → Bool) (i : Nat) (hi : i < L.length) : (L.take (i + 1)).filter f = (L.take i).filter f ++ (if f (L.getD i default) then [L.getD i default] else []) := by
  rw [List.take_succ_eq_append_getElem hi, List.filter_append, List.getD_eq_getElem?_getD, List.getElem?_eq_getElem hi]
  simp only [Option.getD_some, List.filter_cons, List.filter_nil]
theorem inB_tt (o : Int) (a b : V) (q : V × V) : inB o a b true true q = (decide (0 ≤ cmpO o q.1 a) && decide (cmpO o q.1 b ≤ 0)) := by
  have t1 := (cmpO_line o).turn a q.1 trivial trivial
  unfold inB
  rw [Bool.eq_iff_iff]
  simp only [Bool.and_true, Bool.and_eq_true, Bool.or_eq_true, decide_eq_true_eq, beq_iff_eq]
  omega
/-- What one asks of a set, answered by both. -/
theorem next_both (o : Int) (ho : 0 ≤ o ∧ o ≤ 5) {x : T × Nat} (hx : OkX x) (hn : x.2 ≤ 65536) (hR : Rising (cmpO o) x.1.toList) {k : V} (hk : Fine k) :
    ∃ a b e, Fine a ∧ CallsF P G 39 [.ptr [encX o x] 0, encV k] (.tup [encV a, bool b, int e]) ∧ CallsF P G 40 [.ptr [.ptr [int o, encPs x.1.toList] 0] 0, encV k] (.tup [encV a, bool b, int e]) := by
  have hri := refRight_ok k hk
  have h8 := okX_len hx
  have hs : x.1.size ≤ 131072 := by have : x.1.size = x.2 := hx.2.2.1; omega
  cases hr : rightB k with
  | false =>
    rw [hr] at hri
    exact ⟨nilW, false, 3, fine_nilW, snext_run _ _ _ _ _ noQ _ (higher_not o _ _ k hk hr), (rsnext_no o _ k hri).le (le_tup (LeL.cons le_zero (LeL.refl _)))⟩
  | true =>
    rw [hr] at hri
    have h1 := snext_run _ _ _ _ _ _ _ (higher_ok o (x.2 : Int) x.1 k ho hk hr hx.2.2.2 hs hR)
    refine ⟨_, _, _, fine_atQ (okX_fine hx) _, h1, ?_⟩
    have h2 := mahead_run o _ _ k _ (refPlace_ok o ho x.1.toList k (by omega) hk hr hx.2.2.2 hR)
    obtain ⟨u1, u2⟩ := upto_ahead (cmpO_line o) k hR
    have u3 := (upto_place (cmpO_line o) k hR).1
    have go : ∀ w : Int, w = ((uptoN (cmpO o) k x.1.toList : Nat) : Int) → (0 ≤ w → w < (x.1.toList.length : Int) → CallsF P G 40 [.ptr [.ptr [int o, encPs x.1.toList] 0] 0, encV k] (.tup [encV (x.1.toList.getD w.toNat default).1, bool true, int 0])) → ((x.1.toList.length : Int) ≤ w → CallsF P G 40 [.ptr [.ptr [int o, encPs x.1.toList] 0] 0, encV k] (.tup [.agg [int 0, int 0, str [], .nils], bool false, int 0])) → CallsF P G 40 [.ptr [.ptr [int o, encPs x.1.toList] 0] 0, encV k] (.tup [encV (atQ x.1.toList (uptoN (cmpO o) k x.1.toList : Nat)).1, bool (inQ x.1.toList (uptoN (cmpO o) k x.1.toList : Nat)), int 0]) := fun w hw h3 h4 => by
      subst hw
      by_cases h : uptoN (cmpO o) k x.1.toList < x.1.toList.length
      · obtain ⟨e1, e2⟩ := inQ_nat h
        rw [e1, e2]
        exact h3 (by omega) (by omega)
      · have e := inQ_no (L := x.1.toList) (i := ((uptoN (cmpO o) k x.1.toList : Nat) : Int)) (by omega)
        have e2 : atQ x.1.toList ((uptoN (cmpO o) k x.1.toList : Nat) : Int) = noQ := by unfold atQ; rw [e]; rfl
        rw [e, e2]
        exact (h4 (by omega)).le (le_tup (LeL.cons le_zero (LeL.refl _)))
    have ht := h2
    cases hb : thereB o k x.1.toList with
    | true =>
      rw [hb] at h2
      have he : uptoN (cmpO o) k x.1.toList = aheadN (cmpO o) k x.1.toList + 1 := of_decide_eq_true hb
      have hw : IntKind.i64.wrap (((aheadN (cmpO o) k x.1.toList : Nat) : Int) + 1) = ((uptoN (cmpO o) k x.1.toList : Nat) : Int) := by rw [wrapS _ (by omega) (by omega)]; omega
      exact go _ rfl (fun a b => rsnext_in_true o _ k _ _ hw a b hri h2) (fun a => rsnext_out_true o _ k _ _ hw a hri h2)
    | false =>
      rw [hb] at h2
      have he : ¬ uptoN (cmpO o) k x.1.toList = aheadN (cmpO o) k x.1.toList + 1 := of_decide_eq_false hb
      have hw : ((aheadN (cmpO o) k x.1.toList : Nat) : Int) = ((uptoN (cmpO o) k x.1.toList : Nat) : Int) := by omega
      exact go _ rfl (fun a b => rsnext_in_false o _ k _ _ hw a b hri h2) (fun a => rsnext_out_false o _ k _ _ hw a hri h2)
theorem ahead_both (o : Int) (ho : 0 ≤ o ∧ o ≤ 5) {x : T × Nat} (hx : OkX x) (hn : x.2 ≤ 65536) (hR : Rising (cmpO o) x.1.toList) {k : V} (hk : Fine k) :
    ∃ a b e, Fine a ∧ CallsF P G 41 [.ptr [encX o x] 0, encV k] (.tup [encV a, bool b, int e]) ∧ CallsF P G 42 [.ptr [.ptr [int o, encPs x.1.toList] 0] 0, encV k] (.tup [encV a, bool b, int e]) := by
  have hri := refRight_ok k hk
  have h8 := okX_len hx
  have hs : x.1.size ≤ 131072 := by have : x.1.size = x.2 := hx.2.2.1; omega
  cases hr : rightB k with
  | false =>
    rw [hr] at hri
    exact ⟨nilW, false, 3, fine_nilW, sahead_run _ _ _ _ _ noQ _ (lower_not o _ _ k hk hr), (rsahead_no o _ k hri).le (le_tup (LeL.cons le_zero (LeL.refl _)))⟩
  | true =>
    rw [hr] at hri
    have u3 := (ahead_place (cmpO_line o) k hR).1
    have hw : IntKind.i64.wrap (((aheadN (cmpO o) k x.1.toList : Nat) : Int) - 1) = ((aheadN (cmpO o) k x.1.toList : Nat) : Int) - 1 := wrapS _ (by omega) (by omega)
    have h1 := sahead_run _ _ _ _ _ _ _ (lower_ok o (x.2 : Int) x.1 k ho hk hr hx.2.2.2 hs hR hw)
    refine ⟨_, _, _, fine_atQ (okX_fine hx) _, h1, ?_⟩
    have h2 := mahead_run o _ _ k _ (refPlace_ok o ho x.1.toList k (by omega) hk hr hx.2.2.2 hR)
    generalize aheadN (cmpO o) k x.1.toList = n at *
    cases n with
    | zero =>
      have e := inQ_no (L := x.1.toList) (i := ((0 : Nat) : Int) - 1) (by omega)
      have e2 : atQ x.1.toList (((0 : Nat) : Int) - 1) = noQ := by unfold atQ; rw [e]; rfl
      rw [e, e2]
      exact (rsahead_out o _ k _ hri h2).le (le_tup (LeL.cons le_zero (LeL.refl _)))
    | succ m =>
      have he : (((m + 1 : Nat) : Int) - 1) = (m : Int) := by omega
      rw [he] at hw ⊢
      obtain ⟨e1, e2⟩ := inQ_nat (L := x.1.toList) (i := m) (by omega)
      rw [e1, e2]
      exact rsahead_in o _ k _ _ (m : Int) (by rw [he]; exact hw) (by omega) (by omega) (by omega) hri h2
theorem rank_both (o : Int) (ho : 0 ≤ o ∧ o ≤ 5) {x : T × Nat} (hx : OkX x) (hn : x.2 ≤ 65536) (hR : Rising (cmpO o) x.1.toList) {k : V} (hk : Fine k) :
    ∃ n e, CallsF P G 33 [.ptr [encX o x] 0, encV k] (.tup [int n, int e]) ∧ CallsF P G 38 [.ptr [.ptr [int o, encPs x.1.toList] 0] 0, encV k] (.tup [int n, int e]) := by
  have hri := refRight_ok k hk
  have h8 := okX_len hx
  have hs : x.1.size ≤ 131072 := by have : x.1.size = x.2 := hx.2.2.1; omega
  cases hr : rightB k with
  | false =>
    rw [hr] at hri
    exact ⟨0, 3, srank_run _ _ _ _ _ _ (rank_not o _ _ k hk hr), rrank_no o _ k hri⟩
  | true =>
    rw [hr] at hri
    exact ⟨_, 0, srank_run _ _ _ _ _ _ (rank_ok o (x.2 : Int) x.1 k ho hk hr hx.2.2.2 hs hR), rrank_ok o _ k _ _ hri (mahead_run o _ _ k _ (refPlace_ok o ho x.1.toList k (by omega) hk hr hx.2.2.2 hR))⟩
theorem btw_both (o : Int) (ho : 0 ≤ o ∧ o ≤ 5) {x : T × Nat} (hx : OkX x) (hn : x.2 ≤ 65536) (hR : Rising (cmpO o) x.1.toList) (hz : ∀ q, q ∈ x.1.toList → q.2 = nilW) {a b : V} (ha : Fine a) (hb : Fine b) :
    (CallsF P G 43 [.ptr [encX o x] 0, encV a, encV b] (.tup [.sc (.pointer none), int 3]) ∧ CallsF P G 44 [.ptr [.ptr [int o, encPs x.1.toList] 0] 0, encV a, encV b] (.tup [.sc (.pointer none), int 3])) ∨
    ∃ y z : FV, CallsF P G 43 [.ptr [encX o x] 0, encV a, encV b] (.tup [.ptr [y] 0, int 0]) ∧ CallsF P G 44 [.ptr [.ptr [int o, encPs x.1.toList] 0] 0, encV a, encV b] (.tup [.ptr [z] 0, int 0]) ∧ CallsF P G 25 [.ptr [y] 0, .ptr [z] 0] (bool true) := by
  have ra := refRight_ok a ha
  have rb := refRight_ok b hb
  have h8 := okX_len hx
  have hs : x.1.size ≤ 131072 := by have : x.1.size = x.2 := hx.2.2.1; omega
  cases hw : (rightB a && rightB b) with
  | false =>
    refine .inl ⟨sbtw_no _ _ _ _ _ _ (by omega) (cut_no o _ _ a b true true (btw_wrong o (x.2 : Int) x.1 a b true true ha hb hw)), ?_⟩
    cases h1 : rightB a with
    | false => rw [h1] at ra; exact rsbtw_no1 o _ a b ra
    | true =>
      rw [h1, Bool.true_and] at hw
      rw [h1] at ra; rw [hw] at rb
      exact rsbtw_no2 o _ a b ra rb
  | true =>
    rw [Bool.and_eq_true] at hw
    rw [hw.1] at ra; rw [hw.2] at rb
    have h1 := btw_ok o (x.2 : Int) x.1 a b true true ho ha hb hw.1 hw.2 hx.2.2.2 hs hR
    have hfil := filter_btL o a b true true x.1.toList hR
    have hsub : (btL o a b true true x.1.toList).Sublist x.1.toList := (List.drop_sublist _ _).trans (List.take_sublist _ _)
    have hFR : Rising (cmpO o) (btL o a b true true x.1.toList) := hR.sublist hsub
    have hFp : ∀ q, q ∈ btL o a b true true x.1.toList → RP q := fun q hq => hx.2.2.2 q (hsub.subset hq)
    have hFz : ∀ q, q ∈ btL o a b true true x.1.toList → q.2 = nilW := fun q hq => hz q (hsub.subset hq)
    have hFl : (btL o a b true true x.1.toList).length ≤ x.1.toList.length := hsub.length_le
    generalize btL o a b true true x.1.toList = F at *
    have h3 := of_ok (cmpCO o ho) ho (l := F) (by omega) hFp
    obtain ⟨g1, g2⟩ := ofT_same (cmpO_line o) F hFR F.length (Nat.le_refl _)
    obtain ⟨k1, k2⟩ := ofT_ok (c := cmpO o) hFp F.length (Nat.le_refl _)
    generalize ofT (cmpO o) F F.length = X at *
    rw [List.take_length] at g1
    have hm := rmake_ok o ho (keysL F) (by rw [keysL_len]; omega) fun v hv => by
      obtain ⟨q, hq, rfl⟩ := List.mem_map.1 hv
      exact ⟨(hFp q hq).1, (hFp q hq).2.2.1⟩
    rw [wL_keys F hFz, foldL_rising_id (cmpO_line o) F hFR] at hm
    have hsm := same16_ok o k1 (by omega)
    rw [g1] at hsm
    refine .inr ⟨_, _, sbtw_ok _ _ _ _ _ _ _ (cut_ok o _ _ a b true true F (X.2 : Int) X.1 h1 h3), ?_, hsm⟩
    refine rsbtw_run o x.1.toList F a b x.1.toList.length (fun i => keysL ((x.1.toList.take i).filter (inB o a b true true))) (fun i => cmpO o (x.1.toList.getD i default).1 a) (fun i => cmpO o (x.1.toList.getD i default).1 b) rfl (by omega) ra rb (fun i hi => refOrd_ok o ho _ _ (allP hx.2.2.2 hi).1 ha (allP hx.2.2.2 hi).2.2.1 hw.1) (fun i hi => refOrd_ok o ho _ _ (allP hx.2.2.2 hi).1 hb (allP hx.2.2.2 hi).2.2.1 hw.2) (by simp [keysL]) (fun i hi h4 h5 => ?_) (fun i hi h4 h5 => ?_) (fun i hi h4 => ?_) (fun i hi => ?_) (by rw [List.take_length, hfil]; exact hm)
    · have e : inB o a b true true (x.1.toList.getD i default) = true := by rw [inB_tt, decide_eq_true h4, decide_eq_true h5]; rfl
      rw [filt_takeQ _ _ i hi, if_pos e]
      simp only [keysL, List.map_append, List.map_cons, List.map_nil, cellsVs_app]
      simp [cellsVs, cellsP_eq]
    · have e : inB o a b true true (x.1.toList.getD i default) = false := by rw [inB_tt, decide_eq_true h4, decide_eq_false (by omega)]; rfl
      rw [filt_takeQ _ _ i hi, if_neg (by rw [e]; simp), List.append_nil]
    · have e : inB o a b true true (x.1.toList.getD i default) = false := by rw [inB_tt, decide_eq_false (by omega)]; rfl
      rw [filt_takeQ _ _ i hi, if_neg (by rw [e]; simp), List.append_nil]
    · rw [keysL_len]; exact Nat.le_trans (List.length_filter_le _ _) (by rw [List.length_take]; omega)
theorem asked16_law (o i : Int) (l : List V) (v w : V) (hl : ∀ v, v ∈ l → Fine v) (h1 : l.length ≤ 1000000000000) (hv : Fine v) (hw : Fine w) : CallsF P G 6 [int o, encI l, .agg ([int i] ++ cellsP v ++ cellsP w)] (bool true) := by
  rcases sof_both o l hl h1 with ⟨e, he, a1, a2⟩ | ⟨ho, hl2, hlv, a2⟩
  · exact asked16_bad o i l v w e he a1 a2 speaks16
  obtain ⟨x, hx, hn, hR, x4, hz, a1⟩ := sof_got o l ho hl2 hlv
  rw [← x4] at a2
  have hs : x.1.size ≤ 131072 := by have : x.1.size = x.2 := hx.2.2.1; omega
  have b1 := sat_run _ _ _ _ _ _ (at_ok o (x.2 : Int) x.1 (okX_fine hx) hs i)
  have b2 := rat_ok o i x.1.toList
  obtain ⟨n2, e2, c1, c2⟩ := rank_both o ho hx hn hR hv
  obtain ⟨a3, b3, e3, f3, d1, d2⟩ := next_both o ho hx hn hR hv
  obtain ⟨a4, b4, e4, f4, g1, g2⟩ := ahead_both o ho hx hn hR hv
  have q1 := plainSelf _ (fine_atQ (okX_fine hx) i)
  rcases btw_both o ho hx hn hR hz hv hw with ⟨k1, k2⟩ | ⟨y, z, k1, k2, k3⟩
  · exact asked16_no o i l v w _ _ _ _ _ _ _ _ _ _ _ _ a1 a2 b1 b2 c1 c2 q1 d1 d2 (plainSelf _ f3) g1 g2 (plainSelf _ f4) k1 k2 speaks16
  · exact asked16_ok o i l v w _ _ _ _ _ _ _ _ _ _ _ _ _ _ a1 a2 b1 b2 c1 c2 q1 d1 d2 (plainSelf _ f3) g1 g2 (plainSelf _ f4) k1 k2 k3 speaks16
end Go.Sx

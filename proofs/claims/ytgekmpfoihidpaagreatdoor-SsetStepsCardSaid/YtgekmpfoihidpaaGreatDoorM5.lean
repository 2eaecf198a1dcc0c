/-
  Proved: what some functions of the program answer, or a law of the evaluator that shows it, one theorem each; its conditions are the hypotheses that stand ahead of it.
-/
import Derived.Test.YtgekmpfoihidpaaGreatDoorG2
import Derived.Test.YtgekmpfoihidpaaGreatDoorNB
import Derived.KernelRfl
import Derived.Test.YtgekmpfoihidpaaGreatDoorK6
import Derived.Test.YtgekmpfoihidpaaGreatDoorPSt
set_option maxRecDepth 100000
set_option maxHeartbeats 4000000
set_option linter.unusedSimpArgs false
set_option linter.unusedVariables false
namespace Go.Sx
open Go.Proofs Sp
end Go.Sx
set_option maxRecDepth 100000
set_option maxHeartbeats 4000000
set_option linter.unusedSimpArgs false
set_option linter.unusedVariables false
namespace Go.Sx
open Go.Proofs Sp
/-- The document's map: an order, and pairs by it. -/
def encR (o : Int) (L : List (V × V)) : FV := .ptr [int o, encPs L] 0
def Splace (o : Int) (L : List (V × V)) (k : V) (p : Nat → Bool) (i : Nat) : St := { sl := slots 59 [(0, .f (encR o L)), (3, .loc 0 0), (6, .f (int ((runS p L.length i).1 : Int))), (7, .f (int ((runS p L.length i).2 : Int)))], ob := [(0, .box ((cellsP k).map .f))], nx := 1 }
theorem midD {a b : Nat} (h : a + b ≤ 2000000) : IntKind.i64.wrap (Int.tdiv (IntKind.i64.wrap ((a : Int) + (b : Int))) 2) = (((a + b) / 2 : Nat) : Int) := by
  rw [wrapS ((a : Int) + b) (by omega) (by omega)]
  rw [show Int.tdiv ((a : Int) + b) 2 = (((a + b) / 2 : Nat) : Int) from by rw [Int.tdiv_eq_ediv_of_nonneg (by omega)]; omega]
  exact wrapS _ (by omega) (by omega)
theorem get67 : P.funcs[67]? = some Tryz.f67 := by kernel_rfl
theorem ent67 : entersP P 67 = true := by kernel_rfl
theorem kind_ok (o : Int)  : CallsF P G 67 [int o] (bool (decide (0 ≤ o) && decide (o ≤ 5))) := by
  refine sx_fn (hs := [.br [] []]) ((((decide (o ≥ 0)) = (true)) → ((bool (decide (o ≤ 5))) = (bool (decide (0 ≤ o) && decide (o ≤ 5))))) ∧ (((decide (o ≥ 0)) = (false)) → ((bool false) = (bool (decide (0 ≤ o) && decide (o ≤ 5)))))) get67 ent67 (by kernel_rfl) ?_
  refine ⟨fun hi => ?_, fun hi => ?_⟩
  all_goals first | (simp_all; done) | (simp [V.kind, V.num, V.text, V.items, *]; done)
theorem get132 : P.funcs[132]? = some Tryz.f132 := by kernel_rfl
theorem ent132 : entersP P 132 = true := by kernel_rfl
theorem place_in (o : Int) (L : List (V × V)) (k : V) (p : Nat → Bool) (N r : Nat) (hl : L.length ≤ 1000000) (hord : ∀ i, i < L.length → CallsF P G 108 [int o, encV (L.getD i default).1, encV k] (int (cmpO o (L.getD i default).1 k))) (hp : ∀ i, i < L.length → p i = decide (0 ≤ cmpO o (L.getD i default).1 k)) (hin : ∀ i, i ≤ N → (runS p L.length i).1 ≤ (runS p L.length i).2 ∧ (runS p L.length i).2 ≤ L.length) (h1 : ∀ j, j < N → (runS p L.length j).1 < (runS p L.length j).2) (h2 : ¬ (runS p L.length N).1 < (runS p L.length N).2) (hr : (runS p L.length N).1 = r) (hrl : r < L.length) (hs : CallsF P G 85 [encV (L.getD r default).1, encV k] (bool (cmpV (L.getD r default).1 k == 0))) : CallsF P G 132 [encR o L, encV k] (.tup [int (r : Int), bool (cmpV (L.getD r default).1 k == 0)]) := by
  refine sx_fn (hs := let z3 := runS p (List.length L) N; let z1 := List.getD L (Int.toNat (IntKind.wrap IntKind.i64 (Int.tdiv (IntKind.wrap IntKind.i64 ((↑(Prod.fst z3) : Int) + (↑(Prod.snd z3) : Int))) 2))) default; let z2 := List.getD L (Prod.fst z3) default; [.nat 7, .cast ([int o, encPs L]), .loop [(0, 0)] [(0, 0)] (Splace o L k p) (N) (fun i => [.br [.nat 15, .el (cellsP (Prod.fst (List.getD L (Int.toNat (IntKind.wrap IntKind.i64 (Int.tdiv (IntKind.wrap IntKind.i64 ((↑(Prod.fst (runS p (List.length L) i)) : Int) + (↑(Prod.snd (runS p (List.length L) i)) : Int))) 2))) default)) ++ cellsP (Prod.snd (List.getD L (Int.toNat (IntKind.wrap IntKind.i64 (Int.tdiv (IntKind.wrap IntKind.i64 ((↑(Prod.fst (runS p (List.length L) i)) : Int) + (↑(Prod.snd (runS p (List.length L) i)) : Int))) 2))) default))), .call (int (cmpO o (Prod.fst (List.getD L (Int.toNat (IntKind.wrap IntKind.i64 (Int.tdiv (IntKind.wrap IntKind.i64 ((↑(Prod.fst (runS p (List.length L) i)) : Int) + (↑(Prod.snd (runS p (List.length L) i)) : Int))) 2))) default)) k)), .br [] []] []]), .br [.nat 15, .el (cellsP (Prod.fst z1) ++ cellsP (Prod.snd z1)), .call (int (cmpO o (Prod.fst z1) k)), .br [] []] [.nat 22, .br [.el (cellsP (Prod.fst z2) ++ cellsP (Prod.snd z2)), .call (bool (cmpV (Prod.fst z2) k == 0))] []]]) (let z3 := E (Ob.box [AV.f (int (V.kind k)), AV.f (int (V.num k)), AV.f (str (V.text k)), AV.f (encI (V.items k))]) ∧ True; let z6 := runS p (List.length L) N; let z2 := Prod.fst z6; let z4 := Int.tdiv (IntKind.wrap IntKind.i64 ((↑z2 : Int) + (↑(Prod.snd z6) : Int))) 2; let z5 := Prod.fst (List.getD L z2 default); let z7 := cmpV (Prod.fst (List.getD L r default)) k == 0; let z8 := (↑(List.length (cellsPs L)) : Int); let z9 := IntKind.wrap IntKind.i64 z4; let z1 := List.getD L (Int.toNat z9) default; E true ∧ encR o L = FV.ptr [int o, FV.sl 8 (cellsPs L)] 0 ∧ (E true ∧ (E (AV.f (encR o L)) ∧ E (AV.loc 0 0) ∧ AV.f (int 0) = AV.f (int (↑(Prod.fst (runS p (List.length L) 0)) : Int)) ∧ AV.f (int z8) = AV.f (int (↑(Prod.snd (runS p (List.length L) 0)) : Int)) ∧ True) ∧ z3 ∧ E true ∧ (false = true → false = true)) ∧ (∀ (i : Nat), (let z12 := runS p (List.length L) i; let z13 := runS p (List.length L) (i + 1); let z15 := (↑(Prod.fst z12) : Int); let z16 := (↑(Prod.snd z12) : Int); let z10 := Int.tdiv (IntKind.wrap IntKind.i64 (z15 + z16)) 2; let z14 := IntKind.wrap IntKind.i64 z10; let z17 := List.getD L (Int.toNat z14) default; let z11 := Prod.fst z17; let z18 := int (↑(Prod.fst z13) : Int); let z19 := int (↑(Prod.snd z13) : Int); i < N → Br (decide (z15 < z16)) (E true ∧ (E 8 ∧ (0 : Int) ≤ IntKind.wrap IntKind.i64 z10 ∧ (cellsPs L)[Int.toNat z14]? = some (int (V.kind z11) :: int (V.num z11) :: str (V.text z11) :: encI (V.items z11) :: cellsP (Prod.snd z17))) ∧ CallsF P G 108 [int o, encV z11, encV k] (int (cmpO o z11 k)) ∧ Br (decide (cmpO o z11 k < 0)) (E true ∧ (E (AV.f (encR o L)) ∧ E (AV.loc 0 0) ∧ AV.f (int (IntKind.wrap IntKind.i64 (IntKind.wrap IntKind.i64 z10 + 1))) = AV.f z18 ∧ AV.f (int z16) = AV.f z19 ∧ True) ∧ z3 ∧ E true ∧ (St.nd (Splace o L k p (i + 1)) = true → false = true)) (E true ∧ (E (AV.f (encR o L)) ∧ E (AV.loc 0 0) ∧ AV.f (int z15) = AV.f z18 ∧ AV.f (int z14) = AV.f z19 ∧ True) ∧ z3 ∧ E true ∧ (St.nd (Splace o L k p (i + 1)) = true → false = true))) False)) ∧ Br (decide ((↑z2 : Int) < (↑(Prod.snd z6) : Int))) (E true ∧ (E 8 ∧ (0 : Int) ≤ IntKind.wrap IntKind.i64 z4 ∧ (cellsPs L)[Int.toNat z9]? = some (int (V.kind (Prod.fst z1)) :: int (V.num (Prod.fst z1)) :: str (V.text (Prod.fst z1)) :: encI (V.items (Prod.fst z1)) :: cellsP (Prod.snd z1))) ∧ CallsF P G 108 [int o, encV (Prod.fst z1), encV k] (int (cmpO o (Prod.fst z1) k)) ∧ Br (decide (cmpO o (Prod.fst z1) k < 0)) False False) (E true ∧ Br (decide ((↑z2 : Int) < z8)) ((E 8 ∧ (0 : Int) ≤ (↑z2 : Int) ∧ (cellsPs L)[Prod.fst z6]? = some (int (V.kind z5) :: int (V.num z5) :: str (V.text z5) :: encI (V.items z5) :: cellsP (Prod.snd (List.getD L z2 default)))) ∧ CallsF P G 85 [encV z5, encV k] (bool (cmpV z5 k == 0)) ∧ FV.tup [int (↑z2 : Int), bool (cmpV z5 k == 0)] = FV.tup [int (r : Int), bool z7]) (FV.tup [int (↑z2 : Int), bool false] = FV.tup [int (r : Int), bool z7]))) get132 ent132 (by kernel_rfl) ?_
  refine ⟨rfl, ?_, ⟨rfl, ⟨rfl, rfl, ?_, ?_, trivial⟩, ⟨rfl, trivial⟩, rfl, fun hi => ?_⟩, fun i => fun hlt => ⟨fun hi => ⟨rfl, ⟨rfl, ?_, ?_⟩, ?_, fun hi => ⟨rfl, ⟨rfl, rfl, ?_, ?_, trivial⟩, ⟨rfl, trivial⟩, rfl, fun hi => ?_⟩, fun hi => ⟨rfl, ⟨rfl, rfl, ?_, ?_, trivial⟩, ⟨rfl, trivial⟩, rfl, fun hi => ?_⟩⟩, fun hi => ?_⟩, fun hi => ⟨rfl, ⟨rfl, ?_, ?_⟩, ?_, fun hi => ?_, fun hi => ?_⟩, fun hi => ⟨rfl, fun hi => ⟨⟨rfl, ?_, ?_⟩, ?_, ?_⟩, fun hi => ?_⟩⟩
  all_goals first | (have q1 := hin i (by omega); have q2 := h1 i (by assumption); have q0 := midD (show (runS p L.length i).1 + (runS p L.length i).2 ≤ 2000000 by omega); rw [q0, Int.toNat_natCast]; exact hord _ (by omega)) | (have q1 := hin i (by omega); have q2 := h1 i (by assumption); have q0 := midD (show (runS p L.length i).1 + (runS p L.length i).2 ≤ 2000000 by omega); rw [q0]; omega) | (have q1 := hin i (by omega); have q2 := h1 i (by assumption); have q0 := midD (show (runS p L.length i).1 + (runS p L.length i).2 ≤ 2000000 by omega); rw [q0, Int.toNat_natCast]; exact cellsPs_get L _ (by omega)) | (have q2 := h1 i (by assumption); simp only [decide_eq_true_eq, decide_eq_false_iff_not] at *; omega) | (have q1 := hin i (by omega); have q2 := h1 i (by assumption); have q0 := midD (show (runS p L.length i).1 + (runS p L.length i).2 ≤ 2000000 by omega); rw [q0, Int.toNat_natCast] at hi; have q4 := hp (((runS p L.length i).1 + (runS p L.length i).2) / 2) (by omega); have q3 := runS_no (p := p) (n := L.length) (i := i) (by rw [q4, Bool.not_eq_true']; simp only [decide_eq_true_eq, decide_eq_false_iff_not] at *; omega); (try rw [q0]); rw [q3.1]; first | done | exact congrArg (fun x => AV.f (int x)) (wrapS ((((runS p L.length i).1 + (runS p L.length i).2) / 2 : Nat) + 1 : Int) (by omega) (by omega))) | (have q1 := hin i (by omega); have q2 := h1 i (by assumption); have q0 := midD (show (runS p L.length i).1 + (runS p L.length i).2 ≤ 2000000 by omega); rw [q0, Int.toNat_natCast] at hi; have q4 := hp (((runS p L.length i).1 + (runS p L.length i).2) / 2) (by omega); have q3 := runS_no (p := p) (n := L.length) (i := i) (by rw [q4, Bool.not_eq_true']; simp only [decide_eq_true_eq, decide_eq_false_iff_not] at *; omega); (try rw [q0]); rw [q3.2]; first | done | exact congrArg (fun x => AV.f (int x)) (wrapS ((((runS p L.length i).1 + (runS p L.length i).2) / 2 : Nat) + 1 : Int) (by omega) (by omega))) | (have q1 := hin i (by omega); have q2 := h1 i (by assumption); have q0 := midD (show (runS p L.length i).1 + (runS p L.length i).2 ≤ 2000000 by omega); rw [q0, Int.toNat_natCast] at hi; have q4 := hp (((runS p L.length i).1 + (runS p L.length i).2) / 2) (by omega); have q3 := runS_yes (p := p) (n := L.length) (i := i) (by rw [q4, Bool.not_eq_false']; simp only [decide_eq_true_eq, decide_eq_false_iff_not] at *; omega); (try rw [q0]); rw [q3.1]; first | done | exact congrArg (fun x => AV.f (int x)) (wrapS ((((runS p L.length i).1 + (runS p L.length i).2) / 2 : Nat) + 1 : Int) (by omega) (by omega))) | (have q1 := hin i (by omega); have q2 := h1 i (by assumption); have q0 := midD (show (runS p L.length i).1 + (runS p L.length i).2 ≤ 2000000 by omega); rw [q0, Int.toNat_natCast] at hi; have q4 := hp (((runS p L.length i).1 + (runS p L.length i).2) / 2) (by omega); have q3 := runS_yes (p := p) (n := L.length) (i := i) (by rw [q4, Bool.not_eq_false']; simp only [decide_eq_true_eq, decide_eq_false_iff_not] at *; omega); (try rw [q0]); rw [q3.2]; first | done | exact congrArg (fun x => AV.f (int x)) (wrapS ((((runS p L.length i).1 + (runS p L.length i).2) / 2 : Nat) + 1 : Int) (by omega) (by omega))) | (rw [cellsPs_length]; rfl) | (rw [hr]; exact cellsPs_get L _ (by omega)) | (rw [hr] at *; simp only [cellsPs_length, decide_eq_true_eq, decide_eq_false_iff_not] at *; omega) | (simp only [cellsPs_length, decide_eq_true_eq, decide_eq_false_iff_not] at *; omega) | (rw [hr]; done) | assumption | rfl
theorem place_end (o : Int) (L : List (V × V)) (k : V) (p : Nat → Bool) (N r : Nat) (hl : L.length ≤ 1000000) (hord : ∀ i, i < L.length → CallsF P G 108 [int o, encV (L.getD i default).1, encV k] (int (cmpO o (L.getD i default).1 k))) (hp : ∀ i, i < L.length → p i = decide (0 ≤ cmpO o (L.getD i default).1 k)) (hin : ∀ i, i ≤ N → (runS p L.length i).1 ≤ (runS p L.length i).2 ∧ (runS p L.length i).2 ≤ L.length) (h1 : ∀ j, j < N → (runS p L.length j).1 < (runS p L.length j).2) (h2 : ¬ (runS p L.length N).1 < (runS p L.length N).2) (hr : (runS p L.length N).1 = r) (hrl : r = L.length) : CallsF P G 132 [encR o L, encV k] (.tup [int (r : Int), bool false]) := by
  refine sx_fn (hs := let z3 := runS p (List.length L) N; let z1 := List.getD L (Int.toNat (IntKind.wrap IntKind.i64 (Int.tdiv (IntKind.wrap IntKind.i64 ((↑(Prod.fst z3) : Int) + (↑(Prod.snd z3) : Int))) 2))) default; let z2 := List.getD L (Prod.fst z3) default; [.nat 7, .cast ([int o, encPs L]), .loop [(0, 0)] [(0, 0)] (Splace o L k p) (N) (fun i => [.br [.nat 15, .el (cellsP (Prod.fst (List.getD L (Int.toNat (IntKind.wrap IntKind.i64 (Int.tdiv (IntKind.wrap IntKind.i64 ((↑(Prod.fst (runS p (List.length L) i)) : Int) + (↑(Prod.snd (runS p (List.length L) i)) : Int))) 2))) default)) ++ cellsP (Prod.snd (List.getD L (Int.toNat (IntKind.wrap IntKind.i64 (Int.tdiv (IntKind.wrap IntKind.i64 ((↑(Prod.fst (runS p (List.length L) i)) : Int) + (↑(Prod.snd (runS p (List.length L) i)) : Int))) 2))) default))), .call (int (cmpO o (Prod.fst (List.getD L (Int.toNat (IntKind.wrap IntKind.i64 (Int.tdiv (IntKind.wrap IntKind.i64 ((↑(Prod.fst (runS p (List.length L) i)) : Int) + (↑(Prod.snd (runS p (List.length L) i)) : Int))) 2))) default)) k)), .br [] []] []]), .br [.nat 15, .el (cellsP (Prod.fst z1) ++ cellsP (Prod.snd z1)), .call (int (cmpO o (Prod.fst z1) k)), .br [] []] [.nat 22, .br [.el (cellsP (Prod.fst z2) ++ cellsP (Prod.snd z2)), .call (bool (cmpV (Prod.fst z2) k == 0))] []]]) (let z3 := E (Ob.box [AV.f (int (V.kind k)), AV.f (int (V.num k)), AV.f (str (V.text k)), AV.f (encI (V.items k))]) ∧ True; let z6 := runS p (List.length L) N; let z2 := Prod.fst z6; let z4 := Int.tdiv (IntKind.wrap IntKind.i64 ((↑z2 : Int) + (↑(Prod.snd z6) : Int))) 2; let z5 := Prod.fst (List.getD L z2 default); let z7 := (↑(List.length (cellsPs L)) : Int); let z8 := IntKind.wrap IntKind.i64 z4; let z1 := List.getD L (Int.toNat z8) default; E true ∧ encR o L = FV.ptr [int o, FV.sl 8 (cellsPs L)] 0 ∧ (E true ∧ (E (AV.f (encR o L)) ∧ E (AV.loc 0 0) ∧ AV.f (int 0) = AV.f (int (↑(Prod.fst (runS p (List.length L) 0)) : Int)) ∧ AV.f (int z7) = AV.f (int (↑(Prod.snd (runS p (List.length L) 0)) : Int)) ∧ True) ∧ z3 ∧ E true ∧ (false = true → false = true)) ∧ (∀ (i : Nat), (let z11 := runS p (List.length L) i; let z12 := runS p (List.length L) (i + 1); let z14 := (↑(Prod.fst z11) : Int); let z15 := (↑(Prod.snd z11) : Int); let z9 := Int.tdiv (IntKind.wrap IntKind.i64 (z14 + z15)) 2; let z13 := IntKind.wrap IntKind.i64 z9; let z16 := List.getD L (Int.toNat z13) default; let z10 := Prod.fst z16; let z17 := int (↑(Prod.fst z12) : Int); let z18 := int (↑(Prod.snd z12) : Int); i < N → Br (decide (z14 < z15)) (E true ∧ (E 8 ∧ (0 : Int) ≤ IntKind.wrap IntKind.i64 z9 ∧ (cellsPs L)[Int.toNat z13]? = some (int (V.kind z10) :: int (V.num z10) :: str (V.text z10) :: encI (V.items z10) :: cellsP (Prod.snd z16))) ∧ CallsF P G 108 [int o, encV z10, encV k] (int (cmpO o z10 k)) ∧ Br (decide (cmpO o z10 k < 0)) (E true ∧ (E (AV.f (encR o L)) ∧ E (AV.loc 0 0) ∧ AV.f (int (IntKind.wrap IntKind.i64 (IntKind.wrap IntKind.i64 z9 + 1))) = AV.f z17 ∧ AV.f (int z15) = AV.f z18 ∧ True) ∧ z3 ∧ E true ∧ (St.nd (Splace o L k p (i + 1)) = true → false = true)) (E true ∧ (E (AV.f (encR o L)) ∧ E (AV.loc 0 0) ∧ AV.f (int z14) = AV.f z17 ∧ AV.f (int z13) = AV.f z18 ∧ True) ∧ z3 ∧ E true ∧ (St.nd (Splace o L k p (i + 1)) = true → false = true))) False)) ∧ Br (decide ((↑z2 : Int) < (↑(Prod.snd z6) : Int))) (E true ∧ (E 8 ∧ (0 : Int) ≤ IntKind.wrap IntKind.i64 z4 ∧ (cellsPs L)[Int.toNat z8]? = some (int (V.kind (Prod.fst z1)) :: int (V.num (Prod.fst z1)) :: str (V.text (Prod.fst z1)) :: encI (V.items (Prod.fst z1)) :: cellsP (Prod.snd z1))) ∧ CallsF P G 108 [int o, encV (Prod.fst z1), encV k] (int (cmpO o (Prod.fst z1) k)) ∧ Br (decide (cmpO o (Prod.fst z1) k < 0)) False False) (E true ∧ Br (decide ((↑z2 : Int) < z7)) ((E 8 ∧ (0 : Int) ≤ (↑z2 : Int) ∧ (cellsPs L)[Prod.fst z6]? = some (int (V.kind z5) :: int (V.num z5) :: str (V.text z5) :: encI (V.items z5) :: cellsP (Prod.snd (List.getD L z2 default)))) ∧ CallsF P G 85 [encV z5, encV k] (bool (cmpV z5 k == 0)) ∧ FV.tup [int (↑z2 : Int), bool (cmpV z5 k == 0)] = FV.tup [int (r : Int), bool false]) (FV.tup [int (↑z2 : Int), bool false] = FV.tup [int (r : Int), bool false]))) get132 ent132 (by kernel_rfl) ?_
  refine ⟨rfl, ?_, ⟨rfl, ⟨rfl, rfl, ?_, ?_, trivial⟩, ⟨rfl, trivial⟩, rfl, fun hi => ?_⟩, fun i => fun hlt => ⟨fun hi => ⟨rfl, ⟨rfl, ?_, ?_⟩, ?_, fun hi => ⟨rfl, ⟨rfl, rfl, ?_, ?_, trivial⟩, ⟨rfl, trivial⟩, rfl, fun hi => ?_⟩, fun hi => ⟨rfl, ⟨rfl, rfl, ?_, ?_, trivial⟩, ⟨rfl, trivial⟩, rfl, fun hi => ?_⟩⟩, fun hi => ?_⟩, fun hi => ⟨rfl, ⟨rfl, ?_, ?_⟩, ?_, fun hi => ?_, fun hi => ?_⟩, fun hi => ⟨rfl, fun hi => ⟨⟨rfl, ?_, ?_⟩, ?_, ?_⟩, fun hi => ?_⟩⟩
  all_goals first | (have q1 := hin i (by omega); have q2 := h1 i (by assumption); have q0 := midD (show (runS p L.length i).1 + (runS p L.length i).2 ≤ 2000000 by omega); rw [q0, Int.toNat_natCast]; exact hord _ (by omega)) | (have q1 := hin i (by omega); have q2 := h1 i (by assumption); have q0 := midD (show (runS p L.length i).1 + (runS p L.length i).2 ≤ 2000000 by omega); rw [q0]; omega) | (have q1 := hin i (by omega); have q2 := h1 i (by assumption); have q0 := midD (show (runS p L.length i).1 + (runS p L.length i).2 ≤ 2000000 by omega); rw [q0, Int.toNat_natCast]; exact cellsPs_get L _ (by omega)) | (have q2 := h1 i (by assumption); simp only [decide_eq_true_eq, decide_eq_false_iff_not] at *; omega) | (have q1 := hin i (by omega); have q2 := h1 i (by assumption); have q0 := midD (show (runS p L.length i).1 + (runS p L.length i).2 ≤ 2000000 by omega); rw [q0, Int.toNat_natCast] at hi; have q4 := hp (((runS p L.length i).1 + (runS p L.length i).2) / 2) (by omega); have q3 := runS_no (p := p) (n := L.length) (i := i) (by rw [q4, Bool.not_eq_true']; simp only [decide_eq_true_eq, decide_eq_false_iff_not] at *; omega); (try rw [q0]); rw [q3.1]; first | done | exact congrArg (fun x => AV.f (int x)) (wrapS ((((runS p L.length i).1 + (runS p L.length i).2) / 2 : Nat) + 1 : Int) (by omega) (by omega))) | (have q1 := hin i (by omega); have q2 := h1 i (by assumption); have q0 := midD (show (runS p L.length i).1 + (runS p L.length i).2 ≤ 2000000 by omega); rw [q0, Int.toNat_natCast] at hi; have q4 := hp (((runS p L.length i).1 + (runS p L.length i).2) / 2) (by omega); have q3 := runS_no (p := p) (n := L.length) (i := i) (by rw [q4, Bool.not_eq_true']; simp only [decide_eq_true_eq, decide_eq_false_iff_not] at *; omega); (try rw [q0]); rw [q3.2]; first | done | exact congrArg (fun x => AV.f (int x)) (wrapS ((((runS p L.length i).1 + (runS p L.length i).2) / 2 : Nat) + 1 : Int) (by omega) (by omega))) | (have q1 := hin i (by omega); have q2 := h1 i (by assumption); have q0 := midD (show (runS p L.length i).1 + (runS p L.length i).2 ≤ 2000000 by omega); rw [q0, Int.toNat_natCast] at hi; have q4 := hp (((runS p L.length i).1 + (runS p L.length i).2) / 2) (by omega); have q3 := runS_yes (p := p) (n := L.length) (i := i) (by rw [q4, Bool.not_eq_false']; simp only [decide_eq_true_eq, decide_eq_false_iff_not] at *; omega); (try rw [q0]); rw [q3.1]; first | done | exact congrArg (fun x => AV.f (int x)) (wrapS ((((runS p L.length i).1 + (runS p L.length i).2) / 2 : Nat) + 1 : Int) (by omega) (by omega))) | (have q1 := hin i (by omega); have q2 := h1 i (by assumption); have q0 := midD (show (runS p L.length i).1 + (runS p L.length i).2 ≤ 2000000 by omega); rw [q0, Int.toNat_natCast] at hi; have q4 := hp (((runS p L.length i).1 + (runS p L.length i).2) / 2) (by omega); have q3 := runS_yes (p := p) (n := L.length) (i := i) (by rw [q4, Bool.not_eq_false']; simp only [decide_eq_true_eq, decide_eq_false_iff_not] at *; omega); (try rw [q0]); rw [q3.2]; first | done | exact congrArg (fun x => AV.f (int x)) (wrapS ((((runS p L.length i).1 + (runS p L.length i).2) / 2 : Nat) + 1 : Int) (by omega) (by omega))) | (rw [cellsPs_length]; rfl) | (rw [hr] at *; simp only [cellsPs_length, decide_eq_true_eq, decide_eq_false_iff_not] at *; omega) | (simp only [cellsPs_length, decide_eq_true_eq, decide_eq_false_iff_not] at *; omega) | (rw [hr]; done) | assumption | rfl
end Go.Sx
set_option maxRecDepth 100000
set_option maxHeartbeats 4000000
set_option linter.unusedSimpArgs false
set_option linter.unusedVariables false
namespace Go.Sx
open Go.Proofs Sp
theorem there_eq (o : Int) (L : List (V × V)) (k : V) (hr : rightB k = true) (hp : ∀ p, p ∈ L → RP p) (hR : Rising (cmpO o) L) (hA : aheadN (cmpO o) k L < L.length) : (cmpV (L.getD (aheadN (cmpO o) k L) default).1 k == 0) = thereB o k L := by
  obtain ⟨a1, a2, a3⟩ := ahead_place (cmpO_line o) k hR
  obtain ⟨u1, u2, u3⟩ := upto_place (cmpO_line o) k hR
  obtain ⟨w1, w2⟩ := upto_ahead (cmpO_line o) k hR
  have h2 := a3 _ (Nat.le_refl _) hA
  simp only [decide_eq_true_eq] at h2
  have hx := allP hp hA
  unfold thereB
  by_cases h0 : cmpV (L.getD (aheadN (cmpO o) k L) default).1 k = 0
  · have h3 := rightB_same hx.2.2.1 hr h0
    have h4 := upto_self (cmpO_line o) hR hA
    rw [h3] at h4
    rw [h4, beq_iff_eq.2 h0, decide_eq_true rfl]
  · have h3 : ¬ cmpO o (L.getD (aheadN (cmpO o) k L) default).1 k = 0 := fun h3 => h0 (by rw [cmpO_same o hx.2.2.1 hr h3]; exact cmpV_self k)
    have h4 : uptoN (cmpO o) k L ≠ aheadN (cmpO o) k L + 1 := fun h4 => by
      have h5 := u2 (aheadN (cmpO o) k L) (by omega)
      simp only [decide_eq_false_iff_not] at h5
      omega
    rw [beq_eq_false_iff_ne.2 h0, decide_eq_false h4]
theorem refPlace_ok (o : Int) (ho : 0 ≤ o ∧ o ≤ 5) (L : List (V × V)) (k : V) (hl : L.length ≤ 1000000) (hk : Fine k) (hr : rightB k = true) (hpp : ∀ p, p ∈ L → RP p) (hR : Rising (cmpO o) L) : CallsF P G 132 [encR o L, encV k] (.tup [int (aheadN (cmpO o) k L : Nat), bool (thereB o k L)]) := by
  have hpl := ahead_place (cmpO_line o) k hR
  obtain ⟨a1, a2, a3⟩ := hpl
  have hm := place_mono (ahead_place (cmpO_line o) k hR)
  obtain ⟨u1, u2, u3⟩ := upto_place (cmpO_line o) k hR
  obtain ⟨w1, w2⟩ := upto_ahead (cmpO_line o) k hR
  have hord : ∀ i, i < L.length → CallsF P G 108 [int o, encV (L.getD i default).1, encV k] (int (cmpO o (L.getD i default).1 k)) := fun i hi => refOrd_ok o ho _ _ (allP hpp hi).1 hk (allP hpp hi).2.2.1 hr
  obtain ⟨N, h1, h2⟩ := runS_end (fun i => decide (0 ≤ cmpO o (L.getD i default).1 k)) L.length hm
  have hin := runS_inv (fun i => decide (0 ≤ cmpO o (L.getD i default).1 k)) L.length hm
  obtain ⟨q1, q2, q3, q4, _⟩ := hin N h1
  have e : (runS (fun i => decide (0 ≤ cmpO o (L.getD i default).1 k)) L.length N).1 = aheadN (cmpO o) k L := Sp.Place.uniq ⟨by omega, q3, fun j hj hj2 => q4 j (by omega) hj2⟩ (ahead_place (cmpO_line o) k hR)
  have hin2 : ∀ i, i ≤ N → (runS (fun i => decide (0 ≤ cmpO o (L.getD i default).1 k)) L.length i).1 ≤ (runS (fun i => decide (0 ≤ cmpO o (L.getD i default).1 k)) L.length i).2 ∧ (runS (fun i => decide (0 ≤ cmpO o (L.getD i default).1 k)) L.length i).2 ≤ L.length := fun i hi => ⟨(hin i fun j hj => h1 j (by omega)).1, (hin i fun j hj => h1 j (by omega)).2.1⟩
  rcases Nat.lt_or_ge (aheadN (cmpO o) k L) L.length with hA | hA
  · have hx := allP hpp hA
    have h := place_in o L k _ N _ hl hord (fun i _ => rfl) hin2 h1 h2 e hA (same_ok _ _ hx.1)
    rw [there_eq o L k hr hpp hR hA] at h
    exact h
  · have h := place_end o L k _ N _ hl hord (fun i _ => rfl) hin2 h1 h2 e (by omega)
    rw [show thereB o k L = false from decide_eq_false (by omega)]
    exact h
theorem ptr_eq (o : Int) (c : List (List FV)) (r : Nat) : FV.ptr [int o, .sl 8 ([] ++ (c.take r).drop 0 ++ (c.take c.length).drop (r + 1))] 0 = FV.ptr [int o, .sl 8 (c.take r ++ c.drop (r + 1))] 0 := by
  rw [List.take_length]; simp
theorem ptr_eq3 (o : Int) (c : List (List FV)) (r m : Nat) {x : List (List FV)} : FV.ptr [int o, .sl 8 ([] ++ (c.take r).drop 0 ++ x ++ (c.take c.length).drop m)] 0 = FV.ptr [int o, .sl 8 (c.take r ++ x ++ c.drop m)] 0 := by
  rw [List.take_length]; simp
theorem get84 : P.funcs[84]? = some Tryz.f84 := by kernel_rfl
theorem ent84 : entersP P 84 = true := by kernel_rfl
theorem have_no (o : Int) (L : List (V × V)) (k : V) (r : Nat) (h : CallsF P G 132 [encR o L, encV k] (.tup [int (r : Int), bool false])) : CallsF P G 84 [encR o L, encV k] (.tup [.agg [int 0, int 0, str [], .nils], bool false]) := by
  refine sx_fn (hs := [.call (FV.tup [int (r : Int), bool false]), .dec true]) ((CallsF P G 132 [encR o L, encV k] (FV.tup [int (r : Int), bool false])) ∧ (E (true)) ∧ E (FV.tup [FV.agg [int 0, int 0, str [], FV.nils], bool false])) get84 ent84 (by kernel_rfl) ?_
  refine ⟨?_, ⟨rfl, rfl⟩⟩
  all_goals exact h
theorem have_in (o : Int) (L : List (V × V)) (k : V) (r : Nat) (hl : L.length ≤ 1000000) (hrl : r < L.length) (h : CallsF P G 132 [encR o L, encV k] (.tup [int (r : Int), bool true])) : CallsF P G 84 [encR o L, encV k] (.tup [encV (L.getD r default).2, bool true]) := by
  refine sx_fn (hs := [.call (FV.tup [int (r : Int), bool true]), .dec false, .el (cellsP (Prod.fst (List.getD L r default)) ++ cellsP (Prod.snd (List.getD L r default)))]) (let z1 := List.getD L r default; CallsF P G 132 [encR o L, encV k] (FV.tup [int (r : Int), bool true]) ∧ E false ∧ (E 8 ∧ (0 : Int) ≤ (r : Int) ∧ (cellsPs L)[r]? = some (int (V.kind (Prod.fst z1)) :: int (V.num (Prod.fst z1)) :: str (V.text (Prod.fst z1)) :: encI (V.items (Prod.fst z1)) :: cellsP (Prod.snd z1))) ∧ E (FV.tup [encV (Prod.snd z1), bool true])) get84 ent84 (by kernel_rfl) ?_
  refine ⟨?_, rfl, ⟨rfl, ?_, ?_⟩, rfl⟩
  all_goals first | exact h | exact cellsPs_get L _ (by omega) | omega
theorem get145 : P.funcs[145]? = some Tryz.f145 := by kernel_rfl
theorem ent145 : entersP P 145 = true := by kernel_rfl
theorem wo_no (o : Int) (L : List (V × V)) (k : V) (r : Nat) (h : CallsF P G 132 [encR o L, encV k] (.tup [int (r : Int), bool false])) : CallsF P G 145 [encR o L, encV k] (encR o L) := by
  refine sx_fn (hs := [.call (FV.tup [int (r : Int), bool false]), .dec true]) ((CallsF P G 132 [encR o L, encV k] (FV.tup [int (r : Int), bool false])) ∧ (E (true)) ∧ E (encR o L)) get145 ent145 (by kernel_rfl) ?_
  refine ⟨?_, ⟨rfl, rfl⟩⟩
  all_goals exact h
theorem wo_in (o : Int) (L : List (V × V)) (k : V) (r : Nat) (hl : L.length ≤ 1000000) (hrl : r < L.length) (h : CallsF P G 132 [encR o L, encV k] (.tup [int (r : Int), bool true])) : CallsF P G 145 [encR o L, encV k] (.ptr [int o, .sl 8 ((cellsPs L).take r ++ (cellsPs L).drop (r + 1))] 0) := by
  refine sx_fn (hs := [.call (FV.tup [int (r : Int), bool true]), .dec false, .cast ([int o, encPs L]), Hint.tkn 1 [(10, 4)], Hint.tkn 1 [(11, 4)], .lfz [3, 1]]) (let z2 := (↑(List.length (cellsPs L)) : Int); let z1 := List.take (Int.toNat (Option.getD (some (r : Int)) z2)) (cellsPs L); let z4 := List.take (Int.toNat (Option.getD none z2)) (cellsPs L); let z5 := Int.toNat (IntKind.wrap IntKind.i64 ((r : Int) + 1)); let z3 := List.drop z5 z4; CallsF P G 132 [encR o L, encV k] (FV.tup [int (r : Int), bool true]) ∧ E false ∧ encR o L = FV.ptr [int o, FV.sl 8 (cellsPs L)] 0 ∧ E true ∧ (E 8 ∧ (0 : Int) ≤ 0 ∧ (0 : Int) ≤ Option.getD (some (r : Int)) z2 ∧ Option.getD (some (r : Int)) z2 ≤ z2) ∧ (oneF (List.drop (Int.toNat 0) z1) ∧ 0 + List.length (List.drop 0 z1) ≤ maxLen ∧ (0 + List.length (List.drop 0 z1)) * 112 ≤ 140737488355328 ∧ E false) ∧ E true ∧ (E 8 ∧ (0 : Int) ≤ IntKind.wrap IntKind.i64 ((r : Int) + 1) ∧ IntKind.wrap IntKind.i64 ((r : Int) + 1) ≤ Option.getD none z2 ∧ Option.getD none z2 ≤ z2) ∧ (oneF z3 ∧ List.length ([] ++ List.drop 0 z1) + List.length z3 ≤ maxLen ∧ (List.length ([] ++ List.drop 0 z1) + List.length z3) * 112 ≤ 140737488355328 ∧ E false) ∧ FV.ptr [int o, FV.sl 8 ([] ++ List.drop (Int.toNat 0) z1 ++ List.drop z5 z4)] 0 = FV.ptr [int o, FV.sl 8 (List.take r (cellsPs L) ++ List.drop (r + 1) (cellsPs L))] 0) get145 ent145 (by kernel_rfl) ?_
  refine ⟨?_, rfl, ?_, rfl, ⟨rfl, ?_, ?_, ?_⟩, ⟨?_, ?_, ?_, rfl⟩, rfl, ⟨rfl, ?_, ?_, ?_⟩, ⟨?_, ?_, ?_, rfl⟩, ?_⟩
  all_goals first | exact h | (show ((r : Nat) : Int) ≤ (((cellsPs L).length : Nat) : Int); rw [cellsPs_length]; omega) | (show oneF (((cellsPs L).take r).drop 0); rw [List.drop_zero]; exact oneF_take _ _) | (rw [wrapS _ (by omega) (by omega)]; omega) | (rw [wrapS _ (by omega) (by omega)]; show ((r : Nat) : Int) + 1 ≤ (((cellsPs L).length : Nat) : Int); rw [cellsPs_length]; omega) | (rw [wrapS _ (by omega) (by omega), show (((r : Nat) : Int) + 1).toNat = r + 1 from by omega]; show oneF (((cellsPs L).take (cellsPs L).length).drop (r + 1)); rw [List.take_length]; exact oneF_drop _ _) | (rw [wrapS _ (by omega) (by omega), show (((r : Nat) : Int) + 1).toNat = r + 1 from by omega]; exact ptr_eq _ _ _) | (simp only [cellsPs_length, chunk, List.length_cons, List.length_nil, List.length_append, List.length_take, List.length_drop, maxLen, Int.toNat_natCast]; omega) | omega | (simp [V.kind, V.num, V.text, V.items, *]; done) | rfl
theorem get146 : P.funcs[146]? = some Tryz.f146 := by kernel_rfl
theorem ent146 : entersP P 146 = true := by kernel_rfl
theorem wi_no (o : Int) (L : List (V × V)) (k v : V) (r : Nat) (hl : L.length ≤ 1000000) (hrl : r ≤ L.length) (h : CallsF P G 132 [encR o L, encV k] (.tup [int (r : Int), bool false])) : CallsF P G 146 [encR o L, encV k, encV v] (.ptr [int o, .sl 8 ((cellsPs L).take r ++ [cellsP k ++ cellsP v] ++ (cellsPs L).drop r)] 0) := by
  refine sx_fn (hs := [.call (.tup [int (r : Int), bool false]), .cast ([int o, encPs L]), .tkn 1 [(10, 4)], .tkn 1 [(8, 4)], .dec false, .tkn 1 [(10, 4)], .lfz [5, 2]]) (let z2 := int (V.kind k) :: int (V.num k) :: str (V.text k) :: encI (V.items k) :: cellsP v; let z3 := (↑(List.length (cellsPs L)) : Int); let z1 := List.take (Int.toNat (Option.getD (some (r : Int)) z3)) (cellsPs L); let z4 := List.take (Int.toNat (Option.getD none z3)) (cellsPs L); let z5 := [] ++ List.drop 0 z1 ++ chunk 8 1 z2; CallsF P G 132 [encR o L, encV k] (FV.tup [int (r : Int), bool false]) ∧ encR o L = FV.ptr [int o, FV.sl 8 (cellsPs L)] 0 ∧ E true ∧ (E 8 ∧ (0 : Int) ≤ 0 ∧ (0 : Int) ≤ Option.getD (some (r : Int)) z3 ∧ Option.getD (some (r : Int)) z3 ≤ z3) ∧ (oneF (List.drop (Int.toNat 0) z1) ∧ 0 + List.length (List.drop 0 z1) ≤ maxLen ∧ (0 + List.length (List.drop 0 z1)) * 112 ≤ 140737488355328 ∧ E false) ∧ E true ∧ (oneF ([int (V.kind k) :: int (V.num k) :: str (V.text k) :: encI (V.items k) :: cellsP v]) ∧ List.length ([] ++ List.drop 0 z1) + List.length (chunk 8 1 z2) ≤ maxLen ∧ (List.length ([] ++ List.drop 0 z1) + List.length (chunk 8 1 z2)) * 112 ≤ 140737488355328 ∧ E false) ∧ E false ∧ E true ∧ (E 8 ∧ (0 : Int) ≤ (r : Int) ∧ (r : Int) ≤ Option.getD none z3 ∧ Option.getD none z3 ≤ z3) ∧ (oneF (List.drop r z4) ∧ List.length z5 + List.length (List.drop r z4) ≤ maxLen ∧ (List.length z5 + List.length (List.drop r z4)) * 112 ≤ 140737488355328 ∧ E false) ∧ FV.ptr [int o, FV.sl 8 ([] ++ List.drop (Int.toNat 0) z1 ++ chunk (TypeInfo.size (Tables.types (Program.toTables P))[96]) 1 z2 ++ List.drop r z4)] 0 = FV.ptr [int o, FV.sl 8 (List.take r (cellsPs L) ++ [cellsP k ++ cellsP v] ++ List.drop r (cellsPs L))] 0) get146 ent146 (by kernel_rfl) ?_
  refine ⟨?_, ?_, rfl, ⟨rfl, ?_, ?_, ?_⟩, ⟨?_, ?_, ?_, rfl⟩, rfl, ⟨?_, ?_, ?_, rfl⟩, rfl, rfl, ⟨rfl, ?_, ?_, ?_⟩, ⟨?_, ?_, ?_, rfl⟩, ?_⟩
  all_goals first | exact h | (show ((r : Nat) : Int) ≤ (((cellsPs L).length : Nat) : Int); rw [cellsPs_length]; omega) | (show oneF (((cellsPs L).take r).drop 0); rw [List.drop_zero]; exact oneF_take _ _) | (show oneF (((cellsPs L).take (cellsPs L).length).drop r); rw [List.take_length]; exact oneF_drop _ _) | exact ptr_eq3 _ _ _ _ | exact oneF_cellsPs [(k, v)] | (simp only [cellsPs_length, chunk, List.length_cons, List.length_nil, List.length_append, List.length_take, List.length_drop, maxLen, Int.toNat_natCast]; omega) | omega | (simp [V.kind, V.num, V.text, V.items, *]; done) | rfl
theorem wi_in (o : Int) (L : List (V × V)) (k v : V) (r : Nat) (hl : L.length ≤ 1000000) (hrl : r < L.length) (h : CallsF P G 132 [encR o L, encV k] (.tup [int (r : Int), bool true])) : CallsF P G 146 [encR o L, encV k, encV v] (.ptr [int o, .sl 8 ((cellsPs L).take r ++ [cellsP k ++ cellsP v] ++ (cellsPs L).drop (r + 1))] 0) := by
  refine sx_fn (hs := [.call (.tup [int (r : Int), bool true]), .cast ([int o, encPs L]), .tkn 1 [(10, 4)], .tkn 1 [(8, 4)], .dec true, .tkn 1 [(10, 4)], .lfz [5, 2]]) (let z2 := int (V.kind k) :: int (V.num k) :: str (V.text k) :: encI (V.items k) :: cellsP v; let z3 := (↑(List.length (cellsPs L)) : Int); let z1 := List.take (Int.toNat (Option.getD (some (r : Int)) z3)) (cellsPs L); let z5 := List.take (Int.toNat (Option.getD none z3)) (cellsPs L); let z6 := Int.toNat (IntKind.wrap IntKind.i64 ((r : Int) + 1)); let z4 := List.drop z6 z5; let z7 := [] ++ List.drop 0 z1 ++ chunk 8 1 z2; CallsF P G 132 [encR o L, encV k] (FV.tup [int (r : Int), bool true]) ∧ encR o L = FV.ptr [int o, FV.sl 8 (cellsPs L)] 0 ∧ E true ∧ (E 8 ∧ (0 : Int) ≤ 0 ∧ (0 : Int) ≤ Option.getD (some (r : Int)) z3 ∧ Option.getD (some (r : Int)) z3 ≤ z3) ∧ (oneF (List.drop (Int.toNat 0) z1) ∧ 0 + List.length (List.drop 0 z1) ≤ maxLen ∧ (0 + List.length (List.drop 0 z1)) * 112 ≤ 140737488355328 ∧ E false) ∧ E true ∧ (oneF ([int (V.kind k) :: int (V.num k) :: str (V.text k) :: encI (V.items k) :: cellsP v]) ∧ List.length ([] ++ List.drop 0 z1) + List.length (chunk 8 1 z2) ≤ maxLen ∧ (List.length ([] ++ List.drop 0 z1) + List.length (chunk 8 1 z2)) * 112 ≤ 140737488355328 ∧ E false) ∧ E true ∧ E true ∧ (E 8 ∧ (0 : Int) ≤ IntKind.wrap IntKind.i64 ((r : Int) + 1) ∧ IntKind.wrap IntKind.i64 ((r : Int) + 1) ≤ Option.getD none z3 ∧ Option.getD none z3 ≤ z3) ∧ (oneF z4 ∧ List.length z7 + List.length z4 ≤ maxLen ∧ (List.length z7 + List.length z4) * 112 ≤ 140737488355328 ∧ E false) ∧ FV.ptr [int o, FV.sl 8 ([] ++ List.drop (Int.toNat 0) z1 ++ chunk (TypeInfo.size (Tables.types (Program.toTables P))[96]) 1 z2 ++ List.drop z6 z5)] 0 = FV.ptr [int o, FV.sl 8 (List.take r (cellsPs L) ++ [cellsP k ++ cellsP v] ++ List.drop (r + 1) (cellsPs L))] 0) get146 ent146 (by kernel_rfl) ?_
  refine ⟨?_, ?_, rfl, ⟨rfl, ?_, ?_, ?_⟩, ⟨?_, ?_, ?_, rfl⟩, rfl, ⟨?_, ?_, ?_, rfl⟩, rfl, rfl, ⟨rfl, ?_, ?_, ?_⟩, ⟨?_, ?_, ?_, rfl⟩, ?_⟩
  all_goals first | exact h | (show ((r : Nat) : Int) ≤ (((cellsPs L).length : Nat) : Int); rw [cellsPs_length]; omega) | (show oneF (((cellsPs L).take r).drop 0); rw [List.drop_zero]; exact oneF_take _ _) | (rw [wrapS _ (by omega) (by omega)]; omega) | (rw [wrapS _ (by omega) (by omega)]; show ((r : Nat) : Int) + 1 ≤ (((cellsPs L).length : Nat) : Int); rw [cellsPs_length]; omega) | (rw [wrapS _ (by omega) (by omega), show (((r : Nat) : Int) + 1).toNat = r + 1 from by omega]; show oneF (((cellsPs L).take (cellsPs L).length).drop (r + 1)); rw [List.take_length]; exact oneF_drop _ _) | (rw [wrapS _ (by omega) (by omega), show (((r : Nat) : Int) + 1).toNat = r + 1 from by omega]; exact ptr_eq3 _ _ _ _) | exact oneF_cellsPs [(k, v)] | (simp only [cellsPs_length, chunk, List.length_cons, List.length_nil, List.length_append, List.length_take, List.length_drop, maxLen, Int.toNat_natCast]; omega) | omega | (simp [V.kind, V.num, V.text, V.items, *]; done) | rfl
end Go.Sx
set_option maxRecDepth 100000
set_option maxHeartbeats 4000000
set_option linter.unusedSimpArgs false
set_option linter.unusedVariables false
namespace Go.Sx
open Go.Proofs Sp
end Go.Sx
set_option maxRecDepth 100000
set_option maxHeartbeats 4000000
set_option linter.unusedSimpArgs false
set_option linter.unusedVariables false
namespace Go.Sx
open Go.Proofs Sp
end Go.Sx
set_option maxRecDepth 100000
set_option maxHeartbeats 4000000
set_option linter.unusedSimpArgs false
set_option linter.unusedVariables false
namespace Go.Sx
open Go.Proofs Sp
theorem putT_fst (c : V → V → Int) (x : T × Nat) (k v : V) : (putT c x k v).1 = (T.insert c k v x.1).blackened := rfl
theorem there_iff (o : Int) (k : V) (L : List (V × V)) (hR : Rising (cmpO o) L) : thereB o k L = false ↔ uptoN (cmpO o) k L = aheadN (cmpO o) k L := by
  obtain ⟨w1, w2⟩ := upto_ahead (cmpO_line o) k hR
  unfold thereB
  rw [decide_eq_false_iff_not]
  omega
theorem refWith_ok (o : Int) (ho : 0 ≤ o ∧ o ≤ 5) {x : T × Nat} (hx : OkX x) (hn : x.2 ≤ 60000) (hR : Rising (cmpO o) x.1.toList) {k v : V} (hp : RP (k, v)) : CallsF P G 146 [encR o x.1.toList, encV k, encV v] (encR o (putT (cmpO o) x k v).1.toList) ∧ Rising (cmpO o) (putT (cmpO o) x k v).1.toList := by
  have e : x.1.size = x.2 := hx.2.2.1
  have h8 := T.toList_length x.1
  obtain ⟨i1, i2⟩ := T.insert_list (cmpO_line o) k v x.1 hR
  refine ⟨?_, by rw [putT_fst]; exact T.insert_rising (cmpO_line o) k v x.1 hR⟩
  rw [putT_fst, i1]
  have hpl := refPlace_ok o ho x.1.toList k (by omega) hp.1 hp.2.2.1 hx.2.2.2 hR
  have a1 := (ahead_place (cmpO_line o) k hR).1
  have u1 := (upto_place (cmpO_line o) k hR).1
  have ee : ∀ m r, FV.ptr [int o, .sl 8 ((cellsPs x.1.toList).take r ++ [cellsP k ++ cellsP v] ++ (cellsPs x.1.toList).drop m)] 0 = encR o (x.1.toList.take r ++ (k, v) :: x.1.toList.drop m) := fun m r => by
    unfold encR encPs
    rw [cellsPs_app, cellsPs_take, show cellsPs ((k, v) :: x.1.toList.drop m) = [cellsP k ++ cellsP v] ++ cellsPs (x.1.toList.drop m) from rfl, cellsPs_drop, List.append_assoc]
  cases ht : thereB o k x.1.toList with
  | false =>
    rw [ht] at hpl
    rw [(there_iff o k _ hR).1 ht, ← ee]
    exact wi_no o _ k v _ (by omega) (by omega) hpl
  | true =>
    rw [ht] at hpl
    have e2 : uptoN (cmpO o) k x.1.toList = aheadN (cmpO o) k x.1.toList + 1 := of_decide_eq_true ht
    rw [e2, ← ee]
    exact wi_in o _ k v _ (by omega) (by omega) hpl
theorem refWithout_ok (o : Int) (ho : 0 ≤ o ∧ o ≤ 5) {x : T × Nat} (hx : OkX x) (hn : x.2 ≤ 60000) (hR : Rising (cmpO o) x.1.toList) {k : V} (hk : Fine k) (hr : rightB k = true) : CallsF P G 145 [encR o x.1.toList, encV k] (encR o (cutT (cmpO o) x k).1.toList) ∧ Rising (cmpO o) (cutT (cmpO o) x k).1.toList := by
  have e : x.1.size = x.2 := hx.2.2.1
  have h8 := T.toList_length x.1
  have hpl := refPlace_ok o ho x.1.toList k (by omega) hk hr hx.2.2.2 hR
  have hfi := (T.insert_list (cmpO_line o) k k x.1 hR).2
  unfold cutT
  cases hf : (T.find (cmpO o) k x.1).isNil with
  | true =>
    rw [if_pos rfl]
    have ht : thereB o k x.1.toList = false := (there_iff o k _ hR).2 (hfi.1 hf)
    rw [ht] at hpl
    exact ⟨wo_no o _ k _ hpl, hR⟩
  | false =>
    rw [if_neg (by simp)]
    obtain ⟨⟨m, hm⟩, _⟩ := hx
    obtain ⟨r1, r2, r3⟩ := T.remove_list (cmpO_line o) k x.1 m hm hR hf
    refine ⟨?_, r2⟩
    have ht : thereB o k x.1.toList = true := decide_eq_true r3
    rw [ht] at hpl
    have u1 := (upto_place (cmpO_line o) k hR).1
    have h := wo_in o _ k _ (by omega) (by omega) hpl
    rw [cellsPs_take, cellsPs_drop, ← cellsPs_app] at h
    show CallsF P G _ _ (encR o (T.remove (cmpO o) k x.1).blackened.toList)
    rw [r1]
    exact h
end Go.Sx

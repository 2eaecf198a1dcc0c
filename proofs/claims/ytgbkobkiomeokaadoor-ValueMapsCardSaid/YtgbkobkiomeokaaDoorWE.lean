/-
  Proved: what some functions of the program answer, or a law of the evaluator that shows it, one theorem each; its conditions are the hypotheses that stand ahead of it.
-/
import Derived.Test.YtgbkobkiomeokaaDoorWC
import Derived.Test.YtgbkobkiomeokaaDoorD6
import Derived.KernelRfl
import Derived.Test.YtgbkobkiomeokaaDoorD3
set_option maxRecDepth 100000
set_option maxHeartbeats 4000000
set_option linter.unusedSimpArgs false
set_option linter.unusedVariables false
namespace Go.Sx
open Go.Proofs Sp
open Sp.Sy
/-- slices.CompactFunc: those that are not like the one ahead of them. -/
def compFq (q : V × V → V × V → Bool) : V × V → List (V × V) → List (V × V)
  | _, [] => []
  | p, y :: l => if q y p then compFq q y l else y :: compFq q y l
def compq (q : V × V → V × V → Bool) : List (V × V) → List (V × V)
  | [] => []
  | x :: l => x :: compFq q x l
/-- Where the next one goes, and the row, behind j steps of the inner loop; the first two that are alike lie at N and N + 1. -/
def coRq (q : V × V → V × V → Bool) (l : List (V × V)) (N : Nat) : Nat → Nat × List (V × V)
  | 0 => (N + 1, l)
  | j + 1 => if q (l.getD (N + 1 + (j + 1)) default) (l.getD (N + 1 + j) default) then coRq q l N j else ((coRq q l N j).1 + 1, (coRq q l N j).2.set (coRq q l N j).1 (l.getD (N + 1 + (j + 1)) default))
def ScoOq (f : Nat) (l : List (V × V)) (i : Nat) : St := { sl := slots 66 [(0, .lsl 0), (1, .f (.fn f [] [])), (5, .f (int ((i + 1 : Nat) : Int)))], ob := [(0, .row 8 42 (cellsPs l))], nx := 1 }
def ScoIq (q : V × V → V × V → Bool) (f : Nat) (l : List (V × V)) (N j : Nat) : St := { sl := slots 66 [(0, .lsl 0), (1, .f (.fn f [] [])), (5, .f (int ((coRq q l N j).1 : Int))), (6, .lvw 0 8 (N + 1) (l.length - (N + 1))), (7, .f (int ((j + 1 : Nat) : Int)))], ob := [(0, .row 8 42 (cellsPs (coRq q l N j).2))], nx := 1 }
section
variable {q : V × V → V × V → Bool} {l : List (V × V)} {N : Nat}
theorem coR_factsq (hn : N + 1 < l.length) : ∀ j, N + 1 + j < l.length → (coRq q l N j).2.length = l.length ∧ N + 1 ≤ (coRq q l N j).1 ∧ (coRq q l N j).1 ≤ N + 1 + j ∧ ∀ i, N + 1 + j ≤ i → (coRq q l N j).2.getD i default = l.getD i default
  | 0, _ => ⟨rfl, by simp [coRq], by simp [coRq], fun i _ => rfl⟩
  | j + 1, h => by
    obtain ⟨h1, h2, h3, h4⟩ := coR_factsq hn j (by omega)
    simp only [coRq]
    split
    · exact ⟨h1, h2, by omega, fun i hi => h4 i (by omega)⟩
    · refine ⟨by simpa using h1, by simp only; omega, by simp only; omega, fun i hi => ?_⟩
      simp only
      rw [List.getD_eq_getElem?_getD, List.getElem?_set_ne (by omega), ← List.getD_eq_getElem?_getD]
      exact h4 i (by omega)
theorem comp_prefixq (hq : ∀ i, i < N → q (l.getD (i + 1) default) (l.getD i default) = false) : ∀ i, i ≤ N → i < l.length → compq q l = l.take (i + 1) ++ compFq q (l.getD i default) (l.drop (i + 1))
  | 0, _, h => by
    cases l with
    | nil => simp at h
    | cons x l => simp [compq]
  | i + 1, hi, h => by
    rw [comp_prefixq hq i (by omega) (by omega), drop_one (l := l) (i := (i + 1)) h]
    simp only [compFq]
    rw [hq i (by omega)]
    simp only [Bool.false_eq_true, if_false]
    rw [List.take_succ_eq_append_getElem h, List.append_assoc]
    simp only [List.getD_eq_getElem?_getD, List.getElem?_eq_getElem h, Option.getD_some, List.singleton_append]
theorem comp_idq (hq : ∀ i, i < N → q (l.getD (i + 1) default) (l.getD i default) = false) (h : N + 1 = l.length) : compq q l = l := by
  rw [comp_prefixq hq N (Nat.le_refl _) (by omega), List.drop_eq_nil_of_le (by omega), List.take_of_length_le (by omega)]
  simp [compFq]
theorem comp_coRq (hq : ∀ i, i < N → q (l.getD (i + 1) default) (l.getD i default) = false) (hn : N + 1 < l.length) (h2 : q (l.getD (N + 1) default) (l.getD N default) = true) :
    ∀ j, N + 1 + j < l.length → compq q l = (coRq q l N j).2.take (coRq q l N j).1 ++ compFq q (l.getD (N + 1 + j) default) (l.drop (N + 1 + j + 1))
  | 0, h => by
    rw [comp_prefixq hq N (Nat.le_refl _) (by omega), drop_one (l := l) (i := (N + 1)) h]
    simp only [compFq, h2, if_true, coRq, Nat.add_zero]
  | j + 1, h => by
    obtain ⟨f1, f2, f3, f4⟩ := coR_factsq (q := q) hn j (by omega)
    rw [comp_coRq hq hn h2 j (by omega), drop_one (l := l) (i := (N + 1 + j + 1)) (by omega)]
    simp only [compFq, coRq]
    rw [show N + 1 + (j + 1) = N + 1 + j + 1 from by omega]
    split
    · rfl
    · simp only
      have hlt : (coRq q l N j).1 < (coRq q l N j).2.length := by omega
      have : ((coRq q l N j).2.set (coRq q l N j).1 (l.getD (N + 1 + j + 1) default)).take ((coRq q l N j).1 + 1) = (coRq q l N j).2.take (coRq q l N j).1 ++ [l.getD (N + 1 + j + 1) default] := by
        rw [List.take_succ_eq_append_getElem (by simpa using hlt)]
        simp [List.take_set]
        rw [List.set_eq_of_length_le (by simp; omega)]
      rw [this]
      simp
theorem comp_endq (hq : ∀ i, i < N → q (l.getD (i + 1) default) (l.getD i default) = false) (hn : N + 1 < l.length) (h2 : q (l.getD (N + 1) default) (l.getD N default) = true) :
    (coRq q l N (l.length - N - 2)).2.take (coRq q l N (l.length - N - 2)).1 = compq q l := by
  rw [comp_coRq hq hn h2 (l.length - N - 2) (by omega), List.drop_eq_nil_of_le (by omega)]
  simp [compFq]
theorem coElq (l : List (V × V)) (i j : Nat) (h : i = j) (hj : j < l.length) : (cellsPs l)[i]? = some (cellsP (l.getD j default).1 ++ cellsP (l.getD j default).2) := by subst h; exact cellsPs_get l i hj
theorem coEl2q (l r : List (V × V)) (i j : Nat) (hr : r.getD j default = l.getD j default) (h : i = j) (hj : j < r.length) : (cellsPs r)[i]? = some (cellsP (l.getD j default).1 ++ cellsP (l.getD j default).2) := by rw [← hr]; exact coElq r i j h hj
end
theorem get17 : P.funcs[17]? = some Tryd.f17 := by kernel_rfl
theorem ent17 : entersP P 17 = true := by kernel_rfl
theorem compact_shortq {g : Gr} (f : Nat) (l : List (V × V)) (hl : l.length < 2) : CallsW P g 17 42 8 (cellsPs l) [.fn f [] []] (cellsPs l) none := by
  refine sx_fnW (hs := [.dec true]) (((decide ((↑(List.length (cellsPs l)) : Int) < 2)) = (true)) ∧ (E (42)) ∧ (E (8)) ∧ E (cellsPs l)) get17 ent17 (by kernel_rfl) ?_
  refine ⟨?_, ⟨rfl, ⟨rfl, rfl⟩⟩⟩
  all_goals (simp only [cellsPs_length, decide_eq_true_eq, decide_eq_false_iff_not]; omega)
theorem compact_allq {g : Gr} (q : V × V → V × V → Bool) (f : Nat) (l : List (V × V)) (N : Nat) (hl : l.length ≤ 1152921504606846976) (hn : 2 ≤ l.length) (hN : N + 1 ≤ l.length) (hq : ∀ i, i < N → q (l.getD (i + 1) default) (l.getD i default) = false) (hc : ∀ i, i + 1 < l.length → CallsF P g f [encQ (l.getD (i + 1) default), encQ (l.getD i default)] (bool (q (l.getD (i + 1) default) (l.getD i default)))) (h1 : N + 1 = l.length) : CallsW P g 17 42 8 (cellsPs l) [.fn f [] []] (cellsPs l) none := by
  refine sx_fnW (hs := [.dec false, .loop [(0,0)] [(0,0)] (ScoOq f l) N (fun i => [.dec true, .nat 11, .el (cellsP (l.getD (i + 1) default).1 ++ cellsP (l.getD (i + 1) default).2), .el (cellsP (l.getD (i) default).1 ++ cellsP (l.getD (i) default).2), .call (bool false), .dec false]), .dec false]) (let z1 := (↑(List.length (cellsPs l)) : Int); let z2 := E (Ob.row 8 42 (cellsPs l)) ∧ True; decide (z1 < 2) = false ∧ (E true ∧ (E (AV.lsl 0) ∧ E (AV.f (FV.fn f [] [])) ∧ AV.f (int 1) = AV.f (int (Int.ofNat (0 + 1))) ∧ True) ∧ z2 ∧ E true ∧ (false = true → false = true)) ∧ (∀ (i : Nat), (let z6 := Prod.fst (List.getD l i default); let z4 := int (V.kind z6) :: int (V.num z6) :: str (V.text z6) :: encI (V.items z6) :: cellsP (Prod.snd (List.getD l i default)); let z7 := IntKind.wrap IntKind.i64 ((↑(i + 1) : Int) - 1); let z8 := List.getD l (i + 1) default; let z5 := Prod.fst z8; let z3 := int (V.kind z5) :: int (V.num z5) :: str (V.text z5) :: encI (V.items z5) :: cellsP (Prod.snd z8); i < N → decide ((↑(i + 1) : Int) < z1) = true ∧ E true ∧ ((0 : Int) ≤ (↑(i + 1) : Int) ∧ i + 1 < List.length (cellsPs l)) ∧ (cellsPs l)[i + 1]? = some z3 ∧ ((0 : Int) ≤ IntKind.wrap IntKind.i64 ((↑(i + 1) : Int) - 1) ∧ Int.toNat z7 < List.length (cellsPs l)) ∧ (cellsPs l)[Int.toNat z7]? = some z4 ∧ CallsF P g f [FV.agg z3, FV.agg z4] (bool false) ∧ E false ∧ E true ∧ (E (AV.lsl 0) ∧ E (AV.f (FV.fn f [] [])) ∧ AV.f (int (IntKind.wrap IntKind.i64 ((↑(i + 1) : Int) + 1))) = AV.f (int (↑(i + 1 + 1) : Int)) ∧ True) ∧ z2 ∧ E true ∧ (false = true → false = true))) ∧ decide ((↑(N + 1) : Int) < z1) = false ∧ E 42 ∧ E 8 ∧ E (cellsPs l)) get17 ent17 (by kernel_rfl) ?_
  refine ⟨?_, ⟨rfl, ⟨rfl, rfl, ?_, trivial⟩, ⟨rfl, trivial⟩, rfl, fun hi => ?_⟩, fun i => fun hi => ⟨?_, rfl, ⟨?_, ?_⟩, ?_, ⟨?_, ?_⟩, ?_, ?_, rfl, rfl, ⟨rfl, rfl, ?_, trivial⟩, ⟨rfl, trivial⟩, rfl, fun hi => ?_⟩, ?_, rfl, rfl, rfl⟩
  all_goals first | exact rfl | omega | (rw [wrapS _ (by omega) (by omega)]; omega) | (simp only [cellsPs_length, decide_eq_true_eq, decide_eq_false_iff_not]; omega) | (rw [wrapS _ (by omega) (by omega)]; simp only [cellsPs_length]; omega) | exact coElq l _ _ (by first | omega | (rw [wrapS _ (by omega) (by omega)]; omega)) (by omega) | (have h3 := hc i (by omega); rw [hq i hi] at h3; exact h3) | (exact congrArg (fun x => AV.f (int x)) (by rw [wrapS _ (by omega) (by omega)]; omega))
theorem compact_someq {g : Gr} (q : V × V → V × V → Bool) (f : Nat) (l : List (V × V)) (N : Nat) (hl : l.length ≤ 1152921504606846976) (hn : 2 ≤ l.length) (hN : N + 1 ≤ l.length) (hq : ∀ i, i < N → q (l.getD (i + 1) default) (l.getD i default) = false) (hc : ∀ i, i + 1 < l.length → CallsF P g f [encQ (l.getD (i + 1) default), encQ (l.getD i default)] (bool (q (l.getD (i + 1) default) (l.getD i default)))) (h1 : N + 1 < l.length) (h2 : q (l.getD (N + 1) default) (l.getD N default) = true) : CallsW P g 17 42 8 (cellsPs l) [.fn f [] []] (cellsPs ((coRq q l N (l.length - N - 2)).2.take (coRq q l N (l.length - N - 2)).1)) none := by
  refine sx_fnW (hs := [.dec false, .loop [(0,0)] [(0,0)] (ScoOq f l) N (fun i => [.dec true, .nat 11, .el (cellsP (l.getD (i + 1) default).1 ++ cellsP (l.getD (i + 1) default).2), .el (cellsP (l.getD (i) default).1 ++ cellsP (l.getD (i) default).2), .call (bool false), .dec false]), .dec true, .nat 11, .el (cellsP (l.getD (N + 1) default).1 ++ cellsP (l.getD (N + 1) default).2), .el (cellsP (l.getD (N) default).1 ++ cellsP (l.getD (N) default).2), .call (bool true), .dec true, .own, .loop [(0,0)] [(0,0)] (ScoIq q f l N) (l.length - N - 2) (fun j => [.dec true, .nat 12, .el (cellsP (l.getD (N + 1 + (j + 1)) default).1 ++ cellsP (l.getD (N + 1 + (j + 1)) default).2), .el (cellsP (l.getD (N + 1 + j) default).1 ++ cellsP (l.getD (N + 1 + j) default).2), .call (bool (q (l.getD (N + 1 + (j + 1)) default) (l.getD (N + 1 + j) default))), .br [.el (cellsP (l.getD (N + 1 + (j + 1)) default).1 ++ cellsP (l.getD (N + 1 + (j + 1)) default).2)] []]), .dec false, .own, .own]) (let z1 := coRq q l N (List.length l - N - 2); let z4 := cellsPs (Prod.snd z1); let z6 := List.length z4 - Prod.fst z1; let z7 := Prod.fst (List.getD l N default); let z3 := int (V.kind z7) :: int (V.num z7) :: str (V.text z7) :: encI (V.items z7) :: cellsP (Prod.snd (List.getD l N default)); let z8 := List.length l - (N + 1); let z9 := AV.f (FV.fn f [] []); let z10 := (↑(List.length (cellsPs l)) : Int); let z11 := (0 : Int) ≤ (↑(N + 1) : Int) ∧ N + 1 < List.length (cellsPs l); let z12 := IntKind.wrap IntKind.i64 ((↑(N + 1) : Int) - 1); let z13 := E (Ob.row 8 42 (cellsPs l)) ∧ True; let z14 := List.getD l (N + 1) default; let z5 := Prod.fst z14; let z2 := int (V.kind z5) :: int (V.num z5) :: str (V.text z5) :: encI (V.items z5) :: cellsP (Prod.snd z14); decide (z10 < 2) = false ∧ (E true ∧ (E (AV.lsl 0) ∧ E z9 ∧ AV.f (int 1) = AV.f (int (Int.ofNat (0 + 1))) ∧ True) ∧ z13 ∧ E true ∧ (false = true → false = true)) ∧ (∀ (i : Nat), (let z18 := Prod.fst (List.getD l i default); let z16 := int (V.kind z18) :: int (V.num z18) :: str (V.text z18) :: encI (V.items z18) :: cellsP (Prod.snd (List.getD l i default)); let z19 := IntKind.wrap IntKind.i64 ((↑(i + 1) : Int) - 1); let z20 := List.getD l (i + 1) default; let z17 := Prod.fst z20; let z15 := int (V.kind z17) :: int (V.num z17) :: str (V.text z17) :: encI (V.items z17) :: cellsP (Prod.snd z20); i < N → decide ((↑(i + 1) : Int) < z10) = true ∧ E true ∧ ((0 : Int) ≤ (↑(i + 1) : Int) ∧ i + 1 < List.length (cellsPs l)) ∧ (cellsPs l)[i + 1]? = some z15 ∧ ((0 : Int) ≤ IntKind.wrap IntKind.i64 ((↑(i + 1) : Int) - 1) ∧ Int.toNat z19 < List.length (cellsPs l)) ∧ (cellsPs l)[Int.toNat z19]? = some z16 ∧ CallsF P g f [FV.agg z15, FV.agg z16] (bool false) ∧ E false ∧ E true ∧ (E (AV.lsl 0) ∧ E z9 ∧ AV.f (int (IntKind.wrap IntKind.i64 ((↑(i + 1) : Int) + 1))) = AV.f (int (↑(i + 1 + 1) : Int)) ∧ True) ∧ z13 ∧ E true ∧ (false = true → false = true))) ∧ decide ((↑(N + 1) : Int) < z10) = true ∧ E true ∧ z11 ∧ (cellsPs l)[N + 1]? = some z2 ∧ ((0 : Int) ≤ IntKind.wrap IntKind.i64 ((↑(N + 1) : Int) - 1) ∧ Int.toNat z12 < List.length (cellsPs l)) ∧ (cellsPs l)[Int.toNat z12]? = some z3 ∧ CallsF P g f [FV.agg z2, FV.agg z3] (bool true) ∧ E true ∧ z11 ∧ (E true ∧ (E (AV.lsl 0) ∧ E z9 ∧ AV.f (int (↑(N + 1) : Int)) = AV.f (int (↑(Prod.fst (coRq q l N 0)) : Int)) ∧ AV.lvw 0 8 (N + 1) (List.length (cellsPs l) - (N + 1)) = AV.lvw 0 8 (N + 1) z8 ∧ AV.f (int 1) = AV.f (int (Int.ofNat (0 + 1))) ∧ True) ∧ (Ob.row 8 42 (cellsPs l) = Ob.row 8 42 (cellsPs (Prod.snd (coRq q l N 0))) ∧ True) ∧ E true ∧ (false = true → false = true)) ∧ (∀ (i : Nat), (let z22 := List.getD l (N + 1 + i) default; let z23 := List.getD l (N + 1 + (i + 1)) default; let z21 := int (V.kind (Prod.fst z23)) :: int (V.num (Prod.fst z23)) :: str (V.text (Prod.fst z23)) :: encI (V.items (Prod.fst z23)) :: cellsP (Prod.snd z23); let z24 := cellsPs (Prod.snd (coRq q l N i)); let z25 := int (V.kind (Prod.fst z22)) :: int (V.num (Prod.fst z22)) :: str (V.text (Prod.fst z22)) :: encI (V.items (Prod.fst z22)) :: cellsP (Prod.snd z22); let z26 := Prod.fst (coRq q l N i); let z27 := (0 : Int) ≤ (↑(i + 1) : Int) ∧ i + 1 < List.length l - (N + 1); let z28 := int (IntKind.wrap IntKind.i64 ((↑(i + 1) : Int) + 1)); let z29 := IntKind.wrap IntKind.i64 ((↑(i + 1) : Int) - 1); let z30 := int (↑(Prod.fst (coRq q l N (i + 1))) : Int); let z31 := cellsPs (Prod.snd (coRq q l N (i + 1))); i < List.length l - N - 2 → decide ((↑(i + 1) : Int) < (↑z8 : Int)) = true ∧ E true ∧ z27 ∧ z24[N + 1 + (i + 1)]? = some z21 ∧ ((0 : Int) ≤ IntKind.wrap IntKind.i64 ((↑(i + 1) : Int) - 1) ∧ Int.toNat z29 < List.length l - (N + 1)) ∧ z24[N + 1 + Int.toNat z29]? = some z25 ∧ CallsF P g f [FV.agg z21, FV.agg z25] (bool (q z23 z22)) ∧ Br (!q z23 z22) (z27 ∧ z24[N + 1 + (i + 1)]? = some z21 ∧ ((0 : Int) ≤ (↑z26 : Int) ∧ Prod.fst (coRq q l N i) < List.length z24) ∧ Prod.fst (coRq q l N i) < List.length z24 ∧ E true ∧ (E (AV.lsl 0) ∧ E z9 ∧ AV.f (int (IntKind.wrap IntKind.i64 ((↑z26 : Int) + 1))) = AV.f z30 ∧ E (AV.lvw 0 8 (N + 1) z8) ∧ AV.f z28 = AV.f (int (↑(i + 1 + 1) : Int)) ∧ True) ∧ (Ob.row 8 42 (List.set z24 z26 z21) = Ob.row 8 42 z31 ∧ True) ∧ E true ∧ (false = true → false = true)) (E true ∧ (E (AV.lsl 0) ∧ E z9 ∧ AV.f (int (↑z26 : Int)) = AV.f z30 ∧ E (AV.lvw 0 8 (N + 1) z8) ∧ AV.f z28 = AV.f (int (↑(i + 1 + 1) : Int)) ∧ True) ∧ (Ob.row 8 42 z24 = Ob.row 8 42 z31 ∧ True) ∧ E true ∧ (false = true → false = true)))) ∧ decide ((↑(List.length l - N - 2 + 1) : Int) < (↑z8 : Int)) = false ∧ ((0 : Int) ≤ (↑(Prod.fst z1) : Int) ∧ Prod.fst z1 < List.length z4) ∧ (Prod.fst z1 + z6 ≤ List.length z4 ∧ (0 : Nat) < List.length z4 - Prod.fst z1 ∧ oneF ([[int 0, int 0, str [], FV.nils, int 0, int 0, str [], FV.nils]])) ∧ ((0 : Int) ≤ (↑(Prod.fst z1) : Int) ∧ Prod.fst z1 ≤ List.length (List.take (Prod.fst z1) z4 ++ List.replicate z6 (List.map fV1 (Array.toList (Value.cells (Value.agg #[Value.int IntKind.i64 0, Value.int IntKind.i64 0, Value.string { data := #[] }, Value.slice none 0 0, Value.int IntKind.i64 0, Value.int IntKind.i64 0, Value.string { data := #[] }, Value.slice none 0 0])))) ++ List.drop (Prod.fst z1 + z6) z4)) ∧ E 42 ∧ E 8 ∧ List.take (Prod.fst z1) (List.take (Prod.fst z1) z4 ++ List.replicate z6 (List.map fV1 (Array.toList (Value.cells (Value.agg #[Value.int IntKind.i64 0, Value.int IntKind.i64 0, Value.string { data := #[] }, Value.slice none 0 0, Value.int IntKind.i64 0, Value.int IntKind.i64 0, Value.string { data := #[] }, Value.slice none 0 0])))) ++ List.drop (Prod.fst z1 + z6) z4) = cellsPs (List.take (Prod.fst z1) (Prod.snd z1))) get17 ent17 (by kernel_rfl) ?_
  refine ⟨?_, ⟨rfl, ⟨rfl, rfl, ?_, trivial⟩, ⟨rfl, trivial⟩, rfl, fun hi => ?_⟩, fun i => fun hi => ⟨?_, rfl, ⟨?_, ?_⟩, ?_, ⟨?_, ?_⟩, ?_, ?_, rfl, rfl, ⟨rfl, rfl, ?_, trivial⟩, ⟨rfl, trivial⟩, rfl, fun hi => ?_⟩, ?_, rfl, ⟨?_, ?_⟩, ?_, ⟨?_, ?_⟩, ?_, ?_, rfl, ⟨?_, ?_⟩, ⟨rfl, ⟨rfl, rfl, ?_, ?_, ?_, trivial⟩, ⟨?_, trivial⟩, rfl, fun hi => ?_⟩, fun i => fun hi => ⟨?_, rfl, ⟨?_, ?_⟩, ?_, ⟨?_, ?_⟩, ?_, ?_, fun hi => ⟨⟨?_, ?_⟩, ?_, ⟨?_, ?_⟩, ?_, rfl, ⟨rfl, rfl, ?_, rfl, ?_, trivial⟩, ⟨?_, trivial⟩, rfl, fun hi => ?_⟩, fun hi => ⟨rfl, ⟨rfl, rfl, ?_, rfl, ?_, trivial⟩, ⟨?_, trivial⟩, rfl, fun hi => ?_⟩⟩, ?_, ⟨?_, ?_⟩, ⟨?_, ?_, ?_⟩, ⟨?_, ?_⟩, rfl, rfl, ?_⟩
  all_goals first | exact rfl | omega | (rw [wrapS _ (by omega) (by omega)]; omega) | (simp only [cellsPs_length, decide_eq_true_eq, decide_eq_false_iff_not]; omega) | (rw [wrapS _ (by omega) (by omega)]; simp only [cellsPs_length]; omega) | exact coElq l _ _ (by first | omega | (rw [wrapS _ (by omega) (by omega)]; omega)) (by omega) | exact coEl2q l _ _ _ ((coR_factsq (q := q) (l := l) (N := N) (by omega) i (by omega)).2.2.2 _ (by omega)) (by first | omega | (rw [wrapS _ (by omega) (by omega)]; omega)) (by rw [(coR_factsq (q := q) (l := l) (N := N) (by omega) i (by omega)).1]; omega) | (have h3 := hc i (by omega); rw [hq i hi] at h3; exact h3) | (have h3 := hc N (by omega); rw [h2] at h3; exact h3) | exact hc (N + 1 + i) (by omega) | (exact congrArg (fun x => AV.f (int x)) (by rw [wrapS _ (by omega) (by omega)]; omega)) | (simp only [cellsPs_length, Int.toNat_natCast]; done) | (have hF := coR_factsq (q := q) (l := l) (N := N) (by omega) i (by omega); simp only [cellsPs_length, hF.1]; omega) | (have hF := coR_factsq (q := q) (l := l) (N := N) (by omega) (l.length - N - 2) (by omega); simp only [cellsPs_length, hF.1]; omega) | (have hF := coR_factsq (q := q) (l := l) (N := N) (by omega) i (by omega); simp only [coRq]; rw [if_neg (by simpa using hi)]; exact congrArg (fun x => AV.f (int x)) (by rw [wrapS _ (by omega) (by omega)]; omega)) | (simp only [coRq]; rw [if_neg (by simpa using hi)]; exact congrArg (Ob.row 8 42) (cellsPs_set _ _ _)) | (simp only [coRq]; rw [if_pos (by simpa using hi)]) | (intro x hx; simp at hx; rcases hx with rfl | rfl | rfl | rfl | rfl | rfl | rfl | rfl <;> rfl) | (have hF := coR_factsq (q := q) (l := l) (N := N) (by omega) (l.length - N - 2) (by omega); rw [List.length_append, List.length_append, List.length_take, cellsPs_length, hF.1]; omega) | (have hF := coR_factsq (q := q) (l := l) (N := N) (by omega) (l.length - N - 2) (by omega); rw [take_front _ _ _ _ (by rw [cellsPs_length, hF.1]; omega)]; exact cellsPs_take _ _)
theorem compact_okq {g : Gr} (q : V × V → V × V → Bool) (f : Nat) (l : List (V × V)) (hl : l.length ≤ 1152921504606846976) (hc : ∀ i, i + 1 < l.length → CallsF P g f [encQ (l.getD (i + 1) default), encQ (l.getD i default)] (bool (q (l.getD (i + 1) default) (l.getD i default)))) :
    CallsW P g 17 42 8 (cellsPs l) [.fn f [] []] (cellsPs (compq q l)) none := by
  by_cases hn : l.length < 2
  · have : compq q l = l := by
      match l, hn with
      | [], _ => rfl
      | [x], _ => rfl
      | _ :: _ :: _, h => simp at h; omega
    rw [this]; exact compact_shortq f l hn
  · obtain ⟨N, h1, h2⟩ := exists_least (fun i => i + 1 = l.length ∨ (i + 1 < l.length ∧ q (l.getD (i + 1) default) (l.getD i default) = true)) ⟨l.length - 1, .inl (by omega)⟩
    have hN : N + 1 ≤ l.length := by rcases h1 with h | h <;> omega
    have hq : ∀ i, i < N → q (l.getD (i + 1) default) (l.getD i default) = false := fun i hi => by
      cases h : q (l.getD (i + 1) default) (l.getD i default) with
      | false => rfl
      | true => have := h2 i (.inr ⟨by omega, h⟩); omega
    rcases h1 with h1 | ⟨h1, h3⟩
    · rw [comp_idq hq h1]; exact compact_allq q f l N hl (by omega) hN hq hc h1
    · rw [← comp_endq hq h1 h3]; exact compact_someq q f l N hl (by omega) hN hq hc h1 h3
end Go.Sx
set_option maxRecDepth 100000
set_option maxHeartbeats 4000000
set_option linter.unusedSimpArgs false
set_option linter.unusedVariables false
namespace Go.Sx
open Go.Proofs Sp
theorem get11 : P.funcs[11]? = some Tryd.f11 := by kernel_rfl
theorem ent11 : entersP P 11 = true := by kernel_rfl
theorem vpaired_long (l : List (V × V)) (h : 65536 < l.length) : CallsF P G 11 [encPs l] (int 2) := by
  refine sx_fn (hs := [.br [] []]) ((((decide ((↑(List.length (cellsPs l)) : Int) > 65536)) = (true)) → (E (int 2))) ∧ (((decide ((↑(List.length (cellsPs l)) : Int) > 65536)) = (false)) → (False))) get11 ent11 (by kernel_rfl) ?_
  refine ⟨fun hi => rfl, fun hi => ?_⟩
  all_goals (exfalso; simp only [cellsPs_length, decide_eq_true_eq, decide_eq_false_iff_not] at *; omega)
theorem vpaired_all (l : List (V × V)) (N : Nat) (hl : l.length ≤ 65536) (hN : N ≤ l.length) (hf : ∀ p, p ∈ l → Fine p.1 ∧ Fine p.2) (hk : ∀ i, i < N → rightB (l.getD i default).1 = true ∧ rightB (l.getD i default).2 = true) (h3 : N = l.length) : CallsF P G 11 [encPs l] (int 0) := by
  refine sx_fn (hs := let z1 := List.getD l N default; [.br [] [.loop [] [] (Spd l) (N) (fun i => [.br [.el (cellsP (Prod.fst (List.getD l i default)) ++ cellsP (Prod.snd (List.getD l i default))), .call (bool (rightB (Prod.fst (List.getD l i default)))), .br [.dec true] [.call (bool (rightB (Prod.snd (List.getD l i default)))), .br [] []]] []]), .br [.el (cellsP (Prod.fst z1) ++ cellsP (Prod.snd z1)), .call (bool (rightB (Prod.fst z1))), .br [.dec true] [.call (bool (rightB (Prod.snd z1))), .br [] []]] []]]) (let z1 := List.getD l N default; let z2 := (↑(List.length (cellsPs l)) : Int); Br (decide (z2 > 65536)) (int 2 = int 0) ((E true ∧ (E (AV.f (FV.sl 8 (cellsPs l))) ∧ E (AV.f (int z2)) ∧ AV.f (int 0) = AV.f (int (Int.ofNat 0)) ∧ True) ∧ True ∧ E true ∧ (false = true → false = true)) ∧ (∀ (i : Nat), (let z3 := List.getD l i default; i < N → Br (decide ((i : Int) < z2)) ((E 8 ∧ (0 : Int) ≤ (i : Int) ∧ (cellsPs l)[i]? = some (int (V.kind (Prod.fst z3)) :: int (V.num (Prod.fst z3)) :: str (V.text (Prod.fst z3)) :: encI (V.items (Prod.fst z3)) :: cellsP (Prod.snd z3))) ∧ CallsF P G 24 [encV (Prod.fst z3)] (bool (rightB (Prod.fst z3))) ∧ Br (!rightB (Prod.fst z3)) (E true ∧ False) (CallsF P G 24 [encV (Prod.snd z3)] (bool (rightB (Prod.snd z3))) ∧ Br (!rightB (Prod.snd z3)) False (E true ∧ (E (AV.f (FV.sl 8 (cellsPs l))) ∧ E (AV.f (int z2)) ∧ AV.f (int (IntKind.wrap IntKind.i64 ((i : Int) + 1))) = AV.f (int (↑(i + 1) : Int)) ∧ True) ∧ True ∧ E true ∧ (St.nd (Spd l (i + 1)) = true → false = true)))) False)) ∧ Br (decide ((N : Int) < z2)) ((E 8 ∧ (0 : Int) ≤ (N : Int) ∧ (cellsPs l)[N]? = some (int (V.kind (Prod.fst z1)) :: int (V.num (Prod.fst z1)) :: str (V.text (Prod.fst z1)) :: encI (V.items (Prod.fst z1)) :: cellsP (Prod.snd z1))) ∧ CallsF P G 24 [encV (Prod.fst z1)] (bool (rightB (Prod.fst z1))) ∧ Br (!rightB (Prod.fst z1)) (E true ∧ int 3 = int 0) (CallsF P G 24 [encV (Prod.snd z1)] (bool (rightB (Prod.snd z1))) ∧ Br (!rightB (Prod.snd z1)) (int 3 = int 0) False)) (E (int 0)))) get11 ent11 (by kernel_rfl) ?_
  refine ⟨fun hi => ?_, fun hi => ⟨⟨rfl, ⟨rfl, rfl, ?_, trivial⟩, trivial, rfl, fun hi => ?_⟩, fun i => fun hlt => ⟨fun hi => ⟨⟨rfl, ?_, ?_⟩, ?_, fun hi => ⟨rfl, ?_⟩, fun hi => ⟨?_, fun hi => ?_, fun hi => ⟨rfl, ⟨rfl, rfl, ?_, trivial⟩, trivial, rfl, fun hi => ?_⟩⟩⟩, fun hi => ?_⟩, fun hi => ⟨⟨rfl, ?_, ?_⟩, ?_, fun hi => ⟨rfl, ?_⟩, fun hi => ⟨?_, fun hi => ?_, fun hi => ?_⟩⟩, fun hi => rfl⟩⟩
  all_goals first | (simp only [cellsPs_length, decide_eq_true_eq, decide_eq_false_iff_not] at *; omega) | exact cellsPs_get l _ (by omega) | exact right_ok _ (fineP hf (by omega)).1 | exact right_ok _ (fineP hf (by omega)).2 | (exact congrArg (fun x => AV.f (int x)) (wrapS ((i : Int) + 1) (by omega) (by omega))) | (exfalso; have h8 := hk i hlt; simp_all; done) | (simp_all; done) | assumption
theorem vpaired_not (l : List (V × V)) (N : Nat) (hl : l.length ≤ 65536) (hN : N ≤ l.length) (hf : ∀ p, p ∈ l → Fine p.1 ∧ Fine p.2) (hk : ∀ i, i < N → rightB (l.getD i default).1 = true ∧ rightB (l.getD i default).2 = true) (h3 : N < l.length) (h4 : ¬ (rightB (l.getD N default).1 = true ∧ rightB (l.getD N default).2 = true)) : CallsF P G 11 [encPs l] (int 3) := by
  refine sx_fn (hs := let z1 := List.getD l N default; [.br [] [.loop [] [] (Spd l) (N) (fun i => [.br [.el (cellsP (Prod.fst (List.getD l i default)) ++ cellsP (Prod.snd (List.getD l i default))), .call (bool (rightB (Prod.fst (List.getD l i default)))), .br [.dec true] [.call (bool (rightB (Prod.snd (List.getD l i default)))), .br [] []]] []]), .br [.el (cellsP (Prod.fst z1) ++ cellsP (Prod.snd z1)), .call (bool (rightB (Prod.fst z1))), .br [.dec true] [.call (bool (rightB (Prod.snd z1))), .br [] []]] []]]) (let z1 := List.getD l N default; let z2 := (↑(List.length (cellsPs l)) : Int); Br (decide (z2 > 65536)) (int 2 = int 3) ((E true ∧ (E (AV.f (FV.sl 8 (cellsPs l))) ∧ E (AV.f (int z2)) ∧ AV.f (int 0) = AV.f (int (Int.ofNat 0)) ∧ True) ∧ True ∧ E true ∧ (false = true → false = true)) ∧ (∀ (i : Nat), (let z3 := List.getD l i default; i < N → Br (decide ((i : Int) < z2)) ((E 8 ∧ (0 : Int) ≤ (i : Int) ∧ (cellsPs l)[i]? = some (int (V.kind (Prod.fst z3)) :: int (V.num (Prod.fst z3)) :: str (V.text (Prod.fst z3)) :: encI (V.items (Prod.fst z3)) :: cellsP (Prod.snd z3))) ∧ CallsF P G 24 [encV (Prod.fst z3)] (bool (rightB (Prod.fst z3))) ∧ Br (!rightB (Prod.fst z3)) (E true ∧ False) (CallsF P G 24 [encV (Prod.snd z3)] (bool (rightB (Prod.snd z3))) ∧ Br (!rightB (Prod.snd z3)) False (E true ∧ (E (AV.f (FV.sl 8 (cellsPs l))) ∧ E (AV.f (int z2)) ∧ AV.f (int (IntKind.wrap IntKind.i64 ((i : Int) + 1))) = AV.f (int (↑(i + 1) : Int)) ∧ True) ∧ True ∧ E true ∧ (St.nd (Spd l (i + 1)) = true → false = true)))) False)) ∧ Br (decide ((N : Int) < z2)) ((E 8 ∧ (0 : Int) ≤ (N : Int) ∧ (cellsPs l)[N]? = some (int (V.kind (Prod.fst z1)) :: int (V.num (Prod.fst z1)) :: str (V.text (Prod.fst z1)) :: encI (V.items (Prod.fst z1)) :: cellsP (Prod.snd z1))) ∧ CallsF P G 24 [encV (Prod.fst z1)] (bool (rightB (Prod.fst z1))) ∧ Br (!rightB (Prod.fst z1)) (E true ∧ E (int 3)) (CallsF P G 24 [encV (Prod.snd z1)] (bool (rightB (Prod.snd z1))) ∧ Br (!rightB (Prod.snd z1)) (E (int 3)) False)) (int 0 = int 3))) get11 ent11 (by kernel_rfl) ?_
  refine ⟨fun hi => ?_, fun hi => ⟨⟨rfl, ⟨rfl, rfl, ?_, trivial⟩, trivial, rfl, fun hi => ?_⟩, fun i => fun hlt => ⟨fun hi => ⟨⟨rfl, ?_, ?_⟩, ?_, fun hi => ⟨rfl, ?_⟩, fun hi => ⟨?_, fun hi => ?_, fun hi => ⟨rfl, ⟨rfl, rfl, ?_, trivial⟩, trivial, rfl, fun hi => ?_⟩⟩⟩, fun hi => ?_⟩, fun hi => ⟨⟨rfl, ?_, ?_⟩, ?_, fun hi => ⟨rfl, rfl⟩, fun hi => ⟨?_, fun hi => rfl, fun hi => ?_⟩⟩, fun hi => ?_⟩⟩
  all_goals first | (simp only [cellsPs_length, decide_eq_true_eq, decide_eq_false_iff_not] at *; omega) | exact cellsPs_get l _ (by omega) | exact right_ok _ (fineP hf (by omega)).1 | exact right_ok _ (fineP hf (by omega)).2 | (exact congrArg (fun x => AV.f (int x)) (wrapS ((i : Int) + 1) (by omega) (by omega))) | (exfalso; have h8 := hk i hlt; simp_all; done) | (exfalso; simp_all; done) | (simp_all; done) | assumption
theorem get12 : P.funcs[12]? = some Tryd.f12 := by kernel_rfl
theorem ent12 : entersP P 12 = true := by kernel_rfl
theorem cloneq_ok (l : List (V × V)) (hl : l.length ≤ 1000000) : CallsO P G 12 [encPs l] 42 8 (cellsPs l) := by
  refine sx_fnO (hs := [.br [] []]) (∀ (b : Bool), (cellsPs l ≠ [] → b = false) → Br (b == true) (cellsPs l = []) ((oneF (cellsPs l) ∧ 0 + List.length (cellsPs l) ≤ maxLen ∧ (0 + List.length (cellsPs l)) * 112 ≤ 140737488355328 ∧ E false) ∧ E 42 ∧ E 8 ∧ (chunk (TypeInfo.size (Tables.types (Program.toTables P))[42]) 0 [] ++ cellsPs l) = cellsPs l)) get12 ent12 (by kernel_rfl) ?_
  refine fun b => fun hi => ⟨fun hi => ?_, fun hi => ⟨⟨?_, ?_, ?_, rfl⟩, rfl, rfl, ?_⟩⟩
  all_goals first | exact oneF_cellsPs l | (rw [cellsPs_length]; simp only [maxLen]; omega) | (rw [cellsPs_length]; omega) | exact rfl | (simp_all [V.kind, V.num, V.text, V.items]; done)
/-- What is wrong with a list of pairs. -/
noncomputable def pairL (l : List (V × V)) : Int := if 65536 < l.length then 2 else if l.all (fun p => rightB p.1 && rightB p.2) then 0 else 3
/-- A map's pairs: sorted by their keys, of several of one key the last. -/
noncomputable def mapL (l : List (V × V)) : List (V × V) := compq (fun p q : V × V => cmpV p.1 q.1 == 0) (Sp.Sy.srt (fun p q : V × V => cmpV p.1 q.1) l.reverse)
/-- Keys and values in turn. -/
def itemsL : List (V × V) → List V
  | [] => []
  | p :: l => p.1 :: p.2 :: itemsL l
open Sp.Sy
theorem pairL_zero {l : List (V × V)} (h : pairL l = 0) : l.length ≤ 65536 ∧ ∀ p, p ∈ l → rightB p.1 = true ∧ rightB p.2 = true := by
  unfold pairL at h
  split at h
  · omega
  · split at h
    · rename_i h1 h2
      exact ⟨by omega, fun p hp => by simpa using List.all_eq_true.1 h2 p hp⟩
    · omega
theorem pairL_gen {g : Nat} (l : List (V × V)) (h1 : 65536 < l.length → CallsF P G g [encPs l] (int 2)) (h2 : ∀ N, l.length ≤ 65536 → N = l.length → (∀ i, i < N → rightB (l.getD i default).1 = true ∧ rightB (l.getD i default).2 = true) → CallsF P G g [encPs l] (int 0))
    (h3 : ∀ N, l.length ≤ 65536 → N < l.length → (∀ i, i < N → rightB (l.getD i default).1 = true ∧ rightB (l.getD i default).2 = true) → ¬ (rightB (l.getD N default).1 = true ∧ rightB (l.getD N default).2 = true) → CallsF P G g [encPs l] (int 3)) : CallsF P G g [encPs l] (int (pairL l)) := by
  unfold pairL
  split
  · exact h1 (by assumption)
  · rename_i hl
    obtain ⟨N, q1, q2⟩ := exists_least (fun i => i = l.length ∨ (i < l.length ∧ ¬ (rightB (l.getD i default).1 = true ∧ rightB (l.getD i default).2 = true))) ⟨l.length, .inl rfl⟩
    have hN : N ≤ l.length := by rcases q1 with h | h <;> omega
    have hk : ∀ i, i < N → rightB (l.getD i default).1 = true ∧ rightB (l.getD i default).2 = true := fun i hi => Classical.byContradiction fun h => by have := q2 i (.inr ⟨by omega, h⟩); omega
    rcases q1 with q1 | ⟨q1, q3⟩
    · rw [if_pos]
      · exact h2 N (by omega) q1 hk
      · rw [List.all_eq_true]
        intro x hx
        obtain ⟨i, hi, rfl⟩ := List.getElem_of_mem hx
        have := hk i (by omega)
        rw [List.getD_eq_getElem?_getD, List.getElem?_eq_getElem hi] at this
        simpa using this
    · rw [if_neg]
      · exact h3 N (by omega) q1 hk q3
      · intro h
        rw [List.all_eq_true] at h
        exact q3 (by simpa using h _ (getD_mem q1))
theorem vpaired_ok (l : List (V × V)) (hf : ∀ p, p ∈ l → Fine p.1 ∧ Fine p.2) : CallsF P G 11 [encPs l] (int (pairL l)) :=
  pairL_gen l (vpaired_long l) (fun N hl hN hk => vpaired_all l N hl (by omega) hf hk hN) (fun N hl hN hk h => vpaired_not l N hl (by omega) hf hk hN h)
theorem rpaired_ok (l : List (V × V)) (hf : ∀ p, p ∈ l → Fine p.1 ∧ Fine p.2) : CallsF P G 21 [encPs l] (int (pairL l)) :=
  pairL_gen l (paired_long l) (fun N hl hN hk => paired_all l N hl (by omega) hf hk hN) (fun N hl hN hk h => paired_not l N hl (by omega) hf hk hN h)
theorem cpre : Pre (fun p q : V × V => cmpV p.1 q.1) where
  asym x y h := by have := cmpV_line.turn x.1 y.1 trivial trivial; omega
  trans x y z h1 h2 := by
    have t1 := cmpV_line.turn x.1 y.1 trivial trivial
    have t2 := cmpV_line.turn y.1 z.1 trivial trivial
    have t3 := cmpV_line.turn x.1 z.1 trivial trivial
    have := cmpV_line.le_trans x.1 y.1 z.1 trivial trivial trivial (by omega) (by omega)
    omega
theorem itemsL_app : ∀ a b : List (V × V), itemsL (a ++ b) = itemsL a ++ itemsL b
  | [], b => rfl
  | p :: a, b => by simp [itemsL, itemsL_app a b]
theorem itemsL_len : ∀ a : List (V × V), (itemsL a).length = 2 * a.length
  | [] => rfl
  | p :: a => by simp [itemsL, itemsL_len a]; omega
theorem itemsL_mem : ∀ (a : List (V × V)) (x : V), x ∈ itemsL a → ∃ p, p ∈ a ∧ (x = p.1 ∨ x = p.2)
  | [], x, h => by simp [itemsL] at h
  | p :: a, x, h => by
    simp only [itemsL, List.mem_cons] at h
    rcases h with h | h | h
    · exact ⟨p, by simp, .inl h⟩
    · exact ⟨p, by simp, .inr h⟩
    · obtain ⟨q, hq, h⟩ := itemsL_mem a x h
      exact ⟨q, by simp [hq], h⟩
theorem itemsL_step (l : List (V × V)) (i : Nat) (h : i < l.length) : cellsVs (itemsL (l.take i)) ++ [cellsP (l.getD i default).1, cellsP (l.getD i default).2] = cellsVs (itemsL (l.take (i + 1))) := by
  rw [take_one h, itemsL_app, cellsVs_app]
  simp [itemsL, cellsVs, cellsP_eq]
def Smp (M : List (V × V)) (i : Nat) : St := { sl := slots 41 [(2, .loc 0 0), (23, .lsl 1), (24, .f (int (M.length : Int))), (25, .f (int (i : Int))), (6, .lsl 2)], ob := [(0, .box [.f (int 0), .f (int 0), .f (str []), .f .nils]), (1, .row 8 42 (cellsPs M)), (2, .row 4 25 (cellsVs (itemsL (M.take i))))], nx := 3 }
theorem get4 : P.funcs[4]? = some Tryd.f4 := by kernel_rfl
theorem ent4 : entersP P 4 = true := by kernel_rfl
theorem map_bad (l : List (V × V)) (h : CallsF P G 11 [encPs l] (int (pairL l))) (h0 : pairL l ≠ 0) : CallsF P G 4 [encPs l] (.tup [.agg [int 0, int 0, str [], .nils], int (pairL l)]) := by
  refine sx_fn (hs := [.call (int (pairL l)), .dec true]) ((CallsF P G 11 [FV.sl 8 (cellsPs l)] (int (pairL l))) ∧ ((pairL l != 0) = (true)) ∧ E (FV.tup [FV.agg [int 0, int 0, str [], FV.nils], int (pairL l)])) get4 ent4 (by kernel_rfl) ?_
  refine ⟨?_, ⟨?_, rfl⟩⟩
  all_goals first | exact h | (simp [h0]; done)
theorem map_yes (l M : List (V × V)) (N : Nat) (h : CallsF P G 11 [encPs l] (int 0)) (hl : l.length ≤ 65536) (hN : N = M.length) (hM : M.length ≤ 65536) (hf : ∀ x, x ∈ l → Fine x.1 ∧ Fine x.2) (he : M = mapL l) (hm : CallsF P G 20 [int 6, encI (itemsL M)] (.tup [encV (.mk 6 0 [] (itemsL M)), int 0])) : CallsF P G 4 [encPs l] (.tup [encV (.mk 6 0 [] (itemsL M)), int 0]) := by
  refine sx_fn (hs := [.call (int 0), .dec false, .callO 42 8 (cellsPs l), .callW (cellsPs l.reverse) (some (.tup [])), .callW (cellsPs (Sp.Sy.srt (fun p q : V × V => cmpV p.1 q.1) l.reverse)) (some (.tup [])), .callW (cellsPs M) none, .pre [.nrow 6 4 25], .loop [(0,0),(2,1),(3,2)] [(0,0),(1,1),(5,2)] (Smp M) N (fun i => [.dec true, .el (cellsP (M.getD i default).1 ++ cellsP (M.getD i default).2)]), .dec false, .frz [2], .call (.tup [encV (.mk 6 0 [] (itemsL M)), int 0])]) (let z1 := (↑(List.length M) : Int); let z2 := Ob.box [AV.f (int 0), AV.f (int 0), AV.f (str []), AV.f FV.nils]; let z3 := FV.tup [FV.agg [int 6, int 0, str [], encI (itemsL M)], int 0]; CallsF P G 11 [FV.sl 8 (cellsPs l)] (int 0) ∧ E false ∧ CallsO P G 12 [FV.sl 8 (cellsPs l)] (42) (8) (cellsPs l) ∧ CallsW P G 13 (42) (8) (cellsPs l) ([]) (cellsPs (List.reverse l)) (some (FV.tup [])) ∧ CallsW P G 14 (42) (8) (cellsPs (List.reverse l)) ([FV.fn 15 [] []]) (cellsPs (Sy.srt (fun p q => cmpV (Prod.fst p) (Prod.fst q)) (List.reverse l))) (some (FV.tup [])) ∧ CallsW P G 17 (42) (8) (cellsPs (Sy.srt (fun p q => cmpV (Prod.fst p) (Prod.fst q)) (List.reverse l))) ([FV.fn 18 [] []]) (cellsPs M) (none) ∧ (E true ∧ (E (AV.loc 0 0) ∧ E (AV.lsl 2) ∧ E (AV.lsl 1) ∧ AV.f (int (↑(List.length (cellsPs M)) : Int)) = AV.f (int z1) ∧ AV.f (int 0) = AV.f (int (Int.ofNat 0)) ∧ True) ∧ (E z2 ∧ E (Ob.row 8 42 (cellsPs M)) ∧ E (Ob.row 4 25 []) ∧ True) ∧ E true ∧ (false = true → false = true)) ∧ (∀ (i : Nat), (let z6 := itemsL (List.take i M); let z7 := List.getD M i default; let z5 := Prod.fst z7; let z4 := int (V.kind z5) :: int (V.num z5) :: str (V.text z5) :: encI (V.items z5) :: cellsP (Prod.snd z7); i < N → decide ((i : Int) < z1) = true ∧ ((0 : Int) ≤ (i : Int) ∧ i < List.length (cellsPs M)) ∧ (cellsPs M)[i]? = some z4 ∧ (oneF ([cellsP z5, cellsP (Prod.snd z7)]) ∧ List.length (cellsVs z6) + List.length (chunk 4 2 z4) ≤ maxLen ∧ (List.length (cellsVs z6) + List.length (chunk 4 2 z4)) * 56 ≤ 140737488355328 ∧ E false) ∧ E true ∧ (E (AV.loc 0 0) ∧ E (AV.lsl 2) ∧ E (AV.lsl 1) ∧ E (AV.f (int z1)) ∧ AV.f (int (IntKind.wrap IntKind.i64 ((i : Int) + 1))) = AV.f (int (↑(i + 1) : Int)) ∧ True) ∧ (E z2 ∧ E (Ob.row 8 42 (cellsPs M)) ∧ Ob.row 4 25 (cellsVs z6 ++ chunk (TypeInfo.size (Tables.types (Program.toTables P))[25]) 2 z4) = Ob.row 4 25 (cellsVs (itemsL (List.take (i + 1) M))) ∧ True) ∧ E true ∧ (false = true → false = true))) ∧ decide ((N : Int) < z1) = false ∧ CallsF P G 20 [int 6, encI (itemsL (List.take N M))] z3 ∧ E z3) get4 ent4 (by kernel_rfl) ?_
  refine ⟨?_, rfl, ?_, ?_, ?_, ?_, ⟨rfl, ⟨rfl, rfl, rfl, ?_, ?_, trivial⟩, ⟨rfl, rfl, rfl, trivial⟩, rfl, fun hi => ?_⟩, fun i => fun hi => ⟨?_, ⟨?_, ?_⟩, ?_, ⟨?_, ?_, ?_, rfl⟩, rfl, ⟨rfl, rfl, rfl, rfl, ?_, trivial⟩, ⟨rfl, rfl, ?_, trivial⟩, rfl, fun hi => ?_⟩, ?_, ?_, rfl⟩
  all_goals first | exact h | exact cloneq_ok l (by omega) | exact reverse_ok l (by omega) | rfl | exact cellsPs_get M _ (by omega) | (simp only [cellsPs_length, decide_eq_true_eq, decide_eq_false_iff_not] at *; omega) | (exact congrArg (fun x => AV.f (int x)) (wrapS ((i : Int) + 1) (by omega) (by omega))) | exact congrArg (Ob.row 4 25) (itemsL_step M i (by omega)) | (exact sortst_ok (Ok := fun p : V × V => Fine p.1) cpre (fun p q hp _ => map1_ok p q hp) _ (by rw [List.length_reverse]; omega) (fun q hq => (hf q (by simpa using hq)).1)) | (rw [he]; exact compact_okq (fun p q : V × V => cmpV p.1 q.1 == 0) _ _ (by rw [Sp.Sy.srt_length, List.length_reverse]; omega) (fun i hi => map2_ok _ _ (hf _ (by have h9 := Sp.Sy.getD_mem hi; rw [Sp.Sy.srt_mem] at h9; simpa using h9)).1)) | (rw [cellsPs_length]; done) | (have h9 := oneF_cellsVs [(M.getD i default).1, (M.getD i default).2]; simpa only [cellsVs, cellsP_eq] using h9) | (simp only [cellsVs_length, itemsL_len, chunk, List.length_take, List.length_cons, List.length_nil, maxLen]; omega) | (rw [hN, List.take_length]; exact hm) | assumption | omega
theorem map_no (l M : List (V × V)) (N : Nat) (h : CallsF P G 11 [encPs l] (int 0)) (hl : l.length ≤ 65536) (hN : N = M.length) (hM : M.length ≤ 65536) (hf : ∀ x, x ∈ l → Fine x.1 ∧ Fine x.2) (he : M = mapL l) (hm : CallsF P G 20 [int 6, encI (itemsL M)] (.tup [.agg [int 0, int 0, str [], .nils], int 2])) : CallsF P G 4 [encPs l] (.tup [.agg [int 0, int 0, str [], .nils], int 2]) := by
  refine sx_fn (hs := [.call (int 0), .dec false, .callO 42 8 (cellsPs l), .callW (cellsPs l.reverse) (some (.tup [])), .callW (cellsPs (Sp.Sy.srt (fun p q : V × V => cmpV p.1 q.1) l.reverse)) (some (.tup [])), .callW (cellsPs M) none, .pre [.nrow 6 4 25], .loop [(0,0),(2,1),(3,2)] [(0,0),(1,1),(5,2)] (Smp M) N (fun i => [.dec true, .el (cellsP (M.getD i default).1 ++ cellsP (M.getD i default).2)]), .dec false, .frz [2], .call (.tup [.agg [int 0, int 0, str [], .nils], int 2])]) (let z1 := (↑(List.length M) : Int); let z2 := Ob.box [AV.f (int 0), AV.f (int 0), AV.f (str []), AV.f FV.nils]; let z3 := FV.tup [FV.agg [int 0, int 0, str [], FV.nils], int 2]; CallsF P G 11 [FV.sl 8 (cellsPs l)] (int 0) ∧ E false ∧ CallsO P G 12 [FV.sl 8 (cellsPs l)] (42) (8) (cellsPs l) ∧ CallsW P G 13 (42) (8) (cellsPs l) ([]) (cellsPs (List.reverse l)) (some (FV.tup [])) ∧ CallsW P G 14 (42) (8) (cellsPs (List.reverse l)) ([FV.fn 15 [] []]) (cellsPs (Sy.srt (fun p q => cmpV (Prod.fst p) (Prod.fst q)) (List.reverse l))) (some (FV.tup [])) ∧ CallsW P G 17 (42) (8) (cellsPs (Sy.srt (fun p q => cmpV (Prod.fst p) (Prod.fst q)) (List.reverse l))) ([FV.fn 18 [] []]) (cellsPs M) (none) ∧ (E true ∧ (E (AV.loc 0 0) ∧ E (AV.lsl 2) ∧ E (AV.lsl 1) ∧ AV.f (int (↑(List.length (cellsPs M)) : Int)) = AV.f (int z1) ∧ AV.f (int 0) = AV.f (int (Int.ofNat 0)) ∧ True) ∧ (E z2 ∧ E (Ob.row 8 42 (cellsPs M)) ∧ E (Ob.row 4 25 []) ∧ True) ∧ E true ∧ (false = true → false = true)) ∧ (∀ (i : Nat), (let z6 := itemsL (List.take i M); let z7 := List.getD M i default; let z5 := Prod.fst z7; let z4 := int (V.kind z5) :: int (V.num z5) :: str (V.text z5) :: encI (V.items z5) :: cellsP (Prod.snd z7); i < N → decide ((i : Int) < z1) = true ∧ ((0 : Int) ≤ (i : Int) ∧ i < List.length (cellsPs M)) ∧ (cellsPs M)[i]? = some z4 ∧ (oneF ([cellsP z5, cellsP (Prod.snd z7)]) ∧ List.length (cellsVs z6) + List.length (chunk 4 2 z4) ≤ maxLen ∧ (List.length (cellsVs z6) + List.length (chunk 4 2 z4)) * 56 ≤ 140737488355328 ∧ E false) ∧ E true ∧ (E (AV.loc 0 0) ∧ E (AV.lsl 2) ∧ E (AV.lsl 1) ∧ E (AV.f (int z1)) ∧ AV.f (int (IntKind.wrap IntKind.i64 ((i : Int) + 1))) = AV.f (int (↑(i + 1) : Int)) ∧ True) ∧ (E z2 ∧ E (Ob.row 8 42 (cellsPs M)) ∧ Ob.row 4 25 (cellsVs z6 ++ chunk (TypeInfo.size (Tables.types (Program.toTables P))[25]) 2 z4) = Ob.row 4 25 (cellsVs (itemsL (List.take (i + 1) M))) ∧ True) ∧ E true ∧ (false = true → false = true))) ∧ decide ((N : Int) < z1) = false ∧ CallsF P G 20 [int 6, encI (itemsL (List.take N M))] z3 ∧ E z3) get4 ent4 (by kernel_rfl) ?_
  refine ⟨?_, rfl, ?_, ?_, ?_, ?_, ⟨rfl, ⟨rfl, rfl, rfl, ?_, ?_, trivial⟩, ⟨rfl, rfl, rfl, trivial⟩, rfl, fun hi => ?_⟩, fun i => fun hi => ⟨?_, ⟨?_, ?_⟩, ?_, ⟨?_, ?_, ?_, rfl⟩, rfl, ⟨rfl, rfl, rfl, rfl, ?_, trivial⟩, ⟨rfl, rfl, ?_, trivial⟩, rfl, fun hi => ?_⟩, ?_, ?_, rfl⟩
  all_goals first | exact h | exact cloneq_ok l (by omega) | exact reverse_ok l (by omega) | rfl | exact cellsPs_get M _ (by omega) | (simp only [cellsPs_length, decide_eq_true_eq, decide_eq_false_iff_not] at *; omega) | (exact congrArg (fun x => AV.f (int x)) (wrapS ((i : Int) + 1) (by omega) (by omega))) | exact congrArg (Ob.row 4 25) (itemsL_step M i (by omega)) | (exact sortst_ok (Ok := fun p : V × V => Fine p.1) cpre (fun p q hp _ => map1_ok p q hp) _ (by rw [List.length_reverse]; omega) (fun q hq => (hf q (by simpa using hq)).1)) | (rw [he]; exact compact_okq (fun p q : V × V => cmpV p.1 q.1 == 0) _ _ (by rw [Sp.Sy.srt_length, List.length_reverse]; omega) (fun i hi => map2_ok _ _ (hf _ (by have h9 := Sp.Sy.getD_mem hi; rw [Sp.Sy.srt_mem] at h9; simpa using h9)).1)) | (rw [cellsPs_length]; done) | (have h9 := oneF_cellsVs [(M.getD i default).1, (M.getD i default).2]; simpa only [cellsVs, cellsP_eq] using h9) | (simp only [cellsVs_length, itemsL_len, chunk, List.length_take, List.length_cons, List.length_nil, maxLen]; omega) | (rw [hN, List.take_length]; exact hm) | assumption | omega
end Go.Sx

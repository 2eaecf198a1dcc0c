/-
  Proved: what some functions of the program answer, or a law of the evaluator that shows it, one theorem each; its conditions are the hypotheses that stand ahead of it.
-/
import Derived.Test.YtgbkobkiomeokaaGreatDoorWC
import Derived.Test.YtgbkobkiomeokaaGreatDoorD6
import Derived.Test.YtgbkobkiomeokaaGreatDoorM5
import Derived.KernelRfl
import Derived.Test.YtgbkobkiomeokaaGreatDoorB5
import Derived.Test.YtgbkobkiomeokaaGreatDoorD3
import Derived.Test.YtgbkobkiomeokaaGreatDoorN1
import Derived.Test.YtgbkobkiomeokaaGreatDoorGY
set_option maxRecDepth 100000
set_option maxHeartbeats 4000000
set_option linter.unusedSimpArgs false
set_option linter.unusedVariables false
namespace Go.Sx
open Go.Proofs Sp
open Sp.Sy
/-- slices.CompactFunc: those that are not like the one ahead of them. -/
def compFq (q : V × V → V × V → Bool) : V × V → List (V × V) → List (V × V)
  | _, [] => []
  | p, y :: l => if q y p then compFq q y l else y :: compFq q y l
def compq (q : V × V → V × V → Bool) : List (V × V) → List (V × V)
  | [] => []
  | x :: l => x :: compFq q x l
/-- Where the next one goes, and the row, behind j steps of the inner loop; the first two that are alike lie at N and N + 1. -/
def coRq (q : V × V → V × V → Bool) (l : List (V × V)) (N : Nat) : Nat → Nat × List (V × V)
  | 0 => (N + 1, l)
  | j + 1 => if q (l.getD (N + 1 + (j + 1)) default) (l.getD (N + 1 + j) default) then coRq q l N j else ((coRq q l N j).1 + 1, (coRq q l N j).2.set (coRq q l N j).1 (l.getD (N + 1 + (j + 1)) default))
def ScoOq (f : Nat) (l : List (V × V)) (i : Nat) : St := { sl := slots 66 [(0, .lsl 0), (1, .f (.fn f [] [])), (5, .f (int ((i + 1 : Nat) : Int)))], ob := [(0, .row 8 44 (cellsPs l))], nx := 1 }
def ScoIq (q : V × V → V × V → Bool) (f : Nat) (l : List (V × V)) (N j : Nat) : St := { sl := slots 66 [(0, .lsl 0), (1, .f (.fn f [] [])), (5, .f (int ((coRq q l N j).1 : Int))), (6, .lvw 0 8 (N + 1) (l.length - (N + 1))), (7, .f (int ((j + 1 : Nat) : Int)))], ob := [(0, .row 8 44 (cellsPs (coRq q l N j).2))], nx := 1 }
section
variable {q : V × V → V × V → Bool} {l : List (V × V)} {N : Nat}
theorem coR_factsq (hn : N + 1 < l.length) : ∀ j, N + 1 + j < l.length → (coRq q l N j).2.length = l.length ∧ N + 1 ≤ (coRq q l N j).1 ∧ (coRq q l N j).1 ≤ N + 1 + j ∧ ∀ i, N + 1 + j ≤ i → (coRq q l N j).2.getD i default = l.getD i default
  | 0, _ => ⟨rfl, by simp [coRq], by simp [coRq], fun i _ => rfl⟩
  | j + 1, h => by
    obtain ⟨h1, h2, h3, h4⟩ := coR_factsq hn j (by omega)
    simp only [coRq]
    split
    · exact ⟨h1, h2, by omega, fun i hi => h4 i (by omega)⟩
    · refine ⟨by simpa using h1, by simp only; omega, by simp only; omega, fun i hi => ?_⟩
      simp only
      rw [List.getD_eq_getElem?_getD, List.getElem?_set_ne (by omega), ← List.getD_eq_getElem?_getD]
      exact h4 i (by omega)
theorem comp_prefixq (hq : ∀ i, i < N → q (l.getD (i + 1) default) (l.getD i default) = false) : ∀ i, i ≤ N → i < l.length → compq q l = l.take (i + 1) ++ compFq q (l.getD i default) (l.drop (i + 1))
  | 0, _, h => by
    cases l with
    | nil => simp at h
    | cons x l => simp [compq]
  | i + 1, hi, h => by
    rw [comp_prefixq hq i (by omega) (by omega), drop_one (l := l) (i := (i + 1)) h]
    simp only [compFq]
    rw [hq i (by omega)]
    simp only [Bool.false_eq_true, if_false]
    rw [List.take_succ_eq_append_getElem h, List.append_assoc]
    simp only [List.getD_eq_getElem?_getD, List.getElem?_eq_getElem h, Option.getD_some, List.singleton_append]
theorem comp_idq (hq : ∀ i, i < N → q (l.getD (i + 1) default) (l.getD i default) = false) (h : N + 1 = l.length) : compq q l = l := by
  rw [comp_prefixq hq N (Nat.le_refl _) (by omega), List.drop_eq_nil_of_le (by omega), List.take_of_length_le (by omega)]
  simp [compFq]
theorem comp_coRq (hq : ∀ i, i < N → q (l.getD (i + 1) default) (l.getD i default) = false) (hn : N + 1 < l.length) (h2 : q (l.getD (N + 1) default) (l.getD N default) = true) :
    ∀ j, N + 1 + j < l.length → compq q l = (coRq q l N j).2.take (coRq q l N j).1 ++ compFq q (l.getD (N + 1 + j) default) (l.drop (N + 1 + j + 1))
  | 0, h => by
    rw [comp_prefixq hq N (Nat.le_refl _) (by omega), drop_one (l := l) (i := (N + 1)) h]
    simp only [compFq, h2, if_true, coRq, Nat.add_zero]
  | j + 1, h => by
    obtain ⟨f1, f2, f3, f4⟩ := coR_factsq (q := q) hn j (by omega)
    rw [comp_coRq hq hn h2 j (by omega), drop_one (l := l) (i := (N + 1 + j + 1)) (by omega)]
    simp only [compFq, coRq]
    rw [show N + 1 + (j + 1) = N + 1 + j + 1 from by omega]
    split
    · rfl
    · simp only
      have hlt : (coRq q l N j).1 < (coRq q l N j).2.length := by omega
      have : ((coRq q l N j).2.set (coRq q l N j).1 (l.getD (N + 1 + j + 1) default)).take ((coRq q l N j).1 + 1) = (coRq q l N j).2.take (coRq q l N j).1 ++ [l.getD (N + 1 + j + 1) default] := by
        rw [List.take_succ_eq_append_getElem (by simpa using hlt)]
        simp [List.take_set]
        rw [List.set_eq_of_length_le (by simp; omega)]
      rw [this]
      simp
theorem comp_endq (hq : ∀ i, i < N → q (l.getD (i + 1) default) (l.getD i default) = false) (hn : N + 1 < l.length) (h2 : q (l.getD (N + 1) default) (l.getD N default) = true) :
    (coRq q l N (l.length - N - 2)).2.take (coRq q l N (l.length - N - 2)).1 = compq q l := by
  rw [comp_coRq hq hn h2 (l.length - N - 2) (by omega), List.drop_eq_nil_of_le (by omega)]
  simp [compFq]
theorem coElq (l : List (V × V)) (i j : Nat) (h : i = j) (hj : j < l.length) : (cellsPs l)[i]? = some (cellsP (l.getD j default).1 ++ cellsP (l.getD j default).2) := by subst h; exact cellsPs_get l i hj
theorem coEl2q (l r : List (V × V)) (i j : Nat) (hr : r.getD j default = l.getD j default) (h : i = j) (hj : j < r.length) : (cellsPs r)[i]? = some (cellsP (l.getD j default).1 ++ cellsP (l.getD j default).2) := by rw [← hr]; exact coElq r i j h hj
end
theorem get54 : P.funcs[54]? = some Tryz.f54 := by kernel_rfl
theorem ent54 : entersP P 54 = true := by kernel_rfl
theorem compact_shortq {g : Gr} (f : Nat) (l : List (V × V)) (hl : l.length < 2) : CallsW P g 54 44 8 (cellsPs l) [.fn f [] []] (cellsPs l) none := by
  refine sx_fnW (hs := [.dec true]) (((decide ((↑(List.length (cellsPs l)) : Int) < 2)) = (true)) ∧ (E (44)) ∧ (E (8)) ∧ E (cellsPs l)) get54 ent54 (by kernel_rfl) ?_
  refine ⟨?_, ⟨rfl, ⟨rfl, rfl⟩⟩⟩
  all_goals (simp only [cellsPs_length, decide_eq_true_eq, decide_eq_false_iff_not]; omega)
theorem compact_allq {g : Gr} (q : V × V → V × V → Bool) (f : Nat) (l : List (V × V)) (N : Nat) (hl : l.length ≤ 1152921504606846976) (hn : 2 ≤ l.length) (hN : N + 1 ≤ l.length) (hq : ∀ i, i < N → q (l.getD (i + 1) default) (l.getD i default) = false) (hc : ∀ i, i + 1 < l.length → CallsF P g f [encQ (l.getD (i + 1) default), encQ (l.getD i default)] (bool (q (l.getD (i + 1) default) (l.getD i default)))) (h1 : N + 1 = l.length) : CallsW P g 54 44 8 (cellsPs l) [.fn f [] []] (cellsPs l) none := by
  refine sx_fnW (hs := [.dec false, .loop [(0,0)] [(0,0)] (ScoOq f l) N (fun i => [.dec true, .nat 11, .el (cellsP (l.getD (i + 1) default).1 ++ cellsP (l.getD (i + 1) default).2), .el (cellsP (l.getD (i) default).1 ++ cellsP (l.getD (i) default).2), .call (bool false), .dec false]), .dec false]) (let z1 := (↑(List.length (cellsPs l)) : Int); let z2 := E (Ob.row 8 44 (cellsPs l)) ∧ True; decide (z1 < 2) = false ∧ (E true ∧ (E (AV.lsl 0) ∧ E (AV.f (FV.fn f [] [])) ∧ AV.f (int 1) = AV.f (int (Int.ofNat (0 + 1))) ∧ True) ∧ z2 ∧ E true ∧ (false = true → false = true)) ∧ (∀ (i : Nat), (let z6 := Prod.fst (List.getD l i default); let z4 := int (V.kind z6) :: int (V.num z6) :: str (V.text z6) :: encI (V.items z6) :: cellsP (Prod.snd (List.getD l i default)); let z7 := IntKind.wrap IntKind.i64 ((↑(i + 1) : Int) - 1); let z8 := List.getD l (i + 1) default; let z5 := Prod.fst z8; let z3 := int (V.kind z5) :: int (V.num z5) :: str (V.text z5) :: encI (V.items z5) :: cellsP (Prod.snd z8); i < N → decide ((↑(i + 1) : Int) < z1) = true ∧ E true ∧ ((0 : Int) ≤ (↑(i + 1) : Int) ∧ i + 1 < List.length (cellsPs l)) ∧ (cellsPs l)[i + 1]? = some z3 ∧ ((0 : Int) ≤ IntKind.wrap IntKind.i64 ((↑(i + 1) : Int) - 1) ∧ Int.toNat z7 < List.length (cellsPs l)) ∧ (cellsPs l)[Int.toNat z7]? = some z4 ∧ CallsF P g f [FV.agg z3, FV.agg z4] (bool false) ∧ E false ∧ E true ∧ (E (AV.lsl 0) ∧ E (AV.f (FV.fn f [] [])) ∧ AV.f (int (IntKind.wrap IntKind.i64 ((↑(i + 1) : Int) + 1))) = AV.f (int (↑(i + 1 + 1) : Int)) ∧ True) ∧ z2 ∧ E true ∧ (false = true → false = true))) ∧ decide ((↑(N + 1) : Int) < z1) = false ∧ E 44 ∧ E 8 ∧ E (cellsPs l)) get54 ent54 (by kernel_rfl) ?_
  refine ⟨?_, ⟨rfl, ⟨rfl, rfl, ?_, trivial⟩, ⟨rfl, trivial⟩, rfl, fun hi => ?_⟩, fun i => fun hi => ⟨?_, rfl, ⟨?_, ?_⟩, ?_, ⟨?_, ?_⟩, ?_, ?_, rfl, rfl, ⟨rfl, rfl, ?_, trivial⟩, ⟨rfl, trivial⟩, rfl, fun hi => ?_⟩, ?_, rfl, rfl, rfl⟩
  all_goals first | exact rfl | omega | (rw [wrapS _ (by omega) (by omega)]; omega) | (simp only [cellsPs_length, decide_eq_true_eq, decide_eq_false_iff_not]; omega) | (rw [wrapS _ (by omega) (by omega)]; simp only [cellsPs_length]; omega) | exact coElq l _ _ (by first | omega | (rw [wrapS _ (by omega) (by omega)]; omega)) (by omega) | (have h3 := hc i (by omega); rw [hq i hi] at h3; exact h3) | (exact congrArg (fun x => AV.f (int x)) (by rw [wrapS _ (by omega) (by omega)]; omega))
theorem compact_someq {g : Gr} (q : V × V → V × V → Bool) (f : Nat) (l : List (V × V)) (N : Nat) (hl : l.length ≤ 1152921504606846976) (hn : 2 ≤ l.length) (hN : N + 1 ≤ l.length) (hq : ∀ i, i < N → q (l.getD (i + 1) default) (l.getD i default) = false) (hc : ∀ i, i + 1 < l.length → CallsF P g f [encQ (l.getD (i + 1) default), encQ (l.getD i default)] (bool (q (l.getD (i + 1) default) (l.getD i default)))) (h1 : N + 1 < l.length) (h2 : q (l.getD (N + 1) default) (l.getD N default) = true) : CallsW P g 54 44 8 (cellsPs l) [.fn f [] []] (cellsPs ((coRq q l N (l.length - N - 2)).2.take (coRq q l N (l.length - N - 2)).1)) none := by
  refine sx_fnW (hs := [.dec false, .loop [(0,0)] [(0,0)] (ScoOq f l) N (fun i => [.dec true, .nat 11, .el (cellsP (l.getD (i + 1) default).1 ++ cellsP (l.getD (i + 1) default).2), .el (cellsP (l.getD (i) default).1 ++ cellsP (l.getD (i) default).2), .call (bool false), .dec false]), .dec true, .nat 11, .el (cellsP (l.getD (N + 1) default).1 ++ cellsP (l.getD (N + 1) default).2), .el (cellsP (l.getD (N) default).1 ++ cellsP (l.getD (N) default).2), .call (bool true), .dec true, .own, .loop [(0,0)] [(0,0)] (ScoIq q f l N) (l.length - N - 2) (fun j => [.dec true, .nat 12, .el (cellsP (l.getD (N + 1 + (j + 1)) default).1 ++ cellsP (l.getD (N + 1 + (j + 1)) default).2), .el (cellsP (l.getD (N + 1 + j) default).1 ++ cellsP (l.getD (N + 1 + j) default).2), .call (bool (q (l.getD (N + 1 + (j + 1)) default) (l.getD (N + 1 + j) default))), .br [.el (cellsP (l.getD (N + 1 + (j + 1)) default).1 ++ cellsP (l.getD (N + 1 + (j + 1)) default).2)] []]), .dec false, .own, .own]) (let z1 := coRq q l N (List.length l - N - 2); let z4 := cellsPs (Prod.snd z1); let z6 := List.length z4 - Prod.fst z1; let z7 := Prod.fst (List.getD l N default); let z3 := int (V.kind z7) :: int (V.num z7) :: str (V.text z7) :: encI (V.items z7) :: cellsP (Prod.snd (List.getD l N default)); let z8 := List.length l - (N + 1); let z9 := AV.f (FV.fn f [] []); let z10 := (↑(List.length (cellsPs l)) : Int); let z11 := (0 : Int) ≤ (↑(N + 1) : Int) ∧ N + 1 < List.length (cellsPs l); let z12 := IntKind.wrap IntKind.i64 ((↑(N + 1) : Int) - 1); let z13 := E (Ob.row 8 44 (cellsPs l)) ∧ True; let z14 := List.getD l (N + 1) default; let z5 := Prod.fst z14; let z2 := int (V.kind z5) :: int (V.num z5) :: str (V.text z5) :: encI (V.items z5) :: cellsP (Prod.snd z14); decide (z10 < 2) = false ∧ (E true ∧ (E (AV.lsl 0) ∧ E z9 ∧ AV.f (int 1) = AV.f (int (Int.ofNat (0 + 1))) ∧ True) ∧ z13 ∧ E true ∧ (false = true → false = true)) ∧ (∀ (i : Nat), (let z18 := Prod.fst (List.getD l i default); let z16 := int (V.kind z18) :: int (V.num z18) :: str (V.text z18) :: encI (V.items z18) :: cellsP (Prod.snd (List.getD l i default)); let z19 := IntKind.wrap IntKind.i64 ((↑(i + 1) : Int) - 1); let z20 := List.getD l (i + 1) default; let z17 := Prod.fst z20; let z15 := int (V.kind z17) :: int (V.num z17) :: str (V.text z17) :: encI (V.items z17) :: cellsP (Prod.snd z20); i < N → decide ((↑(i + 1) : Int) < z10) = true ∧ E true ∧ ((0 : Int) ≤ (↑(i + 1) : Int) ∧ i + 1 < List.length (cellsPs l)) ∧ (cellsPs l)[i + 1]? = some z15 ∧ ((0 : Int) ≤ IntKind.wrap IntKind.i64 ((↑(i + 1) : Int) - 1) ∧ Int.toNat z19 < List.length (cellsPs l)) ∧ (cellsPs l)[Int.toNat z19]? = some z16 ∧ CallsF P g f [FV.agg z15, FV.agg z16] (bool false) ∧ E false ∧ E true ∧ (E (AV.lsl 0) ∧ E z9 ∧ AV.f (int (IntKind.wrap IntKind.i64 ((↑(i + 1) : Int) + 1))) = AV.f (int (↑(i + 1 + 1) : Int)) ∧ True) ∧ z13 ∧ E true ∧ (false = true → false = true))) ∧ decide ((↑(N + 1) : Int) < z10) = true ∧ E true ∧ z11 ∧ (cellsPs l)[N + 1]? = some z2 ∧ ((0 : Int) ≤ IntKind.wrap IntKind.i64 ((↑(N + 1) : Int) - 1) ∧ Int.toNat z12 < List.length (cellsPs l)) ∧ (cellsPs l)[Int.toNat z12]? = some z3 ∧ CallsF P g f [FV.agg z2, FV.agg z3] (bool true) ∧ E true ∧ z11 ∧ (E true ∧ (E (AV.lsl 0) ∧ E z9 ∧ AV.f (int (↑(N + 1) : Int)) = AV.f (int (↑(Prod.fst (coRq q l N 0)) : Int)) ∧ AV.lvw 0 8 (N + 1) (List.length (cellsPs l) - (N + 1)) = AV.lvw 0 8 (N + 1) z8 ∧ AV.f (int 1) = AV.f (int (Int.ofNat (0 + 1))) ∧ True) ∧ (Ob.row 8 44 (cellsPs l) = Ob.row 8 44 (cellsPs (Prod.snd (coRq q l N 0))) ∧ True) ∧ E true ∧ (false = true → false = true)) ∧ (∀ (i : Nat), (let z22 := List.getD l (N + 1 + i) default; let z23 := List.getD l (N + 1 + (i + 1)) default; let z21 := int (V.kind (Prod.fst z23)) :: int (V.num (Prod.fst z23)) :: str (V.text (Prod.fst z23)) :: encI (V.items (Prod.fst z23)) :: cellsP (Prod.snd z23); let z24 := cellsPs (Prod.snd (coRq q l N i)); let z25 := int (V.kind (Prod.fst z22)) :: int (V.num (Prod.fst z22)) :: str (V.text (Prod.fst z22)) :: encI (V.items (Prod.fst z22)) :: cellsP (Prod.snd z22); let z26 := Prod.fst (coRq q l N i); let z27 := (0 : Int) ≤ (↑(i + 1) : Int) ∧ i + 1 < List.length l - (N + 1); let z28 := int (IntKind.wrap IntKind.i64 ((↑(i + 1) : Int) + 1)); let z29 := IntKind.wrap IntKind.i64 ((↑(i + 1) : Int) - 1); let z30 := int (↑(Prod.fst (coRq q l N (i + 1))) : Int); let z31 := cellsPs (Prod.snd (coRq q l N (i + 1))); i < List.length l - N - 2 → decide ((↑(i + 1) : Int) < (↑z8 : Int)) = true ∧ E true ∧ z27 ∧ z24[N + 1 + (i + 1)]? = some z21 ∧ ((0 : Int) ≤ IntKind.wrap IntKind.i64 ((↑(i + 1) : Int) - 1) ∧ Int.toNat z29 < List.length l - (N + 1)) ∧ z24[N + 1 + Int.toNat z29]? = some z25 ∧ CallsF P g f [FV.agg z21, FV.agg z25] (bool (q z23 z22)) ∧ Br (!q z23 z22) (z27 ∧ z24[N + 1 + (i + 1)]? = some z21 ∧ ((0 : Int) ≤ (↑z26 : Int) ∧ Prod.fst (coRq q l N i) < List.length z24) ∧ Prod.fst (coRq q l N i) < List.length z24 ∧ E true ∧ (E (AV.lsl 0) ∧ E z9 ∧ AV.f (int (IntKind.wrap IntKind.i64 ((↑z26 : Int) + 1))) = AV.f z30 ∧ E (AV.lvw 0 8 (N + 1) z8) ∧ AV.f z28 = AV.f (int (↑(i + 1 + 1) : Int)) ∧ True) ∧ (Ob.row 8 44 (List.set z24 z26 z21) = Ob.row 8 44 z31 ∧ True) ∧ E true ∧ (false = true → false = true)) (E true ∧ (E (AV.lsl 0) ∧ E z9 ∧ AV.f (int (↑z26 : Int)) = AV.f z30 ∧ E (AV.lvw 0 8 (N + 1) z8) ∧ AV.f z28 = AV.f (int (↑(i + 1 + 1) : Int)) ∧ True) ∧ (Ob.row 8 44 z24 = Ob.row 8 44 z31 ∧ True) ∧ E true ∧ (false = true → false = true)))) ∧ decide ((↑(List.length l - N - 2 + 1) : Int) < (↑z8 : Int)) = false ∧ ((0 : Int) ≤ (↑(Prod.fst z1) : Int) ∧ Prod.fst z1 < List.length z4) ∧ (Prod.fst z1 + z6 ≤ List.length z4 ∧ (0 : Nat) < List.length z4 - Prod.fst z1 ∧ oneF ([[int 0, int 0, str [], FV.nils, int 0, int 0, str [], FV.nils]])) ∧ ((0 : Int) ≤ (↑(Prod.fst z1) : Int) ∧ Prod.fst z1 ≤ List.length (List.take (Prod.fst z1) z4 ++ List.replicate z6 (List.map fV1 (Array.toList (Value.cells (Value.agg #[Value.int IntKind.i64 0, Value.int IntKind.i64 0, Value.string { data := #[] }, Value.slice none 0 0, Value.int IntKind.i64 0, Value.int IntKind.i64 0, Value.string { data := #[] }, Value.slice none 0 0])))) ++ List.drop (Prod.fst z1 + z6) z4)) ∧ E 44 ∧ E 8 ∧ List.take (Prod.fst z1) (List.take (Prod.fst z1) z4 ++ List.replicate z6 (List.map fV1 (Array.toList (Value.cells (Value.agg #[Value.int IntKind.i64 0, Value.int IntKind.i64 0, Value.string { data := #[] }, Value.slice none 0 0, Value.int IntKind.i64 0, Value.int IntKind.i64 0, Value.string { data := #[] }, Value.slice none 0 0])))) ++ List.drop (Prod.fst z1 + z6) z4) = cellsPs (List.take (Prod.fst z1) (Prod.snd z1))) get54 ent54 (by kernel_rfl) ?_
  refine ⟨?_, ⟨rfl, ⟨rfl, rfl, ?_, trivial⟩, ⟨rfl, trivial⟩, rfl, fun hi => ?_⟩, fun i => fun hi => ⟨?_, rfl, ⟨?_, ?_⟩, ?_, ⟨?_, ?_⟩, ?_, ?_, rfl, rfl, ⟨rfl, rfl, ?_, trivial⟩, ⟨rfl, trivial⟩, rfl, fun hi => ?_⟩, ?_, rfl, ⟨?_, ?_⟩, ?_, ⟨?_, ?_⟩, ?_, ?_, rfl, ⟨?_, ?_⟩, ⟨rfl, ⟨rfl, rfl, ?_, ?_, ?_, trivial⟩, ⟨?_, trivial⟩, rfl, fun hi => ?_⟩, fun i => fun hi => ⟨?_, rfl, ⟨?_, ?_⟩, ?_, ⟨?_, ?_⟩, ?_, ?_, fun hi => ⟨⟨?_, ?_⟩, ?_, ⟨?_, ?_⟩, ?_, rfl, ⟨rfl, rfl, ?_, rfl, ?_, trivial⟩, ⟨?_, trivial⟩, rfl, fun hi => ?_⟩, fun hi => ⟨rfl, ⟨rfl, rfl, ?_, rfl, ?_, trivial⟩, ⟨?_, trivial⟩, rfl, fun hi => ?_⟩⟩, ?_, ⟨?_, ?_⟩, ⟨?_, ?_, ?_⟩, ⟨?_, ?_⟩, rfl, rfl, ?_⟩
  all_goals first | exact rfl | omega | (rw [wrapS _ (by omega) (by omega)]; omega) | (simp only [cellsPs_length, decide_eq_true_eq, decide_eq_false_iff_not]; omega) | (rw [wrapS _ (by omega) (by omega)]; simp only [cellsPs_length]; omega) | exact coElq l _ _ (by first | omega | (rw [wrapS _ (by omega) (by omega)]; omega)) (by omega) | exact coEl2q l _ _ _ ((coR_factsq (q := q) (l := l) (N := N) (by omega) i (by omega)).2.2.2 _ (by omega)) (by first | omega | (rw [wrapS _ (by omega) (by omega)]; omega)) (by rw [(coR_factsq (q := q) (l := l) (N := N) (by omega) i (by omega)).1]; omega) | (have h3 := hc i (by omega); rw [hq i hi] at h3; exact h3) | (have h3 := hc N (by omega); rw [h2] at h3; exact h3) | exact hc (N + 1 + i) (by omega) | (exact congrArg (fun x => AV.f (int x)) (by rw [wrapS _ (by omega) (by omega)]; omega)) | (simp only [cellsPs_length, Int.toNat_natCast]; done) | (have hF := coR_factsq (q := q) (l := l) (N := N) (by omega) i (by omega); simp only [cellsPs_length, hF.1]; omega) | (have hF := coR_factsq (q := q) (l := l) (N := N) (by omega) (l.length - N - 2) (by omega); simp only [cellsPs_length, hF.1]; omega) | (have hF := coR_factsq (q := q) (l := l) (N := N) (by omega) i (by omega); simp only [coRq]; rw [if_neg (by simpa using hi)]; exact congrArg (fun x => AV.f (int x)) (by rw [wrapS _ (by omega) (by omega)]; omega)) | (simp only [coRq]; rw [if_neg (by simpa using hi)]; exact congrArg (Ob.row 8 44) (cellsPs_set _ _ _)) | (simp only [coRq]; rw [if_pos (by simpa using hi)]) | (intro x hx; simp at hx; rcases hx with rfl | rfl | rfl | rfl | rfl | rfl | rfl | rfl <;> rfl) | (have hF := coR_factsq (q := q) (l := l) (N := N) (by omega) (l.length - N - 2) (by omega); rw [List.length_append, List.length_append, List.length_take, cellsPs_length, hF.1]; omega) | (have hF := coR_factsq (q := q) (l := l) (N := N) (by omega) (l.length - N - 2) (by omega); rw [take_front _ _ _ _ (by rw [cellsPs_length, hF.1]; omega)]; exact cellsPs_take _ _)
theorem compact_okq {g : Gr} (q : V × V → V × V → Bool) (f : Nat) (l : List (V × V)) (hl : l.length ≤ 1152921504606846976) (hc : ∀ i, i + 1 < l.length → CallsF P g f [encQ (l.getD (i + 1) default), encQ (l.getD i default)] (bool (q (l.getD (i + 1) default) (l.getD i default)))) :
    CallsW P g 54 44 8 (cellsPs l) [.fn f [] []] (cellsPs (compq q l)) none := by
  by_cases hn : l.length < 2
  · have : compq q l = l := by
      match l, hn with
      | [], _ => rfl
      | [x], _ => rfl
      | _ :: _ :: _, h => simp at h; omega
    rw [this]; exact compact_shortq f l hn
  · obtain ⟨N, h1, h2⟩ := exists_least (fun i => i + 1 = l.length ∨ (i + 1 < l.length ∧ q (l.getD (i + 1) default) (l.getD i default) = true)) ⟨l.length - 1, .inl (by omega)⟩
    have hN : N + 1 ≤ l.length := by rcases h1 with h | h <;> omega
    have hq : ∀ i, i < N → q (l.getD (i + 1) default) (l.getD i default) = false := fun i hi => by
      cases h : q (l.getD (i + 1) default) (l.getD i default) with
      | false => rfl
      | true => have := h2 i (.inr ⟨by omega, h⟩); omega
    rcases h1 with h1 | ⟨h1, h3⟩
    · rw [comp_idq hq h1]; exact compact_allq q f l N hl (by omega) hN hq hc h1
    · rw [← comp_endq hq h1 h3]; exact compact_someq q f l N hl (by omega) hN hq hc h1 h3
end Go.Sx
set_option maxRecDepth 100000
set_option maxHeartbeats 4000000
set_option linter.unusedSimpArgs false
set_option linter.unusedVariables false
namespace Go.Sx
open Go.Proofs Sp
theorem get48 : P.funcs[48]? = some Tryz.f48 := by kernel_rfl
theorem ent48 : entersP P 48 = true := by kernel_rfl
theorem vpaired_long (l : List (V × V)) (h : 65536 < l.length) : CallsF P G 48 [encPs l] (int 2) := by
  refine sx_fn (hs := [.br [] []]) ((((decide ((↑(List.length (cellsPs l)) : Int) > 65536)) = (true)) → (E (int 2))) ∧ (((decide ((↑(List.length (cellsPs l)) : Int) > 65536)) = (false)) → (False))) get48 ent48 (by kernel_rfl) ?_
  refine ⟨fun hi => rfl, fun hi => ?_⟩
  all_goals (exfalso; simp only [cellsPs_length, decide_eq_true_eq, decide_eq_false_iff_not] at *; omega)
theorem vpaired_all (l : List (V × V)) (N : Nat) (hl : l.length ≤ 65536) (hN : N ≤ l.length) (hf : ∀ p, p ∈ l → Fine p.1 ∧ Fine p.2) (hk : ∀ i, i < N → rightB (l.getD i default).1 = true ∧ rightB (l.getD i default).2 = true) (h3 : N = l.length) : CallsF P G 48 [encPs l] (int 0) := by
  refine sx_fn (hs := let z1 := List.getD l N default; [.br [] [.loop [] [] (Spd l) (N) (fun i => [.br [.el (cellsP (Prod.fst (List.getD l i default)) ++ cellsP (Prod.snd (List.getD l i default))), .call (bool (rightB (Prod.fst (List.getD l i default)))), .br [.dec true] [.call (bool (rightB (Prod.snd (List.getD l i default)))), .br [] []]] []]), .br [.el (cellsP (Prod.fst z1) ++ cellsP (Prod.snd z1)), .call (bool (rightB (Prod.fst z1))), .br [.dec true] [.call (bool (rightB (Prod.snd z1))), .br [] []]] []]]) (let z1 := List.getD l N default; let z2 := (↑(List.length (cellsPs l)) : Int); Br (decide (z2 > 65536)) (int 2 = int 0) ((E true ∧ (E (AV.f (FV.sl 8 (cellsPs l))) ∧ E (AV.f (int z2)) ∧ AV.f (int 0) = AV.f (int (Int.ofNat 0)) ∧ True) ∧ True ∧ E true ∧ (false = true → false = true)) ∧ (∀ (i : Nat), (let z3 := List.getD l i default; i < N → Br (decide ((i : Int) < z2)) ((E 8 ∧ (0 : Int) ≤ (i : Int) ∧ (cellsPs l)[i]? = some (int (V.kind (Prod.fst z3)) :: int (V.num (Prod.fst z3)) :: str (V.text (Prod.fst z3)) :: encI (V.items (Prod.fst z3)) :: cellsP (Prod.snd z3))) ∧ CallsF P G 74 [encV (Prod.fst z3)] (bool (rightB (Prod.fst z3))) ∧ Br (!rightB (Prod.fst z3)) (E true ∧ False) (CallsF P G 74 [encV (Prod.snd z3)] (bool (rightB (Prod.snd z3))) ∧ Br (!rightB (Prod.snd z3)) False (E true ∧ (E (AV.f (FV.sl 8 (cellsPs l))) ∧ E (AV.f (int z2)) ∧ AV.f (int (IntKind.wrap IntKind.i64 ((i : Int) + 1))) = AV.f (int (↑(i + 1) : Int)) ∧ True) ∧ True ∧ E true ∧ (St.nd (Spd l (i + 1)) = true → false = true)))) False)) ∧ Br (decide ((N : Int) < z2)) ((E 8 ∧ (0 : Int) ≤ (N : Int) ∧ (cellsPs l)[N]? = some (int (V.kind (Prod.fst z1)) :: int (V.num (Prod.fst z1)) :: str (V.text (Prod.fst z1)) :: encI (V.items (Prod.fst z1)) :: cellsP (Prod.snd z1))) ∧ CallsF P G 74 [encV (Prod.fst z1)] (bool (rightB (Prod.fst z1))) ∧ Br (!rightB (Prod.fst z1)) (E true ∧ int 3 = int 0) (CallsF P G 74 [encV (Prod.snd z1)] (bool (rightB (Prod.snd z1))) ∧ Br (!rightB (Prod.snd z1)) (int 3 = int 0) False)) (E (int 0)))) get48 ent48 (by kernel_rfl) ?_
  refine ⟨fun hi => ?_, fun hi => ⟨⟨rfl, ⟨rfl, rfl, ?_, trivial⟩, trivial, rfl, fun hi => ?_⟩, fun i => fun hlt => ⟨fun hi => ⟨⟨rfl, ?_, ?_⟩, ?_, fun hi => ⟨rfl, ?_⟩, fun hi => ⟨?_, fun hi => ?_, fun hi => ⟨rfl, ⟨rfl, rfl, ?_, trivial⟩, trivial, rfl, fun hi => ?_⟩⟩⟩, fun hi => ?_⟩, fun hi => ⟨⟨rfl, ?_, ?_⟩, ?_, fun hi => ⟨rfl, ?_⟩, fun hi => ⟨?_, fun hi => ?_, fun hi => ?_⟩⟩, fun hi => rfl⟩⟩
  all_goals first | (simp only [cellsPs_length, decide_eq_true_eq, decide_eq_false_iff_not] at *; omega) | exact cellsPs_get l _ (by omega) | exact right_ok _ (fineP hf (by omega)).1 | exact right_ok _ (fineP hf (by omega)).2 | (exact congrArg (fun x => AV.f (int x)) (wrapS ((i : Int) + 1) (by omega) (by omega))) | (exfalso; have h8 := hk i hlt; simp_all; done) | (simp_all; done) | assumption
theorem vpaired_not (l : List (V × V)) (N : Nat) (hl : l.length ≤ 65536) (hN : N ≤ l.length) (hf : ∀ p, p ∈ l → Fine p.1 ∧ Fine p.2) (hk : ∀ i, i < N → rightB (l.getD i default).1 = true ∧ rightB (l.getD i default).2 = true) (h3 : N < l.length) (h4 : ¬ (rightB (l.getD N default).1 = true ∧ rightB (l.getD N default).2 = true)) : CallsF P G 48 [encPs l] (int 3) := by
  refine sx_fn (hs := let z1 := List.getD l N default; [.br [] [.loop [] [] (Spd l) (N) (fun i => [.br [.el (cellsP (Prod.fst (List.getD l i default)) ++ cellsP (Prod.snd (List.getD l i default))), .call (bool (rightB (Prod.fst (List.getD l i default)))), .br [.dec true] [.call (bool (rightB (Prod.snd (List.getD l i default)))), .br [] []]] []]), .br [.el (cellsP (Prod.fst z1) ++ cellsP (Prod.snd z1)), .call (bool (rightB (Prod.fst z1))), .br [.dec true] [.call (bool (rightB (Prod.snd z1))), .br [] []]] []]]) (let z1 := List.getD l N default; let z2 := (↑(List.length (cellsPs l)) : Int); Br (decide (z2 > 65536)) (int 2 = int 3) ((E true ∧ (E (AV.f (FV.sl 8 (cellsPs l))) ∧ E (AV.f (int z2)) ∧ AV.f (int 0) = AV.f (int (Int.ofNat 0)) ∧ True) ∧ True ∧ E true ∧ (false = true → false = true)) ∧ (∀ (i : Nat), (let z3 := List.getD l i default; i < N → Br (decide ((i : Int) < z2)) ((E 8 ∧ (0 : Int) ≤ (i : Int) ∧ (cellsPs l)[i]? = some (int (V.kind (Prod.fst z3)) :: int (V.num (Prod.fst z3)) :: str (V.text (Prod.fst z3)) :: encI (V.items (Prod.fst z3)) :: cellsP (Prod.snd z3))) ∧ CallsF P G 74 [encV (Prod.fst z3)] (bool (rightB (Prod.fst z3))) ∧ Br (!rightB (Prod.fst z3)) (E true ∧ False) (CallsF P G 74 [encV (Prod.snd z3)] (bool (rightB (Prod.snd z3))) ∧ Br (!rightB (Prod.snd z3)) False (E true ∧ (E (AV.f (FV.sl 8 (cellsPs l))) ∧ E (AV.f (int z2)) ∧ AV.f (int (IntKind.wrap IntKind.i64 ((i : Int) + 1))) = AV.f (int (↑(i + 1) : Int)) ∧ True) ∧ True ∧ E true ∧ (St.nd (Spd l (i + 1)) = true → false = true)))) False)) ∧ Br (decide ((N : Int) < z2)) ((E 8 ∧ (0 : Int) ≤ (N : Int) ∧ (cellsPs l)[N]? = some (int (V.kind (Prod.fst z1)) :: int (V.num (Prod.fst z1)) :: str (V.text (Prod.fst z1)) :: encI (V.items (Prod.fst z1)) :: cellsP (Prod.snd z1))) ∧ CallsF P G 74 [encV (Prod.fst z1)] (bool (rightB (Prod.fst z1))) ∧ Br (!rightB (Prod.fst z1)) (E true ∧ E (int 3)) (CallsF P G 74 [encV (Prod.snd z1)] (bool (rightB (Prod.snd z1))) ∧ Br (!rightB (Prod.snd z1)) (E (int 3)) False)) (int 0 = int 3))) get48 ent48 (by kernel_rfl) ?_
  refine ⟨fun hi => ?_, fun hi => ⟨⟨rfl, ⟨rfl, rfl, ?_, trivial⟩, trivial, rfl, fun hi => ?_⟩, fun i => fun hlt => ⟨fun hi => ⟨⟨rfl, ?_, ?_⟩, ?_, fun hi => ⟨rfl, ?_⟩, fun hi => ⟨?_, fun hi => ?_, fun hi => ⟨rfl, ⟨rfl, rfl, ?_, trivial⟩, trivial, rfl, fun hi => ?_⟩⟩⟩, fun hi => ?_⟩, fun hi => ⟨⟨rfl, ?_, ?_⟩, ?_, fun hi => ⟨rfl, rfl⟩, fun hi => ⟨?_, fun hi => rfl, fun hi => ?_⟩⟩, fun hi => ?_⟩⟩
  all_goals first | (simp only [cellsPs_length, decide_eq_true_eq, decide_eq_false_iff_not] at *; omega) | exact cellsPs_get l _ (by omega) | exact right_ok _ (fineP hf (by omega)).1 | exact right_ok _ (fineP hf (by omega)).2 | (exact congrArg (fun x => AV.f (int x)) (wrapS ((i : Int) + 1) (by omega) (by omega))) | (exfalso; have h8 := hk i hlt; simp_all; done) | (exfalso; simp_all; done) | (simp_all; done) | assumption
theorem cloneq_ok (l : List (V × V)) (hl : l.length ≤ 1000000) : CallsO P G 49 [encPs l] 44 8 (cellsPs l) := by
  refine sx_fnO (hs := [.br [] []]) (∀ (b : Bool), (cellsPs l ≠ [] → b = false) → Br (b == true) (cellsPs l = []) ((oneF (cellsPs l) ∧ 0 + List.length (cellsPs l) ≤ maxLen ∧ (0 + List.length (cellsPs l)) * 112 ≤ 140737488355328 ∧ E false) ∧ E 44 ∧ E 8 ∧ (chunk (TypeInfo.size (Tables.types (Program.toTables P))[44]) 0 [] ++ cellsPs l) = cellsPs l)) get49 ent49 (by kernel_rfl) ?_
  refine fun b => fun hi => ⟨fun hi => ?_, fun hi => ⟨⟨?_, ?_, ?_, rfl⟩, rfl, rfl, ?_⟩⟩
  all_goals first | exact oneF_cellsPs l | (rw [cellsPs_length]; simp only [maxLen]; omega) | (rw [cellsPs_length]; omega) | exact rfl | (simp_all [V.kind, V.num, V.text, V.items]; done)
/-- What is wrong with a list of pairs. -/
noncomputable def pairL (l : List (V × V)) : Int := if 65536 < l.length then 2 else if l.all (fun p => rightB p.1 && rightB p.2) then 0 else 3
/-- A map's pairs: sorted by their keys, of several of one key the last. -/
noncomputable def mapL (l : List (V × V)) : List (V × V) := compq (fun p q : V × V => cmpV p.1 q.1 == 0) (Sp.Sy.srt (fun p q : V × V => cmpV p.1 q.1) l.reverse)
/-- Keys and values in turn. -/
def itemsL : List (V × V) → List V
  | [] => []
  | p :: l => p.1 :: p.2 :: itemsL l
open Sp.Sy
theorem pairL_zero {l : List (V × V)} (h : pairL l = 0) : l.length ≤ 65536 ∧ ∀ p, p ∈ l → rightB p.1 = true ∧ rightB p.2 = true := by
  unfold pairL at h
  split at h
  · omega
  · split at h
    · rename_i h1 h2
      exact ⟨by omega, fun p hp => by simpa using List.all_eq_true.1 h2 p hp⟩
    · omega
theorem pairL_gen {g : Nat} (l : List (V × V)) (h1 : 65536 < l.length → CallsF P G g [encPs l] (int 2)) (h2 : ∀ N, l.length ≤ 65536 → N = l.length → (∀ i, i < N → rightB (l.getD i default).1 = true ∧ rightB (l.getD i default).2 = true) → CallsF P G g [encPs l] (int 0))
    (h3 : ∀ N, l.length ≤ 65536 → N < l.length → (∀ i, i < N → rightB (l.getD i default).1 = true ∧ rightB (l.getD i default).2 = true) → ¬ (rightB (l.getD N default).1 = true ∧ rightB (l.getD N default).2 = true) → CallsF P G g [encPs l] (int 3)) : CallsF P G g [encPs l] (int (pairL l)) := by
  unfold pairL
  split
  · exact h1 (by assumption)
  · rename_i hl
    obtain ⟨N, q1, q2⟩ := exists_least (fun i => i = l.length ∨ (i < l.length ∧ ¬ (rightB (l.getD i default).1 = true ∧ rightB (l.getD i default).2 = true))) ⟨l.length, .inl rfl⟩
    have hN : N ≤ l.length := by rcases q1 with h | h <;> omega
    have hk : ∀ i, i < N → rightB (l.getD i default).1 = true ∧ rightB (l.getD i default).2 = true := fun i hi => Classical.byContradiction fun h => by have := q2 i (.inr ⟨by omega, h⟩); omega
    rcases q1 with q1 | ⟨q1, q3⟩
    · rw [if_pos]
      · exact h2 N (by omega) q1 hk
      · rw [List.all_eq_true]
        intro x hx
        obtain ⟨i, hi, rfl⟩ := List.getElem_of_mem hx
        have := hk i (by omega)
        rw [List.getD_eq_getElem?_getD, List.getElem?_eq_getElem hi] at this
        simpa using this
    · rw [if_neg]
      · exact h3 N (by omega) q1 hk q3
      · intro h
        rw [List.all_eq_true] at h
        exact q3 (by simpa using h _ (getD_mem q1))
theorem vpaired_ok (l : List (V × V)) (hf : ∀ p, p ∈ l → Fine p.1 ∧ Fine p.2) : CallsF P G 48 [encPs l] (int (pairL l)) :=
  pairL_gen l (vpaired_long l) (fun N hl hN hk => vpaired_all l N hl (by omega) hf hk hN) (fun N hl hN hk h => vpaired_not l N hl (by omega) hf hk hN h)
theorem rpaired_ok (l : List (V × V)) (hf : ∀ p, p ∈ l → Fine p.1 ∧ Fine p.2) : CallsF P G 18 [encPs l] (int (pairL l)) :=
  pairL_gen l (paired_long l) (fun N hl hN hk => paired_all l N hl (by omega) hf hk hN) (fun N hl hN hk h => paired_not l N hl (by omega) hf hk hN h)
theorem cpre : Pre (fun p q : V × V => cmpV p.1 q.1) where
  asym x y h := by have := cmpV_line.turn x.1 y.1 trivial trivial; omega
  trans x y z h1 h2 := by
    have t1 := cmpV_line.turn x.1 y.1 trivial trivial
    have t2 := cmpV_line.turn y.1 z.1 trivial trivial
    have t3 := cmpV_line.turn x.1 z.1 trivial trivial
    have := cmpV_line.le_trans x.1 y.1 z.1 trivial trivial trivial (by omega) (by omega)
    omega
theorem itemsL_app : ∀ a b : List (V × V), itemsL (a ++ b) = itemsL a ++ itemsL b
  | [], b => rfl
  | p :: a, b => by simp [itemsL, itemsL_app a b]
theorem itemsL_len : ∀ a : List (V × V), (itemsL a).length = 2 * a.length
  | [] => rfl
  | p :: a => by simp [itemsL, itemsL_len a]; omega
theorem itemsL_mem : ∀ (a : List (V × V)) (x : V), x ∈ itemsL a → ∃ p, p ∈ a ∧ (x = p.1 ∨ x = p.2)
  | [], x, h => by simp [itemsL] at h
  | p :: a, x, h => by
    simp only [itemsL, List.mem_cons] at h
    rcases h with h | h | h
    · exact ⟨p, by simp, .inl h⟩
    · exact ⟨p, by simp, .inr h⟩
    · obtain ⟨q, hq, h⟩ := itemsL_mem a x h
      exact ⟨q, by simp [hq], h⟩
theorem itemsL_step (l : List (V × V)) (i : Nat) (h : i < l.length) : cellsVs (itemsL (l.take i)) ++ [cellsP (l.getD i default).1, cellsP (l.getD i default).2] = cellsVs (itemsL (l.take (i + 1))) := by
  rw [take_one h, itemsL_app, cellsVs_app]
  simp [itemsL, cellsVs, cellsP_eq]
def Smp (M : List (V × V)) (i : Nat) : St := { sl := slots 41 [(2, .loc 0 0), (23, .lsl 1), (24, .f (int (M.length : Int))), (25, .f (int (i : Int))), (6, .lsl 2)], ob := [(0, .box [.f (int 0), .f (int 0), .f (str []), .f .nils]), (1, .row 8 44 (cellsPs M)), (2, .row 4 34 (cellsVs (itemsL (M.take i))))], nx := 3 }
theorem get32 : P.funcs[32]? = some Tryz.f32 := by kernel_rfl
theorem ent32 : entersP P 32 = true := by kernel_rfl
theorem map_bad (l : List (V × V)) (h : CallsF P G 48 [encPs l] (int (pairL l))) (h0 : pairL l ≠ 0) : CallsF P G 32 [encPs l] (.tup [.agg [int 0, int 0, str [], .nils], int (pairL l)]) := by
  refine sx_fn (hs := [.call (int (pairL l)), .dec true]) ((CallsF P G 48 [FV.sl 8 (cellsPs l)] (int (pairL l))) ∧ ((pairL l != 0) = (true)) ∧ E (FV.tup [FV.agg [int 0, int 0, str [], FV.nils], int (pairL l)])) get32 ent32 (by kernel_rfl) ?_
  refine ⟨?_, ⟨?_, rfl⟩⟩
  all_goals first | exact h | (simp [h0]; done)
theorem map_yes (l M : List (V × V)) (N : Nat) (h : CallsF P G 48 [encPs l] (int 0)) (hl : l.length ≤ 65536) (hN : N = M.length) (hM : M.length ≤ 65536) (hf : ∀ x, x ∈ l → Fine x.1 ∧ Fine x.2) (he : M = mapL l) (hm : CallsF P G 57 [int 6, encI (itemsL M)] (.tup [encV (.mk 6 0 [] (itemsL M)), int 0])) : CallsF P G 32 [encPs l] (.tup [encV (.mk 6 0 [] (itemsL M)), int 0]) := by
  refine sx_fn (hs := [.call (int 0), .dec false, .callO 44 8 (cellsPs l), .callW (cellsPs l.reverse) (some (.tup [])), .callW (cellsPs (Sp.Sy.srt (fun p q : V × V => cmpV p.1 q.1) l.reverse)) (some (.tup [])), .callW (cellsPs M) none, .pre [.nrow 6 4 34], .loop [(0,0),(2,1),(3,2)] [(0,0),(1,1),(5,2)] (Smp M) N (fun i => [.dec true, .el (cellsP (M.getD i default).1 ++ cellsP (M.getD i default).2)]), .dec false, .frz [2], .call (.tup [encV (.mk 6 0 [] (itemsL M)), int 0])]) (let z1 := (↑(List.length M) : Int); let z2 := Ob.box [AV.f (int 0), AV.f (int 0), AV.f (str []), AV.f FV.nils]; let z3 := FV.tup [FV.agg [int 6, int 0, str [], encI (itemsL M)], int 0]; CallsF P G 48 [FV.sl 8 (cellsPs l)] (int 0) ∧ E false ∧ CallsO P G 49 [FV.sl 8 (cellsPs l)] (44) (8) (cellsPs l) ∧ CallsW P G 50 (44) (8) (cellsPs l) ([]) (cellsPs (List.reverse l)) (some (FV.tup [])) ∧ CallsW P G 51 (44) (8) (cellsPs (List.reverse l)) ([FV.fn 52 [] []]) (cellsPs (Sy.srt (fun p q => cmpV (Prod.fst p) (Prod.fst q)) (List.reverse l))) (some (FV.tup [])) ∧ CallsW P G 54 (44) (8) (cellsPs (Sy.srt (fun p q => cmpV (Prod.fst p) (Prod.fst q)) (List.reverse l))) ([FV.fn 55 [] []]) (cellsPs M) (none) ∧ (E true ∧ (E (AV.loc 0 0) ∧ E (AV.lsl 2) ∧ E (AV.lsl 1) ∧ AV.f (int (↑(List.length (cellsPs M)) : Int)) = AV.f (int z1) ∧ AV.f (int 0) = AV.f (int (Int.ofNat 0)) ∧ True) ∧ (E z2 ∧ E (Ob.row 8 44 (cellsPs M)) ∧ E (Ob.row 4 34 []) ∧ True) ∧ E true ∧ (false = true → false = true)) ∧ (∀ (i : Nat), (let z6 := itemsL (List.take i M); let z7 := List.getD M i default; let z5 := Prod.fst z7; let z4 := int (V.kind z5) :: int (V.num z5) :: str (V.text z5) :: encI (V.items z5) :: cellsP (Prod.snd z7); i < N → decide ((i : Int) < z1) = true ∧ ((0 : Int) ≤ (i : Int) ∧ i < List.length (cellsPs M)) ∧ (cellsPs M)[i]? = some z4 ∧ (oneF ([cellsP z5, cellsP (Prod.snd z7)]) ∧ List.length (cellsVs z6) + List.length (chunk 4 2 z4) ≤ maxLen ∧ (List.length (cellsVs z6) + List.length (chunk 4 2 z4)) * 56 ≤ 140737488355328 ∧ E false) ∧ E true ∧ (E (AV.loc 0 0) ∧ E (AV.lsl 2) ∧ E (AV.lsl 1) ∧ E (AV.f (int z1)) ∧ AV.f (int (IntKind.wrap IntKind.i64 ((i : Int) + 1))) = AV.f (int (↑(i + 1) : Int)) ∧ True) ∧ (E z2 ∧ E (Ob.row 8 44 (cellsPs M)) ∧ Ob.row 4 34 (cellsVs z6 ++ chunk (TypeInfo.size (Tables.types (Program.toTables P))[34]) 2 z4) = Ob.row 4 34 (cellsVs (itemsL (List.take (i + 1) M))) ∧ True) ∧ E true ∧ (false = true → false = true))) ∧ decide ((N : Int) < z1) = false ∧ CallsF P G 57 [int 6, encI (itemsL (List.take N M))] z3 ∧ E z3) get32 ent32 (by kernel_rfl) ?_
  refine ⟨?_, rfl, ?_, ?_, ?_, ?_, ⟨rfl, ⟨rfl, rfl, rfl, ?_, ?_, trivial⟩, ⟨rfl, rfl, rfl, trivial⟩, rfl, fun hi => ?_⟩, fun i => fun hi => ⟨?_, ⟨?_, ?_⟩, ?_, ⟨?_, ?_, ?_, rfl⟩, rfl, ⟨rfl, rfl, rfl, rfl, ?_, trivial⟩, ⟨rfl, rfl, ?_, trivial⟩, rfl, fun hi => ?_⟩, ?_, ?_, rfl⟩
  all_goals first | exact h | exact cloneq_ok l (by omega) | exact reverse_ok l (by omega) | rfl | exact cellsPs_get M _ (by omega) | (simp only [cellsPs_length, decide_eq_true_eq, decide_eq_false_iff_not] at *; omega) | (exact congrArg (fun x => AV.f (int x)) (wrapS ((i : Int) + 1) (by omega) (by omega))) | exact congrArg (Ob.row 4 34) (itemsL_step M i (by omega)) | (exact sortst_ok (Ok := fun p : V × V => Fine p.1) cpre (fun p q hp _ => map1_ok p q hp) _ (by rw [List.length_reverse]; omega) (fun q hq => (hf q (by simpa using hq)).1)) | (rw [he]; exact compact_okq (fun p q : V × V => cmpV p.1 q.1 == 0) _ _ (by rw [Sp.Sy.srt_length, List.length_reverse]; omega) (fun i hi => map2_ok _ _ (hf _ (by have h9 := Sp.Sy.getD_mem hi; rw [Sp.Sy.srt_mem] at h9; simpa using h9)).1)) | (rw [cellsPs_length]; done) | (have h9 := oneF_cellsVs [(M.getD i default).1, (M.getD i default).2]; simpa only [cellsVs, cellsP_eq] using h9) | (simp only [cellsVs_length, itemsL_len, chunk, List.length_take, List.length_cons, List.length_nil, maxLen]; omega) | (rw [hN, List.take_length]; exact hm) | assumption | omega
theorem map_no (l M : List (V × V)) (N : Nat) (h : CallsF P G 48 [encPs l] (int 0)) (hl : l.length ≤ 65536) (hN : N = M.length) (hM : M.length ≤ 65536) (hf : ∀ x, x ∈ l → Fine x.1 ∧ Fine x.2) (he : M = mapL l) (hm : CallsF P G 57 [int 6, encI (itemsL M)] (.tup [.agg [int 0, int 0, str [], .nils], int 2])) : CallsF P G 32 [encPs l] (.tup [.agg [int 0, int 0, str [], .nils], int 2]) := by
  refine sx_fn (hs := [.call (int 0), .dec false, .callO 44 8 (cellsPs l), .callW (cellsPs l.reverse) (some (.tup [])), .callW (cellsPs (Sp.Sy.srt (fun p q : V × V => cmpV p.1 q.1) l.reverse)) (some (.tup [])), .callW (cellsPs M) none, .pre [.nrow 6 4 34], .loop [(0,0),(2,1),(3,2)] [(0,0),(1,1),(5,2)] (Smp M) N (fun i => [.dec true, .el (cellsP (M.getD i default).1 ++ cellsP (M.getD i default).2)]), .dec false, .frz [2], .call (.tup [.agg [int 0, int 0, str [], .nils], int 2])]) (let z1 := (↑(List.length M) : Int); let z2 := Ob.box [AV.f (int 0), AV.f (int 0), AV.f (str []), AV.f FV.nils]; let z3 := FV.tup [FV.agg [int 0, int 0, str [], FV.nils], int 2]; CallsF P G 48 [FV.sl 8 (cellsPs l)] (int 0) ∧ E false ∧ CallsO P G 49 [FV.sl 8 (cellsPs l)] (44) (8) (cellsPs l) ∧ CallsW P G 50 (44) (8) (cellsPs l) ([]) (cellsPs (List.reverse l)) (some (FV.tup [])) ∧ CallsW P G 51 (44) (8) (cellsPs (List.reverse l)) ([FV.fn 52 [] []]) (cellsPs (Sy.srt (fun p q => cmpV (Prod.fst p) (Prod.fst q)) (List.reverse l))) (some (FV.tup [])) ∧ CallsW P G 54 (44) (8) (cellsPs (Sy.srt (fun p q => cmpV (Prod.fst p) (Prod.fst q)) (List.reverse l))) ([FV.fn 55 [] []]) (cellsPs M) (none) ∧ (E true ∧ (E (AV.loc 0 0) ∧ E (AV.lsl 2) ∧ E (AV.lsl 1) ∧ AV.f (int (↑(List.length (cellsPs M)) : Int)) = AV.f (int z1) ∧ AV.f (int 0) = AV.f (int (Int.ofNat 0)) ∧ True) ∧ (E z2 ∧ E (Ob.row 8 44 (cellsPs M)) ∧ E (Ob.row 4 34 []) ∧ True) ∧ E true ∧ (false = true → false = true)) ∧ (∀ (i : Nat), (let z6 := itemsL (List.take i M); let z7 := List.getD M i default; let z5 := Prod.fst z7; let z4 := int (V.kind z5) :: int (V.num z5) :: str (V.text z5) :: encI (V.items z5) :: cellsP (Prod.snd z7); i < N → decide ((i : Int) < z1) = true ∧ ((0 : Int) ≤ (i : Int) ∧ i < List.length (cellsPs M)) ∧ (cellsPs M)[i]? = some z4 ∧ (oneF ([cellsP z5, cellsP (Prod.snd z7)]) ∧ List.length (cellsVs z6) + List.length (chunk 4 2 z4) ≤ maxLen ∧ (List.length (cellsVs z6) + List.length (chunk 4 2 z4)) * 56 ≤ 140737488355328 ∧ E false) ∧ E true ∧ (E (AV.loc 0 0) ∧ E (AV.lsl 2) ∧ E (AV.lsl 1) ∧ E (AV.f (int z1)) ∧ AV.f (int (IntKind.wrap IntKind.i64 ((i : Int) + 1))) = AV.f (int (↑(i + 1) : Int)) ∧ True) ∧ (E z2 ∧ E (Ob.row 8 44 (cellsPs M)) ∧ Ob.row 4 34 (cellsVs z6 ++ chunk (TypeInfo.size (Tables.types (Program.toTables P))[34]) 2 z4) = Ob.row 4 34 (cellsVs (itemsL (List.take (i + 1) M))) ∧ True) ∧ E true ∧ (false = true → false = true))) ∧ decide ((N : Int) < z1) = false ∧ CallsF P G 57 [int 6, encI (itemsL (List.take N M))] z3 ∧ E z3) get32 ent32 (by kernel_rfl) ?_
  refine ⟨?_, rfl, ?_, ?_, ?_, ?_, ⟨rfl, ⟨rfl, rfl, rfl, ?_, ?_, trivial⟩, ⟨rfl, rfl, rfl, trivial⟩, rfl, fun hi => ?_⟩, fun i => fun hi => ⟨?_, ⟨?_, ?_⟩, ?_, ⟨?_, ?_, ?_, rfl⟩, rfl, ⟨rfl, rfl, rfl, rfl, ?_, trivial⟩, ⟨rfl, rfl, ?_, trivial⟩, rfl, fun hi => ?_⟩, ?_, ?_, rfl⟩
  all_goals first | exact h | exact cloneq_ok l (by omega) | exact reverse_ok l (by omega) | rfl | exact cellsPs_get M _ (by omega) | (simp only [cellsPs_length, decide_eq_true_eq, decide_eq_false_iff_not] at *; omega) | (exact congrArg (fun x => AV.f (int x)) (wrapS ((i : Int) + 1) (by omega) (by omega))) | exact congrArg (Ob.row 4 34) (itemsL_step M i (by omega)) | (exact sortst_ok (Ok := fun p : V × V => Fine p.1) cpre (fun p q hp _ => map1_ok p q hp) _ (by rw [List.length_reverse]; omega) (fun q hq => (hf q (by simpa using hq)).1)) | (rw [he]; exact compact_okq (fun p q : V × V => cmpV p.1 q.1 == 0) _ _ (by rw [Sp.Sy.srt_length, List.length_reverse]; omega) (fun i hi => map2_ok _ _ (hf _ (by have h9 := Sp.Sy.getD_mem hi; rw [Sp.Sy.srt_mem] at h9; simpa using h9)).1)) | (rw [cellsPs_length]; done) | (have h9 := oneF_cellsVs [(M.getD i default).1, (M.getD i default).2]; simpa only [cellsVs, cellsP_eq] using h9) | (simp only [cellsVs_length, itemsL_len, chunk, List.length_take, List.length_cons, List.length_nil, maxLen]; omega) | (rw [hN, List.take_length]; exact hm) | assumption | omega
end Go.Sx
set_option maxRecDepth 100000
set_option maxHeartbeats 4000000
set_option linter.unusedSimpArgs false
set_option linter.unusedVariables false
namespace Go.Sx
open Go.Proofs Sp
theorem fineL {l : List V} {N : Nat} (h : ∀ x, x ∈ l → Fine x) (hl : l.length ≤ N) (hN : N ≤ 2513169434844) (k : Int) (hk : 0 ≤ k ∧ k ≤ 6) : Fine (.mk k 0 [] l) := Fine.mk k 0 [] l (by omega) (by omega) (by simp) (by omega) h
theorem nilT {a b c : FV} (l : List FV) : ∀ w ok v, FRel w ok (.tup (.agg [a, b, c, .nils] :: l)) v → FRel w ok (.tup (.agg [a, b, c, .sl 4 []] :: l)) v := by
  intro w ok v h
  simp only [FRel, FRelL] at h ⊢
  obtain ⟨cs, e, v0, r0, e0, ⟨cs1, e1, h1⟩, h2⟩ := h
  refine ⟨cs, e, v0, r0, e0, ⟨cs1, e1, ?_⟩, h2⟩
  obtain ⟨v1, r1, e1, h1, v2, r2, e2, h2, v3, r3, e3, h3, v4, r4, e4, h4, h5⟩ := h1
  exact ⟨v1, r1, e1, h1, v2, r2, e2, h2, v3, r3, e3, h3, v4, r4, e4, .inl ⟨trivial, .inl h4⟩, h5⟩
def V0 : V := .mk 0 0 [] []
noncomputable def madeR (k : Int) (l : List V) : V × Int := if rightB (.mk k 0 [] l) then (.mk k 0 [] l, 0) else (V0, 2)
theorem get81 : P.funcs[81]? = some Tryz.f81 := by kernel_rfl
theorem ent81 : entersP P 81 = true := by kernel_rfl
theorem told_no (k : Int) (l : List V) (h : CallsF P G 39 [encV (.mk k 0 [] l)] (bool (rightB (.mk k 0 [] l)))) (h2 : rightB (.mk k 0 [] l) = false) : CallsF P G 81 [encV (.mk k 0 [] l)] (.tup [.agg [int 0, int 0, str [], .nils], int 2]) := by
  refine sx_fn (hs := [.call (bool false), .dec true]) ((CallsF P G 39 [FV.agg [int k, int 0, str [], encI l]] (bool false)) ∧ (E (true)) ∧ E (FV.tup [FV.agg [int 0, int 0, str [], FV.nils], int 2])) get81 ent81 (by kernel_rfl) ?_
  refine ⟨?_, ⟨rfl, rfl⟩⟩
  all_goals (rw [h2] at h; exact h)
theorem told_yes (k : Int) (l : List V) (h : CallsF P G 39 [encV (.mk k 0 [] l)] (bool (rightB (.mk k 0 [] l)))) (h2 : rightB (.mk k 0 [] l) = true) : CallsF P G 81 [encV (.mk k 0 [] l)] (.tup [encV (.mk k 0 [] l), int 0]) := by
  refine sx_fn (hs := [.call (bool true), .dec false]) ((CallsF P G 39 [FV.agg [int k, int 0, str [], encI l]] (bool true)) ∧ (E (false)) ∧ E (FV.tup [FV.agg [int k, int 0, str [], encI l], int 0])) get81 ent81 (by kernel_rfl) ?_
  refine ⟨?_, ⟨rfl, rfl⟩⟩
  all_goals (rw [h2] at h; exact h)
theorem told_ok (k : Int) (hk : 0 ≤ k ∧ k ≤ 6) (l : List V) (hf : ∀ x, x ∈ l → Fine x) (hl : l.length ≤ 2513169434844) : CallsF P G 81 [encV (.mk k 0 [] l)] (.tup [encV (madeR k l).1, int (madeR k l).2]) := by
  have hF := fineL hf hl (Nat.le_refl _) k hk
  unfold madeR
  cases h : rightB (.mk k 0 [] l) with
  | true => rw [if_pos rfl]; exact told_yes k l (refRight_ok _ hF) h
  | false => rw [if_neg (by simp)]; exact (told_no k l (refRight_ok _ hF) h).weak (nilT _)
open Sp.Sy
/-- The first pair of a key. -/
def fnd (k : V) (l : List (V × V)) : Option (V × V) := l.find? fun p => cmpV k p.1 == 0
theorem fnd_cons (k : V) (p : V × V) (l : List (V × V)) : fnd k (p :: l) = if cmpV k p.1 = 0 then some p else fnd k l := by
  unfold fnd
  rw [List.find?_cons]
  by_cases h : cmpV k p.1 = 0
  · simp [h]
  · rw [beq_eq_false_iff_ne.2 h, if_neg h]
theorem cmp0_sym {a b : V} (h : cmpV a b = 0) : cmpV b a = 0 := by have := cmpV_line.turn a b trivial trivial; omega
theorem cmp_le {a b d : V} (h1 : cmpV a b ≤ 0) (h2 : cmpV b d ≤ 0) : cmpV a d ≤ 0 := cmpV_line.le_trans a b d trivial trivial trivial h1 h2
theorem cmp_turn (a b : V) : cmpV b a = - cmpV a b := cmpV_line.turn a b trivial trivial
theorem cmp0_left {a b d : V} (h : cmpV a b = 0) : cmpV a d = 0 ↔ cmpV b d = 0 := by
  have t1 := cmp_turn a b; have t2 := cmp_turn a d; have t3 := cmp_turn b d
  constructor
  · intro h1
    have := cmp_le (a := b) (b := a) (d := d) (by omega) (by omega)
    have := cmp_le (a := d) (b := a) (d := b) (by omega) (by omega)
    omega
  · intro h1
    have := cmp_le (a := a) (b := b) (d := d) (by omega) (by omega)
    have := cmp_le (a := d) (b := b) (d := a) (by omega) (by omega)
    omega
theorem cmp0_right {a b d : V} (h : cmpV a b = 0) : cmpV d a = 0 ↔ cmpV d b = 0 := by
  have t2 := cmp_turn a d; have t3 := cmp_turn b d; have := cmp0_left (d := d) h
  constructor <;> intro h1 <;> omega
theorem cmp_lt_le {a b d : V} (h1 : cmpV a b < 0) (h2 : cmpV b d ≤ 0) : cmpV a d < 0 := by
  have t1 := cmp_turn a b; have t2 := cmp_turn a d; have t3 := cmp_turn b d
  rcases Int.lt_or_le (cmpV a d) 0 with h | h
  · exact h
  · have := cmp_le (a := b) (b := d) (d := a) h2 (by omega); omega
theorem cmp_le_lt {a b d : V} (h1 : cmpV a b ≤ 0) (h2 : cmpV b d < 0) : cmpV a d < 0 := by
  have t1 := cmp_turn a b; have t2 := cmp_turn a d; have t3 := cmp_turn b d
  rcases Int.lt_or_le (cmpV a d) 0 with h | h
  · exact h
  · have := cmp_le (a := d) (b := a) (d := b) (by omega) h1; omega
theorem fnd_ins (k : V) (x : V × V) : ∀ (s : List (V × V)), fnd k (mrg (fun p q : V × V => cmpV p.1 q.1) [x] s) = if cmpV k x.1 = 0 then some x else fnd k s
  | [] => by rw [mrg_nil, fnd_cons]
  | y :: s => by
    by_cases h : cmpV y.1 x.1 < 0
    · rw [mrg_lt [] s h, fnd_cons, fnd_ins k x s, fnd_cons]
      by_cases h1 : cmpV k y.1 = 0
      · rw [if_pos h1, if_pos h1, if_neg]
        intro h2
        have := (cmp0_left (d := x.1) (cmp0_sym h1)).2 h2; omega
      · rw [if_neg h1, if_neg h1]
    · rw [mrg_ge [] s h, nil_mrg, fnd_cons]
theorem fnd_srt (k : V) : ∀ (l : List (V × V)), fnd k (srt (fun p q : V × V => cmpV p.1 q.1) l) = fnd k l
  | [] => rfl
  | x :: l => by
    show fnd k (mrg (fun p q : V × V => cmpV p.1 q.1) [x] (srt (fun p q : V × V => cmpV p.1 q.1) l)) = _
    rw [fnd_ins, fnd_cons, fnd_srt k l]
theorem fnd_compF (k : V) : ∀ (l : List (V × V)) (p : V × V), fnd k (p :: compFq (fun p q : V × V => cmpV p.1 q.1 == 0) p l) = fnd k (p :: l)
  | [], p => rfl
  | y :: l, p => by
    have ih := fnd_compF k l y
    by_cases h1 : cmpV k p.1 = 0
    · rw [fnd_cons, fnd_cons, if_pos h1, if_pos h1]
    · rw [fnd_cons, fnd_cons k p, if_neg h1, if_neg h1]
      simp only [compFq]
      by_cases h2 : cmpV y.1 p.1 = 0
      · have h3 : ¬ cmpV k y.1 = 0 := fun h => h1 ((cmp0_right h2).1 h)
        rw [fnd_cons, fnd_cons k y, if_neg h3, if_neg h3] at ih
        rw [if_pos (by simp [h2]), ih, fnd_cons, if_neg h3]
      · rw [if_neg (by simp [h2]), ih]
theorem fnd_comp (k : V) (l : List (V × V)) : fnd k (compq (fun p q : V × V => cmpV p.1 q.1 == 0) l) = fnd k l := by
  cases l with
  | nil => rfl
  | cons x l => exact fnd_compF k l x
theorem ris_compF : ∀ (l : List (V × V)) (p : V × V), Sd (fun p q : V × V => cmpV p.1 q.1) (p :: l) → Rising cmpV (p :: compFq (fun p q : V × V => cmpV p.1 q.1 == 0) p l)
  | [], p, _ => by simp [compFq, Rising]
  | y :: l, p, h => by
    have h' := List.pairwise_cons.1 h
    have ih := ris_compF l y h'.2
    have hy : 0 ≤ cmpV y.1 p.1 := h'.1 y (by simp)
    have ty := cmp_turn y.1 p.1
    simp only [compFq]
    have ih' := List.pairwise_cons.1 ih
    by_cases h2 : cmpV y.1 p.1 = 0
    · rw [if_pos (by simp [h2])]
      exact List.pairwise_cons.2 ⟨fun z hz => cmp_le_lt (b := y.1) (by omega) (ih'.1 z hz), ih'.2⟩
    · rw [if_neg (by simp [h2])]
      have hp : cmpV p.1 y.1 < 0 := by omega
      refine List.pairwise_cons.2 ⟨fun z hz => ?_, ih⟩
      rcases List.mem_cons.1 hz with rfl | hz
      · exact hp
      · exact cmp_lt_le hp (Int.le_of_lt (ih'.1 z hz))
theorem mapL_ris (l : List (V × V)) : Rising cmpV (mapL l) := by
  have h := srt_sd cpre l.reverse
  unfold mapL
  cases hs : srt (fun p q : V × V => cmpV p.1 q.1) l.reverse with
  | nil => simp [compq, Rising]
  | cons x s => rw [hs] at h; exact ris_compF s x h
theorem mapL_fnd (k : V) (l : List (V × V)) : fnd k (mapL l) = fnd k l.reverse := by rw [mapL, fnd_comp, fnd_srt]
theorem fnd_none {k : V} {l : List (V × V)} (h : ∀ q, q ∈ l → cmpV k q.1 ≠ 0) : fnd k l = none := by
  unfold fnd
  rw [List.find?_eq_none]
  intro q hq; simpa using h q hq
theorem fnd_mem {k : V} {l : List (V × V)} {p : V × V} (h : fnd k l = some p) : p ∈ l ∧ cmpV k p.1 = 0 := ⟨List.mem_of_find?_eq_some h, by simpa using List.find?_some h⟩
theorem ris_ext : ∀ (A B : List (V × V)), Rising cmpV A → Rising cmpV B → (∀ k, fnd k A = fnd k B) → A = B
  | [], [], _, _, _ => rfl
  | [], q :: B, _, _, h => by
    have := h q.1
    rw [fnd_cons, if_pos (cmpV_self _)] at this
    simp [fnd] at this
  | p :: A, [], _, _, h => by
    have := h p.1
    rw [fnd_cons, if_pos (cmpV_self _)] at this
    simp [fnd] at this
  | p :: A, q :: B, hA, hB, h => by
    have hA' := List.pairwise_cons.1 hA; have hB' := List.pairwise_cons.1 hB
    have e : p = q := by
      have h1 := h p.1; have h2 := h q.1
      rw [fnd_cons, if_pos (cmpV_self _)] at h1
      rw [fnd_cons] at h1
      split at h1
      · simpa using h1
      · have m1 := (fnd_mem h1.symm).1
        rw [fnd_cons q.1 q, if_pos (cmpV_self _), fnd_cons] at h2
        split at h2
        · simpa using h2
        · have m2 := (fnd_mem h2).1
          have := hA'.1 q m2; have := hB'.1 p m1; have := cmp_turn p.1 q.1; omega
    subst e
    rw [ris_ext A B hA'.2 hB'.2 fun k => ?_]
    have hk := h k
    rw [fnd_cons, fnd_cons] at hk
    split at hk
    · rename_i h0
      rw [fnd_none fun z hz hz0 => ?_, fnd_none fun z hz hz0 => ?_]
      · have := hB'.1 z hz; have := (cmp0_left (d := z.1) h0).1 hz0; omega
      · have := hA'.1 z hz; have := (cmp0_left (d := z.1) h0).1 hz0; omega
    · exact hk
/-- Two lists of pairs put together; of a key that both have the second one's. -/
def mgL : List (V × V) → List (V × V) → List (V × V)
  | [], b => b
  | x :: a, [] => x :: a
  | x :: a, y :: b => if cmpV x.1 y.1 < 0 then x :: mgL a (y :: b) else if cmpV x.1 y.1 = 0 then y :: mgL a b else y :: mgL (x :: a) b
termination_by a b => a.length + b.length
theorem mgL_nil (a : List (V × V)) : mgL a [] = a := by cases a <;> simp [mgL]
theorem mgL_mem : ∀ (a b : List (V × V)) (z : V × V), z ∈ mgL a b → z ∈ a ∨ z ∈ b
  | [], b, z, h => by simp only [mgL] at h; exact .inr h
  | x :: a, [], z, h => by simp only [mgL] at h; exact .inl h
  | x :: a, y :: b, z, h => by
    rw [mgL] at h
    split at h
    · rcases List.mem_cons.1 h with rfl | h
      · simp
      · rcases mgL_mem a (y :: b) z h with h | h
        · simp [h]
        · exact .inr h
    · split at h
      · rcases List.mem_cons.1 h with rfl | h
        · simp
        · rcases mgL_mem a b z h with h | h
          · simp [h]
          · simp [h]
      · rcases List.mem_cons.1 h with rfl | h
        · simp
        · rcases mgL_mem (x :: a) b z h with h | h
          · exact .inl h
          · simp [h]
termination_by a b => a.length + b.length
theorem mgL_ris : ∀ (a b : List (V × V)), Rising cmpV a → Rising cmpV b → Rising cmpV (mgL a b)
  | [], b, _, hb => by simpa only [mgL] using hb
  | x :: a, [], ha, _ => by simpa only [mgL] using ha
  | x :: a, y :: b, ha, hb => by
    have ha' := List.pairwise_cons.1 ha; have hb' := List.pairwise_cons.1 hb
    have t := cmp_turn x.1 y.1
    rw [mgL]
    split
    · rename_i h
      refine List.pairwise_cons.2 ⟨fun z hz => ?_, mgL_ris a (y :: b) ha'.2 hb⟩
      rcases mgL_mem _ _ z hz with hz | hz
      · exact ha'.1 z hz
      · rcases List.mem_cons.1 hz with rfl | hz
        · exact h
        · exact cmp_lt_le h (Int.le_of_lt (hb'.1 z hz))
    · split
      · rename_i h
        refine List.pairwise_cons.2 ⟨fun z hz => ?_, mgL_ris a b ha'.2 hb'.2⟩
        rcases mgL_mem _ _ z hz with hz | hz
        · exact cmp_le_lt (b := x.1) (by omega) (ha'.1 z hz)
        · exact hb'.1 z hz
      · refine List.pairwise_cons.2 ⟨fun z hz => ?_, mgL_ris (x :: a) b ha hb'.2⟩
        have hyx : cmpV y.1 x.1 < 0 := by omega
        rcases mgL_mem _ _ z hz with hz | hz
        · rcases List.mem_cons.1 hz with rfl | hz
          · exact hyx
          · exact cmp_lt_le hyx (Int.le_of_lt (ha'.1 z hz))
        · exact hb'.1 z hz
termination_by a b => a.length + b.length
theorem mgL_fnd (k : V) : ∀ (a b : List (V × V)), Rising cmpV b → fnd k (mgL a b) = (fnd k b).or (fnd k a)
  | [], b, _ => by simp only [mgL]; simp [fnd]
  | x :: a, [], _ => by simp only [mgL]; simp [fnd]
  | x :: a, y :: b, hb => by
    have hb' := List.pairwise_cons.1 hb
    rw [mgL]
    split
    · rename_i h
      rw [fnd_cons, mgL_fnd k a (y :: b) hb, fnd_cons k x]
      by_cases h0 : cmpV k x.1 = 0
      · rw [if_pos h0, if_pos h0, fnd_none (l := y :: b) fun z hz hz0 => ?_]
        · rfl
        · have h1 : cmpV x.1 z.1 < 0 := by
            rcases List.mem_cons.1 hz with rfl | hz
            · exact h
            · exact cmp_lt_le h (Int.le_of_lt (hb'.1 z hz))
          have := (cmp0_left (d := z.1) h0).1 hz0; omega
      · rw [if_neg h0, if_neg h0]
    · split
      · rename_i h
        rw [fnd_cons, mgL_fnd k a b hb'.2, fnd_cons k y, fnd_cons k x]
        by_cases h0 : cmpV k y.1 = 0
        · rw [if_pos h0, if_pos h0]; rfl
        · rw [if_neg h0, if_neg h0, if_neg fun h1 => h0 ((cmp0_right h).1 h1)]
      · rw [fnd_cons, mgL_fnd k (x :: a) b hb'.2, fnd_cons k y]
        by_cases h0 : cmpV k y.1 = 0
        · rw [if_pos h0, if_pos h0]; rfl
        · rw [if_neg h0, if_neg h0]
termination_by a b => a.length + b.length
/-- The map of two lists' pairs is their maps put together. -/
theorem mapL_two (a b : List (V × V)) : mgL (mapL a) (mapL b) = mapL (a ++ b) := by
  refine ris_ext _ _ (mgL_ris _ _ (mapL_ris a) (mapL_ris b)) (mapL_ris _) fun k => ?_
  rw [mgL_fnd k _ _ (mapL_ris b), mapL_fnd, mapL_fnd, mapL_fnd, List.reverse_append]
  unfold fnd
  rw [List.find?_append]
theorem mapL_small (l : List (V × V)) (h : l.length < 2) : mapL l = l := by
  match l, h with
  | [], _ => rfl
  | [x], _ => simp [mapL, srt_one, compq, compFq]
  | _ :: _ :: _, h => simp at h; omega
theorem compFq_mem (q : V × V → V × V → Bool) : ∀ (l : List (V × V)) (p x : V × V), x ∈ compFq q p l → x ∈ l
  | [], p, x, h => by simp [compFq] at h
  | y :: l, p, x, h => by
    simp only [compFq] at h
    split at h
    · exact .tail _ (compFq_mem q l _ x h)
    · rcases List.mem_cons.1 h with rfl | h
      · exact .head _
      · exact .tail _ (compFq_mem q l _ x h)
theorem compFq_len (q : V × V → V × V → Bool) : ∀ (l : List (V × V)) (p : V × V), (compFq q p l).length ≤ l.length
  | [], p => by simp [compFq]
  | y :: l, p => by
    simp only [compFq]
    have := compFq_len q l y
    split
    · simp; omega
    · simp; omega
theorem mapL_mem {l : List (V × V)} {x : V × V} (h : x ∈ mapL l) : x ∈ l := by
  unfold mapL at h
  have m : ∀ y, y ∈ srt (fun p q : V × V => cmpV p.1 q.1) l.reverse → y ∈ l := fun y hy => by rw [srt_mem] at hy; simpa using hy
  cases hs : srt (fun p q : V × V => cmpV p.1 q.1) l.reverse with
  | nil => rw [hs] at h; simp [compq] at h
  | cons z s =>
    rw [hs] at h m
    simp only [compq] at h
    rcases List.mem_cons.1 h with rfl | h
    · exact m _ (.head _)
    · exact m _ (.tail _ (compFq_mem _ _ _ _ h))
theorem mapL_len (l : List (V × V)) : (mapL l).length ≤ l.length := by
  have e : (srt (fun p q : V × V => cmpV p.1 q.1) l.reverse).length = l.length := by rw [srt_length, List.length_reverse]
  unfold mapL
  cases hs : srt (fun p q : V × V => cmpV p.1 q.1) l.reverse with
  | nil => rw [hs] at e; simp [compq]
  | cons z s => rw [hs] at e; have := compFq_len (fun p q : V × V => cmpV p.1 q.1 == 0) s z; simp [compq] at e ⊢; omega
/-- A map that is made of pairs, or what is wrong with them. -/
noncomputable def mapR (l : List (V × V)) : V × Int := if pairL l = 0 then madeR 6 (itemsL (mapL l)) else (V0, pairL l)
theorem itemsL_fine {l : List (V × V)} (hf : ∀ p, p ∈ l → Fine p.1 ∧ Fine p.2) : ∀ x, x ∈ itemsL l → Fine x := fun x hx => by
  obtain ⟨p, hp, h | h⟩ := itemsL_mem l x hx
  · rw [h]; exact (hf p hp).1
  · rw [h]; exact (hf p hp).2
theorem map_ok (l : List (V × V)) (hf : ∀ p, p ∈ l → Fine p.1 ∧ Fine p.2) : CallsF P G 32 [encPs l] (.tup [encV (mapR l).1, int (mapR l).2]) := by
  unfold mapR
  have hv := vpaired_ok l hf
  by_cases h0 : pairL l = 0
  · rw [if_pos h0]
    obtain ⟨hl, hr⟩ := pairL_zero h0
    rw [h0] at hv
    have hlen := mapL_len l
    have hF : ∀ x, x ∈ itemsL (mapL l) → Fine x := itemsL_fine fun p hp => hf p (mapL_mem hp)
    have hFF := fineL (N := 2513169434844) hF (by rw [itemsL_len]; omega) (by omega) 6 (by omega)
    unfold madeR
    cases h : rightB (.mk 6 0 [] (itemsL (mapL l))) with
    | true => rw [if_pos rfl]; exact map_yes l _ _ hv hl rfl (by omega) hf rfl (made_yes 6 _ (by have := right_ok _ hFF; rwa [h] at this ⊢) (own_ok _ hFF) h)
    | false => rw [if_neg (by simp)]; exact (map_no l _ _ hv hl rfl (by omega) hf rfl (made_no 6 _ (right_ok _ hFF) h)).weak (nilT _)
  · rw [if_neg h0]
    exact (map_bad l hv h0).weak (nilT _)
end Go.Sx
set_option maxRecDepth 100000
set_option maxHeartbeats 4000000
set_option linter.unusedSimpArgs false
set_option linter.unusedVariables false
namespace Go.Sx
open Go.Proofs Sp
/-- The merging of two rising lists of pairs, step by step: how many are taken of each, and what is out. -/
noncomputable def mgk (a b : List (V × V)) : Nat → Nat × Nat × List (V × V)
  | 0 => (0, 0, [])
  | i + 1 => if cmpV (a.getD (mgk a b i).1 default).1 (b.getD (mgk a b i).2.1 default).1 < 0 then ((mgk a b i).1 + 1, (mgk a b i).2.1, (mgk a b i).2.2 ++ [a.getD (mgk a b i).1 default])
    else if cmpV (a.getD (mgk a b i).1 default).1 (b.getD (mgk a b i).2.1 default).1 = 0 then ((mgk a b i).1 + 1, (mgk a b i).2.1 + 1, (mgk a b i).2.2 ++ [b.getD (mgk a b i).2.1 default])
    else ((mgk a b i).1, (mgk a b i).2.1 + 1, (mgk a b i).2.2 ++ [b.getD (mgk a b i).2.1 default])
noncomputable def Smk (a b : List (V × V)) (i : Nat) : St := { sl := slots 70 [(4, .f (encPs (a.drop (mgk a b i).1))), (5, .f (encPs (b.drop (mgk a b i).2.1))), (6, .lsl 0)], ob := [(0, .row 8 44 (cellsPs (mgk a b i).2.2))], nx := 1 }
def Smo (l : List (V × V)) (i : Nat) : St := { sl := slots 28 [(2, .loc 0 0), (4, .loc 1 0), (8, .f (encPs l)), (9, .f (int (cellsPs l).length)), (10, .f (int (i : Int)))], ob := [(0, .box [.f (int 0), .f (int 0), .f (str []), .f .nils]), (1, .box [.f (int 6), .f (int 0), .f (str []), .lsl 2]), (2, .row 4 34 (cellsVs (itemsL (l.take i))))], nx := 3 }
open Sp.Sy
theorem drop0q (l : List (V × V)) (p : Nat) (h : p < l.length) : (cellsPs (l.drop p))[0]? = some (cellsP (l.getD p default).1 ++ cellsP (l.getD p default).2) := by
  rw [drop_one h]; rfl
theorem next1q (l : List (V × V)) (p n : Nat) (h : n = (cellsPs (l.drop p)).length) : ((cellsPs (l.drop p)).take n).drop 1 = cellsPs (l.drop (p + 1)) := by
  rw [h, List.take_length, cellsPs_drop, List.drop_drop]
theorem snocq (l : List (V × V)) (x : V × V) : cellsPs l ++ [cellsP x.1 ++ cellsP x.2] = cellsPs (l ++ [x]) := by rw [cellsPs_app]; rfl
theorem mgk_lt {a b : List (V × V)} {i : Nat} (h : cmpV (a.getD (mgk a b i).1 default).1 (b.getD (mgk a b i).2.1 default).1 < 0) : mgk a b (i + 1) = ((mgk a b i).1 + 1, (mgk a b i).2.1, (mgk a b i).2.2 ++ [a.getD (mgk a b i).1 default]) := by simp only [mgk]; rw [if_pos h]
theorem mgk_eq {a b : List (V × V)} {i : Nat} (h : cmpV (a.getD (mgk a b i).1 default).1 (b.getD (mgk a b i).2.1 default).1 = 0) : mgk a b (i + 1) = ((mgk a b i).1 + 1, (mgk a b i).2.1 + 1, (mgk a b i).2.2 ++ [b.getD (mgk a b i).2.1 default]) := by simp only [mgk]; rw [if_neg (by omega), if_pos h]
theorem mgk_gt {a b : List (V × V)} {i : Nat} (h : ¬ cmpV (a.getD (mgk a b i).1 default).1 (b.getD (mgk a b i).2.1 default).1 < 0) (h2 : ¬ cmpV (a.getD (mgk a b i).1 default).1 (b.getD (mgk a b i).2.1 default).1 = 0) : mgk a b (i + 1) = ((mgk a b i).1, (mgk a b i).2.1 + 1, (mgk a b i).2.2 ++ [b.getD (mgk a b i).2.1 default]) := by simp only [mgk]; rw [if_neg h, if_neg h2]
theorem mgk_step (a b : List (V × V)) (i : Nat) (h1 : (mgk a b i).1 < a.length) (h2 : (mgk a b i).2.1 < b.length) :
    (mgk a b (i + 1)).2.2 ++ mgL (a.drop (mgk a b (i + 1)).1) (b.drop (mgk a b (i + 1)).2.1) = (mgk a b i).2.2 ++ mgL (a.drop (mgk a b i).1) (b.drop (mgk a b i).2.1) := by
  rw [drop_one h1, drop_one h2, mgL]
  by_cases h : cmpV (a.getD (mgk a b i).1 default).1 (b.getD (mgk a b i).2.1 default).1 < 0
  · rw [if_pos h, mgk_lt h]
    simp only
    rw [drop_one h2]; simp
  · by_cases h0 : cmpV (a.getD (mgk a b i).1 default).1 (b.getD (mgk a b i).2.1 default).1 = 0
    · rw [if_neg h, if_pos h0, mgk_eq h0]
      simp
    · rw [if_neg h, if_neg h0, mgk_gt h h0]
      simp only
      rw [drop_one h1]; simp
theorem mgk_upto (a b : List (V × V)) : ∀ i, (∀ j, j < i → (mgk a b j).1 < a.length ∧ (mgk a b j).2.1 < b.length) → ((mgk a b i).1 ≤ a.length ∧ (mgk a b i).2.1 ≤ b.length ∧ (mgk a b i).2.2.length ≤ (mgk a b i).1 + (mgk a b i).2.1 ∧ i ≤ (mgk a b i).1 + (mgk a b i).2.1) ∧ (mgk a b i).2.2 ++ mgL (a.drop (mgk a b i).1) (b.drop (mgk a b i).2.1) = mgL a b
  | 0, _ => by simp [mgk]
  | i + 1, h => by
    obtain ⟨⟨q1, q2, q3, q4⟩, q5⟩ := mgk_upto a b i fun j hj => h j (by omega)
    obtain ⟨h1, h2⟩ := h i (by omega)
    refine ⟨?_, (mgk_step a b i h1 h2).trans q5⟩
    by_cases hl : cmpV (a.getD (mgk a b i).1 default).1 (b.getD (mgk a b i).2.1 default).1 < 0
    · rw [mgk_lt hl]; simp only [List.length_append, List.length_singleton]; omega
    · by_cases h0 : cmpV (a.getD (mgk a b i).1 default).1 (b.getD (mgk a b i).2.1 default).1 = 0
      · rw [mgk_eq h0]; simp only [List.length_append, List.length_singleton]; omega
      · rw [mgk_gt hl h0]; simp only [List.length_append, List.length_singleton]; omega
theorem get59 : P.funcs[59]? = some Tryz.f59 := by kernel_rfl
theorem ent59 : entersP P 59 = true := by kernel_rfl
theorem keyed_short (l : List (V × V)) (hl : l.length < 2) : CallsF P G 59 [encPs l] (encPs l) := by
  refine sx_fn (hs := [.dec true, .lfz [1]]) (decide ((↑(List.length (cellsPs l)) : Int) < 2) = true ∧ (oneF (cellsPs l) ∧ 0 + List.length (cellsPs l) ≤ maxLen ∧ (0 + List.length (cellsPs l)) * 112 ≤ 140737488355328 ∧ E false) ∧ FV.sl 8 (chunk (TypeInfo.size (Tables.types (Program.toTables P))[44]) 0 [] ++ cellsPs l) = FV.sl 8 (cellsPs l)) get59 ent59 (by kernel_rfl) ?_
  refine ⟨?_, ⟨?_, ?_, ?_, rfl⟩, ?_⟩
  all_goals first | rfl | exact oneF_cellsPs l | (simp only [cellsPs_length, decide_eq_true_eq]; omega) | (simp only [cellsPs_length, chunk, List.length_nil, maxLen]; omega)
theorem keyed_long (l a b : List (V × V)) (N : Nat) (hn : 2 ≤ l.length) (hl : l.length ≤ 65536) (hlen : a.length + b.length ≤ l.length) (hfa : ∀ x, x ∈ a → Fine x.1) (hfb : ∀ x, x ∈ b → Fine x.1) (iha : CallsF P G 59 [encPs (l.take (l.length / 2))] (encPs a)) (ihb : CallsF P G 59 [encPs (l.drop (l.length / 2))] (encPs b)) (hA : ∀ i, i ≤ N → (mgk a b i).1 ≤ a.length ∧ (mgk a b i).2.1 ≤ b.length ∧ (mgk a b i).2.2.length ≤ (mgk a b i).1 + (mgk a b i).2.1) (hlt : ∀ i, i < N → (mgk a b i).1 < a.length ∧ (mgk a b i).2.1 < b.length) (he : ¬ ((mgk a b N).1 < a.length ∧ (mgk a b N).2.1 < b.length))  : CallsF P G 59 [encPs l] (encPs ((mgk a b N).2.2 ++ a.drop (mgk a b N).1 ++ b.drop (mgk a b N).2.1)) := by
  have hq : IntKind.wrap IntKind.i64 (Int.tdiv ((cellsPs l).length : Int) 2) = ((l.length / 2 : Nat) : Int) := by
    rw [cellsPs_length, show Int.tdiv (l.length : Int) 2 = ((l.length / 2 : Nat) : Int) from rfl]; exact wrapS _ (by omega) (by omega)
  refine sx_fn (hs := [.dec false, .call (encPs a), .call (encPs b), .pre [.nrow 6 8 44], .loop [(0,0)] [(2,0)] (Smk a b) N (fun i => [.dec true, .dec true, .nat 10, .el (cellsP (a.getD (mgk a b i).1 default).1 ++ cellsP (a.getD (mgk a b i).1 default).2), .el (cellsP (b.getD (mgk a b i).2.1 default).1 ++ cellsP (b.getD (mgk a b i).2.1 default).2), .call (int (cmpV (a.getD (mgk a b i).1 default).1 (b.getD (mgk a b i).2.1 default).1)), .br [.el (cellsP (a.getD (mgk a b i).1 default).1 ++ cellsP (a.getD (mgk a b i).1 default).2)] [.el (cellsP (b.getD (mgk a b i).2.1 default).1 ++ cellsP (b.getD (mgk a b i).2.1 default).2), .br [] []]]), .br [.dec false, .lfz [2]] [.dec false, .lfz [2]]]) (let z2 := (↑(List.length (cellsPs l)) : Int); let z4 := Prod.snd (mgk a b N); let z5 := List.drop (Prod.fst (mgk a b N)) a; let z3 := oneF (cellsPs z5) ∧ List.length (cellsPs (Prod.snd z4)) + List.length (cellsPs z5) ≤ maxLen ∧ (List.length (cellsPs (Prod.snd z4)) + List.length (cellsPs z5)) * 112 ≤ 140737488355328 ∧ E false; let z6 := List.drop (Prod.fst z4) b; let z7 := IntKind.wrap IntKind.i64 (Int.tdiv z2 2); let z8 := TypeInfo.size (Tables.types (Program.toTables P))[44]; let z9 := cellsPs (Prod.snd z4 ++ List.drop (Prod.fst (mgk a b N)) a ++ List.drop (Prod.fst z4) b); let z10 := cellsPs (Prod.snd z4) ++ cellsPs z5 ++ cellsPs z6; let z11 := cellsPs (Prod.snd z4) ++ cellsPs z5; let z1 := oneF (cellsPs z6) ∧ List.length z11 + List.length (cellsPs z6) ≤ maxLen ∧ (List.length z11 + List.length (cellsPs z6)) * 112 ≤ 140737488355328 ∧ E false; decide (z2 < 2) = false ∧ (E 8 ∧ (0 : Int) ≤ 0 ∧ (0 : Int) ≤ Option.getD (some z7) z2 ∧ Option.getD (some z7) z2 ≤ z2) ∧ CallsF P G 59 [FV.sl 8 (List.drop (Int.toNat 0) (List.take (Int.toNat (Option.getD (some z7) z2)) (cellsPs l)))] (FV.sl 8 (cellsPs a)) ∧ (E 8 ∧ (0 : Int) ≤ IntKind.wrap IntKind.i64 (Int.tdiv z2 2) ∧ IntKind.wrap IntKind.i64 (Int.tdiv z2 2) ≤ Option.getD none z2 ∧ Option.getD none z2 ≤ z2) ∧ CallsF P G 59 [FV.sl 8 (List.drop (Int.toNat z7) (List.take (Int.toNat (Option.getD none z2)) (cellsPs l)))] (FV.sl 8 (cellsPs b)) ∧ (E true ∧ (AV.f (FV.sl 8 (cellsPs a)) = AV.f (FV.sl 8 (cellsPs (List.drop (Prod.fst (mgk a b 0)) a))) ∧ AV.f (FV.sl 8 (cellsPs b)) = AV.f (FV.sl 8 (cellsPs (List.drop (Prod.fst (Prod.snd (mgk a b 0))) b))) ∧ E (AV.lsl 0) ∧ True) ∧ (E (Ob.row 8 44 []) ∧ True) ∧ E true ∧ (false = true → false = true)) ∧ (∀ (i : Nat), (let z14 := Prod.fst (Prod.snd (mgk a b i)); let z16 := cellsPs (List.drop (Prod.fst (mgk a b i)) a); let z18 := cellsPs (List.drop z14 b); let z19 := (↑(List.length z16) : Int); let z20 := Prod.snd (Prod.snd (mgk a b i)); let z22 := FV.sl 8 (cellsPs (List.drop (Prod.fst (mgk a b (i + 1))) a)); let z23 := (↑(List.length z18) : Int); let z25 := FV.sl 8 (List.drop (Int.toNat 1) (List.take (Int.toNat (Option.getD none z19)) z16)); let z26 := FV.sl 8 (List.drop (Int.toNat 1) (List.take (Int.toNat (Option.getD none z23)) z18)); let z27 := List.getD a (Prod.fst (mgk a b i)) default; let z13 := Prod.fst z27; let z15 := int (V.kind z13) :: int (V.num z13) :: str (V.text z13) :: encI (V.items z13) :: cellsP (Prod.snd z27); let z28 := E 8 ∧ (0 : Int) ≤ 1 ∧ (1 : Int) ≤ Option.getD none z19 ∧ Option.getD none z19 ≤ z19; let z29 := Prod.snd (mgk a b (i + 1)); let z21 := FV.sl 8 (cellsPs (List.drop (Prod.fst z29) b)); let z30 := E 8 ∧ (0 : Int) ≤ 0 ∧ z16[Int.toNat 0]? = some z15; let z32 := List.getD b z14 default; let z17 := Prod.fst z32; let z12 := int (V.kind z17) :: int (V.num z17) :: str (V.text z17) :: encI (V.items z17) :: cellsP (Prod.snd z32); let z24 := Ob.row 8 44 (cellsPs z20 ++ chunk z8 1 z12) = Ob.row 8 44 (cellsPs (Prod.snd z29)) ∧ True; let z31 := E 8 ∧ (0 : Int) ≤ 0 ∧ z18[Int.toNat 0]? = some z12; i < N → decide (z19 > 0) = true ∧ decide (z23 > 0) = true ∧ E true ∧ z30 ∧ z31 ∧ CallsF P G 42 [encV z13, encV z17] (int (cmpV z13 z17)) ∧ Br (decide (cmpV z13 z17 < 0)) (z30 ∧ (oneF ([int (V.kind z13) :: int (V.num z13) :: str (V.text z13) :: encI (V.items z13) :: cellsP (Prod.snd z27)]) ∧ List.length (cellsPs z20) + List.length (chunk 8 1 z15) ≤ maxLen ∧ (List.length (cellsPs z20) + List.length (chunk 8 1 z15)) * 112 ≤ 140737488355328 ∧ E false) ∧ z28 ∧ E true ∧ (AV.f z25 = AV.f z22 ∧ AV.f (FV.sl 8 z18) = AV.f z21 ∧ E (AV.lsl 0) ∧ True) ∧ (Ob.row 8 44 (cellsPs z20 ++ chunk z8 1 z15) = Ob.row 8 44 (cellsPs (Prod.snd z29)) ∧ True) ∧ E true ∧ (false = true → false = true)) (z31 ∧ (oneF ([int (V.kind z17) :: int (V.num z17) :: str (V.text z17) :: encI (V.items z17) :: cellsP (Prod.snd z32)]) ∧ List.length (cellsPs z20) + List.length (chunk 8 1 z12) ≤ maxLen ∧ (List.length (cellsPs z20) + List.length (chunk 8 1 z12)) * 112 ≤ 140737488355328 ∧ E false) ∧ (E 8 ∧ (0 : Int) ≤ 1 ∧ (1 : Int) ≤ Option.getD none z23 ∧ Option.getD none z23 ≤ z23) ∧ Br (cmpV z13 z17 == 0) (z28 ∧ E true ∧ (AV.f z25 = AV.f z22 ∧ AV.f z26 = AV.f z21 ∧ E (AV.lsl 0) ∧ True) ∧ z24 ∧ E true ∧ (false = true → false = true)) (E true ∧ (AV.f (FV.sl 8 z16) = AV.f z22 ∧ AV.f z26 = AV.f z21 ∧ E (AV.lsl 0) ∧ True) ∧ z24 ∧ E true ∧ (false = true → false = true))))) ∧ Br (decide ((↑(List.length (cellsPs z5)) : Int) > 0)) (decide ((↑(List.length (cellsPs z6)) : Int) > 0) = false ∧ z3 ∧ z1 ∧ FV.sl 8 z10 = FV.sl 8 z9) (E false ∧ z3 ∧ z1 ∧ FV.sl 8 z10 = FV.sl 8 z9)) get59 ent59 (by kernel_rfl) ?_
  refine ⟨?_, ⟨rfl, ?_, ?_, ?_⟩, ?_, ⟨rfl, ?_, ?_, ?_⟩, ?_, ⟨rfl, ⟨?_, ?_, rfl, trivial⟩, ⟨rfl, trivial⟩, rfl, fun hi => ?_⟩, fun i => fun hi => ⟨?_, ?_, rfl, ⟨rfl, ?_, ?_⟩, ⟨rfl, ?_, ?_⟩, ?_, fun hi => ⟨⟨rfl, ?_, ?_⟩, ⟨?_, ?_, ?_, rfl⟩, ⟨rfl, ?_, ?_, ?_⟩, rfl, ⟨?_, ?_, rfl, trivial⟩, ⟨?_, trivial⟩, rfl, fun hi => ?_⟩, fun hi => ⟨⟨rfl, ?_, ?_⟩, ⟨?_, ?_, ?_, rfl⟩, ⟨rfl, ?_, ?_, ?_⟩, fun hi => ⟨⟨rfl, ?_, ?_, ?_⟩, rfl, ⟨?_, ?_, rfl, trivial⟩, ⟨?_, trivial⟩, rfl, fun hi => ?_⟩, fun hi => ⟨rfl, ⟨?_, ?_, rfl, trivial⟩, ⟨?_, trivial⟩, rfl, fun hi => ?_⟩⟩⟩, fun hi => ⟨?_, ⟨?_, ?_, ?_, rfl⟩, ⟨?_, ?_, ?_, rfl⟩, ?_⟩, fun hi => ⟨rfl, ⟨?_, ?_, ?_, rfl⟩, ⟨?_, ?_, ?_, rfl⟩, ?_⟩⟩
  all_goals first | rfl | (simp only [Option.getD_some, Option.getD_none, hq]; rw [cellsPs_length]; omega) | (simp only [Option.getD_some, Option.getD_none, hq]; omega) | (rw [hq, cellsPs_take]; exact iha) | (simp only [Option.getD_none, hq, Int.toNat_natCast, List.take_length, cellsPs_drop]; exact ihb) | (have h5 := hlt i (by omega); simp only [cellsPs_length, List.length_drop, Option.getD_none]; omega) | (have h5 := hlt i (by omega); exact drop0q _ _ (by omega)) | (have h5 := hlt i (by omega); simp only [cellsPs_length, List.length_drop, decide_eq_true_eq]; omega) | (have h5 := hlt i (by omega); exact refCompare_ok _ _ (hfa _ (getD_mem (by omega)))) | (have h5 := hlt i (by omega); have h6 := hA i (by omega); simp only [cellsPs_length, chunk, List.length_cons, List.length_nil, maxLen, List.length_append, List.length_drop]; omega) | (have h6 := hA N (by omega); simp only [cellsPs_length, chunk, List.length_cons, List.length_nil, maxLen, List.length_append, List.length_drop]; omega) | exact oneF_cellsPs _ | (have h5 := hlt i (by omega); simp only [decide_eq_true_eq, decide_eq_false_iff_not, beq_iff_eq, beq_eq_false_iff_ne] at *; (first | rw [mgk_lt (by assumption)] | rw [mgk_eq (by assumption)] | rw [mgk_gt (by assumption) (by assumption)]); exact congrArg AV.f (congrArg (FV.sl 8) (next1q _ _ _ rfl))) | (simp only [decide_eq_true_eq, decide_eq_false_iff_not, beq_iff_eq, beq_eq_false_iff_ne] at *; (first | rw [mgk_lt (by assumption)] | rw [mgk_eq (by assumption)] | rw [mgk_gt (by assumption) (by assumption)]); exact congrArg (Ob.row 8 44) (snocq _ _)) | (simp only [decide_eq_true_eq, decide_eq_false_iff_not, beq_iff_eq, beq_eq_false_iff_ne] at *; (first | rw [mgk_lt (by assumption)] | rw [mgk_eq (by assumption)] | rw [mgk_gt (by assumption) (by assumption)]); done) | (simp only [cellsPs_length, List.length_drop, decide_eq_true_eq, decide_eq_false_iff_not] at *; omega) | (simp only [cellsPs_app]; done) | (intro x hx; simp [cellsP] at hx; rcases hx with rfl | rfl | rfl | rfl | rfl | rfl | rfl | rfl <;> rfl)
theorem get58 : P.funcs[58]? = some Tryz.f58 := by kernel_rfl
theorem ent58 : entersP P 58 = true := by kernel_rfl
theorem mapof_run (l : List (V × V)) (N : Nat) (hN : N = l.length) (hl : l.length ≤ 65536) (hm : CallsF P G 81 [encV (.mk 6 0 [] (itemsL l))] (.tup [encV (madeR 6 (itemsL l)).1, int (madeR 6 (itemsL l)).2])) : CallsF P G 58 [encPs l] (.tup [encV (madeR 6 (itemsL l)).1, int (madeR 6 (itemsL l)).2]) := by
  refine sx_fn (hs := [.pre [.nrowb 1 3 4 34], .loop [(0,0),(1,1),(2,2)] [(0,0),(1,1),(5,2)] (Smo l) N (fun i => [.dec true, .el (cellsP (l.getD i default).1 ++ cellsP (l.getD i default).2)]), .dec false, .lfz [2], .call (.tup [encV (madeR 6 (itemsL l)).1, int (madeR 6 (itemsL l)).2])]) (let z1 := (↑(List.length (cellsPs l)) : Int); let z2 := FV.tup [encV (Prod.fst (madeR 6 (itemsL l))), int (Prod.snd (madeR 6 (itemsL l)))]; let z3 := Ob.box [AV.f (int 0), AV.f (int 0), AV.f (str []), AV.f FV.nils]; let z4 := Ob.box [AV.f (int 6), AV.f (int 0), AV.f (str []), AV.lsl 2]; (E true ∧ (E (AV.loc 0 0) ∧ E (AV.loc 1 0) ∧ E (AV.f (FV.sl 8 (cellsPs l))) ∧ E (AV.f (int z1)) ∧ AV.f (int 0) = AV.f (int (Int.ofNat 0)) ∧ True) ∧ (E z3 ∧ E z4 ∧ E (Ob.row 4 34 []) ∧ True) ∧ E true ∧ (false = true → false = true)) ∧ (∀ (i : Nat), (let z7 := itemsL (List.take i l); let z8 := List.getD l i default; let z6 := Prod.fst z8; let z5 := int (V.kind z6) :: int (V.num z6) :: str (V.text z6) :: encI (V.items z6) :: cellsP (Prod.snd z8); i < N → decide ((i : Int) < z1) = true ∧ (E 8 ∧ (0 : Int) ≤ (i : Int) ∧ (cellsPs l)[i]? = some z5) ∧ (oneF ([cellsP z6, cellsP (Prod.snd z8)]) ∧ List.length (cellsVs z7) + List.length (chunk 4 2 z5) ≤ maxLen ∧ (List.length (cellsVs z7) + List.length (chunk 4 2 z5)) * 56 ≤ 140737488355328 ∧ E false) ∧ E true ∧ (E (AV.loc 0 0) ∧ E (AV.loc 1 0) ∧ E (AV.f (FV.sl 8 (cellsPs l))) ∧ E (AV.f (int z1)) ∧ AV.f (int (IntKind.wrap IntKind.i64 ((i : Int) + 1))) = AV.f (int (↑(i + 1) : Int)) ∧ True) ∧ (E z3 ∧ E z4 ∧ Ob.row 4 34 (cellsVs z7 ++ chunk (TypeInfo.size (Tables.types (Program.toTables P))[34]) 2 z5) = Ob.row 4 34 (cellsVs (itemsL (List.take (i + 1) l))) ∧ True) ∧ E true ∧ (false = true → false = true))) ∧ decide ((N : Int) < z1) = false ∧ CallsF P G 81 [FV.agg [int 6, int 0, str [], encI (itemsL (List.take N l))]] z2 ∧ E z2) get58 ent58 (by kernel_rfl) ?_
  refine ⟨⟨rfl, ⟨rfl, rfl, rfl, rfl, ?_, trivial⟩, ⟨rfl, rfl, rfl, trivial⟩, rfl, fun hi => ?_⟩, fun i => fun hi => ⟨?_, ⟨rfl, ?_, ?_⟩, ⟨?_, ?_, ?_, rfl⟩, rfl, ⟨rfl, rfl, rfl, rfl, ?_, trivial⟩, ⟨rfl, rfl, ?_, trivial⟩, rfl, fun hi => ?_⟩, ?_, ?_, rfl⟩
  all_goals first | rfl | exact cellsPs_get l _ (by omega) | (simp only [cellsPs_length, decide_eq_true_eq, decide_eq_false_iff_not] at *; omega) | (exact congrArg (fun x => AV.f (int x)) (wrapS ((i : Int) + 1) (by omega) (by omega))) | exact congrArg (Ob.row 4 34) (itemsL_step l i (by omega)) | (have h9 := oneF_cellsVs [(l.getD i default).1, (l.getD i default).2]; simpa only [cellsVs, cellsP_eq] using h9) | (simp only [cellsVs_length, itemsL_len, chunk, List.length_take, List.length_cons, List.length_nil, maxLen]; omega) | (rw [hN, List.take_length]; exact hm) | assumption | omega
theorem get33 : P.funcs[33]? = some Tryz.f33 := by kernel_rfl
theorem ent33 : entersP P 33 = true := by kernel_rfl
theorem refMap_bad (l : List (V × V)) (h : CallsF P G 18 [encPs l] (int (pairL l))) (h0 : pairL l ≠ 0) : CallsF P G 33 [encPs l] (.tup [.agg [int 0, int 0, str [], .nils], int (pairL l)]) := by
  refine sx_fn (hs := [.call (int (pairL l)), .dec true]) ((CallsF P G 18 [FV.sl 8 (cellsPs l)] (int (pairL l))) ∧ ((pairL l != 0) = (true)) ∧ E (FV.tup [FV.agg [int 0, int 0, str [], FV.nils], int (pairL l)])) get33 ent33 (by kernel_rfl) ?_
  refine ⟨?_, ⟨?_, rfl⟩⟩
  all_goals first | exact h | (simp [h0]; done)
theorem refMap_good (l M : List (V × V)) (w : V) (e : Int) (h : CallsF P G 18 [encPs l] (int 0)) (h1 : CallsF P G 59 [encPs l] (encPs M)) (h2 : CallsF P G 58 [encPs M] (.tup [encV w, int e])) : CallsF P G 33 [encPs l] (.tup [encV w, int e]) := by
  refine sx_fn (hs := [.call (int 0), .dec false, .call (encPs M), .call (.tup [encV w, int e])]) (CallsF P G 18 [FV.sl 8 (cellsPs l)] (int 0) ∧ E false ∧ CallsF P G 59 [FV.sl 8 (cellsPs l)] (FV.sl 8 (cellsPs M)) ∧ CallsF P G 58 [FV.sl 8 (cellsPs M)] (FV.tup [encV w, int e]) ∧ E (FV.tup [encV w, int e])) get33 ent33 (by kernel_rfl) ?_
  refine ⟨?_, rfl, ?_, ?_, rfl⟩
  all_goals first | exact h | exact h1 | exact h2
theorem keyed_ok : ∀ (n : Nat) (l : List (V × V)), l.length ≤ n → l.length ≤ 65536 → (∀ x, x ∈ l → Fine x.1) → CallsF P G 59 [encPs l] (encPs (mapL l)) := by
  intro n
  induction n with
  | zero =>
    intro l hn _ _
    rw [mapL_small l (by omega)]
    exact keyed_short l (by omega)
  | succ n ih =>
    intro l hn hl hf
    by_cases h2 : l.length < 2
    · rw [mapL_small l h2]; exact keyed_short l h2
    · have ta : ∀ x, x ∈ l.take (l.length / 2) → x ∈ l := fun x hx => List.mem_of_mem_take hx
      have tb : ∀ x, x ∈ l.drop (l.length / 2) → x ∈ l := fun x hx => List.mem_of_mem_drop hx
      have iha := ih (l.take (l.length / 2)) (by simp; omega) (by simp; omega) (fun x hx => hf x (ta x hx))
      have ihb := ih (l.drop (l.length / 2)) (by simp; omega) (by simp; omega) (fun x hx => hf x (tb x hx))
      have hfa : ∀ x, x ∈ mapL (l.take (l.length / 2)) → Fine x.1 := fun x hx => hf x (ta x (mapL_mem hx))
      have hfb : ∀ x, x ∈ mapL (l.drop (l.length / 2)) → Fine x.1 := fun x hx => hf x (tb x (mapL_mem hx))
      have la := mapL_len (l.take (l.length / 2))
      have lb := mapL_len (l.drop (l.length / 2))
      have e2 := mapL_two (l.take (l.length / 2)) (l.drop (l.length / 2))
      rw [List.take_append_drop] at e2
      generalize mapL (l.take (l.length / 2)) = a at *
      generalize mapL (l.drop (l.length / 2)) = b at *
      have hlen : a.length + b.length ≤ l.length := by simp only [List.length_take, List.length_drop] at la lb; omega
      obtain ⟨N, h3, h4⟩ := exists_least (fun i => ¬ ((mgk a b i).1 < a.length ∧ (mgk a b i).2.1 < b.length)) (by
        apply Classical.byContradiction
        intro h
        have h : ∀ i, (mgk a b i).1 < a.length ∧ (mgk a b i).2.1 < b.length := fun i => by
          apply Classical.byContradiction; intro h'; exact h ⟨i, h'⟩
        have h5 := h (a.length + b.length)
        have h6 := (mgk_upto a b (a.length + b.length) fun j _ => h j).1
        omega)
      have hlt : ∀ i, i < N → (mgk a b i).1 < a.length ∧ (mgk a b i).2.1 < b.length := fun i hi => by
        apply Classical.byContradiction; intro h; have := h4 i h; omega
      have hI := fun i (hi : i ≤ N) => mgk_upto a b i fun j hj => hlt j (by omega)
      have e3 : (mgk a b N).2.2 ++ a.drop (mgk a b N).1 ++ b.drop (mgk a b N).2.1 = mapL l := by
        rw [← e2, ← (hI N (Nat.le_refl _)).2, List.append_assoc]
        congr 1
        rcases Nat.lt_or_ge (mgk a b N).1 a.length with h5 | h5
        · rw [show b.drop (mgk a b N).2.1 = [] from List.drop_eq_nil_of_le (by omega), mgL_nil, List.append_nil]
        · rw [show a.drop (mgk a b N).1 = [] from List.drop_eq_nil_of_le h5, List.nil_append]; simp only [mgL]
      rw [← e3]
      exact keyed_long l a b N (by omega) hl hlen hfa hfb iha ihb (fun i hi => ⟨(hI i hi).1.1, (hI i hi).1.2.1, (hI i hi).1.2.2.1⟩) hlt h3
theorem refMap_ok (l : List (V × V)) (hf : ∀ p, p ∈ l → Fine p.1 ∧ Fine p.2) : CallsF P G 33 [encPs l] (.tup [encV (mapR l).1, int (mapR l).2]) := by
  unfold mapR
  have hv := rpaired_ok l hf
  by_cases h0 : pairL l = 0
  · rw [if_pos h0]
    obtain ⟨hl, hr⟩ := pairL_zero h0
    rw [h0] at hv
    have hlen := mapL_len l
    have hF : ∀ x, x ∈ itemsL (mapL l) → Fine x := itemsL_fine fun p hp => hf p (mapL_mem hp)
    exact refMap_good l (mapL l) _ _ hv (keyed_ok l.length l (Nat.le_refl _) hl fun x hx => (hf x hx).1) (mapof_run (mapL l) _ rfl (by omega) (told_ok 6 (by omega) _ hF (by rw [itemsL_len]; omega)))
  · rw [if_neg h0]
    exact (refMap_bad l hv h0).weak (nilT _)
end Go.Sx
set_option maxRecDepth 100000
set_option maxHeartbeats 4000000
set_option linter.unusedSimpArgs false
set_option linter.unusedVariables false
namespace Go.Sx
open Go.Proofs Sp
theorem cellsPs_get2 (l : List (V × V)) (i j : Nat) (h : i = j) (hj : j < l.length) : (cellsPs l)[i]? = some (cellsP (l.getD j default).1 ++ cellsP (l.getD j default).2) := by subst h; exact cellsPs_get l _ hj
def Sris (o n : Int) (N1 : FV) (l : List (V × V)) (i : Nat) : St := { sl := slots 39 [(0, .f (int o)), (1, .f (encPs l)), (6, .f (.ptr [int o, int n, N1] 0)), (8, .f (int ((i + 1 : Nat) : Int)))], ob := [], nx := 0 }
theorem get6 : P.funcs[6]? = some Tryz.f6 := by kernel_rfl
theorem ent6 : entersP P 6 = true := by kernel_rfl
theorem ris_bad (o e : Int) (l : List (V × V)) (he : e ≠ 0) (h0 : CallsF P G 4 [int o, encPs l] (.tup [.sc (.pointer none), int e])) : CallsF P G 6 [int o, encPs l] (.tup [.sc (.pointer none), int e]) := by
  refine sx_fn (hs := [.call (.tup [.sc (.pointer none), int e]), .dec true]) ((CallsF P G 4 [int o, FV.sl 8 (cellsPs l)] (FV.tup [FV.sc (Value.pointer none), int e])) ∧ ((e != 0) = (true)) ∧ E (FV.tup [FV.sc (Value.pointer none), int e])) get6 ent6 (by kernel_rfl) ?_
  refine ⟨?_, ⟨?_, rfl⟩⟩
  all_goals first | exact h0 | (simp [he]; done)
theorem ris_all (o n : Int) (N1 : FV) (l : List (V × V)) (N : Nat) (d : Nat → Int) (hl : l.length ≤ 65536) (hN : N = l.length - 1) (h0 : CallsF P G 4 [int o, encPs l] (.tup [.ptr [int o, int n, N1] 0, int 0])) (hc : ∀ i, i < N → CallsF P G 20 [.ptr [int o, int n, N1] 0, encV (l.getD i default).1, encV (l.getD (i + 1) default).1] (int (d i))) (hd : ∀ i, i < N → d i < 0) : CallsF P G 6 [int o, encPs l] (.tup [.ptr [int o, int n, N1] 0, int 0]) := by
  refine sx_fn (hs := [.call (.tup [.ptr [int o, int n, N1] 0, int 0]), .dec false, .loop [] [] (Sris o n N1 l) N (fun i => [.dec true, .nat 14, .el (cellsP (l.getD (i) default).1 ++ cellsP (l.getD (i) default).2), .el (cellsP (l.getD (i + 1) default).1 ++ cellsP (l.getD (i + 1) default).2), .call (int (d i)), .dec false]), .dec false]) (let z1 := FV.tup [FV.ptr [int o, int n, N1] 0, int 0]; let z2 := AV.f (FV.ptr [int o, int n, N1] 0); let z3 := (↑(List.length (cellsPs l)) : Int); CallsF P G 4 [int o, FV.sl 8 (cellsPs l)] z1 ∧ E false ∧ (E true ∧ (E (AV.f (int o)) ∧ E (AV.f (FV.sl 8 (cellsPs l))) ∧ E z2 ∧ AV.f (int 1) = AV.f (int (Int.ofNat (0 + 1))) ∧ True) ∧ True ∧ E true ∧ (false = true → false = true)) ∧ (∀ (i : Nat), (let z5 := Prod.fst (List.getD l i default); let z6 := List.getD l (i + 1) default; let z4 := Prod.fst z6; i < N → decide ((↑(i + 1) : Int) < z3) = true ∧ E true ∧ (E 8 ∧ (0 : Int) ≤ IntKind.wrap IntKind.i64 ((↑(i + 1) : Int) - 1) ∧ (cellsPs l)[Int.toNat (IntKind.wrap IntKind.i64 ((↑(i + 1) : Int) - 1))]? = some (int (V.kind z5) :: int (V.num z5) :: str (V.text z5) :: encI (V.items z5) :: cellsP (Prod.snd (List.getD l i default)))) ∧ (E 8 ∧ (0 : Int) ≤ (↑(i + 1) : Int) ∧ (cellsPs l)[i + 1]? = some (int (V.kind z4) :: int (V.num z4) :: str (V.text z4) :: encI (V.items z4) :: cellsP (Prod.snd z6))) ∧ CallsF P G 20 [FV.ptr [int o, int n, N1] 0, encV z5, encV z4] (int (d i)) ∧ decide (d i ≥ 0) = false ∧ E true ∧ (E (AV.f (int o)) ∧ E (AV.f (FV.sl 8 (cellsPs l))) ∧ E z2 ∧ AV.f (int (IntKind.wrap IntKind.i64 ((↑(i + 1) : Int) + 1))) = AV.f (int (↑(i + 1 + 1) : Int)) ∧ True) ∧ True ∧ E true ∧ (false = true → false = true))) ∧ decide ((↑(N + 1) : Int) < z3) = false ∧ E z1) get6 ent6 (by kernel_rfl) ?_
  refine ⟨?_, rfl, ⟨rfl, ⟨rfl, rfl, rfl, ?_, trivial⟩, trivial, rfl, fun hi => ?_⟩, fun i => fun hi => ⟨?_, rfl, ⟨rfl, ?_, ?_⟩, ⟨rfl, ?_, ?_⟩, ?_, ?_, rfl, ⟨rfl, rfl, rfl, ?_, trivial⟩, trivial, rfl, fun hi => ?_⟩, ?_, rfl⟩
  all_goals first | exact h0 | (simp only [cellsPs_length, decide_eq_true_eq, decide_eq_false_iff_not] at *; omega) | exact hc i (by omega) | (rw [wrapS _ (by omega) (by omega)]; exact cellsPs_get2 l _ _ (by omega) (by omega)) | exact cellsPs_get l _ (by omega) | (rw [wrapS _ (by omega) (by omega)]; omega) | (exact congrArg (fun x => AV.f (int x)) (by rw [wrapS _ (by omega) (by omega)]; omega)) | (simp only [decide_eq_false_iff_not]; have := hd i (by omega); omega) | assumption | omega | (simp [V.kind, V.num, V.text, V.items, *]; done)
theorem ris_not (o n : Int) (N1 : FV) (l : List (V × V)) (N : Nat) (d : Nat → Int) (hl : l.length ≤ 65536) (hN : N + 1 < l.length) (h0 : CallsF P G 4 [int o, encPs l] (.tup [.ptr [int o, int n, N1] 0, int 0])) (hc : ∀ i, i ≤ N → CallsF P G 20 [.ptr [int o, int n, N1] 0, encV (l.getD i default).1, encV (l.getD (i + 1) default).1] (int (d i))) (hd : ∀ i, i < N → d i < 0) (hx : 0 ≤ d N) : CallsF P G 6 [int o, encPs l] (.tup [.sc (.pointer none), int 1]) := by
  refine sx_fn (hs := [.call (.tup [.ptr [int o, int n, N1] 0, int 0]), .dec false, .loop [] [] (Sris o n N1 l) N (fun i => [.dec true, .nat 14, .el (cellsP (l.getD (i) default).1 ++ cellsP (l.getD (i) default).2), .el (cellsP (l.getD (i + 1) default).1 ++ cellsP (l.getD (i + 1) default).2), .call (int (d i)), .dec false]), .dec true, .nat 14, .el (cellsP (l.getD (N) default).1 ++ cellsP (l.getD (N) default).2), .el (cellsP (l.getD (N + 1) default).1 ++ cellsP (l.getD (N + 1) default).2), .call (int (d N)), .dec true]) (let z2 := Prod.fst (List.getD l N default); let z3 := AV.f (FV.ptr [int o, int n, N1] 0); let z4 := (↑(List.length (cellsPs l)) : Int); let z5 := List.getD l (N + 1) default; let z1 := Prod.fst z5; CallsF P G 4 [int o, FV.sl 8 (cellsPs l)] (FV.tup [FV.ptr [int o, int n, N1] 0, int 0]) ∧ E false ∧ (E true ∧ (E (AV.f (int o)) ∧ E (AV.f (FV.sl 8 (cellsPs l))) ∧ E z3 ∧ AV.f (int 1) = AV.f (int (Int.ofNat (0 + 1))) ∧ True) ∧ True ∧ E true ∧ (false = true → false = true)) ∧ (∀ (i : Nat), (let z7 := Prod.fst (List.getD l i default); let z8 := List.getD l (i + 1) default; let z6 := Prod.fst z8; i < N → decide ((↑(i + 1) : Int) < z4) = true ∧ E true ∧ (E 8 ∧ (0 : Int) ≤ IntKind.wrap IntKind.i64 ((↑(i + 1) : Int) - 1) ∧ (cellsPs l)[Int.toNat (IntKind.wrap IntKind.i64 ((↑(i + 1) : Int) - 1))]? = some (int (V.kind z7) :: int (V.num z7) :: str (V.text z7) :: encI (V.items z7) :: cellsP (Prod.snd (List.getD l i default)))) ∧ (E 8 ∧ (0 : Int) ≤ (↑(i + 1) : Int) ∧ (cellsPs l)[i + 1]? = some (int (V.kind z6) :: int (V.num z6) :: str (V.text z6) :: encI (V.items z6) :: cellsP (Prod.snd z8))) ∧ CallsF P G 20 [FV.ptr [int o, int n, N1] 0, encV z7, encV z6] (int (d i)) ∧ decide (d i ≥ 0) = false ∧ E true ∧ (E (AV.f (int o)) ∧ E (AV.f (FV.sl 8 (cellsPs l))) ∧ E z3 ∧ AV.f (int (IntKind.wrap IntKind.i64 ((↑(i + 1) : Int) + 1))) = AV.f (int (↑(i + 1 + 1) : Int)) ∧ True) ∧ True ∧ E true ∧ (false = true → false = true))) ∧ decide ((↑(N + 1) : Int) < z4) = true ∧ E true ∧ (E 8 ∧ (0 : Int) ≤ IntKind.wrap IntKind.i64 ((↑(N + 1) : Int) - 1) ∧ (cellsPs l)[Int.toNat (IntKind.wrap IntKind.i64 ((↑(N + 1) : Int) - 1))]? = some (int (V.kind z2) :: int (V.num z2) :: str (V.text z2) :: encI (V.items z2) :: cellsP (Prod.snd (List.getD l N default)))) ∧ (E 8 ∧ (0 : Int) ≤ (↑(N + 1) : Int) ∧ (cellsPs l)[N + 1]? = some (int (V.kind z1) :: int (V.num z1) :: str (V.text z1) :: encI (V.items z1) :: cellsP (Prod.snd z5))) ∧ CallsF P G 20 [FV.ptr [int o, int n, N1] 0, encV z2, encV z1] (int (d N)) ∧ decide (d N ≥ 0) = true ∧ E (FV.tup [FV.sc (Value.pointer none), int 1])) get6 ent6 (by kernel_rfl) ?_
  refine ⟨?_, rfl, ⟨rfl, ⟨rfl, rfl, rfl, ?_, trivial⟩, trivial, rfl, fun hi => ?_⟩, fun i => fun hi => ⟨?_, rfl, ⟨rfl, ?_, ?_⟩, ⟨rfl, ?_, ?_⟩, ?_, ?_, rfl, ⟨rfl, rfl, rfl, ?_, trivial⟩, trivial, rfl, fun hi => ?_⟩, ?_, rfl, ⟨rfl, ?_, ?_⟩, ⟨rfl, ?_, ?_⟩, ?_, ?_, rfl⟩
  all_goals first | exact h0 | (simp only [cellsPs_length, decide_eq_true_eq, decide_eq_false_iff_not] at *; omega) | exact hc i (by omega) | exact hc N (by omega) | (rw [wrapS _ (by omega) (by omega)]; exact cellsPs_get2 l _ _ (by omega) (by omega)) | exact cellsPs_get l _ (by omega) | (rw [wrapS _ (by omega) (by omega)]; omega) | (exact congrArg (fun x => AV.f (int x)) (by rw [wrapS _ (by omega) (by omega)]; omega)) | (simp only [decide_eq_false_iff_not]; have := hd i (by omega); omega) | assumption | omega | (simp [V.kind, V.num, V.text, V.items, *]; done)
def Srris (o n : Int) (N2 : FV) (l : List (V × V)) (i : Nat) : St := { sl := slots 39 [(0, .f (int o)), (1, .f (encPs l)), (6, .f (.ptr [int o, N2] 0)), (8, .f (int ((i + 1 : Nat) : Int)))], ob := [], nx := 0 }
theorem get7 : P.funcs[7]? = some Tryz.f7 := by kernel_rfl
theorem ent7 : entersP P 7 = true := by kernel_rfl
theorem rris_bad (o e : Int) (l : List (V × V)) (he : e ≠ 0) (h0 : CallsF P G 5 [int o, encPs l] (.tup [.sc (.pointer none), int e])) : CallsF P G 7 [int o, encPs l] (.tup [.sc (.pointer none), int e]) := by
  refine sx_fn (hs := [.call (.tup [.sc (.pointer none), int e]), .dec true]) ((CallsF P G 5 [int o, FV.sl 8 (cellsPs l)] (FV.tup [FV.sc (Value.pointer none), int e])) ∧ ((e != 0) = (true)) ∧ E (FV.tup [FV.sc (Value.pointer none), int e])) get7 ent7 (by kernel_rfl) ?_
  refine ⟨?_, ⟨?_, rfl⟩⟩
  all_goals first | exact h0 | (simp [he]; done)
theorem rris_all (o n : Int) (N2 : FV) (l : List (V × V)) (N : Nat) (d : Nat → Int) (hl : l.length ≤ 65536) (hN : N = l.length - 1) (h0 : CallsF P G 5 [int o, encPs l] (.tup [.ptr [int o, N2] 0, int 0])) (hc : ∀ i, i < N → CallsF P G 21 [int o, encV (l.getD i default).1, encV (l.getD (i + 1) default).1] (int (d i))) (hd : ∀ i, i < N → d i < 0) : CallsF P G 7 [int o, encPs l] (.tup [.ptr [int o, N2] 0, int 0]) := by
  refine sx_fn (hs := [.call (.tup [.ptr [int o, N2] 0, int 0]), .dec false, .loop [] [] (Srris o n N2 l) N (fun i => [.dec true, .nat 14, .el (cellsP (l.getD (i) default).1 ++ cellsP (l.getD (i) default).2), .el (cellsP (l.getD (i + 1) default).1 ++ cellsP (l.getD (i + 1) default).2), .call (int (d i)), .dec false]), .dec false]) (let z1 := FV.tup [FV.ptr [int o, N2] 0, int 0]; let z2 := (↑(List.length (cellsPs l)) : Int); let z3 := AV.f (FV.ptr [int o, N2] 0); CallsF P G 5 [int o, FV.sl 8 (cellsPs l)] z1 ∧ E false ∧ (E true ∧ (E (AV.f (int o)) ∧ E (AV.f (FV.sl 8 (cellsPs l))) ∧ E z3 ∧ AV.f (int 1) = AV.f (int (Int.ofNat (0 + 1))) ∧ True) ∧ True ∧ E true ∧ (false = true → false = true)) ∧ (∀ (i : Nat), (let z5 := Prod.fst (List.getD l i default); let z6 := List.getD l (i + 1) default; let z4 := Prod.fst z6; i < N → decide ((↑(i + 1) : Int) < z2) = true ∧ E true ∧ (E 8 ∧ (0 : Int) ≤ IntKind.wrap IntKind.i64 ((↑(i + 1) : Int) - 1) ∧ (cellsPs l)[Int.toNat (IntKind.wrap IntKind.i64 ((↑(i + 1) : Int) - 1))]? = some (int (V.kind z5) :: int (V.num z5) :: str (V.text z5) :: encI (V.items z5) :: cellsP (Prod.snd (List.getD l i default)))) ∧ (E 8 ∧ (0 : Int) ≤ (↑(i + 1) : Int) ∧ (cellsPs l)[i + 1]? = some (int (V.kind z4) :: int (V.num z4) :: str (V.text z4) :: encI (V.items z4) :: cellsP (Prod.snd z6))) ∧ CallsF P G 21 [int o, encV z5, encV z4] (int (d i)) ∧ decide (d i ≥ 0) = false ∧ E true ∧ (E (AV.f (int o)) ∧ E (AV.f (FV.sl 8 (cellsPs l))) ∧ E z3 ∧ AV.f (int (IntKind.wrap IntKind.i64 ((↑(i + 1) : Int) + 1))) = AV.f (int (↑(i + 1 + 1) : Int)) ∧ True) ∧ True ∧ E true ∧ (false = true → false = true))) ∧ decide ((↑(N + 1) : Int) < z2) = false ∧ E z1) get7 ent7 (by kernel_rfl) ?_
  refine ⟨?_, rfl, ⟨rfl, ⟨rfl, rfl, rfl, ?_, trivial⟩, trivial, rfl, fun hi => ?_⟩, fun i => fun hi => ⟨?_, rfl, ⟨rfl, ?_, ?_⟩, ⟨rfl, ?_, ?_⟩, ?_, ?_, rfl, ⟨rfl, rfl, rfl, ?_, trivial⟩, trivial, rfl, fun hi => ?_⟩, ?_, rfl⟩
  all_goals first | exact h0 | (simp only [cellsPs_length, decide_eq_true_eq, decide_eq_false_iff_not] at *; omega) | exact hc i (by omega) | (rw [wrapS _ (by omega) (by omega)]; exact cellsPs_get2 l _ _ (by omega) (by omega)) | exact cellsPs_get l _ (by omega) | (rw [wrapS _ (by omega) (by omega)]; omega) | (exact congrArg (fun x => AV.f (int x)) (by rw [wrapS _ (by omega) (by omega)]; omega)) | (simp only [decide_eq_false_iff_not]; have := hd i (by omega); omega) | assumption | omega | (simp [V.kind, V.num, V.text, V.items, *]; done)
theorem rris_not (o n : Int) (N2 : FV) (l : List (V × V)) (N : Nat) (d : Nat → Int) (hl : l.length ≤ 65536) (hN : N + 1 < l.length) (h0 : CallsF P G 5 [int o, encPs l] (.tup [.ptr [int o, N2] 0, int 0])) (hc : ∀ i, i ≤ N → CallsF P G 21 [int o, encV (l.getD i default).1, encV (l.getD (i + 1) default).1] (int (d i))) (hd : ∀ i, i < N → d i < 0) (hx : 0 ≤ d N) : CallsF P G 7 [int o, encPs l] (.tup [.sc (.pointer none), int 1]) := by
  refine sx_fn (hs := [.call (.tup [.ptr [int o, N2] 0, int 0]), .dec false, .loop [] [] (Srris o n N2 l) N (fun i => [.dec true, .nat 14, .el (cellsP (l.getD (i) default).1 ++ cellsP (l.getD (i) default).2), .el (cellsP (l.getD (i + 1) default).1 ++ cellsP (l.getD (i + 1) default).2), .call (int (d i)), .dec false]), .dec true, .nat 14, .el (cellsP (l.getD (N) default).1 ++ cellsP (l.getD (N) default).2), .el (cellsP (l.getD (N + 1) default).1 ++ cellsP (l.getD (N + 1) default).2), .call (int (d N)), .dec true]) (let z2 := Prod.fst (List.getD l N default); let z3 := (↑(List.length (cellsPs l)) : Int); let z4 := AV.f (FV.ptr [int o, N2] 0); let z5 := List.getD l (N + 1) default; let z1 := Prod.fst z5; CallsF P G 5 [int o, FV.sl 8 (cellsPs l)] (FV.tup [FV.ptr [int o, N2] 0, int 0]) ∧ E false ∧ (E true ∧ (E (AV.f (int o)) ∧ E (AV.f (FV.sl 8 (cellsPs l))) ∧ E z4 ∧ AV.f (int 1) = AV.f (int (Int.ofNat (0 + 1))) ∧ True) ∧ True ∧ E true ∧ (false = true → false = true)) ∧ (∀ (i : Nat), (let z7 := Prod.fst (List.getD l i default); let z8 := List.getD l (i + 1) default; let z6 := Prod.fst z8; i < N → decide ((↑(i + 1) : Int) < z3) = true ∧ E true ∧ (E 8 ∧ (0 : Int) ≤ IntKind.wrap IntKind.i64 ((↑(i + 1) : Int) - 1) ∧ (cellsPs l)[Int.toNat (IntKind.wrap IntKind.i64 ((↑(i + 1) : Int) - 1))]? = some (int (V.kind z7) :: int (V.num z7) :: str (V.text z7) :: encI (V.items z7) :: cellsP (Prod.snd (List.getD l i default)))) ∧ (E 8 ∧ (0 : Int) ≤ (↑(i + 1) : Int) ∧ (cellsPs l)[i + 1]? = some (int (V.kind z6) :: int (V.num z6) :: str (V.text z6) :: encI (V.items z6) :: cellsP (Prod.snd z8))) ∧ CallsF P G 21 [int o, encV z7, encV z6] (int (d i)) ∧ decide (d i ≥ 0) = false ∧ E true ∧ (E (AV.f (int o)) ∧ E (AV.f (FV.sl 8 (cellsPs l))) ∧ E z4 ∧ AV.f (int (IntKind.wrap IntKind.i64 ((↑(i + 1) : Int) + 1))) = AV.f (int (↑(i + 1 + 1) : Int)) ∧ True) ∧ True ∧ E true ∧ (false = true → false = true))) ∧ decide ((↑(N + 1) : Int) < z3) = true ∧ E true ∧ (E 8 ∧ (0 : Int) ≤ IntKind.wrap IntKind.i64 ((↑(N + 1) : Int) - 1) ∧ (cellsPs l)[Int.toNat (IntKind.wrap IntKind.i64 ((↑(N + 1) : Int) - 1))]? = some (int (V.kind z2) :: int (V.num z2) :: str (V.text z2) :: encI (V.items z2) :: cellsP (Prod.snd (List.getD l N default)))) ∧ (E 8 ∧ (0 : Int) ≤ (↑(N + 1) : Int) ∧ (cellsPs l)[N + 1]? = some (int (V.kind z1) :: int (V.num z1) :: str (V.text z1) :: encI (V.items z1) :: cellsP (Prod.snd z5))) ∧ CallsF P G 21 [int o, encV z2, encV z1] (int (d N)) ∧ decide (d N ≥ 0) = true ∧ E (FV.tup [FV.sc (Value.pointer none), int 1])) get7 ent7 (by kernel_rfl) ?_
  refine ⟨?_, rfl, ⟨rfl, ⟨rfl, rfl, rfl, ?_, trivial⟩, trivial, rfl, fun hi => ?_⟩, fun i => fun hi => ⟨?_, rfl, ⟨rfl, ?_, ?_⟩, ⟨rfl, ?_, ?_⟩, ?_, ?_, rfl, ⟨rfl, rfl, rfl, ?_, trivial⟩, trivial, rfl, fun hi => ?_⟩, ?_, rfl, ⟨rfl, ?_, ?_⟩, ⟨rfl, ?_, ?_⟩, ?_, ?_, rfl⟩
  all_goals first | exact h0 | (simp only [cellsPs_length, decide_eq_true_eq, decide_eq_false_iff_not] at *; omega) | exact hc i (by omega) | exact hc N (by omega) | (rw [wrapS _ (by omega) (by omega)]; exact cellsPs_get2 l _ _ (by omega) (by omega)) | exact cellsPs_get l _ (by omega) | (rw [wrapS _ (by omega) (by omega)]; omega) | (exact congrArg (fun x => AV.f (int x)) (by rw [wrapS _ (by omega) (by omega)]; omega)) | (simp only [decide_eq_false_iff_not]; have := hd i (by omega); omega) | assumption | omega | (simp [V.kind, V.num, V.text, V.items, *]; done)
theorem get10 : P.funcs[10]? = some Tryz.f10 := by kernel_rfl
theorem ent10 : entersP P 10 = true := by kernel_rfl
theorem mvalue_run (o n e : Int) (t : T) (L : List (V × V)) (w : V) (h : CallsF P G 25 [encM o n t] (encPs L)) (h2 : CallsF P G 32 [encPs L] (.tup [encV w, int e])) : CallsF P G 10 [encM o n t] (.tup [encV w, int e]) := by
  refine sx_fn (hs := [.call (encPs L), .call (.tup [encV w, int e])]) ((CallsF P G 25 [encM o n t] (FV.sl 8 (cellsPs L))) ∧ (CallsF P G 32 [FV.sl 8 (cellsPs L)] (FV.tup [encV w, int e])) ∧ E (FV.tup [encV w, int e])) get10 ent10 (by kernel_rfl) ?_
  refine ⟨?_, ⟨?_, rfl⟩⟩
  all_goals first | exact h | exact h2
theorem get11 : P.funcs[11]? = some Tryz.f11 := by kernel_rfl
theorem ent11 : entersP P 11 = true := by kernel_rfl
theorem rmvalue_run (o e : Int) (L : List (V × V)) (w : V) (h2 : CallsF P G 33 [encPs L] (.tup [encV w, int e])) : CallsF P G 11 [.ptr [int o, encPs L] 0] (.tup [encV w, int e]) := by
  refine sx_fn (hs := [.call (.tup [encV w, int e])]) ((CallsF P G 33 [FV.sl 8 (cellsPs L)] (FV.tup [encV w, int e])) ∧ E (FV.tup [encV w, int e])) get11 ent11 (by kernel_rfl) ?_
  refine ⟨?_, rfl⟩
  all_goals exact h2
theorem get3 : P.funcs[3]? = some Tryz.f3 := by kernel_rfl
theorem ent3 : entersP P 3 = true := by kernel_rfl
theorem rof_law_bad (o e : Int) (l : List (V × V)) (he : e ≠ 0) (h0 : CallsF P G 4 [int o, encPs l] (.tup [.sc (.pointer none), int e])) (h1 : CallsF P G 5 [int o, encPs l] (.tup [.sc (.pointer none), int e])) (h2 : CallsF P G 6 [int o, encPs l] (.tup [.sc (.pointer none), int e])) (h3 : CallsF P G 7 [int o, encPs l] (.tup [.sc (.pointer none), int e])) (h4 : CallsF P G 9 [] (bool true)) : CallsF P G 3 [int o, encPs l] (bool true) := by
  refine sx_fn (hs := [.call (.tup [.sc (.pointer none), int e]), .call (.tup [.sc (.pointer none), int e]), .call (.tup [.sc (.pointer none), int e]), .call (.tup [.sc (.pointer none), int e]), .dec false, .dec false, .dec false, .dec false, .dec false, .dec false, .dec true, .call (bool true)]) (let z1 := FV.tup [FV.sc (Value.pointer none), int e]; CallsF P G 4 [int o, FV.sl 8 (cellsPs l)] z1 ∧ CallsF P G 5 [int o, FV.sl 8 (cellsPs l)] z1 ∧ CallsF P G 6 [int o, FV.sl 8 (cellsPs l)] z1 ∧ CallsF P G 7 [int o, FV.sl 8 (cellsPs l)] z1 ∧ (e != e) = false ∧ (e != e) = false ∧ (!true == (e != 0)) = false ∧ (!true == (e != 0)) = false ∧ (e == 0) = false ∧ E false ∧ (e != 0) = true ∧ CallsF P G 9 [] (bool true) ∧ E (bool true)) get3 ent3 (by kernel_rfl) ?_
  refine ⟨?_, ?_, ?_, ?_, ?_, ?_, ?_, ?_, ?_, rfl, ?_, ?_, rfl⟩
  all_goals first | exact h0 | exact h1 | exact h2 | exact h3 | exact h4 | (simp; done) | (simp_all; done)
theorem rof_law_ris (o n k : Int) (l : List (V × V)) (N1 N2 : FV) (w : V)  (h0 : CallsF P G 4 [int o, encPs l] (.tup [.ptr [int o, int n, N1] 0, int 0])) (h1 : CallsF P G 5 [int o, encPs l] (.tup [.ptr [int o, N2] 0, int 0])) (h2 : CallsF P G 6 [int o, encPs l] (.tup [.ptr [int o, int n, N1] 0, int 0])) (h3 : CallsF P G 7 [int o, encPs l] (.tup [.ptr [int o, N2] 0, int 0])) (h4 : CallsF P G 8 [.ptr [int o, int n, N1] 0, .ptr [int o, N2] 0] (bool true)) (h5 : CallsF P G 10 [.ptr [int o, int n, N1] 0] (.tup [encV w, int k])) (h6 : CallsF P G 11 [.ptr [int o, N2] 0] (.tup [encV w, int k])) (h7 : CallsF P G 12 [encV w, encV w] (bool true)) (h8 : CallsF P G 9 [] (bool true)) : CallsF P G 3 [int o, encPs l] (bool true) := by
  refine sx_fn (hs := [.call (.tup [.ptr [int o, int n, N1] 0, int 0]), .call (.tup [.ptr [int o, N2] 0, int 0]), .call (.tup [.ptr [int o, int n, N1] 0, int 0]), .call (.tup [.ptr [int o, N2] 0, int 0]), .dec false, .dec false, .dec false, .dec false, .dec true, .call (bool true), .dec false, .dec false, .call (.tup [encV w, int k]), .call (.tup [encV w, int k]), .call (bool true), .dec true, .call (bool true), .dec true, .dec true, .call (bool true)]) (let z1 := FV.tup [FV.ptr [int o, int n, N1] 0, int 0]; let z2 := FV.tup [FV.ptr [int o, N2] 0, int 0]; CallsF P G 4 [int o, FV.sl 8 (cellsPs l)] z1 ∧ CallsF P G 5 [int o, FV.sl 8 (cellsPs l)] z2 ∧ CallsF P G 6 [int o, FV.sl 8 (cellsPs l)] z1 ∧ CallsF P G 7 [int o, FV.sl 8 (cellsPs l)] z2 ∧ E false ∧ E false ∧ E false ∧ E false ∧ E true ∧ CallsF P G 8 [FV.ptr [int o, int n, N1] 0, FV.ptr [int o, N2] 0] (bool true) ∧ E false ∧ E false ∧ CallsF P G 10 [FV.ptr [int o, int n, N1] 0] (FV.tup [encV w, int k]) ∧ CallsF P G 11 [FV.ptr [int o, N2] 0] (FV.tup [encV w, int k]) ∧ CallsF P G 8 [FV.ptr [int o, int n, N1] 0, FV.ptr [int o, N2] 0] (bool true) ∧ E true ∧ CallsF P G 12 [encV w, encV w] (bool true) ∧ E true ∧ (k == k) = true ∧ CallsF P G 9 [] (bool true) ∧ E (bool true)) get3 ent3 (by kernel_rfl) ?_
  refine ⟨?_, ?_, ?_, ?_, rfl, rfl, rfl, rfl, rfl, ?_, rfl, rfl, ?_, ?_, ?_, rfl, ?_, rfl, ?_, ?_, rfl⟩
  all_goals first | exact h0 | exact h1 | exact h2 | exact h3 | exact h4 | exact h5 | exact h6 | exact h7 | exact h8 | (simp; done)
theorem rof_law_not (o n k : Int) (l : List (V × V)) (N1 N2 : FV) (w : V)  (h0 : CallsF P G 4 [int o, encPs l] (.tup [.ptr [int o, int n, N1] 0, int 0])) (h1 : CallsF P G 5 [int o, encPs l] (.tup [.ptr [int o, N2] 0, int 0])) (h2 : CallsF P G 6 [int o, encPs l] (.tup [.sc (.pointer none), int 1])) (h3 : CallsF P G 7 [int o, encPs l] (.tup [.sc (.pointer none), int 1])) (h4 : CallsF P G 8 [.ptr [int o, int n, N1] 0, .ptr [int o, N2] 0] (bool true)) (h5 : CallsF P G 10 [.ptr [int o, int n, N1] 0] (.tup [encV w, int k])) (h6 : CallsF P G 11 [.ptr [int o, N2] 0] (.tup [encV w, int k])) (h7 : CallsF P G 12 [encV w, encV w] (bool true)) (h8 : CallsF P G 9 [] (bool true)) : CallsF P G 3 [int o, encPs l] (bool true) := by
  refine sx_fn (hs := [.call (.tup [.ptr [int o, int n, N1] 0, int 0]), .call (.tup [.ptr [int o, N2] 0, int 0]), .call (.tup [.sc (.pointer none), int 1]), .call (.tup [.sc (.pointer none), int 1]), .dec false, .dec false, .dec false, .dec false, .dec false, .dec false, .dec false, .call (.tup [encV w, int k]), .call (.tup [encV w, int k]), .call (bool true), .dec true, .call (bool true), .dec true, .dec true, .call (bool true)]) (let z1 := FV.tup [FV.sc (Value.pointer none), int 1]; CallsF P G 4 [int o, FV.sl 8 (cellsPs l)] (FV.tup [FV.ptr [int o, int n, N1] 0, int 0]) ∧ CallsF P G 5 [int o, FV.sl 8 (cellsPs l)] (FV.tup [FV.ptr [int o, N2] 0, int 0]) ∧ CallsF P G 6 [int o, FV.sl 8 (cellsPs l)] z1 ∧ CallsF P G 7 [int o, FV.sl 8 (cellsPs l)] z1 ∧ E false ∧ E false ∧ E false ∧ E false ∧ E false ∧ E false ∧ E false ∧ CallsF P G 10 [FV.ptr [int o, int n, N1] 0] (FV.tup [encV w, int k]) ∧ CallsF P G 11 [FV.ptr [int o, N2] 0] (FV.tup [encV w, int k]) ∧ CallsF P G 8 [FV.ptr [int o, int n, N1] 0, FV.ptr [int o, N2] 0] (bool true) ∧ E true ∧ CallsF P G 12 [encV w, encV w] (bool true) ∧ E true ∧ (k == k) = true ∧ CallsF P G 9 [] (bool true) ∧ E (bool true)) get3 ent3 (by kernel_rfl) ?_
  refine ⟨?_, ?_, ?_, ?_, rfl, rfl, rfl, rfl, rfl, rfl, rfl, ?_, ?_, ?_, rfl, ?_, rfl, ?_, ?_, rfl⟩
  all_goals first | exact h0 | exact h1 | exact h2 | exact h3 | exact h4 | exact h5 | exact h6 | exact h7 | exact h8 | (simp; done)
theorem fine_mapR {l : List (V × V)} (hf : ∀ p, p ∈ l → Fine p.1 ∧ Fine p.2) (hl : l.length ≤ 65536) : Fine (mapR l).1 := by
  have hz : Fine V0 := Fine.mk 0 0 [] [] (by omega) (by omega) (by simp) (by simp) (by simp)
  have hlen := mapL_len l
  unfold mapR
  split
  · unfold madeR
    split
    · exact fineL (N := 2513169434844) (itemsL_fine fun p hp => hf p (mapL_mem hp)) (by rw [itemsL_len]; omega) (by omega) 6 (by omega)
    · exact hz
  · exact hz
/-- Pairs whose keys rise, and where they do not. -/
theorem ris_both (o : Int) (ho : 0 ≤ o ∧ o ≤ 5) (l : List (V × V)) (hl : l.length ≤ 65536) (hf : ∀ q, q ∈ l → RP q) (x : T × Nat) (L : List (V × V)) (h1 : CallsF P G 4 [int o, encPs l] (.tup [encX o x, int 0])) (h2 : CallsF P G 5 [int o, encPs l] (.tup [.ptr [int o, encPs L] 0, int 0])) :
    (CallsF P G 6 [int o, encPs l] (.tup [encX o x, int 0]) ∧ CallsF P G 7 [int o, encPs l] (.tup [.ptr [int o, encPs L] 0, int 0])) ∨ (CallsF P G 6 [int o, encPs l] (.tup [.sc (.pointer none), int 1]) ∧ CallsF P G 7 [int o, encPs l] (.tup [.sc (.pointer none), int 1])) := by
  have hc := fun (i : Nat) (hi : i + 1 < l.length) => cmpCO o ho (x.2 : Int) x.1 (l.getD i default).1 (l.getD (i + 1) default).1 (allP hf (by omega)).1 (allP hf hi).1 (allP hf (by omega)).2.2.1 (allP hf hi).2.2.1
  have hr := fun (i : Nat) (hi : i + 1 < l.length) => refOrd_ok o ho (l.getD i default).1 (l.getD (i + 1) default).1 (allP hf (by omega)).1 (allP hf hi).1 (allP hf (by omega)).2.2.1 (allP hf hi).2.2.1
  by_cases hall : ∃ i, i + 1 < l.length ∧ 0 ≤ cmpO o (l.getD i default).1 (l.getD (i + 1) default).1
  · obtain ⟨N, ⟨n1, n2⟩, n3⟩ := exists_least _ hall
    have hd : ∀ i, i < N → cmpO o (l.getD i default).1 (l.getD (i + 1) default).1 < 0 := fun i hi => by
      rcases Int.lt_or_le (cmpO o (l.getD i default).1 (l.getD (i + 1) default).1) 0 with h | h
      · exact h
      · have := n3 i ⟨by omega, h⟩; omega
    exact .inr ⟨ris_not o _ _ l N (fun i => cmpO o (l.getD i default).1 (l.getD (i + 1) default).1) hl n1 h1 (fun i hi => hc i (by omega)) hd n2, rris_not o 0 _ l N (fun i => cmpO o (l.getD i default).1 (l.getD (i + 1) default).1) hl n1 h2 (fun i hi => hr i (by omega)) hd n2⟩
  · have hd : ∀ i, i + 1 < l.length → cmpO o (l.getD i default).1 (l.getD (i + 1) default).1 < 0 := fun i hi => by
      rcases Int.lt_or_le (cmpO o (l.getD i default).1 (l.getD (i + 1) default).1) 0 with h | h
      · exact h
      · exact absurd ⟨i, hi, h⟩ hall
    exact .inl ⟨ris_all o _ _ l (l.length - 1) (fun i => cmpO o (l.getD i default).1 (l.getD (i + 1) default).1) hl rfl h1 (fun i hi => hc i (by omega)) (fun i hi => hd i (by omega)), rris_all o 0 _ l (l.length - 1) (fun i => cmpO o (l.getD i default).1 (l.getD (i + 1) default).1) hl rfl h2 (fun i hi => hr i (by omega)) (fun i hi => hd i (by omega))⟩
theorem rof_law (o : Int) (l : List (V × V)) (hl : ∀ x, x ∈ l → Fine x.1 ∧ Fine x.2) : CallsF P G 3 [int o, encPs l] (bool true) := by
  rcases of_both o l hl with ⟨e, he, a1, a2⟩ | ⟨ho, ll, hRl⟩
  · exact rof_law_bad o e l he a1 a2 (ris_bad o e l he a1) (rris_bad o e l he a2) speaks_ok
  have g1 := ofT_ok (c := cmpO o) hRl l.length (Nat.le_refl _)
  have g2 := ofT_fold (cmpO_line o) l l.length (Nat.le_refl _)
  rw [List.take_length] at g2
  have hk := kind_ok o
  rw [show (decide (0 ≤ o) && decide (o ≤ 5)) = true by rw [Bool.and_eq_true, decide_eq_true_eq, decide_eq_true_eq]; exact ho] at hk
  have hb := build_ok o ho l.length l (Nat.le_refl _) (by omega) hRl
  rw [← g2.1] at hb
  have a1 := of_ok (cmpCO o ho) ho ll hRl
  have a2 := rof_run o l _ hk (paired_all l l.length ll (Nat.le_refl _) (fun p hp => ⟨(hRl p hp).1, (hRl p hp).2.1⟩) (fun i hi => ⟨(allP hRl hi).2.2.1, (allP hRl hi).2.2.2⟩) rfl) hb
  generalize ofT (cmpO o) l l.length = x at *
  have hx : OkX x := g1.1
  have hn : x.2 ≤ 65536 := by omega
  have hsame := lsame_ok o hx hn
  have hfx : ∀ p, p ∈ x.1.toList → Fine p.1 ∧ Fine p.2 := fun p hp => ⟨(hx.2.2.2 p hp).1, (hx.2.2.2 p hp).2.1⟩
  have hlx := okX_len hx
  have hp := pairs_ok o (x.2 : Int) x.1 hfx (by have : x.1.size = x.2 := hx.2.2.1; omega)
  have v1 := mvalue_run o (x.2 : Int) _ x.1 _ _ hp (map_ok x.1.toList hfx)
  have v2 := rmvalue_run o _ x.1.toList _ (refMap_ok x.1.toList hfx)
  have v3 : CallsF P G 12 [encV (mapR x.1.toList).1, encV (mapR x.1.toList).1] (bool true) := by
    have h := eq_ok _ (fine_mapR hfx (by omega)) (mapR x.1.toList).1
    rwa [show eqB (mapR x.1.toList).1 (mapR x.1.toList).1 = true by simp [eqB]] at h
  rcases ris_both o ho l ll hRl x _ a1 a2 with ⟨b1, b2⟩ | ⟨b1, b2⟩
  · exact rof_law_ris o _ _ l _ _ _ a1 a2 b1 b2 hsame v1 v2 v3 speaks_ok
  · exact rof_law_not o _ _ l _ _ _ a1 a2 b1 b2 hsame v1 v2 v3 speaks_ok
end Go.Sx

/-
  Proved: what some functions of the program answer, or a law of the evaluator that shows it, one theorem each; its conditions are the hypotheses that stand ahead of it.
-/
import Derived.Test.YtgbkobkiomeokaaDoorD4
import Derived.KernelRfl
set_option maxRecDepth 100000
namespace Go.Sx
theorem sx_fnO {Q : Program} {G' : Gr} {f : Nat} {fn : Func} {args : List FV} {hs : List Hint} {e sz : Nat} {es : List (List FV)} (OB : Prop) (hf : Q.funcs[f]? = some fn) (he : entersP Q f = true) (ev : evalFnO Q G' fn args hs e sz es = OB) (h : OB) : CallsO Q G' f args e sz es :=
  CallsO_of_evalFnO hf he (by rw [ev]; exact h)
theorem sx_fnW {Q : Program} {G' : Gr} {f : Nat} {fn : Func} {rest : List FV} {hs : List Hint} {e sz : Nat} {es es' : List (List FV)} (OB : Prop) (hf : Q.funcs[f]? = some fn) (he : entersP Q f = true) (ev : evalFnW Q G' fn e sz es rest hs es' none = OB) (h : OB) : CallsW Q G' f e sz es rest es' none :=
  CallsW_of_evalFnW hf he (by rw [ev]; exact h)
end Go.Sx
set_option maxRecDepth 100000
set_option maxHeartbeats 4000000
set_option linter.unusedSimpArgs false
set_option linter.unusedVariables false
namespace Go.Sx
open Go.Proofs Sp
theorem oneF_cellsVs : ∀ l : List V, oneF (cellsVs l)
  | [] => by simp [oneF, cellsVs]
  | v :: l => by
    intro x hx
    simp only [cellsVs, List.flatten_cons, List.mem_append] at hx
    rcases hx with hx | hx
    · rw [cellsP_eq] at hx
      simp only [cellsP, List.mem_cons, List.not_mem_nil, or_false] at hx
      rcases hx with rfl | rfl | rfl | rfl <;> rfl
    · exact oneF_cellsVs l x hx
theorem get45 : P.funcs[45]? = some Tryd.f45 := by kernel_rfl
theorem ent45 : entersP P 45 = true := by kernel_rfl
theorem clone_ok (l : List V) (hl : l.length ≤ 2513169434844) : CallsO P G 45 [encI l] 25 4 (cellsVs l) := by
  refine sx_fnO (hs := [.br [] []]) (∀ (b : Bool), (cellsVs l ≠ [] → b = false) → Br (b == true) (cellsVs l = []) ((oneF (cellsVs l) ∧ 0 + List.length (cellsVs l) ≤ maxLen ∧ (0 + List.length (cellsVs l)) * 56 ≤ 140737488355328 ∧ E false) ∧ E 25 ∧ E 4 ∧ (chunk (TypeInfo.size (Tables.types (Program.toTables P))[25]) 0 [] ++ cellsVs l) = cellsVs l)) get45 ent45 (by kernel_rfl) ?_
  refine fun b => fun hi => ⟨fun hi => ?_, fun hi => ⟨⟨?_, ?_, ?_, rfl⟩, rfl, rfl, ?_⟩⟩
  all_goals first | exact oneF_cellsVs l | (rw [cellsVs_length]; simp only [maxLen]; omega) | (rw [cellsVs_length]; omega) | exact rfl | (simp_all [V.kind, V.num, V.text, V.items]; done)
end Go.Sx
set_option maxRecDepth 100000
set_option maxHeartbeats 4000000
set_option linter.unusedSimpArgs false
set_option linter.unusedVariables false
namespace Go.Sx
open Go.Proofs Sp
/-- slices.CompactFunc: those that are not like the one ahead of them. -/
def compF (q : V → V → Bool) : V → List V → List V
  | _, [] => []
  | p, y :: l => if q y p then compF q y l else y :: compF q y l
def comp (q : V → V → Bool) : List V → List V
  | [] => []
  | x :: l => x :: compF q x l
/-- Where the next one goes, and the row, behind j steps of the inner loop; the first two that are alike lie at N and N + 1. -/
def coR (q : V → V → Bool) (l : List V) (N : Nat) : Nat → Nat × List V
  | 0 => (N + 1, l)
  | j + 1 => if q (l.getD (N + 1 + (j + 1)) default) (l.getD (N + 1 + j) default) then coR q l N j else ((coR q l N j).1 + 1, (coR q l N j).2.set (coR q l N j).1 (l.getD (N + 1 + (j + 1)) default))
def ScoO (f : Nat) (l : List V) (i : Nat) : St := { sl := slots 66 [(0, .lsl 0), (1, .f (.fn f [] [])), (5, .f (int ((i + 1 : Nat) : Int)))], ob := [(0, .row 4 25 (cellsVs l))], nx := 1 }
def ScoI (q : V → V → Bool) (f : Nat) (l : List V) (N j : Nat) : St := { sl := slots 66 [(0, .lsl 0), (1, .f (.fn f [] [])), (5, .f (int ((coR q l N j).1 : Int))), (6, .lvw 0 4 (N + 1) (l.length - (N + 1))), (7, .f (int ((j + 1 : Nat) : Int)))], ob := [(0, .row 4 25 (cellsVs (coR q l N j).2))], nx := 1 }
section
variable {q : V → V → Bool} {l : List V} {N : Nat}
theorem getD_drop (l : List V) (i : Nat) (h : i < l.length) : l.drop i = l.getD i default :: l.drop (i + 1) := drop_cons h
theorem coR_facts (hn : N + 1 < l.length) : ∀ j, N + 1 + j < l.length → (coR q l N j).2.length = l.length ∧ N + 1 ≤ (coR q l N j).1 ∧ (coR q l N j).1 ≤ N + 1 + j ∧ ∀ i, N + 1 + j ≤ i → (coR q l N j).2.getD i default = l.getD i default
  | 0, _ => ⟨rfl, by simp [coR], by simp [coR], fun i _ => rfl⟩
  | j + 1, h => by
    obtain ⟨h1, h2, h3, h4⟩ := coR_facts hn j (by omega)
    simp only [coR]
    split
    · exact ⟨h1, h2, by omega, fun i hi => h4 i (by omega)⟩
    · refine ⟨by simpa using h1, by simp only; omega, by simp only; omega, fun i hi => ?_⟩
      simp only
      rw [List.getD_eq_getElem?_getD, List.getElem?_set_ne (by omega), ← List.getD_eq_getElem?_getD]
      exact h4 i (by omega)
theorem comp_prefix (hq : ∀ i, i < N → q (l.getD (i + 1) default) (l.getD i default) = false) : ∀ i, i ≤ N → i < l.length → comp q l = l.take (i + 1) ++ compF q (l.getD i default) (l.drop (i + 1))
  | 0, _, h => by
    cases l with
    | nil => simp at h
    | cons x l => simp [comp]
  | i + 1, hi, h => by
    rw [comp_prefix hq i (by omega) (by omega), getD_drop l (i + 1) h]
    simp only [compF]
    rw [hq i (by omega)]
    simp only [Bool.false_eq_true, if_false]
    rw [List.take_succ_eq_append_getElem h, List.append_assoc]
    simp only [List.getD_eq_getElem?_getD, List.getElem?_eq_getElem h, Option.getD_some, List.singleton_append]
theorem comp_id (hq : ∀ i, i < N → q (l.getD (i + 1) default) (l.getD i default) = false) (h : N + 1 = l.length) : comp q l = l := by
  rw [comp_prefix hq N (Nat.le_refl _) (by omega), List.drop_eq_nil_of_le (by omega), List.take_of_length_le (by omega)]
  simp [compF]
theorem comp_coR (hq : ∀ i, i < N → q (l.getD (i + 1) default) (l.getD i default) = false) (hn : N + 1 < l.length) (h2 : q (l.getD (N + 1) default) (l.getD N default) = true) :
    ∀ j, N + 1 + j < l.length → comp q l = (coR q l N j).2.take (coR q l N j).1 ++ compF q (l.getD (N + 1 + j) default) (l.drop (N + 1 + j + 1))
  | 0, h => by
    rw [comp_prefix hq N (Nat.le_refl _) (by omega), getD_drop l (N + 1) h]
    simp only [compF, h2, if_true, coR, Nat.add_zero]
  | j + 1, h => by
    obtain ⟨f1, f2, f3, f4⟩ := coR_facts (q := q) hn j (by omega)
    rw [comp_coR hq hn h2 j (by omega), getD_drop l (N + 1 + j + 1) (by omega)]
    simp only [compF, coR]
    rw [show N + 1 + (j + 1) = N + 1 + j + 1 from by omega]
    split
    · rfl
    · simp only
      have hlt : (coR q l N j).1 < (coR q l N j).2.length := by omega
      have : ((coR q l N j).2.set (coR q l N j).1 (l.getD (N + 1 + j + 1) default)).take ((coR q l N j).1 + 1) = (coR q l N j).2.take (coR q l N j).1 ++ [l.getD (N + 1 + j + 1) default] := by
        rw [List.take_succ_eq_append_getElem (by simpa using hlt)]
        simp [List.take_set]
        rw [List.set_eq_of_length_le (by simp; omega)]
      rw [this]
      simp
theorem comp_end (hq : ∀ i, i < N → q (l.getD (i + 1) default) (l.getD i default) = false) (hn : N + 1 < l.length) (h2 : q (l.getD (N + 1) default) (l.getD N default) = true) :
    (coR q l N (l.length - N - 2)).2.take (coR q l N (l.length - N - 2)).1 = comp q l := by
  rw [comp_coR hq hn h2 (l.length - N - 2) (by omega), List.drop_eq_nil_of_le (by omega)]
  simp [compF]
theorem coEl (l : List V) (i j : Nat) (h : i = j) (hj : j < l.length) : (cellsVs l)[i]? = some (cellsP (l.getD j default)) := by subst h; exact cellsVs_get l i hj
theorem coEl2 (l r : List V) (i j : Nat) (hr : r.getD j default = l.getD j default) (h : i = j) (hj : j < r.length) : (cellsVs r)[i]? = some (cellsP (l.getD j default)) := by rw [← hr]; exact coEl r i j h hj
theorem cellsVs_set : ∀ (l : List V) (i : Nat) (x : V), (cellsVs l).set i (cellsP x) = cellsVs (l.set i x)
  | [], _, _ => rfl
  | y :: l, 0, x => by simp [cellsVs, cellsP_eq]
  | y :: l, i + 1, x => by simp [cellsVs, cellsVs_set l i x]
theorem cellsVs_take : ∀ (l : List V) (i : Nat), (cellsVs l).take i = cellsVs (l.take i)
  | _, 0 => rfl
  | [], i + 1 => rfl
  | y :: l, i + 1 => by simp [cellsVs, cellsVs_take l i]
theorem take_front {α : Type} (a b c : List α) (k : Nat) (h : k ≤ a.length) : (a.take k ++ b ++ c).take k = a.take k := by
  rw [List.append_assoc, List.take_append_of_le_length (by rw [List.length_take]; omega), List.take_take, Nat.min_self]
end
theorem get47 : P.funcs[47]? = some Tryd.f47 := by kernel_rfl
theorem ent47 : entersP P 47 = true := by kernel_rfl
theorem compact_short {g : Gr} (f : Nat) (l : List V) (hl : l.length < 2) : CallsW P g 47 25 4 (cellsVs l) [.fn f [] []] (cellsVs l) none := by
  refine sx_fnW (hs := [.dec true]) (((decide ((↑(List.length (cellsVs l)) : Int) < 2)) = (true)) ∧ (E (25)) ∧ (E (4)) ∧ E (cellsVs l)) get47 ent47 (by kernel_rfl) ?_
  refine ⟨?_, ⟨rfl, ⟨rfl, rfl⟩⟩⟩
  all_goals (simp only [cellsVs_length, decide_eq_true_eq, decide_eq_false_iff_not]; omega)
theorem compact_all {g : Gr} (q : V → V → Bool) (f : Nat) (l : List V) (N : Nat) (hl : l.length ≤ 1152921504606846976) (hn : 2 ≤ l.length) (hN : N + 1 ≤ l.length) (hq : ∀ i, i < N → q (l.getD (i + 1) default) (l.getD i default) = false) (hc : ∀ i, i + 1 < l.length → CallsF P g f [encV (l.getD (i + 1) default), encV (l.getD i default)] (bool (q (l.getD (i + 1) default) (l.getD i default)))) (h1 : N + 1 = l.length) : CallsW P g 47 25 4 (cellsVs l) [.fn f [] []] (cellsVs l) none := by
  refine sx_fnW (hs := [.dec false, .loop [(0,0)] [(0,0)] (ScoO f l) N (fun i => [.dec true, .nat 11, .el (cellsP (l.getD (i + 1) default)), .el (cellsP (l.getD (i) default)), .call (bool false), .dec false]), .dec false]) (let z1 := (↑(List.length (cellsVs l)) : Int); let z2 := E (Ob.row 4 25 (cellsVs l)) ∧ True; decide (z1 < 2) = false ∧ (E true ∧ (E (AV.lsl 0) ∧ E (AV.f (FV.fn f [] [])) ∧ AV.f (int 1) = AV.f (int (Int.ofNat (0 + 1))) ∧ True) ∧ z2 ∧ E true ∧ (false = true → false = true)) ∧ (∀ (i : Nat), (let z3 := IntKind.wrap IntKind.i64 ((↑(i + 1) : Int) - 1); let z4 := List.getD l (i + 1) default; i < N → decide ((↑(i + 1) : Int) < z1) = true ∧ E true ∧ ((0 : Int) ≤ (↑(i + 1) : Int) ∧ i + 1 < List.length (cellsVs l)) ∧ (cellsVs l)[i + 1]? = some (cellsP z4) ∧ ((0 : Int) ≤ IntKind.wrap IntKind.i64 ((↑(i + 1) : Int) - 1) ∧ Int.toNat z3 < List.length (cellsVs l)) ∧ (cellsVs l)[Int.toNat z3]? = some (cellsP (List.getD l i default)) ∧ CallsF P g f [encV z4, encV (List.getD l i default)] (bool false) ∧ E false ∧ E true ∧ (E (AV.lsl 0) ∧ E (AV.f (FV.fn f [] [])) ∧ AV.f (int (IntKind.wrap IntKind.i64 ((↑(i + 1) : Int) + 1))) = AV.f (int (↑(i + 1 + 1) : Int)) ∧ True) ∧ z2 ∧ E true ∧ (false = true → false = true))) ∧ decide ((↑(N + 1) : Int) < z1) = false ∧ E 25 ∧ E 4 ∧ E (cellsVs l)) get47 ent47 (by kernel_rfl) ?_
  refine ⟨?_, ⟨rfl, ⟨rfl, rfl, ?_, trivial⟩, ⟨rfl, trivial⟩, rfl, fun hi => ?_⟩, fun i => fun hi => ⟨?_, rfl, ⟨?_, ?_⟩, ?_, ⟨?_, ?_⟩, ?_, ?_, rfl, rfl, ⟨rfl, rfl, ?_, trivial⟩, ⟨rfl, trivial⟩, rfl, fun hi => ?_⟩, ?_, rfl, rfl, rfl⟩
  all_goals first | exact rfl | omega | (rw [wrapS _ (by omega) (by omega)]; omega) | (simp only [cellsVs_length, decide_eq_true_eq, decide_eq_false_iff_not]; omega) | (rw [wrapS _ (by omega) (by omega)]; simp only [cellsVs_length]; omega) | exact coEl l _ _ (by first | omega | (rw [wrapS _ (by omega) (by omega)]; omega)) (by omega) | (have h3 := hc i (by omega); rw [hq i hi] at h3; exact h3) | (exact congrArg (fun x => AV.f (int x)) (by rw [wrapS _ (by omega) (by omega)]; omega))
theorem compact_some {g : Gr} (q : V → V → Bool) (f : Nat) (l : List V) (N : Nat) (hl : l.length ≤ 1152921504606846976) (hn : 2 ≤ l.length) (hN : N + 1 ≤ l.length) (hq : ∀ i, i < N → q (l.getD (i + 1) default) (l.getD i default) = false) (hc : ∀ i, i + 1 < l.length → CallsF P g f [encV (l.getD (i + 1) default), encV (l.getD i default)] (bool (q (l.getD (i + 1) default) (l.getD i default)))) (h1 : N + 1 < l.length) (h2 : q (l.getD (N + 1) default) (l.getD N default) = true) : CallsW P g 47 25 4 (cellsVs l) [.fn f [] []] (cellsVs ((coR q l N (l.length - N - 2)).2.take (coR q l N (l.length - N - 2)).1)) none := by
  refine sx_fnW (hs := [.dec false, .loop [(0,0)] [(0,0)] (ScoO f l) N (fun i => [.dec true, .nat 11, .el (cellsP (l.getD (i + 1) default)), .el (cellsP (l.getD (i) default)), .call (bool false), .dec false]), .dec true, .nat 11, .el (cellsP (l.getD (N + 1) default)), .el (cellsP (l.getD (N) default)), .call (bool true), .dec true, .own, .loop [(0,0)] [(0,0)] (ScoI q f l N) (l.length - N - 2) (fun j => [.dec true, .nat 12, .el (cellsP (l.getD (N + 1 + (j + 1)) default)), .el (cellsP (l.getD (N + 1 + j) default)), .call (bool (q (l.getD (N + 1 + (j + 1)) default) (l.getD (N + 1 + j) default))), .br [.el (cellsP (l.getD (N + 1 + (j + 1)) default))] []]), .dec false, .own, .own]) (let z1 := coR q l N (List.length l - N - 2); let z2 := cellsVs (Prod.snd z1); let z3 := List.length z2 - Prod.fst z1; let z4 := List.length l - (N + 1); let z5 := AV.f (FV.fn f [] []); let z6 := (↑(List.length (cellsVs l)) : Int); let z7 := (0 : Int) ≤ (↑(N + 1) : Int) ∧ N + 1 < List.length (cellsVs l); let z8 := IntKind.wrap IntKind.i64 ((↑(N + 1) : Int) - 1); let z9 := E (Ob.row 4 25 (cellsVs l)) ∧ True; let z10 := List.getD l (N + 1) default; decide (z6 < 2) = false ∧ (E true ∧ (E (AV.lsl 0) ∧ E z5 ∧ AV.f (int 1) = AV.f (int (Int.ofNat (0 + 1))) ∧ True) ∧ z9 ∧ E true ∧ (false = true → false = true)) ∧ (∀ (i : Nat), (let z11 := IntKind.wrap IntKind.i64 ((↑(i + 1) : Int) - 1); let z12 := List.getD l (i + 1) default; i < N → decide ((↑(i + 1) : Int) < z6) = true ∧ E true ∧ ((0 : Int) ≤ (↑(i + 1) : Int) ∧ i + 1 < List.length (cellsVs l)) ∧ (cellsVs l)[i + 1]? = some (cellsP z12) ∧ ((0 : Int) ≤ IntKind.wrap IntKind.i64 ((↑(i + 1) : Int) - 1) ∧ Int.toNat z11 < List.length (cellsVs l)) ∧ (cellsVs l)[Int.toNat z11]? = some (cellsP (List.getD l i default)) ∧ CallsF P g f [encV z12, encV (List.getD l i default)] (bool false) ∧ E false ∧ E true ∧ (E (AV.lsl 0) ∧ E z5 ∧ AV.f (int (IntKind.wrap IntKind.i64 ((↑(i + 1) : Int) + 1))) = AV.f (int (↑(i + 1 + 1) : Int)) ∧ True) ∧ z9 ∧ E true ∧ (false = true → false = true))) ∧ decide ((↑(N + 1) : Int) < z6) = true ∧ E true ∧ z7 ∧ (cellsVs l)[N + 1]? = some (cellsP z10) ∧ ((0 : Int) ≤ IntKind.wrap IntKind.i64 ((↑(N + 1) : Int) - 1) ∧ Int.toNat z8 < List.length (cellsVs l)) ∧ (cellsVs l)[Int.toNat z8]? = some (cellsP (List.getD l N default)) ∧ CallsF P g f [encV z10, encV (List.getD l N default)] (bool true) ∧ E true ∧ z7 ∧ (E true ∧ (E (AV.lsl 0) ∧ E z5 ∧ AV.f (int (↑(N + 1) : Int)) = AV.f (int (↑(Prod.fst (coR q l N 0)) : Int)) ∧ AV.lvw 0 4 (N + 1) (List.length (cellsVs l) - (N + 1)) = AV.lvw 0 4 (N + 1) z4 ∧ AV.f (int 1) = AV.f (int (Int.ofNat (0 + 1))) ∧ True) ∧ (Ob.row 4 25 (cellsVs l) = Ob.row 4 25 (cellsVs (Prod.snd (coR q l N 0))) ∧ True) ∧ E true ∧ (false = true → false = true)) ∧ (∀ (i : Nat), (let z13 := cellsVs (Prod.snd (coR q l N i)); let z14 := List.getD l (N + 1 + (i + 1)) default; let z15 := List.getD l (N + 1 + i) default; let z16 := Prod.fst (coR q l N i); let z17 := (0 : Int) ≤ (↑(i + 1) : Int) ∧ i + 1 < List.length l - (N + 1); let z18 := int (IntKind.wrap IntKind.i64 ((↑(i + 1) : Int) + 1)); let z19 := IntKind.wrap IntKind.i64 ((↑(i + 1) : Int) - 1); let z20 := int (↑(Prod.fst (coR q l N (i + 1))) : Int); let z21 := cellsVs (Prod.snd (coR q l N (i + 1))); i < List.length l - N - 2 → decide ((↑(i + 1) : Int) < (↑z4 : Int)) = true ∧ E true ∧ z17 ∧ z13[N + 1 + (i + 1)]? = some (cellsP z14) ∧ ((0 : Int) ≤ IntKind.wrap IntKind.i64 ((↑(i + 1) : Int) - 1) ∧ Int.toNat z19 < List.length l - (N + 1)) ∧ z13[N + 1 + Int.toNat z19]? = some (cellsP z15) ∧ CallsF P g f [encV z14, encV z15] (bool (q z14 z15)) ∧ Br (!q z14 z15) (z17 ∧ z13[N + 1 + (i + 1)]? = some (cellsP z14) ∧ ((0 : Int) ≤ (↑z16 : Int) ∧ Prod.fst (coR q l N i) < List.length z13) ∧ Prod.fst (coR q l N i) < List.length z13 ∧ E true ∧ (E (AV.lsl 0) ∧ E z5 ∧ AV.f (int (IntKind.wrap IntKind.i64 ((↑z16 : Int) + 1))) = AV.f z20 ∧ E (AV.lvw 0 4 (N + 1) z4) ∧ AV.f z18 = AV.f (int (↑(i + 1 + 1) : Int)) ∧ True) ∧ (Ob.row 4 25 (List.set z13 z16 (cellsP z14)) = Ob.row 4 25 z21 ∧ True) ∧ E true ∧ (false = true → false = true)) (E true ∧ (E (AV.lsl 0) ∧ E z5 ∧ AV.f (int (↑z16 : Int)) = AV.f z20 ∧ E (AV.lvw 0 4 (N + 1) z4) ∧ AV.f z18 = AV.f (int (↑(i + 1 + 1) : Int)) ∧ True) ∧ (Ob.row 4 25 z13 = Ob.row 4 25 z21 ∧ True) ∧ E true ∧ (false = true → false = true)))) ∧ decide ((↑(List.length l - N - 2 + 1) : Int) < (↑z4 : Int)) = false ∧ ((0 : Int) ≤ (↑(Prod.fst z1) : Int) ∧ Prod.fst z1 < List.length z2) ∧ (Prod.fst z1 + z3 ≤ List.length z2 ∧ (0 : Nat) < List.length z2 - Prod.fst z1 ∧ oneF ([[int 0, int 0, str [], FV.nils]])) ∧ ((0 : Int) ≤ (↑(Prod.fst z1) : Int) ∧ Prod.fst z1 ≤ List.length (List.take (Prod.fst z1) z2 ++ List.replicate z3 (List.map fV1 (Array.toList (Value.cells (Value.agg #[Value.int IntKind.i64 0, Value.int IntKind.i64 0, Value.string { data := #[] }, Value.slice none 0 0])))) ++ List.drop (Prod.fst z1 + z3) z2)) ∧ E 25 ∧ E 4 ∧ List.take (Prod.fst z1) (List.take (Prod.fst z1) z2 ++ List.replicate z3 (List.map fV1 (Array.toList (Value.cells (Value.agg #[Value.int IntKind.i64 0, Value.int IntKind.i64 0, Value.string { data := #[] }, Value.slice none 0 0])))) ++ List.drop (Prod.fst z1 + z3) z2) = cellsVs (List.take (Prod.fst z1) (Prod.snd z1))) get47 ent47 (by kernel_rfl) ?_
  refine ⟨?_, ⟨rfl, ⟨rfl, rfl, ?_, trivial⟩, ⟨rfl, trivial⟩, rfl, fun hi => ?_⟩, fun i => fun hi => ⟨?_, rfl, ⟨?_, ?_⟩, ?_, ⟨?_, ?_⟩, ?_, ?_, rfl, rfl, ⟨rfl, rfl, ?_, trivial⟩, ⟨rfl, trivial⟩, rfl, fun hi => ?_⟩, ?_, rfl, ⟨?_, ?_⟩, ?_, ⟨?_, ?_⟩, ?_, ?_, rfl, ⟨?_, ?_⟩, ⟨rfl, ⟨rfl, rfl, ?_, ?_, ?_, trivial⟩, ⟨?_, trivial⟩, rfl, fun hi => ?_⟩, fun i => fun hi => ⟨?_, rfl, ⟨?_, ?_⟩, ?_, ⟨?_, ?_⟩, ?_, ?_, fun hi => ⟨⟨?_, ?_⟩, ?_, ⟨?_, ?_⟩, ?_, rfl, ⟨rfl, rfl, ?_, rfl, ?_, trivial⟩, ⟨?_, trivial⟩, rfl, fun hi => ?_⟩, fun hi => ⟨rfl, ⟨rfl, rfl, ?_, rfl, ?_, trivial⟩, ⟨?_, trivial⟩, rfl, fun hi => ?_⟩⟩, ?_, ⟨?_, ?_⟩, ⟨?_, ?_, ?_⟩, ⟨?_, ?_⟩, rfl, rfl, ?_⟩
  all_goals first | exact rfl | omega | (rw [wrapS _ (by omega) (by omega)]; omega) | (simp only [cellsVs_length, decide_eq_true_eq, decide_eq_false_iff_not]; omega) | (rw [wrapS _ (by omega) (by omega)]; simp only [cellsVs_length]; omega) | exact coEl l _ _ (by first | omega | (rw [wrapS _ (by omega) (by omega)]; omega)) (by omega) | exact coEl2 l _ _ _ ((coR_facts (q := q) (l := l) (N := N) (by omega) i (by omega)).2.2.2 _ (by omega)) (by first | omega | (rw [wrapS _ (by omega) (by omega)]; omega)) (by rw [(coR_facts (q := q) (l := l) (N := N) (by omega) i (by omega)).1]; omega) | (have h3 := hc i (by omega); rw [hq i hi] at h3; exact h3) | (have h3 := hc N (by omega); rw [h2] at h3; exact h3) | exact hc (N + 1 + i) (by omega) | (exact congrArg (fun x => AV.f (int x)) (by rw [wrapS _ (by omega) (by omega)]; omega)) | (simp only [cellsVs_length, Int.toNat_natCast]; done) | (have hF := coR_facts (q := q) (l := l) (N := N) (by omega) i (by omega); simp only [cellsVs_length, hF.1]; omega) | (have hF := coR_facts (q := q) (l := l) (N := N) (by omega) (l.length - N - 2) (by omega); simp only [cellsVs_length, hF.1]; omega) | (have hF := coR_facts (q := q) (l := l) (N := N) (by omega) i (by omega); simp only [coR]; rw [if_neg (by simpa using hi)]; exact congrArg (fun x => AV.f (int x)) (by rw [wrapS _ (by omega) (by omega)]; omega)) | (simp only [coR]; rw [if_neg (by simpa using hi)]; exact congrArg (Ob.row 4 25) (cellsVs_set _ _ _)) | (simp only [coR]; rw [if_pos (by simpa using hi)]) | (intro x hx; simp at hx; rcases hx with rfl | rfl | rfl | rfl <;> rfl) | (have hF := coR_facts (q := q) (l := l) (N := N) (by omega) (l.length - N - 2) (by omega); rw [List.length_append, List.length_append, List.length_take, cellsVs_length, hF.1]; omega) | (have hF := coR_facts (q := q) (l := l) (N := N) (by omega) (l.length - N - 2) (by omega); rw [take_front _ _ _ _ (by rw [cellsVs_length, hF.1]; omega)]; exact cellsVs_take _ _)
theorem compact_ok {g : Gr} (q : V → V → Bool) (f : Nat) (l : List V) (hl : l.length ≤ 1152921504606846976) (hc : ∀ i, i + 1 < l.length → CallsF P g f [encV (l.getD (i + 1) default), encV (l.getD i default)] (bool (q (l.getD (i + 1) default) (l.getD i default)))) :
    CallsW P g 47 25 4 (cellsVs l) [.fn f [] []] (cellsVs (comp q l)) none := by
  by_cases hn : l.length < 2
  · have : comp q l = l := by
      match l, hn with
      | [], _ => rfl
      | [x], _ => rfl
      | _ :: _ :: _, h => simp at h; omega
    rw [this]; exact compact_short f l hn
  · obtain ⟨N, h1, h2⟩ := exists_least (fun i => i + 1 = l.length ∨ (i + 1 < l.length ∧ q (l.getD (i + 1) default) (l.getD i default) = true)) ⟨l.length - 1, .inl (by omega)⟩
    have hN : N + 1 ≤ l.length := by rcases h1 with h | h <;> omega
    have hq : ∀ i, i < N → q (l.getD (i + 1) default) (l.getD i default) = false := fun i hi => by
      cases h : q (l.getD (i + 1) default) (l.getD i default) with
      | false => rfl
      | true => have := h2 i (.inr ⟨by omega, h⟩); omega
    rcases h1 with h1 | ⟨h1, h3⟩
    · rw [comp_id hq h1]; exact compact_all q f l N hl (by omega) hN hq hc h1
    · rw [← comp_end hq h1 h3]; exact compact_some q f l N hl (by omega) hN hq hc h1 h3
end Go.Sx

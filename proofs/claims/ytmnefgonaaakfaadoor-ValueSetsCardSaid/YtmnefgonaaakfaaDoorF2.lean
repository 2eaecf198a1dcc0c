/-
  Proved: what some functions of the program answer, or a law of the evaluator that shows it, one theorem each; its conditions are the hypotheses that stand ahead of it.
-/
import Derived.Test.YtmnefgonaaakfaaDoorF1
import Derived.KernelRfl
set_option maxRecDepth 100000
set_option linter.unusedSimpArgs false
set_option linter.unusedVariables false
namespace Go.Sx
open Go.Proofs Sp
/-- Rising values, each once, as the reference reckons. -/
def onc (l : List V) : Nat → List V
  | 0 => []
  | i + 1 => if (onc l i).length = 0 ∨ cmpV ((onc l i).getD ((onc l i).length - 1) default) (l.getD i default) ≠ 0 then onc l i ++ [l.getD i default] else onc l i
def Sonc (l : List V) (i : Nat) : St := { sl := slots 33 [(3, .lsl 0), (7, .f (encI l)), (8, .f (int (cellsVs l).length)), (9, .f (int (i : Int)))], ob := [(0, .row 4 24 (cellsVs (onc l i)))], nx := 1 }
theorem onc_len (l : List V) : ∀ i, (onc l i).length ≤ i
  | 0 => by simp [onc]
  | i + 1 => by
    have := onc_len l i
    simp only [onc]
    split
    · simp; omega
    · omega
theorem onc_mem {l : List V} : ∀ i, i ≤ l.length → ∀ x, x ∈ onc l i → x ∈ l
  | 0, _, x, h => by simp [onc] at h
  | i + 1, hi, x, h => by
    simp only [onc] at h
    split at h
    · rcases List.mem_append.1 h with h | h
      · exact onc_mem i (by omega) x h
      · have e : x = l.getD i default := by simpa using h
        rw [e, List.getD_eq_getElem?_getD, List.getElem?_eq_getElem (by omega)]; exact List.getElem_mem _
    · exact onc_mem i (by omega) x h
theorem cellsVs_snoc (l : List V) (x : V) : cellsVs l ++ [cellsP x] = cellsVs (l ++ [x]) := by rw [cellsVs_app]; simp [cellsVs, cellsP_eq]
theorem get52 : P.funcs[52]? = some Tryd.f52 := by kernel_rfl
theorem ent52 : entersP P 52 = true := by kernel_rfl
theorem once_run (l : List V) (hl : l.length ≤ 65536) (hf : ∀ x, x ∈ l → Fine x) : CallsF P G 52 [encI l] (encI (onc l l.length)) := by
  refine sx_fn (hs := [.pre [.nrow 3 4 24], .loop [(0,0)] [(0,0)] (Sonc l) l.length (fun i => [.dec true, .el (cellsP (l.getD i default)), .nat 12, .br [.dec true, .ren [(3,0)]] [.el (cellsP (((onc l i).getD ((onc l i).length - 1) default))), .call (int (cmpV ((onc l i).getD ((onc l i).length - 1) default) (l.getD i default))), .br [.ren [(3,0)]] [.ren [(0,0)]]]]), .dec false, .frz [0]]) ((((true) = (true)) ∧ (((AV.lsl 0) = (AV.lsl 0)) ∧ ((AV.f (FV.sl 4 (cellsVs l))) = (AV.f (FV.sl 4 (cellsVs l)))) ∧ ((AV.f (FV.sc (Value.int IntKind.i64 (↑(List.length (cellsVs l)) : Int)))) = (AV.f (FV.sc (Value.int IntKind.i64 (↑(List.length (cellsVs l)) : Int))))) ∧ ((AV.f (FV.sc (Value.int IntKind.i64 (Int.ofNat 0)))) = (AV.f (FV.sc (Value.int IntKind.i64 (Int.ofNat 0))))) ∧ True) ∧ ((Ob.row 4 24 []) = (Ob.row 4 24 [])) ∧ True) ∧ ((∀ (i : Nat), ((i < List.length l) → (((decide ((↑i : Int) < (↑(List.length (cellsVs l)) : Int))) = (true)) ∧ (((4) = (4)) ∧ (0 ≤ (↑i : Int)) ∧ ((cellsVs l)[Int.toNat (↑i : Int)]?) = (some [FV.sc (Value.int IntKind.i64 (V.kind (List.getD l i default))), FV.sc (Value.int IntKind.i64 (V.num (List.getD l i default))), FV.sc (Value.string { data := List.toArray (V.text (List.getD l i default)) }), FV.sl 4 (cellsVs (V.items (List.getD l i default)))])) ∧ ((true) = (true)) ∧ (((((↑(List.length (cellsVs (onc l i))) : Int) == 0) = (true)) → (((true) = (true)) ∧ ((oneF ([[FV.sc (Value.int IntKind.i64 (V.kind (List.getD l i default))), FV.sc (Value.int IntKind.i64 (V.num (List.getD l i default))), FV.sc (Value.string { data := List.toArray (V.text (List.getD l i default)) }), FV.sl 4 (cellsVs (V.items (List.getD l i default)))]])) ∧ (List.length (cellsVs (onc l i)) + List.length (chunk 4 1 [int (V.kind (List.getD l i default)), int (V.num (List.getD l i default)), str (V.text (List.getD l i default)), FV.sl 4 (cellsVs (V.items (List.getD l i default)))]) ≤ maxLen) ∧ ((List.length (cellsVs (onc l i)) + List.length (chunk 4 1 [int (V.kind (List.getD l i default)), int (V.num (List.getD l i default)), str (V.text (List.getD l i default)), FV.sl 4 (cellsVs (V.items (List.getD l i default)))])) * 56 ≤ 140737488355328) ∧ (false) = (false)) ∧ ((true) = (true)) ∧ (((AV.lsl 0) = (AV.lsl 0)) ∧ ((AV.f (FV.sl 4 (cellsVs l))) = (AV.f (FV.sl 4 (cellsVs l)))) ∧ ((AV.f (FV.sc (Value.int IntKind.i64 (↑(List.length (cellsVs l)) : Int)))) = (AV.f (FV.sc (Value.int IntKind.i64 (↑(List.length (cellsVs l)) : Int))))) ∧ ((AV.f (FV.sc (Value.int IntKind.i64 (IntKind.wrap IntKind.i64 ((↑i : Int) + 1))))) = (AV.f (FV.sc (Value.int IntKind.i64 (↑(i + 1) : Int))))) ∧ True) ∧ ((Ob.row 4 24 (cellsVs (onc l i) ++ chunk (TypeInfo.size (Tables.types (Program.toTables P))[24]) 1 [int (V.kind (List.getD l i default)), int (V.num (List.getD l i default)), str (V.text (List.getD l i default)), FV.sl 4 (cellsVs (V.items (List.getD l i default)))])) = (Ob.row 4 24 (cellsVs (onc l (i + 1))))) ∧ True))) ∧ ((((↑(List.length (cellsVs (onc l i))) : Int) == 0) = (false)) → (((0 ≤ IntKind.wrap IntKind.i64 ((↑(List.length (cellsVs (onc l i))) : Int) - 1)) ∧ Int.toNat (IntKind.wrap IntKind.i64 ((↑(List.length (cellsVs (onc l i))) : Int) - 1)) < List.length (cellsVs (onc l i))) ∧ (((cellsVs (onc l i))[Int.toNat (IntKind.wrap IntKind.i64 ((↑(List.length (cellsVs (onc l i))) : Int) - 1))]?) = (some [FV.sc (Value.int IntKind.i64 (V.kind (List.getD (onc l i) (List.length (onc l i) - 1) default))), FV.sc (Value.int IntKind.i64 (V.num (List.getD (onc l i) (List.length (onc l i) - 1) default))), FV.sc (Value.string { data := List.toArray (V.text (List.getD (onc l i) (List.length (onc l i) - 1) default)) }), FV.sl 4 (cellsVs (V.items (List.getD (onc l i) (List.length (onc l i) - 1) default)))])) ∧ (CallsF P G 79 [FV.agg [FV.sc (Value.int IntKind.i64 (V.kind (List.getD (onc l i) (List.length (onc l i) - 1) default))), FV.sc (Value.int IntKind.i64 (V.num (List.getD (onc l i) (List.length (onc l i) - 1) default))), FV.sc (Value.string { data := List.toArray (V.text (List.getD (onc l i) (List.length (onc l i) - 1) default)) }), FV.sl 4 (cellsVs (V.items (List.getD (onc l i) (List.length (onc l i) - 1) default)))], FV.agg [FV.sc (Value.int IntKind.i64 (V.kind (List.getD l i default))), FV.sc (Value.int IntKind.i64 (V.num (List.getD l i default))), FV.sc (Value.string { data := List.toArray (V.text (List.getD l i default)) }), FV.sl 4 (cellsVs (V.items (List.getD l i default)))]] (FV.sc (Value.int IntKind.i64 (cmpV (List.getD (onc l i) (List.length (onc l i) - 1) default) (List.getD l i default))))) ∧ ((((cmpV (List.getD (onc l i) (List.length (onc l i) - 1) default) (List.getD l i default) != 0) = (true)) → (((oneF ([[FV.sc (Value.int IntKind.i64 (V.kind (List.getD l i default))), FV.sc (Value.int IntKind.i64 (V.num (List.getD l i default))), FV.sc (Value.string { data := List.toArray (V.text (List.getD l i default)) }), FV.sl 4 (cellsVs (V.items (List.getD l i default)))]])) ∧ (List.length (cellsVs (onc l i)) + List.length (chunk 4 1 [int (V.kind (List.getD l i default)), int (V.num (List.getD l i default)), str (V.text (List.getD l i default)), FV.sl 4 (cellsVs (V.items (List.getD l i default)))]) ≤ maxLen) ∧ ((List.length (cellsVs (onc l i)) + List.length (chunk 4 1 [int (V.kind (List.getD l i default)), int (V.num (List.getD l i default)), str (V.text (List.getD l i default)), FV.sl 4 (cellsVs (V.items (List.getD l i default)))])) * 56 ≤ 140737488355328) ∧ (false) = (false)) ∧ ((true) = (true)) ∧ (((AV.lsl 0) = (AV.lsl 0)) ∧ ((AV.f (FV.sl 4 (cellsVs l))) = (AV.f (FV.sl 4 (cellsVs l)))) ∧ ((AV.f (FV.sc (Value.int IntKind.i64 (↑(List.length (cellsVs l)) : Int)))) = (AV.f (FV.sc (Value.int IntKind.i64 (↑(List.length (cellsVs l)) : Int))))) ∧ ((AV.f (FV.sc (Value.int IntKind.i64 (IntKind.wrap IntKind.i64 ((↑i : Int) + 1))))) = (AV.f (FV.sc (Value.int IntKind.i64 (↑(i + 1) : Int))))) ∧ True) ∧ ((Ob.row 4 24 (cellsVs (onc l i) ++ chunk (TypeInfo.size (Tables.types (Program.toTables P))[24]) 1 [int (V.kind (List.getD l i default)), int (V.num (List.getD l i default)), str (V.text (List.getD l i default)), FV.sl 4 (cellsVs (V.items (List.getD l i default)))])) = (Ob.row 4 24 (cellsVs (onc l (i + 1))))) ∧ True))) ∧ (((cmpV (List.getD (onc l i) (List.length (onc l i) - 1) default) (List.getD l i default) != 0) = (false)) → (((true) = (true)) ∧ (((AV.lsl 0) = (AV.lsl 0)) ∧ ((AV.f (FV.sl 4 (cellsVs l))) = (AV.f (FV.sl 4 (cellsVs l)))) ∧ ((AV.f (FV.sc (Value.int IntKind.i64 (↑(List.length (cellsVs l)) : Int)))) = (AV.f (FV.sc (Value.int IntKind.i64 (↑(List.length (cellsVs l)) : Int))))) ∧ ((AV.f (FV.sc (Value.int IntKind.i64 (IntKind.wrap IntKind.i64 ((↑i : Int) + 1))))) = (AV.f (FV.sc (Value.int IntKind.i64 (↑(i + 1) : Int))))) ∧ True) ∧ ((Ob.row 4 24 (cellsVs (onc l i))) = (Ob.row 4 24 (cellsVs (onc l (i + 1))))) ∧ True)))))))) ∧ ((decide ((↑(List.length l) : Int) < (↑(List.length (cellsVs l)) : Int))) = (false)) ∧ (FV.sl 4 (cellsVs (onc l (List.length l)))) = (FV.sl 4 (cellsVs (onc l (List.length l))))) get52 ent52 (by kernel_rfl) ?_
  refine ⟨⟨rfl, ⟨⟨rfl, ⟨rfl, ⟨rfl, ⟨rfl, trivial⟩⟩⟩⟩, ⟨rfl, trivial⟩⟩⟩, ⟨fun i => fun hi => ⟨?_, ⟨⟨rfl, ⟨?_, ?_⟩⟩, ⟨rfl, ⟨fun hi => ⟨rfl, ⟨⟨?_, ⟨?_, ⟨?_, rfl⟩⟩⟩, ⟨rfl, ⟨⟨rfl, ⟨rfl, ⟨rfl, ⟨?_, trivial⟩⟩⟩⟩, ⟨?_, trivial⟩⟩⟩⟩⟩, fun hi => ⟨⟨?_, ?_⟩, ⟨?_, ⟨?_, ⟨fun hi => ⟨⟨?_, ⟨?_, ⟨?_, rfl⟩⟩⟩, ⟨rfl, ⟨⟨rfl, ⟨rfl, ⟨rfl, ⟨?_, trivial⟩⟩⟩⟩, ⟨?_, trivial⟩⟩⟩⟩, fun hi => ⟨rfl, ⟨⟨rfl, ⟨rfl, ⟨rfl, ⟨?_, trivial⟩⟩⟩⟩, ⟨?_, trivial⟩⟩⟩⟩⟩⟩⟩⟩⟩⟩⟩, ⟨?_, rfl⟩⟩⟩
  all_goals first | rfl | exact cellsVs_get l _ (by omega) | (exact congrArg (fun x => AV.f (int x)) (wrapS ((i : Int) + 1) (by omega) (by omega))) | (have h5 := onc_len l i; rw [cellsVs_length] at *; simp only [cellsVs_length, decide_eq_true_eq, decide_eq_false_iff_not, beq_iff_eq, beq_eq_false_iff_ne] at *; omega) | (have h5 := onc_len l i; simp only [cellsVs_length, decide_eq_true_eq, decide_eq_false_iff_not, beq_iff_eq, beq_eq_false_iff_ne] at *; rw [wrapS _ (by omega) (by omega)]; omega) | (have h5 := onc_len l i; simp only [cellsVs_length, decide_eq_true_eq, decide_eq_false_iff_not, beq_iff_eq, beq_eq_false_iff_ne] at hi; exact coEl _ _ _ (by rw [cellsVs_length, wrapS _ (by omega) (by omega)]; omega) (by omega)) | (have h5 := onc_len l i; simp only [cellsVs_length, decide_eq_true_eq, decide_eq_false_iff_not, beq_iff_eq, beq_eq_false_iff_ne] at hi; exact refCompare_ok _ _ (hf _ (onc_mem i (by omega) _ (by rw [List.getD_eq_getElem?_getD, List.getElem?_eq_getElem (by omega)]; exact List.getElem_mem _)))) | (have h5 := onc_len l i; simp only [cellsVs_length, chunk, List.length_cons, List.length_nil, maxLen]; omega) | (simp only [cellsVs_length, decide_eq_true_eq, decide_eq_false_iff_not, beq_iff_eq, beq_eq_false_iff_ne] at hi; simp only [onc]; rw [if_pos (.inl (by omega))]; exact congrArg (Ob.row 4 24) (cellsVs_snoc _ _)) | (simp only [bne_iff_ne, ne_eq] at hi; simp only [onc]; rw [if_pos (.inr hi)]; exact congrArg (Ob.row 4 24) (cellsVs_snoc _ _)) | (simp only [cellsVs_length, beq_eq_false_iff_ne, bne_eq_false_iff_eq, ne_eq] at *; simp only [onc]; rw [if_neg (by rintro (h9 | h9); omega; exact h9 hi)]) | assumption | omega | (simp only [decide_eq_true_eq, decide_eq_false_iff_not]; omega) | (simp only [decide_eq_true_eq, decide_eq_false_iff_not, beq_iff_eq, beq_eq_false_iff_ne, cellsVs_length, List.length_append, List.length_map, List.length_take, List.length_drop, List.length_reverse, List.length_set, List.length_replicate, chunk, List.length_cons, List.length_nil, Int.toNat_natCast, V.items, maxLen]; omega) | (exfalso; simp only [decide_eq_true_eq, decide_eq_false_iff_not, beq_iff_eq, beq_eq_false_iff_ne, cellsVs_length, List.length_append, List.length_map, List.length_take, List.length_drop, List.length_reverse, List.length_set, List.length_replicate, chunk, List.length_cons, List.length_nil, Int.toNat_natCast, V.items, maxLen] at *; omega) | (rw [wrapS _ (by omega) (by omega)]; omega) | (exact congrArg (fun x => AV.f (int x)) (by (try simp only [cellsVs_length, List.length_append, List.length_map, List.length_take, List.length_drop, List.length_reverse, List.length_set, List.length_replicate, chunk, List.length_cons, List.length_nil, Int.toNat_natCast, V.items, maxLen]); rw [wrapS _ (by omega) (by omega)]; (try omega))) | (intro x hx; simp at hx; rcases hx with rfl | rfl | rfl | rfl <;> rfl) | (intro x hx; simp at hx; rcases hx with rfl | rfl | rfl | rfl | rfl | rfl | rfl | rfl <;> rfl) | (simp [V.kind, V.num, V.text, V.items, *]; done) | (simp_all [V.kind, V.num, V.text, V.items]; done)
theorem onc_spec {l : List V} (hs : l.Pairwise fun x y => cmpV x y ≤ 0) : ∀ i, i ≤ l.length → (onc l i).Pairwise (fun x y => cmpV x y < 0) ∧ (∀ x, x ∈ onc l i → ∀ j, i ≤ j → j < l.length → cmpV x (l.getD j default) ≤ 0) ∧ (∀ j, j < i → ∃ y, y ∈ onc l i ∧ cmpV y (l.getD j default) = 0) := by
  have hp : ∀ a b, a < b → b < l.length → cmpV (l.getD a default) (l.getD b default) ≤ 0 := fun a b h1 h2 => by
    rw [List.getD_eq_getElem?_getD, List.getD_eq_getElem?_getD, List.getElem?_eq_getElem (by omega), List.getElem?_eq_getElem h2]
    exact List.pairwise_iff_getElem.1 hs a b (by omega) h2 h1
  intro i
  induction i with
  | zero => intro _; simp [onc]
  | succ i ih =>
    intro hi
    obtain ⟨g1, g2, g3⟩ := ih (by omega)
    simp only [onc]
    split
    · rename_i hc
      have hlt : ∀ x, x ∈ onc l i → cmpV x (l.getD i default) < 0 := by
        intro x hx
        rcases hc with hc | hc
        · have : onc l i = [] := List.length_eq_zero_iff.1 hc
          rw [this] at hx; simp at hx
        · have hne : 0 < (onc l i).length := List.length_pos_of_mem hx
          have hlast : (onc l i).getD ((onc l i).length - 1) default ∈ onc l i := by rw [List.getD_eq_getElem?_getD, List.getElem?_eq_getElem (by omega)]; exact List.getElem_mem _
          have hle := g2 _ hlast i (Nat.le_refl _) (by omega)
          have hlt : cmpV ((onc l i).getD ((onc l i).length - 1) default) (l.getD i default) < 0 := by omega
          obtain ⟨a, ha, rfl⟩ := List.getElem_of_mem hx
          by_cases e : a = (onc l i).length - 1
          · subst e
            rw [List.getD_eq_getElem?_getD, List.getElem?_eq_getElem ha] at hlt; exact hlt
          · have := List.pairwise_iff_getElem.1 g1 a ((onc l i).length - 1) ha (by omega) (by omega)
            rw [List.getD_eq_getElem?_getD, List.getElem?_eq_getElem (show (onc l i).length - 1 < (onc l i).length by omega)] at hlt
            exact cmpV_line.lt_trans trivial trivial trivial this hlt
      refine ⟨List.pairwise_append.2 ⟨g1, by simp, fun x hx y hy => ?_⟩, fun x hx j h1 h2 => ?_, fun j hj => ?_⟩
      · have e : y = l.getD i default := by simpa using hy
        rw [e]; exact hlt x hx
      · rcases List.mem_append.1 hx with hx | hx
        · exact g2 x hx j (by omega) h2
        · have e : x = l.getD i default := by simpa using hx
          rw [e]; exact hp i j (by omega) h2
      · rcases Nat.lt_or_ge j i with h | h
        · obtain ⟨y, h1, h2⟩ := g3 j h; exact ⟨y, by simp [h1], h2⟩
        · have : j = i := by omega
          subst this; exact ⟨_, by simp, cmpV_self _⟩
    · rename_i hc
      simp only [not_or, Decidable.not_not] at hc
      refine ⟨g1, fun x hx j h1 h2 => g2 x hx j (by omega) h2, fun j hj => ?_⟩
      rcases Nat.lt_or_ge j i with h | h
      · exact g3 j h
      · have : j = i := by omega
        subst this
        exact ⟨_, by rw [List.getD_eq_getElem?_getD, List.getElem?_eq_getElem (by omega)]; exact List.getElem_mem _, hc.2⟩
theorem sortL_sorted (l : List V) : (sortL l).Pairwise fun x y => cmpV x y ≤ 0 := (List.pairwise_mergeSort (fun x y z => le_trans' x y z) (fun x y => le_total' x y) l).imp (by simp)
theorem sortL_mem (l : List V) (x : V) : x ∈ sortL l ↔ x ∈ l := by simp [sortL]
theorem sortL_len (l : List V) : (sortL l).length = l.length := by simp [sortL]
/-- THE REFERENCE's SET IS THE PROGRAM's. -/
theorem once_setL {l : List V} (hr : ∀ x, x ∈ l → rightB x = true) : onc (sortL l) (sortL l).length = setL l := by
  obtain ⟨g1, g2, g3⟩ := onc_spec (sortL_sorted l) (sortL l).length (Nat.le_refl _)
  refine strict_ext g1 (setL_spec l).1 fun x => ?_
  rw [setL_iff hr]
  refine ⟨fun h => (sortL_mem l x).1 (onc_mem _ (Nat.le_refl _) x h), fun h => ?_⟩
  obtain ⟨j, hj, e⟩ := List.getElem_of_mem ((sortL_mem l x).2 h)
  obtain ⟨y, h1, h2⟩ := g3 j hj
  rw [List.getD_eq_getElem?_getD, List.getElem?_eq_getElem hj] at h2
  simp only [Option.getD_some, e] at h2
  rw [← rightB_same (hr y ((sortL_mem l y).1 (onc_mem _ (Nat.le_refl _) y h1))) (hr x h) h2]
  exact h1
end Go.Sx

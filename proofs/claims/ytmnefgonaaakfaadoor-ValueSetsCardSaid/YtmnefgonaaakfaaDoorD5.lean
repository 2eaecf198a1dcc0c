/-
  Proved: what some functions of the program answer, or a law of the evaluator that shows it, one theorem each; its conditions are the hypotheses that stand ahead of it.
-/
import Derived.Test.YtmnefgonaaakfaaDoorV1b
import Derived.KernelRfl
set_option maxRecDepth 100000
set_option linter.unusedSimpArgs false
set_option linter.unusedVariables false
namespace Go.Sx
open Go.Proofs Sp
theorem oneF_cellsVs : ∀ l : List V, oneF (cellsVs l)
  | [] => by simp [oneF, cellsVs]
  | v :: l => by
    intro x hx
    simp only [cellsVs, List.flatten_cons, List.mem_append] at hx
    rcases hx with hx | hx
    · rw [cellsP_eq] at hx
      simp only [cellsP, List.mem_cons, List.not_mem_nil, or_false] at hx
      rcases hx with rfl | rfl | rfl | rfl <;> rfl
    · exact oneF_cellsVs l x hx
theorem cellsVs_ne {l : List V} (h : l ≠ []) : cellsVs l ≠ [] := fun e => h (List.length_eq_zero_iff.1 (by rw [← cellsVs_length, e]; rfl))
theorem get41 : P.funcs[41]? = some Tryd.f41 := by kernel_rfl
theorem ent41 : entersP P 41 = true := by kernel_rfl
theorem clone_ok (l : List V) (hl : l.length ≤ 2513169434844) : CallsO P G 41 [encI l] 24 4 (cellsVs l) := by
  refine sx_fnO (hs := [.br [] []]) ((∀ (b : Bool), ((cellsVs l ≠ [] → b = false) → (((((b == true) = (true)) → ((cellsVs l) = ([])))) ∧ (((b == true) = (false)) → (((oneF (cellsVs l)) ∧ (0 + List.length (cellsVs l) ≤ maxLen) ∧ ((0 + List.length (cellsVs l)) * 56 ≤ 140737488355328) ∧ (false) = (false)) ∧ ((24) = (24)) ∧ ((4) = (4)) ∧ (chunk (TypeInfo.size (Tables.types (Program.toTables P))[24]) 0 [] ++ cellsVs l) = (cellsVs l))))))) get41 ent41 (by kernel_rfl) ?_
  refine fun b => fun hi => ⟨fun hi => ?_, fun hi => ⟨⟨?_, ⟨?_, ⟨?_, rfl⟩⟩⟩, ⟨rfl, ⟨rfl, ?_⟩⟩⟩⟩
  all_goals first | exact oneF_cellsVs l | (rw [cellsVs_length]; simp only [maxLen]; omega) | (rw [cellsVs_length]; omega) | (by_cases hc : cellsVs l = []; exact hc; exfalso; have hb := hi hc; simp_all; done) | exact rfl | assumption | omega | (simp only [decide_eq_true_eq, decide_eq_false_iff_not]; omega) | (simp only [decide_eq_true_eq, decide_eq_false_iff_not, beq_iff_eq, beq_eq_false_iff_ne, cellsVs_length, List.length_append, List.length_map, List.length_take, List.length_drop, List.length_reverse, List.length_set, List.length_replicate, chunk, List.length_cons, List.length_nil, Int.toNat_natCast, V.items, maxLen]; omega) | (exfalso; simp only [decide_eq_true_eq, decide_eq_false_iff_not, beq_iff_eq, beq_eq_false_iff_ne, cellsVs_length, List.length_append, List.length_map, List.length_take, List.length_drop, List.length_reverse, List.length_set, List.length_replicate, chunk, List.length_cons, List.length_nil, Int.toNat_natCast, V.items, maxLen] at *; omega) | (rw [wrapS _ (by omega) (by omega)]; omega) | (exact congrArg (fun x => AV.f (int x)) (by (try simp only [cellsVs_length, List.length_append, List.length_map, List.length_take, List.length_drop, List.length_reverse, List.length_set, List.length_replicate, chunk, List.length_cons, List.length_nil, Int.toNat_natCast, V.items, maxLen]); rw [wrapS _ (by omega) (by omega)]; (try omega))) | (intro x hx; simp at hx; rcases hx with rfl | rfl | rfl | rfl <;> rfl) | (intro x hx; simp at hx; rcases hx with rfl | rfl | rfl | rfl | rfl | rfl | rfl | rfl <;> rfl) | (simp [V.kind, V.num, V.text, V.items, *]; done) | (simp_all [V.kind, V.num, V.text, V.items]; done)
end Go.Sx

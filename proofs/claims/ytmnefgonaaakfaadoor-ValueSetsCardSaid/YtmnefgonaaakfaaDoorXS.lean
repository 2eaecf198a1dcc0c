/-
  Proved: what some functions of the program answer, or a law of the evaluator that shows it, one theorem each; its conditions are the hypotheses that stand ahead of it.
-/
import Derived.Test.YtmnefgonaaakfaaDoorPV
namespace Sp
theorem le_total' (x y : V) : (decide (cmpV x y ≤ 0) || decide (cmpV y x ≤ 0)) = true := by
  have h1 := cmpV_line.turn x y trivial trivial
  have h2 := cmpV_line.three x y trivial trivial
  simp only [Bool.or_eq_true, decide_eq_true_eq]; omega
theorem le_trans' (x y z : V) (h1 : decide (cmpV x y ≤ 0) = true) (h2 : decide (cmpV y z ≤ 0) = true) : decide (cmpV x z ≤ 0) = true := by
  simp only [decide_eq_true_eq] at *
  exact cmpV_line.le_trans x y z trivial trivial trivial h1 h2
theorem sorted_unique (l l' : List V) (hp : l'.Perm l) (hs : l'.Pairwise (fun x y => cmpV x y ≤ 0)) (hanti : ∀ x y, x ∈ l → y ∈ l → cmpV x y = 0 → x = y) :
    l' = l.mergeSort (fun x y => decide (cmpV x y ≤ 0)) := by
  have h1 : (l.mergeSort (fun x y => decide (cmpV x y ≤ 0))).Pairwise (fun x y => decide (cmpV x y ≤ 0) = true) := List.pairwise_mergeSort (fun x y z => le_trans' x y z) (fun x y => le_total' x y) l
  have h2 : (l.mergeSort (fun x y => decide (cmpV x y ≤ 0))).Perm l := List.mergeSort_perm l _
  refine List.Perm.eq_of_pairwise (le := fun x y => cmpV x y ≤ 0) ?_ hs (h1.imp (by simp)) (hp.trans h2.symm)
  intro a b ha hb h3 h4
  have ha' := hp.mem_iff.1 ha
  have hb' := h2.mem_iff.1 hb
  have := cmpV_line.turn a b trivial trivial
  exact hanti a b ha' hb' (by omega)
end Sp

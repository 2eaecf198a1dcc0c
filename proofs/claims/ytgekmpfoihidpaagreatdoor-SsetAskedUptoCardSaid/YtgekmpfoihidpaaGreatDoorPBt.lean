/-
  Proved: what some functions of the program answer, or a law of the evaluator that shows it, one theorem each; its conditions are the hypotheses that stand ahead of it.
-/
import Derived.Test.YtgekmpfoihidpaaGreatDoorPSt
import Derived.Test.YtgekmpfoihidpaaGreatDoorL3
set_option linter.unusedVariables false
set_option linter.unusedSimpArgs false
namespace Sp
/-- What stands between two places. -/
theorem filter_between {α : Type} [Inhabited α] (f : α → Bool) : ∀ (L : List α) (lo hi : Nat), (∀ i, i < L.length → f (L.getD i default) = (decide (lo ≤ i) && decide (i < hi))) → L.filter f = (L.take hi).drop lo
  | [], lo, hi, _ => by simp
  | x :: L, lo, hi, h => by
    have h0 := h 0 (by simp)
    have ih := filter_between f L (lo - 1) (hi - 1) fun i hi2 => by
      have := h (i + 1) (by simp; omega)
      rw [List.getD_cons_succ] at this
      rw [this, Bool.eq_iff_iff]
      simp only [Bool.and_eq_true, decide_eq_true_eq]
      omega
    rw [List.getD_cons_zero] at h0
    cases hi with
    | zero =>
      rw [List.filter_cons, if_neg (by rw [h0]; simp), ih]
      simp
    | succ m =>
      cases lo with
      | zero =>
        rw [List.filter_cons, if_pos (by rw [h0]; simp), ih]
        simp
      | succ l =>
        rw [List.filter_cons, if_neg (by rw [h0]; simp), ih]
        simp
end Sp
namespace Go.Sx
open Sp
/-- A map made of pairs that rise has these pairs. -/
theorem ofT_same {c : V → V → Int} (H : Line c (fun _ => True)) (l : List (V × V)) (hR : Rising c l) : ∀ i, i ≤ l.length → (ofT c l i).1.toList = l.take i ∧ (ofT c l i).2 = i
  | 0, _ => by simp [ofT, T.toList]
  | i + 1, hi => by
    obtain ⟨h1, h2⟩ := ofT_same H l hR i (by omega)
    have hl : ∀ q, q ∈ (ofT c l i).1.toList → c q.1 (l.getD i default).1 < 0 := by
      intro q hq
      rw [h1] at hq
      obtain ⟨j, hj, e⟩ := List.getElem_of_mem hq
      have hj2 : j < i := by rw [List.length_take] at hj; omega
      have h3 := rising_get hR hj2 (show i < l.length by omega)
      rw [List.getD_eq_getElem?_getD, List.getElem?_eq_getElem (show j < l.length by omega), Option.getD_some] at h3
      rw [List.getElem_take] at e
      rwa [e] at h3
    have hr : Rising c (ofT c l i).1.toList := by rw [h1]; exact hR.sublist (List.take_sublist _ _)
    obtain ⟨a, b, e, h3, h4, h5⟩ := T.insert_place H (l.getD i default).1 (l.getD i default).2 (ofT c l i).1 hr
    have hb : ∀ q, q ∈ b → q ∈ (ofT c l i).1.toList := by
      intro q hq
      rcases h3 with ⟨h3, _⟩ | ⟨p, h3, _⟩ <;> rw [h3] <;> simp [hq]
    have hb0 : b = [] := by
      cases b with
      | nil => rfl
      | cons q b =>
        have q1 := hl q (hb q (by simp))
        have q2 := h5 q (by simp)
        have := H.turn q.1 (l.getD i default).1 trivial trivial
        omega
    subst hb0
    rcases h3 with ⟨h3, h6⟩ | ⟨p, h3, h6, _⟩
    · simp only [ofT, putT]
      rw [T.toList_blackened, e, if_pos h6, h2]
      refine ⟨?_, rfl⟩
      rw [List.append_nil] at h3
      rw [← h3, h1, List.take_succ_eq_append_getElem (by omega), List.getD_eq_getElem?_getD, List.getElem?_eq_getElem (by omega), Option.getD_some]
    · have q1 := hl p (by rw [h3]; simp)
      have := H.turn p.1 (l.getD i default).1 trivial trivial
      omega
end Go.Sx

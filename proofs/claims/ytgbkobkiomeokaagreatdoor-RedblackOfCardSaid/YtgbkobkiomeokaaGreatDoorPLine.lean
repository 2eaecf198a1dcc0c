/-
  Proved: what some functions of the program answer, or a law of the evaluator that shows it, one theorem each; its conditions are the hypotheses that stand ahead of it.
-/
import Derived.Test.YtgbkobkiomeokaaGreatDoorC9
set_option linter.unusedVariables false
namespace Go.Sx
open Sp
/-- What a right value bears. -/
theorem countV_parts (k n : Int) (s : List UInt8) (l : List V) (d m : Int) (h : 0 < countV (.mk k n s l) d m) :
    plainB (.mk k n s l) = true ∧ formB (.mk k n s l) = true ∧ ∀ x, x ∈ l → ∃ d' m', 0 < countV x d' m' := by
  simp only [countV] at h
  split at h
  · omega
  · rename_i hb
    split at h
    · omega
    · rename_i hc
      split at h
      · rename_i hf
        refine ⟨?_, hf, ?_⟩
        · simp only [badV, Bool.or_eq_true, not_or, Bool.not_eq_true', Bool.not_eq_false] at hb
          exact hb.2
        · have key : ∀ (l : List V) (d m n : Int), countL l d m n ≠ 0 → ∀ x, x ∈ l → ∃ d' m', 0 < countV x d' m' := by
            intro l
            induction l with
            | nil => intro d m n _ x hx; simp at hx
            | cons y l ih =>
              intro d m n h x hx
              simp only [countL] at h
              split at h
              · exact absurd rfl h
              · rename_i hy
                rcases List.mem_cons.1 hx with rfl | hx
                · exact ⟨d, m - n, by have := (countV_bd x d (m - n)).1; omega⟩
                · exact ih _ _ _ h x hx
          exact key l _ _ _ hc
      · omega
end Go.Sx

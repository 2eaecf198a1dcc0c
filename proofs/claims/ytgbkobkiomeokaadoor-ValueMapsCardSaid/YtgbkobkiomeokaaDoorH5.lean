/-
  Proved: what some functions of the program answer, or a law of the evaluator that shows it, one theorem each; its conditions are the hypotheses that stand ahead of it.
-/
import Derived.Test.YtgbkobkiomeokaaDoorPHa
import Derived.KernelRfl
import Derived.Test.YtgbkobkiomeokaaDoorC6
import Derived.Test.YtgbkobkiomeokaaDoorC9
import Derived.Test.YtgbkobkiomeokaaDoorCK
set_option maxRecDepth 100000
set_option maxHeartbeats 4000000
set_option linter.unusedSimpArgs false
set_option linter.unusedVariables false
namespace Go.Sx
open Go.Proofs Sp
end Go.Sx
set_option maxRecDepth 100000
set_option maxHeartbeats 4000000
set_option linter.unusedSimpArgs false
set_option linter.unusedVariables false
namespace Go.Sx
open Go.Proofs Sp
end Go.Sx
set_option maxRecDepth 100000
set_option maxHeartbeats 4000000
set_option linter.unusedSimpArgs false
set_option linter.unusedVariables false
namespace Go.Sx
open Go.Proofs Sp
end Go.Sx
set_option maxRecDepth 100000
set_option maxHeartbeats 4000000
set_option linter.unusedSimpArgs false
set_option linter.unusedVariables false
namespace Go.Sx
open Go.Proofs Sp
end Go.Sx
set_option maxRecDepth 100000
set_option maxHeartbeats 4000000
set_option linter.unusedSimpArgs false
set_option linter.unusedVariables false
namespace Go.Sx
open Go.Proofs Sp
theorem countL_items : ∀ (l : List V) (d m n : Int), 0 ≤ n → countL l d m n ≠ 0 → ∀ x, x ∈ l → ∃ m', m' ≤ m ∧ 0 < countV x d m'
  | [], _, _, _, _, _, x, hx => by simp at hx
  | y :: l, d, m, n, hn, h, x, hx => by
    simp only [countL] at h
    by_cases h0 : countV y d (m - n) = 0
    · rw [if_pos h0] at h; exact absurd rfl h
    · rw [if_neg h0] at h
      have h1 := (countV_bd y d (m - n)).1
      rcases List.mem_cons.mp hx with rfl | hx
      · exact ⟨m - n, by omega, by omega⟩
      · exact countL_items l d m _ (by omega) h x hx
/-- What a value that counts is made of. -/
theorem count_parts {k n : Int} {s : List UInt8} {l : List V} {d m : Int} (h : 0 < countV (.mk k n s l) d m) : plainB (.mk k n s l) = true ∧ formB (.mk k n s l) = true ∧ (l.length : Int) < m ∧ ∀ x, x ∈ l → ∃ m', m' ≤ m ∧ 0 < countV x (d - 1) m' := by
  simp only [countV] at h
  split at h
  · omega
  · rename_i hb
    split at h
    · omega
    · rename_i hc
      split at h
      · rename_i hf
        simp only [badV, Bool.or_eq_true, decide_eq_true_eq, Bool.not_eq_true', not_or] at hb
        obtain ⟨⟨⟨h1, h2⟩, h3⟩, h4⟩ := hb
        exact ⟨by simpa using h4, hf, by omega, fun x hx => countL_items l (d - 1) m 1 (by omega) hc x hx⟩
      · omega
end Go.Sx

/-
  Proved: what some functions of the program answer, or a law of the evaluator that shows it, one theorem each; its conditions are the hypotheses that stand ahead of it.
-/
import Derived.Test.YtgbkobkiomeokaaDoorPRB
set_option linter.unusedVariables false
set_option linter.unusedSimpArgs false
namespace Sp
namespace T
/-- The greatest height of a map of so many keys: twice the bits of its number. -/
def bits : Nat → Nat → Nat → Nat
  | 0, _, h => h
  | f + 1, n, h => if 2 ^ h ≤ n then bits f n (h + 1) else h
end T
end Sp
set_option linter.unusedVariables false
set_option linter.unusedSimpArgs false
namespace Sp
/-- Pairs that stand sorted, no key twice. -/
def Rising (c : V → V → Int) (l : List (V × V)) : Prop := l.Pairwise fun p q => c p.1 q.1 < 0
namespace T
end T
/-- The place at which a question begins to hold. -/
def Place (p : Nat → Bool) (n r : Nat) : Prop := r ≤ n ∧ (∀ j, j < r → p j = false) ∧ (∀ j, r ≤ j → j < n → p j = true)
theorem Place.uniq {p : Nat → Bool} {n r s : Nat} (h : Place p n r) (h' : Place p n s) : r = s := by
  rcases Nat.lt_trichotomy r s with h1 | h1 | h1
  · have := h'.2.1 r h1; have := h.2.2 r (Nat.le_refl _) (Nat.lt_of_lt_of_le h1 h'.1); simp_all
  · exact h1
  · have := h.2.1 s h1; have := h'.2.2 s (Nat.le_refl _) (Nat.lt_of_lt_of_le h1 h.1); simp_all
end Sp

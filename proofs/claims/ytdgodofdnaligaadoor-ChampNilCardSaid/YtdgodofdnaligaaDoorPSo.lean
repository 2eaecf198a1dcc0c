/-
  Proved: what some functions of the program answer, or a law of the evaluator that shows it, one theorem each; its conditions are the hypotheses that stand ahead of it.
-/
import Derived.Test.YtdgodofdnaligaaDoorR3
set_option linter.unusedVariables false
set_option linter.unusedSimpArgs false
namespace Sp
namespace T
/-- The greatest height of a map of so many keys: twice the bits of its number. -/
def bits : Nat → Nat → Nat → Nat
  | 0, _, h => h
  | f + 1, n, h => if 2 ^ h ≤ n then bits f n (h + 1) else h
def most (n : Nat) : Nat := 2 * bits 60 n 0
end T
end Sp
set_option linter.unusedVariables false
set_option linter.unusedSimpArgs false
namespace Sp
/-- Pairs that stand sorted, no key twice. -/
def Rising (c : V → V → Int) (l : List (V × V)) : Prop := l.Pairwise fun p q => c p.1 q.1 < 0
theorem rising_mid {c : V → V → Int} {a b : List (V × V)} {p : V × V} : Rising c (a ++ p :: b) ↔ Rising c a ∧ Rising c b ∧ (∀ q, q ∈ a → c q.1 p.1 < 0) ∧ (∀ q, q ∈ b → c p.1 q.1 < 0) ∧ (∀ x, x ∈ a → ∀ y, y ∈ b → c x.1 y.1 < 0) := by
  unfold Rising
  rw [List.pairwise_append, List.pairwise_cons]
  constructor
  · rintro ⟨h1, ⟨h2, h3⟩, h4⟩
    exact ⟨h1, h3, fun q hq => h4 q hq p (.head _), h2, fun x hx y hy => h4 x hx y (.tail _ hy)⟩
  · rintro ⟨h1, h3, h4, h2, h5⟩
    refine ⟨h1, ⟨h2, h3⟩, fun x hx y hy => ?_⟩
    rcases List.mem_cons.1 hy with rfl | hy
    · exact h4 x hx
    · exact h5 x hx y hy
namespace T
end T
/-- The place at which a question begins to hold. -/
def Place (p : Nat → Bool) (n r : Nat) : Prop := r ≤ n ∧ (∀ j, j < r → p j = false) ∧ (∀ j, r ≤ j → j < n → p j = true)
theorem Place.uniq {p : Nat → Bool} {n r s : Nat} (h : Place p n r) (h' : Place p n s) : r = s := by
  rcases Nat.lt_trichotomy r s with h1 | h1 | h1
  · have := h'.2.1 r h1; have := h.2.2 r (Nat.le_refl _) (Nat.lt_of_lt_of_le h1 h'.1); simp_all
  · exact h1
  · have := h.2.1 s h1; have := h'.2.2 s (Nat.le_refl _) (Nat.lt_of_lt_of_le h1 h.1); simp_all
/-- How many keys stand ahead of one, and how many do not stand behind it. -/
def aheadN (c : V → V → Int) (k : V) (l : List (V × V)) : Nat := (l.takeWhile fun q => decide (c q.1 k < 0)).length
def uptoN (c : V → V → Int) (k : V) (l : List (V × V)) : Nat := (l.takeWhile fun q => decide (c q.1 k ≤ 0)).length
theorem takeWhile_place {α : Type} [Inhabited α] (g : α → Bool) : ∀ (l : List α), l.Pairwise (fun x y => g y = true → g x = true) → Place (fun i => !(g (l.getD i default))) l.length (l.takeWhile g).length
  | [], _ => ⟨by simp, by simp, by simp⟩
  | x :: l, h => by
    obtain ⟨h1, h2⟩ := List.pairwise_cons.1 h
    obtain ⟨i1, i2, i3⟩ := takeWhile_place g l h2
    rw [List.takeWhile_cons]
    by_cases hx : g x = true
    · rw [if_pos hx]
      refine ⟨by simpa using i1, fun j hj => ?_, fun j hj hj2 => ?_⟩
      · cases j with
        | zero => simp [hx]
        | succ j => simpa using i2 j (by simpa using hj)
      · cases j with
        | zero => simp at hj
        | succ j => simpa using i3 j (by simpa using hj) (by simpa using hj2)
    · rw [if_neg hx]
      refine ⟨by simp, by simp, fun j hj hj2 => ?_⟩
      cases j with
      | zero => simp [hx]
      | succ j =>
        simp only [List.length_cons] at hj2
        have hm : l.getD j default ∈ l := by rw [List.getD_eq_getElem?_getD, List.getElem?_eq_getElem (by omega)]; exact List.getElem_mem (by omega)
        have := h1 _ hm
        simp only [List.getD_cons_succ]
        cases hg : g (l.getD j default) with
        | false => rfl
        | true => exact absurd (this hg) hx
theorem ahead_place {c : V → V → Int} (H : Line c (fun _ => True)) (k : V) {l : List (V × V)} (h : Rising c l) : Place (fun i => decide (0 ≤ c (l.getD i default).1 k)) l.length (aheadN c k l) := by
  have h1 := takeWhile_place (fun q : V × V => decide (c q.1 k < 0)) l (h.imp fun {x y} hxy hy => by
    simp only [decide_eq_true_eq] at hy ⊢
    exact H.lt_trans trivial trivial trivial hxy hy)
  have e : (fun i => decide (0 ≤ c (l.getD i default).1 k)) = fun i => !(decide (c (l.getD i default).1 k < 0)) := by
    funext i; rw [Bool.eq_iff_iff]; simp
  rw [e]; exact h1
theorem upto_place {c : V → V → Int} (H : Line c (fun _ => True)) (k : V) {l : List (V × V)} (h : Rising c l) : Place (fun i => decide (0 < c (l.getD i default).1 k)) l.length (uptoN c k l) := by
  have h1 := takeWhile_place (fun q : V × V => decide (c q.1 k ≤ 0)) l (h.imp fun {x y} hxy hy => by
    simp only [decide_eq_true_eq] at hy ⊢
    exact Int.le_of_lt (H.lt_of_lt_of_le trivial trivial trivial hxy hy))
  have e : (fun i => decide (0 < c (l.getD i default).1 k)) = fun i => !(decide (c (l.getD i default).1 k ≤ 0)) := by
    funext i; rw [Bool.eq_iff_iff]; simp
  rw [e]; exact h1
theorem rising_get {c : V → V → Int} {l : List (V × V)} (h : Rising c l) {i j : Nat} (hij : i < j) (hj : j < l.length) : c (l.getD i default).1 (l.getD j default).1 < 0 := by
  have := List.pairwise_iff_getElem.1 h i j (by omega) hj hij
  simpa [List.getD_eq_getElem?_getD, List.getElem?_eq_getElem hj, List.getElem?_eq_getElem (show i < l.length by omega)] using this
/-- At most one key is one. -/
theorem upto_ahead {c : V → V → Int} (H : Line c (fun _ => True)) (k : V) {l : List (V × V)} (h : Rising c l) : aheadN c k l ≤ uptoN c k l ∧ uptoN c k l ≤ aheadN c k l + 1 := by
  obtain ⟨a1, a2, a3⟩ := ahead_place H k h
  obtain ⟨u1, u2, u3⟩ := upto_place H k h
  constructor
  · refine Nat.le_of_not_lt fun h1 => ?_
    have h2 := a2 _ h1
    have h3 := u3 _ (Nat.le_refl _) (by omega)
    simp only [decide_eq_true_eq, decide_eq_false_iff_not] at h2 h3; omega
  · refine Nat.le_of_not_lt fun h1 => ?_
    have h2 := u2 (aheadN c k l + 1) h1
    have h3 := a3 (aheadN c k l) (Nat.le_refl _) (by omega)
    have h4 := rising_get h (show aheadN c k l < aheadN c k l + 1 by omega) (by omega)
    simp only [decide_eq_true_eq, decide_eq_false_iff_not] at h2 h3
    have := H.turn k (l.getD (aheadN c k l) default).1 trivial trivial
    have := H.turn k (l.getD (aheadN c k l + 1) default).1 trivial trivial
    have h5 := H.lt_of_le_of_lt trivial trivial trivial (show c k (l.getD (aheadN c k l) default).1 ≤ 0 by omega) h4
    omega
end Sp

/-
  Proved: what some functions of the program answer, or a law of the evaluator that shows it, one theorem each; its conditions are the hypotheses that stand ahead of it.
-/
import Derived.Test.YtkbaoibplojjlaaDoorC3
import Derived.KernelRfl
set_option maxRecDepth 100000
set_option maxHeartbeats 4000000
set_option linter.unusedSimpArgs false
set_option linter.unusedVariables false
namespace Go.Sx
open Go.Proofs Sp
/-- A value whose numbers and lengths are a machine's. -/
inductive Fine : V → Prop where
  | mk (k n : Int) (s : List UInt8) (l : List V) (hk : -9223372036854775808 ≤ k ∧ k ≤ 9223372036854775807) (hn : -9223372036854775808 ≤ n ∧ n ≤ 9223372036854775807)
    (hs : s.length ≤ 140737488351232) (hl : l.length ≤ 2513169434844) (hi : ∀ x, x ∈ l → Fine x) : Fine (.mk k n s l)
theorem Fine.items {k n : Int} {s : List UInt8} {l : List V} (h : Fine (.mk k n s l)) : l.length ≤ 1152921504606846976 ∧ ∀ x, x ∈ l → Fine x := by
  cases h; exact ⟨by omega, by assumption⟩
theorem Fine.len {k n : Int} {s : List UInt8} {l : List V} (h : Fine (.mk k n s l)) : l.length ≤ 2513169434844 ∧ s.length ≤ 140737488351232 := by
  cases h; exact ⟨by assumption, by assumption⟩
theorem compare_ok {g : Gr} : ∀ a b, Fine a → CallsF P g 77 [encV a, encV b] (int (cmpV a b)) := by
  intro a
  induction a using V.ind with
  | h k n s l ih =>
    intro b ha
    cases b with
    | mk k2 n2 s2 l2 =>
      obtain ⟨hl, hi⟩ := ha.items
      have hitems : CallsF P g 83 [encI l, encI l2, .fn 77 [] []] (int (lexC cmpV l l2)) :=
        cmpF_ok _ cmpV l l2 (by omega) fun x y hx _ => ih x hx y (hi x hx)
      rw [cmpV_mk]
      by_cases hk : k = k2
      · subst hk
        rw [if_neg (by simp)]
        by_cases h1 : k = 1
        · subst h1; exact cmpV_num1 _ _ _ _ _ _
        · by_cases h2 : k = 2
          · subst h2; exact cmpV_num2 _ _ _ _ _ _
          · rw [if_neg (by omega)]
            by_cases h3 : k = 3
            · subst h3; exact cmpV_text _ _ _ _ _ _
            · rw [if_neg h3]
              by_cases h4 : k = 4
              · subst h4; exact cmpV_items4 _ _ _ _ _ _ _ hitems
              · by_cases h5 : k = 5
                · subst h5; exact cmpV_items5 _ _ _ _ _ _ _ hitems
                · by_cases h6 : k = 6
                  · subst h6; exact cmpV_items6 _ _ _ _ _ _ _ hitems
                  · rw [if_neg (by omega)]
                    exact cmpV_else _ _ _ _ _ _ _ h1 h2 h3 h4 h5 h6
      · rw [if_pos hk]
        exact cmpV_kind _ _ _ _ _ _ _ _ hk
end Go.Sx

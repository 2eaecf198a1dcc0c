/-
  Proved: what some functions of the program answer, or a law of the evaluator that shows it, one theorem each; its conditions are the hypotheses that stand ahead of it.
-/
import Derived.Test.YtdgodofdnaligaaDoorD4
import Derived.KernelRfl
import Derived.Test.YtdgodofdnaligaaDoorR3
import Derived.Test.YtdgodofdnaligaaDoorCK
import Derived.Lib.DecodeN
import Derived.Test.YtdgodofdnaligaaDoorSxB
set_option maxRecDepth 100000
namespace Go.Sx
theorem sx_fnO {Q : Program} {G' : Gr} {f : Nat} {fn : Func} {args : List FV} {hs : List Hint} {e sz : Nat} {es : List (List FV)} (OB : Prop) (hf : Q.funcs[f]? = some fn) (he : entersP Q f = true) (ev : evalFnO Q G' fn args hs e sz es = OB) (h : OB) : CallsO Q G' f args e sz es :=
  CallsO_of_evalFnO hf he (by rw [ev]; exact h)
end Go.Sx
set_option maxRecDepth 100000
set_option maxHeartbeats 4000000
set_option linter.unusedSimpArgs false
set_option linter.unusedVariables false
namespace Go.Sx
open Go.Proofs Sp
end Go.Sx
set_option maxRecDepth 100000
set_option maxHeartbeats 4000000
set_option linter.unusedSimpArgs false
set_option linter.unusedVariables false
namespace Go.Sx
open Go.Proofs Sp
end Go.Sx
set_option maxRecDepth 100000
set_option maxHeartbeats 4000000
set_option linter.unusedSimpArgs false
set_option linter.unusedVariables false
namespace Go.Sx
open Go.Proofs Sp
/-- What is handed out. -/
def itL (l : List (V × V)) (j : Nat) : List FV := [encV (l.getD j default).1, encV (l.getD j default).2]
theorem cellsPs_app : ∀ a b : List (V × V), cellsPs (a ++ b) = cellsPs a ++ cellsPs b
  | [], b => rfl
  | x :: a, b => by simp [cellsPs, cellsPs_app a b]
theorem cellsPs_snoc (l : List (V × V)) (i : Nat) (h : i < l.length) : cellsPs (l.take i) ++ [cellsP (l.getD i default).1 ++ cellsP (l.getD i default).2] = cellsPs (l.take (i + 1)) := by
  rw [List.take_succ_eq_append_getElem h, cellsPs_app]
  simp [cellsPs, List.getD_eq_getElem?_getD, h]
end Go.Sx
set_option linter.unusedVariables false
namespace Go.Sx
open Sp
end Go.Sx
set_option linter.unusedVariables false
namespace Go.Sx
open Sp
/-- What a right value bears. -/
theorem countV_parts (k n : Int) (s : List UInt8) (l : List V) (d m : Int) (h : 0 < countV (.mk k n s l) d m) :
    plainB (.mk k n s l) = true ∧ formB (.mk k n s l) = true ∧ ∀ x, x ∈ l → ∃ d' m', 0 < countV x d' m' := by
  simp only [countV] at h
  split at h
  · omega
  · rename_i hb
    split at h
    · omega
    · rename_i hc
      split at h
      · rename_i hf
        refine ⟨?_, hf, ?_⟩
        · simp only [badV, Bool.or_eq_true, not_or, Bool.not_eq_true', Bool.not_eq_false] at hb
          exact hb.2
        · have key : ∀ (l : List V) (d m n : Int), countL l d m n ≠ 0 → ∀ x, x ∈ l → ∃ d' m', 0 < countV x d' m' := by
            intro l
            induction l with
            | nil => intro d m n _ x hx; simp at hx
            | cons y l ih =>
              intro d m n h x hx
              simp only [countL] at h
              split at h
              · exact absurd rfl h
              · rename_i hy
                rcases List.mem_cons.1 hx with rfl | hx
                · exact ⟨d, m - n, by have := (countV_bd x d (m - n)).1; omega⟩
                · exact ih _ _ _ h x hx
          exact key l _ _ _ hc
      · omega
theorem lex_zero {α : Type} {c : α → α → Int} : ∀ (l m : List α), lexC c l m = 0 → (∀ x y, x ∈ l → y ∈ m → c x y = 0 → x = y) → l = m
  | [], [], _, _ => rfl
  | [], _ :: _, h, _ => by simp [lexC] at h
  | _ :: _, [], h, _ => by simp [lexC] at h
  | a :: l, b :: m, h, e => by
    simp only [lexC] at h
    split at h
    · rename_i h0
      rw [e a b (.head _) (.head _) h0, lex_zero l m h (fun x y hx hy => e x y (.tail _ hx) (.tail _ hy))]
    · rename_i h0; exact absurd h h0
theorem plainB_num {k n : Int} {s : List UInt8} {l : List V} (h : plainB (.mk k n s l) = true) : (k ≠ 3 → s = []) ∧ (k ≠ 2 → k ≠ 1 → n = 0) ∧ 0 ≤ k ∧ k ≤ 6 := by
  simp only [plainB] at h
  split at h
  · cases h
  · rename_i hn
    simp only [not_or, not_and, Decidable.not_not] at hn
    refine ⟨hn.1, hn.2, ?_⟩
    split at h
    · omega
    · split at h
      · omega
      · simpa using h
theorem formB_nil {k n : Int} {s : List UInt8} {l : List V} (h : formB (.mk k n s l) = true) (h4 : k ≠ 4) (h5 : k ≠ 5) (h6 : k ≠ 6) : l = [] := by
  simp only [formB, if_neg h4, if_neg h5, if_neg h6] at h
  simpa using h
/-- RIGHT VALUES THAT COMPARE EQUAL ARE THE SAME. -/
theorem right_same : ∀ a b : V, (∃ d m, 0 < countV a d m) → (∃ d m, 0 < countV b d m) → cmpV a b = 0 → a = b := by
  intro a
  induction a using V.ind with
  | h k n s l ih =>
    intro b ha hb hc
    cases b with
    | mk k2 n2 s2 l2 =>
      obtain ⟨d, m, ha⟩ := ha
      obtain ⟨d2, m2, hb⟩ := hb
      obtain ⟨p1, f1, i1⟩ := countV_parts _ _ _ _ _ _ ha
      obtain ⟨p2, f2, i2⟩ := countV_parts _ _ _ _ _ _ hb
      rw [cmpV_mk] at hc
      have hk : k = k2 := by
        by_cases e : k = k2
        · exact e
        · rw [if_pos e] at hc; exact cmpI_zero.1 hc
      subst hk
      rw [if_neg (by simp)] at hc
      have q1 := plainB_num p1
      have q2 := plainB_num p2
      by_cases h12 : k = 1 ∨ k = 2
      · rw [if_pos h12] at hc
        have e1 := cmpI_zero.1 hc
        have e2 := q1.1 (by omega)
        have e3 := q2.1 (by omega)
        have e4 := formB_nil f1 (by omega) (by omega) (by omega)
        have e5 := formB_nil f2 (by omega) (by omega) (by omega)
        rw [e1, e2, e3, e4, e5]
      · rw [if_neg h12] at hc
        have e1 := q1.2.1 (by omega) (by omega)
        have e2 := q2.2.1 (by omega) (by omega)
        by_cases h3 : k = 3
        · rw [if_pos h3] at hc
          have e3 := cmpB_zero.1 hc
          have e4 := formB_nil f1 (by omega) (by omega) (by omega)
          have e5 := formB_nil f2 (by omega) (by omega) (by omega)
          rw [e1, e2, e3, e4, e5]
        · rw [if_neg h3] at hc
          have e3 := q1.1 h3
          have e4 := q2.1 h3
          by_cases h4 : k = 4 ∨ k = 5 ∨ k = 6
          · rw [if_pos h4] at hc
            have e5 := lex_zero l l2 hc fun x y hx hy h0 => ih x hx y (i1 x hx) (i2 y hy) h0
            rw [e1, e2, e3, e4, e5]
          · have e5 := formB_nil f1 (by omega) (by omega) (by omega)
            have e6 := formB_nil f2 (by omega) (by omega) (by omega)
            rw [e1, e2, e3, e4, e5, e6]
theorem rightB_same {a b : V} (ha : rightB a = true) (hb : rightB b = true) (h : cmpV a b = 0) : a = b :=
  right_same a b ⟨16, 1024, by simpa [rightB] using ha⟩ ⟨16, 1024, by simpa [rightB] using hb⟩ h
end Go.Sx
set_option linter.unusedVariables false
namespace Go.Sx
open Go
end Go.Sx

/-
  Proved: what some functions of the program answer, or a law of the evaluator that shows it, one theorem each; its conditions are the hypotheses that stand ahead of it.
-/
import Derived.Test.YtdgodofdnaligaaDoorD4
import Derived.KernelRfl
import Derived.Test.YtdgodofdnaligaaDoorR3
import Derived.Test.YtdgodofdnaligaaDoorCK
import Derived.Lib.DecodeN
import Derived.Test.YtdgodofdnaligaaDoorSxB
set_option maxRecDepth 100000
namespace Go.Sx
theorem sx_fnO {Q : Program} {G' : Gr} {f : Nat} {fn : Func} {args : List FV} {hs : List Hint} {e sz : Nat} {es : List (List FV)} (OB : Prop) (hf : Q.funcs[f]? = some fn) (he : entersP Q f = true) (ev : evalFnO Q G' fn args hs e sz es = OB) (h : OB) : CallsO Q G' f args e sz es :=
  CallsO_of_evalFnO hf he (by rw [ev]; exact h)
end Go.Sx
set_option maxRecDepth 100000
set_option maxHeartbeats 4000000
set_option linter.unusedSimpArgs false
set_option linter.unusedVariables false
namespace Go.Sx
open Go.Proofs Sp
end Go.Sx
set_option maxRecDepth 100000
set_option maxHeartbeats 4000000
set_option linter.unusedSimpArgs false
set_option linter.unusedVariables false
namespace Go.Sx
open Go.Proofs Sp
end Go.Sx
set_option maxRecDepth 100000
set_option maxHeartbeats 4000000
set_option linter.unusedSimpArgs false
set_option linter.unusedVariables false
namespace Go.Sx
open Go.Proofs Sp
/-- What is handed out. -/
def itL (l : List (V × V)) (j : Nat) : List FV := [encV (l.getD j default).1, encV (l.getD j default).2]
theorem cellsPs_app : ∀ a b : List (V × V), cellsPs (a ++ b) = cellsPs a ++ cellsPs b
  | [], b => rfl
  | x :: a, b => by simp [cellsPs, cellsPs_app a b]
theorem cellsPs_snoc (l : List (V × V)) (i : Nat) (h : i < l.length) : cellsPs (l.take i) ++ [cellsP (l.getD i default).1 ++ cellsP (l.getD i default).2] = cellsPs (l.take (i + 1)) := by
  rw [List.take_succ_eq_append_getElem h, cellsPs_app]
  simp [cellsPs, List.getD_eq_getElem?_getD, h]
end Go.Sx
set_option linter.unusedVariables false
namespace Go.Sx
open Sp
end Go.Sx
set_option linter.unusedVariables false
namespace Go.Sx
open Sp
/-- What a right value bears. -/
theorem countV_parts (k n : Int) (s : List UInt8) (l : List V) (d m : Int) (h : 0 < countV (.mk k n s l) d m) :
    plainB (.mk k n s l) = true ∧ formB (.mk k n s l) = true ∧ ∀ x, x ∈ l → ∃ d' m', 0 < countV x d' m' := by
  simp only [countV] at h
  split at h
  · omega
  · rename_i hb
    split at h
    · omega
    · rename_i hc
      split at h
      · rename_i hf
        refine ⟨?_, hf, ?_⟩
        · simp only [badV, Bool.or_eq_true, not_or, Bool.not_eq_true', Bool.not_eq_false] at hb
          exact hb.2
        · have key : ∀ (l : List V) (d m n : Int), countL l d m n ≠ 0 → ∀ x, x ∈ l → ∃ d' m', 0 < countV x d' m' := by
            intro l
            induction l with
            | nil => intro d m n _ x hx; simp at hx
            | cons y l ih =>
              intro d m n h x hx
              simp only [countL] at h
              split at h
              · exact absurd rfl h
              · rename_i hy
                rcases List.mem_cons.1 hx with rfl | hx
                · exact ⟨d, m - n, by have := (countV_bd x d (m - n)).1; omega⟩
                · exact ih _ _ _ h x hx
          exact key l _ _ _ hc
      · omega
theorem lex_zero {α : Type} {c : α → α → Int} : ∀ (l m : List α), lexC c l m = 0 → (∀ x y, x ∈ l → y ∈ m → c x y = 0 → x = y) → l = m
  | [], [], _, _ => rfl
  | [], _ :: _, h, _ => by simp [lexC] at h
  | _ :: _, [], h, _ => by simp [lexC] at h
  | a :: l, b :: m, h, e => by
    simp only [lexC] at h
    split at h
    · rename_i h0
      rw [e a b (.head _) (.head _) h0, lex_zero l m h (fun x y hx hy => e x y (.tail _ hx) (.tail _ hy))]
    · rename_i h0; exact absurd h h0
theorem plainB_num {k n : Int} {s : List UInt8} {l : List V} (h : plainB (.mk k n s l) = true) : (k ≠ 3 → s = []) ∧ (k ≠ 2 → k ≠ 1 → n = 0) ∧ 0 ≤ k ∧ k ≤ 6 := by
  simp only [plainB] at h
  split at h
  · cases h
  · rename_i hn
    simp only [not_or, not_and, Decidable.not_not] at hn
    refine ⟨hn.1, hn.2, ?_⟩
    split at h
    · omega
    · split at h
      · omega
      · simpa using h
theorem formB_nil {k n : Int} {s : List UInt8} {l : List V} (h : formB (.mk k n s l) = true) (h4 : k ≠ 4) (h5 : k ≠ 5) (h6 : k ≠ 6) : l = [] := by
  simp only [formB, if_neg h4, if_neg h5, if_neg h6] at h
  simpa using h
/-- RIGHT VALUES THAT COMPARE EQUAL ARE THE SAME. -/
theorem right_same : ∀ a b : V, (∃ d m, 0 < countV a d m) → (∃ d m, 0 < countV b d m) → cmpV a b = 0 → a = b := by
  intro a
  induction a using V.ind with
  | h k n s l ih =>
    intro b ha hb hc
    cases b with
    | mk k2 n2 s2 l2 =>
      obtain ⟨d, m, ha⟩ := ha
      obtain ⟨d2, m2, hb⟩ := hb
      obtain ⟨p1, f1, i1⟩ := countV_parts _ _ _ _ _ _ ha
      obtain ⟨p2, f2, i2⟩ := countV_parts _ _ _ _ _ _ hb
      rw [cmpV_mk] at hc
      have hk : k = k2 := by
        by_cases e : k = k2
        · exact e
        · rw [if_pos e] at hc; exact cmpI_zero.1 hc
      subst hk
      rw [if_neg (by simp)] at hc
      have q1 := plainB_num p1
      have q2 := plainB_num p2
      by_cases h12 : k = 1 ∨ k = 2
      · rw [if_pos h12] at hc
        have e1 := cmpI_zero.1 hc
        have e2 := q1.1 (by omega)
        have e3 := q2.1 (by omega)
        have e4 := formB_nil f1 (by omega) (by omega) (by omega)
        have e5 := formB_nil f2 (by omega) (by omega) (by omega)
        rw [e1, e2, e3, e4, e5]
      · rw [if_neg h12] at hc
        have e1 := q1.2.1 (by omega) (by omega)
        have e2 := q2.2.1 (by omega) (by omega)
        by_cases h3 : k = 3
        · rw [if_pos h3] at hc
          have e3 := cmpB_zero.1 hc
          have e4 := formB_nil f1 (by omega) (by omega) (by omega)
          have e5 := formB_nil f2 (by omega) (by omega) (by omega)
          rw [e1, e2, e3, e4, e5]
        · rw [if_neg h3] at hc
          have e3 := q1.1 h3
          have e4 := q2.1 h3
          by_cases h4 : k = 4 ∨ k = 5 ∨ k = 6
          · rw [if_pos h4] at hc
            have e5 := lex_zero l l2 hc fun x y hx hy h0 => ih x hx y (i1 x hx) (i2 y hy) h0
            rw [e1, e2, e3, e4, e5]
          · have e5 := formB_nil f1 (by omega) (by omega) (by omega)
            have e6 := formB_nil f2 (by omega) (by omega) (by omega)
            rw [e1, e2, e3, e4, e5, e6]
theorem rightB_same {a b : V} (ha : rightB a = true) (hb : rightB b = true) (h : cmpV a b = 0) : a = b :=
  right_same a b ⟨16, 1024, by simpa [rightB] using ha⟩ ⟨16, 1024, by simpa [rightB] using hb⟩ h
end Go.Sx
set_option linter.unusedVariables false
namespace Go.Sx
open Go
/-- How many bytes the letter has that begins with this byte; 0: none does. -/
def refW (b0 : Nat) : Nat := if b0 < 128 then 1 else if 194 ≤ b0 ∧ b0 ≤ 223 then 2 else if 224 ≤ b0 ∧ b0 ≤ 239 then 3 else if 240 ≤ b0 ∧ b0 ≤ 244 then 4 else 0
def refLo (b0 : Nat) : Nat := if b0 = 224 then 160 else if b0 = 240 then 144 else 128
def refHi (b0 : Nat) : Nat := if b0 = 237 then 159 else if b0 = 244 then 143 else 191
/-- spinneyref01.utf, in numbers: n bytes are left, the first four of them. -/
def refN (n b0 b1 b2 b3 : Nat) : Nat :=
  if b0 < 128 then 1
  else if refW b0 = 0 then 0
  else if n < refW b0 ∨ b1 < refLo b0 ∨ refHi b0 < b1 then 0
  else if (3 ≤ refW b0 ∧ (b2 < 128 ∨ 191 < b2)) ∨ (4 ≤ refW b0 ∧ (b3 < 128 ∨ 191 < b3)) then 0
  else refW b0
/-- A letter's width; 0: it is none. -/
def wid (r : Nat × Nat) : Nat := if r.1 = 65533 ∧ r.2 = 1 then 0 else r.2
theorem refN_two {n b0 b1 b2 b3 : Nat} (h1 : 194 ≤ b0) (h2 : b0 ≤ 223) (g1 : b1 < 256) : refN n b0 b1 b2 b3 = wid (Lib.decodeN n b0 b1 b2 b3) := by
  have e : refW b0 = 2 := by simp [refW, show ¬ b0 < 128 by omega, h1, h2]
  have e1 : refLo b0 = 128 := by simp [refLo, show b0 ≠ 224 by omega, show b0 ≠ 240 by omega]
  have e2 : refHi b0 = 191 := by simp [refHi, show b0 ≠ 237 by omega, show b0 ≠ 244 by omega]
  simp only [refN, Lib.decodeN, e, e1, e2]
  rw [if_neg (by omega), if_neg (by omega), if_neg (by omega : ¬ b0 < 128)]
  by_cases hc : n < 2 ∨ b1 < 128 ∨ 191 < b1
  · rw [if_pos hc, if_neg (by omega), if_neg (by omega), if_neg (by omega)]
    simp [wid]
  · rw [if_neg hc, if_neg (by omega), if_pos (by omega), if_pos (by omega)]
    simp [wid]
theorem refN_three {n b0 b1 b2 b3 : Nat} (h1 : 224 ≤ b0) (h2 : b0 ≤ 239) (g1 : b1 < 256) (g2 : b2 < 256) : refN n b0 b1 b2 b3 = wid (Lib.decodeN n b0 b1 b2 b3) := by
  have e : refW b0 = 3 := by simp [refW, show ¬ b0 < 128 by omega, show ¬ b0 ≤ 223 by omega, h1, h2]
  have e1 : (b0 = 224 → refLo b0 = 160) ∧ (b0 ≠ 224 → refLo b0 = 128) := by constructor <;> intro h <;> simp [refLo, h, show b0 ≠ 240 by omega]
  have e2 : (b0 = 237 → refHi b0 = 159) ∧ (b0 ≠ 237 → refHi b0 = 191) := by constructor <;> intro h <;> simp [refHi, h, show b0 ≠ 244 by omega]
  simp only [refN, Lib.decodeN, e]
  rw [if_neg (by omega), if_neg (by omega), if_neg (by omega : ¬ b0 < 128), if_neg (by omega : ¬ (b0 / 32 = 6 ∧ (1 < n ∧ b1 / 64 = 2)))]
  generalize refLo b0 = lo at *
  generalize refHi b0 = hi at *
  by_cases hc : n < 3 ∨ b1 < lo ∨ hi < b1
  · rw [if_pos hc]
    split
    · rw [if_neg (by omega)]; simp [wid]
    · rw [if_neg (by omega)]; simp [wid]
  · rw [if_neg hc]
    by_cases hd : b2 < 128 ∨ 191 < b2
    · rw [if_pos (by omega), if_neg (by omega), if_neg (by omega)]; simp [wid]
    · rw [if_neg (by omega), if_pos (by omega), if_pos (by omega)]
      simp [wid]
theorem refN_four {n b0 b1 b2 b3 : Nat} (h1 : 240 ≤ b0) (h2 : b0 ≤ 244) (g1 : b1 < 256) (g2 : b2 < 256) (g3 : b3 < 256) : refN n b0 b1 b2 b3 = wid (Lib.decodeN n b0 b1 b2 b3) := by
  have e : refW b0 = 4 := by simp [refW, show ¬ b0 < 128 by omega, show ¬ b0 ≤ 223 by omega, show ¬ b0 ≤ 239 by omega, h1, h2]
  have e1 : (b0 = 240 → refLo b0 = 144) ∧ (b0 ≠ 240 → refLo b0 = 128) := by constructor <;> intro h <;> simp [refLo, h, show b0 ≠ 224 by omega]
  have e2 : (b0 = 244 → refHi b0 = 143) ∧ (b0 ≠ 244 → refHi b0 = 191) := by constructor <;> intro h <;> simp [refHi, h, show b0 ≠ 237 by omega]
  simp only [refN, Lib.decodeN, e]
  rw [if_neg (by omega), if_neg (by omega), if_neg (by omega : ¬ b0 < 128), if_neg (by omega : ¬ (b0 / 32 = 6 ∧ (1 < n ∧ b1 / 64 = 2))), if_neg (by omega : ¬ (b0 / 16 = 14 ∧ (1 < n ∧ b1 / 64 = 2) ∧ (2 < n ∧ b2 / 64 = 2)))]
  generalize refLo b0 = lo at *
  generalize refHi b0 = hi at *
  by_cases hc : n < 4 ∨ b1 < lo ∨ hi < b1
  · rw [if_pos hc]
    split
    · rw [if_neg (by omega)]; simp [wid]
    · simp [wid]
  · rw [if_neg hc]
    by_cases hd : (b2 < 128 ∨ 191 < b2) ∨ (b3 < 128 ∨ 191 < b3)
    · rw [if_pos (by omega), if_neg (by omega)]; simp [wid]
    · rw [if_neg (by omega), if_pos (by omega), if_pos (by omega)]
      simp [wid]
theorem refN_eq {n b0 b1 b2 b3 : Nat} (g0 : b0 < 256) (g1 : b1 < 256) (g2 : b2 < 256) (g3 : b3 < 256) : refN n b0 b1 b2 b3 = wid (Lib.decodeN n b0 b1 b2 b3) := by
  by_cases a : b0 < 128
  · simp only [refN, Lib.decodeN, if_pos a]
    simp [wid]; omega
  · by_cases b : 194 ≤ b0 ∧ b0 ≤ 223
    · exact refN_two b.1 b.2 g1
    · by_cases c : 224 ≤ b0 ∧ b0 ≤ 239
      · exact refN_three c.1 c.2 g1 g2
      · by_cases d : 240 ≤ b0 ∧ b0 ≤ 244
        · exact refN_four d.1 d.2 g1 g2 g3
        · have e : refW b0 = 0 := by simp [refW, a, b, c, d]
          simp only [refN, Lib.decodeN, e, if_neg a, if_true]
          split
          · rw [if_neg (by omega)]; simp [wid]
          · split
            · rw [if_neg (by omega)]; simp [wid]
            · split
              · rw [if_neg (by omega)]; simp [wid]
              · simp [wid]
theorem strAt_get (s : ByteArray) (i : Nat) : (s.get! i).toNat = strAt s i := by
  unfold strAt
  cases s with
  | mk d =>
    show (d[i]!).toNat = _
    rw [getElem!_def, List.getD_eq_getElem?_getD, Array.getElem?_toList]
    cases d[i]? <;> rfl
theorem strAt_lt (s : ByteArray) (i : Nat) : strAt s i < 256 := by
  unfold strAt; exact UInt8.toNat_lt _
/-- spinneyref01.utf: how many bytes the letter at a place has. -/
def refU (s : ByteArray) (p : Nat) : Nat := refN (s.size - p) (strAt s p) (strAt s (p + 1)) (strAt s (p + 2)) (strAt s (p + 3))
theorem refU_eq (s : ByteArray) (p : Nat) : refU s p = wid (Utf8.decode s p) := by
  rw [Lib.decode_at]
  simp only [strAt_get]
  exact refN_eq (strAt_lt _ _) (strAt_lt _ _) (strAt_lt _ _) (strAt_lt _ _)
end Go.Sx

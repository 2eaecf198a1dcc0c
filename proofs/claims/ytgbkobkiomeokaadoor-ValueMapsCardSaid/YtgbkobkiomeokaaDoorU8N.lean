/-
  Proved: what some functions of the program answer, or a law of the evaluator that shows it, one theorem each; its conditions are the hypotheses that stand ahead of it.
-/
import Derived.Lib.DecodeN
import Derived.Test.YtgbkobkiomeokaaDoorSxB
set_option linter.unusedVariables false
namespace Go.Sx
open Go
/-- How many bytes the letter has that begins with this byte; 0: none does. -/
def refW (b0 : Nat) : Nat := if b0 < 128 then 1 else if 194 ≤ b0 ∧ b0 ≤ 223 then 2 else if 224 ≤ b0 ∧ b0 ≤ 239 then 3 else if 240 ≤ b0 ∧ b0 ≤ 244 then 4 else 0
def refLo (b0 : Nat) : Nat := if b0 = 224 then 160 else if b0 = 240 then 144 else 128
def refHi (b0 : Nat) : Nat := if b0 = 237 then 159 else if b0 = 244 then 143 else 191
/-- spinneyref01.utf, in numbers: n bytes are left, the first four of them. -/
def refN (n b0 b1 b2 b3 : Nat) : Nat :=
  if b0 < 128 then 1
  else if refW b0 = 0 then 0
  else if n < refW b0 ∨ b1 < refLo b0 ∨ refHi b0 < b1 then 0
  else if (3 ≤ refW b0 ∧ (b2 < 128 ∨ 191 < b2)) ∨ (4 ≤ refW b0 ∧ (b3 < 128 ∨ 191 < b3)) then 0
  else refW b0
/-- A letter's width; 0: it is none. -/
def wid (r : Nat × Nat) : Nat := if r.1 = 65533 ∧ r.2 = 1 then 0 else r.2
theorem refN_two {n b0 b1 b2 b3 : Nat} (h1 : 194 ≤ b0) (h2 : b0 ≤ 223) (g1 : b1 < 256) : refN n b0 b1 b2 b3 = wid (Lib.decodeN n b0 b1 b2 b3) := by
  have e : refW b0 = 2 := by simp [refW, show ¬ b0 < 128 by omega, h1, h2]
  have e1 : refLo b0 = 128 := by simp [refLo, show b0 ≠ 224 by omega, show b0 ≠ 240 by omega]
  have e2 : refHi b0 = 191 := by simp [refHi, show b0 ≠ 237 by omega, show b0 ≠ 244 by omega]
  simp only [refN, Lib.decodeN, e, e1, e2]
  rw [if_neg (by omega), if_neg (by omega), if_neg (by omega : ¬ b0 < 128)]
  by_cases hc : n < 2 ∨ b1 < 128 ∨ 191 < b1
  · rw [if_pos hc, if_neg (by omega), if_neg (by omega), if_neg (by omega)]
    simp [wid]
  · rw [if_neg hc, if_neg (by omega), if_pos (by omega), if_pos (by omega)]
    simp [wid]
theorem refN_three {n b0 b1 b2 b3 : Nat} (h1 : 224 ≤ b0) (h2 : b0 ≤ 239) (g1 : b1 < 256) (g2 : b2 < 256) : refN n b0 b1 b2 b3 = wid (Lib.decodeN n b0 b1 b2 b3) := by
  have e : refW b0 = 3 := by simp [refW, show ¬ b0 < 128 by omega, show ¬ b0 ≤ 223 by omega, h1, h2]
  have e1 : (b0 = 224 → refLo b0 = 160) ∧ (b0 ≠ 224 → refLo b0 = 128) := by constructor <;> intro h <;> simp [refLo, h, show b0 ≠ 240 by omega]
  have e2 : (b0 = 237 → refHi b0 = 159) ∧ (b0 ≠ 237 → refHi b0 = 191) := by constructor <;> intro h <;> simp [refHi, h, show b0 ≠ 244 by omega]
  simp only [refN, Lib.decodeN, e]
  rw [if_neg (by omega), if_neg (by omega), if_neg (by omega : ¬ b0 < 128), if_neg (by omega : ¬ (b0 / 32 = 6 ∧ (1 < n ∧ b1 / 64 = 2)))]
  generalize refLo b0 = lo at *
  generalize refHi b0 = hi at *
  by_cases hc : n < 3 ∨ b1 < lo ∨ hi < b1
  · rw [if_pos hc]
    split
    · rw [if_neg (by omega)]; simp [wid]
    · rw [if_neg (by omega)]; simp [wid]
  · rw [if_neg hc]
    by_cases hd : b2 < 128 ∨ 191 < b2
    · rw [if_pos (by omega), if_neg (by omega), if_neg (by omega)]; simp [wid]
    · rw [if_neg (by omega), if_pos (by omega), if_pos (by omega)]
      simp [wid]
theorem refN_four {n b0 b1 b2 b3 : Nat} (h1 : 240 ≤ b0) (h2 : b0 ≤ 244) (g1 : b1 < 256) (g2 : b2 < 256) (g3 : b3 < 256) : refN n b0 b1 b2 b3 = wid (Lib.decodeN n b0 b1 b2 b3) := by
  have e : refW b0 = 4 := by simp [refW, show ¬ b0 < 128 by omega, show ¬ b0 ≤ 223 by omega, show ¬ b0 ≤ 239 by omega, h1, h2]
  have e1 : (b0 = 240 → refLo b0 = 144) ∧ (b0 ≠ 240 → refLo b0 = 128) := by constructor <;> intro h <;> simp [refLo, h, show b0 ≠ 224 by omega]
  have e2 : (b0 = 244 → refHi b0 = 143) ∧ (b0 ≠ 244 → refHi b0 = 191) := by constructor <;> intro h <;> simp [refHi, h, show b0 ≠ 237 by omega]
  simp only [refN, Lib.decodeN, e]
  rw [if_neg (by omega), if_neg (by omega), if_neg (by omega : ¬ b0 < 128), if_neg (by omega : ¬ (b0 / 32 = 6 ∧ (1 < n ∧ b1 / 64 = 2))), if_neg (by omega : ¬ (b0 / 16 = 14 ∧ (1 < n ∧ b1 / 64 = 2) ∧ (2 < n ∧ b2 / 64 = 2)))]
  generalize refLo b0 = lo at *
  generalize refHi b0 = hi at *
  by_cases hc : n < 4 ∨ b1 < lo ∨ hi < b1
  · rw [if_pos hc]
    split
    · rw [if_neg (by omega)]; simp [wid]
    · simp [wid]
  · rw [if_neg hc]
    by_cases hd : (b2 < 128 ∨ 191 < b2) ∨ (b3 < 128 ∨ 191 < b3)
    · rw [if_pos (by omega), if_neg (by omega)]; simp [wid]
    · rw [if_neg (by omega), if_pos (by omega), if_pos (by omega)]
      simp [wid]
theorem refN_eq {n b0 b1 b2 b3 : Nat} (g0 : b0 < 256) (g1 : b1 < 256) (g2 : b2 < 256) (g3 : b3 < 256) : refN n b0 b1 b2 b3 = wid (Lib.decodeN n b0 b1 b2 b3) := by
  by_cases a : b0 < 128
  · simp only [refN, Lib.decodeN, if_pos a]
    simp [wid]; omega
  · by_cases b : 194 ≤ b0 ∧ b0 ≤ 223
    · exact refN_two b.1 b.2 g1
    · by_cases c : 224 ≤ b0 ∧ b0 ≤ 239
      · exact refN_three c.1 c.2 g1 g2
      · by_cases d : 240 ≤ b0 ∧ b0 ≤ 244
        · exact refN_four d.1 d.2 g1 g2 g3
        · have e : refW b0 = 0 := by simp [refW, a, b, c, d]
          simp only [refN, Lib.decodeN, e, if_neg a, if_true]
          split
          · rw [if_neg (by omega)]; simp [wid]
          · split
            · rw [if_neg (by omega)]; simp [wid]
            · split
              · rw [if_neg (by omega)]; simp [wid]
              · simp [wid]
theorem strAt_get (s : ByteArray) (i : Nat) : (s.get! i).toNat = strAt s i := by
  unfold strAt
  cases s with
  | mk d =>
    show (d[i]!).toNat = _
    rw [getElem!_def, List.getD_eq_getElem?_getD, Array.getElem?_toList]
    cases d[i]? <;> rfl
theorem strAt_lt (s : ByteArray) (i : Nat) : strAt s i < 256 := by
  unfold strAt; exact UInt8.toNat_lt _
/-- spinneyref01.utf: how many bytes the letter at a place has. -/
def refU (s : ByteArray) (p : Nat) : Nat := refN (s.size - p) (strAt s p) (strAt s (p + 1)) (strAt s (p + 2)) (strAt s (p + 3))
theorem refU_eq (s : ByteArray) (p : Nat) : refU s p = wid (Utf8.decode s p) := by
  rw [Lib.decode_at]
  simp only [strAt_get]
  exact refN_eq (strAt_lt _ _) (strAt_lt _ _) (strAt_lt _ _) (strAt_lt _ _)
end Go.Sx

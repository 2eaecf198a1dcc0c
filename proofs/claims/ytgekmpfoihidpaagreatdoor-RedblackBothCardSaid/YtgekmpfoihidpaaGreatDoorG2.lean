/-
  Proved: what some functions of the program answer, or a law of the evaluator that shows it, one theorem each; its conditions are the hypotheses that stand ahead of it.
-/
import Derived.Test.YtgekmpfoihidpaaGreatDoorH9
import Derived.Test.YtgekmpfoihidpaaGreatDoorPSt
import Derived.Test.YtgekmpfoihidpaaGreatDoorD1
import Derived.KernelRfl
set_option maxRecDepth 100000
set_option maxHeartbeats 4000000
set_option linter.unusedSimpArgs false
set_option linter.unusedVariables false
namespace Go.Sx
open Go.Proofs Sp
/-- A pair, and that in a place of a list, if it is there. -/
def encQ (q : V × V) : FV := .agg (cellsP q.1 ++ cellsP q.2)
theorem get130 : P.funcs[130]? = some Tryz.f130 := by kernel_rfl
theorem ent130 : entersP P 130 = true := by kernel_rfl
theorem pairEq_ok (p : V × V) (hp : Fine p.1 ∧ Fine p.2) : CallsF P G 130 [encQ p, encQ p] (bool true) := by
  refine sx_fn (hs := [.call (bool (eqB (Prod.fst p) (Prod.fst p))), .br [.call (bool (eqB (Prod.snd p) (Prod.snd p)))] []]) (let z1 := eqB (Prod.fst p) (Prod.fst p); let z2 := eqB (Prod.snd p) (Prod.snd p); CallsF P G 35 [encV (Prod.fst p), encV (Prod.fst p)] (bool z1) ∧ Br z1 (CallsF P G 35 [encV (Prod.snd p), encV (Prod.snd p)] (bool z2) ∧ bool z2 = bool true) (bool false = bool true)) get130 ent130 (by kernel_rfl) ?_
  refine ⟨?_, fun hi => ⟨?_, ?_⟩, fun hi => ?_⟩
  all_goals first | exact eq_ok _ hp.1 _ | exact eq_ok _ hp.2 _ | (exfalso; simp_all [eqB]; done) | (simp_all [eqB]; done)
end Go.Sx
set_option maxRecDepth 100000
set_option maxHeartbeats 4000000
set_option linter.unusedSimpArgs false
set_option linter.unusedVariables false
namespace Go.Sx
open Go.Proofs Sp
theorem runS_no {p : Nat → Bool} {n i : Nat} (h : (!p (((runS p n i).1 + (runS p n i).2) / 2)) = true) : (runS p n (i + 1)).1 = ((runS p n i).1 + (runS p n i).2) / 2 + 1 ∧ (runS p n (i + 1)).2 = (runS p n i).2 := by
  simp only [runS, stepS]; rw [if_neg (by simpa using h)]; exact ⟨rfl, rfl⟩
theorem runS_yes {p : Nat → Bool} {n i : Nat} (h : (!p (((runS p n i).1 + (runS p n i).2) / 2)) = false) : (runS p n (i + 1)).1 = (runS p n i).1 ∧ (runS p n (i + 1)).2 = ((runS p n i).1 + (runS p n i).2) / 2 := by
  simp only [runS, stepS]; rw [if_pos (by simpa using h)]; exact ⟨rfl, rfl⟩
theorem place_mono {p : Nat → Bool} {n r : Nat} (h : Sp.Place p n r) : ∀ i j, i ≤ j → j < n → p i = true → p j = true := by
  intro i j hij hj hi
  rcases Nat.lt_or_ge i r with h1 | h1
  · have := h.2.1 i h1; simp_all
  · exact h.2.2 j (by omega) hj
end Go.Sx

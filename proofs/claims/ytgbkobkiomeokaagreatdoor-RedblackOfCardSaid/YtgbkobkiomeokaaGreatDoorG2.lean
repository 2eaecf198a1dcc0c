/-
  Proved: what some functions of the program answer, or a law of the evaluator that shows it, one theorem each; its conditions are the hypotheses that stand ahead of it.
-/
import Derived.Test.YtgbkobkiomeokaaGreatDoorH9
import Derived.Test.YtgbkobkiomeokaaGreatDoorPSt
import Derived.Test.YtgbkobkiomeokaaGreatDoorD4
import Derived.KernelRfl
set_option maxRecDepth 100000
set_option maxHeartbeats 4000000
set_option linter.unusedSimpArgs false
set_option linter.unusedVariables false
namespace Go.Sx
open Go.Proofs Sp
/-- A pair, and that in a place of a list, if it is there. -/
def encQ (q : V × V) : FV := .agg (cellsP q.1 ++ cellsP q.2)
theorem get43 : P.funcs[43]? = some Tryz.f43 := by kernel_rfl
theorem ent43 : entersP P 43 = true := by kernel_rfl
theorem pairEq_ok (p : V × V) (hp : Fine p.1 ∧ Fine p.2) : CallsF P G 43 [encQ p, encQ p] (bool true) := by
  refine sx_fn (hs := [.call (bool (eqB (Prod.fst p) (Prod.fst p))), .br [.call (bool (eqB (Prod.snd p) (Prod.snd p)))] []]) (let z1 := eqB (Prod.fst p) (Prod.fst p); let z2 := eqB (Prod.snd p) (Prod.snd p); CallsF P G 12 [encV (Prod.fst p), encV (Prod.fst p)] (bool z1) ∧ Br z1 (CallsF P G 12 [encV (Prod.snd p), encV (Prod.snd p)] (bool z2) ∧ bool z2 = bool true) (bool false = bool true)) get43 ent43 (by kernel_rfl) ?_
  refine ⟨?_, fun hi => ⟨?_, ?_⟩, fun hi => ?_⟩
  all_goals first | exact eq_ok _ hp.1 _ | exact eq_ok _ hp.2 _ | (exfalso; simp_all [eqB]; done) | (simp_all [eqB]; done)
end Go.Sx
set_option maxRecDepth 100000
set_option maxHeartbeats 4000000
set_option linter.unusedSimpArgs false
set_option linter.unusedVariables false
namespace Go.Sx
open Go.Proofs Sp
theorem midS {a b : Nat} (h : a + b ≤ 2000000) : IntKind.i64.wrap (Int.fdiv (IntKind.u64.wrap (IntKind.i64.wrap ((a : Int) + (b : Int)))) (2 ^ min (Int.toNat 1) IntKind.u64.bits)) = (((a + b) / 2 : Nat) : Int) := by
  rw [show ((2 : Int) ^ min (Int.toNat 1) IntKind.u64.bits) = 2 from by decide]
  rw [wrapS ((a : Int) + b) (by omega) (by omega), show IntKind.u64.wrap ((a : Int) + b) = (a : Int) + b from by simp only [IntKind.wrap, IntKind.signed, IntKind.bits]; simp; omega]
  rw [show Int.fdiv ((a : Int) + b) 2 = (((a + b) / 2 : Nat) : Int) from by rw [Int.fdiv_eq_ediv_of_nonneg _ (by omega)]; omega]
  exact wrapS _ (by omega) (by omega)
end Go.Sx

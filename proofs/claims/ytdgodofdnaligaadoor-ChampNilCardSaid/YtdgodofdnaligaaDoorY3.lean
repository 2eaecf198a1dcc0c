/-
  Proved: what some functions of the program answer, or a law of the evaluator that shows it, one theorem each; its conditions are the hypotheses that stand ahead of it.
-/
import Derived.Test.YtdgodofdnaligaaDoorPCm
import Derived.KernelRfl
import Derived.Test.YtdgodofdnaligaaDoorY1
set_option maxRecDepth 100000
set_option maxHeartbeats 4000000
set_option linter.unusedSimpArgs false
set_option linter.unusedVariables false
namespace Go.Sx
open Go.Proofs Sp
end Go.Sx
set_option maxRecDepth 100000
set_option maxHeartbeats 4000000
set_option linter.unusedSimpArgs false
set_option linter.unusedVariables false
namespace Go.Sx
open Go.Proofs Sp
open Sp.Ch Sp.Sy
theorem any_cls {H : V → Nat} {k : V} {L : List (V × V)} (hc : Hc H k L) (d : Nat) (h : L.any (sameK k) = true) : (cls H d (plh d (H k)) L).any (sameK k) = true := by
  obtain ⟨q, hq, hs⟩ := List.any_eq_true.1 h
  exact List.any_eq_true.2 ⟨q, (mem_cls H).2 ⟨hq, by unfold pl; rw [hc q hq hs]⟩, hs⟩
theorem any_srt (k : V) (L : List (V × V)) : thereK k (srtL cmpV L) = L.any (sameK k) := by
  unfold thereK
  rw [Bool.eq_iff_iff, List.any_eq_true, List.any_eq_true]
  exact ⟨fun ⟨q, h8, h9⟩ => ⟨q, (srtL_perm cmpV L).mem_iff.1 h8, h9⟩, fun ⟨q, h8, h9⟩ => ⟨q, (srtL_perm cmpV L).mem_iff.2 h8, h9⟩⟩
end Go.Sx

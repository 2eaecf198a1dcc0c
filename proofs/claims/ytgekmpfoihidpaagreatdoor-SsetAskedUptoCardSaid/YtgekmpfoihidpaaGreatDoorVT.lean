/-
  Proved: what some functions of the program answer, or a law of the evaluator that shows it, one theorem each; its conditions are the hypotheses that stand ahead of it.
-/
import Derived.Test.YtgekmpfoihidpaaGreatDoorV0
import Derived.Test.YtgekmpfoihidpaaGreatDoorPT
set_option linter.unusedVariables false
namespace Go.Sx
open Go.Proofs Sp
def encT : T → FV
  | .nil => .sc (.pointer none)
  | .node c l r k v => .ptr (bool c :: encT l :: encT r :: (cellsP k ++ cellsP v)) 0
/-- A node's cells. -/
def opn (t : T) : List FV := bool t.red :: encT t.left :: encT t.right :: (cellsP t.key ++ cellsP t.val)
theorem encT_open (t : T) (h : t.isNil = false) : encT t = .ptr (opn t) 0 := by
  cases t with
  | nil => cases h
  | node => rfl
theorem encT_isn (t : T) : IsNil (encT t) t.isNil := by
  cases t with
  | nil => exact ⟨fun _ => rfl, fun h => by cases h⟩
  | node => exact ⟨fun h => (by cases h), fun _ => ⟨_, _, rfl⟩⟩
theorem encT_one (t : T) : AV.one (.f (encT t)) = true := by
  cases t <;> rfl
theorem encT_nil {t : T} (h : t.isNil = true) : t = .nil := by cases t with
  | nil => rfl
  | node => cases h
end Go.Sx

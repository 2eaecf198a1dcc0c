/-
  Proved: what some functions of the program answer, or a law of the evaluator that shows it, one theorem each; its conditions are the hypotheses that stand ahead of it.
-/
import Derived.Test.YtgbkobkiomeokaaDoorPV
import Derived.Test.YtgbkobkiomeokaaDoorV0
set_option linter.unusedVariables false
set_option linter.unusedSimpArgs false
namespace Sp
/-- A red-black tree. -/
inductive T where
  | nil
  | node (red : Bool) (l r : T) (k v : V)
deriving Inhabited
namespace T
def isNil : T → Bool | nil => true | _ => false
def red : T → Bool | nil => false | node c _ _ _ _ => c
def black : T → Bool | nil => false | node c _ _ _ _ => !c
def left : T → T | nil => nil | node _ l _ _ _ => l
def right : T → T | nil => nil | node _ _ r _ _ => r
def key : T → V | nil => default | node _ _ _ k _ => k
def val : T → V | nil => default | node _ _ _ _ v => v
@[simp] theorem isNil_nil : nil.isNil = true := rfl
@[simp] theorem isNil_mk (c : Bool) (l r : T) (k v : V) : (node c l r k v).isNil = false := rfl
@[simp] theorem red_nil : nil.red = false := rfl
@[simp] theorem red_mk (c : Bool) (l r : T) (k v : V) : (node c l r k v).red = c := rfl
@[simp] theorem black_nil : nil.black = false := rfl
@[simp] theorem black_mk (c : Bool) (l r : T) (k v : V) : (node c l r k v).black = !c := rfl
@[simp] theorem left_mk (c : Bool) (l r : T) (k v : V) : (node c l r k v).left = l := rfl
@[simp] theorem right_mk (c : Bool) (l r : T) (k v : V) : (node c l r k v).right = r := rfl
@[simp] theorem key_mk (c : Bool) (l r : T) (k v : V) : (node c l r k v).key = k := rfl
@[simp] theorem val_mk (c : Bool) (l r : T) (k v : V) : (node c l r k v).val = v := rfl
def toList : T → List (V × V)
  | nil => []
  | node _ l r k v => l.toList ++ (k, v) :: r.toList
end T
end Sp
set_option linter.unusedVariables false
namespace Go.Sx
open Go.Proofs Sp
end Go.Sx
set_option linter.unusedVariables false
set_option linter.unusedSimpArgs false
namespace Sp
namespace T
/-- Is a key on its way? -/
def has (c : V → V → Int) (k : V) : T → Prop
  | nil => False
  | node _ l r xk _ => if c k xk = 0 then True else if c k xk < 0 then has c k l else has c k r
/-! ### Flatness -/
def size : T → Nat
  | nil => 0
  | node _ l r _ _ => l.size + r.size + 1
end T
end Sp

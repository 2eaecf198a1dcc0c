/-
  Proved: what some functions of the program answer, or a law of the evaluator that shows it, one theorem each; its conditions are the hypotheses that stand ahead of it.
-/
import Derived.Test.YtgekmpfoihidpaaGreatDoorPV
import Derived.Test.YtgekmpfoihidpaaGreatDoorV0
set_option linter.unusedVariables false
set_option linter.unusedSimpArgs false
namespace Sp
/-- A red-black tree. -/
inductive T where
  | nil
  | node (red : Bool) (l r : T) (k v : V)
deriving Inhabited
namespace T
def isNil : T → Bool | nil => true | _ => false
def red : T → Bool | nil => false | node c _ _ _ _ => c
def black : T → Bool | nil => false | node c _ _ _ _ => !c
def left : T → T | nil => nil | node _ l _ _ _ => l
def right : T → T | nil => nil | node _ _ r _ _ => r
def key : T → V | nil => default | node _ _ _ k _ => k
def val : T → V | nil => default | node _ _ _ _ v => v
@[simp] theorem isNil_nil : nil.isNil = true := rfl
@[simp] theorem isNil_mk (c : Bool) (l r : T) (k v : V) : (node c l r k v).isNil = false := rfl
@[simp] theorem red_nil : nil.red = false := rfl
@[simp] theorem red_mk (c : Bool) (l r : T) (k v : V) : (node c l r k v).red = c := rfl
@[simp] theorem black_nil : nil.black = false := rfl
@[simp] theorem black_mk (c : Bool) (l r : T) (k v : V) : (node c l r k v).black = !c := rfl
@[simp] theorem left_mk (c : Bool) (l r : T) (k v : V) : (node c l r k v).left = l := rfl
@[simp] theorem right_mk (c : Bool) (l r : T) (k v : V) : (node c l r k v).right = r := rfl
@[simp] theorem key_mk (c : Bool) (l r : T) (k v : V) : (node c l r k v).key = k := rfl
@[simp] theorem val_mk (c : Bool) (l r : T) (k v : V) : (node c l r k v).val = v := rfl
def like (x : T) (c : Bool) (l r : T) : T := node c l r x.key x.val
def blackened (x : T) : T := if x.red then x.like false x.left x.right else x
def balance (x l r : T) : T :=
  if l.red && r.red then x.like true (l.like false l.left l.right) (r.like false r.left r.right)
  else if l.red && l.left.red then l.like true l.left.blackened (x.like false l.right r)
  else if l.red && l.right.red then l.right.like true (l.like false l.left l.right.left) (x.like false l.right.right r)
  else if r.red && r.right.red then r.like true (x.like false l r.left) r.right.blackened
  else if r.red && r.left.red then r.left.like true (x.like false l r.left.left) (r.like false r.left.right r.right)
  else x.like false l r
def insert (c : V → V → Int) (k v : V) : T → T
  | nil => node true nil nil k v
  | node red l r xk xv =>
    if c k xk = 0 then node red l r k v
    else if c k xk < 0 then (if red then node true (insert c k v l) r xk xv else balance (node red l r xk xv) (insert c k v l) r)
    else (if red then node true l (insert c k v r) xk xv else balance (node red l r xk xv) l (insert c k v r))
theorem insert_eq (c : V → V → Int) (k v : V) (x : T) (h : x.isNil = false) : insert c k v x =
    if c k x.key = 0 then node x.red x.left x.right k v
    else if c k x.key < 0 then (if x.red then x.like true (insert c k v x.left) x.right else balance x (insert c k v x.left) x.right)
    else (if x.red then x.like true x.left (insert c k v x.right) else balance x x.left (insert c k v x.right)) := by
  cases x with
  | nil => cases h
  | node => rfl
def height : T → Nat
  | nil => 0
  | node _ l r _ _ => 1 + max l.height r.height
theorem height_eq (x : T) (h : x.isNil = false) : x.height = 1 + max x.left.height x.right.height := by
  cases x with
  | nil => cases h
  | node => rfl
def toList : T → List (V × V)
  | nil => []
  | node _ l r k v => l.toList ++ (k, v) :: r.toList
/-- The node that bears a key. -/
def find (c : V → V → Int) (k : V) : T → T
  | nil => nil
  | node b l r xk xv => if c k xk < 0 then find c k l else if 0 < c k xk then find c k r else node b l r xk xv
theorem red_isNil {t : T} (h : t.red = true) : t.isNil = false := by cases t <;> simp_all
end T
end Sp
set_option linter.unusedVariables false
namespace Go.Sx
open Go.Proofs Sp
def encT : T → FV
  | .nil => .sc (.pointer none)
  | .node c l r k v => .ptr (bool c :: encT l :: encT r :: (cellsP k ++ cellsP v)) 0
/-- A node's cells. -/
def opn (t : T) : List FV := bool t.red :: encT t.left :: encT t.right :: (cellsP t.key ++ cellsP t.val)
theorem encT_open (t : T) (h : t.isNil = false) : encT t = .ptr (opn t) 0 := by
  cases t with
  | nil => cases h
  | node => rfl
theorem encT_isn (t : T) : IsNil (encT t) t.isNil := by
  cases t with
  | nil => exact ⟨fun _ => rfl, fun h => by cases h⟩
  | node => exact ⟨fun h => (by cases h), fun _ => ⟨_, _, rfl⟩⟩
theorem encT_one (t : T) : AV.one (.f (encT t)) = true := by
  cases t <;> rfl
theorem encT_nil {t : T} (h : t.isNil = true) : t = .nil := by cases t with
  | nil => rfl
  | node => cases h
end Go.Sx

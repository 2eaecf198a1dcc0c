/-
  Proved: what some functions of the program answer, or a law of the evaluator that shows it, one theorem each; its conditions are the hypotheses that stand ahead of it.
-/
import Derived.Test.YtgekmpfoihidpaaGreatDoorPV
set_option linter.unusedVariables false
set_option linter.unusedSimpArgs false
namespace Sp
/-- A red-black tree. -/
inductive T where
  | nil
  | node (red : Bool) (l r : T) (k v : V)
deriving Inhabited
namespace T
def isNil : T → Bool | nil => true | _ => false
def red : T → Bool | nil => false | node c _ _ _ _ => c
def black : T → Bool | nil => false | node c _ _ _ _ => !c
def left : T → T | nil => nil | node _ l _ _ _ => l
def right : T → T | nil => nil | node _ _ r _ _ => r
def key : T → V | nil => default | node _ _ _ k _ => k
def val : T → V | nil => default | node _ _ _ _ v => v
@[simp] theorem isNil_nil : nil.isNil = true := rfl
@[simp] theorem isNil_mk (c : Bool) (l r : T) (k v : V) : (node c l r k v).isNil = false := rfl
@[simp] theorem red_nil : nil.red = false := rfl
@[simp] theorem red_mk (c : Bool) (l r : T) (k v : V) : (node c l r k v).red = c := rfl
@[simp] theorem black_nil : nil.black = false := rfl
@[simp] theorem black_mk (c : Bool) (l r : T) (k v : V) : (node c l r k v).black = !c := rfl
@[simp] theorem left_mk (c : Bool) (l r : T) (k v : V) : (node c l r k v).left = l := rfl
@[simp] theorem right_mk (c : Bool) (l r : T) (k v : V) : (node c l r k v).right = r := rfl
@[simp] theorem key_mk (c : Bool) (l r : T) (k v : V) : (node c l r k v).key = k := rfl
@[simp] theorem val_mk (c : Bool) (l r : T) (k v : V) : (node c l r k v).val = v := rfl
def like (x : T) (c : Bool) (l r : T) : T := node c l r x.key x.val
def blackened (x : T) : T := if x.red then x.like false x.left x.right else x
def lowered (x : T) : T := x.like true x.left x.right
def balance (x l r : T) : T :=
  if l.red && r.red then x.like true (l.like false l.left l.right) (r.like false r.left r.right)
  else if l.red && l.left.red then l.like true l.left.blackened (x.like false l.right r)
  else if l.red && l.right.red then l.right.like true (l.like false l.left l.right.left) (x.like false l.right.right r)
  else if r.red && r.right.red then r.like true (x.like false l r.left) r.right.blackened
  else if r.red && r.left.red then r.left.like true (x.like false l r.left.left) (r.like false r.left.right r.right)
  else x.like false l r
def leftShort (x l r : T) : T :=
  if l.red then x.like true l.blackened r
  else if r.black then balance x l r.lowered
  else r.left.like true (x.like false l r.left.left) (balance r r.left.right r.right.lowered)
def rightShort (x l r : T) : T :=
  if r.red then x.like true l r.blackened
  else if l.black then balance x l.lowered r
  else l.right.like true (balance l l.left.lowered l.right.left) (x.like false l.right.right r)
def joined : T → T → T
  | nil, r => r
  | node cl ll lr lk lv, nil => node cl ll lr lk lv
  | node cl ll lr lk lv, node cr rl rr rk rv =>
    if cl && cr then
      if (joined lr rl).red then (joined lr rl).like true (node true ll (joined lr rl).left lk lv) (node true (joined lr rl).right rr rk rv)
      else node true ll (node true (joined lr rl) rr rk rv) lk lv
    else if !cl && !cr then
      if (joined lr rl).red then (joined lr rl).like true (node false ll (joined lr rl).left lk lv) (node false (joined lr rl).right rr rk rv)
      else leftShort (node cl ll lr lk lv) ll (node false (joined lr rl) rr rk rv)
    else if cr then node true (joined (node cl ll lr lk lv) rl) rr rk rv
    else node true ll (joined lr (node cr rl rr rk rv)) lk lv
termination_by l r => sizeOf l + sizeOf r
theorem joined_eq (l r : T) (hl : l.isNil = false) (hr : r.isNil = false) : joined l r =
    if l.red && r.red then
      if (joined l.right r.left).red then (joined l.right r.left).like true (l.like true l.left (joined l.right r.left).left) (r.like true (joined l.right r.left).right r.right)
      else l.like true l.left (r.like true (joined l.right r.left) r.right)
    else if !l.red && !r.red then
      if (joined l.right r.left).red then (joined l.right r.left).like true (l.like false l.left (joined l.right r.left).left) (r.like false (joined l.right r.left).right r.right)
      else leftShort l l.left (r.like false (joined l.right r.left) r.right)
    else if r.red then r.like true (joined l r.left) r.right
    else l.like true l.left (joined l.right r) := by
  cases l with
  | nil => cases hl
  | node => cases r with
    | nil => cases hr
    | node => rw [joined]; rfl
def insert (c : V → V → Int) (k v : V) : T → T
  | nil => node true nil nil k v
  | node red l r xk xv =>
    if c k xk = 0 then node red l r k v
    else if c k xk < 0 then (if red then node true (insert c k v l) r xk xv else balance (node red l r xk xv) (insert c k v l) r)
    else (if red then node true l (insert c k v r) xk xv else balance (node red l r xk xv) l (insert c k v r))
theorem insert_eq (c : V → V → Int) (k v : V) (x : T) (h : x.isNil = false) : insert c k v x =
    if c k x.key = 0 then node x.red x.left x.right k v
    else if c k x.key < 0 then (if x.red then x.like true (insert c k v x.left) x.right else balance x (insert c k v x.left) x.right)
    else (if x.red then x.like true x.left (insert c k v x.right) else balance x x.left (insert c k v x.right)) := by
  cases x with
  | nil => cases h
  | node => rfl
def remove (c : V → V → Int) (k : V) : T → T
  | nil => nil
  | node red l r xk xv =>
    if c k xk = 0 then joined l r
    else if c k xk < 0 then (if l.black then leftShort (node red l r xk xv) (remove c k l) r else node true (remove c k l) r xk xv)
    else (if r.black then rightShort (node red l r xk xv) l (remove c k r) else node true l (remove c k r) xk xv)
theorem remove_eq (c : V → V → Int) (k : V) (x : T) (h : x.isNil = false) : remove c k x =
    if c k x.key = 0 then joined x.left x.right
    else if c k x.key < 0 then (if x.left.black then leftShort x (remove c k x.left) x.right else x.like true (remove c k x.left) x.right)
    else (if x.right.black then rightShort x x.left (remove c k x.right) else x.like true x.left (remove c k x.right)) := by
  cases x with
  | nil => cases h
  | node => rfl
def height : T → Nat
  | nil => 0
  | node _ l r _ _ => 1 + max l.height r.height
theorem height_eq (x : T) (h : x.isNil = false) : x.height = 1 + max x.left.height x.right.height := by
  cases x with
  | nil => cases h
  | node => rfl
def toList : T → List (V × V)
  | nil => []
  | node _ l r k v => l.toList ++ (k, v) :: r.toList
/-- The node that bears a key. -/
def find (c : V → V → Int) (k : V) : T → T
  | nil => nil
  | node b l r xk xv => if c k xk < 0 then find c k l else if 0 < c k xk then find c k r else node b l r xk xv
theorem red_isNil {t : T} (h : t.red = true) : t.isNil = false := by cases t <;> simp_all
theorem black_isNil {t : T} (h : t.black = true) : t.isNil = false := by cases t <;> simp_all
end T
end Sp

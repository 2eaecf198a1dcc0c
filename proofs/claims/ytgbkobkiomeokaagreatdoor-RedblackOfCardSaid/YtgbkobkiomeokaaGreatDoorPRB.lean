/-
  Proved: what some functions of the program answer, or a law of the evaluator that shows it, one theorem each; its conditions are the hypotheses that stand ahead of it.
-/
import Derived.Test.YtgbkobkiomeokaaGreatDoorPV
import Derived.Test.YtgbkobkiomeokaaGreatDoorV0
set_option linter.unusedVariables false
set_option linter.unusedSimpArgs false
namespace Sp
/-- A red-black tree. -/
inductive T where
  | nil
  | node (red : Bool) (l r : T) (k v : V)
deriving Inhabited
namespace T
def isNil : T → Bool | nil => true | _ => false
def red : T → Bool | nil => false | node c _ _ _ _ => c
def black : T → Bool | nil => false | node c _ _ _ _ => !c
def left : T → T | nil => nil | node _ l _ _ _ => l
def right : T → T | nil => nil | node _ _ r _ _ => r
def key : T → V | nil => default | node _ _ _ k _ => k
def val : T → V | nil => default | node _ _ _ _ v => v
@[simp] theorem isNil_nil : nil.isNil = true := rfl
@[simp] theorem isNil_mk (c : Bool) (l r : T) (k v : V) : (node c l r k v).isNil = false := rfl
@[simp] theorem red_nil : nil.red = false := rfl
@[simp] theorem red_mk (c : Bool) (l r : T) (k v : V) : (node c l r k v).red = c := rfl
@[simp] theorem black_nil : nil.black = false := rfl
@[simp] theorem black_mk (c : Bool) (l r : T) (k v : V) : (node c l r k v).black = !c := rfl
@[simp] theorem left_mk (c : Bool) (l r : T) (k v : V) : (node c l r k v).left = l := rfl
@[simp] theorem right_mk (c : Bool) (l r : T) (k v : V) : (node c l r k v).right = r := rfl
@[simp] theorem key_mk (c : Bool) (l r : T) (k v : V) : (node c l r k v).key = k := rfl
@[simp] theorem val_mk (c : Bool) (l r : T) (k v : V) : (node c l r k v).val = v := rfl
def like (x : T) (c : Bool) (l r : T) : T := node c l r x.key x.val
def blackened (x : T) : T := if x.red then x.like false x.left x.right else x
def balance (x l r : T) : T :=
  if l.red && r.red then x.like true (l.like false l.left l.right) (r.like false r.left r.right)
  else if l.red && l.left.red then l.like true l.left.blackened (x.like false l.right r)
  else if l.red && l.right.red then l.right.like true (l.like false l.left l.right.left) (x.like false l.right.right r)
  else if r.red && r.right.red then r.like true (x.like false l r.left) r.right.blackened
  else if r.red && r.left.red then r.left.like true (x.like false l r.left.left) (r.like false r.left.right r.right)
  else x.like false l r
def insert (c : V → V → Int) (k v : V) : T → T
  | nil => node true nil nil k v
  | node red l r xk xv =>
    if c k xk = 0 then node red l r k v
    else if c k xk < 0 then (if red then node true (insert c k v l) r xk xv else balance (node red l r xk xv) (insert c k v l) r)
    else (if red then node true l (insert c k v r) xk xv else balance (node red l r xk xv) l (insert c k v r))
theorem insert_eq (c : V → V → Int) (k v : V) (x : T) (h : x.isNil = false) : insert c k v x =
    if c k x.key = 0 then node x.red x.left x.right k v
    else if c k x.key < 0 then (if x.red then x.like true (insert c k v x.left) x.right else balance x (insert c k v x.left) x.right)
    else (if x.red then x.like true x.left (insert c k v x.right) else balance x x.left (insert c k v x.right)) := by
  cases x with
  | nil => cases h
  | node => rfl
def height : T → Nat
  | nil => 0
  | node _ l r _ _ => 1 + max l.height r.height
theorem height_eq (x : T) (h : x.isNil = false) : x.height = 1 + max x.left.height x.right.height := by
  cases x with
  | nil => cases h
  | node => rfl
def toList : T → List (V × V)
  | nil => []
  | node _ l r k v => l.toList ++ (k, v) :: r.toList
/-- The node that bears a key. -/
def find (c : V → V → Int) (k : V) : T → T
  | nil => nil
  | node b l r xk xv => if c k xk < 0 then find c k l else if 0 < c k xk then find c k r else node b l r xk xv
theorem red_isNil {t : T} (h : t.red = true) : t.isNil = false := by cases t <;> simp_all
end T
end Sp
set_option linter.unusedVariables false
namespace Go.Sx
open Go.Proofs Sp
def encT : T → FV
  | .nil => .sc (.pointer none)
  | .node c l r k v => .ptr (bool c :: encT l :: encT r :: (cellsP k ++ cellsP v)) 0
/-- A node's cells. -/
def opn (t : T) : List FV := bool t.red :: encT t.left :: encT t.right :: (cellsP t.key ++ cellsP t.val)
theorem encT_open (t : T) (h : t.isNil = false) : encT t = .ptr (opn t) 0 := by
  cases t with
  | nil => cases h
  | node => rfl
theorem encT_isn (t : T) : IsNil (encT t) t.isNil := by
  cases t with
  | nil => exact ⟨fun _ => rfl, fun h => by cases h⟩
  | node => exact ⟨fun h => (by cases h), fun _ => ⟨_, _, rfl⟩⟩
theorem encT_one (t : T) : AV.one (.f (encT t)) = true := by
  cases t <;> rfl
theorem encT_nil {t : T} (h : t.isNil = true) : t = .nil := by cases t with
  | nil => rfl
  | node => cases h
end Go.Sx
set_option linter.unusedVariables false
set_option linter.unusedSimpArgs false
namespace Sp
namespace T
/-- The rules of colours: below a red node black ones, n black ones on each way down. -/
def rb : T → Nat → Prop
  | nil, n => n = 0
  | node true l r _ _, n => rb l n ∧ rb r n ∧ l.red = false ∧ r.red = false
  | node false l r _ _, n => ∃ m, n = m + 1 ∧ rb l m ∧ rb r m
/-- The same, but that the root and one below it may both be red. -/
def ir : T → Nat → Prop
  | nil, n => n = 0
  | node true l r _ _, n => rb l n ∧ rb r n
  | node false l r _ _, n => ∃ m, n = m + 1 ∧ rb l m ∧ rb r m
theorem rb_ir : ∀ {t : T} {n : Nat}, t.rb n → t.ir n
  | nil, _, h => h
  | node true _ _ _ _, _, h => ⟨h.1, h.2.1⟩
  | node false _ _ _ _, _, h => h
theorem ir_rb : ∀ {t : T} {n : Nat}, t.ir n → t.red = false → t.rb n
  | nil, _, h, _ => h
  | node true _ _ _ _, _, _, hr => by cases hr
  | node false _ _ _ _, _, h, _ => h
theorem red_node {t : T} (h : t.red = true) : ∃ l r k v, t = node true l r k v := by
  cases t with
  | nil => cases h
  | node c l r k v => cases h; exact ⟨l, r, k, v, rfl⟩
theorem rb_like_false (x : T) {l r : T} {n : Nat} (hl : l.rb n) (hr : r.rb n) : (x.like false l r).rb (n + 1) := ⟨n, rfl, hl, hr⟩
theorem rb_like_true (x : T) {l r : T} {n : Nat} (hl : l.rb n) (hr : r.rb n) (h1 : l.red = false) (h2 : r.red = false) : (x.like true l r).rb n := ⟨hl, hr, h1, h2⟩
theorem blackened_red (t : T) : t.blackened.red = false := by
  unfold blackened
  split
  · rfl
  · rename_i h; simpa using h
theorem blackened_rb {t : T} {n : Nat} (h : t.ir n) : t.blackened.rb (if t.red then n + 1 else n) := by
  unfold blackened
  split
  · rename_i hr
    obtain ⟨l, r, k, v, rfl⟩ := red_node hr
    exact rb_like_false _ h.1 h.2
  · rename_i hr
    exact ir_rb h (by simpa using hr)
theorem balance_rb (x : T) {l r : T} {n : Nat} (h : (l.ir n ∧ r.rb n) ∨ (l.rb n ∧ r.ir n)) : (balance x l r).rb (n + 1) := by
  have hl : l.ir n := h.elim (fun h => h.1) (fun h => rb_ir h.1)
  have hr : r.ir n := h.elim (fun h => rb_ir h.2) (fun h => h.2)
  unfold balance
  by_cases lr : l.red = true
  · obtain ⟨ll, lr', lk, lv, rfl⟩ := red_node lr
    by_cases rr : r.red = true
    · obtain ⟨rl, rr', rk, rv, rfl⟩ := red_node rr
      rw [if_pos (by simp)]
      exact rb_like_true _ (rb_like_false _ hl.1 hl.2) (rb_like_false _ hr.1 hr.2) rfl rfl
    · have rr0 : r.red = false := by simpa using rr
      have hr' := ir_rb hr rr0
      rw [if_neg (by simp [rr0])]
      by_cases l1 : ll.red = true
      · rw [if_pos (by simp [l1])]
        obtain ⟨a, b, k, v, rfl⟩ := red_node l1
        refine rb_like_true _ ?_ (rb_like_false _ hl.2 hr') (blackened_red _) rfl
        have := blackened_rb (rb_ir hl.1)
        simpa using this
      · have l10 : ll.red = false := by simpa using l1
        rw [if_neg (by simp [l10])]
        by_cases l2 : lr'.red = true
        · rw [if_pos (by simp [l2])]
          obtain ⟨a, b, k, v, rfl⟩ := red_node l2
          exact rb_like_true _ (rb_like_false _ hl.1 hl.2.1) (rb_like_false _ hl.2.2.1 hr') rfl rfl
        · have l20 : lr'.red = false := by simpa using l2
          rw [if_neg (by simp [l20]), if_neg (by simp [rr0]), if_neg (by simp [rr0])]
          exact rb_like_false _ ⟨hl.1, hl.2, l10, l20⟩ hr'
  · have lr0 : l.red = false := by simpa using lr
    have hl' := ir_rb hl lr0
    rw [if_neg (by simp [lr0]), if_neg (by simp [lr0]), if_neg (by simp [lr0])]
    by_cases rr : r.red = true
    · obtain ⟨rl, rr', rk, rv, rfl⟩ := red_node rr
      by_cases r1 : rr'.red = true
      · rw [if_pos (by simp [r1])]
        obtain ⟨a, b, k, v, rfl⟩ := red_node r1
        refine rb_like_true _ (rb_like_false _ hl' hr.1) ?_ rfl (blackened_red _)
        have := blackened_rb (rb_ir hr.2)
        simpa using this
      · have r10 : rr'.red = false := by simpa using r1
        rw [if_neg (by simp [r10])]
        by_cases r2 : rl.red = true
        · rw [if_pos (by simp [r2])]
          obtain ⟨a, b, k, v, rfl⟩ := red_node r2
          exact rb_like_true _ (rb_like_false _ hl' hr.1.1) (rb_like_false _ hr.1.2.1 hr.2) rfl rfl
        · have r20 : rl.red = false := by simpa using r2
          rw [if_neg (by simp [r20])]
          exact rb_like_false _ hl' ⟨hr.1, hr.2, r20, r10⟩
    · have rr0 : r.red = false := by simpa using rr
      rw [if_neg (by simp [rr0]), if_neg (by simp [rr0])]
      exact rb_like_false _ hl' (ir_rb hr rr0)
theorem insert_rb (c : V → V → Int) (k v : V) : ∀ (t : T) (n : Nat), t.rb n → (insert c k v t).ir n ∧ (t.red = false → (insert c k v t).rb n)
  | nil, n, h => by
    obtain rfl : n = 0 := h
    exact ⟨⟨rfl, rfl⟩, fun _ => ⟨rfl, rfl, rfl, rfl⟩⟩
  | node col l r xk xv, n, h => by
    simp only [insert]
    by_cases h0 : c k xk = 0
    · rw [if_pos h0]
      have : (node col l r k v).rb n := by cases col <;> exact h
      exact ⟨rb_ir this, fun _ => this⟩
    · rw [if_neg h0]
      by_cases h1 : c k xk < 0
      · rw [if_pos h1]
        cases col with
        | true =>
          rw [if_pos rfl]
          obtain ⟨i1, i2⟩ := insert_rb c k v l n h.1
          exact ⟨⟨i2 h.2.2.1, h.2.1⟩, fun h => (by cases h)⟩
        | false =>
          obtain ⟨m, rfl, h2, h3⟩ := h
          obtain ⟨i1, i2⟩ := insert_rb c k v l m h2
          rw [if_neg (by simp)]
          have := balance_rb (node false l r xk xv) (.inl ⟨i1, h3⟩)
          exact ⟨rb_ir this, fun _ => this⟩
      · rw [if_neg h1]
        cases col with
        | true =>
          rw [if_pos rfl]
          obtain ⟨i1, i2⟩ := insert_rb c k v r n h.2.1
          exact ⟨⟨h.1, i2 h.2.2.2⟩, fun h => (by cases h)⟩
        | false =>
          obtain ⟨m, rfl, h2, h3⟩ := h
          obtain ⟨i1, i2⟩ := insert_rb c k v r m h3
          rw [if_neg (by simp)]
          have := balance_rb (node false l r xk xv) (.inr ⟨h2, i1⟩)
          exact ⟨rb_ir this, fun _ => this⟩
/-- Is a key on its way? -/
def has (c : V → V → Int) (k : V) : T → Prop
  | nil => False
  | node _ l r xk _ => if c k xk = 0 then True else if c k xk < 0 then has c k l else has c k r
/-! ### Flatness -/
def size : T → Nat
  | nil => 0
  | node _ l r _ _ => l.size + r.size + 1
theorem toList_length : ∀ t : T, t.toList.length = t.size
  | nil => rfl
  | node _ l r _ _ => by simp [toList, size, toList_length l, toList_length r]; omega
theorem rb_height : ∀ (t : T) (n : Nat), t.rb n → t.height ≤ 2 * n + (if t.red then 1 else 0)
  | nil, n, h => by simp [height]
  | node true l r _ _, n, h => by
    have h1 := rb_height l n h.1
    have h2 := rb_height r n h.2.1
    rw [h.2.2.1] at h1
    rw [h.2.2.2] at h2
    simp [height] at *
    omega
  | node false l r _ _, n, h => by
    obtain ⟨m, rfl, h1, h2⟩ := h
    have h3 := rb_height l m h1
    have h4 := rb_height r m h2
    simp [height] at *
    have h9 : ∀ b : Bool, (if b = true then 1 else 0) ≤ 1 := fun b => by cases b <;> simp
    have h5 := h9 l.red
    have h6 := h9 r.red
    omega
theorem rb_size : ∀ (t : T) (n : Nat), t.rb n → 2 ^ n ≤ t.size + 1
  | nil, n, h => by obtain rfl : n = 0 := h; simp [size]
  | node true l r _ _, n, h => by
    have h1 := rb_size l n h.1
    simp [size]; omega
  | node false l r _ _, n, h => by
    obtain ⟨m, rfl, h1, h2⟩ := h
    have h3 := rb_size l m h1
    have h4 := rb_size r m h2
    simp [size, Nat.pow_succ]; omega
theorem height_zero (t : T) : t.height = 0 ↔ t.size = 0 := by
  cases t <;> simp [height, size]
end T
end Sp

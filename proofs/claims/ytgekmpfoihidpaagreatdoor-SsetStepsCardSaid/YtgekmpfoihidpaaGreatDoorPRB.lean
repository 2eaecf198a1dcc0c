/-
  Proved: what some functions of the program answer, or a law of the evaluator that shows it, one theorem each; its conditions are the hypotheses that stand ahead of it.
-/
import Derived.Test.YtgekmpfoihidpaaGreatDoorPT
set_option linter.unusedVariables false
set_option linter.unusedSimpArgs false
namespace Sp
namespace T
/-- The rules of colours: below a red node black ones, n black ones on each way down. -/
def rb : T → Nat → Prop
  | nil, n => n = 0
  | node true l r _ _, n => rb l n ∧ rb r n ∧ l.red = false ∧ r.red = false
  | node false l r _ _, n => ∃ m, n = m + 1 ∧ rb l m ∧ rb r m
/-- The same, but that the root and one below it may both be red. -/
def ir : T → Nat → Prop
  | nil, n => n = 0
  | node true l r _ _, n => rb l n ∧ rb r n
  | node false l r _ _, n => ∃ m, n = m + 1 ∧ rb l m ∧ rb r m
theorem rb_ir : ∀ {t : T} {n : Nat}, t.rb n → t.ir n
  | nil, _, h => h
  | node true _ _ _ _, _, h => ⟨h.1, h.2.1⟩
  | node false _ _ _ _, _, h => h
theorem ir_rb : ∀ {t : T} {n : Nat}, t.ir n → t.red = false → t.rb n
  | nil, _, h, _ => h
  | node true _ _ _ _, _, _, hr => by cases hr
  | node false _ _ _ _, _, h, _ => h
theorem red_node {t : T} (h : t.red = true) : ∃ l r k v, t = node true l r k v := by
  cases t with
  | nil => cases h
  | node c l r k v => cases h; exact ⟨l, r, k, v, rfl⟩
theorem rb_like_false (x : T) {l r : T} {n : Nat} (hl : l.rb n) (hr : r.rb n) : (x.like false l r).rb (n + 1) := ⟨n, rfl, hl, hr⟩
theorem rb_like_true (x : T) {l r : T} {n : Nat} (hl : l.rb n) (hr : r.rb n) (h1 : l.red = false) (h2 : r.red = false) : (x.like true l r).rb n := ⟨hl, hr, h1, h2⟩
theorem ir_like_true (x : T) {l r : T} {n : Nat} (hl : l.rb n) (hr : r.rb n) : (x.like true l r).ir n := ⟨hl, hr⟩
theorem blackened_red (t : T) : t.blackened.red = false := by
  unfold blackened
  split
  · rfl
  · rename_i h; simpa using h
theorem blackened_rb {t : T} {n : Nat} (h : t.ir n) : t.blackened.rb (if t.red then n + 1 else n) := by
  unfold blackened
  split
  · rename_i hr
    obtain ⟨l, r, k, v, rfl⟩ := red_node hr
    exact rb_like_false _ h.1 h.2
  · rename_i hr
    exact ir_rb h (by simpa using hr)
theorem balance_rb (x : T) {l r : T} {n : Nat} (h : (l.ir n ∧ r.rb n) ∨ (l.rb n ∧ r.ir n)) : (balance x l r).rb (n + 1) := by
  have hl : l.ir n := h.elim (fun h => h.1) (fun h => rb_ir h.1)
  have hr : r.ir n := h.elim (fun h => rb_ir h.2) (fun h => h.2)
  unfold balance
  by_cases lr : l.red = true
  · obtain ⟨ll, lr', lk, lv, rfl⟩ := red_node lr
    by_cases rr : r.red = true
    · obtain ⟨rl, rr', rk, rv, rfl⟩ := red_node rr
      rw [if_pos (by simp)]
      exact rb_like_true _ (rb_like_false _ hl.1 hl.2) (rb_like_false _ hr.1 hr.2) rfl rfl
    · have rr0 : r.red = false := by simpa using rr
      have hr' := ir_rb hr rr0
      rw [if_neg (by simp [rr0])]
      by_cases l1 : ll.red = true
      · rw [if_pos (by simp [l1])]
        obtain ⟨a, b, k, v, rfl⟩ := red_node l1
        refine rb_like_true _ ?_ (rb_like_false _ hl.2 hr') (blackened_red _) rfl
        have := blackened_rb (rb_ir hl.1)
        simpa using this
      · have l10 : ll.red = false := by simpa using l1
        rw [if_neg (by simp [l10])]
        by_cases l2 : lr'.red = true
        · rw [if_pos (by simp [l2])]
          obtain ⟨a, b, k, v, rfl⟩ := red_node l2
          exact rb_like_true _ (rb_like_false _ hl.1 hl.2.1) (rb_like_false _ hl.2.2.1 hr') rfl rfl
        · have l20 : lr'.red = false := by simpa using l2
          rw [if_neg (by simp [l20]), if_neg (by simp [rr0]), if_neg (by simp [rr0])]
          exact rb_like_false _ ⟨hl.1, hl.2, l10, l20⟩ hr'
  · have lr0 : l.red = false := by simpa using lr
    have hl' := ir_rb hl lr0
    rw [if_neg (by simp [lr0]), if_neg (by simp [lr0]), if_neg (by simp [lr0])]
    by_cases rr : r.red = true
    · obtain ⟨rl, rr', rk, rv, rfl⟩ := red_node rr
      by_cases r1 : rr'.red = true
      · rw [if_pos (by simp [r1])]
        obtain ⟨a, b, k, v, rfl⟩ := red_node r1
        refine rb_like_true _ (rb_like_false _ hl' hr.1) ?_ rfl (blackened_red _)
        have := blackened_rb (rb_ir hr.2)
        simpa using this
      · have r10 : rr'.red = false := by simpa using r1
        rw [if_neg (by simp [r10])]
        by_cases r2 : rl.red = true
        · rw [if_pos (by simp [r2])]
          obtain ⟨a, b, k, v, rfl⟩ := red_node r2
          exact rb_like_true _ (rb_like_false _ hl' hr.1.1) (rb_like_false _ hr.1.2.1 hr.2) rfl rfl
        · have r20 : rl.red = false := by simpa using r2
          rw [if_neg (by simp [r20])]
          exact rb_like_false _ hl' ⟨hr.1, hr.2, r20, r10⟩
    · have rr0 : r.red = false := by simpa using rr
      rw [if_neg (by simp [rr0]), if_neg (by simp [rr0])]
      exact rb_like_false _ hl' (ir_rb hr rr0)
theorem black_of {t : T} {n : Nat} (h : t.rb (n + 1)) (hr : t.red = false) : ∃ l r k v, t = node false l r k v ∧ l.rb n ∧ r.rb n := by
  cases t with
  | nil => cases h
  | node c l r k v =>
    cases c with
    | true => cases hr
    | false => obtain ⟨m, e, h1, h2⟩ := h; obtain rfl : n = m := by omega
               exact ⟨l, r, k, v, rfl, h1, h2⟩
theorem leftShort_ok (x : T) {l r : T} {n : Nat} (hl : l.ir n) (hr : r.rb (n + 1)) :
    (leftShort x l r).ir (n + 1) ∧ (r.red = false → (leftShort x l r).rb (n + 1)) ∧ (l.red = false → r.black = false → r.isNil = false ∧ r.left.isNil = false ∧ r.right.isNil = false) := by
  unfold leftShort
  by_cases lr : l.red = true
  · rw [if_pos lr]
    have h1 := blackened_rb hl
    rw [if_pos lr] at h1
    exact ⟨ir_like_true _ h1 hr, fun h => rb_like_true _ h1 hr (blackened_red _) h, fun h => (by rw [lr] at h; cases h)⟩
  · have lr0 : l.red = false := by simpa using lr
    rw [if_neg lr]
    have hl' := ir_rb hl lr0
    by_cases rr : r.red = true
    · obtain ⟨rl, rr', rk, rv, rfl⟩ := red_node rr
      obtain ⟨h1, h2, h3, h4⟩ := hr
      obtain ⟨a, b, k, v, rfl, h5, h6⟩ := black_of h1 h3
      obtain ⟨a2, b2, k2, v2, rfl, h7, h8⟩ := black_of h2 h4
      rw [if_neg (by simp)]
      refine ⟨ir_like_true _ (rb_like_false _ hl' h5) (balance_rb _ (.inr ⟨h6, ir_like_true _ h7 h8⟩)), fun h => (by cases h), fun _ _ => ⟨rfl, rfl, rfl⟩⟩
    · have rr0 : r.red = false := by simpa using rr
      obtain ⟨a, b, k, v, rfl, h5, h6⟩ := black_of hr rr0
      rw [if_pos (by simp)]
      have := balance_rb x (.inr ⟨hl', ir_like_true (node false a b k v) h5 h6⟩)
      exact ⟨rb_ir this, fun _ => this, fun _ h => (by simp at h)⟩
theorem rightShort_ok (x : T) {l r : T} {n : Nat} (hr : r.ir n) (hl : l.rb (n + 1)) :
    (rightShort x l r).ir (n + 1) ∧ (l.red = false → (rightShort x l r).rb (n + 1)) ∧ (r.red = false → l.black = false → l.isNil = false ∧ l.left.isNil = false ∧ l.right.isNil = false) := by
  unfold rightShort
  by_cases lr : r.red = true
  · rw [if_pos lr]
    have h1 := blackened_rb hr
    rw [if_pos lr] at h1
    exact ⟨ir_like_true _ hl h1, fun h => rb_like_true _ hl h1 h (blackened_red _), fun h => (by rw [lr] at h; cases h)⟩
  · have lr0 : r.red = false := by simpa using lr
    rw [if_neg lr]
    have hr' := ir_rb hr lr0
    by_cases rr : l.red = true
    · obtain ⟨rl, rr', rk, rv, rfl⟩ := red_node rr
      obtain ⟨h1, h2, h3, h4⟩ := hl
      obtain ⟨a, b, k, v, rfl, h5, h6⟩ := black_of h1 h3
      obtain ⟨a2, b2, k2, v2, rfl, h7, h8⟩ := black_of h2 h4
      rw [if_neg (by simp)]
      refine ⟨ir_like_true _ (balance_rb _ (.inl ⟨ir_like_true _ h5 h6, h7⟩)) (rb_like_false _ h8 hr'), fun h => (by cases h), fun _ _ => ⟨rfl, rfl, rfl⟩⟩
    · have rr0 : l.red = false := by simpa using rr
      obtain ⟨a, b, k, v, rfl, h5, h6⟩ := black_of hl rr0
      rw [if_pos (by simp)]
      have := balance_rb x (.inl ⟨ir_like_true (node false a b k v) h5 h6, hr'⟩)
      exact ⟨rb_ir this, fun _ => this, fun _ h => (by simp at h)⟩
theorem joined_rb : ∀ (s : Nat) (l r : T) (n : Nat), sizeOf l + sizeOf r ≤ s → l.rb n → r.rb n → (joined l r).ir n ∧ (l.red = false → r.red = false → (joined l r).rb n) := by
  intro s
  induction s with
  | zero => intro l r n hs; cases l <;> simp at hs
  | succ s ih =>
    intro l r n hs hl hr
    cases l with
    | nil => rw [joined]; exact ⟨rb_ir hr, fun _ _ => hr⟩
    | node cl ll lr lk lv =>
      cases r with
      | nil => rw [joined]; exact ⟨rb_ir hl, fun _ _ => hl⟩
      | node cr rl rr rk rv =>
        simp only [node.sizeOf_spec] at hs
        rw [joined]
        cases cl <;> cases cr
        · -- both black
          obtain ⟨m, rfl, h1, h2⟩ := hl
          obtain ⟨m', e, h3, h4⟩ := hr
          obtain rfl : m = m' := by omega
          obtain ⟨j1, j2⟩ := ih lr rl m (by omega) h2 h3
          rw [if_neg (by simp), if_pos (by simp)]
          by_cases hm : (joined lr rl).red = true
          · rw [if_pos hm]
            obtain ⟨a, b, k, v, e⟩ := red_node hm
            rw [e] at j1 ⊢
            have : (T.like (node true a b k v) true (node false ll a lk lv) (node false b rr rk rv)).rb (m + 1) := rb_like_true _ ⟨m, rfl, h1, j1.1⟩ ⟨m, rfl, j1.2, h4⟩ rfl rfl
            exact ⟨rb_ir this, fun _ _ => this⟩
          · rw [if_neg hm]
            have hm0 : (joined lr rl).red = false := by simpa using hm
            have h5 := leftShort_ok (node false ll lr lk lv) (rb_ir h1) (r := node false (joined lr rl) rr rk rv) ⟨m, rfl, ir_rb j1 hm0, h4⟩
            exact ⟨h5.1, fun _ _ => h5.2.1 rfl⟩
        · -- left black, right red
          rw [if_neg (by simp), if_neg (by simp), if_pos rfl]
          obtain ⟨j1, j2⟩ := ih (node false ll lr lk lv) rl n (by simp only [node.sizeOf_spec]; omega) hl hr.1
          exact ⟨⟨j2 rfl hr.2.2.1, hr.2.1⟩, fun _ h => by cases h⟩
        · rw [if_neg (by simp), if_neg (by simp), if_neg (by simp)]
          obtain ⟨j1, j2⟩ := ih lr (node false rl rr rk rv) n (by simp only [node.sizeOf_spec]; omega) hl.2.1 hr
          exact ⟨⟨hl.1, j2 hl.2.2.2 rfl⟩, fun h => (by cases h)⟩
        · -- both red
          obtain ⟨j1, j2⟩ := ih lr rl n (by omega) hl.2.1 hr.1
          have j3 := j2 hl.2.2.2 hr.2.2.1
          rw [if_pos (by simp)]
          by_cases hm : (joined lr rl).red = true
          · rw [if_pos hm]
            obtain ⟨a, b, k, v, e⟩ := red_node hm
            rw [e] at j3 ⊢
            exact ⟨ir_like_true _ ⟨hl.1, j3.1, hl.2.2.1, j3.2.2.1⟩ ⟨j3.2.1, hr.2.1, j3.2.2.2, hr.2.2.2⟩, fun h => (by cases h)⟩
          · rw [if_neg hm]
            have hm0 : (joined lr rl).red = false := by simpa using hm
            exact ⟨⟨hl.1, j3, hr.2.1, hm0, hr.2.2.2⟩, fun h => (by cases h)⟩
theorem insert_rb (c : V → V → Int) (k v : V) : ∀ (t : T) (n : Nat), t.rb n → (insert c k v t).ir n ∧ (t.red = false → (insert c k v t).rb n)
  | nil, n, h => by
    obtain rfl : n = 0 := h
    exact ⟨⟨rfl, rfl⟩, fun _ => ⟨rfl, rfl, rfl, rfl⟩⟩
  | node col l r xk xv, n, h => by
    simp only [insert]
    by_cases h0 : c k xk = 0
    · rw [if_pos h0]
      have : (node col l r k v).rb n := by cases col <;> exact h
      exact ⟨rb_ir this, fun _ => this⟩
    · rw [if_neg h0]
      by_cases h1 : c k xk < 0
      · rw [if_pos h1]
        cases col with
        | true =>
          rw [if_pos rfl]
          obtain ⟨i1, i2⟩ := insert_rb c k v l n h.1
          exact ⟨⟨i2 h.2.2.1, h.2.1⟩, fun h => (by cases h)⟩
        | false =>
          obtain ⟨m, rfl, h2, h3⟩ := h
          obtain ⟨i1, i2⟩ := insert_rb c k v l m h2
          rw [if_neg (by simp)]
          have := balance_rb (node false l r xk xv) (.inl ⟨i1, h3⟩)
          exact ⟨rb_ir this, fun _ => this⟩
      · rw [if_neg h1]
        cases col with
        | true =>
          rw [if_pos rfl]
          obtain ⟨i1, i2⟩ := insert_rb c k v r n h.2.1
          exact ⟨⟨h.1, i2 h.2.2.2⟩, fun h => (by cases h)⟩
        | false =>
          obtain ⟨m, rfl, h2, h3⟩ := h
          obtain ⟨i1, i2⟩ := insert_rb c k v r m h3
          rw [if_neg (by simp)]
          have := balance_rb (node false l r xk xv) (.inr ⟨h2, i1⟩)
          exact ⟨rb_ir this, fun _ => this⟩
/-- Is a key on its way? -/
def has (c : V → V → Int) (k : V) : T → Prop
  | nil => False
  | node _ l r xk _ => if c k xk = 0 then True else if c k xk < 0 then has c k l else has c k r
theorem remove_rb (c : V → V → Int) (k : V) : ∀ (t : T) (n : Nat), t.has c k → (t.rb n → t.red = true → (remove c k t).rb n) ∧ (t.rb (n + 1) → t.red = false → (remove c k t).ir n)
  | nil, n, h => h.elim
  | node col l r xk xv, n, hh => by
    simp only [has] at hh
    simp only [remove]
    by_cases h0 : c k xk = 0
    · rw [if_pos h0]
      refine ⟨fun h hr => ?_, fun h hr => ?_⟩
      · cases hr; exact (joined_rb _ l r n (Nat.le_refl _) h.1 h.2.1).2 h.2.2.1 h.2.2.2
      · cases hr
        obtain ⟨m, e, h1, h2⟩ := h
        obtain rfl : n = m := by omega
        exact (joined_rb _ l r n (Nat.le_refl _) h1 h2).1
    · rw [if_neg h0] at hh ⊢
      by_cases h1 : c k xk < 0
      · rw [if_pos h1] at hh ⊢
        by_cases hb : l.black = true
        · rw [if_pos hb]
          have hlr : l.red = false := by cases l with | nil => rfl | node c _ _ _ _ => cases c <;> simp_all
          have hpos : ∀ m, l.rb m → ∃ q, m = q + 1 := fun m h => by
            cases l with
            | nil => simp at hb
            | node c a b p q =>
              cases c with
              | true => simp at hlr
              | false => obtain ⟨q, e, _⟩ := h; exact ⟨q, e⟩
          refine ⟨fun h hr => ?_, fun h hr => ?_⟩
          · cases hr
            obtain ⟨q, rfl⟩ := hpos n h.1
            exact (leftShort_ok _ ((remove_rb c k l q hh).2 h.1 hlr) h.2.1).2.1 h.2.2.2
          · cases hr
            obtain ⟨m, e, h2, h3⟩ := h
            obtain rfl : n = m := by omega
            obtain ⟨q, rfl⟩ := hpos n h2
            exact (leftShort_ok _ ((remove_rb c k l q hh).2 h2 hlr) h3).1
        · rw [if_neg hb]
          have hlr : l.red = true := by cases l with | nil => exact hh.elim | node c _ _ _ _ => cases c <;> simp_all
          refine ⟨fun h hr => ?_, fun h hr => ?_⟩
          · cases hr; rw [h.2.2.1] at hlr; cases hlr
          · cases hr
            obtain ⟨m, e, h2, h3⟩ := h
            obtain rfl : n = m := by omega
            exact ⟨(remove_rb c k l n hh).1 h2 hlr, h3⟩
      · rw [if_neg h1] at hh ⊢
        by_cases hb : r.black = true
        · rw [if_pos hb]
          have hlr : r.red = false := by cases r with | nil => rfl | node c _ _ _ _ => cases c <;> simp_all
          have hpos : ∀ m, r.rb m → ∃ q, m = q + 1 := fun m h => by
            cases r with
            | nil => simp at hb
            | node c a b p q =>
              cases c with
              | true => simp at hlr
              | false => obtain ⟨q, e, _⟩ := h; exact ⟨q, e⟩
          refine ⟨fun h hr => ?_, fun h hr => ?_⟩
          · cases hr
            obtain ⟨q, rfl⟩ := hpos n h.2.1
            exact (rightShort_ok _ ((remove_rb c k r q hh).2 h.2.1 hlr) h.1).2.1 h.2.2.1
          · cases hr
            obtain ⟨m, e, h2, h3⟩ := h
            obtain rfl : n = m := by omega
            obtain ⟨q, rfl⟩ := hpos n h3
            exact (rightShort_ok _ ((remove_rb c k r q hh).2 h3 hlr) h2).1
        · rw [if_neg hb]
          have hlr : r.red = true := by cases r with | nil => exact hh.elim | node c _ _ _ _ => cases c <;> simp_all
          refine ⟨fun h hr => ?_, fun h hr => ?_⟩
          · cases hr; rw [h.2.2.2] at hlr; cases hlr
          · cases hr
            obtain ⟨m, e, h2, h3⟩ := h
            obtain rfl : n = m := by omega
            exact ⟨h2, (remove_rb c k r n hh).1 h3 hlr⟩
/-! ### Flatness -/
def size : T → Nat
  | nil => 0
  | node _ l r _ _ => l.size + r.size + 1
theorem toList_length : ∀ t : T, t.toList.length = t.size
  | nil => rfl
  | node _ l r _ _ => by simp [toList, size, toList_length l, toList_length r]; omega
theorem rb_height : ∀ (t : T) (n : Nat), t.rb n → t.height ≤ 2 * n + (if t.red then 1 else 0)
  | nil, n, h => by simp [height]
  | node true l r _ _, n, h => by
    have h1 := rb_height l n h.1
    have h2 := rb_height r n h.2.1
    rw [h.2.2.1] at h1
    rw [h.2.2.2] at h2
    simp [height] at *
    omega
  | node false l r _ _, n, h => by
    obtain ⟨m, rfl, h1, h2⟩ := h
    have h3 := rb_height l m h1
    have h4 := rb_height r m h2
    simp [height] at *
    have h9 : ∀ b : Bool, (if b = true then 1 else 0) ≤ 1 := fun b => by cases b <;> simp
    have h5 := h9 l.red
    have h6 := h9 r.red
    omega
theorem rb_size : ∀ (t : T) (n : Nat), t.rb n → 2 ^ n ≤ t.size + 1
  | nil, n, h => by obtain rfl : n = 0 := h; simp [size]
  | node true l r _ _, n, h => by
    have h1 := rb_size l n h.1
    simp [size]; omega
  | node false l r _ _, n, h => by
    obtain ⟨m, rfl, h1, h2⟩ := h
    have h3 := rb_size l m h1
    have h4 := rb_size r m h2
    simp [size, Nat.pow_succ]; omega
theorem height_zero (t : T) : t.height = 0 ↔ t.size = 0 := by
  cases t <;> simp [height, size]
end T
end Sp

/-
  Proved: what some functions of the program answer, or a law of the evaluator that shows it, one theorem each; its conditions are the hypotheses that stand ahead of it.
-/
import Derived.Test.YtkbaoibplojjlaaGreatDoorPRB
set_option linter.unusedVariables false
set_option linter.unusedSimpArgs false
namespace Sp
namespace T
theorem toList_like (x : T) (c : Bool) (l r : T) : (x.like c l r).toList = l.toList ++ (x.key, x.val) :: r.toList := rfl
theorem toList_node (b : Bool) (l r : T) (k v : V) : (node b l r k v).toList = l.toList ++ (k, v) :: r.toList := rfl
theorem toList_nil : nil.toList = [] := rfl
theorem toList_red {t : T} (h : t.isNil = false) : t.toList = t.left.toList ++ (t.key, t.val) :: t.right.toList := by
  cases t with
  | nil => cases h
  | node => rfl
theorem toList_blackened (t : T) : t.blackened.toList = t.toList := by
  unfold blackened
  split
  · rename_i h; rw [toList_like, ← toList_red (red_isNil h)]
  · rfl
theorem toList_lowered {t : T} (h : t.isNil = false) : t.lowered.toList = t.toList := by
  unfold lowered; rw [toList_like, ← toList_red h]
theorem toList_balance (x l r : T) : (balance x l r).toList = l.toList ++ (x.key, x.val) :: r.toList := by
  unfold balance
  split
  · rename_i h
    rw [Bool.and_eq_true] at h
    rw [toList_like, toList_like, toList_like, ← toList_red (red_isNil h.1), ← toList_red (red_isNil h.2)]
  · split
    · rename_i h
      rw [Bool.and_eq_true] at h
      rw [toList_like, toList_like, toList_blackened, toList_red (red_isNil h.1)]
      simp
    · split
      · rename_i h
        rw [Bool.and_eq_true] at h
        rw [toList_like, toList_like, toList_like, toList_red (red_isNil h.1), toList_red (red_isNil h.2)]
        simp
      · split
        · rename_i h
          rw [Bool.and_eq_true] at h
          rw [toList_like, toList_like, toList_blackened, toList_red (red_isNil h.1)]
          simp
        · split
          · rename_i h
            rw [Bool.and_eq_true] at h
            rw [toList_like, toList_like, toList_like, toList_red (red_isNil h.1), toList_red (red_isNil h.2)]
            simp
          · rw [toList_like]
theorem toList_leftShort (x l r : T) (h : l.red = false → r.black = false → r.isNil = false ∧ r.left.isNil = false ∧ r.right.isNil = false) : (leftShort x l r).toList = l.toList ++ (x.key, x.val) :: r.toList := by
  unfold leftShort
  split
  · rw [toList_like, toList_blackened]
  · rename_i h1
    split
    · rename_i h2
      rw [toList_balance, toList_lowered (black_isNil h2)]
    · rename_i h2
      obtain ⟨a, b, c⟩ := h (by simpa using h1) (by simpa using h2)
      rw [toList_like, toList_like, toList_balance, toList_lowered c, toList_red a, toList_red b]
      simp
theorem toList_rightShort (x l r : T) (h : r.red = false → l.black = false → l.isNil = false ∧ l.left.isNil = false ∧ l.right.isNil = false) : (rightShort x l r).toList = l.toList ++ (x.key, x.val) :: r.toList := by
  unfold rightShort
  split
  · rw [toList_like, toList_blackened]
  · rename_i h1
    split
    · rename_i h2
      rw [toList_balance, toList_lowered (black_isNil h2)]
    · rename_i h2
      obtain ⟨a, b, c⟩ := h (by simpa using h1) (by simpa using h2)
      rw [toList_like, toList_like, toList_balance, toList_lowered b, toList_red a, toList_red c]
      simp
theorem toList_joined : ∀ (s : Nat) (l r : T) (n : Nat), SizeOf.sizeOf l + SizeOf.sizeOf r ≤ s → l.rb n → r.rb n → (joined l r).toList = l.toList ++ r.toList := by
  intro s
  induction s with
  | zero => intro l r n hs; cases l <;> simp at hs
  | succ s ih =>
    intro l r n hs hl hr
    cases l with
    | nil => rw [joined]; rfl
    | node cl ll lr lk lv =>
      cases r with
      | nil => rw [joined]; simp [toList_nil]
      | node cr rl rr rk rv =>
        simp only [node.sizeOf_spec] at hs
        rw [joined]
        cases cl <;> cases cr
        · obtain ⟨m, rfl, h1, h2⟩ := hl
          obtain ⟨m', e, h3, h4⟩ := hr
          obtain rfl : m = m' := by omega
          have j := ih lr rl m (by omega) h2 h3
          have j1 := (joined_rb _ lr rl m (Nat.le_refl _) h2 h3).1
          rw [if_neg (by simp), if_pos (by simp)]
          by_cases hm : (joined lr rl).red = true
          · rw [if_pos hm, toList_like]
            have e := toList_red (red_isNil hm)
            simp only [toList_node]
            rw [List.append_assoc, List.append_assoc] at *
            have e2 : (joined lr rl).left.toList ++ ((joined lr rl).key, (joined lr rl).val) :: ((joined lr rl).right.toList ++ (rk, rv) :: rr.toList) = (joined lr rl).toList ++ (rk, rv) :: rr.toList := by rw [e]; simp
            simp only [List.cons_append]
            rw [e2, j]; simp
          · rw [if_neg hm]
            have hm0 : (joined lr rl).red = false := by simpa using hm
            rw [toList_leftShort _ _ _ (leftShort_ok (node false ll lr lk lv) (rb_ir h1) (r := node false (joined lr rl) rr rk rv) ⟨m, rfl, ir_rb j1 hm0, h4⟩).2.2]
            simp only [toList_node, key_mk, val_mk]
            rw [j]; simp
        · rw [if_neg (by simp), if_neg (by simp), if_pos rfl]
          have j := ih (node false ll lr lk lv) rl n (by simp only [node.sizeOf_spec]; omega) hl hr.1
          rw [toList_node, j]; simp [toList_node]
        · rw [if_neg (by simp), if_neg (by simp), if_neg (by simp)]
          have j := ih lr (node false rl rr rk rv) n (by simp only [node.sizeOf_spec]; omega) hl.2.1 hr
          rw [toList_node, j]; simp [toList_node]
        · have j := ih lr rl n (by omega) hl.2.1 hr.1
          rw [if_pos (by simp)]
          by_cases hm : (joined lr rl).red = true
          · rw [if_pos hm, toList_like]
            have e := toList_red (red_isNil hm)
            simp only [toList_node]
            have e2 : (joined lr rl).left.toList ++ ((joined lr rl).key, (joined lr rl).val) :: ((joined lr rl).right.toList ++ (rk, rv) :: rr.toList) = (joined lr rl).toList ++ (rk, rv) :: rr.toList := by rw [e]; simp
            rw [List.append_assoc]
            simp only [List.cons_append]
            rw [e2, j]; simp
          · rw [if_neg hm]
            simp only [toList_node]
            rw [j]; simp
theorem has_find (c : V → V → Int) (k : V) : ∀ (t : T), t.has c k ↔ (find c k t).isNil = false
  | nil => by simp [has, find]
  | node b l r xk xv => by
    simp only [has, find]
    have h1 := has_find c k l
    have h2 := has_find c k r
    by_cases h0 : c k xk = 0
    · simp [h0]
    · rw [if_neg h0]
      by_cases h3 : c k xk < 0
      · rw [if_pos h3, if_pos h3]; exact h1
      · rw [if_neg h3, if_neg h3, if_pos (by omega)]; exact h2
/-- What inserting does to the list: a pair is put between, or one is put in another's place. -/
theorem insert_toList (c : V → V → Int) (k v : V) : ∀ (t : T), ∃ a b, (insert c k v t).toList = a ++ (k, v) :: b ∧
    ((find c k t).isNil = true ∧ t.toList = a ++ b ∨ ∃ p, (find c k t).isNil = false ∧ t.toList = a ++ p :: b ∧ c k p.1 = 0)
  | nil => ⟨[], [], rfl, .inl ⟨rfl, rfl⟩⟩
  | node col l r xk xv => by
    simp only [insert, find]
    by_cases h0 : c k xk = 0
    · rw [if_pos h0, if_neg (by omega), if_neg (by omega)]
      exact ⟨l.toList, r.toList, rfl, .inr ⟨(xk, xv), rfl, rfl, h0⟩⟩
    · rw [if_neg h0]
      by_cases h1 : c k xk < 0
      · rw [if_pos h1, if_pos h1]
        obtain ⟨a, b, e, h⟩ := insert_toList c k v l
        refine ⟨a, b ++ (xk, xv) :: r.toList, ?_, ?_⟩
        · split <;> simp [toList_node, toList_balance, e]
        · rcases h with ⟨h2, h3⟩ | ⟨p, h2, h3, h4⟩
          · exact .inl ⟨h2, by simp [toList_node, h3]⟩
          · exact .inr ⟨p, h2, by simp [toList_node, h3], h4⟩
      · rw [if_neg h1, if_neg h1, if_pos (show 0 < c k xk by omega)]
        obtain ⟨a, b, e, h⟩ := insert_toList c k v r
        refine ⟨l.toList ++ (xk, xv) :: a, b, ?_, ?_⟩
        · split <;> simp [toList_node, toList_balance, e]
        · rcases h with ⟨h2, h3⟩ | ⟨p, h2, h3, h4⟩
          · exact .inl ⟨h2, by simp [toList_node, h3]⟩
          · exact .inr ⟨p, h2, by simp [toList_node, h3], h4⟩
theorem rb_pos {t : T} {m : Nat} (h : t.rb m) (hb : t.black = true) : t.red = false ∧ ∃ q, m = q + 1 := by
  cases t with
  | nil => cases hb
  | node c l r k v =>
    cases c with
    | true => cases hb
    | false => obtain ⟨q, e, _⟩ := h; exact ⟨rfl, q, e⟩
theorem rb_kid {b : Bool} {l r : T} {k v : V} {n : Nat} (h : (node b l r k v).rb n) : ∃ m, l.rb m ∧ r.rb m := by
  cases b with
  | true => exact ⟨n, h.1, h.2.1⟩
  | false => obtain ⟨m, _, h1, h2⟩ := h; exact ⟨m, h1, h2⟩
/-- What taking away does to the list. -/
theorem remove_toList (c : V → V → Int) (k : V) : ∀ (t : T) (n : Nat), t.rb n → t.has c k → ∃ a b p, (remove c k t).toList = a ++ b ∧ t.toList = a ++ p :: b ∧ c k p.1 = 0
  | nil, n, _, h => h.elim
  | node col l r xk xv, n, hb, hh => by
    simp only [has] at hh
    simp only [remove]
    obtain ⟨m, hl, hr⟩ := rb_kid hb
    by_cases h0 : c k xk = 0
    · rw [if_pos h0]
      exact ⟨l.toList, r.toList, (xk, xv), toList_joined _ l r m (Nat.le_refl _) hl hr, rfl, h0⟩
    · rw [if_neg h0] at hh ⊢
      by_cases h1 : c k xk < 0
      · rw [if_pos h1] at hh ⊢
        obtain ⟨a, b, p, e, h3, h4⟩ := remove_toList c k l m hl hh
        refine ⟨a, b ++ (xk, xv) :: r.toList, p, ?_, by simp [toList_node, h3], h4⟩
        split
        · rename_i hbl
          obtain ⟨h5, q, rfl⟩ := rb_pos hl hbl
          rw [toList_leftShort _ _ _ (leftShort_ok (node col l r xk xv) ((remove_rb c k l q hh).2 hl h5) hr).2.2]
          simp [e]
        · simp [toList_node, e]
      · rw [if_neg h1] at hh ⊢
        obtain ⟨a, b, p, e, h3, h4⟩ := remove_toList c k r m hr hh
        refine ⟨l.toList ++ (xk, xv) :: a, b, p, ?_, by simp [toList_node, h3], h4⟩
        split
        · rename_i hbl
          obtain ⟨h5, q, rfl⟩ := rb_pos hr hbl
          rw [toList_rightShort _ _ _ (rightShort_ok (node col l r xk xv) ((remove_rb c k r q hh).2 hr h5) hl).2.2]
          simp [e]
        · simp [toList_node, e]
/-- A map's tree as it stands: black at its root, coloured by the rules, of so many keys, all of which are what they should be. -/
def Good (p : V × V → Prop) (n : Nat) (t : T) : Prop := (∃ m, t.rb m) ∧ t.red = false ∧ t.size = n ∧ ∀ q, q ∈ t.toList → p q
theorem good_nil (p : V × V → Prop) : Good p 0 nil := ⟨⟨0, rfl⟩, rfl, rfl, by simp [toList]⟩
theorem good_insert {p : V × V → Prop} {n : Nat} {t : T} (c : V → V → Int) (k v : V) (h : Good p n t) (hp : p (k, v)) :
    Good p (if (find c k t).isNil then n + 1 else n) (insert c k v t).blackened := by
  obtain ⟨⟨m, h1⟩, h2, h3, h4⟩ := h
  obtain ⟨a, b, e, h5⟩ := insert_toList c k v t
  have h6 := insert_rb c k v t m h1
  refine ⟨⟨_, blackened_rb h6.1⟩, blackened_red _, ?_, ?_⟩
  · rw [← toList_length, toList_blackened, e, ← h3, ← toList_length]
    rcases h5 with ⟨h7, h8⟩ | ⟨q, h7, h8, _⟩
    · rw [if_pos h7, h8]; simp; omega
    · rw [h7, h8]; simp
  · intro q hq
    rw [toList_blackened, e] at hq
    rcases List.mem_append.mp hq with hq | hq
    · refine h4 q ?_
      rcases h5 with ⟨h7, h8⟩ | ⟨q', h7, h8, _⟩ <;> rw [h8] <;> simp [hq]
    · rcases List.mem_cons.mp hq with hq | hq
      · rw [hq]; exact hp
      · refine h4 q ?_
        rcases h5 with ⟨h7, h8⟩ | ⟨q', h7, h8, _⟩ <;> rw [h8] <;> simp [hq]
theorem good_remove {p : V × V → Prop} {n : Nat} {t : T} (c : V → V → Int) (k : V) (h : Good p n t) (hf : (find c k t).isNil = false) :
    0 < n ∧ Good p (n - 1) (remove c k t).blackened := by
  obtain ⟨⟨m, h1⟩, h2, h3, h4⟩ := h
  have hh := (has_find c k t).mpr hf
  obtain ⟨a, b, q, e, h5, _⟩ := remove_toList c k t m h1 hh
  obtain ⟨q', rfl⟩ : ∃ q, m = q + 1 := by
    cases t with
    | nil => exact hh.elim
    | node col l r xk xv => cases h2; obtain ⟨q, e, _⟩ := h1; exact ⟨q, e⟩
  have h6 := (remove_rb c k t q' hh).2 h1 h2
  have h7 : n = a.length + b.length + 1 := by rw [← h3, ← toList_length, h5]; simp; omega
  refine ⟨by omega, ⟨_, blackened_rb h6⟩, blackened_red _, ?_, ?_⟩
  · rw [← toList_length, toList_blackened, e, List.length_append]; omega
  · intro q hq
    rw [toList_blackened, e] at hq
    refine h4 q ?_
    rw [h5]
    rcases List.mem_append.mp hq with hq | hq <;> simp [hq]
/-- The greatest height of a map of so many keys: twice the bits of its number. -/
def bits : Nat → Nat → Nat → Nat
  | 0, _, h => h
  | f + 1, n, h => if 2 ^ h ≤ n then bits f n (h + 1) else h
def most (n : Nat) : Nat := 2 * bits 60 n 0
theorem bits_ge (m : Nat) : ∀ (f n h : Nat), 2 ^ m ≤ n + 1 → h + f = 60 → m ≤ 60 → (h ≤ m ∨ True) → (∀ j, j < h → 2 ^ j ≤ n) → m ≤ bits f n h
  | 0, n, h, hm, hf, h60, _, _ => by simp [bits]; omega
  | f + 1, n, h, hm, hf, h60, _, hj => by
    simp only [bits]
    split
    · rename_i h1
      refine bits_ge m f n (h + 1) hm (by omega) h60 (.inr trivial) fun j h2 => ?_
      rcases Nat.lt_or_ge j h with h3 | h3
      · exact hj j h3
      · rw [show j = h from by omega]; exact h1
    · rename_i h1
      rcases Nat.lt_or_ge h m with h3 | h3
      · exfalso
        have := Nat.pow_le_pow_right (show 0 < 2 by omega) (show h + 1 ≤ m from h3)
        rw [Nat.pow_succ] at this
        have := Nat.two_pow_pos h
        omega
      · exact h3
theorem good_height {p : V × V → Prop} {n : Nat} {t : T} (h : Good p n t) (hn : n < 1000000) : t.height ≤ most n ∧ (t.height = 0 ↔ n = 0) := by
  obtain ⟨⟨m, h1⟩, h2, h3, _⟩ := h
  have h4 := rb_height t m h1
  have h5 := rb_size t m h1
  rw [h2] at h4
  rw [h3] at h5
  have h6 : m ≤ 60 := by
    rcases Nat.lt_or_ge 60 m with h | h
    · have := Nat.pow_le_pow_right (show 0 < 2 by omega) (show 20 ≤ m from by omega)
      omega
    · exact h
  have h7 := bits_ge m 60 n 0 h5 rfl h6 (.inr trivial) (by simp)
  refine ⟨?_, ?_⟩
  · simp at h4; unfold most; omega
  · rw [height_zero, h3]
end T
end Sp

/-
  Proved: what some functions of the program answer, or a law of the evaluator that shows it, one theorem each; its conditions are the hypotheses that stand ahead of it.
-/
import Derived.Test.YtgbkobkiomeokaaGreatDoorPRB
set_option linter.unusedVariables false
set_option linter.unusedSimpArgs false
namespace Sp
namespace T
theorem toList_like (x : T) (c : Bool) (l r : T) : (x.like c l r).toList = l.toList ++ (x.key, x.val) :: r.toList := rfl
theorem toList_node (b : Bool) (l r : T) (k v : V) : (node b l r k v).toList = l.toList ++ (k, v) :: r.toList := rfl
theorem toList_red {t : T} (h : t.isNil = false) : t.toList = t.left.toList ++ (t.key, t.val) :: t.right.toList := by
  cases t with
  | nil => cases h
  | node => rfl
theorem toList_blackened (t : T) : t.blackened.toList = t.toList := by
  unfold blackened
  split
  · rename_i h; rw [toList_like, ← toList_red (red_isNil h)]
  · rfl
theorem toList_balance (x l r : T) : (balance x l r).toList = l.toList ++ (x.key, x.val) :: r.toList := by
  unfold balance
  split
  · rename_i h
    rw [Bool.and_eq_true] at h
    rw [toList_like, toList_like, toList_like, ← toList_red (red_isNil h.1), ← toList_red (red_isNil h.2)]
  · split
    · rename_i h
      rw [Bool.and_eq_true] at h
      rw [toList_like, toList_like, toList_blackened, toList_red (red_isNil h.1)]
      simp
    · split
      · rename_i h
        rw [Bool.and_eq_true] at h
        rw [toList_like, toList_like, toList_like, toList_red (red_isNil h.1), toList_red (red_isNil h.2)]
        simp
      · split
        · rename_i h
          rw [Bool.and_eq_true] at h
          rw [toList_like, toList_like, toList_blackened, toList_red (red_isNil h.1)]
          simp
        · split
          · rename_i h
            rw [Bool.and_eq_true] at h
            rw [toList_like, toList_like, toList_like, toList_red (red_isNil h.1), toList_red (red_isNil h.2)]
            simp
          · rw [toList_like]
/-- What inserting does to the list: a pair is put between, or one is put in another's place. -/
theorem insert_toList (c : V → V → Int) (k v : V) : ∀ (t : T), ∃ a b, (insert c k v t).toList = a ++ (k, v) :: b ∧
    ((find c k t).isNil = true ∧ t.toList = a ++ b ∨ ∃ p, (find c k t).isNil = false ∧ t.toList = a ++ p :: b ∧ c k p.1 = 0)
  | nil => ⟨[], [], rfl, .inl ⟨rfl, rfl⟩⟩
  | node col l r xk xv => by
    simp only [insert, find]
    by_cases h0 : c k xk = 0
    · rw [if_pos h0, if_neg (by omega), if_neg (by omega)]
      exact ⟨l.toList, r.toList, rfl, .inr ⟨(xk, xv), rfl, rfl, h0⟩⟩
    · rw [if_neg h0]
      by_cases h1 : c k xk < 0
      · rw [if_pos h1, if_pos h1]
        obtain ⟨a, b, e, h⟩ := insert_toList c k v l
        refine ⟨a, b ++ (xk, xv) :: r.toList, ?_, ?_⟩
        · split <;> simp [toList_node, toList_balance, e]
        · rcases h with ⟨h2, h3⟩ | ⟨p, h2, h3, h4⟩
          · exact .inl ⟨h2, by simp [toList_node, h3]⟩
          · exact .inr ⟨p, h2, by simp [toList_node, h3], h4⟩
      · rw [if_neg h1, if_neg h1, if_pos (show 0 < c k xk by omega)]
        obtain ⟨a, b, e, h⟩ := insert_toList c k v r
        refine ⟨l.toList ++ (xk, xv) :: a, b, ?_, ?_⟩
        · split <;> simp [toList_node, toList_balance, e]
        · rcases h with ⟨h2, h3⟩ | ⟨p, h2, h3, h4⟩
          · exact .inl ⟨h2, by simp [toList_node, h3]⟩
          · exact .inr ⟨p, h2, by simp [toList_node, h3], h4⟩
/-- A map's tree as it stands: black at its root, coloured by the rules, of so many keys, all of which are what they should be. -/
def Good (p : V × V → Prop) (n : Nat) (t : T) : Prop := (∃ m, t.rb m) ∧ t.red = false ∧ t.size = n ∧ ∀ q, q ∈ t.toList → p q
theorem good_nil (p : V × V → Prop) : Good p 0 nil := ⟨⟨0, rfl⟩, rfl, rfl, by simp [toList]⟩
theorem good_insert {p : V × V → Prop} {n : Nat} {t : T} (c : V → V → Int) (k v : V) (h : Good p n t) (hp : p (k, v)) :
    Good p (if (find c k t).isNil then n + 1 else n) (insert c k v t).blackened := by
  obtain ⟨⟨m, h1⟩, h2, h3, h4⟩ := h
  obtain ⟨a, b, e, h5⟩ := insert_toList c k v t
  have h6 := insert_rb c k v t m h1
  refine ⟨⟨_, blackened_rb h6.1⟩, blackened_red _, ?_, ?_⟩
  · rw [← toList_length, toList_blackened, e, ← h3, ← toList_length]
    rcases h5 with ⟨h7, h8⟩ | ⟨q, h7, h8, _⟩
    · rw [if_pos h7, h8]; simp; omega
    · rw [h7, h8]; simp
  · intro q hq
    rw [toList_blackened, e] at hq
    rcases List.mem_append.mp hq with hq | hq
    · refine h4 q ?_
      rcases h5 with ⟨h7, h8⟩ | ⟨q', h7, h8, _⟩ <;> rw [h8] <;> simp [hq]
    · rcases List.mem_cons.mp hq with hq | hq
      · rw [hq]; exact hp
      · refine h4 q ?_
        rcases h5 with ⟨h7, h8⟩ | ⟨q', h7, h8, _⟩ <;> rw [h8] <;> simp [hq]
/-- The greatest height of a map of so many keys: twice the bits of its number. -/
def bits : Nat → Nat → Nat → Nat
  | 0, _, h => h
  | f + 1, n, h => if 2 ^ h ≤ n then bits f n (h + 1) else h
def most (n : Nat) : Nat := 2 * bits 60 n 0
theorem bits_ge (m : Nat) : ∀ (f n h : Nat), 2 ^ m ≤ n + 1 → h + f = 60 → m ≤ 60 → (h ≤ m ∨ True) → (∀ j, j < h → 2 ^ j ≤ n) → m ≤ bits f n h
  | 0, n, h, hm, hf, h60, _, _ => by simp [bits]; omega
  | f + 1, n, h, hm, hf, h60, _, hj => by
    simp only [bits]
    split
    · rename_i h1
      refine bits_ge m f n (h + 1) hm (by omega) h60 (.inr trivial) fun j h2 => ?_
      rcases Nat.lt_or_ge j h with h3 | h3
      · exact hj j h3
      · rw [show j = h from by omega]; exact h1
    · rename_i h1
      rcases Nat.lt_or_ge h m with h3 | h3
      · exfalso
        have := Nat.pow_le_pow_right (show 0 < 2 by omega) (show h + 1 ≤ m from h3)
        rw [Nat.pow_succ] at this
        have := Nat.two_pow_pos h
        omega
      · exact h3
theorem good_height {p : V × V → Prop} {n : Nat} {t : T} (h : Good p n t) (hn : n < 1000000) : t.height ≤ most n ∧ (t.height = 0 ↔ n = 0) := by
  obtain ⟨⟨m, h1⟩, h2, h3, _⟩ := h
  have h4 := rb_height t m h1
  have h5 := rb_size t m h1
  rw [h2] at h4
  rw [h3] at h5
  have h6 : m ≤ 60 := by
    rcases Nat.lt_or_ge 60 m with h | h
    · have := Nat.pow_le_pow_right (show 0 < 2 by omega) (show 20 ≤ m from by omega)
      omega
    · exact h
  have h7 := bits_ge m 60 n 0 h5 rfl h6 (.inr trivial) (by simp)
  refine ⟨?_, ?_⟩
  · simp at h4; unfold most; omega
  · rw [height_zero, h3]
end T
end Sp
set_option linter.unusedVariables false
set_option linter.unusedSimpArgs false
namespace Sp
/-- Pairs that stand sorted, no key twice. -/
def Rising (c : V → V → Int) (l : List (V × V)) : Prop := l.Pairwise fun p q => c p.1 q.1 < 0
theorem rising_mid {c : V → V → Int} {a b : List (V × V)} {p : V × V} : Rising c (a ++ p :: b) ↔ Rising c a ∧ Rising c b ∧ (∀ q, q ∈ a → c q.1 p.1 < 0) ∧ (∀ q, q ∈ b → c p.1 q.1 < 0) ∧ (∀ x, x ∈ a → ∀ y, y ∈ b → c x.1 y.1 < 0) := by
  unfold Rising
  rw [List.pairwise_append, List.pairwise_cons]
  constructor
  · rintro ⟨h1, ⟨h2, h3⟩, h4⟩
    exact ⟨h1, h3, fun q hq => h4 q hq p (.head _), h2, fun x hx y hy => h4 x hx y (.tail _ hy)⟩
  · rintro ⟨h1, h3, h4, h2, h5⟩
    refine ⟨h1, ⟨h2, h3⟩, fun x hx y hy => ?_⟩
    rcases List.mem_cons.1 hy with rfl | hy
    · exact h4 x hx
    · exact h5 x hx y hy
namespace T
/-- Where a key is put in. -/
theorem insert_place {c : V → V → Int} (H : Line c (fun _ => True)) (k v : V) : ∀ (t : T), Rising c t.toList → ∃ a b, (insert c k v t).toList = a ++ (k, v) :: b ∧
    (t.toList = a ++ b ∧ (find c k t).isNil = true ∨ ∃ p, t.toList = a ++ p :: b ∧ c k p.1 = 0 ∧ (find c k t).isNil = false) ∧ (∀ q, q ∈ a → c q.1 k < 0) ∧ (∀ q, q ∈ b → c k q.1 < 0)
  | nil, _ => ⟨[], [], rfl, .inl ⟨rfl, rfl⟩, by simp, by simp⟩
  | node col l r xk xv, hs => by
    rw [toList_node] at hs
    obtain ⟨hl, hr, h3, h4, h5⟩ := rising_mid.1 hs
    simp only [insert, find]
    by_cases h0 : c k xk = 0
    · rw [if_pos h0, if_neg (by omega), if_neg (by omega)]
      refine ⟨l.toList, r.toList, rfl, .inr ⟨(xk, xv), rfl, h0, rfl⟩, fun q hq => ?_, fun q hq => ?_⟩
      · have := H.turn k xk trivial trivial
        exact H.lt_of_lt_of_le (b := xk) trivial trivial trivial (h3 q hq) (show c xk k ≤ 0 by omega)
      · exact H.lt_of_le_of_lt (b := xk) trivial trivial trivial (show c k xk ≤ 0 by omega) (h4 q hq)
    · rw [if_neg h0]
      by_cases h1 : c k xk < 0
      · rw [if_pos h1, if_pos h1]
        obtain ⟨a, b, e, h6, h7, h8⟩ := insert_place H k v l hl
        refine ⟨a, b ++ (xk, xv) :: r.toList, ?_, ?_, h7, ?_⟩
        · split <;> simp [toList_node, toList_balance, e]
        · rcases h6 with ⟨h6, h9⟩ | ⟨p, h6, h9, h10⟩
          · exact .inl ⟨by simp [toList_node, h6], h9⟩
          · exact .inr ⟨p, by simp [toList_node, h6], h9, h10⟩
        · intro q hq
          rcases List.mem_append.1 hq with hq | hq
          · exact h8 q hq
          rcases List.mem_cons.1 hq with rfl | hq
          · exact h1
          · exact H.lt_trans trivial trivial trivial h1 (h4 q hq)
      · rw [if_neg h1, if_neg h1, if_pos (show 0 < c k xk by omega)]
        obtain ⟨a, b, e, h6, h7, h8⟩ := insert_place H k v r hr
        have h11 : c xk k < 0 := by have := H.turn k xk trivial trivial; omega
        refine ⟨l.toList ++ (xk, xv) :: a, b, ?_, ?_, ?_, h8⟩
        · split <;> simp [toList_node, toList_balance, e]
        · rcases h6 with ⟨h6, h9⟩ | ⟨p, h6, h9, h10⟩
          · exact .inl ⟨by simp [toList_node, h6], h9⟩
          · exact .inr ⟨p, by simp [toList_node, h6], h9, h10⟩
        · intro q hq
          rcases List.mem_append.1 hq with hq | hq
          · exact H.lt_trans trivial trivial trivial (h3 q hq) h11
          rcases List.mem_cons.1 hq with rfl | hq
          · exact h11
          · exact h7 q hq
end T
/-- The place at which a question begins to hold. -/
def Place (p : Nat → Bool) (n r : Nat) : Prop := r ≤ n ∧ (∀ j, j < r → p j = false) ∧ (∀ j, r ≤ j → j < n → p j = true)
theorem Place.uniq {p : Nat → Bool} {n r s : Nat} (h : Place p n r) (h' : Place p n s) : r = s := by
  rcases Nat.lt_trichotomy r s with h1 | h1 | h1
  · have := h'.2.1 r h1; have := h.2.2 r (Nat.le_refl _) (Nat.lt_of_lt_of_le h1 h'.1); simp_all
  · exact h1
  · have := h.2.1 s h1; have := h'.2.2 s (Nat.le_refl _) (Nat.lt_of_lt_of_le h1 h.1); simp_all
/-- How many keys stand ahead of one, and how many do not stand behind it. -/
def aheadN (c : V → V → Int) (k : V) (l : List (V × V)) : Nat := (l.takeWhile fun q => decide (c q.1 k < 0)).length
def uptoN (c : V → V → Int) (k : V) (l : List (V × V)) : Nat := (l.takeWhile fun q => decide (c q.1 k ≤ 0)).length
theorem takeWhile_place {α : Type} [Inhabited α] (g : α → Bool) : ∀ (l : List α), l.Pairwise (fun x y => g y = true → g x = true) → Place (fun i => !(g (l.getD i default))) l.length (l.takeWhile g).length
  | [], _ => ⟨by simp, by simp, by simp⟩
  | x :: l, h => by
    obtain ⟨h1, h2⟩ := List.pairwise_cons.1 h
    obtain ⟨i1, i2, i3⟩ := takeWhile_place g l h2
    rw [List.takeWhile_cons]
    by_cases hx : g x = true
    · rw [if_pos hx]
      refine ⟨by simpa using i1, fun j hj => ?_, fun j hj hj2 => ?_⟩
      · cases j with
        | zero => simp [hx]
        | succ j => simpa using i2 j (by simpa using hj)
      · cases j with
        | zero => simp at hj
        | succ j => simpa using i3 j (by simpa using hj) (by simpa using hj2)
    · rw [if_neg hx]
      refine ⟨by simp, by simp, fun j hj hj2 => ?_⟩
      cases j with
      | zero => simp [hx]
      | succ j =>
        simp only [List.length_cons] at hj2
        have hm : l.getD j default ∈ l := by rw [List.getD_eq_getElem?_getD, List.getElem?_eq_getElem (by omega)]; exact List.getElem_mem (by omega)
        have := h1 _ hm
        simp only [List.getD_cons_succ]
        cases hg : g (l.getD j default) with
        | false => rfl
        | true => exact absurd (this hg) hx
theorem ahead_place {c : V → V → Int} (H : Line c (fun _ => True)) (k : V) {l : List (V × V)} (h : Rising c l) : Place (fun i => decide (0 ≤ c (l.getD i default).1 k)) l.length (aheadN c k l) := by
  have h1 := takeWhile_place (fun q : V × V => decide (c q.1 k < 0)) l (h.imp fun {x y} hxy hy => by
    simp only [decide_eq_true_eq] at hy ⊢
    exact H.lt_trans trivial trivial trivial hxy hy)
  have e : (fun i => decide (0 ≤ c (l.getD i default).1 k)) = fun i => !(decide (c (l.getD i default).1 k < 0)) := by
    funext i; rw [Bool.eq_iff_iff]; simp
  rw [e]; exact h1
theorem upto_place {c : V → V → Int} (H : Line c (fun _ => True)) (k : V) {l : List (V × V)} (h : Rising c l) : Place (fun i => decide (0 < c (l.getD i default).1 k)) l.length (uptoN c k l) := by
  have h1 := takeWhile_place (fun q : V × V => decide (c q.1 k ≤ 0)) l (h.imp fun {x y} hxy hy => by
    simp only [decide_eq_true_eq] at hy ⊢
    exact Int.le_of_lt (H.lt_of_lt_of_le trivial trivial trivial hxy hy))
  have e : (fun i => decide (0 < c (l.getD i default).1 k)) = fun i => !(decide (c (l.getD i default).1 k ≤ 0)) := by
    funext i; rw [Bool.eq_iff_iff]; simp
  rw [e]; exact h1
theorem rising_get {c : V → V → Int} {l : List (V × V)} (h : Rising c l) {i j : Nat} (hij : i < j) (hj : j < l.length) : c (l.getD i default).1 (l.getD j default).1 < 0 := by
  have := List.pairwise_iff_getElem.1 h i j (by omega) hj hij
  simpa [List.getD_eq_getElem?_getD, List.getElem?_eq_getElem hj, List.getElem?_eq_getElem (show i < l.length by omega)] using this
/-- At most one key is one. -/
theorem upto_ahead {c : V → V → Int} (H : Line c (fun _ => True)) (k : V) {l : List (V × V)} (h : Rising c l) : aheadN c k l ≤ uptoN c k l ∧ uptoN c k l ≤ aheadN c k l + 1 := by
  obtain ⟨a1, a2, a3⟩ := ahead_place H k h
  obtain ⟨u1, u2, u3⟩ := upto_place H k h
  constructor
  · refine Nat.le_of_not_lt fun h1 => ?_
    have h2 := a2 _ h1
    have h3 := u3 _ (Nat.le_refl _) (by omega)
    simp only [decide_eq_true_eq, decide_eq_false_iff_not] at h2 h3; omega
  · refine Nat.le_of_not_lt fun h1 => ?_
    have h2 := u2 (aheadN c k l + 1) h1
    have h3 := a3 (aheadN c k l) (Nat.le_refl _) (by omega)
    have h4 := rising_get h (show aheadN c k l < aheadN c k l + 1 by omega) (by omega)
    simp only [decide_eq_true_eq, decide_eq_false_iff_not] at h2 h3
    have := H.turn k (l.getD (aheadN c k l) default).1 trivial trivial
    have := H.turn k (l.getD (aheadN c k l + 1) default).1 trivial trivial
    have h5 := H.lt_of_le_of_lt trivial trivial trivial (show c k (l.getD (aheadN c k l) default).1 ≤ 0 by omega) h4
    omega
end Sp
set_option linter.unusedVariables false
set_option linter.unusedSimpArgs false
namespace Sp
theorem ahead_len {c : V → V → Int} {k : V} {a b : List (V × V)} (ha : ∀ q, q ∈ a → c q.1 k < 0) (hb : ∀ q, q ∈ b → 0 ≤ c q.1 k) : aheadN c k (a ++ b) = a.length := by
  unfold aheadN
  rw [List.takeWhile_append_of_pos (by intro q hq; simpa using ha q hq)]
  cases b with
  | nil => simp
  | cons q b =>
    rw [List.takeWhile_cons, if_neg (by have := hb q (by simp); simp; omega)]
    simp
theorem upto_len {c : V → V → Int} {k : V} {a b : List (V × V)} (ha : ∀ q, q ∈ a → c q.1 k ≤ 0) (hb : ∀ q, q ∈ b → 0 < c q.1 k) : uptoN c k (a ++ b) = a.length := by
  unfold uptoN
  rw [List.takeWhile_append_of_pos (by intro q hq; simpa using ha q hq)]
  cases b with
  | nil => simp
  | cons q b =>
    rw [List.takeWhile_cons, if_neg (by have := hb q (by simp); simp; omega)]
    simp
namespace T
/-- What a pair put in, and a key taken out, does to a map's list, by the place of the key. -/
theorem insert_list {c : V → V → Int} (H : Line c (fun _ => True)) (k v : V) (t : T) (h : Rising c t.toList) :
    (insert c k v t).blackened.toList = t.toList.take (aheadN c k t.toList) ++ (k, v) :: t.toList.drop (uptoN c k t.toList) ∧ ((find c k t).isNil = true ↔ uptoN c k t.toList = aheadN c k t.toList) := by
  rw [toList_blackened]
  obtain ⟨a, b, e, h1, h2, h3⟩ := insert_place H k v t h
  have hb : ∀ q, q ∈ b → 0 < c q.1 k := fun q hq => by have := h3 q hq; have := H.turn k q.1 trivial trivial; omega
  rcases h1 with ⟨h1, h4⟩ | ⟨p, h1, h5, h4⟩
  · have e1 : aheadN c k t.toList = a.length := by rw [h1]; exact ahead_len h2 fun q hq => Int.le_of_lt (hb q hq)
    have e2 : uptoN c k t.toList = a.length := by rw [h1]; exact upto_len (fun q hq => Int.le_of_lt (h2 q hq)) hb
    refine ⟨?_, by simp [h4, e1, e2]⟩
    rw [e1, e2, e, h1]; simp
  · have hp : c p.1 k = 0 := by have := H.turn k p.1 trivial trivial; omega
    have e1 : aheadN c k t.toList = a.length := by
      rw [h1]; refine ahead_len h2 fun q hq => ?_
      rcases List.mem_cons.1 hq with rfl | hq
      · omega
      · exact Int.le_of_lt (hb q hq)
    have e2 : uptoN c k t.toList = a.length + 1 := by
      rw [h1, show a ++ p :: b = (a ++ [p]) ++ b from by simp]
      rw [upto_len (a := a ++ [p]) (fun q hq => ?_) hb]
      · simp
      · rcases List.mem_append.1 hq with hq | hq
        · exact Int.le_of_lt (h2 q hq)
        · simp only [List.mem_singleton] at hq; subst hq; omega
    refine ⟨?_, by simp [h4, e1, e2]⟩
    rw [e1, e2, e, h1, show a ++ p :: b = (a ++ [p]) ++ b from by simp]
    rw [List.drop_left' (by simp)]
    simp
end T
end Sp

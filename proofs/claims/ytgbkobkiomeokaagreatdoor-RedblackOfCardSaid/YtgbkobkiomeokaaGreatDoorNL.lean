/-
  Proved: what some functions of the program answer, or a law of the evaluator that shows it, one theorem each; its conditions are the hypotheses that stand ahead of it.
-/
import Derived.Test.YtgbkobkiomeokaaGreatDoorPSt
import Derived.Test.YtgbkobkiomeokaaGreatDoorL3
import Derived.Test.YtgbkobkiomeokaaGreatDoorR5
set_option linter.unusedVariables false
set_option linter.unusedSimpArgs false
namespace Sp
/-- A list by its keys, with a pair put in. -/
def insL (c : V → V → Int) (L : List (V × V)) (q : V × V) : List (V × V) := L.take (aheadN c q.1 L) ++ q :: L.drop (uptoN c q.1 L)
/-- Two lists by their keys as one: of keys in both the second one's value. -/
def mergeL (c : V → V → Int) : List (V × V) → List (V × V) → List (V × V)
  | [], b => b
  | x :: a, [] => x :: a
  | x :: a, y :: b => if c x.1 y.1 < 0 then x :: mergeL c a (y :: b) else if c x.1 y.1 = 0 then y :: mergeL c a b else y :: mergeL c (x :: a) b
termination_by a b => a.length + b.length
theorem mergeL_nil (c : V → V → Int) (a : List (V × V)) : mergeL c a [] = a := by cases a <;> simp [mergeL]
theorem mergeL_nil' (c : V → V → Int) (b : List (V × V)) : mergeL c [] b = b := by simp [mergeL]
theorem mem_merge {c : V → V → Int} (H : Line c (fun _ => True)) : ∀ (a b : List (V × V)), Rising c a → Rising c b → (∀ q, q ∈ mergeL c a b ↔ q ∈ b ∨ (q ∈ a ∧ ∀ p, p ∈ b → c q.1 p.1 ≠ 0)) ∧ Rising c (mergeL c a b)
  | [], b, _, hb => by rw [mergeL_nil']; exact ⟨by simp, hb⟩
  | x :: a, [], ha, _ => by rw [mergeL_nil]; exact ⟨by simp, ha⟩
  | x :: a, y :: b, ha, hb => by
    have ha' := List.pairwise_cons.1 ha
    have hb' := List.pairwise_cons.1 hb
    have t := fun p q : V × V => H.turn p.1 q.1 trivial trivial
    rw [mergeL]
    by_cases h1 : c x.1 y.1 < 0
    · rw [if_pos h1]
      obtain ⟨m1, m2⟩ := mem_merge H a (y :: b) ha'.2 hb
      have hxb : ∀ p, p ∈ y :: b → c x.1 p.1 < 0 := fun p hp => by
        rcases List.mem_cons.1 hp with rfl | hp
        · exact h1
        · exact H.lt_of_lt_of_le (b := y.1) trivial trivial trivial h1 (Int.le_of_lt (hb'.1 p hp))
      refine ⟨fun q => ?_, List.pairwise_cons.2 ⟨fun q hq => ?_, m2⟩⟩
      · rw [List.mem_cons, m1, List.mem_cons (a := q) (b := x)]
        constructor
        · rintro (rfl | h | h)
          · exact .inr ⟨.inl rfl, fun p hp => by have := hxb p hp; omega⟩
          · exact .inl h
          · exact .inr ⟨.inr h.1, h.2⟩
        · rintro (h | ⟨rfl | h, h2⟩)
          · exact .inr (.inl h)
          · exact .inl rfl
          · exact .inr (.inr ⟨h, h2⟩)
      · rcases (m1 q).1 hq with h | h
        · exact hxb q h
        · exact ha'.1 q h.1
    · rw [if_neg h1]
      by_cases h0 : c x.1 y.1 = 0
      · rw [if_pos h0]
        obtain ⟨m1, m2⟩ := mem_merge H a b ha'.2 hb'.2
        have t0 := t x y
        have hya : ∀ p, p ∈ a → c y.1 p.1 < 0 := fun p hp => H.lt_of_le_of_lt (b := x.1) trivial trivial trivial (by omega) (ha'.1 p hp)
        refine ⟨fun q => ?_, List.pairwise_cons.2 ⟨fun q hq => ?_, m2⟩⟩
        · rw [List.mem_cons, m1, List.mem_cons]
          constructor
          · rintro (h | h | h)
            · exact .inl (.inl h)
            · exact .inl (.inr h)
            · refine .inr ⟨List.mem_cons_of_mem _ h.1, fun p hp => ?_⟩
              rcases List.mem_cons.1 hp with rfl | hp
              · have := hya q h.1; have := t p q; omega
              · exact h.2 p hp
          · rintro ((h | h) | ⟨h, h2⟩)
            · exact .inl h
            · exact .inr (.inl h)
            · rcases List.mem_cons.1 h with rfl | h
              · exact absurd h0 (h2 y (by simp))
              · exact .inr (.inr ⟨h, fun p hp => h2 p (by simp [hp])⟩)
        · rcases (m1 q).1 hq with h | h
          · exact hb'.1 q h
          · exact hya q h.1
      · rw [if_neg h0]
        obtain ⟨m1, m2⟩ := mem_merge H (x :: a) b ha hb'.2
        have hyx : c y.1 x.1 < 0 := by have := t x y; omega
        have hya : ∀ p, p ∈ x :: a → c y.1 p.1 < 0 := fun p hp => by
          rcases List.mem_cons.1 hp with rfl | hp
          · exact hyx
          · exact H.lt_of_lt_of_le (b := x.1) trivial trivial trivial hyx (Int.le_of_lt (ha'.1 p hp))
        refine ⟨fun q => ?_, List.pairwise_cons.2 ⟨fun q hq => ?_, m2⟩⟩
        · rw [List.mem_cons, m1, List.mem_cons (a := q) (b := y)]
          constructor
          · rintro (h | h | h)
            · exact .inl (.inl h)
            · exact .inl (.inr h)
            · refine .inr ⟨h.1, fun p hp => ?_⟩
              rcases List.mem_cons.1 hp with rfl | hp
              · have := hya q h.1; have := t p q; omega
              · exact h.2 p hp
          · rintro ((h | h) | ⟨h, h2⟩)
            · exact .inl h
            · exact .inr (.inl h)
            · exact .inr (.inr ⟨h, fun p hp => h2 p (by simp [hp])⟩)
        · rcases (m1 q).1 hq with h | h
          · exact hb'.1 q h
          · exact hya q h.1
termination_by a b => a.length + b.length
/-- Two lists by their keys with the same pairs are one list. -/
theorem rising_ext {c : V → V → Int} (H : Line c (fun _ => True)) : ∀ (a b : List (V × V)), Rising c a → Rising c b → (∀ q, q ∈ a ↔ q ∈ b) → a = b
  | [], [], _, _, _ => rfl
  | [], y :: b, _, _, h => by have := (h y).2 (by simp); simp at this
  | x :: a, [], _, _, h => by have := (h x).1 (by simp); simp at this
  | x :: a, y :: b, ha, hb, h => by
    have ha' := List.pairwise_cons.1 ha
    have hb' := List.pairwise_cons.1 hb
    have r := fun p : V × V => H.refl p.1 trivial
    have t := fun p q : V × V => H.turn p.1 q.1 trivial trivial
    have e : x = y := by
      rcases List.mem_cons.1 ((h x).1 (by simp)) with e | h1
      · exact e
      · rcases List.mem_cons.1 ((h y).2 (by simp)) with e | h2
        · exact e.symm
        · have := hb'.1 x h1; have := ha'.1 y h2; have := t x y; omega
    subst e
    rw [rising_ext H a b ha'.2 hb'.2 fun q => ⟨fun hq => ?_, fun hq => ?_⟩]
    · rcases List.mem_cons.1 ((h q).1 (List.mem_cons_of_mem _ hq)) with rfl | h1
      · have := ha'.1 q hq; have := r q; omega
      · exact h1
    · rcases List.mem_cons.1 ((h q).2 (List.mem_cons_of_mem _ hq)) with rfl | h1
      · have := hb'.1 q hq; have := r q; omega
      · exact h1
theorem split_at {c : V → V → Int} (H : Line c (fun _ => True)) (k : V) (L : List (V × V)) (h : Rising c L) : ∃ a m b, L = a ++ m ++ b ∧ L.take (aheadN c k L) = a ∧ L.drop (uptoN c k L) = b ∧ (∀ q, q ∈ a → c q.1 k < 0) ∧ (∀ q, q ∈ m → c q.1 k = 0) ∧ (∀ q, q ∈ b → 0 < c q.1 k) := by
  obtain ⟨w1, w2⟩ := upto_ahead H k h
  obtain ⟨a1, a2, a3⟩ := ahead_place H k h
  obtain ⟨u1, u2, u3⟩ := upto_place H k h
  have g : ∀ (l : List (V × V)) (n m : Nat) (q : V × V), q ∈ (L.take m).drop n → ∃ i, n ≤ i ∧ i < m ∧ i < L.length ∧ L.getD i default = q := fun _ n m q hq => by
    obtain ⟨j, hj, e⟩ := List.getElem_of_mem hq
    rw [List.length_drop, List.length_take] at hj
    rw [List.getElem_drop, List.getElem_take] at e
    exact ⟨n + j, by omega, by omega, by omega, by rw [List.getD_eq_getElem?_getD, List.getElem?_eq_getElem (by omega), Option.getD_some, e]⟩
  refine ⟨_, (L.take (uptoN c k L)).drop (aheadN c k L), _, ?_, rfl, rfl, fun q hq => ?_, fun q hq => ?_, fun q hq => ?_⟩
  · rw [List.drop_take, List.append_assoc]
    have e : L.drop (uptoN c k L) = (L.drop (aheadN c k L)).drop (uptoN c k L - aheadN c k L) := by rw [List.drop_drop]; congr 1; omega
    rw [e, List.take_append_drop, List.take_append_drop]
  · obtain ⟨i, _, h2, _, e⟩ := g L 0 _ q (by simpa using hq)
    have := a2 i h2
    simp only [decide_eq_false_iff_not, e] at this; omega
  · obtain ⟨i, h1, h2, h3, e⟩ := g L _ _ q hq
    have x := a3 i h1 h3
    have y := u2 i h2
    simp only [decide_eq_false_iff_not, decide_eq_true_eq, e] at x y; omega
  · obtain ⟨i, h1, h2, h3, e⟩ := g L _ L.length q (by rwa [List.take_length])
    have := u3 i h1 h3
    simpa only [decide_eq_true_eq, e] using this
theorem mem_ins {c : V → V → Int} (H : Line c (fun _ => True)) (x : V × V) (L : List (V × V)) (h : Rising c L) : (∀ q, q ∈ insL c L x ↔ q = x ∨ (q ∈ L ∧ c q.1 x.1 ≠ 0)) ∧ Rising c (insL c L x) := by
  obtain ⟨a, m, b, e, e1, e2, h1, h2, h3⟩ := split_at H x.1 L h
  have t := fun p q : V × V => H.turn p.1 q.1 trivial trivial
  unfold insL
  rw [e1, e2]
  constructor
  · intro q
    simp only [List.mem_append, List.mem_cons, e]
    constructor
    · rintro (h | h | h)
      · exact .inr ⟨.inl (.inl h), by have := h1 q h; omega⟩
      · exact .inl h
      · exact .inr ⟨.inr h, by have := h3 q h; omega⟩
    · rintro (h | ⟨(h | h) | h, h4⟩)
      · exact .inr (.inl h)
      · exact .inl h
      · exact absurd (h2 q h) h4
      · exact .inr (.inr h)
  · rw [rising_mid]
    rw [e] at h
    obtain ⟨r1, r2, r3⟩ := List.pairwise_append.1 h
    obtain ⟨r4, r5, r6⟩ := List.pairwise_append.1 r1
    exact ⟨r4, r2, h1, fun q hq => by have := h3 q hq; have := t x q; omega, fun p hp q hq => r3 p (by simp [hp]) q hq⟩
/-- Pairs put in one by one. -/
def foldL (c : V → V → Int) (L l : List (V × V)) : List (V × V) := l.foldl (insL c) L
theorem fold_rising {c : V → V → Int} (H : Line c (fun _ => True)) : ∀ (l L : List (V × V)), Rising c L → Rising c (foldL c L l)
  | [], L, h => h
  | x :: l, L, h => fold_rising H l _ (mem_ins H x L h).2
theorem zero_trans {c : V → V → Int} (H : Line c (fun _ => True)) {a b d : V} (h1 : c a b = 0) (h2 : c b d = 0) : c a d = 0 := by
  have t1 := H.turn a b trivial trivial
  have t2 := H.turn b d trivial trivial
  have t3 := H.turn a d trivial trivial
  have := H.le_trans a b d trivial trivial trivial (by omega) (by omega)
  have := H.le_trans d b a trivial trivial trivial (by omega) (by omega)
  omega
theorem ins_merge {c : V → V → Int} (H : Line c (fun _ => True)) (x : V × V) (A B : List (V × V)) (hA : Rising c A) (hB : Rising c B) : insL c (mergeL c A B) x = mergeL c A (insL c B x) := by
  obtain ⟨m1, m2⟩ := mem_merge H A B hA hB
  obtain ⟨i1, i2⟩ := mem_ins H x _ m2
  obtain ⟨j1, j2⟩ := mem_ins H x B hB
  obtain ⟨k1, k2⟩ := mem_merge H A _ hA j2
  refine rising_ext H _ _ i2 k2 fun q => ?_
  rw [i1, m1, k1, j1]
  have sw : ∀ p : V × V, p ∈ B → c p.1 x.1 = 0 → c q.1 x.1 ≠ 0 → c q.1 p.1 ≠ 0 := fun p _ h1 h2 h3 => h2 (zero_trans H h3 h1)
  constructor
  · rintro (h | ⟨h | ⟨h, h2⟩, h3⟩)
    · exact .inl (.inl h)
    · exact .inl (.inr ⟨h, h3⟩)
    · refine .inr ⟨h, fun p hp => ?_⟩
      rcases (j1 p).1 hp with rfl | hp
      · exact h3
      · exact h2 p hp.1
  · rintro ((h | h) | ⟨h, h2⟩)
    · exact .inl h
    · exact .inr ⟨.inl h.1, h.2⟩
    · have h3 := h2 x ((j1 x).2 (.inl rfl))
      refine .inr ⟨.inr ⟨h, fun p hp => ?_⟩, h3⟩
      by_cases h4 : c p.1 x.1 = 0
      · exact sw p hp h4 h3
      · exact h2 p ((j1 p).2 (.inr ⟨hp, h4⟩))
theorem fold_merge {c : V → V → Int} (H : Line c (fun _ => True)) (A : List (V × V)) (hA : Rising c A) : ∀ (l B : List (V × V)), Rising c B → foldL c (mergeL c A B) l = mergeL c A (foldL c B l)
  | [], _, _ => rfl
  | x :: l, B, hB => by
    show foldL c (insL c (mergeL c A B) x) l = mergeL c A (foldL c (insL c B x) l)
    rw [ins_merge H x A B hA hB]
    exact fold_merge H A hA l _ (mem_ins H x B hB).2
theorem rising_nil (c : V → V → Int) : Rising c [] := List.Pairwise.nil
theorem fold_app {c : V → V → Int} (H : Line c (fun _ => True)) (a b : List (V × V)) : foldL c [] (a ++ b) = mergeL c (foldL c [] a) (foldL c [] b) := by
  have h := fold_merge H (foldL c [] a) (fold_rising H a [] (rising_nil c)) b [] (rising_nil c)
  rw [mergeL_nil] at h
  rw [← h]
  exact List.foldl_append ..
theorem ins_nil (c : V → V → Int) (x : V × V) : insL c [] x = [x] := by simp [insL]
/-- The document's merging, step by step. -/
def stepB (c : V → V → Int) (a b : List (V × V)) (x : Nat × Nat × List (V × V)) : Nat × Nat × List (V × V) :=
  if x.2.1 = b.length ∨ (x.1 < a.length ∧ c (a.getD x.1 default).1 (b.getD x.2.1 default).1 < 0) then (x.1 + 1, x.2.1, x.2.2 ++ [a.getD x.1 default])
  else (if x.1 < a.length ∧ c (a.getD x.1 default).1 (b.getD x.2.1 default).1 = 0 then x.1 + 1 else x.1, x.2.1 + 1, x.2.2 ++ [b.getD x.2.1 default])
def runB (c : V → V → Int) (a b : List (V × V)) : Nat → Nat × Nat × List (V × V)
  | 0 => (0, 0, [])
  | i + 1 => stepB c a b (runB c a b i)
theorem drop_getD (l : List (V × V)) (i : Nat) (h : i < l.length) : l.drop i = l.getD i default :: l.drop (i + 1) := by
  rw [List.drop_eq_getElem_cons h, List.getD_eq_getElem?_getD, List.getElem?_eq_getElem h, Option.getD_some]
theorem runB_inv (c : V → V → Int) (a b : List (V × V)) : ∀ i, (∀ j, j < i → (runB c a b j).1 < a.length ∨ (runB c a b j).2.1 < b.length) →
    (runB c a b i).1 ≤ a.length ∧ (runB c a b i).2.1 ≤ b.length ∧ i ≤ (runB c a b i).1 + (runB c a b i).2.1 ∧ (runB c a b i).2.2.length = i ∧ (runB c a b i).2.2 ++ mergeL c (a.drop (runB c a b i).1) (b.drop (runB c a b i).2.1) = mergeL c a b
  | 0, _ => by simp [runB]
  | i + 1, h => by
    obtain ⟨h1, h2, h3, h4, h5⟩ := runB_inv c a b i fun j hj => h j (by omega)
    have h6 := h i (by omega)
    show (stepB c a b (runB c a b i)).1 ≤ _ ∧ _
    rw [show runB c a b (i + 1) = stepB c a b (runB c a b i) from rfl]
    generalize runB c a b i = x at *
    obtain ⟨p, q, o⟩ := x
    simp only at *
    unfold stepB
    simp only
    by_cases hq : q = b.length ∨ (p < a.length ∧ c (a.getD p default).1 (b.getD q default).1 < 0)
    · rw [if_pos hq]
      simp only
      have hp : p < a.length := by rcases hq with hq | hq <;> omega
      refine ⟨by omega, by omega, by omega, by simp [h4], ?_⟩
      rw [← h5, drop_getD a p hp, List.append_assoc]
      congr 1
      rcases Nat.lt_or_ge q b.length with hb | hb
      · have hc : c (a.getD p default).1 (b.getD q default).1 < 0 := by rcases hq with hq | hq; omega; exact hq.2
        rw [drop_getD b q hb]
        conv => rhs; rw [mergeL, if_pos hc]
        rfl
      · rw [List.drop_eq_nil_of_le hb, mergeL_nil, mergeL_nil]; rfl
    · rw [if_neg hq]
      simp only
      have hb : q < b.length := by omega
      refine ⟨by split <;> omega, by omega, by split <;> omega, by simp [h4], ?_⟩
      rw [← h5, drop_getD b q hb, List.append_assoc]
      congr 1
      rcases Nat.lt_or_ge p a.length with hp | hp
      · have hc : ¬ c (a.getD p default).1 (b.getD q default).1 < 0 := fun hc => hq (.inr ⟨hp, hc⟩)
        rw [drop_getD a p hp]
        conv => rhs; rw [mergeL, if_neg hc]
        by_cases h0 : c (a.getD p default).1 (b.getD q default).1 = 0
        · rw [if_pos h0, if_pos ⟨hp, h0⟩]; rfl
        · rw [if_neg h0, if_neg (fun h => h0 h.2), drop_getD a p hp]; rfl
      · rw [if_neg (by omega), List.drop_eq_nil_of_le hp, mergeL_nil', mergeL_nil']; rfl
theorem runB_end (c : V → V → Int) (a b : List (V × V)) : ∃ N, N ≤ a.length + b.length ∧ (∀ j, j < N → (runB c a b j).1 < a.length ∨ (runB c a b j).2.1 < b.length) ∧ ¬ ((runB c a b N).1 < a.length ∨ (runB c a b N).2.1 < b.length) ∧ (runB c a b N).2.2 = mergeL c a b := by
  have hex : ∃ N, ¬ ((runB c a b N).1 < a.length ∨ (runB c a b N).2.1 < b.length) := by
    refine Classical.byContradiction fun hn => ?_
    have hn : ∀ N, (runB c a b N).1 < a.length ∨ (runB c a b N).2.1 < b.length := fun N => Classical.byContradiction fun h => hn ⟨N, h⟩
    obtain ⟨h1, h2, h3, _⟩ := runB_inv c a b (a.length + b.length + 1) fun j _ => hn j
    omega
  obtain ⟨N, h1, h2⟩ := Go.Sx.exists_least _ hex
  have hj : ∀ j, j < N → (runB c a b j).1 < a.length ∨ (runB c a b j).2.1 < b.length := fun j hj => Classical.byContradiction fun h => by have := h2 j h; omega
  obtain ⟨g1, g2, g3, g4, g5⟩ := runB_inv c a b N hj
  refine ⟨N, ?_, hj, h1, ?_⟩
  · cases N with
    | zero => omega
    | succ N => have := (runB_inv c a b (N + 1) hj); omega
  · rw [List.drop_eq_nil_of_le (by omega), List.drop_eq_nil_of_le (by omega), mergeL_nil] at g5
    simpa using g5
end Sp
namespace Go.Sx
open Sp
theorem ofT_fold {c : V → V → Int} (H : Line c (fun _ => True)) (l : List (V × V)) : ∀ i, i ≤ l.length → (ofT c l i).1.toList = foldL c [] (l.take i) ∧ Rising c (ofT c l i).1.toList
  | 0, _ => by simp [ofT, T.toList, foldL, Rising]
  | i + 1, hi => by
    obtain ⟨h1, h2⟩ := ofT_fold H l i (by omega)
    have e := (T.insert_list H (l.getD i default).1 (l.getD i default).2 (ofT c l i).1 h2).1
    have e2 : (ofT c l (i + 1)).1.toList = insL c (ofT c l i).1.toList (l.getD i default) := e
    refine ⟨?_, by rw [e2]; exact (mem_ins H _ _ h2).2⟩
    rw [e2, h1, List.take_add_one, List.getD_eq_getElem?_getD, List.getElem?_eq_getElem (by omega)]
    show _ = foldL c [] (l.take i ++ [l[i]])
    unfold foldL
    rw [List.foldl_append]; rfl
end Go.Sx
set_option maxRecDepth 100000
set_option linter.unusedVariables false
set_option linter.unusedSimpArgs false
namespace Go.Sx
open Sp
/-- One word says less than another one. -/
def Le (x y : FV) : Prop := ∀ w ok v, FRel w ok x v → FRel w ok y v
def LeL : List FV → List FV → Prop
  | [], [] => True
  | x :: l, y :: m => Le x y ∧ LeL l m
  | _, _ => False
theorem LeL.nil : LeL [] [] := trivial
theorem LeL.cons {x y : FV} {l m : List FV} (h : Le x y) (t : LeL l m) : LeL (x :: l) (y :: m) := ⟨h, t⟩
theorem Le.rfl {x : FV} : Le x x := fun _ _ _ h => h
theorem LeL.refl : ∀ l : List FV, LeL l l
  | [] => trivial
  | x :: l => ⟨Le.rfl, LeL.refl l⟩
theorem LeL.length : ∀ l m : List FV, LeL l m → l.length = m.length
  | [], [], _ => rfl
  | x :: l, y :: m, h => by simp [LeL.length l m h.2]
theorem relC_le {w : World} {ok : Nat → Prop} {b : Nat} : ∀ (l m : List FV) (o : Nat), LeL l m → FRelC w ok l b o → FRelC w ok m b o
  | [], [], _, _, h => h
  | x :: l, y :: m, o, hl, h => by
    simp only [FRelC] at h ⊢
    obtain ⟨⟨v, h1, h2⟩, h3⟩ := h
    exact ⟨⟨v, h1, hl.1 _ _ _ h2⟩, relC_le l m _ hl.2 h3⟩
theorem le_ptr {l m : List FV} (h : LeL l m) (k : Nat) : Le (.ptr l k) (.ptr m k) := by
  intro w ok v h1
  simp only [FRel] at h1 ⊢
  obtain ⟨b, o, e, h2, h3⟩ := h1
  exact ⟨b, o, e, h2, relC_le _ _ _ h h3⟩
theorem le_nils (z : Nat) : Le .nils (.sl z []) := nils_sl z
theorem CallsF.le {f : Nat} {args : List FV} {r s : FV} (h : CallsF P G f args r) (hl : Le r s) : CallsF P G f args s := h.weak hl
theorem le_map (o : Int) : Le (.ptr [int o, .nils] 0) (.ptr [int o, encPs []] 0) := le_ptr (LeL.cons Le.rfl (LeL.cons (le_nils 8) LeL.nil)) 0
end Go.Sx

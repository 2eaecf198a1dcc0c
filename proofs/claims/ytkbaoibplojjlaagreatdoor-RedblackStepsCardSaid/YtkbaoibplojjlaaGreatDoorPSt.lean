/-
  Proved: what some functions of the program answer, or a law of the evaluator that shows it, one theorem each; its conditions are the hypotheses that stand ahead of it.
-/
import Derived.Test.YtkbaoibplojjlaaGreatDoorPSo
set_option linter.unusedVariables false
set_option linter.unusedSimpArgs false
namespace Sp
theorem ahead_len {c : V → V → Int} {k : V} {a b : List (V × V)} (ha : ∀ q, q ∈ a → c q.1 k < 0) (hb : ∀ q, q ∈ b → 0 ≤ c q.1 k) : aheadN c k (a ++ b) = a.length := by
  unfold aheadN
  rw [List.takeWhile_append_of_pos (by intro q hq; simpa using ha q hq)]
  cases b with
  | nil => simp
  | cons q b =>
    rw [List.takeWhile_cons, if_neg (by have := hb q (by simp); simp; omega)]
    simp
theorem upto_len {c : V → V → Int} {k : V} {a b : List (V × V)} (ha : ∀ q, q ∈ a → c q.1 k ≤ 0) (hb : ∀ q, q ∈ b → 0 < c q.1 k) : uptoN c k (a ++ b) = a.length := by
  unfold uptoN
  rw [List.takeWhile_append_of_pos (by intro q hq; simpa using ha q hq)]
  cases b with
  | nil => simp
  | cons q b =>
    rw [List.takeWhile_cons, if_neg (by have := hb q (by simp); simp; omega)]
    simp
namespace T
theorem find_is (c : V → V → Int) (k : V) : ∀ (t : T), (find c k t).isNil = false → ∃ q, q ∈ t.toList ∧ (find c k t).val = q.2 ∧ c k q.1 = 0
  | .nil, h => by simp [find, isNil] at h
  | .node b l r xk xv, h => by
    simp only [find] at h ⊢
    by_cases h0 : c k xk = 0
    · rw [if_neg (by omega), if_neg (by omega)] at h ⊢
      exact ⟨(xk, xv), by simp [toList], rfl, h0⟩
    · by_cases h1 : c k xk < 0
      · rw [if_pos h1] at h ⊢
        obtain ⟨q, hq, hv⟩ := find_is c k l h
        exact ⟨q, by simp [toList, hq], hv⟩
      · rw [if_neg h1, if_pos (by omega)] at h ⊢
        obtain ⟨q, hq, hv⟩ := find_is c k r h
        exact ⟨q, by simp [toList, hq], hv⟩
/-- What a pair put in, and a key taken out, does to a map's list, by the place of the key. -/
theorem insert_list {c : V → V → Int} (H : Line c (fun _ => True)) (k v : V) (t : T) (h : Rising c t.toList) :
    (insert c k v t).blackened.toList = t.toList.take (aheadN c k t.toList) ++ (k, v) :: t.toList.drop (uptoN c k t.toList) ∧ ((find c k t).isNil = true ↔ uptoN c k t.toList = aheadN c k t.toList) := by
  rw [toList_blackened]
  obtain ⟨a, b, e, h1, h2, h3⟩ := insert_place H k v t h
  have hb : ∀ q, q ∈ b → 0 < c q.1 k := fun q hq => by have := h3 q hq; have := H.turn k q.1 trivial trivial; omega
  rcases h1 with ⟨h1, h4⟩ | ⟨p, h1, h5, h4⟩
  · have e1 : aheadN c k t.toList = a.length := by rw [h1]; exact ahead_len h2 fun q hq => Int.le_of_lt (hb q hq)
    have e2 : uptoN c k t.toList = a.length := by rw [h1]; exact upto_len (fun q hq => Int.le_of_lt (h2 q hq)) hb
    refine ⟨?_, by simp [h4, e1, e2]⟩
    rw [e1, e2, e, h1]; simp
  · have hp : c p.1 k = 0 := by have := H.turn k p.1 trivial trivial; omega
    have e1 : aheadN c k t.toList = a.length := by
      rw [h1]; refine ahead_len h2 fun q hq => ?_
      rcases List.mem_cons.1 hq with rfl | hq
      · omega
      · exact Int.le_of_lt (hb q hq)
    have e2 : uptoN c k t.toList = a.length + 1 := by
      rw [h1, show a ++ p :: b = (a ++ [p]) ++ b from by simp]
      rw [upto_len (a := a ++ [p]) (fun q hq => ?_) hb]
      · simp
      · rcases List.mem_append.1 hq with hq | hq
        · exact Int.le_of_lt (h2 q hq)
        · simp only [List.mem_singleton] at hq; subst hq; omega
    refine ⟨?_, by simp [h4, e1, e2]⟩
    rw [e1, e2, e, h1, show a ++ p :: b = (a ++ [p]) ++ b from by simp]
    rw [List.drop_left' (by simp)]
    simp
theorem remove_list {c : V → V → Int} (H : Line c (fun _ => True)) (k : V) (t : T) (n : Nat) (hb : t.rb n) (h : Rising c t.toList) (hf : (find c k t).isNil = false) :
    (remove c k t).blackened.toList = t.toList.take (aheadN c k t.toList) ++ t.toList.drop (aheadN c k t.toList + 1) ∧ Rising c (remove c k t).blackened.toList ∧ uptoN c k t.toList = aheadN c k t.toList + 1 := by
  rw [toList_blackened]
  obtain ⟨a, b, p, e, h1, h5⟩ := remove_toList c k t n hb ((has_find c k t).mpr hf)
  have hr := h
  rw [h1] at hr
  obtain ⟨r1, r2, r3, r4, r5⟩ := rising_mid.1 hr
  have hp : c p.1 k = 0 := by have := H.turn k p.1 trivial trivial; omega
  have ha : ∀ q, q ∈ a → c q.1 k < 0 := fun q hq => H.lt_of_lt_of_le (b := p.1) trivial trivial trivial (r3 q hq) (by omega)
  have hbb : ∀ q, q ∈ b → 0 < c q.1 k := fun q hq => by
    have := H.lt_of_le_of_lt (b := p.1) trivial trivial trivial (show c k p.1 ≤ 0 by omega) (r4 q hq)
    have := H.turn k q.1 trivial trivial
    omega
  have e1 : aheadN c k t.toList = a.length := by
    rw [h1]; refine ahead_len ha fun q hq => ?_
    rcases List.mem_cons.1 hq with rfl | hq
    · omega
    · exact Int.le_of_lt (hbb q hq)
  have e2 : uptoN c k t.toList = a.length + 1 := by
    rw [h1, show a ++ p :: b = (a ++ [p]) ++ b from by simp]
    rw [upto_len (a := a ++ [p]) (fun q hq => ?_) hbb]
    · simp
    · rcases List.mem_append.1 hq with hq | hq
      · exact Int.le_of_lt (ha q hq)
      · simp only [List.mem_singleton] at hq; subst hq; omega
  refine ⟨?_, by rw [e]; exact List.pairwise_append.2 ⟨r1, r2, r5⟩, by rw [e1, e2]⟩
  rw [e1, e, h1, show a ++ p :: b = (a ++ [p]) ++ b from by simp, List.drop_left' (by simp)]
  simp
end T
end Sp

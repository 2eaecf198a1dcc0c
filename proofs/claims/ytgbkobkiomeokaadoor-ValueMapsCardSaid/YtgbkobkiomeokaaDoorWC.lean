/-
  Proved: what some functions of the program answer, or a law of the evaluator that shows it, one theorem each; its conditions are the hypotheses that stand ahead of it.
-/
import Derived.Test.YtgbkobkiomeokaaDoorW7
import Derived.Test.YtgbkobkiomeokaaDoorPSv
import Derived.KernelRfl
set_option maxRecDepth 100000
set_option maxHeartbeats 4000000
set_option linter.unusedSimpArgs false
set_option linter.unusedVariables false
namespace Go.Sx
open Go.Proofs Sp
open Sp.Sy
theorem cellsPs_set : ∀ (l : List (V × V)) (i : Nat) (x : V × V), (cellsPs l).set i (cellsP x.1 ++ cellsP x.2) = cellsPs (l.set i x)
  | [], _, _ => rfl
  | y :: l, 0, x => rfl
  | y :: l, i + 1, x => by simp only [cellsPs, List.set_cons_succ, cellsPs_set l i x]
theorem sw_cells (l : List (V × V)) (i j : Nat) : ((cellsPs l).set i (cellsP (l.getD j default).1 ++ cellsP (l.getD j default).2)).set j (cellsP (l.getD i default).1 ++ cellsP (l.getD i default).2) = cellsPs (sw l i j) := by
  rw [cellsPs_set, cellsPs_set]; rfl
theorem swapr_ok (f : Nat) (l : List (V × V)) (a b c : Nat) (ha : a + c ≤ l.length) (hb : b + c ≤ l.length) (hn : l.length ≤ 1000000) : CallsW P G 75 42 8 (cellsPs l) [int (a : Int), int (b : Int), int (c : Int), .fn f [] []] (cellsPs (sws l a b c)) (some (.tup [])) :=
  swapr_run f a b c l.length (sws l a b) ha hb (by omega) (fun i => sws_length l a b i) (fun i _ => sw_cells _ _ _)
theorem rotate_ok (f a m b : Nat) (p u v s : List (V × V)) (hu : 0 < u.length) (hv : 0 < v.length) (ha : a = p.length) (hm : m = p.length + u.length) (hb : b = p.length + u.length + v.length) (hn : (p ++ (u ++ (v ++ s))).length ≤ 1000000) :
    CallsW P G 60 42 8 (cellsPs (p ++ (u ++ (v ++ s)))) [int (a : Int), int (m : Int), int (b : Int), .fn f [] []] (cellsPs (p ++ (v ++ (u ++ s)))) (some (.tup [])) := by
  obtain ⟨N, h1, h2⟩ := rt_ends p u v s m hm hu hv
  have inv := rt_inv p u v s m hm hu hv
  have hl : (p ++ (u ++ (v ++ s))).length = p.length + (u.length + (v.length + s.length)) := by simp only [List.length_append]
  have len := fun k => rt_length m (p ++ (u ++ (v ++ s))) u.length v.length k
  generalize p ++ (u ++ (v ++ s)) = l at *
  have hin : ∀ i, (rt m l u.length v.length i).1 ≤ m ∧ m + (rt m l u.length v.length i).2.1 ≤ l.length := fun i => by
    obtain ⟨p', u', v', s', e, e1, _, _, _⟩ := inv i
    have := len i
    rw [e] at this ⊢
    simp only [List.length_append] at this ⊢
    omega
  refine rotate_run f a m b l.length N (fun i => (rt m l u.length v.length i).1) (fun i => (rt m l u.length v.length i).2.1) (fun i => (rt m l u.length v.length i).2.2) _ (by omega) (by omega) (by omega) (by omega) (by simp only [rt]; omega) (by simp only [rt]; omega)
    (fun i _ => by have := hin i; omega) h1 h2 (fun i hi => ⟨fun h => by rw [rt_gt _ _ _ _ _ h]; exact ⟨rfl, rfl⟩, fun h => by rw [rt_lt _ _ _ _ _ h]; exact ⟨rfl, rfl⟩⟩) (fun i hi h => ?_) (fun i hi h => ?_) ?_
  · have h3 := hin i; have h4 := len i
    rw [wrapS _ (by omega) (by omega), show (m : Int) - ((rt m l u.length v.length i).1 : Int) = ((m - (rt m l u.length v.length i).1 : Nat) : Int) by omega, rt_gt _ _ _ _ _ h]
    exact swapr_ok f _ _ _ _ (by omega) (by omega) (by omega)
  · have h3 := hin i; have h4 := len i
    rw [wrapS ((m : Int) - _) (by omega) (by omega), wrapS ((m : Int) + _) (by omega) (by omega), wrapS _ (by omega) (by omega), show (m : Int) - ((rt m l u.length v.length i).1 : Int) = ((m - (rt m l u.length v.length i).1 : Nat) : Int) by omega, show (m : Int) + ((rt m l u.length v.length i).2.1 : Int) - ((rt m l u.length v.length i).1 : Int) = ((m + (rt m l u.length v.length i).2.1 - (rt m l u.length v.length i).1 : Nat) : Int) by omega, rt_lt _ _ _ _ _ h]
    exact swapr_ok f _ _ _ _ (by omega) (by omega) (by omega)
  · have h3 := hin N; have h4 := len N
    rw [wrapS _ (by omega) (by omega), show (m : Int) - ((rt m l u.length v.length N).1 : Int) = ((m - (rt m l u.length v.length N).1 : Nat) : Int) by omega]
    have h5 := swapr_ok f (rt m l u.length v.length N).2.2 (m - (rt m l u.length v.length N).1) m (rt m l u.length v.length N).1 (by omega) (by omega) (by omega)
    have h6 : sws (rt m l u.length v.length N).2.2 (m - (rt m l u.length v.length N).1) m (rt m l u.length v.length N).1 = p ++ (v ++ (u ++ s)) := by
      obtain ⟨p', u', v', s', e, e1, _, _, e4⟩ := inv N
      rw [e] at h2 ⊢
      simp only at h2 ⊢
      rw [← e4]
      exact sws_two u' v' p' [] s' _ _ _ rfl h2.symm (by omega) (by simp only [List.length_nil]; omega)
    rw [h6] at h5
    exact h5
end Go.Sx
set_option maxRecDepth 100000
set_option maxHeartbeats 4000000
set_option linter.unusedSimpArgs false
set_option linter.unusedVariables false
namespace Go.Sx
open Go.Proofs Sp
open Sp.Sy
theorem reverse_ok (l : List (V × V)) (hn : l.length ≤ 1000000) : CallsW P G 13 42 8 (cellsPs l) [] (cellsPs l.reverse) (some (.tup [])) := by
  rw [← rvR_end l (l.length / 2) (by omega) (by omega)]
  exact reverse_run l.length (l.length / 2) (rvR l) hn (by omega) (by omega) (rvR_length l) (fun i _ => sw_cells _ _ _)
/-- What a comparing function tells of two pairs that may be asked about. -/
def Tells (f : Nat) (Ok : V × V → Prop) (c : V × V → V × V → Int) : Prop := ∀ p q, Ok p → Ok q → CallsF P G f [encQ p, encQ q] (int (c p q))
theorem insort_ok {f : Nat} {Ok : V × V → Prop} {c : V × V → V × V → Int} (H : Pre c) (hc : Tells f Ok c) (a b : Nat) (p u s : List (V × V)) (ha : a = p.length) (hb : b = p.length + u.length) (hn : (p ++ (u ++ s)).length ≤ 1000000) (ho : ∀ q, q ∈ u → Ok q) :
    CallsW P G 48 42 8 (cellsPs (p ++ (u ++ s))) [int (a : Int), int (b : Int), .fn f [] []] (cellsPs (p ++ (srt c u ++ s))) (some (.tup [])) := by
  have hl : (p ++ (u ++ s)).length = p.length + (u.length + s.length) := by simp only [List.length_append]
  have hw : ∀ i, ∃ w, w ≤ (srt c (u.take (i + 1))).length ∧ (∀ y, y ∈ (srt c (u.take (i + 1))).take w → 0 ≤ c (u.getD (i + 1) default) y) ∧ (∀ y, y ∈ (srt c (u.take (i + 1))).drop w → c (u.getD (i + 1) default) y < 0) := fun i => tw_split H _ _ (srt_sd H _)
  obtain ⟨w, hw⟩ := Classical.axiomOfChoice hw
  have tl : ∀ i, i + 1 < u.length → (srt c (u.take (i + 1))).length = i + 1 := fun i hi => by rw [srt_length, List.length_take]; omega
  have wl : ∀ i, i + 1 < u.length → w i ≤ i + 1 := fun i hi => by have := (hw i).1; have := tl i hi; omega
  have ox : ∀ i, i + 1 < u.length → Ok (u.getD (i + 1) default) := fun i hi => ho _ (getD_mem hi)
  have oy : ∀ i j, i + 1 < u.length → j ≤ i → Ok ((srt c (u.take (i + 1))).getD j default) := fun i j hi hj => by
    have h := getD_mem (l := srt c (u.take (i + 1))) (i := j) (by have := tl i hi; omega)
    exact ho _ (List.mem_of_mem_take ((srt_mem c _ _).1 h))
  have e0 : p ++ (u ++ s) = insR c p u s 0 0 := (insR_zero p u s).symm
  have e1 : p ++ (srt c u ++ s) = insR c p u s (b - (a + 1)) 0 := (insR_end p u s _ (by omega)).symm
  rw [e1]
  rw [e0]
  refine insort_run f a b (p ++ (u ++ s)).length (b - (a + 1)) (insR c p u s) (fun i => i + 1 - w i) (fun i k => c ((insR c p u s i k).getD (a + 1 + i - k) default) ((insR c p u s i k).getD (a + 1 + i - k - 1) default)) (by omega) (by omega) rfl (by omega) (insR_length c p u s) (fun i hi => by omega)
    (fun i k hi hk hk2 => ?_) (fun i k hi hk => ?_) (fun i hi hm => ?_) (fun i k hi hk => ?_) (fun i hi => ?_)
  · have hi' : i + 1 < u.length := by omega
    rw [insR_x ha hi' (by omega), insR_y ha hi' (by omega)]
    exact hc _ _ (ox i hi') (oy i _ hi' (by omega))
  · have hi' : i + 1 < u.length := by omega
    rw [insR_x ha hi' (by omega), insR_y ha hi' (by omega)]
    exact (hw i).2.2 _ (getD_dropm (by omega) (by have := tl i hi'; omega))
  · have hi' : i + 1 < u.length := by omega
    have := wl i hi'
    rw [insR_x ha hi' (by omega), insR_y ha hi' (by omega)]
    exact (hw i).2.1 _ (getD_take (by omega) (by have := tl i hi'; omega))
  · have hi' : i + 1 < u.length := by omega
    rw [sw_cells, insR_swap ha hi' (by omega)]
  · have hi' : i + 1 < u.length := by omega
    exact insR_next H p u s i (w i) hi' (wl i hi') (hw i).2.1 (hw i).2.2
end Go.Sx
set_option maxRecDepth 100000
set_option maxHeartbeats 4000000
set_option linter.unusedSimpArgs false
set_option linter.unusedVariables false
namespace Go.Sx
open Go.Proofs Sp
open Sp.Sy
section
variable {f : Nat} {Ok : V × V → Prop} {c : V × V → V × V → Int}
theorem sym_one (H : Pre c) (hc : Tells f Ok c) (a m b : Nat) (p v s : List (V × V)) (x : V × V) (hv : 0 < v.length) (ha : a = p.length) (hm : m = a + 1) (hb : b = m + v.length) (hn : (p ++ ([x] ++ (v ++ s))).length ≤ 1000000) (sv : Sd c v) (ox : Ok x) (ov : ∀ q, q ∈ v → Ok q) :
    CallsW P G 49 42 8 (cellsPs (p ++ ([x] ++ (v ++ s)))) [int (a : Int), int (m : Int), int (b : Int), .fn f [] []] (cellsPs (p ++ (mrg c [x] v ++ s))) (some (.tup [])) := by
  have hl : (p ++ ([x] ++ (v ++ s))).length = p.length + (1 + (v.length + s.length)) := by simp only [List.length_append, List.length_singleton]
  have gx : (p ++ ([x] ++ (v ++ s))).getD a default = x := by rw [in_mid p [x] (v ++ s) (j := 0) (by omega) (by simp)]; rfl
  have gv : ∀ h, m ≤ h → h < b → (p ++ ([x] ++ (v ++ s))).getD h default = v.getD (h - m) default := fun h h1 h2 => in_mid2 p [x] v s (by rw [List.length_singleton]; omega) (by omega)
  obtain ⟨N, b1, b2, b3, b4, b5⟩ := bs_ends (fun h => decide (c ((p ++ ([x] ++ (v ++ s))).getD h default) x < 0)) m b (by omega)
  generalize hA : bs (fun h => decide (c ((p ++ ([x] ++ (v ++ s))).getD h default) x < 0)) m b = AB at *
  have bst := fun i => by have := bs_step (fun h => decide (c ((p ++ ([x] ++ (v ++ s))).getD h default) x < 0)) m b i; rw [hA] at this; exact this
  have tN := b3 N (Nat.le_refl _)
  have e : mrg c [x] v = v.take ((AB N).1 - m) ++ x :: v.drop ((AB N).1 - m) := one_at H x sv _ (by omega) (fun h => by
      have := of_decide_eq_true (b4 (by omega)); rwa [gv _ (by omega) (by omega), show (AB N).1 - 1 - m = (AB N).1 - m - 1 by omega] at this) (fun h => by
      have := of_decide_eq_false (b5 (by omega)); rw [gv _ (by omega) (by omega)] at this; omega)
  have e2 : p ++ (mrg c [x] v ++ s) = p ++ (v.take ((AB N).1 - m) ++ x :: (v.drop ((AB N).1 - m) ++ s)) := by rw [e]; simp
  rw [e2]
  refine sym_left f a m b _ N ((AB N).1 - m) (p ++ ([x] ++ (v ++ s))) (fun i => (AB i).1) (fun i => (AB i).2) (fun i => c ((p ++ ([x] ++ (v ++ s))).getD (((AB i).1 + (AB i).2) / 2) default) x) (fun i => p ++ (v.take i ++ x :: (v.drop i ++ s))) hm (by omega) (by omega) rfl hn (by rw [← hA]; rfl) (by rw [← hA]; rfl) b3 b1 (by rw [b2]; omega)
    (fun i hi => ?_) (fun i hi => ⟨fun h => (bst i).1 (decide_eq_true h), fun h => (bst i).2 (decide_eq_false h)⟩) (by omega) (by omega) (fun i => ?_) (by simp) (fun i hi => ?_)
  · have h1 := b1 i hi; have h2 := b3 i (by omega)
    rw [gx]
    refine hc _ _ ?_ ox
    rw [gv _ (by omega) (by omega)]
    exact ov _ (getD_mem (by omega))
  · simp only [List.length_append, List.length_cons, List.length_take, List.length_drop, List.length_nil]; omega
  · rw [sw_cells, up_swap p v s x i (a + i) (a + i + 1) (by omega) (by omega) rfl]
theorem sym_two1 (H : Pre c) (hc : Tells f Ok c) (a m b : Nat) (p u s : List (V × V)) (y : V × V) (hu : 1 < u.length) (ha : a = p.length) (hm : m = a + u.length) (hb : b = m + 1) (hn : (p ++ (u ++ ([y] ++ s))).length ≤ 1000000) (su : Sd c u) (oy : Ok y) (ou : ∀ q, q ∈ u → Ok q) :
    CallsW P G 49 42 8 (cellsPs (p ++ (u ++ ([y] ++ s)))) [int (a : Int), int (m : Int), int (b : Int), .fn f [] []] (cellsPs (p ++ (mrg c u [y] ++ s))) (some (.tup [])) := by
  have hl : (p ++ (u ++ ([y] ++ s))).length = p.length + (u.length + (1 + s.length)) := by simp only [List.length_append, List.length_singleton]
  have gy : (p ++ (u ++ ([y] ++ s))).getD m default = y := by rw [in_mid2 p u [y] s (j := 0) (by omega) (by simp)]; rfl
  have gu : ∀ h, a ≤ h → h < m → (p ++ (u ++ ([y] ++ s))).getD h default = u.getD (h - a) default := fun h h1 h2 => in_mid p u ([y] ++ s) (by omega) (by omega)
  obtain ⟨N, b1, b2, b3, b4, b5⟩ := bs_ends (fun h => decide (¬ c y ((p ++ (u ++ ([y] ++ s))).getD h default) < 0)) a m (by omega)
  generalize hA : bs (fun h => decide (¬ c y ((p ++ (u ++ ([y] ++ s))).getD h default) < 0)) a m = AB at *
  have bst := fun i => by have := bs_step (fun h => decide (¬ c y ((p ++ (u ++ ([y] ++ s))).getD h default) < 0)) a m i; rw [hA] at this; exact this
  have tN := b3 N (Nat.le_refl _)
  have e : mrg c u [y] = u.take ((AB N).1 - a) ++ y :: u.drop ((AB N).1 - a) := at_one H y su _ (by omega) (fun h => by
      have := of_decide_eq_true (b4 (by omega)); rw [gu _ (by omega) (by omega), show (AB N).1 - 1 - a = (AB N).1 - a - 1 by omega] at this; omega) (fun h => by
      have := of_decide_eq_false (b5 (by omega)); rw [gu _ (by omega) (by omega)] at this; omega)
  have e2 : p ++ (mrg c u [y] ++ s) = p ++ (u.take (u.length - (m - (AB N).1)) ++ y :: (u.drop (u.length - (m - (AB N).1)) ++ s)) := by rw [e, show u.length - (m - (AB N).1) = (AB N).1 - a by omega]; simp
  rw [e2]
  refine sym_right f a m b _ N (m - (AB N).1) (p ++ (u ++ ([y] ++ s))) (fun i => (AB i).1) (fun i => (AB i).2) (fun i => c y ((p ++ (u ++ ([y] ++ s))).getD (((AB i).1 + (AB i).2) / 2) default)) (fun i => p ++ (u.take (u.length - i) ++ y :: (u.drop (u.length - i) ++ s))) (by omega) hb (by omega) rfl hn (by rw [← hA]; rfl) (by rw [← hA]; rfl) b3 b1 (by rw [b2]; omega)
    (fun i hi => ?_) (fun i hi => ⟨fun h => (bst i).1 (decide_eq_true h), fun h => (bst i).2 (decide_eq_false (by omega))⟩) (by omega) (fun i => ?_) (by simp) (fun i hi => ?_)
  · have h1 := b1 i hi; have h2 := b3 i (by omega)
    rw [gy]
    refine hc _ _ oy ?_
    rw [gu _ (by omega) (by omega)]
    exact ou _ (getD_mem (by omega))
  · simp only [List.length_append, List.length_cons, List.length_take, List.length_drop, List.length_nil]; omega
  · have h := down_swap p u s y (u.length - (i + 1)) (m - i) (m - i - 1) (by omega) (by omega) (by omega)
    rw [show u.length - (i + 1) + 1 = u.length - i by omega] at h
    rw [sw_cells, h]
end
end Go.Sx
set_option maxRecDepth 100000
set_option maxHeartbeats 4000000
set_option linter.unusedSimpArgs false
set_option linter.unusedVariables false
namespace Go.Sx
open Go.Proofs Sp
open Sp.Sy
section
variable {f : Nat} {Ok : V × V → Prop} {c : V × V → V × V → Int}
theorem sym_ok (H : Pre c) (hc : Tells f Ok c) : ∀ (d a m b : Nat) (p u v s : List (V × V)), u.length + v.length ≤ d → 0 < u.length → 0 < v.length → a = p.length → m = a + u.length → b = m + v.length → (p ++ (u ++ (v ++ s))).length ≤ 1000000 → Sd c u → Sd c v → (∀ q, q ∈ u → Ok q) → (∀ q, q ∈ v → Ok q) →
    CallsW P G 49 42 8 (cellsPs (p ++ (u ++ (v ++ s)))) [int (a : Int), int (m : Int), int (b : Int), .fn f [] []] (cellsPs (p ++ (mrg c u v ++ s))) (some (.tup []))
  | 0, a, m, b, p, u, v, s, hd, hu, hv, ha, hm, hb, hn, su, sv, ou, ov => by omega
  | d + 1, a, m, b, p, u, v, s, hd, hu, hv, ha, hm, hb, hn, su, sv, ou, ov => by
    by_cases u1 : u.length = 1
    · obtain ⟨x, rfl⟩ := List.length_eq_one_iff.1 u1
      exact sym_one H hc a m b p v s x hv ha hm hb hn sv (ou x (by simp)) ov
    by_cases v1 : v.length = 1
    · obtain ⟨y, rfl⟩ := List.length_eq_one_iff.1 v1
      exact sym_two1 H hc a m b p u s y (by omega) ha hm (by simpa using hb) hn su (ov y (by simp)) ou
    have hl : (p ++ (u ++ (v ++ s))).length = p.length + (u.length + (v.length + s.length)) := by simp only [List.length_append]
    have gu : ∀ h, a ≤ h → h < m → (p ++ (u ++ (v ++ s))).getD h default = u.getD (h - a) default := fun h h1 h2 => in_mid p u (v ++ s) (by omega) (by omega)
    have gv : ∀ h, m ≤ h → h < b → (p ++ (u ++ (v ++ s))).getD h default = v.getD (h - m) default := fun h h1 h2 => in_mid2 p u v s (by omega) (by omega)
    have g1 : a + 1 < m := by omega
    have g2 : m + 1 < b := by omega
    have g3 : b ≤ (p ++ (u ++ (v ++ s))).length := by omega
    have T : ∀ lo hi : Nat, ((a + b) / 2 < m ∧ lo = (a + b) / 2 + m - b ∧ hi = (a + b) / 2 ∨ m ≤ (a + b) / 2 ∧ lo = a ∧ hi = m) → CallsW P G 49 42 8 (cellsPs (p ++ (u ++ (v ++ s)))) [int (a : Int), int (m : Int), int (b : Int), .fn f [] []] (cellsPs (p ++ (mrg c u v ++ s))) (some (.tup [])) := by
      intro lo hi cond
      obtain ⟨N, b1, b2, b3, b4, b5⟩ := bs_ends (fun h => decide (¬ c ((p ++ (u ++ (v ++ s))).getD ((a + b) / 2 + m - 1 - h) default) ((p ++ (u ++ (v ++ s))).getD h default) < 0)) lo hi (by omega)
      generalize hA : bs (fun h => decide (¬ c ((p ++ (u ++ (v ++ s))).getD ((a + b) / 2 + m - 1 - h) default) ((p ++ (u ++ (v ++ s))).getD h default) < 0)) lo hi = AB at *
      have bst := fun i => by have := bs_step (fun h => decide (¬ c ((p ++ (u ++ (v ++ s))).getD ((a + b) / 2 + m - 1 - h) default) ((p ++ (u ++ (v ++ s))).getD h default) < 0)) lo hi i; rw [hA] at this; exact this
      have hA0 : (AB 0).1 = lo := by rw [← hA]; rfl
      have hB0 : (AB 0).2 = hi := by rw [← hA]; rfl
      have tN := b3 N (Nat.le_refl _)
      obtain ⟨t, ht⟩ : ∃ t, t = (AB N).1 := ⟨_, rfl⟩
      rw [← ht] at b4 b5
      have t1 : a ≤ t ∧ t ≤ m ∧ t ≤ (a + b) / 2 ∧ (a + b) / 2 + m - t ≤ b := by omega
      have b4 := fun h => of_decide_eq_true (b4 h)
      have b5 := fun h => of_decide_eq_false (b5 h)
      have e := cross H su sv (t - a) ((a + b) / 2 - t) (by omega) (by omega) (fun h1 h2 => by
        have := b4 (by omega)
        rw [gv _ (by omega) (by omega), gu _ (by omega) (by omega), show (a + b) / 2 + m - 1 - (t - 1) - m = (a + b) / 2 - t by omega, show t - 1 - a = t - a - 1 by omega] at this
        omega) (fun h1 h2 => by
        have := b5 (by omega)
        rw [gv _ (by omega) (by omega), gu _ (by omega) (by omega), show (a + b) / 2 + m - 1 - t - m = (a + b) / 2 - t - 1 by omega] at this
        omega)
      have lu1 : (u.take (t - a)).length = t - a := by rw [List.length_take]; omega
      have lu2 : (u.drop (t - a)).length = m - t := by rw [List.length_drop]; omega
      have lv1 : (v.take ((a + b) / 2 - t)).length = (a + b) / 2 - t := by rw [List.length_take]; omega
      have lv2 : (v.drop ((a + b) / 2 - t)).length = b - ((a + b) / 2 + m - t) := by rw [List.length_drop]; omega
      have su1 : Sd c (u.take (t - a)) := List.Pairwise.sublist (List.take_sublist _ _) su
      have su2 : Sd c (u.drop (t - a)) := List.Pairwise.sublist (List.drop_sublist _ _) su
      have sv1 : Sd c (v.take ((a + b) / 2 - t)) := List.Pairwise.sublist (List.take_sublist _ _) sv
      have sv2 : Sd c (v.drop ((a + b) / 2 - t)) := List.Pairwise.sublist (List.drop_sublist _ _) sv
      have ou1 : ∀ q, q ∈ u.take (t - a) → Ok q := fun q hq => ou q (List.mem_of_mem_take hq)
      have ou2 : ∀ q, q ∈ u.drop (t - a) → Ok q := fun q hq => ou q (List.mem_of_mem_drop hq)
      have ov1 : ∀ q, q ∈ v.take ((a + b) / 2 - t) → Ok q := fun q hq => ov q (List.mem_of_mem_take hq)
      have ov2 : ∀ q, q ∈ v.drop ((a + b) / 2 - t) → Ok q := fun q hq => ov q (List.mem_of_mem_drop hq)
      have eu : u = u.take (t - a) ++ u.drop (t - a) := (List.take_append_drop _ _).symm
      have ev : v = v.take ((a + b) / 2 - t) ++ v.drop ((a + b) / 2 - t) := (List.take_append_drop _ _).symm
      have hcs : ∀ i, i < N → CallsF P G f [encQ ((p ++ (u ++ (v ++ s))).getD ((a + b) / 2 + m - 1 - ((AB i).1 + (AB i).2) / 2) default), encQ ((p ++ (u ++ (v ++ s))).getD (((AB i).1 + (AB i).2) / 2) default)] (int (c ((p ++ (u ++ (v ++ s))).getD ((a + b) / 2 + m - 1 - ((AB i).1 + (AB i).2) / 2) default) ((p ++ (u ++ (v ++ s))).getD (((AB i).1 + (AB i).2) / 2) default))) := fun i hi => by
        have h1 := b1 i hi; have h2 := b3 i (by omega)
        refine hc _ _ ?_ ?_
        · rw [gv _ (by omega) (by omega)]; exact ov _ (getD_mem (by omega))
        · rw [gu _ (by omega) (by omega)]; exact ou _ (getD_mem (by omega))
      generalize u.take (t - a) = u1 at *
      generalize u.drop (t - a) = u2 at *
      generalize v.take ((a + b) / 2 - t) = v1 at *
      generalize v.drop ((a + b) / 2 - t) = v2 at *
      have eL : p ++ (u ++ (v ++ s)) = p ++ (u1 ++ (u2 ++ (v1 ++ (v2 ++ s)))) := by rw [eu, ev]; simp only [List.append_assoc]
      have eM : p ++ (mrg c u v ++ s) = p ++ (mrg c u1 v1 ++ (mrg c u2 v2 ++ s)) := by rw [e]; simp only [List.append_assoc]
      have mm := mrg_length c u1 v1
      have tot : p.length + (u1.length + (u2.length + (v1.length + (v2.length + s.length)))) ≤ 1000000 := by
        have h := congrArg List.length eL
        rw [h] at hn
        simpa only [List.length_append] using hn
      have tot2 : p.length + (u1.length + (v1.length + (u2.length + (v2.length + s.length)))) ≤ 1000000 := by rw [Nat.add_left_comm v1.length u2.length]; exact tot
      have c1 : (AB N).1 < m → (AB N).1 < (a + b) / 2 → CallsW P G 60 42 8 (cellsPs (p ++ (u ++ (v ++ s)))) [int (((AB N).1 : Nat) : Int), int (m : Int), int (((a + b) / 2 + m - (AB N).1 : Nat) : Int), .fn f [] []] (cellsPs (p ++ (u1 ++ (v1 ++ (u2 ++ (v2 ++ s)))))) (some (.tup [])) := fun h1 h2 => by
        have r := rotate_ok f (AB N).1 m ((a + b) / 2 + m - (AB N).1) (p ++ u1) u2 v1 (v2 ++ s) (by omega) (by omega) (by rw [List.length_append]; omega) (by rw [List.length_append]; omega) (by rw [List.length_append]; omega) (by simpa only [List.length_append, Nat.add_assoc] using tot)
        simp only [List.append_assoc] at r
        rw [eL]; exact r
      have c2 : a < (AB N).1 → (AB N).1 < (a + b) / 2 → CallsW P G 49 42 8 (cellsPs (p ++ (u1 ++ (v1 ++ (u2 ++ (v2 ++ s)))))) [int (a : Int), int (((AB N).1 : Nat) : Int), int (((a + b) / 2 : Nat) : Int), .fn f [] []] (cellsPs (p ++ (mrg c u1 v1 ++ (u2 ++ (v2 ++ s))))) (some (.tup [])) := fun h1 h2 =>
        sym_ok H hc d a (AB N).1 ((a + b) / 2) p u1 v1 (u2 ++ (v2 ++ s)) (by omega) (by omega) (by omega) ha (by omega) (by omega) (by simpa only [List.length_append, Nat.add_assoc] using tot2) su1 sv1 ou1 ov1
      have c3 : (AB N).1 < m → (a + b) / 2 + m - (AB N).1 < b → CallsW P G 49 42 8 (cellsPs (p ++ (mrg c u1 v1 ++ (u2 ++ (v2 ++ s))))) [int (((a + b) / 2 : Nat) : Int), int (((a + b) / 2 + m - (AB N).1 : Nat) : Int), int (b : Int), .fn f [] []] (cellsPs (p ++ (mrg c u1 v1 ++ (mrg c u2 v2 ++ s)))) (some (.tup [])) := fun h1 h2 => by
        have r := sym_ok H hc d ((a + b) / 2) ((a + b) / 2 + m - (AB N).1) b (p ++ mrg c u1 v1) u2 v2 s (by omega) (by omega) (by omega) (by rw [List.length_append]; omega) (by omega) (by omega) (by simpa only [List.length_append, mm, Nat.add_assoc] using tot2) su2 sv2 ou2 ov2
        simp only [List.append_assoc] at r
        exact r
      have n1 : ¬ ((AB N).1 < m ∧ (AB N).1 < (a + b) / 2) → p ++ (u1 ++ (v1 ++ (u2 ++ (v2 ++ s)))) = p ++ (u ++ (v ++ s)) := fun h => by
        rw [eL]
        rcases Nat.lt_or_ge (AB N).1 m with h1 | h1
        · obtain rfl : v1 = [] := List.eq_nil_of_length_eq_zero (by omega)
          simp
        · obtain rfl : u2 = [] := List.eq_nil_of_length_eq_zero (by omega)
          simp
      have n2 : ¬ (a < (AB N).1 ∧ (AB N).1 < (a + b) / 2) → p ++ (mrg c u1 v1 ++ (u2 ++ (v2 ++ s))) = p ++ (u1 ++ (v1 ++ (u2 ++ (v2 ++ s)))) := fun h => by
        rcases Nat.lt_or_ge a (AB N).1 with h1 | h1
        · obtain rfl : v1 = [] := List.eq_nil_of_length_eq_zero (by omega)
          rw [mrg_nil]; simp
        · obtain rfl : u1 = [] := List.eq_nil_of_length_eq_zero (by omega)
          rw [nil_mrg]; simp
      have n3 : ¬ ((AB N).1 < m ∧ (a + b) / 2 + m - (AB N).1 < b) → p ++ (mrg c u1 v1 ++ (mrg c u2 v2 ++ s)) = p ++ (mrg c u1 v1 ++ (u2 ++ (v2 ++ s))) := fun h => by
        rcases Nat.lt_or_ge (AB N).1 m with h1 | h1
        · obtain rfl : v2 = [] := List.eq_nil_of_length_eq_zero (by omega)
          rw [mrg_nil]; simp
        · obtain rfl : u2 = [] := List.eq_nil_of_length_eq_zero (by omega)
          rw [nil_mrg]; simp
      have hs : ∀ i, i < N → (¬ c ((p ++ (u ++ (v ++ s))).getD ((a + b) / 2 + m - 1 - ((AB i).1 + (AB i).2) / 2) default) ((p ++ (u ++ (v ++ s))).getD (((AB i).1 + (AB i).2) / 2) default) < 0 → (AB (i + 1)).1 = ((AB i).1 + (AB i).2) / 2 + 1 ∧ (AB (i + 1)).2 = (AB i).2) ∧ (c ((p ++ (u ++ (v ++ s))).getD ((a + b) / 2 + m - 1 - ((AB i).1 + (AB i).2) / 2) default) ((p ++ (u ++ (v ++ s))).getD (((AB i).1 + (AB i).2) / 2) default) < 0 → (AB (i + 1)).1 = (AB i).1 ∧ (AB (i + 1)).2 = ((AB i).1 + (AB i).2) / 2) := fun i hi => ⟨fun h => (bst i).1 (decide_eq_true h), fun h => (bst i).2 (decide_eq_false (by omega))⟩
      rw [eM]
      rcases cond with ⟨hx, hlo, hhi⟩ | ⟨hx, hlo, hhi⟩
      · exact sym_twoX f a m b _ N lo hi _ _ _ _ (fun i => (AB i).1) (fun i => (AB i).2) _ g1 g2 g3 rfl hn hx hlo hhi hA0 hB0 b3 b1 b2 hcs hs c1 n1 c2 n2 c3 n3
      · exact sym_twoY f a m b _ N lo hi _ _ _ _ (fun i => (AB i).1) (fun i => (AB i).2) _ g1 g2 g3 rfl hn hx hlo hhi hA0 hB0 b3 b1 b2 hcs hs c1 n1 c2 n2 c3 n3
    by_cases hx : (a + b) / 2 < m
    · exact T _ _ (.inl ⟨hx, rfl, rfl⟩)
    · exact T _ _ (.inr ⟨by omega, rfl, rfl⟩)
end
end Go.Sx
set_option maxRecDepth 100000
set_option maxHeartbeats 4000000
set_option linter.unusedSimpArgs false
set_option linter.unusedVariables false
namespace Go.Sx
open Go.Proofs Sp
open Sp.Sy
section
variable {f : Nat} {Ok : V × V → Prop} {c : V × V → V × V → Int}
theorem stable_ok (H : Pre c) (hc : Tells f Ok c) (l : List (V × V)) (hn : l.length ≤ 1000000) (ho : ∀ q, q ∈ l → Ok q) :
    CallsW P G 34 42 8 (cellsPs l) [int (l.length : Int), .fn f [] []] (cellsPs (srt c l)) (some (.tup [])) := by
  obtain ⟨n, hl⟩ : ∃ n, n = l.length := ⟨_, rfl⟩
  obtain ⟨K, k1, k2⟩ := exists_least (fun k => n ≤ 20 * 2 ^ k) ⟨n, by have := @Nat.lt_two_pow_self n; omega⟩
  have hpos : ∀ j : Nat, 0 < 2 ^ j := fun j => Nat.two_pow_pos j
  have kS : ∀ j, j < K → 20 * 2 ^ j < n := fun j hj => by
    rcases Nat.lt_or_ge (20 * 2 ^ j) n with h | h
    · exact h
    · have := k2 j h; omega
  have oa : ∀ (s k : Nat) q, q ∈ srt c ((l.drop k).take s) → Ok q := fun s k q hq => ho q (List.mem_of_mem_drop (List.mem_of_mem_take ((srt_mem c _ _).1 hq)))
  have R0 : ∀ i, (l.drop (20 * i)) = (l.drop (20 * i)).take 20 ++ l.drop (20 * (i + 1)) := fun i => by
    rw [Nat.mul_succ, ← List.drop_drop, List.take_append_drop]
  have hM : ∀ s, 0 < s → s * (n / s) ≤ n ∧ n < s * (n / s) + s := fun s hs => ⟨Nat.mul_div_le n s, by have := Nat.lt_mul_div_succ n hs; rwa [Nat.mul_add, Nat.mul_one] at this⟩
  have eK : srt c l = pas c (20 * 2 ^ K) l := (pas_one c l (by have := hpos K; omega) (by omega)).symm
  rw [eK]
  have h20 := hM 20 (by omega)
  have fl : ∀ s i, s * i ≤ n → (frn c s i l).length = s * i := fun s i h => frn_length c s i l (by omega)
  have row1 : l = frn c 20 0 l ++ l.drop (20 * 0) := by simp [frn]
  have key := stable_run f n (n / 20) K (fun j => 20 * 2 ^ j) (fun j => n / (2 * (20 * 2 ^ j))) (fun j i => 2 * (20 * 2 ^ j) * i) (frn c 20 0 l ++ l.drop (20 * 0)) (fun i => frn c 20 i l ++ l.drop (20 * i)) (fun j => pas c (20 * 2 ^ j) l) (fun j i => mix c (20 * 2 ^ j) i l) (by omega) (by omega) (by omega) rfl
    (fun i hi => ?_) ?_ rfl (fun j _ => by rw [Nat.pow_succ]; omega) kS (fun j hj => by have := kS j hj; omega) k1 (fun j _ => by omega) (fun j i _ _ => Nat.mul_succ _ _) (fun j i hj hi => ?_) (fun j hj => hM _ (by have := hpos j; omega)) (fun j _ => mix_zero c _ l) (fun j i hj hi => ?_) (fun j hj h => ?_) (fun j hj h => ?_)
  · rw [← row1, hl] at key
    exact key
  · have h1 : 20 * i + 20 ≤ n := by omega
    have r := insort_ok H hc (20 * i) (20 * i + 20) (frn c 20 i l) ((l.drop (20 * i)).take 20) (l.drop (20 * (i + 1))) (by rw [fl]; omega) (by rw [fl _ _ (by omega), List.length_take, List.length_drop]; omega) (by rw [← R0, List.length_append, fl _ _ (by omega), List.length_drop]; omega) (fun q hq => ho q (List.mem_of_mem_drop (List.mem_of_mem_take hq)))
    rw [← R0, ← List.append_assoc, ← frn_snoc] at r
    exact r
  · have r := insort_ok H hc (20 * (n / 20)) n (frn c 20 (n / 20) l) (l.drop (20 * (n / 20))) [] (by rw [fl]; omega) (by rw [fl _ _ (by omega), List.length_drop]; omega) (by rw [List.append_nil, List.length_append, fl _ _ (by omega), List.length_drop]; omega) (fun q hq => ho q (List.mem_of_mem_drop hq))
    have e : pas c (20 * 2 ^ 0) l = frn c 20 (n / 20) l ++ (srt c (l.drop (20 * (n / 20))) ++ []) := by
      rw [show 20 * 2 ^ 0 = 20 from rfl, pas_eq c l (n / 20 + 1) (by omega) (by omega), frn_snoc, List.take_of_length_le (by rw [List.length_drop]; omega), List.append_nil]
    rw [e]
    rw [List.append_nil] at r
    exact r
  · have hs := hpos j
    have h1 : 2 * (20 * 2 ^ j) * (i + 1) ≤ 2 * (20 * 2 ^ j) * (n / (2 * (20 * 2 ^ j))) := Nat.mul_le_mul_left _ hi
    have h2 := (hM (2 * (20 * 2 ^ j)) (by omega)).1
    rw [Nat.mul_succ] at h1
    exact Nat.le_trans h1 h2
  · have hs := hpos j
    have h1 : 2 * (20 * 2 ^ j) * (i + 1) ≤ 2 * (20 * 2 ^ j) * (n / (2 * (20 * 2 ^ j))) := Nat.mul_le_mul_left _ hi
    have h2 := (hM (2 * (20 * 2 ^ j)) (by omega)).1
    have lu := fl (2 * (20 * 2 ^ j)) i (by rw [Nat.mul_succ] at h1; omega)
    have ln := (mix_now c i l (s := 20 * 2 ^ j) (by omega))
    have lm : (mix c (20 * 2 ^ j) i l).length = n := by
      rw [mix, List.length_append, lu, pas_length c (by omega) _ _ (Nat.le_refl _), List.length_drop]; rw [Nat.mul_succ] at h1; omega
    rw [ln] at lm
    rw [ln, mix_next H]
    rw [Nat.mul_succ] at h1
    generalize 2 * (20 * 2 ^ j) * i = X at *
    generalize 2 * (20 * 2 ^ j) * (i + 1) = X' at *
    refine sym_ok H hc _ _ _ _ _ _ _ _ (Nat.le_refl _) ?_ ?_ lu.symm ?_ ?_ (by omega) (srt_sd H _) (srt_sd H _) (oa _ _) (oa _ _)
    all_goals simp only [srt_length, List.length_take, List.length_drop]; omega
  · have hs := hpos j
    have h2 := hM (2 * (20 * 2 ^ j)) (by omega)
    have lu := fl (2 * (20 * 2 ^ j)) _ h2.1
    have ln := (mix_now c (n / (2 * (20 * 2 ^ j))) l (s := 20 * 2 ^ j) (by omega))
    have lm : (mix c (20 * 2 ^ j) (n / (2 * (20 * 2 ^ j))) l).length = n := by
      rw [mix, List.length_append, lu, pas_length c (by omega) _ _ (Nat.le_refl _), List.length_drop]; omega
    have l2 := mix_two H (n / (2 * (20 * 2 ^ j))) l (s := 20 * 2 ^ j) (by omega) (by rw [Nat.mul_succ]; omega)
    rw [show 20 * 2 ^ (j + 1) = 2 * (20 * 2 ^ j) by rw [Nat.pow_succ]; omega, ← l2]
    rw [show l.drop (2 * (20 * 2 ^ j) * (n / (2 * (20 * 2 ^ j)) + 1)) = [] from List.drop_eq_nil_of_le (by rw [Nat.mul_succ]; omega), show pas c (20 * 2 ^ j) [] = [] from rfl] at ln
    rw [ln] at lm
    rw [ln]
    generalize 2 * (20 * 2 ^ j) * (n / (2 * (20 * 2 ^ j))) = X at *
    refine sym_ok H hc _ _ _ _ _ _ _ _ (Nat.le_refl _) ?_ ?_ lu.symm ?_ ?_ (by omega) (srt_sd H _) (srt_sd H _) (oa _ _) (oa _ _)
    all_goals simp only [srt_length, List.length_take, List.length_drop]; omega
  · have hs := hpos j
    have h2 := hM (2 * (20 * 2 ^ j)) (by omega)
    rw [show 20 * 2 ^ (j + 1) = 2 * (20 * 2 ^ j) by rw [Nat.pow_succ]; omega]
    exact mix_last _ l (by omega) (by omega)
theorem sortst_ok (H : Pre c) (hc : Tells f Ok c) (l : List (V × V)) (hn : l.length ≤ 1000000) (ho : ∀ q, q ∈ l → Ok q) :
    CallsW P G 14 42 8 (cellsPs l) [.fn f [] []] (cellsPs (srt c l)) (some (.tup [])) := sortst_run f l.length l _ rfl (stable_ok H hc l hn ho)
end
end Go.Sx

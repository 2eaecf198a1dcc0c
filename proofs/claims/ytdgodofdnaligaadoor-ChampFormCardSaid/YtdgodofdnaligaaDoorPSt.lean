/-
  Proved: what some functions of the program answer, or a law of the evaluator that shows it, one theorem each; its conditions are the hypotheses that stand ahead of it.
-/
import Derived.Test.YtdgodofdnaligaaDoorPRL
set_option linter.unusedVariables false
set_option linter.unusedSimpArgs false
namespace Sp
/-- Pairs that stand sorted, no key twice. -/
def Rising (c : V → V → Int) (l : List (V × V)) : Prop := l.Pairwise fun p q => c p.1 q.1 < 0
theorem rising_mid {c : V → V → Int} {a b : List (V × V)} {p : V × V} : Rising c (a ++ p :: b) ↔ Rising c a ∧ Rising c b ∧ (∀ q, q ∈ a → c q.1 p.1 < 0) ∧ (∀ q, q ∈ b → c p.1 q.1 < 0) ∧ (∀ x, x ∈ a → ∀ y, y ∈ b → c x.1 y.1 < 0) := by
  unfold Rising
  rw [List.pairwise_append, List.pairwise_cons]
  constructor
  · rintro ⟨h1, ⟨h2, h3⟩, h4⟩
    exact ⟨h1, h3, fun q hq => h4 q hq p (.head _), h2, fun x hx y hy => h4 x hx y (.tail _ hy)⟩
  · rintro ⟨h1, h3, h4, h2, h5⟩
    refine ⟨h1, ⟨h2, h3⟩, fun x hx y hy => ?_⟩
    rcases List.mem_cons.1 hy with rfl | hy
    · exact h4 x hx
    · exact h5 x hx y hy
namespace T
end T
/-- The place at which a question begins to hold. -/
def Place (p : Nat → Bool) (n r : Nat) : Prop := r ≤ n ∧ (∀ j, j < r → p j = false) ∧ (∀ j, r ≤ j → j < n → p j = true)
theorem Place.uniq {p : Nat → Bool} {n r s : Nat} (h : Place p n r) (h' : Place p n s) : r = s := by
  rcases Nat.lt_trichotomy r s with h1 | h1 | h1
  · have := h'.2.1 r h1; have := h.2.2 r (Nat.le_refl _) (Nat.lt_of_lt_of_le h1 h'.1); simp_all
  · exact h1
  · have := h.2.1 s h1; have := h'.2.2 s (Nat.le_refl _) (Nat.lt_of_lt_of_le h1 h.1); simp_all
/-- How many keys stand ahead of one, and how many do not stand behind it. -/
def aheadN (c : V → V → Int) (k : V) (l : List (V × V)) : Nat := (l.takeWhile fun q => decide (c q.1 k < 0)).length
def uptoN (c : V → V → Int) (k : V) (l : List (V × V)) : Nat := (l.takeWhile fun q => decide (c q.1 k ≤ 0)).length
theorem takeWhile_place {α : Type} [Inhabited α] (g : α → Bool) : ∀ (l : List α), l.Pairwise (fun x y => g y = true → g x = true) → Place (fun i => !(g (l.getD i default))) l.length (l.takeWhile g).length
  | [], _ => ⟨by simp, by simp, by simp⟩
  | x :: l, h => by
    obtain ⟨h1, h2⟩ := List.pairwise_cons.1 h
    obtain ⟨i1, i2, i3⟩ := takeWhile_place g l h2
    rw [List.takeWhile_cons]
    by_cases hx : g x = true
    · rw [if_pos hx]
      refine ⟨by simpa using i1, fun j hj => ?_, fun j hj hj2 => ?_⟩
      · cases j with
        | zero => simp [hx]
        | succ j => simpa using i2 j (by simpa using hj)
      · cases j with
        | zero => simp at hj
        | succ j => simpa using i3 j (by simpa using hj) (by simpa using hj2)
    · rw [if_neg hx]
      refine ⟨by simp, by simp, fun j hj hj2 => ?_⟩
      cases j with
      | zero => simp [hx]
      | succ j =>
        simp only [List.length_cons] at hj2
        have hm : l.getD j default ∈ l := by rw [List.getD_eq_getElem?_getD, List.getElem?_eq_getElem (by omega)]; exact List.getElem_mem (by omega)
        have := h1 _ hm
        simp only [List.getD_cons_succ]
        cases hg : g (l.getD j default) with
        | false => rfl
        | true => exact absurd (this hg) hx
theorem ahead_place {c : V → V → Int} (H : Line c (fun _ => True)) (k : V) {l : List (V × V)} (h : Rising c l) : Place (fun i => decide (0 ≤ c (l.getD i default).1 k)) l.length (aheadN c k l) := by
  have h1 := takeWhile_place (fun q : V × V => decide (c q.1 k < 0)) l (h.imp fun {x y} hxy hy => by
    simp only [decide_eq_true_eq] at hy ⊢
    exact H.lt_trans trivial trivial trivial hxy hy)
  have e : (fun i => decide (0 ≤ c (l.getD i default).1 k)) = fun i => !(decide (c (l.getD i default).1 k < 0)) := by
    funext i; rw [Bool.eq_iff_iff]; simp
  rw [e]; exact h1
theorem upto_place {c : V → V → Int} (H : Line c (fun _ => True)) (k : V) {l : List (V × V)} (h : Rising c l) : Place (fun i => decide (0 < c (l.getD i default).1 k)) l.length (uptoN c k l) := by
  have h1 := takeWhile_place (fun q : V × V => decide (c q.1 k ≤ 0)) l (h.imp fun {x y} hxy hy => by
    simp only [decide_eq_true_eq] at hy ⊢
    exact Int.le_of_lt (H.lt_of_lt_of_le trivial trivial trivial hxy hy))
  have e : (fun i => decide (0 < c (l.getD i default).1 k)) = fun i => !(decide (c (l.getD i default).1 k ≤ 0)) := by
    funext i; rw [Bool.eq_iff_iff]; simp
  rw [e]; exact h1
theorem rising_get {c : V → V → Int} {l : List (V × V)} (h : Rising c l) {i j : Nat} (hij : i < j) (hj : j < l.length) : c (l.getD i default).1 (l.getD j default).1 < 0 := by
  have := List.pairwise_iff_getElem.1 h i j (by omega) hj hij
  simpa [List.getD_eq_getElem?_getD, List.getElem?_eq_getElem hj, List.getElem?_eq_getElem (show i < l.length by omega)] using this
/-- At most one key is one. -/
theorem upto_ahead {c : V → V → Int} (H : Line c (fun _ => True)) (k : V) {l : List (V × V)} (h : Rising c l) : aheadN c k l ≤ uptoN c k l ∧ uptoN c k l ≤ aheadN c k l + 1 := by
  obtain ⟨a1, a2, a3⟩ := ahead_place H k h
  obtain ⟨u1, u2, u3⟩ := upto_place H k h
  constructor
  · refine Nat.le_of_not_lt fun h1 => ?_
    have h2 := a2 _ h1
    have h3 := u3 _ (Nat.le_refl _) (by omega)
    simp only [decide_eq_true_eq, decide_eq_false_iff_not] at h2 h3; omega
  · refine Nat.le_of_not_lt fun h1 => ?_
    have h2 := u2 (aheadN c k l + 1) h1
    have h3 := a3 (aheadN c k l) (Nat.le_refl _) (by omega)
    have h4 := rising_get h (show aheadN c k l < aheadN c k l + 1 by omega) (by omega)
    simp only [decide_eq_true_eq, decide_eq_false_iff_not] at h2 h3
    have := H.turn k (l.getD (aheadN c k l) default).1 trivial trivial
    have := H.turn k (l.getD (aheadN c k l + 1) default).1 trivial trivial
    have h5 := H.lt_of_le_of_lt trivial trivial trivial (show c k (l.getD (aheadN c k l) default).1 ≤ 0 by omega) h4
    omega
end Sp
set_option linter.unusedVariables false
set_option linter.unusedSimpArgs false
namespace Sp
namespace Ch
/-- Trie order of keys, from a depth on: f depths are left. -/
def tcp (H : V → Nat) : Nat → V → V → Int
  | 0, a, b => cmpV a b
  | f + 1, a, b => if plh (6 - f) (H a) < plh (6 - f) (H b) then -1 else if plh (6 - f) (H b) < plh (6 - f) (H a) then 1 else tcp H f a b
theorem tcp_line (H : V → Nat) : ∀ f, Line (tcp H f) (fun _ => True)
  | 0 => cmpV_line
  | f + 1 => by
    have ih := tcp_line H f
    refine ⟨fun a b _ _ => ?_, fun a b _ _ => ?_, fun a b d _ _ _ h1 h2 => ?_⟩
    · have := ih.three a b trivial trivial
      simp only [tcp]; split
      · exact .inl rfl
      · split
        · exact .inr (.inr rfl)
        · exact this
    · have := ih.turn a b trivial trivial
      simp only [tcp]
      rcases Nat.lt_trichotomy (plh (6 - f) (H a)) (plh (6 - f) (H b)) with h | h | h
      · rw [if_neg (by omega), if_pos h, if_pos h]; rfl
      · rw [if_neg (by omega), if_neg (by omega), if_neg (by omega), if_neg (by omega)]; exact this
      · rw [if_pos h, if_neg (by omega), if_pos h]
    · have := ih.le_trans a b d trivial trivial trivial
      simp only [tcp] at h1 h2 ⊢
      rcases Nat.lt_trichotomy (plh (6 - f) (H a)) (plh (6 - f) (H b)) with h | h | h
      · rcases Nat.lt_trichotomy (plh (6 - f) (H b)) (plh (6 - f) (H d)) with k | k | k
        · rw [if_pos (by omega)]; omega
        · rw [if_pos (by omega)]; omega
        · rw [if_neg (by omega), if_pos k] at h2; omega
      · rcases Nat.lt_trichotomy (plh (6 - f) (H b)) (plh (6 - f) (H d)) with k | k | k
        · rw [if_pos (by omega)]; omega
        · rw [if_neg (by omega), if_neg (by omega)] at h1 h2 ⊢; exact this h1 h2
        · rw [if_neg (by omega), if_pos k] at h2; omega
      · rw [if_neg (by omega), if_pos h] at h1; omega
/-- Where all that is below is alike in the places of a depth, that depth says nothing. -/
theorem tcp_below (H : V → Nat) (f : Nat) (a b : V) (h : plh (6 - f) (H a) = plh (6 - f) (H b)) : tcp H (f + 1) a b = tcp H f a b := by
  simp only [tcp]; rw [h, if_neg (by omega), if_neg (by omega)]
/-- A list sorted. -/
def srtL (c : V → V → Int) (L : List (V × V)) : List (V × V) := Sy.srt (fun p q => c p.1 q.1) L
theorem line_pre {c : V → V → Int} (h : Line c (fun _ => True)) : Sy.Pre (fun p q : V × V => c p.1 q.1) where
  asym x y hx := by have := h.turn x.1 y.1 trivial trivial; omega
  trans x y z h1 h2 := by
    have t1 := h.turn x.1 y.1 trivial trivial
    have t2 := h.turn y.1 z.1 trivial trivial
    have t3 := h.turn x.1 z.1 trivial trivial
    have := h.le_trans x.1 y.1 z.1 trivial trivial trivial (by omega) (by omega)
    omega
theorem srtL_perm (c : V → V → Int) (L : List (V × V)) : (srtL c L).Perm L := Sy.srt_perm _ L
theorem srtL_rising {c : V → V → Int} (h : Line c (fun _ => True)) (hz : ∀ a b, c a b = 0 → cmpV a b = 0) {L : List (V × V)} (hd : Dk L) : Rising c (srtL c L) := by
  have h1 := Sy.srt_sd (line_pre h) L
  have hd' : Dk (srtL c L) := by
    refine List.Perm.pairwise (srtL_perm c L).symm hd fun {x y} hxy => ?_
    have := cmpV_line.turn x.1 y.1 trivial trivial; omega
  refine List.Pairwise.imp₂ (fun x y a b => ?_) h1 hd'
  have t := h.turn x.1 y.1 trivial trivial
  have : c x.1 y.1 ≠ 0 := fun e => b (hz _ _ e)
  have a' : 0 ≤ c y.1 x.1 := a
  omega
/-- Rising lists of the same members are one. -/
theorem rising_perm {c : V → V → Int} (h : Line c (fun _ => True)) {L M : List (V × V)} (hp : L.Perm M) (h1 : Rising c L) (h2 : Rising c M) : L = M := by
  refine List.Perm.eq_of_pairwise (le := fun p q : V × V => c p.1 q.1 < 0) (fun a b _ _ q1 q2 => ?_) h1 h2 hp
  have := h.turn a.1 b.1 trivial trivial; omega
/-- All members in trie order. -/
def tor (H : V → Nat) : Nat → List (V × V) → List (V × V)
  | 0, L => srtL cmpV L
  | f + 1, L => (List.range 32).flatMap fun p => let c := cls H (6 - f) p L; if c.length ≤ 1 then c else tor H f c
theorem classes_perm (H : V → Nat) (d : Nat) (L : List (V × V)) : ((List.range 32).flatMap fun p => cls H d p L).Perm L := by
  have main : ∀ n, ((List.range n).flatMap fun p => cls H d p L).Perm (L.filter fun x => decide (pl H d x < n)) := by
    intro n
    induction n with
    | zero => simp
    | succ n ih =>
      rw [List.range_succ, List.flatMap_append]
      simp only [List.flatMap_cons, List.flatMap_nil, List.append_nil]
      have e : (L.filter fun x => decide (pl H d x < n + 1)).Perm ((L.filter fun x => decide (pl H d x < n)) ++ cls H d n L) := by
        clear ih
        induction L with
        | nil => simp [cls]
        | cons x L ihL =>
          unfold cls at ihL ⊢
          rw [List.filter_cons, List.filter_cons, List.filter_cons]
          rcases Nat.lt_trichotomy (pl H d x) n with h | h | h
          · rw [if_pos (by simp; omega), if_pos (by simp [h]), if_neg (by simp; omega)]
            exact ihL.cons x
          · rw [if_pos (by simp; omega), if_neg (by simp; omega), if_pos (by simp [h])]
            exact (ihL.cons x).trans List.perm_middle.symm
          · rw [if_neg (by simp; omega), if_neg (by simp; omega), if_neg (by simp; omega)]
            exact ihL
      exact (ih.append_right _).trans e.symm
  refine (main 32).trans ?_
  rw [List.filter_eq_self.2 fun x _ => by simpa using pl_lt H d x]
theorem flatMap_perm {α β : Type} {f g : α → List β} : ∀ (l : List α), (∀ x, x ∈ l → (f x).Perm (g x)) → (l.flatMap f).Perm (l.flatMap g)
  | [], _ => by simp
  | x :: l, h => by
    rw [List.flatMap_cons, List.flatMap_cons]
    exact (h x (by simp)).append (flatMap_perm l fun y hy => h y (by simp [hy]))
theorem tor_perm (H : V → Nat) : ∀ f L, (tor H f L).Perm L
  | 0, L => srtL_perm _ L
  | f + 1, L => by
    refine (flatMap_perm _ fun p _ => ?_).trans (classes_perm H (6 - f) L)
    simp only
    split
    · exact List.Perm.refl _
    · exact tor_perm H f _
theorem Dk.cls {H : V → Nat} {d p : Nat} {L : List (V × V)} (h : Dk L) : Dk (cls H d p L) := h.filter _
theorem tor_rising (H : V → Nat) : ∀ f L, Dk L → Rising (tcp H f) (tor H f L)
  | 0, L, h => srtL_rising cmpV_line (fun _ _ e => e) h
  | f + 1, L, h => by
    have hm : ∀ p q, q ∈ (let c := Ch.cls H (6 - f) p L; if c.length ≤ 1 then c else tor H f c) → pl H (6 - f) q = p := fun p q hq => by
      simp only at hq
      split at hq
      · exact (mem_cls H).1 hq |>.2
      · exact ((mem_cls H).1 ((tor_perm H f _).mem_iff.1 hq)).2
    have hr : ∀ p, Rising (tcp H (f + 1)) (let c := Ch.cls H (6 - f) p L; if c.length ≤ 1 then c else tor H f c) := fun p => by
      simp only
      split
      · rename_i hl
        match hc : Ch.cls H (6 - f) p L, hl with
        | [], _ => simp [Rising]
        | [x], _ => simp [Rising]
        | _ :: _ :: _, hl => simp [hc] at hl
      · rename_i hl
        refine List.Pairwise.imp_of_mem (fun {a b} ha hb hab => ?_) (tor_rising H f _ h.cls)
        have h1 := ((mem_cls H).1 ((tor_perm H f _).mem_iff.1 ha)).2
        have h2 := ((mem_cls H).1 ((tor_perm H f _).mem_iff.1 hb)).2
        rw [tcp_below H f _ _ (show plh (6 - f) (H a.1) = plh (6 - f) (H b.1) from h1.trans h2.symm)]; exact hab
    have main : ∀ n, Rising (tcp H (f + 1)) ((List.range n).flatMap fun p => let c := Ch.cls H (6 - f) p L; if c.length ≤ 1 then c else tor H f c) := by
      intro n
      induction n with
      | zero => simp [Rising]
      | succ n ih =>
        rw [List.range_succ, List.flatMap_append]
        simp only [List.flatMap_cons, List.flatMap_nil, List.append_nil]
        refine List.pairwise_append.2 ⟨ih, hr n, fun x hx y hy => ?_⟩
        obtain ⟨p, hp, hx⟩ := List.mem_flatMap.1 hx
        have h1 : plh (6 - f) (H x.1) = p := hm p x hx
        have h2 : plh (6 - f) (H y.1) = n := hm n y hy
        have h3 : p < n := by simpa using hp
        simp only [tcp]
        rw [if_pos (by omega)]; omega
    exact main 32
end Ch
end Sp
set_option linter.unusedVariables false
set_option linter.unusedSimpArgs false
namespace Sp
namespace Ch
theorem len_filter_split {α : Type} (p : α → Bool) : ∀ (l : List α), l.length = (l.filter p).length + (l.filter fun x => !p x).length
  | [] => rfl
  | x :: l => by
    have := len_filter_split p l
    cases h : p x <;> simp [h] <;> omega
/-- Keys alike have one hash. -/
def Hc (H : V → Nat) (k : V) (L : List (V × V)) : Prop := ∀ x, x ∈ L → sameK k x = true → H x.1 = H k
theorem Hc.cls {H : V → Nat} {k : V} {L : List (V × V)} (h : Hc H k L) (d p : Nat) : Hc H k (cls H d p L) := fun x hx => h x ((mem_cls H).1 hx).1
theorem same_cls {H : V → Nat} {k v : V} {L : List (V × V)} (h : Hc H k L) (d : Nat) : (L.filter (sameK k)).length = ((cls H d (pl H d (k, v)) L).filter (sameK k)).length := by
  unfold cls
  rw [List.filter_filter]
  congr 1
  refine List.filter_congr fun x hx => ?_
  cases hs : sameK k x with
  | false => simp
  | true => have := h x hx hs; simp [pl, this]
theorem put_len (e : V × V) (L : List (V × V)) : (put e L).length + (L.filter (sameK e.1)).length = L.length + 1 := by
  have := len_filter_split (sameK e.1) L
  simp only [put, List.length_cons]; omega
theorem cut_len (k : V) (L : List (V × V)) : (cut k L).length + (L.filter (sameK k)).length = L.length := by
  have := len_filter_split (sameK k) L
  simp only [cut]; omega
/-- How a class's growth is the whole's. -/
theorem put_grow {H : V → Nat} {e : V × V} {L : List (V × V)} (h : Hc H e.1 L) (d : Nat) : (put e L).length + (cls H d (pl H d e) L).length = L.length + (put e (cls H d (pl H d e) L)).length := by
  have h1 := put_len e L
  have h2 := put_len e (cls H d (pl H d e) L)
  have h3 := same_cls (v := e.2) h d
  have : (e.1, e.2) = e := rfl
  rw [this] at h3
  omega
theorem same_le {k : V} {L : List (V × V)} (h : Dk L) : (L.filter (sameK k)).length ≤ 1 := by
  have h' : Dk (L.filter (sameK k)) := h.filter _
  have hm : ∀ x, x ∈ L.filter (sameK k) → cmpV x.1 k = 0 := fun x hx => by have := (List.mem_filter.1 hx).2; simpa [sameK] using this
  match hc : L.filter (sameK k), h', hm with
  | [], _, _ => simp
  | [x], _, _ => simp
  | x :: y :: l, h', hm =>
    exfalso
    have h1 := (List.pairwise_cons.1 h').1 y (by simp)
    have a := hm x (by simp); have b := hm y (by simp)
    have t1 := cmpV_line.turn x.1 k trivial trivial
    have t2 := cmpV_line.turn y.1 k trivial trivial
    have t3 := cmpV_line.turn x.1 y.1 trivial trivial
    have l1 := cmpV_line.le_trans x.1 k y.1 trivial trivial trivial (by omega) (by omega)
    have l2 := cmpV_line.le_trans y.1 k x.1 trivial trivial trivial (by omega) (by omega)
    omega
theorem Dk.put {e : V × V} {L : List (V × V)} (h : Dk L) : Dk (put e L) := by
  refine List.pairwise_cons.2 ⟨fun x hx => ?_, h.filter _⟩
  have := (List.mem_filter.1 hx).2
  have t := cmpV_line.turn x.1 e.1 trivial trivial
  simp [sameK] at this
  omega
theorem Dk.cut {k : V} {L : List (V × V)} (h : Dk L) : Dk (cut k L) := h.filter _
/-- A class of one member. -/
theorem one_cls {c : List (V × V)} (h : c.length = 1) : ∃ m, c = [m] := List.length_eq_one_iff.1 h
theorem put_one_same {e m : V × V} (h : sameK e.1 m = true) : put e [m] = [e] := by simp [put, h]
theorem put_one_other {e m : V × V} (h : sameK e.1 m = false) : put e [m] = [e, m] := by simp [put, h]
theorem put_none (e : V × V) : put e [] = [e] := by simp [put]
theorem cls_perm (H : V → Nat) (d p : Nat) {L M : List (V × V)} (h : L.Perm M) : (cls H d p L).Perm (cls H d p M) := h.filter _
theorem one1_perm {c c' : List (V × V)} (h : c.Perm c') : one1 c = one1 c' := by
  unfold one1
  rw [h.length_eq]
  split
  · rename_i h1
    obtain ⟨m, rfl⟩ := one_cls h1
    exact List.perm_singleton.1 h
  · rfl
end Ch
end Sp
set_option linter.unusedVariables false
set_option linter.unusedSimpArgs false
namespace Sp
theorem ahead_len {c : V → V → Int} {k : V} {a b : List (V × V)} (ha : ∀ q, q ∈ a → c q.1 k < 0) (hb : ∀ q, q ∈ b → 0 ≤ c q.1 k) : aheadN c k (a ++ b) = a.length := by
  unfold aheadN
  rw [List.takeWhile_append_of_pos (by intro q hq; simpa using ha q hq)]
  cases b with
  | nil => simp
  | cons q b =>
    rw [List.takeWhile_cons, if_neg (by have := hb q (by simp); simp; omega)]
    simp
namespace T
end T
end Sp

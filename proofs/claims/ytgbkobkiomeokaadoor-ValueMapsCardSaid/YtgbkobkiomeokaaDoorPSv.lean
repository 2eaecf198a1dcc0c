/-
  Proved: what some functions of the program answer, or a law of the evaluator that shows it, one theorem each; its conditions are the hypotheses that stand ahead of it.
-/
set_option linter.unusedVariables false
set_option linter.unusedSimpArgs false
namespace Sp
namespace Sy
/-- What may serve a stable sort: x may stand ahead of y just if c y x is not less than 0. -/
structure Pre {α : Type} (c : α → α → Int) : Prop where
  asym : ∀ x y, c x y < 0 → 0 ≤ c y x
  trans : ∀ x y z, 0 ≤ c y x → 0 ≤ c z y → 0 ≤ c z x
/-- Two lists put together; of two of which neither is ahead the first list's one goes first. -/
def mrg {α : Type} (c : α → α → Int) : List α → List α → List α
  | [], b => b
  | x :: a, [] => x :: a
  | x :: a, y :: b => if c y x < 0 then y :: mrg c (x :: a) b else x :: mrg c a (y :: b)
termination_by a b => a.length + b.length
theorem mrg_nil {α : Type} (c : α → α → Int) (a : List α) : mrg c a [] = a := by cases a <;> simp [mrg]
theorem nil_mrg {α : Type} (c : α → α → Int) (a : List α) : mrg c [] a = a := by simp [mrg]
theorem mrg_lt {α : Type} {c : α → α → Int} {x y : α} (a b : List α) (h : c y x < 0) : mrg c (x :: a) (y :: b) = y :: mrg c (x :: a) b := by rw [mrg, if_pos h]
theorem mrg_ge {α : Type} {c : α → α → Int} {x y : α} (a b : List α) (h : ¬ c y x < 0) : mrg c (x :: a) (y :: b) = x :: mrg c a (y :: b) := by rw [mrg, if_neg h]
theorem mrg_perm {α : Type} (c : α → α → Int) : ∀ (a b : List α), (mrg c a b).Perm (a ++ b)
  | [], b => by simp [mrg]
  | x :: a, [] => by simp [mrg]
  | x :: a, y :: b => by
    by_cases h : c y x < 0
    · rw [mrg_lt _ _ h]
      refine ((mrg_perm c (x :: a) b).cons y).trans ?_
      exact (List.perm_middle (l₁ := x :: a) (a := y) (l₂ := b)).symm
    · rw [mrg_ge _ _ h]
      exact (mrg_perm c a (y :: b)).cons x
termination_by a b => a.length + b.length
theorem mrg_length {α : Type} (c : α → α → Int) (a b : List α) : (mrg c a b).length = a.length + b.length := by
  rw [(mrg_perm c a b).length_eq, List.length_append]
theorem mrg_mem {α : Type} (c : α → α → Int) (a b : List α) (x : α) : x ∈ mrg c a b ↔ x ∈ a ∨ x ∈ b := by
  rw [(mrg_perm c a b).mem_iff, List.mem_append]
theorem mrg_assoc {α : Type} {c : α → α → Int} (H : Pre c) : ∀ (a b d : List α), mrg c (mrg c a b) d = mrg c a (mrg c b d)
  | [], b, d => by simp only [nil_mrg]
  | x :: a, [], d => by simp only [mrg_nil, nil_mrg]
  | x :: a, y :: b, [] => by simp only [mrg_nil]
  | x :: a, y :: b, z :: d => by
    by_cases h1 : c y x < 0
    · by_cases h2 : c z y < 0
      · have h3 : c z x < 0 := by
          rcases Int.lt_or_le (c z x) 0 with h | h
          · exact h
          · have := H.trans x z y h (H.asym _ _ h2); omega
        rw [mrg_lt _ _ h1, mrg_lt _ _ h2, mrg_lt _ _ h2, mrg_lt _ _ h3]
        have := mrg_assoc H (x :: a) (y :: b) d
        rw [mrg_lt _ _ h1] at this
        rw [this]
      · rw [mrg_lt _ _ h1, mrg_ge _ _ h2, mrg_ge _ _ h2, mrg_lt _ _ h1, mrg_assoc H (x :: a) b (z :: d)]
    · by_cases h2 : c z x < 0
      · have h3 : c z y < 0 := by
          rcases Int.lt_or_le (c z y) 0 with h | h
          · exact h
          · have := H.trans x y z (by omega) h; omega
        rw [mrg_ge _ _ h1, mrg_lt _ _ h2, mrg_lt _ _ h3, mrg_lt _ _ h2]
        have := mrg_assoc H (x :: a) (y :: b) d
        rw [mrg_ge _ _ h1] at this
        rw [this]
      · by_cases h3 : c z y < 0
        · rw [mrg_ge _ _ h1, mrg_ge _ _ h2, mrg_lt _ _ h3, mrg_ge _ _ h2]
          have := mrg_assoc H a (y :: b) (z :: d)
          rw [mrg_lt _ _ h3] at this
          rw [this]
        · rw [mrg_ge _ _ h1, mrg_ge _ _ h2, mrg_ge _ _ h3, mrg_ge _ _ h1]
          have := mrg_assoc H a (y :: b) (z :: d)
          rw [mrg_ge _ _ h3] at this
          rw [this]
termination_by a b d => a.length + b.length + d.length
/-- A list sorted, those of which none is ahead in their order. -/
def srt {α : Type} (c : α → α → Int) (l : List α) : List α := l.foldr (fun x s => mrg c [x] s) []
theorem srt_one {α : Type} (c : α → α → Int) (x : α) : srt c [x] = [x] := by simp [srt, mrg]
theorem srt_append {α : Type} {c : α → α → Int} (H : Pre c) : ∀ (a b : List α), srt c (a ++ b) = mrg c (srt c a) (srt c b)
  | [], b => by simp [srt, nil_mrg]
  | x :: a, b => by
    show mrg c [x] (srt c (a ++ b)) = mrg c (mrg c [x] (srt c a)) (srt c b)
    rw [srt_append H a b, mrg_assoc H]
theorem srt_perm {α : Type} (c : α → α → Int) : ∀ (a : List α), (srt c a).Perm a
  | [] => by simp [srt]
  | x :: a => by
    show (mrg c [x] (srt c a)).Perm (x :: a)
    exact (mrg_perm c [x] (srt c a)).trans ((srt_perm c a).cons x)
theorem srt_length {α : Type} (c : α → α → Int) (a : List α) : (srt c a).length = a.length := (srt_perm c a).length_eq
theorem srt_mem {α : Type} (c : α → α → Int) (a : List α) (x : α) : x ∈ srt c a ↔ x ∈ a := (srt_perm c a).mem_iff
/-- None has one behind it that is ahead. -/
def Sd {α : Type} (c : α → α → Int) (l : List α) : Prop := l.Pairwise (fun x y => 0 ≤ c y x)
theorem mrg_sd {α : Type} {c : α → α → Int} (H : Pre c) : ∀ (a b : List α), Sd c a → Sd c b → Sd c (mrg c a b)
  | [], b, ha, hb => by simpa [mrg] using hb
  | x :: a, [], ha, hb => by simpa [mrg] using ha
  | x :: a, y :: b, ha, hb => by
    have ha' := List.pairwise_cons.1 ha; have hb' := List.pairwise_cons.1 hb
    by_cases h : c y x < 0
    · rw [mrg_lt _ _ h]
      refine List.pairwise_cons.2 ⟨fun z hz => ?_, mrg_sd H (x :: a) b ha hb'.2⟩
      rcases (mrg_mem c _ _ z).1 hz with hz | hz
      · rcases List.mem_cons.1 hz with rfl | hz
        · exact H.asym _ _ h
        · exact H.trans _ _ _ (H.asym _ _ h) (ha'.1 z hz)
      · exact hb'.1 z hz
    · rw [mrg_ge _ _ h]
      refine List.pairwise_cons.2 ⟨fun z hz => ?_, mrg_sd H a (y :: b) ha'.2 hb⟩
      rcases (mrg_mem c _ _ z).1 hz with hz | hz
      · exact ha'.1 z hz
      · rcases List.mem_cons.1 hz with rfl | hz
        · omega
        · exact H.trans _ _ _ (by omega) (hb'.1 z hz)
termination_by a b => a.length + b.length
theorem srt_sd {α : Type} {c : α → α → Int} (H : Pre c) : ∀ (a : List α), Sd c (srt c a)
  | [] => by simp [srt, Sd]
  | x :: a => mrg_sd H [x] (srt c a) (by simp [Sd]) (srt_sd H a)
/-- Where all that stand in the front pieces may stand ahead of all in the back pieces, the pieces are put together one by one. -/
theorem mrg_split {α : Type} {c : α → α → Int} : ∀ (a a' b b' : List α), (∀ x, x ∈ a → ∀ y, y ∈ b' → 0 ≤ c y x) → (∀ y, y ∈ b → ∀ x, x ∈ a' → c y x < 0) →
    mrg c (a ++ a') (b ++ b') = mrg c a b ++ mrg c a' b'
  | [], a', [], b', _, _ => by simp [nil_mrg]
  | x :: a, a', [], b', h1, h2 => by
    cases b' with
    | nil => simp [mrg_nil]
    | cons y b' =>
      have h := h1 x (by simp) y (by simp)
      have e := mrg_split a a' [] (y :: b') (fun x hx => h1 x (by simp [hx])) (by simp)
      simp only [List.nil_append, mrg_nil] at e
      simp only [List.nil_append, List.cons_append, mrg_nil]
      rw [mrg_ge _ _ (by omega), e]
  | [], a', y :: b, b', h1, h2 => by
    cases a' with
    | nil => simp [nil_mrg, mrg_nil]
    | cons x a' =>
      have h := h2 y (by simp) x (by simp)
      have e := mrg_split [] (x :: a') b b' (by simp) (fun y hy => h2 y (by simp [hy]))
      simp only [List.nil_append, nil_mrg] at e
      simp only [List.nil_append, List.cons_append, nil_mrg]
      rw [mrg_lt _ _ h, e]
  | x :: a, a', y :: b, b', h1, h2 => by
    simp only [List.cons_append]
    by_cases h : c y x < 0
    · have e := mrg_split (x :: a) a' b b' h1 (fun y hy => h2 y (by simp [hy]))
      simp only [List.cons_append] at e
      rw [mrg_lt _ _ h, mrg_lt _ _ h, e, List.cons_append]
    · have e := mrg_split a a' (y :: b) b' (fun x hx => h1 x (by simp [hx])) h2
      simp only [List.cons_append] at e
      rw [mrg_ge _ _ h, mrg_ge _ _ h, e, List.cons_append]
termination_by a a' b b' => a.length + b.length
theorem one_mrg {α : Type} {c : α → α → Int} (x : α) (b b' : List α) (h1 : ∀ y, y ∈ b → c y x < 0) (h2 : ∀ y, y ∈ b' → 0 ≤ c y x) : mrg c [x] (b ++ b') = b ++ x :: b' := by
  have e := mrg_split (c := c) [] [x] b b' (by simp) (fun y hy z hz => by simp at hz; subst hz; exact h1 y hy)
  have e2 := mrg_split (c := c) [x] [] [] b' (fun z hz y hy => by simp at hz; subst hz; exact h2 y hy) (by simp)
  simp only [List.nil_append, List.append_nil, nil_mrg, mrg_nil] at e e2
  rw [e, e2]; rfl
theorem mrg_one {α : Type} {c : α → α → Int} (y : α) (a a' : List α) (h1 : ∀ x, x ∈ a → 0 ≤ c y x) (h2 : ∀ x, x ∈ a' → c y x < 0) : mrg c (a ++ a') [y] = a ++ y :: a' := by
  have e := mrg_split (c := c) a a' [] [y] (fun x hx z hz => by simp at hz; subst hz; exact h1 x hx) (by simp)
  have e2 := mrg_split (c := c) [] a' [y] [] (by simp) (fun z hz x hx => by simp at hz; subst hz; exact h2 x hx)
  simp only [List.nil_append, List.append_nil, nil_mrg, mrg_nil] at e e2
  rw [e, e2]; rfl
/-- Search by halves. -/
def bs (p : Nat → Bool) (lo hi : Nat) : Nat → Nat × Nat
  | 0 => (lo, hi)
  | i + 1 => let s := bs p lo hi i
    if p ((s.1 + s.2) / 2) then ((s.1 + s.2) / 2 + 1, s.2) else (s.1, (s.1 + s.2) / 2)
theorem bs_step (p : Nat → Bool) (lo hi i : Nat) : (p (((bs p lo hi i).1 + (bs p lo hi i).2) / 2) = true → (bs p lo hi (i + 1)).1 = ((bs p lo hi i).1 + (bs p lo hi i).2) / 2 + 1 ∧ (bs p lo hi (i + 1)).2 = (bs p lo hi i).2) ∧
    (p (((bs p lo hi i).1 + (bs p lo hi i).2) / 2) = false → (bs p lo hi (i + 1)).1 = (bs p lo hi i).1 ∧ (bs p lo hi (i + 1)).2 = ((bs p lo hi i).1 + (bs p lo hi i).2) / 2) := by
  constructor <;> intro h <;> simp [bs, h]
theorem bs_ends (p : Nat → Bool) (lo hi : Nat) (hl : lo ≤ hi) : ∃ N, (∀ i, i < N → (bs p lo hi i).1 < (bs p lo hi i).2) ∧ (bs p lo hi N).1 = (bs p lo hi N).2 ∧ (∀ i, i ≤ N → lo ≤ (bs p lo hi i).1 ∧ (bs p lo hi i).1 ≤ (bs p lo hi i).2 ∧ (bs p lo hi i).2 ≤ hi) ∧
    (lo < (bs p lo hi N).1 → p ((bs p lo hi N).1 - 1) = true) ∧ ((bs p lo hi N).1 < hi → p (bs p lo hi N).1 = false) := by
  have key : ∀ d i, (bs p lo hi i).2 - (bs p lo hi i).1 ≤ d → (lo ≤ (bs p lo hi i).1 ∧ (bs p lo hi i).1 ≤ (bs p lo hi i).2 ∧ (bs p lo hi i).2 ≤ hi) →
      (lo < (bs p lo hi i).1 → p ((bs p lo hi i).1 - 1) = true) → ((bs p lo hi i).2 < hi → p (bs p lo hi i).2 = false) →
      ∃ N, i ≤ N ∧ (∀ j, i ≤ j → j < N → (bs p lo hi j).1 < (bs p lo hi j).2) ∧ (bs p lo hi N).1 = (bs p lo hi N).2 ∧ (∀ j, i ≤ j → j ≤ N → lo ≤ (bs p lo hi j).1 ∧ (bs p lo hi j).1 ≤ (bs p lo hi j).2 ∧ (bs p lo hi j).2 ≤ hi) ∧
        (lo < (bs p lo hi N).1 → p ((bs p lo hi N).1 - 1) = true) ∧ ((bs p lo hi N).1 < hi → p (bs p lo hi N).1 = false) := by
    intro d
    induction d with
    | zero =>
      intro i hd hb h1 h2
      refine ⟨i, Nat.le_refl i, fun j h3 h4 => by omega, by omega, fun j h3 h4 => ?_, h1, ?_⟩
      · obtain rfl : j = i := by omega
        exact hb
      · intro h; have e : (bs p lo hi i).1 = (bs p lo hi i).2 := by omega
        rw [e] at h ⊢; exact h2 h
    | succ d ih =>
      intro i hd hb h1 h2
      by_cases he : (bs p lo hi i).1 = (bs p lo hi i).2
      · refine ⟨i, Nat.le_refl i, fun j h3 h4 => by omega, he, fun j h3 h4 => ?_, h1, ?_⟩
        · obtain rfl : j = i := by omega
          exact hb
        · intro h; rw [he] at h ⊢; exact h2 h
      · have hs := bs_step p lo hi i
        have hx : ∃ N, i + 1 ≤ N ∧ (∀ j, i + 1 ≤ j → j < N → (bs p lo hi j).1 < (bs p lo hi j).2) ∧ (bs p lo hi N).1 = (bs p lo hi N).2 ∧ (∀ j, i + 1 ≤ j → j ≤ N → lo ≤ (bs p lo hi j).1 ∧ (bs p lo hi j).1 ≤ (bs p lo hi j).2 ∧ (bs p lo hi j).2 ≤ hi) ∧
            (lo < (bs p lo hi N).1 → p ((bs p lo hi N).1 - 1) = true) ∧ ((bs p lo hi N).1 < hi → p (bs p lo hi N).1 = false) := by
          cases hp : p (((bs p lo hi i).1 + (bs p lo hi i).2) / 2) with
          | true =>
            obtain ⟨e1, e2⟩ := hs.1 hp
            refine ih (i + 1) (by omega) (by omega) ?_ ?_
            · intro _; rw [e1, Nat.add_sub_cancel]; exact hp
            · intro h; rw [e2] at h ⊢; exact h2 h
          | false =>
            obtain ⟨e1, e2⟩ := hs.2 hp
            refine ih (i + 1) (by omega) (by omega) ?_ ?_
            · intro h; rw [e1] at h ⊢; exact h1 h
            · intro h; rw [e2]; exact hp
        obtain ⟨N, q1, q2, q3, q4, q5, q6⟩ := hx
        refine ⟨N, by omega, fun j h3 h4 => ?_, q3, fun j h3 h4 => ?_, q5, q6⟩
        · rcases Nat.eq_or_lt_of_le h3 with rfl | h3
          · omega
          · exact q2 j (by omega) h4
        · rcases Nat.eq_or_lt_of_le h3 with rfl | h3
          · exact hb
          · exact q4 j (by omega) h4
  obtain ⟨N, _, q2, q3, q4, q5, q6⟩ := key hi 0 (by simp [bs]) (by simp [bs]; omega) (by simp [bs]) (by simp [bs])
  exact ⟨N, fun i h => q2 i (by omega) h, q3, fun i h => q4 i (by omega) h, q5, q6⟩
/-- Two places changed about. -/
def sw {α : Type} [Inhabited α] (l : List α) (i j : Nat) : List α := (l.set i (l.getD j default)).set j (l.getD i default)
theorem sw_length {α : Type} [Inhabited α] (l : List α) (i j : Nat) : (sw l i j).length = l.length := by simp [sw]
theorem getD_mid {α : Type} [Inhabited α] (a b : List α) (x : α) (n : Nat) (h : n = a.length) : (a ++ x :: b).getD n default = x := by
  subst h; simp
theorem sw_two {α : Type} [Inhabited α] (a m b : List α) (x y : α) (i j : Nat) (hi : i = a.length) (hj : j = a.length + 1 + m.length) : sw (a ++ x :: (m ++ y :: b)) i j = a ++ y :: (m ++ x :: b) := by
  subst hi hj
  have e1 : (a ++ x :: (m ++ y :: b)).getD (a.length + 1 + m.length) default = y := by
    rw [show a ++ x :: (m ++ y :: b) = (a ++ x :: m) ++ y :: b by simp]
    exact getD_mid _ _ _ _ (by simp; omega)
  have e2 : (a ++ x :: (m ++ y :: b)).getD a.length default = x := getD_mid _ _ _ _ rfl
  unfold sw
  rw [e1, e2]
  rw [List.set_append_right _ _ (Nat.le_refl _), Nat.sub_self, List.set_cons_zero]
  rw [show a ++ y :: (m ++ y :: b) = (a ++ y :: m) ++ y :: b by simp]
  rw [List.set_append_right _ _ (by simp; omega)]
  have : a.length + 1 + m.length - (a ++ y :: m).length = 0 := by simp; omega
  rw [this, List.set_cons_zero]; simp
theorem sw_two' {α : Type} [Inhabited α] (a m b : List α) (x y : α) (i j : Nat) (hi : i = a.length) (hj : j = a.length + 1 + m.length) : sw (a ++ x :: (m ++ y :: b)) j i = a ++ y :: (m ++ x :: b) := by
  subst hi hj
  have e1 : (a ++ x :: (m ++ y :: b)).getD (a.length + 1 + m.length) default = y := by
    rw [show a ++ x :: (m ++ y :: b) = (a ++ x :: m) ++ y :: b by simp]
    exact getD_mid _ _ _ _ (by simp; omega)
  have e2 : (a ++ x :: (m ++ y :: b)).getD a.length default = x := getD_mid _ _ _ _ rfl
  have e3 := sw_two a m b x y _ _ rfl rfl
  unfold sw at e3 ⊢
  rw [e1, e2] at e3 ⊢
  rw [← e3]
  rw [List.set_comm _ _ (by omega)]
/-- Two pieces of one length changed about, place by place. -/
def sws {α : Type} [Inhabited α] (l : List α) (p q : Nat) : Nat → List α
  | 0 => l
  | i + 1 => sw (sws l p q i) (p + i) (q + i)
theorem sws_length {α : Type} [Inhabited α] (l : List α) (p q : Nat) : ∀ i, (sws l p q i).length = l.length
  | 0 => rfl
  | i + 1 => by rw [sws, sw_length, sws_length]
theorem sws_shift {α : Type} [Inhabited α] (l : List α) (p q : Nat) : ∀ i, sws (sw l p q) (p + 1) (q + 1) i = sws l p q (i + 1)
  | 0 => rfl
  | i + 1 => by rw [sws, sws_shift l p q i, sws.eq_def l p q (i + 1 + 1)]; simp only []; rw [Nat.add_assoc p, Nat.add_assoc q, Nat.add_comm 1 i]
theorem sws_two {α : Type} [Inhabited α] : ∀ (x y a m b : List α) (p q c : Nat), x.length = c → y.length = c → p = a.length → q = a.length + c + m.length → sws (a ++ (x ++ (m ++ (y ++ b)))) p q c = a ++ (y ++ (m ++ (x ++ b)))
  | [], [], a, m, b, p, q, c, hx, hy, hp, hq => by subst hx; simp [sws]
  | x :: u, y :: v, a, m, b, p, q, 0, hx, hy, hp, hq => by simp at hx
  | x :: u, y :: v, a, m, b, p, q, c + 1, hx, hy, hp, hq => by
    rw [← sws_shift]
    have e : sw (a ++ (x :: u ++ (m ++ (y :: v ++ b)))) p q = (a ++ [y]) ++ (u ++ ((m ++ [x]) ++ (v ++ b))) := by
      have := sw_two a (u ++ m) (v ++ b) x y p q hp (by simp at hx ⊢; omega)
      simpa using this
    rw [e, sws_two u v (a ++ [y]) (m ++ [x]) b (p + 1) (q + 1) c (by simpa using hx) (by simpa using hy) (by simp [hp]) (by simp; omega)]
    simp
  | [], y :: v, a, m, b, p, q, c, hx, hy, hp, hq => by simp at hx hy; omega
  | x :: u, [], a, m, b, p, q, c, hx, hy, hp, hq => by simp at hx hy; omega
end Sy
end Sp
set_option linter.unusedVariables false
set_option linter.unusedSimpArgs false
namespace Sp
namespace Sy
/-- Two neighbouring pieces changed about by changing pieces of one length. -/
def rt {α : Type} [Inhabited α] (m : Nat) (l : List α) (a b : Nat) : Nat → Nat × Nat × List α
  | 0 => (a, b, l)
  | k + 1 => let s := rt m l a b k
    if s.2.1 < s.1 then (s.1 - s.2.1, s.2.1, sws s.2.2 (m - s.1) m s.2.1) else if s.1 < s.2.1 then (s.1, s.2.1 - s.1, sws s.2.2 (m - s.1) (m + s.2.1 - s.1) s.1) else s
theorem rt_gt {α : Type} [Inhabited α] (m : Nat) (l : List α) (a b k : Nat) (h : (rt m l a b k).2.1 < (rt m l a b k).1) : rt m l a b (k + 1) = ((rt m l a b k).1 - (rt m l a b k).2.1, (rt m l a b k).2.1, sws (rt m l a b k).2.2 (m - (rt m l a b k).1) m (rt m l a b k).2.1) := by
  simp only [rt]; rw [if_pos h]
theorem rt_lt {α : Type} [Inhabited α] (m : Nat) (l : List α) (a b k : Nat) (h : (rt m l a b k).1 < (rt m l a b k).2.1) : rt m l a b (k + 1) = ((rt m l a b k).1, (rt m l a b k).2.1 - (rt m l a b k).1, sws (rt m l a b k).2.2 (m - (rt m l a b k).1) (m + (rt m l a b k).2.1 - (rt m l a b k).1) (rt m l a b k).1) := by
  simp only [rt]; rw [if_neg (by omega), if_pos h]
theorem rt_eq {α : Type} [Inhabited α] (m : Nat) (l : List α) (a b k : Nat) (h : (rt m l a b k).1 = (rt m l a b k).2.1) : rt m l a b (k + 1) = rt m l a b k := by
  simp only [rt]; rw [if_neg (by omega), if_neg (by omega)]
theorem rt_inv {α : Type} [Inhabited α] (p u v s : List α) (m : Nat) (hm : m = p.length + u.length) (hu : 0 < u.length) (hv : 0 < v.length) : ∀ k, ∃ p' u' v' s', rt m (p ++ (u ++ (v ++ s))) u.length v.length k = (u'.length, v'.length, p' ++ (u' ++ (v' ++ s'))) ∧ m = p'.length + u'.length ∧ 0 < u'.length ∧ 0 < v'.length ∧ p' ++ (v' ++ (u' ++ s')) = p ++ (v ++ (u ++ s))
  | 0 => ⟨p, u, v, s, rfl, hm, hu, hv, rfl⟩
  | k + 1 => by
    obtain ⟨p', u', v', s', e, h1, h2, h3, h4⟩ := rt_inv p u v s m hm hu hv k
    rcases Nat.lt_trichotomy u'.length v'.length with h | h | h
    · rw [rt_lt _ _ _ _ _ (by rw [e]; exact h), e]
      simp only
      have e1 : v'.take (v'.length - u'.length) ++ v'.drop (v'.length - u'.length) = v' := List.take_append_drop _ _
      have l1 : (v'.take (v'.length - u'.length)).length = v'.length - u'.length := by rw [List.length_take]; omega
      have l2 : (v'.drop (v'.length - u'.length)).length = u'.length := by rw [List.length_drop]; omega
      refine ⟨p', v'.drop (v'.length - u'.length), v'.take (v'.length - u'.length), u' ++ s', ?_, by rw [l2]; exact h1, by rw [l2]; exact h2, by rw [l1]; omega, ?_⟩
      · rw [l1, l2]
        have := sws_two u' (v'.drop (v'.length - u'.length)) p' (v'.take (v'.length - u'.length)) s' (m - u'.length) (m + v'.length - u'.length) u'.length rfl l2 (by omega) (by rw [l1]; omega)
        rw [← List.append_assoc (v'.take _), e1] at this
        rw [this]
      · rw [← h4, ← List.append_assoc (v'.take _), e1]
    · exact ⟨p', u', v', s', by rw [rt_eq _ _ _ _ _ (by rw [e]; exact h), e], h1, h2, h3, h4⟩
    · rw [rt_gt _ _ _ _ _ (by rw [e]; exact h), e]
      simp only
      have e1 : u'.take v'.length ++ u'.drop v'.length = u' := List.take_append_drop _ _
      have l1 : (u'.take v'.length).length = v'.length := by rw [List.length_take]; omega
      have l2 : (u'.drop v'.length).length = u'.length - v'.length := by rw [List.length_drop]
      refine ⟨p' ++ v', u'.drop v'.length, u'.take v'.length, s', ?_, by rw [l2, List.length_append]; omega, by rw [l2]; omega, by rw [l1]; exact h3, ?_⟩
      · rw [l1, l2]
        have := sws_two (u'.take v'.length) v' p' (u'.drop v'.length) s' (m - u'.length) m v'.length l1 rfl (by omega) (by rw [l2]; omega)
        rw [← List.append_assoc (u'.take _), e1] at this
        rw [this, List.append_assoc]
      · rw [← h4, ← List.append_assoc (u'.take _), e1, List.append_assoc]
theorem rt_ends {α : Type} [Inhabited α] (p u v s : List α) (m : Nat) (hm : m = p.length + u.length) (hu : 0 < u.length) (hv : 0 < v.length) : ∃ N, (∀ i, i < N → (rt m (p ++ (u ++ (v ++ s))) u.length v.length i).1 ≠ (rt m (p ++ (u ++ (v ++ s))) u.length v.length i).2.1) ∧ (rt m (p ++ (u ++ (v ++ s))) u.length v.length N).1 = (rt m (p ++ (u ++ (v ++ s))) u.length v.length N).2.1 := by
  generalize hl : p ++ (u ++ (v ++ s)) = l
  have inv := rt_inv p u v s m hm hu hv
  rw [hl] at inv
  generalize u.length = a at *
  generalize v.length = b at *
  have key : ∀ d i, (rt m l a b i).1 + (rt m l a b i).2.1 ≤ d → ∃ N, i ≤ N ∧ (∀ j, i ≤ j → j < N → (rt m l a b j).1 ≠ (rt m l a b j).2.1) ∧ (rt m l a b N).1 = (rt m l a b N).2.1 := by
    intro d
    induction d with
    | zero => intro i h; exact ⟨i, Nat.le_refl i, fun j h1 h2 => by omega, by omega⟩
    | succ d ih =>
      intro i h
      obtain ⟨p', u', v', s', e, _, h2, h3, _⟩ := inv i
      have e1 : (rt m l a b i).1 = u'.length := by rw [e]
      have e2 : (rt m l a b i).2.1 = v'.length := by rw [e]
      by_cases he : (rt m l a b i).1 = (rt m l a b i).2.1
      · exact ⟨i, Nat.le_refl i, fun j h1 h2 => by omega, he⟩
      · have hs : (rt m l a b (i + 1)).1 + (rt m l a b (i + 1)).2.1 ≤ d := by
          rcases Nat.lt_or_ge (rt m l a b i).1 (rt m l a b i).2.1 with h4 | h4
          · rw [rt_lt _ _ _ _ _ h4]; simp only; omega
          · rw [rt_gt _ _ _ _ _ (by omega)]; simp only; omega
        obtain ⟨N, q1, q2, q3⟩ := ih (i + 1) hs
        refine ⟨N, by omega, fun j h5 h6 => ?_, q3⟩
        rcases Nat.eq_or_lt_of_le h5 with rfl | h5
        · exact he
        · exact q2 j (by omega) h6
  obtain ⟨N, _, h2, h3⟩ := key _ 0 (Nat.le_refl _)
  exact ⟨N, fun i h => h2 i (by omega) h, h3⟩
theorem rt_length {α : Type} [Inhabited α] (m : Nat) (l : List α) (a b : Nat) : ∀ k, (rt m l a b k).2.2.length = l.length
  | 0 => rfl
  | k + 1 => by
    have ih := rt_length m l a b k
    simp only [rt]
    split
    · simp only [sws_length]; exact ih
    · split
      · simp only [sws_length]; exact ih
      · exact ih
/-- The first i pieces of a length, each sorted. -/
def frn {α : Type} (c : α → α → Int) (s : Nat) : Nat → List α → List α
  | 0, _ => []
  | i + 1, l => srt c (l.take s) ++ frn c s i (l.drop s)
theorem frn_snoc {α : Type} (c : α → α → Int) (s : Nat) : ∀ (i : Nat) (l : List α), frn c s (i + 1) l = frn c s i l ++ srt c ((l.drop (s * i)).take s)
  | 0, l => by simp [frn]
  | i + 1, l => by
    rw [frn, frn_snoc c s i (l.drop s), frn, List.append_assoc, List.drop_drop, Nat.mul_succ, Nat.add_comm s]
theorem frn_length {α : Type} (c : α → α → Int) (s : Nat) : ∀ (i : Nat) (l : List α), s * i ≤ l.length → (frn c s i l).length = s * i
  | 0, l, _ => by simp [frn]
  | i + 1, l, h => by
    rw [Nat.mul_succ] at h
    rw [frn, List.length_append, srt_length, List.length_take, frn_length c s i (l.drop s) (by rw [List.length_drop]; omega), Nat.mul_succ]; omega
theorem frn_more {α : Type} (c : α → α → Int) (s : Nat) (l : List α) (i : Nat) (h : l.length ≤ s * i) : ∀ k, frn c s (i + k) l = frn c s i l
  | 0 => rfl
  | k + 1 => by
    rw [← Nat.add_assoc, frn_snoc, frn_more c s l i h k, List.drop_eq_nil_of_le (Nat.le_trans h (Nat.mul_le_mul_left s (Nat.le_add_right i k)))]
    simp [srt]
/-- All pieces of a length, each sorted. -/
def pas {α : Type} (c : α → α → Int) (s : Nat) (l : List α) : List α := frn c s l.length l
theorem pas_eq {α : Type} (c : α → α → Int) {s : Nat} (l : List α) (i : Nat) (hs : 0 < s) (h : l.length ≤ s * i) : pas c s l = frn c s i l := by
  have h1 : l.length ≤ s * l.length := Nat.le_mul_of_pos_left _ hs
  rcases Nat.le_total i l.length with h2 | h2
  · obtain ⟨k, hk⟩ := Nat.le.dest h2
    unfold pas
    rw [← hk, frn_more c s l i h]
  · obtain ⟨k, rfl⟩ := Nat.le.dest h2
    unfold pas
    rw [frn_more c s l _ h1]
theorem pas_cons {α : Type} (c : α → α → Int) {s : Nat} (l : List α) (hs : 0 < s) : pas c s l = srt c (l.take s) ++ pas c s (l.drop s) := by
  have h1 : l.length ≤ s * l.length := Nat.le_mul_of_pos_left _ hs
  rw [pas_eq c l (l.length + 1) hs (by rw [Nat.mul_succ]; omega), frn, pas_eq c (l.drop s) l.length hs (by rw [List.length_drop]; omega)]
theorem pas_one {α : Type} (c : α → α → Int) {s : Nat} (l : List α) (hs : 0 < s) (h : l.length ≤ s) : pas c s l = srt c l := by
  rw [pas_eq c l 1 hs (by omega), frn, frn, List.take_of_length_le h, List.append_nil]
theorem pas_length {α : Type} (c : α → α → Int) {s : Nat} (hs : 0 < s) : ∀ (n : Nat) (l : List α), l.length ≤ n → (pas c s l).length = l.length
  | 0, l, h => by
    obtain rfl : l = [] := List.eq_nil_of_length_eq_zero (by omega)
    rfl
  | n + 1, l, h => by
    by_cases h0 : l = []
    · subst h0; rfl
    · have : 0 < l.length := List.length_pos_iff.2 h0
      rw [pas_cons c l hs, List.length_append, srt_length, pas_length c hs n (l.drop s) (by rw [List.length_drop]; omega), List.length_take, List.length_drop]; omega
/-- The row of a pass behind i pairs of pieces. -/
def mix {α : Type} (c : α → α → Int) (s i : Nat) (l : List α) : List α := frn c (2 * s) i l ++ pas c s (l.drop (2 * s * i))
theorem mix_zero {α : Type} (c : α → α → Int) (s : Nat) (l : List α) : mix c s 0 l = pas c s l := by simp [mix, frn]
theorem mix_now {α : Type} (c : α → α → Int) {s : Nat} (i : Nat) (l : List α) (hs : 0 < s) : mix c s i l = frn c (2 * s) i l ++ (srt c ((l.drop (2 * s * i)).take s) ++ (srt c ((l.drop (2 * s * i + s)).take s) ++ pas c s (l.drop (2 * s * (i + 1))))) := by
  rw [mix, pas_cons c _ hs, pas_cons c ((l.drop (2 * s * i)).drop s) hs, List.drop_drop, List.drop_drop, Nat.mul_succ]
  rw [show 2 * s * i + 2 * s = 2 * s * i + s + s from by omega]
theorem two_pieces {α : Type} {c : α → α → Int} (H : Pre c) (l : List α) (k s : Nat) : mrg c (srt c ((l.drop k).take s)) (srt c ((l.drop (k + s)).take s)) = srt c ((l.drop k).take (2 * s)) := by
  rw [← srt_append H, Nat.two_mul, List.take_add, List.drop_drop]
theorem mix_next {α : Type} {c : α → α → Int} (H : Pre c) {s : Nat} (i : Nat) (l : List α) : mix c s (i + 1) l = frn c (2 * s) i l ++ (mrg c (srt c ((l.drop (2 * s * i)).take s)) (srt c ((l.drop (2 * s * i + s)).take s)) ++ pas c s (l.drop (2 * s * (i + 1)))) := by
  rw [two_pieces H, mix, frn_snoc, List.append_assoc]
/-- The pass is over: what is left is one piece, or two that are put together. -/
theorem mix_last {α : Type} {c : α → α → Int} {s : Nat} (i : Nat) (l : List α) (hs : 0 < s) (h : l.length ≤ 2 * s * i + s) : mix c s i l = pas c (2 * s) l := by
  rw [mix, pas_one c (l.drop (2 * s * i)) hs (by rw [List.length_drop]; omega), pas_eq c l (i + 1) (by omega) (by rw [Nat.mul_succ]; omega), frn_snoc]
  rw [List.take_of_length_le (by rw [List.length_drop]; omega)]
theorem mix_two {α : Type} {c : α → α → Int} (H : Pre c) {s : Nat} (i : Nat) (l : List α) (hs : 0 < s) (h : l.length ≤ 2 * s * (i + 1)) : frn c (2 * s) i l ++ (mrg c (srt c ((l.drop (2 * s * i)).take s)) (srt c ((l.drop (2 * s * i + s)).take s)) ++ []) = pas c (2 * s) l := by
  rw [two_pieces H, List.append_nil, pas_eq c l (i + 1) (by omega) h, frn_snoc]
end Sy
end Sp
set_option linter.unusedVariables false
set_option linter.unusedSimpArgs false
namespace Sp
namespace Sy
theorem tw_split {α : Type} {c : α → α → Int} (H : Pre c) (x : α) : ∀ (t : List α), Sd c t → ∃ w, w ≤ t.length ∧ (∀ y, y ∈ t.take w → 0 ≤ c x y) ∧ (∀ y, y ∈ t.drop w → c x y < 0)
  | [], _ => ⟨0, by simp, by simp, by simp⟩
  | y :: t, h => by
    have h' := List.pairwise_cons.1 h
    by_cases hy : c x y < 0
    · refine ⟨0, by simp, by simp, fun z hz => ?_⟩
      simp only [List.drop_zero] at hz
      rcases List.mem_cons.1 hz with rfl | hz
      · exact hy
      · rcases Int.lt_or_le (c x z) 0 with h1 | h1
        · exact h1
        · have := H.trans y z x (h'.1 z hz) h1; omega
    · obtain ⟨w, h1, h2, h3⟩ := tw_split H x t h'.2
      refine ⟨w + 1, by simp; omega, fun z hz => ?_, by simpa using h3⟩
      simp only [List.take_succ_cons] at hz
      rcases List.mem_cons.1 hz with rfl | hz
      · omega
      · exact h2 z hz
theorem getD_mem {α : Type} [Inhabited α] {l : List α} {i : Nat} (h : i < l.length) : l.getD i default ∈ l := by
  rw [List.getD_eq_getElem?_getD, List.getElem?_eq_getElem h]; exact List.getElem_mem h
theorem getD_take {α : Type} [Inhabited α] {l : List α} {i w : Nat} (h : i < w) (hl : i < l.length) : l.getD i default ∈ l.take w := by
  have := getD_mem (l := l.take w) (i := i) (by rw [List.length_take]; omega)
  rwa [List.getD_eq_getElem?_getD, List.getElem?_take_of_lt h, ← List.getD_eq_getElem?_getD] at this
theorem getD_dropm {α : Type} [Inhabited α] {l : List α} {i w : Nat} (h : w ≤ i) (hl : i < l.length) : l.getD i default ∈ l.drop w := by
  have := getD_mem (l := l.drop w) (i := i - w) (by rw [List.length_drop]; omega)
  rwa [List.getD_eq_getElem?_getD, List.getElem?_drop, show w + (i - w) = i by omega, ← List.getD_eq_getElem?_getD] at this
theorem take_one {α : Type} [Inhabited α] {l : List α} {i : Nat} (hl : i < l.length) : l.take (i + 1) = l.take i ++ [l.getD i default] := by
  rw [List.take_succ_eq_append_getElem hl, List.getD_eq_getElem?_getD, List.getElem?_eq_getElem hl]; rfl
theorem drop_one {α : Type} [Inhabited α] {l : List α} {i : Nat} (hl : i < l.length) : l.drop i = l.getD i default :: l.drop (i + 1) := by
  rw [List.drop_eq_getElem_cons hl, List.getD_eq_getElem?_getD, List.getElem?_eq_getElem hl]; rfl
/-- A row in which the next member of the piece u is k places down. -/
def insR {α : Type} [Inhabited α] (c : α → α → Int) (p u s : List α) (i k : Nat) : List α :=
  if i + 1 < u.length then p ++ ((srt c (u.take (i + 1))).take (i + 1 - k) ++ u.getD (i + 1) default :: ((srt c (u.take (i + 1))).drop (i + 1 - k) ++ (u.drop (i + 2) ++ s))) else p ++ (srt c u ++ s)
theorem insR_length {α : Type} [Inhabited α] (c : α → α → Int) (p u s : List α) (i k : Nat) : (insR c p u s i k).length = (p ++ (u ++ s)).length := by
  unfold insR
  split
  · simp only [List.length_append, List.length_cons, List.length_take, List.length_drop, srt_length]; omega
  · simp only [List.length_append, srt_length]
theorem insR_at {α : Type} [Inhabited α] {c : α → α → Int} {p u s : List α} {i k : Nat} (h : i + 1 < u.length) (hk : k ≤ i) :
    insR c p u s i k = (p ++ (srt c (u.take (i + 1))).take (i - k)) ++ (srt c (u.take (i + 1))).getD (i - k) default :: ([] ++ u.getD (i + 1) default :: ((srt c (u.take (i + 1))).drop (i + 1 - k) ++ (u.drop (i + 2) ++ s))) := by
  have hl : (srt c (u.take (i + 1))).length = i + 1 := by rw [srt_length, List.length_take]; omega
  unfold insR
  rw [if_pos h, show i + 1 - k = i - k + 1 by omega, take_one (by omega)]
  simp
theorem insR_swap {α : Type} [Inhabited α] {c : α → α → Int} {p u s : List α} {i k a : Nat} (ha : a = p.length) (h : i + 1 < u.length) (hk : k ≤ i) : sw (insR c p u s i k) (a + 1 + i - k) (a + 1 + i - k - 1) = insR c p u s i (k + 1) := by
  have hl : (srt c (u.take (i + 1))).length = i + 1 := by rw [srt_length, List.length_take]; omega
  have h1 : (p ++ (srt c (u.take (i + 1))).take (i - k)).length = a + 1 + i - k - 1 := by rw [List.length_append, List.length_take]; omega
  rw [insR_at h hk, sw_two' _ [] _ _ _ _ _ h1.symm (by rw [h1, List.length_nil]; omega)]
  unfold insR
  rw [if_pos h, show i + 1 - (k + 1) = i - k by omega, drop_one (l := srt c (u.take (i + 1))) (i := i - k) (by omega), show i - k + 1 = i + 1 - k by omega]
  simp
theorem insR_x {α : Type} [Inhabited α] {c : α → α → Int} {p u s : List α} {i k a : Nat} (ha : a = p.length) (h : i + 1 < u.length) (hk : k ≤ i + 1) : (insR c p u s i k).getD (a + 1 + i - k) default = u.getD (i + 1) default := by
  have hl : (srt c (u.take (i + 1))).length = i + 1 := by rw [srt_length, List.length_take]; omega
  unfold insR
  rw [if_pos h, ← List.append_assoc]
  exact getD_mid _ _ _ _ (by rw [List.length_append, List.length_take]; omega)
theorem insR_y {α : Type} [Inhabited α] {c : α → α → Int} {p u s : List α} {i k a : Nat} (ha : a = p.length) (h : i + 1 < u.length) (hk : k ≤ i) : (insR c p u s i k).getD (a + 1 + i - k - 1) default = (srt c (u.take (i + 1))).getD (i - k) default := by
  have hl : (srt c (u.take (i + 1))).length = i + 1 := by rw [srt_length, List.length_take]; omega
  rw [insR_at h hk]
  exact getD_mid _ _ _ _ (by rw [List.length_append, List.length_take]; omega)
theorem insR_zero {α : Type} [Inhabited α] {c : α → α → Int} (p u s : List α) : insR c p u s 0 0 = p ++ (u ++ s) := by
  unfold insR
  match u with
  | [] => simp [srt]
  | [x] => simp [srt_one]
  | x :: y :: u => simp [srt_one, srt, mrg]
theorem insR_next {α : Type} [Inhabited α] {c : α → α → Int} (H : Pre c) (p u s : List α) (i w : Nat) (h : i + 1 < u.length) (hw : w ≤ i + 1) (h1 : ∀ y, y ∈ (srt c (u.take (i + 1))).take w → 0 ≤ c (u.getD (i + 1) default) y) (h2 : ∀ y, y ∈ (srt c (u.take (i + 1))).drop w → c (u.getD (i + 1) default) y < 0) :
    insR c p u s (i + 1) 0 = insR c p u s i (i + 1 - w) := by
  have e : srt c (u.take (i + 2)) = (srt c (u.take (i + 1))).take w ++ u.getD (i + 1) default :: (srt c (u.take (i + 1))).drop w := by
    rw [show i + 2 = i + 1 + 1 from rfl, take_one h, srt_append H, srt_one, ← mrg_one _ _ _ h1 h2, List.take_append_drop]
  rw [insR.eq_def c p u s i, if_pos h, show i + 1 - (i + 1 - w) = w by omega]
  unfold insR
  split
  · rename_i h3
    rw [List.take_of_length_le (l := srt c (u.take (i + 1 + 1))) (by rw [srt_length, List.length_take]; omega), List.drop_eq_nil_of_le (as := srt c (u.take (i + 1 + 1))) (by rw [srt_length, List.length_take]; omega), e, drop_one (l := u) (i := i + 2) h3]
    simp
  · rename_i h3
    rw [List.take_of_length_le (l := u) (by omega)] at e
    rw [e, List.drop_eq_nil_of_le (as := u) (by omega)]
    simp
theorem insR_end {α : Type} [Inhabited α] {c : α → α → Int} (p u s : List α) (i : Nat) (h : u.length ≤ i + 1) : insR c p u s i 0 = p ++ (srt c u ++ s) := by
  unfold insR
  rw [if_neg (by omega)]
/-- Reversing by changing about. -/
def rvR {α : Type} [Inhabited α] (l : List α) : Nat → List α
  | 0 => l
  | i + 1 => sw (rvR l i) i (l.length - 1 - i)
theorem rvR_length {α : Type} [Inhabited α] (l : List α) : ∀ i, (rvR l i).length = l.length
  | 0 => rfl
  | i + 1 => by rw [rvR, sw_length, rvR_length l i]
theorem two_ends {α : Type} (m : List α) (h : 2 ≤ m.length) : ∃ x n y, m = x :: (n ++ [y]) := by
  match m, h with
  | x :: y :: m, _ => exact ⟨x, (y :: m).dropLast, (y :: m).getLast (by simp), by rw [List.dropLast_concat_getLast]⟩
theorem rvR_inv {α : Type} [Inhabited α] (l : List α) : ∀ i, 2 * i ≤ l.length → ∃ w m u, l = w ++ (m ++ u) ∧ w.length = i ∧ u.length = i ∧ rvR l i = u.reverse ++ (m ++ w.reverse)
  | 0, _ => ⟨[], l, [], by simp, rfl, rfl, by simp [rvR]⟩
  | i + 1, h => by
    obtain ⟨w, m, u, e, h1, h2, h3⟩ := rvR_inv l i (by omega)
    have hl : l.length = w.length + (m.length + u.length) := by rw [e]; simp
    obtain ⟨x, n, y, rfl⟩ := two_ends m (by omega)
    refine ⟨w ++ [x], n, y :: u, by rw [e]; simp, by simp [h1], by simp [h2], ?_⟩
    rw [rvR, h3]
    have := sw_two u.reverse n w.reverse x y i (l.length - 1 - i) (by simp [h2]) (by simp at hl ⊢; omega)
    simp only [List.cons_append, List.append_assoc, List.nil_append] at this ⊢
    rw [this]; simp
theorem rvR_end {α : Type} [Inhabited α] (l : List α) (N : Nat) (h1 : 2 * N ≤ l.length) (h2 : l.length ≤ 2 * N + 1) : rvR l N = l.reverse := by
  obtain ⟨w, m, u, e, q1, q2, q3⟩ := rvR_inv l N h1
  have hl : l.length = w.length + (m.length + u.length) := by rw [e]; simp
  have : m.reverse = m := by
    match m, hl with
    | [], _ => rfl
    | [x], _ => rfl
    | x :: y :: m, hl => simp at hl; omega
  rw [q3, e]; simp [this]
end Sy
end Sp
set_option linter.unusedVariables false
set_option linter.unusedSimpArgs false
namespace Sp
namespace Sy
theorem Pre.refl {α : Type} {c : α → α → Int} (H : Pre c) (x : α) : 0 ≤ c x x := by
  rcases Int.lt_or_le (c x x) 0 with h | h
  · exact H.asym _ _ h
  · exact h
theorem sd_take {α : Type} [Inhabited α] {c : α → α → Int} (H : Pre c) : ∀ {v : List α}, Sd c v → ∀ w, w < v.length → ∀ y, y ∈ v.take (w + 1) → 0 ≤ c (v.getD w default) y
  | [], _, w, h, _, _ => by simp at h
  | z :: v, hs, 0, h, y, hy => by simp at hy; subst hy; exact H.refl _
  | z :: v, hs, w + 1, h, y, hy => by
    have h' := List.pairwise_cons.1 hs
    simp only [List.length_cons] at h
    rw [List.take_succ_cons] at hy
    rw [List.getD_cons_succ]
    rcases List.mem_cons.1 hy with rfl | hy
    · exact h'.1 _ (getD_mem (by omega))
    · exact sd_take H h'.2 w (by omega) y hy
theorem sd_drop {α : Type} [Inhabited α] {c : α → α → Int} (H : Pre c) : ∀ {v : List α}, Sd c v → ∀ w, w < v.length → ∀ y, y ∈ v.drop w → 0 ≤ c y (v.getD w default)
  | [], _, w, h, _, _ => by simp at h
  | z :: v, hs, 0, h, y, hy => by
    have h' := List.pairwise_cons.1 hs
    simp only [List.drop_zero] at hy
    rw [List.getD_cons_zero]
    rcases List.mem_cons.1 hy with rfl | hy
    · exact H.refl _
    · exact h'.1 _ hy
  | z :: v, hs, w + 1, h, y, hy => by
    have h' := List.pairwise_cons.1 hs
    simp only [List.length_cons] at h
    rw [List.drop_succ_cons] at hy
    rw [List.getD_cons_succ]
    exact sd_drop H h'.2 w (by omega) y hy
theorem Pre.cut {α : Type} {c : α → α → Int} (H : Pre c) {x x' y y' : α} (h : c y' x' < 0) (hx : 0 ≤ c x x') (hy : 0 ≤ c y' y) : c y x < 0 := by
  rcases Int.lt_or_le (c y x) 0 with h1 | h1
  · exact h1
  · have := H.trans _ _ _ hx (H.trans _ _ _ h1 hy); omega
theorem cross {α : Type} [Inhabited α] {c : α → α → Int} (H : Pre c) {u v : List α} (su : Sd c u) (sv : Sd c v) (i j : Nat) (hi : i ≤ u.length) (hj : j ≤ v.length) (h1 : 0 < i → j < v.length → 0 ≤ c (v.getD j default) (u.getD (i - 1) default)) (h2 : i < u.length → 0 < j → c (v.getD (j - 1) default) (u.getD i default) < 0) :
    mrg c u v = mrg c (u.take i) (v.take j) ++ mrg c (u.drop i) (v.drop j) := by
  have e := mrg_split (c := c) (u.take i) (u.drop i) (v.take j) (v.drop j) (fun x hx y hy => ?_) (fun y hy x hx => ?_)
  · rwa [List.take_append_drop, List.take_append_drop] at e
  · have p1 : 0 < i := by
      rcases Nat.eq_zero_or_pos i with rfl | h
      · simp at hx
      · exact h
    have p2 : j < v.length := by
      rcases Nat.lt_or_ge j v.length with h | h
      · exact h
      · rw [List.drop_eq_nil_of_le h] at hy; simp at hy
    refine H.trans _ _ _ (H.trans _ _ _ (sd_take H su (i - 1) (by omega) x (by rw [show i - 1 + 1 = i by omega]; exact hx)) (h1 p1 p2)) (sd_drop H sv j p2 y hy)
  · have p1 : 0 < j := by
      rcases Nat.eq_zero_or_pos j with rfl | h
      · simp at hy
      · exact h
    have p2 : i < u.length := by
      rcases Nat.lt_or_ge i u.length with h | h
      · exact h
      · rw [List.drop_eq_nil_of_le h] at hx; simp at hx
    exact H.cut (h2 p2 p1) (sd_drop H su i p2 x hx) (sd_take H sv (j - 1) (by omega) y (by rw [show j - 1 + 1 = j by omega]; exact hy))
theorem one_at {α : Type} [Inhabited α] {c : α → α → Int} (H : Pre c) {v : List α} (x : α) (sv : Sd c v) (w : Nat) (hw : w ≤ v.length) (h1 : 0 < w → c (v.getD (w - 1) default) x < 0) (h2 : w < v.length → 0 ≤ c (v.getD w default) x) : mrg c [x] v = v.take w ++ x :: v.drop w := by
  have e := one_mrg (c := c) x (v.take w) (v.drop w) (fun y hy => ?_) (fun y hy => ?_)
  · rwa [List.take_append_drop] at e
  · have p1 : 0 < w := by
      rcases Nat.eq_zero_or_pos w with rfl | h
      · simp at hy
      · exact h
    exact H.cut (h1 p1) (H.refl _) (sd_take H sv (w - 1) (by omega) y (by rw [show w - 1 + 1 = w by omega]; exact hy))
  · have p2 : w < v.length := by
      rcases Nat.lt_or_ge w v.length with h | h
      · exact h
      · rw [List.drop_eq_nil_of_le h] at hy; simp at hy
    exact H.trans _ _ _ (h2 p2) (sd_drop H sv w p2 y hy)
theorem at_one {α : Type} [Inhabited α] {c : α → α → Int} (H : Pre c) {u : List α} (y : α) (su : Sd c u) (w : Nat) (hw : w ≤ u.length) (h1 : 0 < w → 0 ≤ c y (u.getD (w - 1) default)) (h2 : w < u.length → c y (u.getD w default) < 0) : mrg c u [y] = u.take w ++ y :: u.drop w := by
  have e := mrg_one (c := c) y (u.take w) (u.drop w) (fun x hx => ?_) (fun x hx => ?_)
  · rwa [List.take_append_drop] at e
  · have p1 : 0 < w := by
      rcases Nat.eq_zero_or_pos w with rfl | h
      · simp at hx
      · exact h
    exact H.trans _ _ _ (sd_take H su (w - 1) (by omega) x (by rw [show w - 1 + 1 = w by omega]; exact hx)) (h1 p1)
  · have p2 : w < u.length := by
      rcases Nat.lt_or_ge w u.length with h | h
      · exact h
      · rw [List.drop_eq_nil_of_le h] at hx; simp at hx
    exact H.cut (h2 p2) (sd_drop H su w p2 x hx) (H.refl _)
theorem in_mid {α : Type} [Inhabited α] (p u v : List α) {k j : Nat} (hk : k = p.length + j) (hj : j < u.length) : (p ++ (u ++ v)).getD k default = u.getD j default := by
  subst hk
  rw [List.getD_eq_getElem?_getD, List.getElem?_append_right (by omega), Nat.add_sub_cancel_left, List.getElem?_append_left hj, ← List.getD_eq_getElem?_getD]
theorem in_mid2 {α : Type} [Inhabited α] (p u v s : List α) {k j : Nat} (hk : k = p.length + u.length + j) (hj : j < v.length) : (p ++ (u ++ (v ++ s))).getD k default = v.getD j default := by
  rw [← List.append_assoc]
  exact in_mid (p ++ u) v s (by rw [List.length_append]; exact hk) hj
/-- One that goes up through a piece, or down. -/
theorem up_swap {α : Type} [Inhabited α] (p v s : List α) (x : α) (i a b : Nat) (hi : i < v.length) (ha : a = p.length + i) (hb : b = a + 1) : sw (p ++ (v.take i ++ x :: (v.drop i ++ s))) a b = p ++ (v.take (i + 1) ++ x :: (v.drop (i + 1) ++ s)) := by
  have h := sw_two (p ++ v.take i) [] (v.drop (i + 1) ++ s) x (v.getD i default) a b (by rw [List.length_append, List.length_take]; omega) (by rw [List.length_append, List.length_take, List.length_nil]; omega)
  rw [drop_one hi, take_one hi]
  simpa using h
theorem down_swap {α : Type} [Inhabited α] (p u s : List α) (y : α) (i a b : Nat) (hi : i < u.length) (ha : a = b + 1) (hb : b = p.length + i) : sw (p ++ (u.take (i + 1) ++ y :: (u.drop (i + 1) ++ s))) a b = p ++ (u.take i ++ y :: (u.drop i ++ s)) := by
  have h := sw_two' (p ++ u.take i) [] (u.drop (i + 1) ++ s) (u.getD i default) y b a (by rw [List.length_append, List.length_take]; omega) (by rw [List.length_append, List.length_take, List.length_nil]; omega)
  rw [drop_one hi, take_one hi]
  simpa using h
end Sy
end Sp

/-
  Proved: what some functions of the program answer, or a law of the evaluator that shows it, one theorem each; its conditions are the hypotheses that stand ahead of it.
-/
set_option linter.unusedVariables false
set_option linter.unusedSimpArgs false
namespace Sp
namespace Sy
/-- What may serve a stable sort: x may stand ahead of y just if c y x is not less than 0. -/
structure Pre {α : Type} (c : α → α → Int) : Prop where
  asym : ∀ x y, c x y < 0 → 0 ≤ c y x
  trans : ∀ x y z, 0 ≤ c y x → 0 ≤ c z y → 0 ≤ c z x
/-- Two lists put together; of two of which neither is ahead the first list's one goes first. -/
def mrg {α : Type} (c : α → α → Int) : List α → List α → List α
  | [], b => b
  | x :: a, [] => x :: a
  | x :: a, y :: b => if c y x < 0 then y :: mrg c (x :: a) b else x :: mrg c a (y :: b)
termination_by a b => a.length + b.length
theorem mrg_lt {α : Type} {c : α → α → Int} {x y : α} (a b : List α) (h : c y x < 0) : mrg c (x :: a) (y :: b) = y :: mrg c (x :: a) b := by rw [mrg, if_pos h]
theorem mrg_ge {α : Type} {c : α → α → Int} {x y : α} (a b : List α) (h : ¬ c y x < 0) : mrg c (x :: a) (y :: b) = x :: mrg c a (y :: b) := by rw [mrg, if_neg h]
theorem mrg_perm {α : Type} (c : α → α → Int) : ∀ (a b : List α), (mrg c a b).Perm (a ++ b)
  | [], b => by simp [mrg]
  | x :: a, [] => by simp [mrg]
  | x :: a, y :: b => by
    by_cases h : c y x < 0
    · rw [mrg_lt _ _ h]
      refine ((mrg_perm c (x :: a) b).cons y).trans ?_
      exact (List.perm_middle (l₁ := x :: a) (a := y) (l₂ := b)).symm
    · rw [mrg_ge _ _ h]
      exact (mrg_perm c a (y :: b)).cons x
termination_by a b => a.length + b.length
theorem mrg_mem {α : Type} (c : α → α → Int) (a b : List α) (x : α) : x ∈ mrg c a b ↔ x ∈ a ∨ x ∈ b := by
  rw [(mrg_perm c a b).mem_iff, List.mem_append]
/-- A list sorted, those of which none is ahead in their order. -/
def srt {α : Type} (c : α → α → Int) (l : List α) : List α := l.foldr (fun x s => mrg c [x] s) []
theorem srt_perm {α : Type} (c : α → α → Int) : ∀ (a : List α), (srt c a).Perm a
  | [] => by simp [srt]
  | x :: a => by
    show (mrg c [x] (srt c a)).Perm (x :: a)
    exact (mrg_perm c [x] (srt c a)).trans ((srt_perm c a).cons x)
/-- None has one behind it that is ahead. -/
def Sd {α : Type} (c : α → α → Int) (l : List α) : Prop := l.Pairwise (fun x y => 0 ≤ c y x)
theorem mrg_sd {α : Type} {c : α → α → Int} (H : Pre c) : ∀ (a b : List α), Sd c a → Sd c b → Sd c (mrg c a b)
  | [], b, ha, hb => by simpa [mrg] using hb
  | x :: a, [], ha, hb => by simpa [mrg] using ha
  | x :: a, y :: b, ha, hb => by
    have ha' := List.pairwise_cons.1 ha; have hb' := List.pairwise_cons.1 hb
    by_cases h : c y x < 0
    · rw [mrg_lt _ _ h]
      refine List.pairwise_cons.2 ⟨fun z hz => ?_, mrg_sd H (x :: a) b ha hb'.2⟩
      rcases (mrg_mem c _ _ z).1 hz with hz | hz
      · rcases List.mem_cons.1 hz with rfl | hz
        · exact H.asym _ _ h
        · exact H.trans _ _ _ (H.asym _ _ h) (ha'.1 z hz)
      · exact hb'.1 z hz
    · rw [mrg_ge _ _ h]
      refine List.pairwise_cons.2 ⟨fun z hz => ?_, mrg_sd H a (y :: b) ha'.2 hb⟩
      rcases (mrg_mem c _ _ z).1 hz with hz | hz
      · exact ha'.1 z hz
      · rcases List.mem_cons.1 hz with rfl | hz
        · omega
        · exact H.trans _ _ _ (by omega) (hb'.1 z hz)
termination_by a b => a.length + b.length
theorem srt_sd {α : Type} {c : α → α → Int} (H : Pre c) : ∀ (a : List α), Sd c (srt c a)
  | [] => by simp [srt, Sd]
  | x :: a => mrg_sd H [x] (srt c a) (by simp [Sd]) (srt_sd H a)
/-- Search by halves. -/
def bs (p : Nat → Bool) (lo hi : Nat) : Nat → Nat × Nat
  | 0 => (lo, hi)
  | i + 1 => let s := bs p lo hi i
    if p ((s.1 + s.2) / 2) then ((s.1 + s.2) / 2 + 1, s.2) else (s.1, (s.1 + s.2) / 2)
theorem bs_step (p : Nat → Bool) (lo hi i : Nat) : (p (((bs p lo hi i).1 + (bs p lo hi i).2) / 2) = true → (bs p lo hi (i + 1)).1 = ((bs p lo hi i).1 + (bs p lo hi i).2) / 2 + 1 ∧ (bs p lo hi (i + 1)).2 = (bs p lo hi i).2) ∧
    (p (((bs p lo hi i).1 + (bs p lo hi i).2) / 2) = false → (bs p lo hi (i + 1)).1 = (bs p lo hi i).1 ∧ (bs p lo hi (i + 1)).2 = ((bs p lo hi i).1 + (bs p lo hi i).2) / 2) := by
  constructor <;> intro h <;> simp [bs, h]
theorem bs_ends (p : Nat → Bool) (lo hi : Nat) (hl : lo ≤ hi) : ∃ N, (∀ i, i < N → (bs p lo hi i).1 < (bs p lo hi i).2) ∧ (bs p lo hi N).1 = (bs p lo hi N).2 ∧ (∀ i, i ≤ N → lo ≤ (bs p lo hi i).1 ∧ (bs p lo hi i).1 ≤ (bs p lo hi i).2 ∧ (bs p lo hi i).2 ≤ hi) ∧
    (lo < (bs p lo hi N).1 → p ((bs p lo hi N).1 - 1) = true) ∧ ((bs p lo hi N).1 < hi → p (bs p lo hi N).1 = false) := by
  have key : ∀ d i, (bs p lo hi i).2 - (bs p lo hi i).1 ≤ d → (lo ≤ (bs p lo hi i).1 ∧ (bs p lo hi i).1 ≤ (bs p lo hi i).2 ∧ (bs p lo hi i).2 ≤ hi) →
      (lo < (bs p lo hi i).1 → p ((bs p lo hi i).1 - 1) = true) → ((bs p lo hi i).2 < hi → p (bs p lo hi i).2 = false) →
      ∃ N, i ≤ N ∧ (∀ j, i ≤ j → j < N → (bs p lo hi j).1 < (bs p lo hi j).2) ∧ (bs p lo hi N).1 = (bs p lo hi N).2 ∧ (∀ j, i ≤ j → j ≤ N → lo ≤ (bs p lo hi j).1 ∧ (bs p lo hi j).1 ≤ (bs p lo hi j).2 ∧ (bs p lo hi j).2 ≤ hi) ∧
        (lo < (bs p lo hi N).1 → p ((bs p lo hi N).1 - 1) = true) ∧ ((bs p lo hi N).1 < hi → p (bs p lo hi N).1 = false) := by
    intro d
    induction d with
    | zero =>
      intro i hd hb h1 h2
      refine ⟨i, Nat.le_refl i, fun j h3 h4 => by omega, by omega, fun j h3 h4 => ?_, h1, ?_⟩
      · obtain rfl : j = i := by omega
        exact hb
      · intro h; have e : (bs p lo hi i).1 = (bs p lo hi i).2 := by omega
        rw [e] at h ⊢; exact h2 h
    | succ d ih =>
      intro i hd hb h1 h2
      by_cases he : (bs p lo hi i).1 = (bs p lo hi i).2
      · refine ⟨i, Nat.le_refl i, fun j h3 h4 => by omega, he, fun j h3 h4 => ?_, h1, ?_⟩
        · obtain rfl : j = i := by omega
          exact hb
        · intro h; rw [he] at h ⊢; exact h2 h
      · have hs := bs_step p lo hi i
        have hx : ∃ N, i + 1 ≤ N ∧ (∀ j, i + 1 ≤ j → j < N → (bs p lo hi j).1 < (bs p lo hi j).2) ∧ (bs p lo hi N).1 = (bs p lo hi N).2 ∧ (∀ j, i + 1 ≤ j → j ≤ N → lo ≤ (bs p lo hi j).1 ∧ (bs p lo hi j).1 ≤ (bs p lo hi j).2 ∧ (bs p lo hi j).2 ≤ hi) ∧
            (lo < (bs p lo hi N).1 → p ((bs p lo hi N).1 - 1) = true) ∧ ((bs p lo hi N).1 < hi → p (bs p lo hi N).1 = false) := by
          cases hp : p (((bs p lo hi i).1 + (bs p lo hi i).2) / 2) with
          | true =>
            obtain ⟨e1, e2⟩ := hs.1 hp
            refine ih (i + 1) (by omega) (by omega) ?_ ?_
            · intro _; rw [e1, Nat.add_sub_cancel]; exact hp
            · intro h; rw [e2] at h ⊢; exact h2 h
          | false =>
            obtain ⟨e1, e2⟩ := hs.2 hp
            refine ih (i + 1) (by omega) (by omega) ?_ ?_
            · intro h; rw [e1] at h ⊢; exact h1 h
            · intro h; rw [e2]; exact hp
        obtain ⟨N, q1, q2, q3, q4, q5, q6⟩ := hx
        refine ⟨N, by omega, fun j h3 h4 => ?_, q3, fun j h3 h4 => ?_, q5, q6⟩
        · rcases Nat.eq_or_lt_of_le h3 with rfl | h3
          · omega
          · exact q2 j (by omega) h4
        · rcases Nat.eq_or_lt_of_le h3 with rfl | h3
          · exact hb
          · exact q4 j (by omega) h4
  obtain ⟨N, _, q2, q3, q4, q5, q6⟩ := key hi 0 (by simp [bs]) (by simp [bs]; omega) (by simp [bs]) (by simp [bs])
  exact ⟨N, fun i h => q2 i (by omega) h, q3, fun i h => q4 i (by omega) h, q5, q6⟩
theorem getD_mid {α : Type} [Inhabited α] (a b : List α) (x : α) (n : Nat) (h : n = a.length) : (a ++ x :: b).getD n default = x := by
  subst h; simp
end Sy
end Sp
set_option linter.unusedVariables false
set_option linter.unusedSimpArgs false
namespace Sp
namespace Sy
end Sy
end Sp

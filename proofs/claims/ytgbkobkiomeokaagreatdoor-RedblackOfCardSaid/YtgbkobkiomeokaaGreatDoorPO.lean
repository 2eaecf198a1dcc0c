/-
  Proved: what some functions of the program answer, or a law of the evaluator that shows it, one theorem each; its conditions are the hypotheses that stand ahead of it.
-/
import Derived.Test.YtgbkobkiomeokaaGreatDoorH7
import Derived.Test.YtgbkobkiomeokaaGreatDoorPLine
set_option linter.unusedVariables false
set_option linter.unusedSimpArgs false
namespace Go.Sx
open Sp
/-! ### The six orders, and that each is a line -/
theorem lex_line {α : Type} {c : α → α → Int} {P : α → Prop} (h : Line c P) (f : α → Int) : Line (fun a b => orI (cmpI (f a) (f b)) (c a b)) P where
  three a b ha hb := by
    have h1 := cmpI_line.three (f a) (f b) trivial trivial
    have h2 := h.three a b ha hb
    simp only [orI]; split <;> omega
  turn a b ha hb := by
    have h1 := cmpI_line.turn (f a) (f b) trivial trivial
    have h2 := h.turn a b ha hb
    simp only [orI]; split <;> split <;> omega
  le_trans a b d ha hb hd := by
    have h1 := h.le_trans a b d ha hb hd
    simp only [orI, cmpI]
    intro h2 h3
    revert h2 h3
    split <;> split <;> split <;> (try split) <;> (try split) <;> (try split) <;> omega
theorem line_congr {α : Type} {c e : α → α → Int} {P : α → Prop} (h : Line c P) (he : ∀ a b, e a b = c a b) : Line e P := by
  have : e = c := by funext a b; exact he a b
  rw [this]; exact h
theorem line_turned {α : Type} {c : α → α → Int} {P : α → Prop} (h : Line c P) : Line (fun a b => c b a) P where
  three a b ha hb := h.three b a hb ha
  turn a b ha hb := by have := h.turn a b ha hb; have := h.turn b a hb ha; omega
  le_trans a b d ha hb hd h1 h2 := h.le_trans d b a hd hb ha h2 h1
noncomputable def runesC (a b : V) : Int := if a.kind = 3 ∧ b.kind = 3 then orI (cmpI (lettersN ⟨a.text.toArray⟩) (lettersN ⟨b.text.toArray⟩)) (cmpV a b) else cmpV a b
def nearC (a b : V) : Int := if a.kind = 2 ∧ b.kind = 2 then orI (cmpI (awayI a.num) (awayI b.num)) (cmpI a.num b.num) else cmpV a b
noncomputable def fullC (a b : V) : Int := orI (cmpI (fullH a) (fullH b)) (cmpV a b)
noncomputable def partsC (a b : V) : Int := orI (cmpI (countV a 16 1024) (countV b 16 1024)) (cmpV a b)
theorem cmp_kind (a b : V) : cmpV a b = orI (cmpI a.kind b.kind) (cmpV a b) := by
  cases a with | mk k n s l => cases b with | mk k' n' s' l' =>
  rw [cmpV_mk]
  simp only [orI, V.kind]
  by_cases h : k = k'
  · subst h; simp [cmpI_self]
  · have := mt cmpI_zero.1 h
    simp [this, h]
theorem runes_eq (a b : V) : runesC a b = orI (cmpI a.kind b.kind) (orI (cmpI (if a.kind = 3 then (lettersN ⟨a.text.toArray⟩ : Int) else 0) (if b.kind = 3 then (lettersN ⟨b.text.toArray⟩ : Int) else 0)) (cmpV a b)) := by
  unfold runesC
  by_cases h : a.kind = b.kind
  · rw [h, cmpI_self]
    by_cases h3 : b.kind = 3
    · simp [h3, orI]
    · simp [h3, orI, cmpI_self]
  · rw [if_neg (by omega), cmp_kind a b]
    have := mt cmpI_zero.1 h
    simp [orI, this]
theorem near_eq (a b : V) : nearC a b = orI (cmpI a.kind b.kind) (orI (cmpI (if a.kind = 2 then awayI a.num else 0) (if b.kind = 2 then awayI b.num else 0)) (cmpV a b)) := by
  unfold nearC
  by_cases h : a.kind = b.kind
  · rw [h, cmpI_self]
    by_cases h3 : b.kind = 2
    · rw [h3]
      cases a with | mk k n s l => cases b with | mk k' n' s' l' =>
      simp only [V.kind] at h h3
      subst h3; subst h
      simp only [orI, V.num, V.kind, cmpV_mk]
      by_cases h0 : cmpI (awayI n) (awayI n') = 0 <;> simp [h0]
    · simp [h3, orI, cmpI_self]
  · rw [if_neg (by omega), cmp_kind a b]
    have := mt cmpI_zero.1 h
    simp [orI, this]
/-- The order of a number. -/
noncomputable def cmpO (o : Int) : V → V → Int :=
  if o = 1 then fun a b => cmpV b a else if o = 2 then fullC else if o = 3 then partsC else if o = 4 then runesC else if o = 5 then nearC else cmpV
theorem cmpO_line (o : Int) : Line (cmpO o) (fun _ => True) := by
  unfold cmpO
  split
  · exact line_turned cmpV_line
  split
  · exact lex_line cmpV_line _
  split
  · exact lex_line cmpV_line _
  split
  · exact line_congr (lex_line (lex_line cmpV_line _) _) runes_eq
  split
  · exact line_congr (lex_line (lex_line cmpV_line _) _) near_eq
  · exact cmpV_line
end Go.Sx

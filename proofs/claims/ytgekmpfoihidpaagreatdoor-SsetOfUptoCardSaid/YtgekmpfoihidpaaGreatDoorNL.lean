/-
  Proved: what some functions of the program answer, or a law of the evaluator that shows it, one theorem each; its conditions are the hypotheses that stand ahead of it.
-/
import Derived.Test.YtgekmpfoihidpaaGreatDoorR5
import Derived.Test.YtgekmpfoihidpaaGreatDoorL3
set_option maxRecDepth 100000
set_option linter.unusedVariables false
set_option linter.unusedSimpArgs false
namespace Go.Sx
open Sp
/-- One word says less than another one. -/
def Le (x y : FV) : Prop := ∀ w ok v, FRel w ok x v → FRel w ok y v
def LeL : List FV → List FV → Prop
  | [], [] => True
  | x :: l, y :: m => Le x y ∧ LeL l m
  | _, _ => False
theorem LeL.nil : LeL [] [] := trivial
theorem LeL.cons {x y : FV} {l m : List FV} (h : Le x y) (t : LeL l m) : LeL (x :: l) (y :: m) := ⟨h, t⟩
theorem Le.rfl {x : FV} : Le x x := fun _ _ _ h => h
theorem LeL.refl : ∀ l : List FV, LeL l l
  | [] => trivial
  | x :: l => ⟨Le.rfl, LeL.refl l⟩
theorem LeL.app : ∀ (x l m : List FV), LeL l m → LeL (x ++ l) (x ++ m)
  | [], l, m, h => h
  | y :: x, l, m, h => ⟨Le.rfl, LeL.app x l m h⟩
theorem LeL.length : ∀ l m : List FV, LeL l m → l.length = m.length
  | [], [], _ => rfl
  | x :: l, y :: m, h => by simp [LeL.length l m h.2]
theorem relC_le {w : World} {ok : Nat → Prop} {b : Nat} : ∀ (l m : List FV) (o : Nat), LeL l m → FRelC w ok l b o → FRelC w ok m b o
  | [], [], _, _, h => h
  | x :: l, y :: m, o, hl, h => by
    simp only [FRelC] at h ⊢
    obtain ⟨⟨v, h1, h2⟩, h3⟩ := h
    exact ⟨⟨v, h1, hl.1 _ _ _ h2⟩, relC_le l m _ hl.2 h3⟩
theorem relL_le {w : World} {ok : Nat → Prop} : ∀ (l m : List FV) (cs : List Value), LeL l m → FRelL w ok l cs → FRelL w ok m cs
  | [], [], _, _, h => h
  | x :: l, y :: m, cs, hl, h => by
    simp only [FRelL] at h ⊢
    obtain ⟨v, r, e, h1, h2⟩ := h
    exact ⟨v, r, e, hl.1 _ _ _ h1, relL_le l m _ hl.2 h2⟩
theorem le_ptr {l m : List FV} (h : LeL l m) (k : Nat) : Le (.ptr l k) (.ptr m k) := by
  intro w ok v h1
  simp only [FRel] at h1 ⊢
  obtain ⟨b, o, e, h2, h3⟩ := h1
  exact ⟨b, o, e, h2, relC_le _ _ _ h h3⟩
theorem le_tup {l m : List FV} (h : LeL l m) : Le (.tup l) (.tup m) := by
  intro w ok v h1
  simp only [FRel] at h1 ⊢
  obtain ⟨cs, e, h2⟩ := h1
  exact ⟨cs, e, relL_le _ _ _ h h2⟩
theorem le_nils (z : Nat) : Le .nils (.sl z []) := nils_sl z
theorem le_zero : Le (.agg [int 0, int 0, str [], .nils]) (encV nilW) := nilV 0 0 []
theorem nilW_cells : cellsP nilW = [int 0, int 0, str [], .sl 4 []] := by simp [nilW, cellsP, V.kind, V.num, V.text, V.items, encI, cellsVs]
theorem CallsF.le {f : Nat} {args : List FV} {r s : FV} (h : CallsF P G f args r) (hl : Le r s) : CallsF P G f args s := h.weak hl
theorem CallsF.argL {f : Nat} {args args' : List FV} {r : FV} (h : CallsF P G f args r) (hl : LeL args' args) : CallsF P G f args' r := h.args fun w ok vs h1 => relL_le _ _ _ hl h1
theorem leL_zero : LeL [int 0, int 0, str [], .nils] [int 0, int 0, str [], .sl 4 []] := LeL.cons Le.rfl (LeL.cons Le.rfl (LeL.cons Le.rfl (LeL.cons (le_nils 4) LeL.nil)))
theorem le_map (o : Int) : Le (.ptr [int o, .nils] 0) (.ptr [int o, encPs []] 0) := le_ptr (LeL.cons Le.rfl (LeL.cons (le_nils 8) LeL.nil)) 0
end Go.Sx

/-
  Proved: what some functions of the program answer, or a law of the evaluator that shows it, one theorem each; its conditions are the hypotheses that stand ahead of it.
-/
import Derived.Test.YtdgodofdnaligaaDoorSxL
import Derived.Shelf.Unicode.DecodeAny
import Derived.Test.YtdgodofdnaligaaDoorProg
import Derived.KernelRfl
set_option linter.unusedVariables false
namespace Sp
inductive V where
  | mk (kind num : Int) (text : List UInt8) (items : List V)
deriving Inhabited
namespace V
def kind : V → Int | mk k _ _ _ => k
def num : V → Int | mk _ n _ _ => n
def text : V → List UInt8 | mk _ _ s _ => s
def items : V → List V | mk _ _ _ l => l
end V
/-- Induction over a value and its items. -/
theorem V.ind {P : V → Prop} (h : ∀ k n s l, (∀ x, x ∈ l → P x) → P (.mk k n s l)) : ∀ v, P v
  | .mk k n s l => h k n s l fun x hx => V.ind h x
termination_by v => sizeOf v
decreasing_by
  have := List.sizeOf_lt_of_mem hx
  simp only [V.mk.sizeOf_spec]
  omega
/-! ### The order -/
def cmpI (a b : Int) : Int := if a < b then -1 else if b < a then 1 else 0
def cmpB : List UInt8 → List UInt8 → Int
  | [], [] => 0
  | [], _ :: _ => -1
  | _ :: _, [] => 1
  | a :: l, b :: m => if a < b then -1 else if b < a then 1 else cmpB l m
mutual
def cmpV : V → V → Int
  | .mk k n s l, .mk k' n' s' l' =>
    if k ≠ k' then cmpI k k'
    else if k = 1 ∨ k = 2 then cmpI n n'
    else if k = 3 then cmpB s s'
    else if k = 4 ∨ k = 5 ∨ k = 6 then cmpL l l'
    else 0
def cmpL : List V → List V → Int
  | [], [] => 0
  | [], _ :: _ => -1
  | _ :: _, [] => 1
  | a :: l, b :: m => if cmpV a b = 0 then cmpL l m else cmpV a b
end
/-- What is asked of a comparison: its answers, that it turns about, that it is a line. -/
structure Line {α : Type} (c : α → α → Int) (P : α → Prop) : Prop where
  three : ∀ a b, P a → P b → c a b = -1 ∨ c a b = 0 ∨ c a b = 1
  turn : ∀ a b, P a → P b → c b a = - c a b
  le_trans : ∀ a b d, P a → P b → P d → c a b ≤ 0 → c b d ≤ 0 → c a d ≤ 0
namespace Line
variable {α : Type} {c : α → α → Int} {P : α → Prop} (h : Line c P)
include h
theorem refl (a : α) (ha : P a) : c a a = 0 := by have := h.turn a a ha ha; omega
theorem lt_of_lt_of_le {a b d : α} (ha : P a) (hb : P b) (hd : P d) (h1 : c a b < 0) (h2 : c b d ≤ 0) : c a d < 0 := by
  have h3 := h.le_trans a b d ha hb hd (by omega) h2
  rcases Int.lt_or_eq_of_le h3 with h4 | h4
  · exact h4
  · have h5 := h.turn a d ha hd
    have h6 := h.le_trans b d a hb hd ha h2 (by omega)
    have h7 := h.turn a b ha hb
    omega
theorem lt_of_le_of_lt {a b d : α} (ha : P a) (hb : P b) (hd : P d) (h1 : c a b ≤ 0) (h2 : c b d < 0) : c a d < 0 := by
  have h3 := h.le_trans a b d ha hb hd h1 (by omega)
  rcases Int.lt_or_eq_of_le h3 with h4 | h4
  · exact h4
  · have h5 := h.turn a d ha hd
    have h6 := h.le_trans d a b hd ha hb (by omega) h1
    have h7 := h.turn b d hb hd
    omega
theorem lt_trans {a b d : α} (ha : P a) (hb : P b) (hd : P d) (h1 : c a b < 0) (h2 : c b d < 0) : c a d < 0 := h.lt_of_lt_of_le ha hb hd h1 (by omega)
theorem eq_left {a b d : α} (ha : P a) (hb : P b) (hd : P d) (h1 : c a b = 0) : c a d = c b d := by
  have t1 := h.turn a b ha hb
  have t2 := h.turn a d ha hd
  have t3 := h.turn b d hb hd
  have r1 := h.three a d ha hd
  have r2 := h.three b d hb hd
  have l1 := h.le_trans a b d ha hb hd (by omega)
  have l2 := h.le_trans b a d hb ha hd (by omega)
  have l3 := h.le_trans d a b hd ha hb
  have l4 := h.le_trans d b a hd hb ha
  omega
end Line
theorem cmpI_line : Line cmpI (fun _ => True) where
  three a b _ _ := by unfold cmpI; split <;> (try split) <;> simp
  turn a b _ _ := by unfold cmpI; split <;> (try split) <;> (try split) <;> omega
  le_trans a b d _ _ _ := by unfold cmpI; intro h1 h2; split at h1 <;> (try split at h1) <;> split at h2 <;> (try split at h2) <;> split <;> (try split) <;> omega
theorem cmpI_zero {a b : Int} : cmpI a b = 0 ↔ a = b := by unfold cmpI; split <;> (try split) <;> omega
theorem cmpI_lt {a b : Int} : cmpI a b < 0 ↔ a < b := by unfold cmpI; split <;> (try split) <;> omega
theorem cmpI_self (a : Int) : cmpI a a = 0 := cmpI_zero.2 rfl
theorem u8_lt {a b : UInt8} : a < b ↔ a.toNat < b.toNat := UInt8.lt_iff_toNat_lt
theorem u8_eq {a b : UInt8} (h : ¬ a < b) (h' : ¬ b < a) : a = b := by
  rw [u8_lt] at h h'
  exact UInt8.toNat_inj.1 (by omega)
theorem cmpB_cons (a b : UInt8) (l m : List UInt8) : cmpB (a :: l) (b :: m) = if cmpI a.toNat b.toNat = 0 then cmpB l m else cmpI a.toNat b.toNat := by
  simp only [cmpB, u8_lt, cmpI]
  split <;> (try split) <;> (try split) <;> first | rfl | omega
/-- A comparison of lists, place by place. -/
def lexC {α : Type} (c : α → α → Int) : List α → List α → Int
  | [], [] => 0
  | [], _ :: _ => -1
  | _ :: _, [] => 1
  | a :: l, b :: m => if c a b = 0 then lexC c l m else c a b
theorem lex_three {α : Type} {c : α → α → Int} : ∀ (l m : List α), (∀ a b, a ∈ l → b ∈ m → c a b = -1 ∨ c a b = 0 ∨ c a b = 1) → lexC c l m = -1 ∨ lexC c l m = 0 ∨ lexC c l m = 1
  | [], [], _ => by simp [lexC]
  | [], _ :: _, _ => by simp [lexC]
  | _ :: _, [], _ => by simp [lexC]
  | a :: l, b :: m, h => by
    simp only [lexC]
    split
    · exact lex_three l m fun x y hx hy => h x y (.tail _ hx) (.tail _ hy)
    · exact h a b (.head _) (.head _)
theorem lex_turn {α : Type} {c : α → α → Int} : ∀ (l m : List α), (∀ a b, a ∈ l → b ∈ m → c b a = - c a b) → lexC c m l = - lexC c l m
  | [], [], _ => by simp [lexC]
  | [], _ :: _, _ => by simp [lexC]
  | _ :: _, [], _ => by simp [lexC]
  | a :: l, b :: m, h => by
    simp only [lexC]
    have h1 := h a b (.head _) (.head _)
    have h2 := lex_turn l m fun x y hx hy => h x y (.tail _ hx) (.tail _ hy)
    rw [h1, h2]
    split <;> split <;> omega
theorem lex_le_trans {α : Type} {c : α → α → Int} {P : α → Prop} (H : Line c P) : ∀ (l m k : List α), (∀ a, a ∈ l → P a) → (∀ a, a ∈ m → P a) → (∀ a, a ∈ k → P a) → lexC c l m ≤ 0 → lexC c m k ≤ 0 → lexC c l k ≤ 0
  | [], _, [], _, _, _ => by simp [lexC]
  | [], _, _ :: _, _, _, _ => by simp [lexC]
  | _ :: _, [], _, _, _, _ => by simp [lexC]
  | _ :: _, _ :: _, [], _, _, _ => by simp [lexC]
  | a :: l, b :: m, d :: k, h1, h2, h3 => by
    simp only [lexC]
    have pa := h1 a (.head _)
    have pb := h2 b (.head _)
    have pd := h3 d (.head _)
    have ih := lex_le_trans H l m k (fun x hx => h1 x (.tail _ hx)) (fun x hx => h2 x (.tail _ hx)) (fun x hx => h3 x (.tail _ hx))
    intro g1 g2
    by_cases e1 : c a b = 0
    · rw [if_pos e1] at g1
      rw [H.eq_left pa pb pd e1]
      by_cases e2 : c b d = 0
      · rw [if_pos e2] at g2 ⊢
        exact ih g1 g2
      · rw [if_neg e2] at g2 ⊢
        exact g2
    · rw [if_neg e1] at g1
      have : c a d < 0 := by
        by_cases e2 : c b d = 0
        · exact H.lt_of_lt_of_le pa pb pd (by omega) (by omega)
        · rw [if_neg e2] at g2
          exact H.lt_of_lt_of_le pa pb pd (by omega) g2
      rw [if_neg (by omega)]
      omega
theorem cmpL_lex : ∀ l m, cmpL l m = lexC cmpV l m
  | [], [] => by simp [cmpL, lexC]
  | [], _ :: _ => by simp [cmpL, lexC]
  | _ :: _, [] => by simp [cmpL, lexC]
  | a :: l, b :: m => by simp only [cmpL, lexC, cmpL_lex l m]
theorem cmpB_lex : ∀ l m, cmpB l m = lexC (fun a b : UInt8 => cmpI a.toNat b.toNat) l m
  | [], [] => by simp [cmpB, lexC]
  | [], _ :: _ => by simp [cmpB, lexC]
  | _ :: _, [] => by simp [cmpB, lexC]
  | a :: l, b :: m => by rw [cmpB_cons, cmpB_lex l m]; rfl
theorem cmpB_byte : Line (fun a b : UInt8 => cmpI a.toNat b.toNat) (fun _ => True) where
  three a b _ _ := cmpI_line.three _ _ trivial trivial
  turn a b _ _ := cmpI_line.turn _ _ trivial trivial
  le_trans a b d _ _ _ := cmpI_line.le_trans _ _ _ trivial trivial trivial
theorem cmpB_line : Line cmpB (fun _ => True) where
  three a b _ _ := by rw [cmpB_lex]; exact lex_three _ _ fun _ _ _ _ => cmpB_byte.three _ _ trivial trivial
  turn a b _ _ := by rw [cmpB_lex, cmpB_lex]; exact lex_turn _ _ fun _ _ _ _ => cmpB_byte.turn _ _ trivial trivial
  le_trans a b d _ _ _ := by rw [cmpB_lex, cmpB_lex, cmpB_lex]; exact lex_le_trans cmpB_byte _ _ _ (fun _ _ => trivial) (fun _ _ => trivial) (fun _ _ => trivial)
theorem cmpB_zero : ∀ {l m : List UInt8}, cmpB l m = 0 ↔ l = m
  | [], [] => by simp [cmpB]
  | [], _ :: _ => by simp [cmpB]
  | _ :: _, [] => by simp [cmpB]
  | a :: l, b :: m => by
    rw [cmpB_cons]
    by_cases h : cmpI a.toNat b.toNat = 0
    · rw [if_pos h]
      have := cmpI_zero.1 h
      have e : a = b := UInt8.toNat_inj.1 (by omega)
      simp [e, cmpB_zero (l := l) (m := m)]
    · rw [if_neg h]
      constructor
      · intro h'; exact absurd h' h
      · intro h'; injection h' with h1 h2; subst h1; exact absurd (cmpI_self _) h
theorem cmpV_mk (k n k' n' : Int) (s s' : List UInt8) (l l' : List V) : cmpV (.mk k n s l) (.mk k' n' s' l') =
    if k ≠ k' then cmpI k k' else if k = 1 ∨ k = 2 then cmpI n n' else if k = 3 then cmpB s s' else if k = 4 ∨ k = 5 ∨ k = 6 then lexC cmpV l l' else 0 := by
  rw [cmpV]; simp only [cmpL_lex]
theorem cmpV_three : ∀ a b, cmpV a b = -1 ∨ cmpV a b = 0 ∨ cmpV a b = 1 := by
  intro a
  induction a using V.ind with
  | h k n s l ih =>
    intro b
    cases b with
    | mk k' n' s' l' =>
      rw [cmpV_mk]
      split
      · exact cmpI_line.three _ _ trivial trivial
      · split
        · exact cmpI_line.three _ _ trivial trivial
        · split
          · exact cmpB_line.three _ _ trivial trivial
          · split
            · exact lex_three _ _ fun x y hx _ => ih x hx y
            · simp
theorem cmpV_turn : ∀ a b, cmpV b a = - cmpV a b := by
  intro a
  induction a using V.ind with
  | h k n s l ih =>
    intro b
    cases b with
    | mk k' n' s' l' =>
      rw [cmpV_mk, cmpV_mk]
      by_cases e : k = k'
      · subst e
        simp only [ne_eq, not_true_eq_false, if_false]
        split
        · exact cmpI_line.turn _ _ trivial trivial
        · split
          · exact cmpB_line.turn _ _ trivial trivial
          · split
            · exact lex_turn _ _ fun x y hx _ => ih x hx y
            · rfl
      · rw [if_pos e, if_pos (Ne.symm e)]
        exact cmpI_line.turn _ _ trivial trivial
theorem cmpV_le_trans : ∀ a b d, cmpV a b ≤ 0 → cmpV b d ≤ 0 → cmpV a d ≤ 0 := by
  -- by the size of the first: all its items are smaller
  have main : ∀ N : Nat, ∀ a b d : V, sizeOf a + sizeOf b + sizeOf d ≤ N → cmpV a b ≤ 0 → cmpV b d ≤ 0 → cmpV a d ≤ 0 := by
    intro N
    induction N with
    | zero => intro a b d h; cases a; simp [V.mk.sizeOf_spec] at h
    | succ N ih =>
      intro a b d hN
      cases a with
      | mk k n s l =>
      cases b with
      | mk k' n' s' l' =>
      cases d with
      | mk k'' n'' s'' l'' =>
        rw [cmpV_mk, cmpV_mk, cmpV_mk]
        intro h1 h2
        by_cases e1 : k = k'
        · subst e1
          rw [if_neg (by simp)] at h1
          by_cases e2 : k = k''
          · subst e2
            rw [if_neg (by simp)] at h2 ⊢
            by_cases q1 : k = 1 ∨ k = 2
            · rw [if_pos q1] at h1 h2 ⊢
              exact cmpI_line.le_trans _ _ _ trivial trivial trivial h1 h2
            · rw [if_neg q1] at h1 h2 ⊢
              by_cases q2 : k = 3
              · rw [if_pos q2] at h1 h2 ⊢
                exact cmpB_line.le_trans _ _ _ trivial trivial trivial h1 h2
              · rw [if_neg q2] at h1 h2 ⊢
                by_cases q3 : k = 4 ∨ k = 5 ∨ k = 6
                · rw [if_pos q3] at h1 h2 ⊢
                  -- the items, one by one
                  have go : ∀ x y z : List V, sizeOf x + sizeOf y + sizeOf z ≤ N → lexC cmpV x y ≤ 0 → lexC cmpV y z ≤ 0 → lexC cmpV x z ≤ 0 := by
                    intro x
                    induction x with
                    | nil => intro y z _ _ _; cases z <;> simp [lexC]
                    | cons p x ihx =>
                      intro y z hs g1 g2
                      cases y with
                      | nil => simp [lexC] at g1
                      | cons q y =>
                        cases z with
                        | nil => simp [lexC] at g2
                        | cons r z =>
                          simp only [List.cons.sizeOf_spec] at hs
                          simp only [lexC] at g1 g2 ⊢
                          have t1 := ih p q r (by omega)
                          have t2 := ih q r p (by omega)
                          have t3 := ih r p q (by omega)
                          have t4 := ih q p r (by omega)
                          have t5 := ih p r q (by omega)
                          have t6 := ih r q p (by omega)
                          have u1 := cmpV_turn p q
                          have u2 := cmpV_turn q r
                          have u3 := cmpV_turn p r
                          have v1 := cmpV_three p q
                          have v2 := cmpV_three q r
                          have v3 := cmpV_three p r
                          by_cases w1 : cmpV p q = 0
                          · rw [if_pos w1] at g1
                            by_cases w2 : cmpV q r = 0
                            · rw [if_pos w2] at g2
                              rw [if_pos (by omega)]
                              exact ihx y z (by omega) g1 g2
                            · rw [if_neg w2] at g2
                              rw [if_neg (by omega)]
                              omega
                          · rw [if_neg w1] at g1
                            by_cases w2 : cmpV q r = 0
                            · rw [if_neg (by omega)]
                              omega
                            · rw [if_neg w2] at g2
                              rw [if_neg (by omega)]
                              omega
                  refine go l l' l'' ?_ h1 h2
                  simp only [V.mk.sizeOf_spec] at hN
                  omega
                · rw [if_neg q3]; omega
          · rw [if_pos e2] at h2 ⊢
            exact h2
        · rw [if_pos e1] at h1
          have l1 : k < k' := by have := cmpI_zero (a := k) (b := k'); have := cmpI_lt (a := k) (b := k'); omega
          by_cases e2 : k' = k''
          · subst e2
            rw [if_pos (by omega)]
            exact h1
          · rw [if_pos e2] at h2
            have l2 : k' < k'' := by have := cmpI_zero (a := k') (b := k''); have := cmpI_lt (a := k') (b := k''); omega
            rw [if_pos (by omega)]
            have := cmpI_lt (a := k) (b := k'')
            omega
  exact fun a b d => main _ a b d (Nat.le_refl _)
theorem cmpV_line : Line cmpV (fun _ => True) where
  three a b _ _ := cmpV_three a b
  turn a b _ _ := cmpV_turn a b
  le_trans a b d _ _ _ := cmpV_le_trans a b d
end Sp
set_option maxRecDepth 100000
namespace Go.Sx
open Go.Proofs Sp
noncomputable abbrev P : Program := Tryd.prog
theorem tabs_keep {w w' : World} (hx : ∀ k, k < w.heap.size → (k = 1 ∨ k = 2) → w'.heap[k]? = w.heap[k]?) (h : Lib.Utf8Tabs 1 2 w) : Lib.Utf8Tabs 1 2 w' := by
  have key : ∀ (g o : Nat) (v : Value), (g = 1 ∨ g = 2) → w.cell? ⟨g, o, none⟩ = some v → w'.cell? ⟨g, o, none⟩ = some v := fun g o v hg hv => by
    rw [World.cell?_of_block (w := w) (a := ⟨g, o, none⟩) (hx g (World.block_lt_of_cell? w _ hv) hg)]; exact hv
  exact ⟨fun c hc => key _ _ _ (.inl rfl) (h.1 c hc), fun i hi => ⟨key _ _ _ (.inr rfl) (h.2 i hi).1, key _ _ _ (.inr rfl) (h.2 i hi).2⟩⟩
/-- What every world bears: the two tables of unicode/utf8. -/
def G : Gr where
  p w := Lib.Utf8Tabs 1 2 w
  ext w w' hx h := tabs_keep (fun k hk _ => hx.block k hk) h
  has b := b = 1 ∨ b = 2
  extX w w' hx h := tabs_keep hx h
  lt w b h hb := by
    rcases hb with rfl | rfl
    · exact World.block_lt_of_cell? w _ (h.1 0 (by omega))
    · exact World.block_lt_of_cell? w _ (h.2 0 (by omega)).1
  strict := false
def int (n : Int) : FV := .sc (.int .i64 n)
def bool (b : Bool) : FV := .sc (.bool b)
def str (s : List UInt8) : FV := .sc (.string ⟨s.toArray⟩)
mutual
def cellsV : V → List FV
  | .mk k n s l => [int k, int n, str s, .sl 4 (cellsVs l)]
def cellsVs : List V → List (List FV)
  | [] => []
  | x :: l => cellsV x :: cellsVs l
end
/-- The same, by fields. -/
def cellsP (v : V) : List FV := [int v.kind, int v.num, str v.text, .sl 4 (cellsVs v.items)]
theorem cellsP_eq (v : V) : cellsV v = cellsP v := by cases v; rfl
def encV (v : V) : FV := .agg (cellsP v)
def encI (l : List V) : FV := .sl 4 (cellsVs l)
theorem cellsVs_length : ∀ l, (cellsVs l).length = l.length
  | [] => rfl
  | x :: l => by simp [cellsVs, cellsVs_length l]
theorem cellsVs_get : ∀ (l : List V) (i : Nat), i < l.length → (cellsVs l)[i]? = some (cellsP (l.getD i default))
  | [], i, h => by simp at h
  | x :: l, 0, h => by simp [cellsVs, cellsP_eq]
  | x :: l, i + 1, h => by simpa [cellsVs] using cellsVs_get l i (by simpa using h)
def slots (n : Nat) (l : List (Nat × AV)) : List AV := (List.range n).map fun i => (l.lookup i).getD .nul
theorem wrapS (n : Int) (h1 : -9223372036854775808 ≤ n) (h2 : n ≤ 9223372036854775807) : IntKind.i64.wrap n = n := by
  rw [IntKind.wrap_i64]; omega
theorem sx_fn {Q : Program} {G' : Gr} {f : Nat} {fn : Func} {args : List FV} {hs : List Hint} {r : FV} (OB : Prop) (hf : Q.funcs[f]? = some fn) (he : entersP Q f = true) (e : evalFn Q G' fn args hs r = OB) (h : OB) : CallsF Q G' f args r :=
  CallsF_of_evalFn hf he (by rw [e]; exact h)
/-- The same on both sides. -/
abbrev E {α : Type} (x : α) : Prop := x = x
abbrev Br (b : Bool) (x y : Prop) : Prop := (b = true → x) ∧ (b = false → y)
theorem sx_fnX {Q : Program} {G' : Gr} {f : Nat} {fn : Func} {args : List FV} {Y : Yd} {i i' : Nat} {hs : List Hint} {r : FV} (OB : Prop) (hf : Q.funcs[f]? = some fn) (he : entersP Q f = true) (e : evalFnX Q G' fn args Y i hs r i' = OB) (h : OB) : CallsX Q G' f args Y i r i' :=
  CallsX_of_evalFnX hf he (by rw [e]; exact h)
end Go.Sx
set_option maxRecDepth 100000
set_option maxHeartbeats 4000000
set_option linter.unusedSimpArgs false
set_option linter.unusedVariables false
namespace Go.Sx
open Go.Proofs Sp
theorem get78 : P.funcs[78]? = some Tryd.f78 := by kernel_rfl
theorem ent78 : entersP P 78 = true := by kernel_rfl
theorem isNaN_ok {g : Gr} (a : Int)  : CallsF P g 78 [int a] (bool false) := by
  refine sx_fn (hs := []) ((bool (a != a)) = (bool false)) get78 ent78 (by kernel_rfl) ?_
  all_goals simp
theorem get79 : P.funcs[79]? = some Tryd.f79 := by kernel_rfl
theorem ent79 : entersP P 79 = true := by kernel_rfl
theorem isNaN64_ok {g : Gr} (a : Int)  : CallsF P g 79 [int a] (bool false) := by
  refine sx_fn (hs := []) ((bool (a != a)) = (bool false)) get79 ent79 (by kernel_rfl) ?_
  all_goals simp
theorem get66 : P.funcs[66]? = some Tryd.f66 := by kernel_rfl
theorem ent66 : entersP P 66 = true := by kernel_rfl
theorem cmpInt_lt {g : Gr} (a b : Int) (h : a < b) : CallsF P g 66 [int a, int b] (int (-1)) := by
  refine sx_fn (hs := [.call (bool false), .call (bool false), .dec false, .dec false, .dec true]) ((CallsF P g 78 [int a] (bool false)) ∧ (CallsF P g 78 [int b] (bool false)) ∧ (E (false)) ∧ (E (false)) ∧ ((decide (a < b)) = (true)) ∧ E (int (-1))) get66 ent66 (by kernel_rfl) ?_
  refine ⟨?_, ⟨?_, ⟨rfl, ⟨rfl, ⟨?_, rfl⟩⟩⟩⟩⟩
  all_goals first | exact isNaN_ok _ | (simp only [decide_eq_true_eq, decide_eq_false_iff_not]; omega)
theorem cmpInt_gt {g : Gr} (a b : Int) (h : b < a) : CallsF P g 66 [int a, int b] (int 1) := by
  refine sx_fn (hs := [.call (bool false), .call (bool false), .dec false, .dec false, .dec false, .dec true]) (CallsF P g 78 [int a] (bool false) ∧ CallsF P g 78 [int b] (bool false) ∧ E false ∧ E false ∧ decide (a < b) = false ∧ decide (a > b) = true ∧ E (int 1)) get66 ent66 (by kernel_rfl) ?_
  refine ⟨?_, ?_, rfl, rfl, ?_, ?_, rfl⟩
  all_goals first | exact isNaN_ok _ | (simp only [decide_eq_true_eq, decide_eq_false_iff_not]; omega)
theorem cmpInt_eq {g : Gr} (a b : Int) (h : a = b) : CallsF P g 66 [int a, int b] (int 0) := by
  refine sx_fn (hs := [.call (bool false), .call (bool false), .dec false, .dec false, .dec false, .dec false]) (CallsF P g 78 [int a] (bool false) ∧ CallsF P g 78 [int b] (bool false) ∧ E false ∧ E false ∧ decide (a < b) = false ∧ decide (a > b) = false ∧ E (int 0)) get66 ent66 (by kernel_rfl) ?_
  refine ⟨?_, ?_, rfl, rfl, ?_, ?_, rfl⟩
  all_goals first | exact isNaN_ok _ | (simp only [decide_eq_true_eq, decide_eq_false_iff_not]; omega)
theorem cmpInt_ok {g : Gr} (a b : Int) : CallsF P g 66 [int a, int b] (int (cmpI a b)) := by
  unfold cmpI
  split
  · exact cmpInt_lt a b (by assumption)
  · split
    · exact cmpInt_gt a b (by assumption)
    · exact cmpInt_eq a b (by omega)
theorem get67 : P.funcs[67]? = some Tryd.f67 := by kernel_rfl
theorem ent67 : entersP P 67 = true := by kernel_rfl
theorem cmpInt64_lt {g : Gr} (a b : Int) (h : a < b) : CallsF P g 67 [int a, int b] (int (-1)) := by
  refine sx_fn (hs := [.call (bool false), .call (bool false), .dec false, .dec false, .dec true]) ((CallsF P g 79 [int a] (bool false)) ∧ (CallsF P g 79 [int b] (bool false)) ∧ (E (false)) ∧ (E (false)) ∧ ((decide (a < b)) = (true)) ∧ E (int (-1))) get67 ent67 (by kernel_rfl) ?_
  refine ⟨?_, ⟨?_, ⟨rfl, ⟨rfl, ⟨?_, rfl⟩⟩⟩⟩⟩
  all_goals first | exact isNaN64_ok _ | (simp only [decide_eq_true_eq, decide_eq_false_iff_not]; omega)
theorem cmpInt64_gt {g : Gr} (a b : Int) (h : b < a) : CallsF P g 67 [int a, int b] (int 1) := by
  refine sx_fn (hs := [.call (bool false), .call (bool false), .dec false, .dec false, .dec false, .dec true]) (CallsF P g 79 [int a] (bool false) ∧ CallsF P g 79 [int b] (bool false) ∧ E false ∧ E false ∧ decide (a < b) = false ∧ decide (a > b) = true ∧ E (int 1)) get67 ent67 (by kernel_rfl) ?_
  refine ⟨?_, ?_, rfl, rfl, ?_, ?_, rfl⟩
  all_goals first | exact isNaN64_ok _ | (simp only [decide_eq_true_eq, decide_eq_false_iff_not]; omega)
theorem cmpInt64_eq {g : Gr} (a b : Int) (h : a = b) : CallsF P g 67 [int a, int b] (int 0) := by
  refine sx_fn (hs := [.call (bool false), .call (bool false), .dec false, .dec false, .dec false, .dec false]) (CallsF P g 79 [int a] (bool false) ∧ CallsF P g 79 [int b] (bool false) ∧ E false ∧ E false ∧ decide (a < b) = false ∧ decide (a > b) = false ∧ E (int 0)) get67 ent67 (by kernel_rfl) ?_
  refine ⟨?_, ?_, rfl, rfl, ?_, ?_, rfl⟩
  all_goals first | exact isNaN64_ok _ | (simp only [decide_eq_true_eq, decide_eq_false_iff_not]; omega)
theorem cmpInt64_ok {g : Gr} (a b : Int) : CallsF P g 67 [int a, int b] (int (cmpI a b)) := by
  unfold cmpI
  split
  · exact cmpInt64_lt a b (by assumption)
  · split
    · exact cmpInt64_gt a b (by assumption)
    · exact cmpInt64_eq a b (by omega)
end Go.Sx
set_option maxRecDepth 100000
set_option maxHeartbeats 4000000
set_option linter.unusedSimpArgs false
set_option linter.unusedVariables false
namespace Go.Sx
open Go.Proofs Sp
theorem lex_split {α : Type} [Inhabited α] (c : α → α → Int) : ∀ (l m : List α), ∃ N, N ≤ l.length ∧ N ≤ m.length ∧ (∀ i, i < N → c (l.getD i default) (m.getD i default) = 0) ∧
    ((N = l.length ∧ N = m.length ∧ lexC c l m = 0) ∨ (N = l.length ∧ N < m.length ∧ lexC c l m = -1) ∨ (N = m.length ∧ N < l.length ∧ lexC c l m = 1) ∨
     (N < l.length ∧ N < m.length ∧ c (l.getD N default) (m.getD N default) ≠ 0 ∧ lexC c l m = c (l.getD N default) (m.getD N default)))
  | [], [] => ⟨0, by simp [lexC]⟩
  | [], _ :: _ => ⟨0, by simp [lexC]⟩
  | _ :: _, [] => ⟨0, by simp [lexC]⟩
  | a :: l, b :: m => by
    by_cases h : c a b = 0
    · obtain ⟨N, h1, h2, h3, h4⟩ := lex_split c l m
      refine ⟨N + 1, by simp; omega, by simp; omega, ?_, ?_⟩
      · intro i hi
        cases i with
        | zero => simpa using h
        | succ i => simpa using h3 i (by omega)
      · simp only [lexC, if_pos h, List.length_cons, List.getD_cons_succ]
        omega
    · exact ⟨0, by simp, by simp, by simp, by simp [lexC, h]⟩
def Scmp (f : Nat) (l m : List V) (i : Nat) : St := { sl := slots 39 [(0, .f (encI l)), (1, .f (encI m)), (2, .f (.fn f [] [])), (6, .f (int 0)), (11, .f (encI l)), (12, .f (int (cellsVs l).length)), (13, .f (int i))], ob := [], nx := 0 }
def Hcmp (l m : List V) (i : Nat) : List Hint := [.dec true, .el (cellsP (l.getD i default)), .dec false, .el (cellsP (m.getD i default)), .call (int 0), .dec false]
theorem get69 : P.funcs[69]? = some Tryd.f69 := by kernel_rfl
theorem ent69 : entersP P 69 = true := by kernel_rfl
theorem cmpF_less {g : Gr} (f : Nat) (l m : List V) (N : Nat) (hl : l.length ≤ 9223372036854775806) (hc : ∀ i, i < N → CallsF P g f [encV (l.getD i default), encV (m.getD i default)] (int 0)) (h1 : N ≤ l.length) (h2 : N ≤ m.length) (h3 : N = l.length) (h4 : N < m.length) : CallsF P g 69 [encI l, encI m, .fn f [] []] (int (-1)) := by
  refine sx_fn (hs := [.loop [] [] (Scmp f l m) N (Hcmp l m), .dec false, .dec true]) (let z1 := (↑(List.length (cellsVs l)) : Int); let z2 := (↑(List.length (cellsVs m)) : Int); (E true ∧ (E (AV.f (encI l)) ∧ E (AV.f (encI m)) ∧ E (AV.f (FV.fn f [] [])) ∧ E (AV.f (int 0)) ∧ E (AV.f (encI l)) ∧ E (AV.f (int z1)) ∧ AV.f (int 0) = AV.f (int (Int.ofNat 0)) ∧ True) ∧ True ∧ E true ∧ (false = true → false = true)) ∧ (∀ (i : Nat), i < N → decide ((i : Int) < z1) = true ∧ (E 4 ∧ (0 : Int) ≤ (i : Int) ∧ (cellsVs l)[i]? = some (cellsP (List.getD l i default))) ∧ decide ((i : Int) ≥ z2) = false ∧ (E 4 ∧ (0 : Int) ≤ (i : Int) ∧ (cellsVs m)[i]? = some (cellsP (List.getD m i default))) ∧ CallsF P g f [encV (List.getD l i default), encV (List.getD m i default)] (int 0) ∧ E false ∧ E true ∧ (E (AV.f (encI l)) ∧ E (AV.f (encI m)) ∧ E (AV.f (FV.fn f [] [])) ∧ E (AV.f (int 0)) ∧ E (AV.f (encI l)) ∧ E (AV.f (int z1)) ∧ AV.f (int (IntKind.wrap IntKind.i64 ((i : Int) + 1))) = AV.f (int (↑(i + 1) : Int)) ∧ True) ∧ True ∧ E true ∧ (false = true → false = true)) ∧ decide ((N : Int) < z1) = false ∧ decide (z1 < z2) = true ∧ E (int (-1))) get69 ent69 (by kernel_rfl) ?_
  refine ⟨⟨rfl, ⟨rfl, rfl, rfl, rfl, rfl, rfl, ?_, trivial⟩, trivial, rfl, fun hi => ?_⟩, fun i => fun hi => ⟨?_, ⟨rfl, ?_, ?_⟩, ?_, ⟨rfl, ?_, ?_⟩, ?_, rfl, rfl, ⟨rfl, rfl, rfl, rfl, rfl, rfl, ?_, trivial⟩, trivial, rfl, fun hi => ?_⟩, ?_, ?_, rfl⟩
  all_goals first | exact hc i hi | exact cellsVs_get l i (by omega) | exact cellsVs_get m i (by omega) | (simp [cellsVs_length]; done) | (simp [cellsVs_length]; omega) | (rw [wrapS _ (by omega) (by omega)]; rfl) | assumption
theorem cmpF_same {g : Gr} (f : Nat) (l m : List V) (N : Nat) (hl : l.length ≤ 9223372036854775806) (hc : ∀ i, i < N → CallsF P g f [encV (l.getD i default), encV (m.getD i default)] (int 0)) (h1 : N ≤ l.length) (h2 : N ≤ m.length) (h3 : N = l.length) (h4 : N = m.length) : CallsF P g 69 [encI l, encI m, .fn f [] []] (int 0) := by
  refine sx_fn (hs := [.loop [] [] (Scmp f l m) N (Hcmp l m), .dec false, .dec false]) (let z1 := (↑(List.length (cellsVs l)) : Int); let z2 := (↑(List.length (cellsVs m)) : Int); (E true ∧ (E (AV.f (encI l)) ∧ E (AV.f (encI m)) ∧ E (AV.f (FV.fn f [] [])) ∧ E (AV.f (int 0)) ∧ E (AV.f (encI l)) ∧ E (AV.f (int z1)) ∧ AV.f (int 0) = AV.f (int (Int.ofNat 0)) ∧ True) ∧ True ∧ E true ∧ (false = true → false = true)) ∧ (∀ (i : Nat), i < N → decide ((i : Int) < z1) = true ∧ (E 4 ∧ (0 : Int) ≤ (i : Int) ∧ (cellsVs l)[i]? = some (cellsP (List.getD l i default))) ∧ decide ((i : Int) ≥ z2) = false ∧ (E 4 ∧ (0 : Int) ≤ (i : Int) ∧ (cellsVs m)[i]? = some (cellsP (List.getD m i default))) ∧ CallsF P g f [encV (List.getD l i default), encV (List.getD m i default)] (int 0) ∧ E false ∧ E true ∧ (E (AV.f (encI l)) ∧ E (AV.f (encI m)) ∧ E (AV.f (FV.fn f [] [])) ∧ E (AV.f (int 0)) ∧ E (AV.f (encI l)) ∧ E (AV.f (int z1)) ∧ AV.f (int (IntKind.wrap IntKind.i64 ((i : Int) + 1))) = AV.f (int (↑(i + 1) : Int)) ∧ True) ∧ True ∧ E true ∧ (false = true → false = true)) ∧ decide ((N : Int) < z1) = false ∧ decide (z1 < z2) = false ∧ E (int 0)) get69 ent69 (by kernel_rfl) ?_
  refine ⟨⟨rfl, ⟨rfl, rfl, rfl, rfl, rfl, rfl, ?_, trivial⟩, trivial, rfl, fun hi => ?_⟩, fun i => fun hi => ⟨?_, ⟨rfl, ?_, ?_⟩, ?_, ⟨rfl, ?_, ?_⟩, ?_, rfl, rfl, ⟨rfl, rfl, rfl, rfl, rfl, rfl, ?_, trivial⟩, trivial, rfl, fun hi => ?_⟩, ?_, ?_, rfl⟩
  all_goals first | exact hc i hi | exact cellsVs_get l i (by omega) | exact cellsVs_get m i (by omega) | (simp [cellsVs_length]; done) | (simp [cellsVs_length]; omega) | (rw [wrapS _ (by omega) (by omega)]; rfl) | assumption
theorem cmpF_more {g : Gr} (f : Nat) (l m : List V) (N : Nat) (hl : l.length ≤ 9223372036854775806) (hc : ∀ i, i < N → CallsF P g f [encV (l.getD i default), encV (m.getD i default)] (int 0)) (h1 : N ≤ l.length) (h2 : N ≤ m.length) (h3 : N = m.length) (h4 : N < l.length) : CallsF P g 69 [encI l, encI m, .fn f [] []] (int 1) := by
  refine sx_fn (hs := [.loop [] [] (Scmp f l m) N (Hcmp l m), .dec true, .el (cellsP (l.getD N default)), .dec true]) (let z1 := (↑(List.length (cellsVs l)) : Int); let z2 := (↑(List.length (cellsVs m)) : Int); (E true ∧ (E (AV.f (encI l)) ∧ E (AV.f (encI m)) ∧ E (AV.f (FV.fn f [] [])) ∧ E (AV.f (int 0)) ∧ E (AV.f (encI l)) ∧ E (AV.f (int z1)) ∧ AV.f (int 0) = AV.f (int (Int.ofNat 0)) ∧ True) ∧ True ∧ E true ∧ (false = true → false = true)) ∧ (∀ (i : Nat), i < N → decide ((i : Int) < z1) = true ∧ (E 4 ∧ (0 : Int) ≤ (i : Int) ∧ (cellsVs l)[i]? = some (cellsP (List.getD l i default))) ∧ decide ((i : Int) ≥ z2) = false ∧ (E 4 ∧ (0 : Int) ≤ (i : Int) ∧ (cellsVs m)[i]? = some (cellsP (List.getD m i default))) ∧ CallsF P g f [encV (List.getD l i default), encV (List.getD m i default)] (int 0) ∧ E false ∧ E true ∧ (E (AV.f (encI l)) ∧ E (AV.f (encI m)) ∧ E (AV.f (FV.fn f [] [])) ∧ E (AV.f (int 0)) ∧ E (AV.f (encI l)) ∧ E (AV.f (int z1)) ∧ AV.f (int (IntKind.wrap IntKind.i64 ((i : Int) + 1))) = AV.f (int (↑(i + 1) : Int)) ∧ True) ∧ True ∧ E true ∧ (false = true → false = true)) ∧ decide ((N : Int) < z1) = true ∧ (E 4 ∧ (0 : Int) ≤ (N : Int) ∧ (cellsVs l)[N]? = some (cellsP (List.getD l N default))) ∧ decide ((N : Int) ≥ z2) = true ∧ E (int 1)) get69 ent69 (by kernel_rfl) ?_
  refine ⟨⟨rfl, ⟨rfl, rfl, rfl, rfl, rfl, rfl, ?_, trivial⟩, trivial, rfl, fun hi => ?_⟩, fun i => fun hi => ⟨?_, ⟨rfl, ?_, ?_⟩, ?_, ⟨rfl, ?_, ?_⟩, ?_, rfl, rfl, ⟨rfl, rfl, rfl, rfl, rfl, rfl, ?_, trivial⟩, trivial, rfl, fun hi => ?_⟩, ?_, ⟨rfl, ?_, ?_⟩, ?_, rfl⟩
  all_goals first | exact hc i hi | exact cellsVs_get l i (by omega) | exact cellsVs_get m i (by omega) | exact cellsVs_get l N (by omega) | (simp [cellsVs_length]; done) | (simp [cellsVs_length]; omega) | (rw [wrapS _ (by omega) (by omega)]; rfl) | assumption
theorem cmpF_at {g : Gr} (f : Nat) (l m : List V) (N : Nat) (x : Int) (hl : l.length ≤ 9223372036854775806) (hc : ∀ i, i < N → CallsF P g f [encV (l.getD i default), encV (m.getD i default)] (int 0)) (h1 : N ≤ l.length) (h2 : N ≤ m.length) (h3 : N < l.length) (h4 : N < m.length) (hx : x ≠ 0) (hlast : CallsF P g f [encV (l.getD N default), encV (m.getD N default)] (int x)) : CallsF P g 69 [encI l, encI m, .fn f [] []] (int x) := by
  refine sx_fn (hs := [.loop [] [] (Scmp f l m) N (Hcmp l m), .dec true, .el (cellsP (l.getD N default)), .dec false, .el (cellsP (m.getD N default)), .call (int x), .dec true]) (let z1 := (↑(List.length (cellsVs l)) : Int); let z2 := (↑(List.length (cellsVs m)) : Int); (E true ∧ (E (AV.f (encI l)) ∧ E (AV.f (encI m)) ∧ E (AV.f (FV.fn f [] [])) ∧ E (AV.f (int 0)) ∧ E (AV.f (encI l)) ∧ E (AV.f (int z1)) ∧ AV.f (int 0) = AV.f (int (Int.ofNat 0)) ∧ True) ∧ True ∧ E true ∧ (false = true → false = true)) ∧ (∀ (i : Nat), i < N → decide ((i : Int) < z1) = true ∧ (E 4 ∧ (0 : Int) ≤ (i : Int) ∧ (cellsVs l)[i]? = some (cellsP (List.getD l i default))) ∧ decide ((i : Int) ≥ z2) = false ∧ (E 4 ∧ (0 : Int) ≤ (i : Int) ∧ (cellsVs m)[i]? = some (cellsP (List.getD m i default))) ∧ CallsF P g f [encV (List.getD l i default), encV (List.getD m i default)] (int 0) ∧ E false ∧ E true ∧ (E (AV.f (encI l)) ∧ E (AV.f (encI m)) ∧ E (AV.f (FV.fn f [] [])) ∧ E (AV.f (int 0)) ∧ E (AV.f (encI l)) ∧ E (AV.f (int z1)) ∧ AV.f (int (IntKind.wrap IntKind.i64 ((i : Int) + 1))) = AV.f (int (↑(i + 1) : Int)) ∧ True) ∧ True ∧ E true ∧ (false = true → false = true)) ∧ decide ((N : Int) < z1) = true ∧ (E 4 ∧ (0 : Int) ≤ (N : Int) ∧ (cellsVs l)[N]? = some (cellsP (List.getD l N default))) ∧ decide ((N : Int) ≥ z2) = false ∧ (E 4 ∧ (0 : Int) ≤ (N : Int) ∧ (cellsVs m)[N]? = some (cellsP (List.getD m N default))) ∧ CallsF P g f [encV (List.getD l N default), encV (List.getD m N default)] (int x) ∧ (x != 0) = true ∧ E (int x)) get69 ent69 (by kernel_rfl) ?_
  refine ⟨⟨rfl, ⟨rfl, rfl, rfl, rfl, rfl, rfl, ?_, trivial⟩, trivial, rfl, fun hi => ?_⟩, fun i => fun hi => ⟨?_, ⟨rfl, ?_, ?_⟩, ?_, ⟨rfl, ?_, ?_⟩, ?_, rfl, rfl, ⟨rfl, rfl, rfl, rfl, rfl, rfl, ?_, trivial⟩, trivial, rfl, fun hi => ?_⟩, ?_, ⟨rfl, ?_, ?_⟩, ?_, ⟨rfl, ?_, ?_⟩, ?_, ?_, rfl⟩
  all_goals first | exact hc i hi | exact cellsVs_get l i (by omega) | exact cellsVs_get m i (by omega) | exact cellsVs_get l N (by omega) | exact cellsVs_get m N (by omega) | exact hlast | (simp [cellsVs_length]; done) | (simp [cellsVs_length]; omega) | (rw [wrapS _ (by omega) (by omega)]; rfl) | assumption
theorem cmpF_ok {g : Gr} (f : Nat) (c : V → V → Int) (l m : List V) (hl : l.length ≤ 9223372036854775806) (hc : ∀ a b, a ∈ l → b ∈ m → CallsF P g f [encV a, encV b] (int (c a b))) : CallsF P g 69 [encI l, encI m, .fn f [] []] (int (lexC c l m)) := by
  obtain ⟨N, h1, h2, h3, h4⟩ := lex_split c l m
  have hg : ∀ (l : List V) i, i < l.length → l.getD i default ∈ l := fun l i h => by
    rw [List.getD_eq_getElem?_getD, List.getElem?_eq_getElem h]; exact List.getElem_mem h
  have hN : ∀ i, i < N → CallsF P g f [encV (l.getD i default), encV (m.getD i default)] (int 0) := fun i hi => by
    have := hc _ _ (hg l i (by omega)) (hg m i (by omega))
    rwa [h3 i hi] at this
  rcases h4 with ⟨a, b, e⟩ | ⟨a, b, e⟩ | ⟨a, b, e⟩ | ⟨a, b, x, e⟩
  · rw [e]; exact cmpF_same f l m N hl hN h1 h2 a b
  · rw [e]; exact cmpF_less f l m N hl hN h1 h2 a b
  · rw [e]; exact cmpF_more f l m N hl hN h1 h2 a b
  · rw [e]; exact cmpF_at f l m N _ hl hN h1 h2 a b x (hc _ _ (hg l N a) (hg m N b))
end Go.Sx

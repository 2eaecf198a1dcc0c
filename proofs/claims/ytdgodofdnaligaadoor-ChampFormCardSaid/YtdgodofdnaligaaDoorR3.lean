/-
  Proved: what some functions of the program answer, or a law of the evaluator that shows it, one theorem each; its conditions are the hypotheses that stand ahead of it.
-/
import Derived.Test.YtdgodofdnaligaaDoorCK
import Derived.KernelRfl
set_option maxRecDepth 100000
set_option maxHeartbeats 4000000
set_option linter.unusedSimpArgs false
set_option linter.unusedVariables false
namespace Go.Sx
open Go.Proofs Sp
theorem CallY.mono {Q : Program} {f : Nat} {args : Array Value} {w : World} {R R' : Value → World → Prop} (h : CallY Q f args w R) (hr : ∀ v w', R v w' → R' v w') : CallY Q f args w R' := by
  unfold CallY at *
  split at h
  · exact hr _ _ h
  · exact h.mono fun e w'' ⟨v, he, hv⟩ => ⟨v, he, hr _ _ hv⟩
  · exact h.elim
theorem CallsF.weak {Q : Program} {g : Gr} {f : Nat} {args : List FV} {r r' : FV} (h : CallsF Q g f args r) (hw : ∀ w ok v, FRel w ok r v → FRel w ok r' v) : CallsF Q g f args r' :=
  fun w ok vs hg hok hv => (h w ok vs hg hok hv).mono fun v w' hr => ⟨hw _ _ _ hr.1, hr.2⟩
theorem CallsF.args {Q : Program} {g : Gr} {f : Nat} {us bs : List FV} {r : FV} (h : CallsF Q g f us r) (hw : ∀ w ok vs, FRelL w ok bs vs → FRelL w ok us vs) : CallsF Q g f bs r :=
  fun w ok vs hg hok hv => h w ok vs hg hok (hw w ok vs hv)
theorem nils_sl (z : Nat) : ∀ w ok v, FRel w ok .nils v → FRel w ok (.sl z []) v := by
  intro w ok v h
  simp only [FRel] at h ⊢
  exact .inl ⟨trivial, .inl h⟩
theorem nilV (k n : Int) (s : List UInt8) : ∀ w ok v, FRel w ok (.agg [int k, int n, str s, .nils]) v → FRel w ok (encV (.mk k n s [])) v := by
  intro w ok v h
  simp only [FRel, encV, cellsP, V.kind, V.num, V.text, V.items, cellsVs] at h ⊢
  obtain ⟨cs, e, h⟩ := h
  refine ⟨cs, e, ?_⟩
  simp only [FRelL] at h ⊢
  obtain ⟨v1, r1, e1, h1, v2, r2, e2, h2, v3, r3, e3, h3, v4, r4, e4, h4, h5⟩ := h
  exact ⟨v1, r1, e1, h1, v2, r2, e2, h2, v3, r3, e3, h3, v4, r4, e4, nils_sl 4 _ _ _ h4, h5⟩
theorem cellsVs_app : ∀ a b : List V, cellsVs (a ++ b) = cellsVs a ++ cellsVs b
  | [], b => rfl
  | x :: a, b => by simp [cellsVs, cellsVs_app a b]
def zeroC : List FV := [int 0, int 0, str [], .nils]
/-- The first i are told, the others are as they were made. -/
def ownE (l : List V) (i : Nat) : List (List FV) := cellsVs (l.take i) ++ List.replicate (l.length - i) zeroC
theorem ownE_set (l : List V) (i : Nat) (h : i < l.length) : (ownE l i).set i (cellsP (l.getD i default)) = ownE l (i + 1) := by
  unfold ownE
  have h1 : (cellsVs (l.take i)).length = i := by rw [cellsVs_length]; simp; omega
  rw [List.set_append_right _ _ (by omega), h1, Nat.sub_self, show l.length - i = (l.length - (i + 1)) + 1 from by omega, List.replicate_succ, List.set_cons_zero]
  rw [List.take_succ_eq_append_getElem h, cellsVs_app]
  simp [cellsVs, cellsP_eq, List.getD_eq_getElem?_getD, h]
theorem ownE_length (l : List V) (i : Nat) (h : i ≤ l.length) : (ownE l i).length = l.length := by
  unfold ownE; simp [cellsVs_length]; omega
end Go.Sx
set_option linter.unusedVariables false
set_option linter.unusedSimpArgs false
namespace Sp
namespace T
/-- The rules of colours: below a red node black ones, n black ones on each way down. -/
def rb : T → Nat → Prop
  | nil, n => n = 0
  | node true l r _ _, n => rb l n ∧ rb r n ∧ l.red = false ∧ r.red = false
  | node false l r _ _, n => ∃ m, n = m + 1 ∧ rb l m ∧ rb r m
/-- Is a key on its way? -/
def has (c : V → V → Int) (k : V) : T → Prop
  | nil => False
  | node _ l r xk _ => if c k xk = 0 then True else if c k xk < 0 then has c k l else has c k r
/-! ### Flatness -/
def size : T → Nat
  | nil => 0
  | node _ l r _ _ => l.size + r.size + 1
end T
end Sp
set_option maxRecDepth 100000
set_option maxHeartbeats 4000000
set_option linter.unusedSimpArgs false
set_option linter.unusedVariables false
namespace Go.Sx
open Go.Proofs Sp
/-- Pairs, in cells. -/
def cellsPs : List (V × V) → List (List FV)
  | [] => []
  | p :: l => (cellsP p.1 ++ cellsP p.2) :: cellsPs l
def encPs (l : List (V × V)) : FV := .sl 8 (cellsPs l)
theorem cellsPs_length : ∀ l, (cellsPs l).length = l.length
  | [] => rfl
  | x :: l => by simp [cellsPs, cellsPs_length l]
theorem cellsPs_get : ∀ (l : List (V × V)) (i : Nat), i < l.length → (cellsPs l)[i]? = some (cellsP (l.getD i default).1 ++ cellsP (l.getD i default).2)
  | [], i, h => by simp at h
  | x :: l, 0, h => by simp [cellsPs]
  | x :: l, i + 1, h => by simpa [cellsPs] using cellsPs_get l i (by simpa using h)
theorem fineP {l : List (V × V)} (h : ∀ p, p ∈ l → Fine p.1 ∧ Fine p.2) {i : Nat} (hi : i < l.length) : Fine (l.getD i default).1 ∧ Fine (l.getD i default).2 := by
  rw [List.getD_eq_getElem?_getD, List.getElem?_eq_getElem hi]; exact h _ (List.getElem_mem hi)
end Go.Sx

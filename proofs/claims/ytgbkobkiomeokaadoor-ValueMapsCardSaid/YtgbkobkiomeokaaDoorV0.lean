/-
  Proved: what some functions of the program answer, or a law of the evaluator that shows it, one theorem each; its conditions are the hypotheses that stand ahead of it.
-/
import Derived.Test.YtgbkobkiomeokaaDoorSxL
import Derived.Test.YtgbkobkiomeokaaDoorPV
import Derived.Shelf.Unicode.DecodeAny
import Derived.Test.YtgbkobkiomeokaaDoorProg
import Derived.KernelRfl
set_option maxRecDepth 100000
namespace Go.Sx
open Go.Proofs Sp
noncomputable abbrev P : Program := Tryd.prog
theorem tabs_keep {w w' : World} (hx : ∀ k, k < w.heap.size → (k = 1 ∨ k = 2) → w'.heap[k]? = w.heap[k]?) (h : Lib.Utf8Tabs 1 2 w) : Lib.Utf8Tabs 1 2 w' := by
  have key : ∀ (g o : Nat) (v : Value), (g = 1 ∨ g = 2) → w.cell? ⟨g, o, none⟩ = some v → w'.cell? ⟨g, o, none⟩ = some v := fun g o v hg hv => by
    rw [World.cell?_of_block (w := w) (a := ⟨g, o, none⟩) (hx g (World.block_lt_of_cell? w _ hv) hg)]; exact hv
  exact ⟨fun c hc => key _ _ _ (.inl rfl) (h.1 c hc), fun i hi => ⟨key _ _ _ (.inr rfl) (h.2 i hi).1, key _ _ _ (.inr rfl) (h.2 i hi).2⟩⟩
/-- What every world bears: the two tables of unicode/utf8. -/
def G : Gr where
  p w := Lib.Utf8Tabs 1 2 w
  ext w w' hx h := tabs_keep (fun k hk _ => hx.block k hk) h
  has b := b = 1 ∨ b = 2
  extX w w' hx h := tabs_keep hx h
  lt w b h hb := by
    rcases hb with rfl | rfl
    · exact World.block_lt_of_cell? w _ (h.1 0 (by omega))
    · exact World.block_lt_of_cell? w _ (h.2 0 (by omega)).1
  strict := false
/-- Nothing but the draws. -/
def G0 : Gr where
  p _ := True
  ext _ _ _ _ := trivial
  has _ := False
  extX _ _ _ _ := trivial
  lt _ _ _ h := h.elim
  strict := true
def int (n : Int) : FV := .sc (.int .i64 n)
def bool (b : Bool) : FV := .sc (.bool b)
def str (s : List UInt8) : FV := .sc (.string ⟨s.toArray⟩)
mutual
def cellsV : V → List FV
  | .mk k n s l => [int k, int n, str s, .sl 4 (cellsVs l)]
def cellsVs : List V → List (List FV)
  | [] => []
  | x :: l => cellsV x :: cellsVs l
end
/-- The same, by fields. -/
def cellsP (v : V) : List FV := [int v.kind, int v.num, str v.text, .sl 4 (cellsVs v.items)]
theorem cellsP_eq (v : V) : cellsV v = cellsP v := by cases v; rfl
def encV (v : V) : FV := .agg (cellsP v)
def encI (l : List V) : FV := .sl 4 (cellsVs l)
theorem cellsVs_length : ∀ l, (cellsVs l).length = l.length
  | [] => rfl
  | x :: l => by simp [cellsVs, cellsVs_length l]
theorem cellsVs_get : ∀ (l : List V) (i : Nat), i < l.length → (cellsVs l)[i]? = some (cellsP (l.getD i default))
  | [], i, h => by simp at h
  | x :: l, 0, h => by simp [cellsVs, cellsP_eq]
  | x :: l, i + 1, h => by simpa [cellsVs] using cellsVs_get l i (by simpa using h)
def slots (n : Nat) (l : List (Nat × AV)) : List AV := (List.range n).map fun i => (l.lookup i).getD .nul
theorem wrapS (n : Int) (h1 : -9223372036854775808 ≤ n) (h2 : n ≤ 9223372036854775807) : IntKind.i64.wrap n = n := by
  rw [IntKind.wrap_i64]; omega
theorem sx_fn {Q : Program} {G' : Gr} {f : Nat} {fn : Func} {args : List FV} {hs : List Hint} {r : FV} (OB : Prop) (hf : Q.funcs[f]? = some fn) (he : entersP Q f = true) (e : evalFn Q G' fn args hs r = OB) (h : OB) : CallsF Q G' f args r :=
  CallsF_of_evalFn hf he (by rw [e]; exact h)
/-- The same on both sides. -/
abbrev E {α : Type} (x : α) : Prop := x = x
abbrev Br (b : Bool) (x y : Prop) : Prop := (b = true → x) ∧ (b = false → y)
end Go.Sx

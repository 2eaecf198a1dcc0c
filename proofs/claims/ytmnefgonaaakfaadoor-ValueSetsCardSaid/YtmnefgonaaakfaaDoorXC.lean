/-
  Proved: what some functions of the program answer, or a law of the evaluator that shows it, one theorem each; its conditions are the hypotheses that stand ahead of it.
-/
import Derived.Test.YtmnefgonaaakfaaDoorD4
import Derived.Test.YtmnefgonaaakfaaDoorXS
import Derived.Test.YtmnefgonaaakfaaDoorCSort
import Derived.Shelf.SlSortCmp.NoneTotal
set_option maxRecDepth 100000
namespace Go.Sx
open Go.Proofs Sp Go.RowKit Go.Lib Go.Sort
theorem grow_of_ext {W w' : World} (h : Ext G0 W w') : ∃ q os', w' = grow (W.drewN q) os' := by
  refine ⟨w'.drawn - W.drawn, w'.heap.extract W.heap.size w'.heap.size, ?_⟩
  have h1 := h.below.os
  have h2 := h.below.tape
  have h3 := h.below.output
  have h4 := h.dr rfl
  have h5 := h.below.size
  have h6 := h.below.block
  have hh : w'.heap = W.heap ++ w'.heap.extract W.heap.size w'.heap.size := by
    apply Array.ext_getElem?
    intro i
    rw [Array.getElem?_append]
    split
    · rename_i hi; exact h6 i hi
    · rename_i hi
      rw [Array.getElem?_extract]
      by_cases hl : i < w'.heap.size
      · rw [if_pos (by omega)]; congr 1; omega
      · rw [Array.getElem?_eq_none (by omega), if_neg (by omega)]
  cases w' with
  | mk heap tape drawn os output =>
    simp only at *
    subst h1; subst h2; subst h3
    simp only [grow, World.drewN]
    rw [← hh]
    congr 1
    omega

/-- A value and the four cells that bear it. -/
abbrev El (w : World) (ok : Nat → Prop) : Type := { p : V × List Value // Fine p.1 ∧ FRelL w ok (cellsP p.1) p.2 }
theorem El.len {w : World} {ok : Nat → Prop} (x : El w ok) : x.1.2.length = 4 := by
  have := FRelL.length _ _ x.2.2
  simpa [cellsP] using this
theorem cellsP_one (v : V) : ∀ x ∈ cellsP v, x.one = true := by
  intro x hx
  simp only [cellsP, List.mem_cons, List.not_mem_nil, or_false] at hx
  rcases hx with rfl | rfl | rfl | rfl <;> rfl
theorem El.one {w : World} {ok : Nat → Prop} (x : El w ok) : ∀ v ∈ x.1.2, v.oneCell' = true := FRelL.oneCell _ _ (cellsP_one x.1.1) x.2.2
theorem fine0 : Fine (V.mk 0 0 [] []) := Fine.mk 0 0 [] [] (by omega) (by omega) (by simp) (by simp) (by simp)
def El.zero (w : World) (ok : Nat → Prop) : El w ok := ⟨(V.mk 0 0 [] [], [.int .i64 0, .int .i64 0, .string ⟨#[]⟩, .slice none 0 0]), fine0, by
  simp only [cellsP, FRelL, FRel, int, str, V.kind, V.num, V.text, V.items, cellsVs]
  exact ⟨_, _, rfl, rfl, _, _, rfl, rfl, _, _, rfl, rfl, _, _, rfl, Or.inl ⟨trivial, Or.inl rfl⟩, rfl⟩⟩
theorem El.list {w : World} {ok : Nat → Prop} : ∀ (l : List V) (xs : List Value), (∀ x, x ∈ l → Fine x) → FRelL w ok (cellsVs l).flatten xs → ∃ d : List (El w ok), d.map (·.1.1) = l ∧ (d.map (·.1.2)).flatten = xs
  | [], xs, _, h => ⟨[], rfl, by simpa [cellsVs, FRelL] using h.symm⟩
  | v :: l, xs, hf, h => by
    simp only [cellsVs, List.flatten_cons] at h
    obtain ⟨h1, h2⟩ := FRelL.split _ _ _ h
    obtain ⟨d, e1, e2⟩ := El.list l _ (fun x hx => hf x (by simp [hx])) h2
    refine ⟨⟨(v, xs.take (cellsV v).length), hf v (by simp), by rw [← cellsP_eq]; exact h1⟩ :: d, by simp only [List.map_cons, e1], ?_⟩
    simp only [List.map_cons, List.flatten_cons, e2]
    exact List.take_append_drop _ _
theorem swo (w : World) (ok : Nat → Prop) : SWO (ltOf fun x y : El w ok => cmpV x.1.1 y.1.1) where
  irrefl x := by
    have := cmpV_line.refl x.1.1 trivial
    simp [ltOf, this]
  trans x y z h1 h2 := by
    simp only [ltOf, decide_eq_true_eq] at *
    exact cmpV_line.lt_trans trivial trivial trivial h1 h2
  ntrans x y z h1 h2 := by
    simp only [ltOf, decide_eq_false_iff_not] at *
    have t1 := cmpV_line.turn x.1.1 y.1.1 trivial trivial
    have t2 := cmpV_line.turn y.1.1 z.1.1 trivial trivial
    have t3 := cmpV_line.turn x.1.1 z.1.1 trivial trivial
    have := cmpV_line.le_trans z.1.1 y.1.1 x.1.1 trivial trivial trivial (by omega) (by omega)
    omega
theorem cmp_lays {w : World} {ok : Nat → Prop} [Inhabited (El w ok)] {blk off size : Nat} (hok : ∀ b, ok b → b < w.heap.size ∧ b ≠ blk) :
    CmpLays P 9 #[] (fun x : El w ok => x.1.2) 4 (fun x y => cmpV x.1.1 y.1.1) blk off size w := by
  intro m os dk hs x y
  have hc : Carry w (sortWorldK (fun x : El w ok => x.1.2) 4 w blk off m dk os) ok ok := ⟨fun _ h => h, fun b hb o => cell?_sortWorldK_other _ 4 w blk off m dk os ⟨b, o, none⟩ (hok b hb).2 (hok b hb).1⟩
  have h := compare_ok (g := G0) x.1.1 y.1.1 x.2.1 (sortWorldK (fun x : El w ok => x.1.2) 4 w blk off m dk os) ok [.agg x.1.2.toArray, .agg y.1.2.toArray] trivial
    (fun b hb => Nat.lt_of_lt_of_le (hok b hb).1 (size_sortWorldK_c _ 4 w blk off m dk os))
    (by
      simp only [FRelL, FRel, encV]
      exact ⟨_, _, rfl, ⟨_, rfl, FRelL.carry hc _ _ x.2.2⟩, _, _, rfl, ⟨_, rfl, FRelL.carry hc _ _ y.2.2⟩, rfl⟩)
  unfold CallY at h
  rw [run_enter ent9] at h
  simp only at h
  refine h.mono ?_
  rintro e w' ⟨v, rfl, hv, hx⟩
  simp only [FRel, int] at hv
  subst hv
  exact ⟨rfl, grow_of_ext hx⟩
end Go.Sx

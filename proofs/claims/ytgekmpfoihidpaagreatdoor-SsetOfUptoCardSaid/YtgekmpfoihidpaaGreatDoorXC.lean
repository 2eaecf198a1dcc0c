/-
  Proved: what some functions of the program answer, or a law of the evaluator that shows it, one theorem each; its conditions are the hypotheses that stand ahead of it.
-/
import Derived.Test.YtgekmpfoihidpaaGreatDoorPV
import Derived.Shelf.Small.Bits
import Derived.Shelf.SlSortCmp.NoneTotal
import Derived.Test.YtgekmpfoihidpaaGreatDoorProg
import Derived.Test.YtgekmpfoihidpaaGreatDoorD4
import Derived.KernelRfl
namespace Sp
theorem le_total' (x y : V) : (decide (cmpV x y ≤ 0) || decide (cmpV y x ≤ 0)) = true := by
  have h1 := cmpV_line.turn x y trivial trivial
  have h2 := cmpV_line.three x y trivial trivial
  simp only [Bool.or_eq_true, decide_eq_true_eq]; omega
theorem le_trans' (x y z : V) (h1 : decide (cmpV x y ≤ 0) = true) (h2 : decide (cmpV y z ≤ 0) = true) : decide (cmpV x z ≤ 0) = true := by
  simp only [decide_eq_true_eq] at *
  exact cmpV_line.le_trans x y z trivial trivial trivial h1 h2
theorem sorted_unique (l l' : List V) (hp : l'.Perm l) (hs : l'.Pairwise (fun x y => cmpV x y ≤ 0)) (hanti : ∀ x y, x ∈ l → y ∈ l → cmpV x y = 0 → x = y) :
    l' = l.mergeSort (fun x y => decide (cmpV x y ≤ 0)) := by
  have h1 : (l.mergeSort (fun x y => decide (cmpV x y ≤ 0))).Pairwise (fun x y => decide (cmpV x y ≤ 0) = true) := List.pairwise_mergeSort (fun x y z => le_trans' x y z) (fun x y => le_total' x y) l
  have h2 : (l.mergeSort (fun x y => decide (cmpV x y ≤ 0))).Perm l := List.mergeSort_perm l _
  refine List.Perm.eq_of_pairwise (le := fun x y => cmpV x y ≤ 0) ?_ hs (h1.imp (by simp)) (hp.trans h2.symm)
  intro a b ha hb h3 h4
  have ha' := hp.mem_iff.1 ha
  have hb' := h2.mem_iff.1 hb
  have := cmpV_line.turn a b trivial trivial
  exact hanti a b ha' hb' (by omega)
end Sp
/-
  DERIVED: THE SHELF's CONTRACTS AT THIS DUMP, IN PLAIN WORDS (tools/lay-plain.mjs out of 'TryzShelf.lean', which tools/lay-shelf.mjs wrote): THE SAME DECLARATIONS UNDER THE SAME NAMES: 'import', 'namespace', 'open', 'def', 'theorem' AND NOTHING ELSE: no command of the shelf's: FOR A HAND-IN. Each laying: the table of numbers ('.._ren') and one theorem, a field a fact of the dump's own or the kernel's comparison; each contract: ONE APPLICATION.
-/
namespace Go.Proofs
open Go.Shelf
def Tryz.lsort_ren : Go.Shelf.Ren := ⟨fun | 6 => 160 | 15 => 192 | 14 => 191 | 28 => 220 | 29 => 221 | 20 => 212 | 21 => 213 | 22 => 214 | 23 => 215 | 24 => 216 | 25 => 217 | 26 => 218 | 27 => 219 | 46 => 232 | 47 => 233 | 48 => 234 | 49 => 235 | 50 => 236 | 57 => 247 | n => n, fun | 22 => 41 | 24 => 62 | 25 => 148 | 3 => 3 | 39 => 215 | 0 => 0 | 53 => 203 | 55 => 202 | 4 => 4 | 46 => 232 | 45 => 231 | 50 => 140 | 5 => 5 | 9 => 9 | 66 => 245 | 70 => 249 | 76 => 256 | 77 => 71 | n => n, fun | n => n⟩
theorem Tryz.lsort : Go.Proofs.SlLaysF0.n6 Tryz.prog Tryz.lsort_ren := {
  mixed := by kernel_rfl
  f6 := ⟨Tryz.f160.name, by decide, Tryz.func160.trans (congrArg some (by kernel_rfl))⟩
  f14 := ⟨Tryz.f191.name, by decide, Tryz.func191.trans (congrArg some (by kernel_rfl))⟩
  f15 := Tryz.func192.trans (congrArg some (by kernel_rfl))
  f20 := ⟨Tryz.f212.name, by decide, Tryz.func212.trans (congrArg some (by kernel_rfl))⟩
  f21 := ⟨Tryz.f213.name, by decide, Tryz.func213.trans (congrArg some (by kernel_rfl))⟩
  f22 := ⟨Tryz.f214.name, by decide, Tryz.func214.trans (congrArg some (by kernel_rfl))⟩
  f23 := ⟨Tryz.f215.name, by decide, Tryz.func215.trans (congrArg some (by kernel_rfl))⟩
  f24 := ⟨Tryz.f216.name, by decide, Tryz.func216.trans (congrArg some (by kernel_rfl))⟩
  f25 := ⟨Tryz.f217.name, by decide, Tryz.func217.trans (congrArg some (by kernel_rfl))⟩
  f26 := ⟨Tryz.f218.name, by decide, Tryz.func218.trans (congrArg some (by kernel_rfl))⟩
  f27 := ⟨Tryz.f219.name, by decide, Tryz.func219.trans (congrArg some (by kernel_rfl))⟩
  f28 := Tryz.func220.trans (congrArg some (by kernel_rfl))
  f29 := Tryz.func221.trans (congrArg some (by kernel_rfl))
  f46 := ⟨Tryz.f232.name, by decide, Tryz.func232.trans (congrArg some (by kernel_rfl))⟩
  f47 := Tryz.func233.trans (congrArg some (by kernel_rfl))
  f48 := Tryz.func234.trans (congrArg some (by kernel_rfl))
  f49 := ⟨Tryz.f235.name, by decide, Tryz.func235.trans (congrArg some (by kernel_rfl))⟩
  f50 := ⟨Tryz.f236.name, by decide, Tryz.func236.trans (congrArg some (by kernel_rfl))⟩
  f57 := ⟨Tryz.f247.name, by decide, Tryz.func247.trans (congrArg some (by kernel_rfl))⟩
  t0 := Tryz.underlying0
  a0 := Tryz.isAgg0
  z0 := Tryz.sizeOf0
  v0 := Tryz.zeroValue0
  t3 := Tryz.underlying3
  a3 := Tryz.isAgg3
  z3 := Tryz.sizeOf3
  v3 := Tryz.zeroValue3
  t4 := Tryz.underlying4
  a4 := Tryz.isAgg4
  z4 := Tryz.sizeOf4
  v4 := Tryz.zeroValue4
  t5 := Tryz.underlying5
  a5 := Tryz.isAgg5
  z5 := Tryz.sizeOf5
  v5 := Tryz.zeroValue5
  t9 := Tryz.underlying9
  a9 := Tryz.isAgg9
  z9 := Tryz.sizeOf9
  v9 := Tryz.zeroValue9
  t22 := Tryz.underlying41
  a22 := Tryz.isAgg41
  z22 := Tryz.sizeOf41
  v22 := Tryz.zeroValue41
  t25 := Tryz.underlying148
  a25 := Tryz.isAgg148
  z25 := Tryz.sizeOf148
  v25 := Tryz.zeroValue148
  t39 := Tryz.underlying215
  a39 := Tryz.isAgg215
  z39 := Tryz.sizeOf215
  v39 := Tryz.zeroValue215
  t45 := Tryz.underlying231
  a45 := Tryz.isAgg231
  z45 := Tryz.sizeOf231
  v45 := Tryz.zeroValue231
  t46 := Tryz.underlying232
  a46 := Tryz.isAgg232
  z46 := Tryz.sizeOf232
  v46 := Tryz.zeroValue232
  t50 := Tryz.underlying140
  a50 := Tryz.isAgg140
  z50 := Tryz.sizeOf140
  v50 := Tryz.zeroValue140
  t53 := Tryz.underlying203
  a53 := Tryz.isAgg203
  z53 := Tryz.sizeOf203
  v53 := Tryz.zeroValue203
  t55 := Tryz.underlying202
  a55 := Tryz.isAgg202
  z55 := Tryz.sizeOf202
  v55 := Tryz.zeroValue202
  t66 := Tryz.underlying245
  a66 := Tryz.isAgg245
  z66 := Tryz.sizeOf245
  v66 := Tryz.zeroValue245
  t70 := Tryz.underlying249
  a70 := Tryz.isAgg249
  z70 := Tryz.sizeOf249
  v70 := Tryz.zeroValue249
  t76 := Tryz.underlying256
  a76 := Tryz.isAgg256
  z76 := Tryz.sizeOf256
  v76 := Tryz.zeroValue256
  t77 := Tryz.underlying71
  a77 := Tryz.isAgg71
  z77 := Tryz.sizeOf71
  v77 := Tryz.zeroValue71 }
end Go.Proofs
set_option maxRecDepth 100000
set_option maxHeartbeats 4000000
set_option linter.unusedSimpArgs false
set_option linter.unusedVariables false
namespace Go.Sx
open Go.Proofs Sp
open Go.Proofs Sp Go.RowKit Go.Lib Go.Sort
theorem grow_of_ext {W w' : World} (h : Ext G0 W w') : ∃ q os', w' = grow (W.drewN q) os' := by
  refine ⟨w'.drawn - W.drawn, w'.heap.extract W.heap.size w'.heap.size, ?_⟩
  have h1 := h.below.os
  have h2 := h.below.tape
  have h3 := h.below.output
  have h4 := h.dr rfl
  have h5 := h.below.size
  have h6 := h.below.block
  have hh : w'.heap = W.heap ++ w'.heap.extract W.heap.size w'.heap.size := by
    apply Array.ext_getElem?
    intro i
    rw [Array.getElem?_append]
    split
    · rename_i hi; exact h6 i hi
    · rename_i hi
      rw [Array.getElem?_extract]
      by_cases hl : i < w'.heap.size
      · rw [if_pos (by omega)]; congr 1; omega
      · rw [Array.getElem?_eq_none (by omega), if_neg (by omega)]
  cases w' with
  | mk heap tape drawn os output =>
    simp only at *
    subst h1; subst h2; subst h3
    simp only [grow, World.drewN]
    rw [← hh]
    congr 1
    omega
/-- A value and the four cells that bear it. -/
abbrev El (w : World) (ok : Nat → Prop) : Type := { p : V × List Value // Fine p.1 ∧ FRelL w ok (cellsP p.1) p.2 }
theorem El.len {w : World} {ok : Nat → Prop} (x : El w ok) : x.1.2.length = 4 := by
  have := FRelL.length _ _ x.2.2
  simpa [cellsP] using this
theorem cellsP_one (v : V) : ∀ x ∈ cellsP v, x.one = true := by
  intro x hx
  simp only [cellsP, List.mem_cons, List.not_mem_nil, or_false] at hx
  rcases hx with rfl | rfl | rfl | rfl <;> rfl
theorem El.one {w : World} {ok : Nat → Prop} (x : El w ok) : ∀ v ∈ x.1.2, v.oneCell' = true := FRelL.oneCell _ _ (cellsP_one x.1.1) x.2.2
theorem fine0 : Fine (V.mk 0 0 [] []) := Fine.mk 0 0 [] [] (by omega) (by omega) (by simp) (by simp) (by simp)
def El.zero (w : World) (ok : Nat → Prop) : El w ok := ⟨(V.mk 0 0 [] [], [.int .i64 0, .int .i64 0, .string ⟨#[]⟩, .slice none 0 0]), fine0, by
  simp only [cellsP, FRelL, FRel, int, str, V.kind, V.num, V.text, V.items, cellsVs]
  exact ⟨_, _, rfl, rfl, _, _, rfl, rfl, _, _, rfl, rfl, _, _, rfl, Or.inl ⟨trivial, Or.inl rfl⟩, rfl⟩⟩
theorem El.list {w : World} {ok : Nat → Prop} : ∀ (l : List V) (xs : List Value), (∀ x, x ∈ l → Fine x) → FRelL w ok (cellsVs l).flatten xs → ∃ d : List (El w ok), d.map (·.1.1) = l ∧ (d.map (·.1.2)).flatten = xs
  | [], xs, _, h => ⟨[], rfl, by simpa [cellsVs, FRelL] using h.symm⟩
  | v :: l, xs, hf, h => by
    simp only [cellsVs, List.flatten_cons] at h
    obtain ⟨h1, h2⟩ := FRelL.split _ _ _ h
    obtain ⟨d, e1, e2⟩ := El.list l _ (fun x hx => hf x (by simp [hx])) h2
    refine ⟨⟨(v, xs.take (cellsV v).length), hf v (by simp), by rw [← cellsP_eq]; exact h1⟩ :: d, by simp only [List.map_cons, e1], ?_⟩
    simp only [List.map_cons, List.flatten_cons, e2]
    exact List.take_append_drop _ _
theorem swo (w : World) (ok : Nat → Prop) : SWO (ltOf fun x y : El w ok => cmpV x.1.1 y.1.1) where
  irrefl x := by
    have := cmpV_line.refl x.1.1 trivial
    simp [ltOf, this]
  trans x y z h1 h2 := by
    simp only [ltOf, decide_eq_true_eq] at *
    exact cmpV_line.lt_trans trivial trivial trivial h1 h2
  ntrans x y z h1 h2 := by
    simp only [ltOf, decide_eq_false_iff_not] at *
    have t1 := cmpV_line.turn x.1.1 y.1.1 trivial trivial
    have t2 := cmpV_line.turn y.1.1 z.1.1 trivial trivial
    have t3 := cmpV_line.turn x.1.1 z.1.1 trivial trivial
    have := cmpV_line.le_trans z.1.1 y.1.1 x.1.1 trivial trivial trivial (by omega) (by omega)
    omega
theorem carry_sort {α : Type} [Inhabited α] (enc : α → List Value) {w : World} {ok : Nat → Prop} {g : Nat} (off n : Nat) (d : Array α) (os : Array Obj) (hok : ∀ b, ok b → b < w.heap.size ∧ b ≠ g) : Carry w (sortWorldK enc 4 w g off n d os) ok ok := by
  refine ⟨fun _ h => h, fun b hb => ?_, rfl, rfl, rfl, ?_⟩
  · have hgk : g ≠ b := fun e => (hok b hb).2 e.symm
    unfold sortWorldK
    rw [heap_grow_old _ _ (by rw [size_putRowK]; exact (hok b hb).1)]
    simp [putRowK, putRow, mapBlock, Sort.ahead, Array.getElem?_modify, hgk]
  · have hsw : (sortWorldK enc 4 w g off n d os).heap.size = w.heap.size + os.size := by
      unfold sortWorldK; rw [size_grow, size_putRowK]; rfl
    rw [hsw]; omega
theorem cmp_lays {w : World} {ok : Nat → Prop} [Inhabited (El w ok)] {blk off size : Nat} (hok : ∀ b, ok b → b < w.heap.size ∧ b ≠ blk) :
    CmpLays P 131 #[] (fun x : El w ok => x.1.2) 4 (fun x y => cmpV x.1.1 y.1.1) blk off size w := by
  intro m os dk hs x y
  have hc : Carry w (sortWorldK (fun x : El w ok => x.1.2) 4 w blk off m dk os) ok ok := carry_sort _ off m dk os hok
  have h := compare_ok (g := G0) x.1.1 y.1.1 x.2.1 (sortWorldK (fun x : El w ok => x.1.2) 4 w blk off m dk os) ok [.agg x.1.2.toArray, .agg y.1.2.toArray] trivial
    (fun b hb => Nat.lt_of_lt_of_le (hok b hb).1 (size_sortWorldK_c _ 4 w blk off m dk os))
    (by
      simp only [FRelL, FRel, encV]
      exact ⟨_, _, rfl, ⟨_, rfl, FRelL.carry hc _ _ x.2.2⟩, _, _, rfl, ⟨_, rfl, FRelL.carry hc _ _ y.2.2⟩, rfl⟩)
  unfold CallY at h
  rw [run_enter ent131] at h
  simp only at h
  refine h.mono ?_
  rintro e w' ⟨v, rfl, hv, hx⟩
  simp only [FRel, int] at hv
  subst hv
  exact ⟨rfl, grow_of_ext hx⟩
end Go.Sx

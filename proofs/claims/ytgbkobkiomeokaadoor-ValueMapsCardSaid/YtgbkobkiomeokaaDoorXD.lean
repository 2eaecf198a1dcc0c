/-
  Proved: what some functions of the program answer, or a law of the evaluator that shows it, one theorem each; its conditions are the hypotheses that stand ahead of it.
-/
import Derived.Test.YtgbkobkiomeokaaDoorPV
import Derived.Shelf.Small.Bits
import Derived.Shelf.SlSortCmp.NoneTotal
import Derived.Test.YtgbkobkiomeokaaDoorProg
import Derived.Test.YtgbkobkiomeokaaDoorD4
import Derived.KernelRfl
namespace Sp
theorem le_total' (x y : V) : (decide (cmpV x y ≤ 0) || decide (cmpV y x ≤ 0)) = true := by
  have h1 := cmpV_line.turn x y trivial trivial
  have h2 := cmpV_line.three x y trivial trivial
  simp only [Bool.or_eq_true, decide_eq_true_eq]; omega
theorem le_trans' (x y z : V) (h1 : decide (cmpV x y ≤ 0) = true) (h2 : decide (cmpV y z ≤ 0) = true) : decide (cmpV x z ≤ 0) = true := by
  simp only [decide_eq_true_eq] at *
  exact cmpV_line.le_trans x y z trivial trivial trivial h1 h2
theorem sorted_unique (l l' : List V) (hp : l'.Perm l) (hs : l'.Pairwise (fun x y => cmpV x y ≤ 0)) (hanti : ∀ x y, x ∈ l → y ∈ l → cmpV x y = 0 → x = y) :
    l' = l.mergeSort (fun x y => decide (cmpV x y ≤ 0)) := by
  have h1 : (l.mergeSort (fun x y => decide (cmpV x y ≤ 0))).Pairwise (fun x y => decide (cmpV x y ≤ 0) = true) := List.pairwise_mergeSort (fun x y z => le_trans' x y z) (fun x y => le_total' x y) l
  have h2 : (l.mergeSort (fun x y => decide (cmpV x y ≤ 0))).Perm l := List.mergeSort_perm l _
  refine List.Perm.eq_of_pairwise (le := fun x y => cmpV x y ≤ 0) ?_ hs (h1.imp (by simp)) (hp.trans h2.symm)
  intro a b ha hb h3 h4
  have ha' := hp.mem_iff.1 ha
  have hb' := h2.mem_iff.1 hb
  have := cmpV_line.turn a b trivial trivial
  exact hanti a b ha' hb' (by omega)
end Sp
/-
  DERIVED: THE SHELF's CONTRACTS AT THIS DUMP, IN PLAIN WORDS (tools/lay-plain.mjs out of 'TrydShelf.lean', which tools/lay-shelf.mjs wrote): THE SAME DECLARATIONS UNDER THE SAME NAMES: 'import', 'namespace', 'open', 'def', 'theorem' AND NOTHING ELSE: no command of the shelf's: FOR A HAND-IN. Each laying: the table of numbers ('.._ren') and one theorem, a field a fact of the dump's own or the kernel's comparison; each contract: ONE APPLICATION.
-/
namespace Go.Proofs
open Go.Shelf
def Tryd.lsort_ren : Go.Shelf.Ren := ⟨fun | 6 => 46 | 15 => 59 | 14 => 58 | 28 => 73 | 29 => 74 | 20 => 65 | 21 => 66 | 22 => 67 | 23 => 68 | 24 => 69 | 25 => 70 | 26 => 71 | 27 => 72 | 46 => 78 | 47 => 79 | 48 => 80 | 49 => 81 | 50 => 82 | 57 => 84 | n => n, fun | 22 => 23 | 24 => 25 | 25 => 45 | 3 => 3 | 39 => 80 | 0 => 0 | 53 => 92 | 55 => 94 | 4 => 4 | 46 => 85 | 45 => 84 | 50 => 89 | 5 => 5 | 9 => 9 | 66 => 98 | 70 => 102 | 76 => 104 | 77 => 105 | n => n, fun | n => n⟩
theorem Tryd.lsort : Go.Proofs.SlLaysF0.n6 Tryd.prog Tryd.lsort_ren := {
  mixed := by kernel_rfl
  f6 := ⟨Tryd.f46.name, by decide, Tryd.func46.trans (congrArg some (by kernel_rfl))⟩
  f14 := ⟨Tryd.f58.name, by decide, Tryd.func58.trans (congrArg some (by kernel_rfl))⟩
  f15 := Tryd.func59.trans (congrArg some (by kernel_rfl))
  f20 := ⟨Tryd.f65.name, by decide, Tryd.func65.trans (congrArg some (by kernel_rfl))⟩
  f21 := ⟨Tryd.f66.name, by decide, Tryd.func66.trans (congrArg some (by kernel_rfl))⟩
  f22 := ⟨Tryd.f67.name, by decide, Tryd.func67.trans (congrArg some (by kernel_rfl))⟩
  f23 := ⟨Tryd.f68.name, by decide, Tryd.func68.trans (congrArg some (by kernel_rfl))⟩
  f24 := ⟨Tryd.f69.name, by decide, Tryd.func69.trans (congrArg some (by kernel_rfl))⟩
  f25 := ⟨Tryd.f70.name, by decide, Tryd.func70.trans (congrArg some (by kernel_rfl))⟩
  f26 := ⟨Tryd.f71.name, by decide, Tryd.func71.trans (congrArg some (by kernel_rfl))⟩
  f27 := ⟨Tryd.f72.name, by decide, Tryd.func72.trans (congrArg some (by kernel_rfl))⟩
  f28 := Tryd.func73.trans (congrArg some (by kernel_rfl))
  f29 := Tryd.func74.trans (congrArg some (by kernel_rfl))
  f46 := ⟨Tryd.f78.name, by decide, Tryd.func78.trans (congrArg some (by kernel_rfl))⟩
  f47 := Tryd.func79.trans (congrArg some (by kernel_rfl))
  f48 := Tryd.func80.trans (congrArg some (by kernel_rfl))
  f49 := ⟨Tryd.f81.name, by decide, Tryd.func81.trans (congrArg some (by kernel_rfl))⟩
  f50 := ⟨Tryd.f82.name, by decide, Tryd.func82.trans (congrArg some (by kernel_rfl))⟩
  f57 := ⟨Tryd.f84.name, by decide, Tryd.func84.trans (congrArg some (by kernel_rfl))⟩
  t0 := Tryd.underlying0
  a0 := Tryd.isAgg0
  z0 := Tryd.sizeOf0
  v0 := Tryd.zeroValue0
  t3 := Tryd.underlying3
  a3 := Tryd.isAgg3
  z3 := Tryd.sizeOf3
  v3 := Tryd.zeroValue3
  t4 := Tryd.underlying4
  a4 := Tryd.isAgg4
  z4 := Tryd.sizeOf4
  v4 := Tryd.zeroValue4
  t5 := Tryd.underlying5
  a5 := Tryd.isAgg5
  z5 := Tryd.sizeOf5
  v5 := Tryd.zeroValue5
  t9 := Tryd.underlying9
  a9 := Tryd.isAgg9
  z9 := Tryd.sizeOf9
  v9 := Tryd.zeroValue9
  t22 := Tryd.underlying23
  a22 := Tryd.isAgg23
  z22 := Tryd.sizeOf23
  v22 := Tryd.zeroValue23
  t25 := Tryd.underlying45
  a25 := Tryd.isAgg45
  z25 := Tryd.sizeOf45
  v25 := Tryd.zeroValue45
  t39 := Tryd.underlying80
  a39 := Tryd.isAgg80
  z39 := Tryd.sizeOf80
  v39 := Tryd.zeroValue80
  t45 := Tryd.underlying84
  a45 := Tryd.isAgg84
  z45 := Tryd.sizeOf84
  v45 := Tryd.zeroValue84
  t46 := Tryd.underlying85
  a46 := Tryd.isAgg85
  z46 := Tryd.sizeOf85
  v46 := Tryd.zeroValue85
  t50 := Tryd.underlying89
  a50 := Tryd.isAgg89
  z50 := Tryd.sizeOf89
  v50 := Tryd.zeroValue89
  t53 := Tryd.underlying92
  a53 := Tryd.isAgg92
  z53 := Tryd.sizeOf92
  v53 := Tryd.zeroValue92
  t55 := Tryd.underlying94
  a55 := Tryd.isAgg94
  z55 := Tryd.sizeOf94
  v55 := Tryd.zeroValue94
  t66 := Tryd.underlying98
  a66 := Tryd.isAgg98
  z66 := Tryd.sizeOf98
  v66 := Tryd.zeroValue98
  t70 := Tryd.underlying102
  a70 := Tryd.isAgg102
  z70 := Tryd.sizeOf102
  v70 := Tryd.zeroValue102
  t76 := Tryd.underlying104
  a76 := Tryd.isAgg104
  z76 := Tryd.sizeOf104
  v76 := Tryd.zeroValue104
  t77 := Tryd.underlying105
  a77 := Tryd.isAgg105
  z77 := Tryd.sizeOf105
  v77 := Tryd.zeroValue105 }
end Go.Proofs
set_option maxRecDepth 100000
set_option maxHeartbeats 4000000
set_option linter.unusedSimpArgs false
set_option linter.unusedVariables false
namespace Go.Sx
open Go.Proofs Sp
open Go.Proofs Sp Go.RowKit Go.Lib Go.Sort
theorem grow_of_ext {W w' : World} (h : Ext G0 W w') : ∃ q os', w' = grow (W.drewN q) os' := by
  refine ⟨w'.drawn - W.drawn, w'.heap.extract W.heap.size w'.heap.size, ?_⟩
  have h1 := h.below.os
  have h2 := h.below.tape
  have h3 := h.below.output
  have h4 := h.dr rfl
  have h5 := h.below.size
  have h6 := h.below.block
  have hh : w'.heap = W.heap ++ w'.heap.extract W.heap.size w'.heap.size := by
    apply Array.ext_getElem?
    intro i
    rw [Array.getElem?_append]
    split
    · rename_i hi; exact h6 i hi
    · rename_i hi
      rw [Array.getElem?_extract]
      by_cases hl : i < w'.heap.size
      · rw [if_pos (by omega)]; congr 1; omega
      · rw [Array.getElem?_eq_none (by omega), if_neg (by omega)]
  cases w' with
  | mk heap tape drawn os output =>
    simp only at *
    subst h1; subst h2; subst h3
    simp only [grow, World.drewN]
    rw [← hh]
    congr 1
    omega
/-- A value and the four cells that bear it. -/
abbrev El (w : World) (ok : Nat → Prop) : Type := { p : V × List Value // Fine p.1 ∧ FRelL w ok (cellsP p.1) p.2 }
theorem El.len {w : World} {ok : Nat → Prop} (x : El w ok) : x.1.2.length = 4 := by
  have := FRelL.length _ _ x.2.2
  simpa [cellsP] using this
theorem cellsP_one (v : V) : ∀ x ∈ cellsP v, x.one = true := by
  intro x hx
  simp only [cellsP, List.mem_cons, List.not_mem_nil, or_false] at hx
  rcases hx with rfl | rfl | rfl | rfl <;> rfl
theorem El.one {w : World} {ok : Nat → Prop} (x : El w ok) : ∀ v ∈ x.1.2, v.oneCell' = true := FRelL.oneCell _ _ (cellsP_one x.1.1) x.2.2
theorem fine0 : Fine (V.mk 0 0 [] []) := Fine.mk 0 0 [] [] (by omega) (by omega) (by simp) (by simp) (by simp)
def El.zero (w : World) (ok : Nat → Prop) : El w ok := ⟨(V.mk 0 0 [] [], [.int .i64 0, .int .i64 0, .string ⟨#[]⟩, .slice none 0 0]), fine0, by
  simp only [cellsP, FRelL, FRel, int, str, V.kind, V.num, V.text, V.items, cellsVs]
  exact ⟨_, _, rfl, rfl, _, _, rfl, rfl, _, _, rfl, rfl, _, _, rfl, Or.inl ⟨trivial, Or.inl rfl⟩, rfl⟩⟩
theorem El.list {w : World} {ok : Nat → Prop} : ∀ (l : List V) (xs : List Value), (∀ x, x ∈ l → Fine x) → FRelL w ok (cellsVs l).flatten xs → ∃ d : List (El w ok), d.map (·.1.1) = l ∧ (d.map (·.1.2)).flatten = xs
  | [], xs, _, h => ⟨[], rfl, by simpa [cellsVs, FRelL] using h.symm⟩
  | v :: l, xs, hf, h => by
    simp only [cellsVs, List.flatten_cons] at h
    obtain ⟨h1, h2⟩ := FRelL.split _ _ _ h
    obtain ⟨d, e1, e2⟩ := El.list l _ (fun x hx => hf x (by simp [hx])) h2
    refine ⟨⟨(v, xs.take (cellsV v).length), hf v (by simp), by rw [← cellsP_eq]; exact h1⟩ :: d, by simp only [List.map_cons, e1], ?_⟩
    simp only [List.map_cons, List.flatten_cons, e2]
    exact List.take_append_drop _ _
theorem swo (w : World) (ok : Nat → Prop) : SWO (ltOf fun x y : El w ok => cmpV x.1.1 y.1.1) where
  irrefl x := by
    have := cmpV_line.refl x.1.1 trivial
    simp [ltOf, this]
  trans x y z h1 h2 := by
    simp only [ltOf, decide_eq_true_eq] at *
    exact cmpV_line.lt_trans trivial trivial trivial h1 h2
  ntrans x y z h1 h2 := by
    simp only [ltOf, decide_eq_false_iff_not] at *
    have t1 := cmpV_line.turn x.1.1 y.1.1 trivial trivial
    have t2 := cmpV_line.turn y.1.1 z.1.1 trivial trivial
    have t3 := cmpV_line.turn x.1.1 z.1.1 trivial trivial
    have := cmpV_line.le_trans z.1.1 y.1.1 x.1.1 trivial trivial trivial (by omega) (by omega)
    omega
theorem carry_sort {α : Type} [Inhabited α] (enc : α → List Value) {w : World} {ok : Nat → Prop} {g : Nat} (off n : Nat) (d : Array α) (os : Array Obj) (hok : ∀ b, ok b → b < w.heap.size ∧ b ≠ g) : Carry w (sortWorldK enc 4 w g off n d os) ok ok := by
  refine ⟨fun _ h => h, fun b hb => ?_, rfl, rfl, rfl, ?_⟩
  · have hgk : g ≠ b := fun e => (hok b hb).2 e.symm
    unfold sortWorldK
    rw [heap_grow_old _ _ (by rw [size_putRowK]; exact (hok b hb).1)]
    simp [putRowK, putRow, mapBlock, Sort.ahead, Array.getElem?_modify, hgk]
  · have hsw : (sortWorldK enc 4 w g off n d os).heap.size = w.heap.size + os.size := by
      unfold sortWorldK; rw [size_grow, size_putRowK]; rfl
    rw [hsw]; omega
theorem cmp_lays {w : World} {ok : Nat → Prop} [Inhabited (El w ok)] {blk off size : Nat} (hok : ∀ b, ok b → b < w.heap.size ∧ b ≠ blk) :
    CmpLays P 16 #[] (fun x : El w ok => x.1.2) 4 (fun x y => cmpV x.1.1 y.1.1) blk off size w := by
  intro m os dk hs x y
  have hc : Carry w (sortWorldK (fun x : El w ok => x.1.2) 4 w blk off m dk os) ok ok := carry_sort _ off m dk os hok
  have h := compare_ok (g := G0) x.1.1 y.1.1 x.2.1 (sortWorldK (fun x : El w ok => x.1.2) 4 w blk off m dk os) ok [.agg x.1.2.toArray, .agg y.1.2.toArray] trivial
    (fun b hb => Nat.lt_of_lt_of_le (hok b hb).1 (size_sortWorldK_c _ 4 w blk off m dk os))
    (by
      simp only [FRelL, FRel, encV]
      exact ⟨_, _, rfl, ⟨_, rfl, FRelL.carry hc _ _ x.2.2⟩, _, _, rfl, ⟨_, rfl, FRelL.carry hc _ _ y.2.2⟩, rfl⟩)
  unfold CallY at h
  rw [run_enter ent16] at h
  simp only at h
  refine h.mono ?_
  rintro e w' ⟨v, rfl, hv, hx⟩
  simp only [FRel, int] at hv
  subst hv
  exact ⟨rfl, grow_of_ext hx⟩
end Go.Sx
set_option maxRecDepth 100000
set_option maxHeartbeats 4000000
set_option linter.unusedSimpArgs false
set_option linter.unusedVariables false
namespace Go.Sx
open Go.Proofs Sp
open Go.Proofs Sp Go.RowKit Go.Lib Go.Sort
theorem flat_get {α : Type} [Inhabited α] (enc : α → List Value) (k : Nat) (hk : ∀ x, (enc x).length = k) : ∀ (l : List α) (t : Nat), t < l.length * k → (l.map enc).flatten[t]? = some ((enc l[t / k]!)[t % k]!)
  | [], t, h => by simp at h
  | a :: l, t, h => by
    have hpos : 0 < k := by
      rcases Nat.eq_zero_or_pos k with h0 | h0
      · subst h0; simp at h
      · exact h0
    simp only [List.map_cons, List.flatten_cons]
    by_cases hc : t < k
    · rw [List.getElem?_append_left (by rw [hk]; exact hc), Nat.div_eq_of_lt hc, Nat.mod_eq_of_lt hc]
      have : t < (enc a).length := by rw [hk]; exact hc
      simp [this]
    · rw [List.getElem?_append_right (by rw [hk]; omega), hk]
      have h1 : t - k < l.length * k := by
        rw [List.length_cons, Nat.add_mul] at h; omega
      rw [flat_get enc k hk l (t - k) h1]
      have hd : t / k = (t - k) / k + 1 := by
        rw [← Nat.add_div_right _ hpos]; congr 1; omega
      have hm : t % k = (t - k) % k := by
        rw [← Nat.add_mod_right (t - k) k]; congr 1; omega
      rw [hd, hm]
      simp
theorem flat_lenK {α : Type} (enc : α → List Value) (k : Nat) (hk : ∀ x, (enc x).length = k) (l : List α) : (l.map enc).flatten.length = l.length * k := by
  rw [List.length_flatten, List.map_map]
  have : l.map (List.length ∘ enc) = List.replicate l.length k := by
    apply List.ext_getElem <;> simp [hk]
  rw [this]; simp
theorem flatK_list {α : Type} [Inhabited α] (enc : α → List Value) (k : Nat) (hk : ∀ x, (enc x).length = k) (d : Array α) : (flatK enc k d).toList = (d.toList.map enc).flatten := by
  have hl := flat_lenK enc k hk d.toList
  have h2 : flatK enc k d = (d.toList.map enc).flatten.toArray := by
    refine ext_get! (by simp only [size_flatK, List.size_toArray, hl, Array.length_toList]) fun t ht => ?_
    have ht' : t < d.size * k := by simpa using ht
    rw [get_flatK _ _ _ t ht']
    have := flat_get enc k hk d.toList t (by simpa using ht')
    have e : d.toList[t / k]! = d[t / k]! := by rw [List.getElem!_eq_getElem?_getD, Array.getElem!_eq_getD, Array.getD_eq_getD_getElem?, Array.getElem?_toList]
    rw [e] at this
    have hr : ((d.toList.map enc).flatten.toArray)[t]! = (enc d[t / k]!)[t % k]! := by
      rw [Array.getElem!_eq_getD, Array.getD_eq_getD_getElem?, List.getElem?_toArray, this]; rfl
    rw [hr]
  rw [h2]
theorem holds_id {w : World} {g : Nat} {cur : Array Value} {e : TypeId} {fl : Array Value} (hb : w.heap[g]? = some (.cells cur e (0, 0))) (ht : cur.toList.take fl.size = fl.toList) : Holds id w g 0 fl := by
  intro j hj
  refine ⟨?_, by simp [World.frozen?, hb]⟩
  have h1 : (cur.toList.take fl.size)[j]? = fl.toList[j]? := by rw [ht]
  rw [List.getElem?_take_of_lt hj] at h1
  simp only [World.cell?, hb, Nat.zero_add]
  simp only [Option.isSome_none, Bool.false_eq_true, if_false]
  rw [← Array.getElem?_toList, h1]
  simp [hj]
theorem heap_sorted_id {w : World} {g n : Nat} {os : Array Obj} {cur : Array Value} {e : TypeId} {fr : Nat × Nat} (d : Array Value) (hb : w.heap[g]? = some (.cells cur e fr)) :
    (grow (putRow id (Sort.ahead w n) g 0 d) os).heap[g]? = some (.cells (putCells id 0 d cur) e fr) := by
  have hg : g < w.heap.size := (Array.getElem?_eq_some_iff.1 hb).1
  rw [heap_grow_old _ _ (by simpa using hg)]
  simp [putRow, mapBlock, Sort.ahead, Array.getElem?_modify, hb, onCells]
theorem take_putCells_id (cur : Array Value) (fl : Array Value) (h : fl.size ≤ cur.size) : (putCells id 0 fl cur).toList.take fl.size = fl.toList := by
  apply List.ext_getElem?
  intro j
  by_cases hj : j < fl.size
  · rw [List.getElem?_take_of_lt hj, Array.getElem?_toList]
    simp [putCells, hj, show j < cur.size by omega]
  · rw [List.getElem?_take_eq_none (by omega), List.getElem?_eq_none (by simp; omega)]
theorem cellsVs_len4 : ∀ (l : List V) (x : List FV), x ∈ cellsVs l → x.length = 4
  | [], x, h => by simp [cellsVs] at h
  | v :: l, x, h => by
    simp only [cellsVs, List.mem_cons] at h
    rcases h with rfl | h
    · rw [cellsP_eq]; rfl
    · exact cellsVs_len4 l x h
theorem frel_list {w w' : World} {ok ok' : Nat → Prop} (hr : ∀ x : El w ok, FRelL w' ok' (cellsP x.1.1) x.1.2) : ∀ d : List (El w ok), FRelL w' ok' (cellsVs (d.map (·.1.1))).flatten (d.map (·.1.2)).flatten
  | [] => by simp [cellsVs, FRelL]
  | x :: d => by
    simp only [List.map_cons, cellsVs, List.flatten_cons, cellsP_eq]
    exact FRelL.append _ _ _ _ (hr x) (frel_list hr d)
theorem sort_ok (e : TypeId) (l : List V) (hf : ∀ x, x ∈ l → Fine x) (hanti : ∀ x y, x ∈ l → y ∈ l → cmpV x y = 0 → x = y) (hl : l.length < 4611686018427387904) :
    CallsW P G0 46 e 4 (cellsVs l) [.fn 16 [] []] (cellsVs (l.mergeSort fun x y => decide (cmpV x y ≤ 0))) (some (.tup [])) := by
  intro w ok v xs vs _ hok _ hown hfr hlens hvs
  have hlen : (cellsVs l).length = l.length := cellsVs_length l
  have hlen' : (cellsVs (l.mergeSort fun x y => decide (cmpV x y ≤ 0))).length = l.length := by rw [cellsVs_length]; simp
  have hvs' : vs = [.func (.func 16) #[] #[]] := by
    simp only [FRelL, FRel] at hvs
    obtain ⟨u, r, rfl, ⟨fs, cs, rfl, rfl, rfl⟩, rfl⟩ := hvs
    rfl
  subst hvs'
  unfold CallY
  rw [run_enter (show entersP P 46 = true by decide)]
  simp only
  rcases hown.2 with ⟨rfl, h0⟩ | ⟨g, cap, cur, rfl, hbase, hb, h1, h2, h3, h4⟩
  · have hl0 : l = [] := by
      rw [hlen] at h0; exact List.length_eq_zero_iff.1 h0
    subst hl0
    refine (AnyF.slices_SortFunc_none Tryd.lsort none 0 _ w).mono ?_
    rintro u w' ⟨rfl, rfl⟩
    have hxs : xs = [] := by simpa [cellsVs, FRelL] using hfr
    subst hxs
    refine ⟨_, rfl, .slice none 0 0, [], ?_, ?_, ?_, ?_, ?_, ?_⟩
    · simpa [cellsVs] using hown
    · intro b hb; simp [Value.ownBlock] at hb
    · simp [cellsVs, FRelL]
    · simp [cellsVs]
    · refine ⟨rfl, ?_⟩
      simp [FRel, FRelL]
    · exact (Ext.refl _).toX
  · have hg : g < w.heap.size := (Array.getElem?_eq_some_iff.1 hb).1
    have hok' : ∀ b, ok b → b < w.heap.size ∧ b ≠ g := fun b h => ⟨(hok b h).1, fun e => (hok b h).2 (by simp [Value.ownBlock, e])⟩
    obtain ⟨d, e1, e2⟩ := El.list l xs hf hfr
    letI : Inhabited (El w ok) := ⟨El.zero w ok⟩
    have hfl : (flatK (fun x : El w ok => x.1.2) 4 d.toArray).toList = xs := by
      rw [flatK_list _ _ El.len]; exact e2
    have hdl : d.length = l.length := by rw [← e1]; simp
    have hsz : (flatK (fun x : El w ok => x.1.2) 4 d.toArray).size = l.length * 4 := by simp [hdl]
    rw [hlen] at h1 h4
    have hh : HoldsK (fun x : El w ok => x.1.2) 4 w g 0 d.toArray := holds_id hb (by rw [hsz, hfl]; exact h4)
    have hs := AnyQ.slices_SortFunc Tryd.lsort 4 Tryd.isAgg25 Tryd.sizeOf25 (fun x : El w ok => x.1.2) El.len El.one (fun x y => cmpV x.1.1 y.1.1) (swo w ok) 16 #[] g 0 cap d.toArray w (run_enter ent16) (cmp_lays hok') hh hg (by simpa [hdl] using hl)
    rw [hlen]
    have hds : d.toArray.size = l.length := by simp [hdl]
    rw [hds] at hs
    refine hs.mono ?_
    rintro u w' ⟨rfl, d', n, os, hp, hsrt, rfl⟩
    have hperm : d'.toList.Perm d := by
      have := hp.2.2
      have hd' : d'.size = l.length := by rw [hp.1, hds]
      have e4 : d'.extract 0 l.length = d' := by rw [← hd']; exact Array.extract_size
      have e5 : d.toArray.extract 0 l.length = d.toArray := by rw [← hds]; exact Array.extract_size
      rw [e4, e5] at this
      exact this
    have hd' : d'.size = l.length := by rw [hp.1, hds]
    have hpV : (d'.toList.map (·.1.1)).Perm l := by rw [← e1]; exact hperm.map _
    have hsort : (d'.toList.map (·.1.1)).Pairwise (fun x y => cmpV x y ≤ 0) := by
      rw [List.pairwise_map, List.pairwise_iff_getElem]
      intro i j hi hj hij
      have := hsrt i j (Nat.zero_le _) hij (by simpa [hd'] using hj)
      rw [getElem!_pos d' j (by simpa using hj), getElem!_pos d' i (by simpa using hi)] at this
      simp only [ltOf, decide_eq_false_iff_not] at this
      have t1 := cmpV_line.turn d'[i].1.1 d'[j].1.1 trivial trivial
      simp only [Array.getElem_toList]
      omega
    have hL := sorted_unique l _ hpV hsort hanti
    rw [← hL]
    have hsz' : (flatK (fun x : El w ok => x.1.2) 4 d').size = l.length * 4 := by simp [hd']
    have hcur : l.length * 4 ≤ cur.size := by rw [h3]; exact Nat.mul_le_mul_right 4 h1
    have hc : Carry w (sortWorldK (fun x : El w ok => x.1.2) 4 w g 0 n d' os) ok ok := carry_sort _ 0 n d' os hok'
    refine ⟨_, rfl, .slice (some ⟨g, 0, none⟩) l.length cap, (d'.toList.map (·.1.2)).flatten, ?_, ?_, ?_, ?_, ?_, ?_⟩
    · have e3 : (cellsVs (d'.toList.map (·.1.1))).length = l.length := by rw [cellsVs_length]; simp [hd']
      rw [e3]
      refine ⟨by rw [flat_lenK _ 4 El.len]; simp [hd'], .inr ⟨g, cap, putCells id 0 (flatK (fun x : El w ok => x.1.2) 4 d') cur, rfl, hbase, heap_sorted_id _ hb, h1, h2, by simp [putCells, h3], ?_⟩⟩
      rw [← hsz', take_putCells_id _ _ (by rw [hsz']; exact hcur), flatK_list _ _ El.len]
    · intro b hb
      exact .inl hb
    · refine FRelL.mono (ok := ok) ?_ _ _ (frel_list (fun x : El w ok => FRelL.carry hc _ _ x.2.2) d'.toList)
      intro b hb
      exact ⟨.inl hb, (hok b hb).2⟩
    · intro x hx
      exact cellsVs_len4 _ x hx
    · refine ⟨rfl, ?_⟩
      simp [FRel, FRelL]
    · have hsw : (sortWorldK (fun x : El w ok => x.1.2) 4 w g 0 n d' os).heap.size = w.heap.size + os.size := by
        unfold sortWorldK; rw [size_grow, size_putRowK]; rfl
      refine ⟨rfl, rfl, rfl, by rw [hsw]; omega, ?_, fun _ => ?_⟩
      · intro k hk hne
        have hgk : g ≠ k := fun e => hne (by simp [Value.ownBlock, e])
        unfold sortWorldK
        rw [heap_grow_old _ _ (by rw [size_putRowK]; exact hk)]
        simp [putRowK, putRow, mapBlock, Sort.ahead, Array.getElem?_modify, hgk]
      · show w.drawn ≤ w.drawn + n
        omega
end Go.Sx

/-
  Proved: what some functions of the program answer, or a law of the evaluator that shows it, one theorem each; its conditions are the hypotheses that stand ahead of it.
-/
import Derived.Test.YtmnefgonaaakfaaDoorXC
set_option maxRecDepth 100000
namespace Go.Sx
open Go.Proofs Sp Go.RowKit Go.Lib Go.Sort
theorem flat_get {α : Type} [Inhabited α] (enc : α → List Value) (k : Nat) (hk : ∀ x, (enc x).length = k) : ∀ (l : List α) (t : Nat), t < l.length * k → (l.map enc).flatten[t]? = some ((enc l[t / k]!)[t % k]!)
  | [], t, h => by simp at h
  | a :: l, t, h => by
    have hpos : 0 < k := by
      rcases Nat.eq_zero_or_pos k with h0 | h0
      · subst h0; simp at h
      · exact h0
    simp only [List.map_cons, List.flatten_cons]
    by_cases hc : t < k
    · rw [List.getElem?_append_left (by rw [hk]; exact hc), Nat.div_eq_of_lt hc, Nat.mod_eq_of_lt hc]
      have : t < (enc a).length := by rw [hk]; exact hc
      simp [this]
    · rw [List.getElem?_append_right (by rw [hk]; omega), hk]
      have h1 : t - k < l.length * k := by
        rw [List.length_cons, Nat.add_mul] at h; omega
      rw [flat_get enc k hk l (t - k) h1]
      have hd : t / k = (t - k) / k + 1 := by
        rw [← Nat.add_div_right _ hpos]; congr 1; omega
      have hm : t % k = (t - k) % k := by
        rw [← Nat.add_mod_right (t - k) k]; congr 1; omega
      rw [hd, hm]
      simp
theorem flat_lenK {α : Type} (enc : α → List Value) (k : Nat) (hk : ∀ x, (enc x).length = k) (l : List α) : (l.map enc).flatten.length = l.length * k := by
  rw [List.length_flatten, List.map_map]
  have : l.map (List.length ∘ enc) = List.replicate l.length k := by
    apply List.ext_getElem <;> simp [hk]
  rw [this]; simp
theorem flatK_list {α : Type} [Inhabited α] (enc : α → List Value) (k : Nat) (hk : ∀ x, (enc x).length = k) (d : Array α) : (flatK enc k d).toList = (d.toList.map enc).flatten := by
  have hl := flat_lenK enc k hk d.toList
  have h2 : flatK enc k d = (d.toList.map enc).flatten.toArray := by
    refine ext_get! (by simp only [size_flatK, List.size_toArray, hl, Array.length_toList]) fun t ht => ?_
    have ht' : t < d.size * k := by simpa using ht
    rw [get_flatK _ _ _ t ht']
    have := flat_get enc k hk d.toList t (by simpa using ht')
    have e : d.toList[t / k]! = d[t / k]! := by rw [List.getElem!_eq_getElem?_getD, Array.getElem!_eq_getD, Array.getD_eq_getD_getElem?, Array.getElem?_toList]
    rw [e] at this
    have hr : ((d.toList.map enc).flatten.toArray)[t]! = (enc d[t / k]!)[t % k]! := by
      rw [Array.getElem!_eq_getD, Array.getD_eq_getD_getElem?, List.getElem?_toArray, this]; rfl
    rw [hr]
  rw [h2]
theorem holds_id {w : World} {g : Nat} {cur : Array Value} {e : TypeId} {fl : Array Value} (hb : w.heap[g]? = some (.cells cur e (0, 0))) (ht : cur.toList.take fl.size = fl.toList) : Holds id w g 0 fl := by
  intro j hj
  refine ⟨?_, by simp [World.frozen?, hb]⟩
  have h1 : (cur.toList.take fl.size)[j]? = fl.toList[j]? := by rw [ht]
  rw [List.getElem?_take_of_lt hj] at h1
  simp only [World.cell?, hb, Nat.zero_add]
  simp only [Option.isSome_none, Bool.false_eq_true, if_false]
  rw [← Array.getElem?_toList, h1]
  simp [hj]
theorem heap_sorted_id {w : World} {g n : Nat} {os : Array Obj} {cur : Array Value} {e : TypeId} {fr : Nat × Nat} (d : Array Value) (hb : w.heap[g]? = some (.cells cur e fr)) :
    (grow (putRow id (Sort.ahead w n) g 0 d) os).heap[g]? = some (.cells (putCells id 0 d cur) e fr) := by
  have hg : g < w.heap.size := (Array.getElem?_eq_some_iff.1 hb).1
  rw [heap_grow_old _ _ (by simpa using hg)]
  simp [putRow, mapBlock, Sort.ahead, Array.getElem?_modify, hb, onCells]
theorem take_putCells_id (cur : Array Value) (fl : Array Value) (h : fl.size ≤ cur.size) : (putCells id 0 fl cur).toList.take fl.size = fl.toList := by
  apply List.ext_getElem?
  intro j
  by_cases hj : j < fl.size
  · rw [List.getElem?_take_of_lt hj, Array.getElem?_toList]
    simp [putCells, hj, show j < cur.size by omega]
  · rw [List.getElem?_take_eq_none (by omega), List.getElem?_eq_none (by simp; omega)]

theorem cellsVs_len4 : ∀ (l : List V) (x : List FV), x ∈ cellsVs l → x.length = 4
  | [], x, h => by simp [cellsVs] at h
  | v :: l, x, h => by
    simp only [cellsVs, List.mem_cons] at h
    rcases h with rfl | h
    · rw [cellsP_eq]; rfl
    · exact cellsVs_len4 l x h
theorem frel_list {w w' : World} {ok ok' : Nat → Prop} (hr : ∀ x : El w ok, FRelL w' ok' (cellsP x.1.1) x.1.2) : ∀ d : List (El w ok), FRelL w' ok' (cellsVs (d.map (·.1.1))).flatten (d.map (·.1.2)).flatten
  | [] => by simp [cellsVs, FRelL]
  | x :: d => by
    simp only [List.map_cons, cellsVs, List.flatten_cons, cellsP_eq]
    exact FRelL.append _ _ _ _ (hr x) (frel_list hr d)
theorem sort_ok (e : TypeId) (l : List V) (hf : ∀ x, x ∈ l → Fine x) (hanti : ∀ x y, x ∈ l → y ∈ l → cmpV x y = 0 → x = y) (hl : l.length < 4611686018427387904) :
    CallsW P G0 42 e 4 (cellsVs l) [.fn 9 [] []] (cellsVs (l.mergeSort fun x y => decide (cmpV x y ≤ 0))) (some (.tup [])) := by
  intro w ok v xs vs _ hok _ hown hfr hlens hvs
  have hlen : (cellsVs l).length = l.length := cellsVs_length l
  have hlen' : (cellsVs (l.mergeSort fun x y => decide (cmpV x y ≤ 0))).length = l.length := by rw [cellsVs_length]; simp
  have hvs' : vs = [.func (.func 9) #[] #[]] := by
    simp only [FRelL, FRel] at hvs
    obtain ⟨u, r, rfl, ⟨fs, cs, rfl, rfl, rfl⟩, rfl⟩ := hvs
    rfl
  subst hvs'
  unfold CallY
  rw [run_enter (show entersP P 42 = true by decide)]
  simp only
  rcases hown.2 with ⟨rfl, h0⟩ | ⟨g, cap, cur, rfl, hbase, hb, h1, h2, h3, h4⟩
  · have hl0 : l = [] := by
      rw [hlen] at h0; exact List.length_eq_zero_iff.1 h0
    subst hl0
    refine (AnyF.slices_SortFunc_none Tryd.lsort none 0 _ w).mono ?_
    rintro u w' ⟨rfl, rfl⟩
    have hxs : xs = [] := by simpa [cellsVs, FRelL] using hfr
    subst hxs
    refine ⟨_, rfl, .slice none 0 0, [], ?_, ?_, ?_, ?_, ?_, ?_⟩
    · simpa [cellsVs] using hown
    · intro b hb; simp [Value.ownBlock] at hb
    · simp [cellsVs, FRelL]
    · simp [cellsVs]
    · refine ⟨rfl, ?_⟩
      simp [FRel, FRelL]
    · exact (Ext.refl _).toX
  · have hg : g < w.heap.size := (Array.getElem?_eq_some_iff.1 hb).1
    have hok' : ∀ b, ok b → b < w.heap.size ∧ b ≠ g := fun b h => ⟨(hok b h).1, fun e => (hok b h).2 (by simp [Value.ownBlock, e])⟩
    obtain ⟨d, e1, e2⟩ := El.list l xs hf hfr
    letI : Inhabited (El w ok) := ⟨El.zero w ok⟩
    have hfl : (flatK (fun x : El w ok => x.1.2) 4 d.toArray).toList = xs := by
      rw [flatK_list _ _ El.len]; exact e2
    have hdl : d.length = l.length := by rw [← e1]; simp
    have hsz : (flatK (fun x : El w ok => x.1.2) 4 d.toArray).size = l.length * 4 := by simp [hdl]
    rw [hlen] at h1 h4
    have hh : HoldsK (fun x : El w ok => x.1.2) 4 w g 0 d.toArray := holds_id hb (by rw [hsz, hfl]; exact h4)
    have hs := AnyQ.slices_SortFunc Tryd.lsort 4 Tryd.isAgg24 Tryd.sizeOf24 (fun x : El w ok => x.1.2) El.len El.one (fun x y => cmpV x.1.1 y.1.1) (swo w ok) 9 #[] g 0 cap d.toArray w (run_enter ent9) (cmp_lays hok') hh hg (by simpa [hdl] using hl)
    rw [hlen]
    have hds : d.toArray.size = l.length := by simp [hdl]
    rw [hds] at hs
    refine hs.mono ?_
    rintro u w' ⟨rfl, d', n, os, hp, hsrt, rfl⟩
    have hperm : d'.toList.Perm d := by
      have := hp.2.2
      have hd' : d'.size = l.length := by rw [hp.1, hds]
      have e4 : d'.extract 0 l.length = d' := by rw [← hd']; exact Array.extract_size
      have e5 : d.toArray.extract 0 l.length = d.toArray := by rw [← hds]; exact Array.extract_size
      rw [e4, e5] at this
      exact this
    have hd' : d'.size = l.length := by rw [hp.1, hds]
    have hpV : (d'.toList.map (·.1.1)).Perm l := by rw [← e1]; exact hperm.map _
    have hsort : (d'.toList.map (·.1.1)).Pairwise (fun x y => cmpV x y ≤ 0) := by
      rw [List.pairwise_map, List.pairwise_iff_getElem]
      intro i j hi hj hij
      have := hsrt i j (Nat.zero_le _) hij (by simpa [hd'] using hj)
      rw [getElem!_pos d' j (by simpa using hj), getElem!_pos d' i (by simpa using hi)] at this
      simp only [ltOf, decide_eq_false_iff_not] at this
      have t1 := cmpV_line.turn d'[i].1.1 d'[j].1.1 trivial trivial
      simp only [Array.getElem_toList]
      omega
    have hL := sorted_unique l _ hpV hsort hanti
    rw [← hL]
    have hsz' : (flatK (fun x : El w ok => x.1.2) 4 d').size = l.length * 4 := by simp [hd']
    have hcur : l.length * 4 ≤ cur.size := by rw [h3]; exact Nat.mul_le_mul_right 4 h1
    have hc : Carry w (sortWorldK (fun x : El w ok => x.1.2) 4 w g 0 n d' os) ok ok := ⟨fun _ h => h, fun b hb o => cell?_sortWorldK_other _ 4 w g 0 n d' os ⟨b, o, none⟩ (hok' b hb).2 (hok' b hb).1⟩
    refine ⟨_, rfl, .slice (some ⟨g, 0, none⟩) l.length cap, (d'.toList.map (·.1.2)).flatten, ?_, ?_, ?_, ?_, ?_, ?_⟩
    · have e3 : (cellsVs (d'.toList.map (·.1.1))).length = l.length := by rw [cellsVs_length]; simp [hd']
      rw [e3]
      refine ⟨by rw [flat_lenK _ 4 El.len]; simp [hd'], .inr ⟨g, cap, putCells id 0 (flatK (fun x : El w ok => x.1.2) 4 d') cur, rfl, hbase, heap_sorted_id _ hb, h1, h2, by simp [putCells, h3], ?_⟩⟩
      rw [← hsz', take_putCells_id _ _ (by rw [hsz']; exact hcur), flatK_list _ _ El.len]
    · intro b hb
      exact .inl hb
    · refine FRelL.mono (ok := ok) ?_ _ _ (frel_list (fun x : El w ok => FRelL.carry hc _ _ x.2.2) d'.toList)
      intro b hb
      exact ⟨.inl hb, (hok b hb).2⟩
    · intro x hx
      exact cellsVs_len4 _ x hx
    · refine ⟨rfl, ?_⟩
      simp [FRel, FRelL]
    · have hsw : (sortWorldK (fun x : El w ok => x.1.2) 4 w g 0 n d' os).heap.size = w.heap.size + os.size := by
        unfold sortWorldK; rw [size_grow, size_putRowK]; rfl
      refine ⟨rfl, rfl, rfl, by rw [hsw]; omega, ?_, fun _ => ?_⟩
      · intro k hk hne
        have hgk : g ≠ k := fun e => hne (by simp [Value.ownBlock, e])
        unfold sortWorldK
        rw [heap_grow_old _ _ (by rw [size_putRowK]; exact hk)]
        simp [putRowK, putRow, mapBlock, Sort.ahead, Array.getElem?_modify, hgk]
      · show w.drawn ≤ w.drawn + n
        omega
end Go.Sx

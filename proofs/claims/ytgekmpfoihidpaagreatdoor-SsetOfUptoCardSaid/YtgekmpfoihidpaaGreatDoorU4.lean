/-
  Proved: what some functions of the program answer, or a law of the evaluator that shows it, one theorem each; its conditions are the hypotheses that stand ahead of it.
-/
import Derived.Test.YtgekmpfoihidpaaGreatDoorXC
import Derived.KernelRfl
import Derived.Test.YtgekmpfoihidpaaGreatDoorD6
import Derived.Test.YtgekmpfoihidpaaGreatDoorPLine
import Derived.Test.YtgekmpfoihidpaaGreatDoorTA
set_option maxRecDepth 100000
set_option maxHeartbeats 4000000
set_option linter.unusedSimpArgs false
set_option linter.unusedVariables false
namespace Go.Sx
open Go.Proofs Sp
open Go.Proofs Sp Go.RowKit Go.Lib Go.Sort
theorem flat_get {α : Type} [Inhabited α] (enc : α → List Value) (k : Nat) (hk : ∀ x, (enc x).length = k) : ∀ (l : List α) (t : Nat), t < l.length * k → (l.map enc).flatten[t]? = some ((enc l[t / k]!)[t % k]!)
  | [], t, h => by simp at h
  | a :: l, t, h => by
    have hpos : 0 < k := by
      rcases Nat.eq_zero_or_pos k with h0 | h0
      · subst h0; simp at h
      · exact h0
    simp only [List.map_cons, List.flatten_cons]
    by_cases hc : t < k
    · rw [List.getElem?_append_left (by rw [hk]; exact hc), Nat.div_eq_of_lt hc, Nat.mod_eq_of_lt hc]
      have : t < (enc a).length := by rw [hk]; exact hc
      simp [this]
    · rw [List.getElem?_append_right (by rw [hk]; omega), hk]
      have h1 : t - k < l.length * k := by
        rw [List.length_cons, Nat.add_mul] at h; omega
      rw [flat_get enc k hk l (t - k) h1]
      have hd : t / k = (t - k) / k + 1 := by
        rw [← Nat.add_div_right _ hpos]; congr 1; omega
      have hm : t % k = (t - k) % k := by
        rw [← Nat.add_mod_right (t - k) k]; congr 1; omega
      rw [hd, hm]
      simp
theorem flat_lenK {α : Type} (enc : α → List Value) (k : Nat) (hk : ∀ x, (enc x).length = k) (l : List α) : (l.map enc).flatten.length = l.length * k := by
  rw [List.length_flatten, List.map_map]
  have : l.map (List.length ∘ enc) = List.replicate l.length k := by
    apply List.ext_getElem <;> simp [hk]
  rw [this]; simp
theorem flatK_list {α : Type} [Inhabited α] (enc : α → List Value) (k : Nat) (hk : ∀ x, (enc x).length = k) (d : Array α) : (flatK enc k d).toList = (d.toList.map enc).flatten := by
  have hl := flat_lenK enc k hk d.toList
  have h2 : flatK enc k d = (d.toList.map enc).flatten.toArray := by
    refine ext_get! (by simp only [size_flatK, List.size_toArray, hl, Array.length_toList]) fun t ht => ?_
    have ht' : t < d.size * k := by simpa using ht
    rw [get_flatK _ _ _ t ht']
    have := flat_get enc k hk d.toList t (by simpa using ht')
    have e : d.toList[t / k]! = d[t / k]! := by rw [List.getElem!_eq_getElem?_getD, Array.getElem!_eq_getD, Array.getD_eq_getD_getElem?, Array.getElem?_toList]
    rw [e] at this
    have hr : ((d.toList.map enc).flatten.toArray)[t]! = (enc d[t / k]!)[t % k]! := by
      rw [Array.getElem!_eq_getD, Array.getD_eq_getD_getElem?, List.getElem?_toArray, this]; rfl
    rw [hr]
  rw [h2]
theorem holds_id {w : World} {g : Nat} {cur : Array Value} {e : TypeId} {fl : Array Value} (hb : w.heap[g]? = some (.cells cur e (0, 0))) (ht : cur.toList.take fl.size = fl.toList) : Holds id w g 0 fl := by
  intro j hj
  refine ⟨?_, by simp [World.frozen?, hb]⟩
  have h1 : (cur.toList.take fl.size)[j]? = fl.toList[j]? := by rw [ht]
  rw [List.getElem?_take_of_lt hj] at h1
  simp only [World.cell?, hb, Nat.zero_add]
  simp only [Option.isSome_none, Bool.false_eq_true, if_false]
  rw [← Array.getElem?_toList, h1]
  simp [hj]
theorem heap_sorted_id {w : World} {g n : Nat} {os : Array Obj} {cur : Array Value} {e : TypeId} {fr : Nat × Nat} (d : Array Value) (hb : w.heap[g]? = some (.cells cur e fr)) :
    (grow (putRow id (Sort.ahead w n) g 0 d) os).heap[g]? = some (.cells (putCells id 0 d cur) e fr) := by
  have hg : g < w.heap.size := (Array.getElem?_eq_some_iff.1 hb).1
  rw [heap_grow_old _ _ (by simpa using hg)]
  simp [putRow, mapBlock, Sort.ahead, Array.getElem?_modify, hb, onCells]
theorem take_putCells_id (cur : Array Value) (fl : Array Value) (h : fl.size ≤ cur.size) : (putCells id 0 fl cur).toList.take fl.size = fl.toList := by
  apply List.ext_getElem?
  intro j
  by_cases hj : j < fl.size
  · rw [List.getElem?_take_of_lt hj, Array.getElem?_toList]
    simp [putCells, hj, show j < cur.size by omega]
  · rw [List.getElem?_take_eq_none (by omega), List.getElem?_eq_none (by simp; omega)]
theorem cellsVs_len4 : ∀ (l : List V) (x : List FV), x ∈ cellsVs l → x.length = 4
  | [], x, h => by simp [cellsVs] at h
  | v :: l, x, h => by
    simp only [cellsVs, List.mem_cons] at h
    rcases h with rfl | h
    · rw [cellsP_eq]; rfl
    · exact cellsVs_len4 l x h
theorem frel_list {w w' : World} {ok ok' : Nat → Prop} (hr : ∀ x : El w ok, FRelL w' ok' (cellsP x.1.1) x.1.2) : ∀ d : List (El w ok), FRelL w' ok' (cellsVs (d.map (·.1.1))).flatten (d.map (·.1.2)).flatten
  | [] => by simp [cellsVs, FRelL]
  | x :: d => by
    simp only [List.map_cons, cellsVs, List.flatten_cons, cellsP_eq]
    exact FRelL.append _ _ _ _ (hr x) (frel_list hr d)
theorem sort_ok (e : TypeId) (l : List V) (hf : ∀ x, x ∈ l → Fine x) (hanti : ∀ x y, x ∈ l → y ∈ l → cmpV x y = 0 → x = y) (hl : l.length < 4611686018427387904) :
    CallsW P G0 160 e 4 (cellsVs l) [.fn 131 [] []] (cellsVs (l.mergeSort fun x y => decide (cmpV x y ≤ 0))) (some (.tup [])) := by
  intro w ok v xs vs _ hok _ hown hfr hlens hvs
  have hlen : (cellsVs l).length = l.length := cellsVs_length l
  have hlen' : (cellsVs (l.mergeSort fun x y => decide (cmpV x y ≤ 0))).length = l.length := by rw [cellsVs_length]; simp
  have hvs' : vs = [.func (.func 131) #[] #[]] := by
    simp only [FRelL, FRel] at hvs
    obtain ⟨u, r, rfl, ⟨fs, cs, rfl, rfl, rfl⟩, rfl⟩ := hvs
    rfl
  subst hvs'
  unfold CallY
  rw [run_enter (show entersP P 160 = true by decide)]
  simp only
  rcases hown.2 with ⟨rfl, h0⟩ | ⟨g, cap, cur, rfl, hbase, hb, h1, h2, h3, h4⟩
  · have hl0 : l = [] := by
      rw [hlen] at h0; exact List.length_eq_zero_iff.1 h0
    subst hl0
    refine (AnyF.slices_SortFunc_none Tryz.lsort none 0 _ w).mono ?_
    rintro u w' ⟨rfl, rfl⟩
    have hxs : xs = [] := by simpa [cellsVs, FRelL] using hfr
    subst hxs
    refine ⟨_, rfl, .slice none 0 0, [], ?_, ?_, ?_, ?_, ?_, ?_⟩
    · simpa [cellsVs] using hown
    · intro b hb; simp [Value.ownBlock] at hb
    · simp [cellsVs, FRelL]
    · simp [cellsVs]
    · refine ⟨rfl, ?_⟩
      simp [FRel, FRelL]
    · exact (Ext.refl _).toX
  · have hg : g < w.heap.size := (Array.getElem?_eq_some_iff.1 hb).1
    have hok' : ∀ b, ok b → b < w.heap.size ∧ b ≠ g := fun b h => ⟨(hok b h).1, fun e => (hok b h).2 (by simp [Value.ownBlock, e])⟩
    obtain ⟨d, e1, e2⟩ := El.list l xs hf hfr
    letI : Inhabited (El w ok) := ⟨El.zero w ok⟩
    have hfl : (flatK (fun x : El w ok => x.1.2) 4 d.toArray).toList = xs := by
      rw [flatK_list _ _ El.len]; exact e2
    have hdl : d.length = l.length := by rw [← e1]; simp
    have hsz : (flatK (fun x : El w ok => x.1.2) 4 d.toArray).size = l.length * 4 := by simp [hdl]
    rw [hlen] at h1 h4
    have hh : HoldsK (fun x : El w ok => x.1.2) 4 w g 0 d.toArray := holds_id hb (by rw [hsz, hfl]; exact h4)
    have hs := AnyQ.slices_SortFunc Tryz.lsort 4 Tryz.isAgg62 Tryz.sizeOf62 (fun x : El w ok => x.1.2) El.len El.one (fun x y => cmpV x.1.1 y.1.1) (swo w ok) 131 #[] g 0 cap d.toArray w (run_enter ent131) (cmp_lays hok') hh hg (by simpa [hdl] using hl)
    rw [hlen]
    have hds : d.toArray.size = l.length := by simp [hdl]
    rw [hds] at hs
    refine hs.mono ?_
    rintro u w' ⟨rfl, d', n, os, hp, hsrt, rfl⟩
    have hperm : d'.toList.Perm d := by
      have := hp.2.2
      have hd' : d'.size = l.length := by rw [hp.1, hds]
      have e4 : d'.extract 0 l.length = d' := by rw [← hd']; exact Array.extract_size
      have e5 : d.toArray.extract 0 l.length = d.toArray := by rw [← hds]; exact Array.extract_size
      rw [e4, e5] at this
      exact this
    have hd' : d'.size = l.length := by rw [hp.1, hds]
    have hpV : (d'.toList.map (·.1.1)).Perm l := by rw [← e1]; exact hperm.map _
    have hsort : (d'.toList.map (·.1.1)).Pairwise (fun x y => cmpV x y ≤ 0) := by
      rw [List.pairwise_map, List.pairwise_iff_getElem]
      intro i j hi hj hij
      have := hsrt i j (Nat.zero_le _) hij (by simpa [hd'] using hj)
      rw [getElem!_pos d' j (by simpa using hj), getElem!_pos d' i (by simpa using hi)] at this
      simp only [ltOf, decide_eq_false_iff_not] at this
      have t1 := cmpV_line.turn d'[i].1.1 d'[j].1.1 trivial trivial
      simp only [Array.getElem_toList]
      omega
    have hL := sorted_unique l _ hpV hsort hanti
    rw [← hL]
    have hsz' : (flatK (fun x : El w ok => x.1.2) 4 d').size = l.length * 4 := by simp [hd']
    have hcur : l.length * 4 ≤ cur.size := by rw [h3]; exact Nat.mul_le_mul_right 4 h1
    have hc : Carry w (sortWorldK (fun x : El w ok => x.1.2) 4 w g 0 n d' os) ok ok := carry_sort _ 0 n d' os hok' 
    refine ⟨_, rfl, .slice (some ⟨g, 0, none⟩) l.length cap, (d'.toList.map (·.1.2)).flatten, ?_, ?_, ?_, ?_, ?_, ?_⟩
    · have e3 : (cellsVs (d'.toList.map (·.1.1))).length = l.length := by rw [cellsVs_length]; simp [hd']
      rw [e3]
      refine ⟨by rw [flat_lenK _ 4 El.len]; simp [hd'], .inr ⟨g, cap, putCells id 0 (flatK (fun x : El w ok => x.1.2) 4 d') cur, rfl, hbase, heap_sorted_id _ hb, h1, h2, by simp [putCells, h3], ?_⟩⟩
      rw [← hsz', take_putCells_id _ _ (by rw [hsz']; exact hcur), flatK_list _ _ El.len]
    · intro b hb
      exact .inl hb
    · refine FRelL.mono (ok := ok) ?_ _ _ (frel_list (fun x : El w ok => FRelL.carry hc _ _ x.2.2) d'.toList)
      intro b hb
      exact ⟨.inl hb, (hok b hb).2⟩
    · intro x hx
      exact cellsVs_len4 _ x hx
    · refine ⟨rfl, ?_⟩
      simp [FRel, FRelL]
    · have hsw : (sortWorldK (fun x : El w ok => x.1.2) 4 w g 0 n d' os).heap.size = w.heap.size + os.size := by
        unfold sortWorldK; rw [size_grow, size_putRowK]; rfl
      refine ⟨rfl, rfl, rfl, by rw [hsw]; omega, ?_, fun _ => ?_⟩
      · intro k hk hne
        have hgk : g ≠ k := fun e => hne (by simp [Value.ownBlock, e])
        unfold sortWorldK
        rw [heap_grow_old _ _ (by rw [size_putRowK]; exact hk)]
        simp [putRowK, putRow, mapBlock, Sort.ahead, Array.getElem?_modify, hgk]
      · show w.drawn ≤ w.drawn + n
        omega
end Go.Sx
set_option maxRecDepth 100000
set_option maxHeartbeats 4000000
set_option linter.unusedSimpArgs false
set_option linter.unusedVariables false
namespace Go.Sx
open Go.Proofs Sp
/-- A contract over the draws alone is one over the program's ground. -/
theorem CallsW.toG {Q : Program} {f e sz : Nat} {es es' : List (List FV)} {rest : List FV} {r : Option FV} (h : CallsW Q G0 f e sz es rest es' r) : CallsW Q G f e sz es rest es' r := by
  intro w ok v xs vs _ hok _ hown hfr hl hv
  refine CallY.mono (h w ok v xs vs trivial hok (fun _ _ h => h.elim) hown hfr hl hv) ?_
  rintro u w' ⟨v', xs', h1, h2, h3, h4, h5, h6⟩
  exact ⟨v', xs', h1, h2, h3, h4, h5, ⟨h6.os, h6.tape, h6.output, h6.size, h6.block, fun hs => by cases hs⟩⟩
theorem fineL {l : List V} {N : Nat} (h : ∀ x, x ∈ l → Fine x) (hl : l.length ≤ N) (hN : N ≤ 2513169434844) (k : Int) (hk : 0 ≤ k ∧ k ≤ 6) : Fine (.mk k 0 [] l) := Fine.mk k 0 [] l (by omega) (by omega) (by simp) (by omega) h
/-- A set's members: sorted, each once. -/
noncomputable def setL (l : List V) : List V := comp (fun a b => cmpV a b == 0) (l.mergeSort fun x y => decide (cmpV x y ≤ 0))
theorem get116 : P.funcs[116]? = some Tryz.f116 := by kernel_rfl
theorem ent116 : entersP P 116 = true := by kernel_rfl
theorem set_bad (l : List V) (h : CallsF P G 158 [encI l] (int (listE l))) (h0 : listE l ≠ 0) : CallsF P G 116 [encI l] (.tup [.agg [int 0, int 0, str [], .nils], int (listE l)]) := by
  refine sx_fn (hs := [.call (int (listE l)), .dec true]) ((CallsF P G 158 [encI l] (int (listE l))) ∧ ((listE l != 0) = (true)) ∧ E (FV.tup [FV.agg [int 0, int 0, str [], FV.nils], int (listE l)])) get116 ent116 (by kernel_rfl) ?_
  refine ⟨?_, ⟨?_, rfl⟩⟩
  all_goals first | exact h | (simp [h0]; done)
theorem set_yes (l : List V) (h : CallsF P G 158 [encI l] (int 0)) (hl : l.length ≤ 65536) (hf : ∀ x, x ∈ l → Fine x) (hr : ∀ x, x ∈ l → rightB x = true) (hm : CallsF P G 155 [int 5, encI (setL l)] (.tup [encV (.mk 5 0 [] (setL l)), int 0])) : CallsF P G 116 [encI l] (.tup [encV (.mk 5 0 [] (setL l)), int 0]) := by
  refine sx_fn (hs := [.call (int 0), .dec false, .callO 62 4 (cellsVs l), .callW (cellsVs (l.mergeSort fun x y => decide (cmpV x y ≤ 0))) (some (.tup [])), .callW (cellsVs (setL l)) none, .frz [2], .call (.tup [encV (.mk 5 0 [] (setL l)), int 0])]) (let z1 := FV.tup [FV.agg [int 5, int 0, str [], encI (setL l)], int 0]; CallsF P G 158 [encI l] (int 0) ∧ E false ∧ CallsO P G 159 [encI l] (62) (4) (cellsVs l) ∧ CallsW P G 160 (62) (4) (cellsVs l) ([FV.fn 131 [] []]) (cellsVs (List.mergeSort l fun x y => decide (cmpV x y ≤ 0))) (some (FV.tup [])) ∧ CallsW P G 161 (62) (4) (cellsVs (List.mergeSort l fun x y => decide (cmpV x y ≤ 0))) ([FV.fn 83 [] []]) (cellsVs (setL l)) (none) ∧ CallsF P G 155 [int 5, encI (setL l)] z1 ∧ E z1) get116 ent116 (by kernel_rfl) ?_
  refine ⟨?_, rfl, ?_, ?_, ?_, ?_, rfl⟩
  all_goals first | exact h | exact hm | exact clone_ok l (by omega) | exact CallsW.toG (sort_ok _ l hf (fun a b ha hb h => rightB_same (hr a ha) (hr b hb) h) (by omega)) | exact compact_ok (fun a b => cmpV a b == 0) _ _ (by rw [List.length_mergeSort]; omega) (fun i hi => equal_ok _ _ (fineD (fun x hx => hf x (by simpa using hx)) (by omega)))
theorem set_no (l : List V) (h : CallsF P G 158 [encI l] (int 0)) (hl : l.length ≤ 65536) (hf : ∀ x, x ∈ l → Fine x) (hr : ∀ x, x ∈ l → rightB x = true) (hm : CallsF P G 155 [int 5, encI (setL l)] (.tup [.agg [int 0, int 0, str [], .nils], int 2])) : CallsF P G 116 [encI l] (.tup [.agg [int 0, int 0, str [], .nils], int 2]) := by
  refine sx_fn (hs := [.call (int 0), .dec false, .callO 62 4 (cellsVs l), .callW (cellsVs (l.mergeSort fun x y => decide (cmpV x y ≤ 0))) (some (.tup [])), .callW (cellsVs (setL l)) none, .frz [2], .call (.tup [.agg [int 0, int 0, str [], .nils], int 2])]) (let z1 := FV.tup [FV.agg [int 0, int 0, str [], FV.nils], int 2]; CallsF P G 158 [encI l] (int 0) ∧ E false ∧ CallsO P G 159 [encI l] (62) (4) (cellsVs l) ∧ CallsW P G 160 (62) (4) (cellsVs l) ([FV.fn 131 [] []]) (cellsVs (List.mergeSort l fun x y => decide (cmpV x y ≤ 0))) (some (FV.tup [])) ∧ CallsW P G 161 (62) (4) (cellsVs (List.mergeSort l fun x y => decide (cmpV x y ≤ 0))) ([FV.fn 83 [] []]) (cellsVs (setL l)) (none) ∧ CallsF P G 155 [int 5, encI (setL l)] z1 ∧ E z1) get116 ent116 (by kernel_rfl) ?_
  refine ⟨?_, rfl, ?_, ?_, ?_, ?_, rfl⟩
  all_goals first | exact h | exact hm | exact clone_ok l (by omega) | exact CallsW.toG (sort_ok _ l hf (fun a b ha hb h => rightB_same (hr a ha) (hr b hb) h) (by omega)) | exact compact_ok (fun a b => cmpV a b == 0) _ _ (by rw [List.length_mergeSort]; omega) (fun i hi => equal_ok _ _ (fineD (fun x hx => hf x (by simpa using hx)) (by omega)))
theorem nilT {a b c : FV} (l : List FV) : ∀ w ok v, FRel w ok (.tup (.agg [a, b, c, .nils] :: l)) v → FRel w ok (.tup (.agg [a, b, c, .sl 4 []] :: l)) v := by
  intro w ok v h
  simp only [FRel, FRelL] at h ⊢
  obtain ⟨cs, e, v0, r0, e0, ⟨cs1, e1, h1⟩, h2⟩ := h
  refine ⟨cs, e, v0, r0, e0, ⟨cs1, e1, ?_⟩, h2⟩
  obtain ⟨v1, r1, e1, h1, v2, r2, e2, h2, v3, r3, e3, h3, v4, r4, e4, h4, h5⟩ := h1
  exact ⟨v1, r1, e1, h1, v2, r2, e2, h2, v3, r3, e3, h3, v4, r4, e4, .inl ⟨trivial, .inl h4⟩, h5⟩
/-- What is told where nothing is. -/
def V0 : V := .mk 0 0 [] []
theorem comp_mem (q : V → V → Bool) (l : List V) : ∀ x, x ∈ comp q l → x ∈ l := by
  have main : ∀ (l : List V) (p x : V), x ∈ compF q p l → x ∈ l := by
    intro l
    induction l with
    | nil => intro p x h; simp [compF] at h
    | cons y l ih =>
      intro p x h
      simp only [compF] at h
      split at h
      · exact .tail _ (ih _ _ h)
      · rcases List.mem_cons.1 h with rfl | h
        · exact .head _
        · exact .tail _ (ih _ _ h)
  cases l with
  | nil => intro x h; simp [comp] at h
  | cons y l =>
    intro x h
    simp only [comp] at h
    rcases List.mem_cons.1 h with rfl | h
    · exact .head _
    · exact .tail _ (main _ _ _ h)
theorem comp_len (q : V → V → Bool) (l : List V) : (comp q l).length ≤ l.length := by
  have main : ∀ (l : List V) (p : V), (compF q p l).length ≤ l.length := by
    intro l
    induction l with
    | nil => intro p; simp [compF]
    | cons y l ih =>
      intro p
      simp only [compF]
      split
      · have := ih y; simp; omega
      · have := ih y; simp; omega
  cases l with
  | nil => simp [comp]
  | cons y l => have := main l y; simp [comp]; omega
theorem setL_mem {l : List V} {x : V} (h : x ∈ setL l) : x ∈ l := by simpa using comp_mem _ _ x h
theorem setL_len (l : List V) : (setL l).length ≤ l.length := by have := comp_len (fun a b => cmpV a b == 0) (l.mergeSort fun x y => decide (cmpV x y ≤ 0)); simpa [setL] using this
/-- What is made of items: it, or nothing and what is wrong. -/
noncomputable def madeR (k : Int) (l : List V) : V × Int := if rightB (.mk k 0 [] l) then (.mk k 0 [] l, 0) else (V0, 2)
noncomputable def setR (l : List V) : V × Int := if listE l = 0 then madeR 5 (setL l) else (V0, listE l)
theorem listE_zero {l : List V} (h : listE l = 0) : l.length ≤ 65536 ∧ ∀ x, x ∈ l → rightB x = true := by
  unfold listE at h
  split at h
  · omega
  · split at h
    · rename_i h1 h2
      exact ⟨by omega, by simpa using h2⟩
    · omega
theorem set_ok (l : List V) (hf : ∀ x, x ∈ l → Fine x) : CallsF P G 116 [encI l] (.tup [encV (setR l).1, int (setR l).2]) := by
  unfold setR
  by_cases h0 : listE l = 0
  · rw [if_pos h0]
    obtain ⟨hl, hr⟩ := listE_zero h0
    have hv := values_ok l hf
    rw [h0] at hv
    have hF : ∀ x, x ∈ setL l → Fine x := fun x hx => hf x (setL_mem hx)
    have hlen := setL_len l
    have hFF := fineL hF hlen (by omega) 5 (by omega)
    unfold madeR
    cases h : rightB (.mk 5 0 [] (setL l)) with
    | true => rw [if_pos rfl]; exact set_yes l hv hl hf hr (made_yes 5 _ (by have := right_ok _ hFF; rwa [h] at this ⊢) (own_ok _ hFF) h)
    | false => rw [if_neg (by simp)]; exact (set_no l hv hl hf hr (made_no 5 _ (right_ok _ hFF) h)).weak (nilT _)
  · rw [if_neg h0]
    exact (set_bad l (values_ok l hf) h0).weak (nilT _)
/-! ### A set of a list turned about and the list again -/
theorem strict_ext {l m : List V} (hl : l.Pairwise fun x y => cmpV x y < 0) (hm : m.Pairwise fun x y => cmpV x y < 0) (h : ∀ x, x ∈ l ↔ x ∈ m) : l = m := by
  have nd : ∀ k : List V, k.Pairwise (fun x y => cmpV x y < 0) → k.Nodup := fun k hk => hk.imp fun {a b} hab e => by
    subst e; rw [cmpV_self] at hab; omega
  have hp : l.Perm m := (List.perm_ext_iff_of_nodup (nd l hl) (nd m hm)).2 h
  refine List.Perm.eq_of_pairwise (le := fun x y => cmpV x y < 0) ?_ hl hm hp
  intro a b _ _ h1 h2
  have := cmpV_line.turn a b trivial trivial
  omega
theorem compF_spec (p : V) : ∀ l : List V, (∀ x, x ∈ l → cmpV p x ≤ 0) → l.Pairwise (fun x y => cmpV x y ≤ 0) → (compF (fun a b => cmpV a b == 0) p l).Pairwise (fun x y => cmpV x y < 0) ∧
    (∀ x, x ∈ compF (fun a b => cmpV a b == 0) p l → cmpV p x < 0) ∧ (∀ x, x ∈ l → cmpV p x = 0 ∨ ∃ y, y ∈ compF (fun a b => cmpV a b == 0) p l ∧ cmpV y x = 0) := by
  intro l
  induction l generalizing p with
  | nil => intro _ _; simp [compF]
  | cons y l ih =>
    intro h1 h2
    simp only [List.pairwise_cons] at h2
    have hpy := h1 y (by simp)
    have tpy := cmpV_line.turn p y trivial trivial
    obtain ⟨g1, g2, g3⟩ := ih y h2.1 h2.2
    simp only [compF]
    split
    · rename_i h0
      have h0 : cmpV y p = 0 := by simpa using h0
      refine ⟨g1, fun x hx => ?_, fun x hx => ?_⟩
      · rw [cmpV_line.eq_left trivial trivial trivial (show cmpV p y = 0 by omega)]; exact g2 x hx
      · rcases List.mem_cons.1 hx with rfl | hx
        · left; omega
        · rcases g3 x hx with h | h
          · left; rw [cmpV_line.eq_left trivial trivial trivial (show cmpV p y = 0 by omega)]; exact h
          · exact .inr h
    · rename_i h0
      have h0 : cmpV y p ≠ 0 := by simpa using h0
      have hlt : cmpV p y < 0 := by omega
      refine ⟨List.pairwise_cons.2 ⟨g2, g1⟩, fun x hx => ?_, fun x hx => ?_⟩
      · rcases List.mem_cons.1 hx with rfl | hx
        · exact hlt
        · exact cmpV_line.lt_trans trivial trivial trivial hlt (g2 x hx)
      · rcases List.mem_cons.1 hx with rfl | hx
        · exact .inr ⟨x, by simp, cmpV_self x⟩
        · rcases g3 x hx with h | ⟨z, h, h'⟩
          · exact .inr ⟨y, by simp, h⟩
          · exact .inr ⟨z, by simp [h], h'⟩
theorem setL_spec (l : List V) : (setL l).Pairwise (fun x y => cmpV x y < 0) ∧ ∀ x, x ∈ l → ∃ y, y ∈ setL l ∧ cmpV y x = 0 := by
  have h1 : (l.mergeSort fun x y => decide (cmpV x y ≤ 0)).Pairwise (fun x y => cmpV x y ≤ 0) := (List.pairwise_mergeSort (fun x y z => le_trans' x y z) (fun x y => le_total' x y) l).imp (by simp)
  have h2 : ∀ x, x ∈ l ↔ x ∈ (l.mergeSort fun x y => decide (cmpV x y ≤ 0)) := fun x => by simp
  unfold setL
  generalize (l.mergeSort fun x y => decide (cmpV x y ≤ 0)) = m at h1 h2
  cases m with
  | nil => exact ⟨by simp [comp], fun x hx => by simpa using (h2 x).1 hx⟩
  | cons p m =>
    simp only [List.pairwise_cons] at h1
    obtain ⟨g1, g2, g3⟩ := compF_spec p m h1.1 h1.2
    refine ⟨List.pairwise_cons.2 ⟨g2, g1⟩, fun x hx => ?_⟩
    rcases List.mem_cons.1 ((h2 x).1 hx) with rfl | hx
    · exact ⟨x, by simp [comp], cmpV_self x⟩
    · rcases g3 x hx with h | ⟨y, h, h'⟩
      · exact ⟨p, by simp [comp], h⟩
      · exact ⟨y, by simp [comp, h], h'⟩
theorem setL_iff {l : List V} (hr : ∀ x, x ∈ l → rightB x = true) (x : V) : x ∈ setL l ↔ x ∈ l := by
  refine ⟨setL_mem, fun hx => ?_⟩
  obtain ⟨y, h1, h2⟩ := (setL_spec l).2 x hx
  rw [← rightB_same (hr y (setL_mem h1)) (hr x hx) h2]
  exact h1
end Go.Sx
set_option maxRecDepth 100000
set_option maxHeartbeats 4000000
set_option linter.unusedSimpArgs false
set_option linter.unusedVariables false
namespace Go.Sx
open Go.Proofs Sp
theorem listed_ok (l : List V) (hf : ∀ x, x ∈ l → Fine x) : CallsF P G 134 [encI l] (int (listE l)) := by
  unfold listE
  split
  · exact listed_long l (by assumption)
  · rename_i hl
    obtain ⟨N, h1, h2⟩ := exists_least (fun i => i = l.length ∨ (i < l.length ∧ rightB (l.getD i default) = false)) ⟨l.length, .inl rfl⟩
    have hN : N ≤ l.length := by rcases h1 with h | h <;> omega
    have hk : ∀ i, i < N → rightB (l.getD i default) = true := fun i hi => by
      cases h : rightB (l.getD i default) with
      | true => rfl
      | false => have := h2 i (.inr ⟨by omega, h⟩); omega
    rcases h1 with h1 | ⟨h1, h3⟩
    · rw [if_pos]
      · exact listed_all l N (by omega) hN hf hk h1
      · rw [List.all_eq_true]
        intro x hx
        obtain ⟨i, hi, rfl⟩ := List.getElem_of_mem hx
        have := hk i (by omega)
        rwa [List.getD_eq_getElem?_getD, List.getElem?_eq_getElem hi] at this
    · rw [if_neg]
      · exact listed_not l N (by omega) hN hf hk h1 h3
      · intro h
        rw [List.all_eq_true] at h
        rw [List.getD_eq_getElem?_getD, List.getElem?_eq_getElem h1] at h3
        simp only [Option.getD_some] at h3
        rw [h _ (List.getElem_mem h1)] at h3
        cases h3
theorem get162 : P.funcs[162]? = some Tryz.f162 := by kernel_rfl
theorem ent162 : entersP P 162 = true := by kernel_rfl
theorem told_no (k : Int) (l : List V) (h : CallsF P G 103 [encV (.mk k 0 [] l)] (bool (rightB (.mk k 0 [] l)))) (h2 : rightB (.mk k 0 [] l) = false) : CallsF P G 162 [encV (.mk k 0 [] l)] (.tup [.agg [int 0, int 0, str [], .nils], int 2]) := by
  refine sx_fn (hs := [.call (bool false), .dec true]) ((CallsF P G 103 [FV.agg [int k, int 0, str [], encI l]] (bool false)) ∧ (E (true)) ∧ E (FV.tup [FV.agg [int 0, int 0, str [], FV.nils], int 2])) get162 ent162 (by kernel_rfl) ?_
  refine ⟨?_, ⟨rfl, rfl⟩⟩
  all_goals (rw [h2] at h; exact h)
theorem told_yes (k : Int) (l : List V) (h : CallsF P G 103 [encV (.mk k 0 [] l)] (bool (rightB (.mk k 0 [] l)))) (h2 : rightB (.mk k 0 [] l) = true) : CallsF P G 162 [encV (.mk k 0 [] l)] (.tup [encV (.mk k 0 [] l), int 0]) := by
  refine sx_fn (hs := [.call (bool true), .dec false]) ((CallsF P G 103 [FV.agg [int k, int 0, str [], encI l]] (bool true)) ∧ (E (false)) ∧ E (FV.tup [FV.agg [int k, int 0, str [], encI l], int 0])) get162 ent162 (by kernel_rfl) ?_
  refine ⟨?_, ⟨rfl, rfl⟩⟩
  all_goals (rw [h2] at h; exact h)
theorem told_ok (k : Int) (hk : 0 ≤ k ∧ k ≤ 6) (l : List V) (hf : ∀ x, x ∈ l → Fine x) (hl : l.length ≤ 2513169434844) : CallsF P G 162 [encV (.mk k 0 [] l)] (.tup [encV (madeR k l).1, int (madeR k l).2]) := by
  have hF := fineL hf hl (Nat.le_refl _) k hk
  unfold madeR
  cases h : rightB (.mk k 0 [] l) with
  | true => rw [if_pos rfl]; exact told_yes k l (refRight_ok _ hF) h
  | false => rw [if_neg (by simp)]; exact (told_no k l (refRight_ok _ hF) h).weak (nilT _)
noncomputable def sortL (l : List V) : List V := l.mergeSort fun x y => decide (cmpV x y ≤ 0)
end Go.Sx
set_option maxRecDepth 100000
set_option maxHeartbeats 4000000
set_option linter.unusedSimpArgs false
set_option linter.unusedVariables false
namespace Go.Sx
open Go.Proofs Sp
/-- Rising values, each once, as the reference reckons. -/
def onc (l : List V) : Nat → List V
  | 0 => []
  | i + 1 => if (onc l i).length = 0 ∨ cmpV ((onc l i).getD ((onc l i).length - 1) default) (l.getD i default) ≠ 0 then onc l i ++ [l.getD i default] else onc l i
def Sonc (l : List V) (i : Nat) : St := { sl := slots 33 [(3, .lsl 0), (7, .f (encI l)), (8, .f (int (cellsVs l).length)), (9, .f (int (i : Int)))], ob := [(0, .row 4 62 (cellsVs (onc l i)))], nx := 1 }
theorem onc_len (l : List V) : ∀ i, (onc l i).length ≤ i
  | 0 => by simp [onc]
  | i + 1 => by
    have := onc_len l i
    simp only [onc]
    split
    · simp; omega
    · omega
theorem onc_mem {l : List V} : ∀ i, i ≤ l.length → ∀ x, x ∈ onc l i → x ∈ l
  | 0, _, x, h => by simp [onc] at h
  | i + 1, hi, x, h => by
    simp only [onc] at h
    split at h
    · rcases List.mem_append.1 h with h | h
      · exact onc_mem i (by omega) x h
      · have e : x = l.getD i default := by simpa using h
        rw [e, List.getD_eq_getElem?_getD, List.getElem?_eq_getElem (by omega)]; exact List.getElem_mem _
    · exact onc_mem i (by omega) x h
theorem cellsVs_snoc (l : List V) (x : V) : cellsVs l ++ [cellsP x] = cellsVs (l ++ [x]) := by rw [cellsVs_app]; simp [cellsVs, cellsP_eq]
theorem get163 : P.funcs[163]? = some Tryz.f163 := by kernel_rfl
theorem ent163 : entersP P 163 = true := by kernel_rfl
theorem once_run (l : List V) (hl : l.length ≤ 65536) (hf : ∀ x, x ∈ l → Fine x) : CallsF P G 163 [encI l] (encI (onc l l.length)) := by
  refine sx_fn (hs := [.pre [.nrow 3 4 62], .loop [(0,0)] [(0,0)] (Sonc l) l.length (fun i => [.dec true, .el (cellsP (l.getD i default)), .nat 12, .br [.dec true, .ren [(3,0)]] [.el (cellsP (((onc l i).getD ((onc l i).length - 1) default))), .call (int (cmpV ((onc l i).getD ((onc l i).length - 1) default) (l.getD i default))), .br [.ren [(3,0)]] [.ren [(0,0)]]]]), .dec false, .frz [0]]) (let z1 := (↑(List.length (cellsVs l)) : Int); let z2 := TypeInfo.size (Tables.types (Program.toTables P))[62]; (E true ∧ (E (AV.lsl 0) ∧ E (AV.f (encI l)) ∧ E (AV.f (int z1)) ∧ AV.f (int 0) = AV.f (int (Int.ofNat 0)) ∧ True) ∧ (E (Ob.row 4 62 []) ∧ True) ∧ E true ∧ (false = true → false = true)) ∧ (∀ (i : Nat), (let z3 := E (AV.lsl 0) ∧ E (AV.f (encI l)) ∧ E (AV.f (int z1)) ∧ AV.f (int (IntKind.wrap IntKind.i64 ((i : Int) + 1))) = AV.f (int (↑(i + 1) : Int)) ∧ True; let z5 := List.getD (onc l i) (List.length (onc l i) - 1) default; let z6 := List.getD l i default; let z4 := oneF ([cellsP z6]) ∧ List.length (cellsVs (onc l i)) + List.length (chunk 4 1 (cellsP z6)) ≤ maxLen ∧ (List.length (cellsVs (onc l i)) + List.length (chunk 4 1 (cellsP z6))) * 56 ≤ 140737488355328 ∧ E false; let z7 := (↑(List.length (cellsVs (onc l i))) : Int); let z8 := Ob.row 4 62 (cellsVs (onc l i) ++ chunk z2 1 (cellsP z6)) = Ob.row 4 62 (cellsVs (onc l (i + 1))) ∧ True; let z9 := IntKind.wrap IntKind.i64 (z7 - 1); i < List.length l → decide ((i : Int) < z1) = true ∧ (E 4 ∧ (0 : Int) ≤ (i : Int) ∧ (cellsVs l)[i]? = some (cellsP z6)) ∧ E true ∧ Br (z7 == 0) (E true ∧ z4 ∧ E true ∧ z3 ∧ z8 ∧ E true ∧ (false = true → false = true)) (((0 : Int) ≤ IntKind.wrap IntKind.i64 (z7 - 1) ∧ Int.toNat z9 < List.length (cellsVs (onc l i))) ∧ (cellsVs (onc l i))[Int.toNat z9]? = some (cellsP z5) ∧ CallsF P G 133 [encV z5, encV z6] (int (cmpV z5 z6)) ∧ Br (cmpV z5 z6 != 0) (z4 ∧ E true ∧ z3 ∧ z8 ∧ E true ∧ (false = true → false = true)) (E true ∧ z3 ∧ (Ob.row 4 62 (cellsVs (onc l i)) = Ob.row 4 62 (cellsVs (onc l (i + 1))) ∧ True) ∧ E true ∧ (false = true → false = true))))) ∧ decide ((↑(List.length l) : Int) < z1) = false ∧ E (encI (onc l (List.length l)))) get163 ent163 (by kernel_rfl) ?_
  refine ⟨⟨rfl, ⟨rfl, rfl, rfl, ?_, trivial⟩, ⟨rfl, trivial⟩, rfl, fun hi => ?_⟩, fun i => fun hi => ⟨?_, ⟨rfl, ?_, ?_⟩, rfl, fun hi => ⟨rfl, ⟨?_, ?_, ?_, rfl⟩, rfl, ⟨rfl, rfl, rfl, ?_, trivial⟩, ⟨?_, trivial⟩, rfl, fun hi => ?_⟩, fun hi => ⟨⟨?_, ?_⟩, ?_, ?_, fun hi => ⟨⟨?_, ?_, ?_, rfl⟩, rfl, ⟨rfl, rfl, rfl, ?_, trivial⟩, ⟨?_, trivial⟩, rfl, fun hi => ?_⟩, fun hi => ⟨rfl, ⟨rfl, rfl, rfl, ?_, trivial⟩, ⟨?_, trivial⟩, rfl, fun hi => ?_⟩⟩⟩, ?_, rfl⟩
  all_goals first | rfl | exact cellsVs_get l _ (by omega) | (exact congrArg (fun x => AV.f (int x)) (wrapS ((i : Int) + 1) (by omega) (by omega))) | (have h5 := onc_len l i; rw [cellsVs_length] at *; simp only [cellsVs_length, decide_eq_true_eq, decide_eq_false_iff_not, beq_iff_eq, beq_eq_false_iff_ne] at *; omega) | (have h5 := onc_len l i; simp only [cellsVs_length, decide_eq_true_eq, decide_eq_false_iff_not, beq_iff_eq, beq_eq_false_iff_ne] at *; rw [wrapS _ (by omega) (by omega)]; omega) | (have h5 := onc_len l i; simp only [cellsVs_length, decide_eq_true_eq, decide_eq_false_iff_not, beq_iff_eq, beq_eq_false_iff_ne] at hi; exact coEl _ _ _ (by rw [cellsVs_length, wrapS _ (by omega) (by omega)]; omega) (by omega)) | (have h5 := onc_len l i; simp only [cellsVs_length, decide_eq_true_eq, decide_eq_false_iff_not, beq_iff_eq, beq_eq_false_iff_ne] at hi; exact refCompare_ok _ _ (hf _ (onc_mem i (by omega) _ (by rw [List.getD_eq_getElem?_getD, List.getElem?_eq_getElem (by omega)]; exact List.getElem_mem _)))) | (have h5 := onc_len l i; simp only [cellsVs_length, chunk, List.length_cons, List.length_nil, maxLen]; omega) | (simp only [cellsVs_length, decide_eq_true_eq, decide_eq_false_iff_not, beq_iff_eq, beq_eq_false_iff_ne] at hi; simp only [onc]; rw [if_pos (.inl (by omega))]; exact congrArg (Ob.row 4 62) (cellsVs_snoc _ _)) | (simp only [bne_iff_ne, ne_eq] at hi; simp only [onc]; rw [if_pos (.inr hi)]; exact congrArg (Ob.row 4 62) (cellsVs_snoc _ _)) | (simp only [cellsVs_length, beq_eq_false_iff_ne, bne_eq_false_iff_eq, ne_eq] at *; simp only [onc]; rw [if_neg (by rintro (h9 | h9); omega; exact h9 hi)]) | (intro x hx; simp only [List.flatten_cons, List.flatten_nil, List.append_nil, cellsP, List.mem_cons, List.not_mem_nil, or_false] at hx; rcases hx with rfl | rfl | rfl | rfl <;> rfl) | assumption | omega | (simp only [decide_eq_true_eq, decide_eq_false_iff_not, beq_iff_eq, beq_eq_false_iff_ne, cellsVs_length, List.length_append, List.length_map, List.length_take, List.length_drop, List.length_reverse, List.length_set, List.length_replicate, chunk, List.length_cons, List.length_nil, Int.toNat_natCast, V.items, maxLen]; omega)
theorem onc_spec {l : List V} (hs : l.Pairwise fun x y => cmpV x y ≤ 0) : ∀ i, i ≤ l.length → (onc l i).Pairwise (fun x y => cmpV x y < 0) ∧ (∀ x, x ∈ onc l i → ∀ j, i ≤ j → j < l.length → cmpV x (l.getD j default) ≤ 0) ∧ (∀ j, j < i → ∃ y, y ∈ onc l i ∧ cmpV y (l.getD j default) = 0) := by
  have hp : ∀ a b, a < b → b < l.length → cmpV (l.getD a default) (l.getD b default) ≤ 0 := fun a b h1 h2 => by
    rw [List.getD_eq_getElem?_getD, List.getD_eq_getElem?_getD, List.getElem?_eq_getElem (by omega), List.getElem?_eq_getElem h2]
    exact List.pairwise_iff_getElem.1 hs a b (by omega) h2 h1
  intro i
  induction i with
  | zero => intro _; simp [onc]
  | succ i ih =>
    intro hi
    obtain ⟨g1, g2, g3⟩ := ih (by omega)
    simp only [onc]
    split
    · rename_i hc
      have hlt : ∀ x, x ∈ onc l i → cmpV x (l.getD i default) < 0 := by
        intro x hx
        rcases hc with hc | hc
        · have : onc l i = [] := List.length_eq_zero_iff.1 hc
          rw [this] at hx; simp at hx
        · have hne : 0 < (onc l i).length := List.length_pos_of_mem hx
          have hlast : (onc l i).getD ((onc l i).length - 1) default ∈ onc l i := by rw [List.getD_eq_getElem?_getD, List.getElem?_eq_getElem (by omega)]; exact List.getElem_mem _
          have hle := g2 _ hlast i (Nat.le_refl _) (by omega)
          have hlt : cmpV ((onc l i).getD ((onc l i).length - 1) default) (l.getD i default) < 0 := by omega
          obtain ⟨a, ha, rfl⟩ := List.getElem_of_mem hx
          by_cases e : a = (onc l i).length - 1
          · subst e
            rw [List.getD_eq_getElem?_getD, List.getElem?_eq_getElem ha] at hlt; exact hlt
          · have := List.pairwise_iff_getElem.1 g1 a ((onc l i).length - 1) ha (by omega) (by omega)
            rw [List.getD_eq_getElem?_getD, List.getElem?_eq_getElem (show (onc l i).length - 1 < (onc l i).length by omega)] at hlt
            exact cmpV_line.lt_trans trivial trivial trivial this hlt
      refine ⟨List.pairwise_append.2 ⟨g1, by simp, fun x hx y hy => ?_⟩, fun x hx j h1 h2 => ?_, fun j hj => ?_⟩
      · have e : y = l.getD i default := by simpa using hy
        rw [e]; exact hlt x hx
      · rcases List.mem_append.1 hx with hx | hx
        · exact g2 x hx j (by omega) h2
        · have e : x = l.getD i default := by simpa using hx
          rw [e]; exact hp i j (by omega) h2
      · rcases Nat.lt_or_ge j i with h | h
        · obtain ⟨y, h1, h2⟩ := g3 j h; exact ⟨y, by simp [h1], h2⟩
        · have : j = i := by omega
          subst this; exact ⟨_, by simp, cmpV_self _⟩
    · rename_i hc
      simp only [not_or, Decidable.not_not] at hc
      refine ⟨g1, fun x hx j h1 h2 => g2 x hx j (by omega) h2, fun j hj => ?_⟩
      rcases Nat.lt_or_ge j i with h | h
      · exact g3 j h
      · have : j = i := by omega
        subst this
        exact ⟨_, by rw [List.getD_eq_getElem?_getD, List.getElem?_eq_getElem (by omega)]; exact List.getElem_mem _, hc.2⟩
theorem sortL_sorted (l : List V) : (sortL l).Pairwise fun x y => cmpV x y ≤ 0 := (List.pairwise_mergeSort (fun x y z => le_trans' x y z) (fun x y => le_total' x y) l).imp (by simp)
theorem sortL_mem (l : List V) (x : V) : x ∈ sortL l ↔ x ∈ l := by simp [sortL]
theorem sortL_len (l : List V) : (sortL l).length = l.length := by simp [sortL]
/-- THE REFERENCE's SET IS THE PROGRAM's. -/
theorem once_setL {l : List V} (hr : ∀ x, x ∈ l → rightB x = true) : onc (sortL l) (sortL l).length = setL l := by
  obtain ⟨g1, g2, g3⟩ := onc_spec (sortL_sorted l) (sortL l).length (Nat.le_refl _)
  refine strict_ext g1 (setL_spec l).1 fun x => ?_
  rw [setL_iff hr]
  refine ⟨fun h => (sortL_mem l x).1 (onc_mem _ (Nat.le_refl _) x h), fun h => ?_⟩
  obtain ⟨j, hj, e⟩ := List.getElem_of_mem ((sortL_mem l x).2 h)
  obtain ⟨y, h1, h2⟩ := g3 j hj
  rw [List.getD_eq_getElem?_getD, List.getElem?_eq_getElem hj] at h2
  simp only [Option.getD_some, e] at h2
  rw [← rightB_same (hr y ((sortL_mem l y).1 (onc_mem _ (Nat.le_refl _) y h1))) (hr x h) h2]
  exact h1
end Go.Sx
set_option maxRecDepth 100000
set_option maxHeartbeats 4000000
set_option linter.unusedSimpArgs false
set_option linter.unusedVariables false
namespace Go.Sx
open Go.Proofs Sp
/-- The merging of two rising lists, step by step: how many are taken of each, and what is out. -/
def mgi (a b : List V) : Nat → Nat × Nat × List V
  | 0 => (0, 0, [])
  | i + 1 => if cmpV (b.getD (mgi a b i).2.1 default) (a.getD (mgi a b i).1 default) < 0 then ((mgi a b i).1, (mgi a b i).2.1 + 1, (mgi a b i).2.2 ++ [b.getD (mgi a b i).2.1 default])
    else ((mgi a b i).1 + 1, (mgi a b i).2.1, (mgi a b i).2.2 ++ [a.getD (mgi a b i).1 default])
def Smg (a b : List V) (i : Nat) : St := { sl := slots 62 [(4, .f (encI (a.drop (mgi a b i).1))), (5, .f (encI (b.drop (mgi a b i).2.1))), (6, .lsl 0)], ob := [(0, .row 4 62 (cellsVs (mgi a b i).2.2))], nx := 1 }
theorem drop0 (l : List V) (p : Nat) (h : p < l.length) : (cellsVs (l.drop p))[0]? = some (cellsP (l.getD p default)) := by
  rw [drop_cons h]; simp [cellsVs, cellsP_eq]
theorem cellsVs_drop : ∀ (l : List V) (i : Nat), (cellsVs l).drop i = cellsVs (l.drop i)
  | _, 0 => rfl
  | [], i + 1 => rfl
  | y :: l, i + 1 => by simp [cellsVs, cellsVs_drop l i]
theorem next1 (l : List V) (p n : Nat) (h : n = (cellsVs (l.drop p)).length) : ((cellsVs (l.drop p)).take n).drop 1 = cellsVs (l.drop (p + 1)) := by
  rw [h, List.take_length, cellsVs_drop, List.drop_drop]
/-- What holds between the two lists and what is out. -/
structure MgI (a b : List V) (i : Nat) : Prop where
  p : (mgi a b i).1 ≤ a.length
  q : (mgi a b i).2.1 ≤ b.length
  len : (mgi a b i).2.2.length = (mgi a b i).1 + (mgi a b i).2.1
  perm : ((mgi a b i).2.2 ++ (a.drop (mgi a b i).1 ++ b.drop (mgi a b i).2.1)).Perm (a ++ b)
  sorted : (mgi a b i).2.2.Pairwise fun x y => cmpV x y ≤ 0
  le : ∀ x, x ∈ (mgi a b i).2.2 → ∀ y, y ∈ a.drop (mgi a b i).1 ++ b.drop (mgi a b i).2.1 → cmpV x y ≤ 0
theorem drop_le {a : List V} (h : a.Pairwise fun x y => cmpV x y ≤ 0) {p : Nat} (hp : p < a.length) : ∀ y, y ∈ a.drop p → cmpV (a.getD p default) y ≤ 0 := by
  intro y hy
  rw [drop_cons hp] at hy
  have hq := (drop_cons hp) ▸ h.drop (i := p)
  rw [List.pairwise_cons] at hq
  rcases List.mem_cons.1 hy with rfl | hy
  · rw [cmpV_self]; omega
  · exact hq.1 y hy
theorem mgI_step {a b : List V} (ha : a.Pairwise fun x y => cmpV x y ≤ 0) (hb : b.Pairwise fun x y => cmpV x y ≤ 0) {i : Nat} (h : MgI a b i) (h1 : (mgi a b i).1 < a.length) (h2 : (mgi a b i).2.1 < b.length) : MgI a b (i + 1) := by
  have da := drop_le ha h1
  have db := drop_le hb h2
  have ma : a.getD (mgi a b i).1 default ∈ a.drop (mgi a b i).1 := by rw [drop_cons h1]; simp
  have mb : b.getD (mgi a b i).2.1 default ∈ b.drop (mgi a b i).2.1 := by rw [drop_cons h2]; simp
  have suba : ∀ y, y ∈ a.drop ((mgi a b i).1 + 1) → y ∈ a.drop (mgi a b i).1 := fun y hy => by rw [drop_cons h1]; simp [hy]
  have subb : ∀ y, y ∈ b.drop ((mgi a b i).2.1 + 1) → y ∈ b.drop (mgi a b i).2.1 := fun y hy => by rw [drop_cons h2]; simp [hy]
  by_cases hc : cmpV (b.getD (mgi a b i).2.1 default) (a.getD (mgi a b i).1 default) < 0
  · have e : mgi a b (i + 1) = ((mgi a b i).1, (mgi a b i).2.1 + 1, (mgi a b i).2.2 ++ [b.getD (mgi a b i).2.1 default]) := by simp only [mgi]; rw [if_pos hc]
    have hle : ∀ y, y ∈ a.drop (mgi a b i).1 ++ b.drop (mgi a b i).2.1 → cmpV (b.getD (mgi a b i).2.1 default) y ≤ 0 := fun y hy => by
      rcases List.mem_append.1 hy with hy | hy
      · exact cmpV_line.le_trans _ _ _ trivial trivial trivial (by omega) (da y hy)
      · exact db y hy
    refine ⟨by rw [e]; exact h.p, by rw [e]; simp only; omega, by rw [e]; simp only [List.length_append, List.length_cons, List.length_nil, h.len]; omega, ?_, ?_, ?_⟩
    · rw [e]
      simp only
      refine List.Perm.trans ?_ h.perm
      rw [List.append_assoc]
      refine List.Perm.append_left _ ?_
      rw [drop_cons h2]
      exact (List.perm_middle (a := b.getD (mgi a b i).2.1 default) (l₁ := a.drop (mgi a b i).1) (l₂ := b.drop ((mgi a b i).2.1 + 1))).symm
    · rw [e]
      exact List.pairwise_append.2 ⟨h.sorted, by simp, fun x hx y hy => by
        have ey : y = b.getD (mgi a b i).2.1 default := by simpa using hy
        rw [ey]; exact h.le x hx _ (List.mem_append.2 (.inr mb))⟩
    · rw [e]
      intro x hx y hy
      have hy' : y ∈ a.drop (mgi a b i).1 ++ b.drop (mgi a b i).2.1 := by
        rcases List.mem_append.1 hy with hy | hy
        · simp [hy]
        · simp [subb y hy]
      rcases List.mem_append.1 hx with hx | hx
      · exact h.le x hx y hy'
      · have ex : x = b.getD (mgi a b i).2.1 default := by simpa using hx
        rw [ex]; exact hle y hy'
  · have e : mgi a b (i + 1) = ((mgi a b i).1 + 1, (mgi a b i).2.1, (mgi a b i).2.2 ++ [a.getD (mgi a b i).1 default]) := by simp only [mgi]; rw [if_neg hc]
    have ht := cmpV_line.turn (b.getD (mgi a b i).2.1 default) (a.getD (mgi a b i).1 default) trivial trivial
    have hle : ∀ y, y ∈ a.drop (mgi a b i).1 ++ b.drop (mgi a b i).2.1 → cmpV (a.getD (mgi a b i).1 default) y ≤ 0 := fun y hy => by
      rcases List.mem_append.1 hy with hy | hy
      · exact da y hy
      · exact cmpV_line.le_trans _ _ _ trivial trivial trivial (by omega) (db y hy)
    refine ⟨by rw [e]; simp only; omega, by rw [e]; exact h.q, by rw [e]; simp only [List.length_append, List.length_cons, List.length_nil, h.len]; omega, ?_, ?_, ?_⟩
    · rw [e]
      simp only
      refine List.Perm.trans ?_ h.perm
      rw [List.append_assoc]
      refine List.Perm.append_left _ ?_
      rw [drop_cons h1]
      simp
    · rw [e]
      exact List.pairwise_append.2 ⟨h.sorted, by simp, fun x hx y hy => by
        have ey : y = a.getD (mgi a b i).1 default := by simpa using hy
        rw [ey]; exact h.le x hx _ (List.mem_append.2 (.inl ma))⟩
    · rw [e]
      intro x hx y hy
      have hy' : y ∈ a.drop (mgi a b i).1 ++ b.drop (mgi a b i).2.1 := by
        rcases List.mem_append.1 hy with hy | hy
        · simp [suba y hy]
        · simp [hy]
      rcases List.mem_append.1 hx with hx | hx
      · exact h.le x hx y hy'
      · have ex : x = a.getD (mgi a b i).1 default := by simpa using hx
        rw [ex]; exact hle y hy'
theorem mgI_upto {a b : List V} (ha : a.Pairwise fun x y => cmpV x y ≤ 0) (hb : b.Pairwise fun x y => cmpV x y ≤ 0) : ∀ i, (∀ j, j < i → (mgi a b j).1 < a.length ∧ (mgi a b j).2.1 < b.length) → MgI a b i
  | 0, _ => ⟨by simp [mgi], by simp [mgi], by simp [mgi], by simp [mgi], by simp [mgi], by simp [mgi]⟩
  | i + 1, h => mgI_step ha hb (mgI_upto ha hb i fun j hj => h j (by omega)) (h i (by omega)).1 (h i (by omega)).2
theorem mg_end {l : List V} (hr : ∀ x, x ∈ l → rightB x = true) {a b : List V} (ha : a.Pairwise fun x y => cmpV x y ≤ 0) (hb : b.Pairwise fun x y => cmpV x y ≤ 0) (hp : (a ++ b).Perm l) {N : Nat} (h : MgI a b N) (he : ¬ ((mgi a b N).1 < a.length ∧ (mgi a b N).2.1 < b.length)) :
    (mgi a b N).2.2 ++ a.drop (mgi a b N).1 ++ b.drop (mgi a b N).2.1 = sortL l := by
  refine sorted_unique l _ ?_ ?_ fun x y hx hy h => rightB_same (hr x hx) (hr y hy) h
  · rw [List.append_assoc]; exact h.perm.trans hp
  · rw [List.append_assoc]
    refine List.pairwise_append.2 ⟨h.sorted, ?_, h.le⟩
    have h1 := h.p
    have h2 := h.q
    by_cases e : (mgi a b N).1 = a.length
    · rw [e, List.drop_length, List.nil_append]; exact hb.drop
    · rw [show (mgi a b N).2.1 = b.length by omega, List.drop_length, List.append_nil]; exact ha.drop
theorem get164 : P.funcs[164]? = some Tryz.f164 := by kernel_rfl
theorem ent164 : entersP P 164 = true := by kernel_rfl
theorem sorted_short (l : List V) (hl : l.length < 2) : CallsF P G 164 [encI l] (encI l) := by
  refine sx_fn (hs := [.dec true, .lfz [1]]) (decide ((↑(List.length (cellsVs l)) : Int) < 2) = true ∧ (oneF (cellsVs l) ∧ 0 + List.length (cellsVs l) ≤ maxLen ∧ (0 + List.length (cellsVs l)) * 56 ≤ 140737488355328 ∧ E false) ∧ FV.sl 4 (chunk (TypeInfo.size (Tables.types (Program.toTables P))[62]) 0 [] ++ cellsVs l) = encI l) get164 ent164 (by kernel_rfl) ?_
  refine ⟨?_, ⟨?_, ?_, ?_, rfl⟩, ?_⟩
  all_goals first | rfl | exact oneF_cellsVs l | (simp only [cellsVs_length, decide_eq_true_eq]; omega) | (simp only [cellsVs_length, chunk, List.length_nil, maxLen]; omega)
theorem sorted_long (l a b : List V) (N : Nat) (hn : 2 ≤ l.length) (hl : l.length ≤ 65536) (hlen : a.length + b.length = l.length) (hfa : ∀ x, x ∈ a → Fine x) (hfb : ∀ x, x ∈ b → Fine x) (iha : CallsF P G 164 [encI (l.take (l.length / 2))] (encI a)) (ihb : CallsF P G 164 [encI (l.drop (l.length / 2))] (encI b)) (hI : ∀ i, i ≤ N → MgI a b i) (hlt : ∀ i, i < N → (mgi a b i).1 < a.length ∧ (mgi a b i).2.1 < b.length) (he : ¬ ((mgi a b N).1 < a.length ∧ (mgi a b N).2.1 < b.length))  : CallsF P G 164 [encI l] (encI ((mgi a b N).2.2 ++ a.drop (mgi a b N).1 ++ b.drop (mgi a b N).2.1)) := by
  have hq : IntKind.wrap IntKind.i64 (Int.tdiv ((cellsVs l).length : Int) 2) = ((l.length / 2 : Nat) : Int) := by
    rw [cellsVs_length, show Int.tdiv (l.length : Int) 2 = ((l.length / 2 : Nat) : Int) from rfl]; exact wrapS _ (by omega) (by omega)
  have hA : ∀ i, i ≤ N → (mgi a b i).1 ≤ a.length ∧ (mgi a b i).2.1 ≤ b.length ∧ (mgi a b i).2.2.length = (mgi a b i).1 + (mgi a b i).2.1 := fun i hi => ⟨(hI i hi).p, (hI i hi).q, (hI i hi).len⟩
  refine sx_fn (hs := [.dec false, .call (encI a), .call (encI b), .pre [.nrow 6 4 62], .loop [(0,0)] [(2,0)] (Smg a b) N (fun i => [.dec true, .dec true, .nat 8, .el (cellsP (b.getD (mgi a b i).2.1 default)), .el (cellsP (a.getD (mgi a b i).1 default)), .call (int (cmpV (b.getD (mgi a b i).2.1 default) (a.getD (mgi a b i).1 default))), .br [.el (cellsP (b.getD (mgi a b i).2.1 default))] [.el (cellsP (a.getD (mgi a b i).1 default))]]), .br [.dec false, .lfz [2]] [.dec false, .lfz [2]]]) (let z2 := (↑(List.length (cellsVs l)) : Int); let z4 := Prod.snd (mgi a b N); let z5 := List.drop (Prod.fst (mgi a b N)) a; let z3 := oneF (cellsVs z5) ∧ List.length (cellsVs (Prod.snd z4)) + List.length (cellsVs z5) ≤ maxLen ∧ (List.length (cellsVs (Prod.snd z4)) + List.length (cellsVs z5)) * 56 ≤ 140737488355328 ∧ E false; let z6 := List.drop (Prod.fst z4) b; let z7 := IntKind.wrap IntKind.i64 (Int.tdiv z2 2); let z8 := Prod.snd z4 ++ List.drop (Prod.fst (mgi a b N)) a ++ List.drop (Prod.fst z4) b; let z9 := TypeInfo.size (Tables.types (Program.toTables P))[62]; let z10 := cellsVs (Prod.snd z4) ++ cellsVs z5 ++ cellsVs z6; let z11 := cellsVs (Prod.snd z4) ++ cellsVs z5; let z1 := oneF (cellsVs z6) ∧ List.length z11 + List.length (cellsVs z6) ≤ maxLen ∧ (List.length z11 + List.length (cellsVs z6)) * 56 ≤ 140737488355328 ∧ E false; decide (z2 < 2) = false ∧ (E 4 ∧ (0 : Int) ≤ 0 ∧ (0 : Int) ≤ Option.getD (some z7) z2 ∧ Option.getD (some z7) z2 ≤ z2) ∧ CallsF P G 164 [FV.sl 4 (List.drop (Int.toNat 0) (List.take (Int.toNat (Option.getD (some z7) z2)) (cellsVs l)))] (encI a) ∧ (E 4 ∧ (0 : Int) ≤ IntKind.wrap IntKind.i64 (Int.tdiv z2 2) ∧ IntKind.wrap IntKind.i64 (Int.tdiv z2 2) ≤ Option.getD none z2 ∧ Option.getD none z2 ≤ z2) ∧ CallsF P G 164 [FV.sl 4 (List.drop (Int.toNat z7) (List.take (Int.toNat (Option.getD none z2)) (cellsVs l)))] (encI b) ∧ (E true ∧ (AV.f (encI a) = AV.f (encI (List.drop (Prod.fst (mgi a b 0)) a)) ∧ AV.f (encI b) = AV.f (encI (List.drop (Prod.fst (Prod.snd (mgi a b 0))) b)) ∧ E (AV.lsl 0) ∧ True) ∧ (E (Ob.row 4 62 []) ∧ True) ∧ E true ∧ (false = true → false = true)) ∧ (∀ (i : Nat), (let z12 := Prod.fst (Prod.snd (mgi a b i)); let z16 := List.getD b z12 default; let z17 := Prod.snd (Prod.snd (mgi a b i)); let z20 := Prod.snd (mgi a b (i + 1)); let z22 := cellsVs (List.drop z12 b); let z15 := (↑(List.length z22) : Int); let z19 := E 4 ∧ (0 : Int) ≤ 0 ∧ z22[Int.toNat 0]? = some (cellsP z16); let z23 := encI (List.drop (Prod.fst (mgi a b (i + 1))) a); let z24 := Prod.fst (mgi a b i); let z13 := List.getD a z24 default; let z14 := cellsVs (List.drop z24 a); let z18 := (↑(List.length z14) : Int); let z21 := E 4 ∧ (0 : Int) ≤ 0 ∧ z14[Int.toNat 0]? = some (cellsP z13); let z25 := encI (List.drop (Prod.fst z20) b); i < N → decide (z18 > 0) = true ∧ decide (z15 > 0) = true ∧ E true ∧ z19 ∧ z21 ∧ CallsF P G 133 [encV z16, encV z13] (int (cmpV z16 z13)) ∧ Br (decide (cmpV z16 z13 < 0)) (z19 ∧ (oneF ([cellsP z16]) ∧ List.length (cellsVs z17) + List.length (chunk 4 1 (cellsP z16)) ≤ maxLen ∧ (List.length (cellsVs z17) + List.length (chunk 4 1 (cellsP z16))) * 56 ≤ 140737488355328 ∧ E false) ∧ (E 4 ∧ (0 : Int) ≤ 1 ∧ (1 : Int) ≤ Option.getD none z15 ∧ Option.getD none z15 ≤ z15) ∧ E true ∧ (AV.f (encI (List.drop z24 a)) = AV.f z23 ∧ AV.f (FV.sl 4 (List.drop (Int.toNat 1) (List.take (Int.toNat (Option.getD none z15)) z22))) = AV.f z25 ∧ E (AV.lsl 0) ∧ True) ∧ (Ob.row 4 62 (cellsVs z17 ++ chunk z9 1 (cellsP z16)) = Ob.row 4 62 (cellsVs (Prod.snd z20)) ∧ True) ∧ E true ∧ (false = true → false = true)) (z21 ∧ (oneF ([cellsP z13]) ∧ List.length (cellsVs z17) + List.length (chunk 4 1 (cellsP z13)) ≤ maxLen ∧ (List.length (cellsVs z17) + List.length (chunk 4 1 (cellsP z13))) * 56 ≤ 140737488355328 ∧ E false) ∧ (E 4 ∧ (0 : Int) ≤ 1 ∧ (1 : Int) ≤ Option.getD none z18 ∧ Option.getD none z18 ≤ z18) ∧ E true ∧ (AV.f (FV.sl 4 (List.drop (Int.toNat 1) (List.take (Int.toNat (Option.getD none z18)) z14))) = AV.f z23 ∧ AV.f (encI (List.drop z12 b)) = AV.f z25 ∧ E (AV.lsl 0) ∧ True) ∧ (Ob.row 4 62 (cellsVs z17 ++ chunk z9 1 (cellsP z13)) = Ob.row 4 62 (cellsVs (Prod.snd z20)) ∧ True) ∧ E true ∧ (false = true → false = true)))) ∧ Br (decide ((↑(List.length (cellsVs z5)) : Int) > 0)) (decide ((↑(List.length (cellsVs z6)) : Int) > 0) = false ∧ z3 ∧ z1 ∧ FV.sl 4 z10 = encI z8) (E false ∧ z3 ∧ z1 ∧ FV.sl 4 z10 = encI z8)) get164 ent164 (by kernel_rfl) ?_
  refine ⟨?_, ⟨rfl, ?_, ?_, ?_⟩, ?_, ⟨rfl, ?_, ?_, ?_⟩, ?_, ⟨rfl, ⟨?_, ?_, rfl, trivial⟩, ⟨rfl, trivial⟩, rfl, fun hi => ?_⟩, fun i => fun hi => ⟨?_, ?_, rfl, ⟨rfl, ?_, ?_⟩, ⟨rfl, ?_, ?_⟩, ?_, fun hi => ⟨⟨rfl, ?_, ?_⟩, ⟨?_, ?_, ?_, rfl⟩, ⟨rfl, ?_, ?_, ?_⟩, rfl, ⟨?_, ?_, rfl, trivial⟩, ⟨?_, trivial⟩, rfl, fun hi => ?_⟩, fun hi => ⟨⟨rfl, ?_, ?_⟩, ⟨?_, ?_, ?_, rfl⟩, ⟨rfl, ?_, ?_, ?_⟩, rfl, ⟨?_, ?_, rfl, trivial⟩, ⟨?_, trivial⟩, rfl, fun hi => ?_⟩⟩, fun hi => ⟨?_, ⟨?_, ?_, ?_, rfl⟩, ⟨?_, ?_, ?_, rfl⟩, ?_⟩, fun hi => ⟨rfl, ⟨?_, ?_, ?_, rfl⟩, ⟨?_, ?_, ?_, rfl⟩, ?_⟩⟩
  all_goals first | rfl | (simp only [Option.getD_some, Option.getD_none, hq]; rw [cellsVs_length]; omega) | (simp only [Option.getD_some, Option.getD_none, hq]; omega) | (simp only [Option.getD_some, hq, Int.toNat_natCast, cellsVs_take, Int.toNat_zero, List.drop_zero]; exact iha) | (simp only [Option.getD_none, hq, Int.toNat_natCast, List.take_length, cellsVs_drop]; exact ihb) | (have h5 := hlt i (by omega); simp only [cellsVs_length, List.length_drop, Option.getD_none]; omega) | (simp only [decide_eq_true_eq] at hi; simp only [mgi]; rw [if_pos hi]; done) | (simp only [decide_eq_false_iff_not] at hi; simp only [mgi]; rw [if_neg hi]; done) | (simp only [decide_eq_true_eq] at hi; simp only [mgi]; rw [if_pos hi]; exact congrArg AV.f (congrArg (FV.sl 4) (next1 _ _ _ (by simp)))) | (simp only [decide_eq_false_iff_not] at hi; simp only [mgi]; rw [if_neg hi]; exact congrArg AV.f (congrArg (FV.sl 4) (next1 _ _ _ (by simp)))) | (have h5 := hlt i (by omega); exact drop0 _ _ (by omega)) | (have h5 := hlt i (by omega); simp only [cellsVs_length, List.length_drop, decide_eq_true_eq]; omega) | (have h5 := hlt i (by omega); exact refCompare_ok _ _ (hfb _ (by rw [List.getD_eq_getElem?_getD, List.getElem?_eq_getElem (by omega)]; exact List.getElem_mem _))) | (have h5 := hlt i (by omega); have h6 := hA i (by omega); simp only [cellsVs_length, chunk, List.length_cons, List.length_nil, maxLen, List.length_append, List.length_drop]; omega) | (have h6 := hA N (by omega); simp only [cellsVs_length, chunk, List.length_cons, List.length_nil, maxLen, List.length_append, List.length_drop]; omega) | exact oneF_cellsVs _ | (simp only [decide_eq_true_eq] at hi; simp only [mgi]; rw [if_pos hi]; exact congrArg (Ob.row 4 62) (cellsVs_snoc _ _)) | (simp only [decide_eq_false_iff_not] at hi; simp only [mgi]; rw [if_neg hi]; exact congrArg (Ob.row 4 62) (cellsVs_snoc _ _)) | (simp only [cellsVs_length, List.length_drop, decide_eq_true_eq, decide_eq_false_iff_not] at *; omega) | (intro x hx; simp only [List.flatten_cons, List.flatten_nil, List.append_nil, cellsP, List.mem_cons, List.not_mem_nil, or_false] at hx; rcases hx with rfl | rfl | rfl | rfl <;> rfl) | (show FV.sl 4 _ = FV.sl 4 _; rw [cellsVs_app, cellsVs_app])
theorem sorted_ok : ∀ (n : Nat) (l : List V), l.length ≤ n → l.length ≤ 65536 → (∀ x, x ∈ l → Fine x) → (∀ x, x ∈ l → rightB x = true) → CallsF P G 164 [encI l] (encI (sortL l)) := by
  intro n
  induction n with
  | zero =>
    intro l hn _ _ hr
    have : l = [] := List.length_eq_zero_iff.1 (by omega)
    subst this
    have h := sorted_short [] (by simp)
    simpa [sortL] using h
  | succ n ih =>
    intro l hn hl hf hr
    by_cases h2 : l.length < 2
    · have e : sortL l = l := by
        match l, h2 with
        | [], _ => simp [sortL]
        | [x], _ => simp [sortL]
        | _ :: _ :: _, h => simp at h; omega
      rw [e]; exact sorted_short l h2
    · have ta : ∀ x, x ∈ l.take (l.length / 2) → x ∈ l := fun x hx => List.mem_of_mem_take hx
      have tb : ∀ x, x ∈ l.drop (l.length / 2) → x ∈ l := fun x hx => List.mem_of_mem_drop hx
      have iha := ih (l.take (l.length / 2)) (by simp; omega) (by simp; omega) (fun x hx => hf x (ta x hx)) (fun x hx => hr x (ta x hx))
      have ihb := ih (l.drop (l.length / 2)) (by simp; omega) (by simp; omega) (fun x hx => hf x (tb x hx)) (fun x hx => hr x (tb x hx))
      have sa := sortL_sorted (l.take (l.length / 2))
      have sb := sortL_sorted (l.drop (l.length / 2))
      have hp : (sortL (l.take (l.length / 2)) ++ sortL (l.drop (l.length / 2))).Perm l := by
        refine ((List.mergeSort_perm _ _).append (List.mergeSort_perm _ _)).trans ?_
        rw [List.take_append_drop]
      have hfa : ∀ x, x ∈ sortL (l.take (l.length / 2)) → Fine x := fun x hx => hf x (ta x ((sortL_mem _ x).1 hx))
      have hfb : ∀ x, x ∈ sortL (l.drop (l.length / 2)) → Fine x := fun x hx => hf x (tb x ((sortL_mem _ x).1 hx))
      have la := sortL_len (l.take (l.length / 2))
      have lb := sortL_len (l.drop (l.length / 2))
      generalize sortL (l.take (l.length / 2)) = a at *
      generalize sortL (l.drop (l.length / 2)) = b at *
      have hlen : a.length + b.length = l.length := by rw [la, lb]; simp; omega
      obtain ⟨N, h3, h4⟩ := exists_least (fun i => ¬ ((mgi a b i).1 < a.length ∧ (mgi a b i).2.1 < b.length)) (by
        apply Classical.byContradiction
        intro h
        have h : ∀ i, (mgi a b i).1 < a.length ∧ (mgi a b i).2.1 < b.length := fun i => by
          apply Classical.byContradiction; intro h'; exact h ⟨i, h'⟩
        have hs : ∀ i, (mgi a b i).1 + (mgi a b i).2.1 = i := by
          intro i
          induction i with
          | zero => simp [mgi]
          | succ i ihi => simp only [mgi]; split <;> simp only <;> omega
        have h5 := h (a.length + b.length)
        have h6 := hs (a.length + b.length)
        omega)
      have hlt : ∀ i, i < N → (mgi a b i).1 < a.length ∧ (mgi a b i).2.1 < b.length := fun i hi => by
        apply Classical.byContradiction; intro h; have := h4 i h; omega
      have hI : ∀ i, i ≤ N → MgI a b i := fun i hi => mgI_upto sa sb i fun j hj => hlt j (by omega)
      rw [← mg_end hr sa sb hp (hI N (Nat.le_refl _)) h3]
      exact sorted_long l a b N (by omega) hl hlen hfa hfb iha ihb hI hlt h3
end Go.Sx
set_option maxRecDepth 100000
set_option maxHeartbeats 4000000
set_option linter.unusedSimpArgs false
set_option linter.unusedVariables false
namespace Go.Sx
open Go.Proofs Sp
theorem get117 : P.funcs[117]? = some Tryz.f117 := by kernel_rfl
theorem ent117 : entersP P 117 = true := by kernel_rfl
theorem refSet_bad (l : List V) (h : CallsF P G 134 [encI l] (int (listE l))) (h0 : listE l ≠ 0) : CallsF P G 117 [encI l] (.tup [.agg [int 0, int 0, str [], .nils], int (listE l)]) := by
  refine sx_fn (hs := [.call (int (listE l)), .dec true]) ((CallsF P G 134 [encI l] (int (listE l))) ∧ ((listE l != 0) = (true)) ∧ E (FV.tup [FV.agg [int 0, int 0, str [], FV.nils], int (listE l)])) get117 ent117 (by kernel_rfl) ?_
  refine ⟨?_, ⟨?_, rfl⟩⟩
  all_goals first | exact h | (simp [h0]; done)
theorem refSet_good (l s o : List V) (h : CallsF P G 134 [encI l] (int 0)) (hs : CallsF P G 164 [encI l] (encI s)) (ho : CallsF P G 163 [encI s] (encI o)) (hm : CallsF P G 162 [encV (.mk 5 0 [] o)] (.tup [encV (madeR 5 o).1, int (madeR 5 o).2])) : CallsF P G 117 [encI l] (.tup [encV (madeR 5 o).1, int (madeR 5 o).2]) := by
  refine sx_fn (hs := [.call (int 0), .dec false, .call (encI s), .call (encI o), .call (.tup [encV (madeR 5 o).1, int (madeR 5 o).2])]) (let z1 := FV.tup [encV (Prod.fst (madeR 5 o)), int (Prod.snd (madeR 5 o))]; CallsF P G 134 [encI l] (int 0) ∧ E false ∧ CallsF P G 164 [encI l] (encI s) ∧ CallsF P G 163 [encI s] (encI o) ∧ CallsF P G 162 [FV.agg [int 5, int 0, str [], encI o]] z1 ∧ E z1) get117 ent117 (by kernel_rfl) ?_
  refine ⟨?_, rfl, ?_, ?_, ?_, rfl⟩
  all_goals first | exact h | exact hs | exact ho | exact hm
theorem refSet_ok (l : List V) (hf : ∀ x, x ∈ l → Fine x) : CallsF P G 117 [encI l] (.tup [encV (setR l).1, int (setR l).2]) := by
  unfold setR
  have hv := listed_ok l hf
  by_cases h0 : listE l = 0
  · rw [if_pos h0]
    rw [h0] at hv
    obtain ⟨hl, hr⟩ := listE_zero h0
    have hs := sorted_ok l.length l (Nat.le_refl _) hl hf hr
    have hfs : ∀ x, x ∈ sortL l → Fine x := fun x hx => hf x ((sortL_mem l x).1 hx)
    have ho := once_run (sortL l) (by rw [sortL_len]; exact hl) hfs
    rw [once_setL hr] at ho
    exact refSet_good l (sortL l) (setL l) hv hs ho (told_ok 5 (by omega) _ (fun x hx => hf x (setL_mem hx)) (by have := setL_len l; omega))
  · rw [if_neg h0]
    exact (refSet_bad l hv h0).weak (nilT _)
theorem get57 : P.funcs[57]? = some Tryz.f57 := by kernel_rfl
theorem ent57 : entersP P 57 = true := by kernel_rfl
theorem svalue_run (o n e : Int) (t : T) (ks : List V) (w : V) (h : CallsF P G 32 [.ptr [encM o n t] 0] (encI ks)) (h2 : CallsF P G 116 [encI ks] (.tup [encV w, int e])) : CallsF P G 57 [.ptr [encM o n t] 0] (.tup [encV w, int e]) := by
  refine sx_fn (hs := [.call (encI ks), .call (FV.tup [encV w, int e])]) ((CallsF P G 32 [FV.ptr [encM o n t] 0] (encI ks)) ∧ (CallsF P G 116 [encI ks] (FV.tup [encV w, int e])) ∧ E (FV.tup [encV w, int e])) get57 ent57 (by kernel_rfl) ?_
  refine ⟨?_, ⟨?_, rfl⟩⟩
  all_goals first | exact h | exact h2
theorem get58 : P.funcs[58]? = some Tryz.f58 := by kernel_rfl
theorem ent58 : entersP P 58 = true := by kernel_rfl
theorem rsvalue_run (o e : Int) (L : List (V × V)) (ks : List V) (w : V) (h : CallsF P G 91 [.ptr [.ptr [int o, encPs L] 0] 0] (encI ks)) (h2 : CallsF P G 117 [encI ks] (.tup [encV w, int e])) : CallsF P G 58 [.ptr [.ptr [int o, encPs L] 0] 0] (.tup [encV w, int e]) := by
  refine sx_fn (hs := [.call (encI ks), .call (FV.tup [encV w, int e])]) ((CallsF P G 91 [FV.ptr [FV.ptr [int o, FV.sl 8 (cellsPs L)] 0] 0] (encI ks)) ∧ (CallsF P G 117 [encI ks] (FV.tup [encV w, int e])) ∧ E (FV.tup [encV w, int e])) get58 ent58 (by kernel_rfl) ?_
  refine ⟨?_, ⟨?_, rfl⟩⟩
  all_goals first | exact h | exact h2
theorem get60 : P.funcs[60]? = some Tryz.f60 := by kernel_rfl
theorem ent60 : entersP P 60 = true := by kernel_rfl
theorem rsfirst_none (o : Int) (L : List (V × V)) (h : L.length = 0) : CallsF P G 60 [.ptr [.ptr [int o, encPs L] 0] 0] (.tup [.agg [int 0, int 0, str [], .nils], int 6]) := by
  refine sx_fn (hs := [.call (int (L.length : Int)), .dec true]) ((CallsF P G 92 [FV.ptr [FV.ptr [int o, FV.sl 8 (cellsPs L)] 0] 0] (int (↑(List.length L) : Int))) ∧ (((↑(List.length L) : Int) == 0) = (true)) ∧ E (FV.tup [FV.agg [int 0, int 0, str [], FV.nils], int 6])) get60 ent60 (by kernel_rfl) ?_
  refine ⟨?_, ⟨?_, rfl⟩⟩
  all_goals first | exact rlen_ok _ _ | (simp [h]; done)
theorem rsfirst_some (o : Int) (L : List (V × V)) (h : 0 < L.length) : CallsF P G 60 [.ptr [.ptr [int o, encPs L] 0] 0] (.tup [encV (L.getD 0 default).1, int 0]) := by
  refine sx_fn (hs := [.call (int (L.length : Int)), .dec false, .el (cellsP (L.getD 0 default).1 ++ cellsP (L.getD 0 default).2)]) (let z1 := Prod.fst (List.getD L 0 default); CallsF P G 92 [FV.ptr [FV.ptr [int o, FV.sl 8 (cellsPs L)] 0] 0] (int (↑(List.length L) : Int)) ∧ ((↑(List.length L) : Int) == 0) = false ∧ (E 8 ∧ (0 : Int) ≤ 0 ∧ (cellsPs L)[Int.toNat 0]? = some (int (V.kind z1) :: int (V.num z1) :: str (V.text z1) :: encI (V.items z1) :: cellsP (Prod.snd (List.getD L 0 default)))) ∧ E (FV.tup [encV z1, int 0])) get60 ent60 (by kernel_rfl) ?_
  refine ⟨?_, ?_, ⟨rfl, ?_, ?_⟩, rfl⟩
  all_goals first | exact rlen_ok _ _ | (simp only [beq_eq_false_iff_ne]; omega) | exact cellsPs_get L 0 (by omega) | omega
theorem get62 : P.funcs[62]? = some Tryz.f62 := by kernel_rfl
theorem ent62 : entersP P 62 = true := by kernel_rfl
theorem rslast_none (o : Int) (L : List (V × V)) (h : L.length = 0) : CallsF P G 62 [.ptr [.ptr [int o, encPs L] 0] 0] (.tup [.agg [int 0, int 0, str [], .nils], int 6]) := by
  refine sx_fn (hs := [.call (int (L.length : Int)), .dec true]) ((CallsF P G 92 [FV.ptr [FV.ptr [int o, FV.sl 8 (cellsPs L)] 0] 0] (int (↑(List.length L) : Int))) ∧ (((↑(List.length L) : Int) == 0) = (true)) ∧ E (FV.tup [FV.agg [int 0, int 0, str [], FV.nils], int 6])) get62 ent62 (by kernel_rfl) ?_
  refine ⟨?_, ⟨?_, rfl⟩⟩
  all_goals first | exact rlen_ok _ _ | (simp [h]; done)
theorem rslast_some (o : Int) (L : List (V × V)) (m : Nat) (h : L.length = m + 1) (hw : IntKind.i64.wrap ((L.length : Int) - 1) = (m : Int)) : CallsF P G 62 [.ptr [.ptr [int o, encPs L] 0] 0] (.tup [encV (L.getD m default).1, int 0]) := by
  refine sx_fn (hs := [.call (int (L.length : Int)), .dec false, .pcb [], .call (int (L.length : Int)), .el (cellsP (L.getD m default).1 ++ cellsP (L.getD m default).2)]) (let z2 := Prod.fst (List.getD L m default); let z3 := (↑(List.length L) : Int); let z1 := E 8 ∧ (0 : Int) ≤ IntKind.wrap IntKind.i64 (z3 - 1) ∧ (cellsPs L)[Int.toNat (IntKind.wrap IntKind.i64 (z3 - 1))]? = some (int (V.kind z2) :: int (V.num z2) :: str (V.text z2) :: encI (V.items z2) :: cellsP (Prod.snd (List.getD L m default))); let z4 := FV.tup [encV z2, int 0]; let z5 := E false ∧ E false ∧ z1 ∧ E false ∧ E false ∧ E true ∧ E z4; CallsF P G 92 [FV.ptr [FV.ptr [int o, FV.sl 8 (cellsPs L)] 0] 0] (int z3) ∧ (z3 == 0) = false ∧ E true ∧ E false ∧ (E false ∧ (E false ∧ CallsF P G 92 [FV.ptr [FV.ptr [int o, FV.sl 8 (cellsPs L)] 0] 0] (int z3) ∧ E false ∧ E false ∧ z1 ∧ E false ∧ E false ∧ E true ∧ E z4) ∧ CallsF P G 92 [FV.ptr [FV.ptr [int o, FV.sl 8 (cellsPs L)] 0] 0] (int z3) ∧ E false ∧ z5 ∧ E false ∧ E false ∧ z1 ∧ E false ∧ E false ∧ E true ∧ E z4) ∧ CallsF P G 92 [FV.ptr [FV.ptr [int o, FV.sl 8 (cellsPs L)] 0] 0] (int z3) ∧ E false ∧ (E false ∧ z5 ∧ E false ∧ E false ∧ z1 ∧ E false ∧ E false ∧ E true ∧ E z4) ∧ E false ∧ E false ∧ E false ∧ z1 ∧ E false ∧ E false ∧ E true ∧ E z4) get62 ent62 (by kernel_rfl) ?_
  refine ⟨?_, ?_, rfl, rfl, ⟨rfl, ⟨rfl, ?_, rfl, rfl, ⟨rfl, ?_, ?_⟩, rfl, rfl, rfl, rfl⟩, ?_, rfl, ⟨rfl, rfl, ⟨rfl, ?_, ?_⟩, rfl, rfl, rfl, rfl⟩, rfl, rfl, ⟨rfl, ?_, ?_⟩, rfl, rfl, rfl, rfl⟩, ?_, rfl, ⟨rfl, ⟨rfl, rfl, ⟨rfl, ?_, ?_⟩, rfl, rfl, rfl, rfl⟩, rfl, rfl, ⟨rfl, ?_, ?_⟩, rfl, rfl, rfl, rfl⟩, rfl, rfl, rfl, ⟨rfl, ?_, ?_⟩, rfl, rfl, rfl, rfl⟩
  all_goals first | exact rlen_ok _ _ | (simp only [beq_eq_false_iff_ne]; omega) | (rw [hw]; exact cellsPs_get L m (by omega)) | (rw [hw]; omega)
theorem get9 : P.funcs[9]? = some Tryz.f9 := by kernel_rfl
theorem ent9 : entersP P 9 = true := by kernel_rfl
theorem of16_bad (o : Int) (l : List V) (e : Int) (he : e ≠ 0) (h0 : CallsF P G 20 [int o, encI l] (.tup [.sc (.pointer none), int e])) (h1 : CallsF P G 21 [int o, encI l] (.tup [.sc (.pointer none), int e])) (h2 : CallsF P G 22 [] (bool true)) : CallsF P G 9 [int o, encI l] (bool true) := by
  refine sx_fn (hs := [.call (.tup [.sc (.pointer none), int e]), .call (.tup [.sc (.pointer none), int e]), .dec false, .dec true, .dec true, .call (bool true)]) (let z1 := FV.tup [FV.sc (Value.pointer none), int e]; CallsF P G 20 [int o, encI l] z1 ∧ CallsF P G 21 [int o, encI l] z1 ∧ (e != e) = false ∧ (e != 0) = true ∧ E true ∧ CallsF P G 22 [] (bool true) ∧ E (bool true)) get9 ent9 (by kernel_rfl) ?_
  refine ⟨?_, ?_, ?_, ?_, rfl, ?_, rfl⟩
  all_goals first | exact h0 | exact h1 | exact h2 | (simp; done) | (simp_all; done)
theorem of16_run (o : Int) (l : List V) (M1 M2 : FV) (a1 a2 a3 : V) (e1 e2 e3 : Int)  (h0 : CallsF P G 20 [int o, encI l] (.tup [.ptr [M1] 0, int 0])) (h1 : CallsF P G 21 [int o, encI l] (.tup [.ptr [M2] 0, int 0])) (h2 : CallsF P G 25 [.ptr [M1] 0, .ptr [M2] 0] (bool true)) (h3 : CallsF P G 57 [.ptr [M1] 0] (.tup [encV a1, int e1])) (h4 : CallsF P G 58 [.ptr [M2] 0] (.tup [encV a1, int e1])) (h5 : CallsF P G 59 [.ptr [M1] 0] (.tup [encV a2, int e2])) (h6 : CallsF P G 60 [.ptr [M2] 0] (.tup [encV a2, int e2])) (h7 : CallsF P G 61 [.ptr [M1] 0] (.tup [encV a3, int e3])) (h8 : CallsF P G 62 [.ptr [M2] 0] (.tup [encV a3, int e3])) (h9 : CallsF P G 35 [encV a1, encV a1] (bool true)) (h10 : CallsF P G 35 [encV a2, encV a2] (bool true)) (h11 : CallsF P G 35 [encV a3, encV a3] (bool true)) (h12 : CallsF P G 22 [] (bool true)) : CallsF P G 9 [int o, encI l] (bool true) := by
  refine sx_fn (hs := [.call (.tup [.ptr [M1] 0, int 0]), .call (.tup [.ptr [M2] 0, int 0]), .dec false, .dec false, .call (bool true), .dec false, .call (.tup [encV a1, int e1]), .call (.tup [encV a1, int e1]), .call (.tup [encV a2, int e2]), .call (.tup [encV a2, int e2]), .call (.tup [encV a3, int e3]), .call (.tup [encV a3, int e3]), .call (bool true), .dec true, .dec true, .call (bool true), .dec true, .dec true, .call (bool true), .dec true, .dec true, .call (bool true)]) (CallsF P G 20 [int o, encI l] (FV.tup [FV.ptr [M1] 0, int 0]) ∧ CallsF P G 21 [int o, encI l] (FV.tup [FV.ptr [M2] 0, int 0]) ∧ E false ∧ E false ∧ CallsF P G 25 [FV.ptr [M1] 0, FV.ptr [M2] 0] (bool true) ∧ E false ∧ CallsF P G 57 [FV.ptr [M1] 0] (FV.tup [encV a1, int e1]) ∧ CallsF P G 58 [FV.ptr [M2] 0] (FV.tup [encV a1, int e1]) ∧ CallsF P G 59 [FV.ptr [M1] 0] (FV.tup [encV a2, int e2]) ∧ CallsF P G 60 [FV.ptr [M2] 0] (FV.tup [encV a2, int e2]) ∧ CallsF P G 61 [FV.ptr [M1] 0] (FV.tup [encV a3, int e3]) ∧ CallsF P G 62 [FV.ptr [M2] 0] (FV.tup [encV a3, int e3]) ∧ CallsF P G 35 [encV a1, encV a1] (bool true) ∧ E true ∧ (e1 == e1) = true ∧ CallsF P G 35 [encV a2, encV a2] (bool true) ∧ E true ∧ (e2 == e2) = true ∧ CallsF P G 35 [encV a3, encV a3] (bool true) ∧ E true ∧ (e3 == e3) = true ∧ CallsF P G 22 [] (bool true) ∧ E (bool true)) get9 ent9 (by kernel_rfl) ?_
  refine ⟨?_, ?_, rfl, rfl, ?_, rfl, ?_, ?_, ?_, ?_, ?_, ?_, ?_, rfl, ?_, ?_, rfl, ?_, ?_, rfl, ?_, ?_, rfl⟩
  all_goals first | exact h0 | exact h1 | exact h2 | exact h3 | exact h4 | exact h5 | exact h6 | exact h7 | exact h8 | exact h9 | exact h10 | exact h11 | exact h12 | (simp; done)
end Go.Sx
set_option maxRecDepth 100000
set_option maxHeartbeats 4000000
set_option linter.unusedSimpArgs false
set_option linter.unusedVariables false
namespace Go.Sx
open Go.Proofs Sp
theorem sof_got (o : Int) (l : List V) (ho : 0 ≤ o ∧ o ≤ 5) (hl : l.length ≤ 65536) (hv : ∀ v, v ∈ l → Fine v ∧ rightB v = true) : ∃ x : T × Nat, OkX x ∧ x.2 ≤ 65536 ∧ Rising (cmpO o) x.1.toList ∧ x.1.toList = foldL (cmpO o) [] (wL l) ∧ (∀ q, q ∈ x.1.toList → q.2 = nilW) ∧ CallsF P G 20 [int o, encI l] (.tup [.ptr [encX o x] 0, int 0]) := by
  have hR := rp_wL hv
  have h1 := ofT_ok (c := cmpO o) hR (wL l).length (Nat.le_refl _)
  have h2 := ofT_fold (cmpO_line o) (wL l) (wL l).length (Nat.le_refl _)
  rw [List.take_length] at h2
  refine ⟨_, h1.1, by have := h1.2; rw [wL_len] at this; rw [wL_len]; omega, h2.2, h2.1, fun q hq => ?_, sof_ok o ho l hl hv⟩
  rw [h2.1] at hq
  rcases foldL_sub _ _ _ q hq with h | h
  · simp at h
  · obtain ⟨v, _, rfl⟩ := List.mem_map.1 h
    rfl
theorem fine_setR (l : List V) (hf : ∀ x, x ∈ l → Fine x) (hl : l.length ≤ 2513169434844) : Fine (setR l).1 := by
  unfold setR madeR
  split
  · split
    · exact fineL (fun x hx => hf x (setL_mem hx)) (setL_len l) hl 5 (by omega)
    · exact fine0
  · exact fine0
theorem first_both (o : Int) {x : T × Nat} (hx : OkX x) (hn : x.2 ≤ 65536) : ∃ a e, Fine a ∧ CallsF P G 59 [.ptr [encX o x] 0] (.tup [encV a, int e]) ∧ CallsF P G 60 [.ptr [.ptr [int o, encPs x.1.toList] 0] 0] (.tup [encV a, int e]) := by
  have h8 := okX_len hx
  have hs : x.1.size ≤ 131072 := by have : x.1.size = x.2 := hx.2.2.1; omega
  have h1 := first_ok o (x.2 : Int) x.1 (okX_fine hx) hs
  rcases Nat.eq_zero_or_pos x.1.toList.length with h0 | h0
  · rw [inQ_no (by omega)] at h1
    exact ⟨nilW, 6, fine_nilW, sfirst_run _ _ _ _ _ nilW _ h1 ((end_no _).le (le_tup (LeL.cons le_zero (LeL.refl _)))), (rsfirst_none o _ h0).le (le_tup (LeL.cons le_zero (LeL.refl _)))⟩
  · have e : inQ x.1.toList 0 = true ∧ atQ x.1.toList 0 = x.1.toList.getD 0 default := inQ_nat (L := x.1.toList) (i := 0) h0
    rw [e.1, e.2] at h1
    exact ⟨_, 0, (allP (okX_fine hx) h0).1, sfirst_run _ _ _ _ _ _ _ h1 (end_ok _), rsfirst_some o _ h0⟩
theorem last_both (o : Int) {x : T × Nat} (hx : OkX x) (hn : x.2 ≤ 65536) : ∃ a e, Fine a ∧ CallsF P G 61 [.ptr [encX o x] 0] (.tup [encV a, int e]) ∧ CallsF P G 62 [.ptr [.ptr [int o, encPs x.1.toList] 0] 0] (.tup [encV a, int e]) := by
  have h8 := okX_len hx
  have hsz : x.1.size = x.2 := hx.2.2.1
  have h1 := last_ok o x.1 (okX_fine hx) (by omega)
  rw [hsz] at h1
  cases hl : x.2 with
  | zero =>
    rw [hl] at h1 h8
    rw [inQ_no (by omega)] at h1
    have hx2 : encX o x = encM o ((0 : Nat) : Int) x.1 := by unfold encX; rw [hl]
    rw [hx2]
    exact ⟨nilW, 6, fine_nilW, slast_run _ _ _ _ _ nilW _ h1 ((end_no _).le (le_tup (LeL.cons le_zero (LeL.refl _)))), (rslast_none o _ h8).le (le_tup (LeL.cons le_zero (LeL.refl _)))⟩
  | succ m =>
    rw [hl] at h1 h8
    have e := inQ_nat (L := x.1.toList) (i := m) (by omega)
    rw [show (((m + 1 : Nat) : Int) - 1) = (m : Int) by omega, e.1, e.2] at h1
    have hx2 : encX o x = encM o ((m + 1 : Nat) : Int) x.1 := by unfold encX; rw [hl]
    rw [hx2]
    exact ⟨_, 0, (allP (okX_fine hx) (by omega)).1, slast_run _ _ _ _ _ _ _ h1 (end_ok _), rslast_some o _ m h8 (by rw [wrapS _ (by omega) (by omega)]; omega)⟩
theorem of16_law (o : Int) (l : List V) (hl : ∀ v, v ∈ l → Fine v) (h1 : l.length ≤ 1000000000000) : CallsF P G 9 [int o, encI l] (bool true) := by
  rcases sof_both o l hl h1 with ⟨e, he, a1, a2⟩ | ⟨ho, hl2, hlv, a2⟩
  · exact of16_bad o l e he a1 a2 speaks16
  obtain ⟨x, hx, hn, hR, x4, hz, a1⟩ := sof_got o l ho hl2 hlv
  rw [← x4] at a2
  have h8 := okX_len hx
  have hk : (keysL x.1.toList).length ≤ 65536 := by rw [keysL_len]; omega
  have hkf := keysL_fine hx
  have b1 := svalue_run _ _ _ _ _ _ (sitems_ok o hx hn) (set_ok (keysL x.1.toList) hkf)
  have b2 := rsvalue_run _ _ _ _ _ (ritems_ok o x.1.toList (by omega)) (refSet_ok (keysL x.1.toList) hkf)
  obtain ⟨a, e, f1, c1, c2⟩ := first_both o hx hn
  obtain ⟨b, g, f2, d1, d2⟩ := last_both o hx hn
  exact of16_run o l _ _ _ _ _ _ _ _ a1 a2 (same16_ok o hx hn) b1 b2 c1 c2 d1 d2 (plainSelf _ (fine_setR _ hkf (by omega))) (plainSelf _ f1) (plainSelf _ f2) speaks16
end Go.Sx

/-
  Proved: what some functions of the program answer, or a law of the evaluator that shows it, one theorem each; its conditions are the hypotheses that stand ahead of it.
-/
import Derived.Test.YtdgodofdnaligaaDoorR3
import Derived.Test.YtdgodofdnaligaaDoorC6
import Derived.ChangeArms
import Derived.OpenShut
import Derived.Deep.DeepHandedRow
import Derived.ReadAgain
import Derived.KernelRfl
import Derived.Lib.LaidU8
import Derived.Below
set_option maxRecDepth 100000
set_option maxHeartbeats 4000000
set_option linter.unusedSimpArgs false
set_option linter.unusedVariables false
namespace Go.Sx
open Go.Proofs Sp
section
variable {H : Type} {enc : TypeId × Value → H} {W : World} {held : Bool}
theorem cell_spot {a : Addr} {v : Value} (h : W.cell? a = some v) : a = ⟨a.block, a.off, none⟩ := by
  cases a with
  | mk b o s =>
    cases s with
    | none => rfl
    | some s =>
      simp only [World.cell?] at h
      split at h
      · simp at h
      · cases h
theorem mkE {b : Nat} {ok : Nat → Prop} : ∀ (m o : Nat), (∀ i, i < m → ∃ v, Fine v ∧ FRelC W ok (cellsP v) b (o + i * 4)) → ∃ l : List V, l.length = m ∧ (∀ x, x ∈ l → Fine x) ∧ FRelE W ok 4 (cellsVs l) b o
  | 0, o, _ => ⟨[], rfl, by simp, by simp [cellsVs, FRelE]⟩
  | m + 1, o, h => by
    obtain ⟨v, h1, h2⟩ := h 0 (by omega)
    obtain ⟨l, h3, h4, h5⟩ := mkE m (o + 4) (fun i hi => by
      obtain ⟨v, h1, h2⟩ := h (i + 1) (by omega)
      exact ⟨v, h1, by rwa [show o + 4 + i * 4 = o + (i + 1) * 4 from by omega]⟩)
    refine ⟨v :: l, by simp [h3], ?_, ?_⟩
    · intro x hx
      rcases List.mem_cons.1 hx with rfl | hx
      · exact h1
      · exact h4 x hx
    · simp only [cellsVs, FRelE, cellsP_eq]
      exact ⟨rfl, by simpa using h2, h5⟩
theorem size_toList (s : ByteArray) : s.data.toList.length = s.size := by cases s; rfl
theorem weights_mem (t : TypeId) : ∀ (l : List (DataW H)), (DataW.weightsAll P t l).all (· ≤ reachBytes) = true → ∀ x ∈ l, (DataW.weights P t x).all (· ≤ reachBytes) = true
  | [], _, x, hx => by simp at hx
  | y :: l, h, x, hx => by
    simp only [DataW.weightsAll, List.all_append, Bool.and_eq_true] at h
    rcases List.mem_cons.1 hx with rfl | hx
    · exact h.1
    · exact weights_mem t l h.2 x hx
theorem cells4 {b o : Nat} {n : Nat} {cs : List Value} (h : W.cells? 0 ⟨b, o, none⟩ n = some cs) : cs.length = n ∧ ∀ j v, cs[j]? = some v → W.cell? ⟨b, o + j, none⟩ = some v := by
  simp only [World.cells?, Nat.zero_le, if_true] at h
  have hl := mapM_some_length h
  simp only [List.length_range] at hl
  refine ⟨hl, fun j v hv => ?_⟩
  have hj : j < n := by
    have := (List.getElem?_eq_some_iff.1 hv).1
    omega
  have := mapM_some_get h j j (by simp [hj])
  rw [Addr.add_mid] at this
  rw [this, hv]
theorem cOf_value : P.cellsOf 24 = 4 := by kernel_rfl
theorem cOf_items : P.cellsOf 22 = 1 := by kernel_rfl
theorem bOf_value : P.bytesOf 24 = 56 := by kernel_rfl
/-- AN ARGUMENT THAT IS A VALUE, AND ITS ITEMS, AS THEY ARE READ. -/
theorem rd_V : ∀ (n : Nat) (cs : List Value) (x : DataW H × List MemPlace), DataW.trod enc P W 0 (fun _ => true) held n 24 cs = some x → (DataW.weights P 24 x.1).all (· ≤ reachBytes) = true →
    ∃ v : V, FRelL W (fun b => b < W.heap.size) (cellsP v) cs ∧ Fine v := by
  intro n
  induction n using Nat.strongRecOn with
  | ind n IH =>
    intro cs x h hw
    obtain ⟨xs, m, rfl, rfl, hlen, hxl, hf⟩ := DataW.trod_struct Tryd.underlying24 h
    rw [cOf_value] at hlen
    obtain ⟨c0, c1, c2, c3, rfl⟩ : ∃ a b c d, cs = [a, b, c, d] := by
      match cs, hlen with
      | [a, b, c, d], _ => exact ⟨a, b, c, d, rfl⟩
    obtain ⟨x0, x1, x2, x3, rfl⟩ : ∃ a b c d, xs = [a, b, c, d] := by
      match xs, hxl with
      | [a, b, c, d], _ => exact ⟨a, b, c, d, rfl⟩
    have f0 : DataW.trod enc P W 0 (fun _ => true) held m 3 (([c0, c1, c2, c3].drop 0).take (P.cellsOf 3)) = some x0 := hf 0 _ rfl
    have f1 : DataW.trod enc P W 0 (fun _ => true) held m 2 (([c0, c1, c2, c3].drop 1).take (P.cellsOf 2)) = some x1 := hf 1 _ rfl
    have f2 : DataW.trod enc P W 0 (fun _ => true) held m 9 (([c0, c1, c2, c3].drop 2).take (P.cellsOf 9)) = some x2 := hf 2 _ rfl
    have f3 : DataW.trod enc P W 0 (fun _ => true) held m 22 (([c0, c1, c2, c3].drop 3).take (P.cellsOf 22)) = some x3 := hf 3 _ rfl
    rw [show P.cellsOf 3 = 1 by kernel_rfl] at f0
    rw [show P.cellsOf 2 = 1 by kernel_rfl] at f1
    rw [show P.cellsOf 9 = 1 by kernel_rfl] at f2
    rw [cOf_items] at f3
    simp only [List.drop_zero, List.take_succ_cons, List.take_zero, List.drop_succ_cons, List.getElem?_cons_zero, List.getElem?_cons_succ] at f0 f1 f2 f3
    obtain ⟨k, e0, rfl, w0⟩ := DataW.trod_int (k := .i64) Tryd.underlying3 f0
    obtain ⟨z, e1, rfl, w1⟩ := DataW.trod_int (k := .i64) Tryd.underlying2 f1
    obtain ⟨s, e2, rfl, w2⟩ := DataW.trod_string Tryd.underlying9 f2
    simp only [List.cons.injEq, and_true] at e0 e1 e2
    subst e0; subst e1; subst e2
    have b0 := bounds_i64 w0
    have b1 := bounds_i64 w1
    simp only [List.map_cons, List.map_nil, DataW.weights, Tryd.underlying24, DataW.weightsEach, List.nil_append, List.append_nil, List.all_append, Bool.and_eq_true, List.all_cons, List.all_nil, decide_eq_true_eq, and_true] at hw
    obtain ⟨hs, hitems⟩ := hw
    have hstr : (⟨s.data.toList.toArray⟩ : ByteArray) = s := by cases s; simp
    have hsz : s.data.toList.length = s.size := size_toList s
    simp only [reachBytes] at hs
    have fin : ∀ l : List V, FRel W (fun b => b < W.heap.size) (.sl 4 (cellsVs l)) c3 → (∀ x, x ∈ l → Fine x) → l.length ≤ 2513169434844 → ∃ v : V, FRelL W (fun b => b < W.heap.size) (cellsP v) [.int .i64 k, .int .i64 z, .string s, c3] ∧ Fine v := by
      intro l h1 h2 h3
      refine ⟨.mk k z s.data.toList l, ?_, Fine.mk k z s.data.toList l b0 b1 (by omega) h3 h2⟩
      simp only [cellsP, FRelL, V.kind, V.num, V.text, V.items]
      exact ⟨_, _, rfl, by simp [int, FRel], _, _, rfl, by simp [int, FRel], _, _, rfl, by simp only [str, FRel, hstr], _, _, rfl, h1, rfl⟩
    rcases DataW.trod_slice Tryd.underlying22 f3 with ⟨e3, rfl⟩ | ⟨a, len, cap, elems, rest, m', rfl, e3, rfl, hba, hlc, hcm, hel, hget, _, _⟩
    · simp only [List.cons.injEq, and_true] at e3
      subst e3
      exact fin [] (by simp [FRel, cellsVs]) (by simp) (by simp)
    · simp only [List.cons.injEq, and_true] at e3
      subst e3
      simp only [DataW.weights, Tryd.underlying22, List.all_cons, List.all_append, Bool.and_eq_true, decide_eq_true_eq, bOf_value, reachBytes, List.length_map] at hitems
      obtain ⟨hbytes, hel2, _⟩ := hitems
      have hb56 : elems.length * 56 ≤ 140737488351232 := Nat.le_trans (Nat.mul_le_mul_right _ (Nat.le_add_right _ _)) (of_decide_eq_true hbytes)
      rcases Nat.eq_zero_or_pos len with h0 | hpos
      · subst h0
        exact fin [] (by simp [FRel, cellsVs]) (by simp) (by simp)
      · have hread : ∀ i, i < len → ∃ csi y, W.cells? 0 (a.add (i * 4)) 4 = some csi ∧ DataW.trod enc P W 0 (fun _ => true) held m' 24 csi = some y ∧ y ∈ elems := fun i hi => by
          have := hget i hi
          rw [List.getElem?_eq_getElem (by omega), cOf_value, Option.bind_eq_some_iff] at this
          obtain ⟨csi, g1, g2⟩ := this
          exact ⟨csi, _, g1, g2, List.getElem_mem _⟩
        have ha : a = ⟨a.block, a.off, none⟩ := by
          obtain ⟨csi, y, g1, _, _⟩ := hread 0 hpos
          simp only [Nat.zero_mul] at g1
          have hz : a.add 0 = a := by simp [Addr.add]
          rw [hz] at g1
          simp only [World.cells?, Nat.zero_le, if_true] at g1
          have hl := mapM_some_length g1
          have := mapM_some_get g1 0 0 (by simp)
          rw [hz, List.getElem?_eq_getElem (by rw [hl]; simp)] at this
          exact cell_spot this
        have hel4 : ∀ i, i < len → ∃ v, Fine v ∧ FRelC W (fun b => b < W.heap.size) (cellsP v) a.block (a.off + i * 4) := fun i hi => by
          obtain ⟨csi, y, g1, g2, g3⟩ := hread i hi
          have hwy : (DataW.weights P 24 y.1).all (· ≤ reachBytes) = true := weights_mem _ _ hel2 _ (List.mem_map_of_mem g3)
          obtain ⟨v, h1, h2⟩ := IH m' (by omega) csi y g2 hwy
          rw [ha, Addr.add_mid] at g1
          obtain ⟨g4, g5⟩ := cells4 g1
          exact ⟨v, h2, FRelC.of _ _ _ _ h1 g5⟩
        obtain ⟨l, h1, h2, h3⟩ := mkE len a.off hel4
        refine fin l ?_ h2 (by omega)
        simp only [FRel]
        refine .inr ⟨a.block, a.off, cap, by rw [← ha, cellsVs_length, h1], by rw [cellsVs_length, h1]; exact hlc, ?_, h3⟩
        obtain ⟨csi, y, g1, _, _⟩ := hread 0 hpos
        rw [ha, Addr.add_mid] at g1
        obtain ⟨g4, g5⟩ := cells4 g1
        have q := World.block_lt_of_cell? W _ (g5 0 (csi[0]'(by omega)) (by rw [List.getElem?_eq_getElem (by omega)]))
        exact q
end
end Go.Sx
set_option maxRecDepth 100000
set_option maxHeartbeats 4000000
set_option linter.unusedSimpArgs false
set_option linter.unusedVariables false
namespace Go.Sx
open Go.Proofs Sp
open Go.ChangeShapes Go.WideShapes Go.ChangeAt Go.RowKit
theorem lidOut : laidOutB Tryd.prog = true := by kernel_rfl
theorem mapsR : mapsRowed Tryd.prog = true := by kernel_rfl
theorem slFull : ∀ t e, t < Tryd.prog.types.size → Tryd.prog.underlying t = some (.slice e) → 0 < Tryd.prog.cellsOf e := slices_full_of _ (by kernel_rfl)
section
variable {H : Type} {enc : TypeId × Value → H} {W W' : World}
theorem trodAll_carry (hb : Below W.heap.size W W') : ∀ {ts : List TypeId} {vs : List Value} {ds : List (DataW H)} {ps : List MemPlace}, DataW.TrodAll enc P W 0 (fun _ => true) true ts vs ds ps → DataW.TrodAll enc P W' 0 (fun _ => true) true ts vs ds ps
  | [], [], [], _, h => h
  | _ :: _, _ :: _, _ :: _, _, ⟨p, q, ⟨n, h1⟩, h2, e⟩ => by
    refine ⟨p, q, ⟨n, DataW.trod_carry n _ _ _ h1 fun x hx => ?_⟩, trodAll_carry hb h2, e⟩
    have hlt := DataW.trod_lt n _ _ _ h1 x hx
    cases x with
    | cell b off => exact Below.cell hb (p := ⟨b, off, none⟩) hlt
    | map b => exact Below.block hb b hlt
/-- BEHIND A CALL THAT TURNED NOTHING AND ANSWERED true, THE ROW's LAST WORD. -/
theorem law_post {s : ChangeSpec} {f : Func} {args : Array Value} {ds : List (DataW H)} {before : List MemPlace} (hv : s.vars = []) (hfn : s.fn H (ds ++ []) = { results := [.lit (.bool true)], args := ds }) (hrt : f.resultTypes = #[4])
    (hT : ∀ t ∈ f.params.toList, t < Tryd.prog.types.size) (hW : DataW.Whole enc P f.params.toList s.vars false W args.toList ds [] before) (hb : Below W.heap.size W W') :
    s.post enc P f false true false false W args (.bool true) W' := by
  have hW0 := hW
  obtain ⟨p, q, hA, hV, rfl, _, _⟩ := hW
  rw [hv] at hV
  obtain ⟨_, rfl⟩ := trodVars_none hV
  have hlt := hA.lt
  refine ⟨ds, [], _, [], p, [], hW0, ?_, ?_, ?_, hb.frame _, fun h => by cases h⟩
  · rw [hfn, hrt]; exact trodAll_mk1 (shut_bool Tryd.underlying4 true)
  · rw [hfn]
    exact DataW.TrodAll.respare (kids_rows lidOut mapsR) slFull hT (trodAll_carry hb hA) (fun x hx => by simpa using hlt x hx)
  · rw [hv, hfn]; rfl
theorem tabs_of_laid (h : laidMet P [("unicode/utf8.acceptRanges", Lib.acceptData), ("unicode/utf8.first", Lib.firstData)] W) : Lib.Utf8Tabs 1 2 W :=
  utf8Tabs_of_reads (ρ := Tryd.lays197_ren) { Tryd.lays197 with } ⟨by kernel_rfl, by kernel_rfl, by kernel_rfl, by kernel_rfl, by kernel_rfl, by kernel_rfl, by kernel_rfl⟩ (Lib.laidMet.reads h (.tail _ (.head _))) (Lib.laidMet.reads h (.head _))
/-- From a contract to a call's word. -/
theorem calls_of {f : Nat} {us : List FV} {vs : List Value} (he : entersP P f = true) (hc : CallsF P G f us (bool true)) (hg : Lib.Utf8Tabs 1 2 W) (hv : FRelL W (fun b => b < W.heap.size) us vs) :
    Calls P f vs.toArray W fun e W' => e = .returned (.bool true) ∧ Below W.heap.size W W' := by
  have h := hc W (fun b => b < W.heap.size) vs hg (fun _ h => h) hv
  unfold CallY at h
  rw [run_enter he] at h
  simp only at h
  refine h.mono ?_
  rintro e w' ⟨v, rfl, hr, hx⟩
  simp only [FRel, bool] at hr
  subst hr
  exact ⟨rfl, hx.below⟩
theorem rd_list0 (n : Nat) (v : Value) (x : DataW H × List MemPlace) (h : DataW.trod enc P W 0 (fun _ => true) true n 22 [v] = some x) (hw : (DataW.weights P 22 x.1).all (· ≤ reachBytes) = true) :
    ∃ l : List V, FRel W (fun b => b < W.heap.size) (encI l) v ∧ (∀ x, x ∈ l → Fine x) ∧ l.length ≤ 2513169434843 := by
  rcases DataW.trod_slice Tryd.underlying22 h with ⟨e3, rfl⟩ | ⟨a, len, cap, elems, rest, m', rfl, e3, rfl, hba, hlc, hcm, hel, hget, _, _⟩
  · simp only [List.cons.injEq, and_true] at e3
    subst e3
    exact ⟨[], by simp [FRel, encI, cellsVs], by simp, by simp⟩
  · simp only [List.cons.injEq, and_true] at e3
    subst e3
    simp only [DataW.weights, Tryd.underlying22, List.all_cons, List.all_append, Bool.and_eq_true, decide_eq_true_eq, bOf_value, reachBytes, List.length_map] at hw
    obtain ⟨hbytes, hel2, _⟩ := hw
    have hb56 : elems.length * 56 ≤ 140737488351232 := Nat.le_trans (Nat.mul_le_mul_right _ (Nat.le_add_right _ _)) (by first | exact of_decide_eq_true hbytes | exact hbytes)
    rcases Nat.eq_zero_or_pos len with h0 | hpos
    · subst h0
      exact ⟨[], by simp [FRel, encI, cellsVs], by simp, by simp⟩
    · have hread : ∀ i, i < len → ∃ csi y, W.cells? 0 (a.add (i * 4)) 4 = some csi ∧ DataW.trod enc P W 0 (fun _ => true) true m' 24 csi = some y ∧ y ∈ elems := fun i hi => by
        have := hget i hi
        rw [List.getElem?_eq_getElem (by omega), cOf_value, Option.bind_eq_some_iff] at this
        obtain ⟨csi, g1, g2⟩ := this
        exact ⟨csi, _, g1, g2, List.getElem_mem _⟩
      have ha : a = ⟨a.block, a.off, none⟩ := by
        obtain ⟨csi, y, g1, _, _⟩ := hread 0 hpos
        simp only [Nat.zero_mul] at g1
        have hz : a.add 0 = a := by simp [Addr.add]
        rw [hz] at g1
        simp only [World.cells?, Nat.zero_le, if_true] at g1
        have hl := mapM_some_length g1
        have := mapM_some_get g1 0 0 (by simp)
        rw [hz, List.getElem?_eq_getElem (by rw [hl]; simp)] at this
        exact Go.Sx.cell_spot this
      have hel4 : ∀ i, i < len → ∃ v, Fine v ∧ FRelC W (fun b => b < W.heap.size) (cellsP v) a.block (a.off + i * 4) := fun i hi => by
        obtain ⟨csi, y, g1, g2, g3⟩ := hread i hi
        have hwy : (DataW.weights P 24 y.1).all (· ≤ reachBytes) = true := weights_mem _ _ hel2 _ (List.mem_map_of_mem g3)
        obtain ⟨v, h1, h2⟩ := rd_V m' csi y g2 hwy
        rw [ha, Addr.add_mid] at g1
        obtain ⟨g4, g5⟩ := cells4 g1
        exact ⟨v, h2, FRelC.of _ _ _ _ h1 g5⟩
      obtain ⟨l, h1, h2, h3⟩ := mkE len a.off hel4
      refine ⟨l, ?_, h2, by omega⟩
      simp only [FRel, encI]
      refine .inr ⟨a.block, a.off, cap, by rw [← ha, cellsVs_length, h1], by rw [cellsVs_length, h1]; exact hlc, ?_, h3⟩
      obtain ⟨csi, y, g1, _, _⟩ := hread 0 hpos
      rw [ha, Addr.add_mid] at g1
      obtain ⟨g4, g5⟩ := cells4 g1
      have q := World.block_lt_of_cell? W _ (g5 0 (csi[0]'(by omega)) (by rw [List.getElem?_eq_getElem (by omega)]))
      exact q
theorem rd_list {v : Value} {d : DataW H} {p : List MemPlace} (h : DataW.Trod enc P W 0 (fun _ => true) true 22 v d p) (hval : ∃ base, Value.okWide P W .any base 22 v) (hw : (DataW.weights P 22 d).all (· ≤ reachBytes) = true) :
    ∃ l : List V, FRel W (fun b => b < W.heap.size) (encI l) v ∧ (∀ x, x ∈ l → Fine x) ∧ l.length ≤ 2513169434843 := by
  obtain ⟨n, h⟩ := h
  obtain ⟨base, hval⟩ := hval
  have hcs : v.cells.toList = [v] := by
    simp only [Value.okWide, Tryd.underlying22, Cell.okWide, Cell.ok] at hval
    cases v <;> first | rfl | exact hval.elim
  rw [hcs] at h
  generalize hx : (d, p) = x at h
  have hw : (DataW.weights P 22 x.1).all (· ≤ reachBytes) = true := by rw [← hx]; exact hw
  exact rd_list0 n v x h hw
theorem rd_int {v : Value} {d : DataW H} {p : List MemPlace} (h : DataW.Trod enc P W 0 (fun _ => true) true 3 v d p) (hval : ∃ base, Value.okWide P W .any base 3 v) (hw : (DataW.weights P 3 d).all (· ≤ reachBytes) = true) :
    ∃ n : Int, FRel W (fun b => b < W.heap.size) (int n) v ∧ -9223372036854775808 ≤ n ∧ n ≤ 9223372036854775807 := by
  obtain ⟨n, h⟩ := h
  obtain ⟨base, hval⟩ := hval
  have hcs : v.cells.toList = [v] := by
    simp only [Value.okWide, Tryd.underlying3, Cell.okWide, Cell.ok] at hval
    cases v <;> first | rfl | exact hval.elim
  rw [hcs] at h
  obtain ⟨k, e0, _, w0⟩ := DataW.trod_int (k := .i64) Tryd.underlying3 h
  simp only [List.cons.injEq, and_true] at e0
  subst e0
  have b0 := bounds_i64 w0
  exact ⟨k, by simp [int, FRel], b0.1, b0.2⟩
end
end Go.Sx
set_option maxRecDepth 100000
set_option maxHeartbeats 4000000
set_option linter.unusedSimpArgs false
set_option linter.unusedVariables false
namespace Go.Sx
open Go.Proofs Sp
open Go.ChangeShapes Go.WideShapes Go.ChangeAt Go.RowKit
section
variable {H : Type} {enc : TypeId × Value → H} {W : World}
theorem cOf_pair : P.cellsOf 44 = 8 := by kernel_rfl
theorem bOf_pair : P.bytesOf 44 = 112 := by kernel_rfl
theorem mkEP {b : Nat} {ok : Nat → Prop} : ∀ (m o : Nat), (∀ i, i < m → ∃ q : V × V, (Fine q.1 ∧ Fine q.2) ∧ FRelC W ok (cellsP q.1 ++ cellsP q.2) b (o + i * 8)) → ∃ l : List (V × V), l.length = m ∧ (∀ x, x ∈ l → Fine x.1 ∧ Fine x.2) ∧ FRelE W ok 8 (cellsPs l) b o
  | 0, o, _ => ⟨[], rfl, by simp, by simp [cellsPs, FRelE]⟩
  | m + 1, o, h => by
    obtain ⟨v, h1, h2⟩ := h 0 (by omega)
    obtain ⟨l, h3, h4, h5⟩ := mkEP m (o + 8) (fun i hi => by
      obtain ⟨v, h1, h2⟩ := h (i + 1) (by omega)
      exact ⟨v, h1, by rwa [show o + 8 + i * 8 = o + (i + 1) * 8 from by omega]⟩)
    refine ⟨v :: l, by simp [h3], ?_, ?_⟩
    · intro x hx
      rcases List.mem_cons.1 hx with rfl | hx
      · exact h1
      · exact h4 x hx
    · simp only [cellsPs, FRelE]
      exact ⟨rfl, by simpa using h2, h5⟩
theorem rd_P (n : Nat) (cs : List Value) (x : DataW H × List MemPlace) (h : DataW.trod enc P W 0 (fun _ => true) true n 44 cs = some x) (hw : (DataW.weights P 44 x.1).all (· ≤ reachBytes) = true) :
    ∃ q : V × V, FRelL W (fun b => b < W.heap.size) (cellsP q.1 ++ cellsP q.2) cs ∧ Fine q.1 ∧ Fine q.2 := by
  obtain ⟨xs, m, rfl, rfl, hlen, hxl, hf⟩ := DataW.trod_struct Tryd.underlying44 h
  rw [cOf_pair] at hlen
  obtain ⟨x0, x1, rfl⟩ : ∃ a b, xs = [a, b] := by
    match xs, hxl with
    | [a, b], _ => exact ⟨a, b, rfl⟩
  have f0 : DataW.trod enc P W 0 (fun _ => true) true m 24 ((cs.drop 0).take (P.cellsOf 24)) = some x0 := hf 0 _ rfl
  have f1 : DataW.trod enc P W 0 (fun _ => true) true m 24 ((cs.drop (0 + P.cellsOf 24)).take (P.cellsOf 24)) = some x1 := hf 1 _ rfl
  rw [cOf_value] at f0 f1
  simp only [List.map_cons, List.map_nil, DataW.weights, Tryd.underlying44, DataW.weightsEach, List.append_nil, List.all_append, Bool.and_eq_true] at hw
  obtain ⟨w0, w1⟩ := hw
  obtain ⟨a, a1, a2⟩ := rd_V _ _ _ f0 w0
  obtain ⟨b, b1, b2⟩ := rd_V _ _ _ f1 w1
  refine ⟨(a, b), ?_, a2, b2⟩
  have h9 := FRelL.append _ _ _ _ a1 b1
  have e : (cs.drop 0).take 4 ++ (cs.drop (0 + 4)).take 4 = cs := by
    rw [List.drop_zero, Nat.zero_add, List.take_of_length_le (l := cs.drop 4) (by rw [List.length_drop]; omega), List.take_append_drop]
  rw [e] at h9
  exact h9
theorem rd_pairs0 (n : Nat) (v : Value) (x : DataW H × List MemPlace) (h : DataW.trod enc P W 0 (fun _ => true) true n 31 [v] = some x) (hw : (DataW.weights P 31 x.1).all (· ≤ reachBytes) = true) :
    ∃ l : List (V × V), FRel W (fun b => b < W.heap.size) (encPs l) v ∧ (∀ x, x ∈ l → Fine x.1 ∧ Fine x.2) ∧ l.length ≤ 1256584717421 := by
  rcases DataW.trod_slice Tryd.underlying31 h with ⟨e3, rfl⟩ | ⟨a, len, cap, elems, rest, m', rfl, e3, rfl, hba, hlc, hcm, hel, hget, _, _⟩
  · simp only [List.cons.injEq, and_true] at e3
    subst e3
    exact ⟨[], by simp [FRel, encPs, cellsPs], by simp, by simp⟩
  · simp only [List.cons.injEq, and_true] at e3
    subst e3
    simp only [DataW.weights, Tryd.underlying31, List.all_cons, List.all_append, Bool.and_eq_true, decide_eq_true_eq, bOf_pair, reachBytes, List.length_map] at hw
    obtain ⟨hbytes, hel2, _⟩ := hw
    have hb56 : elems.length * 112 ≤ 140737488351232 := Nat.le_trans (Nat.mul_le_mul_right _ (Nat.le_add_right _ _)) (by first | exact of_decide_eq_true hbytes | exact hbytes)
    rcases Nat.eq_zero_or_pos len with h0 | hpos
    · subst h0
      exact ⟨[], by simp [FRel, encPs, cellsPs], by simp, by simp⟩
    · have hread : ∀ i, i < len → ∃ csi y, W.cells? 0 (a.add (i * 8)) 8 = some csi ∧ DataW.trod enc P W 0 (fun _ => true) true m' 44 csi = some y ∧ y ∈ elems := fun i hi => by
        have := hget i hi
        rw [List.getElem?_eq_getElem (by omega), cOf_pair, Option.bind_eq_some_iff] at this
        obtain ⟨csi, g1, g2⟩ := this
        exact ⟨csi, _, g1, g2, List.getElem_mem _⟩
      have ha : a = ⟨a.block, a.off, none⟩ := by
        obtain ⟨csi, y, g1, _, _⟩ := hread 0 hpos
        simp only [Nat.zero_mul] at g1
        have hz : a.add 0 = a := by simp [Addr.add]
        rw [hz] at g1
        simp only [World.cells?, Nat.zero_le, if_true] at g1
        have hl := mapM_some_length g1
        have := mapM_some_get g1 0 0 (by simp)
        rw [hz, List.getElem?_eq_getElem (by rw [hl]; simp)] at this
        exact Go.Sx.cell_spot this
      have hel4 : ∀ i, i < len → ∃ q : V × V, (Fine q.1 ∧ Fine q.2) ∧ FRelC W (fun b => b < W.heap.size) (cellsP q.1 ++ cellsP q.2) a.block (a.off + i * 8) := fun i hi => by
        obtain ⟨csi, y, g1, g2, g3⟩ := hread i hi
        have hwy : (DataW.weights P 44 y.1).all (· ≤ reachBytes) = true := weights_mem _ _ hel2 _ (List.mem_map_of_mem g3)
        obtain ⟨v, h1, h2⟩ := rd_P m' csi y g2 hwy
        rw [ha, Addr.add_mid] at g1
        obtain ⟨g4, g5⟩ := cells4 g1
        exact ⟨v, h2, FRelC.of _ _ _ _ h1 g5⟩
      obtain ⟨l, h1, h2, h3⟩ := mkEP len a.off hel4
      refine ⟨l, ?_, h2, by omega⟩
      simp only [FRel, encPs]
      refine .inr ⟨a.block, a.off, cap, by rw [← ha, cellsPs_length, h1], by rw [cellsPs_length, h1]; exact hlc, ?_, h3⟩
      obtain ⟨csi, y, g1, _, _⟩ := hread 0 hpos
      rw [ha, Addr.add_mid] at g1
      obtain ⟨g4, g5⟩ := cells4 g1
      have q := World.block_lt_of_cell? W _ (g5 0 (csi[0]'(by omega)) (by rw [List.getElem?_eq_getElem (by omega)]))
      exact q
theorem rd_pairs {v : Value} {d : DataW H} {p : List MemPlace} (h : DataW.Trod enc P W 0 (fun _ => true) true 31 v d p) (hval : ∃ base, Value.okWide P W .any base 31 v) (hw : (DataW.weights P 31 d).all (· ≤ reachBytes) = true) :
    ∃ l : List (V × V), FRel W (fun b => b < W.heap.size) (encPs l) v ∧ (∀ x, x ∈ l → Fine x.1 ∧ Fine x.2) ∧ l.length ≤ 1256584717421 := by
  obtain ⟨n, h⟩ := h
  obtain ⟨base, hval⟩ := hval
  have hcs : v.cells.toList = [v] := by
    simp only [Value.okWide, Tryd.underlying31, Cell.okWide, Cell.ok] at hval
    cases v <;> first | rfl | exact hval.elim
  rw [hcs] at h
  generalize hx : (d, p) = x at h
  have hw : (DataW.weights P 31 x.1).all (· ≤ reachBytes) = true := by rw [← hx]; exact hw
  exact rd_pairs0 n v x h hw
end
end Go.Sx

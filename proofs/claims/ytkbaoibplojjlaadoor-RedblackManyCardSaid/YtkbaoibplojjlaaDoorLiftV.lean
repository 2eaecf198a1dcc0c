/-
  Proved: what some functions of the program answer, or a law of the evaluator that shows it, one theorem each; its conditions are the hypotheses that stand ahead of it.
-/
import Derived.Test.YtkbaoibplojjlaaDoorRdV
import Derived.Lib.LaidU8
import Derived.Below
import Derived.KernelRfl
set_option maxRecDepth 100000
set_option maxHeartbeats 4000000
set_option linter.unusedSimpArgs false
set_option linter.unusedVariables false
namespace Go.Sx
open Go.Proofs Sp
open Go.ChangeShapes Go.WideShapes Go.ChangeAt Go.RowKit
theorem lidOut : laidOutB Tryd.prog = true := by kernel_rfl
theorem mapsR : mapsRowed Tryd.prog = true := by kernel_rfl
theorem slFull : ∀ t e, t < Tryd.prog.types.size → Tryd.prog.underlying t = some (.slice e) → 0 < Tryd.prog.cellsOf e := slices_full_of _ (by kernel_rfl)
section
variable {H : Type} {enc : TypeId × Value → H} {W W' : World}
theorem trodAll_carry (hb : Below W.heap.size W W') : ∀ {ts : List TypeId} {vs : List Value} {ds : List (DataW H)} {ps : List MemPlace}, DataW.TrodAll enc P W 0 (fun _ => true) true ts vs ds ps → DataW.TrodAll enc P W' 0 (fun _ => true) true ts vs ds ps
  | [], [], [], _, h => h
  | _ :: _, _ :: _, _ :: _, _, ⟨p, q, ⟨n, h1⟩, h2, e⟩ => by
    refine ⟨p, q, ⟨n, DataW.trod_carry n _ _ _ h1 fun x hx => ?_⟩, trodAll_carry hb h2, e⟩
    have hlt := DataW.trod_lt n _ _ _ h1 x hx
    cases x with
    | cell b off => exact Below.cell hb (p := ⟨b, off, none⟩) hlt
    | map b => exact Below.block hb b hlt
/-- BEHIND A CALL THAT TURNED NOTHING AND ANSWERED true, THE ROW's LAST WORD. -/
theorem law_post {s : ChangeSpec} {f : Func} {args : Array Value} {ds : List (DataW H)} {before : List MemPlace} (hv : s.vars = []) (hfn : s.fn H (ds ++ []) = { results := [.lit (.bool true)], args := ds }) (hrt : f.resultTypes = #[4])
    (hT : ∀ t ∈ f.params.toList, t < Tryd.prog.types.size) (hW : DataW.Whole enc P f.params.toList s.vars false W args.toList ds [] before) (hb : Below W.heap.size W W') :
    s.post enc P f false true false false W args (.bool true) W' := by
  have hW0 := hW
  obtain ⟨p, q, hA, hV, rfl, _, _⟩ := hW
  rw [hv] at hV
  obtain ⟨_, rfl⟩ := trodVars_none hV
  have hlt := hA.lt
  refine ⟨ds, [], _, [], p, [], hW0, ?_, ?_, ?_, hb.frame _, fun h => by cases h⟩
  · rw [hfn, hrt]; exact trodAll_mk1 (shut_bool Tryd.underlying4 true)
  · rw [hfn]
    exact DataW.TrodAll.respare (kids_rows lidOut mapsR) slFull hT (trodAll_carry hb hA) (fun x hx => by simpa using hlt x hx)
  · rw [hv, hfn]; rfl
theorem tabs_of_laid (h : laidMet P [("unicode/utf8.acceptRanges", Lib.acceptData), ("unicode/utf8.first", Lib.firstData)] W) : Lib.Utf8Tabs 0 1 W :=
  utf8Tabs_of_reads (ρ := Tryd.lays197_ren) { Tryd.lays197 with } ⟨by kernel_rfl, by kernel_rfl, by kernel_rfl, by kernel_rfl, by kernel_rfl, by kernel_rfl, by kernel_rfl⟩ (Lib.laidMet.reads h (.tail _ (.head _))) (Lib.laidMet.reads h (.head _))
/-- From a contract to a call's word. -/
theorem calls_of {f : Nat} {us : List FV} {vs : List Value} (he : entersP P f = true) (hc : CallsF P G f us (bool true)) (hg : Lib.Utf8Tabs 0 1 W) (hv : FRelL W (fun b => b < W.heap.size) us vs) :
    Calls P f vs.toArray W fun e W' => e = .returned (.bool true) ∧ Below W.heap.size W W' := by
  have h := hc W (fun b => b < W.heap.size) vs hg (fun _ h => h) hv
  unfold CallY at h
  rw [run_enter he] at h
  simp only at h
  refine h.mono ?_
  rintro e w' ⟨v, rfl, hr, hx⟩
  simp only [FRel, bool] at hr
  subst hr
  exact ⟨rfl, hx.below⟩
theorem weights3 {a b c : TypeId} {x y z : DataW H} (h : (DataW.weightsEach P [a, b, c] [x, y, z]).all (· ≤ reachBytes) = true) :
    (DataW.weights P a x).all (· ≤ reachBytes) = true ∧ (DataW.weights P b y).all (· ≤ reachBytes) = true ∧ (DataW.weights P c z).all (· ≤ reachBytes) = true := by
  simp only [DataW.weightsEach, List.append_nil, List.all_append, Bool.and_eq_true] at h
  exact h
theorem weights1 {a : TypeId} {x : DataW H} (h : (DataW.weightsEach P [a] [x]).all (· ≤ reachBytes) = true) : (DataW.weights P a x).all (· ≤ reachBytes) = true := by
  simpa only [DataW.weightsEach, List.append_nil] using h
theorem rd_arg {v : Value} {d : DataW H} {p : List MemPlace} (h : DataW.Trod enc P W 0 (fun _ => true) true 31 v d p) (hval : ∃ base, Value.okWide P W .any base 31 v) (hw : (DataW.weights P 31 d).all (· ≤ reachBytes) = true) :
    ∃ x : V, FRel W (fun b => b < W.heap.size) (encV x) v ∧ Fine x := by
  obtain ⟨n, h⟩ := h
  obtain ⟨base, hval⟩ := hval
  obtain ⟨cs, rfl, _⟩ : ∃ cs, v = .agg cs ∧ cs.size = P.cellsOf 31 := by
    simp only [Value.okWide, Tryd.underlying31] at hval
    obtain ⟨cs, h1, h2, _⟩ := hval
    exact ⟨cs, h1, h2⟩
  obtain ⟨x, h1, h2⟩ := rd_V n _ _ h hw
  refine ⟨x, ?_, h2⟩
  simp only [FRel, encV]
  exact ⟨cs.toList, by simp, by simpa [Value.cells] using h1⟩
theorem rd_list {v : Value} {d : DataW H} {p : List MemPlace} (h : DataW.Trod enc P W 0 (fun _ => true) true 29 v d p) (hval : ∃ base, Value.okWide P W .any base 29 v) (hw : (DataW.weights P 29 d).all (· ≤ reachBytes) = true) :
    ∃ l : List V, FRel W (fun b => b < W.heap.size) (encI l) v ∧ (∀ x, x ∈ l → Fine x) ∧ l.length ≤ 2513169434843 := by
  obtain ⟨n, h⟩ := h
  obtain ⟨base, hval⟩ := hval
  have hcs : v.cells.toList = [v] := by
    simp only [Value.okWide, Tryd.underlying29, Cell.okWide, Cell.ok] at hval
    cases v <;> first | rfl | exact hval.elim
  rw [hcs] at h
  generalize hx : (d, p) = x at h
  have hw : (DataW.weights P 29 x.1).all (· ≤ reachBytes) = true := by rw [← hx]; exact hw
  rcases DataW.trod_slice Tryd.underlying29 h with ⟨e3, rfl⟩ | ⟨a, len, cap, elems, rest, m', rfl, e3, rfl, hba, hlc, hcm, hel, hget, _, _⟩
  · simp only [List.cons.injEq, and_true] at e3
    subst e3
    exact ⟨[], by simp [FRel, encI, cellsVs], by simp, by simp⟩
  · simp only [List.cons.injEq, and_true] at e3
    subst e3
    simp only [DataW.weights, Tryd.underlying29, List.all_cons, List.all_append, Bool.and_eq_true, decide_eq_true_eq, bOf_value, reachBytes, List.length_map] at hw
    obtain ⟨hbytes, hel2, _⟩ := hw
    have hb56 : elems.length * 56 ≤ 140737488351232 := Nat.le_trans (Nat.mul_le_mul_right _ (Nat.le_add_right _ _)) (by first | exact of_decide_eq_true hbytes | exact hbytes)
    rcases Nat.eq_zero_or_pos len with h0 | hpos
    · subst h0
      exact ⟨[], by simp [FRel, encI, cellsVs], by simp, by simp⟩
    · have hread : ∀ i, i < len → ∃ csi y, W.cells? 0 (a.add (i * 4)) 4 = some csi ∧ DataW.trod enc P W 0 (fun _ => true) true m' 31 csi = some y ∧ y ∈ elems := fun i hi => by
        have := hget i hi
        rw [List.getElem?_eq_getElem (by omega), cOf_value, Option.bind_eq_some_iff] at this
        obtain ⟨csi, g1, g2⟩ := this
        exact ⟨csi, _, g1, g2, List.getElem_mem _⟩
      have ha : a = ⟨a.block, a.off, none⟩ := by
        obtain ⟨csi, y, g1, _, _⟩ := hread 0 hpos
        simp only [Nat.zero_mul] at g1
        have hz : a.add 0 = a := by simp [Addr.add]
        rw [hz] at g1
        simp only [World.cells?, Nat.zero_le, if_true] at g1
        have hl := mapM_some_length g1
        have := mapM_some_get g1 0 0 (by simp)
        rw [hz, List.getElem?_eq_getElem (by rw [hl]; simp)] at this
        exact Go.Sx.cell_spot this
      have hel4 : ∀ i, i < len → ∃ v, Fine v ∧ FRelC W (fun b => b < W.heap.size) (cellsP v) a.block (a.off + i * 4) := fun i hi => by
        obtain ⟨csi, y, g1, g2, g3⟩ := hread i hi
        have hwy : (DataW.weights P 31 y.1).all (· ≤ reachBytes) = true := weights_mem _ _ hel2 _ (List.mem_map_of_mem g3)
        obtain ⟨v, h1, h2⟩ := rd_V m' csi y g2 hwy
        rw [ha, Addr.add_mid] at g1
        obtain ⟨g4, g5⟩ := cells4 g1
        exact ⟨v, h2, FRelC.of _ _ _ _ h1 g5⟩
      obtain ⟨l, h1, h2, h3⟩ := mkE len a.off hel4
      refine ⟨l, ?_, h2, by omega⟩
      simp only [FRel, encI]
      refine .inr ⟨a.block, a.off, cap, by rw [← ha, cellsVs_length, h1], by rw [cellsVs_length, h1]; exact hlc, ?_, h3⟩
      obtain ⟨csi, y, g1, _, _⟩ := hread 0 hpos
      rw [ha, Addr.add_mid] at g1
      obtain ⟨g4, g5⟩ := cells4 g1
      have q := World.block_lt_of_cell? W _ (g5 0 (csi[0]'(by omega)) (by rw [List.getElem?_eq_getElem (by omega)]))
      exact q
theorem rd_int {v : Value} {d : DataW H} {p : List MemPlace} (h : DataW.Trod enc P W 0 (fun _ => true) true 3 v d p) (hval : ∃ base, Value.okWide P W .any base 3 v) (hw : (DataW.weights P 3 d).all (· ≤ reachBytes) = true) :
    ∃ n : Int, FRel W (fun b => b < W.heap.size) (int n) v ∧ -9223372036854775808 ≤ n ∧ n ≤ 9223372036854775807 := by
  obtain ⟨n, h⟩ := h
  obtain ⟨base, hval⟩ := hval
  have hcs : v.cells.toList = [v] := by
    simp only [Value.okWide, Tryd.underlying3, Cell.okWide, Cell.ok] at hval
    cases v <;> first | rfl | exact hval.elim
  rw [hcs] at h
  obtain ⟨k, e0, _, w0⟩ := DataW.trod_int (k := .i64) Tryd.underlying3 h
  simp only [List.cons.injEq, and_true] at e0
  subst e0
  have b0 := bounds_i64 w0
  exact ⟨k, by simp [int, FRel], b0.1, b0.2⟩
end
end Go.Sx

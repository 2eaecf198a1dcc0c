/-
  Proved: what some functions of the program answer, or a law of the evaluator that shows it, one theorem each; its conditions are the hypotheses that stand ahead of it.
-/
import Derived.Test.YtdgodofdnaligaaDoorIns5
import Derived.Shelf.Spec.SlicesInsertGrow
import Derived.Test.YtdgodofdnaligaaDoorProg
import Derived.ProofKit
import Derived.Maps.AppendAt
import Derived.Test.YtdgodofdnaligaaDoorSxI
set_option linter.unusedVariables false
set_option linter.unusedSimpArgs false
set_option maxRecDepth 100000
set_option maxHeartbeats 4000000
namespace Go.Proofs
open Go.Shelf Go.RowKit Go.Lib Go.Sx
theorem delete_okE {G : Gr} (hG : G.strict = false) (es : List (List FV)) (i : Nat) (hi : i < es.length) (hn : es.length ≤ 1000000) (h1 : oneF es) : CallsW Tryd.prog G 46 51 9 es [.sc (.int .i64 (i : Int)), .sc (.int .i64 ((i + 1 : Nat) : Int))] (es.take i ++ es.drop (i + 1)) none := by
  intro w ok v xs vs _ hok _ hown hfr hlens hvs
  simp only [FRelL, FRel] at hvs
  obtain ⟨u1, r1, rfl, rfl, u2, r2, rfl, rfl, rfl⟩ := hvs
  have honx : ∀ u ∈ xs, u.oneCell' = true := FRelL.oneCell _ _ h1 hfr
  have hxl : xs.length = es.length * 9 := hown.1
  have hfl : ((es.take i).flatten).length = i * 9 := by rw [flat_len9 _ fun x hx => hlens x (List.mem_of_mem_take hx), List.length_take, Nat.min_eq_left (by omega)]
  have hfl2 : ((es.take (i + 1)).flatten).length = (i + 1) * 9 := by rw [flat_len9 _ fun x hx => hlens x (List.mem_of_mem_take hx), List.length_take, Nat.min_eq_left (by omega)]
  have hsp := FRelL.split (es.take i).flatten (es.drop i).flatten xs (by rw [← List.flatten_append, List.take_append_drop]; exact hfr)
  have hsp2 := FRelL.split (es.take (i + 1)).flatten (es.drop (i + 1)).flatten xs (by rw [← List.flatten_append, List.take_append_drop]; exact hfr)
  rw [hfl] at hsp
  rw [hfl2] at hsp2
  have hnew : FRelL w ok (es.take i ++ es.drop (i + 1)).flatten (xs.take (i * 9) ++ xs.drop ((i + 1) * 9)) := by
    rw [List.flatten_append]
    exact FRelL.append _ _ _ _ hsp.1 hsp2.2
  have hle : ∀ x ∈ es.take i ++ es.drop (i + 1), x.length = 9 := fun x hx => by
    simp only [List.mem_append] at hx
    rcases hx with hx | hx
    · exact hlens x (List.mem_of_mem_take hx)
    · exact hlens x (List.mem_of_mem_drop hx)
  have hlen' : (es.take i ++ es.drop (i + 1)).length = es.length - 1 := by simp only [List.length_append, List.length_take, List.length_drop]; omega
  unfold CallY
  rw [run_enter (show entersP Tryd.prog 46 = true by kernel_rfl)]
  simp only
  rcases hown.2 with ⟨rfl, h0⟩ | ⟨g, cap, cur, rfl, hbg, hb, hnc, hcm, hcur, htake⟩
  · omega
  · have hc63 : cap ≤ 9223372036854775807 := by unfold maxLen at hcm; omega
    by_cases hc1 : cap = i + 1
    · have hen : es.length = i + 1 := by omega
      subst hc1
      rw [hen] at htake ⊢
      refine (del_full g i 51 cur xs w (by omega) hb hcur htake).mono ?_
      rintro e w' ⟨rfl, row, rfl, r1, r2⟩
      have e1 : xs.take (i * 9) ++ xs.drop ((i + 1) * 9) = xs.take (i * 9) := by rw [List.drop_eq_nil_of_le (by omega), List.append_nil]
      rw [e1] at hnew
      rw [hen] at hok
      refine ⟨_, rfl, row_post hG hok ⟨rfl, rfl, rfl, by simp only [World.setRow, Array.size_modify]; exact Nat.le_refl _, fun k hk hx => setRow_other w.drew g k row fun e => hx (by simp [Value.ownBlock, e])⟩ (.inl rfl) ⟨?_, .inr ⟨g, i + 1, row, by rw [hlen', hen, Nat.add_sub_cancel], hbg, setRow_heap w.drew g cur row 51 _ hb, by rw [hlen', hen]; omega, hcm, r1, by rw [hlen', hen, Nat.add_sub_cancel]; exact r2⟩⟩ hnew hle⟩
      rw [hlen', hen, List.length_take]; omega
    · refine (del_one g es.length cap i 51 cur xs w hi hnc hn hc63 hc1 hb hcur htake honx).mono ?_
      rintro e w' ⟨rfl, row, rfl, r1, r2⟩
      refine ⟨_, rfl, row_post hG hok ⟨rfl, rfl, rfl, by simp only [World.setRow, Array.size_modify]; exact Nat.le_refl _, fun k hk hx => setRow_other w.drew g k row fun e => hx (by simp [Value.ownBlock, e])⟩ (.inl rfl) ⟨?_, .inr ⟨g, cap, row, by rw [hlen'], hbg, setRow_heap w.drew g cur row 51 _ hb, by rw [hlen']; omega, hcm, r1, by rw [hlen']; exact r2⟩⟩ hnew hle⟩
      rw [hlen']; simp only [List.length_append, List.length_take, List.length_drop, hxl]; omega
end Go.Proofs
set_option linter.unusedVariables false
set_option linter.unusedSimpArgs false
set_option maxRecDepth 100000
set_option maxHeartbeats 4000000
namespace Go.Proofs
open Go.Shelf Go.RowKit Go.Lib Go.Sx
theorem ins_shiftP (g n c i vb vo vc : Nat) (et : TypeId) (cur : Array Value) (cs vs : List Value) (w : World) (hi : i < n) (hroom : n + 1 ≤ c) (hc63 : c ≤ 9223372036854775807) (hb : w.heap[g]? = some (.cells cur et (0, 0))) (hcur : cur.size = c) (hcs : cur.toList.take (n) = cs)
    (hvb : vb ≠ g) (hvl : vs.length = 1) (hvs : ∀ j v, vs[j]? = some v → w.cell? ⟨vb, vo + j, none⟩ = some v) (h1c : ∀ v ∈ cs, v.oneCell' = true) (h1v : ∀ v ∈ vs, v.oneCell' = true) :
    Calls Tryd.prog 60 #[.slice (some ⟨g, 0, none⟩) n c, .int .i64 i, .slice (some ⟨vb, vo, none⟩) 1 vc] w fun e w' =>
      e = .returned (.slice (some ⟨g, 0, none⟩) (n + 1) c) ∧ ∃ row : Array Value, w' = w.drew.setRow g row ∧ row.size = c ∧ row.toList.take ((n + 1)) = cs.take (i) ++ vs ++ cs.drop (i) := by
  have hcl : cs.length = n := by rw [← hcs, List.length_take, Array.length_toList]; omega
  have hsz : (Tryd.prog.info? 53).map (·.size) = some 1 := by kernel_rfl
  have hz2 : ¬ ((i : Int) = (n : Int)) := by omega
  have hw1 : IntKind.i64.wrap ((i : Int) + (1 : Int)) = (i : Int) + (1 : Int) := by rw [IntKind.wrap_i64]; omega
  have hw2 : IntKind.i64.wrap ((n : Int) + (1 : Int)) = (n : Int) + (1 : Int) := by rw [IntKind.wrap_i64]; omega
  have hb1 : (0 : Int) ≤ (i : Int) + (1 : Int) := by omega
  have hin : i ≤ n := by omega
  have htn : ((i : Int) + (1 : Int)).toNat = i + 1 := by omega
  have hb2 : ¬ (c = i + 1) := by omega
  have hb3 : (i : Int) ≤ (n : Int) + (1 : Int) := by omega
  have hb4 : ¬ (c = i) := by omega
  have hv0 : ∃ v, w.cell? ⟨vb, vo, none⟩ = some v := by
    obtain ⟨v, hv⟩ : ∃ v, vs[0]? = some v := ⟨vs[0], List.getElem?_eq_getElem (by omega)⟩
    exact ⟨v, by simpa using hvs 0 v hv⟩
  obtain ⟨v0, hv0⟩ := hv0
  have hov : ∀ lb cb, (callFunc 71 #[.slice (some ⟨vb, vo, none⟩) 1 vc, .slice (some ⟨g, (i + 1), none⟩) lb cb]).run Tryd.prog w = .ok (.value (.bool false)) w := fun lb cb => by
    rw [run_callFunc_extern Tryd.func71 (by kernel_rfl) (by kernel_rfl) (by kernel_rfl) (e := Extern.SlicesOverlaps.overlaps #[59, 59] #[4]) (by kernel_rfl),
      run_overlaps_own w 59 4 53 (by kernel_rfl) 1 Tryd.sizeOf53 ⟨vb, vo, none⟩ ⟨g, (i + 1), none⟩ 1 vc lb cb hvb v0 hv0 cur et hb]
    rfl
  have mixed : Tryd.prog.follows .mixedOrders = true := by kernel_rfl
  have hcl' : cur.toList.length = c := by rw [Array.length_toList]; exact hcur
  have hat : ∀ (W : World), W.heap[g]? = some (.cells cur et (0, 0)) → ∀ j v, cs[j]? = some v → W.cell? ⟨g, j, none⟩ = some v := fun W hW j v hj => by
    rw [← hcs, List.getElem?_take] at hj
    split at hj
    · simp only [World.cell?, hW, Option.isSome_none, Bool.false_eq_true, if_false]
      rw [← Array.getElem?_toList]; exact hj
    · cases hj
  have hdl : (cs.drop (i)).length = (n - i) := by rw [List.length_drop, hcl]
  obtain ⟨row1, hr1⟩ : ∃ row1 : Array Value, row1 = (cur.toList.take ((i + 1)) ++ cs.drop (i) ++ cur.toList.drop ((i + 1) + (cs.drop (i)).length)).toArray := ⟨_, rfl⟩
  have hbd : w.drew.heap[g]? = some (.cells cur et (0, 0)) := hb
  have hcp1 : ∀ ty dc sc, (Builtin.copy_ #[59, 59] ty #[.slice (some ⟨g, (i + 1), none⟩) (n - i) dc, .slice (some ⟨g, i, none⟩) (n + 1 - i) sc]).run Tryd.prog w.drew = .ok (goInt (Nat.min (n + 1 - i) (n - i))) (w.drew.setRow g row1) := fun ty dc sc => by
    rw [hr1]
    exact run_copyRowK w.drew 59 59 ty 53 1 g ((i + 1)) (n - i) dc ⟨g, i, none⟩ (n + 1 - i) sc cur et (cs.drop (i)) (by kernel_rfl) hsz hbd (by rw [hdl]; congr 1; simp only [Nat.min_def]; split <;> omega)
      (fun j v hj => by rw [Addr.add_lit]; exact hat _ hbd _ v (by rwa [List.getElem?_drop] at hj)) (by rw [hdl, hcur]; omega) (fun v hv => h1c v (List.mem_of_mem_drop hv))
  have hr1l : row1.size = c := by
    simp only [hr1, List.size_toArray, List.length_append, List.length_take, List.length_drop, hcl', hcl]; omega
  have hb1' : ∀ W : World, W = w.drew.setRow g row1 → W.heap[g]? = some (.cells row1 et (0, 0)) := fun W hW => by rw [hW]; exact setRow_heap w.drew g cur row1 et _ hbd
  have hvs1 : ∀ j v, vs[j]? = some v → (w.drew.setRow g row1).cell? ⟨vb, vo + j, none⟩ = some v := fun j v hj => by
    rw [cell_setRow_other _ _ _ _ hvb]; exact hvs j v hj
  have hcp2 : ∀ ty dc, (Builtin.copy_ #[59, 59] ty #[.slice (some ⟨g, i, none⟩) (n + 1 - i) dc, .slice (some ⟨vb, vo, none⟩) 1 vc]).run Tryd.prog (w.drew.setRow g row1) = .ok (goInt (Nat.min 1 (n + 1 - i))) ((w.drew.setRow g row1).setRow g (row1.toList.take (i) ++ vs ++ row1.toList.drop (i + vs.length)).toArray) := fun ty dc =>
    run_copyRowK _ 59 59 ty 53 1 g (i) (n + 1 - i) dc ⟨vb, vo, none⟩ 1 vc row1 et vs (by kernel_rfl) hsz (hb1' _ rfl) (by rw [hvl]; simp only [Nat.min_def]; split <;> omega)
      (fun j v hj => by rw [Addr.add_lit]; exact hvs1 j v hj) (by rw [hvl, hr1l]; omega) h1v
  have hfin : (row1.toList.take (i) ++ vs ++ row1.toList.drop (i + vs.length)).take ((n + 1)) = cs.take (i) ++ vs ++ cs.drop (i) := by
    have a1 : row1.toList.take (i) = cs.take (i) := by
      rw [hr1, List.append_assoc, List.take_append_of_le_length (by rw [List.length_take, hcl']; omega), List.take_take, ← hcs, List.take_take]
      congr 1; omega
    have a2 : row1.toList.drop (i + vs.length) = cs.drop (i) ++ cur.toList.drop ((i + 1) + (cs.drop (i)).length) := by
      rw [hr1, List.append_assoc, hvl, List.drop_append_of_le_length (by rw [List.length_take, hcl']; omega), List.drop_eq_nil_of_le (by rw [List.length_take, hcl']; omega), List.nil_append]
    rw [a1, a2, ← List.append_assoc, List.take_append_of_le_length (by simp only [List.length_append, List.length_take, List.length_drop, hcl, hvl]; omega), List.take_of_length_le (by simp only [List.length_append, List.length_take, List.length_drop, hcl, hvl]; omega)]
  clear hr1
  go_enter Tryd.func60, Tryd.ntmps60
  go_wp2_with (simp only [hov])
  go_region_law_o (refine step_copy_runI rfl _ _ 59 59 rfl _ _ (by simp [Act.eval, Act.put]) (by simp [Act.eval, Act.put]) (hcp1 _ _ _) ?_)
  go_wp2_with (at_builtin; refine wpList_copy_runI _ rfl _ _ 59 59 rfl _ _ rfl rfl (hcp2 _ _) ?_)
  go_ret
  refine ⟨rfl, _, setRow_setRow _ _ _ _, ?_, ?_⟩
  · simp only [List.size_toArray, List.length_append, List.length_take, List.length_drop, hvl, Array.length_toList, hr1l]; omega
  · have h := hfin
    rw [hvl] at h
    simpa only [List.append_assoc, List.toList_toArray] using h
end Go.Proofs
set_option linter.unusedVariables false
set_option linter.unusedSimpArgs false
set_option maxRecDepth 100000
set_option maxHeartbeats 4000000
namespace Go.Proofs
open Go.Shelf Go.RowKit Go.Lib Go.Sx
theorem ins_growP (g n c i vb vo vc : Nat) (et : TypeId) (cur : Array Value) (cs vs : List Value) (w : World) (hi : i < n) (hnc : n ≤ c) (hroom : c < n + 1) (hbig : n ≤ 1000000) (hb : w.heap[g]? = some (.cells cur et (0, 0))) (hcur : cur.size = c) (hcs : cur.toList.take (n) = cs)
    (hvb : vb ≠ g) (hvl : vs.length = 1) (hvs : ∀ j v, vs[j]? = some v → w.cell? ⟨vb, vo + j, none⟩ = some v) (h1c : ∀ v ∈ cs, v.oneCell' = true) (h1v : ∀ v ∈ vs, v.oneCell' = true) :
    Calls Tryd.prog 60 #[.slice (some ⟨g, 0, none⟩) n c, .int .i64 i, .slice (some ⟨vb, vo, none⟩) 1 vc] w fun e w' =>
      ∃ G : Nat, ∃ ROW row : Array Value, e = .returned (.slice (some ⟨w.heap.size, 0, none⟩) (n + 1) G) ∧ n + 1 ≤ G ∧ G ≤ maxLen ∧ w' = ((w.alloc (.cells ROW 53)).drew.drew).setRow w.heap.size row ∧ row.size = G ∧ row.toList.take ((n + 1)) = cs.take (i) ++ vs ++ cs.drop (i) := by
  have hcl : cs.length = n := by rw [← hcs, List.length_take, Array.length_toList]; omega
  have hsz : (Tryd.prog.info? 53).map (·.size) = some 1 := by kernel_rfl
  obtain ⟨i0, hi0, hzs, hzb⟩ : ∃ i0, Tryd.prog.info? 53 = some i0 ∧ i0.size = 1 ∧ i0.bytes = 8 := by
    have h : (Tryd.prog.info? 53).map (fun i => (i.size, i.bytes)) = some (1, 8) := by kernel_rfl
    obtain ⟨i0, h1, h2⟩ := Option.map_eq_some_iff.1 h
    simp only [Prod.mk.injEq] at h2
    exact ⟨i0, h1, h2.1, h2.2⟩
  obtain ⟨z, hz0, hzc⟩ : ∃ z, i0.zero = some z ∧ z.cells.size = 1 := by
    have h : (Tryd.prog.info? 53).map (fun i => i.zero.map fun z => z.cells.size) = some (some 1) := by kernel_rfl
    rw [hi0] at h
    simp only [Option.map_some, Option.some.injEq] at h
    obtain ⟨z, h1, h2⟩ := Option.map_eq_some_iff.1 h
    exact ⟨z, h1, h2⟩
  have mixed : Tryd.prog.follows .mixedOrders = true := by kernel_rfl
  have hz2 : ¬ ((i : Int) = (n : Int)) := by omega
  have hz3 : (c : Int) < (n : Int) + (1 : Int) := by omega
  have hgw : g < w.heap.size := (Array.getElem?_eq_some_iff.1 hb).1
  have hvw : vb < w.heap.size := by
    have h := hvs 0 vs[0] (List.getElem?_eq_getElem (by omega))
    exact block_lt_of_cell h
  have hcl' : cur.toList.length = c := by rw [Array.length_toList]; exact hcur
  have hat : ∀ (W : World), W.heap[g]? = some (.cells cur et (0, 0)) → ∀ j v, cs[j]? = some v → W.cell? ⟨g, j, none⟩ = some v := fun W hW j v hj => by
    rw [← hcs, List.getElem?_take] at hj
    split at hj
    · simp only [World.cell?, hW, Option.isSome_none, Bool.false_eq_true, if_false]
      rw [← Array.getElem?_toList]; exact hj
    · cases hj
  have hkk : (n : Int) + (1 : Int) - (i : Int) = ((n + 1 - i : Nat) : Int) := by omega
  have hik : i + (n + 1 - i) = n + 1 := by omega
  have hold : (Builtin.firstCells i0.size i (.slice (some ⟨g, 0, none⟩) i c)).run Tryd.prog w.drew = .ok (cs.take (i)).toArray w.drew := by
    rw [hzs]
    exact run_firstCells_some w.drew 1 i ⟨g, 0, none⟩ i c (cs.take (i)) (by rw [List.length_take]; omega) (fun j v hj => by
      rw [Addr.add_lit, Nat.zero_add]
      rw [List.getElem?_take] at hj
      split at hj
      · exact hat _ hb j v hj
      · cases hj)
  have hrz : ∀ ty, (Builtin.append_ #[59, 3] ty #[.slice (some ⟨g, 0, none⟩) i c, .int .i64 ((n : Int) + (1 : Int) - (i : Int))]).run Tryd.prog w =
      .ok (.slice (some ⟨w.heap.size, 0, none⟩) (n + 1) (grownCap w (n + 1) c 53)) (w.drew.alloc (.cells ((cs.take (i)).toArray ++ Builtin.zeroCells z.cells (n + 1 - i) ++ Builtin.zeroCells z.cells (grownCap w (n + 1) c 53 - (n + 1))) 53)) := fun ty => by
    have h := Lib.run_append_grow_zeros w 59 3 ty 53 i0 z .i64 .i64 (by kernel_rfl) (by kernel_rfl) hi0 hz0 (some ⟨g, 0, none⟩) i c (cs.take (i)) hold (n + 1 - i) (by omega) (by omega) (by omega) (by omega) (by rw [hzb]; omega) (by rw [hzb, hik]; exact growslice_fits hroom (by omega))
    rw [hik] at h
    rw [hkk]
    exact h
  obtain ⟨G, hG⟩ : ∃ G, G = grownCap w (n + 1) c 53 := ⟨_, rfl⟩
  obtain ⟨ROW, hROW⟩ : ∃ ROW : Array Value, ROW = (cs.take (i)).toArray ++ Builtin.zeroCells z.cells (n + 1 - i) ++ Builtin.zeroCells z.cells (G - (n + 1)) := ⟨_, rfl⟩
  rw [← hG] at hrz
  rw [← hROW] at hrz
  have hGn : n + 1 ≤ G := by rw [hG]; exact grownCap_ge w _ _ _
  have hGm : G ≤ maxLen := by
    rw [hG]; exact grownCap_le_maxLen w (n + 1) c 53 (by unfold maxLen; omega)
  have hG63 : G ≤ 9223372036854775807 := by unfold maxLen at hGm; omega
  have hRl : ROW.size = G := by
    rw [hROW]
    simp only [Array.size_append, List.size_toArray, List.length_take, size_zeroCells, hzc, hcl]
    omega
  have hRt : ROW.toList.take (i) = cs.take (i) := by
    rw [hROW]
    simp only [Array.toList_append, List.append_assoc, List.toList_toArray]
    rw [List.take_append_of_le_length (by rw [List.length_take]; omega), List.take_take, Nat.min_self]
  obtain ⟨N, hN⟩ : ∃ N, N = w.heap.size := ⟨_, rfl⟩
  obtain ⟨W1, hW1⟩ : ∃ W1, W1 = w.drew.alloc (.cells ROW 53) := ⟨_, rfl⟩
  have hb1 : W1.heap[w.heap.size]? = some (.cells ROW 53 (0, 0)) := by
    rw [hW1, show (w.drew.alloc (.cells ROW 53)).heap = w.heap.push (.cells ROW 53) from rfl, Array.getElem?_push_size]
  have hOc : ∀ j v, cs[j]? = some v → W1.cell? ⟨g, j, none⟩ = some v := fun j v h => by rw [hW1, World.cell?_alloc_past (w := w.drew) _ g j hgw]; exact hat _ hb j v h
  have hOv : ∀ j v, vs[j]? = some v → W1.cell? ⟨vb, vo + j, none⟩ = some v := fun j v h => by rw [hW1, World.cell?_alloc_past (w := w.drew) _ vb _ hvw]; exact hvs j v h
  obtain ⟨r1, hr1⟩ : ∃ r1 : Array Value, r1 = (ROW.toList.take (i) ++ vs ++ ROW.toList.drop (i + vs.length)).toArray := ⟨_, rfl⟩
  have hRL : ROW.toList.length = G := by rw [Array.length_toList]; exact hRl
  have hr1l : r1.size = G := by
    simp only [hr1, List.size_toArray, List.length_append, List.length_take, List.length_drop, hRL, hvl]; omega
  have hcpA : ∀ ty dc, (Builtin.copy_ #[59, 59] ty #[.slice (some ⟨w.heap.size, i, none⟩) (n + 1 - i) dc, .slice (some ⟨vb, vo, none⟩) 1 vc]).run Tryd.prog W1 = .ok (goInt (Nat.min 1 (n + 1 - i))) (W1.setRow w.heap.size r1) := fun ty dc => by
    rw [hr1]
    exact run_copyRowK W1 59 59 ty 53 1 w.heap.size (i) (n + 1 - i) dc ⟨vb, vo, none⟩ 1 vc ROW 53 vs (by kernel_rfl) hsz hb1 (by rw [hvl]; simp only [Nat.min_def]; split <;> omega)
      (fun j v hj => by rw [Addr.add_lit]; exact hOv j v hj) (by rw [hvl, hRl]; omega) h1v
  have hdl : (cs.drop (i)).length = (n - i) := by rw [List.length_drop, hcl]
  obtain ⟨r2, hr2⟩ : ∃ r2 : Array Value, r2 = (r1.toList.take ((i + 1)) ++ cs.drop (i) ++ r1.toList.drop ((i + 1) + (cs.drop (i)).length)).toArray := ⟨_, rfl⟩
  have hr1L : r1.toList.length = G := by rw [Array.length_toList]; exact hr1l
  have hr2l : r2.size = G := by
    simp only [hr2, List.size_toArray, List.length_append, List.length_take, List.length_drop, hr1L, hcl]; omega
  have hgN : g ≠ w.heap.size := by omega
  have hcpB : ∀ ty dc sc, (Builtin.copy_ #[59, 59] ty #[.slice (some ⟨w.heap.size, (i + 1), none⟩) (n - i) dc, .slice (some ⟨g, i, none⟩) (n - i) sc]).run Tryd.prog (W1.setRow w.heap.size r1).drew = .ok (goInt (Nat.min (n - i) (n - i))) ((W1.setRow w.heap.size r1).drew.setRow w.heap.size r2) := fun ty dc sc => by
    rw [hr2]
    exact run_copyRowK _ 59 59 ty 53 1 w.heap.size ((i + 1)) (n - i) dc ⟨g, i, none⟩ (n - i) sc r1 53 (cs.drop (i)) (by kernel_rfl) hsz (setRow_heap W1 w.heap.size ROW r1 53 _ hb1) (by rw [hdl]; congr 1; simp only [Nat.min_def]; split <;> omega)
      (fun j v hj => by
        rw [Addr.add_lit]
        show (W1.setRow w.heap.size r1).cell? _ = some v
        rw [cell_setRow_other _ _ _ _ hgN]; exact hOc _ v (by rwa [List.getElem?_drop] at hj)) (by rw [hdl, hr1l]; omega) (fun v hv => h1c v (List.mem_of_mem_drop hv))
  have hfin : r2.toList.take ((n + 1)) = cs.take (i) ++ vs ++ cs.drop (i) := by
    have a1 : r1.toList.take ((i + 1)) = cs.take (i) ++ vs := by
      rw [hr1, hRt]
      simp only [List.toList_toArray]
      rw [List.take_append_of_le_length (by simp only [List.length_append, List.length_take, hcl, hvl]; omega), List.take_of_length_le (by simp only [List.length_append, List.length_take, hcl, hvl]; omega)]
    rw [hr2, a1]
    simp only [List.toList_toArray]
    rw [List.take_append_of_le_length (by simp only [List.length_append, List.length_take, List.length_drop, hcl, hvl]; omega), List.take_of_length_le (by simp only [List.length_append, List.length_take, List.length_drop, hcl, hvl]; omega)]
  rw [← hW1] at hrz
  have hend : (W1.setRow w.heap.size r1).drew.setRow w.heap.size r2 = ((w.alloc (.cells ROW 53)).drew.drew).setRow w.heap.size r2 := by
    rw [hW1]; exact setRow_setRow ((w.alloc (.cells ROW 53)).drew.drew) w.heap.size r1 r2
  have hGi : ¬ (G = i) := by omega
  have hGim : ¬ (G = i + 1) := by omega
  have hci : ¬ (c = i) := by omega
  have hw1 : IntKind.i64.wrap ((i : Int) + (1 : Int)) = (i : Int) + (1 : Int) := by rw [IntKind.wrap_i64]; omega
  have hb1' : (0 : Int) ≤ (i : Int) + (1 : Int) := by omega
  have hin : i ≤ n := by omega
  have htn : ((i : Int) + (1 : Int)).toNat = i + 1 := by omega
  have hb3 : (i : Int) ≤ (n : Int) := by omega
  clear hkk hik hold hROW hG hRl hr1 hr2 hRt hW1 hN
  go_enter Tryd.func60, Tryd.ntmps60
  go_wp2_with (first
    | (at_builtin; refine Lib.wpList_append_run _ rfl _ _ _ _ rfl _ _ rfl rfl _ _ (hrz _) ?_)
    | (at_builtin; refine wpList_copy_runI _ rfl _ _ 59 59 rfl _ _ rfl rfl (hcpA _ _) ?_))
  go_region_law_o (refine step_copy_runI rfl _ _ 59 59 rfl _ _ (by simp [Act.eval, Act.put]) (by simp [Act.eval, Act.put]) (hcpB _ _ _) ?_)
  go_wp2
  go_ret
  first | exact ⟨G, ROW, r2, rfl, hGn, hGm, rfl, hr2l, hfin⟩ | exact ⟨G, ROW, r2, rfl, hGn, hGm, hend, hr2l, hfin⟩
end Go.Proofs
set_option linter.unusedVariables false
set_option linter.unusedSimpArgs false
set_option maxRecDepth 100000
set_option maxHeartbeats 4000000
namespace Go.Proofs
open Go.Shelf Go.RowKit Go.Lib Go.Sx
theorem infoP : ∃ i0 z, Tryd.prog.info? 53 = some i0 ∧ i0.size = 1 ∧ i0.bytes = 8 ∧ i0.zero = some z ∧ z.cells.size = 1 := by
  have h : (Tryd.prog.info? 53).map (fun i => (i.size, i.bytes)) = some (1, 8) := by kernel_rfl
  obtain ⟨i0, h1, h2⟩ := Option.map_eq_some_iff.1 h
  simp only [Prod.mk.injEq] at h2
  have h3 : (Tryd.prog.info? 53).map (fun i => i.zero.map fun z => z.cells.size) = some (some 1) := by kernel_rfl
  rw [h1] at h3
  simp only [Option.map_some, Option.some.injEq] at h3
  obtain ⟨z, h4, h5⟩ := Option.map_eq_some_iff.1 h3
  exact ⟨i0, z, h1, h2.1, h2.2, h4, h5⟩
theorem ins_endP (n vb vo vc : Nat) (v : Value) (xs vs : List Value) (w : World) (hn : n ≤ 1000000) (hown : w.ownsRow 0 53 1 v n xs) (hvl : vs.length = 1) (hvs : ∀ j u, vs[j]? = some u → w.cell? ⟨vb, vo + j, none⟩ = some u) (h1v : ∀ u ∈ vs, u.oneCell' = true) :
    Calls Tryd.prog 60 #[v, .int .i64 n, .slice (some ⟨vb, vo, none⟩) 1 vc] w fun e w' =>
      ∃ v', e = .returned v' ∧ w'.ownsRow 0 53 1 v' (n + 1) (xs ++ vs) ∧ w.grownBy w' v.ownBlock ∧ (v'.ownBlock = v.ownBlock ∨ v'.ownBlock = some w.heap.size) := by
  obtain ⟨i0, z, hi0, hzs, hzb, hz0, hzc⟩ := infoP
  obtain ⟨v', w', hr, h1, h2, h3, h4⟩ := run_append_own_at (P := Tryd.prog) w 0 59 59 53 i0 z 1 8 (by kernel_rfl) hi0 hz0 hzs hzb hzc (by omega) v n xs hown ⟨vb, vo, none⟩ 1 vc vs hvl (fun j u hj => by rw [Addr.add_lit]; exact hvs j u hj) h1v (by unfold maxLen; omega) (by omega) (Nat.zero_le _)
  rcases hown.2 with ⟨rfl, rfl⟩ | ⟨g, cap, cur, rfl, hbg, hg, hnc, hcm, hcs, htake⟩
  · go_enter Tryd.func60, Tryd.ntmps60
    go_wp2_with (at_builtin; refine Lib.wpList_append_run _ rfl _ _ _ _ rfl _ _ rfl rfl _ _ hr ?_)
    go_ret
    exact ⟨v', rfl, h1, h2, h4⟩
  · have hb4 : (n : Int) ≤ (n : Int) := Int.le_refl _
    go_enter Tryd.func60, Tryd.ntmps60
    go_wp2_with (at_builtin; refine Lib.wpList_append_run _ rfl _ _ _ _ rfl _ _ rfl rfl _ _ hr ?_)
    all_goals (go_ret; exact ⟨v', rfl, h1, h2, h4⟩)
end Go.Proofs
set_option linter.unusedVariables false
set_option linter.unusedSimpArgs false
set_option maxRecDepth 100000
set_option maxHeartbeats 4000000
namespace Go.Proofs
open Go.Shelf Go.RowKit Go.Lib Go.Sx
end Go.Proofs

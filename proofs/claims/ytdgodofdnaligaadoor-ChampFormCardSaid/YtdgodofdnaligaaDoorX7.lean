/-
  Proved: what some functions of the program answer, or a law of the evaluator that shows it, one theorem each; its conditions are the hypotheses that stand ahead of it.
-/
import Derived.Test.YtdgodofdnaligaaDoorInp1
import Derived.Maps.AppendAt
import Derived.Test.YtdgodofdnaligaaDoorSxI
import Derived.Test.YtdgodofdnaligaaDoorSxL
import Derived.Test.YtdgodofdnaligaaDoorIns3
import Derived.KernelRfl
set_option linter.unusedVariables false
set_option linter.unusedSimpArgs false
set_option maxRecDepth 100000
set_option maxHeartbeats 4000000
namespace Go.Proofs
open Go.Shelf Go.RowKit Go.Lib Go.Sx
theorem ins_growP (g n c i vb vo vc : Nat) (et : TypeId) (cur : Array Value) (cs vs : List Value) (w : World) (hi : i < n) (hnc : n ≤ c) (hroom : c < n + 1) (hbig : n ≤ 1000000) (hb : w.heap[g]? = some (.cells cur et (0, 0))) (hcur : cur.size = c) (hcs : cur.toList.take (n) = cs)
    (hvb : vb ≠ g) (hvl : vs.length = 1) (hvs : ∀ j v, vs[j]? = some v → w.cell? ⟨vb, vo + j, none⟩ = some v) (h1c : ∀ v ∈ cs, v.oneCell' = true) (h1v : ∀ v ∈ vs, v.oneCell' = true) :
    Calls Tryd.prog 60 #[.slice (some ⟨g, 0, none⟩) n c, .int .i64 i, .slice (some ⟨vb, vo, none⟩) 1 vc] w fun e w' =>
      ∃ G : Nat, ∃ ROW row : Array Value, e = .returned (.slice (some ⟨w.heap.size, 0, none⟩) (n + 1) G) ∧ n + 1 ≤ G ∧ G ≤ maxLen ∧ w' = ((w.alloc (.cells ROW 53)).drew.drew).setRow w.heap.size row ∧ row.size = G ∧ row.toList.take ((n + 1)) = cs.take (i) ++ vs ++ cs.drop (i) := by
  have hcl : cs.length = n := by rw [← hcs, List.length_take, Array.length_toList]; omega
  have hsz : (Tryd.prog.info? 53).map (·.size) = some 1 := by kernel_rfl
  obtain ⟨i0, hi0, hzs, hzb⟩ : ∃ i0, Tryd.prog.info? 53 = some i0 ∧ i0.size = 1 ∧ i0.bytes = 8 := by
    have h : (Tryd.prog.info? 53).map (fun i => (i.size, i.bytes)) = some (1, 8) := by kernel_rfl
    obtain ⟨i0, h1, h2⟩ := Option.map_eq_some_iff.1 h
    simp only [Prod.mk.injEq] at h2
    exact ⟨i0, h1, h2.1, h2.2⟩
  obtain ⟨z, hz0, hzc⟩ : ∃ z, i0.zero = some z ∧ z.cells.size = 1 := by
    have h : (Tryd.prog.info? 53).map (fun i => i.zero.map fun z => z.cells.size) = some (some 1) := by kernel_rfl
    rw [hi0] at h
    simp only [Option.map_some, Option.some.injEq] at h
    obtain ⟨z, h1, h2⟩ := Option.map_eq_some_iff.1 h
    exact ⟨z, h1, h2⟩
  have mixed : Tryd.prog.follows .mixedOrders = true := by kernel_rfl
  have hz2 : ¬ ((i : Int) = (n : Int)) := by omega
  have hz3 : (c : Int) < (n : Int) + (1 : Int) := by omega
  have hgw : g < w.heap.size := (Array.getElem?_eq_some_iff.1 hb).1
  have hvw : vb < w.heap.size := by
    have h := hvs 0 vs[0] (List.getElem?_eq_getElem (by omega))
    exact block_lt_of_cell h
  have hcl' : cur.toList.length = c := by rw [Array.length_toList]; exact hcur
  have hat : ∀ (W : World), W.heap[g]? = some (.cells cur et (0, 0)) → ∀ j v, cs[j]? = some v → W.cell? ⟨g, j, none⟩ = some v := fun W hW j v hj => by
    rw [← hcs, List.getElem?_take] at hj
    split at hj
    · simp only [World.cell?, hW, Option.isSome_none, Bool.false_eq_true, if_false]
      rw [← Array.getElem?_toList]; exact hj
    · cases hj
  have hkk : (n : Int) + (1 : Int) - (i : Int) = ((n + 1 - i : Nat) : Int) := by omega
  have hik : i + (n + 1 - i) = n + 1 := by omega
  have hold : (Builtin.firstCells i0.size i (.slice (some ⟨g, 0, none⟩) i c)).run Tryd.prog w.drew = .ok (cs.take (i)).toArray w.drew := by
    rw [hzs]
    exact run_firstCells_some w.drew 1 i ⟨g, 0, none⟩ i c (cs.take (i)) (by rw [List.length_take]; omega) (fun j v hj => by
      rw [Addr.add_lit, Nat.zero_add]
      rw [List.getElem?_take] at hj
      split at hj
      · exact hat _ hb j v hj
      · cases hj)
  have hrz : ∀ ty, (Builtin.append_ #[59, 3] ty #[.slice (some ⟨g, 0, none⟩) i c, .int .i64 ((n : Int) + (1 : Int) - (i : Int))]).run Tryd.prog w =
      .ok (.slice (some ⟨w.heap.size, 0, none⟩) (n + 1) (grownCap w (n + 1) c 53)) (w.drew.alloc (.cells ((cs.take (i)).toArray ++ Builtin.zeroCells z.cells (n + 1 - i) ++ Builtin.zeroCells z.cells (grownCap w (n + 1) c 53 - (n + 1))) 53)) := fun ty => by
    have h := Lib.run_append_grow_zeros w 59 3 ty 53 i0 z .i64 .i64 (by kernel_rfl) (by kernel_rfl) hi0 hz0 (some ⟨g, 0, none⟩) i c (cs.take (i)) hold (n + 1 - i) (by omega) (by omega) (by omega) (by omega) (by rw [hzb]; omega) (by rw [hzb, hik]; exact growslice_fits hroom (by omega))
    rw [hik] at h
    rw [hkk]
    exact h
  obtain ⟨G, hG⟩ : ∃ G, G = grownCap w (n + 1) c 53 := ⟨_, rfl⟩
  obtain ⟨ROW, hROW⟩ : ∃ ROW : Array Value, ROW = (cs.take (i)).toArray ++ Builtin.zeroCells z.cells (n + 1 - i) ++ Builtin.zeroCells z.cells (G - (n + 1)) := ⟨_, rfl⟩
  rw [← hG] at hrz
  rw [← hROW] at hrz
  have hGn : n + 1 ≤ G := by rw [hG]; exact grownCap_ge w _ _ _
  have hGm : G ≤ maxLen := by
    rw [hG]; exact grownCap_le_maxLen w (n + 1) c 53 (by unfold maxLen; omega)
  have hG63 : G ≤ 9223372036854775807 := by unfold maxLen at hGm; omega
  have hRl : ROW.size = G := by
    rw [hROW]
    simp only [Array.size_append, List.size_toArray, List.length_take, size_zeroCells, hzc, hcl]
    omega
  have hRt : ROW.toList.take (i) = cs.take (i) := by
    rw [hROW]
    simp only [Array.toList_append, List.append_assoc, List.toList_toArray]
    rw [List.take_append_of_le_length (by rw [List.length_take]; omega), List.take_take, Nat.min_self]
  obtain ⟨N, hN⟩ : ∃ N, N = w.heap.size := ⟨_, rfl⟩
  obtain ⟨W1, hW1⟩ : ∃ W1, W1 = w.drew.alloc (.cells ROW 53) := ⟨_, rfl⟩
  have hb1 : W1.heap[w.heap.size]? = some (.cells ROW 53 (0, 0)) := by
    rw [hW1, show (w.drew.alloc (.cells ROW 53)).heap = w.heap.push (.cells ROW 53) from rfl, Array.getElem?_push_size]
  have hOc : ∀ j v, cs[j]? = some v → W1.cell? ⟨g, j, none⟩ = some v := fun j v h => by rw [hW1, World.cell?_alloc_past (w := w.drew) _ g j hgw]; exact hat _ hb j v h
  have hOv : ∀ j v, vs[j]? = some v → W1.cell? ⟨vb, vo + j, none⟩ = some v := fun j v h => by rw [hW1, World.cell?_alloc_past (w := w.drew) _ vb _ hvw]; exact hvs j v h
  obtain ⟨r1, hr1⟩ : ∃ r1 : Array Value, r1 = (ROW.toList.take (i) ++ vs ++ ROW.toList.drop (i + vs.length)).toArray := ⟨_, rfl⟩
  have hRL : ROW.toList.length = G := by rw [Array.length_toList]; exact hRl
  have hr1l : r1.size = G := by
    simp only [hr1, List.size_toArray, List.length_append, List.length_take, List.length_drop, hRL, hvl]; omega
  have hcpA : ∀ ty dc, (Builtin.copy_ #[59, 59] ty #[.slice (some ⟨w.heap.size, i, none⟩) (n + 1 - i) dc, .slice (some ⟨vb, vo, none⟩) 1 vc]).run Tryd.prog W1 = .ok (goInt (Nat.min 1 (n + 1 - i))) (W1.setRow w.heap.size r1) := fun ty dc => by
    rw [hr1]
    exact run_copyRowK W1 59 59 ty 53 1 w.heap.size (i) (n + 1 - i) dc ⟨vb, vo, none⟩ 1 vc ROW 53 vs (by kernel_rfl) hsz hb1 (by rw [hvl]; simp only [Nat.min_def]; split <;> omega)
      (fun j v hj => by rw [Addr.add_lit]; exact hOv j v hj) (by rw [hvl, hRl]; omega) h1v
  have hdl : (cs.drop (i)).length = (n - i) := by rw [List.length_drop, hcl]
  obtain ⟨r2, hr2⟩ : ∃ r2 : Array Value, r2 = (r1.toList.take ((i + 1)) ++ cs.drop (i) ++ r1.toList.drop ((i + 1) + (cs.drop (i)).length)).toArray := ⟨_, rfl⟩
  have hr1L : r1.toList.length = G := by rw [Array.length_toList]; exact hr1l
  have hr2l : r2.size = G := by
    simp only [hr2, List.size_toArray, List.length_append, List.length_take, List.length_drop, hr1L, hcl]; omega
  have hgN : g ≠ w.heap.size := by omega
  have hcpB : ∀ ty dc sc, (Builtin.copy_ #[59, 59] ty #[.slice (some ⟨w.heap.size, (i + 1), none⟩) (n - i) dc, .slice (some ⟨g, i, none⟩) (n - i) sc]).run Tryd.prog (W1.setRow w.heap.size r1).drew = .ok (goInt (Nat.min (n - i) (n - i))) ((W1.setRow w.heap.size r1).drew.setRow w.heap.size r2) := fun ty dc sc => by
    rw [hr2]
    exact run_copyRowK _ 59 59 ty 53 1 w.heap.size ((i + 1)) (n - i) dc ⟨g, i, none⟩ (n - i) sc r1 53 (cs.drop (i)) (by kernel_rfl) hsz (setRow_heap W1 w.heap.size ROW r1 53 _ hb1) (by rw [hdl]; congr 1; simp only [Nat.min_def]; split <;> omega)
      (fun j v hj => by
        rw [Addr.add_lit]
        show (W1.setRow w.heap.size r1).cell? _ = some v
        rw [cell_setRow_other _ _ _ _ hgN]; exact hOc _ v (by rwa [List.getElem?_drop] at hj)) (by rw [hdl, hr1l]; omega) (fun v hv => h1c v (List.mem_of_mem_drop hv))
  have hfin : r2.toList.take ((n + 1)) = cs.take (i) ++ vs ++ cs.drop (i) := by
    have a1 : r1.toList.take ((i + 1)) = cs.take (i) ++ vs := by
      rw [hr1, hRt]
      simp only [List.toList_toArray]
      rw [List.take_append_of_le_length (by simp only [List.length_append, List.length_take, hcl, hvl]; omega), List.take_of_length_le (by simp only [List.length_append, List.length_take, hcl, hvl]; omega)]
    rw [hr2, a1]
    simp only [List.toList_toArray]
    rw [List.take_append_of_le_length (by simp only [List.length_append, List.length_take, List.length_drop, hcl, hvl]; omega), List.take_of_length_le (by simp only [List.length_append, List.length_take, List.length_drop, hcl, hvl]; omega)]
  rw [← hW1] at hrz
  have hend : (W1.setRow w.heap.size r1).drew.setRow w.heap.size r2 = ((w.alloc (.cells ROW 53)).drew.drew).setRow w.heap.size r2 := by
    rw [hW1]; exact setRow_setRow ((w.alloc (.cells ROW 53)).drew.drew) w.heap.size r1 r2
  have hGi : ¬ (G = i) := by omega
  have hGim : ¬ (G = i + 1) := by omega
  have hci : ¬ (c = i) := by omega
  have hw1 : IntKind.i64.wrap ((i : Int) + (1 : Int)) = (i : Int) + (1 : Int) := by rw [IntKind.wrap_i64]; omega
  have hb1' : (0 : Int) ≤ (i : Int) + (1 : Int) := by omega
  have hin : i ≤ n := by omega
  have htn : ((i : Int) + (1 : Int)).toNat = i + 1 := by omega
  have hb3 : (i : Int) ≤ (n : Int) := by omega
  clear hkk hik hold hROW hG hRl hr1 hr2 hRt hW1 hN
  go_enter Tryd.func60, Tryd.ntmps60
  go_wp2_with (first
    | (at_builtin; refine Lib.wpList_append_run _ rfl _ _ _ _ rfl _ _ rfl rfl _ _ (hrz _) ?_)
    | (at_builtin; refine wpList_copy_runI _ rfl _ _ 59 59 rfl _ _ rfl rfl (hcpA _ _) ?_))
  go_region_law_o (refine step_copy_runI rfl _ _ 59 59 rfl _ _ (by simp [Act.eval, Act.put]) (by simp [Act.eval, Act.put]) (hcpB _ _ _) ?_)
  go_wp2
  go_ret
  first | exact ⟨G, ROW, r2, rfl, hGn, hGm, rfl, hr2l, hfin⟩ | exact ⟨G, ROW, r2, rfl, hGn, hGm, hend, hr2l, hfin⟩
end Go.Proofs
set_option linter.unusedVariables false
set_option linter.unusedSimpArgs false
set_option maxRecDepth 100000
set_option maxHeartbeats 4000000
namespace Go.Proofs
open Go.Shelf Go.RowKit Go.Lib Go.Sx
theorem infoP : ∃ i0 z, Tryd.prog.info? 53 = some i0 ∧ i0.size = 1 ∧ i0.bytes = 8 ∧ i0.zero = some z ∧ z.cells.size = 1 := by
  have h : (Tryd.prog.info? 53).map (fun i => (i.size, i.bytes)) = some (1, 8) := by kernel_rfl
  obtain ⟨i0, h1, h2⟩ := Option.map_eq_some_iff.1 h
  simp only [Prod.mk.injEq] at h2
  have h3 : (Tryd.prog.info? 53).map (fun i => i.zero.map fun z => z.cells.size) = some (some 1) := by kernel_rfl
  rw [h1] at h3
  simp only [Option.map_some, Option.some.injEq] at h3
  obtain ⟨z, h4, h5⟩ := Option.map_eq_some_iff.1 h3
  exact ⟨i0, z, h1, h2.1, h2.2, h4, h5⟩
theorem ins_endP (n vb vo vc : Nat) (v : Value) (xs vs : List Value) (w : World) (hn : n ≤ 1000000) (hown : w.ownsRow 0 53 1 v n xs) (hvl : vs.length = 1) (hvs : ∀ j u, vs[j]? = some u → w.cell? ⟨vb, vo + j, none⟩ = some u) (h1v : ∀ u ∈ vs, u.oneCell' = true) :
    Calls Tryd.prog 60 #[v, .int .i64 n, .slice (some ⟨vb, vo, none⟩) 1 vc] w fun e w' =>
      ∃ v', e = .returned v' ∧ w'.ownsRow 0 53 1 v' (n + 1) (xs ++ vs) ∧ w.grownBy w' v.ownBlock ∧ (v'.ownBlock = v.ownBlock ∨ v'.ownBlock = some w.heap.size) := by
  obtain ⟨i0, z, hi0, hzs, hzb, hz0, hzc⟩ := infoP
  obtain ⟨v', w', hr, h1, h2, h3, h4⟩ := run_append_own_at (P := Tryd.prog) w 0 59 59 53 i0 z 1 8 (by kernel_rfl) hi0 hz0 hzs hzb hzc (by omega) v n xs hown ⟨vb, vo, none⟩ 1 vc vs hvl (fun j u hj => by rw [Addr.add_lit]; exact hvs j u hj) h1v (by unfold maxLen; omega) (by omega) (Nat.zero_le _)
  rcases hown.2 with ⟨rfl, rfl⟩ | ⟨g, cap, cur, rfl, hbg, hg, hnc, hcm, hcs, htake⟩
  · go_enter Tryd.func60, Tryd.ntmps60
    go_wp2_with (at_builtin; refine Lib.wpList_append_run _ rfl _ _ _ _ rfl _ _ rfl rfl _ _ hr ?_)
    go_ret
    exact ⟨v', rfl, h1, h2, h4⟩
  · have hb4 : (n : Int) ≤ (n : Int) := Int.le_refl _
    go_enter Tryd.func60, Tryd.ntmps60
    go_wp2_with (at_builtin; refine Lib.wpList_append_run _ rfl _ _ _ _ rfl _ _ rfl rfl _ _ hr ?_)
    all_goals (go_ret; exact ⟨v', rfl, h1, h2, h4⟩)
end Go.Proofs
set_option linter.unusedVariables false
set_option linter.unusedSimpArgs false
set_option maxRecDepth 100000
set_option maxHeartbeats 4000000
namespace Go.Proofs
open Go.Shelf Go.RowKit Go.Lib Go.Sx
theorem del_oneP (g n c i : Nat) (et : TypeId) (cur : Array Value) (cs : List Value) (w : World) (hi : i < n) (hnc : n ≤ c) (hbig : n ≤ 1000000) (hc63 : c ≤ 9223372036854775807) (hc1 : ¬ (c = i + 1)) (hb : w.heap[g]? = some (.cells cur et (0, 0))) (hcur : cur.size = c) (hcs : cur.toList.take (n) = cs) (h1c : ∀ v ∈ cs, v.oneCell' = true) :
    Calls Tryd.prog 49 #[.slice (some ⟨g, 0, none⟩) n c, .int .i64 i, .int .i64 ((i + 1 : Nat) : Int)] w fun e w' =>
      e = .returned (.slice (some ⟨g, 0, none⟩) (n - 1) c) ∧ ∃ row : Array Value, w' = w.drew.setRow g row ∧ row.size = c ∧ row.toList.take ((n - 1)) = cs.take (i) ++ cs.drop ((i + 1)) := by
  obtain ⟨i0, z, hi0, hzs, hzb, hz0, hzc⟩ := infoP
  have hz1c : ∀ v ∈ z.cells.toList, v.oneCell' = true := by
    have h3 : (Tryd.prog.info? 53).map (fun i => i.zero.map fun z => z.cells.toList.all fun v => v.oneCell') = some (some true) := by kernel_rfl
    rw [hi0] at h3
    simp only [Option.map_some, Option.some.injEq, hz0] at h3
    exact fun v hv => List.all_eq_true.1 h3 v hv
  have hcl : cs.length = n := by rw [← hcs, List.length_take, Array.length_toList]; omega
  have mixed : Tryd.prog.follows .mixedOrders = true := by kernel_rfl
  have hcl' : cur.toList.length = c := by rw [Array.length_toList]; exact hcur
  have hat : ∀ (W : World), W.heap[g]? = some (.cells cur et (0, 0)) → ∀ j v, cs[j]? = some v → W.cell? ⟨g, j, none⟩ = some v := fun W hW j v hj => by
    rw [← hcs, List.getElem?_take] at hj
    split at hj
    · simp only [World.cell?, hW, Option.isSome_none, Bool.false_eq_true, if_false]
      rw [← Array.getElem?_toList]; exact hj
    · cases hj
  have hdl : (cs.drop ((i + 1))).length = (n - (i + 1)) := by rw [List.length_drop, hcl]
  obtain ⟨r1, hr1⟩ : ∃ r1 : Array Value, r1 = (cur.toList.take (i) ++ cs.drop ((i + 1)) ++ cur.toList.drop (i + (cs.drop ((i + 1))).length)).toArray := ⟨_, rfl⟩
  have hbd : w.drew.heap[g]? = some (.cells cur et (0, 0)) := hb
  have hap : ∀ ty c2, (Builtin.append_ #[59, 59] ty #[.slice (some ⟨g, 0, none⟩) i c, .slice (some ⟨g, (i + 1), none⟩) (n - (i + 1)) c2]).run Tryd.prog w.drew = .ok (.slice (some ⟨g, 0, none⟩) (i + (n - (i + 1))) c) (w.drew.setRow g r1) := fun ty c2 => by
    have h := run_appendRowK (P := Tryd.prog) w.drew 59 ty 53 i0 (by kernel_rfl) hi0 g i c (n - (i + 1)) c2 ⟨g, (i + 1), none⟩ cur et (cs.drop ((i + 1))) hbd (by rw [hdl, hzs, Nat.mul_one]) (fun j v hj => by rw [Addr.add_lit]; exact hat _ hbd _ v (by rwa [List.getElem?_drop] at hj)) (fun v hv => h1c v (List.mem_of_mem_drop hv)) (by omega) (by rw [hdl, hzs, hcur, Nat.mul_one]; omega)
    rw [hzs, Nat.mul_one] at h
    rw [hr1]; exact h
  have hr1l : r1.size = c := by
    simp only [hr1, List.size_toArray, List.length_append, List.length_take, List.length_drop, hcl', hcl]; omega
  have hr1L : r1.toList.length = c := by rw [Array.length_toList]; exact hr1l
  have hin : i + (n - (i + 1)) = n - 1 := by omega
  rw [hin] at hap
  obtain ⟨r2, hr2⟩ : ∃ r2 : Array Value, r2 = (r1.toList.take ((n - 1)) ++ (List.replicate (n - (n - 1)) z.cells.toList).flatten ++ r1.toList.drop ((n - 1) + (n - (n - 1)) * z.cells.size)).toArray := ⟨_, rfl⟩
  have hclr : ∀ ty c2, (Builtin.clear_ #[59] ty #[.slice (some ⟨g, (n - 1), none⟩) (n - (n - 1)) c2]).run Tryd.prog (w.drew.setRow g r1) = .ok (.tuple #[]) ((w.drew.setRow g r1).setRow g r2) := fun ty c2 => by
    rw [hr2]
    exact run_clear_row (P := Tryd.prog) (w := w.drew.setRow g r1) 59 53 ty i0 z (by kernel_rfl) hi0 hz0 g ((n - 1)) (n - (n - 1)) c2 r1 et (by omega) (setRow_heap w.drew g cur r1 et _ hbd) (by rw [hzc, hr1l]; omega) hz1c
  have hfl : (List.replicate (n - (n - 1)) z.cells.toList).flatten.length = (n - (n - 1)) := by have h := flatten_rep z.cells.toList 1 (by rw [Array.length_toList]; exact hzc) (n - (n - 1)); rwa [Nat.mul_one] at h
  have hr2l : r2.size = c := by
    simp only [hr2, List.size_toArray, List.length_append, List.length_take, List.length_drop, hr1L, hfl, hzc]; omega
  have hfin : r2.toList.take ((n - 1)) = cs.take (i) ++ cs.drop ((i + 1)) := by
    rw [hr2]
    simp only [List.toList_toArray]
    rw [List.append_assoc, List.take_append_of_le_length (by rw [List.length_take, hr1L]; omega), List.take_take, Nat.min_self, hr1]
    simp only [List.toList_toArray]
    rw [List.take_append_of_le_length (by simp only [List.length_append, List.length_take, List.length_drop, hcl', hcl]; omega), List.take_of_length_le (by simp only [List.length_append, List.length_take, List.length_drop, hcl', hcl]; omega)]
    congr 1
    rw [← hcs, List.take_take]; congr 1; omega
  have hz2 : ¬ ((i : Int) = (i : Int) + 1) := by omega
  have hci : ¬ (c = i + 1) ∨ c = i + 1 := by omega
  have hend : (w.drew.setRow g r1).setRow g r2 = w.drew.setRow g r2 := setRow_setRow _ _ _ _
  have hb2 : (i : Int) + 1 ≤ (n : Int) := by omega
  have hb3 : i + 1 ≤ n := by omega
  have hb5 : n - 1 ≤ n := by omega
  have hic : i ≤ c := by omega
  have hic2 : (i : Int) ≤ (c : Int) := by omega
  have hb6 : (0 : Int) ≤ (i : Int) + 1 := by omega
  have htn : ((i : Int) + (1 : Int)).toNat = i + 1 := by omega
  have hic3 : i ≤ n := by omega
  have hgg : ¬ (c = i) := by omega
  have hgn : ¬ (c = n - 1) := by omega
  have hn1 : ((n - 1 : Nat) : Int) ≤ (n : Int) := by omega
  have hn2 : (n : Int) ≤ (c : Int) := by omega
  clear hr1 hr2 hin
  go_enter Tryd.func49, Tryd.ntmps49
  go_wp2
  go_region_law_o (refine step_append_runI rfl (.tmp 22) (.tmp 25) 59 59 rfl (.slice (some ⟨g, 0, none⟩) i c) (.slice (some ⟨g, (i + 1), none⟩) (n - (i + 1)) (c - (i + 1))) (by simp [Act.eval, Act.put]) (by simp [Act.eval, Act.put]) (hap 59 (c - (i + 1))) ?_)
  go_wp2_with (at_builtin; refine wpList_clear_runI _ rfl _ 59 rfl _ rfl (hclr _ _) ?_)
  all_goals (go_ret; first | exact ⟨rfl, r2, rfl, hr2l, hfin⟩ | exact ⟨rfl, r2, hend, hr2l, hfin⟩)
theorem del_fullP (g i : Nat) (et : TypeId) (cur : Array Value) (cs : List Value) (w : World) (hbig : i ≤ 1000000) (hb : w.heap[g]? = some (.cells cur et (0, 0))) (hcur : cur.size = (i + 1)) (hcs : cur.toList.take ((i + 1)) = cs) :
    Calls Tryd.prog 49 #[.slice (some ⟨g, 0, none⟩) (i + 1) (i + 1), .int .i64 i, .int .i64 ((i + 1 : Nat) : Int)] w fun e w' =>
      e = .returned (.slice (some ⟨g, 0, none⟩) i (i + 1)) ∧ ∃ row : Array Value, w' = w.drew.setRow g row ∧ row.size = (i + 1) ∧ row.toList.take (i) = cs.take (i) := by
  obtain ⟨i0, z, hi0, hzs, hzb, hz0, hzc⟩ := infoP
  have hz1c : ∀ v ∈ z.cells.toList, v.oneCell' = true := by
    have h3 : (Tryd.prog.info? 53).map (fun i => i.zero.map fun z => z.cells.toList.all fun v => v.oneCell') = some (some true) := by kernel_rfl
    rw [hi0] at h3
    simp only [Option.map_some, Option.some.injEq, hz0] at h3
    exact fun v hv => List.all_eq_true.1 h3 v hv
  have mixed : Tryd.prog.follows .mixedOrders = true := by kernel_rfl
  have hcl' : cur.toList.length = (i + 1) := by rw [Array.length_toList]; exact hcur
  have hbd : w.drew.heap[g]? = some (.cells cur et (0, 0)) := hb
  have hap : ∀ ty c2, (Builtin.append_ #[59, 59] ty #[.slice (some ⟨g, 0, none⟩) i (i + 1), .slice (some ⟨g, 0, none⟩) 0 c2]).run Tryd.prog w.drew = .ok (.slice (some ⟨g, 0, none⟩) i (i + 1)) w.drew := fun ty c2 => by
    have h := run_appendRowK (P := Tryd.prog) w.drew 59 ty 53 i0 (by kernel_rfl) hi0 g i (i + 1) 0 c2 ⟨g, 0, none⟩ cur et [] hbd (by simp) (fun j v hj => by simp at hj) (by simp) (by omega) (by rw [hzs, hcur]; simp only [List.length_nil]; omega)
    simp only [List.append_nil, List.length_nil, Nat.add_zero, List.take_append_drop, Array.toArray_toList] at h
    rw [setRow_self w.drew g cur et (0, 0) hbd] at h
    exact h
  obtain ⟨r2, hr2⟩ : ∃ r2 : Array Value, r2 = (cur.toList.take (i) ++ (List.replicate 1 z.cells.toList).flatten ++ cur.toList.drop (i + 1 * z.cells.size)).toArray := ⟨_, rfl⟩
  have hclr : ∀ ty c2, (Builtin.clear_ #[59] ty #[.slice (some ⟨g, i, none⟩) 1 c2]).run Tryd.prog w.drew = .ok (.tuple #[]) (w.drew.setRow g r2) := fun ty c2 => by
    rw [hr2]
    exact run_clear_row (P := Tryd.prog) (w := w.drew) 59 53 ty i0 z (by kernel_rfl) hi0 hz0 g (i) 1 c2 cur et (by omega) hbd (by rw [hzc, hcur]; omega) hz1c
  have hfl : (List.replicate 1 z.cells.toList).flatten.length = 1 := flatten_rep _ 1 (by rw [Array.length_toList]; exact hzc) _
  have hr2l : r2.size = (i + 1) := by
    simp only [hr2, List.size_toArray, List.length_append, List.length_take, List.length_drop, hcl', hfl, hzc]; omega
  have hfin : r2.toList.take (i) = cs.take (i) := by
    rw [hr2]
    simp only [List.toList_toArray]
    rw [List.append_assoc, List.take_append_of_le_length (by rw [List.length_take, hcl']; omega), List.take_take, Nat.min_self, ← hcs, List.take_take]
    congr 1; omega
  have hz2 : ¬ ((i : Int) = (i : Int) + 1) := by omega
  have hii : (i : Int) ≤ (i : Int) + 1 := by omega
  have hb6 : (0 : Int) ≤ (i : Int) + 1 := by omega
  have htn : ((i : Int) + (1 : Int)).toNat = i + 1 := by omega
  have hgg : ¬ (i + 1 = i) := by omega
  clear hr2
  go_enter Tryd.func49, Tryd.ntmps49
  go_wp2
  go_region_law_o (refine step_append_runI rfl (.tmp 22) (.tmp 25) 59 59 rfl (.slice (some ⟨g, 0, none⟩) i (i + 1)) (.slice (some ⟨g, 0, none⟩) 0 0) (by simp [Act.eval, Act.put]) (by simp [Act.eval, Act.put]) (hap 59 0) ?_)
  go_wp2_with (at_builtin; refine wpList_clear_runI _ rfl _ 59 rfl _ rfl (hclr _ _) ?_)
  all_goals (go_ret; exact ⟨rfl, r2, rfl, hr2l, hfin⟩)
end Go.Proofs
set_option linter.unusedVariables false
set_option linter.unusedSimpArgs false
set_option maxRecDepth 100000
set_option maxHeartbeats 4000000
namespace Go.Proofs
open Go.Shelf Go.RowKit Go.Lib Go.Sx
theorem flat_len9P : ∀ (es : List (List FV)), (∀ x ∈ es, x.length = 1) → es.flatten.length = es.length
  | [], _ => rfl
  | x :: es, h => by
    rw [List.flatten_cons, List.length_append, h x (by simp), flat_len9P es fun y hy => h y (by simp [hy]), List.length_cons]; omega
/-- What a function that wrote into its row, or told a new one, leaves. -/
theorem row_postP {G : Gr} (hG : G.strict = false) {w w' : World} {ok : Nat → Prop} {v v' : Value} {es' : List (List FV)} {xs' : List Value} (hok : ∀ b, ok b → b < w.heap.size ∧ v.ownBlock ≠ some b) (hg : w.grownBy w' v.ownBlock) (hv' : v'.ownBlock = v.ownBlock ∨ v'.ownBlock = some w.heap.size)
    (hown : w'.ownsRow 0 53 1 v' es'.length xs') (hfr : FRelL w ok es'.flatten xs') (hl : ∀ x ∈ es', x.length = 1) :
    ∃ v'' xs'', w'.ownsRow 0 53 1 v'' es'.length xs'' ∧ (∀ b, v''.ownBlock = some b → v.ownBlock = some b ∨ w.heap.size ≤ b) ∧
      FRelL w' (fun b => (ok b ∨ v.ownBlock = some b ∨ (w.heap.size ≤ b ∧ b < w'.heap.size)) ∧ v''.ownBlock ≠ some b) es'.flatten xs'' ∧ (∀ x ∈ es', x.length = 1) ∧ v' = v'' ∧ ExtX G (opt v.ownBlock) w w' := by
  refine ⟨v', xs', hown, fun b hb => ?_, ?_, hl, rfl, ⟨hg.os, hg.tape, hg.output, hg.size, fun k hk hx => hg.block k hk fun e => hx ?_, fun h => by rw [hG] at h; cases h⟩⟩
  · rcases hv' with h | h
    · exact .inl (h ▸ hb)
    · rw [h] at hb; simp only [Option.some.injEq] at hb; exact .inr (by omega)
  · have hc : Carry w w' ok ok := ⟨fun _ h => h, fun b hb => hg.block b (hok b hb).1 fun e => (hok b hb).2 e.symm, hg.os, hg.tape, hg.output, hg.size⟩
    refine FRelL.mono (fun b hb => ⟨.inl hb, fun e => ?_⟩) _ _ (FRelL.carry hc _ _ hfr)
    rcases hv' with h | h
    · exact (hok b hb).2 (h ▸ e)
    · rw [h] at e; simp only [Option.some.injEq] at e; have := (hok b hb).1; omega
  · first | exact e.symm | (simp [opt]; exact e.symm) | (simpa [opt] using e.symm)
theorem insert_okEP {G : Gr} (hG : G.strict = false) (es : List (List FV)) (i : Nat) (c : List FV) (hi : i ≤ es.length) (hn : es.length ≤ 1000000) (h1 : oneF es) (h2 : oneF [c]) : CallsW Tryd.prog G 60 53 1 es [.sc (.int .i64 (i : Int)), .sl 1 [c]] (es.take i ++ [c] ++ es.drop i) none := by
  intro w ok v xs vs _ hok _ hown hfr hlens hvs
  simp only [FRelL, FRel] at hvs
  obtain ⟨u1, r1, rfl, rfl, u2, r2, rfl, hu2, rfl⟩ := hvs
  rcases hu2 with ⟨h, _⟩ | ⟨vb, vo, vc, rfl, hvc, hvk, hvE⟩
  · cases h
  obtain ⟨cv, c1, c2, c3⟩ := FRelE.cells _ _ _ hvE
  have hc9 : c.length = 1 := by simp only [FRelE] at hvE; exact hvE.1
  have hcv : cv.length = 1 := by rw [c1]; rfl
  have hone : ∀ u ∈ cv, u.oneCell' = true := FRelL.oneCell _ _ h2 c3
  have honx : ∀ u ∈ xs, u.oneCell' = true := FRelL.oneCell _ _ h1 hfr
  have hcs : ∀ j u, cv[j]? = some u → w.cell? ⟨vb, vo + j, none⟩ = some u := c2
  have c3' : FRelL w ok c cv := by simpa using c3
  have hxl : xs.length = es.length := by have h := hown.1; omega
  have hfl : ((es.take i).flatten).length = i := by rw [flat_len9P _ fun x hx => hlens x (List.mem_of_mem_take hx), List.length_take, Nat.min_eq_left hi]
  have hsp := FRelL.split (es.take i).flatten (es.drop i).flatten xs (by rw [← List.flatten_append, List.take_append_drop]; exact hfr)
  rw [hfl] at hsp
  have hnew : FRelL w ok (es.take i ++ [c] ++ es.drop i).flatten (xs.take (i) ++ cv ++ xs.drop (i)) := by
    rw [List.flatten_append, List.flatten_append]
    exact FRelL.append _ _ _ _ (FRelL.append _ _ _ _ hsp.1 (by simpa using c3')) hsp.2
  have hle : ∀ x ∈ es.take i ++ [c] ++ es.drop i, x.length = 1 := fun x hx => by
    simp only [List.mem_append, List.mem_singleton] at hx
    rcases hx with (hx | rfl) | hx
    · exact hlens x (List.mem_of_mem_take hx)
    · exact hc9
    · exact hlens x (List.mem_of_mem_drop hx)
  have hlen' : (es.take i ++ [c] ++ es.drop i).length = es.length + 1 := by simp only [List.length_append, List.length_take, List.length_drop, List.length_singleton]; omega
  unfold CallY
  rw [run_enter (show entersP Tryd.prog 60 = true by kernel_rfl)]
  simp only
  by_cases hin : i = es.length
  · subst hin
    refine (ins_endP es.length vb vo vc v xs cv w hn hown hcv hcs hone).mono ?_
    rintro e w' ⟨v', rfl, q1, q2, q3⟩
    refine ⟨v', rfl, ?_⟩
    have e1 : xs.take (es.length) ++ cv ++ xs.drop (es.length) = xs ++ cv := by rw [List.take_of_length_le (by omega), List.drop_eq_nil_of_le (by omega), List.append_nil]
    rw [e1] at hnew
    exact row_postP hG hok q2 q3 (by rw [hlen']; exact q1) hnew hle
  · rcases hown.2 with ⟨rfl, h0⟩ | ⟨g, cap, cur, rfl, hbg, hb, hnc, hcm, hcur, htake⟩
    · omega
    · have hvg : vb ≠ g := fun e => (hok vb hvk).2 (by simp [Value.ownBlock, e])
      have hc63 : cap ≤ 9223372036854775807 := by unfold maxLen at hcm; omega
      have hgl : g < w.heap.size := (Array.getElem?_eq_some_iff.1 hb).1
      by_cases hroom : es.length + 1 ≤ cap
      · refine (ins_shiftP g es.length cap i vb vo vc 53 cur xs cv w (by omega) hroom hc63 hb (by omega) (by simpa only [Nat.mul_one] using htake) hvg hcv hcs honx hone).mono ?_
        rintro e w' ⟨rfl, row, rfl, r1, r2⟩
        refine ⟨_, rfl, row_postP hG hok ⟨rfl, rfl, rfl, by simp only [World.setRow, Array.size_modify]; exact Nat.le_refl _, fun k hk hx => setRow_other w.drew g k row fun e => hx (by simp [Value.ownBlock, e])⟩ (.inl rfl) ⟨?_, .inr ⟨g, cap, row, by rw [hlen'], hbg, setRow_heap w.drew g cur row 53 _ hb, by rw [hlen']; exact hroom, hcm, by omega, by rw [hlen', Nat.mul_one]; exact r2⟩⟩ hnew hle⟩
        rw [hlen']; simp only [List.length_append, List.length_take, List.length_drop, hcv, hxl]; omega
      · refine (ins_growP g es.length cap i vb vo vc 53 cur xs cv w (by omega) hnc (by omega) hn hb (by omega) (by simpa only [Nat.mul_one] using htake) hvg hcv hcs honx hone).mono ?_
        rintro e w' ⟨G', ROW, row, rfl, g1, g2, rfl, r1, r2⟩
        have hnewb : ((w.alloc (.cells ROW 53)).drew.drew).heap[w.heap.size]? = some (.cells ROW 53 (0, 0)) := by
          show (w.heap.push (.cells ROW 53))[w.heap.size]? = _
          rw [Array.getElem?_push_size]
        refine ⟨_, rfl, row_postP hG hok ⟨rfl, rfl, rfl, by simp only [World.setRow, Array.size_modify]; show w.heap.size ≤ (w.heap.push _).size; rw [Array.size_push]; omega, fun k hk hx => ?_⟩ (.inr rfl) ⟨?_, .inr ⟨w.heap.size, G', row, by rw [hlen'], Nat.zero_le _, setRow_heap _ _ ROW row 53 _ hnewb, by rw [hlen']; exact g1, g2, by omega, by rw [hlen', Nat.mul_one]; exact r2⟩⟩ hnew hle⟩
        · rw [setRow_other _ _ _ _ (by omega)]
          show (w.heap.push (.cells ROW 53))[k]? = _
          rw [Array.getElem?_push_lt hk, Array.getElem?_eq_getElem hk]
        · rw [hlen']; simp only [List.length_append, List.length_take, List.length_drop, hcv, hxl]; omega
end Go.Proofs
set_option linter.unusedVariables false
set_option linter.unusedSimpArgs false
set_option maxRecDepth 100000
set_option maxHeartbeats 4000000
namespace Go.Proofs
open Go.Shelf Go.RowKit Go.Lib Go.Sx
theorem delete_okEP {G : Gr} (hG : G.strict = false) (es : List (List FV)) (i : Nat) (hi : i < es.length) (hn : es.length ≤ 1000000) (h1 : oneF es) : CallsW Tryd.prog G 49 53 1 es [.sc (.int .i64 (i : Int)), .sc (.int .i64 ((i + 1 : Nat) : Int))] (es.take i ++ es.drop (i + 1)) none := by
  intro w ok v xs vs _ hok _ hown hfr hlens hvs
  simp only [FRelL, FRel] at hvs
  obtain ⟨u1, r1, rfl, rfl, u2, r2, rfl, rfl, rfl⟩ := hvs
  have honx : ∀ u ∈ xs, u.oneCell' = true := FRelL.oneCell _ _ h1 hfr
  have hxl : xs.length = es.length := by have h := hown.1; omega
  have hfl : ((es.take i).flatten).length = i := by rw [flat_len9P _ fun x hx => hlens x (List.mem_of_mem_take hx), List.length_take, Nat.min_eq_left (by omega)]
  have hfl2 : ((es.take (i + 1)).flatten).length = (i + 1) := by rw [flat_len9P _ fun x hx => hlens x (List.mem_of_mem_take hx), List.length_take, Nat.min_eq_left (by omega)]
  have hsp := FRelL.split (es.take i).flatten (es.drop i).flatten xs (by rw [← List.flatten_append, List.take_append_drop]; exact hfr)
  have hsp2 := FRelL.split (es.take (i + 1)).flatten (es.drop (i + 1)).flatten xs (by rw [← List.flatten_append, List.take_append_drop]; exact hfr)
  rw [hfl] at hsp
  rw [hfl2] at hsp2
  have hnew : FRelL w ok (es.take i ++ es.drop (i + 1)).flatten (xs.take (i) ++ xs.drop ((i + 1))) := by
    rw [List.flatten_append]
    exact FRelL.append _ _ _ _ hsp.1 hsp2.2
  have hle : ∀ x ∈ es.take i ++ es.drop (i + 1), x.length = 1 := fun x hx => by
    simp only [List.mem_append] at hx
    rcases hx with hx | hx
    · exact hlens x (List.mem_of_mem_take hx)
    · exact hlens x (List.mem_of_mem_drop hx)
  have hlen' : (es.take i ++ es.drop (i + 1)).length = es.length - 1 := by simp only [List.length_append, List.length_take, List.length_drop]; omega
  unfold CallY
  rw [run_enter (show entersP Tryd.prog 49 = true by kernel_rfl)]
  simp only
  rcases hown.2 with ⟨rfl, h0⟩ | ⟨g, cap, cur, rfl, hbg, hb, hnc, hcm, hcur, htake⟩
  · omega
  · have hc63 : cap ≤ 9223372036854775807 := by unfold maxLen at hcm; omega
    by_cases hc1 : cap = i + 1
    · have hen : es.length = i + 1 := by omega
      subst hc1
      rw [hen] at htake ⊢
      refine (del_fullP g i 53 cur xs w (by omega) hb (by omega) (by simpa only [Nat.mul_one] using htake)).mono ?_
      rintro e w' ⟨rfl, row, rfl, r1, r2⟩
      have e1 : xs.take (i) ++ xs.drop ((i + 1)) = xs.take (i) := by rw [List.drop_eq_nil_of_le (by omega), List.append_nil]
      rw [e1] at hnew
      rw [hen] at hok
      refine ⟨_, rfl, row_postP hG hok ⟨rfl, rfl, rfl, by simp only [World.setRow, Array.size_modify]; exact Nat.le_refl _, fun k hk hx => setRow_other w.drew g k row fun e => hx (by simp [Value.ownBlock, e])⟩ (.inl rfl) ⟨?_, .inr ⟨g, i + 1, row, by rw [hlen', hen, Nat.add_sub_cancel], hbg, setRow_heap w.drew g cur row 53 _ hb, by rw [hlen', hen]; omega, hcm, by omega, by rw [hlen', hen, Nat.add_sub_cancel, Nat.mul_one]; exact r2⟩⟩ hnew hle⟩
      rw [hlen', hen, List.length_take]; omega
    · refine (del_oneP g es.length cap i 53 cur xs w hi hnc hn hc63 hc1 hb (by omega) (by simpa only [Nat.mul_one] using htake) honx).mono ?_
      rintro e w' ⟨rfl, row, rfl, r1, r2⟩
      refine ⟨_, rfl, row_postP hG hok ⟨rfl, rfl, rfl, by simp only [World.setRow, Array.size_modify]; exact Nat.le_refl _, fun k hk hx => setRow_other w.drew g k row fun e => hx (by simp [Value.ownBlock, e])⟩ (.inl rfl) ⟨?_, .inr ⟨g, cap, row, by rw [hlen'], hbg, setRow_heap w.drew g cur row 53 _ hb, by rw [hlen']; omega, hcm, by omega, by rw [hlen', Nat.mul_one]; exact r2⟩⟩ hnew hle⟩
      rw [hlen']; simp only [List.length_append, List.length_take, List.length_drop, hxl]; omega
end Go.Proofs
set_option maxRecDepth 100000
set_option maxHeartbeats 4000000
set_option linter.unusedSimpArgs false
set_option linter.unusedVariables false
namespace Go.Sx
open Go.Proofs Sp
theorem get47 : P.funcs[47]? = some Tryd.f47 := by kernel_rfl
theorem ent47 : entersP P 47 = true := by kernel_rfl
theorem cloneE_ok (es : List (List FV)) (hl : es.length ≤ 1000000) (ho : oneF es) (h9 : ∀ x ∈ es, x.length = 9) : CallsO P G 47 [.sl 9 es] 51 9 es := by
  refine sx_fnO (hs := [.br [] []]) (∀ (b : Bool), (es ≠ [] → b = false) → Br (b == true) (es = []) ((oneF (es) ∧ 0 + List.length es ≤ maxLen ∧ (0 + List.length es) * 120 ≤ 140737488355328 ∧ E false) ∧ E 51 ∧ E 9 ∧ (chunk (TypeInfo.size (Tables.types (Program.toTables P))[51]) 0 [] ++ es) = es)) get47 ent47 (by kernel_rfl) ?_
  refine fun b => fun hi => ⟨fun hi => ?_, fun hi => ⟨⟨?_, ?_, ?_, rfl⟩, rfl, rfl, ?_⟩⟩
  all_goals first | exact ho | (simp only [maxLen]; omega) | omega | exact rfl | (simp_all [V.kind, V.num, V.text, V.items]; done)
theorem get48 : P.funcs[48]? = some Tryd.f48 := by kernel_rfl
theorem ent48 : entersP P 48 = true := by kernel_rfl
theorem cloneN_ok (es : List (List FV)) (hl : es.length ≤ 1000000) (ho : oneF es) (h1 : ∀ x ∈ es, x.length = 1) : CallsO P G 48 [.sl 1 es] 53 1 es := by
  refine sx_fnO (hs := [.br [] []]) (∀ (b : Bool), (es ≠ [] → b = false) → Br (b == true) (es = []) ((oneF (es) ∧ 0 + List.length es ≤ maxLen ∧ (0 + List.length es) * 8 ≤ 140737488355328 ∧ E false) ∧ E 53 ∧ E 1 ∧ (chunk (TypeInfo.size (Tables.types (Program.toTables P))[53]) 0 [] ++ es) = es)) get48 ent48 (by kernel_rfl) ?_
  refine fun b => fun hi => ⟨fun hi => ?_, fun hi => ⟨⟨?_, ?_, ?_, rfl⟩, rfl, rfl, ?_⟩⟩
  all_goals first | exact ho | (simp only [maxLen]; omega) | omega | exact rfl | (simp_all [V.kind, V.num, V.text, V.items]; done)
end Go.Sx

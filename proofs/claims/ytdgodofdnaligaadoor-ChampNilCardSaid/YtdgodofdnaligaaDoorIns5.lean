/-
  Proved: what some functions of the program answer, or a law of the evaluator that shows it, one theorem each; its conditions are the hypotheses that stand ahead of it.
-/
import Derived.Test.YtdgodofdnaligaaDoorIns1
import Derived.Maps.AppendAt
import Derived.Test.YtdgodofdnaligaaDoorSxI
import Derived.Test.YtdgodofdnaligaaDoorSxL
set_option linter.unusedVariables false
set_option linter.unusedSimpArgs false
set_option maxRecDepth 100000
set_option maxHeartbeats 4000000
namespace Go.Proofs
open Go.Shelf Go.RowKit Go.Lib Go.Sx
theorem ins_grow (g n c i vb vo vc : Nat) (et : TypeId) (cur : Array Value) (cs vs : List Value) (w : World) (hi : i < n) (hnc : n ≤ c) (hroom : c < n + 1) (hbig : n ≤ 1000000) (hb : w.heap[g]? = some (.cells cur et (0, 0))) (hcur : cur.size = c * 9) (hcs : cur.toList.take (n * 9) = cs)
    (hvb : vb ≠ g) (hvl : vs.length = 9) (hvs : ∀ j v, vs[j]? = some v → w.cell? ⟨vb, vo + j, none⟩ = some v) (h1c : ∀ v ∈ cs, v.oneCell' = true) (h1v : ∀ v ∈ vs, v.oneCell' = true) :
    Calls Tryd.prog 50 #[.slice (some ⟨g, 0, none⟩) n c, .int .i64 i, .slice (some ⟨vb, vo, none⟩) 1 vc] w fun e w' =>
      ∃ G : Nat, ∃ ROW row : Array Value, e = .returned (.slice (some ⟨w.heap.size, 0, none⟩) (n + 1) G) ∧ n + 1 ≤ G ∧ G ≤ maxLen ∧ w' = ((w.alloc (.cells ROW 51)).drew.drew).setRow w.heap.size row ∧ row.size = G * 9 ∧ row.toList.take ((n + 1) * 9) = cs.take (i * 9) ++ vs ++ cs.drop (i * 9) := by
  have hcl : cs.length = n * 9 := by rw [← hcs, List.length_take, Array.length_toList]; omega
  have hsz : (Tryd.prog.info? 51).map (·.size) = some 9 := by kernel_rfl
  obtain ⟨i0, hi0, hzs, hzb⟩ : ∃ i0, Tryd.prog.info? 51 = some i0 ∧ i0.size = 9 ∧ i0.bytes = 120 := by
    have h : (Tryd.prog.info? 51).map (fun i => (i.size, i.bytes)) = some (9, 120) := by kernel_rfl
    obtain ⟨i0, h1, h2⟩ := Option.map_eq_some_iff.1 h
    simp only [Prod.mk.injEq] at h2
    exact ⟨i0, h1, h2.1, h2.2⟩
  obtain ⟨z, hz0, hzc⟩ : ∃ z, i0.zero = some z ∧ z.cells.size = 9 := by
    have h : (Tryd.prog.info? 51).map (fun i => i.zero.map fun z => z.cells.size) = some (some 9) := by kernel_rfl
    rw [hi0] at h
    simp only [Option.map_some, Option.some.injEq] at h
    obtain ⟨z, h1, h2⟩ := Option.map_eq_some_iff.1 h
    exact ⟨z, h1, h2⟩
  have mixed : Tryd.prog.follows .mixedOrders = true := by kernel_rfl
  have hz2 : ¬ ((i : Int) = (n : Int)) := by omega
  have hz3 : (c : Int) < (n : Int) + (1 : Int) := by omega
  have hgw : g < w.heap.size := (Array.getElem?_eq_some_iff.1 hb).1
  have hvw : vb < w.heap.size := by
    have h := hvs 0 vs[0] (List.getElem?_eq_getElem (by omega))
    exact block_lt_of_cell h
  have hcl' : cur.toList.length = c * 9 := by rw [Array.length_toList]; exact hcur
  have hat : ∀ (W : World), W.heap[g]? = some (.cells cur et (0, 0)) → ∀ j v, cs[j]? = some v → W.cell? ⟨g, j, none⟩ = some v := fun W hW j v hj => by
    rw [← hcs, List.getElem?_take] at hj
    split at hj
    · simp only [World.cell?, hW, Option.isSome_none, Bool.false_eq_true, if_false]
      rw [← Array.getElem?_toList]; exact hj
    · cases hj
  have hkk : (n : Int) + (1 : Int) - (i : Int) = ((n + 1 - i : Nat) : Int) := by omega
  have hik : i + (n + 1 - i) = n + 1 := by omega
  have hold : (Builtin.firstCells i0.size i (.slice (some ⟨g, 0, none⟩) i c)).run Tryd.prog w.drew = .ok (cs.take (i * 9)).toArray w.drew := by
    rw [hzs]
    exact run_firstCells_some w.drew 9 i ⟨g, 0, none⟩ i c (cs.take (i * 9)) (by rw [List.length_take]; omega) (fun j v hj => by
      rw [Addr.add_lit, Nat.zero_add]
      rw [List.getElem?_take] at hj
      split at hj
      · exact hat _ hb j v hj
      · cases hj)
  have hrz : ∀ ty, (Builtin.append_ #[58, 3] ty #[.slice (some ⟨g, 0, none⟩) i c, .int .i64 ((n : Int) + (1 : Int) - (i : Int))]).run Tryd.prog w =
      .ok (.slice (some ⟨w.heap.size, 0, none⟩) (n + 1) (grownCap w (n + 1) c 51)) (w.drew.alloc (.cells ((cs.take (i * 9)).toArray ++ Builtin.zeroCells z.cells (n + 1 - i) ++ Builtin.zeroCells z.cells (grownCap w (n + 1) c 51 - (n + 1))) 51)) := fun ty => by
    have h := Lib.run_append_grow_zeros w 58 3 ty 51 i0 z .i64 .i64 (by kernel_rfl) (by kernel_rfl) hi0 hz0 (some ⟨g, 0, none⟩) i c (cs.take (i * 9)) hold (n + 1 - i) (by omega) (by omega) (by omega) (by omega) (by rw [hzb]; omega) (by rw [hzb, hik]; exact growslice_fits hroom (by omega))
    rw [hik] at h
    rw [hkk]
    exact h
  obtain ⟨G, hG⟩ : ∃ G, G = grownCap w (n + 1) c 51 := ⟨_, rfl⟩
  obtain ⟨ROW, hROW⟩ : ∃ ROW : Array Value, ROW = (cs.take (i * 9)).toArray ++ Builtin.zeroCells z.cells (n + 1 - i) ++ Builtin.zeroCells z.cells (G - (n + 1)) := ⟨_, rfl⟩
  rw [← hG] at hrz
  rw [← hROW] at hrz
  have hGn : n + 1 ≤ G := by rw [hG]; exact grownCap_ge w _ _ _
  have hGm : G ≤ maxLen := by
    rw [hG]; exact grownCap_le_maxLen w (n + 1) c 51 (by unfold maxLen; omega)
  have hG63 : G ≤ 9223372036854775807 := by unfold maxLen at hGm; omega
  have hRl : ROW.size = G * 9 := by
    rw [hROW]
    simp only [Array.size_append, List.size_toArray, List.length_take, size_zeroCells, hzc, hcl]
    omega
  have hRt : ROW.toList.take (i * 9) = cs.take (i * 9) := by
    rw [hROW]
    simp only [Array.toList_append, List.append_assoc, List.toList_toArray]
    rw [List.take_append_of_le_length (by rw [List.length_take]; omega), List.take_take, Nat.min_self]
  obtain ⟨N, hN⟩ : ∃ N, N = w.heap.size := ⟨_, rfl⟩
  obtain ⟨W1, hW1⟩ : ∃ W1, W1 = w.drew.alloc (.cells ROW 51) := ⟨_, rfl⟩
  have hb1 : W1.heap[w.heap.size]? = some (.cells ROW 51 (0, 0)) := by
    rw [hW1, show (w.drew.alloc (.cells ROW 51)).heap = w.heap.push (.cells ROW 51) from rfl, Array.getElem?_push_size]
  have hOc : ∀ j v, cs[j]? = some v → W1.cell? ⟨g, j, none⟩ = some v := fun j v h => by rw [hW1, World.cell?_alloc_past (w := w.drew) _ g j hgw]; exact hat _ hb j v h
  have hOv : ∀ j v, vs[j]? = some v → W1.cell? ⟨vb, vo + j, none⟩ = some v := fun j v h => by rw [hW1, World.cell?_alloc_past (w := w.drew) _ vb _ hvw]; exact hvs j v h
  obtain ⟨r1, hr1⟩ : ∃ r1 : Array Value, r1 = (ROW.toList.take (i * 9) ++ vs ++ ROW.toList.drop (i * 9 + vs.length)).toArray := ⟨_, rfl⟩
  have hRL : ROW.toList.length = G * 9 := by rw [Array.length_toList]; exact hRl
  have hr1l : r1.size = G * 9 := by
    simp only [hr1, List.size_toArray, List.length_append, List.length_take, List.length_drop, hRL, hvl]; omega
  have hcpA : ∀ ty dc, (Builtin.copy_ #[58, 58] ty #[.slice (some ⟨w.heap.size, i * 9, none⟩) (n + 1 - i) dc, .slice (some ⟨vb, vo, none⟩) 1 vc]).run Tryd.prog W1 = .ok (goInt (Nat.min 1 (n + 1 - i))) (W1.setRow w.heap.size r1) := fun ty dc => by
    rw [hr1]
    exact run_copyRowK W1 58 58 ty 51 9 w.heap.size (i * 9) (n + 1 - i) dc ⟨vb, vo, none⟩ 1 vc ROW 51 vs (by kernel_rfl) hsz hb1 (by rw [hvl]; simp only [Nat.min_def]; split <;> omega)
      (fun j v hj => by rw [Addr.add_lit]; exact hOv j v hj) (by rw [hvl, hRl]; omega) h1v
  have hdl : (cs.drop (i * 9)).length = (n - i) * 9 := by rw [List.length_drop, hcl, Nat.sub_mul]
  obtain ⟨r2, hr2⟩ : ∃ r2 : Array Value, r2 = (r1.toList.take ((i + 1) * 9) ++ cs.drop (i * 9) ++ r1.toList.drop ((i + 1) * 9 + (cs.drop (i * 9)).length)).toArray := ⟨_, rfl⟩
  have hr1L : r1.toList.length = G * 9 := by rw [Array.length_toList]; exact hr1l
  have hr2l : r2.size = G * 9 := by
    simp only [hr2, List.size_toArray, List.length_append, List.length_take, List.length_drop, hr1L, hcl]; omega
  have hgN : g ≠ w.heap.size := by omega
  have hcpB : ∀ ty dc sc, (Builtin.copy_ #[58, 58] ty #[.slice (some ⟨w.heap.size, (i + 1) * 9, none⟩) (n - i) dc, .slice (some ⟨g, i * 9, none⟩) (n - i) sc]).run Tryd.prog (W1.setRow w.heap.size r1).drew = .ok (goInt (Nat.min (n - i) (n - i))) ((W1.setRow w.heap.size r1).drew.setRow w.heap.size r2) := fun ty dc sc => by
    rw [hr2]
    exact run_copyRowK _ 58 58 ty 51 9 w.heap.size ((i + 1) * 9) (n - i) dc ⟨g, i * 9, none⟩ (n - i) sc r1 51 (cs.drop (i * 9)) (by kernel_rfl) hsz (setRow_heap W1 w.heap.size ROW r1 51 _ hb1) (by rw [hdl]; congr 1; simp only [Nat.min_def]; split <;> omega)
      (fun j v hj => by
        rw [Addr.add_lit]
        show (W1.setRow w.heap.size r1).cell? _ = some v
        rw [cell_setRow_other _ _ _ _ hgN]; exact hOc _ v (by rwa [List.getElem?_drop] at hj)) (by rw [hdl, hr1l]; omega) (fun v hv => h1c v (List.mem_of_mem_drop hv))
  have hfin : r2.toList.take ((n + 1) * 9) = cs.take (i * 9) ++ vs ++ cs.drop (i * 9) := by
    have a1 : r1.toList.take ((i + 1) * 9) = cs.take (i * 9) ++ vs := by
      rw [hr1, hRt]
      simp only [List.toList_toArray]
      rw [List.take_append_of_le_length (by simp only [List.length_append, List.length_take, hcl, hvl]; omega), List.take_of_length_le (by simp only [List.length_append, List.length_take, hcl, hvl]; omega)]
    rw [hr2, a1]
    simp only [List.toList_toArray]
    rw [List.take_append_of_le_length (by simp only [List.length_append, List.length_take, List.length_drop, hcl, hvl]; omega), List.take_of_length_le (by simp only [List.length_append, List.length_take, List.length_drop, hcl, hvl]; omega)]
  rw [← hW1] at hrz
  have hend : (W1.setRow w.heap.size r1).drew.setRow w.heap.size r2 = ((w.alloc (.cells ROW 51)).drew.drew).setRow w.heap.size r2 := by
    rw [hW1]; exact setRow_setRow ((w.alloc (.cells ROW 51)).drew.drew) w.heap.size r1 r2
  have hGi : ¬ (G = i) := by omega
  have hGim : ¬ (G = i + 1) := by omega
  have hci : ¬ (c = i) := by omega
  have hw1 : IntKind.i64.wrap ((i : Int) + (1 : Int)) = (i : Int) + (1 : Int) := by rw [IntKind.wrap_i64]; omega
  have hb1' : (0 : Int) ≤ (i : Int) + (1 : Int) := by omega
  have hin : i ≤ n := by omega
  have htn : ((i : Int) + (1 : Int)).toNat = i + 1 := by omega
  have hb3 : (i : Int) ≤ (n : Int) := by omega
  clear hkk hik hold hROW hG hRl hr1 hr2 hRt hW1 hN
  go_enter Tryd.func50, Tryd.ntmps50
  go_wp2_with (first
    | (at_builtin; refine Lib.wpList_append_run _ rfl _ _ _ _ rfl _ _ rfl rfl _ _ (hrz _) ?_)
    | (at_builtin; refine wpList_copy_runI _ rfl _ _ 58 58 rfl _ _ rfl rfl (hcpA _ _) ?_))
  go_region_law_o (refine step_copy_runI rfl _ _ 58 58 rfl _ _ (by simp [Act.eval, Act.put]) (by simp [Act.eval, Act.put]) (hcpB _ _ _) ?_)
  go_wp2
  go_ret
  first | exact ⟨G, ROW, r2, rfl, hGn, hGm, rfl, hr2l, hfin⟩ | exact ⟨G, ROW, r2, rfl, hGn, hGm, hend, hr2l, hfin⟩
end Go.Proofs
set_option linter.unusedVariables false
set_option linter.unusedSimpArgs false
set_option maxRecDepth 100000
set_option maxHeartbeats 4000000
namespace Go.Proofs
open Go.Shelf Go.RowKit Go.Lib Go.Sx
theorem infoE : ∃ i0 z, Tryd.prog.info? 51 = some i0 ∧ i0.size = 9 ∧ i0.bytes = 120 ∧ i0.zero = some z ∧ z.cells.size = 9 := by
  have h : (Tryd.prog.info? 51).map (fun i => (i.size, i.bytes)) = some (9, 120) := by kernel_rfl
  obtain ⟨i0, h1, h2⟩ := Option.map_eq_some_iff.1 h
  simp only [Prod.mk.injEq] at h2
  have h3 : (Tryd.prog.info? 51).map (fun i => i.zero.map fun z => z.cells.size) = some (some 9) := by kernel_rfl
  rw [h1] at h3
  simp only [Option.map_some, Option.some.injEq] at h3
  obtain ⟨z, h4, h5⟩ := Option.map_eq_some_iff.1 h3
  exact ⟨i0, z, h1, h2.1, h2.2, h4, h5⟩
theorem ins_end (n vb vo vc : Nat) (v : Value) (xs vs : List Value) (w : World) (hn : n ≤ 1000000) (hown : w.ownsRow 0 51 9 v n xs) (hvl : vs.length = 9) (hvs : ∀ j u, vs[j]? = some u → w.cell? ⟨vb, vo + j, none⟩ = some u) (h1v : ∀ u ∈ vs, u.oneCell' = true) :
    Calls Tryd.prog 50 #[v, .int .i64 n, .slice (some ⟨vb, vo, none⟩) 1 vc] w fun e w' =>
      ∃ v', e = .returned v' ∧ w'.ownsRow 0 51 9 v' (n + 1) (xs ++ vs) ∧ w.grownBy w' v.ownBlock ∧ (v'.ownBlock = v.ownBlock ∨ v'.ownBlock = some w.heap.size) := by
  obtain ⟨i0, z, hi0, hzs, hzb, hz0, hzc⟩ := infoE
  obtain ⟨v', w', hr, h1, h2, h3, h4⟩ := run_append_own_at (P := Tryd.prog) w 0 58 58 51 i0 z 9 120 (by kernel_rfl) hi0 hz0 hzs hzb hzc (by omega) v n xs hown ⟨vb, vo, none⟩ 1 vc vs hvl (fun j u hj => by rw [Addr.add_lit]; exact hvs j u hj) h1v (by unfold maxLen; omega) (by omega) (Nat.zero_le _)
  rcases hown.2 with ⟨rfl, rfl⟩ | ⟨g, cap, cur, rfl, hbg, hg, hnc, hcm, hcs, htake⟩
  · go_enter Tryd.func50, Tryd.ntmps50
    go_wp2_with (at_builtin; refine Lib.wpList_append_run _ rfl _ _ _ _ rfl _ _ rfl rfl _ _ hr ?_)
    go_ret
    exact ⟨v', rfl, h1, h2, h4⟩
  · have hb4 : (n : Int) ≤ (n : Int) := Int.le_refl _
    go_enter Tryd.func50, Tryd.ntmps50
    go_wp2_with (at_builtin; refine Lib.wpList_append_run _ rfl _ _ _ _ rfl _ _ rfl rfl _ _ hr ?_)
    all_goals (go_ret; exact ⟨v', rfl, h1, h2, h4⟩)
end Go.Proofs
set_option linter.unusedVariables false
set_option linter.unusedSimpArgs false
set_option maxRecDepth 100000
set_option maxHeartbeats 4000000
namespace Go.Proofs
open Go.Shelf Go.RowKit Go.Lib Go.Sx
theorem step_append_runI {P : Program} {ops : Array Oper} {o : Oper} {a : Act} {w : World} {K : Act → World → Prop} {Q : Exit → Act → World → Prop} {E : Prop}
    (hg : o.guard = none) (s x : Operand) (t t' : TypeId) (hop : o.op = Op.call { callee := Callee.builtin Builtin.append, args := #[s, x], argTypes := #[t, t'] })
    (v u : Value) (hs : a.eval s = v) (hx : a.eval x = u) {v' : Value} {w' : World} (hr : (Builtin.append_ #[t, t'] o.type #[v, u]).run P w = .ok v' w') (hK : K (a.put o.dst v') w') :
    if Region.wanted o (yielded ops a.tmps) = true then Oper.wp P o a w K Q else E := by
  have hw : Region.wanted o (yielded ops a.tmps) = true := by simp [Region.wanted, hg]
  rw [if_pos hw]
  unfold Oper.wp
  simp [execOp, hop, resolve, invoke, builtin, hs, hx, hr, Result.andThen]
  exact hK
theorem wpList_clear_runI {P : Program} (w : World) {ops : Array Oper} {rest : List Oper} {o : Oper} {a : Act} {Q : Exit → Act → World → Prop} (hgd : o.guard = none) (s : Operand) (t : TypeId)
    (ho : o.op = .call { callee := .builtin .clear, args := #[s], argTypes := #[t] }) (v : Value) (hs : a.eval s = v) {v' : Value} {w' : World}
    (hr : (Builtin.clear_ #[t] o.type #[v]).run P w = .ok v' w') (h : wpList P ops Q rest (a.put o.dst v') w') : wpList P ops Q (o :: rest) a w :=
  wpList_plain hgd fun K hK => by
    unfold Oper.wp
    simp [execOp, ho, resolve, invoke, builtin, hs, hr, Result.andThen]
    exact hK _ _ h
theorem del_one (g n c i : Nat) (et : TypeId) (cur : Array Value) (cs : List Value) (w : World) (hi : i < n) (hnc : n ≤ c) (hbig : n ≤ 1000000) (hc63 : c ≤ 9223372036854775807) (hc1 : ¬ (c = i + 1)) (hb : w.heap[g]? = some (.cells cur et (0, 0))) (hcur : cur.size = c * 9) (hcs : cur.toList.take (n * 9) = cs) (h1c : ∀ v ∈ cs, v.oneCell' = true) :
    Calls Tryd.prog 46 #[.slice (some ⟨g, 0, none⟩) n c, .int .i64 i, .int .i64 ((i + 1 : Nat) : Int)] w fun e w' =>
      e = .returned (.slice (some ⟨g, 0, none⟩) (n - 1) c) ∧ ∃ row : Array Value, w' = w.drew.setRow g row ∧ row.size = c * 9 ∧ row.toList.take ((n - 1) * 9) = cs.take (i * 9) ++ cs.drop ((i + 1) * 9) := by
  obtain ⟨i0, z, hi0, hzs, hzb, hz0, hzc⟩ := infoE
  have hz1c : ∀ v ∈ z.cells.toList, v.oneCell' = true := by
    have h3 : (Tryd.prog.info? 51).map (fun i => i.zero.map fun z => z.cells.toList.all fun v => v.oneCell') = some (some true) := by kernel_rfl
    rw [hi0] at h3
    simp only [Option.map_some, Option.some.injEq, hz0] at h3
    exact fun v hv => List.all_eq_true.1 h3 v hv
  have hcl : cs.length = n * 9 := by rw [← hcs, List.length_take, Array.length_toList]; omega
  have mixed : Tryd.prog.follows .mixedOrders = true := by kernel_rfl
  have hcl' : cur.toList.length = c * 9 := by rw [Array.length_toList]; exact hcur
  have hat : ∀ (W : World), W.heap[g]? = some (.cells cur et (0, 0)) → ∀ j v, cs[j]? = some v → W.cell? ⟨g, j, none⟩ = some v := fun W hW j v hj => by
    rw [← hcs, List.getElem?_take] at hj
    split at hj
    · simp only [World.cell?, hW, Option.isSome_none, Bool.false_eq_true, if_false]
      rw [← Array.getElem?_toList]; exact hj
    · cases hj
  have hdl : (cs.drop ((i + 1) * 9)).length = (n - (i + 1)) * 9 := by rw [List.length_drop, hcl, Nat.sub_mul]
  obtain ⟨r1, hr1⟩ : ∃ r1 : Array Value, r1 = (cur.toList.take (i * 9) ++ cs.drop ((i + 1) * 9) ++ cur.toList.drop (i * 9 + (cs.drop ((i + 1) * 9)).length)).toArray := ⟨_, rfl⟩
  have hbd : w.drew.heap[g]? = some (.cells cur et (0, 0)) := hb
  have hap : ∀ ty c2, (Builtin.append_ #[58, 58] ty #[.slice (some ⟨g, 0, none⟩) i c, .slice (some ⟨g, (i + 1) * 9, none⟩) (n - (i + 1)) c2]).run Tryd.prog w.drew = .ok (.slice (some ⟨g, 0, none⟩) (i + (n - (i + 1))) c) (w.drew.setRow g r1) := fun ty c2 => by
    have h := run_appendRowK (P := Tryd.prog) w.drew 58 ty 51 i0 (by kernel_rfl) hi0 g i c (n - (i + 1)) c2 ⟨g, (i + 1) * 9, none⟩ cur et (cs.drop ((i + 1) * 9)) hbd (by rw [hdl, hzs]) (fun j v hj => by rw [Addr.add_lit]; exact hat _ hbd _ v (by rwa [List.getElem?_drop] at hj)) (fun v hv => h1c v (List.mem_of_mem_drop hv)) (by omega) (by rw [hdl, hzs, hcur]; omega)
    rw [hzs] at h
    rw [hr1]; exact h
  have hr1l : r1.size = c * 9 := by
    simp only [hr1, List.size_toArray, List.length_append, List.length_take, List.length_drop, hcl', hcl]; omega
  have hr1L : r1.toList.length = c * 9 := by rw [Array.length_toList]; exact hr1l
  have hin : i + (n - (i + 1)) = n - 1 := by omega
  rw [hin] at hap
  obtain ⟨r2, hr2⟩ : ∃ r2 : Array Value, r2 = (r1.toList.take ((n - 1) * 9) ++ (List.replicate (n - (n - 1)) z.cells.toList).flatten ++ r1.toList.drop ((n - 1) * 9 + (n - (n - 1)) * z.cells.size)).toArray := ⟨_, rfl⟩
  have hclr : ∀ ty c2, (Builtin.clear_ #[58] ty #[.slice (some ⟨g, (n - 1) * 9, none⟩) (n - (n - 1)) c2]).run Tryd.prog (w.drew.setRow g r1) = .ok (.tuple #[]) ((w.drew.setRow g r1).setRow g r2) := fun ty c2 => by
    rw [hr2]
    exact run_clear_row (P := Tryd.prog) (w := w.drew.setRow g r1) 58 51 ty i0 z (by kernel_rfl) hi0 hz0 g ((n - 1) * 9) (n - (n - 1)) c2 r1 et (by omega) (setRow_heap w.drew g cur r1 et _ hbd) (by rw [hzc, hr1l]; omega) hz1c
  have hfl : (List.replicate (n - (n - 1)) z.cells.toList).flatten.length = (n - (n - 1)) * 9 := flatten_rep _ 9 (by rw [Array.length_toList]; exact hzc) _
  have hr2l : r2.size = c * 9 := by
    simp only [hr2, List.size_toArray, List.length_append, List.length_take, List.length_drop, hr1L, hfl, hzc]; omega
  have hfin : r2.toList.take ((n - 1) * 9) = cs.take (i * 9) ++ cs.drop ((i + 1) * 9) := by
    rw [hr2]
    simp only [List.toList_toArray]
    rw [List.append_assoc, List.take_append_of_le_length (by rw [List.length_take, hr1L]; omega), List.take_take, Nat.min_self, hr1]
    simp only [List.toList_toArray]
    rw [List.take_append_of_le_length (by simp only [List.length_append, List.length_take, List.length_drop, hcl', hcl]; omega), List.take_of_length_le (by simp only [List.length_append, List.length_take, List.length_drop, hcl', hcl]; omega)]
    congr 1
    rw [← hcs, List.take_take]; congr 1; omega
  have hz2 : ¬ ((i : Int) = (i : Int) + 1) := by omega
  have hci : ¬ (c = i + 1) ∨ c = i + 1 := by omega
  have hend : (w.drew.setRow g r1).setRow g r2 = w.drew.setRow g r2 := setRow_setRow _ _ _ _
  have hb2 : (i : Int) + 1 ≤ (n : Int) := by omega
  have hb3 : i + 1 ≤ n := by omega
  have hb5 : n - 1 ≤ n := by omega
  have hic : i ≤ c := by omega
  have hic2 : (i : Int) ≤ (c : Int) := by omega
  have hb6 : (0 : Int) ≤ (i : Int) + 1 := by omega
  have htn : ((i : Int) + (1 : Int)).toNat = i + 1 := by omega
  have hic3 : i ≤ n := by omega
  have hgg : ¬ (c = i) := by omega
  have hgn : ¬ (c = n - 1) := by omega
  have hn1 : ((n - 1 : Nat) : Int) ≤ (n : Int) := by omega
  have hn2 : (n : Int) ≤ (c : Int) := by omega
  clear hr1 hr2 hin
  go_enter Tryd.func46, Tryd.ntmps46
  go_wp2
  go_region_law_o (refine step_append_runI rfl (.tmp 22) (.tmp 25) 58 58 rfl (.slice (some ⟨g, 0, none⟩) i c) (.slice (some ⟨g, (i + 1) * 9, none⟩) (n - (i + 1)) (c - (i + 1))) (by simp [Act.eval, Act.put]) (by simp [Act.eval, Act.put]) (hap 58 (c - (i + 1))) ?_)
  go_wp2_with (at_builtin; refine wpList_clear_runI _ rfl _ 58 rfl _ rfl (hclr _ _) ?_)
  all_goals (go_ret; first | exact ⟨rfl, r2, rfl, hr2l, hfin⟩ | exact ⟨rfl, r2, hend, hr2l, hfin⟩)
theorem del_full (g i : Nat) (et : TypeId) (cur : Array Value) (cs : List Value) (w : World) (hbig : i ≤ 1000000) (hb : w.heap[g]? = some (.cells cur et (0, 0))) (hcur : cur.size = (i + 1) * 9) (hcs : cur.toList.take ((i + 1) * 9) = cs) :
    Calls Tryd.prog 46 #[.slice (some ⟨g, 0, none⟩) (i + 1) (i + 1), .int .i64 i, .int .i64 ((i + 1 : Nat) : Int)] w fun e w' =>
      e = .returned (.slice (some ⟨g, 0, none⟩) i (i + 1)) ∧ ∃ row : Array Value, w' = w.drew.setRow g row ∧ row.size = (i + 1) * 9 ∧ row.toList.take (i * 9) = cs.take (i * 9) := by
  obtain ⟨i0, z, hi0, hzs, hzb, hz0, hzc⟩ := infoE
  have hz1c : ∀ v ∈ z.cells.toList, v.oneCell' = true := by
    have h3 : (Tryd.prog.info? 51).map (fun i => i.zero.map fun z => z.cells.toList.all fun v => v.oneCell') = some (some true) := by kernel_rfl
    rw [hi0] at h3
    simp only [Option.map_some, Option.some.injEq, hz0] at h3
    exact fun v hv => List.all_eq_true.1 h3 v hv
  have mixed : Tryd.prog.follows .mixedOrders = true := by kernel_rfl
  have hcl' : cur.toList.length = (i + 1) * 9 := by rw [Array.length_toList]; exact hcur
  have hbd : w.drew.heap[g]? = some (.cells cur et (0, 0)) := hb
  have hap : ∀ ty c2, (Builtin.append_ #[58, 58] ty #[.slice (some ⟨g, 0, none⟩) i (i + 1), .slice (some ⟨g, 0, none⟩) 0 c2]).run Tryd.prog w.drew = .ok (.slice (some ⟨g, 0, none⟩) i (i + 1)) w.drew := fun ty c2 => by
    have h := run_appendRowK (P := Tryd.prog) w.drew 58 ty 51 i0 (by kernel_rfl) hi0 g i (i + 1) 0 c2 ⟨g, 0, none⟩ cur et [] hbd (by simp) (fun j v hj => by simp at hj) (by simp) (by omega) (by rw [hzs, hcur]; simp only [List.length_nil]; omega)
    simp only [List.append_nil, List.length_nil, Nat.add_zero, List.take_append_drop, Array.toArray_toList] at h
    rw [setRow_self w.drew g cur et (0, 0) hbd] at h
    exact h
  obtain ⟨r2, hr2⟩ : ∃ r2 : Array Value, r2 = (cur.toList.take (i * 9) ++ (List.replicate 1 z.cells.toList).flatten ++ cur.toList.drop (i * 9 + 1 * z.cells.size)).toArray := ⟨_, rfl⟩
  have hclr : ∀ ty c2, (Builtin.clear_ #[58] ty #[.slice (some ⟨g, i * 9, none⟩) 1 c2]).run Tryd.prog w.drew = .ok (.tuple #[]) (w.drew.setRow g r2) := fun ty c2 => by
    rw [hr2]
    exact run_clear_row (P := Tryd.prog) (w := w.drew) 58 51 ty i0 z (by kernel_rfl) hi0 hz0 g (i * 9) 1 c2 cur et (by omega) hbd (by rw [hzc, hcur]; omega) hz1c
  have hfl : (List.replicate 1 z.cells.toList).flatten.length = 1 * 9 := flatten_rep _ 9 (by rw [Array.length_toList]; exact hzc) _
  have hr2l : r2.size = (i + 1) * 9 := by
    simp only [hr2, List.size_toArray, List.length_append, List.length_take, List.length_drop, hcl', hfl, hzc]; omega
  have hfin : r2.toList.take (i * 9) = cs.take (i * 9) := by
    rw [hr2]
    simp only [List.toList_toArray]
    rw [List.append_assoc, List.take_append_of_le_length (by rw [List.length_take, hcl']; omega), List.take_take, Nat.min_self, ← hcs, List.take_take]
    congr 1; omega
  have hz2 : ¬ ((i : Int) = (i : Int) + 1) := by omega
  have hii : (i : Int) ≤ (i : Int) + 1 := by omega
  have hb6 : (0 : Int) ≤ (i : Int) + 1 := by omega
  have htn : ((i : Int) + (1 : Int)).toNat = i + 1 := by omega
  have hgg : ¬ (i + 1 = i) := by omega
  clear hr2
  go_enter Tryd.func46, Tryd.ntmps46
  go_wp2
  go_region_law_o (refine step_append_runI rfl (.tmp 22) (.tmp 25) 58 58 rfl (.slice (some ⟨g, 0, none⟩) i (i + 1)) (.slice (some ⟨g, 0, none⟩) 0 0) (by simp [Act.eval, Act.put]) (by simp [Act.eval, Act.put]) (hap 58 0) ?_)
  go_wp2_with (at_builtin; refine wpList_clear_runI _ rfl _ 58 rfl _ rfl (hclr _ _) ?_)
  all_goals (go_ret; exact ⟨rfl, r2, rfl, hr2l, hfin⟩)
end Go.Proofs
set_option linter.unusedVariables false
set_option linter.unusedSimpArgs false
set_option maxRecDepth 100000
set_option maxHeartbeats 4000000
namespace Go.Proofs
open Go.Shelf Go.RowKit Go.Lib Go.Sx
theorem flat_len9 : ∀ (es : List (List FV)), (∀ x ∈ es, x.length = 9) → es.flatten.length = es.length * 9
  | [], _ => rfl
  | x :: es, h => by
    rw [List.flatten_cons, List.length_append, h x (by simp), flat_len9 es fun y hy => h y (by simp [hy]), List.length_cons]; omega
/-- What a function that wrote into its row, or told a new one, leaves. -/
theorem row_post {G : Gr} (hG : G.strict = false) {w w' : World} {ok : Nat → Prop} {v v' : Value} {es' : List (List FV)} {xs' : List Value} (hok : ∀ b, ok b → b < w.heap.size ∧ v.ownBlock ≠ some b) (hg : w.grownBy w' v.ownBlock) (hv' : v'.ownBlock = v.ownBlock ∨ v'.ownBlock = some w.heap.size)
    (hown : w'.ownsRow 0 51 9 v' es'.length xs') (hfr : FRelL w ok es'.flatten xs') (hl : ∀ x ∈ es', x.length = 9) :
    ∃ v'' xs'', w'.ownsRow 0 51 9 v'' es'.length xs'' ∧ (∀ b, v''.ownBlock = some b → v.ownBlock = some b ∨ w.heap.size ≤ b) ∧
      FRelL w' (fun b => (ok b ∨ v.ownBlock = some b ∨ (w.heap.size ≤ b ∧ b < w'.heap.size)) ∧ v''.ownBlock ≠ some b) es'.flatten xs'' ∧ (∀ x ∈ es', x.length = 9) ∧ v' = v'' ∧ ExtX G (opt v.ownBlock) w w' := by
  refine ⟨v', xs', hown, fun b hb => ?_, ?_, hl, rfl, ⟨hg.os, hg.tape, hg.output, hg.size, fun k hk hx => hg.block k hk fun e => hx ?_, fun h => by rw [hG] at h; cases h⟩⟩
  · rcases hv' with h | h
    · exact .inl (h ▸ hb)
    · rw [h] at hb; simp only [Option.some.injEq] at hb; exact .inr (by omega)
  · have hc : Carry w w' ok ok := ⟨fun _ h => h, fun b hb => hg.block b (hok b hb).1 fun e => (hok b hb).2 e.symm, hg.os, hg.tape, hg.output, hg.size⟩
    refine FRelL.mono (fun b hb => ⟨.inl hb, fun e => ?_⟩) _ _ (FRelL.carry hc _ _ hfr)
    rcases hv' with h | h
    · exact (hok b hb).2 (h ▸ e)
    · rw [h] at e; simp only [Option.some.injEq] at e; have := (hok b hb).1; omega
  · first | exact e.symm | (simp [opt]; exact e.symm) | (simpa [opt] using e.symm)
theorem insert_okE {G : Gr} (hG : G.strict = false) (es : List (List FV)) (i : Nat) (c : List FV) (hi : i ≤ es.length) (hn : es.length ≤ 1000000) (h1 : oneF es) (h2 : oneF [c]) : CallsW Tryd.prog G 50 51 9 es [.sc (.int .i64 (i : Int)), .sl 9 [c]] (es.take i ++ [c] ++ es.drop i) none := by
  intro w ok v xs vs _ hok _ hown hfr hlens hvs
  simp only [FRelL, FRel] at hvs
  obtain ⟨u1, r1, rfl, rfl, u2, r2, rfl, hu2, rfl⟩ := hvs
  rcases hu2 with ⟨h, _⟩ | ⟨vb, vo, vc, rfl, hvc, hvk, hvE⟩
  · cases h
  obtain ⟨cv, c1, c2, c3⟩ := FRelE.cells _ _ _ hvE
  have hc9 : c.length = 9 := by simp only [FRelE] at hvE; exact hvE.1
  have hcv : cv.length = 9 := by rw [c1]; rfl
  have hone : ∀ u ∈ cv, u.oneCell' = true := FRelL.oneCell _ _ h2 c3
  have honx : ∀ u ∈ xs, u.oneCell' = true := FRelL.oneCell _ _ h1 hfr
  have hcs : ∀ j u, cv[j]? = some u → w.cell? ⟨vb, vo + j, none⟩ = some u := c2
  have c3' : FRelL w ok c cv := by simpa using c3
  have hxl : xs.length = es.length * 9 := hown.1
  have hfl : ((es.take i).flatten).length = i * 9 := by rw [flat_len9 _ fun x hx => hlens x (List.mem_of_mem_take hx), List.length_take, Nat.min_eq_left hi]
  have hsp := FRelL.split (es.take i).flatten (es.drop i).flatten xs (by rw [← List.flatten_append, List.take_append_drop]; exact hfr)
  rw [hfl] at hsp
  have hnew : FRelL w ok (es.take i ++ [c] ++ es.drop i).flatten (xs.take (i * 9) ++ cv ++ xs.drop (i * 9)) := by
    rw [List.flatten_append, List.flatten_append]
    exact FRelL.append _ _ _ _ (FRelL.append _ _ _ _ hsp.1 (by simpa using c3')) hsp.2
  have hle : ∀ x ∈ es.take i ++ [c] ++ es.drop i, x.length = 9 := fun x hx => by
    simp only [List.mem_append, List.mem_singleton] at hx
    rcases hx with (hx | rfl) | hx
    · exact hlens x (List.mem_of_mem_take hx)
    · exact hc9
    · exact hlens x (List.mem_of_mem_drop hx)
  have hlen' : (es.take i ++ [c] ++ es.drop i).length = es.length + 1 := by simp only [List.length_append, List.length_take, List.length_drop, List.length_singleton]; omega
  unfold CallY
  rw [run_enter (show entersP Tryd.prog 50 = true by kernel_rfl)]
  simp only
  by_cases hin : i = es.length
  · subst hin
    refine (ins_end es.length vb vo vc v xs cv w hn hown hcv hcs hone).mono ?_
    rintro e w' ⟨v', rfl, q1, q2, q3⟩
    refine ⟨v', rfl, ?_⟩
    have e1 : xs.take (es.length * 9) ++ cv ++ xs.drop (es.length * 9) = xs ++ cv := by rw [List.take_of_length_le (by omega), List.drop_eq_nil_of_le (by omega), List.append_nil]
    rw [e1] at hnew
    exact row_post hG hok q2 q3 (by rw [hlen']; exact q1) hnew hle
  · rcases hown.2 with ⟨rfl, h0⟩ | ⟨g, cap, cur, rfl, hbg, hb, hnc, hcm, hcur, htake⟩
    · omega
    · have hvg : vb ≠ g := fun e => (hok vb hvk).2 (by simp [Value.ownBlock, e])
      have hc63 : cap ≤ 9223372036854775807 := by unfold maxLen at hcm; omega
      have hgl : g < w.heap.size := (Array.getElem?_eq_some_iff.1 hb).1
      by_cases hroom : es.length + 1 ≤ cap
      · refine (ins_shift g es.length cap i vb vo vc 51 cur xs cv w (by omega) hroom hc63 hb hcur htake hvg hcv hcs honx hone).mono ?_
        rintro e w' ⟨rfl, row, rfl, r1, r2⟩
        refine ⟨_, rfl, row_post hG hok ⟨rfl, rfl, rfl, by simp only [World.setRow, Array.size_modify]; exact Nat.le_refl _, fun k hk hx => setRow_other w.drew g k row fun e => hx (by simp [Value.ownBlock, e])⟩ (.inl rfl) ⟨?_, .inr ⟨g, cap, row, by rw [hlen'], hbg, setRow_heap w.drew g cur row 51 _ hb, by rw [hlen']; exact hroom, hcm, r1, by rw [hlen']; exact r2⟩⟩ hnew hle⟩
        rw [hlen']; simp only [List.length_append, List.length_take, List.length_drop, hcv, hxl]; omega
      · refine (ins_grow g es.length cap i vb vo vc 51 cur xs cv w (by omega) hnc (by omega) hn hb hcur htake hvg hcv hcs honx hone).mono ?_
        rintro e w' ⟨G', ROW, row, rfl, g1, g2, rfl, r1, r2⟩
        have hnewb : ((w.alloc (.cells ROW 51)).drew.drew).heap[w.heap.size]? = some (.cells ROW 51 (0, 0)) := by
          show (w.heap.push (.cells ROW 51))[w.heap.size]? = _
          rw [Array.getElem?_push_size]
        refine ⟨_, rfl, row_post hG hok ⟨rfl, rfl, rfl, by simp only [World.setRow, Array.size_modify]; show w.heap.size ≤ (w.heap.push _).size; rw [Array.size_push]; omega, fun k hk hx => ?_⟩ (.inr rfl) ⟨?_, .inr ⟨w.heap.size, G', row, by rw [hlen'], Nat.zero_le _, setRow_heap _ _ ROW row 51 _ hnewb, by rw [hlen']; exact g1, g2, r1, by rw [hlen']; exact r2⟩⟩ hnew hle⟩
        · rw [setRow_other _ _ _ _ (by omega)]
          show (w.heap.push (.cells ROW 51))[k]? = _
          rw [Array.getElem?_push_lt hk, Array.getElem?_eq_getElem hk]
        · rw [hlen']; simp only [List.length_append, List.length_take, List.length_drop, hcv, hxl]; omega
end Go.Proofs

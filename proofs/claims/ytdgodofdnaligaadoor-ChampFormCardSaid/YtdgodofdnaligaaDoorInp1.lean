/-
  Proved: what some functions of the program answer, or a law of the evaluator that shows it, one theorem each; its conditions are the hypotheses that stand ahead of it.
-/
import Derived.Test.YtdgodofdnaligaaDoorIns3
import Derived.Test.YtdgodofdnaligaaDoorSxI
import Derived.Test.YtdgodofdnaligaaDoorSxL
import Derived.Shelf.Spec.SlicesInsertGrow
import Derived.Test.YtdgodofdnaligaaDoorProg
import Derived.ProofKit
set_option linter.unusedVariables false
set_option linter.unusedSimpArgs false
set_option maxRecDepth 100000
set_option maxHeartbeats 4000000
namespace Go.Proofs
open Go.Shelf Go.RowKit Go.Lib Go.Sx
theorem step_append_runI {P : Program} {ops : Array Oper} {o : Oper} {a : Act} {w : World} {K : Act → World → Prop} {Q : Exit → Act → World → Prop} {E : Prop}
    (hg : o.guard = none) (s x : Operand) (t t' : TypeId) (hop : o.op = Op.call { callee := Callee.builtin Builtin.append, args := #[s, x], argTypes := #[t, t'] })
    (v u : Value) (hs : a.eval s = v) (hx : a.eval x = u) {v' : Value} {w' : World} (hr : (Builtin.append_ #[t, t'] o.type #[v, u]).run P w = .ok v' w') (hK : K (a.put o.dst v') w') :
    if Region.wanted o (yielded ops a.tmps) = true then Oper.wp P o a w K Q else E := by
  have hw : Region.wanted o (yielded ops a.tmps) = true := by simp [Region.wanted, hg]
  rw [if_pos hw]
  unfold Oper.wp
  simp [execOp, hop, resolve, invoke, builtin, hs, hx, hr, Result.andThen]
  exact hK
theorem wpList_clear_runI {P : Program} (w : World) {ops : Array Oper} {rest : List Oper} {o : Oper} {a : Act} {Q : Exit → Act → World → Prop} (hgd : o.guard = none) (s : Operand) (t : TypeId)
    (ho : o.op = .call { callee := .builtin .clear, args := #[s], argTypes := #[t] }) (v : Value) (hs : a.eval s = v) {v' : Value} {w' : World}
    (hr : (Builtin.clear_ #[t] o.type #[v]).run P w = .ok v' w') (h : wpList P ops Q rest (a.put o.dst v') w') : wpList P ops Q (o :: rest) a w :=
  wpList_plain hgd fun K hK => by
    unfold Oper.wp
    simp [execOp, ho, resolve, invoke, builtin, hs, hr, Result.andThen]
    exact hK _ _ h
theorem del_one (g n c i : Nat) (et : TypeId) (cur : Array Value) (cs : List Value) (w : World) (hi : i < n) (hnc : n ≤ c) (hbig : n ≤ 1000000) (hc63 : c ≤ 9223372036854775807) (hc1 : ¬ (c = i + 1)) (hb : w.heap[g]? = some (.cells cur et (0, 0))) (hcur : cur.size = c * 9) (hcs : cur.toList.take (n * 9) = cs) (h1c : ∀ v ∈ cs, v.oneCell' = true) :
    Calls Tryd.prog 46 #[.slice (some ⟨g, 0, none⟩) n c, .int .i64 i, .int .i64 ((i + 1 : Nat) : Int)] w fun e w' =>
      e = .returned (.slice (some ⟨g, 0, none⟩) (n - 1) c) ∧ ∃ row : Array Value, w' = w.drew.setRow g row ∧ row.size = c * 9 ∧ row.toList.take ((n - 1) * 9) = cs.take (i * 9) ++ cs.drop ((i + 1) * 9) := by
  obtain ⟨i0, z, hi0, hzs, hzb, hz0, hzc⟩ := infoE
  have hz1c : ∀ v ∈ z.cells.toList, v.oneCell' = true := by
    have h3 : (Tryd.prog.info? 51).map (fun i => i.zero.map fun z => z.cells.toList.all fun v => v.oneCell') = some (some true) := by kernel_rfl
    rw [hi0] at h3
    simp only [Option.map_some, Option.some.injEq, hz0] at h3
    exact fun v hv => List.all_eq_true.1 h3 v hv
  have hcl : cs.length = n * 9 := by rw [← hcs, List.length_take, Array.length_toList]; omega
  have mixed : Tryd.prog.follows .mixedOrders = true := by kernel_rfl
  have hcl' : cur.toList.length = c * 9 := by rw [Array.length_toList]; exact hcur
  have hat : ∀ (W : World), W.heap[g]? = some (.cells cur et (0, 0)) → ∀ j v, cs[j]? = some v → W.cell? ⟨g, j, none⟩ = some v := fun W hW j v hj => by
    rw [← hcs, List.getElem?_take] at hj
    split at hj
    · simp only [World.cell?, hW, Option.isSome_none, Bool.false_eq_true, if_false]
      rw [← Array.getElem?_toList]; exact hj
    · cases hj
  have hdl : (cs.drop ((i + 1) * 9)).length = (n - (i + 1)) * 9 := by rw [List.length_drop, hcl, Nat.sub_mul]
  obtain ⟨r1, hr1⟩ : ∃ r1 : Array Value, r1 = (cur.toList.take (i * 9) ++ cs.drop ((i + 1) * 9) ++ cur.toList.drop (i * 9 + (cs.drop ((i + 1) * 9)).length)).toArray := ⟨_, rfl⟩
  have hbd : w.drew.heap[g]? = some (.cells cur et (0, 0)) := hb
  have hap : ∀ ty c2, (Builtin.append_ #[58, 58] ty #[.slice (some ⟨g, 0, none⟩) i c, .slice (some ⟨g, (i + 1) * 9, none⟩) (n - (i + 1)) c2]).run Tryd.prog w.drew = .ok (.slice (some ⟨g, 0, none⟩) (i + (n - (i + 1))) c) (w.drew.setRow g r1) := fun ty c2 => by
    have h := run_appendRowK (P := Tryd.prog) w.drew 58 ty 51 i0 (by kernel_rfl) hi0 g i c (n - (i + 1)) c2 ⟨g, (i + 1) * 9, none⟩ cur et (cs.drop ((i + 1) * 9)) hbd (by rw [hdl, hzs]) (fun j v hj => by rw [Addr.add_lit]; exact hat _ hbd _ v (by rwa [List.getElem?_drop] at hj)) (fun v hv => h1c v (List.mem_of_mem_drop hv)) (by omega) (by rw [hdl, hzs, hcur]; omega)
    rw [hzs] at h
    rw [hr1]; exact h
  have hr1l : r1.size = c * 9 := by
    simp only [hr1, List.size_toArray, List.length_append, List.length_take, List.length_drop, hcl', hcl]; omega
  have hr1L : r1.toList.length = c * 9 := by rw [Array.length_toList]; exact hr1l
  have hin : i + (n - (i + 1)) = n - 1 := by omega
  rw [hin] at hap
  obtain ⟨r2, hr2⟩ : ∃ r2 : Array Value, r2 = (r1.toList.take ((n - 1) * 9) ++ (List.replicate (n - (n - 1)) z.cells.toList).flatten ++ r1.toList.drop ((n - 1) * 9 + (n - (n - 1)) * z.cells.size)).toArray := ⟨_, rfl⟩
  have hclr : ∀ ty c2, (Builtin.clear_ #[58] ty #[.slice (some ⟨g, (n - 1) * 9, none⟩) (n - (n - 1)) c2]).run Tryd.prog (w.drew.setRow g r1) = .ok (.tuple #[]) ((w.drew.setRow g r1).setRow g r2) := fun ty c2 => by
    rw [hr2]
    exact run_clear_row (P := Tryd.prog) (w := w.drew.setRow g r1) 58 51 ty i0 z (by kernel_rfl) hi0 hz0 g ((n - 1) * 9) (n - (n - 1)) c2 r1 et (by omega) (setRow_heap w.drew g cur r1 et _ hbd) (by rw [hzc, hr1l]; omega) hz1c
  have hfl : (List.replicate (n - (n - 1)) z.cells.toList).flatten.length = (n - (n - 1)) * 9 := flatten_rep _ 9 (by rw [Array.length_toList]; exact hzc) _
  have hr2l : r2.size = c * 9 := by
    simp only [hr2, List.size_toArray, List.length_append, List.length_take, List.length_drop, hr1L, hfl, hzc]; omega
  have hfin : r2.toList.take ((n - 1) * 9) = cs.take (i * 9) ++ cs.drop ((i + 1) * 9) := by
    rw [hr2]
    simp only [List.toList_toArray]
    rw [List.append_assoc, List.take_append_of_le_length (by rw [List.length_take, hr1L]; omega), List.take_take, Nat.min_self, hr1]
    simp only [List.toList_toArray]
    rw [List.take_append_of_le_length (by simp only [List.length_append, List.length_take, List.length_drop, hcl', hcl]; omega), List.take_of_length_le (by simp only [List.length_append, List.length_take, List.length_drop, hcl', hcl]; omega)]
    congr 1
    rw [← hcs, List.take_take]; congr 1; omega
  have hz2 : ¬ ((i : Int) = (i : Int) + 1) := by omega
  have hci : ¬ (c = i + 1) ∨ c = i + 1 := by omega
  have hend : (w.drew.setRow g r1).setRow g r2 = w.drew.setRow g r2 := setRow_setRow _ _ _ _
  have hb2 : (i : Int) + 1 ≤ (n : Int) := by omega
  have hb3 : i + 1 ≤ n := by omega
  have hb5 : n - 1 ≤ n := by omega
  have hic : i ≤ c := by omega
  have hic2 : (i : Int) ≤ (c : Int) := by omega
  have hb6 : (0 : Int) ≤ (i : Int) + 1 := by omega
  have htn : ((i : Int) + (1 : Int)).toNat = i + 1 := by omega
  have hic3 : i ≤ n := by omega
  have hgg : ¬ (c = i) := by omega
  have hgn : ¬ (c = n - 1) := by omega
  have hn1 : ((n - 1 : Nat) : Int) ≤ (n : Int) := by omega
  have hn2 : (n : Int) ≤ (c : Int) := by omega
  clear hr1 hr2 hin
  go_enter Tryd.func46, Tryd.ntmps46
  go_wp2
  go_region_law_o (refine step_append_runI rfl (.tmp 22) (.tmp 25) 58 58 rfl (.slice (some ⟨g, 0, none⟩) i c) (.slice (some ⟨g, (i + 1) * 9, none⟩) (n - (i + 1)) (c - (i + 1))) (by simp [Act.eval, Act.put]) (by simp [Act.eval, Act.put]) (hap 58 (c - (i + 1))) ?_)
  go_wp2_with (at_builtin; refine wpList_clear_runI _ rfl _ 58 rfl _ rfl (hclr _ _) ?_)
  all_goals (go_ret; first | exact ⟨rfl, r2, rfl, hr2l, hfin⟩ | exact ⟨rfl, r2, hend, hr2l, hfin⟩)
theorem del_full (g i : Nat) (et : TypeId) (cur : Array Value) (cs : List Value) (w : World) (hbig : i ≤ 1000000) (hb : w.heap[g]? = some (.cells cur et (0, 0))) (hcur : cur.size = (i + 1) * 9) (hcs : cur.toList.take ((i + 1) * 9) = cs) :
    Calls Tryd.prog 46 #[.slice (some ⟨g, 0, none⟩) (i + 1) (i + 1), .int .i64 i, .int .i64 ((i + 1 : Nat) : Int)] w fun e w' =>
      e = .returned (.slice (some ⟨g, 0, none⟩) i (i + 1)) ∧ ∃ row : Array Value, w' = w.drew.setRow g row ∧ row.size = (i + 1) * 9 ∧ row.toList.take (i * 9) = cs.take (i * 9) := by
  obtain ⟨i0, z, hi0, hzs, hzb, hz0, hzc⟩ := infoE
  have hz1c : ∀ v ∈ z.cells.toList, v.oneCell' = true := by
    have h3 : (Tryd.prog.info? 51).map (fun i => i.zero.map fun z => z.cells.toList.all fun v => v.oneCell') = some (some true) := by kernel_rfl
    rw [hi0] at h3
    simp only [Option.map_some, Option.some.injEq, hz0] at h3
    exact fun v hv => List.all_eq_true.1 h3 v hv
  have mixed : Tryd.prog.follows .mixedOrders = true := by kernel_rfl
  have hcl' : cur.toList.length = (i + 1) * 9 := by rw [Array.length_toList]; exact hcur
  have hbd : w.drew.heap[g]? = some (.cells cur et (0, 0)) := hb
  have hap : ∀ ty c2, (Builtin.append_ #[58, 58] ty #[.slice (some ⟨g, 0, none⟩) i (i + 1), .slice (some ⟨g, 0, none⟩) 0 c2]).run Tryd.prog w.drew = .ok (.slice (some ⟨g, 0, none⟩) i (i + 1)) w.drew := fun ty c2 => by
    have h := run_appendRowK (P := Tryd.prog) w.drew 58 ty 51 i0 (by kernel_rfl) hi0 g i (i + 1) 0 c2 ⟨g, 0, none⟩ cur et [] hbd (by simp) (fun j v hj => by simp at hj) (by simp) (by omega) (by rw [hzs, hcur]; simp only [List.length_nil]; omega)
    simp only [List.append_nil, List.length_nil, Nat.add_zero, List.take_append_drop, Array.toArray_toList] at h
    rw [setRow_self w.drew g cur et (0, 0) hbd] at h
    exact h
  obtain ⟨r2, hr2⟩ : ∃ r2 : Array Value, r2 = (cur.toList.take (i * 9) ++ (List.replicate 1 z.cells.toList).flatten ++ cur.toList.drop (i * 9 + 1 * z.cells.size)).toArray := ⟨_, rfl⟩
  have hclr : ∀ ty c2, (Builtin.clear_ #[58] ty #[.slice (some ⟨g, i * 9, none⟩) 1 c2]).run Tryd.prog w.drew = .ok (.tuple #[]) (w.drew.setRow g r2) := fun ty c2 => by
    rw [hr2]
    exact run_clear_row (P := Tryd.prog) (w := w.drew) 58 51 ty i0 z (by kernel_rfl) hi0 hz0 g (i * 9) 1 c2 cur et (by omega) hbd (by rw [hzc, hcur]; omega) hz1c
  have hfl : (List.replicate 1 z.cells.toList).flatten.length = 1 * 9 := flatten_rep _ 9 (by rw [Array.length_toList]; exact hzc) _
  have hr2l : r2.size = (i + 1) * 9 := by
    simp only [hr2, List.size_toArray, List.length_append, List.length_take, List.length_drop, hcl', hfl, hzc]; omega
  have hfin : r2.toList.take (i * 9) = cs.take (i * 9) := by
    rw [hr2]
    simp only [List.toList_toArray]
    rw [List.append_assoc, List.take_append_of_le_length (by rw [List.length_take, hcl']; omega), List.take_take, Nat.min_self, ← hcs, List.take_take]
    congr 1; omega
  have hz2 : ¬ ((i : Int) = (i : Int) + 1) := by omega
  have hii : (i : Int) ≤ (i : Int) + 1 := by omega
  have hb6 : (0 : Int) ≤ (i : Int) + 1 := by omega
  have htn : ((i : Int) + (1 : Int)).toNat = i + 1 := by omega
  have hgg : ¬ (i + 1 = i) := by omega
  clear hr2
  go_enter Tryd.func46, Tryd.ntmps46
  go_wp2
  go_region_law_o (refine step_append_runI rfl (.tmp 22) (.tmp 25) 58 58 rfl (.slice (some ⟨g, 0, none⟩) i (i + 1)) (.slice (some ⟨g, 0, none⟩) 0 0) (by simp [Act.eval, Act.put]) (by simp [Act.eval, Act.put]) (hap 58 0) ?_)
  go_wp2_with (at_builtin; refine wpList_clear_runI _ rfl _ 58 rfl _ rfl (hclr _ _) ?_)
  all_goals (go_ret; exact ⟨rfl, r2, rfl, hr2l, hfin⟩)
end Go.Proofs
set_option linter.unusedVariables false
set_option linter.unusedSimpArgs false
set_option maxRecDepth 100000
set_option maxHeartbeats 4000000
namespace Go.Proofs
open Go.Shelf Go.RowKit Go.Lib Go.Sx
theorem flat_len9 : ∀ (es : List (List FV)), (∀ x ∈ es, x.length = 9) → es.flatten.length = es.length * 9
  | [], _ => rfl
  | x :: es, h => by
    rw [List.flatten_cons, List.length_append, h x (by simp), flat_len9 es fun y hy => h y (by simp [hy]), List.length_cons]; omega
/-- What a function that wrote into its row, or told a new one, leaves. -/
theorem row_post {G : Gr} (hG : G.strict = false) {w w' : World} {ok : Nat → Prop} {v v' : Value} {es' : List (List FV)} {xs' : List Value} (hok : ∀ b, ok b → b < w.heap.size ∧ v.ownBlock ≠ some b) (hg : w.grownBy w' v.ownBlock) (hv' : v'.ownBlock = v.ownBlock ∨ v'.ownBlock = some w.heap.size)
    (hown : w'.ownsRow 0 51 9 v' es'.length xs') (hfr : FRelL w ok es'.flatten xs') (hl : ∀ x ∈ es', x.length = 9) :
    ∃ v'' xs'', w'.ownsRow 0 51 9 v'' es'.length xs'' ∧ (∀ b, v''.ownBlock = some b → v.ownBlock = some b ∨ w.heap.size ≤ b) ∧
      FRelL w' (fun b => (ok b ∨ v.ownBlock = some b ∨ (w.heap.size ≤ b ∧ b < w'.heap.size)) ∧ v''.ownBlock ≠ some b) es'.flatten xs'' ∧ (∀ x ∈ es', x.length = 9) ∧ v' = v'' ∧ ExtX G (opt v.ownBlock) w w' := by
  refine ⟨v', xs', hown, fun b hb => ?_, ?_, hl, rfl, ⟨hg.os, hg.tape, hg.output, hg.size, fun k hk hx => hg.block k hk fun e => hx ?_, fun h => by rw [hG] at h; cases h⟩⟩
  · rcases hv' with h | h
    · exact .inl (h ▸ hb)
    · rw [h] at hb; simp only [Option.some.injEq] at hb; exact .inr (by omega)
  · have hc : Carry w w' ok ok := ⟨fun _ h => h, fun b hb => hg.block b (hok b hb).1 fun e => (hok b hb).2 e.symm, hg.os, hg.tape, hg.output, hg.size⟩
    refine FRelL.mono (fun b hb => ⟨.inl hb, fun e => ?_⟩) _ _ (FRelL.carry hc _ _ hfr)
    rcases hv' with h | h
    · exact (hok b hb).2 (h ▸ e)
    · rw [h] at e; simp only [Option.some.injEq] at e; have := (hok b hb).1; omega
  · first | exact e.symm | (simp [opt]; exact e.symm) | (simpa [opt] using e.symm)
theorem insert_okE {G : Gr} (hG : G.strict = false) (es : List (List FV)) (i : Nat) (c : List FV) (hi : i ≤ es.length) (hn : es.length ≤ 1000000) (h1 : oneF es) (h2 : oneF [c]) : CallsW Tryd.prog G 50 51 9 es [.sc (.int .i64 (i : Int)), .sl 9 [c]] (es.take i ++ [c] ++ es.drop i) none := by
  intro w ok v xs vs _ hok _ hown hfr hlens hvs
  simp only [FRelL, FRel] at hvs
  obtain ⟨u1, r1, rfl, rfl, u2, r2, rfl, hu2, rfl⟩ := hvs
  rcases hu2 with ⟨h, _⟩ | ⟨vb, vo, vc, rfl, hvc, hvk, hvE⟩
  · cases h
  obtain ⟨cv, c1, c2, c3⟩ := FRelE.cells _ _ _ hvE
  have hc9 : c.length = 9 := by simp only [FRelE] at hvE; exact hvE.1
  have hcv : cv.length = 9 := by rw [c1]; rfl
  have hone : ∀ u ∈ cv, u.oneCell' = true := FRelL.oneCell _ _ h2 c3
  have honx : ∀ u ∈ xs, u.oneCell' = true := FRelL.oneCell _ _ h1 hfr
  have hcs : ∀ j u, cv[j]? = some u → w.cell? ⟨vb, vo + j, none⟩ = some u := c2
  have c3' : FRelL w ok c cv := by simpa using c3
  have hxl : xs.length = es.length * 9 := hown.1
  have hfl : ((es.take i).flatten).length = i * 9 := by rw [flat_len9 _ fun x hx => hlens x (List.mem_of_mem_take hx), List.length_take, Nat.min_eq_left hi]
  have hsp := FRelL.split (es.take i).flatten (es.drop i).flatten xs (by rw [← List.flatten_append, List.take_append_drop]; exact hfr)
  rw [hfl] at hsp
  have hnew : FRelL w ok (es.take i ++ [c] ++ es.drop i).flatten (xs.take (i * 9) ++ cv ++ xs.drop (i * 9)) := by
    rw [List.flatten_append, List.flatten_append]
    exact FRelL.append _ _ _ _ (FRelL.append _ _ _ _ hsp.1 (by simpa using c3')) hsp.2
  have hle : ∀ x ∈ es.take i ++ [c] ++ es.drop i, x.length = 9 := fun x hx => by
    simp only [List.mem_append, List.mem_singleton] at hx
    rcases hx with (hx | rfl) | hx
    · exact hlens x (List.mem_of_mem_take hx)
    · exact hc9
    · exact hlens x (List.mem_of_mem_drop hx)
  have hlen' : (es.take i ++ [c] ++ es.drop i).length = es.length + 1 := by simp only [List.length_append, List.length_take, List.length_drop, List.length_singleton]; omega
  unfold CallY
  rw [run_enter (show entersP Tryd.prog 50 = true by kernel_rfl)]
  simp only
  by_cases hin : i = es.length
  · subst hin
    refine (ins_end es.length vb vo vc v xs cv w hn hown hcv hcs hone).mono ?_
    rintro e w' ⟨v', rfl, q1, q2, q3⟩
    refine ⟨v', rfl, ?_⟩
    have e1 : xs.take (es.length * 9) ++ cv ++ xs.drop (es.length * 9) = xs ++ cv := by rw [List.take_of_length_le (by omega), List.drop_eq_nil_of_le (by omega), List.append_nil]
    rw [e1] at hnew
    exact row_post hG hok q2 q3 (by rw [hlen']; exact q1) hnew hle
  · rcases hown.2 with ⟨rfl, h0⟩ | ⟨g, cap, cur, rfl, hbg, hb, hnc, hcm, hcur, htake⟩
    · omega
    · have hvg : vb ≠ g := fun e => (hok vb hvk).2 (by simp [Value.ownBlock, e])
      have hc63 : cap ≤ 9223372036854775807 := by unfold maxLen at hcm; omega
      have hgl : g < w.heap.size := (Array.getElem?_eq_some_iff.1 hb).1
      by_cases hroom : es.length + 1 ≤ cap
      · refine (ins_shift g es.length cap i vb vo vc 51 cur xs cv w (by omega) hroom hc63 hb hcur htake hvg hcv hcs honx hone).mono ?_
        rintro e w' ⟨rfl, row, rfl, r1, r2⟩
        refine ⟨_, rfl, row_post hG hok ⟨rfl, rfl, rfl, by simp only [World.setRow, Array.size_modify]; exact Nat.le_refl _, fun k hk hx => setRow_other w.drew g k row fun e => hx (by simp [Value.ownBlock, e])⟩ (.inl rfl) ⟨?_, .inr ⟨g, cap, row, by rw [hlen'], hbg, setRow_heap w.drew g cur row 51 _ hb, by rw [hlen']; exact hroom, hcm, r1, by rw [hlen']; exact r2⟩⟩ hnew hle⟩
        rw [hlen']; simp only [List.length_append, List.length_take, List.length_drop, hcv, hxl]; omega
      · refine (ins_grow g es.length cap i vb vo vc 51 cur xs cv w (by omega) hnc (by omega) hn hb hcur htake hvg hcv hcs honx hone).mono ?_
        rintro e w' ⟨G', ROW, row, rfl, g1, g2, rfl, r1, r2⟩
        have hnewb : ((w.alloc (.cells ROW 51)).drew.drew).heap[w.heap.size]? = some (.cells ROW 51 (0, 0)) := by
          show (w.heap.push (.cells ROW 51))[w.heap.size]? = _
          rw [Array.getElem?_push_size]
        refine ⟨_, rfl, row_post hG hok ⟨rfl, rfl, rfl, by simp only [World.setRow, Array.size_modify]; show w.heap.size ≤ (w.heap.push _).size; rw [Array.size_push]; omega, fun k hk hx => ?_⟩ (.inr rfl) ⟨?_, .inr ⟨w.heap.size, G', row, by rw [hlen'], Nat.zero_le _, setRow_heap _ _ ROW row 51 _ hnewb, by rw [hlen']; exact g1, g2, r1, by rw [hlen']; exact r2⟩⟩ hnew hle⟩
        · rw [setRow_other _ _ _ _ (by omega)]
          show (w.heap.push (.cells ROW 51))[k]? = _
          rw [Array.getElem?_push_lt hk, Array.getElem?_eq_getElem hk]
        · rw [hlen']; simp only [List.length_append, List.length_take, List.length_drop, hcv, hxl]; omega
end Go.Proofs
set_option linter.unusedVariables false
set_option linter.unusedSimpArgs false
set_option maxRecDepth 100000
set_option maxHeartbeats 4000000
namespace Go.Proofs
open Go.Shelf Go.RowKit Go.Lib Go.Sx
theorem delete_okE {G : Gr} (hG : G.strict = false) (es : List (List FV)) (i : Nat) (hi : i < es.length) (hn : es.length ≤ 1000000) (h1 : oneF es) : CallsW Tryd.prog G 46 51 9 es [.sc (.int .i64 (i : Int)), .sc (.int .i64 ((i + 1 : Nat) : Int))] (es.take i ++ es.drop (i + 1)) none := by
  intro w ok v xs vs _ hok _ hown hfr hlens hvs
  simp only [FRelL, FRel] at hvs
  obtain ⟨u1, r1, rfl, rfl, u2, r2, rfl, rfl, rfl⟩ := hvs
  have honx : ∀ u ∈ xs, u.oneCell' = true := FRelL.oneCell _ _ h1 hfr
  have hxl : xs.length = es.length * 9 := hown.1
  have hfl : ((es.take i).flatten).length = i * 9 := by rw [flat_len9 _ fun x hx => hlens x (List.mem_of_mem_take hx), List.length_take, Nat.min_eq_left (by omega)]
  have hfl2 : ((es.take (i + 1)).flatten).length = (i + 1) * 9 := by rw [flat_len9 _ fun x hx => hlens x (List.mem_of_mem_take hx), List.length_take, Nat.min_eq_left (by omega)]
  have hsp := FRelL.split (es.take i).flatten (es.drop i).flatten xs (by rw [← List.flatten_append, List.take_append_drop]; exact hfr)
  have hsp2 := FRelL.split (es.take (i + 1)).flatten (es.drop (i + 1)).flatten xs (by rw [← List.flatten_append, List.take_append_drop]; exact hfr)
  rw [hfl] at hsp
  rw [hfl2] at hsp2
  have hnew : FRelL w ok (es.take i ++ es.drop (i + 1)).flatten (xs.take (i * 9) ++ xs.drop ((i + 1) * 9)) := by
    rw [List.flatten_append]
    exact FRelL.append _ _ _ _ hsp.1 hsp2.2
  have hle : ∀ x ∈ es.take i ++ es.drop (i + 1), x.length = 9 := fun x hx => by
    simp only [List.mem_append] at hx
    rcases hx with hx | hx
    · exact hlens x (List.mem_of_mem_take hx)
    · exact hlens x (List.mem_of_mem_drop hx)
  have hlen' : (es.take i ++ es.drop (i + 1)).length = es.length - 1 := by simp only [List.length_append, List.length_take, List.length_drop]; omega
  unfold CallY
  rw [run_enter (show entersP Tryd.prog 46 = true by kernel_rfl)]
  simp only
  rcases hown.2 with ⟨rfl, h0⟩ | ⟨g, cap, cur, rfl, hbg, hb, hnc, hcm, hcur, htake⟩
  · omega
  · have hc63 : cap ≤ 9223372036854775807 := by unfold maxLen at hcm; omega
    by_cases hc1 : cap = i + 1
    · have hen : es.length = i + 1 := by omega
      subst hc1
      rw [hen] at htake ⊢
      refine (del_full g i 51 cur xs w (by omega) hb hcur htake).mono ?_
      rintro e w' ⟨rfl, row, rfl, r1, r2⟩
      have e1 : xs.take (i * 9) ++ xs.drop ((i + 1) * 9) = xs.take (i * 9) := by rw [List.drop_eq_nil_of_le (by omega), List.append_nil]
      rw [e1] at hnew
      rw [hen] at hok
      refine ⟨_, rfl, row_post hG hok ⟨rfl, rfl, rfl, by simp only [World.setRow, Array.size_modify]; exact Nat.le_refl _, fun k hk hx => setRow_other w.drew g k row fun e => hx (by simp [Value.ownBlock, e])⟩ (.inl rfl) ⟨?_, .inr ⟨g, i + 1, row, by rw [hlen', hen, Nat.add_sub_cancel], hbg, setRow_heap w.drew g cur row 51 _ hb, by rw [hlen', hen]; omega, hcm, r1, by rw [hlen', hen, Nat.add_sub_cancel]; exact r2⟩⟩ hnew hle⟩
      rw [hlen', hen, List.length_take]; omega
    · refine (del_one g es.length cap i 51 cur xs w hi hnc hn hc63 hc1 hb hcur htake honx).mono ?_
      rintro e w' ⟨rfl, row, rfl, r1, r2⟩
      refine ⟨_, rfl, row_post hG hok ⟨rfl, rfl, rfl, by simp only [World.setRow, Array.size_modify]; exact Nat.le_refl _, fun k hk hx => setRow_other w.drew g k row fun e => hx (by simp [Value.ownBlock, e])⟩ (.inl rfl) ⟨?_, .inr ⟨g, cap, row, by rw [hlen'], hbg, setRow_heap w.drew g cur row 51 _ hb, by rw [hlen']; omega, hcm, r1, by rw [hlen']; exact r2⟩⟩ hnew hle⟩
      rw [hlen']; simp only [List.length_append, List.length_take, List.length_drop, hxl]; omega
end Go.Proofs
set_option linter.unusedVariables false
set_option linter.unusedSimpArgs false
set_option maxRecDepth 100000
set_option maxHeartbeats 4000000
namespace Go.Proofs
open Go.Shelf Go.RowKit Go.Lib Go.Sx
theorem ins_shiftP (g n c i vb vo vc : Nat) (et : TypeId) (cur : Array Value) (cs vs : List Value) (w : World) (hi : i < n) (hroom : n + 1 ≤ c) (hc63 : c ≤ 9223372036854775807) (hb : w.heap[g]? = some (.cells cur et (0, 0))) (hcur : cur.size = c) (hcs : cur.toList.take (n) = cs)
    (hvb : vb ≠ g) (hvl : vs.length = 1) (hvs : ∀ j v, vs[j]? = some v → w.cell? ⟨vb, vo + j, none⟩ = some v) (h1c : ∀ v ∈ cs, v.oneCell' = true) (h1v : ∀ v ∈ vs, v.oneCell' = true) :
    Calls Tryd.prog 60 #[.slice (some ⟨g, 0, none⟩) n c, .int .i64 i, .slice (some ⟨vb, vo, none⟩) 1 vc] w fun e w' =>
      e = .returned (.slice (some ⟨g, 0, none⟩) (n + 1) c) ∧ ∃ row : Array Value, w' = w.drew.setRow g row ∧ row.size = c ∧ row.toList.take ((n + 1)) = cs.take (i) ++ vs ++ cs.drop (i) := by
  have hcl : cs.length = n := by rw [← hcs, List.length_take, Array.length_toList]; omega
  have hsz : (Tryd.prog.info? 53).map (·.size) = some 1 := by kernel_rfl
  have hz2 : ¬ ((i : Int) = (n : Int)) := by omega
  have hw1 : IntKind.i64.wrap ((i : Int) + (1 : Int)) = (i : Int) + (1 : Int) := by rw [IntKind.wrap_i64]; omega
  have hw2 : IntKind.i64.wrap ((n : Int) + (1 : Int)) = (n : Int) + (1 : Int) := by rw [IntKind.wrap_i64]; omega
  have hb1 : (0 : Int) ≤ (i : Int) + (1 : Int) := by omega
  have hin : i ≤ n := by omega
  have htn : ((i : Int) + (1 : Int)).toNat = i + 1 := by omega
  have hb2 : ¬ (c = i + 1) := by omega
  have hb3 : (i : Int) ≤ (n : Int) + (1 : Int) := by omega
  have hb4 : ¬ (c = i) := by omega
  have hv0 : ∃ v, w.cell? ⟨vb, vo, none⟩ = some v := by
    obtain ⟨v, hv⟩ : ∃ v, vs[0]? = some v := ⟨vs[0], List.getElem?_eq_getElem (by omega)⟩
    exact ⟨v, by simpa using hvs 0 v hv⟩
  obtain ⟨v0, hv0⟩ := hv0
  have hov : ∀ lb cb, (callFunc 71 #[.slice (some ⟨vb, vo, none⟩) 1 vc, .slice (some ⟨g, (i + 1), none⟩) lb cb]).run Tryd.prog w = .ok (.value (.bool false)) w := fun lb cb => by
    rw [run_callFunc_extern Tryd.func71 (by kernel_rfl) (by kernel_rfl) (by kernel_rfl) (e := Extern.SlicesOverlaps.overlaps #[59, 59] #[4]) (by kernel_rfl),
      run_overlaps_own w 59 4 53 (by kernel_rfl) 1 Tryd.sizeOf53 ⟨vb, vo, none⟩ ⟨g, (i + 1), none⟩ 1 vc lb cb hvb v0 hv0 cur et hb]
    rfl
  have mixed : Tryd.prog.follows .mixedOrders = true := by kernel_rfl
  have hcl' : cur.toList.length = c := by rw [Array.length_toList]; exact hcur
  have hat : ∀ (W : World), W.heap[g]? = some (.cells cur et (0, 0)) → ∀ j v, cs[j]? = some v → W.cell? ⟨g, j, none⟩ = some v := fun W hW j v hj => by
    rw [← hcs, List.getElem?_take] at hj
    split at hj
    · simp only [World.cell?, hW, Option.isSome_none, Bool.false_eq_true, if_false]
      rw [← Array.getElem?_toList]; exact hj
    · cases hj
  have hdl : (cs.drop (i)).length = (n - i) := by rw [List.length_drop, hcl]
  obtain ⟨row1, hr1⟩ : ∃ row1 : Array Value, row1 = (cur.toList.take ((i + 1)) ++ cs.drop (i) ++ cur.toList.drop ((i + 1) + (cs.drop (i)).length)).toArray := ⟨_, rfl⟩
  have hbd : w.drew.heap[g]? = some (.cells cur et (0, 0)) := hb
  have hcp1 : ∀ ty dc sc, (Builtin.copy_ #[59, 59] ty #[.slice (some ⟨g, (i + 1), none⟩) (n - i) dc, .slice (some ⟨g, i, none⟩) (n + 1 - i) sc]).run Tryd.prog w.drew = .ok (goInt (Nat.min (n + 1 - i) (n - i))) (w.drew.setRow g row1) := fun ty dc sc => by
    rw [hr1]
    exact run_copyRowK w.drew 59 59 ty 53 1 g ((i + 1)) (n - i) dc ⟨g, i, none⟩ (n + 1 - i) sc cur et (cs.drop (i)) (by kernel_rfl) hsz hbd (by rw [hdl]; congr 1; simp only [Nat.min_def]; split <;> omega)
      (fun j v hj => by rw [Addr.add_lit]; exact hat _ hbd _ v (by rwa [List.getElem?_drop] at hj)) (by rw [hdl, hcur]; omega) (fun v hv => h1c v (List.mem_of_mem_drop hv))
  have hr1l : row1.size = c := by
    simp only [hr1, List.size_toArray, List.length_append, List.length_take, List.length_drop, hcl', hcl]; omega
  have hb1' : ∀ W : World, W = w.drew.setRow g row1 → W.heap[g]? = some (.cells row1 et (0, 0)) := fun W hW => by rw [hW]; exact setRow_heap w.drew g cur row1 et _ hbd
  have hvs1 : ∀ j v, vs[j]? = some v → (w.drew.setRow g row1).cell? ⟨vb, vo + j, none⟩ = some v := fun j v hj => by
    rw [cell_setRow_other _ _ _ _ hvb]; exact hvs j v hj
  have hcp2 : ∀ ty dc, (Builtin.copy_ #[59, 59] ty #[.slice (some ⟨g, i, none⟩) (n + 1 - i) dc, .slice (some ⟨vb, vo, none⟩) 1 vc]).run Tryd.prog (w.drew.setRow g row1) = .ok (goInt (Nat.min 1 (n + 1 - i))) ((w.drew.setRow g row1).setRow g (row1.toList.take (i) ++ vs ++ row1.toList.drop (i + vs.length)).toArray) := fun ty dc =>
    run_copyRowK _ 59 59 ty 53 1 g (i) (n + 1 - i) dc ⟨vb, vo, none⟩ 1 vc row1 et vs (by kernel_rfl) hsz (hb1' _ rfl) (by rw [hvl]; simp only [Nat.min_def]; split <;> omega)
      (fun j v hj => by rw [Addr.add_lit]; exact hvs1 j v hj) (by rw [hvl, hr1l]; omega) h1v
  have hfin : (row1.toList.take (i) ++ vs ++ row1.toList.drop (i + vs.length)).take ((n + 1)) = cs.take (i) ++ vs ++ cs.drop (i) := by
    have a1 : row1.toList.take (i) = cs.take (i) := by
      rw [hr1, List.append_assoc, List.take_append_of_le_length (by rw [List.length_take, hcl']; omega), List.take_take, ← hcs, List.take_take]
      congr 1; omega
    have a2 : row1.toList.drop (i + vs.length) = cs.drop (i) ++ cur.toList.drop ((i + 1) + (cs.drop (i)).length) := by
      rw [hr1, List.append_assoc, hvl, List.drop_append_of_le_length (by rw [List.length_take, hcl']; omega), List.drop_eq_nil_of_le (by rw [List.length_take, hcl']; omega), List.nil_append]
    rw [a1, a2, ← List.append_assoc, List.take_append_of_le_length (by simp only [List.length_append, List.length_take, List.length_drop, hcl, hvl]; omega), List.take_of_length_le (by simp only [List.length_append, List.length_take, List.length_drop, hcl, hvl]; omega)]
  clear hr1
  go_enter Tryd.func60, Tryd.ntmps60
  go_wp2_with (simp only [hov])
  go_region_law_o (refine step_copy_runI rfl _ _ 59 59 rfl _ _ (by simp [Act.eval, Act.put]) (by simp [Act.eval, Act.put]) (hcp1 _ _ _) ?_)
  go_wp2_with (at_builtin; refine wpList_copy_runI _ rfl _ _ 59 59 rfl _ _ rfl rfl (hcp2 _ _) ?_)
  go_ret
  refine ⟨rfl, _, setRow_setRow _ _ _ _, ?_, ?_⟩
  · simp only [List.size_toArray, List.length_append, List.length_take, List.length_drop, hvl, Array.length_toList, hr1l]; omega
  · have h := hfin
    rw [hvl] at h
    simpa only [List.append_assoc, List.toList_toArray] using h
end Go.Proofs

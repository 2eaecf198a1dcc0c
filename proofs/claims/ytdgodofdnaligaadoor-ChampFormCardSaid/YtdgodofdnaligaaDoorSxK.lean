/-
  Proved: what some functions of the program answer, or a law of the evaluator that shows it, one theorem each; its conditions are the hypotheses that stand ahead of it.
-/
import Derived.Test.YtdgodofdnaligaaDoorSxJ
import Derived.Orders
set_option linter.unusedVariables false
set_option linter.unusedSimpArgs false
namespace Go.Sx
open Go.RowKit
section
variable {P : Program} {G : Gr} {X : Nat → Prop} {ok0 : Nat → Prop} {w0 w w' : World} {tv : Nat → Value} {en en' : Env} {st st' : St} {a : Act} {ops : Array Oper} {ρ : Operand → Value}
theorem okS_new (hm : Mem G X ok0 w0 st.ob st.nx w en) {w' : World} {b : Nat} (h1 : w.heap.size ≤ b) (h2 : b < w'.heap.size) : okS ok0 w0 w' st.ob en b := by
  refine ⟨.inr (Nat.le_trans hm.ext.size h1), h2, fun k o hk e => ?_, fun hD => by have := (hm.dsl b hD).2.1; omega⟩
  have := (hm.obs k o hk).2.2.2.lt e
  omega
theorem dval_sound {o : Oper} {hs hs' : List Hint} {p : Option Prop} {r : AV} (hm : Mem G X ok0 w0 st.ob st.nx w en)
    (ho : OpsRel w (okS ok0 w0 w st.ob en) en st.nx st ρ o.op.operands.toList) (h : dval P G st o hs = some (p, r, hs')) (hp : hold p) :
    r.bd st.nx ∧ OpY P o ρ w (fun v w' => Ext G w w' ∧ ARel w' (okS ok0 w0 w' st.ob en) en r v) := by
  unfold dval at h
  split at h
  · rename_i t x hop
    split at h
    · rename_i cs hcs
      split at h
      · rename_i c hc
        simp only [Option.some.injEq, Prod.mk.injEq] at h
        obtain ⟨rfl, rfl, rfl⟩ := h
        have hx := ho x (by simp [hop, Op.operands])
        obtain ⟨h1, h2⟩ := cellsAV_rel hcs hx.1 hx.2
        refine ⟨by simp [AV.bd], OpY.of_value (v := .pointer (some ⟨w.heap.size, 0, none⟩)) (w' := w.alloc (.cells (ρ x).cells t)) (by simp [execOp, hop, Instr.box, newVar, newRow, Result.andThen]) ⟨(Ext.refl w).alloc _, ?_⟩⟩
        simp only [ARel, FRel]
        refine ⟨w.heap.size, 0, rfl, okS_new hm (Nat.le_refl _) (by simp), FRelC.of c _ _ 0 (FRelL.carry (carry_ext (G := G) ((Ext.refl w).alloc _)) _ _ (toFL_rel _ _ _ hc h1)) fun j v hj => ?_⟩
        rw [cell_of_row _ _ _ (ρ x).cells t (0, 0) (heap_alloc_new w _)]
        simpa using hj
      · cases h
    · cases h
  · rename_i t n ps hop
    split at h
    · cases h
    · rename_i e he
      split at h
      · cases h
      · rename_i ie hie
        split at h
        · cases h
        · rename_i zv hz
          split at h
          · rename_i hcond
            simp only [decide_eq_true_eq] at hcond
            split at h
            · rename_i cs hcs
              split at h
              · rename_i fs hfs
                split at h
                · rename_i hlen
                  simp only [beq_iff_eq] at hlen
                  simp only [Option.some.injEq, Prod.mk.injEq] at h
                  obtain ⟨rfl, rfl, rfl⟩ := h
                  have hz0 := fV1_relA w (okS ok0 w0 w st.ob en) en ((List.range (n * ie.size)).map fun i => zv.cells[i % zv.cells.size]!)
                  have hzz : (zcells zv (n * ie.size)).map AV.f = ((List.range (n * ie.size)).map fun i => zv.cells[i % zv.cells.size]!).map fun v => AV.f (fV1 v) := by simp [zcells]
                  obtain ⟨cells, h1, h2, h3⟩ := fill_rel (w := w) (en := en) (ρ := ρ) (st := st) (ok := okS ok0 w0 w st.ob en) (nx := st.nx) (fun i => some (i * ie.size, ie.size)) ps.toList _ cs ((Array.range (n * ie.size)).map (zv.cells[· % zv.cells.size]!))
                    (fun x hx => ho x (by
                      obtain ⟨q, hq, rfl⟩ := List.mem_map.1 hx
                      simp only [hop, Op.operands]
                      exact List.mem_map.2 ⟨q, hq, rfl⟩)) hcs (by rw [hzz]; simpa [Array.toList_map] using hz0.1) (.inr (by rw [hzz]; exact hz0.2 _))
                  have hF := toFL_rel _ _ _ hfs h2
                  obtain ⟨c1, c2, c3⟩ := chunk_spec ie.size n fs hlen
                  have eps : (ps.map fun (i, x) => (i, ρ x)).toList = ps.toList.map fun q => (q.1, ρ q.2) := by simp
                  have hb : (Instr.buildSlice t n (ps.map fun (i, x) => (i, ρ x))).run P w = .ok (.slice (some ⟨w.heap.size, 0, none⟩) n n) (w.alloc (.cells cells e)) := by
                    rw [← eps] at h1
                    by_cases h0 : n * ie.size = 0
                    · rw [h0] at h1
                      simp only [Array.range_zero', Array.map_empty, Array.toList_map] at h1
                      simp [Instr.buildSlice, run_underlying (elemP_under he), sizeOf, typeInfo, hie, h0, newRow, h1, Result.andThen, Array.range_zero']
                    · exact run_buildSlice w t e n _ cells ie zv (elemP_under he) hie hz (by omega) h0 h1
                  refine ⟨by simp [AV.bd], OpY.of_value (v := .slice (some ⟨w.heap.size, 0, none⟩) n n) (w' := w.alloc (.cells cells e)) (by simp only [execOp, hop, Sem.run_bind, hb, Result.andThen]; rfl) ⟨(Ext.refl w).alloc _, ?_⟩⟩
                  simp only [ARel, FRel]
                  refine .inr ⟨w.heap.size, 0, n, by rw [c2], by rw [c2]; exact Nat.le_refl _, okS_new hm (Nat.le_refl _) (by simp), FRelE.of _ cells.toList _ 0 c3 (by rw [c1]; exact FRelL.carry (carry_ext (G := G) ((Ext.refl w).alloc _)) _ _ hF) fun j v hj => ?_⟩
                  rw [cell_of_row _ _ _ cells e (0, 0) (heap_alloc_new w _)]
                  simpa using hj
                · cases h
              · cases h
            · cases h
          · cases h
  · split at h
    · cases h
    · exact pval_sound hm ho h hp
/-! ### What was found, one by one -/
def DFact (P : Program) (G : Gr) (ops : Array Oper) (st : St) (o : Oper) (r : AV) : Prop :=
  match o.guard with
  | none => ∃ p hs hs', dval P G st o hs = some (p, r, hs') ∧ hold p
  | some (j, want) => (∃ t b, guardOf ops j = some t ∧ st.sl.getD t (.f .any) = .f (.sc (.bool b)) ∧ ((b = want ∧ ∃ p hs hs', dval P G st o hs = some (p, r, hs') ∧ hold p) ∨ (b ≠ want ∧ r = .f (.sc undef)))) ∨
    (∃ t v, guardOf ops j = some t ∧ st.sl.getD t (.f .any) = .f (.sc v) ∧ (∀ b, v ≠ .bool b) ∧ r = .f (.sc undef))
def stAt (st : St) (L : List (Oper × AV)) (i : Nat) : St := (L.take i).foldl (fun st p => st.put p.1.dst p.2) st
theorem stAt_succ {L : List (Oper × AV)} {i : Nat} {p : Oper × AV} (h : L[i]? = some p) : stAt st L (i + 1) = (stAt st L i).put p.1.dst p.2 := by
  unfold stAt
  rw [List.take_add_one, h, List.foldl_append]
  rfl
theorem row_facts {K : St → List Hint → Prop} : ∀ (l : List Oper) (dd : List Nat) (st : St) (hs : List Hint), evalRow ops (dstep P G) l dd st hs K →
    ∃ L : List (Oper × AV), L.map (·.1) = l ∧ (∀ i p, L[i]? = some p → DFact P G ops (stAt st L i) p.1 p.2) ∧ ∃ hs', K (stAt st L L.length) hs'
  | [], dd, st, hs, h => ⟨[], rfl, by simp, hs, h⟩
  | o :: l, dd, st, hs, h => by
    have go : ∀ (r : AV) (dd : List Nat) (hs : List Hint), DFact P G ops st o r → evalRow ops (dstep P G) l dd (st.put o.dst r) hs K →
        ∃ L : List (Oper × AV), L.map (·.1) = o :: l ∧ (∀ i p, L[i]? = some p → DFact P G ops (stAt st L i) p.1 p.2) ∧ ∃ hs', K (stAt st L L.length) hs' := by
      intro r dd hs hf hv
      obtain ⟨L, h1, h2, h3⟩ := row_facts l dd _ hs hv
      refine ⟨(o, r) :: L, by simp [h1], ?_, by simpa [stAt] using h3⟩
      intro i p hi
      cases i with
      | zero => simp at hi; subst hi; simpa [stAt] using hf
      | succ i => have := h2 i p (by simpa using hi); simpa [stAt] using this
    have step : ∀ (st1 : St) (dd : List Nat) (hs : List Hint), st1 = st → dstep P G st1 o hs (fun st hs => evalRow ops (dstep P G) l dd st hs K) → (∀ r, (∃ p hs hs', dval P G st o hs = some (p, r, hs') ∧ hold p) → DFact P G ops st o r) →
        ∃ L : List (Oper × AV), L.map (·.1) = o :: l ∧ (∀ i p, L[i]? = some p → DFact P G ops (stAt st L i) p.1 p.2) ∧ ∃ hs', K (stAt st L L.length) hs' := by
      rintro st1 dd hs rfl hv hf
      unfold dstep at hv
      split at hv
      · rename_i p r hs' hd
        rw [andO_iff] at hv
        exact go r dd hs' (hf r ⟨p, hs, hs', hd, hv.1⟩) hv.2
      · exact hv.elim
    simp only [evalRow] at h
    split at h
    · rename_i hg
      exact step st dd hs rfl h fun r hr => by unfold DFact; rw [hg]; exact hr
    · rename_i j want hg
      split at h
      · exact h.elim
      · rename_i t ht
        split at h
        · rename_i b hb
          split at h
          · split at h
            · rename_i hbw
              exact step st _ hs rfl h fun r hr => by unfold DFact; rw [hg]; exact .inl ⟨t, b, ht, hb, .inl ⟨hbw, hr⟩⟩
            · rename_i hbw
              exact go _ _ _ (by unfold DFact; rw [hg]; exact .inl ⟨t, b, ht, hb, .inr ⟨hbw, rfl⟩⟩) h
          · split at h
            · rename_i d hs2
              obtain ⟨rfl, h⟩ := h
              split at h
              · rename_i hbw
                exact step _ _ _ (put_same hb) h fun r hr => by unfold DFact; rw [hg]; exact .inl ⟨t, b, ht, hb, .inl ⟨hbw, hr⟩⟩
              · rename_i hbw
                rw [put_same hb] at h
                exact go _ _ _ (by unfold DFact; rw [hg]; exact .inl ⟨t, b, ht, hb, .inr ⟨hbw, rfl⟩⟩) h
            · obtain ⟨g1, g2⟩ := h
              cases b with
              | true =>
                have h := g1 rfl
                cases want with
                | true => exact step _ _ _ (put_same hb) h fun r hr => by unfold DFact; rw [hg]; exact .inl ⟨t, true, ht, hb, .inl ⟨rfl, hr⟩⟩
                | false =>
                  simp only at h
                  rw [put_same hb] at h
                  exact go _ _ _ (by unfold DFact; rw [hg]; exact .inl ⟨t, true, ht, hb, .inr ⟨by simp, rfl⟩⟩) h
              | false =>
                have h := g2 rfl
                cases want with
                | true =>
                  simp only at h
                  rw [put_same hb] at h
                  exact go _ _ _ (by unfold DFact; rw [hg]; exact .inl ⟨t, false, ht, hb, .inr ⟨by simp, rfl⟩⟩) h
                | false => exact step _ _ _ (put_same hb) h fun r hr => by unfold DFact; rw [hg]; exact .inl ⟨t, false, ht, hb, .inl ⟨rfl, hr⟩⟩
            · exact h.elim
        · rename_i v hnb hb
          exact go _ _ _ (by unfold DFact; rw [hg]; exact .inr ⟨t, v, ht, hb, fun b e => hnb b e, rfl⟩) h
        · exact h.elim
/-! ### With a new object among them -/
def DVA (P : Program) (G : Gr) (st : St) (o : Oper) (r : AV) : Prop := (∃ p hs hs', dval P G st o hs = some (p, r, hs') ∧ hold p) ∨ (isAl o = true ∧ r = .f .any)
def DFactA (P : Program) (G : Gr) (ops : Array Oper) (st : St) (o : Oper) (r : AV) : Prop :=
  match o.guard with
  | none => DVA P G st o r
  | some (j, want) => (∃ t b, guardOf ops j = some t ∧ st.sl.getD t (.f .any) = .f (.sc (.bool b)) ∧ ((b = want ∧ DVA P G st o r) ∨ (b ≠ want ∧ r = .f (.sc undef)))) ∨
    (∃ t v, guardOf ops j = some t ∧ st.sl.getD t (.f .any) = .f (.sc v) ∧ (∀ b, v ≠ .bool b) ∧ r = .f (.sc undef))
theorem DFactA.fact {st : St} {o : Oper} {r : AV} (h : DFactA P G ops st o r) (hn : isAl o = false) : DFact P G ops st o r := by
  have h1 : ∀ r, DVA P G st o r → ∃ p hs hs', dval P G st o hs = some (p, r, hs') ∧ hold p := by
    rintro r (h | ⟨h, _⟩)
    · exact h
    · rw [hn] at h; cases h
  cases hg : o.guard with
  | none =>
    simp only [DFactA, hg] at h
    simp only [DFact, hg]
    exact h1 _ h
  | some q =>
    obtain ⟨j, want⟩ := q
    simp only [DFactA, hg] at h
    simp only [DFact, hg]
    rcases h with ⟨t, b, a1, a2, ⟨a3, a4⟩ | a3⟩ | h
    · exact .inl ⟨t, b, a1, a2, .inl ⟨a3, h1 _ a4⟩⟩
    · exact .inl ⟨t, b, a1, a2, .inr a3⟩
    · exact .inr h
theorem DFactA.any {st : St} {o : Oper} {r : AV} {t : TypeId} (h : DFactA P G ops st o r) (hop : o.op = .alloc t) (hg : o.guard = none) : r = .f .any := by
  unfold DFactA at h
  rw [hg] at h
  rcases h with ⟨p, hs, hs', hd, _⟩ | ⟨_, h⟩
  · exfalso
    unfold dval at hd
    simp [hop, isMem] at hd
  · exact h
theorem row_factsA {K : St → List Hint → Prop} : ∀ (l : List Oper) (dd : List Nat) (st : St) (hs : List Hint), evalRow ops (dstepA P G) l dd st hs K →
    ∃ L : List (Oper × AV), L.map (·.1) = l ∧ (∀ i p, L[i]? = some p → DFactA P G ops (stAt st L i) p.1 p.2) ∧ ∃ hs', K (stAt st L L.length) hs'
  | [], dd, st, hs, h => ⟨[], rfl, by simp, hs, h⟩
  | o :: l, dd, st, hs, h => by
    have go : ∀ (r : AV) (dd : List Nat) (hs : List Hint), DFactA P G ops st o r → evalRow ops (dstepA P G) l dd (st.put o.dst r) hs K →
        ∃ L : List (Oper × AV), L.map (·.1) = o :: l ∧ (∀ i p, L[i]? = some p → DFactA P G ops (stAt st L i) p.1 p.2) ∧ ∃ hs', K (stAt st L L.length) hs' := by
      intro r dd hs hf hv
      obtain ⟨L, h1, h2, h3⟩ := row_factsA l dd _ hs hv
      refine ⟨(o, r) :: L, by simp [h1], ?_, by simpa [stAt] using h3⟩
      intro i p hi
      cases i with
      | zero => simp at hi; subst hi; simpa [stAt] using hf
      | succ i => have := h2 i p (by simpa using hi); simpa [stAt] using this
    have step : ∀ (st1 : St) (dd : List Nat) (hs : List Hint), st1 = st → dstepA P G st1 o hs (fun st hs => evalRow ops (dstepA P G) l dd st hs K) → (∀ r, DVA P G st o r → DFactA P G ops st o r) →
        ∃ L : List (Oper × AV), L.map (·.1) = o :: l ∧ (∀ i p, L[i]? = some p → DFactA P G ops (stAt st L i) p.1 p.2) ∧ ∃ hs', K (stAt st L L.length) hs' := by
      rintro st1 dd hs rfl hv hf
      unfold dstepA at hv
      split at hv
      · rename_i hal
        exact go _ dd hs (hf _ (.inr ⟨hal, rfl⟩)) hv
      · unfold dstep at hv
        split at hv
        · rename_i p r hs' hd
          rw [andO_iff] at hv
          exact go r dd hs' (hf r (.inl ⟨p, hs, hs', hd, hv.1⟩)) hv.2
        · exact hv.elim
    simp only [evalRow] at h
    split at h
    · rename_i hg
      exact step st dd hs rfl h fun r hr => by unfold DFactA; rw [hg]; exact hr
    · rename_i j want hg
      split at h
      · exact h.elim
      · rename_i t ht
        split at h
        · rename_i b hb
          split at h
          · split at h
            · rename_i hbw
              exact step st _ hs rfl h fun r hr => by unfold DFactA; rw [hg]; exact .inl ⟨t, b, ht, hb, .inl ⟨hbw, hr⟩⟩
            · rename_i hbw
              exact go _ _ _ (by unfold DFactA; rw [hg]; exact .inl ⟨t, b, ht, hb, .inr ⟨hbw, rfl⟩⟩) h
          · split at h
            · rename_i d hs2
              obtain ⟨rfl, h⟩ := h
              split at h
              · rename_i hbw
                exact step _ _ _ (put_same hb) h fun r hr => by unfold DFactA; rw [hg]; exact .inl ⟨t, b, ht, hb, .inl ⟨hbw, hr⟩⟩
              · rename_i hbw
                rw [put_same hb] at h
                exact go _ _ _ (by unfold DFactA; rw [hg]; exact .inl ⟨t, b, ht, hb, .inr ⟨hbw, rfl⟩⟩) h
            · obtain ⟨g1, g2⟩ := h
              cases b with
              | true =>
                have h := g1 rfl
                cases want with
                | true => exact step _ _ _ (put_same hb) h fun r hr => by unfold DFactA; rw [hg]; exact .inl ⟨t, true, ht, hb, .inl ⟨rfl, hr⟩⟩
                | false =>
                  simp only at h
                  rw [put_same hb] at h
                  exact go _ _ _ (by unfold DFactA; rw [hg]; exact .inl ⟨t, true, ht, hb, .inr ⟨by simp, rfl⟩⟩) h
              | false =>
                have h := g2 rfl
                cases want with
                | true =>
                  simp only at h
                  rw [put_same hb] at h
                  exact go _ _ _ (by unfold DFactA; rw [hg]; exact .inl ⟨t, false, ht, hb, .inr ⟨by simp, rfl⟩⟩) h
                | false => exact step _ _ _ (put_same hb) h fun r hr => by unfold DFactA; rw [hg]; exact .inl ⟨t, false, ht, hb, .inl ⟨rfl, hr⟩⟩
            · exact h.elim
        · rename_i v hnb hb
          exact go _ _ _ (by unfold DFactA; rw [hg]; exact .inr ⟨t, v, ht, hb, fun b e => hnb b e, rfl⟩) h
        · exact h.elim
/-! ### The states' slots -/
theorem put_ob (d : Option Tmp) (x : AV) : (st.put d x).ob = st.ob ∧ (st.put d x).nx = st.nx ∧ (st.put d x).sl.length = st.sl.length := by
  cases d <;> simp [St.put]
theorem stAt_same (L : List (Oper × AV)) : ∀ i, (stAt st L i).ob = st.ob ∧ (stAt st L i).nx = st.nx ∧ (stAt st L i).sl.length = st.sl.length
  | 0 => by simp [stAt]
  | i + 1 => by
    have ih := stAt_same L i
    cases h : L[i]? with
    | none =>
      have : stAt st L (i + 1) = stAt st L i := by
        unfold stAt
        rw [List.take_add_one, h]
        simp
      rw [this]; exact ih
    | some p =>
      rw [stAt_succ h]
      have := put_ob (st := stAt st L i) p.1.dst p.2
      exact ⟨this.1.trans ih.1, this.2.1.trans ih.2.1, this.2.2.trans ih.2.2⟩
theorem put_kp {d : Option Tmp} {x : AV} {t : Nat} (h : t ∈ (st.put d x).kp) : t ∈ st.kp ∧ d ≠ some t := by
  cases d with
  | none => exact ⟨h, by simp⟩
  | some d =>
    simp only [St.put, List.mem_filter, bne_iff_ne, ne_eq] at h
    exact ⟨h.1, fun e => h.2 (by simpa using e.symm)⟩
theorem stAt_kp (L : List (Oper × AV)) (t : Nat) : ∀ i, t ∈ (stAt st L i).kp → t ∈ st.kp ∧ ∀ j p, j < i → L[j]? = some p → p.1.dst ≠ some t
  | 0, h => ⟨by simpa [stAt] using h, fun j p hj => by omega⟩
  | i + 1, h => by
    cases hL : L[i]? with
    | none =>
      have : stAt st L (i + 1) = stAt st L i := by
        unfold stAt
        rw [List.take_add_one, hL]
        simp
      rw [this] at h
      obtain ⟨h1, h2⟩ := stAt_kp L t i h
      refine ⟨h1, fun j p hj hp => ?_⟩
      by_cases e : j = i
      · rw [e, hL] at hp; cases hp
      · exact h2 j p (by omega) hp
    | some q =>
      rw [stAt_succ hL] at h
      obtain ⟨h0, h3⟩ := put_kp h
      obtain ⟨h1, h2⟩ := stAt_kp L t i h0
      refine ⟨h1, fun j p hj hp => ?_⟩
      by_cases e : j = i
      · rw [e, hL] at hp; cases hp; exact h3
      · exact h2 j p (by omega) hp
theorem stAt_nd (L : List (Oper × AV)) : ∀ i, (stAt st L i).nd = st.nd
  | 0 => by simp [stAt]
  | i + 1 => by
    cases hL : L[i]? with
    | none =>
      have : stAt st L (i + 1) = stAt st L i := by
        unfold stAt
        rw [List.take_add_one, hL]
        simp
      rw [this]; exact stAt_nd L i
    | some q =>
      rw [stAt_succ hL]
      have := stAt_nd L i
      cases hq : q.1.dst <;> simpa [St.put] using this
theorem put_getD (d : Option Tmp) (x : AV) (t : Nat) (h : d ≠ some t) : (st.put d x).sl.getD t (.f .any) = st.sl.getD t (.f .any) := by
  cases d with
  | none => rfl
  | some d =>
    have : d ≠ t := fun e => h (by rw [e])
    simp [St.put, List.getD_eq_getElem?_getD, List.getElem?_set_ne this]
theorem put_getD_same (x : AV) (t : Nat) (h : t < st.sl.length) : (st.put (some t) x).sl.getD t (.f .any) = x := by
  simp [St.put, List.getD_eq_getElem?_getD, h]
theorem stAt_else (L : List (Oper × AV)) (t : Nat) : ∀ i, (∀ j p, j < i → L[j]? = some p → p.1.dst ≠ some t) → (stAt st L i).sl.getD t (.f .any) = st.sl.getD t (.f .any)
  | 0, _ => by simp [stAt]
  | i + 1, h => by
    have ih := stAt_else L t i (fun j p hj => h j p (by omega))
    cases hi : L[i]? with
    | none =>
      have : stAt st L (i + 1) = stAt st L i := by
        unfold stAt
        rw [List.take_add_one, hi]
        simp
      rw [this]; exact ih
    | some p => rw [stAt_succ hi, put_getD _ _ _ (h i p (by omega) hi)]; exact ih
theorem stAt_dst (L : List (Oper × AV)) (t : Nat) (ht : t < st.sl.length) (j : Nat) (q : Oper × AV) (hq : L[j]? = some q) (hd : q.1.dst = some t)
    (huniq : ∀ k p, k ≠ j → L[k]? = some p → p.1.dst ≠ some t) : ∀ i, j < i → (stAt st L i).sl.getD t (.f .any) = q.2
  | 0, h => by omega
  | i + 1, h => by
    by_cases hji : j = i
    · subst hji
      rw [stAt_succ hq, hd]
      exact put_getD_same _ _ (by rw [(stAt_same L j).2.2]; exact ht)
    · have ih := stAt_dst L t ht j q hq hd huniq i (by omega)
      cases hi : L[i]? with
      | none =>
        have : stAt st L (i + 1) = stAt st L i := by
          unfold stAt
          rw [List.take_add_one, hi]
          simp
        rw [this]; exact ih
      | some p => rw [stAt_succ hi, put_getD _ _ _ (huniq i p (fun e => hji e.symm) hi)]; exact ih
theorem ARelL.of_get {ok : Nat → Prop} : ∀ (l : List AV) (vs : List Value), vs.length = l.length → (∀ t, t < l.length → ARel w ok en (l.getD t (.f .any)) (vs.getD t undef)) → ARelL w ok en l vs
  | [], vs, h, _ => by simp only [ARelL]; exact List.eq_nil_of_length_eq_zero (by simpa using h)
  | x :: l, [], h, _ => by simp at h
  | x :: l, v :: vs, h, hg => by
    simp only [ARelL]
    exact ⟨v, vs, rfl, by simpa using hg 0 (by simp), ARelL.of_get l vs (by simpa using h) fun t ht => by simpa using hg (t + 1) (by simpa using ht)⟩
theorem bdL.of_get {n : Nat} : ∀ (l : List AV), (∀ t, t < l.length → (l.getD t (.f .any)).bd n) → bdL n l
  | [], _ => by simp [bdL]
  | x :: l, hg => by
    simp only [bdL]
    exact ⟨by simpa using hg 0 (by simp), bdL.of_get l fun t ht => by simpa using hg (t + 1) (by simpa using ht)⟩
/-! ### The order's conditions -/
structure DrawnOk (P : Program) (ops : Array Oper) (f : Nat) (s : Nat → Nat) : Prop where
  mixed : P.follows .mixedOrders = true
  back : ∀ (i : Nat) (o : Oper), ops[i]? = some o → ∀ e ∈ o.after, Region.binds .any e = true → e.on < i
  nosel : ∀ (i : Nat) (o : Oper), ops[i]? = some o → ∀ cs b, o.op ≠ .select cs b
  behind : ∀ i, i < ops.size → ∀ j, f ≤ j → j < s i → ∃ (m : Nat) (o : Oper), (m = i ∨ (j < m ∧ m < s i)) ∧ ops[m]? = some o ∧ ∃ e ∈ o.after, e.on = j ∧ Region.binds .any e = true
structure BlkOk (ops : Array Oper) (c n : Nat) : Prop where
  known : ∀ (i : Nat) (o : Oper), c ≤ i → i < c + n → ops[i]? = some o → ∀ t ∈ o.looksAt ops, ∀ j, c ≤ j → j < c + n → dstOf ops j = some t → j < i ∧ ∃ e ∈ o.after, e.on = j ∧ Region.binds .any e = true
  uniq : ∀ i j t, c ≤ i → i < c + n → c ≤ j → j < c + n → dstOf ops i = some t → dstOf ops j = some t → i = j
theorem edgeTo_spec {o : Oper} {j : Nat} (h : edgeTo o j = true) : ∃ e ∈ o.after, e.on = j ∧ Region.binds .any e = true := by
  unfold edgeTo at h
  rw [Array.any_eq_true'] at h
  obtain ⟨e, he, h⟩ := h
  simp only [Bool.and_eq_true, beq_iff_eq] at h
  exact ⟨e, he, h.1, h.2⟩
theorem edgeAt_spec {m j : Nat} (h : edgeAt ops m j = true) : ∃ o, ops[m]? = some o ∧ ∃ e ∈ o.after, e.on = j ∧ Region.binds .any e = true := by
  unfold edgeAt at h
  split at h
  · rename_i o ho; exact ⟨o, ho, edgeTo_spec h⟩
  · cases h
theorem drawnOk_spec {pcs : List (Nat × Nat)} (h : drawnOk P ops pcs = true) : DrawnOk P ops 0 (fun i => (startsOf pcs 0).getD i 0) ∧ pcsOk ops (startsOf pcs 0) ops.size pcs 0 = true := by
  unfold drawnOk behindOk at h
  simp only [Bool.and_eq_true, List.all_eq_true, List.mem_range] at h
  obtain ⟨⟨⟨h1, h3⟩, h5⟩, h6⟩ := h
  have lt : ∀ i o, ops[i]? = some o → i < ops.size := fun i o hi => (Array.getElem?_eq_some_iff.1 hi).1
  refine ⟨⟨h1, ?_, ?_, ?_⟩, h6⟩
  · intro i o hi e he hb
    have := h3 i (lt i o hi)
    rw [hi] at this
    simp only [Bool.and_eq_true, Array.all_eq_true_iff_forall_mem] at this
    have := this.1 e he
    simpa [hb] using this
  · intro i o hi cs b hc
    have := h3 i (lt i o hi)
    rw [hi] at this
    simp [hc] at this
  · intro i hi j _ hj
    have := h5 i hi j hj
    simp only [Bool.or_eq_true, List.any_eq_true, List.mem_range, Bool.and_eq_true, decide_eq_true_eq] at this
    rcases this with h | ⟨m, hm, hjm, h⟩
    · obtain ⟨o, ho, he⟩ := edgeAt_spec h
      exact ⟨i, o, .inl rfl, ho, he⟩
    · obtain ⟨o, ho, he⟩ := edgeAt_spec h
      exact ⟨m, o, .inr ⟨hjm, hm⟩, ho, he⟩
theorem blkOk_spec {c n : Nat} (h : blkOk ops c n = true) : BlkOk ops c n := by
  unfold blkOk at h
  simp only [List.all_eq_true, List.mem_range'_1] at h
  have h4 : ∀ i o, c ≤ i → i < c + n → ops[i]? = some o → ((∀ t ∈ o.looksAt ops, ∀ j, c ≤ j → j < c + n → (dstOf ops j != some t || (decide (j < i) && edgeTo o j)) = true) ∧ ∀ j, c ≤ j → j < c + n → (j == i || o.dst == none || dstOf ops j != o.dst) = true) := by
    intro i o hc hi ho
    have := h i ⟨hc, hi⟩
    rw [ho] at this
    simp only [Bool.and_eq_true, List.all_eq_true, List.mem_range'_1] at this
    exact ⟨fun t ht j h1 h2 => this.1 t ht j ⟨h1, h2⟩, fun j h1 h2 => this.2 j ⟨h1, h2⟩⟩
  refine ⟨?_, ?_⟩
  · intro i o hc hi ho t ht j hcj hj hd
    have := (h4 i o hc hi ho).1 t ht j hcj hj
    rw [hd] at this
    simp only [bne_self_eq_false, Bool.false_or, Bool.and_eq_true, decide_eq_true_eq] at this
    exact ⟨this.1, edgeTo_spec this.2⟩
  · intro i j t hc hi hcj hj hdi hdj
    have hio : ∃ o, ops[i]? = some o ∧ o.dst = some t := by
      unfold dstOf at hdi
      cases ho : ops[i]? with
      | none => rw [ho] at hdi; simp at hdi
      | some o => rw [ho] at hdi; exact ⟨o, rfl, by simpa using hdi⟩
    obtain ⟨o, ho, hd⟩ := hio
    have := (h4 i o hc hi ho).2 j hcj hj
    rw [hd, hdj] at this
    simp at this
    exact this.symm
theorem bndOk_spec {ss : List Nat} {size q : Nat} (h : bndOk ss size q = true) : ∀ i, q ≤ i → i < size → q ≤ ss.getD i 0 := by
  unfold bndOk at h
  simp only [List.all_eq_true, List.mem_range, Bool.or_eq_true, decide_eq_true_eq] at h
  intro i h1 h2
  rcases h i h2 with h | h
  · omega
  · exact h
/-- What is closed, and where one is ready: all ahead of its piece are listed. -/
theorem ready_all {s : Nat → Nat} {f : Nat} (hd : DrawnOk P ops f s) {listed : Array Bool} (hF : ∀ j, j < f → listed.getD j false = true) (hcl : ∀ i o, listed.getD i false = true → ops[i]? = some o → ∀ e ∈ o.after, Region.binds .any e = true → listed.getD e.on false = true) {i : Nat} {o : Oper} (hio : ops[i]? = some o)
    (hedges : ∀ e ∈ o.after, Region.binds .any e = true → listed.getD e.on false = true) : ∀ j, j < s i → listed.getD j false = true := by
  have his := (Array.getElem?_eq_some_iff.1 hio).1
  have key : ∀ d j, s i - j ≤ d → j < s i → listed.getD j false = true := by
    intro d
    induction d with
    | zero => intro j h1 h2; omega
    | succ d ih =>
      intro j h1 h2
      rcases Nat.lt_or_ge j f with hjf | hjf
      · exact hF j hjf
      obtain ⟨m, o2, h3, h4, e, he, hej, hb⟩ := hd.behind i his j hjf h2
      rcases h3 with rfl | ⟨h3, h5⟩
      · rw [hio] at h4
        cases h4
        rw [← hej]; exact hedges e he hb
      · have := hcl m o2 (ih m (by omega) h5) h4 e he hb
        rwa [hej] at this
  exact fun j hj => key _ j (Nat.le_refl _) hj
theorem exact_listed {listed : Array Bool} {k : Nat} (hk : k ≤ ops.size) (hsz : listed.size = ops.size) (hli : ∀ j, j < ops.size → listed.getD j true = decide (j < k)) : ∀ j, listed.getD j false = true ↔ j < k := by
  intro j
  rcases Nat.lt_or_ge j ops.size with hj | hj
  · have := hli j hj
    rw [Array.getD_eq_getD_getElem?, Array.getElem?_eq_getElem (by omega)] at this ⊢
    simp only [Option.getD_some] at this ⊢
    rw [this]; simp
  · rw [Array.getD_eq_getD_getElem?, Array.getElem?_eq_none (by omega)]
    simp; omega
theorem count_set {listed : Array Bool} {i : Nat} (h : listed.getD i true = false) : listed.toList.count false = (listed.setIfInBounds i true).toList.count false + 1 := by
  have hi : i < listed.size := by
    rcases Nat.lt_or_ge i listed.size with h' | h'
    · exact h'
    · rw [Array.getD_eq_getD_getElem?, Array.getElem?_eq_none h'] at h; simp at h
  have hv : listed.toList[i]'(by simpa using hi) = false := by
    rw [Array.getD_eq_getD_getElem?, Array.getElem?_eq_getElem hi] at h
    simpa using h
  rw [Array.toList_setIfInBounds, List.count_set (by simpa using hi), hv]
  have : 0 < listed.toList.count false := List.count_pos_iff.2 (by rw [← hv]; exact List.getElem_mem _)
  change listed.toList.count false = listed.toList.count false - 1 + 0 + 1
  omega
/-- One by one. -/
theorem singles_any {lr : Option Nat} {s : Nat → Nat} {f : Nat} (hd : DrawnOk P ops f s) {Q : Exit → Act → World → Prop} : ∀ (l : List Oper) (k : Nat) (listed : Array Bool) (a : Act) (w : World), l = (ops.toList.drop k).take l.length → k + l.length ≤ ops.size → f ≤ k →
    (∀ q, k ≤ q → q < k + l.length → ∀ i, q + 1 ≤ i → i < ops.size → q + 1 ≤ s i) → listed.size = ops.size → (∀ j, j < ops.size → listed.getD j true = decide (j < k)) →
    wpLF lr P ops (fun a w => ∀ listed' : Array Bool, listed'.size = ops.size → (∀ j, j < ops.size → listed'.getD j true = decide (j < k + l.length)) → wpAnyIn (FW lr) 0 P .any ops Q (listed'.toList.count false) listed' a w) Q l a w →
    wpAnyIn (FW lr) 0 P .any ops Q (listed.toList.count false) listed a w
  | [], k, listed, a, w, hl, hks, hfk, hbnd, hsz, hli, h => h listed hsz (by simpa using hli)
  | o :: l, k, listed, a, w, hl, hks, hfk, hbnd, hsz, hli, h => by
    simp only [List.length_cons] at hks hl hbnd h
    have hklt : k < ops.size := by omega
    have hlik := exact_listed (by omega) hsz hli
    have hok : ops[k]? = some o := by
      have := congrArg (fun l => l[0]?) hl
      simp at this
      exact this.symm
    have hready : ∀ i, i ∈ Region.ready .any ops listed ↔ i = k := by
      intro i
      rw [mem_ready]
      constructor
      · rintro ⟨h1, o', ho', hall⟩
        have hlt := (Array.getElem?_eq_some_iff.1 ho').1
        rw [hli i hlt] at h1
        simp at h1
        rcases Nat.lt_or_ge k i with hik | hik
        · have h2 := hbnd k (Nat.le_refl _) (by omega) i hik hlt
          have := ready_all hd (fun j hj => (hlik j).2 (by omega)) (fun i' o2 hi' ho2 e he hb => (hlik _).2 (by have := hd.back i' o2 ho2 e he hb; have := (hlik i').1 hi'; omega)) ho' hall k (by omega)
          have := (hlik k).1 this
          omega
        · omega
      · rintro rfl
        refine ⟨by rw [hli i hklt]; simp, o, hok, fun e he hb => ?_⟩
        rw [hlik]
        exact hd.back i o hok e he hb
    have hun : listed.getD k true = false := by rw [hli k hklt]; simp
    rw [count_set hun]
    refine ⟨fun he => ?_, fun i hi => ?_⟩
    · have := (hready k).2 rfl
      rw [he] at this
      cases this
    · obtain rfl := (hready i).1 hi
      unfold wpOpIn
      rw [hok]
      simp only [wpLF] at h ⊢
      have hrec : ∀ a w, wpLF lr P ops (fun a w => ∀ listed' : Array Bool, listed'.size = ops.size → (∀ j, j < ops.size → listed'.getD j true = decide (j < i + (l.length + 1))) → wpAnyIn (FW lr) 0 P .any ops Q (listed'.toList.count false) listed' a w) Q l a w →
          wpAnyIn (FW lr) 0 P .any ops Q ((listed.setIfInBounds i true).toList.count false) (listed.setIfInBounds i true) a w := by
        intro a w h
        refine singles_any hd l (i + 1) _ a w ?_ (by omega) (by omega) (fun q h1 h2 => hbnd q (by omega) (by omega)) (by simpa using hsz) ?_ (by rw [show i + 1 + l.length = i + (l.length + 1) from by omega]; exact h)
        · have := congrArg (List.drop 1) hl
          simpa [List.drop_take, List.drop_drop, Nat.add_comm] using this
        · intro j hj
          by_cases hij : i = j
          · subst hij
            simp [hsz, hklt]
          · rw [getD_set_ne true hij, hli j hj]
            congr 1
            simp; omega
      split
      · rename_i hw
        rw [if_pos hw] at h
        exact Oper.wpIn_mono hrec h
      · rename_i hw
        rw [if_neg hw] at h
        exact ⟨fun _ _ => trivial, hrec _ _ h⟩
theorem use_fact {lr : Option Nat} {o : Oper} {r : AV} {i : Nat} {sti : St} {K : Act → World → Prop} {Q : Exit → Act → World → Prop} (hi : ops[i]? = some o) (hm : Mem G X ok0 w0 sti.ob sti.nx w en) (hf : DFact P G ops sti o r)
    (ho : ∀ t ∈ o.looksAt ops, ARel w (okS ok0 w0 w sti.ob en) en (sti.sl.getD t (.f .any)) (a.tmps.getD t undef) ∧ (sti.sl.getD t (.f .any)).bd sti.nx)
    (hK : ∀ v w', Ext G w w' → ARel w' (okS ok0 w0 w' sti.ob en) en r v → r.bd sti.nx → K (a.put o.dst v) w') : wpOpIn (FW lr) 0 P ops Q i K a w := by
  have hops : OpsRel w (okS ok0 w0 w sti.ob en) en sti.nx sti a.eval o.op.operands.toList := by
    intro x hx
    cases x with
    | tmp t =>
      have := ho t (by unfold Oper.looksAt; exact List.mem_append_left _ (List.mem_filterMap.2 ⟨.tmp t, hx, rfl⟩))
      exact this
    | const v => exact ⟨by simp only [St.opnd, Act.eval, ARel]; exact fV_rel _ _ v, by simp [St.opnd, AV.bd]⟩
    | func f => exact ⟨by simp only [St.opnd, Act.eval, ARel, FRel]; exact ⟨[], [], rfl, by simp [FRelL], by simp [FRelL]⟩, by simp [St.opnd, AV.bd]⟩
    | global g => exact ⟨by simp [St.opnd, Act.eval, ARel, FRel], by simp [St.opnd, AV.bd]⟩
  have hgood : (∃ p hs hs', dval P G sti o hs = some (p, r, hs') ∧ hold p) → o.wpIn (FW lr) 0 P a w K Q := by
    rintro ⟨p, hs, hs', hd, hp⟩
    obtain ⟨h1, h2⟩ := dval_sound hm hops hd hp
    exact h2.wp fun v w' ⟨hx, hr⟩ => hK v w' hx hr h1
  unfold wpOpIn
  rw [hi]
  simp only
  unfold DFact at hf
  split at hf
  · rename_i hg
    rw [if_pos (by simp [Region.wanted, hg])]
    exact hgood hf
  · rename_i j want hg
    have hlook : ∀ t, guardOf ops j = some t → t ∈ o.looksAt ops := by
      intro t ht
      unfold Oper.looksAt
      refine List.mem_append_right _ ?_
      unfold guardOf at ht
      simp only [hg, ht, Option.toList_some, List.mem_singleton]
    rcases hf with ⟨t, b, ht, hb, hcase⟩ | ⟨t, v, ht, hb, hnb, rfl⟩
    case inr =>
      have hv := (ho t (hlook t ht)).1
      rw [hb] at hv
      have hy := yielded_none (ops := ops) (a := a) ht (by simpa [ARel, FRel] using hv) hnb
      have hw : Region.wanted o (yielded ops a.tmps) = false := by simp [Region.wanted, hg, hy]
      rw [if_neg (by rw [hw]; simp)]
      exact ⟨fun _ _ => trivial, hK undef w (Ext.refl w) (by simp [ARel, FRel]) (by simp [AV.bd])⟩
    have hb' : a.tmps.getD t undef = .bool b := by
      have := (ho t (hlook t ht)).1
      rw [hb] at this
      simpa [ARel, FRel] using this
    have hy := yielded_of (ops := ops) (a := a) ht hb'
    have hw : Region.wanted o (yielded ops a.tmps) = (b == want) := by simp [Region.wanted, hg, hy]
    rcases hcase with ⟨h1, h2⟩ | ⟨h1, h2⟩
    · rw [if_pos (by rw [hw]; simp [h1])]
      exact hgood h2
    · rw [if_neg (by rw [hw]; simpa using h1)]
      subst h2
      exact ⟨fun _ _ => trivial, hK undef w (Ext.refl w) (by simp [ARel, FRel]) (by simp [AV.bd])⟩
theorem put_tmps_ne {d : Option Tmp} {t : Nat} (v : Value) (h : d ≠ some t) : (a.put d v).tmps.getD t undef = a.tmps.getD t undef := by
  cases d with
  | none => rfl
  | some d =>
    have : d ≠ t := fun e => h (by rw [e])
    simp [Act.put, Array.getElem?_setIfInBounds_ne this]
theorem put_tmps_same {t : Nat} (v : Value) (h : t < a.tmps.size) : (a.put (some t) v).tmps.getD t undef = v := by
  simp [Act.put, h]
theorem put_size (d : Option Tmp) (v : Value) : (a.put d v).tmps.size = a.tmps.size := by cases d <;> simp [Act.put]
theorem put_defs (d : Option Tmp) (v : Value) : (a.put d v).defers = a.defers := by cases d <;> rfl
theorem any_sound {lr : Option Nat} {s : Nat → Nat} {c n f : Nat} (hfc : f ≤ c) (hd : DrawnOk P ops f s) (hk : BlkOk ops c n) (hle : c + n ≤ ops.size) (hbnd : ∀ i, c + n ≤ i → i < ops.size → c + n ≤ s i) {L : List (Oper × AV)} (hL : L.map (·.1) = (ops.toList.drop c).take n)
    (hf : ∀ i p, L[i]? = some p → DFact P G ops (stAt st L i) p.1 p.2) {Q : Exit → Act → World → Prop} (hbd : bdL st.nx st.sl)
    (hfin : ∀ (listed : Array Bool) a w, listed.size = ops.size → (∀ j, j < ops.size → listed.getD j true = decide (j < c + n)) → Inv G X ok0 w0 tv (stAt st L n) a w en → wpAnyIn (FW lr) 0 P .any ops Q (listed.toList.count false) listed a w) :
    ∀ (fuel : Nat) (listed : Array Bool) (a : Act) (w : World), listed.size = ops.size → fuel = listed.toList.count false →
      (∀ i o, listed.getD i false = true → ops[i]? = some o → ∀ e ∈ o.after, Region.binds .any e = true → listed.getD e.on false = true) → (∀ j, listed.getD j false = true → j < c + n) → (∀ j, j < c → listed.getD j false = true) →
      Mem G X ok0 w0 st.ob st.nx w en → Marks w en a.defers → a.tmps.size = st.sl.length →
      (∀ t, (∀ j, j < n → dstOf ops (c + j) ≠ some t) → ARel w (okS ok0 w0 w st.ob en) en (st.sl.getD t (.f .any)) (a.tmps.getD t undef)) →
      (∀ j t p, listed.getD (c + j) false = true → L[j]? = some p → dstOf ops (c + j) = some t → t < st.sl.length → ARel w (okS ok0 w0 w st.ob en) en p.2 (a.tmps.getD t undef) ∧ p.2.bd st.nx) →
      (∀ t, t ∈ st.kp → (∀ j, j < n → dstOf ops (c + j) ≠ some t) → a.tmps.getD t undef = tv t) → (st.nd = true → a.defers = []) →
      wpAnyIn (FW lr) 0 P .any ops Q fuel listed a w := by
  have hLlen : L.length = n := by
    have := congrArg List.length hL
    simp at this
    omega
  have hLi : ∀ i, i < n → ∃ p, L[i]? = some p ∧ ops[c + i]? = some p.1 := by
    intro i hi
    refine ⟨L[i]'(by omega), List.getElem?_eq_getElem (by omega), ?_⟩
    have := congrArg (fun l => l[i]?) hL
    simp only [List.getElem?_map, List.getElem?_take, hi, if_true, List.getElem?_drop] at this
    rw [List.getElem?_eq_getElem (by omega)] at this
    simpa using this.symm
  have hdst : ∀ i p, L[i]? = some p → dstOf ops (c + i) = p.1.dst := by
    intro i p hp
    have hi : i < n := by
      have := (List.getElem?_eq_some_iff.1 hp).1
      omega
    obtain ⟨q, h1, h2⟩ := hLi i hi
    rw [hp] at h1
    cases h1
    unfold dstOf
    rw [h2]; rfl
  have huq : ∀ j t, j < n → dstOf ops (c + j) = some t → ∀ k p, k ≠ j → L[k]? = some p → p.1.dst ≠ some t := by
    intro j t hj hjt k p hk' hp e
    have hkn : k < n := by have := (List.getElem?_eq_some_iff.1 hp).1; omega
    have := hk.uniq (c + k) (c + j) t (by omega) (by omega) (by omega) (by omega) ((hdst k p hp).trans e) hjt
    exact hk' (by omega)
  have fin : ∀ (listed : Array Bool) (a : Act) (w : World), listed.size = ops.size → (∀ j, j < c + n → listed.getD j false = true) → (∀ j, listed.getD j false = true → j < c + n) →
      Mem G X ok0 w0 st.ob st.nx w en → Marks w en a.defers → a.tmps.size = st.sl.length →
      (∀ t, (∀ j, j < n → dstOf ops (c + j) ≠ some t) → ARel w (okS ok0 w0 w st.ob en) en (st.sl.getD t (.f .any)) (a.tmps.getD t undef)) →
      (∀ j t p, listed.getD (c + j) false = true → L[j]? = some p → dstOf ops (c + j) = some t → t < st.sl.length → ARel w (okS ok0 w0 w st.ob en) en p.2 (a.tmps.getD t undef) ∧ p.2.bd st.nx) →
      (∀ t, t ∈ st.kp → (∀ j, j < n → dstOf ops (c + j) ≠ some t) → a.tmps.getD t undef = tv t) → (st.nd = true → a.defers = []) →
      wpAnyIn (FW lr) 0 P .any ops Q (listed.toList.count false) listed a w := by
    intro listed a w hsz hall hpre hm hde hts hA hB hC hN
    have hinv : Inv G X ok0 w0 tv (stAt st L n) a w en := by
      have s := stAt_same (st := st) L n
      have slot : ∀ t, t < st.sl.length → ARel w (okS ok0 w0 w st.ob en) en ((stAt st L n).sl.getD t (.f .any)) (a.tmps.getD t undef) ∧ ((stAt st L n).sl.getD t (.f .any)).bd st.nx := by
        intro t ht
        by_cases hex : ∃ j, j < n ∧ dstOf ops (c + j) = some t
        · obtain ⟨j, hj, hjt⟩ := hex
          obtain ⟨p, hp1, hp2⟩ := hLi j hj
          rw [stAt_dst L t ht j p hp1 ((hdst j p hp1).symm.trans hjt) (huq j t hj hjt) n hj]
          exact hB j t p (hall (c + j) (by omega)) hp1 hjt ht
        · have hne : ∀ j, j < n → dstOf ops (c + j) ≠ some t := fun j hj e => hex ⟨j, hj, e⟩
          rw [stAt_else L t n (fun j p hj hp e => hne j hj ((hdst j p hp).trans e))]
          exact ⟨hA t hne, bdL.get _ _ hbd⟩
      refine ⟨by rw [s.1, s.2.1]; exact hm, hde, ?_, ?_, fun t ht => by
          obtain ⟨k1, k2⟩ := stAt_kp L t n ht
          refine hC t k1 fun j hj e => ?_
          obtain ⟨p, hp1, hp2⟩ := hLi j hj
          exact k2 j p hj hp1 ((hdst j p hp1).symm.trans e), fun hn => hN (by rw [stAt_nd] at hn; exact hn)⟩
      · rw [s.1]
        exact ARelL.of_get _ _ (by rw [s.2.2]; simpa using hts) fun t ht => by
          have := (slot t (by rw [← s.2.2]; exact ht)).1
          rwa [tmps_getD] at this
      · rw [s.2.1]
        exact bdL.of_get _ fun t ht => (slot t (by rw [← s.2.2]; exact ht)).2
    refine hfin listed a w hsz (fun j hj => ?_) hinv
    by_cases hjn : j < c + n
    · have := hall j hjn
      rw [Array.getD_eq_getD_getElem?, Array.getElem?_eq_getElem (by omega)] at this ⊢
      simp only [Option.getD_some] at this ⊢
      rw [this]; simp [hjn]
    · have h0 : listed.getD j false ≠ true := fun e => hjn (hpre j e)
      rw [Array.getD_eq_getD_getElem?, Array.getElem?_eq_getElem (by omega)] at h0 ⊢
      simp only [Option.getD_some] at h0 ⊢
      simp [hjn, h0]
  intro fuel
  induction fuel with
  | zero =>
    intro listed a w hsz hfuel hcl hpre hc0 hm hde hts hA hB hC hN
    have hfin0 := fun hall => fin listed a w hsz hall hpre hm hde hts hA hB hC hN
    rw [← hfuel] at hfin0
    refine hfin0 fun j hj => ?_
    have hlt : j < listed.size := by omega
    rw [Array.getD_eq_getD_getElem?, Array.getElem?_eq_getElem hlt]
    simp only [Option.getD_some]
    have h0 : listed.toList.count false = 0 := hfuel.symm
    rw [List.count_eq_zero] at h0
    cases hv : listed[j] with
    | true => rfl
    | false => exact absurd (by rw [← hv]; simp) h0
  | succ fuel ih =>
    intro listed a w hsz hfuel hcl hpre hc0 hm hde hts hA hB hC hN
    by_cases hall : ∀ j, j < c + n → listed.getD j false = true
    · have := fin listed a w hsz hall hpre hm hde hts hA hB hC hN
      rw [← hfuel] at this
      exact this
    · -- one of the block is still to do
      have hex : ∃ j, j < c + n ∧ listed.getD j false ≠ true := by
        apply Classical.byContradiction
        intro hno
        exact hall fun j hj => Classical.byContradiction fun h => hno ⟨j, hj, h⟩
      refine ⟨fun he => ?_, fun i hi => ?_⟩
      · exfalso
        obtain ⟨j, hj, hjl⟩ := hex
        have key : ∀ j, j < c + n → listed.getD j false = true := by
          intro j
          induction j using Nat.strongRecOn with
          | _ j ihj =>
            intro hj
            apply Classical.byContradiction
            intro hjl
            have hjs : j < ops.size := by omega
            have : j ∈ Region.ready .any ops listed := by
              rw [mem_ready]
              refine ⟨?_, ops[j], Array.getElem?_eq_getElem hjs, fun e he' hb => ?_⟩
              · rw [Array.getD_eq_getD_getElem?, Array.getElem?_eq_getElem (by omega)] at hjl ⊢
                simpa using hjl
              · have := hd.back j _ (Array.getElem?_eq_getElem hjs) e he' hb
                exact ihj e.on this (by omega)
            rw [he] at this
            cases this
        exact hjl (key j hj)
      · obtain ⟨hun, o, hio, hedges⟩ := mem_ready.1 hi
        have his := (Array.getElem?_eq_some_iff.1 hio).1
        have hin : i < c + n := by
          apply Classical.byContradiction
          intro hge
          obtain ⟨j, hj, hjl⟩ := hex
          exact hjl (ready_all hd (fun j hj => hc0 j (by omega)) hcl hio hedges j (by have := hbnd i (by omega) his; omega))
        have hci : c ≤ i := by
          apply Classical.byContradiction
          intro hlt
          have h1 := hc0 i (by omega)
          rw [Array.getD_eq_getD_getElem?, Array.getElem?_eq_getElem (by omega)] at h1 hun
          simp only [Option.getD_some] at h1 hun
          rw [h1] at hun; cases hun
        obtain ⟨i', rfl⟩ : ∃ i', i = c + i' := ⟨i - c, by omega⟩
        have hi'n : i' < n := by omega
        obtain ⟨p, hp1, hp2⟩ := hLi i' hi'n
        rw [hio] at hp2
        simp only [Option.some.injEq] at hp2
        have s := stAt_same (st := st) L i'
        refine use_fact (sti := stAt st L i') (en := en) (ok0 := ok0) (w0 := w0) (r := p.2) hio (by rw [s.1, s.2.1]; exact hm) (by rw [hp2]; exact hf i' p hp1) ?_ ?_
        · intro t ht
          rw [s.1, s.2.1]
          by_cases hlt : t < st.sl.length
          · by_cases hex : ∃ j, j < n ∧ dstOf ops (c + j) = some t
            · obtain ⟨j, hj, hjt⟩ := hex
              obtain ⟨hji, e, he, hej, hb⟩ := hk.known (c + i') o hci hin hio t ht (c + j) (by omega) (by omega) hjt
              obtain ⟨q, hq1, hq2⟩ := hLi j hj
              rw [stAt_dst L t hlt j q hq1 ((hdst j q hq1).symm.trans hjt) (huq j t hj hjt) i' (by omega)]
              exact hB j t q (by rw [← hej]; exact hedges e he hb) hq1 hjt hlt
            · have hne : ∀ j, j < n → dstOf ops (c + j) ≠ some t := fun j hj e => hex ⟨j, hj, e⟩
              rw [stAt_else L t i' (fun j q hj hq e => hne j (by omega) ((hdst j q hq).trans e))]
              exact ⟨hA t hne, bdL.get _ _ hbd⟩
          · have : (stAt st L i').sl.getD t (.f .any) = .f .any := by
              have hle : (stAt st L i').sl.length ≤ t := by have h1 := s.2.2; rw [h1]; exact Nat.not_lt.1 hlt
              rw [List.getD_eq_getElem?_getD, List.getElem?_eq_none hle]; rfl
            rw [this]
            exact ⟨by simp [ARel, FRel], by simp [AV.bd]⟩
        · intro v w' hx hr hrb
          rw [s.1] at hr
          rw [s.2.1] at hrb
          have hcar : Carry w w' (okS ok0 w0 w st.ob en) (okS ok0 w0 w' st.ob en) := carry_ext hx
          refine ih _ _ _ (by simpa using hsz) ?_ ?_ ?_ ?_ (hm.step hx) (by rw [put_defs]; exact hde.turn (fun D hD => hx.block D (hm.dsl D hD).2.1) rfl) (by rw [put_size]; exact hts) ?_ ?_ ?_ (fun hn => by rw [put_defs]; exact hN hn)
          · have := count_set hun
            omega
          · intro k ok hk' hok e he hb
            by_cases hki : c + i' = k
            · subst hki
              rw [hio] at hok
              cases hok
              exact getD_set_true (hedges e he hb)
            · rw [getD_set_ne false hki] at hk'
              exact getD_set_true (hcl k ok hk' hok e he hb)
          · intro k hk'
            by_cases hki : c + i' = k
            · omega
            · rw [getD_set_ne false hki] at hk'
              exact hpre k hk'
          · intro k hk'
            exact getD_set_true (hc0 k hk')
          · intro t ht
            have hne : o.dst ≠ some t := by
              have := ht i' hi'n
              unfold dstOf at this
              rw [hio] at this
              exact this
            rw [put_tmps_ne v hne]
            exact ARel.carry hcar (EnvUpto.refl st.nx en) _ _ (bdL.get _ _ hbd) (hA t ht)
          · intro j t q hj hq hjt hlt
            by_cases hji : i' = j
            · subst hji
              rw [hp1] at hq
              cases hq
              have hod : o.dst = some t := by
                unfold dstOf at hjt
                rw [hio] at hjt
                exact hjt
              rw [hod, put_tmps_same v (by rw [hts]; exact hlt)]
              exact ⟨hr, hrb⟩
            · rw [getD_set_ne false (by omega)] at hj
              have hne : o.dst ≠ some t := by
                intro e
                have hdi : dstOf ops (c + i') = some t := by unfold dstOf; rw [hio]; exact e
                have hjn : j < n := by have := (List.getElem?_eq_some_iff.1 hq).1; omega
                have := hk.uniq (c + i') (c + j) t (by omega) (by omega) (by omega) (by omega) hdi hjt
                exact hji (by omega)
              rw [put_tmps_ne v hne]
              have := hB j t q hj hq hjt hlt
              exact ⟨ARel.carry hcar (EnvUpto.refl st.nx en) _ _ this.2 this.1, this.2⟩
          · intro t ht hne
            have h9 : o.dst ≠ some t := by
              have := hne i' hi'n
              unfold dstOf at this
              rw [hio] at this
              exact this
            rw [put_tmps_ne v h9]
            exact hC t ht hne
/-- What is newly laid is hidden until the piece is done. -/
def Hid (w : World) (en en0 : Env) (d : Tmp) (zc : Array Value) (t : TypeId) (a : Act) (done : Prop) : Prop :=
  en.blk = en0.blk ∧ en.val = en0.val ∧ (∀ D, en0.ds D → en.ds D) ∧ (¬ done → ∀ D, en.ds D → en0.ds D) ∧
    (done → ∃ b, (∀ D, en.ds D → en0.ds D ∨ D = b) ∧ en.ds b ∧ ¬ en0.ds b ∧ w.heap[b]? = some (.cells zc t (0, 0)) ∧ a.tmps.getD d undef = .pointer (some ⟨b, 0, none⟩))
theorem Marks.wide {en en0 : Env} {l : List Deferred} (h : Marks w en0 l) (he : ∀ D, en0.ds D → en.ds D) : Marks w en l :=
  ⟨h.1, fun d hm => by obtain ⟨D, e, h1, h2⟩ := h.2 d hm; exact ⟨D, e, he D h1, h2⟩⟩
theorem getD_set_same {listed : Array Bool} {i n : Nat} (hi : i < n) (hsz : listed.size = n) : (listed.setIfInBounds i true).getD i false = true := by
  rw [Array.getD_eq_getD_getElem?, Array.getElem?_eq_getElem (by simp; omega)]
  simp
theorem Hid.step {en en0 : Env} {d : Tmp} {zc : Array Value} {t : TypeId} {p q : Bool} {ob : List (Nat × Ob)} {nx : Nat} {o : Option Tmp} {v : Value} (h : Hid w en en0 d zc t a (p = true)) (hm : Mem G X ok0 w0 ob nx w en) (hx : Ext G w w') (ho : o ≠ some d) (hpq : q = p) : Hid w' en en0 d zc t (a.put o v) (q = true) := by
  subst hpq
  refine ⟨h.1, h.2.1, h.2.2.1, h.2.2.2.1, fun hd => ?_⟩
  obtain ⟨b, h1, h2, h3, h4, h5⟩ := h.2.2.2.2 hd
  exact ⟨b, h1, h2, h3, by rw [hx.block b (hm.dsl b h2).2.1]; exact h4, by rw [put_tmps_ne v ho]; exact h5⟩
theorem hid_alloc {ob : List (Nat × Ob)} {nx : Nat} {en : Env} (h : Mem G X ok0 w0 ob nx w en) (zc : Array Value) (t : TypeId) :
    Mem G X ok0 w0 ob nx (w.alloc (.cells zc t)) { ds := fun D => en.ds D ∨ D = w.heap.size, blk := en.blk, val := en.val } ∧ Carry w (w.alloc (.cells zc t)) (okS ok0 w0 w ob en) (okS ok0 w0 (w.alloc (.cells zc t)) ob { ds := fun D => en.ds D ∨ D = w.heap.size, blk := en.blk, val := en.val }) := by
  have hx : Ext G w (w.alloc (.cells zc t)) := (Ext.refl w).alloc _
  have hc : Carry w (w.alloc (.cells zc t)) (okS ok0 w0 w ob en) (okS ok0 w0 (w.alloc (.cells zc t)) ob { ds := fun D => en.ds D ∨ D = w.heap.size, blk := en.blk, val := en.val }) := by
    have h1 : Carry w (w.alloc (.cells zc t)) (okS ok0 w0 w ob en) (okS ok0 w0 (w.alloc (.cells zc t)) ob en) := carry_ext hx
    refine ⟨fun b hb => ⟨hb.1, Nat.lt_of_lt_of_le hb.2.1 hx.size, hb.2.2.1, fun hD => ?_⟩, fun b hb => hx.block b hb.2.1, h1.os, h1.tape, h1.output, h1.size⟩
    rcases hD with hD | rfl
    · exact hb.2.2.2 hD
    · exact Nat.lt_irrefl _ hb.2.1
  refine ⟨⟨h.gr, h.okl, h.xok, h.ext.trans hx, fun k o ho => ?_, h.inj, fun D hD => ?_⟩, hc⟩
  · obtain ⟨h1, h2, h3, h4⟩ := h.obs k o ho
    exact ⟨h1, h2, h3, h4.carry hc (show EnvUpto nx en { ds := fun D => en.ds D ∨ D = w.heap.size, blk := en.blk, val := en.val } from fun _ _ => ⟨rfl, rfl⟩) h1 h3 (fun b hb => hx.block _ (h4.lt hb))⟩
  · rcases hD with hD | rfl
    · obtain ⟨h1, h2, h3⟩ := h.dsl D hD
      exact ⟨h1, Nat.lt_of_lt_of_le h2 hx.size, h3⟩
    · exact ⟨h.ext.size, (Array.getElem?_eq_some_iff.1 (heap_alloc_new w (.cells zc t))).1, fun k o ho hb => Nat.lt_irrefl _ ((h.obs k o ho).2.2.2.lt hb)⟩
theorem Ob.bd_monoA {m n : Nat} (h : m ≤ n) (o : Ob) (hb : o.bd m) : o.bd n := by
  cases o with
  | box cs => exact bdL_mono h _ hb
  | row => trivial
  | iter => trivial
  | yd => trivial
theorem hid_end {st : St} {en en0 : Env} {d : Tmp} {zc : Array Value} {t : TypeId} {z : List FV} (h : Inv G X ok0 w0 tv st a w en) (hm : Marks w en0 a.defers) (hh : Hid w en en0 d zc t a True) (hd : d < st.sl.length) (hz : ∀ (w : World) (ok : Nat → Prop) (en : Env), ARelL w ok en (z.map .f) zc.toList) (hzb : ∀ n, bdL n (z.map AV.f)) :
    ∃ en', Inv G X ok0 w0 tv (st.fresh (some d) (.loc st.nx 0) (.box (z.map .f)) none) a w en' := by
  obtain ⟨e1, e2, e3, _, e4⟩ := hh
  obtain ⟨b, f1, f2, f3, f4, f5⟩ := e4 trivial
  obtain ⟨g1, g2, g3⟩ := h.mem.dsl b f2
  have hlt : ∀ k o, getOb k st.ob = some o → k < st.nx := fun k o ho => (h.mem.obs k o ho).1
  have hblk : ∀ k, k ≠ st.nx → (en0.with st.nx (opt (some b)) undef).blk k = en.blk k := fun k hk => by simp [Env.with, hk, e1]
  have hnx : (en0.with st.nx (opt (some b)) undef).blk st.nx = opt (some b) := by simp [Env.with]
  have upto : EnvUpto st.nx en (en0.with st.nx (opt (some b)) undef) := fun k hk => ⟨hblk k (Nat.ne_of_lt hk), by simp [Env.with, Nat.ne_of_lt hk, e2]⟩
  have hget : ∀ k o, getOb k (st.fresh (some d) (.loc st.nx 0) (.box (z.map .f)) none).ob = some o → (k = st.nx ∧ o = .box (z.map .f)) ∨ (k ≠ st.nx ∧ getOb k st.ob = some o) := by
    intro k o hk
    simp only [St.fresh, getOb] at hk
    split at hk
    · rename_i e; simp only [Option.some.injEq] at hk; exact .inl ⟨e.symm, hk.symm⟩
    · exact .inr ⟨Nat.ne_of_lt (hlt k o hk), hk⟩
  have okeq : ∀ b', okS ok0 w0 w st.ob en b' → okS ok0 w0 w (st.fresh (some d) (.loc st.nx 0) (.box (z.map .f)) none).ob (en0.with st.nx (opt (some b)) undef) b' := by
    rintro b' ⟨q1, q2, q3, q4⟩
    refine ⟨q1, q2, fun k o hk hb => ?_, fun hD => q4 (e3 b' hD)⟩
    rcases hget k o hk with ⟨rfl, _⟩ | ⟨hne, hk⟩
    · rw [hnx] at hb
      have : b = b' := by simpa using hb
      subst this; exact q4 f2
    · rw [hblk k hne] at hb; exact q3 k o hk hb
  have car := Carry.same w okeq
  refine ⟨en0.with st.nx (opt (some b)) undef, ⟨h.mem.gr, h.mem.okl, h.mem.xok, h.mem.ext, ?_, ?_, ?_⟩, hm, ?_, ?_, ?_, h.nod⟩
  · intro k o hk
    rcases hget k o hk with ⟨rfl, rfl⟩ | ⟨hne, hk⟩
    · refine ⟨Nat.lt_succ_self _, fun b' hb => ?_, hzb _, b, zc, t, hnx, f4, hz _ _ _⟩
      rw [hnx] at hb
      have : b = b' := by simpa using hb
      subst this; exact .inl g1
    · obtain ⟨h1, h2, h3, h4⟩ := h.mem.obs k o hk
      refine ⟨Nat.lt_succ_of_lt h1, fun b' hb => h2 b' (by rw [hblk k hne] at hb; exact hb), Ob.bd_monoA (Nat.le_succ _) _ h3, h4.carry car upto h1 h3 fun _ _ => rfl⟩
  · intro j k o p hj hk hne b' hb
    rcases hget j o hj with ⟨rfl, _⟩ | ⟨hj1, hj⟩
    · rcases hget k p hk with ⟨rfl, _⟩ | ⟨hk1, hk⟩
      · exact absurd rfl hne
      · rw [hnx] at hb
        have : b = b' := by simpa using hb
        subst this
        rw [hblk k hk1]; exact g3 k p hk
    · rcases hget k p hk with ⟨rfl, _⟩ | ⟨hk1, hk⟩
      · rw [hnx]
        intro hb2
        have : b = b' := by simpa using hb2
        subst this
        rw [hblk j hj1] at hb; exact g3 j o hj hb
      · rw [hblk k hk1]; rw [hblk j hj1] at hb
        exact h.mem.inj j k o p hj hk hne b' hb
  · intro D hD
    obtain ⟨h1, h2, h3⟩ := h.mem.dsl D (e3 D hD)
    refine ⟨h1, h2, fun k o hk hb => ?_⟩
    rcases hget k o hk with ⟨rfl, _⟩ | ⟨hne, hk⟩
    · rw [hnx] at hb
      have : b = D := by simpa using hb
      subst this; exact f3 hD
    · rw [hblk k hne] at hb; exact h3 k o hk hb
  · have h1 := ARelL.carry car upto _ _ h.bd h.slots
    have hlen := ARelL.length _ _ h.slots
    have hx : ARel w (okS ok0 w0 w (st.fresh (some d) (.loc st.nx 0) (.box (z.map .f)) none).ob (en0.with st.nx (opt (some b)) undef)) (en0.with st.nx (opt (some b)) undef) (.loc st.nx 0) (a.tmps.getD d undef) := by
      rw [f5]; simp only [ARel]; exact ⟨b, hnx, rfl⟩
    have h2 := ARelL.set hx _ _ d h1
    have h3 : a.tmps.toList.set d (a.tmps.getD d undef) = a.tmps.toList := by
      have hd2 : d < a.tmps.size := by have h9 := hlen; rw [Array.length_toList] at h9; rw [h9]; exact hd
      rw [Array.getD_eq_getD_getElem?, Array.getElem?_eq_getElem hd2, Option.getD_some, ← Array.getElem_toList hd2, List.set_getElem_self]
    rw [h3] at h2
    exact h2
  · exact bdL.set (show (AV.loc st.nx 0).bd (st.nx + 1) from Nat.lt_succ_self st.nx) _ d (bdL_mono (Nat.le_succ _) _ h.bd)
  · intro t ht
    exact h.keep t (put_kp ht).1
theorem any_soundA {lr : Option Nat} {en0 : Env} {s : Nat → Nat} {c n f : Nat} (hfc : f ≤ c) (hd : DrawnOk P ops f s) (hk : BlkOk ops c n) (hle : c + n ≤ ops.size) (hbnd : ∀ i, c + n ≤ i → i < ops.size → c + n ≤ s i) {L : List (Oper × AV)} (hL : L.map (·.1) = (ops.toList.drop c).take n)
    (hf : ∀ i p, L[i]? = some p → DFactA P G ops (stAt st L i) p.1 p.2) {ai : Nat} {oa : Oper} {ty : TypeId} {d : Tmp} {z : List FV} {zv : Value} (hai : ai < n) (hoa : ops[c + ai]? = some oa) (hop : oa.op = .alloc ty) (hda : oa.dst = some d) (hga : oa.guard = none) (hdl : d < st.sl.length) (huniq : ∀ i o, i < n → ops[c + i]? = some o → isAl o = true → i = ai) (hzr : ∀ w : World, (zeroValue ty).run P w = .ok zv w) (hzA : ∀ (w : World) (ok : Nat → Prop) (en : Env), ARelL w ok en (z.map .f) zv.cells.toList) (hzb : ∀ n, bdL n (z.map AV.f)) {Q : Exit → Act → World → Prop} (hbd : bdL st.nx st.sl)
    (hfin : ∀ (listed : Array Bool) a w (en : Env), listed.size = ops.size → (∀ j, j < ops.size → listed.getD j true = decide (j < c + n)) → Inv G X ok0 w0 tv ((stAt st L n).fresh (some d) (.loc (stAt st L n).nx 0) (.box (z.map .f)) none) a w en → wpAnyIn (FW lr) 0 P .any ops Q (listed.toList.count false) listed a w) :
    ∀ (fuel : Nat) (listed : Array Bool) (a : Act) (w : World) (en : Env), Hid w en en0 d zv.cells ty a (listed.getD (c + ai) false = true) → listed.size = ops.size → fuel = listed.toList.count false →
      (∀ i o, listed.getD i false = true → ops[i]? = some o → ∀ e ∈ o.after, Region.binds .any e = true → listed.getD e.on false = true) → (∀ j, listed.getD j false = true → j < c + n) → (∀ j, j < c → listed.getD j false = true) →
      Mem G X ok0 w0 st.ob st.nx w en → Marks w en0 a.defers → a.tmps.size = st.sl.length →
      (∀ t, (∀ j, j < n → dstOf ops (c + j) ≠ some t) → ARel w (okS ok0 w0 w st.ob en) en (st.sl.getD t (.f .any)) (a.tmps.getD t undef)) →
      (∀ j t p, j ≠ ai → listed.getD (c + j) false = true → L[j]? = some p → dstOf ops (c + j) = some t → t < st.sl.length → ARel w (okS ok0 w0 w st.ob en) en p.2 (a.tmps.getD t undef) ∧ p.2.bd st.nx) →
      (∀ t, t ∈ st.kp → (∀ j, j < n → dstOf ops (c + j) ≠ some t) → a.tmps.getD t undef = tv t) → (st.nd = true → a.defers = []) →
      wpAnyIn (FW lr) 0 P .any ops Q fuel listed a w := by
  have hLlen : L.length = n := by
    have := congrArg List.length hL
    simp at this
    omega
  have hLi : ∀ i, i < n → ∃ p, L[i]? = some p ∧ ops[c + i]? = some p.1 := by
    intro i hi
    refine ⟨L[i]'(by omega), List.getElem?_eq_getElem (by omega), ?_⟩
    have := congrArg (fun l => l[i]?) hL
    simp only [List.getElem?_map, List.getElem?_take, hi, if_true, List.getElem?_drop] at this
    rw [List.getElem?_eq_getElem (by omega)] at this
    simpa using this.symm
  have hdst : ∀ i p, L[i]? = some p → dstOf ops (c + i) = p.1.dst := by
    intro i p hp
    have hi : i < n := by
      have := (List.getElem?_eq_some_iff.1 hp).1
      omega
    obtain ⟨q, h1, h2⟩ := hLi i hi
    rw [hp] at h1
    cases h1
    unfold dstOf
    rw [h2]; rfl
  have huq : ∀ j t, j < n → dstOf ops (c + j) = some t → ∀ k p, k ≠ j → L[k]? = some p → p.1.dst ≠ some t := by
    intro j t hj hjt k p hk' hp e
    have hkn : k < n := by have := (List.getElem?_eq_some_iff.1 hp).1; omega
    have := hk.uniq (c + k) (c + j) t (by omega) (by omega) (by omega) (by omega) ((hdst k p hp).trans e) hjt
    exact hk' (by omega)
  have hpa : ∀ p, L[ai]? = some p → p.2 = .f .any := fun p hp => by
    obtain ⟨q, h1, h2⟩ := hLi ai hai
    rw [hp] at h1; cases h1
    rw [hoa] at h2; cases h2
    exact (hf ai p hp).any hop hga
  have fin : ∀ (listed : Array Bool) (a : Act) (w : World) (en : Env), Hid w en en0 d zv.cells ty a (listed.getD (c + ai) false = true) → listed.size = ops.size → (∀ j, j < c + n → listed.getD j false = true) → (∀ j, listed.getD j false = true → j < c + n) →
      Mem G X ok0 w0 st.ob st.nx w en → Marks w en0 a.defers → a.tmps.size = st.sl.length →
      (∀ t, (∀ j, j < n → dstOf ops (c + j) ≠ some t) → ARel w (okS ok0 w0 w st.ob en) en (st.sl.getD t (.f .any)) (a.tmps.getD t undef)) →
      (∀ j t p, j ≠ ai → listed.getD (c + j) false = true → L[j]? = some p → dstOf ops (c + j) = some t → t < st.sl.length → ARel w (okS ok0 w0 w st.ob en) en p.2 (a.tmps.getD t undef) ∧ p.2.bd st.nx) →
      (∀ t, t ∈ st.kp → (∀ j, j < n → dstOf ops (c + j) ≠ some t) → a.tmps.getD t undef = tv t) → (st.nd = true → a.defers = []) →
      wpAnyIn (FW lr) 0 P .any ops Q (listed.toList.count false) listed a w := by
    intro listed a w en hid hsz hall hpre hm hde hts hA hB hC hN
    have hinv : Inv G X ok0 w0 tv (stAt st L n) a w en := by
      have s := stAt_same (st := st) L n
      have slot : ∀ t, t < st.sl.length → ARel w (okS ok0 w0 w st.ob en) en ((stAt st L n).sl.getD t (.f .any)) (a.tmps.getD t undef) ∧ ((stAt st L n).sl.getD t (.f .any)).bd st.nx := by
        intro t ht
        by_cases hex : ∃ j, j < n ∧ dstOf ops (c + j) = some t
        · obtain ⟨j, hj, hjt⟩ := hex
          obtain ⟨p, hp1, hp2⟩ := hLi j hj
          rw [stAt_dst L t ht j p hp1 ((hdst j p hp1).symm.trans hjt) (huq j t hj hjt) n hj]
          by_cases hja : j = ai
          · subst hja; rw [hpa p hp1]; exact ⟨by simp [ARel, FRel], by simp [AV.bd]⟩
          · exact hB j t p hja (hall (c + j) (by omega)) hp1 hjt ht
        · have hne : ∀ j, j < n → dstOf ops (c + j) ≠ some t := fun j hj e => hex ⟨j, hj, e⟩
          rw [stAt_else L t n (fun j p hj hp e => hne j hj ((hdst j p hp).trans e))]
          exact ⟨hA t hne, bdL.get _ _ hbd⟩
      refine ⟨by rw [s.1, s.2.1]; exact hm, hde.wide hid.2.2.1, ?_, ?_, fun t ht => by
          obtain ⟨k1, k2⟩ := stAt_kp L t n ht
          refine hC t k1 fun j hj e => ?_
          obtain ⟨p, hp1, hp2⟩ := hLi j hj
          exact k2 j p hj hp1 ((hdst j p hp1).symm.trans e), fun hn => hN (by rw [stAt_nd] at hn; exact hn)⟩
      · rw [s.1]
        exact ARelL.of_get _ _ (by rw [s.2.2]; simpa using hts) fun t ht => by
          have := (slot t (by rw [← s.2.2]; exact ht)).1
          rwa [tmps_getD] at this
      · rw [s.2.1]
        exact bdL.of_get _ fun t ht => (slot t (by rw [← s.2.2]; exact ht)).2
    have hid2 : Hid w en en0 d zv.cells ty a True := ⟨hid.1, hid.2.1, hid.2.2.1, fun h => (h trivial).elim, fun _ => hid.2.2.2.2 (hall (c + ai) (by omega))⟩
    obtain ⟨en', hinv'⟩ := hid_end hinv hde hid2 (by rw [(stAt_same (st := st) L n).2.2]; exact hdl) hzA hzb
    refine hfin listed a w en' hsz (fun j hj => ?_) hinv'
    by_cases hjn : j < c + n
    · have := hall j hjn
      rw [Array.getD_eq_getD_getElem?, Array.getElem?_eq_getElem (by omega)] at this ⊢
      simp only [Option.getD_some] at this ⊢
      rw [this]; simp [hjn]
    · have h0 : listed.getD j false ≠ true := fun e => hjn (hpre j e)
      rw [Array.getD_eq_getD_getElem?, Array.getElem?_eq_getElem (by omega)] at h0 ⊢
      simp only [Option.getD_some] at h0 ⊢
      simp [hjn, h0]
  intro fuel
  induction fuel with
  | zero =>
    intro listed a w en hid hsz hfuel hcl hpre hc0 hm hde hts hA hB hC hN
    have hfin0 := fun hall => fin listed a w en hid hsz hall hpre hm hde hts hA hB hC hN
    rw [← hfuel] at hfin0
    refine hfin0 fun j hj => ?_
    have hlt : j < listed.size := by omega
    rw [Array.getD_eq_getD_getElem?, Array.getElem?_eq_getElem hlt]
    simp only [Option.getD_some]
    have h0 : listed.toList.count false = 0 := hfuel.symm
    rw [List.count_eq_zero] at h0
    cases hv : listed[j] with
    | true => rfl
    | false => exact absurd (by rw [← hv]; simp) h0
  | succ fuel ih =>
    intro listed a w en hid hsz hfuel hcl hpre hc0 hm hde hts hA hB hC hN
    by_cases hall : ∀ j, j < c + n → listed.getD j false = true
    · have := fin listed a w en hid hsz hall hpre hm hde hts hA hB hC hN
      rw [← hfuel] at this
      exact this
    · -- one of the block is still to do
      have hex : ∃ j, j < c + n ∧ listed.getD j false ≠ true := by
        apply Classical.byContradiction
        intro hno
        exact hall fun j hj => Classical.byContradiction fun h => hno ⟨j, hj, h⟩
      refine ⟨fun he => ?_, fun i hi => ?_⟩
      · exfalso
        obtain ⟨j, hj, hjl⟩ := hex
        have key : ∀ j, j < c + n → listed.getD j false = true := by
          intro j
          induction j using Nat.strongRecOn with
          | _ j ihj =>
            intro hj
            apply Classical.byContradiction
            intro hjl
            have hjs : j < ops.size := by omega
            have : j ∈ Region.ready .any ops listed := by
              rw [mem_ready]
              refine ⟨?_, ops[j], Array.getElem?_eq_getElem hjs, fun e he' hb => ?_⟩
              · rw [Array.getD_eq_getD_getElem?, Array.getElem?_eq_getElem (by omega)] at hjl ⊢
                simpa using hjl
              · have := hd.back j _ (Array.getElem?_eq_getElem hjs) e he' hb
                exact ihj e.on this (by omega)
            rw [he] at this
            cases this
        exact hjl (key j hj)
      · obtain ⟨hun, o, hio, hedges⟩ := mem_ready.1 hi
        have his := (Array.getElem?_eq_some_iff.1 hio).1
        have hin : i < c + n := by
          apply Classical.byContradiction
          intro hge
          obtain ⟨j, hj, hjl⟩ := hex
          exact hjl (ready_all hd (fun j hj => hc0 j (by omega)) hcl hio hedges j (by have := hbnd i (by omega) his; omega))
        have hci : c ≤ i := by
          apply Classical.byContradiction
          intro hlt
          have h1 := hc0 i (by omega)
          rw [Array.getD_eq_getD_getElem?, Array.getElem?_eq_getElem (by omega)] at h1 hun
          simp only [Option.getD_some] at h1 hun
          rw [h1] at hun; cases hun
        obtain ⟨i', rfl⟩ : ∃ i', i = c + i' := ⟨i - c, by omega⟩
        have hi'n : i' < n := by omega
        obtain ⟨p, hp1, hp2⟩ := hLi i' hi'n
        rw [hio] at hp2
        simp only [Option.some.injEq] at hp2
        by_cases hia : i' = ai
        · subst hia
          rw [hoa] at hio
          cases hio
          have hun' : ¬ listed.getD (c + i') false = true := by
            rw [Array.getD_eq_getD_getElem?, Array.getElem?_eq_getElem (by omega)] at hun ⊢
            simp only [Option.getD_some] at hun ⊢
            rw [hun]; simp
          have hx : Ext G w (w.alloc (.cells zv.cells ty)) := (Ext.refl w).alloc _
          obtain ⟨hm', hcar⟩ := hid_alloc hm zv.cells ty
          have hdsl : ∀ D, en0.ds D → D < w.heap.size := fun D hD => (hm.dsl D (hid.2.2.1 D hD)).2.1
          unfold wpOpIn
          rw [hoa]
          simp only
          rw [if_pos (by simp [Region.wanted, hga])]
          refine wp_value (v := .pointer (some ⟨w.heap.size, 0, none⟩)) (w' := w.alloc (.cells zv.cells ty)) (by simp [execOp, hop, Instr.alloc, hzr, newVar, newRow, Result.andThen]) ?_
          have hdn : ∀ j, j ≠ i' → j < n → dstOf ops (c + j) ≠ some d := fun j hj hjn e => by
            have h1 : dstOf ops (c + i') = some d := by unfold dstOf; rw [hoa]; exact hda
            have := hk.uniq (c + j) (c + i') d (by omega) (by omega) (by omega) (by omega) e h1
            omega
          rw [hda]
          refine ih _ _ _ { ds := fun D => en.ds D ∨ D = w.heap.size, blk := en.blk, val := en.val } ⟨hid.1, hid.2.1, fun D hD => .inl (hid.2.2.1 D hD), fun h => (h (getD_set_same his hsz)).elim, fun _ => ⟨w.heap.size, fun D hD => hD.imp (hid.2.2.2.1 hun' D) id, .inr rfl, fun hD => Nat.lt_irrefl _ (hdsl _ hD), heap_alloc_new w _, put_tmps_same _ (by rw [hts]; exact hdl)⟩⟩ (by simpa using hsz) ?_ ?_ ?_ ?_ hm' (by rw [put_defs]; exact hde.turn (fun D hD => hx.block D (hdsl D hD)) rfl) (by rw [put_size]; exact hts) ?_ ?_ ?_ (fun hn => by rw [put_defs]; exact hN hn)
          · have := count_set hun
            omega
          · intro k ok hk' hok e he hb
            by_cases hki : c + i' = k
            · subst hki
              rw [hoa] at hok
              cases hok
              exact getD_set_true (hedges e he hb)
            · rw [getD_set_ne false hki] at hk'
              exact getD_set_true (hcl k ok hk' hok e he hb)
          · intro k hk'
            by_cases hki : c + i' = k
            · omega
            · rw [getD_set_ne false hki] at hk'
              exact hpre k hk'
          · intro k hk'
            exact getD_set_true (hc0 k hk')
          · intro t ht
            have hne : some d ≠ some t := fun e => ht i' hi'n (by unfold dstOf; rw [hoa]; exact hda.trans e)
            rw [put_tmps_ne _ hne]
            exact ARel.carry hcar (show EnvUpto st.nx en { ds := fun D => en.ds D ∨ D = w.heap.size, blk := en.blk, val := en.val } from fun _ _ => ⟨rfl, rfl⟩) _ _ (bdL.get _ _ hbd) (hA t ht)
          · intro j t q hja hj hq hjt hlt
            rw [getD_set_ne false (by omega)] at hj
            have hjn : j < n := by have := (List.getElem?_eq_some_iff.1 hq).1; omega
            have hne : some d ≠ some t := fun e => hdn j hja hjn (hjt.trans e.symm)
            rw [put_tmps_ne _ hne]
            have := hB j t q hja hj hq hjt hlt
            exact ⟨ARel.carry hcar (show EnvUpto st.nx en { ds := fun D => en.ds D ∨ D = w.heap.size, blk := en.blk, val := en.val } from fun _ _ => ⟨rfl, rfl⟩) _ _ this.2 this.1, this.2⟩
          · intro t ht hne
            have h9 : some d ≠ some t := fun e => hne i' hi'n (by unfold dstOf; rw [hoa]; exact hda.trans e)
            rw [put_tmps_ne _ h9]
            exact hC t ht hne
        have s := stAt_same (st := st) L i'
        refine use_fact (sti := stAt st L i') (en := en) (ok0 := ok0) (w0 := w0) (r := p.2) hio (by rw [s.1, s.2.1]; exact hm) (by rw [hp2]; exact (hf i' p hp1).fact (by
          cases hal : isAl p.1 with
          | false => rfl
          | true => exact (hia (huniq i' p.1 hi'n (by rw [hio, hp2]) hal)).elim)) ?_ ?_
        · intro t ht
          rw [s.1, s.2.1]
          by_cases hlt : t < st.sl.length
          · by_cases hex : ∃ j, j < n ∧ dstOf ops (c + j) = some t
            · obtain ⟨j, hj, hjt⟩ := hex
              obtain ⟨hji, e, he, hej, hb⟩ := hk.known (c + i') o hci hin hio t ht (c + j) (by omega) (by omega) hjt
              obtain ⟨q, hq1, hq2⟩ := hLi j hj
              rw [stAt_dst L t hlt j q hq1 ((hdst j q hq1).symm.trans hjt) (huq j t hj hjt) i' (by omega)]
              by_cases hja : j = ai
              · subst hja; rw [hpa q hq1]; exact ⟨by simp [ARel, FRel], by simp [AV.bd]⟩
              · exact hB j t q hja (by rw [← hej]; exact hedges e he hb) hq1 hjt hlt
            · have hne : ∀ j, j < n → dstOf ops (c + j) ≠ some t := fun j hj e => hex ⟨j, hj, e⟩
              rw [stAt_else L t i' (fun j q hj hq e => hne j (by omega) ((hdst j q hq).trans e))]
              exact ⟨hA t hne, bdL.get _ _ hbd⟩
          · have : (stAt st L i').sl.getD t (.f .any) = .f .any := by
              have hle : (stAt st L i').sl.length ≤ t := by have h1 := s.2.2; rw [h1]; exact Nat.not_lt.1 hlt
              rw [List.getD_eq_getElem?_getD, List.getElem?_eq_none hle]; rfl
            rw [this]
            exact ⟨by simp [ARel, FRel], by simp [AV.bd]⟩
        · intro v w' hx hr hrb
          rw [s.1] at hr
          rw [s.2.1] at hrb
          have hdo : o.dst ≠ some d := fun e => hia (by
            have h1 : dstOf ops (c + ai) = some d := by unfold dstOf; rw [hoa]; exact hda
            have h2 : dstOf ops (c + i') = some d := by unfold dstOf; rw [hio]; exact e
            have := hk.uniq (c + i') (c + ai) d (by omega) (by omega) (by omega) (by omega) h2 h1
            omega)
          have hcar : Carry w w' (okS ok0 w0 w st.ob en) (okS ok0 w0 w' st.ob en) := carry_ext hx
          refine ih _ _ _ en (hid.step hm hx (hdo) (getD_set_ne false (by omega : ¬ c + i' = c + ai))) (by simpa using hsz) ?_ ?_ ?_ ?_ (hm.step hx) (by rw [put_defs]; exact hde.turn (fun D hD => hx.block D (hm.dsl D (hid.2.2.1 D hD)).2.1) rfl) (by rw [put_size]; exact hts) ?_ ?_ ?_ (fun hn => by rw [put_defs]; exact hN hn)
          · have := count_set hun
            omega
          · intro k ok hk' hok e he hb
            by_cases hki : c + i' = k
            · subst hki
              rw [hio] at hok
              cases hok
              exact getD_set_true (hedges e he hb)
            · rw [getD_set_ne false hki] at hk'
              exact getD_set_true (hcl k ok hk' hok e he hb)
          · intro k hk'
            by_cases hki : c + i' = k
            · omega
            · rw [getD_set_ne false hki] at hk'
              exact hpre k hk'
          · intro k hk'
            exact getD_set_true (hc0 k hk')
          · intro t ht
            have hne : o.dst ≠ some t := by
              have := ht i' hi'n
              unfold dstOf at this
              rw [hio] at this
              exact this
            rw [put_tmps_ne v hne]
            exact ARel.carry hcar (EnvUpto.refl st.nx en) _ _ (bdL.get _ _ hbd) (hA t ht)
          · intro j t q hja hj hq hjt hlt
            by_cases hji : i' = j
            · subst hji
              rw [hp1] at hq
              cases hq
              have hod : o.dst = some t := by
                unfold dstOf at hjt
                rw [hio] at hjt
                exact hjt
              rw [hod, put_tmps_same v (by rw [hts]; exact hlt)]
              exact ⟨hr, hrb⟩
            · rw [getD_set_ne false (by omega)] at hj
              have hne : o.dst ≠ some t := by
                intro e
                have hdi : dstOf ops (c + i') = some t := by unfold dstOf; rw [hio]; exact e
                have hjn : j < n := by have := (List.getElem?_eq_some_iff.1 hq).1; omega
                have := hk.uniq (c + i') (c + j) t (by omega) (by omega) (by omega) (by omega) hdi hjt
                exact hji (by omega)
              rw [put_tmps_ne v hne]
              have := hB j t q hja hj hq hjt hlt
              exact ⟨ARel.carry hcar (EnvUpto.refl st.nx en) _ _ this.2 this.1, this.2⟩
          · intro t ht hne
            have h9 : o.dst ≠ some t := by
              have := hne i' hi'n
              unfold dstOf at this
              rw [hio] at this
              exact this
            rw [put_tmps_ne v h9]
            exact hC t ht hne
/-- All are done. -/
theorem end_all {lr : Option Nat} {K : St → List Hint → Prop} {Q : Exit → Act → World → Prop} (hQ : ∀ st' hs' a' w' en', Inv G X ok0 w0 tv st' a' w' en' → K st' hs' → Q .normal a' w') (st : St) (hs : List Hint) (a : Act) (w : World) (en : Env) (listed : Array Bool) (h : Inv G X ok0 w0 tv st a w en) (hsz : listed.size = ops.size) (hli : ∀ j, j < ops.size → listed.getD j true = decide (j < ops.size)) (hv : K st hs) : wpAnyIn (FW lr) 0 P .any ops Q (listed.toList.count false) listed a w := by
    have hall : ∀ j, j < ops.size → listed.getD j true = true := fun j hj => by rw [hli j hj]; simpa using hj
    have h0 : listed.toList.count false = 0 := by
      rw [List.count_eq_zero]
      intro hm
      obtain ⟨j, hj, he⟩ := List.getElem_of_mem hm
      have hj' : j < listed.size := by simpa using hj
      have := hall j (by omega)
      rw [Array.getD_eq_getD_getElem?, Array.getElem?_eq_getElem hj'] at this
      simp only [Option.getD_some] at this
      simp only [Array.getElem_toList] at he
      rw [he] at this; cases this
    rw [h0]
    refine ⟨?_, hQ _ _ _ _ _ h hv⟩
    rw [List.eq_nil_iff_forall_not_mem]
    intro j hj
    obtain ⟨h1, o, ho, _⟩ := mem_ready.1 hj
    have hlt := (Array.getElem?_eq_some_iff.1 ho).1
    rw [hall j hlt] at h1
    cases h1
/-- Pieces, one behind the other. -/
theorem pieces_sound {lr : Option Nat} {ss : List Nat} {f : Nat} (hd : DrawnOk P ops f (fun i => ss.getD i 0)) {cE : Nat} {K : St → List Hint → Prop} {Q : Exit → Act → World → Prop} (hend : ∀ (st : St) (hs : List Hint) (a : Act) (w : World) (en : Env) (listed : Array Bool), Inv G X ok0 w0 tv st a w en → listed.size = ops.size → (∀ j, j < ops.size → listed.getD j true = decide (j < cE)) → K st hs → wpAnyIn (FW lr) 0 P .any ops Q (listed.toList.count false) listed a w) :
    ∀ (pcs : List (Nat × Nat)) (c : Nat) (st : St) (hs : List Hint) (a : Act) (w : World) (en : Env) (listed : Array Bool), f ≤ c → pcsOk ops ss cE pcs c = true → Inv G X ok0 w0 tv st a w en → listed.size = ops.size → c ≤ ops.size → (∀ j, j < ops.size → listed.getD j true = decide (j < c)) →
      evalPieces P G ops pcs c st hs K → wpAnyIn (FW lr) 0 P .any ops Q (listed.toList.count false) listed a w
  | [], c, st, hs, a, w, en, listed, hfc, hp, h, hsz, hc, hli, hv => by
    simp only [pcsOk, decide_eq_true_eq] at hp
    subst hp
    exact hend st hs a w en listed h hsz hli hv
  | (n, m) :: r, c, st, hs, a, w, en, listed, hfc, hp, h, hsz, hc, hli, hv => by
    simp only [pcsOk, Bool.and_eq_true, decide_eq_true_eq, List.all_eq_true, List.mem_range'_1] at hp
    obtain ⟨⟨⟨⟨p1, p2⟩, p3⟩, p4⟩, p5⟩ := hp
    simp only [evalPieces] at hv
    obtain ⟨L, hL, hf, hs2, hk⟩ := row_facts _ _ _ _ hv
    have hLlen : L.length = n := by
      have := congrArg List.length hL
      simp at this
      omega
    rw [hLlen] at hk
    have hlik := exact_listed hc hsz hli
    refine any_sound (tv := tv) (c := c) (n := n) hfc hd (blkOk_spec p1) (by omega) (bndOk_spec p2) hL hf h.bd (fun listed' a' w' hsz' hli' h' => ?_) _ listed a w hsz rfl ?_ ?_ ?_ h.mem h.defs ?_ ?_ ?_ ?_ h.nod
    · have hrow : ((ops.toList.drop (c + n)).take m).length = m := by simp; omega
      have hw := evalRow_sound (lr := lr) (ops := ops) (Q := Q) (E := fun a w => ∀ listed' : Array Bool, listed'.size = ops.size → (∀ j, j < ops.size → listed'.getD j true = decide (j < c + n + m)) → wpAnyIn (FW lr) 0 P .any ops Q (listed'.toList.count false) listed' a w)
        (fun st2 hs3 a2 w2 en2 h2 hk2 listed2 hsz2 hli2 => pieces_sound hd hend r (c + n + m) st2 hs3 a2 w2 en2 listed2 (by omega) p5 h2 hsz2 p4 hli2 hk2) _ _ _ _ _ _ _ h' hk
      exact singles_any hd _ (c + n) listed' a' w' (by rw [hrow]) (by rw [hrow]; omega) (by omega) (fun q h1 h2 => bndOk_spec (p3 q ⟨h1, by rw [hrow] at h2; exact h2⟩)) hsz' hli' (by rw [hrow]; exact hw)
    · intro i o hi ho e he hb
      exact (hlik _).2 (by have := hd.back i o ho e he hb; have := (hlik i).1 hi; omega)
    · intro j hj
      have := (hlik j).1 hj
      omega
    · intro j hj
      exact (hlik j).2 hj
    · have := ARelL.length _ _ h.slots
      simpa using this
    · intro t _
      exact (h.opnd (.tmp t)).1
    · intro j t p hj
      have := (hlik _).1 hj
      omega
    · intro t ht _
      exact h.keep t ht
/-- A region that draws its order. -/
theorem drawn_sound {lr : Option Nat} {id : Nat} {pcs : List (Nat × Nat)} {hs : List Hint} {K : St → List Hint → Prop} {Q : Exit → Act → World → Prop} (h : Inv G X ok0 w0 tv st a w en) (hv : evalDrawn P G ops pcs st hs K)
    (hQ : ∀ st' hs' a' w' en', Inv G X ok0 w0 tv st' a' w' en' → K st' hs' → Q .normal a' w') : (Code.region id ops true).wpIn (FW lr) 0 P Q a w := by
  obtain ⟨hok, hv⟩ := hv
  obtain ⟨hd, hpcs⟩ := drawnOk_spec hok
  obtain ⟨st1, hs1, en1, h1, hv⟩ := preF_inv h hv
  refine wpIn_region_any hd.mixed ?_
  have h2 : Inv G X ok0 w0 tv st1 a { w with drawn := w.drawn + 1 } en1 := h1.step (Ext.drew (Ext.refl w))
  have := pieces_sound (lr := lr) hd (end_all hQ) pcs 0 st1 hs1 a _ en1 (Array.replicate ops.size false) (Nat.le_refl _) hpcs h2 (by simp) (Nat.zero_le _) (fun j hj => by simp [hj]) hv
  simpa [List.count_replicate] using this
/-- A region that draws its order and lays an object. -/
theorem zeroP_runA {t : TypeId} {z : List FV} (h : zeroP P t = some z) : ∃ zv : Value, (∀ w : World, (zeroValue t).run P w = .ok zv w) ∧ (∀ (w : World) (ok : Nat → Prop) (en : Env), ARelL w ok en (z.map .f) zv.cells.toList) ∧ ∀ n, bdL n (z.map AV.f) := by
  unfold zeroP at h
  split at h
  · rename_i i hi
    split at h
    · rename_i zv hz
      simp only [Option.some.injEq] at h
      subst h
      refine ⟨zv, fun w => by simp [zeroValue, typeInfo, hi, hz, Result.andThen], fun w ok en => ?_, fun n => ?_⟩
      · rw [List.map_map]; exact (fV1_relA w ok en zv.cells.toList).1
      · rw [List.map_map]; exact (fV1_relA default (fun _ => True) ⟨fun _ => True, fun _ _ => True, fun _ => undef⟩ zv.cells.toList).2 n
    · cases h
  · cases h
theorem drawnC_sound {lr : Option Nat} {id n ai : Nat} {hs : List Hint} {K : St → List Hint → Prop} {Q : Exit → Act → World → Prop} (h : Inv G X ok0 w0 tv st a w en) (hv : evalDrawnC P G ops n ai st hs K)
    (hQ : ∀ st' hs' a' w' en', Inv G X ok0 w0 tv st' a' w' en' → K st' hs' → Q .normal a' w') : (Code.region id ops true).wpIn (FW lr) 0 P Q a w := by
  obtain ⟨hok, hv⟩ := hv
  simp only [Bool.and_eq_true, decide_eq_true_eq, List.all_eq_true, List.mem_range] at hok
  obtain ⟨⟨hok, hai⟩, hal⟩ := hok
  obtain ⟨hd, hpcs⟩ := drawnOk_spec hok
  obtain ⟨st1, hs1, en1, h1, hv⟩ := preF_inv h hv
  refine wpIn_region_any hd.mixed ?_
  have h2 : Inv G X ok0 w0 tv st1 a { w with drawn := w.drawn + 1 } en1 := h1.step (Ext.drew (Ext.refl w))
  have hp := hpcs
  simp only [pcsOk, Bool.and_eq_true, decide_eq_true_eq, List.all_eq_true, List.mem_range'_1] at hp
  obtain ⟨⟨⟨⟨p1, p2⟩, p3⟩, p4⟩, p5⟩ := hp
  split at hv
  · rename_i oa hoa
    split at hv
    · rename_i t d hop hda hga
      split at hv
      · rename_i z hz
        obtain ⟨hdl, hv⟩ := hv
        simp only [decide_eq_true_eq] at hdl
        obtain ⟨zv, z1, z2, z3⟩ := zeroP_runA hz
        obtain ⟨L, hL, hf, hs2, hk⟩ := row_factsA _ _ _ _ hv
        have hLlen : L.length = n := by
          have := congrArg List.length hL
          simp at this
          omega
        rw [hLlen] at hk
        have hp2 : pcsOk ops (startsOf [(n, ops.size - n)] 0) ops.size [(0, ops.size - n)] n = true := by
          simp only [pcsOk, Bool.and_eq_true, decide_eq_true_eq, List.all_eq_true, List.mem_range'_1]
          refine ⟨⟨⟨⟨by simp [blkOk], by simpa using p2⟩, fun k hk => p3 k (by omega)⟩, by omega⟩, by omega⟩
        have h0 : ∀ j, ¬ (Array.replicate ops.size false).getD j false = true := fun j => by
          rw [Array.getD_eq_getD_getElem?, Array.getElem?_replicate]
          split <;> simp
        have := any_soundA (lr := lr) (en0 := en1) (tv := tv) (c := 0) (n := n) (f := 0) (Nat.le_refl _) hd (blkOk_spec (by simpa using p1)) (by omega) (by simpa using bndOk_spec p2) (L := L) (by simpa using hL) hf (ai := ai) (oa := oa) (ty := t) (d := d) (z := z) (zv := zv) hai (by simpa using hoa) hop hda hga hdl
          (fun i o hi ho hx => by
            have := hal i hi
            rw [show ops[i]? = some o by simpa using ho] at this
            simpa [hx] using this) z1 z2 z3 (Q := Q) h2.bd
          (fun listed' a' w' en' hsz' hli' h' => pieces_sound (lr := lr) hd (end_all hQ) [(0, ops.size - n)] n _ hs2 a' w' en' listed' (Nat.zero_le _) hp2 h' hsz' (by omega) (by simpa using hli') hk)
          _ (Array.replicate ops.size false) a { w with drawn := w.drawn + 1 } en1 ⟨rfl, rfl, fun _ h => h, fun _ _ h => h, fun hx => (h0 _ hx).elim⟩ (by simp) rfl (fun i o hi => (h0 _ hi).elim) (fun j hj => (h0 _ hj).elim) (fun j hj => absurd hj (Nat.not_lt_zero _)) h2.mem h2.defs
          (by have := ARelL.length _ _ h2.slots; simpa using this) (fun t _ => (h2.opnd (.tmp t)).1) (fun j t p _ hj => (h0 _ hj).elim) (fun t ht _ => h2.keep t ht) h2.nod
        simpa [List.count_replicate] using this
      · exact hv.elim
    · exact hv.elim
  · exact hv.elim
theorem preA_size (n i : Nat) : (preA n i).size = n := by simp [preA]
theorem preA_getD (n i j : Nat) (h : j < n) (d : Bool) : (preA n i).getD j d = decide (j < i) := by
  rw [Array.getD_eq_getD_getElem?, Array.getElem?_eq_getElem (by rw [preA_size]; exact h)]
  simp [preA]
theorem preA_set (n i : Nat) (h : i < n) : (preA n i).setIfInBounds i true = preA n (i + 1) := by
  apply Array.ext
  · simp [preA]
  · intro j h1 h2
    rw [Array.getElem_setIfInBounds]
    · by_cases e : i = j
      · subst e; simp [preA]
      · rw [if_neg e]
        simp only [preA, List.getElem_toArray, List.getElem_map, List.getElem_range]
        rw [Bool.eq_iff_iff, decide_eq_true_eq, decide_eq_true_eq]; omega
    · rw [preA_size]; rw [preA_size] at h2; exact h2
theorem preA_zero (n : Nat) : preA n 0 = Array.replicate n false := by
  apply Array.ext
  · simp [preA]
  · intro j h1 h2; simp [preA]
theorem allOf_mem {α : Type} {f : α → Prop} : ∀ {l : List α}, allOf l f → ∀ x, x ∈ l → f x
  | [], _, x, hx => by cases hx
  | [y], h, x, hx => by
    rcases List.mem_cons.1 hx with rfl | hx
    · exact h
    · cases hx
  | y :: z :: l, h, x, hx => by
    rcases List.mem_cons.1 hx with rfl | hx
    · exact h.1
    · exact allOf_mem h.2 x hx
/-- What is left, in every order. -/
theorem all_sound {lr : Option Nat} {K : St → List Hint → Prop} {Q : Exit → Act → World → Prop} (hQ : ∀ st' hs' a' w' en', Inv G X ok0 w0 tv st' a' w' en' → K st' hs' → Q .normal a' w') :
    ∀ (fuel : Nat) (listed : Array Bool) (st : St) (hs : List Hint) (a : Act) (w : World) (en : Env), Inv G X ok0 w0 tv st a w en → evalAll P G ops fuel listed st hs K → wpAnyIn (FW lr) 0 P .any ops Q fuel listed a w
  | 0, listed, st, hs, a, w, en, h, hv => by
    simp only [evalAll] at hv
    exact ⟨by simpa using hv.1, hQ _ _ _ _ _ h hv.2⟩
  | fuel + 1, listed, st, hs, a, w, en, h, hv => by
    simp only [evalAll] at hv
    refine ⟨fun he => ?_, fun i hi => ?_⟩
    · rw [he] at hv; simp at hv
    · have h1 := allOf_mem hv.2 i hi
      cases ho : ops[i]? with
      | none => rw [ho] at h1; exact h1.elim
      | some o =>
        rw [ho] at h1
        have hw := evalRow_sound (lr := lr) (ops := ops) (Q := Q) (E := wpAnyIn (FW lr) 0 P .any ops Q fuel (listed.setIfInBounds i true))
          (fun st2 hs3 a2 w2 en2 h2 hk2 => all_sound hQ fuel _ st2 hs3 a2 w2 en2 h2 hk2) _ _ _ _ _ _ _ h h1
        unfold wpOpIn
        rw [ho]
        simp only [wpLF] at hw ⊢
        split
        · rename_i hwt
          rw [if_pos hwt] at hw
          exact hw
        · rename_i hwt
          rw [if_neg hwt] at hw
          exact ⟨fun _ _ => trivial, hw⟩
theorem drawnOkA_spec {pcs : List (Nat × Nat)} (h : drawnOkA P ops pcs = true) : DrawnOk P ops 0 (fun i => (starA ops pcs).getD i 0) ∧ pcsOk ops (starA ops pcs) (totalOf pcs) pcs 0 = true := by
  unfold drawnOkA behindOk at h
  simp only [Bool.and_eq_true, List.all_eq_true, List.mem_range] at h
  obtain ⟨⟨⟨h1, h3⟩, h5⟩, h6⟩ := h
  have lt : ∀ i o, ops[i]? = some o → i < ops.size := fun i o hi => (Array.getElem?_eq_some_iff.1 hi).1
  refine ⟨⟨h1, ?_, ?_, ?_⟩, h6⟩
  · intro i o hi e he hb
    have := h3 i (lt i o hi)
    rw [hi] at this
    simp only [Bool.and_eq_true, Array.all_eq_true_iff_forall_mem] at this
    have := this.1 e he
    simpa [hb] using this
  · intro i o hi cs b hc
    have := h3 i (lt i o hi)
    rw [hi] at this
    simp [hc] at this
  · intro i hi j _ hj
    have := h5 i hi j hj
    simp only [Bool.or_eq_true, List.any_eq_true, List.mem_range, Bool.and_eq_true, decide_eq_true_eq] at this
    rcases this with h | ⟨m, hm, hjm, h⟩
    · obtain ⟨o, ho, he⟩ := edgeAt_spec h
      exact ⟨i, o, .inl rfl, ho, he⟩
    · obtain ⟨o, ho, he⟩ := edgeAt_spec h
      exact ⟨m, o, .inr ⟨hjm, hm⟩, ho, he⟩
theorem pcs_total {ss : List Nat} {cE : Nat} : ∀ (pcs : List (Nat × Nat)) (c : Nat), c ≤ ops.size → pcsOk ops ss cE pcs c = true → cE ≤ ops.size
  | [], c, hc, h => by simp only [pcsOk, decide_eq_true_eq] at h; omega
  | (n, m) :: r, c, hc, h => by
    simp only [pcsOk, Bool.and_eq_true, decide_eq_true_eq] at h
    exact pcs_total r _ h.1.2 h.2
theorem preA_eq {listed : Array Bool} {n k : Nat} (i2 : listed.size = n) (i3 : ∀ j, j < n → listed.getD j true = decide (j < k)) : listed = preA n k := by
  apply Array.ext
  · rw [preA_size]; exact i2
  · intro j g1 g2
    have g3 := i3 j (by omega)
    rw [Array.getD_eq_getD_getElem?, Array.getElem?_eq_getElem g1] at g3
    have g4 := preA_getD n k j (by omega) true
    rw [Array.getD_eq_getD_getElem?, Array.getElem?_eq_getElem g2] at g4
    simp only [Option.getD_some] at g3 g4
    rw [g3, g4]
theorem preA_count {listed : Array Bool} {n k : Nat} (hk : k ≤ n) (e : listed = preA n k) : listed.toList.count false = n - k := by
  rw [e]
  clear e
  induction k with
  | zero => rw [preA_zero]; simp [List.count_replicate]
  | succ k ih =>
    have h5 := ih (by omega)
    have h6 := count_set (listed := preA n k) (i := k) (by rw [preA_getD _ _ _ (by omega)]; simp)
    rw [preA_set _ _ (by omega)] at h6
    omega
/-- A region of pieces, the rest in every order. -/
theorem drawnA_sound {lr : Option Nat} {id : Nat} {pcs : List (Nat × Nat)} {hs : List Hint} {K : St → List Hint → Prop} {Q : Exit → Act → World → Prop} (h : Inv G X ok0 w0 tv st a w en) (hv : evalDrawnA P G ops pcs st hs K)
    (hQ : ∀ st' hs' a' w' en', Inv G X ok0 w0 tv st' a' w' en' → K st' hs' → Q .normal a' w') : (Code.region id ops true).wpIn (FW lr) 0 P Q a w := by
  obtain ⟨hok, hv⟩ := hv
  obtain ⟨hd, hpcs⟩ := drawnOkA_spec hok
  have htot := pcs_total pcs 0 (Nat.zero_le _) hpcs
  obtain ⟨st1, hs1, en1, h1, hv⟩ := preF_inv h hv
  refine wpIn_region_any hd.mixed ?_
  have h2 : Inv G X ok0 w0 tv st1 a { w with drawn := w.drawn + 1 } en1 := h1.step (Ext.drew (Ext.refl w))
  have := pieces_sound (lr := lr) (cE := totalOf pcs) hd (fun st hs a w en listed i1 i2 i3 i4 => by
    have e : listed = preA ops.size (totalOf pcs) := preA_eq i2 i3
    have ec := preA_count htot e
    rw [ec, e]
    exact all_sound hQ _ _ st hs a w en i1 i4) pcs 0 st1 hs1 a _ en1 (Array.replicate ops.size false) (Nat.le_refl _) hpcs h2 (by simp) (Nat.zero_le _) (fun j hj => by simp [hj]) hv
  simpa [List.count_replicate] using this
theorem pureP_sound {st : St} {o : Oper} {r : AV} (h : Inv G X ok0 w0 tv st a w en) (hg : o.guard = none) (hp : pureP P st o = some r) :
    ∃ v, ARel w (okS ok0 w0 w st.ob en) en r v ∧ r.bd st.nx ∧ YieldsFenced P ops o v a := by
  have mk : ∀ v, (∀ w, (execOp a.eval o).run P w = .ok (.value v) w) → (∀ w, o.about P w a.eval = none) → YieldsFenced P ops o v a := fun v h1 h2 => ⟨.inl ⟨by simp [Region.wanted, hg], h1⟩, h2⟩
  unfold pureP at hp
  cases hop : o.op <;> simp only [hop] at hp <;> try (cases hp; done)
  case move x =>
    simp only [Option.some.injEq] at hp
    subst hp
    exact ⟨a.eval x, (h.opnd x).1, (h.opnd x).2, mk _ (fun w => by simp [execOp, hop]) (fun w => by unfold Oper.about; rw [hop])⟩
  case assign x =>
    simp only [Option.some.injEq] at hp
    subst hp
    exact ⟨a.eval x, (h.opnd x).1, (h.opnd x).2, mk _ (fun w => by simp [execOp, hop]) (fun w => by unfold Oper.about; rw [hop])⟩
  case nilCheck x =>
    split at hp
    · rename_i cs off hx
      simp only [Option.some.injEq] at hp
      subst hp
      have h1 := (h.opnd x).1
      rw [hx] at h1
      have h2 := h1
      simp only [ARel, FRel] at h2
      obtain ⟨b, o2, e, _, _⟩ := h2
      exact ⟨a.eval x, h1, by simp [AV.bd], mk _ (fun w => by simp [execOp, hop, e]) (fun w => by unfold Oper.about; rw [hop])⟩
    · cases hp
  case fieldAddr t x f =>
    split at hp
    · rename_i cs off d hx hd
      simp only [Option.some.injEq] at hp
      subst hp
      have h1 := (h.opnd x).1
      rw [hx] at h1
      simp only [ARel, FRel] at h1
      obtain ⟨b, o2, e, h3, h4⟩ := h1
      refine ⟨.pointer (some ⟨b, o2 + off + d, none⟩), ?_, by simp [AV.bd], mk _ (fun w => by simp only [execOp, hop, e, Sem.run_bind, run_fieldAt b (o2 + off) hd, Result.andThen]; rfl) (fun w => by unfold Oper.about; rw [hop])⟩
      simp only [ARel, FRel]
      exact ⟨b, o2, by rw [Nat.add_assoc], h3, h4⟩
    · cases hp
  case extract x i =>
    split at hp
    · rename_i l hx
      split at hp
      · rename_i y hy
        simp only [Option.some.injEq] at hp
        subst hp
        have h1 := (h.opnd x).1
        rw [hx] at h1
        simp only [ARel, FRel] at h1
        obtain ⟨cs, e, h2⟩ := h1
        obtain ⟨v, hv, hr⟩ := FRelL.get _ _ i y h2 hy
        refine ⟨v, by simpa [ARel] using hr, by simp [AV.bd], mk _ (fun w => by simp [execOp, hop, e, Instr.extract, hv, Result.andThen]) (fun w => by unfold Oper.about; rw [hop])⟩
      · cases hp
    · cases hp
structure DrawnOkE (P : Program) (ops : Array Oper) (f : Nat) (s : Nat → Nat) (x : Nat) : Prop where
  mixed : P.follows .mixedOrders = true
  back : ∀ (i : Nat) (o : Oper), ops[i]? = some o → ∀ e ∈ o.after, Region.binds .any e = true → e.on < i
  nosel : ∀ (i : Nat) (o : Oper), ops[i]? = some o → ∀ cs b, o.op ≠ .select cs b
  behind : ∀ i, i < ops.size → ∀ j, f ≤ j → j < s i → j ≠ x → ∃ (m : Nat) (o : Oper), (m = i ∨ (j < m ∧ m < s i ∧ m ≠ x)) ∧ ops[m]? = some o ∧ ∃ e ∈ o.after, e.on = j ∧ Region.binds .any e = true
theorem ready_allE {s : Nat → Nat} {f x : Nat} (hd : DrawnOkE P ops f s x) {listed : Array Bool} (hF : ∀ j, j < f → listed.getD j false = true) (hcl : ∀ i o, listed.getD i false = true → ops[i]? = some o → ∀ e ∈ o.after, Region.binds .any e = true → listed.getD e.on false = true) {i : Nat} {o : Oper} (hio : ops[i]? = some o)
    (hedges : ∀ e ∈ o.after, Region.binds .any e = true → listed.getD e.on false = true) : ∀ j, j < s i → j ≠ x → listed.getD j false = true := by
  have his := (Array.getElem?_eq_some_iff.1 hio).1
  have key : ∀ d j, s i - j ≤ d → j < s i → j ≠ x → listed.getD j false = true := by
    intro d
    induction d with
    | zero => intro j h1 h2 _; omega
    | succ d ih =>
      intro j h1 h2 hjx
      rcases Nat.lt_or_ge j f with hjf | hjf
      · exact hF j hjf
      obtain ⟨m, o2, h3, h4, e, he, hej, hb⟩ := hd.behind i his j hjf h2 hjx
      rcases h3 with rfl | ⟨h3, h5, h6⟩
      · rw [hio] at h4
        cases h4
        rw [← hej]; exact hedges e he hb
      · have := hcl m o2 (ih m (by omega) h5 h6) h4 e he hb
        rwa [hej] at this
  exact fun j hj hjx => key _ j (Nat.le_refl _) hj hjx
theorem put_put_same {st : St} {t : Tmp} {v : AV} (h : st.sl.getD t (.f .any) = v) (ht : t < st.sl.length) (hk : t ∉ st.kp) : (st.put (some t) (.f .any)).put (some t) v = st := by
  obtain ⟨sl, ob, nx, kp, nd⟩ := st
  simp only [St.put] at h ht hk ⊢
  have h1 : (sl.set t (.f .any)).set t v = sl := by
    rw [List.set_set, ← h, List.getD_eq_getElem?_getD, List.getElem?_eq_getElem ht, Option.getD_some, List.set_getElem_self]
  have h2 : kp.filter (fun x => x != t) = kp := List.filter_eq_self.2 fun x hx => by
    rw [bne_iff_ne]; intro e; subst e; exact hk hx
  rw [h1, h2, h2]
theorem put_self {a : Act} {t : Tmp} (h : t < a.tmps.size) : a.put (some t) (a.tmps.getD t undef) = a := by
  obtain ⟨tmps, defers⟩ := a
  simp only [Act.put] at h ⊢
  congr 1
  apply Array.ext
  · simp
  · intro i h1 h2
    rw [Array.getElem_setIfInBounds]
    · split
      · rename_i e; subst e; simp [Array.getD, h]
      · rfl
theorem any_soundE {en0 : Env} {s : Nat → Nat} {c n f : Nat} (hfc : f ≤ c) {e0 : Nat} (hd : DrawnOkE P ops f s (c + e0)) (hk : BlkOk ops c n) (hle : c + n ≤ ops.size) (hbnd : ∀ i, c + n ≤ i → i < ops.size → c + n ≤ s i) {L : List (Oper × AV)} (hL : L.map (·.1) = (ops.toList.drop c).take n)
    (hf : ∀ i p, L[i]? = some p → DFactA P G ops (stAt st L i) p.1 p.2) {ai : Nat} {oa : Oper} {ty : TypeId} {d : Tmp} {z : List FV} {zv : Value} (hai : ai < n) (hoa : ops[c + ai]? = some oa) (hop : oa.op = .alloc ty) (hda : oa.dst = some d) (hga : oa.guard = none) (hdl : d < st.sl.length) (huniq : ∀ i o, i < n → ops[c + i]? = some o → isAl o = true → i = ai) (hzr : ∀ w : World, (zeroValue ty).run P w = .ok zv w) (hzA : ∀ (w : World) (ok : Nat → Prop) (en : Env), ARelL w ok en (z.map .f) zv.cells.toList) (hzb : ∀ n, bdL n (z.map AV.f)) (he0 : e0 < n) (hne0 : e0 ≠ ai) {oe : Oper} (hoe : ops[c + e0]? = some oe) (hge : oe.guard = none) {te : Tmp} (hdte : oe.dst = some te) (hte : te < st.sl.length) {re : AV} (hre : pureP P ((stAt st L n).put (some te) (.f .any)) oe = some re) (hre2 : (stAt st L n).sl.getD te (.f .any) = re) (hns : Region.noSelect ops = true) (hfree : ∀ listed : Array Bool, listed.size = ops.size → (∀ j, j < ops.size → listed.getD j true = (decide (j < c + n) && !(j == c + e0))) → Region.free .any ops listed (c + e0) = true ∧ (Region.ready .any ops listed).contains (c + e0) = true) {Q : Exit → Act → World → Prop} (hQp : ∀ c a w, ¬ Q (.panic c) a w) (hbd : bdL st.nx st.sl)
    (hfin : ∀ (listed : Array Bool) a w (en : Env), listed.size = ops.size → (∀ j, j < ops.size → listed.getD j true = decide (j < c + n)) → Inv G X ok0 w0 tv ((stAt st L n).fresh (some d) (.loc (stAt st L n).nx 0) (.box (z.map .f)) none) a w en → wpAnyIn (FW none) 0 P .any ops Q (listed.toList.count false) listed a w) :
    ∀ (fuel : Nat) (listed : Array Bool) (a : Act) (w : World) (en : Env), Hid w en en0 d zv.cells ty a (listed.getD (c + ai) false = true) → listed.size = ops.size → fuel = listed.toList.count false →
      (∀ i o, listed.getD i false = true → ops[i]? = some o → ∀ e ∈ o.after, Region.binds .any e = true → listed.getD e.on false = true) → (∀ j, listed.getD j false = true → j < c + n) → (∀ j, j < c → listed.getD j false = true) →
      Mem G X ok0 w0 st.ob st.nx w en → Marks w en0 a.defers → a.tmps.size = st.sl.length →
      (∀ t, (∀ j, j < n → dstOf ops (c + j) ≠ some t) → ARel w (okS ok0 w0 w st.ob en) en (st.sl.getD t (.f .any)) (a.tmps.getD t undef)) →
      (∀ j t p, j ≠ ai → listed.getD (c + j) false = true → L[j]? = some p → dstOf ops (c + j) = some t → t < st.sl.length → ARel w (okS ok0 w0 w st.ob en) en p.2 (a.tmps.getD t undef) ∧ p.2.bd st.nx) →
      (∀ t, t ∈ st.kp → (∀ j, j < n → dstOf ops (c + j) ≠ some t) → a.tmps.getD t undef = tv t) → (st.nd = true → a.defers = []) →
      wpAnyIn (FW none) 0 P .any ops Q fuel listed a w := by
  have hLlen : L.length = n := by
    have := congrArg List.length hL
    simp at this
    omega
  have hLi : ∀ i, i < n → ∃ p, L[i]? = some p ∧ ops[c + i]? = some p.1 := by
    intro i hi
    refine ⟨L[i]'(by omega), List.getElem?_eq_getElem (by omega), ?_⟩
    have := congrArg (fun l => l[i]?) hL
    simp only [List.getElem?_map, List.getElem?_take, hi, if_true, List.getElem?_drop] at this
    rw [List.getElem?_eq_getElem (by omega)] at this
    simpa using this.symm
  have hdst : ∀ i p, L[i]? = some p → dstOf ops (c + i) = p.1.dst := by
    intro i p hp
    have hi : i < n := by
      have := (List.getElem?_eq_some_iff.1 hp).1
      omega
    obtain ⟨q, h1, h2⟩ := hLi i hi
    rw [hp] at h1
    cases h1
    unfold dstOf
    rw [h2]; rfl
  have huq : ∀ j t, j < n → dstOf ops (c + j) = some t → ∀ k p, k ≠ j → L[k]? = some p → p.1.dst ≠ some t := by
    intro j t hj hjt k p hk' hp e
    have hkn : k < n := by have := (List.getElem?_eq_some_iff.1 hp).1; omega
    have := hk.uniq (c + k) (c + j) t (by omega) (by omega) (by omega) (by omega) ((hdst k p hp).trans e) hjt
    exact hk' (by omega)
  have hpa : ∀ p, L[ai]? = some p → p.2 = .f .any := fun p hp => by
    obtain ⟨q, h1, h2⟩ := hLi ai hai
    rw [hp] at h1; cases h1
    rw [hoa] at h2; cases h2
    exact (hf ai p hp).any hop hga
  have huqE : dstOf ops (c + e0) = some te := by unfold dstOf; rw [hoe]; exact hdte
  have hdE : oe.dst ≠ some d := fun e => hne0 (by
    have h1 : dstOf ops (c + ai) = some d := by unfold dstOf; rw [hoa]; exact hda
    have h2 : dstOf ops (c + e0) = some d := by unfold dstOf; rw [hoe]; exact e
    have := hk.uniq (c + e0) (c + ai) d (by omega) (by omega) (by omega) (by omega) h2 h1
    omega)
  have hsame : ((stAt st L n).put (some te) (.f .any)).put (some te) re = stAt st L n := by
    refine put_put_same hre2 (by rw [(stAt_same (st := st) L n).2.2]; exact hte) fun hkp => ?_
    obtain ⟨p, hp1, hp2⟩ := hLi e0 he0
    exact (stAt_kp L te n hkp).2 e0 p he0 hp1 ((hdst e0 p hp1).symm.trans huqE)
  have fin : ∀ (listed : Array Bool) (a : Act) (w : World) (en : Env), Hid w en en0 d zv.cells ty a (listed.getD (c + ai) false = true) → listed.size = ops.size → (∀ j, j < c + n → j ≠ c + e0 → listed.getD j false = true) → (∀ j, listed.getD j false = true → j < c + n) →
      Mem G X ok0 w0 st.ob st.nx w en → Marks w en0 a.defers → a.tmps.size = st.sl.length →
      (∀ t, (∀ j, j < n → dstOf ops (c + j) ≠ some t) → ARel w (okS ok0 w0 w st.ob en) en (st.sl.getD t (.f .any)) (a.tmps.getD t undef)) →
      (∀ j t p, j ≠ ai → listed.getD (c + j) false = true → L[j]? = some p → dstOf ops (c + j) = some t → t < st.sl.length → ARel w (okS ok0 w0 w st.ob en) en p.2 (a.tmps.getD t undef) ∧ p.2.bd st.nx) →
      (∀ t, t ∈ st.kp → (∀ j, j < n → dstOf ops (c + j) ≠ some t) → a.tmps.getD t undef = tv t) → (st.nd = true → a.defers = []) →
      wpAnyIn (FW none) 0 P .any ops Q (listed.toList.count false) listed a w := by
    intro listed a w en hid hsz hall hpre hm hde hts hA hB hC hN
    have hdone : ∀ (listed : Array Bool) (a : Act), listed.size = ops.size → (∀ j, j < c + n → listed.getD j false = true) → (∀ j, listed.getD j false = true → j < c + n) → Hid w en en0 d zv.cells ty a True → Marks w en0 a.defers → Inv G X ok0 w0 tv (stAt st L n) a w en → wpAnyIn (FW none) 0 P .any ops Q (listed.toList.count false) listed a w := by
      intro listed a hsz hall hpre hid2 hde hinv
      obtain ⟨en', hinv'⟩ := hid_end hinv hde hid2 (by rw [(stAt_same (st := st) L n).2.2]; exact hdl) hzA hzb
      refine hfin listed a w en' hsz (fun j hj => ?_) hinv'
      by_cases hjn : j < c + n
      · have := hall j hjn
        rw [Array.getD_eq_getD_getElem?, Array.getElem?_eq_getElem (by omega)] at this ⊢
        simp only [Option.getD_some] at this ⊢
        rw [this]; simp [hjn]
      · have h0 : listed.getD j false ≠ true := fun e => hjn (hpre j e)
        rw [Array.getD_eq_getD_getElem?, Array.getElem?_eq_getElem (by omega)] at h0 ⊢
        simp only [Option.getD_some] at h0 ⊢
        simp [hjn, h0]
    have s := stAt_same (st := st) L n
    have hinv : Inv G X ok0 w0 tv ((stAt st L n).put (some te) (.f .any)) a w en := by
      have sp := put_ob (st := stAt st L n) (some te) (.f .any)
      have slot : ∀ t, t < st.sl.length → ARel w (okS ok0 w0 w st.ob en) en (((stAt st L n).put (some te) (.f .any)).sl.getD t (.f .any)) (a.tmps.getD t undef) ∧ (((stAt st L n).put (some te) (.f .any)).sl.getD t (.f .any)).bd st.nx := by
        intro t ht
        by_cases hteq : te = t
        · subst hteq
          rw [put_getD_same _ _ (by rw [s.2.2]; exact ht)]
          exact ⟨by simp [ARel, FRel], by simp [AV.bd]⟩
        rw [put_getD (some te) _ t (fun e => hteq (by simpa using e))]
        by_cases hex : ∃ j, j < n ∧ dstOf ops (c + j) = some t
        · obtain ⟨j, hj, hjt⟩ := hex
          obtain ⟨p, hp1, hp2⟩ := hLi j hj
          rw [stAt_dst L t ht j p hp1 ((hdst j p hp1).symm.trans hjt) (huq j t hj hjt) n hj]
          by_cases hja : j = ai
          · subst hja; rw [hpa p hp1]; exact ⟨by simp [ARel, FRel], by simp [AV.bd]⟩
          · refine hB j t p hja (hall (c + j) (by omega) (fun e => hteq ?_)) hp1 hjt ht
            have : j = e0 := by omega
            subst this
            rw [huqE] at hjt; simpa using hjt
        · have hne : ∀ j, j < n → dstOf ops (c + j) ≠ some t := fun j hj e => hex ⟨j, hj, e⟩
          rw [stAt_else L t n (fun j p hj hp e => hne j hj ((hdst j p hp).trans e))]
          exact ⟨hA t hne, bdL.get _ _ hbd⟩
      refine ⟨by rw [sp.1, sp.2.1, s.1, s.2.1]; exact hm, hde.wide hid.2.2.1, ?_, ?_, fun t ht => by
          obtain ⟨k1, k2⟩ := stAt_kp L t n (put_kp ht).1
          refine hC t k1 fun j hj e => ?_
          obtain ⟨p, hp1, hp2⟩ := hLi j hj
          exact k2 j p hj hp1 ((hdst j p hp1).symm.trans e), fun hn => hN (by have hn2 : (stAt st L n).nd = true := hn; rw [stAt_nd] at hn2; exact hn2)⟩
      · rw [sp.1, s.1]
        exact ARelL.of_get _ _ (by rw [sp.2.2, s.2.2]; simpa using hts) fun t ht => by
          have := (slot t (by rw [sp.2.2, s.2.2] at ht; exact ht)).1
          rwa [tmps_getD] at this
      · rw [sp.2.1, s.2.1]
        exact bdL.of_get _ fun t ht => (slot t (by rw [sp.2.2, s.2.2] at ht; exact ht)).2
    have hid2 : Hid w en en0 d zv.cells ty a True := ⟨hid.1, hid.2.1, hid.2.2.1, fun h => (h trivial).elim, fun _ => hid.2.2.2.2 (hall (c + ai) (by omega) (by omega))⟩
    by_cases hl : listed.getD (c + e0) false = true
    · obtain ⟨p, hp1, hp2⟩ := hLi e0 he0
      obtain ⟨b1, b2⟩ := hB e0 te p hne0 hl hp1 huqE hte
      have hpr : p.2 = re := by
        rw [← hre2, stAt_dst L te hte e0 p hp1 ((hdst e0 p hp1).symm.trans huqE) (huq e0 te he0 huqE) n he0]
      rw [hpr] at b1 b2
      have h1 := Inv.put hinv (some te) (by rw [(put_ob (st := stAt st L n) (some te) (.f .any)).1, s.1]; exact b1) (by rw [(put_ob (st := stAt st L n) (some te) (.f .any)).2.1, s.2.1]; exact b2)
      rw [hsame, put_self (by rw [hts]; exact hte)] at h1
      refine hdone listed a hsz (fun j hj => ?_) hpre hid2 hde h1
      by_cases hje : j = c + e0
      · rw [hje]; exact hl
      · exact hall j hj hje
    · have hei : c + e0 < ops.size := by omega
      have hun : listed.getD (c + e0) true = false := by
        rw [Array.getD_eq_getD_getElem?, Array.getElem?_eq_getElem (by omega)] at hl ⊢
        simp only [Option.getD_some] at hl ⊢
        simpa using hl
      have hlist : ∀ j, j < ops.size → listed.getD j true = (decide (j < c + n) && !(j == c + e0)) := by
        intro j hj
        by_cases hje : j = c + e0
        · subst hje; rw [hun]; simp
        · have hje2 : (j == c + e0) = false := by simpa using hje
          rw [hje2]
          by_cases hjn : j < c + n
          · have := hall j hjn hje
            rw [Array.getD_eq_getD_getElem?, Array.getElem?_eq_getElem (by omega)] at this ⊢
            simp only [Option.getD_some] at this ⊢
            rw [this]; simp [hjn]
          · have h0 : listed.getD j false ≠ true := fun e => hjn (hpre j e)
            rw [Array.getD_eq_getD_getElem?, Array.getElem?_eq_getElem (by omega)] at h0 ⊢
            simp only [Option.getD_some] at h0 ⊢
            simp [hjn, h0]
      obtain ⟨f1, f2⟩ := hfree listed hsz hlist
      obtain ⟨v, v1, v2, v3⟩ := pureP_sound (ops := ops) hinv hge hre
      have h1 := Inv.put hinv oe.dst v1 v2
      rw [hdte, hsame] at h1
      rw [count_set hun]
      refine wpAnyIn_take (F := FW none) (n := 0) (md := .any) (i := c + e0) (oi := oe) (v := v) rfl hoe hns f1 f2 (fun c a w hq => absurd hq (hQp c _ _)) v3 ?_
      refine hdone _ _ (by simpa using hsz) (fun j hj => ?_) (fun j hj => ?_) ⟨hid2.1, hid2.2.1, hid2.2.2.1, hid2.2.2.2.1, fun ht => ?_⟩ (by rw [put_defs]; exact hde) (by rw [hdte]; exact h1)
      · by_cases hje : c + e0 = j
        · subst hje; exact getD_set_same hei hsz
        · rw [getD_set_ne false hje]; exact hall j hj (fun e => hje e.symm)
      · by_cases hje : c + e0 = j
        · omega
        · rw [getD_set_ne false hje] at hj; exact hpre j hj
      · obtain ⟨b, g1, g2, g3, g4, g5⟩ := hid2.2.2.2.2 trivial
        exact ⟨b, g1, g2, g3, g4, by rw [put_tmps_ne v hdE]; exact g5⟩
  intro fuel
  induction fuel with
  | zero =>
    intro listed a w en hid hsz hfuel hcl hpre hc0 hm hde hts hA hB hC hN
    have hfin0 := fun hall => fin listed a w en hid hsz hall hpre hm hde hts hA hB hC hN
    rw [← hfuel] at hfin0
    refine hfin0 fun j hj _ => ?_
    have hlt : j < listed.size := by omega
    rw [Array.getD_eq_getD_getElem?, Array.getElem?_eq_getElem hlt]
    simp only [Option.getD_some]
    have h0 : listed.toList.count false = 0 := hfuel.symm
    rw [List.count_eq_zero] at h0
    cases hv : listed[j] with
    | true => rfl
    | false => exact absurd (by rw [← hv]; simp) h0
  | succ fuel ih =>
    intro listed a w en hid hsz hfuel hcl hpre hc0 hm hde hts hA hB hC hN
    by_cases hall : ∀ j, j < c + n → j ≠ c + e0 → listed.getD j false = true
    · have := fin listed a w en hid hsz hall hpre hm hde hts hA hB hC hN
      rw [← hfuel] at this
      exact this
    · -- one of the block is still to do
      have hex : ∃ j, j < c + n ∧ j ≠ c + e0 ∧ listed.getD j false ≠ true := by
        apply Classical.byContradiction
        intro hno
        exact hall fun j hj hje => Classical.byContradiction fun h => hno ⟨j, hj, hje, h⟩
      refine ⟨fun he => ?_, fun i hi => ?_⟩
      · exfalso
        obtain ⟨j, hj, _, hjl⟩ := hex
        have key : ∀ j, j < c + n → listed.getD j false = true := by
          intro j
          induction j using Nat.strongRecOn with
          | _ j ihj =>
            intro hj
            apply Classical.byContradiction
            intro hjl
            have hjs : j < ops.size := by omega
            have : j ∈ Region.ready .any ops listed := by
              rw [mem_ready]
              refine ⟨?_, ops[j], Array.getElem?_eq_getElem hjs, fun e he' hb => ?_⟩
              · rw [Array.getD_eq_getD_getElem?, Array.getElem?_eq_getElem (by omega)] at hjl ⊢
                simpa using hjl
              · have := hd.back j _ (Array.getElem?_eq_getElem hjs) e he' hb
                exact ihj e.on this (by omega)
            rw [he] at this
            cases this
        exact hjl (key j hj)
      · obtain ⟨hun, o, hio, hedges⟩ := mem_ready.1 hi
        have his := (Array.getElem?_eq_some_iff.1 hio).1
        have hin : i < c + n := by
          apply Classical.byContradiction
          intro hge
          obtain ⟨j, hj, hje, hjl⟩ := hex
          exact hjl (ready_allE hd (fun j hj => hc0 j (by omega)) hcl hio hedges j (by have := hbnd i (by omega) his; omega) hje)
        have hci : c ≤ i := by
          apply Classical.byContradiction
          intro hlt
          have h1 := hc0 i (by omega)
          rw [Array.getD_eq_getD_getElem?, Array.getElem?_eq_getElem (by omega)] at h1 hun
          simp only [Option.getD_some] at h1 hun
          rw [h1] at hun; cases hun
        obtain ⟨i', rfl⟩ : ∃ i', i = c + i' := ⟨i - c, by omega⟩
        have hi'n : i' < n := by omega
        obtain ⟨p, hp1, hp2⟩ := hLi i' hi'n
        rw [hio] at hp2
        simp only [Option.some.injEq] at hp2
        by_cases hia : i' = ai
        · subst hia
          rw [hoa] at hio
          cases hio
          have hun' : ¬ listed.getD (c + i') false = true := by
            rw [Array.getD_eq_getD_getElem?, Array.getElem?_eq_getElem (by omega)] at hun ⊢
            simp only [Option.getD_some] at hun ⊢
            rw [hun]; simp
          have hx : Ext G w (w.alloc (.cells zv.cells ty)) := (Ext.refl w).alloc _
          obtain ⟨hm', hcar⟩ := hid_alloc hm zv.cells ty
          have hdsl : ∀ D, en0.ds D → D < w.heap.size := fun D hD => (hm.dsl D (hid.2.2.1 D hD)).2.1
          unfold wpOpIn
          rw [hoa]
          simp only
          rw [if_pos (by simp [Region.wanted, hga])]
          refine wp_value (v := .pointer (some ⟨w.heap.size, 0, none⟩)) (w' := w.alloc (.cells zv.cells ty)) (by simp [execOp, hop, Instr.alloc, hzr, newVar, newRow, Result.andThen]) ?_
          have hdn : ∀ j, j ≠ i' → j < n → dstOf ops (c + j) ≠ some d := fun j hj hjn e => by
            have h1 : dstOf ops (c + i') = some d := by unfold dstOf; rw [hoa]; exact hda
            have := hk.uniq (c + j) (c + i') d (by omega) (by omega) (by omega) (by omega) e h1
            omega
          rw [hda]
          refine ih _ _ _ { ds := fun D => en.ds D ∨ D = w.heap.size, blk := en.blk, val := en.val } ⟨hid.1, hid.2.1, fun D hD => .inl (hid.2.2.1 D hD), fun h => (h (getD_set_same his hsz)).elim, fun _ => ⟨w.heap.size, fun D hD => hD.imp (hid.2.2.2.1 hun' D) id, .inr rfl, fun hD => Nat.lt_irrefl _ (hdsl _ hD), heap_alloc_new w _, put_tmps_same _ (by rw [hts]; exact hdl)⟩⟩ (by simpa using hsz) ?_ ?_ ?_ ?_ hm' (by rw [put_defs]; exact hde.turn (fun D hD => hx.block D (hdsl D hD)) rfl) (by rw [put_size]; exact hts) ?_ ?_ ?_ (fun hn => by rw [put_defs]; exact hN hn)
          · have := count_set hun
            omega
          · intro k ok hk' hok e he hb
            by_cases hki : c + i' = k
            · subst hki
              rw [hoa] at hok
              cases hok
              exact getD_set_true (hedges e he hb)
            · rw [getD_set_ne false hki] at hk'
              exact getD_set_true (hcl k ok hk' hok e he hb)
          · intro k hk'
            by_cases hki : c + i' = k
            · omega
            · rw [getD_set_ne false hki] at hk'
              exact hpre k hk'
          · intro k hk'
            exact getD_set_true (hc0 k hk')
          · intro t ht
            have hne : some d ≠ some t := fun e => ht i' hi'n (by unfold dstOf; rw [hoa]; exact hda.trans e)
            rw [put_tmps_ne _ hne]
            exact ARel.carry hcar (show EnvUpto st.nx en { ds := fun D => en.ds D ∨ D = w.heap.size, blk := en.blk, val := en.val } from fun _ _ => ⟨rfl, rfl⟩) _ _ (bdL.get _ _ hbd) (hA t ht)
          · intro j t q hja hj hq hjt hlt
            rw [getD_set_ne false (by omega)] at hj
            have hjn : j < n := by have := (List.getElem?_eq_some_iff.1 hq).1; omega
            have hne : some d ≠ some t := fun e => hdn j hja hjn (hjt.trans e.symm)
            rw [put_tmps_ne _ hne]
            have := hB j t q hja hj hq hjt hlt
            exact ⟨ARel.carry hcar (show EnvUpto st.nx en { ds := fun D => en.ds D ∨ D = w.heap.size, blk := en.blk, val := en.val } from fun _ _ => ⟨rfl, rfl⟩) _ _ this.2 this.1, this.2⟩
          · intro t ht hne
            have h9 : some d ≠ some t := fun e => hne i' hi'n (by unfold dstOf; rw [hoa]; exact hda.trans e)
            rw [put_tmps_ne _ h9]
            exact hC t ht hne
        have s := stAt_same (st := st) L i'
        refine use_fact (sti := stAt st L i') (en := en) (ok0 := ok0) (w0 := w0) (r := p.2) hio (by rw [s.1, s.2.1]; exact hm) (by rw [hp2]; exact (hf i' p hp1).fact (by
          cases hal : isAl p.1 with
          | false => rfl
          | true => exact (hia (huniq i' p.1 hi'n (by rw [hio, hp2]) hal)).elim)) ?_ ?_
        · intro t ht
          rw [s.1, s.2.1]
          by_cases hlt : t < st.sl.length
          · by_cases hex : ∃ j, j < n ∧ dstOf ops (c + j) = some t
            · obtain ⟨j, hj, hjt⟩ := hex
              obtain ⟨hji, e, he, hej, hb⟩ := hk.known (c + i') o hci hin hio t ht (c + j) (by omega) (by omega) hjt
              obtain ⟨q, hq1, hq2⟩ := hLi j hj
              rw [stAt_dst L t hlt j q hq1 ((hdst j q hq1).symm.trans hjt) (huq j t hj hjt) i' (by omega)]
              by_cases hja : j = ai
              · subst hja; rw [hpa q hq1]; exact ⟨by simp [ARel, FRel], by simp [AV.bd]⟩
              · exact hB j t q hja (by rw [← hej]; exact hedges e he hb) hq1 hjt hlt
            · have hne : ∀ j, j < n → dstOf ops (c + j) ≠ some t := fun j hj e => hex ⟨j, hj, e⟩
              rw [stAt_else L t i' (fun j q hj hq e => hne j (by omega) ((hdst j q hq).trans e))]
              exact ⟨hA t hne, bdL.get _ _ hbd⟩
          · have : (stAt st L i').sl.getD t (.f .any) = .f .any := by
              have hle : (stAt st L i').sl.length ≤ t := by have h1 := s.2.2; rw [h1]; exact Nat.not_lt.1 hlt
              rw [List.getD_eq_getElem?_getD, List.getElem?_eq_none hle]; rfl
            rw [this]
            exact ⟨by simp [ARel, FRel], by simp [AV.bd]⟩
        · intro v w' hx hr hrb
          rw [s.1] at hr
          rw [s.2.1] at hrb
          have hdo : o.dst ≠ some d := fun e => hia (by
            have h1 : dstOf ops (c + ai) = some d := by unfold dstOf; rw [hoa]; exact hda
            have h2 : dstOf ops (c + i') = some d := by unfold dstOf; rw [hio]; exact e
            have := hk.uniq (c + i') (c + ai) d (by omega) (by omega) (by omega) (by omega) h2 h1
            omega)
          have hcar : Carry w w' (okS ok0 w0 w st.ob en) (okS ok0 w0 w' st.ob en) := carry_ext hx
          refine ih _ _ _ en (hid.step hm hx (hdo) (getD_set_ne false (by omega : ¬ c + i' = c + ai))) (by simpa using hsz) ?_ ?_ ?_ ?_ (hm.step hx) (by rw [put_defs]; exact hde.turn (fun D hD => hx.block D (hm.dsl D (hid.2.2.1 D hD)).2.1) rfl) (by rw [put_size]; exact hts) ?_ ?_ ?_ (fun hn => by rw [put_defs]; exact hN hn)
          · have := count_set hun
            omega
          · intro k ok hk' hok e he hb
            by_cases hki : c + i' = k
            · subst hki
              rw [hio] at hok
              cases hok
              exact getD_set_true (hedges e he hb)
            · rw [getD_set_ne false hki] at hk'
              exact getD_set_true (hcl k ok hk' hok e he hb)
          · intro k hk'
            by_cases hki : c + i' = k
            · omega
            · rw [getD_set_ne false hki] at hk'
              exact hpre k hk'
          · intro k hk'
            exact getD_set_true (hc0 k hk')
          · intro t ht
            have hne : o.dst ≠ some t := by
              have := ht i' hi'n
              unfold dstOf at this
              rw [hio] at this
              exact this
            rw [put_tmps_ne v hne]
            exact ARel.carry hcar (EnvUpto.refl st.nx en) _ _ (bdL.get _ _ hbd) (hA t ht)
          · intro j t q hja hj hq hjt hlt
            by_cases hji : i' = j
            · subst hji
              rw [hp1] at hq
              cases hq
              have hod : o.dst = some t := by
                unfold dstOf at hjt
                rw [hio] at hjt
                exact hjt
              rw [hod, put_tmps_same v (by rw [hts]; exact hlt)]
              exact ⟨hr, hrb⟩
            · rw [getD_set_ne false (by omega)] at hj
              have hne : o.dst ≠ some t := by
                intro e
                have hdi : dstOf ops (c + i') = some t := by unfold dstOf; rw [hio]; exact e
                have hjn : j < n := by have := (List.getElem?_eq_some_iff.1 hq).1; omega
                have := hk.uniq (c + i') (c + j) t (by omega) (by omega) (by omega) (by omega) hdi hjt
                exact hji (by omega)
              rw [put_tmps_ne v hne]
              have := hB j t q hja hj hq hjt hlt
              exact ⟨ARel.carry hcar (EnvUpto.refl st.nx en) _ _ this.2 this.1, this.2⟩
          · intro t ht hne
            have h9 : o.dst ≠ some t := by
              have := hne i' hi'n
              unfold dstOf at this
              rw [hio] at this
              exact this
            rw [put_tmps_ne v h9]
            exact hC t ht hne
theorem drawnE_sound {id n ai e0 : Nat} {hs : List Hint} {K : St → List Hint → Prop} {Q : Exit → Act → World → Prop} (h : Inv G X ok0 w0 tv st a w en) (hv : evalDrawnE P G ops n ai e0 st hs K)
    (hQ : ∀ st' hs' a' w' en', Inv G X ok0 w0 tv st' a' w' en' → K st' hs' → Q .normal a' w') : (Code.region id ops true).wpIn (FW none) 0 P Q a w := by
  obtain ⟨hok, hv⟩ := hv
  simp only [Bool.and_eq_true, decide_eq_true_eq] at hok
  obtain ⟨⟨⟨⟨⟨⟨⟨⟨hk1, hns⟩, ⟨⟨⟨hmix, hbk⟩, hbe⟩, hpcs⟩⟩, hai⟩, hen⟩, hea⟩, hfr⟩, hrd⟩, hal⟩ := hok
  rw [List.all_eq_true] at hal
  have hea : e0 ≠ ai := by simpa using hea
  have hback : ∀ (i : Nat) (o : Oper), ops[i]? = some o → ∀ e ∈ o.after, Region.binds .any e = true → e.on < i := by
    intro i o hi e he hb
    rw [List.all_eq_true] at hbk
    have := hbk i (by simpa using (Array.getElem?_eq_some_iff.1 hi).1)
    rw [hi] at this
    simp only [Bool.and_eq_true, Array.all_eq_true_iff_forall_mem] at this
    have := this.1 e he
    simpa [hb] using this
  have hnosel : ∀ (i : Nat) (o : Oper), ops[i]? = some o → ∀ cs b, o.op ≠ .select cs b := by
    intro i o hi cs b hc
    rw [List.all_eq_true] at hbk
    have := hbk i (by simpa using (Array.getElem?_eq_some_iff.1 hi).1)
    rw [hi] at this
    simp [hc] at this
  have hbeh : ∀ i, i < ops.size → ∀ j, j < (startsOf [(n, ops.size - n)] 0).getD i 0 → j ≠ e0 → ∃ (m : Nat) (o : Oper), (m = i ∨ (j < m ∧ m < (startsOf [(n, ops.size - n)] 0).getD i 0 ∧ m ≠ e0)) ∧ ops[m]? = some o ∧ ∃ e ∈ o.after, e.on = j ∧ Region.binds .any e = true := by
    intro i hi j hj hje
    unfold behindE at hbe
    simp only [List.all_eq_true, List.mem_range] at hbe
    have := hbe i hi j hj
    simp only [Bool.or_eq_true, List.any_eq_true, List.mem_range, Bool.and_eq_true, decide_eq_true_eq, beq_iff_eq, Bool.not_eq_true', beq_eq_false_iff_ne] at this
    rcases this with h | h | ⟨m, hm, ⟨hjm, hme⟩, h⟩
    · exact absurd h hje
    · obtain ⟨o, ho, he⟩ := edgeAt_spec h
      exact ⟨i, o, .inl rfl, ho, he⟩
    · obtain ⟨o, ho, he⟩ := edgeAt_spec h
      exact ⟨m, o, .inr ⟨hjm, hm, hme⟩, ho, he⟩
  have hdE : DrawnOkE P ops 0 (fun i => (startsOf [(n, ops.size - n)] 0).getD i 0) e0 := ⟨hmix, hback, hnosel, fun i hi j _ hj hje => hbeh i hi j hj hje⟩
  have hdN : DrawnOk P ops n (fun i => (startsOf [(n, ops.size - n)] 0).getD i 0) := ⟨hmix, hback, hnosel, fun i hi j hnj hj => by
    obtain ⟨m, o, hm, ho, he⟩ := hbeh i hi j hj (by omega)
    exact ⟨m, o, hm.imp (fun h => h) fun h => ⟨h.1, h.2.1⟩, ho, he⟩⟩
  obtain ⟨st1, hs1, en1, h1, hv⟩ := preF_inv h hv
  let Q' : Exit → Act → World → Prop := fun e a w => (∀ c, e ≠ .panic c) ∧ Q e a w
  refine Code.wpIn_mono (Q := Q') (fun e a w hq => hq.2) ?_
  refine wpIn_region_any hmix ?_
  have h2 : Inv G X ok0 w0 tv st1 a { w with drawn := w.drawn + 1 } en1 := h1.step (Ext.drew (Ext.refl w))
  have hp := hpcs
  simp only [pcsOk, Bool.and_eq_true, decide_eq_true_eq, List.all_eq_true, List.mem_range'_1] at hp
  obtain ⟨⟨⟨⟨p1, p2⟩, p3⟩, p4⟩, p5⟩ := hp
  split at hv
  · rename_i oa oe hoa hoe
    split at hv
    · rename_i t d te hop hda hga hdte hge
      split at hv
      · rename_i z hz
        obtain ⟨hdl, hv⟩ := hv
        simp only [Bool.and_eq_true, decide_eq_true_eq] at hdl
        obtain ⟨zv, z1, z2, z3⟩ := zeroP_runA hz
        obtain ⟨L, hL, hf, hs2, hk⟩ := row_factsA _ _ _ _ hv
        have hLlen : L.length = n := by
          have := congrArg List.length hL
          simp at this
          omega
        rw [hLlen] at hk
        split at hk
        · rename_i re hre
          obtain ⟨hre2, hk⟩ := hk
          have hp2 : pcsOk ops (startsOf [(n, ops.size - n)] 0) ops.size [(0, ops.size - n)] n = true := by
            simp only [pcsOk, Bool.and_eq_true, decide_eq_true_eq, List.all_eq_true, List.mem_range'_1]
            refine ⟨⟨⟨⟨by simp [blkOk], by simpa using p2⟩, fun k hk => p3 k (by omega)⟩, by omega⟩, by omega⟩
          have h0 : ∀ j, ¬ (Array.replicate ops.size false).getD j false = true := fun j => by
            rw [Array.getD_eq_getD_getElem?, Array.getElem?_replicate]
            split <;> simp
          have hfree : ∀ listed : Array Bool, listed.size = ops.size → (∀ j, j < ops.size → listed.getD j true = (decide (j < 0 + n) && !(j == 0 + e0))) → Region.free .any ops listed (0 + e0) = true ∧ (Region.ready .any ops listed).contains (0 + e0) = true := by
            intro listed hsz hli
            have he : listed = preE ops.size n e0 := by
              apply Array.ext
              · simp [preE, preA_size, hsz]
              · intro j hj1 hj2
                have h3 := hli j (by omega)
                rw [Array.getD_eq_getD_getElem?, Array.getElem?_eq_getElem hj1, Option.getD_some] at h3
                rw [h3]
                simp only [preE]
                rw [Array.getElem_setIfInBounds (by rw [preA_size]; omega)]
                · by_cases hje : e0 = j
                  · subst hje; simp
                  · rw [if_neg hje]
                    have h4 : (j == 0 + e0) = false := by simpa using fun e => hje (by omega)
                    rw [h4]
                    simp [preA]
            rw [he, Nat.zero_add]
            exact ⟨hfr, hrd⟩
          have := any_soundE (en0 := en1) (tv := tv) (c := 0) (n := n) (f := 0) (e0 := e0) (Nat.le_refl _) (by simpa using hdE) (blkOk_spec (by simpa using p1)) (by omega) (by simpa using bndOk_spec p2) (L := L) (by simpa using hL) hf (ai := ai) (oa := oa) (ty := t) (d := d) (z := z) (zv := zv) hai (by simpa using hoa) hop hda hga hdl.1
            (fun i o hi ho hx => by
              have := hal i (by simpa using hi)
              rw [show ops[i]? = some o by simpa using ho] at this
              simpa [hx] using this) z1 z2 z3 hen hea (oe := oe) (by simpa using hoe) hge hdte hdl.2 hre hre2 hns hfree (Q := Q') (fun c a w hq => hq.1 c rfl) h2.bd
            (fun listed' a' w' en' hsz' hli' h' => pieces_sound (lr := none) (Q := Q') hdN (end_all (fun st' hs' a' w' en' i1 i2 => ⟨fun c => by simp, hQ st' hs' a' w' en' i1 i2⟩)) [(0, ops.size - n)] n _ hs2 a' w' en' listed' (Nat.le_refl _) hp2 h' hsz' (by omega) (by simpa using hli') hk)
            _ (Array.replicate ops.size false) a { w with drawn := w.drawn + 1 } en1 ⟨rfl, rfl, fun _ h => h, fun _ _ h => h, fun hx => (h0 _ hx).elim⟩ (by simp) rfl (fun i o hi => (h0 _ hi).elim) (fun j hj => (h0 _ hj).elim) (fun j hj => absurd hj (Nat.not_lt_zero _)) h2.mem h2.defs
            (by have := ARelL.length _ _ h2.slots; simpa using this) (fun t _ => (h2.opnd (.tmp t)).1) (fun j t p _ hj => (h0 _ hj).elim) (fun t ht _ => h2.keep t ht) h2.nod
          simpa [List.count_replicate] using this
        · exact hk.elim
      · exact hv.elim
    · exact hv.elim
  · exact hv.elim
theorem pureQ_sound {st : St} {o : Oper} {r : AV} (h : Inv G X ok0 w0 tv st a w en) (hg : o.guard = none) (hp : pureQ P st o = some r) :
    ∃ v, ARel w (okS ok0 w0 w st.ob en) en r v ∧ r.bd st.nx ∧ YieldsFenced P ops o v a := by
  unfold pureQ at hp
  split at hp
  · rename_i t x y t' hop
    split at hp
    · rename_i n m hx hy
      simp only [Option.some.injEq] at hp
      subst hp
      have h1 := (h.opnd x).1
      have h2 := (h.opnd y).1
      rw [hx] at h1; rw [hy] at h2
      simp only [ARel, FRel] at h1 h2
      exact ⟨.int .i64 (IntKind.i64.wrap (n - m)), by simp only [ARel, FRel], by simp [AV.bd], ⟨.inl ⟨by simp [Region.wanted, hg], fun w => by simp only [execOp, hop, h1, h2]; rfl⟩, fun w => by unfold Oper.about; rw [hop]⟩⟩
    · cases hp
  · rename_i t x y t' hop
    split at hp
    · rename_i n m hx hy
      simp only [Option.some.injEq] at hp
      subst hp
      have h1 := (h.opnd x).1
      have h2 := (h.opnd y).1
      rw [hx] at h1; rw [hy] at h2
      simp only [ARel, FRel] at h1 h2
      exact ⟨.int .i64 (IntKind.i64.wrap (n + m)), by simp only [ARel, FRel], by simp [AV.bd], ⟨.inl ⟨by simp [Region.wanted, hg], fun w => by simp only [execOp, hop, h1, h2]; rfl⟩, fun w => by unfold Oper.about; rw [hop]⟩⟩
    · cases hp
  · exact pureP_sound h hg hp
/-- What is left, in every order, but for what asks nothing of memory. -/
theorem allR_sound {K : St → List Hint → Prop} {Q : Exit → Act → World → Prop} (hns : Region.noSelect ops = true) (hQp : ∀ c a w, ¬ Q (.panic c) a w) (hQ : ∀ st' hs' a' w' en', Inv G X ok0 w0 tv st' a' w' en' → K st' hs' → Q .normal a' w') :
    ∀ (fuel : Nat) (listed : Array Bool) (st : St) (hs : List Hint) (a : Act) (w : World) (en : Env), Inv G X ok0 w0 tv st a w en → evalAllR P G ops fuel listed st hs K → wpAnyIn (FW none) 0 P .any ops Q fuel listed a w
  | 0, listed, st, hs, a, w, en, h, hv => by
    simp only [evalAllR] at hv
    exact ⟨by simpa using hv.1, hQ _ _ _ _ _ h hv.2⟩
  | fuel + 1, listed, st, hs, a, w, en, h, hv => by
    simp only [evalAllR] at hv
    split at hv
    · rename_i i hf
      have hmem := List.mem_of_find?_eq_some hf
      have htk := List.find?_some hf
      split at hv
      · rename_i o ho
        split at hv
        · rename_i r hr
          unfold takeR at htk
          rw [ho] at htk
          simp only [Bool.and_eq_true, Option.isNone_iff_eq_none] at htk
          obtain ⟨⟨t1, t2⟩, t3⟩ := htk
          obtain ⟨v, v1, v2, v3⟩ := pureP_sound (ops := ops) h t1 hr
          exact wpAnyIn_take (F := FW none) (n := 0) (md := .any) (i := i) (oi := o) (v := v) rfl ho hns t3 (by rw [List.contains_iff_mem]; exact hmem) (fun c a w hq => absurd hq (hQp c _ _)) v3
            (allR_sound hns hQp hQ fuel _ _ hs _ w en (Inv.put h o.dst v1 v2) hv)
        · exact hv.elim
      · exact hv.elim
    · refine ⟨fun he => ?_, fun i hi => ?_⟩
      · rw [he] at hv; simp at hv
      · have h1 := allOf_mem hv.2 i hi
        cases ho : ops[i]? with
        | none => rw [ho] at h1; exact h1.elim
        | some o =>
          rw [ho] at h1
          have hw := evalRow_sound (lr := none) (ops := ops) (Q := Q) (E := wpAnyIn (FW none) 0 P .any ops Q fuel (listed.setIfInBounds i true))
            (fun st2 hs3 a2 w2 en2 h2 hk2 => allR_sound hns hQp hQ fuel _ st2 hs3 a2 w2 en2 h2 hk2) _ _ _ _ _ _ _ h h1
          unfold wpOpIn
          rw [ho]
          simp only [wpLF] at hw ⊢
          split
          · rename_i hwt
            rw [if_pos hwt] at hw
            exact hw
          · rename_i hwt
            rw [if_neg hwt] at hw
            exact ⟨fun _ _ => trivial, hw⟩
theorem drawnB_sound {id : Nat} {pcs : List (Nat × Nat)} {hs : List Hint} {K : St → List Hint → Prop} {Q : Exit → Act → World → Prop} (h : Inv G X ok0 w0 tv st a w en) (hv : evalDrawnB P G ops pcs st hs K)
    (hQ : ∀ st' hs' a' w' en', Inv G X ok0 w0 tv st' a' w' en' → K st' hs' → Q .normal a' w') : (Code.region id ops true).wpIn (FW none) 0 P Q a w := by
  obtain ⟨hok, hv⟩ := hv
  simp only [Bool.and_eq_true] at hok
  obtain ⟨⟨_, hns⟩, hok⟩ := hok
  obtain ⟨hd, hpcs⟩ := drawnOkA_spec hok
  have htot := pcs_total pcs 0 (Nat.zero_le _) hpcs
  obtain ⟨st1, hs1, en1, h1, hv⟩ := preF_inv h hv
  let Q' : Exit → Act → World → Prop := fun e a w => (∀ c, e ≠ .panic c) ∧ Q e a w
  refine Code.wpIn_mono (Q := Q') (fun e a w hq => hq.2) ?_
  refine wpIn_region_any hd.mixed ?_
  have h2 : Inv G X ok0 w0 tv st1 a { w with drawn := w.drawn + 1 } en1 := h1.step (Ext.drew (Ext.refl w))
  have := pieces_sound (lr := none) (Q := Q') (cE := totalOf pcs) hd (fun st hs a w en listed i1 i2 i3 i4 => by
    have e : listed = preA ops.size (totalOf pcs) := preA_eq i2 i3
    rw [preA_count htot e, e]
    exact allR_sound (Q := Q') hns (fun c a w hq => hq.1 c rfl) (fun st' hs' a' w' en' i1 i2 => ⟨fun c => by simp, hQ st' hs' a' w' en' i1 i2⟩) _ _ st hs a w en i1 i4) pcs 0 st1 hs1 a _ en1 (Array.replicate ops.size false) (Nat.le_refl _) hpcs h2 (by simp) (Nat.zero_le _) (fun j hj => by simp [hj]) hv
  simpa [List.count_replicate] using this
/-- A region whose first moves are taken first. -/
theorem drawnT_sound {id f : Nat} {pcs : List (Nat × Nat)} {hs : List Hint} {K : St → List Hint → Prop} {Q : Exit → Act → World → Prop} (h : Inv G X ok0 w0 tv st a w en) (hv : evalDrawnT P G ops f pcs st hs K)
    (hQ : ∀ st' hs' a' w' en', Inv G X ok0 w0 tv st' a' w' en' → K st' hs' → Q .normal a' w') : (Code.region id ops true).wpIn (FW none) 0 P Q a w := by
  obtain ⟨hok, hv⟩ := hv
  unfold drawnOkT behindF at hok
  simp only [Bool.and_eq_true, List.all_eq_true, List.mem_range, decide_eq_true_eq] at hok
  obtain ⟨⟨⟨⟨⟨⟨⟨h0, h1⟩, hns⟩, hfs⟩, htk⟩, h3⟩, h5⟩, hpcs⟩ := hok
  have lt : ∀ i o, ops[i]? = some o → i < ops.size := fun i o hi => (Array.getElem?_eq_some_iff.1 hi).1
  have hd : DrawnOk P ops f (fun i => (List.replicate f 0 ++ startsOf pcs f).getD i 0) := by
    refine ⟨h1, ?_, ?_, ?_⟩
    · intro i o hi e he hb
      have := h3 i (lt i o hi)
      rw [hi] at this
      simp only [Bool.and_eq_true, Array.all_eq_true_iff_forall_mem] at this
      have := this.1 e he
      simpa [hb] using this
    · intro i o hi cs b hc
      have := h3 i (lt i o hi)
      rw [hi] at this
      simp [hc] at this
    · intro i hi j hjf hj
      have := h5 i hi j hj
      simp only [Bool.or_eq_true, List.any_eq_true, List.mem_range, Bool.and_eq_true, decide_eq_true_eq] at this
      rcases this with h | h | ⟨m, hm, hjm, h⟩
      · omega
      · obtain ⟨o, ho, he⟩ := edgeAt_spec h
        exact ⟨i, o, .inl rfl, ho, he⟩
      · obtain ⟨o, ho, he⟩ := edgeAt_spec h
        exact ⟨m, o, .inr ⟨hjm, hm⟩, ho, he⟩
  obtain ⟨st1, hs1, en1, g1, hv⟩ := preF_inv h hv
  let Q' : Exit → Act → World → Prop := fun e a w => (∀ c, e ≠ .panic c) ∧ Q e a w
  refine Code.wpIn_mono (Q := Q') (fun e a w hq => hq.2) ?_
  refine wpIn_region_any h1 ?_
  have g2 : Inv G X ok0 w0 tv st1 a { w with drawn := w.drawn + 1 } en1 := g1.step (Ext.drew (Ext.refl w))
  have key : ∀ d i st a, i + d = f → Inv G X ok0 w0 tv st a { w with drawn := w.drawn + 1 } en1 → (match takes P ((ops.toList.take f).drop i) st with
      | some st => evalPieces P G ops pcs f st hs1 K
      | none => False) → wpAnyIn (FW none) 0 P .any ops Q' ((preA ops.size i).toList.count false) (preA ops.size i) a { w with drawn := w.drawn + 1 } := by
    intro d
    induction d with
    | zero =>
      intro i st a hi g hv
      obtain rfl : i = f := by omega
      rw [List.drop_eq_nil_of_le (by rw [List.length_take]; omega)] at hv
      simp only [takes] at hv
      exact pieces_sound (lr := none) (Q := Q') hd (end_all (Q := Q') fun st' hs' a' w' en' i1 i2 => ⟨fun c => by simp, hQ st' hs' a' w' en' i1 i2⟩) pcs _ _ hs1 _ _ en1 (preA ops.size _) (Nat.le_refl _) hpcs g (preA_size _ _) hfs (fun j hj => preA_getD _ _ _ hj _) hv
    | succ d ih =>
      intro i st a hi g hv
      have his : i < ops.size := by omega
      have htk := htk i (by omega)
      unfold takeAt at htk
      rw [Array.getElem?_eq_getElem his] at htk
      simp only [Bool.and_eq_true, Option.isNone_iff_eq_none, Array.all_eq_true_iff_forall_mem] at htk
      obtain ⟨⟨t1, t3⟩, t4⟩ := htk
      have hopi : ops[i]? = some ops[i] := Array.getElem?_eq_getElem his
      have hdr : (ops.toList.take f).drop i = ops[i] :: (ops.toList.take f).drop (i + 1) := by
        rw [List.drop_eq_getElem_cons (by rw [List.length_take, Array.length_toList]; omega)]
        simp
      rw [hdr] at hv
      simp only [takes] at hv
      cases hp : pureQ P st ops[i] with
      | none => rw [hp] at hv; exact hv.elim
      | some r =>
        rw [hp] at hv
        obtain ⟨v, v1, v2, v3⟩ := pureQ_sound (ops := ops) g t1 hp
        have hun : (preA ops.size i).getD i true = false := by rw [preA_getD _ _ _ his]; simp
        rw [count_set hun, preA_set _ _ his]
        refine wpAnyIn_take (F := FW none) (n := 0) (md := .any) (i := i) (oi := ops[i]) (v := v) rfl hopi hns t4 ?_ (fun c a w hq => absurd rfl (hq.1 c)) v3 (by rw [preA_set _ _ his]; exact ih (i + 1) _ _ (by omega) (Inv.put g ops[i].dst v1 v2) hv)
        rw [List.contains_iff_mem, mem_ready]
        refine ⟨hun, ops[i], hopi, fun e he hb => ?_⟩
        have := t3 e he
        rw [hb] at this
        simp only [Bool.not_true, Bool.false_or, decide_eq_true_eq] at this
        rw [preA_getD _ _ _ (by omega)]; simpa using this
  have := key f 0 _ _ (by omega) g2 (by rw [List.drop_zero]; exact hv)
  rw [preA_zero] at this
  simpa [List.count_replicate] using this
end
end Go.Sx

/-
  Proved: what some functions of the program answer, or a law of the evaluator that shows it, one theorem each; its conditions are the hypotheses that stand ahead of it.
-/
import Derived.Test.YtmnefgonaaakfaaDoorSxJ
import Derived.Orders
set_option linter.unusedVariables false
set_option linter.unusedSimpArgs false
namespace Go.Sx
open Go.RowKit
section
variable {P : Program} {G : Gr} {X : Option Nat} {ok0 : Nat → Prop} {w0 w w' : World} {en en' : Env} {st st' : St} {a : Act} {ops : Array Oper} {ρ : Operand → Value}

theorem okS_new (hm : Mem G X ok0 w0 st.ob st.nx w en) {w' : World} {b : Nat} (h1 : w.heap.size ≤ b) (h2 : b < w'.heap.size) : okS ok0 w0 w' st.ob en b := by
  refine ⟨.inr (Nat.le_trans hm.ext.size h1), h2, fun k o hk e => ?_⟩
  have := (hm.obs k o hk).2.2.2.lt e
  omega

theorem dval_sound {o : Oper} {hs hs' : List Hint} {p : Option Prop} {r : AV} (hm : Mem G X ok0 w0 st.ob st.nx w en)
    (ho : OpsRel w (okS ok0 w0 w st.ob en) en st.nx st ρ o.op.operands.toList) (h : dval P G st o hs = some (p, r, hs')) (hp : hold p) :
    r.bd st.nx ∧ OpY P o ρ w (fun v w' => Ext G w w' ∧ ARel w' (okS ok0 w0 w' st.ob en) en r v) := by
  unfold dval at h
  split at h
  · rename_i t x hop
    split at h
    · rename_i cs hcs
      split at h
      · rename_i c hc
        simp only [Option.some.injEq, Prod.mk.injEq] at h
        obtain ⟨rfl, rfl, rfl⟩ := h
        have hx := ho x (by simp [hop, Op.operands])
        obtain ⟨h1, h2⟩ := cellsAV_rel hcs hx.1 hx.2
        refine ⟨by simp [AV.bd], OpY.of_value (v := .pointer (some ⟨w.heap.size, 0, none⟩)) (w' := w.alloc (.cells (ρ x).cells t)) (by simp [execOp, hop, Instr.box, newVar, newRow, Result.andThen]) ⟨(Ext.refl w).alloc _, ?_⟩⟩
        simp only [ARel, FRel]
        refine ⟨w.heap.size, 0, rfl, okS_new hm (Nat.le_refl _) (by simp), FRelC.of c _ _ 0 (FRelL.carry (carry_ext (G := G) ((Ext.refl w).alloc _)) _ _ (toFL_rel _ _ _ hc h1)) fun j v hj => ?_⟩
        rw [cell_of_row _ _ _ (ρ x).cells t (0, 0) (heap_alloc_new w _)]
        simpa using hj
      · cases h
    · cases h
  · rename_i t n ps hop
    split at h
    · cases h
    · rename_i e he
      split at h
      · cases h
      · rename_i ie hie
        split at h
        · cases h
        · rename_i zv hz
          split at h
          · rename_i hcond
            simp only [decide_eq_true_eq] at hcond
            split at h
            · rename_i cs hcs
              split at h
              · rename_i fs hfs
                split at h
                · rename_i hlen
                  simp only [beq_iff_eq] at hlen
                  simp only [Option.some.injEq, Prod.mk.injEq] at h
                  obtain ⟨rfl, rfl, rfl⟩ := h
                  have hz0 := fV1_relA w (okS ok0 w0 w st.ob en) en ((List.range (n * ie.size)).map fun i => zv.cells[i % zv.cells.size]!)
                  have hzz : (zcells zv (n * ie.size)).map AV.f = ((List.range (n * ie.size)).map fun i => zv.cells[i % zv.cells.size]!).map fun v => AV.f (fV1 v) := by simp [zcells]
                  obtain ⟨cells, h1, h2, h3⟩ := fill_rel (w := w) (en := en) (ρ := ρ) (st := st) (ok := okS ok0 w0 w st.ob en) (nx := st.nx) (fun i => some (i * ie.size, ie.size)) ps.toList _ cs ((Array.range (n * ie.size)).map (zv.cells[· % zv.cells.size]!))
                    (fun x hx => ho x (by
                      obtain ⟨q, hq, rfl⟩ := List.mem_map.1 hx
                      simp only [hop, Op.operands]
                      exact List.mem_map.2 ⟨q, hq, rfl⟩)) hcs (by rw [hzz]; simpa [Array.toList_map] using hz0.1) (.inr (by rw [hzz]; exact hz0.2 _))
                  have hF := toFL_rel _ _ _ hfs h2
                  obtain ⟨c1, c2, c3⟩ := chunk_spec ie.size n fs hlen
                  have eps : (ps.map fun (i, x) => (i, ρ x)).toList = ps.toList.map fun q => (q.1, ρ q.2) := by simp
                  have hb : (Instr.buildSlice t n (ps.map fun (i, x) => (i, ρ x))).run P w = .ok (.slice (some ⟨w.heap.size, 0, none⟩) n n) (w.alloc (.cells cells e)) := by
                    rw [← eps] at h1
                    by_cases h0 : n * ie.size = 0
                    · rw [h0] at h1
                      simp only [Array.range_zero', Array.map_empty, Array.toList_map] at h1
                      simp [Instr.buildSlice, run_underlying (elemP_under he), sizeOf, typeInfo, hie, h0, newRow, h1, Result.andThen, Array.range_zero']
                    · exact run_buildSlice w t e n _ cells ie zv (elemP_under he) hie hz (by omega) h0 h1
                  refine ⟨by simp [AV.bd], OpY.of_value (v := .slice (some ⟨w.heap.size, 0, none⟩) n n) (w' := w.alloc (.cells cells e)) (by simp only [execOp, hop, Sem.run_bind, hb, Result.andThen]; rfl) ⟨(Ext.refl w).alloc _, ?_⟩⟩
                  simp only [ARel, FRel]
                  refine .inr ⟨w.heap.size, 0, n, by rw [c2], by rw [c2]; exact Nat.le_refl _, okS_new hm (Nat.le_refl _) (by simp), FRelE.of _ cells.toList _ 0 c3 (by rw [c1]; exact FRelL.carry (carry_ext (G := G) ((Ext.refl w).alloc _)) _ _ hF) fun j v hj => ?_⟩
                  rw [cell_of_row _ _ _ cells e (0, 0) (heap_alloc_new w _)]
                  simpa using hj
                · cases h
              · cases h
            · cases h
          · cases h
  · split at h
    · cases h
    · exact pval_sound hm ho h hp

/-! ### What was found, one by one -/
def DFact (P : Program) (G : Gr) (ops : Array Oper) (st : St) (o : Oper) (r : AV) : Prop :=
  match o.guard with
  | none => ∃ p hs hs', dval P G st o hs = some (p, r, hs') ∧ hold p
  | some (j, want) => (∃ t b, guardOf ops j = some t ∧ st.sl.getD t (.f .any) = .f (.sc (.bool b)) ∧ ((b = want ∧ ∃ p hs hs', dval P G st o hs = some (p, r, hs') ∧ hold p) ∨ (b ≠ want ∧ r = .f (.sc undef)))) ∨
    (∃ t v, guardOf ops j = some t ∧ st.sl.getD t (.f .any) = .f (.sc v) ∧ (∀ b, v ≠ .bool b) ∧ r = .f (.sc undef))

def stAt (st : St) (L : List (Oper × AV)) (i : Nat) : St := (L.take i).foldl (fun st p => st.put p.1.dst p.2) st
theorem stAt_succ {L : List (Oper × AV)} {i : Nat} {p : Oper × AV} (h : L[i]? = some p) : stAt st L (i + 1) = (stAt st L i).put p.1.dst p.2 := by
  unfold stAt
  rw [List.take_add_one, h, List.foldl_append]
  rfl

theorem row_facts {K : St → List Hint → Prop} : ∀ (l : List Oper) (dd : List Nat) (st : St) (hs : List Hint), evalRow ops (dstep P G) l dd st hs K →
    ∃ L : List (Oper × AV), L.map (·.1) = l ∧ (∀ i p, L[i]? = some p → DFact P G ops (stAt st L i) p.1 p.2) ∧ ∃ hs', K (stAt st L L.length) hs'
  | [], dd, st, hs, h => ⟨[], rfl, by simp, hs, h⟩
  | o :: l, dd, st, hs, h => by
    have go : ∀ (r : AV) (dd : List Nat) (hs : List Hint), DFact P G ops st o r → evalRow ops (dstep P G) l dd (st.put o.dst r) hs K →
        ∃ L : List (Oper × AV), L.map (·.1) = o :: l ∧ (∀ i p, L[i]? = some p → DFact P G ops (stAt st L i) p.1 p.2) ∧ ∃ hs', K (stAt st L L.length) hs' := by
      intro r dd hs hf hv
      obtain ⟨L, h1, h2, h3⟩ := row_facts l dd _ hs hv
      refine ⟨(o, r) :: L, by simp [h1], ?_, by simpa [stAt] using h3⟩
      intro i p hi
      cases i with
      | zero => simp at hi; subst hi; simpa [stAt] using hf
      | succ i => have := h2 i p (by simpa using hi); simpa [stAt] using this
    have step : ∀ (st1 : St) (dd : List Nat) (hs : List Hint), st1 = st → dstep P G st1 o hs (fun st hs => evalRow ops (dstep P G) l dd st hs K) → (∀ r, (∃ p hs hs', dval P G st o hs = some (p, r, hs') ∧ hold p) → DFact P G ops st o r) →
        ∃ L : List (Oper × AV), L.map (·.1) = o :: l ∧ (∀ i p, L[i]? = some p → DFact P G ops (stAt st L i) p.1 p.2) ∧ ∃ hs', K (stAt st L L.length) hs' := by
      rintro st1 dd hs rfl hv hf
      unfold dstep at hv
      split at hv
      · rename_i p r hs' hd
        rw [andO_iff] at hv
        exact go r dd hs' (hf r ⟨p, hs, hs', hd, hv.1⟩) hv.2
      · exact hv.elim
    simp only [evalRow] at h
    split at h
    · rename_i hg
      exact step st dd hs rfl h fun r hr => by unfold DFact; rw [hg]; exact hr
    · rename_i j want hg
      split at h
      · exact h.elim
      · rename_i t ht
        split at h
        · rename_i b hb
          split at h
          · split at h
            · rename_i hbw
              exact step st _ hs rfl h fun r hr => by unfold DFact; rw [hg]; exact .inl ⟨t, b, ht, hb, .inl ⟨hbw, hr⟩⟩
            · rename_i hbw
              exact go _ _ _ (by unfold DFact; rw [hg]; exact .inl ⟨t, b, ht, hb, .inr ⟨hbw, rfl⟩⟩) h
          · split at h
            · rename_i d hs2
              obtain ⟨rfl, h⟩ := h
              split at h
              · rename_i hbw
                exact step _ _ _ (put_same hb) h fun r hr => by unfold DFact; rw [hg]; exact .inl ⟨t, b, ht, hb, .inl ⟨hbw, hr⟩⟩
              · rename_i hbw
                rw [put_same hb] at h
                exact go _ _ _ (by unfold DFact; rw [hg]; exact .inl ⟨t, b, ht, hb, .inr ⟨hbw, rfl⟩⟩) h
            · obtain ⟨g1, g2⟩ := h
              cases b with
              | true =>
                have h := g1 rfl
                cases want with
                | true => exact step _ _ _ (put_same hb) h fun r hr => by unfold DFact; rw [hg]; exact .inl ⟨t, true, ht, hb, .inl ⟨rfl, hr⟩⟩
                | false =>
                  simp only at h
                  rw [put_same hb] at h
                  exact go _ _ _ (by unfold DFact; rw [hg]; exact .inl ⟨t, true, ht, hb, .inr ⟨by simp, rfl⟩⟩) h
              | false =>
                have h := g2 rfl
                cases want with
                | true =>
                  simp only at h
                  rw [put_same hb] at h
                  exact go _ _ _ (by unfold DFact; rw [hg]; exact .inl ⟨t, false, ht, hb, .inr ⟨by simp, rfl⟩⟩) h
                | false => exact step _ _ _ (put_same hb) h fun r hr => by unfold DFact; rw [hg]; exact .inl ⟨t, false, ht, hb, .inl ⟨rfl, hr⟩⟩
            · exact h.elim
        · rename_i v hnb hb
          exact go _ _ _ (by unfold DFact; rw [hg]; exact .inr ⟨t, v, ht, hb, fun b e => hnb b e, rfl⟩) h
        · exact h.elim

/-! ### The states' slots -/
theorem put_ob (d : Option Tmp) (x : AV) : (st.put d x).ob = st.ob ∧ (st.put d x).nx = st.nx ∧ (st.put d x).sl.length = st.sl.length := by
  cases d <;> simp [St.put]
theorem stAt_same (L : List (Oper × AV)) : ∀ i, (stAt st L i).ob = st.ob ∧ (stAt st L i).nx = st.nx ∧ (stAt st L i).sl.length = st.sl.length
  | 0 => by simp [stAt]
  | i + 1 => by
    have ih := stAt_same L i
    cases h : L[i]? with
    | none =>
      have : stAt st L (i + 1) = stAt st L i := by
        unfold stAt
        rw [List.take_add_one, h]
        simp
      rw [this]; exact ih
    | some p =>
      rw [stAt_succ h]
      have := put_ob (st := stAt st L i) p.1.dst p.2
      exact ⟨this.1.trans ih.1, this.2.1.trans ih.2.1, this.2.2.trans ih.2.2⟩
theorem put_getD (d : Option Tmp) (x : AV) (t : Nat) (h : d ≠ some t) : (st.put d x).sl.getD t (.f .any) = st.sl.getD t (.f .any) := by
  cases d with
  | none => rfl
  | some d =>
    have : d ≠ t := fun e => h (by rw [e])
    simp [St.put, List.getD_eq_getElem?_getD, List.getElem?_set_ne this]
theorem put_getD_same (x : AV) (t : Nat) (h : t < st.sl.length) : (st.put (some t) x).sl.getD t (.f .any) = x := by
  simp [St.put, List.getD_eq_getElem?_getD, h]
theorem stAt_else (L : List (Oper × AV)) (t : Nat) : ∀ i, (∀ j p, j < i → L[j]? = some p → p.1.dst ≠ some t) → (stAt st L i).sl.getD t (.f .any) = st.sl.getD t (.f .any)
  | 0, _ => by simp [stAt]
  | i + 1, h => by
    have ih := stAt_else L t i (fun j p hj => h j p (by omega))
    cases hi : L[i]? with
    | none =>
      have : stAt st L (i + 1) = stAt st L i := by
        unfold stAt
        rw [List.take_add_one, hi]
        simp
      rw [this]; exact ih
    | some p => rw [stAt_succ hi, put_getD _ _ _ (h i p (by omega) hi)]; exact ih
theorem stAt_dst (L : List (Oper × AV)) (t : Nat) (ht : t < st.sl.length) (j : Nat) (q : Oper × AV) (hq : L[j]? = some q) (hd : q.1.dst = some t)
    (huniq : ∀ k p, k ≠ j → L[k]? = some p → p.1.dst ≠ some t) : ∀ i, j < i → (stAt st L i).sl.getD t (.f .any) = q.2
  | 0, h => by omega
  | i + 1, h => by
    by_cases hji : j = i
    · subst hji
      rw [stAt_succ hq, hd]
      exact put_getD_same _ _ (by rw [(stAt_same L j).2.2]; exact ht)
    · have ih := stAt_dst L t ht j q hq hd huniq i (by omega)
      cases hi : L[i]? with
      | none =>
        have : stAt st L (i + 1) = stAt st L i := by
          unfold stAt
          rw [List.take_add_one, hi]
          simp
        rw [this]; exact ih
      | some p => rw [stAt_succ hi, put_getD _ _ _ (huniq i p (fun e => hji e.symm) hi)]; exact ih

theorem ARelL.of_get {ok : Nat → Prop} : ∀ (l : List AV) (vs : List Value), vs.length = l.length → (∀ t, t < l.length → ARel w ok en (l.getD t (.f .any)) (vs.getD t undef)) → ARelL w ok en l vs
  | [], vs, h, _ => by simp only [ARelL]; exact List.eq_nil_of_length_eq_zero (by simpa using h)
  | x :: l, [], h, _ => by simp at h
  | x :: l, v :: vs, h, hg => by
    simp only [ARelL]
    exact ⟨v, vs, rfl, by simpa using hg 0 (by simp), ARelL.of_get l vs (by simpa using h) fun t ht => by simpa using hg (t + 1) (by simpa using ht)⟩
theorem bdL.of_get {n : Nat} : ∀ (l : List AV), (∀ t, t < l.length → (l.getD t (.f .any)).bd n) → bdL n l
  | [], _ => by simp [bdL]
  | x :: l, hg => by
    simp only [bdL]
    exact ⟨by simpa using hg 0 (by simp), bdL.of_get l fun t ht => by simpa using hg (t + 1) (by simpa using ht)⟩

/-! ### The order's conditions -/
structure DrawnOk (P : Program) (ops : Array Oper) (n : Nat) : Prop where
  mixed : P.follows .mixedOrders = true
  le : n ≤ ops.size
  back : ∀ (i : Nat) (o : Oper), ops[i]? = some o → ∀ e ∈ o.after, Region.binds .any e = true → e.on < i
  nosel : ∀ (i : Nat) (o : Oper), ops[i]? = some o → ∀ cs b, o.op ≠ .select cs b
  known : ∀ (i : Nat) (o : Oper), i < n → ops[i]? = some o → ∀ t ∈ o.looksAt ops, ∀ j, j < n → dstOf ops j = some t → j < i ∧ ∃ e ∈ o.after, e.on = j ∧ Region.binds .any e = true
  uniq : ∀ i j t, i < n → j < n → dstOf ops i = some t → dstOf ops j = some t → i = j
  behind : ∀ k, n ≤ k → k < ops.size → ∀ j, j < k → ∃ (m : Nat) (o : Oper), j < m ∧ m ≤ k ∧ ops[m]? = some o ∧ ∃ e ∈ o.after, e.on = j ∧ Region.binds .any e = true

theorem edgeTo_spec {o : Oper} {j : Nat} (h : edgeTo o j = true) : ∃ e ∈ o.after, e.on = j ∧ Region.binds .any e = true := by
  unfold edgeTo at h
  rw [Array.any_eq_true'] at h
  obtain ⟨e, he, h⟩ := h
  simp only [Bool.and_eq_true, beq_iff_eq] at h
  exact ⟨e, he, h.1, h.2⟩

theorem drawnOk_spec {n : Nat} (h : drawnOk P ops n = true) : DrawnOk P ops n := by
  unfold drawnOk at h
  simp only [Bool.and_eq_true, decide_eq_true_eq, List.all_eq_true, List.mem_range] at h
  obtain ⟨⟨⟨⟨h1, h2⟩, h3⟩, h4⟩, h5⟩ := h
  have lt : ∀ i o, ops[i]? = some o → i < ops.size := fun i o hi => (Array.getElem?_eq_some_iff.1 hi).1
  have h4' : ∀ i o, i < n → ops[i]? = some o → ((∀ t ∈ o.looksAt ops, ∀ j, j < n → (dstOf ops j != some t || (decide (j < i) && edgeTo o j)) = true) ∧ ∀ j, j < n → (j == i || o.dst == none || dstOf ops j != o.dst) = true) := by
    intro i o hi ho
    have := h4 i hi
    rw [ho] at this
    simpa only [Bool.and_eq_true, List.all_eq_true, List.mem_range] using this
  refine ⟨h1, h2, ?_, ?_, ?_, ?_, ?_⟩
  · intro i o hi e he hb
    have := h3 i (lt i o hi)
    rw [hi] at this
    simp only [Bool.and_eq_true, Array.all_eq_true_iff_forall_mem] at this
    have := this.1 e he
    simpa [hb] using this
  · intro i o hi cs b hc
    have := h3 i (lt i o hi)
    rw [hi] at this
    simp [hc] at this
  · intro i o hi ho t ht j hj hd
    have := (h4' i o hi ho).1 t ht j hj
    rw [hd] at this
    simp only [bne_self_eq_false, Bool.false_or, Bool.and_eq_true, decide_eq_true_eq] at this
    exact ⟨this.1, edgeTo_spec this.2⟩
  · intro i j t hi hj hdi hdj
    have hio : ∃ o, ops[i]? = some o ∧ o.dst = some t := by
      unfold dstOf at hdi
      cases ho : ops[i]? with
      | none => rw [ho] at hdi; simp at hdi
      | some o => rw [ho] at hdi; exact ⟨o, rfl, by simpa using hdi⟩
    obtain ⟨o, ho, hd⟩ := hio
    have := (h4' i o hi ho).2 j hj
    rw [hd, hdj] at this
    simp at this
    exact this.symm
  · intro k hk hks j hj
    have := h5 k hks
    simp only [Bool.or_eq_true, decide_eq_true_eq] at this
    rcases this with h | h
    · omega
    · rw [List.all_eq_true] at h
      have := h j (List.mem_range.2 hj)
      rw [List.any_eq_true] at this
      obtain ⟨m, hm, h⟩ := this
      simp only [List.mem_range, Bool.and_eq_true, decide_eq_true_eq] at hm h
      unfold edgeAt at h
      split at h
      · rename_i o ho
        exact ⟨m, o, h.1, by omega, ho, edgeTo_spec h.2⟩
      · simp at h

theorem suffix_any (n : Nat) (hd : DrawnOk P ops n) {Q : Exit → Act → World → Prop} : ∀ (l : List Oper) (k : Nat) (listed : Array Bool) (a : Act) (w : World), n ≤ k → l = ops.toList.drop k → k ≤ ops.size → listed.size = ops.size →
    (∀ j, j < ops.size → listed.getD j true = decide (j < k)) → wpList P ops Q l a w → wpAny P .any ops Q l.length listed a w
  | [], k, listed, a, w, hk, hl, hks, hsz, hli, h => by
    have hke : ops.size ≤ k := by
      have := congrArg List.length hl
      simp at this; omega
    refine ⟨?_, h⟩
    rw [List.eq_nil_iff_forall_not_mem]
    intro j hj
    obtain ⟨h1, o, ho, _⟩ := mem_ready.1 hj
    have hlt := (Array.getElem?_eq_some_iff.1 ho).1
    rw [hli j hlt] at h1
    simp at h1; omega
  | o :: l, k, listed, a, w, hk, hl, hks, hsz, hli, h => by
    have hklt : k < ops.size := by
      have := congrArg List.length hl
      simp at this; omega
    have hlik : ∀ j, listed.getD j false = true ↔ j < k := by
      intro j
      rcases Nat.lt_or_ge j ops.size with hj | hj
      · have := hli j hj
        rw [Array.getD_eq_getD_getElem?, Array.getElem?_eq_getElem (by omega)] at this ⊢
        simp only [Option.getD_some] at this ⊢
        rw [this]; simp
      · rw [Array.getD_eq_getD_getElem?, Array.getElem?_eq_none (by omega)]
        simp; omega
    have hok : ops[k]? = some o := by
      have := congrArg (fun l => l[0]?) hl
      simp at this
      exact this.symm
    have hready : ∀ i, i ∈ Region.ready .any ops listed ↔ i = k := by
      intro i
      rw [mem_ready]
      constructor
      · rintro ⟨h1, o', ho', hall⟩
        have hlt := (Array.getElem?_eq_some_iff.1 ho').1
        rw [hli i hlt] at h1
        simp at h1
        rcases Nat.lt_or_ge k i with hik | hik
        · obtain ⟨m, o2, hm1, hm2, ho2, e, he, hej, hb⟩ := hd.behind i (by omega) hlt (i - 1) (by omega)
          have hmi : m = i := by omega
          subst hmi
          rw [ho'] at ho2
          cases ho2
          have := (hlik _).1 (hall e he hb)
          omega
        · omega
      · rintro rfl
        refine ⟨by rw [hli i hklt]; simp, o, hok, fun e he hb => ?_⟩
        rw [hlik]
        exact hd.back i o hok e he hb
    refine ⟨fun he => ?_, fun i hi => ?_⟩
    · have := (hready k).2 rfl
      rw [he] at this
      cases this
    · obtain rfl := (hready i).1 hi
      unfold wpOp
      rw [hok]
      simp only [wpList] at h ⊢
      have hrec : ∀ a w, wpList P ops Q l a w → wpAny P .any ops Q l.length (listed.setIfInBounds i true) a w := by
        intro a w h
        refine suffix_any n hd l (i + 1) _ a w (by omega) ?_ hklt (by simpa using hsz) ?_ h
        · have := congrArg (List.drop 1) hl
          simpa [List.drop_drop, Nat.add_comm] using this
        · intro j hj
          by_cases hij : i = j
          · subst hij
            simp [hsz, hklt]
          · rw [getD_set_ne true hij, hli j hj]
            congr 1
            simp; omega
      split
      · rename_i hw
        rw [if_pos hw] at h
        exact h.imp (Oper.wp_mono hrec) id
      · rename_i hw
        rw [if_neg hw] at h
        exact hrec _ _ h

theorem count_set {listed : Array Bool} {i : Nat} (h : listed.getD i true = false) : listed.toList.count false = (listed.setIfInBounds i true).toList.count false + 1 := by
  have hi : i < listed.size := by
    rcases Nat.lt_or_ge i listed.size with h' | h'
    · exact h'
    · rw [Array.getD_eq_getD_getElem?, Array.getElem?_eq_none h'] at h; simp at h
  have hv : listed.toList[i]'(by simpa using hi) = false := by
    rw [Array.getD_eq_getD_getElem?, Array.getElem?_eq_getElem hi] at h
    simpa using h
  rw [Array.toList_setIfInBounds, List.count_set (by simpa using hi), hv]
  have : 0 < listed.toList.count false := List.count_pos_iff.2 (by rw [← hv]; exact List.getElem_mem _)
  change listed.toList.count false = listed.toList.count false - 1 + 0 + 1
  omega

theorem of_dstOf {i : Nat} {t : Tmp} (h : dstOf ops i = some t) : ∃ o, ops[i]? = some o ∧ o.dst = some t := by
  unfold dstOf at h
  cases ho : ops[i]? with
  | none => rw [ho] at h; simp at h
  | some o => rw [ho] at h; exact ⟨o, rfl, by simpa using h⟩

theorem use_fact {o : Oper} {r : AV} {i : Nat} {sti : St} {K : Act → World → Prop} {Q : Exit → Act → World → Prop} (hi : ops[i]? = some o) (hm : Mem G X ok0 w0 sti.ob sti.nx w en) (hf : DFact P G ops sti o r)
    (ho : ∀ t ∈ o.looksAt ops, ARel w (okS ok0 w0 w sti.ob en) en (sti.sl.getD t (.f .any)) (a.tmps.getD t undef) ∧ (sti.sl.getD t (.f .any)).bd sti.nx)
    (hK : ∀ v w', Ext G w w' → ARel w' (okS ok0 w0 w' sti.ob en) en r v → r.bd sti.nx → K (a.put o.dst v) w') : wpOp P ops Q i K a w := by
  have hops : OpsRel w (okS ok0 w0 w sti.ob en) en sti.nx sti a.eval o.op.operands.toList := by
    intro x hx
    cases x with
    | tmp t =>
      have := ho t (by unfold Oper.looksAt; exact List.mem_append_left _ (List.mem_filterMap.2 ⟨.tmp t, hx, rfl⟩))
      exact this
    | const v => exact ⟨by simp only [St.opnd, Act.eval, ARel]; exact fV_rel _ _ v, by simp [St.opnd, AV.bd]⟩
    | func f => exact ⟨by simp only [St.opnd, Act.eval, ARel, FRel]; exact ⟨[], [], rfl, by simp [FRelL], by simp [FRelL]⟩, by simp [St.opnd, AV.bd]⟩
    | global g => exact ⟨by simp [St.opnd, Act.eval, ARel, FRel], by simp [St.opnd, AV.bd]⟩
  have hgood : (∃ p hs hs', dval P G sti o hs = some (p, r, hs') ∧ hold p) → o.wp P a w K Q := by
    rintro ⟨p, hs, hs', hd, hp⟩
    obtain ⟨h1, h2⟩ := dval_sound hm hops hd hp
    exact h2.wp fun v w' ⟨hx, hr⟩ => hK v w' hx hr h1
  unfold wpOp
  rw [hi]
  simp only
  unfold DFact at hf
  split at hf
  · rename_i hg
    rw [if_pos (by simp [Region.wanted, hg])]
    exact .inl (hgood hf)
  · rename_i j want hg
    have hlook : ∀ t, guardOf ops j = some t → t ∈ o.looksAt ops := by
      intro t ht
      unfold Oper.looksAt
      refine List.mem_append_right _ ?_
      unfold guardOf at ht
      simp only [hg, ht, Option.toList_some, List.mem_singleton]
    rcases hf with ⟨t, b, ht, hb, hcase⟩ | ⟨t, v, ht, hb, hnb, rfl⟩
    case inr =>
      have hv := (ho t (hlook t ht)).1
      rw [hb] at hv
      have hy := yielded_none (ops := ops) (a := a) ht (by simpa [ARel, FRel] using hv) hnb
      have hw : Region.wanted o (yielded ops a.tmps) = false := by simp [Region.wanted, hg, hy]
      rw [if_neg (by rw [hw]; simp)]
      exact hK undef w (Ext.refl w) (by simp [ARel, FRel]) (by simp [AV.bd])
    have hb' : a.tmps.getD t undef = .bool b := by
      have := (ho t (hlook t ht)).1
      rw [hb] at this
      simpa [ARel, FRel] using this
    have hy := yielded_of (ops := ops) (a := a) ht hb'
    have hw : Region.wanted o (yielded ops a.tmps) = (b == want) := by simp [Region.wanted, hg, hy]
    rcases hcase with ⟨h1, h2⟩ | ⟨h1, h2⟩
    · rw [if_pos (by rw [hw]; simp [h1])]
      exact .inl (hgood h2)
    · rw [if_neg (by rw [hw]; simpa using h1)]
      subst h2
      exact hK undef w (Ext.refl w) (by simp [ARel, FRel]) (by simp [AV.bd])

theorem put_tmps_ne {d : Option Tmp} {t : Nat} (v : Value) (h : d ≠ some t) : (a.put d v).tmps.getD t undef = a.tmps.getD t undef := by
  cases d with
  | none => rfl
  | some d =>
    have : d ≠ t := fun e => h (by rw [e])
    simp [Act.put, Array.getElem?_setIfInBounds_ne this]
theorem put_tmps_same {t : Nat} (v : Value) (h : t < a.tmps.size) : (a.put (some t) v).tmps.getD t undef = v := by
  simp [Act.put, h]
theorem put_size (d : Option Tmp) (v : Value) : (a.put d v).tmps.size = a.tmps.size := by cases d <;> simp [Act.put]
theorem put_defs (d : Option Tmp) (v : Value) : (a.put d v).defers = a.defers := by cases d <;> rfl

theorem any_sound {n : Nat} (hd : DrawnOk P ops n) {L : List (Oper × AV)} (hL : L.map (·.1) = ops.toList.take n) (hf : ∀ i p, L[i]? = some p → DFact P G ops (stAt st L i) p.1 p.2)
    {Q : Exit → Act → World → Prop} (hbd : bdL st.nx st.sl)
    (hfin : ∀ a w, Inv G X ok0 w0 (stAt st L n) a w en → wpList P ops Q (ops.toList.drop n) a w) :
    ∀ (fuel : Nat) (listed : Array Bool) (a : Act) (w : World), listed.size = ops.size → fuel = listed.toList.count false →
      (∀ i o, listed.getD i false = true → ops[i]? = some o → ∀ e ∈ o.after, Region.binds .any e = true → listed.getD e.on false = true) → (∀ j, listed.getD j false = true → j < n) →
      Mem G X ok0 w0 st.ob st.nx w en → a.defers = [] → a.tmps.size = st.sl.length →
      (∀ t, (∀ j, j < n → dstOf ops j ≠ some t) → ARel w (okS ok0 w0 w st.ob en) en (st.sl.getD t (.f .any)) (a.tmps.getD t undef)) →
      (∀ j t p, listed.getD j false = true → L[j]? = some p → dstOf ops j = some t → t < st.sl.length → ARel w (okS ok0 w0 w st.ob en) en p.2 (a.tmps.getD t undef) ∧ p.2.bd st.nx) →
      wpAny P .any ops Q fuel listed a w := by
  have hLlen : L.length = n := by
    have := congrArg List.length hL
    simp at this
    have := hd.le
    omega
  have hLi : ∀ i, i < n → ∃ p, L[i]? = some p ∧ ops[i]? = some p.1 := by
    intro i hi
    refine ⟨L[i]'(by omega), List.getElem?_eq_getElem (by omega), ?_⟩
    have := congrArg (fun l => l[i]?) hL
    simp only [List.getElem?_map, List.getElem?_take, hi, if_true] at this
    rw [List.getElem?_eq_getElem (by omega)] at this
    simpa using this.symm
  have hdst : ∀ i p, L[i]? = some p → dstOf ops i = p.1.dst := by
    intro i p hp
    have hi : i < n := by
      have := (List.getElem?_eq_some_iff.1 hp).1
      omega
    obtain ⟨q, h1, h2⟩ := hLi i hi
    rw [hp] at h1
    cases h1
    unfold dstOf
    rw [h2]; rfl
  have huq : ∀ j t, j < n → dstOf ops j = some t → ∀ k p, k ≠ j → L[k]? = some p → p.1.dst ≠ some t := by
    intro j t hj hjt k p hk hp e
    have hkn : k < n := by have := (List.getElem?_eq_some_iff.1 hp).1; omega
    exact hk (hd.uniq k j t hkn hj ((hdst k p hp).trans e) hjt)
  intro fuel
  induction fuel with
  | zero =>
    intro listed a w hsz hfuel hcl hpre hm hde hts hA hB
    have hall : ∀ j, j < ops.size → listed.getD j true = true := by
      intro j hj
      have hlt : j < listed.size := by omega
      rw [Array.getD_eq_getD_getElem?, Array.getElem?_eq_getElem hlt]
      simp only [Option.getD_some]
      have h0 : listed.toList.count false = 0 := hfuel.symm
      rw [List.count_eq_zero] at h0
      cases hv : listed[j] with
      | true => rfl
      | false => exact absurd (by rw [← hv]; simp) h0
    have hnn : n = ops.size := by
      rcases Nat.lt_or_ge n ops.size with h | h
      · have h1 := hall n h
        have h2 : listed.getD n false = true := by
          rw [Array.getD_eq_getD_getElem?, Array.getElem?_eq_getElem (by omega)] at h1 ⊢
          exact h1
        have := hpre n h2
        omega
      · have := hd.le; omega
    have hinv : Inv G X ok0 w0 (stAt st L n) a w en := by
      have s := stAt_same (st := st) L n
      have slot : ∀ t, t < st.sl.length → ARel w (okS ok0 w0 w st.ob en) en ((stAt st L n).sl.getD t (.f .any)) (a.tmps.getD t undef) ∧ ((stAt st L n).sl.getD t (.f .any)).bd st.nx := by
        intro t ht
        by_cases hex : ∃ j, j < n ∧ dstOf ops j = some t
        · obtain ⟨j, hj, hjt⟩ := hex
          obtain ⟨p, hp1, hp2⟩ := hLi j hj
          rw [stAt_dst L t ht j p hp1 ((hdst j p hp1).symm.trans hjt) (huq j t hj hjt) n hj]
          refine hB j t p ?_ hp1 hjt ht
          have := hall j (by omega)
          rw [Array.getD_eq_getD_getElem?, Array.getElem?_eq_getElem (by omega)] at this ⊢
          exact this
        · have hne : ∀ j, j < n → dstOf ops j ≠ some t := fun j hj e => hex ⟨j, hj, e⟩
          rw [stAt_else L t n (fun j p hj hp e => hne j hj ((hdst j p hp).trans e))]
          exact ⟨hA t hne, bdL.get _ _ hbd⟩
      refine ⟨by rw [s.1, s.2.1]; exact hm, hde, ?_, ?_⟩
      · rw [s.1]
        exact ARelL.of_get _ _ (by rw [s.2.2]; simpa using hts) fun t ht => by
          have := (slot t (by rw [← s.2.2]; exact ht)).1
          rwa [tmps_getD] at this
      · rw [s.2.1]
        exact bdL.of_get _ fun t ht => (slot t (by rw [← s.2.2]; exact ht)).2
    have := suffix_any n hd (ops.toList.drop n) n listed a w (Nat.le_refl _) rfl hd.le hsz (fun j hj => by rw [hall j hj]; simp; omega) (hfin a w hinv)
    have he : ops.toList.drop n = [] := by rw [List.drop_eq_nil_iff]; simp; omega
    rw [he] at this
    exact this
  | succ fuel ih =>
    intro listed a w hsz hfuel hcl hpre hm hde hts hA hB
    by_cases hall : ∀ j, j < n → listed.getD j false = true
    · -- all of the first are done
      have hinv : Inv G X ok0 w0 (stAt st L n) a w en := by
        have s := stAt_same (st := st) L n
        have slot : ∀ t, t < st.sl.length → ARel w (okS ok0 w0 w st.ob en) en ((stAt st L n).sl.getD t (.f .any)) (a.tmps.getD t undef) ∧ ((stAt st L n).sl.getD t (.f .any)).bd st.nx := by
          intro t ht
          by_cases hex : ∃ j, j < n ∧ dstOf ops j = some t
          · obtain ⟨j, hj, hjt⟩ := hex
            obtain ⟨p, hp1, hp2⟩ := hLi j hj
            rw [stAt_dst L t ht j p hp1 ((hdst j p hp1).symm.trans hjt) (huq j t hj hjt) n hj]
            exact hB j t p (hall j hj) hp1 hjt ht
          · have hne : ∀ j, j < n → dstOf ops j ≠ some t := fun j hj e => hex ⟨j, hj, e⟩
            rw [stAt_else L t n (fun j p hj hp e => hne j hj ((hdst j p hp).trans e))]
            exact ⟨hA t hne, bdL.get _ _ hbd⟩
        refine ⟨by rw [s.1, s.2.1]; exact hm, hde, ?_, ?_⟩
        · rw [s.1]
          exact ARelL.of_get _ _ (by rw [s.2.2]; simpa using hts) fun t ht => by
            have := (slot t (by rw [← s.2.2]; exact ht)).1
            rwa [tmps_getD] at this
        · rw [s.2.1]
          exact bdL.of_get _ fun t ht => (slot t (by rw [← s.2.2]; exact ht)).2
      have hli : ∀ j, j < ops.size → listed.getD j true = decide (j < n) := by
        intro j hj
        by_cases hjn : j < n
        · have := hall j hjn
          rw [Array.getD_eq_getD_getElem?, Array.getElem?_eq_getElem (by omega)] at this ⊢
          simp only [Option.getD_some] at this ⊢
          rw [this]; simp [hjn]
        · have h0 : listed.getD j false ≠ true := fun e => hjn (hpre j e)
          rw [Array.getD_eq_getD_getElem?, Array.getElem?_eq_getElem (by omega)] at h0 ⊢
          simp only [Option.getD_some] at h0 ⊢
          simp [hjn, h0]
      have hcount : listed.toList.count false = (ops.toList.drop n).length := by
        have e : listed.toList = (List.range ops.size).map fun j => decide (j < n) := by
          apply List.ext_getElem?
          intro j
          rcases Nat.lt_or_ge j ops.size with hj | hj
          · have := hli j hj
            rw [Array.getD_eq_getD_getElem?, Array.getElem?_eq_getElem (by omega)] at this
            simp only [Option.getD_some] at this
            simp [hj, hsz, this]
          · simp [hj, hsz]
        rw [e]
        have gen : ∀ m, ((List.range m).map fun j => decide (j < n)).count false = m - n := by
          intro m
          induction m with
          | zero => simp
          | succ m ihm =>
            rw [List.range_succ, List.map_append, List.count_append, ihm]
            by_cases hmn : m < n
            · simp [hmn]; omega
            · simp [hmn]; omega
        rw [gen]; simp
      have := suffix_any n hd (ops.toList.drop n) n listed a w (Nat.le_refl _) rfl hd.le hsz hli (hfin a w hinv)
      rw [← hcount, ← hfuel] at this
      exact this
    · -- one of the first is still to do
      have hex : ∃ j, j < n ∧ listed.getD j false ≠ true := by
        apply Classical.byContradiction
        intro hno
        exact hall fun j hj => Classical.byContradiction fun h => hno ⟨j, hj, h⟩
      refine ⟨fun he => ?_, fun i hi => ?_⟩
      · exfalso
        obtain ⟨j, hj, hjl⟩ := hex
        have key : ∀ j, j < n → listed.getD j false = true := by
          intro j
          induction j using Nat.strongRecOn with
          | _ j ihj =>
            intro hj
            apply Classical.byContradiction
            intro hjl
            have hjs : j < ops.size := by have := hd.le; omega
            obtain ⟨p, hp1, hp2⟩ := hLi j hj
            have : j ∈ Region.ready .any ops listed := by
              rw [mem_ready]
              refine ⟨?_, p.1, hp2, fun e he' hb => ?_⟩
              · rw [Array.getD_eq_getD_getElem?, Array.getElem?_eq_getElem (by omega)] at hjl ⊢
                simpa using hjl
              · have := hd.back j p.1 hp2 e he' hb
                exact ihj e.on this (by omega)
            rw [he] at this
            cases this
        exact hjl (key j hj)
      · obtain ⟨hun, o, hio, hedges⟩ := mem_ready.1 hi
        have hin : i < n := by
          apply Classical.byContradiction
          intro hge
          have his := (Array.getElem?_eq_some_iff.1 hio).1
          -- all ahead of i are listed
          have key : ∀ d j, j + d = i → 0 < d → listed.getD j false = true := by
            intro d
            induction d using Nat.strongRecOn with
            | _ d ihd =>
              intro j hjd hd0
              obtain ⟨m, o2, h1, h2, h3, e, he, hej, hb⟩ := hd.behind i (by omega) his j (by omega)
              rcases Nat.lt_or_ge m i with hmi | hmi
              · have hml := ihd (i - m) (by omega) m (by omega) (by omega)
                have := hcl m o2 hml h3 e he hb
                rwa [hej] at this
              · have : m = i := by omega
                subst this
                rw [hio] at h3
                cases h3
                have := hedges e he hb
                rwa [hej] at this
          obtain ⟨j, hj, hjl⟩ := hex
          exact hjl (key (i - j) j (by omega) (by omega))
        obtain ⟨p, hp1, hp2⟩ := hLi i hin
        rw [hio] at hp2
        simp only [Option.some.injEq] at hp2
        have s := stAt_same (st := st) L i
        refine use_fact (sti := stAt st L i) (en := en) (ok0 := ok0) (w0 := w0) (r := p.2) hio (by rw [s.1, s.2.1]; exact hm) (by rw [hp2]; exact hf i p hp1) ?_ ?_
        · intro t ht
          rw [s.1, s.2.1]
          by_cases hlt : t < st.sl.length
          · by_cases hex : ∃ j, j < n ∧ dstOf ops j = some t
            · obtain ⟨j, hj, hjt⟩ := hex
              obtain ⟨hji, e, he, hej, hb⟩ := hd.known i o hin hio t ht j hj hjt
              obtain ⟨q, hq1, hq2⟩ := hLi j hj
              rw [stAt_dst L t hlt j q hq1 ((hdst j q hq1).symm.trans hjt) (huq j t hj hjt) i hji]
              exact hB j t q (by rw [← hej]; exact hedges e he hb) hq1 hjt hlt
            · have hne : ∀ j, j < n → dstOf ops j ≠ some t := fun j hj e => hex ⟨j, hj, e⟩
              rw [stAt_else L t i (fun j q hj hq e => hne j (by omega) ((hdst j q hq).trans e))]
              exact ⟨hA t hne, bdL.get _ _ hbd⟩
          · have : (stAt st L i).sl.getD t (.f .any) = .f .any := by
              have hle : (stAt st L i).sl.length ≤ t := by have h1 := s.2.2; rw [h1]; exact Nat.not_lt.1 hlt
              rw [List.getD_eq_getElem?_getD, List.getElem?_eq_none hle]; rfl
            rw [this]
            exact ⟨by simp [ARel, FRel], by simp [AV.bd]⟩
        · intro v w' hx hr hrb
          rw [s.1] at hr
          rw [s.2.1] at hrb
          have hcar : Carry w w' (okS ok0 w0 w st.ob en) (okS ok0 w0 w' st.ob en) := carry_ext hx
          refine ih _ _ _ (by simpa using hsz) ?_ ?_ ?_ (hm.step hx) (by rw [put_defs]; exact hde) (by rw [put_size]; exact hts) ?_ ?_
          · have := count_set hun
            omega
          · intro k ok hk hok e he hb
            by_cases hki : i = k
            · subst hki
              rw [hio] at hok
              cases hok
              exact getD_set_true (hedges e he hb)
            · rw [getD_set_ne false hki] at hk
              exact getD_set_true (hcl k ok hk hok e he hb)
          · intro k hk
            by_cases hki : i = k
            · omega
            · rw [getD_set_ne false hki] at hk
              exact hpre k hk
          · intro t ht
            have hne : o.dst ≠ some t := by
              have := ht i hin
              unfold dstOf at this
              rw [hio] at this
              exact this
            rw [put_tmps_ne v hne]
            exact ARel.carry hcar (EnvUpto.refl st.nx en) _ _ (bdL.get _ _ hbd) (hA t ht)
          · intro j t q hj hq hjt hlt
            by_cases hji : i = j
            · subst hji
              rw [hp1] at hq
              cases hq
              have hod : o.dst = some t := by
                unfold dstOf at hjt
                rw [hio] at hjt
                exact hjt
              rw [hod, put_tmps_same v (by rw [hts]; exact hlt)]
              exact ⟨hr, hrb⟩
            · rw [getD_set_ne false hji] at hj
              have hne : o.dst ≠ some t := by
                intro e
                have hdi : dstOf ops i = some t := by unfold dstOf; rw [hio]; exact e
                exact hji (hd.uniq i j t hin (hpre j hj) hdi hjt)
              rw [put_tmps_ne v hne]
              have := hB j t q hj hq hjt hlt
              exact ⟨ARel.carry hcar (EnvUpto.refl st.nx en) _ _ this.2 this.1, this.2⟩

/-- A region that draws its order. -/
theorem drawn_sound {id n : Nat} {hs : List Hint} {K : St → List Hint → Prop} {Q : Exit → Act → World → Prop} (h : Inv G X ok0 w0 st a w en) (hv : evalDrawn P G ops n st hs K)
    (hQ : ∀ st' hs' a' w' en', Inv G X ok0 w0 st' a' w' en' → K st' hs' → Q .normal a' w') : (Code.region id ops true).wp P Q a w := by
  obtain ⟨hok, hv⟩ := hv
  have hd := drawnOk_spec hok
  obtain ⟨st1, hs1, en1, h1, hv⟩ := preF_inv h hv
  obtain ⟨L, hL, hf, hs2, hk⟩ := row_facts _ _ _ _ hv
  have hLlen : L.length = n := by
    have := congrArg List.length hL
    simp at this
    have := hd.le
    omega
  rw [hLlen] at hk
  refine wp_region_any hd.mixed ?_
  have h2 : Inv G X ok0 w0 st1 a { w with drawn := w.drawn + 1 } en1 := h1.step (Ext.drew (Ext.refl w))
  refine any_sound (ok0 := ok0) (w0 := w0) (en := en1) hd hL hf h2.bd (fun a' w' h' => evalRow_sound hQ _ _ _ _ _ _ _ h' hk) _ _ _ _ (by simp) ?_ ?_ ?_ h2.mem h2.defs ?_ ?_ ?_
  · simp [List.count_replicate]
  · intro i o hi
    exfalso
    rw [Array.getD_eq_getD_getElem?, Array.getElem?_replicate] at hi
    split at hi <;> simp at hi
  · intro j hj
    exfalso
    rw [Array.getD_eq_getD_getElem?, Array.getElem?_replicate] at hj
    split at hj <;> simp at hj
  · have := ARelL.length _ _ h2.slots
    simpa using this
  · intro t _
    have := (h2.opnd (.tmp t)).1
    exact this
  · intro j t p hj
    exfalso
    rw [Array.getD_eq_getD_getElem?, Array.getElem?_replicate] at hj
    split at hj <;> simp at hj
end
end Go.Sx

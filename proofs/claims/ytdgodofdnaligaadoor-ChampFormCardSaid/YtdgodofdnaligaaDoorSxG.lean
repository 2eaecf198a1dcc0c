/-
  Proved: what some functions of the program answer, or a law of the evaluator that shows it, one theorem each; its conditions are the hypotheses that stand ahead of it.
-/
import Derived.Test.YtdgodofdnaligaaDoorSxF
set_option linter.unusedVariables false
set_option linter.unusedSimpArgs false
namespace Go.Sx
open Go.RowKit
section
variable {P : Program} {G : Gr} {X : Nat → Prop} {ok0 : Nat → Prop} {w0 w : World} {tv : Nat → Value} {en : Env} {st : St} {ρ : Operand → Value}
theorem cellsAV_rel {ok : Nat → Prop} {nx : Nat} {x : AV} {cs : List AV} {v : Value} (h : cellsAV x = some cs) (hr : ARel w ok en x v) (hb : x.bd nx) :
    ARelL w ok en cs v.cells.toList ∧ bdL nx cs := by
  have fl : ∀ (l : List FV) (vs : List Value), FRelL w ok l vs → ARelL w ok en (l.map .f) vs ∧ bdL nx (l.map .f) := by
    intro l
    induction l with
    | nil => intro vs h; simp only [FRelL] at h; simp [h, ARelL, bdL]
    | cons y l ih =>
      intro vs h
      simp only [FRelL] at h
      obtain ⟨a, r, rfl, h1, h2⟩ := h
      have := ih r h2
      simp only [List.map_cons, ARelL, bdL, AV.bd]
      exact ⟨⟨a, r, rfl, by simpa [ARel] using h1, this.1⟩, trivial, this.2⟩
  have one : ∀ y : AV, y.one = true → ARel w ok en y v → v.cells = #[v] := by
    intro y hy hr
    cases y with
    | f z =>
      simp only [ARel] at hr
      cases z <;> simp only [FRel, AV.one, FV.one] at hr hy
      · subst hr; cases v <;> simp_all [Value.cells, Value.oneCell']
      · subst hr; rfl
      · cases hy
      · cases hy
      · obtain ⟨b, o, rfl, _⟩ := hr; rfl
      · rcases hr with ⟨_, rfl | ⟨_, _, rfl⟩⟩ | ⟨b, o, c, rfl, _⟩ <;> rfl
      · obtain ⟨fs, cs, rfl, _⟩ := hr; rfl
      · cases hy
    | agg l => simp [AV.one] at hy
    | loc k o => simp only [ARel] at hr; obtain ⟨b, _, rfl⟩ := hr; rfl
    | el k sz i d => simp only [ARel] at hr; obtain ⟨b, _, rfl⟩ := hr; rfl
    | lvw k sz o n => simp only [ARel] at hr; obtain ⟨b, c, _, rfl, _⟩ := hr; rfl
    | lsl k => simp only [ARel] at hr; obtain ⟨_, A, n, c, rfl⟩ := hr; rfl
    | fn f a b => simp only [ARel] at hr; obtain ⟨fs, cs, rfl, _⟩ := hr; rfl
    | nul => simp [AV.one] at hy
  unfold cellsAV at h
  split at h
  · rename_i l
    simp only [Option.some.injEq] at h
    subst h
    simp only [ARel, AV.bd] at hr hb
    obtain ⟨us, rfl, hr⟩ := hr
    exact ⟨by simpa [Value.cells] using hr, hb⟩
  · rename_i l
    simp only [Option.some.injEq] at h
    subst h
    simp only [ARel, FRel] at hr
    obtain ⟨us, rfl, hr⟩ := hr
    simpa [Value.cells] using fl l us hr
  · split at h
    · rename_i hone
      simp only [Option.some.injEq] at h
      subst h
      rw [one _ hone hr]
      refine ⟨?_, ?_⟩
      · simp only [ARelL]; exact ⟨v, [], rfl, hr, rfl⟩
      · simp only [bdL]; exact ⟨hb, trivial⟩
    · cases h
theorem putAt_rel {ok : Nat → Prop} : ∀ (cs : List AV) (d : Nat) (xs r : List AV) (vs us : List Value), putAt cs d xs = some r → ARelL w ok en cs vs → ARelL w ok en xs us →
    d + us.length ≤ vs.length ∧ ARelL w ok en r (vs.take d ++ us ++ vs.drop (d + us.length))
  | cs, 0, [], r, vs, us, h, h1, h2 => by
    simp only [putAt, Option.some.injEq] at h
    subst h
    simp only [ARelL] at h2
    subst h2
    simpa using h1
  | c :: cs, 0, x :: xs, r, vs, us, h, h1, h2 => by
    simp only [putAt] at h
    split at h
    · rename_i r' hr
      simp only [Option.some.injEq] at h
      subst h
      simp only [ARelL] at h1 h2
      obtain ⟨v, vs', rfl, h3, h4⟩ := h1
      obtain ⟨u, us', rfl, h5, h6⟩ := h2
      obtain ⟨h7, h8⟩ := putAt_rel cs 0 xs r' vs' us' hr h4 h6
      refine ⟨by simp at h7 ⊢; omega, ?_⟩
      simp only [List.take_zero, List.nil_append, List.cons_append, ARelL]
      refine ⟨u, us' ++ vs'.drop us'.length, ?_, h5, by simpa using h8⟩
      simp
    · cases h
  | c :: cs, d + 1, xs, r, vs, us, h, h1, h2 => by
    simp only [putAt] at h
    split at h
    · rename_i r' hr
      simp only [Option.some.injEq] at h
      subst h
      simp only [ARelL] at h1
      obtain ⟨v, vs', rfl, h3, h4⟩ := h1
      obtain ⟨h7, h8⟩ := putAt_rel cs d xs r' vs' us hr h4 h2
      refine ⟨by simp; omega, ?_⟩
      simp only [List.take_succ_cons, List.cons_append, ARelL]
      refine ⟨v, vs'.take d ++ us ++ vs'.drop (d + us.length), ?_, h3, h8⟩
      rw [show d + 1 + us.length = (d + us.length) + 1 from by omega]
      simp
    · cases h
  | [], d + 1, xs, r, vs, us, h, h1, h2 => by simp [putAt] at h
  | [], 0, x :: xs, r, vs, us, h, h1, h2 => by simp [putAt] at h
theorem putAt_bd {n : Nat} : ∀ (cs : List AV) (d : Nat) (xs r : List AV), putAt cs d xs = some r → bdL n cs → bdL n xs → bdL n r
  | cs, 0, [], r, h, h1, h2 => by simp only [putAt, Option.some.injEq] at h; subst h; exact h1
  | c :: cs, 0, x :: xs, r, h, h1, h2 => by
    simp only [putAt] at h
    split at h
    · rename_i r' hr
      simp only [Option.some.injEq] at h
      subst h
      simp only [bdL] at h1 h2 ⊢
      exact ⟨h2.1, putAt_bd cs 0 xs r' hr h1.2 h2.2⟩
    · cases h
  | c :: cs, d + 1, xs, r, h, h1, h2 => by
    simp only [putAt] at h
    split at h
    · rename_i r' hr
      simp only [Option.some.injEq] at h
      subst h
      simp only [bdL] at h1 ⊢
      exact ⟨h1.1, putAt_bd cs d xs r' hr h1.2 h2⟩
    · cases h
  | [], d + 1, xs, r, h, h1, h2 => by simp [putAt] at h
  | [], 0, x :: xs, r, h, h1, h2 => by simp [putAt] at h
theorem foldl_put : ∀ (us : List Value) (cells : Array Value) (off j0 : Nat), off + j0 + us.length ≤ cells.size →
    ((us.zipIdx j0).foldl (fun cs (p : Value × Nat) => cs.setIfInBounds (off + p.2) p.1) cells).toList = cells.toList.take (off + j0) ++ us ++ cells.toList.drop (off + j0 + us.length)
  | [], cells, off, j0, h => by simp
  | u :: us, cells, off, j0, h => by
    simp only [List.zipIdx_cons, List.foldl_cons]
    simp only [List.length_cons] at h
    rw [foldl_put us _ off (j0 + 1) (by simp; omega)]
    simp only [Array.toList_setIfInBounds]
    have hlt : off + j0 < cells.toList.length := by simp; omega
    rw [show off + (j0 + 1) = (off + j0) + 1 from by omega, List.take_succ_eq_append_getElem (by simpa using hlt)]
    simp only [List.getElem_set_self, List.take_set, List.drop_set]
    rw [List.set_eq_of_length_le (by simp; omega), if_pos (by omega)]
    simp [Nat.add_assoc, Nat.add_comm 1]
theorem zeroP_run {t : TypeId} {z : List FV} {ok : Nat → Prop} (h : zeroP P t = some z) :
    ∃ zv, (zeroValue t).run P w = .ok zv w ∧ (ARelL w ok en (z.map .f) zv.cells.toList ∧ ∀ nx, bdL nx (z.map .f)) := by
  unfold zeroP at h
  split at h
  · rename_i i hi
    split at h
    · rename_i zv hz
      simp only [Option.some.injEq] at h
      subst h
      refine ⟨zv, by simp [zeroValue, typeInfo, hi, hz, Result.andThen], ?_, ?_⟩
      · generalize zv.cells.toList = l
        induction l with
        | nil => simp [ARelL]
        | cons v l ih => simp only [List.map_cons, ARelL]; exact ⟨v, l, rfl, by simp only [ARel]; exact fV1_rel _ _ v, ih⟩
      · intro nx
        generalize zv.cells.toList = l
        induction l with
        | nil => simp [bdL]
        | cons v l ih => simp only [List.map_cons, bdL, AV.bd]; exact ⟨trivial, ih⟩
    · cases h
  · cases h
theorem fill_rel {ok : Nat → Prop} {nx : Nat} (pl : Nat → Option (Nat × Nat)) : ∀ (ps : List (Nat × Operand)) (cs r : List AV) (cells : Array Value),
    (∀ x ∈ ps.map (·.2), ARel w ok en (st.opnd x) (ρ x) ∧ (st.opnd x).bd nx) → fillP pl st ps cs = some r → ARelL w ok en cs cells.toList → (∀ nx, bdL nx cs) ∨ bdL nx cs →
    ∃ cells', Instr.fill pl cells (ps.map fun q => (q.1, ρ q.2)) = some cells' ∧ ARelL w ok en r cells'.toList ∧ bdL nx r
  | [], cs, r, cells, ho, h, hc, hb => by
    simp only [fillP, Option.some.injEq] at h
    subst h
    exact ⟨cells, rfl, hc, hb.elim (fun h => h nx) id⟩
  | (f, x) :: ps, cs, r, cells, ho, h, hc, hb => by
    simp only [fillP] at h
    split at h
    · rename_i d n xs hf hxs
      split at h
      · rename_i hlen
        split at h
        · rename_i cs' hput
          have hx := ho x (by simp)
          obtain ⟨h1, h2⟩ := cellsAV_rel hxs hx.1 hx.2
          obtain ⟨h3, h4⟩ := putAt_rel cs d xs cs' _ _ hput hc h1
          have hsz : (ρ x).cells.size = n := by rw [← hlen, ← ARelL.length _ _ h1]; simp
          have hfold := foldl_put (ρ x).cells.toList cells d 0 (by simpa using h3)
          simp only [Nat.add_zero] at hfold
          obtain ⟨cells', h5, h6, h7⟩ := fill_rel pl ps cs' r ((ρ x).cells.zipIdx.foldl (fun cs (c, j) => cs.setIfInBounds (d + j) c) cells) (fun y hy => ho y (by simp only [List.map_cons, List.mem_cons]; exact .inr hy)) h
            (by rw [← Array.foldl_toList, Array.toList_zipIdx]; rw [hfold]; exact h4) (.inr (putAt_bd cs d xs cs' hput (hb.elim (fun h => h nx) id) h2))
          refine ⟨cells', ?_, h6, h7⟩
          simp only [List.map_cons, Instr.fill]
          rw [hf]
          simp only []
          rw [if_neg (by
            have h3' : d + n ≤ cells.size := by rw [← hsz]; simpa using h3
            simp [hsz, h3'])]
          exact h5
        · cases h
      · cases h
    · cases h
theorem pval_sound {o : Oper} {hs hs' : List Hint} {p : Option Prop} {r : AV} (hm : Mem G X ok0 w0 st.ob st.nx w en)
    (ho : OpsRel w (okS ok0 w0 w st.ob en) en st.nx st ρ o.op.operands.toList) (h : pvalR P G st o hs = some (p, r, hs')) (hp : hold p) :
    r.bd st.nx ∧ OpY P o ρ w (fun v w' => Ext G w w' ∧ ARel w' (okS ok0 w0 w' st.ob en) en r v) := by
  have val : ∀ (v : Value), (execOp ρ o).run P w = .ok (.value v) w → ARel w (okS ok0 w0 w st.ob en) en r v → OpY P o ρ w (fun v w' => Ext G w w' ∧ ARel w' (okS ok0 w0 w' st.ob en) en r v) :=
    fun v h1 h2 => OpY.of_value h1 ⟨Ext.refl w, h2⟩
  have sca : okV hs (scalarP P st o) = some (p, r, hs') → r.bd st.nx ∧ OpY P o ρ w (fun v w' => Ext G w w' ∧ ARel w' (okS ok0 w0 w' st.ob en) en r v) :=
    fun h => scalar_sound (okV_some h).1 ho
  unfold pvalR at h
  cases hop : o.op with
  | move x =>
    simp only [hop, Option.some.injEq, Prod.mk.injEq] at h
    obtain ⟨rfl, rfl, rfl⟩ := h
    have hx := ho x (by simp [hop, Op.operands])
    exact ⟨hx.2, val (ρ x) (by simp [execOp, hop]) hx.1⟩
  | assign x =>
    simp only [hop, Option.some.injEq, Prod.mk.injEq] at h
    obtain ⟨rfl, rfl, rfl⟩ := h
    have hx := ho x (by simp [hop, Op.operands])
    exact ⟨hx.2, val (ρ x) (by simp [execOp, hop]) hx.1⟩
  | pick c a b =>
    simp only [hop] at h
    split at h
    · rename_i d hc
      simp only [Option.some.injEq, Prod.mk.injEq] at h
      obtain ⟨rfl, rfl, rfl⟩ := h
      have h1 := ho c (by simp [hop, Op.operands])
      have h2 := ho a (by simp [hop, Op.operands])
      have h3 := ho b (by simp [hop, Op.operands])
      rw [hc] at h1
      have e : ρ c = .bool d := by simpa [ARel, FRel] using h1.1
      refine ⟨by cases d <;> simp [h2.2, h3.2], val (if d then ρ a else ρ b) ?_ ?_⟩
      · simp [execOp, hop, e, asBool, Result.andThen]
      · cases d <;> simp [h2.1, h3.1]
    · cases h
  | load t x =>
    simp only [hop] at h
    have hx := ho x (by simp [hop, Op.operands])
    split at h
    · rename_i k sz i d hxe
      split at h
      · rename_i sz' e es cs hs2 hk
        split at h
        · rename_i hsz
          split at h
          · rename_i y hy
            simp only [Option.some.injEq, Prod.mk.injEq] at h
            obtain ⟨rfl, rfl, rfl⟩ := h
            simp only [beq_iff_eq] at hsz
            subst hsz
            rw [hxe] at hx
            simp only [ARel] at hx
            obtain ⟨⟨b, hb, e1⟩, _⟩ := hx
            obtain ⟨_, _, _, xs, h1, h2, h3, h4⟩ := hm.obs k _ hk
            have hC := row_elem h1 (opt_inj (h2.symm.trans hb)) h4 h3 hp
            obtain ⟨v, hr, hv⟩ := loadF_sound hy hC
            exact ⟨by simp [AV.bd], val v (by simp [execOp, hop, e1, hr, Result.andThen]) (by simpa [ARel] using hv)⟩
          · cases h
        · cases h
      · cases h
    · have hl := (okV_some h).1
      obtain ⟨v, h1, h2, h3⟩ := loadP_sound hm hl hx.1
      exact ⟨h3, val v (by simp [execOp, hop, h1, Result.andThen]) h2⟩
  | nilCheck x =>
    simp only [hop] at h
    have hx := ho x (by simp [hop, Op.operands])
    split at h
    · rename_i cs hs2
      split at h
      · rename_i y hxe
        simp only [Option.some.injEq, Prod.mk.injEq] at h
        obtain ⟨rfl, rfl, rfl⟩ := h
        have hy : y = .ptr cs 0 := hp
        rw [hxe, hy] at hx
        refine ⟨by simp [AV.bd], val (ρ x) ?_ hx.1⟩
        simp only [ARel, FRel] at hx
        obtain ⟨⟨b, o2, e, _, _⟩, _⟩ := hx
        simp [execOp, hop, e]
      · cases h
    · split at h
      · rename_i cs o' hxe
        simp only [Option.some.injEq, Prod.mk.injEq] at h
        obtain ⟨rfl, rfl, rfl⟩ := h
        rw [hxe] at hx
        refine ⟨hx.2, val (ρ x) ?_ hx.1⟩
        simp only [ARel, FRel] at hx
        obtain ⟨⟨b, o2, e, _, _⟩, _⟩ := hx
        simp [execOp, hop, e]
      · rename_i k o' hxe
        simp only [Option.some.injEq, Prod.mk.injEq] at h
        obtain ⟨rfl, rfl, rfl⟩ := h
        rw [hxe] at hx
        refine ⟨hx.2, val (ρ x) ?_ hx.1⟩
        simp only [ARel] at hx
        obtain ⟨⟨b, _, e⟩, _⟩ := hx
        simp [execOp, hop, e]
      · cases h
  | fieldAddr t x f =>
    simp only [hop] at h
    have hx := ho x (by simp [hop, Op.operands])
    split at h
    · rename_i cs o' d hxe hd
      simp only [Option.some.injEq, Prod.mk.injEq] at h
      obtain ⟨rfl, rfl, rfl⟩ := h
      rw [hxe] at hx
      simp only [ARel, FRel] at hx
      obtain ⟨⟨b, o2, e, h1, h2⟩, _⟩ := hx
      refine ⟨by simp [AV.bd], val _ (by simp only [execOp, hop, e, Sem.run_bind, run_fieldAt b (o2 + o') hd, Result.andThen]; rfl) ?_⟩
      simp only [ARel, FRel]
      exact ⟨b, o2, by rw [Nat.add_assoc], h1, h2⟩
    · rename_i k o' d hxe hd
      simp only [Option.some.injEq, Prod.mk.injEq] at h
      obtain ⟨rfl, rfl, rfl⟩ := h
      rw [hxe] at hx
      simp only [ARel] at hx
      obtain ⟨⟨b, hb, e⟩, hx2⟩ := hx
      refine ⟨by simpa [AV.bd] using hx2, val _ (by simp only [execOp, hop, e, Sem.run_bind, run_fieldAt _ _ hd, Result.andThen]; rfl) ?_⟩
      simp only [ARel]
      exact ⟨b, hb, rfl⟩
    · cases h
  | indexAddr t x i =>
    simp only [hop] at h
    have hx := ho x (by simp [hop, Op.operands])
    have hi := ho i (by simp [hop, Op.operands])
    split at h
    · rename_i sz es k n e cs hs2 hxe hie he
      split at h
      · rename_i z hz
        simp only [Option.some.injEq, Prod.mk.injEq] at h
        obtain ⟨rfl, rfl, rfl⟩ := h
        rw [hxe] at hx
        rw [hie] at hi
        simp only [ARel, FRel] at hx hi
        obtain ⟨h2, _⟩ := hx
        obtain ⟨rfl, h0, hcs⟩ := hp
        have hlt : n.toNat < es.length := (List.getElem?_eq_some_iff.1 hcs).1
        rcases h2 with h2 | ⟨b, o2, c, e1, h1, hb, hE⟩
        · rw [h2.1] at hlt; simp at hlt
        · have hn : n < (es.length : Int) := by omega
          have hrun := run_indexAt (P := P) b o2 es.length c k n he hz h0 hn w
          refine ⟨by simp [AV.bd], val (.pointer (some ⟨b, o2 + n.toNat * z, none⟩)) (by simp only [execOp, hop, e1, hi.1, Sem.run_bind, hrun, Result.andThen]; rfl) ?_⟩
          simp only [ARel, FRel]
          exact ⟨b, o2 + n.toNat * z, by simp, hb, FRelE.get es b o2 _ cs hE hcs⟩
      · cases h
    · rename_i k ik n e hxe hie he
      split at h
      · rename_i z sz e' es hz hk
        split at h
        · rename_i hsz
          simp only [Option.some.injEq, Prod.mk.injEq] at h
          obtain ⟨rfl, rfl, rfl⟩ := h
          obtain ⟨h0, hlt⟩ := hp
          rw [hxe] at hx
          rw [hie] at hi
          simp only [ARel, FRel, AV.bd] at hx hi
          obtain ⟨⟨e1, _⟩, hbd⟩ := hx
          obtain ⟨_, _, _, xs, h1, h2, h3, h4⟩ := hm.obs k _ hk
          rcases h1.2 with ⟨_, hn⟩ | ⟨g, cap, cur, hv, _⟩
          · rw [hn] at hlt; omega
          · have hrun := run_indexAt_own (P := P) (some ⟨g, 0, none⟩) g es.length cap ik n he hz h0 hlt rfl w
            rw [hv] at e1
            refine ⟨by simpa [AV.bd] using hbd, val (.pointer (some ⟨g, n.toNat * z, none⟩)) (by simp only [execOp, hop, e1, hi.1, Sem.run_bind, hrun, Result.andThen]; rfl) ?_⟩
            simp only [ARel]
            exact ⟨g, by rw [h2, hv]; rfl, by simp⟩
        · cases h
      · cases h
    · rename_i k sz o2 m ik n e hxe hie he
      split at h
      · rename_i z hz
        split at h
        · rename_i hsz
          simp only [beq_iff_eq] at hsz
          subst hsz
          simp only [Option.some.injEq, Prod.mk.injEq] at h
          obtain ⟨rfl, rfl, rfl⟩ := h
          obtain ⟨h0, hlt⟩ := hp
          rw [hxe] at hx
          rw [hie] at hi
          simp only [ARel, FRel, AV.bd] at hx hi
          obtain ⟨⟨b, c, hb, e1, hc⟩, hbd⟩ := hx
          have hrun := run_indexAt (P := P) b (o2 * z) m c ik n he hz h0 (by omega) w
          refine ⟨by simpa [AV.bd] using hbd, val (.pointer (some ⟨b, o2 * z + n.toNat * z, none⟩)) (by simp only [execOp, hop, e1, hi.1, Sem.run_bind, hrun, Result.andThen]; rfl) ?_⟩
          simp only [ARel]
          exact ⟨b, hb, by simp [Nat.add_mul]⟩
        · cases h
      · cases h
    · cases h
  | index t x i =>
    simp only [hop] at h
    have hx := ho x (by simp [hop, Op.operands])
    have hi := ho i (by simp [hop, Op.operands])
    split at h
    · rename_i s k n hxe hie ht
      simp only [Option.some.injEq, Prod.mk.injEq] at h
      obtain ⟨rfl, rfl, rfl⟩ := h
      obtain ⟨h0, hlt⟩ := hp
      rw [hxe] at hx
      rw [hie] at hi
      simp only [ARel, FRel] at hx hi
      have hu : P.underlying t = some .string := by
        unfold strTy at ht
        split at ht
        · assumption
        · cases ht
      have hg : s[n.toNat]? = some (s[n.toNat]'hlt) := getElem?_pos s n.toNat hlt
      have hval : strAt s n.toNat = (s[n.toNat]'hlt).toNat := by
        unfold strAt
        congr 1
        have hlt' : n.toNat < s.data.toList.length := by simpa using hlt
        rw [List.getD_eq_getElem?_getD, List.getElem?_eq_getElem hlt']
        simp
        rfl
      refine ⟨by simp [AV.bd], val (.int .u8 (strAt s n.toNat)) ?_ (by simp [ARel, FRel])⟩
      simp [execOp, hop, hx.1, hi.1, Instr.index, asIntOf, run_underlying hu, Result.andThen, h0, hg, hval]
    · cases h
  | slice t x lo hi mx =>
    cases mx with
    | some m => simp only [hop] at h; exact sca h
    | none =>
    simp only [hop] at h
    have hx := ho x (by simp [hop, Op.operands])
    have hlo' : ∀ y, lo = some y → ARel w (okS ok0 w0 w st.ob en) en (st.opnd y) (ρ y) := fun y hy => (ho y (by subst hy; cases hi <;> simp [hop, Op.operands])).1
    have hhi' : ∀ y, hi = some y → ARel w (okS ok0 w0 w st.ob en) en (st.opnd y) (ρ y) := fun y hy => (ho y (by subst hy; cases lo <;> simp [hop, Op.operands])).1
    have lows : ∀ l : Int, boundP st (some 0) lo = some (some l) → (lo.map ρ = none ∧ l = 0) ∨ ∃ k, lo.map ρ = some (.int k l) := by
      intro l hl
      rcases run_boundP hl hlo' with ⟨rfl, e⟩ | ⟨y, k, n, rfl, e, ey⟩
      · left; simp only [Option.some.injEq] at e; exact ⟨rfl, e⟩
      · right; simp only [Option.some.injEq] at e; subst e; exact ⟨k, by simp [ey]⟩
    have highs : ∀ (h : Option Int) (m : Nat), boundP st none hi = some h → (hi.map ρ = none ∧ h.getD m = (m : Int)) ∨ ∃ k, hi.map ρ = some (.int k (h.getD m)) := by
      intro h m hh
      rcases run_boundP hh hhi' with ⟨rfl, e⟩ | ⟨y, k, n, rfl, e, ey⟩
      · left; subst e; exact ⟨rfl, rfl⟩
      · right; subst e; exact ⟨k, by simp [ey]⟩
    split at h
    · rename_i sz es hxe
      split at h
      · rename_i e l hh he hl hhe
        split at h
        · rename_i z hz
          simp only [Option.some.injEq, Prod.mk.injEq] at h
          obtain ⟨rfl, rfl, rfl⟩ := h
          obtain ⟨rfl, h0, h1, h2⟩ := hp
          rw [hxe] at hx
          simp only [ARel, FRel] at hx
          have hu : P.underlying t = some (.slice e) := by
            unfold elemP at he
            split at he
            · simp only [Option.some.injEq] at he; subst he; assumption
            · cases he
          have hlen : ((es.take (hh.getD es.length).toNat).drop l.toNat).length = (hh.getD es.length).toNat - l.toNat := by
            rw [List.length_drop, List.length_take]; omega
          rcases hx.1 with ⟨e0, ev | ⟨ad, cp, ev⟩⟩ | ⟨b, o2, c, ev, hc, hb, hE⟩
          · subst e0
            simp only [List.length_nil, Int.natCast_zero] at h1 h2 hhe ⊢
            have hb := run_sliceBounds (b := true) (len := 0) (cap := 0) (lows l hl) (highs hh 0 hhe) h0 (by simpa using h1) (by simpa using h2) (Nat.le_refl 0) (P := P) w
            refine ⟨by simp [AV.bd], val (.slice none 0 0) ?_ ?_⟩
            · have hr := run_sliceAt_nil hu hz w hb (by omega) (by simp at h1 h2 ⊢; omega)
              simp only [execOp, hop, ev, Option.map_none, Sem.run_bind, hr, Result.andThen]
              rfl
            · simp [ARel, FRel]
          · subst e0
            simp only [List.length_nil, Int.natCast_zero] at h1 h2 hhe ⊢
            have hb := run_sliceBounds (b := true) (len := 0) (cap := cp) (lows l hl) (highs hh 0 hhe) h0 (by simpa using h1) (by simpa using h2) (Nat.zero_le _) (P := P) w
            refine ⟨by simp [AV.bd], val (.slice (some ad) 0 cp) ?_ ?_⟩
            · have hr := run_sliceAt_empty (ad := ad) hu hz w hb (by omega) (by simp at h1 h2 ⊢; omega)
              simp only [execOp, hop, ev, Option.map_none, Sem.run_bind, hr, Result.andThen]
              rfl
            · simp [ARel, FRel]
          · have hbd := run_sliceBounds (b := true) (len := es.length) (cap := c) (lows l hl) (highs hh es.length hhe) h0 h1 h2 hc (P := P) w
            refine ⟨by simp [AV.bd], val (.slice (some (if c = l.toNat then ⟨b, o2, none⟩ else ⟨b, o2 + l.toNat * z, none⟩)) ((hh.getD es.length).toNat - l.toNat) (c - l.toNat)) ?_ ?_⟩
            · have hr := run_sliceAt_some (b := b) (o := o2) hu hz w hbd
              simp only [execOp, hop, ev, Option.map_none, Sem.run_bind, hr, Result.andThen]
              rfl
            · simp only [ARel, FRel]
              right
              by_cases hcl : c = l.toNat
              · refine ⟨b, o2, c - l.toNat, by simp [hcl, hlen], by rw [hlen]; omega, hb, ?_⟩
                have : (es.take (hh.getD es.length).toNat).drop l.toNat = [] := List.eq_nil_of_length_eq_zero (by rw [hlen]; omega)
                rw [this]; simp [FRelE]
              · exact ⟨b, o2 + l.toNat * z, c - l.toNat, by simp [hcl, hlen], by rw [hlen]; omega, hb, FRelE.drop _ _ _ _ (FRelE.take _ _ _ _ hE)⟩
        · cases h
      · cases h
    · rename_i s hxe
      split at h
      · rename_i l hh ht hl hhe
        simp only [Option.some.injEq, Prod.mk.injEq] at h
        obtain ⟨rfl, rfl, rfl⟩ := h
        obtain ⟨h0, h1, h2⟩ := hp
        rw [hxe] at hx
        simp only [ARel, FRel] at hx
        have hu : P.underlying t = some .string := by
          unfold strTy at ht
          split at ht
          · assumption
          · cases ht
        have hbd := run_sliceBounds (b := false) (len := s.size) (cap := s.size) (lows l hl) (highs hh s.size hhe) h0 h1 h2 (Nat.le_refl _) (P := P) w
        refine ⟨by simp [AV.bd], val (.string (s.extract l.toNat (hh.getD s.size).toNat)) ?_ (by simp [ARel, FRel])⟩
        have hr := run_sliceAt_str hu w hbd
        simp only [execOp, hop, hx.1, Option.map_none, Sem.run_bind, hr, Result.andThen]
        rfl
      · cases h
    · rename_i k hxe
      split at h
      · rename_i hs2 hhi
        split at h
        · rename_i sz e2 es e l hk he hl
          split at h
          · rename_i z hz
            split at h
            · rename_i hsz
              simp only [beq_iff_eq] at hsz
              subst hsz
              simp only [Option.some.injEq, Prod.mk.injEq] at h
              obtain ⟨rfl, rfl, rfl⟩ := h
              obtain ⟨h0, hlt⟩ := hp
              rw [hxe] at hx
              simp only [ARel, AV.bd] at hx
              obtain ⟨⟨e1, _⟩, hbd⟩ := hx
              obtain ⟨_, _, _, xs, h1, h2, h3, h4⟩ := hm.obs k _ hk
              have hu : P.underlying t = some (.slice e) := by
                unfold elemP at he
                split at he
                · simp only [Option.some.injEq] at he; subst he; assumption
                · cases he
              rcases h1.2 with ⟨_, hn⟩ | ⟨g, cap, cur, hv, _, _, hnc, _⟩
              · omega
              · have hbd2 := run_sliceBounds (P := P) (b := true) (len := es.length) (cap := cap) (lows l hl) (.inl ⟨rfl, rfl⟩ : (Option.map ρ none = none ∧ ((es.length : Nat) : Int) = es.length) ∨ ∃ k, Option.map ρ none = some (.int k ((es.length : Nat) : Int))) h0 (by omega) (Int.le_refl _) hnc w
                have hr := run_sliceAt_some (b := g) (o := 0) hu hz w hbd2
                rw [hv] at e1
                refine ⟨by simpa [AV.bd] using hbd, val (.slice (some ⟨g, l.toNat * z, none⟩) (es.length - l.toNat) (cap - l.toNat)) ?_ ?_⟩
                · rw [if_neg (by omega)] at hr
                  simp only [Option.map_none, Nat.zero_add, Int.toNat_natCast] at hr
                  simp only [execOp, hop, e1, Option.map_none, Sem.run_bind, hr, Result.andThen]
                  rfl
                · simp only [ARel]
                  exact ⟨g, _, by rw [h2, hv]; rfl, rfl, by omega⟩
            · cases h
          · cases h
        · cases h
      · cases h
    · cases h
  | extract x i =>
    simp only [hop] at h
    have hx := ho x (by simp [hop, Op.operands])
    split at h
    · rename_i l hxe
      split at h
      · rename_i y hy
        simp only [Option.some.injEq, Prod.mk.injEq] at h
        obtain ⟨rfl, rfl, rfl⟩ := h
        rw [hxe] at hx
        simp only [ARel, FRel] at hx
        obtain ⟨⟨cs, e, h1⟩, _⟩ := hx
        obtain ⟨v, hv, hr⟩ := FRelL.get _ _ i y h1 hy
        refine ⟨by simp [AV.bd], val v ?_ (by simpa [ARel] using hr)⟩
        simp [execOp, hop, e, Instr.extract, hv, Result.andThen]
      · cases h
    · cases h
  | build t ps =>
    simp only [hop] at h
    split at h
    · rename_i fs z hu hz
      split at h
      · rename_i pl hpl
        have key : ∀ cs, fillP (fun f => pl[f]?) st ps.toList (z.map .f) = some cs → (AV.agg cs).bd st.nx ∧ OpY P o ρ w (fun v w' => Ext G w w' ∧ ARel w' (okS ok0 w0 w' st.ob en) en (.agg cs) v) := by
          intro cs hcs
          have val : ∀ (v : Value), (execOp ρ o).run P w = .ok (.value v) w → ARel w (okS ok0 w0 w st.ob en) en (.agg cs) v → OpY P o ρ w (fun v w' => Ext G w w' ∧ ARel w' (okS ok0 w0 w' st.ob en) en (.agg cs) v) :=
            fun v h1 h2 => OpY.of_value h1 ⟨Ext.refl w, h2⟩
          obtain ⟨zv, hzrun, hzrel⟩ := zeroP_run (w := w) (ok := okS ok0 w0 w st.ob en) (en := en) hz
          obtain ⟨cells, h1, h2, h3⟩ := fill_rel (nx := st.nx) (fun f => pl[f]?) ps.toList (z.map .f) cs zv.cells (fun x hx => ho x (by
            obtain ⟨q, hq, rfl⟩ := List.mem_map.1 hx
            simp only [hop, Op.operands]
            exact List.mem_map.2 ⟨q, hq, rfl⟩)) hcs hzrel.1 (.inl hzrel.2)
          refine ⟨by simpa [AV.bd] using h3, val (.agg cells) ?_ (by simp only [ARel]; exact ⟨cells.toList, by simp, h2⟩)⟩
          have hmap : (fs.mapM (fun f => do pure (f.offset, ← sizeOf f.type) : Field → Sem (Nat × Nat))).run P w = .ok pl.toArray w := by
            rw [← Array.toArray_toList (xs := fs), List.mapM_toArray]
            have := placesL_run fs.toList pl hpl w
            simp only [map_eq_pure_bind, Sem.run_bind, this, Result.andThen]
            rfl
          have hb : (Instr.build t (ps.map fun (i, x) => (i, ρ x))).run P w = .ok (.agg cells) w := by
            simp only [Instr.build, Sem.run_bind, hzrun, run_underlying hu, hmap, Result.andThen]
            have e : (ps.map fun (i, x) => (i, ρ x)).toList = ps.toList.map fun q => (q.1, ρ q.2) := by simp
            have epl : (fun i => pl.toArray[i]? : Nat → Option (Nat × Nat)) = fun f => pl[f]? := by funext f; simp
            rw [e, epl, h1]
            rfl
          simp only [execOp, hop, Sem.run_bind, hb, Result.andThen]
          rfl
        split at h
        · split at h
          · rename_i q cs hq
            simp only [Option.some.injEq, Prod.mk.injEq] at h
            obtain ⟨rfl, rfl, rfl⟩ := h
            exact key _ (fillQ_spec _ _ _ _ hq hp)
          · cases h
        · split at h
          · rename_i cs hcs
            simp only [Option.some.injEq, Prod.mk.injEq] at h
            obtain ⟨rfl, rfl, rfl⟩ := h
            exact key _ hcs
          · cases h
      · cases h
    · cases h
  | makeFunc fn a b =>
    simp only [hop] at h
    cases fn with
    | func f =>
      simp only [Option.some.injEq, Prod.mk.injEq] at h
      obtain ⟨rfl, rfl, rfl⟩ := h
      have h1 := opL_rel (en := en) (nx := st.nx) (w := w) (ok := okS ok0 w0 w st.ob en) (st := st) (ρ := ρ) a.toList (fun x hx => ho x (by simp only [hop, Op.operands, Array.toList_append, List.mem_append]; exact .inl hx))
      have h2 := opL_rel (en := en) (nx := st.nx) (w := w) (ok := okS ok0 w0 w st.ob en) (st := st) (ρ := ρ) b.toList (fun x hx => ho x (by simp only [hop, Op.operands, Array.toList_append, List.mem_append]; exact .inr hx))
      refine ⟨by simp only [AV.bd]; exact ⟨h1.2, h2.2⟩, val (.func (.func f) (a.map ρ) (b.map ρ)) (by simp [execOp, hop, Instr.makeFunc]) ?_⟩
      simp only [ARel]
      exact ⟨a.toList.map ρ, b.toList.map ρ, by congr 1 <;> (apply Array.ext'; simp), h1.1, h2.1⟩
    | _ => exact sca h
  | call c =>
    simp only [hop] at h
    have hargs : ∀ x ∈ c.args.toList, ARel w (okS ok0 w0 w st.ob en) en (st.opnd x) (ρ x) ∧ (st.opnd x).bd st.nx := fun x hx => ho x (by simp only [hop, Op.operands, Call.operands, Array.toList_append, List.mem_append]; exact .inr hx)
    split at h
    · rename_i f hc
      have hf := ho f (by simp only [hop, Op.operands, Call.operands, hc]; simp)
      exact callR_sound hop hc hm hf.1 (opL_rel _ hargs).1 h hp
    · rename_i hc
      split at h
      · rename_i x hxs
        split at h
        · rename_i v hl
          simp only [Option.some.injEq, Prod.mk.injEq] at h
          obtain ⟨rfl, rfl, rfl⟩ := h
          exact lenR_sound hop hc hxs hm (hargs x (by simp [hxs])).1 hl
        · exact sca h
      · cases h
    · exact sca h
  | binOp op t x y t' =>
    have hx := ho x (by simp [hop, Op.operands])
    have hy := ho y (by simp [hop, Op.operands])
    cases op
    case eql =>
      simp only [hop] at h
      split at h
      · rename_i q b hs2 hi
        simp only [Option.some.injEq, Prod.mk.injEq] at h
        obtain ⟨rfl, rfl, rfl⟩ := h
        have := (run_isn hi hp hx.1 hy.1 w x y).1
        exact ⟨by simp [AV.bd], val (.bool (b)) (by simp only [execOp, hop, Sem.run_bind] at this ⊢; rw [this]; rfl) (by simp [ARel, FRel])⟩
      · split at h
        · rename_i hn
          simp only [Option.some.injEq, Prod.mk.injEq] at h
          obtain ⟨rfl, rfl, rfl⟩ := h
          have := (run_nilEq hn hx.1 hy.1 w x y).1
          exact ⟨by simp [AV.bd], val (.bool false) (by simp only [execOp, hop, Sem.run_bind] at this ⊢; rw [this]; rfl) (by simp [ARel, FRel])⟩
        · exact sca h
    case neq =>
      simp only [hop] at h
      split at h
      · rename_i q b hs2 hi
        simp only [Option.some.injEq, Prod.mk.injEq] at h
        obtain ⟨rfl, rfl, rfl⟩ := h
        have := (run_isn hi hp hx.1 hy.1 w x y).2
        exact ⟨by simp [AV.bd], val (.bool (!b)) (by simp only [execOp, hop, Sem.run_bind] at this ⊢; rw [this]; rfl) (by simp [ARel, FRel])⟩
      · split at h
        · rename_i hn
          simp only [Option.some.injEq, Prod.mk.injEq] at h
          obtain ⟨rfl, rfl, rfl⟩ := h
          have := (run_nilEq hn hx.1 hy.1 w x y).2
          exact ⟨by simp [AV.bd], val (.bool true) (by simp only [execOp, hop, Sem.run_bind] at this ⊢; rw [this]; rfl) (by simp [ARel, FRel])⟩
        · exact sca h
    all_goals (simp only [hop] at h; exact sca h)
  | _ => simp only [hop] at h; exact sca h
end
end Go.Sx

/-
  Proved: what some functions of the program answer, or a law of the evaluator that shows it, one theorem each; its conditions are the hypotheses that stand ahead of it.
-/
import Derived.Test.YtdgodofdnaligaaDoorSxC
import Derived.RangeFuncIn
import Derived.RangeFuncCalls
import Derived.OrdersIn
set_option linter.unusedVariables false
set_option linter.unusedSimpArgs false
namespace Go.Sx
open Go.RowKit
/-- A frame of a function (none), or of a round of a range over a function. -/
def FW (l : Option Nat) : Fence := { Fence.wide with round := l }
theorem callsIn_FW {l : Option Nat} {n : Nat} {P : Program} {f : FuncId} {args : Array Value} {w : World} {R : Ending → World → Prop} : CallsIn (FW l) n P f args w R ↔ Calls P f args w R := callsIn_wide
/-- What one operation yields: a value at once, or behind a call that returns. -/
def OpY (P : Program) (o : Oper) (ρ : Operand → Value) (w : World) (R : Value → World → Prop) : Prop :=
  match (execOp ρ o).run P w with
  | .ok (.value v) w' => R v w'
  | .ok (.enter f args) w' => Calls P f args w' fun e w'' => ∃ v, e = .returned v ∧ R v w''
  | .ok (.round l f tmps assign body) w' => RoundIn Fence.wide 0 P l f tmps assign body w' fun e w'' => ∃ v, e = .returned v ∧ R v w''
  | _ => False
theorem OpY.of_value {P : Program} {o : Oper} {ρ : Operand → Value} {w w' : World} {R : Value → World → Prop} {v : Value}
    (h : (execOp ρ o).run P w = .ok (.value v) w') (hr : R v w') : OpY P o ρ w R := by
  unfold OpY; rw [h]; exact hr
/-- A defer statement yields no value and enters nothing. -/
theorem run_defer {P : Program} {o : Oper} {ρ : Operand → Value} {w : World} {c : Call} (h : o.op = .defer c) : (∃ d w', (execOp ρ o).run P w = .ok (.defer d) w') ∨ ∃ x w', (execOp ρ o).run P w = .halt x w' := by
  simp only [execOp, h, Sem.run_bind]
  cases (resolve ρ c o.type).run P w with
  | ok d w' => exact .inl ⟨d, w', rfl⟩
  | halt x w' => exact .inr ⟨x, w', rfl⟩
theorem sem_FW {P : Program} {o : Oper} {ρ : Operand → Value} {w : World} (l : Option Nat) (h : (∀ d w', (execOp ρ o).run P w ≠ .ok (.defer d) w') ∧ ∀ x w', (execOp ρ o).run P w ≠ .halt x w') :
    Oper.semAt (FW l).round ρ o = execOp ρ o := by
  refine Oper.semAt_eq _ _ _ fun c hc => ?_
  rcases run_defer (P := P) (ρ := ρ) (w := w) hc with ⟨d, w', e⟩ | ⟨x, w', e⟩
  · exact h.1 _ _ e
  · exact h.2 _ _ e
theorem OpY.wp {P : Program} {o : Oper} {a : Act} {w : World} {R : Value → World → Prop} {next : Act → World → Prop} {Q : Exit → Act → World → Prop} {lr : Option Nat}
    (h : OpY P o a.eval w R) (hn : ∀ v w', R v w' → next (a.put o.dst v) w') : o.wpIn (FW lr) 0 P a w next Q := by
  refine ⟨fun _ _ => trivial, ?_⟩
  unfold OpY at h
  split at h
  · rename_i v w' e
    rw [sem_FW (P := P) (w := w) lr ⟨by simp [e], by simp [e]⟩, e]; exact hn _ _ h
  · rename_i f args w' e
    rw [sem_FW (P := P) (w := w) lr ⟨by simp [e], by simp [e]⟩, e]
    refine ⟨fun h => absurd h (by simp [FW, Fence.wide]), callsIn_FW.2 (h.mono ?_)⟩
    rintro e' w'' ⟨v, rfl, hr⟩
    exact hn _ _ hr
  · rename_i l f tmps assign body w' e
    rw [sem_FW (P := P) (w := w) lr ⟨by simp [e], by simp [e]⟩, e]
    refine ⟨fun h => absurd h (by simp [FW, Fence.wide]), ?_⟩
    refine RoundIn.mono (F := FW lr) (n := 0) h ?_
    rintro e' w'' ⟨v, rfl, hr⟩
    exact hn _ _ hr
  · exact h.elim
/-- Operations in a row, as they are written. -/
def wpLF (lr : Option Nat) (P : Program) (ops : Array Oper) (E : Act → World → Prop) (Q : Exit → Act → World → Prop) : List Oper → Act → World → Prop
  | [], a, w => E a w
  | o :: rest, a, w => if Region.wanted o (yielded ops a.tmps) then o.wpIn (FW lr) 0 P a w (wpLF lr P ops E Q rest) Q else wpLF lr P ops E Q rest (a.put o.dst undef) w
theorem wpOpsIn_of_list {lr : Option Nat} {P : Program} {ops : Array Oper} {Q : Exit → Act → World → Prop} : ∀ (l : List Oper) (k : Nat), (∀ j, l[j]? = ops[k + j]?) → wpOpsIn (FW lr) 0 P ops Q (List.range' k l.length) = wpLF lr P ops (Q .normal) Q l
  | [], k, _ => by funext a w; simp [wpOpsIn, wpLF]
  | o :: l, k, h => by
    have h0 : ops[k]? = some o := by simpa using (h 0).symm
    have ih' := wpOpsIn_of_list (lr := lr) (P := P) (Q := Q) l (k + 1) (fun j => by have := h (j + 1); simpa [Nat.add_assoc, Nat.add_comm 1 j] using this)
    funext a w
    simp only [List.length_cons, List.range'_succ, wpOpsIn, h0, wpLF, ih']
    split
    · rfl
    · exact propext ⟨fun h => h.2, fun h => ⟨fun _ _ => trivial, h⟩⟩
theorem wp_region_F {lr : Option Nat} {P : Program} {ops : Array Oper} {Q : Exit → Act → World → Prop} {a : Act} {w : World} {id : Nat} (h : wpLF lr P ops (Q .normal) Q ops.toList a w) : (Code.region id ops false).wpIn (FW lr) 0 P Q a w :=
  wpIn_region (by rw [List.range_eq_range', ← Array.length_toList, wpOpsIn_of_list ops.toList 0 (by simp)]; exact h)
section
variable {P : Program} {G : Gr} {X : Nat → Prop} {ok0 : Nat → Prop} {w0 w : World} {tv : Nat → Value} {ob : List (Nat × Ob)} {nx : Nat} {en : Env}
/-- Operands as they stand. -/
def OpsRel (w : World) (ok : Nat → Prop) (en : Env) (nx : Nat) (st : St) (ρ : Operand → Value) (l : List Operand) : Prop :=
  ∀ x ∈ l, ARel w ok en (st.opnd x) (ρ x) ∧ (st.opnd x).bd nx
theorem scVals_rel {ok : Nat → Prop} : ∀ (l : List FV) (r : List Value), scVals l = some r → ∀ cs, FRelL w ok l cs → cs = r
  | [], r, h, cs, hcs => by
    simp only [scVals, Option.some.injEq] at h; subst h
    simpa [FRelL] using hcs
  | x :: l, r, h, cs, hcs => by
    cases x with
    | sc v =>
      simp only [scVals] at h
      split at h
      · rename_i r' hr
        simp only [Option.some.injEq] at h; subst h
        simp only [FRelL, FRel] at hcs
        obtain ⟨u, t, rfl, rfl, ht⟩ := hcs
        rw [scVals_rel l r' hr t ht]
      · cases h
    | _ => simp [scVals] at h
theorem scal_rel {ok : Nat → Prop} {x : AV} {v u : Value} (h : scal x = some v) (hr : ARel w ok en x u) : u = v := by
  unfold scal at h
  split at h
  · simp only [Option.some.injEq] at h; subst h; simpa [ARel, FRel] using hr
  · simp only [Option.some.injEq] at h; subst h; simpa [ARel, FRel] using hr
  · split at h
    · rename_i l _ r hl
      simp only [Option.some.injEq] at h; subst h
      simp only [ARel, FRel] at hr
      obtain ⟨cs, rfl, hcs⟩ := hr
      rw [scVals_rel l r hl cs hcs]
    · cases h
  · cases h
theorem scalAll_mem {st : St} : ∀ (l : List Operand), scalAll st l = true → ∀ x ∈ l, ∃ v, scal (st.opnd x) = some v
  | [], _, x, hx => by simp at hx
  | y :: l, h, x, hx => by
    simp only [scalAll] at h
    split at h
    · rename_i v hv
      rcases List.mem_cons.1 hx with rfl | hx
      · exact ⟨v, hv⟩
      · exact scalAll_mem l h x hx
    · cases h
theorem scalar_sound {st : St} {o : Oper} {ρ : Operand → Value} {r : AV} {ok : Nat → Prop} (h : scalarP P st o = some r) (ho : OpsRel w ok en nx st ρ o.op.operands.toList) :
    r.bd nx ∧ OpY P o ρ w (fun v w' => Ext G w w' ∧ ARel w' (okS ok0 w0 w' ob en) en r v) := by
  unfold scalarP at h
  split at h
  · cases h
  · rename_i hsel
    split at h
    · rename_i hall
      split at h
      · rename_i v hrun
        simp only [Option.some.injEq] at h
        subst h
        refine ⟨by simp [AV.bd], ?_⟩
        have hcong : execOp ρ o = execOp (fun x => (scal (st.opnd x)).getD undef) o := by
          refine execOp_congr o (fun cs b e => by rw [e] at hsel; simp [isSelect] at hsel) fun x hx => ?_
          obtain ⟨v', hv'⟩ := scalAll_mem _ hall x (by simpa using hx)
          rw [hv', scal_rel hv' (ho x (by simpa using hx)).1]; rfl
        have := pureRun_sound _ _ w hrun
        refine OpY.of_value (w' := w) (by rw [hcong]; exact this) ⟨Ext.refl w, ?_⟩
        simp only [ARel]
        exact fV_rel _ _ v
      · cases h
    · cases h
/-! ### Loads -/
theorem loadF_sound {ok : Nat → Prop} {t : TypeId} {cs : List FV} {off b o : Nat} {x : FV} (h : loadF P t cs off = some x) (hc : FRelC w ok cs b o) :
    ∃ v, (Instr.loadAt t (.pointer (some ⟨b, o + off, none⟩))).run P w = .ok v w ∧ FRel w ok x v := by
  unfold loadF at h
  split at h
  · rename_i n ha hs
    split at h
    · rename_i r hr
      simp only [Option.some.injEq] at h
      subst h
      obtain ⟨vs, hl, hv, hrel⟩ := hc.read hr
      exact ⟨_, run_loadAt_agg w b (o + off) t vs hv ha (by rw [hs, hl]), by simp only [FRel]; exact ⟨vs, rfl, hrel⟩⟩
    · cases h
  · rename_i ha
    split at h
    · rename_i y hr
      simp only [Option.some.injEq] at h
      subst h
      obtain ⟨vs, hl, hv, hrel⟩ := hc.read hr
      simp only [FRelL] at hrel
      obtain ⟨v, r, rfl, h1, h2⟩ := hrel
      exact ⟨v, run_loadAt_one w b (o + off) t v (by have := hv 0 v rfl; simpa using this) ha, h1⟩
    · cases h
  · cases h
theorem loadA_sound {ok : Nat → Prop} {t : TypeId} {cs : List AV} {off b : Nat} {x : AV} {vs : Array Value} {ty : TypeId} (h : loadA P t cs off = some x)
    (hb : w.heap[b]? = some (.cells vs ty (0, 0))) (hc : ARelL w ok en cs vs.toList) (hbd : bdL nx cs) :
    ∃ v, (Instr.loadAt t (.pointer (some ⟨b, off, none⟩))).run P w = .ok v w ∧ ARel w ok en x v ∧ x.bd nx := by
  have hcell : ∀ j, w.cell? ⟨b, j, none⟩ = vs[j]? := fun j => cell_of_row w b j vs ty (0, 0) hb
  have key : ∀ n r, readAt cs off n = some r → ∃ us : List Value, us.length = n ∧ w.rangeAt b off us ∧ ARelL w ok en r us ∧ bdL nx r := by
    intro n r hr
    obtain ⟨e, hl⟩ := takeN_some n _ r hr
    have h1 := ARelL.take _ _ n (ARelL.drop _ _ off hc)
    rw [← e] at h1
    have h2 := bdL.take _ n (bdL.drop _ off hbd)
    rw [← e] at h2
    have hlen : ((vs.toList.drop off).take n).length = n := by
      rw [ARelL.length _ _ h1, e, List.length_take]
      omega
    refine ⟨_, hlen, ?_, h1, h2⟩
    intro j v hv
    rw [hcell]
    have hj : j < n := by
      have := (List.getElem?_eq_some_iff.1 hv).1
      omega
    rw [List.getElem?_take_of_lt hj, List.getElem?_drop] at hv
    simpa using hv
  unfold loadA at h
  split at h
  · rename_i n ha hs
    split at h
    · rename_i r hr
      simp only [Option.some.injEq] at h
      subst h
      obtain ⟨us, hl, hv, hrel, hbr⟩ := key n r hr
      exact ⟨_, run_loadAt_agg w b off t us hv ha (by rw [hs, hl]), by simp only [ARel]; exact ⟨us, rfl, hrel⟩, by simpa [AV.bd] using hbr⟩
    · cases h
  · rename_i ha
    split at h
    · rename_i y hr
      simp only [Option.some.injEq] at h
      subst h
      obtain ⟨us, hl, hv, hrel, hbr⟩ := key 1 _ hr
      simp only [ARelL, bdL] at hrel hbr
      obtain ⟨v, r, rfl, h1, h2⟩ := hrel
      exact ⟨v, run_loadAt_one w b off t v (by have := hv 0 v rfl; simpa using this) ha, h1, hbr.1⟩
    · cases h
  · cases h
theorem loadP_sound {st : St} {t : TypeId} {x r : AV} {u : Value} (hm : Mem G X ok0 w0 st.ob st.nx w en) (h : loadP P st t x = some r) (hx : ARel w (okS ok0 w0 w st.ob en) en x u) :
    ∃ v, (Instr.loadAt t u).run P w = .ok v w ∧ ARel w (okS ok0 w0 w st.ob en) en r v ∧ r.bd st.nx := by
  unfold loadP at h
  split at h
  · rename_i cs off
    split at h
    · rename_i y hy
      simp only [Option.some.injEq] at h
      subst h
      simp only [ARel, FRel] at hx
      obtain ⟨b, o, rfl, hb, hc⟩ := hx
      obtain ⟨v, h1, h2⟩ := loadF_sound hy hc
      exact ⟨v, h1, by simpa [ARel] using h2, by simp [AV.bd]⟩
    · cases h
  · rename_i k off
    split at h
    · rename_i cs hk
      simp only [ARel] at hx
      obtain ⟨b, hb, rfl⟩ := hx
      obtain ⟨h1, h2, h3, b', cells, ty, h0, h4, h5⟩ := hm.obs k _ hk
      rw [hb] at h0
      cases opt_inj h0
      exact loadA_sound h h4 h5 h3
    · cases h
  · cases h
end
end Go.Sx

/-
  Proved: what some functions of the program answer, or a law of the evaluator that shows it, one theorem each; its conditions are the hypotheses that stand ahead of it.
-/
import Derived.Test.YtdgodofdnaligaaDoorSxE
set_option linter.unusedVariables false
set_option linter.unusedSimpArgs false
namespace Go.Sx
open Go.RowKit
def hold : Option Prop → Prop
  | none => True
  | some q => q
theorem andO_iff {p : Option Prop} {q : Prop} : andO p q ↔ hold p ∧ q := by cases p <;> simp [andO, hold]
theorem FRelL.append {w : World} {ok : Nat → Prop} : ∀ (l m : List FV) (u v : List Value), FRelL w ok l u → FRelL w ok m v → FRelL w ok (l ++ m) (u ++ v)
  | [], m, u, v, h, k => by simp only [FRelL] at h; simpa [h] using k
  | x :: l, m, u, v, h, k => by
    simp only [FRelL] at h
    obtain ⟨a, r, rfl, h1, h2⟩ := h
    simp only [List.cons_append, FRelL]
    exact ⟨a, r ++ v, rfl, h1, FRelL.append l m r v h2 k⟩
theorem FRelL.get {w : World} {ok : Nat → Prop} : ∀ (l : List FV) (vs : List Value) (i : Nat) (x : FV), FRelL w ok l vs → l[i]? = some x → ∃ v, vs[i]? = some v ∧ FRel w ok x v
  | [], vs, i, x, h, hi => by simp at hi
  | y :: l, vs, 0, x, h, hi => by
    simp only [FRelL] at h
    obtain ⟨a, r, rfl, h1, h2⟩ := h
    simp at hi
    subst hi
    exact ⟨a, rfl, h1⟩
  | y :: l, vs, i + 1, x, h, hi => by
    simp only [FRelL] at h
    obtain ⟨a, r, rfl, h1, h2⟩ := h
    obtain ⟨v, hv, hr⟩ := FRelL.get l r i x h2 (by simpa using hi)
    exact ⟨v, by simpa using hv, hr⟩
section
variable {P : Program} {G : Gr} {X : Nat → Prop} {ok0 : Nat → Prop} {w0 w : World} {tv : Nat → Value} {en : Env} {st : St} {ρ : Operand → Value}
theorem okV_some {hs hs' : List Hint} {x : Option AV} {p : Option Prop} {r : AV} (h : okV hs x = some (p, r, hs')) : x = some r ∧ p = none := by
  unfold okV at h
  split at h
  · simp only [Option.some.injEq, Prod.mk.injEq] at h
    exact ⟨by rw [h.2.1], h.1.symm⟩
  · cases h
/-- What a call leaves, in the caller's words. -/
theorem call_good {ob : List (Nat × Ob)} {nx : Nat} (hm : Mem G X ok0 w0 ob nx w en) {w' : World} {r : FV} {v : Value} (hx : Ext G w w')
    (h : FRel w' (fun b => okS ok0 w0 w ob en b ∨ (w.heap.size ≤ b ∧ b < w'.heap.size)) r v) : FRel w' (okS ok0 w0 w' ob en) r v := by
  refine FRel.carry (Carry.same _ fun b hb => ?_) r v h
  rcases hb with hb | ⟨h1, h2⟩
  · exact ⟨hb.1, Nat.lt_of_lt_of_le hb.2.1 hx.size, hb.2.2⟩
  · refine ⟨.inr (Nat.le_trans hm.ext.size h1), h2, fun k o hk => ?_, fun hD => by have := (hm.dsl b hD).2.1; omega⟩
    intro e
    have := (hm.obs k o hk).2.2.2.lt e
    omega
theorem callR_sound {o : Oper} {c : Call} {f : Operand} {hs hs' : List Hint} {p : Option Prop} {r : AV} (hop : o.op = .call c) (hc : c.callee = .value f)
    (hm : Mem G X ok0 w0 st.ob st.nx w en) (hf : ARel w (okS ok0 w0 w st.ob en) en (st.opnd f) (ρ f))
    (ha : ARelL w (okS ok0 w0 w st.ob en) en (opL st c.args.toList) (c.args.toList.map ρ))
    (h : callR P G (st.opnd f) (opL st c.args.toList) hs = some (p, r, hs')) (hp : hold p) :
    r.bd st.nx ∧ OpY P o ρ w (fun v w' => Ext G w w' ∧ ARel w' (okS ok0 w0 w' st.ob en) en r v) := by
  have main : ∀ (g : Nat) (first args caps : List FV) (fs cs : List Value) (y : FV), ρ f = .func (.func g) fs.toArray cs.toArray → FRelL w (okS ok0 w0 w st.ob en) first fs →
      FRelL w (okS ok0 w0 w st.ob en) args (c.args.toList.map ρ) → FRelL w (okS ok0 w0 w st.ob en) caps cs → CallsF P G g (first ++ args ++ caps) y →
      OpY P o ρ w (fun v w' => Ext G w w' ∧ ARel w' (okS ok0 w0 w' st.ob en) en (.f y) v) := by
    intro g first args caps fs cs y e h1 h2 h3 hcall
    have hrun : (execOp ρ o).run P w = (callFunc g (fs ++ c.args.toList.map ρ ++ cs).toArray).run P w := by
      simp only [execOp, hop, resolve, hc, e, Deferred.ofValue, Sem.run_bind]
      simp only [Sem.run_pure, Result.andThen, invoke]
      congr 2
      apply Array.ext'
      simp
    have := hcall w (okS ok0 w0 w st.ob en) _ (hm.ground) (fun b hb => hb.2.1) (FRelL.append _ _ _ _ (FRelL.append _ _ _ _ h1 h2) h3)
    unfold CallY at this
    unfold OpY
    rw [hrun]
    split at this
    · rename_i v w' er
      rw [er]
      exact ⟨this.2, by simp only [ARel]; exact call_good hm this.2 this.1⟩
    · rename_i g' as w' er
      rw [er]
      refine this.mono ?_
      rintro e' w'' ⟨v, rfl, hr, hx⟩
      exact ⟨v, rfl, hx, by simp only [ARel]; exact call_good hm hx hr⟩
    · exact this.elim
  unfold callR at h
  split at h
  · rename_i g first caps y hs2 hfx
    split at h
    · rename_i args hargs
      simp only [Option.some.injEq, Prod.mk.injEq] at h
      obtain ⟨rfl, rfl, rfl⟩ := h
      refine ⟨by simp [AV.bd], ?_⟩
      rw [hfx] at hf
      simp only [ARel, FRel] at hf
      obtain ⟨fs, cs, e, h1, h2⟩ := hf
      exact main g first args caps fs cs y e h1 (toFL_rel _ _ _ hargs ha) h2 hp
    · cases h
  · rename_i g first caps y hs2 hfx
    split at h
    · rename_i first' args caps' hfirst hargs hcaps
      simp only [Option.some.injEq, Prod.mk.injEq] at h
      obtain ⟨rfl, rfl, rfl⟩ := h
      refine ⟨by simp [AV.bd], ?_⟩
      rw [hfx] at hf
      simp only [ARel] at hf
      obtain ⟨fs, cs, e, h1, h2⟩ := hf
      exact main g first' args caps' fs cs y e (toFL_rel _ _ _ hfirst h1) (toFL_rel _ _ _ hargs ha) (toFL_rel _ _ _ hcaps h2) hp
    · cases h
  · cases h
theorem run_lenOf {ts : Array TypeId} {ty : TypeId} {A : Option Addr} {n c : Nat} (h : ((elemP P (ts.getD 0 0)).isSome && ts.size == 1) = true) (w : World) :
    (Builtin.len_ ts ty #[.slice A n c]).run P w = .ok (.int .i64 n) w := by
  simp only [Bool.and_eq_true, beq_iff_eq] at h
  obtain ⟨h1, h2⟩ := h
  obtain ⟨t, rfl⟩ : ∃ t, ts = #[t] := Array.size_eq_one_iff.1 h2
  unfold elemP at h1
  split at h1
  · rename_i e hu
    have hu' : P.underlying t = some (.slice e) := by simpa using hu
    simp [Builtin.len_, run_underlying hu', Result.andThen, goInt]
  · cases h1
theorem lenR_sound {o : Oper} {c : Call} {x : Operand} {r : AV} (hop : o.op = .call c) (hc : c.callee = .builtin .len) (hargs : c.args.toList = [x])
    (hm : Mem G X ok0 w0 st.ob st.nx w en) (hx : ARel w (okS ok0 w0 w st.ob en) en (st.opnd x) (ρ x)) (h : lenR P st c.argTypes (st.opnd x) = some r) :
    r.bd st.nx ∧ OpY P o ρ w (fun v w' => Ext G w w' ∧ ARel w' (okS ok0 w0 w' st.ob en) en r v) := by
  have ha : c.args = #[x] := by apply Array.ext'; simpa using hargs
  have main : ∀ (A : Option Addr) (n cp : Nat), ρ x = .slice A n cp → ((elemP P (c.argTypes.getD 0 0)).isSome && c.argTypes.size == 1) = true →
      OpY P o ρ w (fun v w' => Ext G w w' ∧ ARel w' (okS ok0 w0 w' st.ob en) en (.f (.sc (.int .i64 n))) v) := by
    intro A n cp e hk
    refine OpY.of_value (w' := w) (v := .int .i64 n) ?_ ⟨Ext.refl w, by simp [ARel, FRel]⟩
    simp only [execOp, hop, resolve, hc, ha, Sem.run_bind, Sem.run_pure, Result.andThen, invoke, builtin]
    simp [e, run_lenOf hk, Result.andThen]
  unfold lenR at h
  split at h
  · rename_i sz es hxe
    split at h
    · rename_i hk
      simp only [Option.some.injEq] at h
      subst h
      rw [hxe] at hx
      simp only [ARel, FRel] at hx
      refine ⟨by simp [AV.bd], ?_⟩
      rcases hx with ⟨e0, e | ⟨ad, cp, e⟩⟩ | ⟨b, o, cp, e, _⟩
      · subst e0; exact main none 0 0 e hk
      · subst e0; exact main (some ad) 0 cp e hk
      · exact main _ _ cp e hk
    · cases h
  · rename_i k hxe
    split at h
    · rename_i sz e es hk
      split at h
      · rename_i hk2
        simp only [Option.some.injEq] at h
        subst h
        rw [hxe] at hx
        simp only [ARel] at hx
        obtain ⟨hx, _⟩ := hx
        obtain ⟨_, _, _, xs, h1, _⟩ := hm.obs k _ hk
        refine ⟨by simp [AV.bd], ?_⟩
        rcases h1.2 with ⟨hv, hn⟩ | ⟨g, cap, cur, hv, _⟩
        · have := main none 0 0 (by rw [hx, hv]) hk2
          rw [hn]; exact this
        · exact main _ _ _ (by rw [hx, hv]) hk2
      · cases h
    · cases h
  · rename_i k sz' o' n hxe
    split at h
    · rename_i hk
      simp only [Option.some.injEq] at h
      subst h
      rw [hxe] at hx
      simp only [ARel] at hx
      obtain ⟨b, cp, _, e, _⟩ := hx
      exact ⟨by simp [AV.bd], main _ _ _ e hk⟩
    · cases h
  · cases h
end
end Go.Sx

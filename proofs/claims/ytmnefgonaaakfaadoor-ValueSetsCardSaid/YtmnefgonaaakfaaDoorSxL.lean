/-
  What is evaluated over such words is what a call of the function does: the law on which each contract rests.
-/
import Derived.Test.YtmnefgonaaakfaaDoorSxK
set_option linter.unusedVariables false
set_option linter.unusedSimpArgs false
namespace Go.Sx
open Go.RowKit
section
variable {P : Program} {G : Gr} {X : Option Nat} {ok0 : Nat → Prop} {w0 w w' : World} {en en' : Env} {st st' : St} {a : Act}

/-! ### States that say less -/
theorem lookup_mem {ρ : List (Nat × Nat)} {j k : Nat} (h : ρ.lookup j = some k) : (j, k) ∈ ρ := by
  induction ρ with
  | nil => simp at h
  | cons p ρ ih =>
    obtain ⟨x, y⟩ := p
    rw [List.lookup_cons] at h
    split at h
    · rename_i e
      simp only [beq_iff_eq] at e
      simp only [Option.some.injEq] at h
      subst e; subst h
      simp
    · exact List.mem_cons_of_mem _ (ih h)
structure RenOk (ρ : List (Nat × Nat)) (n : Nat) : Prop where
  old : ∀ j k, ρ.lookup j = some k → oldOf ρ k = some j ∧ k < n
  new : ∀ j k, oldOf ρ k = some j → ρ.lookup j = some k
theorem renOk_spec {ρ : List (Nat × Nat)} {n : Nat} (h : renOk ρ n = true) : RenOk ρ n := by
  unfold renOk at h
  rw [List.all_eq_true] at h
  refine ⟨fun j k hj => ?_, fun j k hj => ?_⟩
  · have := h _ (lookup_mem hj)
    simp only [Bool.and_eq_true, beq_iff_eq, decide_eq_true_eq] at this
    exact ⟨this.1.2, this.2⟩
  · have hm : (k, j) ∈ ρ.map fun p => (p.2, p.1) := lookup_mem hj
    obtain ⟨p, hp, e⟩ := List.mem_map.1 hm
    simp only [Prod.mk.injEq] at e
    have := h p hp
    simp only [Bool.and_eq_true, beq_iff_eq, decide_eq_true_eq] at this
    rw [e.1, e.2] at this
    exact this.1.1
def Env.ren (en : Env) (ρ : List (Nat × Nat)) : Env where
  blk k := match oldOf ρ k with
    | some j => en.blk j
    | none => none
  val k := match oldOf ρ k with
    | some j => en.val j
    | none => undef
mutual
theorem AV.ren_rel {ρ : List (Nat × Nat)} {n : Nat} {ok ok' : Nat → Prop} (hr : RenOk ρ n) (hc : Carry w w ok ok') : ∀ (x : AV) (v : Value), ARel w ok en x v → ARel w ok' (en.ren ρ) (x.ren ρ) v ∧ (x.ren ρ).bd n
  | .f x, v, h => by simp only [ARel, AV.ren, AV.bd] at h ⊢; exact ⟨FRel.carry hc x v h, trivial⟩
  | .agg l, v, h => by
    simp only [ARel, AV.ren, AV.bd] at h ⊢
    obtain ⟨cs, e, h⟩ := h
    have := renL_rel hr hc l cs h
    exact ⟨⟨cs, e, this.1⟩, this.2⟩
  | .loc j o, v, h => by
    simp only [AV.ren]
    split
    · rename_i k hk
      obtain ⟨h1, h2⟩ := hr.old j k hk
      simp only [ARel, AV.bd, Env.ren, h1] at h ⊢
      exact ⟨h, h2⟩
    · simp [ARel, FRel, AV.bd]
  | .lsl j, v, h => by
    simp only [AV.ren]
    split
    · rename_i k hk
      obtain ⟨h1, h2⟩ := hr.old j k hk
      simp only [ARel, AV.bd, Env.ren, h1] at h ⊢
      exact ⟨h, h2⟩
    · simp [ARel, FRel, AV.bd]
  | .el j sz i d, v, h => by
    simp only [AV.ren]
    split
    · rename_i k hk
      obtain ⟨h1, h2⟩ := hr.old j k hk
      simp only [ARel, AV.bd, Env.ren, h1] at h ⊢
      exact ⟨h, h2⟩
    · simp [ARel, FRel, AV.bd]
  | .lvw j sz o n, v, h => by
    simp only [AV.ren]
    split
    · rename_i k hk
      obtain ⟨h1, h2⟩ := hr.old j k hk
      simp only [ARel, AV.bd, Env.ren, h1] at h ⊢
      exact ⟨h, h2⟩
    · simp [ARel, FRel, AV.bd]
  | .fn f x y, v, h => by
    simp only [ARel, AV.ren, AV.bd] at h ⊢
    obtain ⟨fs, cs, e, h1, h2⟩ := h
    have g1 := renL_rel hr hc x fs h1
    have g2 := renL_rel hr hc y cs h2
    exact ⟨⟨fs, cs, e, g1.1, g2.1⟩, g1.2, g2.2⟩
theorem renL_rel {ρ : List (Nat × Nat)} {n : Nat} {ok ok' : Nat → Prop} (hr : RenOk ρ n) (hc : Carry w w ok ok') : ∀ (l : List AV) (vs : List Value), ARelL w ok en l vs → ARelL w ok' (en.ren ρ) (renL ρ l) vs ∧ bdL n (renL ρ l)
  | [], vs, h => by simpa [ARelL, renL, bdL] using h
  | x :: l, vs, h => by
    simp only [ARelL, renL, bdL] at h ⊢
    obtain ⟨v, r, e, h1, h2⟩ := h
    have g1 := AV.ren_rel hr hc x v h1
    have g2 := renL_rel hr hc l r h2
    exact ⟨⟨v, r, e, g1.1, g2.1⟩, g1.2, g2.2⟩
end
theorem weakL_rel {ok : Nat → Prop} {n : Nat} : ∀ (l m : List AV) (vs : List Value), weakL l m → ARelL w ok en l vs → bdL n l → ARelL w ok en m vs ∧ bdL n m
  | [], [], vs, _, h, _ => by simpa [ARelL, bdL] using h
  | x :: l, y :: m, vs, hw, h, hb => by
    simp only [ARelL, bdL] at h hb ⊢
    obtain ⟨v, r, rfl, h1, h2⟩ := h
    simp only [weakL] at hw
    split at hw
    · have := weakL_rel l m r hw h2 hb.2
      exact ⟨⟨v, r, rfl, by simp [ARel, FRel], this.1⟩, by simp [AV.bd], this.2⟩
    · have := weakL_rel l m r hw.2 h2 hb.2
      rw [← hw.1]
      exact ⟨⟨v, r, rfl, h1, this.1⟩, hb.1, this.2⟩
  | [], _ :: _, _, hw, _, _ => by simp [weakL] at hw
  | _ :: _, [], _, hw, _, _ => by simp [weakL] at hw
theorem weakO_get {ob : List (Nat × Ob)} {ρ : List (Nat × Nat)} : ∀ (l : List (Nat × Ob)) (k : Nat) (o : Ob), weakO ob ρ l → getOb k l = some o → ∃ j p, oldOf ρ k = some j ∧ getOb j ob = some p ∧ p.ren ρ = o
  | [], k, o, _, h => by simp [getOb] at h
  | (i, q) :: l, k, o, hw, h => by
    simp only [weakO] at hw
    simp only [getOb] at h
    split at h
    · rename_i e
      subst e
      simp only [Option.some.injEq] at h
      subst h
      obtain ⟨hw, _⟩ := hw
      split at hw
      · rename_i j hj
        split at hw
        · rename_i p hp
          exact ⟨j, p, hj, hp, hw⟩
        · exact hw.elim
      · exact hw.elim
    · exact weakO_get l k o hw.2 h

theorem weak_inv {ρ : List (Nat × Nat)} {S : St} (h : Inv G X ok0 w0 st a w en) (hw : st.weak ρ S) : ∃ en', Inv G X ok0 w0 S a w en' := by
  obtain ⟨h1, h2, h3⟩ := hw
  have hr := renOk_spec h1
  have live : ∀ k o, getOb k S.ob = some o → ∃ j p, oldOf ρ k = some j ∧ getOb j st.ob = some p ∧ p.ren ρ = o := fun k o hk => weakO_get _ k o h3 hk
  have hc : Carry w w (okS ok0 w0 w st.ob en) (okS ok0 w0 w S.ob (en.ren ρ)) := ⟨fun b hb => ⟨hb.1, hb.2.1, fun k o hk => by
    obtain ⟨j, p, g1, g2, _⟩ := live k o hk
    simp only [Env.ren, g1]
    exact hb.2.2 j p g2⟩, fun _ _ _ => rfl⟩
  obtain ⟨s1, s2⟩ := renL_rel hr hc _ _ h.slots
  obtain ⟨t1, t2⟩ := weakL_rel _ _ _ h2 s1 s2
  refine ⟨en.ren ρ, ⟨h.mem.gr, h.mem.okl, h.mem.xok, h.mem.ext, fun k o hk => ?_, fun i k o q hi hk hne hnn => ?_⟩, h.defs, t1, t2⟩
  · obtain ⟨j, p, g1, g2, rfl⟩ := live k o hk
    obtain ⟨e1, e2, e3, e4⟩ := h.mem.obs j p g2
    refine ⟨(hr.old j k (hr.new j k g1)).2, by simpa only [Env.ren, g1] using e2, ?_, ?_⟩
    · cases p with
      | box cs =>
        obtain ⟨b, vs, t, f1, f2, f3⟩ := e4
        exact (renL_rel hr hc _ _ f3).2
      | row _ _ _ => trivial
      | iter _ _ => trivial
    · cases p with
      | box cs =>
        obtain ⟨b, vs, t, f1, f2, f3⟩ := e4
        exact ⟨b, vs, t, by simpa only [Env.ren, g1] using f1, f2, (renL_rel hr hc _ _ f3).1⟩
      | row sz e es =>
        obtain ⟨xs, f1, f2, f3, f4⟩ := e4
        exact ⟨xs, by simpa only [Env.ren, g1] using f1, by simpa only [Env.ren, g1] using f2, FRelL.carry hc _ _ f3, f4⟩
      | iter s i =>
        obtain ⟨b, f1, f2⟩ := e4
        exact ⟨b, by simpa only [Env.ren, g1] using f1, f2⟩
  · obtain ⟨j1, p1, g1, g2, _⟩ := live i o hi
    obtain ⟨j2, p2, g3, g4, _⟩ := live k q hk
    simp only [Env.ren, g1, g3] at hnn ⊢
    refine h.mem.inj j1 j2 p1 p2 g2 g4 (fun e => hne ?_) hnn
    subst e
    have a1 := hr.new _ _ g1
    have a2 := hr.new _ _ g3
    rw [a1] at a2
    exact Option.some.inj a2

/-! ### Loops -/
theorem exists_least (p : Nat → Prop) (h : ∃ n, p n) : ∃ n, p n ∧ ∀ m, p m → n ≤ m := by
  obtain ⟨n, hn⟩ := h
  induction n using Nat.strongRecOn with
  | _ n ih =>
    by_cases hm : ∃ m, m < n ∧ p m
    · obtain ⟨m, h1, h2⟩ := hm
      exact ih m h1 h2
    · exact ⟨n, hn, fun m hp => Nat.le_of_not_lt fun hlt => hm ⟨m, hlt, hp⟩⟩
theorem wp_loop_idx {c : Code} {Q : Exit → Act → World → Prop} (I : Nat → Act → World → Prop) (N : Nat) (h0 : I 0 a w)
    (round : ∀ i a w, i < N → I i a w → c.wp P (Exit.then (fun a' w' => I (i + 1) a' w') Q) a w)
    (last : ∀ a w, I N a w → c.wp P (Exit.then (fun _ _ => False) Q) a w) : (Code.loop c).wp P Q a w := by
  classical
  let D : Act → World → Nat → Prop := fun a w d => d ≤ N ∧ I (N - d) a w
  let μ : Act → World → Nat := fun a w => if h : ∃ d, D a w d then Classical.choose (exists_least (D a w) h) else 0
  have hμ : ∀ a w d, D a w d → D a w (μ a w) ∧ μ a w ≤ d := by
    intro a w d hd
    have h : ∃ d, D a w d := ⟨d, hd⟩
    have := Classical.choose_spec (exists_least (D a w) h)
    simp only [μ, dif_pos h]
    exact ⟨this.1, this.2 d hd⟩
  refine wp_loop (fun a w => ∃ d, D a w d) μ ⟨N, Nat.le_refl _, by rw [Nat.sub_self]; exact h0⟩ fun a w ⟨d, hd⟩ => ?_
  obtain ⟨⟨h1, h2⟩, _⟩ := hμ a w d hd
  rcases Nat.eq_zero_or_pos (μ a w) with hz | hp
  · rw [hz] at h2
    exact wp_mono (last a w h2) fun e a' w' he => by
      cases e <;> first | exact he.elim | exact he
  · refine wp_mono (round (N - μ a w) a w (by omega) h2) fun e a' w' he => ?_
    cases e with
    | normal =>
      have he' : I (N - μ a w + 1) a' w' := he
      have hd' : D a' w' (μ a w - 1) := ⟨by omega, by rw [show N - (μ a w - 1) = N - μ a w + 1 from by omega]; exact he'⟩
      refine ⟨⟨_, hd'⟩, ?_⟩
      have := (hμ a' w' _ hd').2
      omega
    | _ => exact he

/-! ### Code -/
def Ex.toQ (Q : Exit → Act → World → Prop) : Ex → Act → World → Prop
  | .normal => Q .normal
  | .exit id => Q (.exit id)
  | .ret => Q .ret

theorem evalCode_sound : ∀ (c : Code) {st : St} {a : Act} {w : World} {en : Env} {hs : List Hint} {K : Ex → St → List Hint → Prop} {Q : Exit → Act → World → Prop}, Inv G X ok0 w0 st a w en → evalCode P G c st hs K →
    (∀ e st' hs' a' w' en', Inv G X ok0 w0 st' a' w' en' → K e st' hs' → e.toQ Q a' w') → c.wp P Q a w
  | .skip, st, a, w, en, hs, K, Q, h, hv, hQ => wp_skip (hQ .normal st hs a w en h hv)
  | .seq x y, st, a, w, en, hs, K, Q, h, hv, hQ => by
    refine wp_seq (evalCode_sound x h hv fun e st' hs' a' w' en' h' hk => ?_)
    cases e with
    | normal => exact evalCode_sound y h' hk hQ
    | exit id => exact hQ (.exit id) st' hs' a' w' en' h' hk
    | ret => exact hQ .ret st' hs' a' w' en' h' hk
  | .cond c x y, st, a, w, en, hs, K, Q, h, hv, hQ => by
    simp only [evalCode] at hv
    split at hv
    · rename_i b d hs2 hc
      obtain ⟨rfl, hv⟩ := hv
      have hb := (h.opnd c).1
      rw [hc] at hb
      simp only [ARel, FRel] at hb
      refine wp_cond hb ?_
      cases b with
      | true => exact evalCode_sound x h hv hQ
      | false => exact evalCode_sound y h hv hQ
    · rename_i b h1 h2 hs2 hc
      have hb := (h.opnd c).1
      rw [hc] at hb
      simp only [ARel, FRel] at hb
      refine wp_cond hb ?_
      cases b with
      | true => exact evalCode_sound x h (hv.1 rfl) hQ
      | false => exact evalCode_sound y h (hv.2 rfl) hQ
    · exact hv.elim
  | .region id ops false, st, a, w, en, hs, K, Q, h, hv, hQ => wp_region_list (evalRow_sound (fun st' hs' a' w' en' h' hk => hQ .normal st' hs' a' w' en' h' hk) _ _ _ _ _ _ _ h hv)
  | .region id ops true, st, a, w, en, hs, K, Q, h, hv, hQ => by
    simp only [evalCode] at hv
    split at hv
    · exact drawn_sound h hv fun st' hs' a' w' en' h' hk => hQ .normal st' hs' a' w' en' h' hk
    · exact hv.elim
  | .block id c, st, a, w, en, hs, K, Q, h, hv, hQ => by
    refine wp_block (evalCode_sound c h hv fun e st' hs' a' w' en' h' hk => ?_)
    cases e with
    | normal => exact hQ .normal st' hs' a' w' en' h' hk
    | ret => exact hQ .ret st' hs' a' w' en' h' hk
    | exit i =>
      simp only [Ex.toQ, Exit.inBlock] at hk ⊢
      split at hk
      · rename_i e; rw [if_pos e]; exact hQ .normal st' hs' a' w' en' h' hk
      · rename_i e; rw [if_neg e]; exact hQ (.exit i) st' hs' a' w' en' h' hk
  | .loop c, st, a, w, en, hs, K, Q, h, hv, hQ => by
    simp only [evalCode] at hv
    obtain ⟨st1, hs1, en1, h, hv⟩ := preL_inv h hv
    split at hv
    · rename_i ρ0 ρ1 S N H hs2
      obtain ⟨h0, h1, h2⟩ := hv
      refine wp_loop_idx (fun i a w => ∃ en, Inv G X ok0 w0 (S i) a w en) N (weak_inv h h0) ?_ ?_
      · rintro i a w hi ⟨en, h'⟩
        refine evalCode_sound c h' (h1 i hi) fun e st' hs' a' w' en' h' hk => ?_
        cases e with
        | normal => exact weak_inv h' hk
        | exit _ => exact hk.elim
        | ret => exact hk.elim
      · rintro a w ⟨en, h'⟩
        refine evalCode_sound c h' h2 fun e st' hs' a' w' en' h' hk => ?_
        cases e with
        | normal => exact hk.elim
        | exit id => exact hQ (.exit id) st' hs' a' w' en' h' hk
        | ret => exact hQ .ret st' hs' a' w' en' h' hk
    · exact hv.elim
  | .exit id, st, a, w, en, hs, K, Q, h, hv, hQ => wp_exit (hQ (.exit id) st hs a w en h hv)
  | .ret, st, a, w, en, hs, K, Q, h, hv, hQ => wp_ret (hQ .ret st hs a w en h hv)
  | .label l, st, a, w, en, hs, K, Q, h, hv, hQ => wp_label (hQ .normal st hs a w en h hv)
  | .goto _, st, a, w, en, hs, K, Q, h, hv, hQ => by simp [evalCode] at hv
  | .scope .., st, a, w, en, hs, K, Q, h, hv, hQ => by simp [evalCode] at hv
  | .refuse _, st, a, w, en, hs, K, Q, h, hv, hQ => by simp [evalCode] at hv
  | .rangeFunc .., st, a, w, en, hs, K, Q, h, hv, hQ => by simp [evalCode] at hv

/-! ### Results -/
theorem loadVar_of {t : TypeId} {u v : Value} {x r : AV} (h : loadP P st t x = some r) (hm : Mem G X ok0 w0 st.ob st.nx w en) (hx : ARel w (okS ok0 w0 w st.ob en) en x u) (hr : (Instr.loadAt t u).run P w = .ok v w) :
    (do loadVar t (← asAddr u) : Sem Value).run P w = .ok v w := by
  have hp : ∃ ad, u = .pointer (some ad) := by
    unfold loadP at h
    split at h
    · simp only [ARel, FRel] at hx
      obtain ⟨b, o, rfl, _⟩ := hx
      exact ⟨_, rfl⟩
    · simp only [ARel] at hx
      obtain ⟨b, _, rfl⟩ := hx
      exact ⟨_, rfl⟩
    · cases h
  obtain ⟨ad, rfl⟩ := hp
  simpa [Instr.loadAt, Instr.sureAddr, asAddr] using hr
def resOf (tmps : Array Value) : ResultVar → Sem Value
  | .tmp t => pure (tmps.getD t undef)
  | .cell p t => do loadVar t (← asAddr (tmps.getD p undef))
theorem resultAV_sound (h : Inv G X ok0 w0 st a w en) {r : ResultVar} {x : AV} (hr : resultAV P st r = some x) :
    ∃ v, (resOf a.tmps r).run P w = .ok v w ∧ ARel w (okS ok0 w0 w st.ob en) en x v := by
  cases r with
  | tmp t =>
    simp only [resultAV, Option.some.injEq] at hr
    subst hr
    exact ⟨_, rfl, (h.opnd (.tmp t)).1⟩
  | cell p t =>
    simp only [resultAV] at hr
    have hx := (h.opnd (.tmp p)).1
    simp only [St.opnd, Act.eval] at hx
    obtain ⟨v, h1, h2, _⟩ := loadP_sound h.mem hr hx
    exact ⟨v, loadVar_of hr h.mem hx h1, h2⟩
theorem resultsL_sound (h : Inv G X ok0 w0 st a w en) : ∀ (rs : List ResultVar) (xs : List AV), resultsL P st rs = some xs →
    ∃ vs, (rs.mapM (resOf a.tmps)).run P w = .ok vs w ∧ ARelL w (okS ok0 w0 w st.ob en) en xs vs
  | [], xs, hx => by
    simp only [resultsL, Option.some.injEq] at hx
    subst hx
    exact ⟨[], rfl, by simp [ARelL]⟩
  | r :: rs, xs, hx => by
    simp only [resultsL] at hx
    split at hx
    · rename_i v vs hv hvs
      simp only [Option.some.injEq] at hx
      subst hx
      obtain ⟨u, h1, h2⟩ := resultAV_sound h hv
      obtain ⟨us, h3, h4⟩ := resultsL_sound h rs vs hvs
      refine ⟨u :: us, ?_, by simp only [ARelL]; exact ⟨u, us, rfl, h2, h4⟩⟩
      rw [List.mapM_cons]
      simp only [Sem.run_bind, h1, h3, Result.andThen]
      rfl
    · cases hx

theorem results_sound {fn : Func} {r : FV} (h : Inv G X ok0 w0 st a w en) (hr : resultsF P st fn = some r) : ∃ v, (results fn a.tmps).run P w = .ok v w ∧ FRel w (okS ok0 w0 w st.ob en) r v := by
  have hmap : ∀ (vs : List Value), (fn.results.toList.mapM (resOf a.tmps)).run P w = .ok vs w →
      (results fn a.tmps).run P w = .ok (if h : vs.toArray.size = 1 then vs.toArray[0] else .tuple vs.toArray) w := by
    intro vs hvs
    unfold results
    change Sem.run P (do let vs ← fn.results.mapM (resOf a.tmps); pure (if h : vs.size = 1 then vs[0] else .tuple vs)) w = _
    rw [← Array.toArray_toList (xs := fn.results), List.mapM_toArray]
    simp only [map_eq_pure_bind, bind_assoc, pure_bind, Sem.run_bind]
    rw [hvs]
    rfl
  unfold resultsF at hr
  split at hr
  · rename_i x hx
    obtain ⟨vs, h1, h2⟩ := resultsL_sound h _ _ hx
    simp only [ARelL] at h2
    obtain ⟨v, l, rfl, h3, rfl⟩ := h2
    exact ⟨v, by rw [hmap _ h1]; rfl, AV.toF_rel _ _ _ hr h3⟩
  · rename_i l hne hl
    split at hr
    · rename_i l' hl'
      simp only [Option.some.injEq] at hr
      subst hr
      obtain ⟨vs, h1, h2⟩ := resultsL_sound h _ _ hl
      refine ⟨.tuple vs.toArray, ?_, by simp only [FRel]; exact ⟨vs, rfl, toFL_rel _ _ _ hl' h2⟩⟩
      rw [hmap _ h1, dif_neg]
      rw [List.size_toArray, ARelL.length _ _ h2]
      intro e
      obtain ⟨x, rfl⟩ := List.length_eq_one_iff.1 e
      exact hne x rfl
    · cases hr
  · cases hr

theorem FRelL.toA {ok : Nat → Prop} : ∀ (l : List FV) (vs : List Value), FRelL w ok l vs → ARelL w ok en (l.map .f) vs ∧ ∀ n, bdL n (l.map .f)
  | [], vs, h => by simp only [FRelL] at h; simp [h, ARelL, bdL]
  | x :: l, vs, h => by
    simp only [FRelL] at h
    obtain ⟨v, r, rfl, h1, h2⟩ := h
    have := FRelL.toA l r h2
    simp only [List.map_cons, ARelL, bdL, AV.bd]
    exact ⟨⟨v, r, rfl, by simpa [ARel] using h1, this.1⟩, fun n => ⟨trivial, this.2 n⟩⟩
theorem undefs_rel {ok : Nat → Prop} : ∀ n : Nat, ARelL w ok en (List.replicate n (.f (.sc undef))) (List.replicate n undef) ∧ ∀ m, bdL m (List.replicate n (.f (.sc undef)))
  | 0 => by simp [ARelL, bdL]
  | n + 1 => by
    have := undefs_rel (ok := ok) n
    simp only [List.replicate_succ, ARelL, bdL, AV.bd]
    exact ⟨⟨undef, _, rfl, by simp [ARel, FRel], this.1⟩, fun m => ⟨trivial, this.2 m⟩⟩
theorem ARelL.append {ok : Nat → Prop} : ∀ (l m : List AV) (u v : List Value), ARelL w ok en l u → ARelL w ok en m v → ARelL w ok en (l ++ m) (u ++ v)
  | [], m, u, v, h, k => by simp only [ARelL] at h; simpa [h] using k
  | x :: l, m, u, v, h, k => by
    simp only [ARelL] at h
    obtain ⟨a, r, rfl, h1, h2⟩ := h
    simp only [List.cons_append, ARelL]
    exact ⟨a, r ++ v, rfl, h1, ARelL.append l m r v h2 k⟩
theorem bdL.append {n : Nat} : ∀ (l m : List AV), bdL n l → bdL n m → bdL n (l ++ m)
  | [], m, _, k => k
  | x :: l, m, h, k => by simp only [List.cons_append, bdL] at h ⊢; exact ⟨h.1, bdL.append l m h.2 k⟩

theorem fnSt_inv {fn : Func} {args : List FV} {vs : List Value} {ok : Nat → Prop} (hg : G.p w) (hok : ∀ b, ok b → b < w.heap.size) (h : FRelL w ok args vs) :
    Inv G none ok w (fnSt fn args) { tmps := vs.toArray ++ Array.replicate (fn.ntmps - vs.toArray.size) undef, defers := [] } w { blk := fun _ => none, val := fun _ => undef } := by
  have hc : Carry w w ok (okS ok w w [] { blk := fun _ => none, val := fun _ => undef }) := ⟨fun b hb => ⟨.inl hb, hok b hb, fun k o hk => by simp [getOb] at hk⟩, fun _ _ _ => rfl⟩
  have h1 := FRelL.toA (en := { blk := fun _ => none, val := fun _ => undef }) _ _ (FRelL.carry hc _ _ h)
  have h2 := undefs_rel (w := w) (ok := okS ok w w [] { blk := fun _ => none, val := fun _ => undef }) (en := { blk := fun _ => none, val := fun _ => undef }) (fn.ntmps - args.length)
  refine ⟨⟨hg, hok, by simp, (Ext.refl w).toX, fun k o hk => by simp [fnSt, getOb] at hk, fun j k o p hj => by simp [fnSt, getOb] at hj⟩, rfl, ?_, ?_⟩
  · simp only [fnSt, Array.toList_append, Array.toList_replicate, List.size_toArray]
    rw [FRelL.length _ _ h]
    exact ARelL.append _ _ _ _ h1.1 h2.1
  · exact bdL.append _ _ (h1.2 _) (h2.2 _)

/-- THE LAW: what was evaluated is what a call does. -/
theorem CallsF_of_evalFn {f : Nat} {fn : Func} {args : List FV} {hs : List Hint} {r : FV} (hf : P.funcs[f]? = some fn) (he : entersP P f = true) (h : evalFn P G fn args hs r) : CallsF P G f args r := by
  intro w ok vs hg hok hv
  unfold CallY
  rw [run_enter he]
  simp only
  unfold evalFn at h
  split at h
  · exact h.elim
  · rename_i c hb
    refine calls_of_wp hf hb (evalCode_sound (X := none) (ok0 := ok) (w0 := w) c (fnSt_inv hg hok hv) h ?_)
    have fin : ∀ (st' : St) (hs' : List Hint) (a' : Act) (w' : World) (en' : Env), Inv G none ok w st' a' w' en' → (match st'.frzs (match hs' with | .frz ks :: _ => ks | .lfz ks :: _ => ks | _ => []) with
        | none => False
        | some st => match resultsF P st fn with
          | some v => v = r
          | none => False) → a'.defers = [] ∧ ∃ v, (results fn a'.tmps).run P w' = .ok v w' ∧ ∃ u, Ending.returned v = .returned u ∧ FRel w' (fun b => ok b ∨ (w.heap.size ≤ b ∧ b < w'.heap.size)) r u ∧ Ext G w w' := by
      intro st' hs' a' w' en' h' hk
      split at hk
      · exact hk.elim
      · rename_i st2 hfz
        have h2 := St.frzs_inv _ h' hfz
        split at hk
        · rename_i v hr
          subst hk
          obtain ⟨u, h3, h4⟩ := results_sound h2 hr
          refine ⟨h2.defs, u, h3, u, rfl, FRel.carry ⟨fun b hb => ?_, fun _ _ _ => rfl⟩ _ _ h4, h2.mem.ext.ofX⟩
          rcases hb.1 with hb1 | hb1
          · exact .inl hb1
          · exact .inr ⟨hb1, hb.2.1⟩
        · exact hk.elim
    intro e st' hs' a' w' en' h' hk
    cases e with
    | normal => exact fin st' hs' a' w' en' h' hk
    | exit _ => exact hk.elim
    | ret => exact fin st' hs' a' w' en' h' hk

/-! ### Functions that tell a row of their own, or write into one -/
def frzOf : List Hint → List Nat
  | .frz ks :: _ => ks
  | .lfz ks :: _ => ks
  | _ => []
def rowOf (P : Program) (st : St) (fn : Func) : Option (Nat × Nat × Nat × List (List FV)) :=
  match resultsL P st fn.results.toList with
  | some [.lsl k] => match getOb k st.ob with
    | some (.row sz e es) => some (k, e, sz, es)
    | _ => none
  | _ => none
def evalFnO (P : Program) (G : Gr) (fn : Func) (args : List FV) (hs : List Hint) (e sz : Nat) (es : List (List FV)) : Prop :=
  match fn.body with
  | none => False
  | some c => evalCode P G c (fnSt fn args) hs fun ex st hs =>
    match ex with
    | .exit _ => False
    | _ => match st.frzs (frzOf hs) with
      | none => False
      | some st => match rowOf P st fn with
        | some (_, e', sz', es') => e' = e ∧ sz' = sz ∧ es' = es
        | none => match resultsF P st fn with
          | some .nils => es = []
          | _ => False

theorem row_result {fn : Func} {k e sz : Nat} {es : List (List FV)} (h : Inv G X ok0 w0 st a w en) (hr : rowOf P st fn = some (k, e, sz, es)) :
    ∃ v xs, (results fn a.tmps).run P w = .ok v w ∧ w.ownsRow 0 e sz v es.length xs ∧ FRelL w (okS ok0 w0 w st.ob en) es.flatten xs ∧ (∀ x ∈ es, x.length = sz) ∧ en.blk k = v.ownBlock ∧ getOb k st.ob = some (.row sz e es) := by
  unfold rowOf at hr
  split at hr
  · rename_i k' hx
    split at hr
    · rename_i sz' e' es' hk
      simp only [Option.some.injEq, Prod.mk.injEq] at hr
      obtain ⟨rfl, rfl, rfl, rfl⟩ := hr
      obtain ⟨vs, h1, h2⟩ := resultsL_sound h _ _ hx
      simp only [ARelL, ARel] at h2
      obtain ⟨v, l, rfl, ⟨hv, _⟩, rfl⟩ := h2
      obtain ⟨g1, g2, g3, xs, r1, r2, r3, r4⟩ := h.mem.obs _ _ hk
      have hmap : (results fn a.tmps).run P w = .ok v w := by
        unfold results
        change Sem.run P (do let vs ← fn.results.mapM (resOf a.tmps); pure (if h : vs.size = 1 then vs[0] else .tuple vs)) w = _
        rw [← Array.toArray_toList (xs := fn.results), List.mapM_toArray]
        simp only [map_eq_pure_bind, bind_assoc, pure_bind, Sem.run_bind]
        rw [h1]
        rfl
      exact ⟨v, xs, hmap, by rw [hv]; exact r1, r3, r4, by rw [hv]; exact r2, hk⟩
    · cases hr
  · cases hr

theorem CallsO_of_evalFnO {f : Nat} {fn : Func} {args : List FV} {hs : List Hint} {e sz : Nat} {es : List (List FV)} (hf : P.funcs[f]? = some fn) (he : entersP P f = true) (h : evalFnO P G fn args hs e sz es) : CallsO P G f args e sz es := by
  intro w ok vs hg hok hv
  unfold CallY
  rw [run_enter he]
  simp only
  unfold evalFnO at h
  split at h
  · exact h.elim
  · rename_i c hb
    refine calls_of_wp hf hb (evalCode_sound (X := none) (ok0 := ok) (w0 := w) c (fnSt_inv hg hok hv) h ?_)
    intro ex st' hs' a' w' en' h' hk
    have fin : (match st'.frzs (frzOf hs') with
      | none => False
      | some st => match rowOf P st fn with
        | some (_, e', sz', es') => e' = e ∧ sz' = sz ∧ es' = es
        | none => match resultsF P st fn with
          | some .nils => es = []
          | _ => False) → a'.defers = [] ∧ ∃ v, (results fn a'.tmps).run P w' = .ok v w' ∧ ∃ u, Ending.returned v = .returned u ∧ ∃ xs, w'.ownsRow w.heap.size e sz u es.length xs ∧
      FRelL w' (fun b => (ok b ∨ (w.heap.size ≤ b ∧ b < w'.heap.size)) ∧ u.ownBlock ≠ some b) es.flatten xs ∧ (∀ x ∈ es, x.length = sz) ∧ Ext G w w' := by
      intro hk
      split at hk
      · exact hk.elim
      · rename_i st2 hfz
        have h2 := St.frzs_inv _ h' hfz
        split at hk
        · rename_i k e' sz' es' hr
          obtain ⟨rfl, rfl, rfl⟩ := hk
          obtain ⟨v, xs, h3, h4, h5, h6, h7, h8⟩ := row_result h2 hr
          refine ⟨h2.defs, v, h3, v, rfl, xs, ownsRow_base h4 (fun b hb => ?_), FRelL.mono (fun b hb => ?_) _ _ h5, h6, h2.mem.ext.ofX⟩
          · rcases (h2.mem.obs k _ h8).2.1 b (by rw [h7]; exact hb) with h9 | h9
            · exact h9
            · cases h9
          · refine ⟨hb.1.imp id fun h9 => ⟨h9, hb.2.1⟩, ?_⟩
            rw [← h7]
            exact hb.2.2 k _ h8
        · split at hk
          · rename_i hr2
            subst hk
            obtain ⟨v, h3, h4⟩ := results_sound h2 hr2
            simp only [FRel] at h4
            subst h4
            refine ⟨h2.defs, _, h3, _, rfl, [], World.ownsRow_nil _ _ _ _, ?_, ?_, h2.mem.ext.ofX⟩
            · simp [FRelL]
            · simp
          · exact hk.elim
    cases ex with
    | normal => exact fin hk
    | exit _ => exact hk.elim
    | ret => exact fin hk

/-- The first argument is a row that may be written. -/
def fnStW (fn : Func) (e sz : Nat) (es : List (List FV)) (rest : List FV) : St := { sl := .lsl 0 :: (rest.map .f ++ List.replicate (fn.ntmps - (rest.length + 1)) (.f (.sc undef))), ob := [(0, .row sz e es)], nx := 1 }
def evalFnW (P : Program) (G : Gr) (fn : Func) (e sz : Nat) (es : List (List FV)) (rest : List FV) (hs : List Hint) (es' : List (List FV)) (res : Option FV) : Prop :=
  match fn.body with
  | none => False
  | some c => evalCode P G c (fnStW fn e sz es rest) hs fun ex st hs =>
    match ex with
    | .exit _ => False
    | _ => match st.frzs (frzOf hs) with
      | none => False
      | some st => match res with
        | none => (match rowOf P st fn with
          | some (_, e2, sz2, es2) => e2 = e ∧ sz2 = sz ∧ es2 = es'
          | none => False)
        | some r => (match getOb 0 st.ob, resultsF P st fn with
          | some (.row sz2 e2 es2), some r2 => e2 = e ∧ sz2 = sz ∧ es2 = es' ∧ r2 = r
          | _, _ => False)

theorem CallsW_of_evalFnW {f : Nat} {fn : Func} {rest : List FV} {hs : List Hint} {e sz : Nat} {es es' : List (List FV)} (hf : P.funcs[f]? = some fn) (he : entersP P f = true) (h : evalFnW P G fn e sz es rest hs es' none) :
    CallsW P G f e sz es rest es' none := by
  intro w ok v xs vs hg hok hhas hown hes hlens hv
  unfold CallY
  rw [run_enter he]
  simp only
  unfold evalFnW at h
  split at h
  · exact h.elim
  · rename_i c hb
    let en0 : Env := { blk := fun k => if k = 0 then v.ownBlock else none, val := fun k => if k = 0 then v else undef }
    have hinit : Inv G v.ownBlock (fun b => ok b ∨ v.ownBlock = some b) w (fnStW fn e sz es rest) { tmps := (v :: vs).toArray ++ Array.replicate (fn.ntmps - (v :: vs).toArray.size) undef, defers := [] } w en0 := by
      have hob : ∀ k o, getOb k (fnStW fn e sz es rest).ob = some o → k = 0 ∧ o = .row sz e es := by
        intro k o hk
        simp only [fnStW, getOb] at hk
        split at hk
        · rename_i e0; simp only [Option.some.injEq] at hk; exact ⟨e0.symm, hk.symm⟩
        · cases hk
      have hc : Carry w w ok (okS (fun b => ok b ∨ v.ownBlock = some b) w w (fnStW fn e sz es rest).ob en0) := ⟨fun b hb => ⟨.inl (.inl hb), (hok b hb).1, fun k o hk => by
        obtain ⟨rfl, _⟩ := hob k o hk
        exact (hok b hb).2⟩, fun _ _ _ => rfl⟩
      have h1 := FRelL.toA (en := en0) _ _ (FRelL.carry hc _ _ hv)
      have h2 := undefs_rel (w := w) (ok := okS (fun b => ok b ∨ v.ownBlock = some b) w w (fnStW fn e sz es rest).ob en0) (en := en0) (fn.ntmps - (rest.length + 1))
      refine ⟨⟨hg, ?_, ?_, (Ext.refl w).toX, ?_, ?_⟩, rfl, ?_, ?_⟩
      · rintro b (hb | hb)
        · exact (hok b hb).1
        · exact (hown.lt b hb).2
      · intro b hb; exact ⟨.inr hb, hhas b hb⟩
      · intro k o hk
        obtain ⟨rfl, rfl⟩ := hob k o hk
        exact ⟨by simp [fnStW], fun b hb => .inr (by simpa [en0] using hb), trivial, xs, by simpa [en0] using hown, by simp [en0], FRelL.carry hc _ _ hes, hlens⟩
      · intro j k o p hj hk hne
        obtain ⟨rfl, _⟩ := hob j o hj
        obtain ⟨rfl, _⟩ := hob k p hk
        exact absurd rfl hne
      · obtain ⟨A, m, cc, hsl⟩ := ownsRow_slice hown
        simp only [fnStW, Array.toList_append, Array.toList_replicate, List.size_toArray, List.length_cons, List.cons_append, ARelL, ARel]
        refine ⟨v, _, rfl, ⟨by simp [en0], A, m, cc, hsl⟩, ?_⟩
        rw [FRelL.length _ _ hv]
        exact ARelL.append _ _ _ _ h1.1 h2.1
      · simp only [fnStW, bdL, AV.bd]
        exact ⟨by omega, bdL.append _ _ (h1.2 _) (h2.2 _)⟩
    refine calls_of_wp hf hb (evalCode_sound c hinit h ?_)
    intro ex st' hs' a' w' en' h' hk
    have fin : (match st'.frzs (frzOf hs') with
      | none => False
      | some st => (match rowOf P st fn with
          | some (_, e2, sz2, es2) => e2 = e ∧ sz2 = sz ∧ es2 = es'
          | none => False)) → a'.defers = [] ∧ ∃ u, (results fn a'.tmps).run P w' = .ok u w' ∧ ∃ u', Ending.returned u = .returned u' ∧ ∃ v' xs', w'.ownsRow 0 e sz v' es'.length xs' ∧ (∀ b, v'.ownBlock = some b → v.ownBlock = some b ∨ w.heap.size ≤ b) ∧
      FRelL w' (fun b => (ok b ∨ v.ownBlock = some b ∨ (w.heap.size ≤ b ∧ b < w'.heap.size)) ∧ v'.ownBlock ≠ some b) es'.flatten xs' ∧ (∀ x ∈ es', x.length = sz) ∧ u' = v' ∧ ExtX G v.ownBlock w w' := by
      intro hk
      split at hk
      · exact hk.elim
      · rename_i st2 hfz
        have h2 := St.frzs_inv _ h' hfz
        split at hk
        · rename_i k e' sz' es2 hr
          obtain ⟨rfl, rfl, rfl⟩ := hk
          obtain ⟨u, ys, h3, h4, h5, h6, h7, h8⟩ := row_result h2 hr
          refine ⟨h2.defs, u, h3, u, rfl, u, ys, h4, fun b hb => ?_, FRelL.mono (fun b hb => ?_) _ _ h5, h6, rfl, h2.mem.ext⟩
          · exact ((h2.mem.obs k _ h8).2.1 b (by rw [h7]; exact hb)).symm
          · refine ⟨?_, by rw [← h7]; exact hb.2.2 k _ h8⟩
            rcases hb.1 with (h9 | h9) | h9
            · exact .inl h9
            · exact .inr (.inl h9)
            · exact .inr (.inr ⟨h9, hb.2.1⟩)
        · exact hk.elim
    cases ex with
    | normal => exact fin hk
    | exit _ => exact hk.elim
    | ret => exact fin hk
end
end Go.Sx

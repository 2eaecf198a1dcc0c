/-
  What is evaluated over such words is what a call of the function does: the law on which each contract rests.
-/
import Derived.Test.YtdgodofdnaligaaDoorSxK
import Derived.RangeFuncLeaves
set_option linter.unusedVariables false
set_option linter.unusedSimpArgs false
namespace Go.Sx
open Go.RowKit
section
variable {P : Program} {G : Gr} {X : Nat → Prop} {ok0 : Nat → Prop} {w0 w w' : World} {tv : Nat → Value} {en en' : Env} {st st' : St} {a : Act}
/-! ### States that say less -/
theorem lookup_mem {ρ : List (Nat × Nat)} {j k : Nat} (h : ρ.lookup j = some k) : (j, k) ∈ ρ := by
  induction ρ with
  | nil => simp at h
  | cons p ρ ih =>
    obtain ⟨x, y⟩ := p
    rw [List.lookup_cons] at h
    split at h
    · rename_i e
      simp only [beq_iff_eq] at e
      simp only [Option.some.injEq] at h
      subst e; subst h
      simp
    · exact List.mem_cons_of_mem _ (ih h)
structure RenOk (ρ : List (Nat × Nat)) (n : Nat) : Prop where
  old : ∀ j k, ρ.lookup j = some k → oldOf ρ k = some j ∧ k < n
  new : ∀ j k, oldOf ρ k = some j → ρ.lookup j = some k
theorem renOk_spec {ρ : List (Nat × Nat)} {n : Nat} (h : renOk ρ n = true) : RenOk ρ n := by
  unfold renOk at h
  rw [List.all_eq_true] at h
  refine ⟨fun j k hj => ?_, fun j k hj => ?_⟩
  · have := h _ (lookup_mem hj)
    simp only [Bool.and_eq_true, beq_iff_eq, decide_eq_true_eq] at this
    exact ⟨this.1.2, this.2⟩
  · have hm : (k, j) ∈ ρ.map fun p => (p.2, p.1) := lookup_mem hj
    obtain ⟨p, hp, e⟩ := List.mem_map.1 hm
    simp only [Prod.mk.injEq] at e
    have := h p hp
    simp only [Bool.and_eq_true, beq_iff_eq, decide_eq_true_eq] at this
    rw [e.1, e.2] at this
    exact this.1.1
def Env.ren (en : Env) (ρ : List (Nat × Nat)) : Env where
  ds := en.ds
  blk k := match oldOf ρ k with
    | some j => en.blk j
    | none => opt none
  val k := match oldOf ρ k with
    | some j => en.val j
    | none => undef
mutual
theorem AV.ren_rel {ρ : List (Nat × Nat)} {n : Nat} {ok ok' : Nat → Prop} (hr : RenOk ρ n) (hc : Carry w w ok ok') : ∀ (x : AV) (v : Value), ARel w ok en x v → ARel w ok' (en.ren ρ) (x.ren ρ) v ∧ (x.ren ρ).bd n
  | .f x, v, h => by simp only [ARel, AV.ren, AV.bd] at h ⊢; exact ⟨FRel.carry hc x v h, trivial⟩
  | .agg l, v, h => by
    simp only [ARel, AV.ren, AV.bd] at h ⊢
    obtain ⟨cs, e, h⟩ := h
    have := renL_rel hr hc l cs h
    exact ⟨⟨cs, e, this.1⟩, this.2⟩
  | .loc j o, v, h => by
    simp only [AV.ren]
    split
    · rename_i k hk
      obtain ⟨h1, h2⟩ := hr.old j k hk
      simp only [ARel, AV.bd, Env.ren, h1] at h ⊢
      exact ⟨h, h2⟩
    · simp [ARel, FRel, AV.bd]
  | .lsl j, v, h => by
    simp only [AV.ren]
    split
    · rename_i k hk
      obtain ⟨h1, h2⟩ := hr.old j k hk
      simp only [ARel, AV.bd, Env.ren, h1] at h ⊢
      exact ⟨h, h2⟩
    · simp [ARel, FRel, AV.bd]
  | .el j sz i d, v, h => by
    simp only [AV.ren]
    split
    · rename_i k hk
      obtain ⟨h1, h2⟩ := hr.old j k hk
      simp only [ARel, AV.bd, Env.ren, h1] at h ⊢
      exact ⟨h, h2⟩
    · simp [ARel, FRel, AV.bd]
  | .lvw j sz o n, v, h => by
    simp only [AV.ren]
    split
    · rename_i k hk
      obtain ⟨h1, h2⟩ := hr.old j k hk
      simp only [ARel, AV.bd, Env.ren, h1] at h ⊢
      exact ⟨h, h2⟩
    · simp [ARel, FRel, AV.bd]
  | .fn f x y, v, h => by
    simp only [ARel, AV.ren, AV.bd] at h ⊢
    obtain ⟨fs, cs, e, h1, h2⟩ := h
    have g1 := renL_rel hr hc x fs h1
    have g2 := renL_rel hr hc y cs h2
    exact ⟨⟨fs, cs, e, g1.1, g2.1⟩, g1.2, g2.2⟩
  | .nul, _, _ => by simp [ARel, AV.ren, AV.bd]
theorem renL_rel {ρ : List (Nat × Nat)} {n : Nat} {ok ok' : Nat → Prop} (hr : RenOk ρ n) (hc : Carry w w ok ok') : ∀ (l : List AV) (vs : List Value), ARelL w ok en l vs → ARelL w ok' (en.ren ρ) (renL ρ l) vs ∧ bdL n (renL ρ l)
  | [], vs, h => by simpa [ARelL, renL, bdL] using h
  | x :: l, vs, h => by
    simp only [ARelL, renL, bdL] at h ⊢
    obtain ⟨v, r, e, h1, h2⟩ := h
    have g1 := AV.ren_rel hr hc x v h1
    have g2 := renL_rel hr hc l r h2
    exact ⟨⟨v, r, e, g1.1, g2.1⟩, g1.2, g2.2⟩
end
theorem weakL_rel {ok : Nat → Prop} {n : Nat} : ∀ (l m : List AV) (vs : List Value), weakL l m → ARelL w ok en l vs → bdL n l → ARelL w ok en m vs ∧ bdL n m
  | [], [], vs, _, h, _ => by simpa [ARelL, bdL] using h
  | x :: l, y :: m, vs, hw, h, hb => by
    simp only [ARelL, bdL] at h hb ⊢
    obtain ⟨v, r, rfl, h1, h2⟩ := h
    simp only [weakL] at hw
    split at hw
    · have := weakL_rel l m r hw h2 hb.2
      exact ⟨⟨v, r, rfl, by simp [ARel, FRel], this.1⟩, by simp [AV.bd], this.2⟩
    · have := weakL_rel l m r hw.2 h2 hb.2
      rw [← hw.1]
      exact ⟨⟨v, r, rfl, h1, this.1⟩, hb.1, this.2⟩
  | [], _ :: _, _, hw, _, _ => by simp [weakL] at hw
  | _ :: _, [], _, hw, _, _ => by simp [weakL] at hw
theorem weakO_get {ob : List (Nat × Ob)} {ρ : List (Nat × Nat)} : ∀ (l : List (Nat × Ob)) (k : Nat) (o : Ob), weakO ob ρ l → getOb k l = some o → ∃ j p, oldOf ρ k = some j ∧ getOb j ob = some p ∧ p.ren ρ = o
  | [], k, o, _, h => by simp [getOb] at h
  | (i, q) :: l, k, o, hw, h => by
    simp only [weakO] at hw
    simp only [getOb] at h
    split at h
    · rename_i e
      subst e
      simp only [Option.some.injEq] at h
      subst h
      obtain ⟨hw, _⟩ := hw
      split at hw
      · rename_i j hj
        split at hw
        · rename_i p hp
          exact ⟨j, p, hj, hp, hw⟩
        · exact hw.elim
      · exact hw.elim
    · exact weakO_get l k o hw.2 h
theorem weak_inv2 {ρ : List (Nat × Nat)} {S : St} (h : Inv G X ok0 w0 tv st a w en) (hw : st.weak ρ S) : ∃ en', Inv G X ok0 w0 tv S a w en' ∧ ∀ b, okS ok0 w0 w st.ob en b → okS ok0 w0 w S.ob en' b := by
  obtain ⟨h1, h2, h3, h5, h6⟩ := hw
  have hr := renOk_spec h1
  have live : ∀ k o, getOb k S.ob = some o → ∃ j p, oldOf ρ k = some j ∧ getOb j st.ob = some p ∧ p.ren ρ = o := fun k o hk => weakO_get _ k o h3 hk
  have hc : Carry w w (okS ok0 w0 w st.ob en) (okS ok0 w0 w S.ob (en.ren ρ)) := Carry.same w fun b hb => ⟨hb.1, hb.2.1, fun k o hk => by
    obtain ⟨j, p, g1, g2, _⟩ := live k o hk
    simp only [Env.ren, g1]
    exact hb.2.2.1 j p g2, hb.2.2.2⟩
  obtain ⟨s1, s2⟩ := renL_rel hr hc _ _ h.slots
  obtain ⟨t1, t2⟩ := weakL_rel _ _ _ h2 s1 s2
  refine ⟨en.ren ρ, ⟨⟨h.mem.gr, h.mem.okl, h.mem.xok, h.mem.ext, fun k o hk => ?_, fun i k o q hi hk hne b hnn => ?_, fun D hD => ?_⟩, h.defs, t1, t2, fun t ht => h.keep t (by rw [List.all_eq_true] at h5; simpa using h5 t ht), fun hn => h.nod (h6 hn)⟩, fun b hb => hc.oks b hb⟩
  · obtain ⟨j, p, g1, g2, rfl⟩ := live k o hk
    obtain ⟨e1, e2, e3, e4⟩ := h.mem.obs j p g2
    refine ⟨(hr.old j k (hr.new j k g1)).2, by simpa only [Env.ren, g1] using e2, ?_, ?_⟩
    · cases p with
      | box cs =>
        obtain ⟨b, vs, t, f1, f2, f3⟩ := e4
        exact (renL_rel hr hc _ _ f3).2
      | row _ _ _ => trivial
      | iter _ _ => trivial
      | yd Y i => trivial
    · cases p with
      | box cs =>
        obtain ⟨b, vs, t, f1, f2, f3⟩ := e4
        exact ⟨b, vs, t, by simpa only [Env.ren, g1] using f1, f2, (renL_rel hr hc _ _ f3).1⟩
      | row sz e es =>
        obtain ⟨xs, f1, f2, f3, f4⟩ := e4
        exact ⟨xs, by simpa only [Env.ren, g1] using f1, by simpa only [Env.ren, g1] using f2, FRelL.carry hc _ _ f3, f4⟩
      | iter s i =>
        obtain ⟨b, f1, f2⟩ := e4
        exact ⟨b, by simpa only [Env.ren, g1] using f1, f2⟩
      | yd Y i =>
        obtain ⟨τ, f1, f2, f3⟩ := e4
        exact ⟨τ, by simpa only [Env.ren, g1] using f1, fun b hb => hc.oks b (f2 b hb), fun b hb => f3 b (by simpa only [Env.ren, g1] using hb)⟩
  · obtain ⟨j1, p1, g1, g2, _⟩ := live i o hi
    obtain ⟨j2, p2, g3, g4, _⟩ := live k q hk
    simp only [Env.ren, g1, g3] at hnn ⊢
    refine h.mem.inj j1 j2 p1 p2 g2 g4 (fun e => hne ?_) b hnn
    subst e
    have a1 := hr.new _ _ g1
    have a2 := hr.new _ _ g3
    rw [a1] at a2
    exact Option.some.inj a2
  · obtain ⟨d1, d2, d3⟩ := h.mem.dsl D hD
    refine ⟨d1, d2, fun k o hk => ?_⟩
    obtain ⟨j, p, g1, g2, _⟩ := live k o hk
    simp only [Env.ren, g1]
    exact d3 j p g2
theorem weak_inv {ρ : List (Nat × Nat)} {S : St} (h : Inv G X ok0 w0 tv st a w en) (hw : st.weak ρ S) : ∃ en', Inv G X ok0 w0 tv S a w en' := by
  obtain ⟨en', h1, _⟩ := weak_inv2 h hw
  exact ⟨en', h1⟩
/-! ### Loops -/
theorem exists_least (p : Nat → Prop) (h : ∃ n, p n) : ∃ n, p n ∧ ∀ m, p m → n ≤ m := by
  obtain ⟨n, hn⟩ := h
  induction n using Nat.strongRecOn with
  | _ n ih =>
    by_cases hm : ∃ m, m < n ∧ p m
    · obtain ⟨m, h1, h2⟩ := hm
      exact ih m h1 h2
    · exact ⟨n, hn, fun m hp => Nat.le_of_not_lt fun hlt => hm ⟨m, hlt, hp⟩⟩
theorem wp_loop_idx {lr : Option Nat} {c : Code} {Q : Exit → Act → World → Prop} (I : Nat → Act → World → Prop) (N : Nat) (h0 : I 0 a w)
    (round : ∀ i a w, i < N → I i a w → c.wpIn (FW lr) 0 P (Exit.then (fun a' w' => I (i + 1) a' w') Q) a w)
    (last : ∀ a w, I N a w → c.wpIn (FW lr) 0 P (Exit.then (fun _ _ => False) Q) a w) : (Code.loop c).wpIn (FW lr) 0 P Q a w := by
  classical
  let D : Act → World → Nat → Prop := fun a w d => d ≤ N ∧ I (N - d) a w
  let μ : Act → World → Nat := fun a w => if h : ∃ d, D a w d then Classical.choose (exists_least (D a w) h) else 0
  have hμ : ∀ a w d, D a w d → D a w (μ a w) ∧ μ a w ≤ d := by
    intro a w d hd
    have h : ∃ d, D a w d := ⟨d, hd⟩
    have := Classical.choose_spec (exists_least (D a w) h)
    simp only [μ, dif_pos h]
    exact ⟨this.1, this.2 d hd⟩
  refine wpIn_loop (fun a w => ∃ d, D a w d) μ ⟨N, Nat.le_refl _, by rw [Nat.sub_self]; exact h0⟩ fun a w ⟨d, hd⟩ => ?_
  obtain ⟨⟨h1, h2⟩, _⟩ := hμ a w d hd
  rcases Nat.eq_zero_or_pos (μ a w) with hz | hp
  · rw [hz] at h2
    exact wpIn_mono (last a w h2) fun e a' w' he => by
      cases e <;> first | exact he.elim | exact he
  · refine wpIn_mono (round (N - μ a w) a w (by omega) h2) fun e a' w' he => ?_
    cases e with
    | normal =>
      have he' : I (N - μ a w + 1) a' w' := he
      have hd' : D a' w' (μ a w - 1) := ⟨by omega, by rw [show N - (μ a w - 1) = N - μ a w + 1 from by omega]; exact he'⟩
      refine ⟨⟨_, hd'⟩, ?_⟩
      have := (hμ a' w' _ hd').2
      omega
    | _ => exact he
/-! ### Rounds of a range over a function -/
theorem keepL_length (kp : List Nat) : ∀ (l : List AV) (t : Nat), (keepL kp t l).length = l.length
  | [], _ => rfl
  | x :: l, t => by simp [keepL, keepL_length kp l (t + 1)]
theorem weakL_length : ∀ (l m : List AV), weakL l m → l.length = m.length
  | [], [], _ => rfl
  | x :: l, y :: m, h => by
    simp only [weakL] at h
    simp only [List.length_cons, Nat.add_right_cancel_iff]
    split at h
    · exact weakL_length l m h
    · exact weakL_length l m h.2
  | [], _ :: _, h => by simp [weakL] at h
  | _ :: _, [], h => by simp [weakL] at h
theorem renL_length (ρ : List (Nat × Nat)) : ∀ l : List AV, (renL ρ l).length = l.length
  | [] => rfl
  | x :: l => by simp [renL, renL_length ρ l]
theorem keepL_rel {ok : Nat → Prop} {n : Nat} (kp : List Nat) : ∀ (l : List AV) (vs us : List Value) (t : Nat), ARelL w ok en l vs → us.length = vs.length → (∀ j, kp.contains (t + j) = true → us.getD j undef = vs.getD j undef) → bdL n l → ARelL w ok en (keepL kp t l) us ∧ bdL n (keepL kp t l)
  | [], vs, us, t, h, hl, hk, hb => by
    simp only [ARelL] at h
    subst h
    have : us = [] := List.eq_nil_of_length_eq_zero hl
    subst this
    simp [keepL, ARelL, bdL]
  | x :: l, vs, us, t, h, hl, hk, hb => by
    simp only [ARelL, bdL] at h hb
    obtain ⟨v, r, rfl, h1, h2⟩ := h
    cases us with
    | nil => simp at hl
    | cons u us =>
      have ih := keepL_rel (n := n) kp l r us (t + 1) h2 (by simpa using hl) (fun j hj => by have := hk (j + 1) (by rwa [show t + (j + 1) = t + 1 + j from by omega]); simpa using this) hb.2
      simp only [keepL, ARelL, bdL]
      refine ⟨⟨u, us, rfl, ?_, ih.1⟩, ?_, ih.2⟩
      · split
        · rename_i hc
          have := hk 0 (by simpa using hc)
          simp only [List.getD_cons_zero] at this
          rw [this]; exact h1
        · simp [ARel, FRel]
      · split
        · exact hb.1
        · simp [AV.bd]
/-- Behind a round: the caller's own temporaries. -/
theorem back_inv {tmps : Array Value} (h : Inv G X ok0 w0 (fun t => tmps.getD t undef) st a w en) (hs : tmps.size = st.sl.length) : Inv G X ok0 w0 (fun _ => undef) st.back { tmps := tmps, defers := [] } w en := by
  have hl := ARelL.length _ _ h.slots
  obtain ⟨h1, h2⟩ := keepL_rel (n := st.nx) st.kp st.sl a.tmps.toList tmps.toList 0 h.slots (by rw [hl]; simpa using hs) (fun j hj => by
    have := h.keep j (by simpa using hj)
    rw [tmps_getD] at this
    rw [this]
    simp [Array.getD_eq_getD_getElem?, List.getD_eq_getElem?_getD]) h.bd
  exact ⟨h.mem, ⟨List.nodup_nil, by simp⟩, h1, h2, fun t ht => (by cases ht), fun hn => (by cases hn)⟩
/-- The caller's objects and words behind i rounds, told over what is frozen (τ) and the blocks that it owns (φ). -/
structure RS (S : Nat → St) (tmps : Array Value) (i : Nat) (w : World) (φ τ : Nat → Prop) (en : Env) : Prop where
  obs : ∀ k o, getOb k (S i).ob = some o → k < (S i).nx ∧ o.bd (S i).nx ∧ ObRel 0 w τ en k o ∧ ∀ b, en.blk k b → φ b
  inj : ∀ j k o p, getOb j (S i).ob = some o → getOb k (S i).ob = some p → j ≠ k → ∀ b, en.blk j b → ¬ en.blk k b
  slots : ARelL w τ en (S i).sl tmps.toList
  bd : bdL (S i).nx (S i).sl
theorem RS.stab {S : Nat → St} {tmps : Array Value} {i : Nat} {φ τ : Nat → Prop} (h : RS S tmps i w φ τ en) (hr : Rest w w' (fun b => φ b ∨ τ b)) : RS S tmps i w' φ τ en := by
  have hc : Carry w w' τ τ := ⟨fun _ h => h, fun b hb => hr.blk b (.inr hb), hr.os, hr.tape, hr.output, hr.size⟩
  refine ⟨fun k o hk => ?_, h.inj, ARelL.carry hc (EnvUpto.refl _ _) _ _ h.bd h.slots, h.bd⟩
  obtain ⟨h1, h2, h3, h4⟩ := h.obs k o hk
  exact ⟨h1, h2, h3.carry hc (EnvUpto.refl _ _) h1 h2 (fun b hb => hr.blk b (.inl (h4 b hb))), h4⟩
/-- The yielder of a range over a function: its l-th record, the mark's block D, the caller's state. -/
def Yd.loop (S : Nat → St) (tmps : Array Value) (n : Nat) (it : Nat → List FV) (b : Nat → Bool) (l D : Nat) (rec : LoopState → Option Code → Loop) (jump : Code) : Yd where
  u := .func (.yield l) #[] #[]
  one := rfl
  it := it
  b := b
  n := n
  J i w φ τ := i ≤ n ∧ φ l ∧ φ D ∧ w.heap[l]? = some (.loop (if i = 0 ∨ b (i - 1) = true then rec .ready none else rec .done (some jump))) ∧ w.heap[D]? = some (.deferred (some [])) ∧
    ∃ en : Env, RS S tmps i w φ τ en ∧ ∀ k o, getOb k (S i).ob = some o → ¬ en.blk k l ∧ ¬ en.blk k D
  stab := by
    rintro i w w' φ τ ⟨h1, h2, h3, h4, h5, en, h6, h7⟩ hr
    exact ⟨h1, h2, h3, by rw [hr.blk l (.inl h2)]; exact h4, by rw [hr.blk D (.inl h3)]; exact h5, en, h6.stab hr, h7⟩
/-- The blocks of live objects. -/
def objs (ob : List (Nat × Ob)) (en : Env) (b : Nat) : Prop := ∃ k o, getOb k ob = some o ∧ en.blk k b
/-- The same at a world that is a beginning. -/
theorem Inv.rebase (h : Inv G X ok0 w0 tv st a w en) (hr : Rest w w' (fun b => okS ok0 w0 w st.ob en b ∨ objs st.ob en b)) (hg : G.p w') (hd : a.defers = []) :
    Inv G (objs st.ob en) (fun b => okS ok0 w0 w st.ob en b ∨ objs st.ob en b) w' tv st a w' { en with ds := fun _ => False } := by
  have hlt : ∀ b, (okS ok0 w0 w st.ob en b ∨ objs st.ob en b) → b < w'.heap.size := fun b hb => Nat.lt_of_lt_of_le (by
    rcases hb with hb | ⟨k, o, hk, hb⟩
    · exact hb.2.1
    · exact (h.mem.obs k o hk).2.2.2.lt hb) hr.size
  have hc : Carry w w' (okS ok0 w0 w st.ob en) (okS (fun b => okS ok0 w0 w st.ob en b ∨ objs st.ob en b) w' w' st.ob { en with ds := fun _ => False }) :=
    ⟨fun b hb => ⟨.inl (.inl hb), hlt b (.inl hb), hb.2.2.1, id⟩, fun b hb => hr.blk b (.inl hb), hr.os, hr.tape, hr.output, hr.size⟩
  have he : EnvUpto st.nx en { en with ds := fun _ => False } := fun _ _ => ⟨rfl, rfl⟩
  refine ⟨⟨hg, hlt, fun b hb => ⟨.inr hb, fun hh => ?_⟩, (Ext.refl w').toX, fun k o hk => ?_, h.mem.inj, fun D hD => hD.elim⟩, ⟨by rw [hd]; exact List.nodup_nil, by rw [hd]; simp⟩, ARelL.carry hc he _ _ h.bd h.slots, h.bd, h.keep, h.nod⟩
  · obtain ⟨k, o, hk, hb⟩ := hb
    rcases (h.mem.obs k o hk).2.1 b hb with h1 | h1
    · have := G.lt _ _ h.mem.gr hh; omega
    · exact (h.mem.xok b h1).2 hh
  · obtain ⟨g1, g2, g3, g4⟩ := h.mem.obs k o hk
    exact ⟨g1, fun b hb => .inr ⟨k, o, hk, hb⟩, g3, g4.carry hc he g1 g3 fun b hb => hr.blk b (.inr ⟨k, o, hk, hb⟩)⟩
theorem setPs_rel {ok : Nat → Prop} {n : Nat} : ∀ (ps : List Tmp) (xs : List FV) (vs : List Value) (l : List AV) (tmps : Array Value), FRelL w ok xs vs → ARelL w ok en l tmps.toList → bdL n l →
    ARelL w ok en (setPs ps xs l) ((ps.zip vs).foldl (fun t (p : Tmp × Value) => t.setIfInBounds p.1 p.2) tmps).toList ∧ bdL n (setPs ps xs l) ∧
    ∀ t, t ∉ ps → ((ps.zip vs).foldl (fun t (p : Tmp × Value) => t.setIfInBounds p.1 p.2) tmps).getD t undef = tmps.getD t undef
  | [], xs, vs, l, tmps, _, h, hb => by simpa [setPs] using ⟨h, hb⟩
  | p :: ps, [], vs, l, tmps, hv, h, hb => by
    simp only [FRelL] at hv
    subst hv
    simpa [setPs] using ⟨h, hb⟩
  | p :: ps, x :: xs, vs, l, tmps, hv, h, hb => by
    simp only [FRelL] at hv
    obtain ⟨v, r, rfl, h1, h2⟩ := hv
    have h3 : ARelL w ok en (l.set p (.f x)) (tmps.setIfInBounds p v).toList := by
      rw [Array.toList_setIfInBounds]
      exact ARelL.set (by simpa only [ARel] using h1) _ _ p h
    obtain ⟨q1, q2, q3⟩ := setPs_rel ps xs r (l.set p (.f x)) (tmps.setIfInBounds p v) h2 h3 (bdL.set (by simp [AV.bd]) _ p hb)
    simp only [setPs, List.zip_cons_cons, List.foldl_cons]
    refine ⟨q1, q2, fun t ht => ?_⟩
    rw [q3 t (fun e => ht (List.mem_cons_of_mem _ e))]
    have hne : p ≠ t := fun e => ht (by rw [e]; simp)
    rw [Array.getD_eq_getD_getElem?, Array.getElem?_setIfInBounds_ne hne, ← Array.getD_eq_getD_getElem?]
/-- A round begins. -/
theorem RS.inv {S : Nat → St} {tmps : Array Value} {i : Nat} {φ τ ok : Nat → Prop} {ps : Array Tmp} {xs : List FV} {vs : List Value} (h : RS S tmps i w φ τ en) (hg : G.p w)
    (hok : ∀ b, ok b → b < w.heap.size ∧ ¬ φ b) (hown : ∀ b, φ b → b < w.heap.size ∧ ¬ G.has b) (hrd : ∀ b, τ b → b < w.heap.size ∧ ¬ φ b) (hx : FRelL w ok xs vs) (hsz : tmps.size = (S i).sl.length) :
    Inv G (objs (S i).ob en) (fun b => τ b ∨ ok b ∨ objs (S i).ob en b) w (fun t => tmps.getD t undef) (roundSt (S i) ps xs)
      { tmps := (ps.toList.zip vs).foldl (fun t (p : Tmp × Value) => t.setIfInBounds p.1 p.2) tmps, defers := [] } w { en with ds := fun _ => False } := by
  have hφ : ∀ b, objs (S i).ob en b → φ b := fun b ⟨k, o, hk, hb⟩ => (h.obs k o hk).2.2.2 b hb
  have he : EnvUpto (S i).nx en { en with ds := fun _ => False } := fun _ _ => ⟨rfl, rfl⟩
  have key : ∀ b, (τ b ∨ ok b) → okS (fun b => τ b ∨ ok b ∨ objs (S i).ob en b) w w (S i).ob { en with ds := fun _ => False } b := fun b hb =>
    ⟨.inl (hb.imp id .inl), hb.elim (fun e => (hrd b e).1) (fun e => (hok b e).1), fun k o hk e => hb.elim (fun e2 => (hrd b e2).2 (hφ b ⟨k, o, hk, e⟩)) (fun e2 => (hok b e2).2 (hφ b ⟨k, o, hk, e⟩)), id⟩
  have hc : Carry w w τ (okS (fun b => τ b ∨ ok b ∨ objs (S i).ob en b) w w (S i).ob { en with ds := fun _ => False }) := Carry.same w fun b hb => key b (.inl hb)
  have hs := ARelL.carry hc he _ _ h.bd h.slots
  obtain ⟨q1, q2, q3⟩ := setPs_rel (n := (S i).nx) ps.toList xs vs (S i).sl tmps (FRelL.mono (fun b hb => key b (.inr hb)) _ _ hx) hs h.bd
  refine ⟨⟨hg, ?_, fun b hb => ⟨.inr (.inr hb), (hown b (hφ b hb)).2⟩, (Ext.refl w).toX, fun k o hk => ?_, h.inj, fun D hD => hD.elim⟩, ⟨List.nodup_nil, by simp⟩, q1, q2, fun t ht => q3 t ?_, fun _ => rfl⟩
  · rintro b (hb | hb | hb)
    · exact (hrd b hb).1
    · exact (hok b hb).1
    · exact (hown b (hφ b hb)).1
  · obtain ⟨g1, g2, g3, g4⟩ := h.obs k o hk
    exact ⟨g1, fun b hb => .inr ⟨k, o, hk, hb⟩, g2, g3.carry hc he g1 g2 fun b hb => rfl⟩
  · simp only [roundSt, List.mem_filter] at ht
    simpa using ht.2
/-- How a round's body may end. -/
def roundOut (b : Bool) (jump : Code) : Exit → Prop
  | .normal => b = true
  | .exit id => b = false ∧ jump = .exit id
  | .ret => b = false ∧ jump = .ret
  | _ => False
/-- What a round's code is asked. -/
def RoundOk (P : Program) (G : Gr) (l : Nat) (tv : Nat → Value) (s0 : St) (S1 : St) (bi : Bool) (jump assign body : Code) : Prop :=
  ∀ (X' ok' : Nat → Prop) (w : World) (a : Act) (en : Env), Inv G X' ok' w tv s0 a w en →
    assign.wpIn (FW (some l)) 0 P (Exit.then (fun a1 w1 => ∃ st1 en1, st1.nd = true ∧ Inv G X' ok' w tv st1 a1 w1 en1 ∧ ∀ (X2 ok2 : Nat → Prop) (w2 : World) (en2 : Env), Inv G X2 ok2 w2 tv st1 a1 w2 en2 →
      body.wpIn (FW (some l)) 0 P (fun e a3 w3 => ∃ st3 en3 ρ, Inv G X2 ok2 w2 tv st3 a3 w3 en3 ∧ st3.back.weak ρ S1 ∧ roundOut bi jump e) a1 w2) (fun _ _ _ => False)) a w
theorem loop_law {S : Nat → St} {tmps : Array Value} {n : Nat} {it : Nat → List FV} {b : Nat → Bool} {l D fn : Nat} {ps : Array Tmp} {jump assign body : Code}
    (hsl : ∀ i, i ≤ n → (S i).sl.length = tmps.size) (hit : ∀ i, i < n → (it i).length = ps.size)
    (hround : ∀ i, i < n → RoundOk P G l (fun t => tmps.getD t undef) (roundSt (S i) ps (it i)) (S (i + 1)) (b i) jump assign body) :
    YLaw P G (Yd.loop S tmps n it b l D (fun st pe => { state := st, pending := pe, fn, tmps, params := ps, assign, body, defers := D }) jump) := by
  rintro i w φ τ ok vs hal hp hv
  obtain ⟨hin, hl, hD, hrecl, hDd, en, hRS, hdis⟩ := hp.st
  have hi : i < n := hal.2
  have hready : i = 0 ∨ b (i - 1) = true := by
    rcases Nat.eq_zero_or_pos i with h | h
    · exact .inl h
    · exact .inr (hal.1 (i - 1) (by omega))
  rw [if_pos hready] at hrecl
  have hlen : vs.length = ps.size := by rw [FRelL.length _ _ hv]; exact hit i hi
  have hllt := (hp.own l hl).1
  have hDlt := (hp.own D hD).1
  have hlD : l ≠ D := by rintro rfl; rw [hrecl] at hDd; simp at hDd
  have hXl : ∀ c, (c = l ∨ c = D) → ¬ objs (S i).ob en c := by
    rintro c hc ⟨k, o, hk, hb⟩
    rcases hc with rfl | rfl
    · exact (hdis k o hk).1 hb
    · exact (hdis k o hk).2 hb
  have h0l : ∀ c, (c = l ∨ c = D) → ¬ (τ c ∨ ok c ∨ objs (S i).ob en c) := by
    rintro c hc (h | h | h)
    · exact (hp.rd c h).2 (by rcases hc with rfl | rfl <;> assumption)
    · exact (hp.okl c h).2 (by rcases hc with rfl | rfl <;> assumption)
    · exact hXl c hc h
  have hclt : ∀ c, (c = l ∨ c = D) → c < w.heap.size := by rintro c (rfl | rfl) <;> assumption
  have hinv := RS.inv (ps := ps) hRS hp.gr hp.okl hp.own hp.rd hv (hsl i (by omega)).symm
  have hy : (Instr.yield l vs.toArray).run P w = .ok (.round l fn ((ps.toList.zip vs).foldl (fun t (p : Tmp × Value) => t.setIfInBounds p.1 p.2) tmps) assign body) w := by
    have := run_yield (P := P) (args := vs.toArray) hrecl (by simpa using hlen)
    rw [← Array.foldl_toList, Array.toList_zip] at this
    exact this
  unfold CallV
  have hrun : (do let d ← Deferred.ofValue (Yd.loop S tmps n it b l D (fun st pe => { state := st, pending := pe, fn, tmps, params := ps, assign, body, defers := D }) jump).u vs.toArray; invoke d.target d.args : Sem Next).run P w =
      (Instr.yield l vs.toArray).run P w := by
    simp only [Yd.loop, Deferred.ofValue, Sem.run_bind, Sem.run_pure, Result.andThen, invoke]
    simp
  rw [hrun, hy]
  simp only
  refine roundIn_of_wpIn (F := Fence.wide) trivial ?_
  refine wpIn_mono (F := FW (some l)) (n := 0) (hround i hi _ _ w _ _ hinv) ?_
  intro e a1 w1 he
  cases e with
  | normal =>
    obtain ⟨st1, en1, hnd, h1, hbody⟩ := he
    have hx1 := h1.mem.ext
    have hl1 : w1.heap[l]? = some (.loop { state := .ready, pending := none, fn, tmps, params := ps, assign, body, defers := D }) := by
      rw [hx1.block l hllt (hXl l (.inl rfl))]; exact hrecl
    have hD1 : w1.heap[D]? = some (.deferred (some [])) := by rw [hx1.block D hDlt (hXl D (.inr rfl))]; exact hDd
    have hok1 : ∀ c, (c = l ∨ c = D) → ¬ (okS (fun b => τ b ∨ ok b ∨ objs (S i).ob en b) w w1 st1.ob en1 c ∨ objs st1.ob en1 c) := by
      rintro c hc (h | ⟨k, o, hk, hb⟩)
      · rcases h.1 with h | h
        · exact h0l c hc h
        · have := hclt c hc; omega
      · rcases (h1.mem.obs k o hk).2.1 c hb with h | h
        · have := hclt c hc; omega
        · exact hXl c hc h
    have hne : ∀ c, (okS (fun b => τ b ∨ ok b ∨ objs (S i).ob en b) w w1 st1.ob en1 c ∨ objs st1.ob en1 c) → c ≠ l := fun c hc e => hok1 c (.inl e) hc
    have hsz2 : ∀ o, (w1.putObj l o).heap.size = w1.heap.size := fun o => by simp [World.putObj]
    have h2 := Inv.rebase (w' := w1.putObj l (.loop { state := .busy, pending := none, fn, tmps, params := ps, assign, body, defers := D })) h1
      ⟨rfl, rfl, rfl, by rw [hsz2]; exact Nat.le_refl _, fun c hc => World.putObj_heap_other (hne c hc)⟩
      (G.extX w1 _ (fun k hk hh => World.putObj_heap_other (fun e => (hp.own l hl).2 (by rw [← e]; exact hh))) h1.mem.ground) (h1.nod hnd)
    refine ⟨_, run_beginRound hl1 rfl, ?_⟩
    refine wpIn_mono (hbody _ _ _ _ h2) ?_
    rintro e a3 w3 ⟨st3, en3, ρ, h3, hw3, hout⟩
    have hlen3 : tmps.size = st3.sl.length := by
      have h9 := weakL_length _ _ hw3.2.1
      rw [renL_length] at h9
      simp only [St.back, keepL_length] at h9
      rw [h9, hsl (i + 1) (by omega)]
    obtain ⟨en4, h5⟩ := weak_inv (back_inv h3 hlen3) hw3
    have hx3 := h5.mem.ext
    have hl1s : l < w1.heap.size := Nat.lt_of_lt_of_le hllt hx1.size
    have hl3 : w3.heap[l]? = some (.loop { state := .busy, pending := none, fn, tmps, params := ps, assign, body, defers := D }) := by
      rw [hx3.block l (by rw [hsz2]; exact hl1s) (fun h => hok1 l (.inl rfl) (.inr h))]
      exact World.putObj_heap_same hl1s
    have hD3 : w3.heap[D]? = some (.deferred (some [])) := by
      rw [hx3.block D (by rw [hsz2]; exact Nat.lt_of_lt_of_le hDlt hx1.size) (fun h => hok1 D (.inr rfl) (.inr h)), World.putObj_heap_other (fun e => hlD e.symm)]
      exact hD1
    have hok3 : ∀ c, (c = l ∨ c = D) → ¬ (okS (fun b_1 => okS (fun b => τ b ∨ ok b ∨ objs (S i).ob en b) w w1 st1.ob en1 b_1 ∨ objs st1.ob en1 b_1) (w1.putObj l (.loop { state := .busy, pending := none, fn, tmps, params := ps, assign, body, defers := D })) w3 (S (i + 1)).ob en4 c ∨ objs (S (i + 1)).ob en4 c) := by
      have hc2 : ∀ c, (c = l ∨ c = D) → c < w1.heap.size := fun c hc => Nat.lt_of_lt_of_le (hclt c hc) hx1.size
      rintro c hc (h | ⟨k, o, hk, hb⟩)
      · rcases h.1 with h | h
        · exact hok1 c hc h
        · rw [hsz2] at h; have := hc2 c hc; omega
      · rcases (h5.mem.obs k o hk).2.1 c hb with h | h
        · rw [hsz2] at h; have := hc2 c hc; omega
        · exact hok1 c hc (.inr h)
    have hold : ∀ c, objs st1.ob en1 c → φ c ∨ w.heap.size ≤ c := by
      rintro c ⟨k, o, hk, hb⟩
      rcases (h1.mem.obs k o hk).2.1 c hb with h | ⟨k', o', hk', hb'⟩
      · exact .inr h
      · exact .inl ((hRS.obs k' o' hk').2.2.2 c hb')
    have post : ∀ jm : Option Code, (jm = none → b i = true) → (∀ c, jm = some c → b i = false ∧ c = jump) →
        YPost G (Yd.loop S tmps n it b l D (fun st pe => { state := st, pending := pe, fn, tmps, params := ps, assign, body, defers := D }) jump) (i + 1) w φ τ ok
          (w3.putObj l (.loop { state := if jm.isNone then .ready else .done, pending := jm, fn, tmps, params := ps, assign, body, defers := D })) := by
      intro jm hj1 hj2
      have hl3s : l < w3.heap.size := (Array.getElem?_eq_some_iff.1 hl3).1
      have hsz3 : ∀ o, (w3.putObj l o).heap.size = w3.heap.size := fun o => by simp [World.putObj]
      have hw13 : w1.heap.size ≤ w3.heap.size := by have := hx3.size; rwa [hsz2] at this
      have rs3 : RS S tmps (i + 1) w3 (objs (S (i + 1)).ob en4) _ en4 := ⟨fun k o hk => by
        obtain ⟨g1, g2, g3, g4⟩ := h5.mem.obs k o hk
        exact ⟨g1, g3, g4, fun c hc => ⟨k, o, hk, hc⟩⟩, h5.mem.inj, h5.slots, h5.bd⟩
      have rs4 := rs3.stab (w' := w3.putObj l (.loop { state := if jm.isNone then .ready else .done, pending := jm, fn, tmps, params := ps, assign, body, defers := D }))
        ⟨rfl, rfl, rfl, by rw [hsz3]; exact Nat.le_refl _, fun c hc => World.putObj_heap_other fun e => hok3 c (.inl e) hc.symm⟩
      refine ⟨fun c => objs (S (i + 1)).ob en4 c ∨ c = l ∨ c = D, _, ⟨hi, .inr (.inl rfl), .inr (.inr rfl), ?_, ?_, en4, ⟨fun k o hk => ?_, rs4.inj, rs4.slots, rs4.bd⟩, fun k o hk => ⟨fun e => hok3 l (.inl rfl) (.inr ⟨k, o, hk, e⟩), fun e => hok3 D (.inr rfl) (.inr ⟨k, o, hk, e⟩)⟩⟩, ?_, ?_, ?_⟩
      · rw [World.putObj_heap_same hl3s]
        cases jm with
        | none =>
          have hb := hj1 rfl
          have hif : (i + 1 = 0 ∨ b (i + 1 - 1) = true) := .inr (by simpa using hb)
          rw [if_pos hif]
          rfl
        | some c =>
          obtain ⟨hb, rfl⟩ := hj2 c rfl
          have hif : ¬ (i + 1 = 0 ∨ b (i + 1 - 1) = true) := by
            rintro (h | h)
            · omega
            · simp only [Nat.add_sub_cancel] at h; rw [hb] at h; cases h
          rw [if_neg hif]
          rfl
      · rw [World.putObj_heap_other (fun e => hlD e.symm)]; exact hD3
      · obtain ⟨g1, g2, g3, g4⟩ := rs4.obs k o hk
        exact ⟨g1, g2, g3, fun c hc => .inl (g4 c hc)⟩
      · rintro c (hc | rfl | rfl)
        · obtain ⟨k, o, hk, hb⟩ := hc
          obtain ⟨g1, g2, g3, g4⟩ := h5.mem.obs k o hk
          refine ⟨?_, by rw [hsz3]; exact g4.lt hb⟩
          rcases g2 c hb with h | h
          · rw [hsz2] at h; exact .inr (Nat.le_trans hx1.size h)
          · exact hold c h
        · exact ⟨.inl hl, by rw [hsz3]; exact hl3s⟩
        · exact ⟨.inl hD, by rw [hsz3]; exact Nat.lt_of_lt_of_le hDlt (Nat.le_trans hx1.size hw13)⟩
      · intro c hc
        refine ⟨?_, by rw [hsz3]; exact hc.2.1, ?_⟩
        · rcases hc.1 with (h | h) | h
          · rcases h.1 with (h | h | ⟨k', o', hk', hb'⟩) | h
            · exact .inl h
            · exact .inr (.inl h)
            · exact .inr (.inr (.inl ((hRS.obs k' o' hk').2.2.2 c hb')))
            · exact .inr (.inr (.inr h))
          · rcases hold c h with h | h
            · exact .inr (.inr (.inl h))
            · exact .inr (.inr (.inr h))
          · rw [hsz2] at h; exact .inr (.inr (.inr (Nat.le_trans hx1.size h)))
        · rintro (h | rfl | rfl)
          · exact hok3 c (by exfalso; obtain ⟨k, o, hk, hb⟩ := h; exact hc.2.2.1 k o hk hb) (.inr h)
          · exact hok3 c (.inl rfl) (.inl hc)
          · exact hok3 c (.inr rfl) (.inl hc)
      · refine ⟨hx3.os.trans hx1.os, hx3.tape.trans hx1.tape, hx3.output.trans hx1.output, by rw [hsz3]; exact Nat.le_trans hx1.size hw13, fun k hk hn => ?_, fun hs => Nat.le_trans (hx1.dr hs) (hx3.dr hs)⟩
        have hkl : k ≠ l := fun e => hn (by rw [e]; exact hl)
        rw [World.putObj_heap_other hkl, hx3.block k (by rw [hsz2]; exact Nat.lt_of_lt_of_le hk hx1.size) (fun h => by
          rcases hold k h with h | h
          · exact hn h
          · omega), World.putObj_heap_other hkl]
        exact hx1.block k hk (fun ⟨k', o', hk', hb'⟩ => hn ((hRS.obs k' o' hk').2.2.2 k hb'))
    cases e with
    | normal => exact ⟨_, _, run_endRound none hl3, _, rfl, by simp only [roundOut] at hout; simp [Yd.loop, hout], post none (fun _ => hout) (by simp)⟩
    | ret =>
      obtain ⟨hb, hj⟩ := hout
      exact ⟨_, _, run_endRound (some .ret) hl3, _, rfl, by simp [Yd.loop, hb], post (some .ret) (by simp) (by rintro c e; cases e; exact ⟨hb, hj.symm⟩)⟩
    | exit id =>
      obtain ⟨hb, hj⟩ := hout
      exact ⟨_, _, run_endRound (some (.exit id)) hl3, _, rfl, by simp [Yd.loop, hb], post (some (.exit id)) (by simp) (by rintro c e; cases e; exact ⟨hb, hj.symm⟩)⟩
    | _ => exact hout.elim
  | _ => exact he.elim
/-! ### Code -/
def Ex.toQ (Q : Exit → Act → World → Prop) : Ex → Act → World → Prop
  | .normal => Q .normal
  | .exit id => Q (.exit id)
  | .ret => Q .ret
/-- The jump by which a round has left. -/
def jumpOf : Option Ex → Code
  | some (.exit id) => .exit id
  | _ => .ret
theorem range_sound {g : Operand} {ps : Array Tmp} {assign body : Code} {Q : Exit → Act → World → Prop} {S : Nat → St} {n gf : Nat} {it : Nat → List FV} {b : Nat → Bool} {r : FV} {x : Option Ex} {first caps : List FV} {fs cs : List Value}
    (h : Inv G X ok0 w0 tv (S 0) a w en) (hgv : a.eval g = .func (.func gf) fs.toArray cs.toArray) (hfs : FRelL w (okS ok0 w0 w (S 0).ob en) first fs) (hcs : FRelL w (okS ok0 w0 w (S 0).ob en) caps cs)
    (hstr : G.strict = false) (hent : entersP P gf = true) (hkp : (S n).kp = []) (hnd : (S n).nd = false) (hsl : ∀ i, i ≤ n → (S i).sl.length = (S 0).sl.length) (hit : ∀ i, i < n → (it i).length = ps.size)
    (hcall : ∀ Y : Yd, Y.it = it → Y.b = b → Y.n = n → YLaw P G Y → CallsX P G gf (first ++ [.sc Y.u] ++ caps) Y 0 r n)
    (hround : ∀ l i, i < n → RoundOk P G l (fun t => a.tmps.getD t undef) (roundSt (S i) ps (it i)) (S (i + 1)) (b i) (jumpOf x) assign body)
    (hdone : ∀ a' w' en', Inv G X ok0 w0 tv (S n) a' w' en' → (n = 0 ∨ b (n - 1) = true) → Q .normal a' w')
    (hjump : ∀ a' w' en', Inv G X ok0 w0 tv (S n) a' w' en' → 0 < n → b (n - 1) = false → (jumpOf x).wpIn (FW none) 0 P Q a' w') :
    (Code.rangeFunc g ps assign body).wpIn (FW none) 0 P Q a w := by
  refine wpIn_rangeFunc ?_
  intro fn hfn
  obtain ⟨rec, hrec⟩ : ∃ rec : LoopState → Option Code → Loop, rec = fun st pe => { state := st, pending := pe, fn, tmps := a.tmps, params := ps, assign, body, defers := w.heap.size } := ⟨_, rfl⟩
  obtain ⟨W1, hW1⟩ : ∃ W1, (w.alloc (.deferred (some []))).alloc (.loop (rec .ready none)) = W1 := ⟨_, rfl⟩
  have hL1 : W1.heap[w.heap.size + 1]? = some (.loop (rec .ready none)) := by
    rw [← hW1]; have := World.alloc_heap_new (w.alloc (.deferred (some []))) (.loop (rec .ready none)); rwa [World.size_alloc] at this
  have hK1 : W1.heap[w.heap.size]? = some (.deferred (some [])) := by
    rw [← hW1]; exact (Below.heap_alloc _ _ _ (by simp)).trans (World.alloc_heap_new w _)
  have hx1 : Ext G w W1 := by rw [← hW1]; exact ((Ext.refl w).alloc _).alloc _
  have hs1 : W1.heap.size = w.heap.size + 2 := by rw [← hW1]; simp
  have hobL : ∀ c, objs (S 0).ob en c → c < w.heap.size := fun c ⟨k, o, hk, hc⟩ => (h.mem.obs k o hk).2.2.2.lt hc
  refine ⟨w.heap.size + 1, [{ target := .collected w.heap.size, args := #[] }], W1, { target := .fn (.func gf) cs.toArray, args := fs.toArray ++ #[.func (.yield (w.heap.size + 1)) #[] #[]] }, W1, gf,
    fs.toArray ++ #[.func (.yield (w.heap.size + 1)) #[] #[]] ++ cs.toArray, W1, ?_, ?_, fun _ _ => trivial, ?_, fun h => absurd h (by simp [FW, Fence.wide]), ?_⟩
  · rw [← hW1, hrec]; exact run_enterLoop_outer _ _ _ _ _
  · simp only [resolve, hgv]
    simp [Deferred.ofValue, Act.eval]
  · simp only [invoke]
    exact run_enter hent _ _
  · -- the function that is ranged over
    let Y := Yd.loop S a.tmps n it b (w.heap.size + 1) w.heap.size rec (jumpOf x)
    have hlaw : YLaw P G Y := by
      have := loop_law (P := P) (G := G) (S := S) (tmps := a.tmps) (n := n) (it := it) (b := b) (l := w.heap.size + 1) (D := w.heap.size) (fn := fn) (ps := ps) (jump := jumpOf x) (assign := assign) (body := body)
        (fun i hi => by rw [hsl i hi, ← ARelL.length _ _ h.slots]; simp) hit (fun i hi => hround _ i hi)
      rw [← hrec] at this
      exact this
    have hRS : RS S a.tmps 0 W1 (fun c => objs (S 0).ob en c ∨ c = w.heap.size + 1 ∨ c = w.heap.size) (okS ok0 w0 w (S 0).ob en) en := by
      have r0 : RS S a.tmps 0 w (objs (S 0).ob en) (okS ok0 w0 w (S 0).ob en) en := ⟨fun k o hk => by
        obtain ⟨g1, g2, g3, g4⟩ := h.mem.obs k o hk
        exact ⟨g1, g3, g4, fun c hc => ⟨k, o, hk, hc⟩⟩, h.mem.inj, h.slots, h.bd⟩
      have r1 := r0.stab (w' := W1) ⟨hx1.below.os, hx1.below.tape, hx1.below.output, hx1.size, fun c hc => hx1.block c (hc.elim (hobL c) fun e => e.2.1)⟩
      exact ⟨fun k o hk => by
        obtain ⟨g1, g2, g3, g4⟩ := r1.obs k o hk
        exact ⟨g1, g2, g3, fun c hc => .inl (g4 c hc)⟩, r1.inj, r1.slots, r1.bd⟩
    have hpre : YPre G Y 0 W1 (fun c => objs (S 0).ob en c ∨ c = w.heap.size + 1 ∨ c = w.heap.size) (okS ok0 w0 w (S 0).ob en) (okS ok0 w0 w (S 0).ob en) := by
      have hok : ∀ c, okS ok0 w0 w (S 0).ob en c → c < W1.heap.size ∧ ¬ (objs (S 0).ob en c ∨ c = w.heap.size + 1 ∨ c = w.heap.size) := fun c hc => by
        refine ⟨by have := hc.2.1; omega, ?_⟩
        rintro (⟨k, o, hk, hb⟩ | hb | hb)
        · exact hc.2.2.1 k o hk hb
        · have := hc.2.1; omega
        · have := hc.2.1; omega
      refine ⟨⟨Nat.zero_le _, .inr (.inl rfl), .inr (.inr rfl), by rw [if_pos (.inl rfl)]; exact hL1, hK1, en, hRS, fun k o hk => ⟨fun e => ?_, fun e => ?_⟩⟩, G.ext _ _ hx1.below h.mem.ground, hok, fun c hc => ⟨?_, fun hh => ?_⟩, hok⟩
      · have := hobL _ ⟨k, o, hk, e⟩; omega
      · have := hobL _ ⟨k, o, hk, e⟩; omega
      · rcases hc with hc | hc | hc
        · have := hobL c hc; omega
        · omega
        · omega
      · have := G.lt _ _ h.mem.ground hh
        rcases hc with ⟨k, o, hk, hb⟩ | hc | hc
        · rcases (h.mem.obs k o hk).2.1 c hb with h1 | h1
          · have := G.lt _ _ h.mem.gr hh; omega
          · exact (h.mem.xok c h1).2 hh
        · omega
        · omega
    have hcarry : Carry w W1 (okS ok0 w0 w (S 0).ob en) (okS ok0 w0 w (S 0).ob en) := ⟨fun _ h => h, fun c hc => hx1.block c hc.2.1, hx1.below.os, hx1.below.tape, hx1.below.output, hx1.size⟩
    have hargs : FRelL W1 (okS ok0 w0 w (S 0).ob en) (first ++ [.sc Y.u] ++ caps) (fs ++ [Value.func (.yield (w.heap.size + 1)) #[] #[]] ++ cs) :=
      FRelL.append _ _ _ _ (FRelL.append _ _ _ _ (FRelL.carry hcarry _ _ hfs) (by simp only [FRelL, FRel]; exact ⟨_, _, rfl, rfl, rfl⟩)) (FRelL.carry hcarry _ _ hcs)
    have hc := hcall Y rfl rfl rfl hlaw W1 _ _ _ _ hpre hargs
    unfold CallY at hc
    rw [run_enter hent] at hc
    simp only at hc
    have he : (fs ++ [Value.func (.yield (w.heap.size + 1)) #[] #[]] ++ cs).toArray = fs.toArray ++ #[Value.func (.yield (w.heap.size + 1)) #[] #[]] ++ cs.toArray := by simp
    rw [he] at hc
    refine callsIn_FW.2 (hc.mono ?_)
    rintro e w2 ⟨v, rfl, _, φ', τ', ⟨_, hl, hD, hl2, hD2, en4, hRS4, hdis⟩, hφ, hτ, hx2⟩
    have hlne : w.heap.size + 1 ≠ w.heap.size := by omega
    have hll : w.heap.size + 1 < w2.heap.size := (hφ _ hl).2
    have fin : ∀ st pe, Inv G X ok0 w0 tv (S n) { a with defers := { target := .collected w.heap.size, args := #[] } :: a.defers } (w2.putObj (w.heap.size + 1) (.loop (rec st pe))) { en4 with ds := fun d => en.ds d ∨ d = w.heap.size } := by
      intro st pe
      have hsz : (w2.putObj (w.heap.size + 1) (.loop (rec st pe))).heap.size = w2.heap.size := World.putObj_size
      have hw12 : w.heap.size + 2 ≤ w2.heap.size := by have := hx2.size; omega
      have hother : ∀ c, c ≠ w.heap.size + 1 → (w2.putObj (w.heap.size + 1) (.loop (rec st pe))).heap[c]? = w2.heap[c]? := fun c hc => World.putObj_heap_other hc
      have hold : ∀ c, c < w.heap.size → ¬ objs (S 0).ob en c → (w2.putObj (w.heap.size + 1) (.loop (rec st pe))).heap[c]? = w.heap[c]? := fun c hc hno => by
        rw [hother c (by omega), hx2.block c (by omega) (by rintro (e | e | e); exact hno e; omega; omega)]
        exact hx1.block c hc
      have hobX : ∀ c, objs (S 0).ob en c → w0.heap.size ≤ c ∨ X c := fun c ⟨k, o, hk, hc⟩ => (h.mem.obs k o hk).2.1 c hc
      have hφ0 : ∀ c, φ' c → w0.heap.size ≤ c ∨ X c := fun c hc => by
        have := h.mem.ext.size
        rcases (hφ c hc).1 with (e | e | e) | e
        · exact hobX c e
        · exact .inl (by omega)
        · exact .inl (by omega)
        · exact .inl (by omega)
      have hds : ∀ d, en.ds d → d < w.heap.size ∧ ¬ objs (S 0).ob en d := fun d hd => ⟨(h.mem.dsl d hd).2.1, fun ⟨k, o, hk, hc⟩ => (h.mem.dsl d hd).2.2 k o hk hc⟩
      have hdφ : ∀ d, en.ds d → ¬ φ' d := fun d hd hc => by
        obtain ⟨d1, d2⟩ := hds d hd
        rcases (hφ d hc).1 with (e | e | e) | e
        · exact d2 e
        · omega
        · omega
        · omega
      have hτok : ∀ c, τ' c → okS ok0 w0 (w2.putObj (w.heap.size + 1) (.loop (rec st pe))) (S n).ob { en4 with ds := fun d => en.ds d ∨ d = w.heap.size } c := fun c hc => by
        obtain ⟨t1, t2, t3⟩ := hτ c hc
        have hws := h.mem.ext.size
        refine ⟨?_, by rw [hsz]; exact t2, fun k o hk e => t3 ((hRS4.obs k o hk).2.2.2 c e), ?_⟩
        · rcases t1 with e | e | (e | e | e) | e
          · exact e.1
          · exact e.1
          · exact (hobX c e).symm.imp (fun e => (h.mem.xok c e).1) id
          · exact .inr (by omega)
          · exact .inr (by omega)
          · exact .inr (by omega)
        · rintro (hd | rfl)
          · obtain ⟨d1, d2⟩ := hds c hd
            rcases t1 with e | e | (e | e | e) | e
            · exact e.2.2.2 hd
            · exact e.2.2.2 hd
            · exact d2 e
            · omega
            · omega
            · omega
          · exact t3 hD
      have hc4 : Carry w2 (w2.putObj (w.heap.size + 1) (.loop (rec st pe))) τ' (okS ok0 w0 (w2.putObj (w.heap.size + 1) (.loop (rec st pe))) (S n).ob { en4 with ds := fun d => en.ds d ∨ d = w.heap.size }) :=
        ⟨hτok, fun c hc => hother c fun e => (hτ c hc).2.2 (by rw [e]; exact hl), rfl, rfl, rfl, by rw [hsz]; exact Nat.le_refl _⟩
      have hup : EnvUpto (S n).nx en4 { en4 with ds := fun d => en.ds d ∨ d = w.heap.size } := fun _ _ => ⟨rfl, rfl⟩
      refine ⟨⟨h.mem.gr, h.mem.okl, h.mem.xok, ⟨?_, ?_, ?_, ?_, fun c hc hX => ?_, fun hs => by rw [hstr] at hs; cases hs⟩, fun k o hk => ?_, hRS4.inj, ?_⟩, ⟨?_, ?_⟩, ARelL.carry hc4 hup _ _ hRS4.bd hRS4.slots, hRS4.bd, fun t ht => (by rw [hkp] at ht; cases ht), fun hn => (by rw [hnd] at hn; cases hn)⟩
      · exact (hx2.os.trans hx1.below.os).trans h.mem.ext.os
      · exact (hx2.tape.trans hx1.below.tape).trans h.mem.ext.tape
      · exact (hx2.output.trans hx1.below.output).trans h.mem.ext.output
      · have := h.mem.ext.size; rw [hsz]; omega
      · rw [hold c (Nat.lt_of_lt_of_le hc h.mem.ext.size) fun e => (hobX c e).elim (fun e => by omega) hX]
        exact h.mem.ext.block c hc hX
      · obtain ⟨g1, g2, g3, g4⟩ := hRS4.obs k o hk
        exact ⟨g1, fun c hc => hφ0 c (g4 c hc), g2, g3.carry hc4 hup g1 g2 fun c hc => hother c fun e => (hdis k o hk).1 (by rw [← e]; exact hc)⟩
      · have hws := h.mem.ext.size
        rintro d (hd | rfl)
        · obtain ⟨d1, d2⟩ := hds d hd
          exact ⟨(h.mem.dsl d hd).1, by rw [hsz]; omega, fun k o hk e => hdφ d hd ((hRS4.obs k o hk).2.2.2 d e)⟩
        · exact ⟨hws, by rw [hsz]; omega, fun k o hk => (hdis k o hk).2⟩
      · refine List.nodup_cons.2 ⟨fun hm => ?_, h.defs.1⟩
        obtain ⟨D', e, hd', _⟩ := h.defs.2 _ hm
        simp only [Deferred.mk.injEq, Target.collected.injEq] at e
        have := (hds D' hd').1
        omega
      · intro d hm
        rcases List.mem_cons.1 hm with rfl | hm
        · exact ⟨w.heap.size, rfl, .inr rfl, by rw [hother _ (by omega)]; exact hD2⟩
        · obtain ⟨D', e, hd', hh⟩ := h.defs.2 _ hm
          obtain ⟨d1, d2⟩ := hds D' hd'
          exact ⟨D', e, .inl hd', by rw [hold D' d1 d2]; exact hh⟩
    rw [hrec] at fin hl2
    by_cases hb : n = 0 ∨ b (n - 1) = true
    · rw [if_pos hb] at hl2
      exact ⟨none, _, run_endLoop (P := P) hl2 (by simp), hdone _ _ _ (fin .exhausted none) hb⟩
    · rw [if_neg hb] at hl2
      refine ⟨some (jumpOf x), _, run_endLoop (P := P) hl2 (by simp), hjump _ _ _ (fin .exhausted (some (jumpOf x))) (by omega) ?_⟩
      cases hbn : b (n - 1) with
      | true => exact absurd (.inr hbn) hb
      | false => rfl
theorem evalCode_sound : ∀ (c : Code) {lr : Option Nat}, (lr = none ∨ noRange c = true) → ∀ {X : Nat → Prop} {ok0 : Nat → Prop} {w0 : World} {tv : Nat → Value} {st : St} {a : Act} {w : World} {en : Env} {hs : List Hint} {K : Ex → St → List Hint → Prop} {Q : Exit → Act → World → Prop}, Inv G X ok0 w0 tv st a w en → evalCode P G c st hs K →
    (∀ e st' hs' a' w' en', Inv G X ok0 w0 tv st' a' w' en' → K e st' hs' → e.toQ Q a' w') → c.wpIn (FW lr) 0 P Q a w
  | .skip, lr, hn, X, ok0, w0, tv, st, a, w, en, hs, K, Q, h, hv, hQ => wpIn_skip (hQ .normal st hs a w en h hv)
  | .seq x y, lr, hn, X, ok0, w0, tv, st, a, w, en, hs, K, Q, h, hv, hQ => by
    refine wpIn_seq (evalCode_sound x (hn.imp (fun e => e) fun h => by simp only [noRange, Bool.and_eq_true] at h; exact h.1) h hv fun e st' hs' a' w' en' h' hk => ?_)
    cases e with
    | normal => exact evalCode_sound y (hn.imp (fun e => e) fun h => by simp only [noRange, Bool.and_eq_true] at h; exact h.2) h' hk hQ
    | exit id => exact hQ (.exit id) st' hs' a' w' en' h' hk
    | ret => exact hQ .ret st' hs' a' w' en' h' hk
  | .cond c x y, lr, hn, X, ok0, w0, tv, st, a, w, en, hs, K, Q, h, hv, hQ => by
    simp only [evalCode] at hv
    split at hv
    · rename_i b d hs2 hc
      obtain ⟨rfl, hv⟩ := hv
      have hb := (h.opnd c).1
      rw [hc] at hb
      simp only [ARel, FRel] at hb
      refine wpIn_cond hb ?_
      cases b with
      | true => exact evalCode_sound x (hn.imp (fun e => e) fun h => by simp only [noRange, Bool.and_eq_true] at h; exact h.1) h hv hQ
      | false => exact evalCode_sound y (hn.imp (fun e => e) fun h => by simp only [noRange, Bool.and_eq_true] at h; exact h.2) h hv hQ
    · rename_i b h1 h2 hs2 hc
      have hb := (h.opnd c).1
      rw [hc] at hb
      simp only [ARel, FRel] at hb
      refine wpIn_cond hb ?_
      cases b with
      | true => exact evalCode_sound x (hn.imp (fun e => e) fun h => by simp only [noRange, Bool.and_eq_true] at h; exact h.1) h (hv.1 rfl) hQ
      | false => exact evalCode_sound y (hn.imp (fun e => e) fun h => by simp only [noRange, Bool.and_eq_true] at h; exact h.2) h (hv.2 rfl) hQ
    · exact hv.elim
  | .region id ops false, lr, hn, X, ok0, w0, tv, st, a, w, en, hs, K, Q, h, hv, hQ => wp_region_F (evalRow_sound (fun st' hs' a' w' en' h' hk => hQ .normal st' hs' a' w' en' h' hk) _ _ _ _ _ _ _ h hv)
  | .region id ops true, lr, hn, X, ok0, w0, tv, st, a, w, en, hs, K, Q, h, hv, hQ => by
    simp only [evalCode] at hv
    split at hv
    · exact drawn_sound h hv fun st' hs' a' w' en' h' hk => hQ .normal st' hs' a' w' en' h' hk
    · exact drawn_sound h hv fun st' hs' a' w' en' h' hk => hQ .normal st' hs' a' w' en' h' hk
    · exact drawnA_sound h hv fun st' hs' a' w' en' h' hk => hQ .normal st' hs' a' w' en' h' hk
    · have hlr : lr = none := hn.elim (fun e => e) (fun h9 => by
        have h8 := hv.1
        simp only [Bool.and_eq_true] at h8
        simp [noRange, h8.1.1] at h9)
      subst hlr
      exact drawnB_sound h hv fun st' hs' a' w' en' h' hk => hQ .normal st' hs' a' w' en' h' hk
    · have hlr : lr = none := hn.elim (fun e => e) (fun h9 => by
        have h8 := hv.1
        simp only [drawnOkT, Bool.and_eq_true] at h8
        have h7 : (hasTk ops || hasTb ops) = true := h8.1.1.1.1.1.1.1
        simp [noRange, h7] at h9)
      subst hlr
      exact drawnT_sound h hv fun st' hs' a' w' en' h' hk => hQ .normal st' hs' a' w' en' h' hk
    · exact drawnC_sound h hv fun st' hs' a' w' en' h' hk => hQ .normal st' hs' a' w' en' h' hk
    · have hlr : lr = none := hn.elim (fun e => e) (fun h9 => by
        have h8 := hv.1
        simp only [Bool.and_eq_true] at h8
        have h7 := h8.1.1.1.1.1.1.1.1
        simp only [Bool.or_eq_true] at h7
        simp only [noRange, Bool.not_eq_true', Bool.and_eq_false_iff, Bool.or_eq_false_iff] at h9
        rcases h9 with h9 | h9
        · cases h9
        · rcases h7 with (h7 | h7) | h7
          · rw [h7] at h9; exact absurd h9.1.1 (by simp)
          · rw [h7] at h9; exact absurd h9.1.2 (by simp)
          · rw [h7] at h9; exact absurd h9.2 (by simp))
      subst hlr
      exact drawnE_sound h hv fun st' hs' a' w' en' h' hk => hQ .normal st' hs' a' w' en' h' hk
    · obtain ⟨hv, hc⟩ := hv
      have hlr : lr = none := hn.elim (fun e => e) (fun h9 => by
        have h8 := hv.1
        simp only [Bool.and_eq_true] at h8
        simp [noRange, h8.1.1] at h9)
      subst hlr
      exact drawnB_sound h hv fun st' hs' a' w' en' h' hk => by
        obtain ⟨en'', h''⟩ := weak_inv h' hk
        exact hQ .normal _ _ a' w' en'' h'' hc
    · exact hv.elim
  | .block id c, lr, hn, X, ok0, w0, tv, st, a, w, en, hs, K, Q, h, hv, hQ => by
    refine wpIn_block (evalCode_sound c (hn.imp (fun e => e) fun h => by simpa only [noRange] using h) h hv fun e st' hs' a' w' en' h' hk => ?_)
    cases e with
    | normal => exact hQ .normal st' hs' a' w' en' h' hk
    | ret => exact hQ .ret st' hs' a' w' en' h' hk
    | exit i =>
      simp only [Ex.toQ, Exit.inBlock] at hk ⊢
      split at hk
      · rename_i e; rw [if_pos e]; exact hQ .normal st' hs' a' w' en' h' hk
      · rename_i e; rw [if_neg e]; exact hQ (.exit i) st' hs' a' w' en' h' hk
  | .loop c, lr, hn, X, ok0, w0, tv, st, a, w, en, hs, K, Q, h, hv, hQ => by
    simp only [evalCode] at hv
    obtain ⟨st1, hs1, en1, h, hv⟩ := preL_inv h hv
    split at hv
    · rename_i ρ0 ρ1 S N H hs2
      obtain ⟨h0, h1, h2⟩ := hv
      refine wp_loop_idx (fun i a w => ∃ en, Inv G X ok0 w0 tv (S i) a w en) N (weak_inv h h0) ?_ ?_
      · rintro i a w hi ⟨en, h'⟩
        refine evalCode_sound c (hn.imp (fun e => e) fun h => by simpa only [noRange] using h) h' (h1 i hi) fun e st' hs' a' w' en' h' hk => ?_
        cases e with
        | normal => exact weak_inv h' hk
        | exit _ => exact hk.elim
        | ret => exact hk.elim
      · rintro a w ⟨en, h'⟩
        refine evalCode_sound c (hn.imp (fun e => e) fun h => by simpa only [noRange] using h) h' h2 fun e st' hs' a' w' en' h' hk => ?_
        cases e with
        | normal => exact hk.elim
        | exit id => exact hQ (.exit id) st' hs' a' w' en' h' hk
        | ret => exact hQ .ret st' hs' a' w' en' h' hk
    · exact hv.elim
  | .exit id, lr, hn, X, ok0, w0, tv, st, a, w, en, hs, K, Q, h, hv, hQ => wpIn_exit (hQ (.exit id) st hs a w en h hv)
  | .ret, lr, hn, X, ok0, w0, tv, st, a, w, en, hs, K, Q, h, hv, hQ => wpIn_ret (hQ .ret st hs a w en h hv)
  | .label l, lr, hn, X, ok0, w0, tv, st, a, w, en, hs, K, Q, h, hv, hQ => wpIn_label (hQ .normal st hs a w en h hv)
  | .goto _, lr, hn, X, ok0, w0, tv, st, a, w, en, hs, K, Q, h, hv, hQ => by simp [evalCode] at hv
  | .scope .., lr, hn, X, ok0, w0, tv, st, a, w, en, hs, K, Q, h, hv, hQ => by simp [evalCode] at hv
  | .refuse _, lr, hn, X, ok0, w0, tv, st, a, w, en, hs, K, Q, h, hv, hQ => by simp [evalCode] at hv
  | .rangeFunc g ps assign body, lr, hn, X, ok0, w0, tv, st, a, w, en, hs, K, Q, h, hv, hQ => by
    have hlr : lr = none := hn.elim (fun e => e) (fun h => by simp [noRange] at h)
    subst hlr
    simp only [evalCode] at hv
    obtain ⟨st0, hs0, en0, h, hv⟩ := preL_inv h hv
    split at hv
    · rename_i gf first caps ρ0 S n it b r x H hs2 hg
      obtain ⟨hw, hstr, hb, hsl, hcall, hrounds, hend⟩ := hv
      simp only [Bool.and_eq_true, Bool.not_eq_true', List.isEmpty_iff] at hb
      obtain ⟨⟨⟨⟨hn1, hn2⟩, hent⟩, hkp⟩, hnd⟩ := hb
      have hgv := (h.opnd g).1
      rw [hg] at hgv
      simp only [ARel, FRel] at hgv
      obtain ⟨fs, cs, hgv, hfs, hcs⟩ := hgv
      obtain ⟨en1, h1, hok⟩ := weak_inv2 h hw
      refine range_sound (r := r) (x := x) h1 hgv (FRelL.carry (Carry.same w hok) _ _ hfs) (FRelL.carry (Carry.same w hok) _ _ hcs) hstr hent hkp hnd (fun i hi => of_decide_eq_true (hsl i hi)) (fun i hi => of_decide_eq_true (hrounds i hi).1) hcall ?_ ?_ ?_
      · intro l i hi X' ok' w a en hinv
        refine evalCode_sound assign (.inr hn1) hinv (hrounds i hi).2 fun e st1 hs1 a1 w1 en1 h1 hk => ?_
        cases e with
        | normal =>
          refine ⟨st1, en1, hk.1, h1, fun X2 ok2 w2 en2 h2 => evalCode_sound body (.inr hn2) h2 hk.2 fun e2 st3 hs3 a3 w3 en3 h3 hk3 => ?_⟩
          cases e2 with
          | normal => exact ⟨st3, en3, _, h3, hk3.2, hk3.1⟩
          | exit id => exact ⟨st3, en3, _, h3, hk3.2, hk3.1.1, by rw [hk3.1.2.2]; rfl⟩
          | ret => exact ⟨st3, en3, _, h3, hk3.2, hk3.1.1, by rw [hk3.1.2.2]; rfl⟩
        | exit id => exact hk.elim
        | ret => exact hk.elim
      · intro a' w' en' h' hb
        split at hend
        · exact hQ .normal _ _ a' w' en' h' hend.2
        · rcases hb with hb | hb
          · have := hend.1.1; omega
          · rw [hend.1.2] at hb; cases hb
        · rcases hb with hb | hb
          · have := hend.1.1; omega
          · rw [hend.1.2] at hb; cases hb
        · exact hend.elim
      · intro a' w' en' h' h0 hb
        split at hend
        · rw [hend.1 h0] at hb; cases hb
        · exact wpIn_exit (hQ (.exit _) _ _ a' w' en' h' hend.2)
        · exact wpIn_ret (hQ .ret _ _ a' w' en' h' hend.2)
        · exact hend.elim
    · exact hv.elim
/-! ### Results -/
theorem loadVar_of {t : TypeId} {u v : Value} {x r : AV} (h : loadP P st t x = some r) (hm : Mem G X ok0 w0 st.ob st.nx w en) (hx : ARel w (okS ok0 w0 w st.ob en) en x u) (hr : (Instr.loadAt t u).run P w = .ok v w) :
    (do loadVar t (← asAddr u) : Sem Value).run P w = .ok v w := by
  have hp : ∃ ad, u = .pointer (some ad) := by
    unfold loadP at h
    split at h
    · simp only [ARel, FRel] at hx
      obtain ⟨b, o, rfl, _⟩ := hx
      exact ⟨_, rfl⟩
    · simp only [ARel] at hx
      obtain ⟨b, _, rfl⟩ := hx
      exact ⟨_, rfl⟩
    · cases h
  obtain ⟨ad, rfl⟩ := hp
  simpa [Instr.loadAt, Instr.sureAddr, asAddr] using hr
def resOf (tmps : Array Value) : ResultVar → Sem Value
  | .tmp t => pure (tmps.getD t undef)
  | .cell p t => do loadVar t (← asAddr (tmps.getD p undef))
theorem resultAV_sound (h : Inv G X ok0 w0 tv st a w en) {r : ResultVar} {x : AV} (hr : resultAV P st r = some x) :
    ∃ v, (resOf a.tmps r).run P w = .ok v w ∧ ARel w (okS ok0 w0 w st.ob en) en x v := by
  cases r with
  | tmp t =>
    simp only [resultAV, Option.some.injEq] at hr
    subst hr
    exact ⟨_, rfl, (h.opnd (.tmp t)).1⟩
  | cell p t =>
    simp only [resultAV] at hr
    have hx := (h.opnd (.tmp p)).1
    simp only [St.opnd, Act.eval] at hx
    obtain ⟨v, h1, h2, _⟩ := loadP_sound h.mem hr hx
    exact ⟨v, loadVar_of hr h.mem hx h1, h2⟩
theorem resultsL_sound (h : Inv G X ok0 w0 tv st a w en) : ∀ (rs : List ResultVar) (xs : List AV), resultsL P st rs = some xs →
    ∃ vs, (rs.mapM (resOf a.tmps)).run P w = .ok vs w ∧ ARelL w (okS ok0 w0 w st.ob en) en xs vs
  | [], xs, hx => by
    simp only [resultsL, Option.some.injEq] at hx
    subst hx
    exact ⟨[], rfl, by simp [ARelL]⟩
  | r :: rs, xs, hx => by
    simp only [resultsL] at hx
    split at hx
    · rename_i v vs hv hvs
      simp only [Option.some.injEq] at hx
      subst hx
      obtain ⟨u, h1, h2⟩ := resultAV_sound h hv
      obtain ⟨us, h3, h4⟩ := resultsL_sound h rs vs hvs
      refine ⟨u :: us, ?_, by simp only [ARelL]; exact ⟨u, us, rfl, h2, h4⟩⟩
      rw [List.mapM_cons]
      simp only [Sem.run_bind, h1, h3, Result.andThen]
      rfl
    · cases hx
theorem results_sound {fn : Func} {r : FV} (h : Inv G X ok0 w0 tv st a w en) (hr : resultsF P st fn = some r) : ∃ v, (results fn a.tmps).run P w = .ok v w ∧ FRel w (okS ok0 w0 w st.ob en) r v := by
  have hmap : ∀ (vs : List Value), (fn.results.toList.mapM (resOf a.tmps)).run P w = .ok vs w →
      (results fn a.tmps).run P w = .ok (if h : vs.toArray.size = 1 then vs.toArray[0] else .tuple vs.toArray) w := by
    intro vs hvs
    unfold results
    change Sem.run P (do let vs ← fn.results.mapM (resOf a.tmps); pure (if h : vs.size = 1 then vs[0] else .tuple vs)) w = _
    rw [← Array.toArray_toList (xs := fn.results), List.mapM_toArray]
    simp only [map_eq_pure_bind, bind_assoc, pure_bind, Sem.run_bind]
    rw [hvs]
    rfl
  unfold resultsF at hr
  split at hr
  · rename_i x hx
    obtain ⟨vs, h1, h2⟩ := resultsL_sound h _ _ hx
    simp only [ARelL] at h2
    obtain ⟨v, l, rfl, h3, rfl⟩ := h2
    exact ⟨v, by rw [hmap _ h1]; rfl, AV.toF_rel _ _ _ hr h3⟩
  · rename_i l hne hl
    split at hr
    · rename_i l' hl'
      simp only [Option.some.injEq] at hr
      subst hr
      obtain ⟨vs, h1, h2⟩ := resultsL_sound h _ _ hl
      refine ⟨.tuple vs.toArray, ?_, by simp only [FRel]; exact ⟨vs, rfl, toFL_rel _ _ _ hl' h2⟩⟩
      rw [hmap _ h1, dif_neg]
      rw [List.size_toArray, ARelL.length _ _ h2]
      intro e
      obtain ⟨x, rfl⟩ := List.length_eq_one_iff.1 e
      exact hne x rfl
    · cases hr
  · cases hr
theorem FRelL.toA {ok : Nat → Prop} : ∀ (l : List FV) (vs : List Value), FRelL w ok l vs → ARelL w ok en (l.map .f) vs ∧ ∀ n, bdL n (l.map .f)
  | [], vs, h => by simp only [FRelL] at h; simp [h, ARelL, bdL]
  | x :: l, vs, h => by
    simp only [FRelL] at h
    obtain ⟨v, r, rfl, h1, h2⟩ := h
    have := FRelL.toA l r h2
    simp only [List.map_cons, ARelL, bdL, AV.bd]
    exact ⟨⟨v, r, rfl, by simpa [ARel] using h1, this.1⟩, fun n => ⟨trivial, this.2 n⟩⟩
theorem undefs_rel {ok : Nat → Prop} : ∀ n : Nat, ARelL w ok en (List.replicate n (.f (.sc undef))) (List.replicate n undef) ∧ ∀ m, bdL m (List.replicate n (.f (.sc undef)))
  | 0 => by simp [ARelL, bdL]
  | n + 1 => by
    have := undefs_rel (ok := ok) n
    simp only [List.replicate_succ, ARelL, bdL, AV.bd]
    exact ⟨⟨undef, _, rfl, by simp [ARel, FRel], this.1⟩, fun m => ⟨trivial, this.2 m⟩⟩
theorem ARelL.append {ok : Nat → Prop} : ∀ (l m : List AV) (u v : List Value), ARelL w ok en l u → ARelL w ok en m v → ARelL w ok en (l ++ m) (u ++ v)
  | [], m, u, v, h, k => by simp only [ARelL] at h; simpa [h] using k
  | x :: l, m, u, v, h, k => by
    simp only [ARelL] at h
    obtain ⟨a, r, rfl, h1, h2⟩ := h
    simp only [List.cons_append, ARelL]
    exact ⟨a, r ++ v, rfl, h1, ARelL.append l m r v h2 k⟩
theorem bdL.append {n : Nat} : ∀ (l m : List AV), bdL n l → bdL n m → bdL n (l ++ m)
  | [], m, _, k => k
  | x :: l, m, h, k => by simp only [List.cons_append, bdL] at h ⊢; exact ⟨h.1, bdL.append l m h.2 k⟩
/-! ### The way out -/
theorem Inv.shut (h : Inv G X ok0 w0 tv st a w en) {d : Deferred} {l : List Deferred} (he : a.defers = d :: l) :
    ∃ D, d.target = .collected D ∧ (Instr.takeDeferred D).run P w = .ok [] (w.putObj D (.deferred none)) ∧ Inv G X ok0 w0 tv st { a with defers := l } (w.putObj D (.deferred none)) en := by
  have hdf := h.defs
  rw [he] at hdf
  obtain ⟨hn, hm⟩ := hdf
  obtain ⟨D, rfl, hD, hh⟩ := hm d (by simp)
  obtain ⟨d1, d2, d3⟩ := h.mem.dsl D hD
  have hsame : ∀ b, b ≠ D → (w.putObj D (.deferred none)).heap[b]? = w.heap[b]? := fun b hb => World.putObj_heap_other hb
  have hsz : (w.putObj D (.deferred none)).heap.size = w.heap.size := by simp [World.putObj]
  have hc : Carry w (w.putObj D (.deferred none)) (okS ok0 w0 w st.ob en) (okS ok0 w0 (w.putObj D (.deferred none)) st.ob en) :=
    ⟨fun b hb => ⟨hb.1, by rw [hsz]; exact hb.2.1, hb.2.2⟩, fun b hb => hsame b fun e => hb.2.2.2 (by rw [e]; exact hD), rfl, rfl, rfl, by rw [hsz]; exact Nat.le_refl _⟩
  refine ⟨D, rfl, run_takeDeferred hh, ⟨h.mem.gr, h.mem.okl, h.mem.xok, ⟨h.mem.ext.os, h.mem.ext.tape, h.mem.ext.output, by rw [hsz]; exact h.mem.ext.size, fun b hb hX => ?_, h.mem.ext.dr⟩, fun k o hk => ?_, h.mem.inj, fun E hE => ?_⟩, ⟨(List.nodup_cons.1 hn).2, fun e he' => ?_⟩, ARelL.carry hc (EnvUpto.refl _ _) _ _ h.bd h.slots, h.bd, h.keep, fun hn => by have := h.nod hn; rw [he] at this; cases this⟩
  · rw [hsame b (by omega)]; exact h.mem.ext.block b hb hX
  · obtain ⟨g1, g2, g3, g4⟩ := h.mem.obs k o hk
    exact ⟨g1, g2, g3, g4.carry hc (EnvUpto.refl _ _) g1 g3 fun b hb => hsame b fun e => d3 k o hk (by rw [← e]; exact hb)⟩
  · rw [hsz]; exact h.mem.dsl E hE
  · obtain ⟨E, rfl, hE, hhE⟩ := hm e (List.mem_cons_of_mem _ he')
    refine ⟨E, rfl, hE, ?_⟩
    rw [hsame E fun e2 => ?_]
    · exact hhE
    · subst e2
      exact (List.nodup_cons.1 hn).1 he'
/-- A function leaves, marks and all. -/
theorem leaves_of_inv {fn : Func} {R : Ending → World → Prop} (tmps : Array Value) (hfin : ∀ a' w', a'.tmps = tmps → Inv G X ok0 w0 tv st a' w' en → ∃ v, (results fn tmps).run P w' = .ok v w' ∧ R (.returned v) w') :
    ∀ (l : List Deferred) (a : Act) (w : World), a.defers = l → a.tmps = tmps → Inv G X ok0 w0 tv st a w en → LeavesInM (FW none) 0 P fn tmps R l .returning w
  | [], a, w, he, ht, h => hfin a w ht h
  | d :: l, a, w, he, ht, h => by
    obtain ⟨D, h1, h2, h3⟩ := Inv.shut (P := P) h he
    exact ⟨by simp, .inl ⟨D, _, h1, h2, leaves_of_inv tmps hfin l { a with defers := l } _ rfl ht h3⟩⟩
theorem calls_of_inv {f : Nat} {fn : Func} {c : Code} {args : Array Value} {w1 : World} {R : Ending → World → Prop} (hf : P.funcs[f]? = some fn) (hb : fn.body = some c)
    (h : c.wpIn (FW none) 0 P (bodyPostM (FW none) 0 P fn R) { tmps := args ++ Array.replicate (fn.ntmps - args.size) undef, defers := [] } w1) : Calls P f args w1 R :=
  callsIn_FW.1 (callsIn_of_wp_marks (F := FW none) (n := 0) hf hb trivial h)
theorem fnSt_inv {fn : Func} {args : List FV} {vs : List Value} {ok : Nat → Prop} (hg : G.p w) (hok : ∀ b, ok b → b < w.heap.size) (h : FRelL w ok args vs) :
    Inv G (opt none) ok w (fun _ => undef) (fnSt fn args) { tmps := vs.toArray ++ Array.replicate (fn.ntmps - vs.toArray.size) undef, defers := [] } w { ds := fun _ => False, blk := fun _ => opt none, val := fun _ => undef } := by
  have hc : Carry w w ok (okS ok w w [] { ds := fun _ => False, blk := fun _ => opt none, val := fun _ => undef }) := Carry.same w fun b hb => ⟨.inl hb, hok b hb, fun k o hk => by simp [getOb] at hk, id⟩
  have h1 := FRelL.toA (en := { ds := fun _ => False, blk := fun _ => opt none, val := fun _ => undef }) _ _ (FRelL.carry hc _ _ h)
  have h2 := undefs_rel (w := w) (ok := okS ok w w [] { ds := fun _ => False, blk := fun _ => opt none, val := fun _ => undef }) (en := { ds := fun _ => False, blk := fun _ => opt none, val := fun _ => undef }) (fn.ntmps - args.length)
  refine ⟨⟨hg, hok, by simp, (Ext.refl w).toX, fun k o hk => by simp [fnSt, getOb] at hk, fun j k o p hj => by simp [fnSt, getOb] at hj, fun D hD => hD.elim⟩, ⟨List.nodup_nil, by simp⟩, ?_, ?_, fun t ht => (by cases ht), fun hn => (by cases hn)⟩
  · simp only [fnSt, Array.toList_append, Array.toList_replicate, List.size_toArray]
    rw [FRelL.length _ _ h]
    exact ARelL.append _ _ _ _ h1.1 h2.1
  · exact bdL.append _ _ (h1.2 _) (h2.2 _)
/-- THE LAW: what was evaluated is what a call does. -/
theorem CallsF_of_evalFn {f : Nat} {fn : Func} {args : List FV} {hs : List Hint} {r : FV} (hf : P.funcs[f]? = some fn) (he : entersP P f = true) (h : evalFn P G fn args hs r) : CallsF P G f args r := by
  intro w ok vs hg hok hv
  unfold CallY
  rw [run_enter he]
  simp only
  unfold evalFn at h
  split at h
  · exact h.elim
  · rename_i c hb
    refine calls_of_inv hf hb (evalCode_sound (X := opt none) (ok0 := ok) (w0 := w) c (.inl rfl) (fnSt_inv hg hok hv) h ?_)
    have fin : ∀ (st' : St) (hs' : List Hint) (a' : Act) (w' : World) (en' : Env), Inv G (opt none) ok w (fun _ => undef) st' a' w' en' → (match st'.frzs (match hs' with | .frz ks :: _ => ks | .lfz ks :: _ => ks | _ => []) with
        | none => False
        | some st => match resultsF P st fn with
          | some v => v = r
          | none => False) → LeavesInM (FW none) 0 P fn a'.tmps (fun e w'' => ∃ u, e = .returned u ∧ FRel w'' (fun b => ok b ∨ (w.heap.size ≤ b ∧ b < w''.heap.size)) r u ∧ Ext G w w'') a'.defers .returning w' := by
      intro st' hs' a' w' en' h' hk
      split at hk
      · exact hk.elim
      · rename_i st2 hfz
        have h2 := St.frzs_inv _ h' hfz
        split at hk
        · rename_i v hr
          subst hk
          refine leaves_of_inv a'.tmps (fun a2 w2 ht h2 => ?_) a'.defers a' w' rfl rfl h2
          obtain ⟨u, h3, h4⟩ := results_sound h2 hr
          rw [ht] at h3
          refine ⟨u, h3, u, rfl, FRel.carry (Carry.same w2 fun b hb => ?_) _ _ h4, h2.mem.ext.ofX⟩
          rcases hb.1 with hb1 | hb1
          · exact .inl hb1
          · exact .inr ⟨hb1, hb.2.1⟩
        · exact hk.elim
    intro e st' hs' a' w' en' h' hk
    cases e with
    | normal => exact fin st' hs' a' w' en' h' hk
    | exit _ => exact hk.elim
    | ret => exact fin st' hs' a' w' en' h' hk
/-! ### Functions that tell a row of their own, or write into one -/
def frzOf : List Hint → List Nat
  | .frz ks :: _ => ks
  | .lfz ks :: _ => ks
  | _ => []
def rowOf (P : Program) (st : St) (fn : Func) : Option (Nat × Nat × Nat × List (List FV)) :=
  match resultsL P st fn.results.toList with
  | some [.lsl k] => match getOb k st.ob with
    | some (.row sz e es) => some (k, e, sz, es)
    | _ => none
  | _ => none
def evalFnO (P : Program) (G : Gr) (fn : Func) (args : List FV) (hs : List Hint) (e sz : Nat) (es : List (List FV)) : Prop :=
  match fn.body with
  | none => False
  | some c => evalCode P G c (fnSt fn args) hs fun ex st hs =>
    match ex with
    | .exit _ => False
    | _ => match st.frzs (frzOf hs) with
      | none => False
      | some st => match rowOf P st fn with
        | some (_, e', sz', es') => e' = e ∧ sz' = sz ∧ es' = es
        | none => match resultsF P st fn with
          | some .nils => es = []
          | _ => False
theorem row_result {fn : Func} {k e sz : Nat} {es : List (List FV)} (h : Inv G X ok0 w0 tv st a w en) (hr : rowOf P st fn = some (k, e, sz, es)) :
    ∃ v xs, (results fn a.tmps).run P w = .ok v w ∧ w.ownsRow 0 e sz v es.length xs ∧ FRelL w (okS ok0 w0 w st.ob en) es.flatten xs ∧ (∀ x ∈ es, x.length = sz) ∧ en.blk k = opt v.ownBlock ∧ getOb k st.ob = some (.row sz e es) := by
  unfold rowOf at hr
  split at hr
  · rename_i k' hx
    split at hr
    · rename_i sz' e' es' hk
      simp only [Option.some.injEq, Prod.mk.injEq] at hr
      obtain ⟨rfl, rfl, rfl, rfl⟩ := hr
      obtain ⟨vs, h1, h2⟩ := resultsL_sound h _ _ hx
      simp only [ARelL, ARel] at h2
      obtain ⟨v, l, rfl, ⟨hv, _⟩, rfl⟩ := h2
      obtain ⟨g1, g2, g3, xs, r1, r2, r3, r4⟩ := h.mem.obs _ _ hk
      have hmap : (results fn a.tmps).run P w = .ok v w := by
        unfold results
        change Sem.run P (do let vs ← fn.results.mapM (resOf a.tmps); pure (if h : vs.size = 1 then vs[0] else .tuple vs)) w = _
        rw [← Array.toArray_toList (xs := fn.results), List.mapM_toArray]
        simp only [map_eq_pure_bind, bind_assoc, pure_bind, Sem.run_bind]
        rw [h1]
        rfl
      exact ⟨v, xs, hmap, by rw [hv]; exact r1, r3, r4, by rw [hv]; exact r2, hk⟩
    · cases hr
  · cases hr
theorem CallsO_of_evalFnO {f : Nat} {fn : Func} {args : List FV} {hs : List Hint} {e sz : Nat} {es : List (List FV)} (hf : P.funcs[f]? = some fn) (he : entersP P f = true) (h : evalFnO P G fn args hs e sz es) : CallsO P G f args e sz es := by
  intro w ok vs hg hok hv
  unfold CallY
  rw [run_enter he]
  simp only
  unfold evalFnO at h
  split at h
  · exact h.elim
  · rename_i c hb
    refine calls_of_inv hf hb (evalCode_sound (X := opt none) (ok0 := ok) (w0 := w) c (.inl rfl) (fnSt_inv hg hok hv) h ?_)
    intro ex st' hs' a' w' en' h' hk
    have fin : (match st'.frzs (frzOf hs') with
      | none => False
      | some st => match rowOf P st fn with
        | some (_, e', sz', es') => e' = e ∧ sz' = sz ∧ es' = es
        | none => match resultsF P st fn with
          | some .nils => es = []
          | _ => False) → LeavesInM (FW none) 0 P fn a'.tmps (fun e2 w'' => ∃ u, e2 = .returned u ∧ ∃ xs, w''.ownsRow w.heap.size e sz u es.length xs ∧
      FRelL w'' (fun b => (ok b ∨ (w.heap.size ≤ b ∧ b < w''.heap.size)) ∧ u.ownBlock ≠ some b) es.flatten xs ∧ (∀ x ∈ es, x.length = sz) ∧ Ext G w w'') a'.defers .returning w' := by
      intro hk
      split at hk
      · exact hk.elim
      · rename_i st2 hfz
        have h2 := St.frzs_inv _ h' hfz
        split at hk
        · rename_i k e' sz' es' hr
          obtain ⟨rfl, rfl, rfl⟩ := hk
          refine leaves_of_inv a'.tmps (fun a2 w2 ht h2 => ?_) a'.defers a' w' rfl rfl h2
          obtain ⟨v, xs, h3, h4, h5, h6, h7, h8⟩ := row_result h2 hr
          rw [ht] at h3
          refine ⟨v, h3, v, rfl, xs, ownsRow_base h4 (fun b hb => ?_), FRelL.mono (fun b hb => ?_) _ _ h5, h6, h2.mem.ext.ofX⟩
          · rcases (h2.mem.obs k _ h8).2.1 b (by rw [h7]; exact hb) with h9 | h9
            · exact h9
            · cases h9
          · refine ⟨hb.1.imp id fun h9 => ⟨h9, hb.2.1⟩, ?_⟩
            exact fun e => hb.2.2.1 k _ h8 (by rw [h7]; exact e)
        · split at hk
          · rename_i hr2
            subst hk
            refine leaves_of_inv a'.tmps (fun a2 w2 ht h2 => ?_) a'.defers a' w' rfl rfl h2
            obtain ⟨v, h3, h4⟩ := results_sound h2 hr2
            rw [ht] at h3
            simp only [FRel] at h4
            subst h4
            refine ⟨_, h3, _, rfl, [], World.ownsRow_nil _ _ _ _, ?_, ?_, h2.mem.ext.ofX⟩
            · simp [FRelL]
            · simp
          · exact hk.elim
    cases ex with
    | normal => exact fin hk
    | exit _ => exact hk.elim
    | ret => exact fin hk
/-! ### Functions that call a yielder -/
mutual
/-- It names no memory. -/
def FV.flat : FV → Bool
  | .sc _ => true
  | .nils => true
  | .tup l => flatL l
  | .agg l => flatL l
  | _ => false
def flatL : List FV → Bool
  | [] => true
  | x :: l => x.flat && flatL l
end
mutual
theorem FV.flat_rel {ok ok' : Nat → Prop} : ∀ (x : FV) (v : Value), x.flat = true → FRel w ok x v → FRel w ok' x v
  | .sc _, v, _, h => by simpa [FRel] using h
  | .nils, v, _, h => by simpa [FRel] using h
  | .tup l, v, hf, h => by
    simp only [FRel] at h ⊢
    obtain ⟨cs, e, h⟩ := h
    exact ⟨cs, e, flatL_rel l cs (by simpa [FV.flat] using hf) h⟩
  | .agg l, v, hf, h => by
    simp only [FRel] at h ⊢
    obtain ⟨cs, e, h⟩ := h
    exact ⟨cs, e, flatL_rel l cs (by simpa [FV.flat] using hf) h⟩
  | .ptr _ _, _, hf, _ => by simp [FV.flat] at hf
  | .sl _ _, _, hf, _ => by simp [FV.flat] at hf
  | .fn _ _ _, _, hf, _ => by simp [FV.flat] at hf
  | .any, _, hf, _ => by simp [FV.flat] at hf
theorem flatL_rel {ok ok' : Nat → Prop} : ∀ (l : List FV) (vs : List Value), flatL l = true → FRelL w ok l vs → FRelL w ok' l vs
  | [], vs, _, h => by simpa [FRelL] using h
  | x :: l, vs, hf, h => by
    simp only [FRelL] at h ⊢
    simp only [flatL, Bool.and_eq_true] at hf
    obtain ⟨v, r, e, h1, h2⟩ := h
    exact ⟨v, r, e, FV.flat_rel x v hf.1 h1, flatL_rel l r hf.2 h2⟩
end
def fnStX (fn : Func) (args : List FV) (Y : Yd) (i : Nat) : St := { sl := args.map .f ++ List.replicate (fn.ntmps - args.length) (.f (.sc undef)), ob := [(0, .yd Y i)], nx := 1 }
/-- The yielder's number. -/
def ydK : List (Nat × Ob) → Nat
  | [] => 0
  | (k, .yd _ _) :: _ => k
  | _ :: l => ydK l
def evalFnX (P : Program) (G : Gr) (fn : Func) (args : List FV) (Y : Yd) (i : Nat) (hs : List Hint) (r : FV) (i' : Nat) : Prop :=
  match fn.body with
  | none => False
  | some c => r.flat = true ∧ evalCode P G c (fnStX fn args Y i) hs fun e st hs =>
    match e with
    | .exit _ => False
    | _ => match st.frzs (frzOf hs) with
      | none => False
      | some st => match getOb (ydK st.ob) st.ob, resultsF P st fn with
        | some (.yd Y2 i2), some v => Y2 = Y ∧ i2 = i' ∧ v = r
        | _, _ => False
/-- THE LAW, for functions that call a yielder. -/
theorem CallsX_of_evalFnX {f : Nat} {fn : Func} {args : List FV} {Y : Yd} {i i' : Nat} {hs : List Hint} {r : FV} (hf : P.funcs[f]? = some fn) (he : entersP P f = true) (h : evalFnX P G fn args Y i hs r i') : CallsX P G f args Y i r i' := by
  intro w φ τ ok vs hp hv
  unfold CallY
  rw [run_enter he]
  simp only
  unfold evalFnX at h
  split at h
  · exact h.elim
  · rename_i c hb
    obtain ⟨hflat, h⟩ := h
    let en0 : Env := { ds := fun _ => False, blk := fun k => if k = 0 then φ else opt none, val := fun _ => undef }
    have hinit : Inv G φ (fun b => τ b ∨ ok b ∨ φ b) w (fun _ => undef) (fnStX fn args Y i) { tmps := vs.toArray ++ Array.replicate (fn.ntmps - vs.toArray.size) undef, defers := [] } w en0 := by
      have hob : ∀ k o, getOb k (fnStX fn args Y i).ob = some o → k = 0 ∧ o = .yd Y i := by
        intro k o hk
        simp only [fnStX, getOb] at hk
        split at hk
        · rename_i e0; simp only [Option.some.injEq] at hk; exact ⟨e0.symm, hk.symm⟩
        · cases hk
      have hok : ∀ b, (τ b ∨ ok b) → b < w.heap.size ∧ ¬ φ b → okS (fun b => τ b ∨ ok b ∨ φ b) w w (fnStX fn args Y i).ob en0 b := fun b h0 hb => ⟨.inl (h0.imp id .inl), hb.1, fun k o hk => by
        obtain ⟨rfl, _⟩ := hob k o hk
        exact hb.2, id⟩
      have h1 := FRelL.toA (en := en0) _ _ (FRelL.mono (fun b hb => hok b (.inr hb) (hp.okl b hb)) _ _ hv)
      have h2 := undefs_rel (w := w) (ok := okS (fun b => τ b ∨ ok b ∨ φ b) w w (fnStX fn args Y i).ob en0) (en := en0) (fn.ntmps - args.length)
      refine ⟨⟨hp.gr, fun b hb => hb.elim (fun hb => (hp.rd b hb).1) (fun hb => hb.elim (fun hb => (hp.okl b hb).1) (fun hb => (hp.own b hb).1)), fun b hb => ⟨.inr (.inr hb), (hp.own b hb).2⟩, (Ext.refl w).toX, ?_, ?_, fun D hD => hD.elim⟩, ⟨List.nodup_nil, by simp⟩, ?_, ?_, fun t ht => (by cases ht), fun hn => (by cases hn)⟩
      · intro k o hk
        obtain ⟨rfl, rfl⟩ := hob k o hk
        exact ⟨by simp [fnStX], fun b hb => .inr (by simpa [en0] using hb), trivial, τ, by simpa [en0] using hp.st, fun b hb => hok b (.inl hb) (hp.rd b hb), fun b hb => (hp.own b (by simpa [en0] using hb)).1⟩
      · intro j k o p hj hk hne
        obtain ⟨rfl, _⟩ := hob j o hj
        obtain ⟨rfl, _⟩ := hob k p hk
        exact absurd rfl hne
      · simp only [fnStX, Array.toList_append, Array.toList_replicate, List.size_toArray]
        rw [FRelL.length _ _ hv]
        exact ARelL.append _ _ _ _ h1.1 h2.1
      · exact bdL.append _ _ (h1.2 _) (h2.2 _)
    refine calls_of_inv hf hb (evalCode_sound c (.inl rfl) hinit h ?_)
    have fin : ∀ (st' : St) (hs' : List Hint) (a' : Act) (w' : World) (en' : Env), Inv G φ (fun b => τ b ∨ ok b ∨ φ b) w (fun _ => undef) st' a' w' en' → (match st'.frzs (frzOf hs') with
        | none => False
        | some st => match getOb (ydK st.ob) st.ob, resultsF P st fn with
          | some (.yd Y2 i2), some v => Y2 = Y ∧ i2 = i' ∧ v = r
          | _, _ => False) → LeavesInM (FW none) 0 P fn a'.tmps (fun e w'' => ∃ u, e = .returned u ∧ FRel w'' (fun _ => False) r u ∧ YPost G Y i' w φ τ ok w'') a'.defers .returning w' := by
      intro st' hs' a' w' en' h' hk
      split at hk
      · exact hk.elim
      · rename_i st2 hfz
        have h2 := St.frzs_inv _ h' hfz
        split at hk
        · rename_i Y2 i2 v hk2 hr
          obtain ⟨rfl, rfl, rfl⟩ := hk
          refine leaves_of_inv a'.tmps (fun a2 w2 ht h2 => ?_) a'.defers a' w' rfl rfl h2
          obtain ⟨u, h3, h4⟩ := results_sound h2 hr
          rw [ht] at h3
          obtain ⟨g1, g2, g3, τ', q1, q2, q3⟩ := h2.mem.obs _ _ hk2
          refine ⟨u, h3, u, rfl, FV.flat_rel _ _ hflat h4, en'.blk (ydK st2.ob), τ', q1, fun b hb => ⟨(g2 b hb).symm, q3 b hb⟩, fun b hb => ?_, h2.mem.ext⟩
          have hb' := q2 b hb
          refine ⟨?_, hb'.2.1, hb'.2.2.1 _ _ hk2⟩
          rcases hb'.1 with (h5 | h5 | h5) | h5
          · exact .inl h5
          · exact .inr (.inl h5)
          · exact .inr (.inr (.inl h5))
          · exact .inr (.inr (.inr h5))
        · exact hk.elim
    intro e st' hs' a' w' en' h' hk
    cases e with
    | normal => exact fin st' hs' a' w' en' h' hk
    | exit _ => exact hk.elim
    | ret => exact fin st' hs' a' w' en' h' hk
end
end Go.Sx

/-
  Proved: what some functions of the program answer, or a law of the evaluator that shows it, one theorem each; its conditions are the hypotheses that stand ahead of it.
-/
import Derived.Test.YtdgodofdnaligaaDoorSxB
import Derived.Deep.MidRow
set_option linter.unusedVariables false
set_option linter.unusedSimpArgs false
namespace Go.Sx
open Go.RowKit
def okS (ok0 : Nat → Prop) (w0 w : World) (ob : List (Nat × Ob)) (en : Env) (b : Nat) : Prop :=
  (ok0 b ∨ w0.heap.size ≤ b) ∧ b < w.heap.size ∧ (∀ k o, getOb k ob = some o → ¬ en.blk k b) ∧ ¬ en.ds b
def Ob.bd (n : Nat) : Ob → Prop
  | .box cs => bdL n cs
  | .row _ _ _ => True
  | .iter _ _ => True
  | .yd _ _ => True
def ObRel (base : Nat) (w : World) (ok : Nat → Prop) (en : Env) (k : Nat) : Ob → Prop
  | .box cells => ∃ b cs t, en.blk k = opt (some b) ∧ w.heap[b]? = some (.cells cs t (0, 0)) ∧ ARelL w ok en cells cs.toList
  | .row sz e elems => ∃ xs, w.ownsRow base e sz (en.val k) elems.length xs ∧ en.blk k = opt (en.val k).ownBlock ∧ FRelL w ok elems.flatten xs ∧ ∀ x ∈ elems, x.length = sz
  | .iter s pos => ∃ b, en.blk k = opt (some b) ∧ w.heap[b]? = some (.stringIter s pos)
  | .yd Y i => ∃ τ : Nat → Prop, Y.J i w (en.blk k) τ ∧ (∀ b, τ b → ok b) ∧ ∀ b, en.blk k b → b < w.heap.size
structure Mem (G : Gr) (X : Nat → Prop) (ok0 : Nat → Prop) (w0 : World) (ob : List (Nat × Ob)) (nx : Nat) (w : World) (en : Env) : Prop where
  gr : G.p w0
  okl : ∀ b, ok0 b → b < w0.heap.size
  xok : ∀ b, X b → ok0 b ∧ ¬ G.has b
  ext : ExtX G X w0 w
  obs : ∀ k o, getOb k ob = some o → k < nx ∧ (∀ b, en.blk k b → w0.heap.size ≤ b ∨ X b) ∧ o.bd nx ∧ ObRel 0 w (okS ok0 w0 w ob en) en k o
  inj : ∀ j k o p, getOb j ob = some o → getOb k ob = some p → j ≠ k → ∀ b, en.blk j b → ¬ en.blk k b
  dsl : ∀ D, en.ds D → w0.heap.size ≤ D ∧ D < w.heap.size ∧ ∀ k o, getOb k ob = some o → ¬ en.blk k D
/-- The marks of ranges over functions, among the deferred calls. -/
def Marks (w : World) (en : Env) (l : List Deferred) : Prop :=
  l.Nodup ∧ ∀ d ∈ l, ∃ D, d = { target := .collected D, args := #[] } ∧ en.ds D ∧ w.heap[D]? = some (.deferred (some []))
theorem Marks.turn {w w' : World} {en en' : Env} {l : List Deferred} (h : Marks w en l) (hd : ∀ D, en.ds D → w'.heap[D]? = w.heap[D]?) (he : en'.ds = en.ds) : Marks w' en' l :=
  ⟨h.1, fun d hm => by
    obtain ⟨D, e, h1, h2⟩ := h.2 d hm
    exact ⟨D, e, by rw [he]; exact h1, by rw [hd D h1]; exact h2⟩⟩
structure Inv (G : Gr) (X : Nat → Prop) (ok0 : Nat → Prop) (w0 : World) (tv : Nat → Value) (st : St) (a : Act) (w : World) (en : Env) : Prop where
  mem : Mem G X ok0 w0 st.ob st.nx w en
  defs : Marks w en a.defers
  slots : ARelL w (okS ok0 w0 w st.ob en) en st.sl a.tmps.toList
  bd : bdL st.nx st.sl
  keep : ∀ t, t ∈ st.kp → a.tmps.getD t undef = tv t
  nod : st.nd = true → a.defers = []
theorem Mem.ground {G : Gr} {X : Nat → Prop} {ok0 : Nat → Prop} {w0 w : World} {ob : List (Nat × Ob)} {nx : Nat} {en : Env} (h : Mem G X ok0 w0 ob nx w en) : G.p w :=
  G.extX w0 w (fun k hk hh => h.ext.block k hk fun e => (h.xok k e).2 hh) h.gr
theorem carry_ext {G : Gr} {ok0 : Nat → Prop} {w0 w w' : World} {ob : List (Nat × Ob)} {en : Env} (h : Ext G w w') : Carry w w' (okS ok0 w0 w ob en) (okS ok0 w0 w' ob en) where
  oks b hb := ⟨hb.1, Nat.lt_of_lt_of_le hb.2.1 h.size, hb.2.2⟩
  blk b hb := h.block b hb.2.1
  os := h.below.os
  tape := h.below.tape
  output := h.below.output
  size := h.size
theorem EnvUpto.refl (n : Nat) (en : Env) : EnvUpto n en en := fun _ _ => ⟨rfl, rfl⟩
theorem ownsRow_same {w w' : World} {base : Nat} {e : TypeId} {sz : Nat} {v : Value} {n : Nat} {xs : List Value} (h : w.ownsRow base e sz v n xs)
    (hw : ∀ b, v.ownBlock = some b → w'.heap[b]? = w.heap[b]?) : w'.ownsRow base e sz v n xs := by
  refine ⟨h.1, ?_⟩
  rcases h.2 with hn | ⟨g, cap, cur, rfl, hb, hgg, rest⟩
  · exact .inl hn
  · exact .inr ⟨g, cap, cur, rfl, hb, by rw [hw g rfl]; exact hgg, rest⟩
theorem ObRel.carry {base : Nat} {w w' : World} {ok ok' : Nat → Prop} {en en' : Env} {n k : Nat} {o : Ob} (hc : Carry w w' ok ok') (he : EnvUpto n en en') (hk : k < n) (hb : o.bd n)
    (hw : ∀ b, en.blk k b → w'.heap[b]? = w.heap[b]?) (h : ObRel base w ok en k o) : ObRel base w' ok' en' k o := by
  obtain ⟨e1, e2⟩ := he k hk
  cases o with
  | box cells =>
    obtain ⟨b, cs, t, h0, h1, h2⟩ := h
    exact ⟨b, cs, t, by rw [e1]; exact h0, by rw [hw b (by rw [h0]; exact rfl)]; exact h1, ARelL.carry hc he cells _ hb h2⟩
  | row sz e elems =>
    obtain ⟨xs, h1, h2, h3, h4⟩ := h
    refine ⟨xs, ?_, by rw [e1, e2]; exact h2, FRelL.carry hc _ _ h3, h4⟩
    rw [e2]
    exact ownsRow_same h1 (fun b hb => hw b (by rw [h2]; exact hb))
  | iter s pos =>
    obtain ⟨b, h0, h1⟩ := h
    exact ⟨b, by rw [e1]; exact h0, by rw [hw b (by rw [h0]; exact rfl)]; exact h1⟩
  | yd Y i =>
    obtain ⟨τ, h0, h1, h2⟩ := h
    refine ⟨τ, ?_, fun b hb => hc.oks b (h1 b hb), fun b hb => Nat.lt_of_lt_of_le (h2 b (by rw [e1] at hb; exact hb)) hc.size⟩
    rw [e1]
    exact Y.stab _ _ _ _ _ h0 ⟨hc.os, hc.tape, hc.output, hc.size, fun b hb => hb.elim (hw b) fun h => hc.blk b (h1 b h)⟩
theorem ObRel.lt {base : Nat} {w : World} {ok : Nat → Prop} {en : Env} {k b : Nat} {o : Ob} (h : ObRel base w ok en k o) (hb : en.blk k b) : b < w.heap.size := by
  cases o with
  | box cells =>
    obtain ⟨b', cs, t, h0, h1, _⟩ := h
    rw [h0] at hb
    cases hb
    exact (Array.getElem?_eq_some_iff.1 h1).1
  | row sz e elems =>
    obtain ⟨xs, h1, h2, _⟩ := h
    exact (h1.lt b (by rw [h2] at hb; exact hb)).2
  | iter s pos =>
    obtain ⟨b', h0, h1⟩ := h
    rw [h0] at hb
    cases hb
    exact (Array.getElem?_eq_some_iff.1 h1).1
  | yd Y i =>
    obtain ⟨τ, h0, h1, h2⟩ := h
    exact h2 b hb
theorem Mem.step {G : Gr} {X : Nat → Prop} {ok0 : Nat → Prop} {w0 w w' : World} {ob : List (Nat × Ob)} {nx : Nat} {en : Env} (h : Mem G X ok0 w0 ob nx w en) (hx : Ext G w w') : Mem G X ok0 w0 ob nx w' en where
  gr := h.gr
  okl := h.okl
  xok := h.xok
  ext := h.ext.trans hx
  obs k o ho := by
    obtain ⟨h1, h2, h3, h4⟩ := h.obs k o ho
    exact ⟨h1, h2, h3, h4.carry (carry_ext hx) (EnvUpto.refl nx en) h1 h3 (fun b hb => hx.block _ (h4.lt hb))⟩
  inj := h.inj
  dsl D hD := by
    obtain ⟨h1, h2, h3⟩ := h.dsl D hD
    exact ⟨h1, Nat.lt_of_lt_of_le h2 hx.size, h3⟩
theorem Inv.step {G : Gr} {X : Nat → Prop} {ok0 : Nat → Prop} {w0 w w' : World} {tv : Nat → Value} {st : St} {a : Act} {en : Env} (h : Inv G X ok0 w0 tv st a w en) (hx : Ext G w w') : Inv G X ok0 w0 tv st a w' en where
  mem := h.mem.step hx
  defs := h.defs.turn (fun D hD => hx.block D (h.mem.dsl D hD).2.1) rfl
  slots := ARelL.carry (carry_ext hx) (EnvUpto.refl st.nx en) _ _ h.bd h.slots
  bd := h.bd
  keep := h.keep
  nod := h.nod
/-! ### Slots and operands -/
theorem ARelL.get {w : World} {ok : Nat → Prop} {en : Env} : ∀ (l : List AV) (vs : List Value) (t : Nat), ARelL w ok en l vs → ARel w ok en (l.getD t (.f .any)) (vs.getD t undef)
  | [], vs, t, h => by simp [ARel, FRel]
  | x :: l, vs, t, h => by
    simp only [ARelL] at h
    obtain ⟨v, r, rfl, h1, h2⟩ := h
    cases t with
    | zero => simpa using h1
    | succ t => simpa using ARelL.get l r t h2
theorem ARelL.length {w : World} {ok : Nat → Prop} {en : Env} : ∀ (l : List AV) (vs : List Value), ARelL w ok en l vs → vs.length = l.length
  | [], vs, h => by simp only [ARelL] at h; simp [h]
  | x :: l, vs, h => by
    simp only [ARelL] at h
    obtain ⟨v, r, rfl, _, h2⟩ := h
    simp [ARelL.length l r h2]
theorem ARelL.set {w : World} {ok : Nat → Prop} {en : Env} {x : AV} {v : Value} (hx : ARel w ok en x v) : ∀ (l : List AV) (vs : List Value) (t : Nat), ARelL w ok en l vs → ARelL w ok en (l.set t x) (vs.set t v)
  | [], vs, t, h => by simp only [ARelL] at h; simp [h, ARelL]
  | y :: l, vs, t, h => by
    simp only [ARelL] at h
    obtain ⟨u, r, rfl, h1, h2⟩ := h
    cases t with
    | zero => simp only [List.set_cons_zero, ARelL]; exact ⟨v, r, rfl, hx, h2⟩
    | succ t => simp only [List.set_cons_succ, ARelL]; exact ⟨u, r.set t v, rfl, h1, ARelL.set hx l r t h2⟩
theorem bdL.get {n : Nat} : ∀ (l : List AV) (t : Nat), bdL n l → (l.getD t (.f .any)).bd n
  | [], t, h => by simp [AV.bd]
  | x :: l, t, h => by
    simp only [bdL] at h
    cases t with
    | zero => simpa using h.1
    | succ t => simpa using bdL.get l t h.2
theorem bdL.set {n : Nat} {x : AV} (hx : x.bd n) : ∀ (l : List AV) (t : Nat), bdL n l → bdL n (l.set t x)
  | [], t, h => by simp [bdL]
  | y :: l, t, h => by
    simp only [bdL] at h
    cases t with
    | zero => simp only [List.set_cons_zero, bdL]; exact ⟨hx, h.2⟩
    | succ t => simp only [List.set_cons_succ, bdL]; exact ⟨h.1, bdL.set hx l t h.2⟩
mutual
theorem AV.bd_mono {m n : Nat} (h : m ≤ n) : ∀ x : AV, x.bd m → x.bd n
  | .f _, _ => by simp [AV.bd]
  | .agg l, hb => by simp only [AV.bd] at hb ⊢; exact bdL_mono h l hb
  | .loc k _, hb => by simp only [AV.bd] at hb ⊢; omega
  | .lsl k, hb => by simp only [AV.bd] at hb ⊢; omega
  | .el k _ _ _, hb => by simp only [AV.bd] at hb ⊢; omega
  | .lvw k _ _ _, hb => by simp only [AV.bd] at hb ⊢; omega
  | .fn _ a b, hb => by simp only [AV.bd] at hb ⊢; exact ⟨bdL_mono h a hb.1, bdL_mono h b hb.2⟩
  | .nul, _ => by simp [AV.bd]
theorem bdL_mono {m n : Nat} (h : m ≤ n) : ∀ l : List AV, bdL m l → bdL n l
  | [], _ => by simp [bdL]
  | x :: l, hb => by simp only [bdL] at hb ⊢; exact ⟨AV.bd_mono h x hb.1, bdL_mono h l hb.2⟩
end
theorem tmps_getD (a : Act) (t : Nat) : a.tmps.getD t undef = a.tmps.toList.getD t undef := by
  simp [Array.getD_eq_getD_getElem?, List.getD_eq_getElem?_getD]
theorem Inv.opnd {G : Gr} {X : Nat → Prop} {ok0 : Nat → Prop} {w0 w : World} {tv : Nat → Value} {st : St} {a : Act} {en : Env} (h : Inv G X ok0 w0 tv st a w en) (x : Operand) :
    ARel w (okS ok0 w0 w st.ob en) en (st.opnd x) (a.eval x) ∧ (st.opnd x).bd st.nx := by
  cases x with
  | tmp t =>
    refine ⟨?_, bdL.get _ _ h.bd⟩
    simp only [St.opnd, Act.eval]
    rw [tmps_getD]
    exact ARelL.get _ _ t h.slots
  | const v => exact ⟨by simp only [St.opnd, Act.eval, ARel]; exact fV_rel _ _ v, by simp [St.opnd, AV.bd]⟩
  | func f => exact ⟨by simp only [St.opnd, Act.eval, ARel, FRel]; exact ⟨[], [], rfl, by simp [FRelL], by simp [FRelL]⟩, by simp [St.opnd, AV.bd]⟩
  | global g => exact ⟨by simp [St.opnd, Act.eval, ARel, FRel], by simp [St.opnd, AV.bd]⟩
theorem Inv.put {G : Gr} {X : Nat → Prop} {ok0 : Nat → Prop} {w0 w : World} {tv : Nat → Value} {st : St} {a : Act} {en : Env} (h : Inv G X ok0 w0 tv st a w en) (d : Option Tmp) {x : AV} {v : Value}
    (hx : ARel w (okS ok0 w0 w st.ob en) en x v) (hb : x.bd st.nx) : Inv G X ok0 w0 tv (st.put d x) (a.put d v) w en := by
  cases d with
  | none => exact h
  | some d =>
    refine ⟨h.mem, h.defs, ?_, ?_, fun t ht => ?_, h.nod⟩
    · simp only [St.put, Act.put, Array.toList_setIfInBounds]
      exact ARelL.set hx _ _ d h.slots
    · exact bdL.set hb _ d h.bd
    · simp only [St.put, List.mem_filter, bne_iff_ne, ne_eq] at ht
      have := h.keep t ht.1
      simp only [Act.put]
      rw [Array.getD_eq_getD_getElem?, Array.getElem?_setIfInBounds_ne (fun e => ht.2 e.symm), ← Array.getD_eq_getD_getElem?]
      exact this
/-! ### Rows that are read -/
theorem takeN_some {α : Type} : ∀ (n : Nat) (l r : List α), takeN n l = some r → r = l.take n ∧ n ≤ l.length
  | 0, l, r, h => by simp only [takeN, Option.some.injEq] at h; subst h; simp
  | n + 1, [], r, h => by simp [takeN] at h
  | n + 1, x :: l, r, h => by
    simp only [takeN] at h
    split at h
    · rename_i r' hr
      simp only [Option.some.injEq] at h
      subst h
      obtain ⟨e, hl⟩ := takeN_some n l r' hr
      exact ⟨by simp [e], by simp; omega⟩
    · cases h
theorem FRelC.drop {w : World} {ok : Nat → Prop} : ∀ (l : List FV) (b o n : Nat), FRelC w ok l b o → FRelC w ok (l.drop n) b (o + n)
  | l, b, o, 0, h => by simpa using h
  | [], b, o, n + 1, h => by simp [FRelC]
  | x :: l, b, o, n + 1, h => by
    simp only [FRelC] at h
    have := FRelC.drop l b (o + 1) n h.2
    rw [show o + (n + 1) = o + 1 + n from by omega]
    simpa using this
theorem FRelC.take {w : World} {ok : Nat → Prop} : ∀ (n : Nat) (l r : List FV) (b o : Nat), FRelC w ok l b o → takeN n l = some r → ∃ vs : List Value, vs.length = n ∧ w.rangeAt b o vs ∧ FRelL w ok r vs
  | 0, l, r, b, o, h, ht => by
    simp only [takeN, Option.some.injEq] at ht
    subst ht
    exact ⟨[], rfl, fun j v hv => by simp at hv, by simp [FRelL]⟩
  | n + 1, [], r, b, o, h, ht => by simp [takeN] at ht
  | n + 1, x :: l, r, b, o, h, ht => by
    simp only [takeN] at ht
    split at ht
    · rename_i r' hr
      simp only [Option.some.injEq] at ht
      subst ht
      simp only [FRelC] at h
      obtain ⟨⟨v, h0, h1⟩, h2⟩ := h
      obtain ⟨vs, hl, hc, hv⟩ := FRelC.take n l r' b (o + 1) h2 hr
      refine ⟨v :: vs, by simp [hl], ?_, ?_⟩
      · intro j u hu
        cases j with
        | zero => simp at hu; subst hu; simpa using h0
        | succ j =>
          have := hc j u (by simpa using hu)
          rw [show o + (j + 1) = o + 1 + j from by omega]; exact this
      · simp only [FRelL]; exact ⟨v, vs, rfl, h1, hv⟩
    · cases ht
theorem FRelC.read {w : World} {ok : Nat → Prop} {cells r : List FV} {b o off n : Nat} (h : FRelC w ok cells b o) (hr : readAt cells off n = some r) :
    ∃ vs : List Value, vs.length = n ∧ w.rangeAt b (o + off) vs ∧ FRelL w ok r vs :=
  FRelC.take n _ r b (o + off) (FRelC.drop _ _ _ off h) hr
theorem ARelL.drop {w : World} {ok : Nat → Prop} {en : Env} : ∀ (l : List AV) (vs : List Value) (n : Nat), ARelL w ok en l vs → ARelL w ok en (l.drop n) (vs.drop n)
  | l, vs, 0, h => by simpa using h
  | [], vs, n + 1, h => by simp only [ARelL] at h; simp [h, ARelL]
  | x :: l, vs, n + 1, h => by
    simp only [ARelL] at h
    obtain ⟨v, r, rfl, _, h2⟩ := h
    simpa using ARelL.drop l r n h2
theorem ARelL.take {w : World} {ok : Nat → Prop} {en : Env} : ∀ (l : List AV) (vs : List Value) (n : Nat), ARelL w ok en l vs → ARelL w ok en (l.take n) (vs.take n)
  | l, vs, 0, h => by simp [ARelL]
  | [], vs, n + 1, h => by simp only [ARelL] at h; simp [h, ARelL]
  | x :: l, vs, n + 1, h => by
    simp only [ARelL] at h
    obtain ⟨v, r, rfl, h1, h2⟩ := h
    simp only [List.take_succ_cons, ARelL]
    exact ⟨v, r.take n, rfl, h1, ARelL.take l r n h2⟩
theorem bdL.drop {m : Nat} : ∀ (l : List AV) (n : Nat), bdL m l → bdL m (l.drop n)
  | l, 0, h => by simpa using h
  | [], n + 1, h => by simp [bdL]
  | x :: l, n + 1, h => by simp only [bdL] at h; simpa using bdL.drop l n h.2
theorem bdL.take {m : Nat} : ∀ (l : List AV) (n : Nat), bdL m l → bdL m (l.take n)
  | l, 0, h => by simp [bdL]
  | [], n + 1, h => by simp [bdL]
  | x :: l, n + 1, h => by simp only [bdL] at h; simp only [List.take_succ_cons, bdL]; exact ⟨h.1, bdL.take l n h.2⟩
section
variable {P : Program} {G : Gr} {X : Nat → Prop}
theorem run_loadAt_agg (w : World) (b o : Nat) (t : TypeId) (vs : List Value) (hc : w.rangeAt b o vs) (ha : aggP P t = some true) (hs : sizeP P t = some vs.length) :
    (Instr.loadAt t (.pointer (some ⟨b, o, none⟩))).run P w = .ok (.agg vs.toArray) w := by
  have hu : ∃ d, P.underlying t = some d ∧ d.isRow = true := by
    unfold aggP at ha
    split at ha <;> simp_all
  obtain ⟨d, hu, hd⟩ := hu
  have := run_loadVar_mid (P := P) w b o t vs d hc hu hd hs
  simpa [Instr.loadAt, Instr.sureAddr] using this
theorem run_loadAt_one (w : World) (b o : Nat) (t : TypeId) (v : Value) (hc : w.cell? ⟨b, o, none⟩ = some v) (ha : aggP P t = some false) :
    (Instr.loadAt t (.pointer (some ⟨b, o, none⟩))).run P w = .ok v w := by
  have hagg : (isAgg t).run P w = .ok false w := by
    unfold aggP at ha
    unfold isAgg
    split at ha
    · simp at ha
    · simp at ha
    · rename_i d h1 h2 hd
      simp only [Sem.run_bind, run_underlying hd, Result.andThen]
      cases d <;> simp_all
    · simp at ha
  simp only [Instr.loadAt, Instr.sureAddr, loadVar]
  simp [hagg, load, Sem.run, hc, Result.andThen]
end
end Go.Sx

/-
  What a slot of a frame may hold, told by what it holds in memory, and how these words stay true while memory grows.
-/
import Derived.WalkKit
import Derived.CallsIn
set_option linter.unusedVariables false
set_option linter.unusedSimpArgs false
namespace Go.Sx
open Go.RowKit
/-- What is frozen: told by what it holds. -/
inductive FV where
  | sc (v : Value)
  | nils
  | agg (l : List FV)
  | tup (l : List FV)
  | ptr (cells : List FV) (off : Nat)
  | sl (sz : Nat) (elems : List (List FV))
  | fn (f : Nat) (first caps : List FV)
  | any
deriving Inhabited
/-- What a slot holds: frozen, or with the call's own objects in it. -/
inductive AV where
  | f (x : FV)
  | agg (l : List AV)
  | loc (k off : Nat)
  | lsl (k : Nat)
  | el (k sz i d : Nat)
  | lvw (k sz o n : Nat)
  | fn (f : Nat) (first caps : List AV)
  | nul
deriving Inhabited
/-- Some blocks lie as they lay. -/
structure Rest (w w' : World) (s : Nat → Prop) : Prop where
  os : w'.os = w.os
  tape : w'.tape = w.tape
  output : w'.output = w.output
  size : w.heap.size ≤ w'.heap.size
  blk : ∀ b, s b → w'.heap[b]? = w.heap[b]?
/-- What an iterator hands its pieces to: the function's value; what it is called with and answers, call by call; its state behind i calls, told by the world, its own blocks and those that it reads. -/
structure Yd where
  u : Value
  one : u.oneCell' = true
  it : Nat → List FV
  b : Nat → Bool
  n : Nat
  J : Nat → World → (Nat → Prop) → (Nat → Prop) → Prop
  stab : ∀ i w w' φ τ, J i w φ τ → Rest w w' (fun b => φ b ∨ τ b) → J i w' φ τ
inductive Ob where
  | box (cells : List AV)
  | row (sz e : Nat) (elems : List (List FV))
  | iter (s : ByteArray) (pos : Nat)
  | yd (Y : Yd) (i : Nat)
structure St where
  sl : List AV
  ob : List (Nat × Ob)
  nx : Nat
  kp : List Nat := []
  nd : Bool := false
structure Env where
  ds : Nat → Prop
  blk : Nat → Nat → Prop
  val : Nat → Value
/-- One block at most. -/
def opt (o : Option Nat) (b : Nat) : Prop := o = some b
theorem opt_inj {o p : Option Nat} (h : opt o = opt p) : o = p := by
  cases o with
  | none =>
    cases p with
    | none => rfl
    | some b => have := congrFun h b; simp [opt] at this
  | some a =>
    have := congrFun h a
    simp only [opt, eq_iff_iff, true_iff] at this
    exact this.symm
@[simp] theorem opt_some (a b : Nat) : opt (some a) b ↔ a = b := by simp [opt]
@[simp] theorem opt_none (b : Nat) : ¬ opt none b := by simp [opt]
mutual
def FRel (w : World) (ok : Nat → Prop) : FV → Value → Prop
  | .sc v, u => u = v
  | .nils, u => u = .slice none 0 0
  | .agg l, u => ∃ cs : List Value, u = .agg cs.toArray ∧ FRelL w ok l cs
  | .tup l, u => ∃ cs : List Value, u = .tuple cs.toArray ∧ FRelL w ok l cs
  | .ptr cells off, u => ∃ b o, u = .pointer (some ⟨b, o + off, none⟩) ∧ ok b ∧ FRelC w ok cells b o
  | .sl sz elems, u => (elems = [] ∧ (u = .slice none 0 0 ∨ ∃ a c, u = .slice (some a) 0 c)) ∨ ∃ b o c, u = .slice (some ⟨b, o, none⟩) elems.length c ∧ elems.length ≤ c ∧ ok b ∧ FRelE w ok sz elems b o
  | .fn f first caps, u => ∃ fs cs : List Value, u = .func (.func f) fs.toArray cs.toArray ∧ FRelL w ok first fs ∧ FRelL w ok caps cs
  | .any, _ => True
def FRelL (w : World) (ok : Nat → Prop) : List FV → List Value → Prop
  | [], cs => cs = []
  | x :: l, cs => ∃ v r, cs = v :: r ∧ FRel w ok x v ∧ FRelL w ok l r
def FRelC (w : World) (ok : Nat → Prop) : List FV → Nat → Nat → Prop
  | [], _, _ => True
  | x :: l, b, o => (∃ v, w.cell? ⟨b, o, none⟩ = some v ∧ FRel w ok x v) ∧ FRelC w ok l b (o + 1)
def FRelE (w : World) (ok : Nat → Prop) (sz : Nat) : List (List FV) → Nat → Nat → Prop
  | [], _, _ => True
  | e :: es, b, o => e.length = sz ∧ FRelC w ok e b o ∧ FRelE w ok sz es b (o + sz)
end
mutual
def ARel (w : World) (ok : Nat → Prop) (en : Env) : AV → Value → Prop
  | .f x, u => FRel w ok x u
  | .agg l, u => ∃ cs : List Value, u = .agg cs.toArray ∧ ARelL w ok en l cs
  | .loc k off, u => ∃ b, en.blk k = opt (some b) ∧ u = .pointer (some ⟨b, off, none⟩)
  | .lsl k, u => u = en.val k ∧ ∃ A n c, u = .slice A n c
  | .el k sz i d, u => ∃ b, en.blk k = opt (some b) ∧ u = .pointer (some ⟨b, i * sz + d, none⟩)
  | .lvw k sz o n, u => ∃ b c, en.blk k = opt (some b) ∧ u = .slice (some ⟨b, o * sz, none⟩) n c ∧ n ≤ c
  | .fn f first caps, u => ∃ fs cs : List Value, u = .func (.func f) fs.toArray cs.toArray ∧ ARelL w ok en first fs ∧ ARelL w ok en caps cs
  | .nul, _ => True
def ARelL (w : World) (ok : Nat → Prop) (en : Env) : List AV → List Value → Prop
  | [], cs => cs = []
  | x :: l, cs => ∃ v r, cs = v :: r ∧ ARel w ok en x v ∧ ARelL w ok en l r
end
mutual
/-- No object from n on is named. -/
def AV.bd (n : Nat) : AV → Prop
  | .f _ => True
  | .agg l => bdL n l
  | .loc k _ => k < n
  | .lsl k => k < n
  | .el k _ _ _ => k < n
  | .lvw k _ _ _ => k < n
  | .fn _ a b => bdL n a ∧ bdL n b
  | .nul => True
def bdL (n : Nat) : List AV → Prop
  | [] => True
  | x :: l => x.bd n ∧ bdL n l
end
structure Carry (w w' : World) (ok ok' : Nat → Prop) : Prop where
  oks : ∀ b, ok b → ok' b
  blk : ∀ b, ok b → w'.heap[b]? = w.heap[b]?
  os : w'.os = w.os
  tape : w'.tape = w.tape
  output : w'.output = w.output
  size : w.heap.size ≤ w'.heap.size
theorem Carry.cell {w w' : World} {ok ok' : Nat → Prop} (h : Carry w w' ok ok') (b : Nat) (hb : ok b) (o : Nat) : w'.cell? ⟨b, o, none⟩ = w.cell? ⟨b, o, none⟩ :=
  World.cell?_of_block (w := w) (a := ⟨b, o, none⟩) (h.blk b hb)
theorem Carry.same (w : World) {ok ok' : Nat → Prop} (h : ∀ b, ok b → ok' b) : Carry w w ok ok' := ⟨h, fun _ _ => rfl, rfl, rfl, rfl, Nat.le_refl _⟩
mutual
theorem FRel.carry {w w' : World} {ok ok' : Nat → Prop} (hc : Carry w w' ok ok') : ∀ (x : FV) (v : Value), FRel w ok x v → FRel w' ok' x v
  | .sc _, _, h => by simpa [FRel] using h
  | .nils, _, h => by simpa [FRel] using h
  | .agg l, v, h => by
    simp only [FRel] at h ⊢
    obtain ⟨cs, e, h⟩ := h
    exact ⟨cs, e, FRelL.carry hc l cs h⟩
  | .tup l, v, h => by
    simp only [FRel] at h ⊢
    obtain ⟨cs, e, h⟩ := h
    exact ⟨cs, e, FRelL.carry hc l cs h⟩
  | .ptr cells off, v, h => by
    simp only [FRel] at h ⊢
    obtain ⟨b, o, e, hb, h⟩ := h
    exact ⟨b, o, e, hc.oks b hb, FRelC.carry hc cells b o hb h⟩
  | .sl sz elems, v, h => by
    simp only [FRel] at h ⊢
    refine h.imp id ?_
    rintro ⟨b, o, c, e, hl, hb, h⟩
    exact ⟨b, o, c, e, hl, hc.oks b hb, FRelE.carry hc sz elems b o hb h⟩
  | .fn f first caps, v, h => by
    simp only [FRel] at h ⊢
    obtain ⟨fs, cs, e, h1, h2⟩ := h
    exact ⟨fs, cs, e, FRelL.carry hc first fs h1, FRelL.carry hc caps cs h2⟩
  | .any, _, _ => by simp [FRel]
theorem FRelL.carry {w w' : World} {ok ok' : Nat → Prop} (hc : Carry w w' ok ok') : ∀ (l : List FV) (vs : List Value), FRelL w ok l vs → FRelL w' ok' l vs
  | [], _, h => by simpa [FRelL] using h
  | x :: l, vs, h => by
    simp only [FRelL] at h ⊢
    obtain ⟨v, r, e, h1, h2⟩ := h
    exact ⟨v, r, e, FRel.carry hc x v h1, FRelL.carry hc l r h2⟩
theorem FRelC.carry {w w' : World} {ok ok' : Nat → Prop} (hc : Carry w w' ok ok') : ∀ (l : List FV) (b o : Nat), ok b → FRelC w ok l b o → FRelC w' ok' l b o
  | [], _, _, _, _ => by simp [FRelC]
  | x :: l, b, o, hb, h => by
    simp only [FRelC] at h ⊢
    obtain ⟨⟨v, h0, h1⟩, h2⟩ := h
    exact ⟨⟨v, (hc.cell b hb o).trans h0, FRel.carry hc x v h1⟩, FRelC.carry hc l b (o + 1) hb h2⟩
theorem FRelE.carry {w w' : World} {ok ok' : Nat → Prop} (hc : Carry w w' ok ok') (sz : Nat) : ∀ (l : List (List FV)) (b o : Nat), ok b → FRelE w ok sz l b o → FRelE w' ok' sz l b o
  | [], _, _, _, _ => by simp [FRelE]
  | e :: l, b, o, hb, h => by
    simp only [FRelE] at h ⊢
    exact ⟨h.1, FRelC.carry hc e b o hb h.2.1, FRelE.carry hc sz l b (o + sz) hb h.2.2⟩
end
def EnvUpto (n : Nat) (en en' : Env) : Prop := ∀ k, k < n → en'.blk k = en.blk k ∧ en'.val k = en.val k
mutual
theorem ARel.carry {w w' : World} {ok ok' : Nat → Prop} {en en' : Env} {n : Nat} (hc : Carry w w' ok ok') (he : EnvUpto n en en') :
    ∀ (x : AV) (v : Value), x.bd n → ARel w ok en x v → ARel w' ok' en' x v
  | .f x, v, _, h => by simp only [ARel] at h ⊢; exact FRel.carry hc x v h
  | .agg l, v, hb, h => by
    simp only [ARel] at h ⊢
    obtain ⟨cs, e, h⟩ := h
    exact ⟨cs, e, ARelL.carry hc he l cs (by simpa [AV.bd] using hb) h⟩
  | .loc k off, v, hb, h => by
    simp only [ARel, AV.bd] at h hb ⊢
    rw [(he k hb).1]; exact h
  | .lsl k, v, hb, h => by
    simp only [ARel, AV.bd] at h hb ⊢
    rw [(he k hb).2]; exact h
  | .el k sz i d, v, hb, h => by
    simp only [ARel, AV.bd] at h hb ⊢
    rw [(he k hb).1]; exact h
  | .lvw k sz o n, v, hb, h => by
    simp only [ARel, AV.bd] at h hb ⊢
    rw [(he k hb).1]; exact h
  | .fn f first caps, v, hb, h => by
    simp only [ARel, AV.bd] at h hb ⊢
    obtain ⟨fs, cs, e, h1, h2⟩ := h
    exact ⟨fs, cs, e, ARelL.carry hc he first fs hb.1 h1, ARelL.carry hc he caps cs hb.2 h2⟩
  | .nul, _, _, _ => by simp [ARel]
theorem ARelL.carry {w w' : World} {ok ok' : Nat → Prop} {en en' : Env} {n : Nat} (hc : Carry w w' ok ok') (he : EnvUpto n en en') :
    ∀ (l : List AV) (vs : List Value), bdL n l → ARelL w ok en l vs → ARelL w' ok' en' l vs
  | [], _, _, h => by simpa [ARelL] using h
  | x :: l, vs, hb, h => by
    simp only [ARelL, bdL] at h hb ⊢
    obtain ⟨v, r, e, h1, h2⟩ := h
    exact ⟨v, r, e, ARel.carry hc he x v hb.1 h1, ARelL.carry hc he l r hb.2 h2⟩
end
/-- What every world of the program bears from its start on, and keeps. 'strict': draws are counted too. -/
structure Gr where
  p : World → Prop
  ext : ∀ w w', Below w.heap.size w w' → p w → p w'
  /-- The blocks that the ground speaks of. -/
  has : Nat → Prop
  extX : ∀ w w', (∀ k, k < w.heap.size → has k → w'.heap[k]? = w.heap[k]?) → p w → p w'
  lt : ∀ w b, p w → has b → b < w.heap.size
  strict : Bool
/-- w' holds all that w held. -/
structure Ext (G : Gr) (w w' : World) : Prop where
  below : Below w.heap.size w w'
  dr : G.strict = true → w.drawn ≤ w'.drawn
section
variable {G : Gr}
theorem Ext.refl (w : World) : Ext G w w := ⟨Below.refl _ _, fun _ => Nat.le_refl _⟩
theorem Ext.trans {a b c : World} (h : Ext G a b) (k : Ext G b c) : Ext G a c := ⟨Below.trans h.below (Below.mono k.below (Below.size h.below)), fun hs => Nat.le_trans (h.dr hs) (k.dr hs)⟩
theorem Ext.size {a b : World} (h : Ext G a b) : a.heap.size ≤ b.heap.size := Below.size h.below
theorem Ext.drew {a b : World} (h : Ext G a b) : Ext G a b.drew := ⟨Below.drew h.below, fun hs => Nat.le_succ_of_le (h.dr hs)⟩
theorem Ext.alloc {a b : World} (h : Ext G a b) (o : Obj) : Ext G a (b.alloc o) := ⟨Below.alloc h.below (Below.size h.below) o, h.dr⟩
theorem Ext.cell {a b : World} (h : Ext G a b) (k o : Nat) (hk : k < a.heap.size) : b.cell? ⟨k, o, none⟩ = a.cell? ⟨k, o, none⟩ := Below.cell h.below (p := ⟨k, o, none⟩) hk
theorem Ext.block {a b : World} (h : Ext G a b) (k : Nat) (hk : k < a.heap.size) : b.heap[k]? = a.heap[k]? := Below.block h.below k hk
end
/-- The same, but for one block, maybe. -/
structure ExtX (G : Gr) (X : Nat → Prop) (w w' : World) : Prop where
  os : w'.os = w.os
  tape : w'.tape = w.tape
  output : w'.output = w.output
  size : w.heap.size ≤ w'.heap.size
  block : ∀ k, k < w.heap.size → ¬ X k → w'.heap[k]? = w.heap[k]?
  dr : G.strict = true → w.drawn ≤ w'.drawn
theorem Ext.toX {G : Gr} {X : Nat → Prop} {w w' : World} (h : Ext G w w') : ExtX G X w w' := ⟨h.below.os, h.below.tape, h.below.output, h.below.size, fun k hk _ => h.below.block k hk, h.dr⟩
theorem ExtX.ofX {G : Gr} {w w' : World} (h : ExtX G (opt none) w w') : Ext G w w' := ⟨⟨h.os, h.tape, h.output, h.size, fun k hk => h.block k hk (by simp)⟩, h.dr⟩
theorem ExtX.trans {G : Gr} {X : Nat → Prop} {a b c : World} (h : ExtX G X a b) (k : Ext G b c) : ExtX G X a c :=
  ⟨k.below.os.trans h.os, k.below.tape.trans h.tape, k.below.output.trans h.output, Nat.le_trans h.size k.below.size, fun i hi hx => (k.below.block i (Nat.lt_of_lt_of_le hi h.size)).trans (h.block i hi hx), fun hs => Nat.le_trans (h.dr hs) (k.dr hs)⟩
/-- Does a call of this number enter a body? -/
def entersP (P : Program) (f : Nat) : Bool := match P.funcs[f]? with
  | some fn => fn.name != "runtime.NumGoroutine" && fn.body.isSome
  | none => false
/-- What a function called by its number yields: at once (a row of the model's own) or behind its body. -/
def CallY (P : Program) (f : Nat) (args : Array Value) (w : World) (R : Value → World → Prop) : Prop :=
  match (callFunc f args).run P w with
  | .ok (.value v) w' => R v w'
  | .ok (.enter g as) w' => Calls P g as w' fun e w'' => ∃ v, e = .returned v ∧ R v w''
  | _ => False
/-- A CONTRACT: called with what is frozen, f returns r, frozen too, made of what came in and of new blocks; nothing that was there has turned. -/
def CallsF (P : Program) (G : Gr) (f : Nat) (args : List FV) (r : FV) : Prop :=
  ∀ (w : World) (ok : Nat → Prop) (vs : List Value), G.p w → (∀ b, ok b → b < w.heap.size) → FRelL w ok args vs →
    CallY P f vs.toArray w fun v w' => FRel w' (fun b => ok b ∨ (w.heap.size ≤ b ∧ b < w'.heap.size)) r v ∧ Ext G w w'
/-- A CONTRACT of a function that tells a row of its own making. -/
def CallsO (P : Program) (G : Gr) (f : Nat) (args : List FV) (e sz : Nat) (es : List (List FV)) : Prop :=
  ∀ (w : World) (ok : Nat → Prop) (vs : List Value), G.p w → (∀ b, ok b → b < w.heap.size) → FRelL w ok args vs →
    CallY P f vs.toArray w fun v w' => ∃ xs, w'.ownsRow w.heap.size e sz v es.length xs ∧
      FRelL w' (fun b => (ok b ∨ (w.heap.size ≤ b ∧ b < w'.heap.size)) ∧ v.ownBlock ≠ some b) es.flatten xs ∧ (∀ x ∈ es, x.length = sz) ∧ Ext G w w'
/-- A CONTRACT of a function that writes into the row that it is handed first; it tells that row (none), or something else. -/
def CallsW (P : Program) (G : Gr) (f e sz : Nat) (es : List (List FV)) (rest : List FV) (es' : List (List FV)) (res : Option FV) : Prop :=
  ∀ (w : World) (ok : Nat → Prop) (v : Value) (xs vs : List Value), G.p w → (∀ b, ok b → b < w.heap.size ∧ v.ownBlock ≠ some b) → (∀ b, v.ownBlock = some b → ¬ G.has b) →
    w.ownsRow 0 e sz v es.length xs → FRelL w ok es.flatten xs → (∀ x ∈ es, x.length = sz) → FRelL w ok rest vs →
    CallY P f (v :: vs).toArray w fun u w' => ∃ v' xs', w'.ownsRow 0 e sz v' es'.length xs' ∧ (∀ b, v'.ownBlock = some b → v.ownBlock = some b ∨ w.heap.size ≤ b) ∧
      FRelL w' (fun b => (ok b ∨ v.ownBlock = some b ∨ (w.heap.size ≤ b ∧ b < w'.heap.size)) ∧ v'.ownBlock ≠ some b) es'.flatten xs' ∧ (∀ x ∈ es', x.length = sz) ∧
      (match res with
        | none => u = v'
        | some r => v' = v ∧ FRel w' (fun b => (ok b ∨ (w.heap.size ≤ b ∧ b < w'.heap.size)) ∧ v.ownBlock ≠ some b) r u) ∧ ExtX G (opt v.ownBlock) w w'
/-- The same, where the row stands behind another argument; it tells that row. -/
def CallsU (P : Program) (G : Gr) (f e sz : Nat) (es : List (List FV)) (x : FV) (rest : List FV) (es' : List (List FV)) : Prop :=
  ∀ (w : World) (ok : Nat → Prop) (v : Value) (xs : List Value) (y : Value) (vs : List Value), G.p w → (∀ b, ok b → b < w.heap.size ∧ v.ownBlock ≠ some b) → (∀ b, v.ownBlock = some b → ¬ G.has b) →
    w.ownsRow 0 e sz v es.length xs → FRelL w ok es.flatten xs → (∀ x ∈ es, x.length = sz) → FRel w ok x y → FRelL w ok rest vs →
    CallY P f (y :: v :: vs).toArray w fun u w' => ∃ xs', w'.ownsRow 0 e sz u es'.length xs' ∧ (∀ b, u.ownBlock = some b → v.ownBlock = some b ∨ w.heap.size ≤ b) ∧
      FRelL w' (fun b => (ok b ∨ v.ownBlock = some b ∨ (w.heap.size ≤ b ∧ b < w'.heap.size)) ∧ u.ownBlock ≠ some b) es'.flatten xs' ∧ (∀ x ∈ es', x.length = sz) ∧ ExtX G (opt v.ownBlock) w w'
/-- A call of a function's value. -/
def CallV (P : Program) (u : Value) (vs : Array Value) (w : World) (R : Value → World → Prop) : Prop :=
  match (do let d ← Deferred.ofValue u vs; invoke d.target d.args : Sem Next).run P w with
  | .ok (.value v) w' => R v w'
  | .ok (.enter g as) w' => Calls P g as w' fun e w'' => ∃ v, e = .returned v ∧ R v w''
  | .ok (.round l f tmps assign body) w' => RoundIn Fence.wide 0 P l f tmps assign body w' fun e w'' => ∃ v, e = .returned v ∧ R v w''
  | _ => False
def Yd.alive (Y : Yd) (i : Nat) : Prop := (∀ j, j < i → Y.b j = true) ∧ i < Y.n
/-- What a yielder leaves: it has turned its own blocks alone. -/
def YPost (G : Gr) (Y : Yd) (i' : Nat) (w : World) (φ τ ok : Nat → Prop) (w' : World) : Prop :=
  ∃ φ' τ' : Nat → Prop, Y.J i' w' φ' τ' ∧ (∀ b, φ' b → (φ b ∨ w.heap.size ≤ b) ∧ b < w'.heap.size) ∧ (∀ b, τ' b → (τ b ∨ ok b ∨ φ b ∨ w.heap.size ≤ b) ∧ b < w'.heap.size ∧ ¬ φ' b) ∧ ExtX G φ w w'
/-- What may be asked where a yielder is called. -/
structure YPre (G : Gr) (Y : Yd) (i : Nat) (w : World) (φ τ ok : Nat → Prop) : Prop where
  st : Y.J i w φ τ
  gr : G.p w
  okl : ∀ b, ok b → b < w.heap.size ∧ ¬ φ b
  own : ∀ b, φ b → b < w.heap.size ∧ ¬ G.has b
  rd : ∀ b, τ b → b < w.heap.size ∧ ¬ φ b
/-- THE LAW OF A YIELDER: its i-th call answers b i. -/
def YLaw (P : Program) (G : Gr) (Y : Yd) : Prop :=
  ∀ (i : Nat) (w : World) (φ τ ok : Nat → Prop) (vs : List Value), Y.alive i → YPre G Y i w φ τ ok → FRelL w ok (Y.it i) vs →
    CallV P Y.u vs.toArray w fun v w' => v = .bool (Y.b i) ∧ YPost G Y (i + 1) w φ τ ok w'
/-- A CONTRACT of a function that calls a yielder: from state i to state i'; what it tells names no memory. -/
def CallsX (P : Program) (G : Gr) (f : Nat) (args : List FV) (Y : Yd) (i : Nat) (r : FV) (i' : Nat) : Prop :=
  ∀ (w : World) (φ τ ok : Nat → Prop) (vs : List Value), YPre G Y i w φ τ ok → FRelL w ok args vs →
    CallY P f vs.toArray w fun v w' => FRel w' (fun _ => False) r v ∧ YPost G Y i' w φ τ ok w'
inductive Ex where
  | normal | exit (id : Nat) | ret
inductive Hint where
  | dec (b : Bool)
  | el (cs : List FV)
  | call (r : FV)
  | frz (ks : List Nat)
  | nat (n : Nat)
  | pcs (l : List (Nat × Nat))
  | pca (l : List (Nat × Nat))
  | pcb (l : List (Nat × Nat))
  | tkn (f : Nat) (l : List (Nat × Nat))
  | nal (n a : Nat)
  | nae (n a e : Nat)
  | cast (cs : List FV)
  | isn (b : Bool)
  | ones
  | br (t f : List Hint)
  | stop
  | own
  | callO (e sz : Nat) (es : List (List FV))
  | callW (es : List (List FV)) (r : Option FV)
  | nrow (t sz e : Nat)
  | nrowb (k off sz e : Nat)
  | pre (l : List Hint)
  | lfz (ks : List Nat)
  | ren (ρ : List (Nat × Nat))
  | range (ρ0 : List (Nat × Nat)) (S : Nat → St) (n : Nat) (it : Nat → List FV) (b : Nat → Bool) (r : FV) (x : Option Ex) (H : Nat → List Hint)
  | yield (k : Nat)
  | callX (k i' : Nat) (r : FV)
  | callC (k n : Nat) (it : Nat → List FV) (i' : Nat) (r : FV)
  | loop (ρ0 ρ1 : List (Nat × Nat)) (S : Nat → St) (N : Nat) (H : Nat → List Hint)
  | inv (ρ0 : List (Nat × Nat)) (S : St)
/-- A computation that asks nothing of memory. -/
def pureRun (P : Program) {α : Type} : Sem α → Option α
  | .pure a => some a
  | .program k => pureRun P (k P)
  | .mark _ k => pureRun P k
  | _ => none
theorem pureRun_sound {P : Program} {α : Type} : ∀ (m : Sem α) (a : α) (w : World), pureRun P m = some a → m.run P w = .ok a w
  | .pure _, _, _, h => by simp only [pureRun, Option.some.injEq] at h; subst h; rfl
  | .program k, a, w, h => by simp only [pureRun] at h; simp only [Sem.run]; exact pureRun_sound (k P) a w h
  | .mark _ k, a, w, h => by simp only [pureRun] at h; simp only [Sem.run]; exact pureRun_sound k a w h
  | .load .., _, _, h => by simp [pureRun] at h
  | .store .., _, _, h => by simp [pureRun] at h
  | .new .., _, _, h => by simp [pureRun] at h
  | .shape .., _, _, h => by simp [pureRun] at h
  | .freeze .., _, _, h => by simp [pureRun] at h
  | .frozen .., _, _, h => by simp [pureRun] at h
  | .getObj .., _, _, h => by simp [pureRun] at h
  | .setObj .., _, _, h => by simp [pureRun] at h
  | .choose .., _, _, h => by simp [pureRun] at h
  | .sys .., _, _, h => by simp [pureRun] at h
  | .halt _, _, _, h => by simp [pureRun] at h
def fV1 : Value → FV
  | .slice none 0 0 => .nils
  | v => .sc v
def fV : Value → FV
  | .agg cs => .agg (cs.toList.map fV1)
  | v => fV1 v
theorem fV1_rel (w : World) (ok : Nat → Prop) (v : Value) : FRel w ok (fV1 v) v := by
  unfold fV1
  split <;> simp [FRel]
theorem fV1_relL (w : World) (ok : Nat → Prop) : ∀ l : List Value, FRelL w ok (l.map fV1) l
  | [] => by simp [FRelL]
  | v :: l => by simp only [List.map_cons, FRelL]; exact ⟨v, l, rfl, fV1_rel w ok v, fV1_relL w ok l⟩
theorem fV_rel (w : World) (ok : Nat → Prop) (v : Value) : FRel w ok (fV v) v := by
  unfold fV
  split
  · simp only [FRel]; exact ⟨_, rfl, fV1_relL w ok _⟩
  · exact fV1_rel w ok v
mutual
/-- Frozen, if no object is named. -/
def AV.toF : AV → Option FV
  | .f x => some x
  | .agg l => match toFL l with
    | some l => some (.agg l)
    | none => none
  | .loc _ _ => none
  | .lsl _ => none
  | .el _ _ _ _ => none
  | .lvw _ _ _ _ => none
  | .fn i a b => match toFL a, toFL b with
    | some a, some b => some (.fn i a b)
    | _, _ => none
  | .nul => none
def toFL : List AV → Option (List FV)
  | [] => some []
  | x :: l => match x.toF, toFL l with
    | some x, some l => some (x :: l)
    | _, _ => none
end
mutual
theorem AV.toF_rel {w : World} {ok : Nat → Prop} {en : Env} : ∀ (x : AV) (y : FV) (v : Value), x.toF = some y → ARel w ok en x v → FRel w ok y v
  | .f x, y, v, h, hr => by simp only [AV.toF, Option.some.injEq] at h; subst h; simpa [ARel] using hr
  | .agg l, y, v, h, hr => by
    simp only [AV.toF] at h
    split at h
    · rename_i l' hl
      simp only [Option.some.injEq] at h
      subst h
      simp only [ARel, FRel] at hr ⊢
      obtain ⟨cs, e, hr⟩ := hr
      exact ⟨cs, e, toFL_rel l l' cs hl hr⟩
    · cases h
  | .loc _ _, _, _, h, _ => by simp [AV.toF] at h
  | .lsl _, _, _, h, _ => by simp [AV.toF] at h
  | .el _ _ _ _, _, _, h, _ => by simp [AV.toF] at h
  | .lvw _ _ _ _, _, _, h, _ => by simp [AV.toF] at h
  | .fn i a b, y, v, h, hr => by
    simp only [AV.toF] at h
    split at h
    · rename_i a' b' ha hb
      simp only [Option.some.injEq] at h
      subst h
      simp only [ARel, FRel] at hr ⊢
      obtain ⟨fs, cs, e, h1, h2⟩ := hr
      exact ⟨fs, cs, e, toFL_rel a a' fs ha h1, toFL_rel b b' cs hb h2⟩
    · cases h
  | .nul, _, _, h, _ => by simp [AV.toF] at h
theorem toFL_rel {w : World} {ok : Nat → Prop} {en : Env} : ∀ (l : List AV) (m : List FV) (vs : List Value), toFL l = some m → ARelL w ok en l vs → FRelL w ok m vs
  | [], m, vs, h, hr => by simp only [toFL, Option.some.injEq] at h; subst h; simpa [ARelL, FRelL] using hr
  | x :: l, m, vs, h, hr => by
    simp only [toFL] at h
    split at h
    · rename_i x' l' hx hl
      simp only [Option.some.injEq] at h
      subst h
      simp only [ARelL, FRelL] at hr ⊢
      obtain ⟨v, r, e, h1, h2⟩ := hr
      exact ⟨v, r, e, AV.toF_rel x x' v hx h1, toFL_rel l l' r hl h2⟩
    · cases h
end
mutual
/-- Object k, frozen, is named by what it holds. -/
def AV.sub (k : Nat) (p : Ob) (c : List FV) : AV → AV
  | .f x => .f x
  | .agg l => .agg (subL k p c l)
  | .loc j o => if j = k then (match p with | .box _ => .f (.ptr c o) | _ => .f .any) else .loc j o
  | .lsl j => if j = k then (match p with | .row sz _ es => .f (.sl sz es) | _ => .f .any) else .lsl j
  | .el j sz i d => if j = k then .f .any else .el j sz i d
  | .lvw j sz o n => if j = k then .f .any else .lvw j sz o n
  | .fn i a b => .fn i (subL k p c a) (subL k p c b)
  | .nul => .nul
def subL (k : Nat) (p : Ob) (c : List FV) : List AV → List AV
  | [] => []
  | x :: l => x.sub k p c :: subL k p c l
end
def getOb (k : Nat) : List (Nat × Ob) → Option Ob
  | [] => none
  | (j, o) :: r => if j = k then some o else getOb k r
def setOb (k : Nat) (o : Ob) : List (Nat × Ob) → List (Nat × Ob)
  | [] => []
  | (j, p) :: r => if j = k then (j, o) :: r else (j, p) :: setOb k o r
def delOb (k : Nat) : List (Nat × Ob) → List (Nat × Ob)
  | [] => []
  | (j, p) :: r => if j = k then delOb k r else (j, p) :: delOb k r
def Ob.sub (k : Nat) (p : Ob) (c : List FV) : Ob → Ob
  | .box cs => .box (subL k p c cs)
  | .row a b es => .row a b es
  | .iter s i => .iter s i
  | .yd Y i => .yd Y i
def subObs (k : Nat) (p : Ob) (c : List FV) : List (Nat × Ob) → List (Nat × Ob)
  | [] => []
  | (j, o) :: r => (j, Ob.sub k p c o) :: subObs k p c r
def St.sub (st : St) (k : Nat) (p : Ob) (c : List FV) : St := { sl := subL k p c st.sl, ob := subObs k p c (delOb k st.ob), nx := st.nx, kp := st.kp, nd := st.nd }
/-- Object k is frozen, if what it holds is. -/
def St.frz (st : St) (k : Nat) : Option St :=
  match getOb k st.ob with
  | some (.box cs) => match toFL cs with
    | some c => some (st.sub k (.box cs) c)
    | none => none
  | some (.row sz e es) => some (st.sub k (.row sz e es) [])
  | _ => none
/-- An object by its number, or (from 1000 on) by a slot that names it. -/
def St.obAt (st : St) (k : Nat) : Nat := if k < 1000 then k else match st.sl.getD (k - 1000) (.f .any) with
  | .lsl j => j
  | .loc j _ => j
  | _ => k
def St.frzs (st : St) : List Nat → Option St
  | [] => some st
  | k :: ks => match st.frz (st.obAt k) with
    | some st' => st'.frzs ks
    | none => none
mutual
/-- Objects by other names; what has none is forgotten. -/
def AV.ren (ρ : List (Nat × Nat)) : AV → AV
  | .f x => .f x
  | .agg l => .agg (renL ρ l)
  | .loc j o => match ρ.lookup j with
    | some k => .loc k o
    | none => .f .any
  | .lsl j => match ρ.lookup j with
    | some k => .lsl k
    | none => .f .any
  | .el j sz i d => match ρ.lookup j with
    | some k => .el k sz i d
    | none => .f .any
  | .lvw j sz o n => match ρ.lookup j with
    | some k => .lvw k sz o n
    | none => .f .any
  | .fn i a b => .fn i (renL ρ a) (renL ρ b)
  | .nul => .nul
def renL (ρ : List (Nat × Nat)) : List AV → List AV
  | [] => []
  | x :: l => x.ren ρ :: renL ρ l
end
def Ob.ren (ρ : List (Nat × Nat)) : Ob → Ob
  | .box cs => .box (renL ρ cs)
  | .row a b es => .row a b es
  | .iter s i => .iter s i
  | .yd Y i => .yd Y i
/-- The old name of a new one. -/
def oldOf (ρ : List (Nat × Nat)) (k : Nat) : Option Nat := (ρ.map fun p => (p.2, p.1)).lookup k
/-- Slots that say less. -/
def weakL : List AV → List AV → Prop
  | [], [] => True
  | x :: l, y :: m => match y with
    | .nul => weakL l m
    | _ => x = y ∧ weakL l m
  | _, _ => False
def weakO (ob : List (Nat × Ob)) (ρ : List (Nat × Nat)) : List (Nat × Ob) → Prop
  | [] => True
  | (k, o) :: r => (match oldOf ρ k with
    | some j => (match getOb j ob with
      | some p => p.ren ρ = o
      | none => False)
    | none => False) ∧ weakO ob ρ r
/-- The renaming is one to one, below n. -/
def renOk (ρ : List (Nat × Nat)) (n : Nat) : Bool := ρ.all fun p => ρ.lookup p.1 == some p.2 && oldOf ρ p.2 == some p.1 && decide (p.2 < n)
def St.weak (st : St) (ρ : List (Nat × Nat)) (S : St) : Prop := renOk ρ S.nx = true ∧ weakL (renL ρ st.sl) S.sl ∧ weakO st.ob ρ S.ob ∧ ((S.kp.all fun t => st.kp.contains t) = true ∧ (S.nd = true → st.nd = true))
def St.opnd (st : St) : Operand → AV
  | .tmp t => st.sl.getD t (.f .any)
  | .const v => .f (fV v)
  | .func f => .f (.fn f [] [])
  | .global _ => .f .any
def opL (st : St) : List Operand → List AV
  | [] => []
  | x :: l => st.opnd x :: opL st l
/-- Is an address nil? -/
def IsNil (y : FV) (b : Bool) : Prop := (b = true → y = .sc (.pointer none)) ∧ (b = false → ∃ cs o, y = .ptr cs o)
/-- One cell's value? -/
def FV.one : FV → Bool
  | .agg _ => false
  | .tup _ => false
  | .any => false
  | .sc v => v.oneCell'
  | _ => true
def AV.one : AV → Bool
  | .f x => x.one
  | .agg _ => false
  | .nul => false
  | _ => true
def cellsAV (x : AV) : Option (List AV) :=
  match x with
  | .agg l => some l
  | .f (.agg l) => some (l.map .f)
  | x => if x.one then some [x] else none
def oneL : List AV → Bool
  | [] => true
  | x :: l => x.one && oneL l
end Go.Sx

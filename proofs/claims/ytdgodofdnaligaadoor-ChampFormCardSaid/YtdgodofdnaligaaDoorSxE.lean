/-
  Proved: what some functions of the program answer, or a law of the evaluator that shows it, one theorem each; its conditions are the hypotheses that stand ahead of it.
-/
import Derived.Test.YtdgodofdnaligaaDoorSxD
import Derived.Laws.StructEq
set_option linter.unusedVariables false
set_option linter.unusedSimpArgs false
namespace Go.Sx
open Go.RowKit
section
variable {P : Program} {G : Gr} {X : Nat → Prop} {ok0 : Nat → Prop} {w0 w : World} {tv : Nat → Value} {ob : List (Nat × Ob)} {nx : Nat} {en : Env}
theorem run_sizeP {t : TypeId} {n : Nat} (h : sizeP P t = some n) (w : World) : (sizeOf t).run P w = .ok n w := by
  unfold sizeP at h
  cases hi : P.info? t with
  | none => simp [hi] at h
  | some i =>
    simp only [hi, Option.map_some, Option.some.injEq] at h
    simp [sizeOf, typeInfo, hi, Result.andThen, h]
theorem run_fieldAt {t : TypeId} {f d : Nat} (b o : Nat) (h : fieldP P t f = some d) (w : World) :
    (Instr.fieldAt t (.pointer (some ⟨b, o, none⟩)) f).run P w = .ok (.pointer (some ⟨b, o + d, none⟩)) w := by
  unfold fieldP at h
  split at h
  · rename_i fs hu
    split at h
    · rename_i fd hf
      split at h
      · rename_i n hs
        simp only [Option.some.injEq] at h
        subst h
        simp [Instr.fieldAt, run_underlying hu, hf, Instr.sureAddr, fieldPlace, run_sizeP hs, Result.andThen, Addr.add_mid]
      · cases h
    · cases h
  · cases h
theorem run_indexAt {t e : TypeId} {z : Nat} (b o len cap : Nat) (k : IntKind) (n : Int) (h : elemP P t = some e) (hs : sizeP P e = some z) (h0 : 0 ≤ n) (h1 : n < len) (w : World) :
    (Instr.indexAt t (.slice (some ⟨b, o, none⟩) len cap) (.int k n)).run P w = .ok (.pointer (some ⟨b, o + n.toNat * z, none⟩)) w := by
  have hu : P.underlying t = some (.slice e) := by
    unfold elemP at h
    split at h
    · simp only [Option.some.injEq] at h; subst h; assumption
    · cases h
  simp [Instr.indexAt, asIntOf, run_underlying hu, Result.andThen, h0, h1, run_sizeP hs, Addr.add_mid]
theorem FRelE.get {ok : Nat → Prop} {sz : Nat} : ∀ (es : List (List FV)) (b o i : Nat) (cs : List FV), FRelE w ok sz es b o → es[i]? = some cs → FRelC w ok cs b (o + i * sz)
  | [], b, o, i, cs, h, hi => by simp at hi
  | e :: es, b, o, 0, cs, h, hi => by
    simp only [FRelE] at h
    simp at hi
    subst hi
    simpa using h.2.1
  | e :: es, b, o, i + 1, cs, h, hi => by
    simp only [FRelE] at h
    have := FRelE.get es b (o + sz) i cs h.2.2 (by simpa using hi)
    rw [show o + (i + 1) * sz = o + sz + i * sz from by rw [Nat.add_mul]; omega]
    exact this
theorem FRelC.of {ok : Nat → Prop} : ∀ (l : List FV) (vs : List Value) (b o : Nat), FRelL w ok l vs → (∀ j v, vs[j]? = some v → w.cell? ⟨b, o + j, none⟩ = some v) → FRelC w ok l b o
  | [], vs, b, o, h, hc => by simp [FRelC]
  | x :: l, vs, b, o, h, hc => by
    simp only [FRelL] at h
    obtain ⟨v, r, rfl, h1, h2⟩ := h
    simp only [FRelC]
    refine ⟨⟨v, by simpa using hc 0 v rfl, h1⟩, FRelC.of l r b (o + 1) h2 fun j u hu => ?_⟩
    have := hc (j + 1) u (by simpa using hu)
    rwa [show o + (j + 1) = o + 1 + j from by omega] at this
theorem FRelL.length {ok : Nat → Prop} : ∀ (l : List FV) (vs : List Value), FRelL w ok l vs → vs.length = l.length
  | [], vs, h => by simp only [FRelL] at h; simp [h]
  | x :: l, vs, h => by
    simp only [FRelL] at h
    obtain ⟨v, r, rfl, _, h2⟩ := h
    simp [FRelL.length l r h2]
theorem FRelL.split {ok : Nat → Prop} : ∀ (l m : List FV) (vs : List Value), FRelL w ok (l ++ m) vs → FRelL w ok l (vs.take l.length) ∧ FRelL w ok m (vs.drop l.length)
  | [], m, vs, h => by simpa [FRelL] using h
  | x :: l, m, vs, h => by
    simp only [List.cons_append, FRelL] at h
    obtain ⟨v, r, rfl, h1, h2⟩ := h
    obtain ⟨h3, h4⟩ := FRelL.split l m r h2
    simp only [List.length_cons, List.take_succ_cons, List.drop_succ_cons, FRelL]
    exact ⟨⟨v, _, rfl, h1, h3⟩, h4⟩
theorem FRelL.flat {ok : Nat → Prop} {sz : Nat} : ∀ (es : List (List FV)) (xs : List Value) (i : Nat) (cs : List FV), (∀ x ∈ es, x.length = sz) → FRelL w ok es.flatten xs → es[i]? = some cs →
    FRelL w ok cs ((xs.drop (i * sz)).take sz)
  | [], xs, i, cs, hl, h, hi => by simp at hi
  | e :: es, xs, i, cs, hl, h, hi => by
    simp only [List.flatten_cons] at h
    obtain ⟨h1, h2⟩ := FRelL.split _ _ _ h
    rw [hl e (by simp)] at h1 h2
    cases i with
    | zero => simp at hi; subst hi; simpa using h1
    | succ i =>
      have := FRelL.flat es (xs.drop sz) i cs (fun x hx => hl x (by simp [hx])) h2 (by simpa using hi)
      rw [List.drop_drop] at this
      rwa [show (i + 1) * sz = sz + i * sz from by rw [Nat.add_mul]; omega]
theorem FRelE.of {ok : Nat → Prop} {sz : Nat} : ∀ (es : List (List FV)) (xs : List Value) (b o : Nat), (∀ x ∈ es, x.length = sz) → FRelL w ok es.flatten xs → (∀ j v, xs[j]? = some v → w.cell? ⟨b, o + j, none⟩ = some v) →
    FRelE w ok sz es b o
  | [], xs, b, o, hl, h, hc => by simp [FRelE]
  | e :: es, xs, b, o, hl, h, hc => by
    simp only [List.flatten_cons] at h
    obtain ⟨h1, h2⟩ := FRelL.split _ _ _ h
    rw [hl e (by simp)] at h1 h2
    simp only [FRelE]
    refine ⟨hl e (by simp), FRelC.of e _ b o h1 fun j v hv => hc j v ?_, FRelE.of es (xs.drop sz) b (o + sz) (fun x hx => hl x (by simp [hx])) h2 fun j v hv => ?_⟩
    · rw [List.getElem?_take] at hv
      split at hv
      · exact hv
      · cases hv
    · rw [List.getElem?_drop] at hv
      have := hc (sz + j) v hv
      rwa [show o + (sz + j) = o + sz + j from by omega] at this
theorem FRelE.take {ok : Nat → Prop} {sz : Nat} : ∀ (n : Nat) (es : List (List FV)) (b o : Nat), FRelE w ok sz es b o → FRelE w ok sz (es.take n) b o
  | 0, es, b, o, h => by simp [FRelE]
  | n + 1, [], b, o, h => by simp [FRelE]
  | n + 1, e :: es, b, o, h => by
    simp only [FRelE, List.take_succ_cons] at h ⊢
    exact ⟨h.1, h.2.1, FRelE.take n es b (o + sz) h.2.2⟩
theorem FRelE.drop {ok : Nat → Prop} {sz : Nat} : ∀ (n : Nat) (es : List (List FV)) (b o : Nat), FRelE w ok sz es b o → FRelE w ok sz (es.drop n) b (o + n * sz)
  | 0, es, b, o, h => by simpa using h
  | n + 1, [], b, o, h => by simp [FRelE]
  | n + 1, e :: es, b, o, h => by
    simp only [FRelE, List.drop_succ_cons] at h ⊢
    have := FRelE.drop n es b (o + sz) h.2.2
    rwa [show o + (n + 1) * sz = o + sz + n * sz from by rw [Nat.add_mul]; omega]
/-- A row's element, in cells. -/
theorem row_elem {ok : Nat → Prop} {base : Nat} {e : TypeId} {sz n : Nat} {v : Value} {xs : List Value} {es : List (List FV)} {b i : Nat} {cs : List FV} (h : w.ownsRow base e sz v n xs) (hb : v.ownBlock = some b)
    (hl : ∀ x ∈ es, x.length = sz) (hr : FRelL w ok es.flatten xs) (hi : es[i]? = some cs) : FRelC w ok cs b (i * sz) := by
  refine FRelC.of cs _ b (i * sz) (FRelL.flat es xs i cs hl hr hi) fun j u hu => ?_
  rw [List.getElem?_take] at hu
  split at hu
  · rw [List.getElem?_drop] at hu
    have := h.cells hb _ u hu
    rwa [Addr.add_mid, Nat.zero_add] at this
  · cases hu
theorem opL_rel {st : St} {ok : Nat → Prop} {ρ : Operand → Value} : ∀ (l : List Operand), OpsRel w ok en nx st ρ l → ARelL w ok en (opL st l) (l.map ρ) ∧ bdL nx (opL st l)
  | [], _ => by simp [opL, ARelL, bdL]
  | x :: l, h => by
    have h1 := h x (by simp)
    have h2 := opL_rel l (fun y hy => h y (by simp [hy]))
    simp only [opL, List.map_cons, ARelL, bdL]
    exact ⟨⟨ρ x, l.map ρ, rfl, h1.1, h2.1⟩, h1.2, h2.2⟩
theorem run_equal_ptr {t e : TypeId} (hu : P.underlying t = some (.pointer e)) (a : Addr) (w : World) : (Op.equal t (.pointer (some a)) (.pointer none)).run P w = .ok false w := by
  have h : ∀ d, (Op.equalIn (d + 1) t (.pointer (some a)) (.pointer none)).run P w = .ok false w := by
    intro d
    simp [Op.equalIn, run_underlying hu, Result.andThen]
  exact h 9999
theorem run_equal_fn {t : TypeId} {ps rs : Array TypeId} {v : Bool} (hu : P.underlying t = some (.func ps rs v)) (f : Fn) (a c : Array Value) (w : World) : (Op.equal t (.func f a c) .nilFunc).run P w = .ok false w := by
  have h : ∀ d, (Op.equalIn (d + 1) t (.func f a c) .nilFunc).run P w = .ok false w := by
    intro d
    simp [Op.equalIn, run_underlying hu, Result.andThen]
  exact h 9999
theorem run_indexAt_own {t e : TypeId} {z : Nat} (A : Option Addr) (b len cap : Nat) (k : IntKind) (n : Int) (h : elemP P t = some e) (hs : sizeP P e = some z) (h0 : 0 ≤ n) (h1 : n.toNat < len) (hA : A = some ⟨b, 0, none⟩) (w : World) :
    (Instr.indexAt t (.slice A len cap) (.int k n)).run P w = .ok (.pointer (some ⟨b, n.toNat * z, none⟩)) w := by
  subst hA
  have := run_indexAt (P := P) b 0 len cap k n h hs h0 (by omega) w
  simpa using this
theorem run_boundP {st : St} {ok : Nat → Prop} {ρ : Operand → Value} {d : Option Int} {x : Option Operand} {r : Option Int} (h : boundP st d x = some r) (ho : ∀ y, x = some y → ARel w ok en (st.opnd y) (ρ y)) :
    (x = none ∧ r = d) ∨ ∃ y k n, x = some y ∧ r = some n ∧ ρ y = .int k n := by
  unfold boundP at h
  split at h
  · simp only [Option.some.injEq] at h; exact .inl ⟨rfl, h.symm⟩
  · rename_i y
    split at h
    · rename_i k n hy
      simp only [Option.some.injEq] at h
      have := ho y rfl
      rw [hy] at this
      exact .inr ⟨y, k, n, rfl, h.symm, by simpa [ARel, FRel] using this⟩
    · cases h
theorem run_sliceBounds {b : Bool} {len cap : Nat} {lo hi : Option Value} {l : Int} {h : Int} (hlo : (lo = none ∧ l = 0) ∨ ∃ k, lo = some (.int k l)) (hhi : (hi = none ∧ h = len) ∨ ∃ k, hi = some (.int k h))
    (h0 : 0 ≤ l) (h1 : l ≤ h) (h2 : h ≤ len) (hc : len ≤ cap) (w : World) : (Instr.sliceBounds b len cap lo hi none).run P w = .ok (l.toNat, h.toNat, cap) w := by
  have a1 : l ≤ (h.toNat : Int) := by omega
  have a2 : h ≤ (cap : Int) := by omega
  have a3 : 0 ≤ h := by omega
  rcases hlo with ⟨rfl, rfl⟩ | ⟨k1, rfl⟩ <;> rcases hhi with ⟨rfl, rfl⟩ | ⟨k2, rfl⟩
  · simp [Instr.sliceBounds]
  · simp [Instr.sliceBounds, Instr.sliceBound, asIntOf, a2, a3, Result.andThen]
  · have a4 : l ≤ (len : Int) := by omega
    simp [Instr.sliceBounds, Instr.sliceBound, asIntOf, a4, h0, Result.andThen]
  · have a5 : l ≤ max h 0 := by omega
    simp [Instr.sliceBounds, Instr.sliceBound, asIntOf, a2, a3, a5, h0, Result.andThen]
theorem run_sliceAt_nil {t e : TypeId} {z l h : Nat} {lo hi : Option Value} (hu : P.underlying t = some (.slice e)) (hz : sizeP P e = some z) (w : World)
    (hb : (Instr.sliceBounds true 0 0 lo hi none).run P w = .ok (l, h, 0) w) (h1 : l = 0) (h2 : h = 0) : (Instr.sliceAt t (.slice none 0 0) lo hi none).run P w = .ok (.slice none 0 0) w := by
  subst h1
  subst h2
  simp [Instr.sliceAt, Instr.slice, run_underlying hu, hb, run_sizeP hz, Result.andThen]
theorem run_sliceAt_empty {t e : TypeId} {z l h c : Nat} {ad : Addr} {lo hi : Option Value} (hu : P.underlying t = some (.slice e)) (hz : sizeP P e = some z) (w : World)
    (hb : (Instr.sliceBounds true 0 c lo hi none).run P w = .ok (l, h, c) w) (h1 : l = 0) (h2 : h = 0) : (Instr.sliceAt t (.slice (some ad) 0 c) lo hi none).run P w = .ok (.slice (some ad) 0 c) w := by
  subst h1
  subst h2
  simp [Instr.sliceAt, Instr.slice, run_underlying hu, hb, run_sizeP hz, Result.andThen, Addr.add]
theorem run_sliceAt_some {t e : TypeId} {z l h b o len c : Nat} {lo hi : Option Value} (hu : P.underlying t = some (.slice e)) (hz : sizeP P e = some z) (w : World)
    (hb : (Instr.sliceBounds true len c lo hi none).run P w = .ok (l, h, c) w) :
    (Instr.sliceAt t (.slice (some ⟨b, o, none⟩) len c) lo hi none).run P w = .ok (.slice (some (if c = l then ⟨b, o, none⟩ else ⟨b, o + l * z, none⟩)) (h - l) (c - l)) w := by
  by_cases hc : c = l
  · subst hc
    simp [Instr.sliceAt, Instr.slice, run_underlying hu, hb, run_sizeP hz, Result.andThen]
  · simp [Instr.sliceAt, Instr.slice, run_underlying hu, hb, run_sizeP hz, Result.andThen, hc, Addr.add_mid]
theorem run_sliceAt_str {t : TypeId} {l h m : Nat} {s : ByteArray} {lo hi : Option Value} (hu : P.underlying t = some .string) (w : World)
    (hb : (Instr.sliceBounds false s.size s.size lo hi none).run P w = .ok (l, h, m) w) : (Instr.sliceAt t (.string s) lo hi none).run P w = .ok (.string (s.extract l h)) w := by
  simp [Instr.sliceAt, Instr.slice, run_underlying hu, hb, Result.andThen]
theorem run_nilEq {t : TypeId} {x y : AV} {u v : Value} {ok : Nat → Prop} (h : nilEq P t x y = true) (hx : ARel w ok en x u) (hy : ARel w ok en y v) (w' : World) (X Y : Operand) :
    ((do eqGuard .eql t X Y u v; binOp .eql t u v : Sem Value)).run P w' = .ok (.bool false) w' ∧ ((do eqGuard .neq t X Y u v; binOp .neq t u v : Sem Value)).run P w' = .ok (.bool true) w' := by
  have main : (Op.equal t u v).run P w' = .ok false w' ∧ ((∃ a, u = .pointer (some a)) ∧ v = .pointer none ∨ (∃ f a c, u = .func f a c) ∧ v = .nilFunc) := by
    unfold nilEq at h
    split at h
    · simp only [ARel, FRel] at hx hy
      obtain ⟨b, o, rfl, _, _⟩ := hx
      subst hy
      unfold ptrTy at h
      split at h
      · rename_i e hu
        exact ⟨run_equal_ptr hu _ _, .inl ⟨⟨_, rfl⟩, rfl⟩⟩
      · cases h
    · simp only [ARel, FRel] at hx hy
      obtain ⟨b, _, rfl⟩ := hx
      subst hy
      unfold ptrTy at h
      split at h
      · rename_i e hu
        exact ⟨run_equal_ptr hu _ _, .inl ⟨⟨_, rfl⟩, rfl⟩⟩
      · cases h
    · simp only [ARel, FRel] at hx hy
      obtain ⟨fs, cs, rfl, _, _⟩ := hx
      subst hy
      unfold fnTy at h
      split at h
      · rename_i a b c hu
        exact ⟨run_equal_fn hu _ _ _ _, .inr ⟨⟨_, _, _, rfl⟩, rfl⟩⟩
      · cases h
    · simp only [ARel, FRel] at hx hy
      obtain ⟨fs, cs, rfl, _, _⟩ := hx
      subst hy
      unfold fnTy at h
      split at h
      · rename_i a b c hu
        exact ⟨run_equal_fn hu _ _ _ _, .inr ⟨⟨_, _, _, rfl⟩, rfl⟩⟩
      · cases h
    · cases h
  obtain ⟨he, hs⟩ := main
  rcases hs with ⟨⟨a, rfl⟩, rfl⟩ | ⟨⟨f, a, c, rfl⟩, rfl⟩
  · rw [eqGuard_at_pointer, eqGuard_at_pointer]
    constructor
    · show ((binOp .eql t (.pointer (some a)) (.pointer none)) : Sem Value).run P w' = _
      simp only [binOp, Sem.run_bind, he, Result.andThen]; rfl
    · show ((binOp .neq t (.pointer (some a)) (.pointer none)) : Sem Value).run P w' = _
      simp only [binOp, Sem.run_bind, he, Result.andThen]; rfl
  · rw [eqGuard_at_func, eqGuard_at_func]
    constructor
    · show ((binOp .eql t (.func f a c) .nilFunc) : Sem Value).run P w' = _
      simp only [binOp, Sem.run_bind, he, Result.andThen]; rfl
    · show ((binOp .neq t (.func f a c) .nilFunc) : Sem Value).run P w' = _
      simp only [binOp, Sem.run_bind, he, Result.andThen]; rfl
theorem run_equal_nils {t e : TypeId} (hu : P.underlying t = some (.pointer e)) (w : World) : (Op.equal t (.pointer none) (.pointer none)).run P w = .ok true w := by
  have h : ∀ d, (Op.equalIn (d + 1) t (.pointer none) (.pointer none)).run P w = .ok true w := by
    intro d
    simp [Op.equalIn, run_underlying hu, Result.andThen]
  exact h 9999
theorem run_isn {t : TypeId} {x y : AV} {u v : Value} {ok : Nat → Prop} {hs hs' : List Hint} {q : Prop} {c : Bool} (h : isnR P t x y hs = some (q, c, hs')) (hq : q) (hx : ARel w ok en x u) (hy : ARel w ok en y v) (w' : World) (X Y : Operand) :
    ((do eqGuard .eql t X Y u v; binOp .eql t u v : Sem Value)).run P w' = .ok (.bool c) w' ∧ ((do eqGuard .neq t X Y u v; binOp .neq t u v : Sem Value)).run P w' = .ok (.bool (!c)) w' := by
  unfold isnR at h
  split at h
  · rename_i b hs2
    split at h
    · rename_i ht
      split at h
      case h_2 => cases h
      rename_i z
      simp only [Option.some.injEq, Prod.mk.injEq] at h
      obtain ⟨rfl, rfl, rfl⟩ := h
      have hu : ∃ e, P.underlying t = some (.pointer e) := by
        unfold ptrTy at ht
        split at ht
        · exact ⟨_, by assumption⟩
        · cases ht
      obtain ⟨e, hu⟩ := hu
      simp only [ARel, FRel] at hx hy
      subst hy
      have key : (Op.equal t u (.pointer none)).run P w' = .ok b w' ∧ ∃ a, u = .pointer a := by
        cases b with
        | true =>
          have := hq.1 rfl
          subst this
          simp only [FRel] at hx
          subst hx
          exact ⟨run_equal_nils hu _, _, rfl⟩
        | false =>
          obtain ⟨cs, o, rfl⟩ := hq.2 rfl
          simp only [FRel] at hx
          obtain ⟨b, o2, rfl, _⟩ := hx
          exact ⟨run_equal_ptr hu _ _, _, rfl⟩
      obtain ⟨he, a, rfl⟩ := key
      rw [eqGuard_at_pointer, eqGuard_at_pointer]
      constructor
      · show ((binOp .eql t (.pointer a) (.pointer none)) : Sem Value).run P w' = _
        simp only [binOp, Sem.run_bind, he, Result.andThen]; cases b <;> rfl
      · show ((binOp .neq t (.pointer a) (.pointer none)) : Sem Value).run P w' = _
        simp only [binOp, Sem.run_bind, he, Result.andThen]; cases b <;> rfl
    · split at h
      · rename_i xs ys h1 h2
        simp only [Option.some.injEq, Prod.mk.injEq] at h
        obtain ⟨rfl, rfl, rfl⟩ := h
        have e1 := scal_rel h1 hx
        have e2 := scal_rel h2 hy
        subst e1 e2
        have he := hq.e w'
        rw [Sem.run_bind, Sem.run_bind, run_eqGuard_agg _ _ _ _ _ _ _ hq.g, run_eqGuard_agg _ _ _ _ _ _ _ hq.g]
        constructor
        · show ((binOp .eql t (.agg xs) (.agg ys)) : Sem Value).run P w' = _
          simp only [binOp, Sem.run_bind, he, Result.andThen]; cases b <;> rfl
        · show ((binOp .neq t (.agg xs) (.agg ys)) : Sem Value).run P w' = _
          simp only [binOp, Sem.run_bind, he, Result.andThen]; cases b <;> rfl
      · cases h
  · cases h
theorem run_enter {f : Nat} (h : entersP P f = true) (args : Array Value) (w : World) : (callFunc f args).run P w = .ok (.enter f args) w := by
  unfold entersP at h
  split at h
  · rename_i fn hf
    simp only [Bool.and_eq_true, bne_iff_ne, ne_eq] at h
    have h1 : (fn.name == "runtime.NumGoroutine") = false := by simpa using h.1
    have h2 : fn.body.isNone = false := by
      cases hb : fn.body with
      | none => simp [hb] at h
      | some c => rfl
    have h3 : ¬ fn.body = none := by intro e; rw [e] at h2; cases h2
    simp [callFunc, hf, h.1, h3, Result.andThen]
  · cases h
theorem placesL_run : ∀ (fs : List Field) (pl : List (Nat × Nat)), placesL P fs = some pl → ∀ w : World,
    (fs.mapM (fun f => do pure (f.offset, ← sizeOf f.type) : Field → Sem (Nat × Nat))).run P w = .ok pl w
  | [], pl, h, w => by simp only [placesL, Option.some.injEq] at h; subst h; simp [Sem.run]
  | f :: fs, pl, h, w => by
    simp only [placesL] at h
    split at h
    · rename_i n r hn hr
      simp only [Option.some.injEq] at h
      subst h
      have ih := placesL_run fs r hr w
      simp only [bind_pure_comp] at ih ⊢
      simp [List.mapM_cons, run_sizeP hn, Result.andThen, ih]
    · cases h
end
end Go.Sx

/-
  Proved: what some functions of the program answer, or a law of the evaluator that shows it, one theorem each; its conditions are the hypotheses that stand ahead of it.
-/
import Derived.Test.YtmnefgonaaakfaaDoorD1
import Derived.KernelRfl
set_option maxRecDepth 100000
set_option linter.unusedSimpArgs false
set_option linter.unusedVariables false
namespace Go.Sx
open Go.Proofs Sp
theorem CallY.mono {Q : Program} {f : Nat} {args : Array Value} {w : World} {R R' : Value → World → Prop} (h : CallY Q f args w R) (hr : ∀ v w', R v w' → R' v w') : CallY Q f args w R' := by
  unfold CallY at *
  split at h
  · exact hr _ _ h
  · exact h.mono fun e w'' ⟨v, he, hv⟩ => ⟨v, he, hr _ _ hv⟩
  · exact h.elim
theorem CallsF.weak {Q : Program} {g : Gr} {f : Nat} {args : List FV} {r r' : FV} (h : CallsF Q g f args r) (hw : ∀ w ok v, FRel w ok r v → FRel w ok r' v) : CallsF Q g f args r' :=
  fun w ok vs hg hok hv => (h w ok vs hg hok hv).mono fun v w' hr => ⟨hw _ _ _ hr.1, hr.2⟩
theorem nils_sl (z : Nat) : ∀ w ok v, FRel w ok .nils v → FRel w ok (.sl z []) v := by
  intro w ok v h
  simp only [FRel] at h ⊢
  exact .inl ⟨trivial, .inl h⟩
def zeroC : List FV := [int 0, int 0, str [], .nils]
/-- The first i are told, the others are as they were made. -/
def ownE (l : List V) (i : Nat) : List (List FV) := cellsVs (l.take i) ++ List.replicate (l.length - i) zeroC
def Sown (l : List V) (i : Nat) : St := { sl := slots 26 [(0, .f (encI l)), (2, .f .nils), (3, .lsl 0), (12, .f (encI l)), (13, .f (int (cellsVs l).length)), (14, .f (int (i : Int)))], ob := [(0, .row 4 24 (ownE l i))], nx := 1 }
theorem cellsVs_app : ∀ a b : List V, cellsVs (a ++ b) = cellsVs a ++ cellsVs b
  | [], b => rfl
  | x :: a, b => by simp [cellsVs, cellsVs_app a b]
theorem ownE_set (l : List V) (i : Nat) (h : i < l.length) : (ownE l i).set i (cellsP (l.getD i default)) = ownE l (i + 1) := by
  unfold ownE
  have h1 : (cellsVs (l.take i)).length = i := by rw [cellsVs_length]; simp; omega
  rw [List.set_append_right _ _ (by omega), h1, Nat.sub_self, show l.length - i = (l.length - (i + 1)) + 1 from by omega, List.replicate_succ, List.set_cons_zero]
  rw [List.take_succ_eq_append_getElem h, cellsVs_app]
  simp [cellsVs, cellsP_eq, List.getD_eq_getElem?_getD, h]
theorem ownE_length (l : List V) (i : Nat) (h : i ≤ l.length) : (ownE l i).length = l.length := by
  unfold ownE; simp [cellsVs_length]; omega
theorem get54 : P.funcs[54]? = some Tryd.f54 := by kernel_rfl
theorem ent54 : entersP P 54 = true := by kernel_rfl
theorem owns_nil   : CallsF P G 54 [encI []] (.nils) := by
  refine sx_fn (hs := [.dec true]) (((true) = (true)) ∧ (FV.nils) = (FV.nils)) get54 ent54 (by kernel_rfl) ?_
  exact ⟨rfl, rfl⟩
theorem owns_some (l : List V) (N : Nat) (hl : l.length ≤ 2513169434844) (h0 : 0 < l.length) (hN : N = l.length) (ih : ∀ i, i < l.length → CallsF P G 75 [encV (l.getD i default)] (encV (l.getD i default))) : CallsF P G 54 [encI l] (.sl 4 (ownE l N)) := by
  refine sx_fn (hs := [.br [] [.loop [(0, 0)] [(0, 0)] (Sown l) (N) (fun i => [.br [.el (cellsP (List.getD l (Int.toNat (↑i : Int)) default)), .call (encV (List.getD l (Int.toNat (↑i : Int)) default))] []]), .br [.el (cellsP (List.getD l (Int.toNat (↑N : Int)) default)), .call (encV (List.getD l (Int.toNat (↑N : Int)) default))] [.frz [0]]]]) (((((↑(List.length (cellsVs l)) : Int) == 0) = (true)) → ((FV.nils) = (FV.sl 4 (ownE l N)))) ∧ ((((↑(List.length (cellsVs l)) : Int) == 0) = (false)) → (((((↑(List.length (cellsVs l)) : Int)) = ((↑(List.length (cellsVs l)) : Int))) ∧ (0 ≤ (↑(List.length (cellsVs l)) : Int)) ∧ (56 * Int.toNat (↑(List.length (cellsVs l)) : Int) ≤ 281474976710656) ∧ Int.toNat (↑(List.length (cellsVs l)) : Int) ≤ maxLen) ∧ (((true) = (true)) ∧ (((AV.f (FV.sl 4 (cellsVs l))) = (AV.f (FV.sl 4 (cellsVs l)))) ∧ ((AV.f FV.nils) = (AV.f FV.nils)) ∧ ((AV.lsl 0) = (AV.lsl 0)) ∧ ((AV.f (FV.sl 4 (cellsVs l))) = (AV.f (FV.sl 4 (cellsVs l)))) ∧ ((AV.f (FV.sc (Value.int IntKind.i64 (↑(List.length (cellsVs l)) : Int)))) = (AV.f (FV.sc (Value.int IntKind.i64 (↑(List.length (cellsVs l)) : Int))))) ∧ ((AV.f (FV.sc (Value.int IntKind.i64 (Int.ofNat 0)))) = (AV.f (FV.sc (Value.int IntKind.i64 (Int.ofNat 0))))) ∧ True) ∧ ((Ob.row 4 24 (List.replicate (Int.toNat (↑(List.length (cellsVs l)) : Int)) (List.map fV1 (Array.toList (Value.cells (Value.agg #[Value.int IntKind.i64 0, Value.int IntKind.i64 0, Value.string { data := #[] }, Value.slice none 0 0])))))) = (Ob.row 4 24 (ownE l 0))) ∧ True) ∧ (∀ (i : Nat), (i < N) → ((((decide ((↑i : Int) < (↑(List.length (cellsVs l)) : Int))) = (true)) → ((((4) = (4)) ∧ (0 ≤ (↑i : Int)) ∧ ((cellsVs l)[Int.toNat (↑i : Int)]?) = (some [FV.sc (Value.int IntKind.i64 (V.kind (List.getD l (Int.toNat (↑i : Int)) default))), FV.sc (Value.int IntKind.i64 (V.num (List.getD l (Int.toNat (↑i : Int)) default))), FV.sc (Value.string { data := List.toArray (V.text (List.getD l (Int.toNat (↑i : Int)) default)) }), FV.sl 4 (cellsVs (V.items (List.getD l (Int.toNat (↑i : Int)) default)))])) ∧ (CallsF P G 75 [FV.agg [FV.sc (Value.int IntKind.i64 (V.kind (List.getD l (Int.toNat (↑i : Int)) default))), FV.sc (Value.int IntKind.i64 (V.num (List.getD l (Int.toNat (↑i : Int)) default))), FV.sc (Value.string { data := List.toArray (V.text (List.getD l (Int.toNat (↑i : Int)) default)) }), FV.sl 4 (cellsVs (V.items (List.getD l (Int.toNat (↑i : Int)) default)))]] (FV.agg [FV.sc (Value.int IntKind.i64 (V.kind (List.getD l (Int.toNat (↑i : Int)) default))), FV.sc (Value.int IntKind.i64 (V.num (List.getD l (Int.toNat (↑i : Int)) default))), FV.sc (Value.string { data := List.toArray (V.text (List.getD l (Int.toNat (↑i : Int)) default)) }), FV.sl 4 (cellsVs (V.items (List.getD l (Int.toNat (↑i : Int)) default)))])) ∧ ((0 ≤ (↑i : Int)) ∧ Int.toNat (↑i : Int) < List.length (ownE l i)) ∧ (Int.toNat (↑i : Int) < List.length (ownE l i)) ∧ ((true) = (true)) ∧ (((AV.f (FV.sl 4 (cellsVs l))) = (AV.f (FV.sl 4 (cellsVs l)))) ∧ ((AV.f FV.nils) = (AV.f FV.nils)) ∧ ((AV.lsl 0) = (AV.lsl 0)) ∧ ((AV.f (FV.sl 4 (cellsVs l))) = (AV.f (FV.sl 4 (cellsVs l)))) ∧ ((AV.f (FV.sc (Value.int IntKind.i64 (↑(List.length (cellsVs l)) : Int)))) = (AV.f (FV.sc (Value.int IntKind.i64 (↑(List.length (cellsVs l)) : Int))))) ∧ ((AV.f (FV.sc (Value.int IntKind.i64 (IntKind.wrap IntKind.i64 ((↑i : Int) + 1))))) = (AV.f (FV.sc (Value.int IntKind.i64 (↑(i + 1) : Int))))) ∧ True) ∧ ((Ob.row 4 24 (List.set (ownE l i) (Int.toNat (↑i : Int)) [int (V.kind (List.getD l (Int.toNat (↑i : Int)) default)), int (V.num (List.getD l (Int.toNat (↑i : Int)) default)), str (V.text (List.getD l (Int.toNat (↑i : Int)) default)), FV.sl 4 (cellsVs (V.items (List.getD l (Int.toNat (↑i : Int)) default)))])) = (Ob.row 4 24 (ownE l (i + 1)))) ∧ True)) ∧ (((decide ((↑i : Int) < (↑(List.length (cellsVs l)) : Int))) = (false)) → (False)))) ∧ (((decide ((↑N : Int) < (↑(List.length (cellsVs l)) : Int))) = (true)) → ((((4) = (4)) ∧ (0 ≤ (↑N : Int)) ∧ ((cellsVs l)[Int.toNat (↑N : Int)]?) = (some [FV.sc (Value.int IntKind.i64 (V.kind (List.getD l (Int.toNat (↑N : Int)) default))), FV.sc (Value.int IntKind.i64 (V.num (List.getD l (Int.toNat (↑N : Int)) default))), FV.sc (Value.string { data := List.toArray (V.text (List.getD l (Int.toNat (↑N : Int)) default)) }), FV.sl 4 (cellsVs (V.items (List.getD l (Int.toNat (↑N : Int)) default)))])) ∧ (CallsF P G 75 [FV.agg [FV.sc (Value.int IntKind.i64 (V.kind (List.getD l (Int.toNat (↑N : Int)) default))), FV.sc (Value.int IntKind.i64 (V.num (List.getD l (Int.toNat (↑N : Int)) default))), FV.sc (Value.string { data := List.toArray (V.text (List.getD l (Int.toNat (↑N : Int)) default)) }), FV.sl 4 (cellsVs (V.items (List.getD l (Int.toNat (↑N : Int)) default)))]] (FV.agg [FV.sc (Value.int IntKind.i64 (V.kind (List.getD l (Int.toNat (↑N : Int)) default))), FV.sc (Value.int IntKind.i64 (V.num (List.getD l (Int.toNat (↑N : Int)) default))), FV.sc (Value.string { data := List.toArray (V.text (List.getD l (Int.toNat (↑N : Int)) default)) }), FV.sl 4 (cellsVs (V.items (List.getD l (Int.toNat (↑N : Int)) default)))])) ∧ ((0 ≤ (↑N : Int)) ∧ Int.toNat (↑N : Int) < List.length (ownE l N)) ∧ (Int.toNat (↑N : Int) < List.length (ownE l N)) ∧ False)) ∧ (((decide ((↑N : Int) < (↑(List.length (cellsVs l)) : Int))) = (false)) → ((FV.sl 4 (ownE l N)) = (FV.sl 4 (ownE l N))))))) get54 ent54 (by kernel_rfl) ?_
  refine ⟨fun hi => ?_, fun hi => ⟨⟨rfl, ⟨?_, ⟨?_, ?_⟩⟩⟩, ⟨⟨rfl, ⟨⟨rfl, ⟨rfl, ⟨rfl, ⟨rfl, ⟨rfl, ⟨rfl, trivial⟩⟩⟩⟩⟩⟩, ⟨?_, trivial⟩⟩⟩, fun i => fun hlt => ⟨fun hi => ⟨⟨rfl, ⟨?_, ?_⟩⟩, ⟨?_, ⟨⟨?_, ?_⟩, ⟨?_, ⟨rfl, ⟨⟨rfl, ⟨rfl, ⟨rfl, ⟨rfl, ⟨rfl, ⟨?_, trivial⟩⟩⟩⟩⟩⟩, ⟨?_, trivial⟩⟩⟩⟩⟩⟩⟩, fun hi => ?_⟩, ⟨fun hi => ⟨⟨rfl, ⟨?_, ?_⟩⟩, ⟨?_, ⟨⟨?_, ?_⟩, ⟨?_, ?_⟩⟩⟩⟩, fun hi => rfl⟩⟩⟩⟩
  all_goals first | rfl | (simp only [cellsVs_length, decide_eq_true_eq, decide_eq_false_iff_not, ownE_length l i (by omega), Int.toNat_natCast] at *; omega) | (simp only [cellsVs_length, decide_eq_true_eq, decide_eq_false_iff_not, Int.toNat_natCast] at *; omega) | exact cellsVs_get l _ (by omega) | exact ih i (by omega) | (exact congrArg (fun x => AV.f (int x)) (wrapS ((i : Int) + 1) (by omega) (by omega))) | (rw [Int.toNat_natCast]; exact congrArg (Ob.row 4 24) (ownE_set l i (by omega))) | (simp [cellsVs_length]; done) | (simp [cellsVs_length]; omega) | (simp [maxLen, cellsVs_length]; omega) | (simp [ownE, cellsVs_length, cellsVs, zeroC, int, str]; done) | (exfalso; simp only [cellsVs_length, beq_iff_eq] at hi; omega) | (simp [ownE, cellsVs_length, cellsVs, zeroC, int, str, Value.cells, fV1]; done) | assumption | omega | (simp only [decide_eq_true_eq, decide_eq_false_iff_not]; omega) | (simp only [decide_eq_true_eq, decide_eq_false_iff_not, beq_iff_eq, beq_eq_false_iff_ne, cellsVs_length, List.length_append, List.length_map, List.length_take, List.length_drop, List.length_reverse, List.length_set, List.length_replicate, chunk, List.length_cons, List.length_nil, Int.toNat_natCast, V.items, maxLen]; omega) | (exfalso; simp only [decide_eq_true_eq, decide_eq_false_iff_not, beq_iff_eq, beq_eq_false_iff_ne, cellsVs_length, List.length_append, List.length_map, List.length_take, List.length_drop, List.length_reverse, List.length_set, List.length_replicate, chunk, List.length_cons, List.length_nil, Int.toNat_natCast, V.items, maxLen] at *; omega) | (rw [wrapS _ (by omega) (by omega)]; omega) | (exact congrArg (fun x => AV.f (int x)) (by (try simp only [cellsVs_length, List.length_append, List.length_map, List.length_take, List.length_drop, List.length_reverse, List.length_set, List.length_replicate, chunk, List.length_cons, List.length_nil, Int.toNat_natCast, V.items, maxLen]); rw [wrapS _ (by omega) (by omega)]; (try omega))) | (intro x hx; simp at hx; rcases hx with rfl | rfl | rfl | rfl <;> rfl) | (intro x hx; simp at hx; rcases hx with rfl | rfl | rfl | rfl | rfl | rfl | rfl | rfl <;> rfl) | (simp [V.kind, V.num, V.text, V.items, *]; done) | (simp_all [V.kind, V.num, V.text, V.items]; done)
theorem get75 : P.funcs[75]? = some Tryd.f75 := by kernel_rfl
theorem ent75 : entersP P 75 = true := by kernel_rfl
theorem own_step (k n : Int) (s : List UInt8) (l : List V) (h : CallsF P G 54 [encI l] (encI l)) : CallsF P G 75 [encV (.mk k n s l)] (encV (.mk k n s l)) := by
  refine sx_fn (hs := [.call (encI (V.items (V.mk k n s l)))]) ((CallsF P G 54 [FV.sl 4 (cellsVs (V.items (V.mk k n s l)))] (FV.sl 4 (cellsVs (V.items (V.mk k n s l))))) ∧ (FV.agg [FV.sc (Value.int IntKind.i64 (V.kind (V.mk k n s l))), FV.sc (Value.int IntKind.i64 (V.num (V.mk k n s l))), FV.sc (Value.string { data := List.toArray (V.text (V.mk k n s l)) }), FV.sl 4 (cellsVs (V.items (V.mk k n s l)))]) = (FV.agg [FV.sc (Value.int IntKind.i64 (V.kind (V.mk k n s l))), FV.sc (Value.int IntKind.i64 (V.num (V.mk k n s l))), FV.sc (Value.string { data := List.toArray (V.text (V.mk k n s l)) }), FV.sl 4 (cellsVs (V.items (V.mk k n s l)))])) get75 ent75 (by kernel_rfl) ?_
  refine ⟨?_, rfl⟩
  all_goals first | exact h | rfl | assumption | omega | (simp only [decide_eq_true_eq, decide_eq_false_iff_not]; omega) | (simp only [decide_eq_true_eq, decide_eq_false_iff_not, beq_iff_eq, beq_eq_false_iff_ne, cellsVs_length, List.length_append, List.length_map, List.length_take, List.length_drop, List.length_reverse, List.length_set, List.length_replicate, chunk, List.length_cons, List.length_nil, Int.toNat_natCast, V.items, maxLen]; omega) | (exfalso; simp only [decide_eq_true_eq, decide_eq_false_iff_not, beq_iff_eq, beq_eq_false_iff_ne, cellsVs_length, List.length_append, List.length_map, List.length_take, List.length_drop, List.length_reverse, List.length_set, List.length_replicate, chunk, List.length_cons, List.length_nil, Int.toNat_natCast, V.items, maxLen] at *; omega) | (rw [wrapS _ (by omega) (by omega)]; omega) | (exact congrArg (fun x => AV.f (int x)) (by (try simp only [cellsVs_length, List.length_append, List.length_map, List.length_take, List.length_drop, List.length_reverse, List.length_set, List.length_replicate, chunk, List.length_cons, List.length_nil, Int.toNat_natCast, V.items, maxLen]); rw [wrapS _ (by omega) (by omega)]; (try omega))) | (intro x hx; simp at hx; rcases hx with rfl | rfl | rfl | rfl <;> rfl) | (intro x hx; simp at hx; rcases hx with rfl | rfl | rfl | rfl | rfl | rfl | rfl | rfl <;> rfl) | (simp [V.kind, V.num, V.text, V.items, *]; done) | (simp_all [V.kind, V.num, V.text, V.items]; done)
theorem owns_ok (l : List V) (hl : l.length ≤ 2513169434844) (ih : ∀ x, x ∈ l → CallsF P G 75 [encV x] (encV x)) : CallsF P G 54 [encI l] (encI l) := by
  rcases Nat.eq_zero_or_pos l.length with h | h
  · have : l = [] := List.eq_nil_of_length_eq_zero h
    subst this
    exact owns_nil.weak (nils_sl 4)
  · have := owns_some l l.length hl h rfl (fun i hi => by
      have hmem : l.getD i default ∈ l := by rw [List.getD_eq_getElem?_getD, List.getElem?_eq_getElem hi]; exact List.getElem_mem hi
      exact ih _ hmem)
    have e : ownE l l.length = cellsVs l := by simp [ownE]
    rw [e] at this
    exact this
theorem own_ok : ∀ v, Fine v → CallsF P G 75 [encV v] (encV v) := by
  intro v
  induction v using V.ind with
  | h k n s l ih =>
    intro hv
    exact own_step k n s l (owns_ok l hv.len.1 fun x hx => ih x hx (hv.items.2 x hx))
theorem get39 : P.funcs[39]? = some Tryd.f39 := by kernel_rfl
theorem ent39 : entersP P 39 = true := by kernel_rfl
theorem plainInt_ok (n : Int)  : CallsF P G 39 [int n] (.agg [int 2, int n, str [], .nils]) := by
  refine sx_fn (hs := []) ((FV.agg [FV.sc (Value.int IntKind.i64 (Int.ofNat 2)), FV.sc (Value.int IntKind.i64 n), FV.sc (Value.string { data := #[] }), FV.nils]) = (FV.agg [FV.sc (Value.int IntKind.i64 (Int.ofNat 2)), FV.sc (Value.int IntKind.i64 n), FV.sc (Value.string { data := #[] }), FV.nils])) get39 ent39 (by kernel_rfl) ?_
  rfl
theorem nilV (k n : Int) (s : List UInt8) : ∀ w ok v, FRel w ok (.agg [int k, int n, str s, .nils]) v → FRel w ok (encV (.mk k n s [])) v := by
  intro w ok v h
  simp only [FRel, encV, cellsP, V.kind, V.num, V.text, V.items, cellsVs] at h ⊢
  obtain ⟨cs, e, h⟩ := h
  refine ⟨cs, e, ?_⟩
  simp only [FRelL] at h ⊢
  obtain ⟨v1, r1, e1, h1, v2, r2, e2, h2, v3, r3, e3, h3, v4, r4, e4, h4, h5⟩ := h
  exact ⟨v1, r1, e1, h1, v2, r2, e2, h2, v3, r3, e3, h3, v4, r4, e4, nils_sl 4 _ _ _ h4, h5⟩
theorem int_ok (n : Int) : CallsF P G 39 [int n] (encV (.mk 2 n [] [])) := (plainInt_ok n).weak (nilV 2 n [])
end Go.Sx

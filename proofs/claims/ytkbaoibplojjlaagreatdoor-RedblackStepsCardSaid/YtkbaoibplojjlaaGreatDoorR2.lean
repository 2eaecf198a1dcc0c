/-
  Proved: what some functions of the program answer, or a law of the evaluator that shows it, one theorem each; its conditions are the hypotheses that stand ahead of it.
-/
import Derived.Test.YtkbaoibplojjlaaGreatDoorC9
import Derived.Test.YtkbaoibplojjlaaGreatDoorR1
import Derived.Test.YtkbaoibplojjlaaGreatDoorCK
import Derived.KernelRfl
set_option maxRecDepth 100000
set_option maxHeartbeats 4000000
set_option linter.unusedSimpArgs false
set_option linter.unusedVariables false
namespace Go.Sx
open Go.Proofs Sp
theorem CallY.mono {Q : Program} {f : Nat} {args : Array Value} {w : World} {R R' : Value → World → Prop} (h : CallY Q f args w R) (hr : ∀ v w', R v w' → R' v w') : CallY Q f args w R' := by
  unfold CallY at *
  split at h
  · exact hr _ _ h
  · exact h.mono fun e w'' ⟨v, he, hv⟩ => ⟨v, he, hr _ _ hv⟩
  · exact h.elim
theorem CallsF.weak {Q : Program} {g : Gr} {f : Nat} {args : List FV} {r r' : FV} (h : CallsF Q g f args r) (hw : ∀ w ok v, FRel w ok r v → FRel w ok r' v) : CallsF Q g f args r' :=
  fun w ok vs hg hok hv => (h w ok vs hg hok hv).mono fun v w' hr => ⟨hw _ _ _ hr.1, hr.2⟩
theorem CallsF.args {Q : Program} {g : Gr} {f : Nat} {us bs : List FV} {r : FV} (h : CallsF Q g f us r) (hw : ∀ w ok vs, FRelL w ok bs vs → FRelL w ok us vs) : CallsF Q g f bs r :=
  fun w ok vs hg hok hv => h w ok vs hg hok (hw w ok vs hv)
theorem nils_sl (z : Nat) : ∀ w ok v, FRel w ok .nils v → FRel w ok (.sl z []) v := by
  intro w ok v h
  simp only [FRel] at h ⊢
  exact .inl ⟨trivial, .inl h⟩
theorem nilV (k n : Int) (s : List UInt8) : ∀ w ok v, FRel w ok (.agg [int k, int n, str s, .nils]) v → FRel w ok (encV (.mk k n s [])) v := by
  intro w ok v h
  simp only [FRel, encV, cellsP, V.kind, V.num, V.text, V.items, cellsVs] at h ⊢
  obtain ⟨cs, e, h⟩ := h
  refine ⟨cs, e, ?_⟩
  simp only [FRelL] at h ⊢
  obtain ⟨v1, r1, e1, h1, v2, r2, e2, h2, v3, r3, e3, h3, v4, r4, e4, h4, h5⟩ := h
  exact ⟨v1, r1, e1, h1, v2, r2, e2, h2, v3, r3, e3, h3, v4, r4, e4, nils_sl 4 _ _ _ h4, h5⟩
theorem nnil {t : T} (h : (!t.isNil) = true) : t.isNil = false := by simpa using h
theorem nnil2 {t : T} (h : (!t.isNil) = false) : t = .nil := encT_nil (by simpa using h)
theorem cellsVs_app : ∀ a b : List V, cellsVs (a ++ b) = cellsVs a ++ cellsVs b
  | [], b => rfl
  | x :: a, b => by simp [cellsVs, cellsVs_app a b]
def zeroC : List FV := [int 0, int 0, str [], .nils]
/-- The first i are told, the others are as they were made. -/
def ownE (l : List V) (i : Nat) : List (List FV) := cellsVs (l.take i) ++ List.replicate (l.length - i) zeroC
def Srown (k n : Int) (s : List UInt8) (l : List V) (i : Nat) : St := { sl := slots 33 [(1, .loc 0 0), (2, .loc 1 0), (3, .lsl 2), (17, .f (encI l)), (18, .f (int (cellsVs l).length)), (19, .f (int (i : Int)))], ob := [(2, .row 4 43 (ownE l i)), (1, .box (zeroC.map .f)), (0, .box [.f (int k), .f (int n), .f (str s), .f (encI l)])], nx := 3 }
/-- A map's address. -/
def encM (o n : Int) (t : T) : FV := .ptr [int o, int n, encT t] 0
/-- What is wrong with a key and a value. -/
noncomputable def pairE (k v : V) : Int := if rightB k then (if rightB v then 0 else 3) else 3
/-- The way down to a key. -/
def pathT (c : V → V → Int) (k : V) (t : T) : Nat → T
  | 0 => t
  | i + 1 => if c k (pathT c k t i).key < 0 then (pathT c k t i).left else (pathT c k t i).right
def Sfind (c : V → V → Int) (o n : Int) (t : T) (k : V) (i : Nat) : St := { sl := slots 33 [(0, .f (encM o n t)), (3, .loc 0 0), (5, .f (encT (pathT c k t i)))], ob := [(0, .box ((cellsP k).map .f))], nx := 1 }
def withN (c : V → V → Int) (n : Int) (t : T) (k : V) : Int := if (T.find c k t).isNil then n + 1 else n
def withM (c : V → V → Int) (o n : Int) (t : T) (k v : V) : FV := encM o (withN c n t k) (T.insert c k v t).blackened
theorem pathT_lt {c : V → V → Int} {k : V} {t : T} {i : Nat} (h : c k (pathT c k t i).key < 0) : pathT c k t (i + 1) = (pathT c k t i).left := by simp only [pathT]; rw [if_pos h]
theorem pathT_gt {c : V → V → Int} {k : V} {t : T} {i : Nat} (h : ¬ c k (pathT c k t i).key < 0) : pathT c k t (i + 1) = (pathT c k t i).right := by simp only [pathT]; rw [if_neg h]
theorem ownE_set (l : List V) (i : Nat) (h : i < l.length) : (ownE l i).set i (cellsP (l.getD i default)) = ownE l (i + 1) := by
  unfold ownE
  have h1 : (cellsVs (l.take i)).length = i := by rw [cellsVs_length]; simp; omega
  rw [List.set_append_right _ _ (by omega), h1, Nat.sub_self, show l.length - i = (l.length - (i + 1)) + 1 from by omega, List.replicate_succ, List.set_cons_zero]
  rw [List.take_succ_eq_append_getElem h, cellsVs_app]
  simp [cellsVs, cellsP_eq, List.getD_eq_getElem?_getD, h]
theorem ownE_length (l : List V) (i : Nat) (h : i ≤ l.length) : (ownE l i).length = l.length := by
  unfold ownE; simp [cellsVs_length]; omega
theorem get53 : P.funcs[53]? = some Tryz.f53 := by kernel_rfl
theorem ent53 : entersP P 53 = true := by kernel_rfl
theorem own2_nil (k n : Int) (s : List UInt8)  : CallsF P G 53 [encV (.mk k n s [])] (.agg [int k, int n, str s, .nils]) := by
  refine sx_fn (hs := [.dec true]) ((E (true)) ∧ E (FV.agg [int k, int n, str s, FV.nils])) get53 ent53 (by kernel_rfl) ?_
  exact ⟨rfl, rfl⟩
theorem own2_some (k n : Int) (s : List UInt8) (l : List V) (N : Nat) (hl : l.length ≤ 2513169434844) (h0 : 0 < l.length) (hN : N = l.length) (ih : ∀ i, i < l.length → CallsF P G 53 [encV (l.getD i default)] (encV (l.getD i default))) : CallsF P G 53 [encV (.mk k n s l)] (.agg [int k, int n, str s, .sl 4 (ownE l N)]) := by
  refine sx_fn (hs := [.br [] [.loop [(0, 0), (1, 1), (2, 2)] [(0, 0), (1, 1), (2, 2)] (Srown k n s l) (N) (fun i => [.br [.el (cellsP (List.getD l i default)), .call (encV (List.getD l i default))] []]), .br [.el (cellsP (List.getD l N default)), .call (encV (List.getD l N default))] [.lfz [2]]]]) (((((↑(List.length (cellsVs l)) : Int) == 0) = (true)) → ((FV.agg [int k, int n, str s, FV.nils]) = (FV.agg [int k, int n, str s, FV.sl 4 (ownE l N)]))) ∧ ((((↑(List.length (cellsVs l)) : Int) == 0) = (false)) → (((E ((↑(List.length (cellsVs l)) : Int))) ∧ ((0 : Int) ≤ (↑(List.length (cellsVs l)) : Int)) ∧ (56 * List.length (cellsVs l) ≤ 281474976710656) ∧ List.length (cellsVs l) ≤ maxLen) ∧ ((E (true)) ∧ ((E (AV.loc 0 0)) ∧ (E (AV.loc 1 0)) ∧ (E (AV.lsl 2)) ∧ (E (AV.f (encI l))) ∧ (E (AV.f (int (↑(List.length (cellsVs l)) : Int)))) ∧ ((AV.f (int 0)) = (AV.f (int (Int.ofNat 0)))) ∧ True) ∧ (((Ob.row 4 43 (List.replicate (List.length (cellsVs l)) (List.map fV1 (Array.toList (Value.cells (Value.agg #[Value.int IntKind.i64 0, Value.int IntKind.i64 0, Value.string { data := #[] }, Value.slice none 0 0])))))) = (Ob.row 4 43 (ownE l 0))) ∧ (E (Ob.box [AV.f (int 0), AV.f (int 0), AV.f (str []), AV.f FV.nils])) ∧ (E (Ob.box [AV.f (int k), AV.f (int n), AV.f (str s), AV.f (encI l)])) ∧ True) ∧ (E (true)) ∧ (((false) = (true)) → ((false) = (true)))) ∧ (∀ (i : Nat), (i < N) → ((((decide ((i : Int) < (↑(List.length (cellsVs l)) : Int))) = (true)) → (((E (4)) ∧ ((0 : Int) ≤ (i : Int)) ∧ ((cellsVs l)[i]?) = (some (cellsP (List.getD l i default)))) ∧ (CallsF P G 53 [encV (List.getD l i default)] (encV (List.getD l i default))) ∧ (((0 : Int) ≤ (i : Int)) ∧ i < List.length (ownE l i)) ∧ (i < List.length (ownE l i)) ∧ (E (true)) ∧ ((E (AV.loc 0 0)) ∧ (E (AV.loc 1 0)) ∧ (E (AV.lsl 2)) ∧ (E (AV.f (encI l))) ∧ (E (AV.f (int (↑(List.length (cellsVs l)) : Int)))) ∧ ((AV.f (int (IntKind.wrap IntKind.i64 ((i : Int) + 1)))) = (AV.f (int (↑(i + 1) : Int)))) ∧ True) ∧ (((Ob.row 4 43 (List.set (ownE l i) i (cellsP (List.getD l i default)))) = (Ob.row 4 43 (ownE l (i + 1)))) ∧ (E (Ob.box [AV.f (int 0), AV.f (int 0), AV.f (str []), AV.f FV.nils])) ∧ (E (Ob.box [AV.f (int k), AV.f (int n), AV.f (str s), AV.f (encI l)])) ∧ True) ∧ (E (true)) ∧ ((St.nd (Srown k n s l (i + 1)) = true) → ((false) = (true))))) ∧ (((decide ((i : Int) < (↑(List.length (cellsVs l)) : Int))) = (false)) → (False)))) ∧ (((decide ((N : Int) < (↑(List.length (cellsVs l)) : Int))) = (true)) → (((E (4)) ∧ ((0 : Int) ≤ (N : Int)) ∧ ((cellsVs l)[N]?) = (some (cellsP (List.getD l N default)))) ∧ (CallsF P G 53 [encV (List.getD l N default)] (encV (List.getD l N default))) ∧ (((0 : Int) ≤ (N : Int)) ∧ N < List.length (ownE l N)) ∧ (N < List.length (ownE l N)) ∧ False)) ∧ (((decide ((N : Int) < (↑(List.length (cellsVs l)) : Int))) = (false)) → (E (FV.agg [int k, int n, str s, FV.sl 4 (ownE l N)])))))) get53 ent53 (by kernel_rfl) ?_
  refine ⟨fun hi => ?_, fun hi => ⟨⟨rfl, ⟨?_, ⟨?_, ?_⟩⟩⟩, ⟨⟨rfl, ⟨⟨rfl, ⟨rfl, ⟨rfl, ⟨rfl, ⟨rfl, ⟨?_, trivial⟩⟩⟩⟩⟩⟩, ⟨⟨?_, ⟨rfl, ⟨rfl, trivial⟩⟩⟩, ⟨rfl, fun hi => ?_⟩⟩⟩⟩, fun i => fun hlt => ⟨fun hi => ⟨⟨rfl, ⟨?_, ?_⟩⟩, ⟨?_, ⟨⟨?_, ?_⟩, ⟨?_, ⟨rfl, ⟨⟨rfl, ⟨rfl, ⟨rfl, ⟨rfl, ⟨rfl, ⟨?_, trivial⟩⟩⟩⟩⟩⟩, ⟨⟨?_, ⟨rfl, ⟨rfl, trivial⟩⟩⟩, ⟨rfl, fun hi => ?_⟩⟩⟩⟩⟩⟩⟩⟩, fun hi => ?_⟩, ⟨fun hi => ⟨⟨rfl, ⟨?_, ?_⟩⟩, ⟨?_, ⟨⟨?_, ?_⟩, ⟨?_, ?_⟩⟩⟩⟩, fun hi => rfl⟩⟩⟩⟩
  all_goals first | (simp only [cellsVs_length, decide_eq_true_eq, decide_eq_false_iff_not, ownE_length l i (by omega), Int.toNat_natCast] at *; omega) | (simp only [cellsVs_length, decide_eq_true_eq, decide_eq_false_iff_not, Int.toNat_natCast] at *; omega) | exact cellsVs_get l _ (by omega) | exact ih i (by omega) | (exact congrArg (fun x => AV.f (int x)) (wrapS ((i : Int) + 1) (by omega) (by omega))) | (exact congrArg (Ob.row 4 43) (ownE_set l i (by omega))) | (simp [cellsVs_length]; done) | (simp [maxLen, cellsVs_length]; omega) | (exfalso; simp only [cellsVs_length, beq_iff_eq] at hi; omega) | (simp [ownE, cellsVs_length, cellsVs, zeroC, int, str, Value.cells, fV1]; done) | assumption
theorem own2_ok : ∀ v, Fine v → CallsF P G 53 [encV v] (encV v) := by
  intro v
  induction v using V.ind with
  | h k n s l ih =>
    intro hv
    rcases Nat.eq_zero_or_pos l.length with h | h
    · have : l = [] := List.eq_nil_of_length_eq_zero h
      subst this
      exact (own2_nil k n s).weak (nilV k n s)
    · have h1 := own2_some k n s l l.length hv.len.1 h rfl (fun i hi => by
        have hmem : l.getD i default ∈ l := by rw [List.getD_eq_getElem?_getD, List.getElem?_eq_getElem hi]; exact List.getElem_mem hi
        exact ih _ hmem (hv.items.2 _ hmem))
      have e : ownE l l.length = cellsVs l := by simp [ownE]
      rw [e] at h1
      exact h1
theorem get31 : P.funcs[31]? = some Tryz.f31 := by kernel_rfl
theorem ent31 : entersP P 31 = true := by kernel_rfl
theorem new_bad (o : Int) (h : o < 0 ∨ 5 < o) : CallsF P G 31 [int o] (.tup [.sc (.pointer none), int 4]) := by
  refine sx_fn (hs := [.br [.dec true] [.br [] [.ones, .lfz [0]]]]) ((((decide (o < 0)) = (true)) → ((E (true)) ∧ E (FV.tup [FV.sc (Value.pointer none), int 4]))) ∧ (((decide (o < 0)) = (false)) → ((((decide (o > 5)) = (true)) → (E (FV.tup [FV.sc (Value.pointer none), int 4]))) ∧ (((decide (o > 5)) = (false)) → (((E (true)) ∧ True) ∧ (FV.tup [FV.ptr [int o, int 0, FV.sc (Value.pointer none)] 0, int 0]) = (FV.tup [FV.sc (Value.pointer none), int 4])))))) get31 ent31 (by kernel_rfl) ?_
  refine ⟨fun hi => ⟨rfl, rfl⟩, fun hi => ⟨fun hi => rfl, fun hi => ⟨⟨rfl, trivial⟩, ?_⟩⟩⟩
  all_goals (exfalso; simp only [decide_eq_true_eq, decide_eq_false_iff_not] at *; omega)
theorem new_ok (o : Int) (h : 0 ≤ o ∧ o ≤ 5) : CallsF P G 31 [int o] (.tup [encM o 0 .nil, int 0]) := by
  refine sx_fn (hs := [.br [.dec true] [.br [] [.ones, .lfz [0]]]]) ((((decide (o < 0)) = (true)) → ((E (true)) ∧ (FV.tup [FV.sc (Value.pointer none), int 4]) = (FV.tup [encM o 0 T.nil, int 0]))) ∧ (((decide (o < 0)) = (false)) → ((((decide (o > 5)) = (true)) → ((FV.tup [FV.sc (Value.pointer none), int 4]) = (FV.tup [encM o 0 T.nil, int 0]))) ∧ (((decide (o > 5)) = (false)) → (((E (true)) ∧ True) ∧ (FV.tup [FV.ptr [int o, int 0, FV.sc (Value.pointer none)] 0, int 0]) = (FV.tup [encM o 0 T.nil, int 0])))))) get31 ent31 (by kernel_rfl) ?_
  refine ⟨fun hi => ⟨rfl, ?_⟩, fun hi => ⟨fun hi => ?_, fun hi => ⟨⟨rfl, trivial⟩, ?_⟩⟩⟩
  all_goals first | (exfalso; simp only [decide_eq_true_eq, decide_eq_false_iff_not] at *; omega) | rfl
theorem get45 : P.funcs[45]? = some Tryz.f45 := by kernel_rfl
theorem ent45 : entersP P 45 = true := by kernel_rfl
theorem order_ok (o n : Int) (t : T)  : CallsF P G 45 [encM o n t] (int o) := by
  refine sx_fn (hs := [.dec false]) ((E (false)) ∧ E (int o)) get45 ent45 (by kernel_rfl) ?_
  exact ⟨rfl, rfl⟩
theorem get39 : P.funcs[39]? = some Tryz.f39 := by kernel_rfl
theorem ent39 : entersP P 39 = true := by kernel_rfl
theorem len_ok (o n : Int) (t : T)  : CallsF P G 39 [encM o n t] (int n) := by
  refine sx_fn (hs := [.dec false]) ((E (false)) ∧ E (int n)) get39 ent39 (by kernel_rfl) ?_
  exact ⟨rfl, rfl⟩
theorem get60 : P.funcs[60]? = some Tryz.f60 := by kernel_rfl
theorem ent60 : entersP P 60 = true := by kernel_rfl
theorem tree_ok (o n : Int) (t : T)  : CallsF P G 60 [encM o n t] (encT t) := by
  refine sx_fn (hs := [.dec false]) ((E (false)) ∧ E (encT t)) get60 ent60 (by kernel_rfl) ?_
  exact ⟨rfl, rfl⟩
theorem get59 : P.funcs[59]? = some Tryz.f59 := by kernel_rfl
theorem ent59 : entersP P 59 = true := by kernel_rfl
theorem mheight_ok (o n : Int) (t : T) (h : CallsF P G 91 [encT t] (int (t.height : Nat))) : CallsF P G 59 [encM o n t] (int (t.height : Nat)) := by
  refine sx_fn (hs := [.call (encT t), .call (int (↑(T.height t) : Int))]) ((CallsF P G 60 [encM o n t] (encT t)) ∧ (CallsF P G 91 [encT t] (int (↑(T.height t) : Int))) ∧ E (int (↑(T.height t) : Int))) get59 ent59 (by kernel_rfl) ?_
  refine ⟨?_, ⟨?_, rfl⟩⟩
  all_goals first | exact h | exact tree_ok _ _ _
theorem get81 : P.funcs[81]? = some Tryz.f81 := by kernel_rfl
theorem ent81 : entersP P 81 = true := by kernel_rfl
theorem pair_ok (k v : V) (hk : Fine k) (hv : Fine v) : CallsF P G 81 [encV k, encV v] (int (pairE k v)) := by
  refine sx_fn (hs := [.call (int (chkI (rightB k))), .br [] [.call (int (chkI (rightB v)))]]) ((CallsF P G 73 [encV k] (int (chkI (rightB k)))) ∧ (((chkI (rightB k) != 0) = (true)) → ((int (chkI (rightB k))) = (int (pairE k v)))) ∧ (((chkI (rightB k) != 0) = (false)) → ((CallsF P G 73 [encV v] (int (chkI (rightB v)))) ∧ (int (chkI (rightB v))) = (int (pairE k v))))) get81 ent81 (by kernel_rfl) ?_
  refine ⟨?_, ⟨fun hi => ?_, fun hi => ⟨?_, ?_⟩⟩⟩
  all_goals first | (have h1 : rightB k = false := (by cases h : rightB k <;> simp_all [chkI]); simp [pairE, chkI, h1]; done) | (have h1 : rightB k = true := (by cases h : rightB k <;> simp_all [chkI]); simp [pairE, chkI, h1]; done) | exact check_ok _ (by assumption)
theorem get75 : P.funcs[75]? = some Tryz.f75 := by kernel_rfl
theorem ent75 : entersP P 75 = true := by kernel_rfl
theorem find_run (c : V → V → Int) (o n : Int) (t : T) (k : V) (N : Nat) (hk : ∀ i, i < N → (pathT c k t i).isNil = false ∧ c k (pathT c k t i).key ≠ 0) (hN : (pathT c k t N).isNil = true ∨ c k (pathT c k t N).key = 0)
  (hc : ∀ i, (pathT c k t i).isNil = false → i ≤ N → CallsF P G 79 [encM o n t, encV k, encV (pathT c k t i).key] (int (c k (pathT c k t i).key))) : CallsF P G 75 [encM o n t, encV k] (encT (pathT c k t N)) := by
  refine sx_fn (hs := [.call (encT t), .loop [(0, 0)] [(0, 0)] (Sfind c o n t k) (N) (fun i => [.isn (T.isNil (pathT c k t i)), .br [.nat 8, .cast (opn (pathT c k t i)), .call (int (c k (T.key (pathT c k t i)))), .br [.cast (opn (pathT c k t i))] [.br [.cast (opn (pathT c k t i))] []]] []]), .isn (T.isNil (pathT c k t N)), .br [.nat 8, .cast (opn (pathT c k t N)), .call (int (c k (T.key (pathT c k t N)))), .br [.cast (opn (pathT c k t N))] [.br [.cast (opn (pathT c k t N))] []]] []]) ((CallsF P G 60 [encM o n t] (encT t)) ∧ ((E (true)) ∧ ((E (AV.f (encM o n t))) ∧ (E (AV.loc 0 0)) ∧ ((AV.f (encT t)) = (AV.f (encT (pathT c k t 0)))) ∧ True) ∧ ((E (Ob.box [AV.f (int (V.kind k)), AV.f (int (V.num k)), AV.f (str (V.text k)), AV.f (encI (V.items k))])) ∧ True) ∧ (E (true)) ∧ (((false) = (true)) → ((false) = (true)))) ∧ (∀ (i : Nat), (i < N) → ((IsNil (encT (pathT c k t i)) (T.isNil (pathT c k t i))) ∧ (((!T.isNil (pathT c k t i)) = (true)) → ((E (true)) ∧ ((encT (pathT c k t i)) = (FV.ptr (opn (pathT c k t i)) 0)) ∧ (CallsF P G 79 [encM o n t, encV k, encV (T.key (pathT c k t i))] (int (c k (T.key (pathT c k t i))))) ∧ (((decide (c k (T.key (pathT c k t i)) < 0)) = (true)) → (((encT (pathT c k t i)) = (FV.ptr (opn (pathT c k t i)) 0)) ∧ (E (true)) ∧ ((E (AV.f (encM o n t))) ∧ (E (AV.loc 0 0)) ∧ ((AV.f (encT (T.left (pathT c k t i)))) = (AV.f (encT (pathT c k t (i + 1))))) ∧ True) ∧ ((E (Ob.box [AV.f (int (V.kind k)), AV.f (int (V.num k)), AV.f (str (V.text k)), AV.f (encI (V.items k))])) ∧ True) ∧ (E (true)) ∧ ((St.nd (Sfind c o n t k (i + 1)) = true) → ((false) = (true))))) ∧ (((decide (c k (T.key (pathT c k t i)) < 0)) = (false)) → ((((decide (c k (T.key (pathT c k t i)) > 0)) = (true)) → (((encT (pathT c k t i)) = (FV.ptr (opn (pathT c k t i)) 0)) ∧ (E (true)) ∧ ((E (AV.f (encM o n t))) ∧ (E (AV.loc 0 0)) ∧ ((AV.f (encT (T.right (pathT c k t i)))) = (AV.f (encT (pathT c k t (i + 1))))) ∧ True) ∧ ((E (Ob.box [AV.f (int (V.kind k)), AV.f (int (V.num k)), AV.f (str (V.text k)), AV.f (encI (V.items k))])) ∧ True) ∧ (E (true)) ∧ ((St.nd (Sfind c o n t k (i + 1)) = true) → ((false) = (true))))) ∧ (((decide (c k (T.key (pathT c k t i)) > 0)) = (false)) → (False)))))) ∧ (((!T.isNil (pathT c k t i)) = (false)) → (False)))) ∧ (IsNil (encT (pathT c k t N)) (T.isNil (pathT c k t N))) ∧ (((!T.isNil (pathT c k t N)) = (true)) → ((E (true)) ∧ ((encT (pathT c k t N)) = (FV.ptr (opn (pathT c k t N)) 0)) ∧ (CallsF P G 79 [encM o n t, encV k, encV (T.key (pathT c k t N))] (int (c k (T.key (pathT c k t N))))) ∧ (((decide (c k (T.key (pathT c k t N)) < 0)) = (true)) → (((encT (pathT c k t N)) = (FV.ptr (opn (pathT c k t N)) 0)) ∧ False)) ∧ (((decide (c k (T.key (pathT c k t N)) < 0)) = (false)) → ((((decide (c k (T.key (pathT c k t N)) > 0)) = (true)) → (((encT (pathT c k t N)) = (FV.ptr (opn (pathT c k t N)) 0)) ∧ False)) ∧ (((decide (c k (T.key (pathT c k t N)) > 0)) = (false)) → (E (encT (pathT c k t N)))))))) ∧ (((!T.isNil (pathT c k t N)) = (false)) → ((FV.sc (Value.pointer none)) = (encT (pathT c k t N))))) get75 ent75 (by kernel_rfl) ?_
  refine ⟨?_, ⟨⟨rfl, ⟨⟨rfl, ⟨rfl, ⟨?_, trivial⟩⟩⟩, ⟨⟨rfl, trivial⟩, ⟨rfl, fun hi => ?_⟩⟩⟩⟩, fun i => fun hlt => ⟨?_, ⟨fun hi => ⟨rfl, ⟨?_, ⟨?_, ⟨fun hi => ⟨?_, ⟨rfl, ⟨⟨rfl, ⟨rfl, ⟨?_, trivial⟩⟩⟩, ⟨⟨rfl, trivial⟩, ⟨rfl, fun hi => ?_⟩⟩⟩⟩⟩, fun hi => ⟨fun hi => ⟨?_, ⟨rfl, ⟨⟨rfl, ⟨rfl, ⟨?_, trivial⟩⟩⟩, ⟨⟨rfl, trivial⟩, ⟨rfl, fun hi => ?_⟩⟩⟩⟩⟩, fun hi => ?_⟩⟩⟩⟩⟩, fun hi => ?_⟩⟩, ⟨?_, ⟨fun hi => ⟨rfl, ⟨?_, ⟨?_, ⟨fun hi => ⟨?_, ?_⟩, fun hi => ⟨fun hi => ⟨?_, ?_⟩, fun hi => rfl⟩⟩⟩⟩⟩, fun hi => ?_⟩⟩⟩⟩
  all_goals first | (exact encT_open _ (nnil (by assumption))) | (exact hc i (nnil (by assumption)) (by omega)) | (exact hc N (nnil (by assumption)) (by omega)) | (exact (congrArg encT (nnil2 (by assumption))).symm) | (exact congrArg (fun x => AV.f (encT x)) (pathT_lt (of_decide_eq_true (by assumption))).symm) | (exact congrArg (fun x => AV.f (encT x)) (pathT_gt (of_decide_eq_false (by assumption))).symm) | (exfalso; have h8 := (hk i hlt).1; simp_all; done) | (exfalso; have h8 := hk i hlt; simp only [decide_eq_true_eq, decide_eq_false_iff_not] at *; omega) | (exfalso; rcases hN with h | h; (rw [nnil (by assumption)] at h; cases h); (simp only [decide_eq_true_eq, decide_eq_false_iff_not] at *; omega)) | assumption | exact encT_isn _ | exact tree_ok _ _ _ | rfl
end Go.Sx

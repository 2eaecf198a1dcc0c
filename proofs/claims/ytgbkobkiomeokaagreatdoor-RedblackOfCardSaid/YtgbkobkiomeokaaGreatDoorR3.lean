/-
  Proved: what some functions of the program answer, or a law of the evaluator that shows it, one theorem each; its conditions are the hypotheses that stand ahead of it.
-/
import Derived.Test.YtgbkobkiomeokaaGreatDoorC9
import Derived.Test.YtgbkobkiomeokaaGreatDoorR1
import Derived.Test.YtgbkobkiomeokaaGreatDoorCK
import Derived.KernelRfl
import Derived.Test.YtgbkobkiomeokaaGreatDoorPRB
set_option maxRecDepth 100000
set_option maxHeartbeats 4000000
set_option linter.unusedSimpArgs false
set_option linter.unusedVariables false
namespace Go.Sx
open Go.Proofs Sp
theorem CallY.mono {Q : Program} {f : Nat} {args : Array Value} {w : World} {R R' : Value → World → Prop} (h : CallY Q f args w R) (hr : ∀ v w', R v w' → R' v w') : CallY Q f args w R' := by
  unfold CallY at *
  split at h
  · exact hr _ _ h
  · exact h.mono fun e w'' ⟨v, he, hv⟩ => ⟨v, he, hr _ _ hv⟩
  · exact h.elim
theorem CallsF.weak {Q : Program} {g : Gr} {f : Nat} {args : List FV} {r r' : FV} (h : CallsF Q g f args r) (hw : ∀ w ok v, FRel w ok r v → FRel w ok r' v) : CallsF Q g f args r' :=
  fun w ok vs hg hok hv => (h w ok vs hg hok hv).mono fun v w' hr => ⟨hw _ _ _ hr.1, hr.2⟩
theorem CallsF.args {Q : Program} {g : Gr} {f : Nat} {us bs : List FV} {r : FV} (h : CallsF Q g f us r) (hw : ∀ w ok vs, FRelL w ok bs vs → FRelL w ok us vs) : CallsF Q g f bs r :=
  fun w ok vs hg hok hv => h w ok vs hg hok (hw w ok vs hv)
theorem nils_sl (z : Nat) : ∀ w ok v, FRel w ok .nils v → FRel w ok (.sl z []) v := by
  intro w ok v h
  simp only [FRel] at h ⊢
  exact .inl ⟨trivial, .inl h⟩
theorem nilV (k n : Int) (s : List UInt8) : ∀ w ok v, FRel w ok (.agg [int k, int n, str s, .nils]) v → FRel w ok (encV (.mk k n s [])) v := by
  intro w ok v h
  simp only [FRel, encV, cellsP, V.kind, V.num, V.text, V.items, cellsVs] at h ⊢
  obtain ⟨cs, e, h⟩ := h
  refine ⟨cs, e, ?_⟩
  simp only [FRelL] at h ⊢
  obtain ⟨v1, r1, e1, h1, v2, r2, e2, h2, v3, r3, e3, h3, v4, r4, e4, h4, h5⟩ := h
  exact ⟨v1, r1, e1, h1, v2, r2, e2, h2, v3, r3, e3, h3, v4, r4, e4, nils_sl 4 _ _ _ h4, h5⟩
theorem nnil {t : T} (h : (!t.isNil) = true) : t.isNil = false := by simpa using h
theorem nnil2 {t : T} (h : (!t.isNil) = false) : t = .nil := encT_nil (by simpa using h)
theorem cellsVs_app : ∀ a b : List V, cellsVs (a ++ b) = cellsVs a ++ cellsVs b
  | [], b => rfl
  | x :: a, b => by simp [cellsVs, cellsVs_app a b]
def zeroC : List FV := [int 0, int 0, str [], .nils]
/-- The first i are told, the others are as they were made. -/
def ownE (l : List V) (i : Nat) : List (List FV) := cellsVs (l.take i) ++ List.replicate (l.length - i) zeroC
def Srown (k n : Int) (s : List UInt8) (l : List V) (i : Nat) : St := { sl := slots 33 [(1, .loc 0 0), (2, .loc 1 0), (3, .lsl 2), (17, .f (encI l)), (18, .f (int (cellsVs l).length)), (19, .f (int (i : Int)))], ob := [(2, .row 4 34 (ownE l i)), (1, .box (zeroC.map .f)), (0, .box [.f (int k), .f (int n), .f (str s), .f (encI l)])], nx := 3 }
/-- A map's address. -/
def encM (o n : Int) (t : T) : FV := .ptr [int o, int n, encT t] 0
/-- What is wrong with a key and a value. -/
noncomputable def pairE (k v : V) : Int := if rightB k then (if rightB v then 0 else 3) else 3
/-- The way down to a key. -/
def pathT (c : V → V → Int) (k : V) (t : T) : Nat → T
  | 0 => t
  | i + 1 => if c k (pathT c k t i).key < 0 then (pathT c k t i).left else (pathT c k t i).right
def Sfind (c : V → V → Int) (o n : Int) (t : T) (k : V) (i : Nat) : St := { sl := slots 33 [(0, .f (encM o n t)), (3, .loc 0 0), (5, .f (encT (pathT c k t i)))], ob := [(0, .box ((cellsP k).map .f))], nx := 1 }
def withN (c : V → V → Int) (n : Int) (t : T) (k : V) : Int := if (T.find c k t).isNil then n + 1 else n
def withM (c : V → V → Int) (o n : Int) (t : T) (k v : V) : FV := encM o (withN c n t k) (T.insert c k v t).blackened
theorem pathT_lt {c : V → V → Int} {k : V} {t : T} {i : Nat} (h : c k (pathT c k t i).key < 0) : pathT c k t (i + 1) = (pathT c k t i).left := by simp only [pathT]; rw [if_pos h]
theorem pathT_gt {c : V → V → Int} {k : V} {t : T} {i : Nat} (h : ¬ c k (pathT c k t i).key < 0) : pathT c k t (i + 1) = (pathT c k t i).right := by simp only [pathT]; rw [if_neg h]
theorem ownE_set (l : List V) (i : Nat) (h : i < l.length) : (ownE l i).set i (cellsP (l.getD i default)) = ownE l (i + 1) := by
  unfold ownE
  have h1 : (cellsVs (l.take i)).length = i := by rw [cellsVs_length]; simp; omega
  rw [List.set_append_right _ _ (by omega), h1, Nat.sub_self, show l.length - i = (l.length - (i + 1)) + 1 from by omega, List.replicate_succ, List.set_cons_zero]
  rw [List.take_succ_eq_append_getElem h, cellsVs_app]
  simp [cellsVs, cellsP_eq, List.getD_eq_getElem?_getD, h]
theorem ownE_length (l : List V) (i : Nat) (h : i ≤ l.length) : (ownE l i).length = l.length := by
  unfold ownE; simp [cellsVs_length]; omega
theorem get16 : P.funcs[16]? = some Tryz.f16 := by kernel_rfl
theorem ent16 : entersP P 16 = true := by kernel_rfl
theorem own2_nil (k n : Int) (s : List UInt8)  : CallsF P G 16 [encV (.mk k n s [])] (.agg [int k, int n, str s, .nils]) := by
  refine sx_fn (hs := [.dec true]) ((E (true)) ∧ E (FV.agg [int k, int n, str s, FV.nils])) get16 ent16 (by kernel_rfl) ?_
  exact ⟨rfl, rfl⟩
theorem own2_some (k n : Int) (s : List UInt8) (l : List V) (N : Nat) (hl : l.length ≤ 2513169434844) (h0 : 0 < l.length) (hN : N = l.length) (ih : ∀ i, i < l.length → CallsF P G 16 [encV (l.getD i default)] (encV (l.getD i default))) : CallsF P G 16 [encV (.mk k n s l)] (.agg [int k, int n, str s, .sl 4 (ownE l N)]) := by
  refine sx_fn (hs := [.br [] [.loop [(0, 0), (1, 1), (2, 2)] [(0, 0), (1, 1), (2, 2)] (Srown k n s l) (N) (fun i => [.br [.el (cellsP (List.getD l i default)), .call (encV (List.getD l i default))] []]), .br [.el (cellsP (List.getD l N default)), .call (encV (List.getD l N default))] [.lfz [2]]]]) (let z1 := (↑(List.length (cellsVs l)) : Int); let z2 := Ob.box [AV.f (int 0), AV.f (int 0), AV.f (str []), AV.f FV.nils]; let z3 := Ob.box [AV.f (int k), AV.f (int n), AV.f (str s), AV.f (encI l)]; let z4 := List.getD l N default; Br (z1 == 0) (FV.agg [int k, int n, str s, FV.nils] = FV.agg [int k, int n, str s, FV.sl 4 (ownE l N)]) ((E (z1) ∧ (0 : Int) ≤ z1 ∧ 56 * List.length (cellsVs l) ≤ 281474976710656 ∧ List.length (cellsVs l) ≤ maxLen) ∧ (E true ∧ (E (AV.loc 0 0) ∧ E (AV.loc 1 0) ∧ E (AV.lsl 2) ∧ E (AV.f (encI l)) ∧ E (AV.f (int z1)) ∧ AV.f (int 0) = AV.f (int (Int.ofNat 0)) ∧ True) ∧ (Ob.row 4 34 (List.replicate (List.length (cellsVs l)) (List.map fV1 (Array.toList (Value.cells (Value.agg #[Value.int IntKind.i64 0, Value.int IntKind.i64 0, Value.string { data := #[] }, Value.slice none 0 0]))))) = Ob.row 4 34 (ownE l 0) ∧ E z2 ∧ E z3 ∧ True) ∧ E true ∧ (false = true → false = true)) ∧ (∀ (i : Nat), (let z5 := List.getD l i default; i < N → Br (decide ((i : Int) < z1)) ((E 4 ∧ (0 : Int) ≤ (i : Int) ∧ (cellsVs l)[i]? = some (cellsP z5)) ∧ CallsF P G 16 [encV z5] (encV z5) ∧ ((0 : Int) ≤ (i : Int) ∧ i < List.length (ownE l i)) ∧ i < List.length (ownE l i) ∧ E true ∧ (E (AV.loc 0 0) ∧ E (AV.loc 1 0) ∧ E (AV.lsl 2) ∧ E (AV.f (encI l)) ∧ E (AV.f (int z1)) ∧ AV.f (int (IntKind.wrap IntKind.i64 ((i : Int) + 1))) = AV.f (int (↑(i + 1) : Int)) ∧ True) ∧ (Ob.row 4 34 (List.set (ownE l i) i (cellsP z5)) = Ob.row 4 34 (ownE l (i + 1)) ∧ E z2 ∧ E z3 ∧ True) ∧ E true ∧ (St.nd (Srown k n s l (i + 1)) = true → false = true)) False)) ∧ Br (decide ((N : Int) < z1)) ((E 4 ∧ (0 : Int) ≤ (N : Int) ∧ (cellsVs l)[N]? = some (cellsP z4)) ∧ CallsF P G 16 [encV z4] (encV z4) ∧ ((0 : Int) ≤ (N : Int) ∧ N < List.length (ownE l N)) ∧ N < List.length (ownE l N) ∧ False) (E (FV.agg [int k, int n, str s, FV.sl 4 (ownE l N)])))) get16 ent16 (by kernel_rfl) ?_
  refine ⟨fun hi => ?_, fun hi => ⟨⟨rfl, ?_, ?_, ?_⟩, ⟨rfl, ⟨rfl, rfl, rfl, rfl, rfl, ?_, trivial⟩, ⟨?_, rfl, rfl, trivial⟩, rfl, fun hi => ?_⟩, fun i => fun hlt => ⟨fun hi => ⟨⟨rfl, ?_, ?_⟩, ?_, ⟨?_, ?_⟩, ?_, rfl, ⟨rfl, rfl, rfl, rfl, rfl, ?_, trivial⟩, ⟨?_, rfl, rfl, trivial⟩, rfl, fun hi => ?_⟩, fun hi => ?_⟩, fun hi => ⟨⟨rfl, ?_, ?_⟩, ?_, ⟨?_, ?_⟩, ?_, ?_⟩, fun hi => rfl⟩⟩
  all_goals first | (simp only [cellsVs_length, decide_eq_true_eq, decide_eq_false_iff_not, ownE_length l i (by omega), Int.toNat_natCast] at *; omega) | (simp only [cellsVs_length, decide_eq_true_eq, decide_eq_false_iff_not, Int.toNat_natCast] at *; omega) | exact cellsVs_get l _ (by omega) | exact ih i (by omega) | (exact congrArg (fun x => AV.f (int x)) (wrapS ((i : Int) + 1) (by omega) (by omega))) | (exact congrArg (Ob.row 4 34) (ownE_set l i (by omega))) | (simp [cellsVs_length]; done) | (simp [maxLen, cellsVs_length]; omega) | (exfalso; simp only [cellsVs_length, beq_iff_eq] at hi; omega) | (simp [ownE, cellsVs_length, cellsVs, zeroC, int, str, Value.cells, fV1]; done) | assumption
theorem own2_ok : ∀ v, Fine v → CallsF P G 16 [encV v] (encV v) := by
  intro v
  induction v using V.ind with
  | h k n s l ih =>
    intro hv
    rcases Nat.eq_zero_or_pos l.length with h | h
    · have : l = [] := List.eq_nil_of_length_eq_zero h
      subst this
      exact (own2_nil k n s).weak (nilV k n s)
    · have h1 := own2_some k n s l l.length hv.len.1 h rfl (fun i hi => by
        have hmem : l.getD i default ∈ l := by rw [List.getD_eq_getElem?_getD, List.getElem?_eq_getElem hi]; exact List.getElem_mem hi
        exact ih _ hmem (hv.items.2 _ hmem))
      have e : ownE l l.length = cellsVs l := by simp [ownE]
      rw [e] at h1
      exact h1
theorem get13 : P.funcs[13]? = some Tryz.f13 := by kernel_rfl
theorem ent13 : entersP P 13 = true := by kernel_rfl
theorem new_bad (o : Int) (h : o < 0 ∨ 5 < o) : CallsF P G 13 [int o] (.tup [.sc (.pointer none), int 4]) := by
  refine sx_fn (hs := [.br [.dec true] [.br [] [.ones, .lfz [0]]]]) (let z1 := FV.tup [FV.sc (Value.pointer none), int 4]; Br (decide (o < 0)) (E true ∧ E z1) (Br (decide (o > 5)) (E z1) ((E true ∧ True) ∧ FV.tup [FV.ptr [int o, int 0, FV.sc (Value.pointer none)] 0, int 0] = FV.tup [FV.sc (Value.pointer none), int 4]))) get13 ent13 (by kernel_rfl) ?_
  refine ⟨fun hi => ⟨rfl, rfl⟩, fun hi => ⟨fun hi => rfl, fun hi => ⟨⟨rfl, trivial⟩, ?_⟩⟩⟩
  all_goals (exfalso; simp only [decide_eq_true_eq, decide_eq_false_iff_not] at *; omega)
theorem new_ok (o : Int) (h : 0 ≤ o ∧ o ≤ 5) : CallsF P G 13 [int o] (.tup [encM o 0 .nil, int 0]) := by
  refine sx_fn (hs := [.br [.dec true] [.br [] [.ones, .lfz [0]]]]) (Br (decide (o < 0)) (E true ∧ FV.tup [FV.sc (Value.pointer none), int 4] = FV.tup [encM o 0 T.nil, int 0]) (Br (decide (o > 5)) (FV.tup [FV.sc (Value.pointer none), int 4] = FV.tup [encM o 0 T.nil, int 0]) ((E true ∧ True) ∧ FV.tup [FV.ptr [int o, int 0, FV.sc (Value.pointer none)] 0, int 0] = FV.tup [encM o 0 T.nil, int 0]))) get13 ent13 (by kernel_rfl) ?_
  refine ⟨fun hi => ⟨rfl, ?_⟩, fun hi => ⟨fun hi => ?_, fun hi => ⟨⟨rfl, trivial⟩, ?_⟩⟩⟩
  all_goals first | (exfalso; simp only [decide_eq_true_eq, decide_eq_false_iff_not] at *; omega) | rfl
theorem get22 : P.funcs[22]? = some Tryz.f22 := by kernel_rfl
theorem ent22 : entersP P 22 = true := by kernel_rfl
theorem order_ok (o n : Int) (t : T)  : CallsF P G 22 [encM o n t] (int o) := by
  refine sx_fn (hs := [.dec false]) ((E (false)) ∧ E (int o)) get22 ent22 (by kernel_rfl) ?_
  exact ⟨rfl, rfl⟩
theorem get23 : P.funcs[23]? = some Tryz.f23 := by kernel_rfl
theorem ent23 : entersP P 23 = true := by kernel_rfl
theorem len_ok (o n : Int) (t : T)  : CallsF P G 23 [encM o n t] (int n) := by
  refine sx_fn (hs := [.dec false]) ((E (false)) ∧ E (int n)) get23 ent23 (by kernel_rfl) ?_
  exact ⟨rfl, rfl⟩
theorem get38 : P.funcs[38]? = some Tryz.f38 := by kernel_rfl
theorem ent38 : entersP P 38 = true := by kernel_rfl
theorem tree_ok (o n : Int) (t : T)  : CallsF P G 38 [encM o n t] (encT t) := by
  refine sx_fn (hs := [.dec false]) ((E (false)) ∧ E (encT t)) get38 ent38 (by kernel_rfl) ?_
  exact ⟨rfl, rfl⟩
theorem get31 : P.funcs[31]? = some Tryz.f31 := by kernel_rfl
theorem ent31 : entersP P 31 = true := by kernel_rfl
theorem mheight_ok (o n : Int) (t : T) (h : CallsF P G 47 [encT t] (int (t.height : Nat))) : CallsF P G 31 [encM o n t] (int (t.height : Nat)) := by
  refine sx_fn (hs := [.call (encT t), .call (int (↑(T.height t) : Int))]) ((CallsF P G 38 [encM o n t] (encT t)) ∧ (CallsF P G 47 [encT t] (int (↑(T.height t) : Int))) ∧ E (int (↑(T.height t) : Int))) get31 ent31 (by kernel_rfl) ?_
  refine ⟨?_, ⟨?_, rfl⟩⟩
  all_goals first | exact h | exact tree_ok _ _ _
theorem get34 : P.funcs[34]? = some Tryz.f34 := by kernel_rfl
theorem ent34 : entersP P 34 = true := by kernel_rfl
theorem pair_ok (k v : V) (hk : Fine k) (hv : Fine v) : CallsF P G 34 [encV k, encV v] (int (pairE k v)) := by
  refine sx_fn (hs := [.call (int (chkI (rightB k))), .br [] [.call (int (chkI (rightB v)))]]) (CallsF P G 46 [encV k] (int (chkI (rightB k))) ∧ Br (chkI (rightB k) != 0) (int (chkI (rightB k)) = int (pairE k v)) (CallsF P G 46 [encV v] (int (chkI (rightB v))) ∧ int (chkI (rightB v)) = int (pairE k v))) get34 ent34 (by kernel_rfl) ?_
  refine ⟨?_, fun hi => ?_, fun hi => ⟨?_, ?_⟩⟩
  all_goals first | (have h1 : rightB k = false := (by cases h : rightB k <;> simp_all [chkI]); simp [pairE, chkI, h1]; done) | (have h1 : rightB k = true := (by cases h : rightB k <;> simp_all [chkI]); simp [pairE, chkI, h1]; done) | exact check_ok _ (by assumption)
theorem get35 : P.funcs[35]? = some Tryz.f35 := by kernel_rfl
theorem ent35 : entersP P 35 = true := by kernel_rfl
theorem find_run (c : V → V → Int) (o n : Int) (t : T) (k : V) (N : Nat) (hk : ∀ i, i < N → (pathT c k t i).isNil = false ∧ c k (pathT c k t i).key ≠ 0) (hN : (pathT c k t N).isNil = true ∨ c k (pathT c k t N).key = 0)
  (hc : ∀ i, (pathT c k t i).isNil = false → i ≤ N → CallsF P G 20 [encM o n t, encV k, encV (pathT c k t i).key] (int (c k (pathT c k t i).key))) : CallsF P G 35 [encM o n t, encV k] (encT (pathT c k t N)) := by
  refine sx_fn (hs := [.call (encT t), .loop [(0, 0)] [(0, 0)] (Sfind c o n t k) (N) (fun i => [.isn (T.isNil (pathT c k t i)), .br [.nat 8, .cast (opn (pathT c k t i)), .call (int (c k (T.key (pathT c k t i)))), .br [.cast (opn (pathT c k t i))] [.br [.cast (opn (pathT c k t i))] []]] []]), .isn (T.isNil (pathT c k t N)), .br [.nat 8, .cast (opn (pathT c k t N)), .call (int (c k (T.key (pathT c k t N)))), .br [.cast (opn (pathT c k t N))] [.br [.cast (opn (pathT c k t N))] []]] []]) (let z1 := E (Ob.box [AV.f (int (V.kind k)), AV.f (int (V.num k)), AV.f (str (V.text k)), AV.f (encI (V.items k))]) ∧ True; let z2 := T.key (pathT c k t N); let z3 := encT (pathT c k t N) = FV.ptr (opn (pathT c k t N)) 0 ∧ False; CallsF P G 38 [encM o n t] (encT t) ∧ (E true ∧ (E (AV.f (encM o n t)) ∧ E (AV.loc 0 0) ∧ AV.f (encT t) = AV.f (encT (pathT c k t 0)) ∧ True) ∧ z1 ∧ E true ∧ (false = true → false = true)) ∧ (∀ (i : Nat), (let z4 := T.key (pathT c k t i); i < N → IsNil (encT (pathT c k t i)) (T.isNil (pathT c k t i)) ∧ Br (!T.isNil (pathT c k t i)) (E true ∧ encT (pathT c k t i) = FV.ptr (opn (pathT c k t i)) 0 ∧ CallsF P G 20 [encM o n t, encV k, encV z4] (int (c k z4)) ∧ Br (decide (c k z4 < 0)) (encT (pathT c k t i) = FV.ptr (opn (pathT c k t i)) 0 ∧ E true ∧ (E (AV.f (encM o n t)) ∧ E (AV.loc 0 0) ∧ AV.f (encT (T.left (pathT c k t i))) = AV.f (encT (pathT c k t (i + 1))) ∧ True) ∧ z1 ∧ E true ∧ (St.nd (Sfind c o n t k (i + 1)) = true → false = true)) (Br (decide (c k z4 > 0)) (encT (pathT c k t i) = FV.ptr (opn (pathT c k t i)) 0 ∧ E true ∧ (E (AV.f (encM o n t)) ∧ E (AV.loc 0 0) ∧ AV.f (encT (T.right (pathT c k t i))) = AV.f (encT (pathT c k t (i + 1))) ∧ True) ∧ z1 ∧ E true ∧ (St.nd (Sfind c o n t k (i + 1)) = true → false = true)) False)) False)) ∧ IsNil (encT (pathT c k t N)) (T.isNil (pathT c k t N)) ∧ Br (!T.isNil (pathT c k t N)) (E true ∧ encT (pathT c k t N) = FV.ptr (opn (pathT c k t N)) 0 ∧ CallsF P G 20 [encM o n t, encV k, encV z2] (int (c k z2)) ∧ Br (decide (c k z2 < 0)) z3 (Br (decide (c k z2 > 0)) z3 (E (encT (pathT c k t N))))) (FV.sc (Value.pointer none) = encT (pathT c k t N))) get35 ent35 (by kernel_rfl) ?_
  refine ⟨?_, ⟨rfl, ⟨rfl, rfl, ?_, trivial⟩, ⟨rfl, trivial⟩, rfl, fun hi => ?_⟩, fun i => fun hlt => ⟨?_, fun hi => ⟨rfl, ?_, ?_, fun hi => ⟨?_, rfl, ⟨rfl, rfl, ?_, trivial⟩, ⟨rfl, trivial⟩, rfl, fun hi => ?_⟩, fun hi => ⟨fun hi => ⟨?_, rfl, ⟨rfl, rfl, ?_, trivial⟩, ⟨rfl, trivial⟩, rfl, fun hi => ?_⟩, fun hi => ?_⟩⟩, fun hi => ?_⟩, ?_, fun hi => ⟨rfl, ?_, ?_, fun hi => ⟨?_, ?_⟩, fun hi => ⟨fun hi => ⟨?_, ?_⟩, fun hi => rfl⟩⟩, fun hi => ?_⟩
  all_goals first | (exact encT_open _ (nnil (by assumption))) | (exact hc i (nnil (by assumption)) (by omega)) | (exact hc N (nnil (by assumption)) (by omega)) | (exact (congrArg encT (nnil2 (by assumption))).symm) | (exact congrArg (fun x => AV.f (encT x)) (pathT_lt (of_decide_eq_true (by assumption))).symm) | (exact congrArg (fun x => AV.f (encT x)) (pathT_gt (of_decide_eq_false (by assumption))).symm) | (exfalso; have h8 := (hk i hlt).1; simp_all; done) | (exfalso; have h8 := hk i hlt; simp only [decide_eq_true_eq, decide_eq_false_iff_not] at *; omega) | (exfalso; rcases hN with h | h; (rw [nnil (by assumption)] at h; cases h); (simp only [decide_eq_true_eq, decide_eq_false_iff_not] at *; omega)) | assumption | exact encT_isn _ | exact tree_ok _ _ _ | rfl
end Go.Sx
set_option maxRecDepth 100000
set_option maxHeartbeats 4000000
set_option linter.unusedSimpArgs false
set_option linter.unusedVariables false
namespace Go.Sx
open Go.Proofs Sp
theorem keys_left {t : T} {y : V} (h : y ∈ t.left.toList.map (·.1)) : y ∈ t.toList.map (·.1) := by
  cases t with
  | nil => exact h
  | node => simp only [T.left_mk] at h; simp only [T.toList, List.map_append, List.mem_append]; exact .inl h
theorem keys_right {t : T} {y : V} (h : y ∈ t.right.toList.map (·.1)) : y ∈ t.toList.map (·.1) := by
  cases t with
  | nil => exact h
  | node => simp only [T.right_mk] at h; simp only [T.toList, List.map_append, List.map_cons, List.mem_append, List.mem_cons]; exact .inr (.inr h)
theorem keys_key {t : T} (h : t.isNil = false) : t.key ∈ t.toList.map (·.1) := by
  cases t with
  | nil => cases h
  | node => simp [T.toList]
theorem path_keys (c : V → V → Int) (k : V) (t : T) : ∀ i y, y ∈ (pathT c k t i).toList.map (·.1) → y ∈ t.toList.map (·.1)
  | 0, y, h => h
  | i + 1, y, h => by
    simp only [pathT] at h
    split at h
    · exact path_keys c k t i y (keys_left h)
    · exact path_keys c k t i y (keys_right h)
theorem path_height (c : V → V → Int) (k : V) (t : T) : ∀ i, (pathT c k t i).isNil = false → (pathT c k t i).height + i ≤ t.height
  | 0, _ => Nat.le_refl _
  | i + 1, h => by
    have h0 : (pathT c k t i).isNil = false := by
      cases hp : pathT c k t i with
      | nil => simp only [pathT, hp] at h; split at h <;> cases h
      | node => rfl
    have ih := path_height c k t i h0
    have he := T.height_eq _ h0
    simp only [pathT]
    split <;> omega
theorem find_path (c : V → V → Int) (k : V) (t : T) (N : Nat) (hk : ∀ i, i < N → (pathT c k t i).isNil = false ∧ c k (pathT c k t i).key ≠ 0) : ∀ i, i ≤ N → T.find c k t = T.find c k (pathT c k t i)
  | 0, _ => rfl
  | i + 1, h => by
    rw [find_path c k t N hk i (by omega)]
    obtain ⟨h1, h2⟩ := hk i (by omega)
    cases hp : pathT c k t i with
    | nil => rw [hp] at h1; cases h1
    | node b l r xk xv =>
      rw [hp] at h2
      simp only [T.key_mk] at h2
      by_cases h3 : c k xk < 0
      · rw [pathT_lt (by rw [hp]; exact h3), hp]
        simp only [T.find, T.left_mk]
        rw [if_pos h3]
      · rw [pathT_gt (by rw [hp]; exact h3), hp]
        simp only [T.find, T.right_mk]
        rw [if_neg h3, if_pos (by omega)]
theorem find_ok (c : V → V → Int) (o n : Int) (t : T) (k : V) (hc : ∀ y, y ∈ t.toList.map (·.1) → CallsF P G 20 [encM o n t, encV k, encV y] (int (c k y))) : CallsF P G 35 [encM o n t, encV k] (encT (T.find c k t)) := by
  obtain ⟨N, h1, h2⟩ := exists_least (fun i => (pathT c k t i).isNil = true ∨ c k (pathT c k t i).key = 0) ⟨t.height + 1, .inl (by
    cases h : (pathT c k t (t.height + 1)).isNil with
    | true => rfl
    | false => have := path_height c k t _ h; omega)⟩
  have hk : ∀ i, i < N → (pathT c k t i).isNil = false ∧ c k (pathT c k t i).key ≠ 0 := fun i hi => by
    constructor
    · cases h : (pathT c k t i).isNil with
      | false => rfl
      | true => have := h2 i (.inl h); omega
    · intro h
      have := h2 i (.inr h); omega
  have := find_run c o n t k N hk h1 (fun i hi hn => hc _ (path_keys c k t i _ (keys_key hi)))
  have e : T.find c k t = pathT c k t N := by
    rw [find_path c k t N hk N (Nat.le_refl _)]
    cases hp : pathT c k t N with
    | nil => rfl
    | node b l r xk xv =>
      rw [hp] at h1
      have h3 : c k xk = 0 := h1.resolve_left (by simp)
      simp only [T.find]
      rw [if_neg (by omega), if_neg (by omega)]
  rw [e]; exact this
/-- Pairs, in cells. -/
def cellsPs : List (V × V) → List (List FV)
  | [] => []
  | p :: l => (cellsP p.1 ++ cellsP p.2) :: cellsPs l
def encPs (l : List (V × V)) : FV := .sl 8 (cellsPs l)
def Schk (l : List (V × V)) (i : Nat) : St := { sl := slots 24 [(0, .f (encPs l)), (9, .f (encPs l)), (10, .f (int (cellsPs l).length)), (11, .f (int (i : Int)))], ob := [], nx := 0 }
theorem cellsPs_length : ∀ l, (cellsPs l).length = l.length
  | [] => rfl
  | x :: l => by simp [cellsPs, cellsPs_length l]
theorem cellsPs_get : ∀ (l : List (V × V)) (i : Nat), i < l.length → (cellsPs l)[i]? = some (cellsP (l.getD i default).1 ++ cellsP (l.getD i default).2)
  | [], i, h => by simp at h
  | x :: l, 0, h => by simp [cellsPs]
  | x :: l, i + 1, h => by simpa [cellsPs] using cellsPs_get l i (by simpa using h)
theorem get30 : P.funcs[30]? = some Tryz.f30 := by kernel_rfl
theorem ent30 : entersP P 30 = true := by kernel_rfl
theorem get_some (c : V → V → Int) (o n : Int) (t : T) (k : V) (hk : Fine k) (h : rightB k = true) (hc : ∀ y, y ∈ t.toList.map (·.1) → CallsF P G 20 [encM o n t, encV k, encV y] (int (c k y))) (hf : (T.find c k t).isNil = false) (hv : Fine (T.find c k t).val) : CallsF P G 30 [encM o n t, encV k] (.tup [encV (T.find c k t).val, bool true, int 0]) := by
  refine sx_fn (hs := [.call (int (chkI (rightB k))), .br [] [.call (encT (T.find c k t)), .isn (T.isNil (T.find c k t)), .br [] [.cast (opn (T.find c k t)), .call (encV (T.val (T.find c k t)))]]]) (let z1 := T.val (T.find c k t); CallsF P G 46 [encV k] (int (chkI (rightB k))) ∧ Br (chkI (rightB k) != 0) (FV.tup [FV.agg [int 0, int 0, str [], FV.nils], bool false, int (chkI (rightB k))] = FV.tup [encV z1, bool true, int 0]) (CallsF P G 35 [encM o n t, encV k] (encT (T.find c k t)) ∧ IsNil (encT (T.find c k t)) (T.isNil (T.find c k t)) ∧ Br (T.isNil (T.find c k t)) (FV.tup [FV.agg [int 0, int 0, str [], FV.nils], bool false, int 0] = FV.tup [encV z1, bool true, int 0]) (encT (T.find c k t) = FV.ptr (opn (T.find c k t)) 0 ∧ CallsF P G 16 [encV z1] (encV z1) ∧ E (FV.tup [encV z1, bool true, int 0])))) get30 ent30 (by kernel_rfl) ?_
  refine ⟨?_, fun hi => ?_, fun hi => ⟨?_, ?_, fun hi => ?_, fun hi => ⟨?_, ?_, rfl⟩⟩⟩
  all_goals first | (exfalso; rw [h] at *; simp_all [chkI]; done) | exact encT_isn _ | exact own2_ok _ (by assumption) | exact check_ok _ (by assumption) | (exact encT_open _ (by assumption)) | exact find_ok _ _ _ _ _ (by assumption)
theorem get15 : P.funcs[15]? = some Tryz.f15 := by kernel_rfl
theorem ent15 : entersP P 15 = true := by kernel_rfl
theorem with_ok (c : V → V → Int) (o n : Int) (t : T) (k v : V) (hn : 0 ≤ n ∧ n ≤ 1152921504606846976) (hc : ∀ y, y ∈ t.toList.map (·.1) → CallsF P G 20 [encM o n t, encV k, encV y] (int (c k y))) (hi : CallsF P G 37 [encT t, encV k, encV v, .fn 20 [encM o n t] []] (encT (T.insert c k v t))) : CallsF P G 15 [encM o n t, encV k, encV v] (withM c o n t k v) := by
  refine sx_fn (hs := let z1 := encT (T.blackened (T.insert c k v t)); [.call (int n), .call (encT (T.find c k t)), .isn (T.isNil (T.find c k t)), .br [.nat 14, .call (int o), .call (encT t), .call (encT (T.insert c k v t)), .call z1, .ones] [.nat 14, .call (int o), .call (encT t), .call (encT (T.insert c k v t)), .call z1, .ones]]) (let z1 := T.blackened (T.insert c k v t); let z2 := E true ∧ E true ∧ AV.one (AV.f (encT z1)) = true ∧ True; CallsF P G 23 [encM o n t] (int n) ∧ CallsF P G 35 [encM o n t, encV k] (encT (T.find c k t)) ∧ IsNil (encT (T.find c k t)) (T.isNil (T.find c k t)) ∧ Br (T.isNil (T.find c k t)) (E true ∧ CallsF P G 22 [encM o n t] (int o) ∧ CallsF P G 38 [encM o n t] (encT t) ∧ CallsF P G 37 [encT t, encV k, encV v, FV.fn 20 [encM o n t] []] (encT (T.insert c k v t)) ∧ CallsF P G 36 [encT (T.insert c k v t)] (encT z1) ∧ z2 ∧ FV.ptr [int o, int (IntKind.wrap IntKind.i64 (n + 1)), encT z1] 0 = FV.ptr [int o, int (withN c n t k), encT z1] 0) (E true ∧ CallsF P G 22 [encM o n t] (int o) ∧ CallsF P G 38 [encM o n t] (encT t) ∧ CallsF P G 37 [encT t, encV k, encV v, FV.fn 20 [encM o n t] []] (encT (T.insert c k v t)) ∧ CallsF P G 36 [encT (T.insert c k v t)] (encT z1) ∧ z2 ∧ FV.ptr [int o, int n, encT z1] 0 = FV.ptr [int o, int (withN c n t k), encT z1] 0)) get15 ent15 (by kernel_rfl) ?_
  refine ⟨?_, ?_, ?_, fun hi => ⟨rfl, ?_, ?_, ?_, ?_, ⟨rfl, rfl, ?_, trivial⟩, ?_⟩, fun hi => ⟨rfl, ?_, ?_, ?_, ?_, ⟨rfl, rfl, ?_, trivial⟩, ?_⟩⟩
  all_goals first | (exact encT_one _) | trivial | (simp only [withM, withN, encM]; rw [if_pos (by assumption), wrapS _ (by omega) (by omega)]) | (simp only [withM, withN, encM]; rw [if_neg (by simp_all; done)]) | exact encT_isn _ | exact order_ok _ _ _ | exact len_ok _ _ _ | exact tree_ok _ _ _ | exact blackened_ok _ | exact find_ok _ _ _ _ _ (by assumption)
theorem get14 : P.funcs[14]? = some Tryz.f14 := by kernel_rfl
theorem ent14 : entersP P 14 = true := by kernel_rfl
theorem checked_long (l : List (V × V)) (h : 65536 < l.length) : CallsF P G 14 [encPs l] (int 2) := by
  refine sx_fn (hs := [.br [] []]) ((((decide ((↑(List.length (cellsPs l)) : Int) > 65536)) = (true)) → (E (int 2))) ∧ (((decide ((↑(List.length (cellsPs l)) : Int) > 65536)) = (false)) → (False))) get14 ent14 (by kernel_rfl) ?_
  refine ⟨fun hi => rfl, fun hi => ?_⟩
  all_goals (exfalso; simp only [cellsPs_length, decide_eq_true_eq, decide_eq_false_iff_not] at *; omega)
theorem fineP {l : List (V × V)} (h : ∀ p, p ∈ l → Fine p.1 ∧ Fine p.2) {i : Nat} (hi : i < l.length) : Fine (l.getD i default).1 ∧ Fine (l.getD i default).2 := by
  rw [List.getD_eq_getElem?_getD, List.getElem?_eq_getElem hi]; exact h _ (List.getElem_mem hi)
theorem checked_all (l : List (V × V)) (N : Nat) (hl : l.length ≤ 65536) (hN : N ≤ l.length) (hf : ∀ p, p ∈ l → Fine p.1 ∧ Fine p.2) (hk : ∀ i, i < N → pairE (l.getD i default).1 (l.getD i default).2 = 0) (h3 : N = l.length) : CallsF P G 14 [encPs l] (int 0) := by
  refine sx_fn (hs := let z1 := List.getD l N default; [.br [] [.loop [] [] (Schk l) (N) (fun i => [.br [.el (cellsP (Prod.fst (List.getD l i default)) ++ cellsP (Prod.snd (List.getD l i default))), .call (int (pairE (Prod.fst (List.getD l i default)) (Prod.snd (List.getD l i default)))), .br [] []] []]), .br [.el (cellsP (Prod.fst z1) ++ cellsP (Prod.snd z1)), .call (int (pairE (Prod.fst z1) (Prod.snd z1))), .br [] []] []]]) (let z1 := List.getD l N default; let z2 := (↑(List.length (cellsPs l)) : Int); let z3 := AV.f (FV.sl 8 (cellsPs l)); let z4 := pairE (Prod.fst z1) (Prod.snd z1); Br (decide (z2 > 65536)) (int 2 = int 0) ((E true ∧ (E z3 ∧ E z3 ∧ E (AV.f (int z2)) ∧ AV.f (int 0) = AV.f (int (Int.ofNat 0)) ∧ True) ∧ True ∧ E true ∧ (false = true → false = true)) ∧ (∀ (i : Nat), (let z5 := List.getD l i default; i < N → Br (decide ((i : Int) < z2)) ((E 8 ∧ (0 : Int) ≤ (i : Int) ∧ (cellsPs l)[i]? = some (int (V.kind (Prod.fst z5)) :: int (V.num (Prod.fst z5)) :: str (V.text (Prod.fst z5)) :: encI (V.items (Prod.fst z5)) :: cellsP (Prod.snd z5))) ∧ CallsF P G 34 [encV (Prod.fst z5), encV (Prod.snd z5)] (int (pairE (Prod.fst z5) (Prod.snd z5))) ∧ Br (pairE (Prod.fst z5) (Prod.snd z5) != 0) False (E true ∧ (E z3 ∧ E z3 ∧ E (AV.f (int z2)) ∧ AV.f (int (IntKind.wrap IntKind.i64 ((i : Int) + 1))) = AV.f (int (↑(i + 1) : Int)) ∧ True) ∧ True ∧ E true ∧ (St.nd (Schk l (i + 1)) = true → false = true))) False)) ∧ Br (decide ((N : Int) < z2)) ((E 8 ∧ (0 : Int) ≤ (N : Int) ∧ (cellsPs l)[N]? = some (int (V.kind (Prod.fst z1)) :: int (V.num (Prod.fst z1)) :: str (V.text (Prod.fst z1)) :: encI (V.items (Prod.fst z1)) :: cellsP (Prod.snd z1))) ∧ CallsF P G 34 [encV (Prod.fst z1), encV (Prod.snd z1)] (int z4) ∧ Br (pairE (Prod.fst z1) (Prod.snd z1) != 0) (int z4 = int 0) False) (E (int 0)))) get14 ent14 (by kernel_rfl) ?_
  refine ⟨fun hi => ?_, fun hi => ⟨⟨rfl, ⟨rfl, rfl, rfl, ?_, trivial⟩, trivial, rfl, fun hi => ?_⟩, fun i => fun hlt => ⟨fun hi => ⟨⟨rfl, ?_, ?_⟩, ?_, fun hi => ?_, fun hi => ⟨rfl, ⟨rfl, rfl, rfl, ?_, trivial⟩, trivial, rfl, fun hi => ?_⟩⟩, fun hi => ?_⟩, fun hi => ⟨⟨rfl, ?_, ?_⟩, ?_, fun hi => ?_, fun hi => ?_⟩, fun hi => rfl⟩⟩
  all_goals first | (simp only [cellsPs_length, decide_eq_true_eq, decide_eq_false_iff_not] at *; omega) | exact cellsPs_get l _ (by omega) | (exact pair_ok _ _ (fineP hf (by omega)).1 (fineP hf (by omega)).2) | (exact congrArg (fun x => AV.f (int x)) (wrapS ((i : Int) + 1) (by omega) (by omega))) | (exfalso; simp_all; done) | assumption | (simp [V.kind, V.num, V.text, V.items, *]; done)
theorem checked_not (l : List (V × V)) (N : Nat) (hl : l.length ≤ 65536) (hN : N ≤ l.length) (hf : ∀ p, p ∈ l → Fine p.1 ∧ Fine p.2) (hk : ∀ i, i < N → pairE (l.getD i default).1 (l.getD i default).2 = 0) (h3 : N < l.length) (h4 : pairE (l.getD N default).1 (l.getD N default).2 = 3) : CallsF P G 14 [encPs l] (int 3) := by
  refine sx_fn (hs := let z1 := List.getD l N default; [.br [] [.loop [] [] (Schk l) (N) (fun i => [.br [.el (cellsP (Prod.fst (List.getD l i default)) ++ cellsP (Prod.snd (List.getD l i default))), .call (int (pairE (Prod.fst (List.getD l i default)) (Prod.snd (List.getD l i default)))), .br [] []] []]), .br [.el (cellsP (Prod.fst z1) ++ cellsP (Prod.snd z1)), .call (int (pairE (Prod.fst z1) (Prod.snd z1))), .br [] []] []]]) (let z1 := List.getD l N default; let z2 := (↑(List.length (cellsPs l)) : Int); let z3 := AV.f (FV.sl 8 (cellsPs l)); let z4 := pairE (Prod.fst z1) (Prod.snd z1); Br (decide (z2 > 65536)) (int 2 = int 3) ((E true ∧ (E z3 ∧ E z3 ∧ E (AV.f (int z2)) ∧ AV.f (int 0) = AV.f (int (Int.ofNat 0)) ∧ True) ∧ True ∧ E true ∧ (false = true → false = true)) ∧ (∀ (i : Nat), (let z5 := List.getD l i default; i < N → Br (decide ((i : Int) < z2)) ((E 8 ∧ (0 : Int) ≤ (i : Int) ∧ (cellsPs l)[i]? = some (int (V.kind (Prod.fst z5)) :: int (V.num (Prod.fst z5)) :: str (V.text (Prod.fst z5)) :: encI (V.items (Prod.fst z5)) :: cellsP (Prod.snd z5))) ∧ CallsF P G 34 [encV (Prod.fst z5), encV (Prod.snd z5)] (int (pairE (Prod.fst z5) (Prod.snd z5))) ∧ Br (pairE (Prod.fst z5) (Prod.snd z5) != 0) False (E true ∧ (E z3 ∧ E z3 ∧ E (AV.f (int z2)) ∧ AV.f (int (IntKind.wrap IntKind.i64 ((i : Int) + 1))) = AV.f (int (↑(i + 1) : Int)) ∧ True) ∧ True ∧ E true ∧ (St.nd (Schk l (i + 1)) = true → false = true))) False)) ∧ Br (decide ((N : Int) < z2)) ((E 8 ∧ (0 : Int) ≤ (N : Int) ∧ (cellsPs l)[N]? = some (int (V.kind (Prod.fst z1)) :: int (V.num (Prod.fst z1)) :: str (V.text (Prod.fst z1)) :: encI (V.items (Prod.fst z1)) :: cellsP (Prod.snd z1))) ∧ CallsF P G 34 [encV (Prod.fst z1), encV (Prod.snd z1)] (int z4) ∧ Br (pairE (Prod.fst z1) (Prod.snd z1) != 0) (int z4 = int 3) False) (int 0 = int 3))) get14 ent14 (by kernel_rfl) ?_
  refine ⟨fun hi => ?_, fun hi => ⟨⟨rfl, ⟨rfl, rfl, rfl, ?_, trivial⟩, trivial, rfl, fun hi => ?_⟩, fun i => fun hlt => ⟨fun hi => ⟨⟨rfl, ?_, ?_⟩, ?_, fun hi => ?_, fun hi => ⟨rfl, ⟨rfl, rfl, rfl, ?_, trivial⟩, trivial, rfl, fun hi => ?_⟩⟩, fun hi => ?_⟩, fun hi => ⟨⟨rfl, ?_, ?_⟩, ?_, fun hi => ?_, fun hi => ?_⟩, fun hi => ?_⟩⟩
  all_goals first | (simp only [cellsPs_length, decide_eq_true_eq, decide_eq_false_iff_not] at *; omega) | exact cellsPs_get l _ (by omega) | (exact pair_ok _ _ (fineP hf (by omega)).1 (fineP hf (by omega)).2) | (exact congrArg (fun x => AV.f (int x)) (wrapS ((i : Int) + 1) (by omega) (by omega))) | (exfalso; simp_all; done) | (rw [h4]; done) | assumption | (simp [V.kind, V.num, V.text, V.items, *]; done)
end Go.Sx

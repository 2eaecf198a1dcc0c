/-
  Proved: what some functions of the program answer, or a law of the evaluator that shows it, one theorem each; its conditions are the hypotheses that stand ahead of it.
-/
import Derived.Test.YtkbaoibplojjlaaDoorL1
import Derived.KernelRfl
set_option maxRecDepth 100000
set_option maxHeartbeats 4000000
set_option linter.unusedSimpArgs false
set_option linter.unusedVariables false
namespace Go.Sx
open Go.Proofs Sp
/-- A map with a pair put in, and one with a key taken out: its tree, and how many keys it has. -/
def putT (c : V → V → Int) (x : T × Nat) (k v : V) : T × Nat := ((T.insert c k v x.1).blackened, if (T.find c k x.1).isNil then x.2 + 1 else x.2)
def cutT (c : V → V → Int) (x : T × Nat) (k : V) : T × Nat := if (T.find c k x.1).isNil then x else ((T.remove c k x.1).blackened, x.2 - 1)
def ofT (c : V → V → Int) (l : List (V × V)) : Nat → T × Nat
  | 0 => (.nil, 0)
  | i + 1 => putT c (ofT c l i) (l.getD i default).1 (l.getD i default).2
def encX (o : Int) (x : T × Nat) : FV := encM o (x.2 : Int) x.1
noncomputable def RP (q : V × V) : Prop := Fine q.1 ∧ Fine q.2 ∧ rightB q.1 = true ∧ rightB q.2 = true
noncomputable def OkX (x : T × Nat) : Prop := T.Good RP x.2 x.1
/-- What a map's order answers. -/
def CmpC (c : V → V → Int) (o : Int) : Prop := ∀ (n : Int) (t : T) (a b : V), Fine a → Fine b → rightB a = true → rightB b = true → CallsF P G 51 [encM o n t, encV a, encV b] (int (c a b))
def Sof (c : V → V → Int) (o : Int) (l : List (V × V)) (i : Nat) : St := { sl := slots 38 [(6, .f (encX o (ofT c l i))), (22, .f (encPs l)), (23, .f (int (cellsPs l).length)), (24, .f (int (i : Int)))], ob := [], nx := 0 }
theorem okX_nil : OkX (.nil, 0) := T.good_nil _
theorem okX_put {x : T × Nat} (c : V → V → Int) (h : OkX x) {k v : V} (hp : RP (k, v)) : OkX (putT c x k v) := T.good_insert c k v h hp
theorem okX_cut {x : T × Nat} (c : V → V → Int) (h : OkX x) (k : V) : OkX (cutT c x k) ∧ (cutT c x k).2 ≤ x.2 := by
  unfold cutT
  split
  · exact ⟨h, Nat.le_refl _⟩
  · rename_i h1
    exact ⟨(T.good_remove c k h (by simpa using h1)).2, Nat.sub_le _ _⟩
theorem put_le (c : V → V → Int) (x : T × Nat) (k v : V) : (putT c x k v).2 ≤ x.2 + 1 := by simp only [putT]; split <;> omega
theorem ofT_ok {c : V → V → Int} {l : List (V × V)} (hl : ∀ q, q ∈ l → RP q) : ∀ i, i ≤ l.length → OkX (ofT c l i) ∧ (ofT c l i).2 ≤ i
  | 0, _ => ⟨okX_nil, Nat.le_refl _⟩
  | i + 1, hi => by
    obtain ⟨h1, h2⟩ := ofT_ok hl i (by omega)
    have hm : l.getD i default ∈ l := by rw [List.getD_eq_getElem?_getD, List.getElem?_eq_getElem (by omega)]; exact List.getElem_mem (by omega)
    refine ⟨okX_put c h1 (hl _ hm), Nat.le_trans (put_le _ _ _ _) (by omega)⟩
theorem withM_put (c : V → V → Int) (o : Int) (x : T × Nat) (k v : V) : withM c o (x.2 : Int) x.1 k v = encX o (putT c x k v) := by
  simp only [withM, withN, encX, putT]
  split <;> simp
theorem cmpX {c : V → V → Int} {o : Int} (hC : CmpC c o) {x : T × Nat} (hx : OkX x) {k : V} (hk : Fine k) (hr : rightB k = true) (n : Int) (t : T) : ∀ y, y ∈ x.1.toList.map (·.1) → CallsF P G 51 [encM o n t, encV k, encV y] (int (c k y)) := by
  intro y hy
  obtain ⟨q, h1, rfl⟩ := List.mem_map.mp hy
  have h2 := hx.2.2.2 q h1
  exact hC n t k q.1 hk h2.1 hr h2.2.2.1
theorem with_put {c : V → V → Int} {o : Int} (hC : CmpC c o) {x : T × Nat} (hx : OkX x) (hn : x.2 ≤ 1000000) {k v : V} (hp : RP (k, v)) : CallsF P G 30 [encX o x, encV k, encV v] (encX o (putT c x k v)) := by
  have h := with_ok c o (x.2 : Int) x.1 k v ⟨by omega, by omega⟩ (cmpX hC hx hp.1 hp.2.2.1 _ _) (insert_ok c _ _ k v x.1 (cmpX hC hx hp.1 hp.2.2.1 _ _))
  rw [withM_put] at h
  exact h
theorem pairE_zero {k v : V} (h1 : rightB k = true) (h2 : rightB v = true) : pairE k v = 0 := by simp [pairE, h1, h2]
theorem assoc_put {c : V → V → Int} {o : Int} (hC : CmpC c o) {x : T × Nat} (hx : OkX x) (hn : x.2 < 65536) {k v : V} (hp : RP (k, v)) : CallsF P G 21 [encX o x, encV k, encV v] (.tup [encX o (putT c x k v), int 0]) := by
  have h := assoc_ok c o (x.2 : Int) x.1 k v hp.1 hp.2.1 (pairE_zero hp.2.2.1 hp.2.2.2) (by omega) (cmpX hC hx hp.1 hp.2.2.1 _ _) (by rw [withM_put]; exact with_put hC hx (by omega) hp)
  rw [withM_put] at h
  exact h
theorem dissoc_cut {c : V → V → Int} {o : Int} (hC : CmpC c o) {x : T × Nat} (hx : OkX x) (hn : x.2 ≤ 1000000) {k : V} (hk : Fine k) (hr : rightB k = true) : CallsF P G 24 [encX o x, encV k] (.tup [encX o (cutT c x k), int 0]) := by
  unfold cutT
  cases hf : (T.find c k x.1).isNil with
  | true => exact dissoc_none c o (x.2 : Int) x.1 k hk hr (cmpX hC hx hk hr _ _) hf
  | false =>
    obtain ⟨h1, h2⟩ := T.good_remove c k hx hf
    have hx0 := hx
    obtain ⟨⟨m, hm⟩, _⟩ := hx
    have h := dissoc_some c o (x.2 : Int) x.1 k hk hr ⟨by omega, by omega⟩ (cmpX hC hx0 hk hr _ _) hf (remove_ok c _ _ k x.1 m hm ((T.has_find c k x.1).mpr hf) (cmpX hC hx0 hk hr _ _))
    rw [show (x.2 : Int) - 1 = ((x.2 - 1 : Nat) : Int) from by omega] at h
    exact h

theorem most_ok (n : Nat) (hn : n < 1000000) : CallsF P G 46 [int (n : Int)] (int (T.most n : Nat)) := by
  obtain ⟨h1, h2, h3⟩ := bits_spec 60 n 0 (by simp) rfl
  exact most_run n (T.bits 60 n 0) hn h2 h1 h3
theorem allP {l : List (V × V)} {p : V × V → Prop} (h : ∀ x, x ∈ l → p x) {i : Nat} (hi : i < l.length) : p (l.getD i default) := by
  rw [List.getD_eq_getElem?_getD, List.getElem?_eq_getElem hi]; exact h _ (List.getElem_mem hi)
theorem get23 : P.funcs[23]? = some Tryd.f23 := by kernel_rfl
theorem ent23 : entersP P 23 = true := by kernel_rfl
theorem flat_run (o : Int) (n : Nat) (t : T) (hn : n < 1000000) (hh : t.height ≤ 1152921504606846976) (h1 : t.height ≤ T.most n) (h2 : t.height = 0 ↔ n = 0) : CallsF P G 23 [encM o (n : Int) t] (bool true) := by
  refine sx_fn (hs := [.call (int (↑(T.height t) : Int)), .dec true, .call (int (n : Int)), .call (int (↑(T.most n) : Int)), .br [.call (int (n : Int))] []]) ((CallsF P G 25 [encM o (n : Int) t] (int (↑(T.height t) : Int))) ∧ (E (true)) ∧ (CallsF P G 34 [encM o (n : Int) t] (int (n : Int))) ∧ (CallsF P G 46 [int (n : Int)] (int (↑(T.most n) : Int))) ∧ (((decide ((↑(T.height t) : Int) ≤ (↑(T.most n) : Int))) = (true)) → ((CallsF P G 34 [encM o (n : Int) t] (int (n : Int))) ∧ (bool (((↑(T.height t) : Int) == 0) == ((n : Int) == 0))) = (bool true))) ∧ (((decide ((↑(T.height t) : Int) ≤ (↑(T.most n) : Int))) = (false)) → ((bool false) = (bool true)))) get23 ent23 (by kernel_rfl) ?_
  refine ⟨?_, ⟨rfl, ⟨?_, ⟨?_, ⟨fun hi => ⟨?_, ?_⟩, fun hi => ?_⟩⟩⟩⟩⟩
  all_goals first | exact mheight_ok _ _ _ (height_ok _ hh) | exact most_ok _ hn | (simp only [decide_eq_true_eq, decide_eq_false_iff_not] at *; omega) | (have h3 : (((t.height : Int)) == 0) = (((n : Int)) == 0) := (by rw [Bool.eq_iff_iff]; simp only [beq_iff_eq]; omega); simp_all; done) | exact len_ok _ _ _
theorem get7 : P.funcs[7]? = some Tryd.f7 := by kernel_rfl
theorem ent7 : entersP P 7 = true := by kernel_rfl
theorem of_run (c : V → V → Int) (o : Int) (l : List (V × V)) (N : Nat) (ho : 0 ≤ o ∧ o ≤ 5) (hl : l.length ≤ 65536) (hN : N = l.length) (hf : ∀ q, q ∈ l → RP q) (hck : CallsF P G 29 [encPs l] (int 0))
  (hw : ∀ i, i < l.length → CallsF P G 30 [encX o (ofT c l i), encV (l.getD i default).1, encV (l.getD i default).2] (encX o (putT c (ofT c l i) (l.getD i default).1 (l.getD i default).2))) : CallsF P G 7 [int o, encPs l] (.tup [encX o (ofT c l N), int 0]) := by
  refine sx_fn (hs := [.call (FV.tup [encM o 0 T.nil, int 0]), .dec true, .call (int 0), .dec false, .loop [] [] (Sof c o l) (N) (fun i => [.br [.el (cellsP (Prod.fst (List.getD l i default)) ++ cellsP (Prod.snd (List.getD l i default))), .nat 8, .call (encV (Prod.fst (List.getD l i default))), .call (encV (Prod.snd (List.getD l i default))), .call (encX o (putT c (ofT c l i) (Prod.fst (List.getD l i default)) (Prod.snd (List.getD l i default))))] []]), .br [.el (cellsP (Prod.fst (List.getD l N default)) ++ cellsP (Prod.snd (List.getD l N default))), .nat 8, .call (encV (Prod.fst (List.getD l N default))), .call (encV (Prod.snd (List.getD l N default))), .call (encX o (putT c (ofT c l N) (Prod.fst (List.getD l N default)) (Prod.snd (List.getD l N default))))] []]) ((CallsF P G 20 [int o] (FV.tup [encM o 0 T.nil, int 0])) ∧ (E (true)) ∧ (CallsF P G 29 [FV.sl 8 (cellsPs l)] (int 0)) ∧ (E (false)) ∧ ((E (true)) ∧ (((AV.f (encM o 0 T.nil)) = (AV.f (FV.ptr [int o, int (↑(Prod.snd (ofT c l 0)) : Int), encT (Prod.fst (ofT c l 0))] 0))) ∧ (E (AV.f (FV.sl 8 (cellsPs l)))) ∧ (E (AV.f (int (↑(List.length (cellsPs l)) : Int)))) ∧ ((AV.f (int 0)) = (AV.f (int (Int.ofNat 0)))) ∧ True) ∧ (True) ∧ (E (true)) ∧ (((false) = (true)) → ((false) = (true)))) ∧ (∀ (i : Nat), (i < N) → ((((decide ((i : Int) < (↑(List.length (cellsPs l)) : Int))) = (true)) → (((E (8)) ∧ ((0 : Int) ≤ (i : Int)) ∧ ((cellsPs l)[i]?) = (some (int (V.kind (Prod.fst (List.getD l i default))) :: int (V.num (Prod.fst (List.getD l i default))) :: str (V.text (Prod.fst (List.getD l i default))) :: encI (V.items (Prod.fst (List.getD l i default))) :: cellsP (Prod.snd (List.getD l i default))))) ∧ (E (true)) ∧ (CallsF P G 31 [encV (Prod.fst (List.getD l i default))] (encV (Prod.fst (List.getD l i default)))) ∧ (CallsF P G 31 [encV (Prod.snd (List.getD l i default))] (encV (Prod.snd (List.getD l i default)))) ∧ (CallsF P G 30 [FV.ptr [int o, int (↑(Prod.snd (ofT c l i)) : Int), encT (Prod.fst (ofT c l i))] 0, encV (Prod.fst (List.getD l i default)), encV (Prod.snd (List.getD l i default))] (FV.ptr [int o, int (↑(Prod.snd (putT c (ofT c l i) (Prod.fst (List.getD l i default)) (Prod.snd (List.getD l i default)))) : Int), encT (Prod.fst (putT c (ofT c l i) (Prod.fst (List.getD l i default)) (Prod.snd (List.getD l i default))))] 0)) ∧ (E (true)) ∧ (((AV.f (FV.ptr [int o, int (↑(Prod.snd (putT c (ofT c l i) (Prod.fst (List.getD l i default)) (Prod.snd (List.getD l i default)))) : Int), encT (Prod.fst (putT c (ofT c l i) (Prod.fst (List.getD l i default)) (Prod.snd (List.getD l i default))))] 0)) = (AV.f (FV.ptr [int o, int (↑(Prod.snd (ofT c l (i + 1))) : Int), encT (Prod.fst (ofT c l (i + 1)))] 0))) ∧ (E (AV.f (FV.sl 8 (cellsPs l)))) ∧ (E (AV.f (int (↑(List.length (cellsPs l)) : Int)))) ∧ ((AV.f (int (IntKind.wrap IntKind.i64 ((i : Int) + 1)))) = (AV.f (int (↑(i + 1) : Int)))) ∧ True) ∧ (True) ∧ (E (true)) ∧ ((St.nd (Sof c o l (i + 1)) = true) → ((false) = (true))))) ∧ (((decide ((i : Int) < (↑(List.length (cellsPs l)) : Int))) = (false)) → (False)))) ∧ (((decide ((N : Int) < (↑(List.length (cellsPs l)) : Int))) = (true)) → (((E (8)) ∧ ((0 : Int) ≤ (N : Int)) ∧ ((cellsPs l)[N]?) = (some (int (V.kind (Prod.fst (List.getD l N default))) :: int (V.num (Prod.fst (List.getD l N default))) :: str (V.text (Prod.fst (List.getD l N default))) :: encI (V.items (Prod.fst (List.getD l N default))) :: cellsP (Prod.snd (List.getD l N default))))) ∧ (E (true)) ∧ (CallsF P G 31 [encV (Prod.fst (List.getD l N default))] (encV (Prod.fst (List.getD l N default)))) ∧ (CallsF P G 31 [encV (Prod.snd (List.getD l N default))] (encV (Prod.snd (List.getD l N default)))) ∧ (CallsF P G 30 [FV.ptr [int o, int (↑(Prod.snd (ofT c l N)) : Int), encT (Prod.fst (ofT c l N))] 0, encV (Prod.fst (List.getD l N default)), encV (Prod.snd (List.getD l N default))] (FV.ptr [int o, int (↑(Prod.snd (putT c (ofT c l N) (Prod.fst (List.getD l N default)) (Prod.snd (List.getD l N default)))) : Int), encT (Prod.fst (putT c (ofT c l N) (Prod.fst (List.getD l N default)) (Prod.snd (List.getD l N default))))] 0)) ∧ False)) ∧ (((decide ((N : Int) < (↑(List.length (cellsPs l)) : Int))) = (false)) → (E (FV.tup [FV.ptr [int o, int (↑(Prod.snd (ofT c l N)) : Int), encT (Prod.fst (ofT c l N))] 0, int 0])))) get7 ent7 (by kernel_rfl) ?_
  refine ⟨?_, ⟨rfl, ⟨?_, ⟨rfl, ⟨⟨rfl, ⟨⟨?_, ⟨rfl, ⟨rfl, ⟨?_, trivial⟩⟩⟩⟩, ⟨trivial, ⟨rfl, fun hi => ?_⟩⟩⟩⟩, fun i => fun hlt => ⟨fun hi => ⟨⟨rfl, ⟨?_, ?_⟩⟩, ⟨rfl, ⟨?_, ⟨?_, ⟨?_, ⟨rfl, ⟨⟨?_, ⟨rfl, ⟨rfl, ⟨?_, trivial⟩⟩⟩⟩, ⟨trivial, ⟨rfl, fun hi => ?_⟩⟩⟩⟩⟩⟩⟩⟩⟩, fun hi => ?_⟩, ⟨fun hi => ⟨⟨rfl, ⟨?_, ?_⟩⟩, ⟨rfl, ⟨?_, ⟨?_, ⟨?_, ?_⟩⟩⟩⟩⟩, fun hi => rfl⟩⟩⟩⟩⟩⟩
  all_goals first | exact new_ok _ ho | exact hck | exact hw i (by omega) | exact cellsPs_get l _ (by omega) | exact own2_ok _ (allP hf (by omega)).1 | exact own2_ok _ (allP hf (by omega)).2.1 | (simp only [cellsPs_length, decide_eq_true_eq, decide_eq_false_iff_not] at *; omega) | (exact congrArg (fun x => AV.f (int x)) (wrapS ((i : Int) + 1) (by omega) (by omega))) | assumption | (simp [V.kind, V.num, V.text, V.items, *]; done) | rfl
end Go.Sx

/-
  Proved: what some functions of the program answer, or a law of the evaluator that shows it, one theorem each; its conditions are the hypotheses that stand ahead of it.
-/
import Derived.Test.YtkbaoibplojjlaaGreatDoorR2
import Derived.Test.YtkbaoibplojjlaaGreatDoorPRB
import Derived.KernelRfl
set_option maxRecDepth 100000
set_option maxHeartbeats 4000000
set_option linter.unusedSimpArgs false
set_option linter.unusedVariables false
namespace Go.Sx
open Go.Proofs Sp
theorem keys_left {t : T} {y : V} (h : y ∈ t.left.toList.map (·.1)) : y ∈ t.toList.map (·.1) := by
  cases t with
  | nil => exact h
  | node => simp only [T.left_mk] at h; simp only [T.toList, List.map_append, List.mem_append]; exact .inl h
theorem keys_right {t : T} {y : V} (h : y ∈ t.right.toList.map (·.1)) : y ∈ t.toList.map (·.1) := by
  cases t with
  | nil => exact h
  | node => simp only [T.right_mk] at h; simp only [T.toList, List.map_append, List.map_cons, List.mem_append, List.mem_cons]; exact .inr (.inr h)
theorem keys_key {t : T} (h : t.isNil = false) : t.key ∈ t.toList.map (·.1) := by
  cases t with
  | nil => cases h
  | node => simp [T.toList]
theorem path_keys (c : V → V → Int) (k : V) (t : T) : ∀ i y, y ∈ (pathT c k t i).toList.map (·.1) → y ∈ t.toList.map (·.1)
  | 0, y, h => h
  | i + 1, y, h => by
    simp only [pathT] at h
    split at h
    · exact path_keys c k t i y (keys_left h)
    · exact path_keys c k t i y (keys_right h)
theorem path_height (c : V → V → Int) (k : V) (t : T) : ∀ i, (pathT c k t i).isNil = false → (pathT c k t i).height + i ≤ t.height
  | 0, _ => Nat.le_refl _
  | i + 1, h => by
    have h0 : (pathT c k t i).isNil = false := by
      cases hp : pathT c k t i with
      | nil => simp only [pathT, hp] at h; split at h <;> cases h
      | node => rfl
    have ih := path_height c k t i h0
    have he := T.height_eq _ h0
    simp only [pathT]
    split <;> omega
theorem find_path (c : V → V → Int) (k : V) (t : T) (N : Nat) (hk : ∀ i, i < N → (pathT c k t i).isNil = false ∧ c k (pathT c k t i).key ≠ 0) : ∀ i, i ≤ N → T.find c k t = T.find c k (pathT c k t i)
  | 0, _ => rfl
  | i + 1, h => by
    rw [find_path c k t N hk i (by omega)]
    obtain ⟨h1, h2⟩ := hk i (by omega)
    cases hp : pathT c k t i with
    | nil => rw [hp] at h1; cases h1
    | node b l r xk xv =>
      rw [hp] at h2
      simp only [T.key_mk] at h2
      by_cases h3 : c k xk < 0
      · rw [pathT_lt (by rw [hp]; exact h3), hp]
        simp only [T.find, T.left_mk]
        rw [if_pos h3]
      · rw [pathT_gt (by rw [hp]; exact h3), hp]
        simp only [T.find, T.right_mk]
        rw [if_neg h3, if_pos (by omega)]
theorem find_ok (c : V → V → Int) (o n : Int) (t : T) (k : V) (hc : ∀ y, y ∈ t.toList.map (·.1) → CallsF P G 79 [encM o n t, encV k, encV y] (int (c k y))) : CallsF P G 75 [encM o n t, encV k] (encT (T.find c k t)) := by
  obtain ⟨N, h1, h2⟩ := exists_least (fun i => (pathT c k t i).isNil = true ∨ c k (pathT c k t i).key = 0) ⟨t.height + 1, .inl (by
    cases h : (pathT c k t (t.height + 1)).isNil with
    | true => rfl
    | false => have := path_height c k t _ h; omega)⟩
  have hk : ∀ i, i < N → (pathT c k t i).isNil = false ∧ c k (pathT c k t i).key ≠ 0 := fun i hi => by
    constructor
    · cases h : (pathT c k t i).isNil with
      | false => rfl
      | true => have := h2 i (.inl h); omega
    · intro h
      have := h2 i (.inr h); omega
  have := find_run c o n t k N hk h1 (fun i hi hn => hc _ (path_keys c k t i _ (keys_key hi)))
  have e : T.find c k t = pathT c k t N := by
    rw [find_path c k t N hk N (Nat.le_refl _)]
    cases hp : pathT c k t N with
    | nil => rfl
    | node b l r xk xv =>
      rw [hp] at h1
      have h3 : c k xk = 0 := h1.resolve_left (by simp)
      simp only [T.find]
      rw [if_neg (by omega), if_neg (by omega)]
  rw [e]; exact this
/-- Pairs, in cells. -/
def cellsPs : List (V × V) → List (List FV)
  | [] => []
  | p :: l => (cellsP p.1 ++ cellsP p.2) :: cellsPs l
def encPs (l : List (V × V)) : FV := .sl 8 (cellsPs l)
/-- The first wrong pair. -/
noncomputable def pairsE (l : List (V × V)) : Int := if 65536 < l.length then 2 else if l.all (fun p => rightB p.1 && rightB p.2) then 0 else 3
def Schk (l : List (V × V)) (i : Nat) : St := { sl := slots 24 [(0, .f (encPs l)), (9, .f (encPs l)), (10, .f (int (cellsPs l).length)), (11, .f (int (i : Int)))], ob := [], nx := 0 }
noncomputable def getR (c : V → V → Int) (t : T) (k : V) : FV := if rightB k then (if (T.find c k t).isNil then .tup [.agg [int 0, int 0, str [], .nils], bool false, int 0] else .tup [encV (T.find c k t).val, bool true, int 0]) else .tup [.agg [int 0, int 0, str [], .nils], bool false, int 3]
theorem cellsPs_length : ∀ l, (cellsPs l).length = l.length
  | [] => rfl
  | x :: l => by simp [cellsPs, cellsPs_length l]
theorem cellsPs_get : ∀ (l : List (V × V)) (i : Nat), i < l.length → (cellsPs l)[i]? = some (cellsP (l.getD i default).1 ++ cellsP (l.getD i default).2)
  | [], i, h => by simp at h
  | x :: l, 0, h => by simp [cellsPs]
  | x :: l, i + 1, h => by simpa [cellsPs] using cellsPs_get l i (by simpa using h)
theorem get29 : P.funcs[29]? = some Tryz.f29 := by kernel_rfl
theorem ent29 : entersP P 29 = true := by kernel_rfl
theorem get_bad (o n : Int) (t : T) (k : V) (hk : Fine k) (h : rightB k = false) : CallsF P G 29 [encM o n t, encV k] (.tup [.agg [int 0, int 0, str [], .nils], bool false, int 3]) := by
  refine sx_fn (hs := [.call (int (chkI (rightB k))), .dec true]) ((CallsF P G 73 [encV k] (int (chkI (rightB k)))) ∧ ((chkI (rightB k) != 0) = (true)) ∧ (FV.tup [FV.agg [int 0, int 0, str [], FV.nils], bool false, int (chkI (rightB k))]) = (FV.tup [FV.agg [int 0, int 0, str [], FV.nils], bool false, int 3])) get29 ent29 (by kernel_rfl) ?_
  refine ⟨?_, ⟨?_, ?_⟩⟩
  all_goals first | (rw [h]; rfl) | exact check_ok _ (by assumption)
theorem get_none (c : V → V → Int) (o n : Int) (t : T) (k : V) (hk : Fine k) (h : rightB k = true) (hc : ∀ y, y ∈ t.toList.map (·.1) → CallsF P G 79 [encM o n t, encV k, encV y] (int (c k y))) (hf : (T.find c k t).isNil = true) : CallsF P G 29 [encM o n t, encV k] (.tup [.agg [int 0, int 0, str [], .nils], bool false, int 0]) := by
  refine sx_fn (hs := [.call (int (chkI (rightB k))), .br [] [.call (encT (T.find c k t)), .isn (T.isNil (T.find c k t)), .br [] [.cast (opn (T.find c k t)), .call (encV (T.val (T.find c k t)))]]]) ((CallsF P G 73 [encV k] (int (chkI (rightB k)))) ∧ (((chkI (rightB k) != 0) = (true)) → ((FV.tup [FV.agg [int 0, int 0, str [], FV.nils], bool false, int (chkI (rightB k))]) = (FV.tup [FV.agg [int 0, int 0, str [], FV.nils], bool false, int 0]))) ∧ (((chkI (rightB k) != 0) = (false)) → ((CallsF P G 75 [encM o n t, encV k] (encT (T.find c k t))) ∧ (IsNil (encT (T.find c k t)) (T.isNil (T.find c k t))) ∧ (((T.isNil (T.find c k t)) = (true)) → (E (FV.tup [FV.agg [int 0, int 0, str [], FV.nils], bool false, int 0]))) ∧ (((T.isNil (T.find c k t)) = (false)) → (((encT (T.find c k t)) = (FV.ptr (opn (T.find c k t)) 0)) ∧ (CallsF P G 53 [encV (T.val (T.find c k t))] (encV (T.val (T.find c k t)))) ∧ (FV.tup [encV (T.val (T.find c k t)), bool true, int 0]) = (FV.tup [FV.agg [int 0, int 0, str [], FV.nils], bool false, int 0])))))) get29 ent29 (by kernel_rfl) ?_
  refine ⟨?_, ⟨fun hi => ?_, fun hi => ⟨?_, ⟨?_, ⟨fun hi => rfl, fun hi => ⟨?_, ⟨?_, ?_⟩⟩⟩⟩⟩⟩⟩
  all_goals first | (exfalso; rw [h] at *; simp_all [chkI]; done) | exact encT_isn _ | exact check_ok _ (by assumption) | exact find_ok _ _ _ _ _ (by assumption)
theorem get_some (c : V → V → Int) (o n : Int) (t : T) (k : V) (hk : Fine k) (h : rightB k = true) (hc : ∀ y, y ∈ t.toList.map (·.1) → CallsF P G 79 [encM o n t, encV k, encV y] (int (c k y))) (hf : (T.find c k t).isNil = false) (hv : Fine (T.find c k t).val) : CallsF P G 29 [encM o n t, encV k] (.tup [encV (T.find c k t).val, bool true, int 0]) := by
  refine sx_fn (hs := [.call (int (chkI (rightB k))), .br [] [.call (encT (T.find c k t)), .isn (T.isNil (T.find c k t)), .br [] [.cast (opn (T.find c k t)), .call (encV (T.val (T.find c k t)))]]]) ((CallsF P G 73 [encV k] (int (chkI (rightB k)))) ∧ (((chkI (rightB k) != 0) = (true)) → ((FV.tup [FV.agg [int 0, int 0, str [], FV.nils], bool false, int (chkI (rightB k))]) = (FV.tup [encV (T.val (T.find c k t)), bool true, int 0]))) ∧ (((chkI (rightB k) != 0) = (false)) → ((CallsF P G 75 [encM o n t, encV k] (encT (T.find c k t))) ∧ (IsNil (encT (T.find c k t)) (T.isNil (T.find c k t))) ∧ (((T.isNil (T.find c k t)) = (true)) → ((FV.tup [FV.agg [int 0, int 0, str [], FV.nils], bool false, int 0]) = (FV.tup [encV (T.val (T.find c k t)), bool true, int 0]))) ∧ (((T.isNil (T.find c k t)) = (false)) → (((encT (T.find c k t)) = (FV.ptr (opn (T.find c k t)) 0)) ∧ (CallsF P G 53 [encV (T.val (T.find c k t))] (encV (T.val (T.find c k t)))) ∧ E (FV.tup [encV (T.val (T.find c k t)), bool true, int 0])))))) get29 ent29 (by kernel_rfl) ?_
  refine ⟨?_, ⟨fun hi => ?_, fun hi => ⟨?_, ⟨?_, ⟨fun hi => ?_, fun hi => ⟨?_, ⟨?_, rfl⟩⟩⟩⟩⟩⟩⟩
  all_goals first | (exfalso; rw [h] at *; simp_all [chkI]; done) | exact encT_isn _ | exact own2_ok _ (by assumption) | exact check_ok _ (by assumption) | (exact encT_open _ (by assumption)) | exact find_ok _ _ _ _ _ (by assumption)
theorem get52 : P.funcs[52]? = some Tryz.f52 := by kernel_rfl
theorem ent52 : entersP P 52 = true := by kernel_rfl
theorem with_ok (c : V → V → Int) (o n : Int) (t : T) (k v : V) (hn : 0 ≤ n ∧ n ≤ 1152921504606846976) (hc : ∀ y, y ∈ t.toList.map (·.1) → CallsF P G 79 [encM o n t, encV k, encV y] (int (c k y))) (hi : CallsF P G 90 [encT t, encV k, encV v, .fn 79 [encM o n t] []] (encT (T.insert c k v t))) : CallsF P G 52 [encM o n t, encV k, encV v] (withM c o n t k v) := by
  refine sx_fn (hs := [.call (int n), .call (encT (T.find c k t)), .isn (T.isNil (T.find c k t)), .br [.nat 14, .call (int o), .call (encT t), .call (encT (T.insert c k v t)), .call (encT (T.blackened (T.insert c k v t))), .ones] [.nat 14, .call (int o), .call (encT t), .call (encT (T.insert c k v t)), .call (encT (T.blackened (T.insert c k v t))), .ones]]) ((CallsF P G 39 [encM o n t] (int n)) ∧ (CallsF P G 75 [encM o n t, encV k] (encT (T.find c k t))) ∧ (IsNil (encT (T.find c k t)) (T.isNil (T.find c k t))) ∧ (((T.isNil (T.find c k t)) = (true)) → ((E (true)) ∧ (CallsF P G 45 [encM o n t] (int o)) ∧ (CallsF P G 60 [encM o n t] (encT t)) ∧ (CallsF P G 90 [encT t, encV k, encV v, FV.fn 79 [encM o n t] []] (encT (T.insert c k v t))) ∧ (CallsF P G 77 [encT (T.insert c k v t)] (encT (T.blackened (T.insert c k v t)))) ∧ ((E (true)) ∧ (E (true)) ∧ ((AV.one (AV.f (encT (T.blackened (T.insert c k v t))))) = (true)) ∧ True) ∧ (FV.ptr [int o, int (IntKind.wrap IntKind.i64 (n + 1)), encT (T.blackened (T.insert c k v t))] 0) = (FV.ptr [int o, int (withN c n t k), encT (T.blackened (T.insert c k v t))] 0))) ∧ (((T.isNil (T.find c k t)) = (false)) → ((E (true)) ∧ (CallsF P G 45 [encM o n t] (int o)) ∧ (CallsF P G 60 [encM o n t] (encT t)) ∧ (CallsF P G 90 [encT t, encV k, encV v, FV.fn 79 [encM o n t] []] (encT (T.insert c k v t))) ∧ (CallsF P G 77 [encT (T.insert c k v t)] (encT (T.blackened (T.insert c k v t)))) ∧ ((E (true)) ∧ (E (true)) ∧ ((AV.one (AV.f (encT (T.blackened (T.insert c k v t))))) = (true)) ∧ True) ∧ (FV.ptr [int o, int n, encT (T.blackened (T.insert c k v t))] 0) = (FV.ptr [int o, int (withN c n t k), encT (T.blackened (T.insert c k v t))] 0)))) get52 ent52 (by kernel_rfl) ?_
  refine ⟨?_, ⟨?_, ⟨?_, ⟨fun hi => ⟨rfl, ⟨?_, ⟨?_, ⟨?_, ⟨?_, ⟨⟨rfl, ⟨rfl, ⟨?_, trivial⟩⟩⟩, ?_⟩⟩⟩⟩⟩⟩, fun hi => ⟨rfl, ⟨?_, ⟨?_, ⟨?_, ⟨?_, ⟨⟨rfl, ⟨rfl, ⟨?_, trivial⟩⟩⟩, ?_⟩⟩⟩⟩⟩⟩⟩⟩⟩⟩
  all_goals first | (exact encT_one _) | trivial | (simp only [withM, withN, encM]; rw [if_pos (by assumption), wrapS _ (by omega) (by omega)]) | (simp only [withM, withN, encM]; rw [if_neg (by simp_all; done)]) | exact encT_isn _ | exact order_ok _ _ _ | exact len_ok _ _ _ | exact tree_ok _ _ _ | exact blackened_ok _ | exact find_ok _ _ _ _ _ (by assumption)
theorem get37 : P.funcs[37]? = some Tryz.f37 := by kernel_rfl
theorem ent37 : entersP P 37 = true := by kernel_rfl
theorem assoc_bad (o n : Int) (t : T) (k v : V) (hk : Fine k) (hv : Fine v) (h : pairE k v = 3) : CallsF P G 37 [encM o n t, encV k, encV v] (.tup [.sc (.pointer none), int 3]) := by
  refine sx_fn (hs := [.call (int (pairE k v)), .dec true]) ((CallsF P G 81 [encV k, encV v] (int (pairE k v))) ∧ ((pairE k v != 0) = (true)) ∧ (FV.tup [FV.sc (Value.pointer none), int (pairE k v)]) = (FV.tup [FV.sc (Value.pointer none), int 3])) get37 ent37 (by kernel_rfl) ?_
  refine ⟨?_, ⟨?_, ?_⟩⟩
  all_goals first | exact pair_ok _ _ hk hv | (rw [h]; done) | (rw [h]; rfl)
theorem assoc_ok (c : V → V → Int) (o n : Int) (t : T) (k v : V) (hk : Fine k) (hv : Fine v) (h : pairE k v = 0) (hn : n = 65536 → (T.find c k t).isNil = false) (hc : ∀ y, y ∈ t.toList.map (·.1) → CallsF P G 79 [encM o n t, encV k, encV y] (int (c k y))) (hw : CallsF P G 52 [encM o n t, encV k, encV v] (withM c o n t k v)) : CallsF P G 37 [encM o n t, encV k, encV v] (.tup [withM c o n t k v, int 0]) := by
  refine sx_fn (hs := [.call (int (pairE k v)), .br [] [.call (int n), .br [.call (encT (T.find c k t)), .isn (T.isNil (T.find c k t)), .br [] [.nat 8, .call (encV k), .call (encV v), .call (withM c o n t k v)]] [.dec false, .nat 8, .call (encV k), .call (encV v), .call (withM c o n t k v)]]]) ((CallsF P G 81 [encV k, encV v] (int (pairE k v))) ∧ (((pairE k v != 0) = (true)) → ((FV.tup [FV.sc (Value.pointer none), int (pairE k v)]) = (FV.tup [FV.ptr [int o, int (withN c n t k), encT (T.blackened (T.insert c k v t))] 0, int 0]))) ∧ (((pairE k v != 0) = (false)) → ((CallsF P G 39 [encM o n t] (int n)) ∧ (((n == 65536) = (true)) → ((CallsF P G 75 [encM o n t, encV k] (encT (T.find c k t))) ∧ (IsNil (encT (T.find c k t)) (T.isNil (T.find c k t))) ∧ (((T.isNil (T.find c k t)) = (true)) → ((FV.tup [FV.sc (Value.pointer none), int 2]) = (FV.tup [FV.ptr [int o, int (withN c n t k), encT (T.blackened (T.insert c k v t))] 0, int 0]))) ∧ (((T.isNil (T.find c k t)) = (false)) → ((E (true)) ∧ (CallsF P G 53 [encV k] (encV k)) ∧ (CallsF P G 53 [encV v] (encV v)) ∧ (CallsF P G 52 [encM o n t, encV k, encV v] (FV.ptr [int o, int (withN c n t k), encT (T.blackened (T.insert c k v t))] 0)) ∧ E (FV.tup [FV.ptr [int o, int (withN c n t k), encT (T.blackened (T.insert c k v t))] 0, int 0]))))) ∧ (((n == 65536) = (false)) → ((E (false)) ∧ (E (true)) ∧ (CallsF P G 53 [encV k] (encV k)) ∧ (CallsF P G 53 [encV v] (encV v)) ∧ (CallsF P G 52 [encM o n t, encV k, encV v] (FV.ptr [int o, int (withN c n t k), encT (T.blackened (T.insert c k v t))] 0)) ∧ E (FV.tup [FV.ptr [int o, int (withN c n t k), encT (T.blackened (T.insert c k v t))] 0, int 0])))))) get37 ent37 (by kernel_rfl) ?_
  refine ⟨?_, ⟨fun hi => ?_, fun hi => ⟨?_, ⟨fun hi => ⟨?_, ⟨?_, ⟨fun hi => ?_, fun hi => ⟨rfl, ⟨?_, ⟨?_, ⟨?_, rfl⟩⟩⟩⟩⟩⟩⟩, fun hi => ⟨rfl, ⟨rfl, ⟨?_, ⟨?_, ⟨?_, rfl⟩⟩⟩⟩⟩⟩⟩⟩⟩
  all_goals first | (exfalso; rw [h] at *; simp_all; done) | assumption | exact encT_isn _ | exact own2_ok _ (by assumption) | exact len_ok _ _ _ | exact find_ok _ _ _ _ _ (by assumption) | exact pair_ok _ _ (by assumption) (by assumption)
theorem get35 : P.funcs[35]? = some Tryz.f35 := by kernel_rfl
theorem ent35 : entersP P 35 = true := by kernel_rfl
theorem dissoc_bad (o n : Int) (t : T) (k : V) (hk : Fine k) (h : rightB k = false) : CallsF P G 35 [encM o n t, encV k] (.tup [.sc (.pointer none), int 3]) := by
  refine sx_fn (hs := [.call (int (chkI (rightB k))), .dec true]) ((CallsF P G 73 [encV k] (int (chkI (rightB k)))) ∧ ((chkI (rightB k) != 0) = (true)) ∧ (FV.tup [FV.sc (Value.pointer none), int (chkI (rightB k))]) = (FV.tup [FV.sc (Value.pointer none), int 3])) get35 ent35 (by kernel_rfl) ?_
  refine ⟨?_, ⟨?_, ?_⟩⟩
  all_goals first | (rw [h]; rfl) | exact check_ok _ (by assumption)
theorem dissoc_none (c : V → V → Int) (o n : Int) (t : T) (k : V) (hk : Fine k) (h : rightB k = true) (hc : ∀ y, y ∈ t.toList.map (·.1) → CallsF P G 79 [encM o n t, encV k, encV y] (int (c k y))) (hf : (T.find c k t).isNil = true) : CallsF P G 35 [encM o n t, encV k] (.tup [encM o n t, int 0]) := by
  refine sx_fn (hs := [.call (int (chkI (rightB k))), .br [] [.call (encT (T.find c k t)), .isn (T.isNil (T.find c k t)), .br [.call (int o), .call (int n), .call (encT t), .ones, .lfz [1]] [.nat 22, .call (encT (T.remove c k t)), .call (encT (T.blackened (T.remove c k t))), .ones]]]) ((CallsF P G 73 [encV k] (int (chkI (rightB k)))) ∧ (((chkI (rightB k) != 0) = (true)) → ((FV.tup [FV.sc (Value.pointer none), int (chkI (rightB k))]) = (FV.tup [encM o n t, int 0]))) ∧ (((chkI (rightB k) != 0) = (false)) → ((CallsF P G 75 [encM o n t, encV k] (encT (T.find c k t))) ∧ (IsNil (encT (T.find c k t)) (T.isNil (T.find c k t))) ∧ (((T.isNil (T.find c k t)) = (true)) → ((CallsF P G 45 [encM o n t] (int o)) ∧ (CallsF P G 39 [encM o n t] (int n)) ∧ (CallsF P G 60 [encM o n t] (encT t)) ∧ ((E (true)) ∧ (E (true)) ∧ ((AV.one (AV.f (encT t))) = (true)) ∧ True) ∧ (FV.tup [FV.ptr [int o, int n, encT t] 0, int 0]) = (FV.tup [encM o n t, int 0]))) ∧ (((T.isNil (T.find c k t)) = (false)) → ((E (true)) ∧ (CallsF P G 78 [encT t, encV k, FV.fn 79 [encM o n t] []] (encT (T.remove c k t))) ∧ (CallsF P G 77 [encT (T.remove c k t)] (encT (T.blackened (T.remove c k t)))) ∧ ((E (true)) ∧ (E (true)) ∧ ((AV.one (AV.f (encT (T.blackened (T.remove c k t))))) = (true)) ∧ True) ∧ (FV.tup [FV.ptr [int o, int (IntKind.wrap IntKind.i64 (n - 1)), encT (T.blackened (T.remove c k t))] 0, int 0]) = (FV.tup [encM o n t, int 0])))))) get35 ent35 (by kernel_rfl) ?_
  refine ⟨?_, ⟨fun hi => ?_, fun hi => ⟨?_, ⟨?_, ⟨fun hi => ⟨?_, ⟨?_, ⟨?_, ⟨⟨rfl, ⟨rfl, ⟨?_, trivial⟩⟩⟩, ?_⟩⟩⟩⟩, fun hi => ⟨rfl, ⟨?_, ⟨?_, ⟨⟨rfl, ⟨rfl, ⟨?_, trivial⟩⟩⟩, ?_⟩⟩⟩⟩⟩⟩⟩⟩⟩
  all_goals first | (exfalso; rw [h] at *; simp_all [chkI]; done) | (exact encT_one _) | trivial | exact encT_isn _ | exact order_ok _ _ _ | exact len_ok _ _ _ | exact tree_ok _ _ _ | exact check_ok _ (by assumption) | exact find_ok _ _ _ _ _ (by assumption)
theorem dissoc_some (c : V → V → Int) (o n : Int) (t : T) (k : V) (hk : Fine k) (h : rightB k = true) (hn : 0 < n ∧ n ≤ 1152921504606846976) (hc : ∀ y, y ∈ t.toList.map (·.1) → CallsF P G 79 [encM o n t, encV k, encV y] (int (c k y))) (hf : (T.find c k t).isNil = false) (hr : CallsF P G 78 [encT t, encV k, .fn 79 [encM o n t] []] (encT (T.remove c k t))) : CallsF P G 35 [encM o n t, encV k] (.tup [encM o (n - 1) (T.remove c k t).blackened, int 0]) := by
  refine sx_fn (hs := [.call (int (chkI (rightB k))), .br [] [.call (encT (T.find c k t)), .isn (T.isNil (T.find c k t)), .br [.call (int o), .call (int n), .call (encT t), .ones, .lfz [1]] [.nat 22, .call (encT (T.remove c k t)), .call (encT (T.blackened (T.remove c k t))), .ones]]]) ((CallsF P G 73 [encV k] (int (chkI (rightB k)))) ∧ (((chkI (rightB k) != 0) = (true)) → ((FV.tup [FV.sc (Value.pointer none), int (chkI (rightB k))]) = (FV.tup [encM o (n - 1) (T.blackened (T.remove c k t)), int 0]))) ∧ (((chkI (rightB k) != 0) = (false)) → ((CallsF P G 75 [encM o n t, encV k] (encT (T.find c k t))) ∧ (IsNil (encT (T.find c k t)) (T.isNil (T.find c k t))) ∧ (((T.isNil (T.find c k t)) = (true)) → ((CallsF P G 45 [encM o n t] (int o)) ∧ (CallsF P G 39 [encM o n t] (int n)) ∧ (CallsF P G 60 [encM o n t] (encT t)) ∧ ((E (true)) ∧ (E (true)) ∧ ((AV.one (AV.f (encT t))) = (true)) ∧ True) ∧ (FV.tup [FV.ptr [int o, int n, encT t] 0, int 0]) = (FV.tup [encM o (n - 1) (T.blackened (T.remove c k t)), int 0]))) ∧ (((T.isNil (T.find c k t)) = (false)) → ((E (true)) ∧ (CallsF P G 78 [encT t, encV k, FV.fn 79 [encM o n t] []] (encT (T.remove c k t))) ∧ (CallsF P G 77 [encT (T.remove c k t)] (encT (T.blackened (T.remove c k t)))) ∧ ((E (true)) ∧ (E (true)) ∧ ((AV.one (AV.f (encT (T.blackened (T.remove c k t))))) = (true)) ∧ True) ∧ (FV.tup [FV.ptr [int o, int (IntKind.wrap IntKind.i64 (n - 1)), encT (T.blackened (T.remove c k t))] 0, int 0]) = (FV.tup [encM o (n - 1) (T.blackened (T.remove c k t)), int 0])))))) get35 ent35 (by kernel_rfl) ?_
  refine ⟨?_, ⟨fun hi => ?_, fun hi => ⟨?_, ⟨?_, ⟨fun hi => ⟨?_, ⟨?_, ⟨?_, ⟨⟨rfl, ⟨rfl, ⟨?_, trivial⟩⟩⟩, ?_⟩⟩⟩⟩, fun hi => ⟨rfl, ⟨?_, ⟨?_, ⟨⟨rfl, ⟨rfl, ⟨?_, trivial⟩⟩⟩, ?_⟩⟩⟩⟩⟩⟩⟩⟩⟩
  all_goals first | (exfalso; rw [h] at *; simp_all [chkI]; done) | (exact encT_one _) | trivial | (rw [wrapS _ (by omega) (by omega)]; rfl) | exact encT_isn _ | exact check_ok _ (by assumption) | exact blackened_ok _ | exact find_ok _ _ _ _ _ (by assumption)
theorem get51 : P.funcs[51]? = some Tryz.f51 := by kernel_rfl
theorem ent51 : entersP P 51 = true := by kernel_rfl
theorem checked_long (l : List (V × V)) (h : 65536 < l.length) : CallsF P G 51 [encPs l] (int 2) := by
  refine sx_fn (hs := [.br [] []]) ((((decide ((↑(List.length (cellsPs l)) : Int) > 65536)) = (true)) → (E (int 2))) ∧ (((decide ((↑(List.length (cellsPs l)) : Int) > 65536)) = (false)) → (False))) get51 ent51 (by kernel_rfl) ?_
  refine ⟨fun hi => rfl, fun hi => ?_⟩
  all_goals (exfalso; simp only [cellsPs_length, decide_eq_true_eq, decide_eq_false_iff_not] at *; omega)
theorem fineP {l : List (V × V)} (h : ∀ p, p ∈ l → Fine p.1 ∧ Fine p.2) {i : Nat} (hi : i < l.length) : Fine (l.getD i default).1 ∧ Fine (l.getD i default).2 := by
  rw [List.getD_eq_getElem?_getD, List.getElem?_eq_getElem hi]; exact h _ (List.getElem_mem hi)
theorem checked_all (l : List (V × V)) (N : Nat) (hl : l.length ≤ 65536) (hN : N ≤ l.length) (hf : ∀ p, p ∈ l → Fine p.1 ∧ Fine p.2) (hk : ∀ i, i < N → pairE (l.getD i default).1 (l.getD i default).2 = 0) (h3 : N = l.length) : CallsF P G 51 [encPs l] (int 0) := by
  refine sx_fn (hs := [.br [] [.loop [] [] (Schk l) (N) (fun i => [.br [.el (cellsP (Prod.fst (List.getD l i default)) ++ cellsP (Prod.snd (List.getD l i default))), .call (int (pairE (Prod.fst (List.getD l i default)) (Prod.snd (List.getD l i default)))), .br [] []] []]), .br [.el (cellsP (Prod.fst (List.getD l N default)) ++ cellsP (Prod.snd (List.getD l N default))), .call (int (pairE (Prod.fst (List.getD l N default)) (Prod.snd (List.getD l N default)))), .br [] []] []]]) ((((decide ((↑(List.length (cellsPs l)) : Int) > 65536)) = (true)) → ((int 2) = (int 0))) ∧ (((decide ((↑(List.length (cellsPs l)) : Int) > 65536)) = (false)) → (((E (true)) ∧ ((E (AV.f (FV.sl 8 (cellsPs l)))) ∧ (E (AV.f (FV.sl 8 (cellsPs l)))) ∧ (E (AV.f (int (↑(List.length (cellsPs l)) : Int)))) ∧ ((AV.f (int 0)) = (AV.f (int (Int.ofNat 0)))) ∧ True) ∧ (True) ∧ (E (true)) ∧ (((false) = (true)) → ((false) = (true)))) ∧ (∀ (i : Nat), (i < N) → ((((decide ((i : Int) < (↑(List.length (cellsPs l)) : Int))) = (true)) → (((E (8)) ∧ ((0 : Int) ≤ (i : Int)) ∧ ((cellsPs l)[i]?) = (some (int (V.kind (Prod.fst (List.getD l i default))) :: int (V.num (Prod.fst (List.getD l i default))) :: str (V.text (Prod.fst (List.getD l i default))) :: encI (V.items (Prod.fst (List.getD l i default))) :: cellsP (Prod.snd (List.getD l i default))))) ∧ (CallsF P G 81 [encV (Prod.fst (List.getD l i default)), encV (Prod.snd (List.getD l i default))] (int (pairE (Prod.fst (List.getD l i default)) (Prod.snd (List.getD l i default))))) ∧ (((pairE (Prod.fst (List.getD l i default)) (Prod.snd (List.getD l i default)) != 0) = (true)) → (False)) ∧ (((pairE (Prod.fst (List.getD l i default)) (Prod.snd (List.getD l i default)) != 0) = (false)) → ((E (true)) ∧ ((E (AV.f (FV.sl 8 (cellsPs l)))) ∧ (E (AV.f (FV.sl 8 (cellsPs l)))) ∧ (E (AV.f (int (↑(List.length (cellsPs l)) : Int)))) ∧ ((AV.f (int (IntKind.wrap IntKind.i64 ((i : Int) + 1)))) = (AV.f (int (↑(i + 1) : Int)))) ∧ True) ∧ (True) ∧ (E (true)) ∧ ((St.nd (Schk l (i + 1)) = true) → ((false) = (true))))))) ∧ (((decide ((i : Int) < (↑(List.length (cellsPs l)) : Int))) = (false)) → (False)))) ∧ (((decide ((N : Int) < (↑(List.length (cellsPs l)) : Int))) = (true)) → (((E (8)) ∧ ((0 : Int) ≤ (N : Int)) ∧ ((cellsPs l)[N]?) = (some (int (V.kind (Prod.fst (List.getD l N default))) :: int (V.num (Prod.fst (List.getD l N default))) :: str (V.text (Prod.fst (List.getD l N default))) :: encI (V.items (Prod.fst (List.getD l N default))) :: cellsP (Prod.snd (List.getD l N default))))) ∧ (CallsF P G 81 [encV (Prod.fst (List.getD l N default)), encV (Prod.snd (List.getD l N default))] (int (pairE (Prod.fst (List.getD l N default)) (Prod.snd (List.getD l N default))))) ∧ (((pairE (Prod.fst (List.getD l N default)) (Prod.snd (List.getD l N default)) != 0) = (true)) → ((int (pairE (Prod.fst (List.getD l N default)) (Prod.snd (List.getD l N default)))) = (int 0))) ∧ (((pairE (Prod.fst (List.getD l N default)) (Prod.snd (List.getD l N default)) != 0) = (false)) → (False)))) ∧ (((decide ((N : Int) < (↑(List.length (cellsPs l)) : Int))) = (false)) → (E (int 0)))))) get51 ent51 (by kernel_rfl) ?_
  refine ⟨fun hi => ?_, fun hi => ⟨⟨rfl, ⟨⟨rfl, ⟨rfl, ⟨rfl, ⟨?_, trivial⟩⟩⟩⟩, ⟨trivial, ⟨rfl, fun hi => ?_⟩⟩⟩⟩, fun i => fun hlt => ⟨fun hi => ⟨⟨rfl, ⟨?_, ?_⟩⟩, ⟨?_, ⟨fun hi => ?_, fun hi => ⟨rfl, ⟨⟨rfl, ⟨rfl, ⟨rfl, ⟨?_, trivial⟩⟩⟩⟩, ⟨trivial, ⟨rfl, fun hi => ?_⟩⟩⟩⟩⟩⟩⟩, fun hi => ?_⟩, ⟨fun hi => ⟨⟨rfl, ⟨?_, ?_⟩⟩, ⟨?_, ⟨fun hi => ?_, fun hi => ?_⟩⟩⟩, fun hi => rfl⟩⟩⟩
  all_goals first | (simp only [cellsPs_length, decide_eq_true_eq, decide_eq_false_iff_not] at *; omega) | exact cellsPs_get l _ (by omega) | (exact pair_ok _ _ (fineP hf (by omega)).1 (fineP hf (by omega)).2) | (exact congrArg (fun x => AV.f (int x)) (wrapS ((i : Int) + 1) (by omega) (by omega))) | (exfalso; simp_all; done) | assumption | (simp [V.kind, V.num, V.text, V.items, *]; done)
theorem checked_not (l : List (V × V)) (N : Nat) (hl : l.length ≤ 65536) (hN : N ≤ l.length) (hf : ∀ p, p ∈ l → Fine p.1 ∧ Fine p.2) (hk : ∀ i, i < N → pairE (l.getD i default).1 (l.getD i default).2 = 0) (h3 : N < l.length) (h4 : pairE (l.getD N default).1 (l.getD N default).2 = 3) : CallsF P G 51 [encPs l] (int 3) := by
  refine sx_fn (hs := [.br [] [.loop [] [] (Schk l) (N) (fun i => [.br [.el (cellsP (Prod.fst (List.getD l i default)) ++ cellsP (Prod.snd (List.getD l i default))), .call (int (pairE (Prod.fst (List.getD l i default)) (Prod.snd (List.getD l i default)))), .br [] []] []]), .br [.el (cellsP (Prod.fst (List.getD l N default)) ++ cellsP (Prod.snd (List.getD l N default))), .call (int (pairE (Prod.fst (List.getD l N default)) (Prod.snd (List.getD l N default)))), .br [] []] []]]) ((((decide ((↑(List.length (cellsPs l)) : Int) > 65536)) = (true)) → ((int 2) = (int 3))) ∧ (((decide ((↑(List.length (cellsPs l)) : Int) > 65536)) = (false)) → (((E (true)) ∧ ((E (AV.f (FV.sl 8 (cellsPs l)))) ∧ (E (AV.f (FV.sl 8 (cellsPs l)))) ∧ (E (AV.f (int (↑(List.length (cellsPs l)) : Int)))) ∧ ((AV.f (int 0)) = (AV.f (int (Int.ofNat 0)))) ∧ True) ∧ (True) ∧ (E (true)) ∧ (((false) = (true)) → ((false) = (true)))) ∧ (∀ (i : Nat), (i < N) → ((((decide ((i : Int) < (↑(List.length (cellsPs l)) : Int))) = (true)) → (((E (8)) ∧ ((0 : Int) ≤ (i : Int)) ∧ ((cellsPs l)[i]?) = (some (int (V.kind (Prod.fst (List.getD l i default))) :: int (V.num (Prod.fst (List.getD l i default))) :: str (V.text (Prod.fst (List.getD l i default))) :: encI (V.items (Prod.fst (List.getD l i default))) :: cellsP (Prod.snd (List.getD l i default))))) ∧ (CallsF P G 81 [encV (Prod.fst (List.getD l i default)), encV (Prod.snd (List.getD l i default))] (int (pairE (Prod.fst (List.getD l i default)) (Prod.snd (List.getD l i default))))) ∧ (((pairE (Prod.fst (List.getD l i default)) (Prod.snd (List.getD l i default)) != 0) = (true)) → (False)) ∧ (((pairE (Prod.fst (List.getD l i default)) (Prod.snd (List.getD l i default)) != 0) = (false)) → ((E (true)) ∧ ((E (AV.f (FV.sl 8 (cellsPs l)))) ∧ (E (AV.f (FV.sl 8 (cellsPs l)))) ∧ (E (AV.f (int (↑(List.length (cellsPs l)) : Int)))) ∧ ((AV.f (int (IntKind.wrap IntKind.i64 ((i : Int) + 1)))) = (AV.f (int (↑(i + 1) : Int)))) ∧ True) ∧ (True) ∧ (E (true)) ∧ ((St.nd (Schk l (i + 1)) = true) → ((false) = (true))))))) ∧ (((decide ((i : Int) < (↑(List.length (cellsPs l)) : Int))) = (false)) → (False)))) ∧ (((decide ((N : Int) < (↑(List.length (cellsPs l)) : Int))) = (true)) → (((E (8)) ∧ ((0 : Int) ≤ (N : Int)) ∧ ((cellsPs l)[N]?) = (some (int (V.kind (Prod.fst (List.getD l N default))) :: int (V.num (Prod.fst (List.getD l N default))) :: str (V.text (Prod.fst (List.getD l N default))) :: encI (V.items (Prod.fst (List.getD l N default))) :: cellsP (Prod.snd (List.getD l N default))))) ∧ (CallsF P G 81 [encV (Prod.fst (List.getD l N default)), encV (Prod.snd (List.getD l N default))] (int (pairE (Prod.fst (List.getD l N default)) (Prod.snd (List.getD l N default))))) ∧ (((pairE (Prod.fst (List.getD l N default)) (Prod.snd (List.getD l N default)) != 0) = (true)) → ((int (pairE (Prod.fst (List.getD l N default)) (Prod.snd (List.getD l N default)))) = (int 3))) ∧ (((pairE (Prod.fst (List.getD l N default)) (Prod.snd (List.getD l N default)) != 0) = (false)) → (False)))) ∧ (((decide ((N : Int) < (↑(List.length (cellsPs l)) : Int))) = (false)) → ((int 0) = (int 3)))))) get51 ent51 (by kernel_rfl) ?_
  refine ⟨fun hi => ?_, fun hi => ⟨⟨rfl, ⟨⟨rfl, ⟨rfl, ⟨rfl, ⟨?_, trivial⟩⟩⟩⟩, ⟨trivial, ⟨rfl, fun hi => ?_⟩⟩⟩⟩, fun i => fun hlt => ⟨fun hi => ⟨⟨rfl, ⟨?_, ?_⟩⟩, ⟨?_, ⟨fun hi => ?_, fun hi => ⟨rfl, ⟨⟨rfl, ⟨rfl, ⟨rfl, ⟨?_, trivial⟩⟩⟩⟩, ⟨trivial, ⟨rfl, fun hi => ?_⟩⟩⟩⟩⟩⟩⟩, fun hi => ?_⟩, ⟨fun hi => ⟨⟨rfl, ⟨?_, ?_⟩⟩, ⟨?_, ⟨fun hi => ?_, fun hi => ?_⟩⟩⟩, fun hi => ?_⟩⟩⟩
  all_goals first | (simp only [cellsPs_length, decide_eq_true_eq, decide_eq_false_iff_not] at *; omega) | exact cellsPs_get l _ (by omega) | (exact pair_ok _ _ (fineP hf (by omega)).1 (fineP hf (by omega)).2) | (exact congrArg (fun x => AV.f (int x)) (wrapS ((i : Int) + 1) (by omega) (by omega))) | (exfalso; simp_all; done) | (rw [h4]; done) | assumption | (simp [V.kind, V.num, V.text, V.items, *]; done)
end Go.Sx

/-
  Proved: what some functions of the program answer, or a law of the evaluator that shows it, one theorem each; its conditions are the hypotheses that stand ahead of it.
-/
import Derived.Test.YtgbkobkiomeokaaGreatDoorR3
import Derived.KernelRfl
set_option maxRecDepth 100000
set_option maxHeartbeats 4000000
set_option linter.unusedSimpArgs false
set_option linter.unusedVariables false
namespace Go.Sx
open Go.Proofs Sp
theorem insert_ok {g : Gr} (c : V → V → Int) (cf : Nat) (mp : FV) (k v : V) : ∀ (x : T), (∀ y, y ∈ x.toList.map (·.1) → CallsF P g cf [mp, encV k, encV y] (int (c k y))) → CallsF P g 37 [encT x, encV k, encV v, .fn cf [mp] []] (encT (T.insert c k v x))
  | .nil, _ => insert_nil c cf mp k v
  | .node b l r xk xv, hc => insert_step c cf mp k v _ rfl (hc _ (keys_key (t := .node b l r xk xv) rfl))
      (fun _ => insert_ok c cf mp k v l fun y hy => hc y (keys_left (t := .node b l r xk xv) hy)) (fun _ => insert_ok c cf mp k v r fun y hy => hc y (keys_right (t := .node b l r xk xv) hy))
theorem height_ok {g : Gr} : ∀ (x : T), x.height ≤ 1152921504606846976 → CallsF P g 47 [encT x] (int (x.height : Nat))
  | .nil, _ => height_nil
  | .node b l r k v, h => by
    have h1 : l.height < (T.node b l r k v).height ∧ r.height < (T.node b l r k v).height := by simp only [T.height]; omega
    exact height_step _ rfl h (height_ok l (by omega)) (height_ok r (by omega))
end Go.Sx
set_option maxRecDepth 100000
set_option maxHeartbeats 4000000
set_option linter.unusedSimpArgs false
set_option linter.unusedVariables false
namespace Go.Sx
open Go.Proofs Sp
/-- Is it gone over to its end, and how many were handed out? -/
def walkR (b : Nat → Bool) : T → Nat → Bool × Nat
  | .nil, i => (true, i)
  | .node _ l r _ _, i => if (walkR b l i).1 then (if b (walkR b l i).2 then walkR b r ((walkR b l i).2 + 1) else (false, (walkR b l i).2 + 1)) else (false, (walkR b l i).2)
/-- What is handed out. -/
def itL (l : List (V × V)) (j : Nat) : List FV := [encV (l.getD j default).1, encV (l.getD j default).2]
theorem cellsPs_app : ∀ a b : List (V × V), cellsPs (a ++ b) = cellsPs a ++ cellsPs b
  | [], b => rfl
  | x :: a, b => by simp [cellsPs, cellsPs_app a b]
theorem cellsPs_snoc (l : List (V × V)) (i : Nat) (h : i < l.length) : cellsPs (l.take i) ++ [cellsP (l.getD i default).1 ++ cellsP (l.getD i default).2] = cellsPs (l.take (i + 1)) := by
  rw [List.take_succ_eq_append_getElem h, cellsPs_app]
  simp [cellsPs, List.getD_eq_getElem?_getD, h]
theorem walkR_eq (b : Nat → Bool) (x : T) (i : Nat) (h : x.isNil = false) : walkR b x i = if (walkR b x.left i).1 then (if b (walkR b x.left i).2 then walkR b x.right ((walkR b x.left i).2 + 1) else (false, (walkR b x.left i).2 + 1)) else (false, (walkR b x.left i).2) := by
  cases x with
  | nil => cases h
  | node => rfl
theorem get72 : P.funcs[72]? = some Tryz.f72 := by kernel_rfl
theorem ent72 : entersP P 72 = true := by kernel_rfl
theorem walk_nil (Y : Yd) (i : Nat)  : CallsX P G 72 [encT .nil, .sc Y.u] (Y) (i) (bool true) (i) := by
  refine sx_fnX (hs := [Hint.pcs [(8, 2), (9, 3), (5, 4)], .dec true, .dec true, .dec true, .dec true]) ((E (true)) ∧ (E (true)) ∧ (E (true)) ∧ (E (true)) ∧ (E (true)) ∧ (E (true)) ∧ (E (Y)) ∧ (E (i)) ∧ E (bool true)) get72 ent72 (by kernel_rfl) ?_
  exact ⟨rfl, ⟨rfl, ⟨rfl, ⟨rfl, ⟨rfl, ⟨rfl, ⟨rfl, ⟨rfl, rfl⟩⟩⟩⟩⟩⟩⟩⟩
theorem walk_step (Y : Yd) (x : T) (i : Nat) (h : x.isNil = false) (hl : CallsX P G 72 [encT x.left, .sc Y.u] Y i (bool (walkR Y.b x.left i).1) (walkR Y.b x.left i).2)
  (hy : (walkR Y.b x.left i).1 = true → YLaw P G Y ∧ Y.alive (walkR Y.b x.left i).2 ∧ Y.it (walkR Y.b x.left i).2 = [encV x.key, encV x.val])
  (hr : (walkR Y.b x.left i).1 = true → Y.b (walkR Y.b x.left i).2 = true → CallsX P G 72 [encT x.right, .sc Y.u] Y ((walkR Y.b x.left i).2 + 1) (bool (walkR Y.b x.right ((walkR Y.b x.left i).2 + 1)).1) (walkR Y.b x.right ((walkR Y.b x.left i).2 + 1)).2) : CallsX P G 72 [encT x, .sc Y.u] (Y) (i) (bool (walkR Y.b x i).1) ((walkR Y.b x i).2) := by
  refine sx_fnX (hs := let z1 := walkR (Yd.b Y) (T.left x) i; let z2 := walkR (Yd.b Y) (T.right x) (Prod.snd z1 + 1); [Hint.pcs [(8, 2), (9, 3), (5, 4)], .isn (T.isNil x), .br [.dec true, .dec true, .dec true] [.cast (opn x), .dec false, .callX 0 (Prod.snd z1) (bool (Prod.fst z1)), .br [.cast (opn x), .cast (opn x), .dec true, .yield 1, .dec false, .br [.cast (opn x), .dec true, .callX 2 (Prod.snd z2) (bool (Prod.fst z2)), .dec false] [.dec false, .dec false]] [.dec false, .dec false, .dec false, .dec false, .dec false]]]) (let z1 := walkR (Yd.b Y) (T.left x) i; let z2 := walkR (Yd.b Y) (T.right x) (Prod.snd z1 + 1); let z3 := Prod.fst (walkR (Yd.b Y) x i); E true ∧ E true ∧ IsNil (encT x) (T.isNil x) ∧ Br (T.isNil x) (E true ∧ E true ∧ E true ∧ E Y ∧ i = Prod.snd (walkR (Yd.b Y) x i) ∧ bool true = bool z3) (encT x = FV.ptr (opn x) 0 ∧ E false ∧ CallsX P G 72 ([encT (T.left x), FV.sc (Yd.u Y)]) (Y) (i) (bool (Prod.fst z1)) (Prod.snd z1) ∧ Br (Prod.fst z1) (encT x = FV.ptr (opn x) 0 ∧ encT x = FV.ptr (opn x) 0 ∧ E true ∧ (E (Yd.u Y) ∧ YLaw P G Y ∧ Yd.alive Y (Prod.snd z1) ∧ [encV (T.key x), encV (T.val x)] = Yd.it Y (Prod.snd z1)) ∧ E false ∧ Br (Yd.b Y (Prod.snd z1)) (encT x = FV.ptr (opn x) 0 ∧ E true ∧ CallsX P G 72 ([encT (T.right x), FV.sc (Yd.u Y)]) (Y) (Prod.snd z1 + 1) (bool (Prod.fst z2)) (Prod.snd z2) ∧ E false ∧ E Y ∧ Prod.snd z2 = Prod.snd (walkR (Yd.b Y) x i) ∧ bool (Prod.fst z2) = bool z3) (E false ∧ E false ∧ E Y ∧ (Prod.snd z1 + 1) = Prod.snd (walkR (Yd.b Y) x i) ∧ bool false = bool z3)) (E false ∧ E false ∧ E false ∧ E false ∧ E false ∧ E Y ∧ Prod.snd z1 = Prod.snd (walkR (Yd.b Y) x i) ∧ bool false = bool z3))) get72 ent72 (by kernel_rfl) ?_
  refine ⟨rfl, rfl, ?_, fun hi => ⟨rfl, rfl, rfl, rfl, ?_, ?_⟩, fun hi => ⟨?_, rfl, ?_, fun hi => ⟨?_, ?_, rfl, ⟨rfl, ?_, ?_, ?_⟩, rfl, fun hi => ⟨?_, rfl, ?_, rfl, rfl, ?_, ?_⟩, fun hi => ⟨rfl, rfl, rfl, ?_, ?_⟩⟩, fun hi => ⟨rfl, rfl, rfl, rfl, rfl, rfl, ?_, ?_⟩⟩⟩
  all_goals first | exact hl | (exact hr (by assumption) (by assumption)) | exact (hy (by assumption)).1 | exact (hy (by assumption)).2.1 | exact (hy (by assumption)).2.2.symm | (rw [walkR_eq _ _ _ h]; simp_all; done) | exact encT_isn _ | (exact encT_open _ (by assumption))
theorem walkR_true (b : Nat → Bool) : ∀ (t : T) (i : Nat), (walkR b t i).1 = true → (walkR b t i).2 = i + t.size ∧ ∀ j, i ≤ j → j < i + t.size → b j = true
  | .nil, i, _ => ⟨rfl, fun j h1 h2 => by simp [T.size] at h2; omega⟩
  | .node c l r k v, i, h => by
    simp only [walkR] at h ⊢
    cases h1 : (walkR b l i).1 with
    | false => rw [h1] at h; cases h
    | true =>
      obtain ⟨e1, e2⟩ := walkR_true b l i h1
      rw [h1] at h
      simp only [if_true] at h ⊢
      cases h2 : b (walkR b l i).2 with
      | false => rw [h2] at h; cases h
      | true =>
        rw [h2] at h
        simp only [if_true] at h ⊢
        obtain ⟨e3, e4⟩ := walkR_true b r _ h
        refine ⟨by rw [e3, e1]; simp [T.size]; omega, fun j h3 h4 => ?_⟩
        simp only [T.size] at h4
        rcases Nat.lt_or_ge j (i + l.size) with h5 | h5
        · exact e2 j h3 h5
        · rcases Nat.eq_or_lt_of_le h5 with h6 | h6
          · rw [← h6, ← e1]; exact h2
          · exact e4 j (by omega) (by omega)
theorem walkR_all {b : Nat → Bool} : ∀ (t : T) (i : Nat), (∀ j, i ≤ j → j < i + t.size → b j = true) → walkR b t i = (true, i + t.size)
  | .nil, i, _ => rfl
  | .node c l r k v, i, h => by
    simp only [T.size] at h
    simp only [walkR]
    rw [walkR_all l i fun j h1 h2 => h j h1 (by omega)]
    simp only [if_true]
    rw [h _ (by omega) (by omega)]
    simp only [if_true]
    rw [walkR_all r _ fun j h1 h2 => h j (by omega) (by omega)]
    simp [T.size]; omega
theorem walk_ok (Y : Yd) (hlaw : YLaw P G Y) : ∀ (x : T) (i : Nat), i + x.size ≤ Y.n → (∀ j, j < i → Y.b j = true) → (∀ j, j < x.size → Y.it (i + j) = itL x.toList j) →
    CallsX P G 72 [encT x, .sc Y.u] Y i (bool (walkR Y.b x i).1) (walkR Y.b x i).2
  | .nil, i, _, _, _ => walk_nil Y i
  | .node c l r k v, i, hn, hb, hit => by
    simp only [T.size] at hn hit
    have hll := T.toList_length l
    refine walk_step Y _ i rfl (walk_ok Y hlaw l i (by omega) hb fun j hj => ?_) (fun h => ?_) (fun h h2 => ?_)
    · have hj : j < l.size := hj
      rw [hit j (by omega)]
      simp [itL, T.toList, List.getD_eq_getElem?_getD, List.getElem?_append_left (show j < l.toList.length by omega)]
    · obtain ⟨e1, e2⟩ := walkR_true Y.b l i h
      show YLaw P G Y ∧ Y.alive (walkR Y.b l i).2 ∧ Y.it (walkR Y.b l i).2 = [encV k, encV v]
      rw [e1]
      refine ⟨hlaw, ⟨fun j hj => ?_, by omega⟩, ?_⟩
      · rcases Nat.lt_or_ge j i with h3 | h3
        · exact hb j h3
        · exact e2 j h3 hj
      · rw [hit l.size (by omega)]
        simp [itL, T.toList, List.getD_eq_getElem?_getD, List.getElem?_append_right (show l.toList.length ≤ l.size by omega), hll]
    · obtain ⟨e1, e2⟩ := walkR_true Y.b l i h
      have h2 : Y.b (walkR Y.b l i).2 = true := h2
      show CallsX P G 72 [encT r, .sc Y.u] Y ((walkR Y.b l i).2 + 1) (bool (walkR Y.b r ((walkR Y.b l i).2 + 1)).1) (walkR Y.b r ((walkR Y.b l i).2 + 1)).2
      rw [e1] at h2 ⊢
      refine walk_ok Y hlaw r _ (by omega) (fun j hj => ?_) (fun j hj => ?_)
      · rcases Nat.lt_or_ge j i with h3 | h3
        · exact hb j h3
        · rcases Nat.lt_or_ge j (i + l.size) with h4 | h4
          · exact e2 j h3 h4
          · rw [show j = i + l.size from by omega]; exact h2
      · rw [show i + l.size + 1 + j = i + (l.size + 1 + j) from by omega, hit _ (by omega)]
        simp [itL, T.toList, List.getD_eq_getElem?_getD, List.getElem?_append_right (show l.toList.length ≤ l.size + 1 + j by omega), hll, show l.size + 1 + j - l.size = j + 1 from by omega]
theorem get73 : P.funcs[73]? = some Tryz.f73 := by kernel_rfl
theorem ent73 : entersP P 73 = true := by kernel_rfl
theorem all11_ok (Y : Yd) (k v : V) (j : Nat) (hk : Fine k) (hv : Fine v) (hlaw : YLaw P G Y) (hal : Y.alive j) (hit : Y.it j = [encV k, encV v]) : CallsX P G 73 [encV k, encV v, .ptr [.sc Y.u] 0] (Y) (j) (bool (Y.b j)) (j + 1) := by
  refine sx_fnX (hs := [Hint.pcs [(5, 2)], .call (encV k), .call (encV v), .yield 0]) (E true ∧ E true ∧ CallsF P G 16 [encV k] (encV k) ∧ CallsF P G 16 [encV v] (encV v) ∧ (E (Yd.u Y) ∧ YLaw P G Y ∧ Yd.alive Y j ∧ [encV k, encV v] = Yd.it Y j) ∧ E Y ∧ E (j + 1) ∧ E (bool (Yd.b Y j))) get73 ent73 (by kernel_rfl) ?_
  refine ⟨rfl, rfl, ?_, ?_, ⟨rfl, ?_, ?_, ?_⟩, rfl, rfl, rfl⟩
  all_goals first | exact hlaw | exact hal | exact hit.symm | exact own2_ok _ (by assumption)
theorem get71 : P.funcs[71]? = some Tryz.f71 := by kernel_rfl
theorem ent71 : entersP P 71 = true := by kernel_rfl
theorem all1_ok (Y : Yd) (o n : Int) (t : T) (hf : ∀ p, p ∈ t.toList → Fine p.1 ∧ Fine p.2) (hlaw : YLaw P G Y) (hn : Y.n ≤ t.size) (hn2 : t.size ≤ Y.n) (hit : Y.it = itL t.toList) : CallsX P G 71 [.sc Y.u, .ptr [encM o n t] 0] (Y) (0) (.tup []) ((walkR Y.b t 0).2) := by
  refine sx_fnX (hs := [.ones, .call (encT t), .frz [1], .callC 0 1 Y.it (walkR Y.b t 0).2 (bool (walkR Y.b t 0).1)]) (let z1 := Prod.snd (walkR (Yd.b Y) t 0); E true ∧ AV.one (AV.f (FV.sc (Yd.u Y))) = true ∧ CallsF P G 38 [encM o n t] (encT t) ∧ ((∀ (Y' : Yd), (((Yd.it Y') = (Yd.it Y)) → ((((Yd.b Y') = (Yd.b Y)) → ((((Yd.n Y') = (Yd.n Y)) → (((YLaw P G Y') → (CallsX P G 72 ([encT t, FV.sc (Yd.u Y')]) (Y') (0) (bool (Prod.fst (walkR (Yd.b Y) t 0))) z1))))))))) ∧ ∀ (j : Nat), Yd.alive Y j → CallsX P G 73 ([] ++ Yd.it Y j ++ [FV.ptr [FV.sc (Yd.u Y)] 0]) (Y) (j) (bool (Yd.b Y j)) (j + 1)) ∧ E Y ∧ E z1 ∧ E (FV.tup [])) get71 ent71 (by kernel_rfl) ?_
  refine ⟨rfl, ?_, ?_, ⟨fun Y' => fun hi => fun hi => fun hi => fun hi => ?_, fun j => fun hi => ?_⟩, rfl, rfl, rfl⟩
  all_goals first | exact Y.one | (rename_i h1 h2 h3; rw [← h2]; exact walk_ok Y' hi t 0 (by omega) (fun j hj => by omega) (fun j hj => by rw [h1, hit, Nat.zero_add])) | (have h0 : j < t.toList.length := (by rw [T.toList_length]; have h1 := hi.2; omega); have h9 := fineP hf h0; have h8 : Y.it j = _ := congrFun hit j; have h7 := all11_ok Y _ _ j h9.1 h9.2 hlaw hi h8; rw [h8]; exact h7) | exact tree_ok _ _ _
theorem get44 : P.funcs[44]? = some Tryz.f44 := by kernel_rfl
theorem ent44 : entersP P 44 = true := by kernel_rfl
theorem all_ok (o n : Int) (t : T)  : CallsF P G 44 [encM o n t] (.fn 71 [] [.ptr [encM o n t] 0]) := by
  refine sx_fn (hs := [.ones, .lfz [0]]) ((E (true)) ∧ E (FV.fn 71 [] [FV.ptr [encM o n t] 0])) get44 ent44 (by kernel_rfl) ?_
  exact ⟨rfl, rfl⟩
def Spairs (o n : Int) (t : T) (l : List (V × V)) (i : Nat) : St := { sl := slots 17 [(0, .f (encM o n t)), (3, .loc 0 0)], ob := [(1, .row 8 44 (cellsPs (l.take i))), (0, .box [.lsl 1])], nx := 2 }
theorem get25 : P.funcs[25]? = some Tryz.f25 := by kernel_rfl
theorem ent25 : entersP P 25 = true := by kernel_rfl
theorem pairs_run (o n : Int) (t : T) (hf : ∀ p, p ∈ t.toList → Fine p.1 ∧ Fine p.2) (hs : t.size ≤ 131072) : CallsF P G 25 [encM o n t] (.sl 8 (cellsPs (t.toList.take t.toList.length))) := by
  refine sx_fn (hs := [.call (.fn 71 [] [.ptr [encM o n t] 0]), .pre [.nrowb 0 0 8 44], .range [(0,0),(1,1)] (Spairs o n t t.toList) t.toList.length (itL t.toList) (fun _ => true) (.tup []) none (fun i => [.ren [(0,0),(5,1)]]), .frz [1]]) (let z1 := E (AV.f (encM o n t)) ∧ E (AV.loc 0 0) ∧ True; CallsF P G 44 [encM o n t] (FV.fn 71 [] [FV.ptr [encM o n t] 0]) ∧ (E true ∧ z1 ∧ (E (Ob.row 8 44 []) ∧ E (Ob.box [AV.lsl 1]) ∧ True) ∧ E true ∧ (false = true → false = true)) ∧ E false ∧ E true ∧ (∀ (i : Nat), i ≤ List.length (T.toList t) → E true) ∧ (∀ (Y : Yd), Yd.it Y = itL (T.toList t) → Yd.b Y = (fun x => true) → Yd.n Y = List.length (T.toList t) → YLaw P G Y → CallsX P G 71 ([FV.sc (Yd.u Y), FV.ptr [encM o n t] 0]) (Y) (0) (FV.tup []) (List.length (T.toList t))) ∧ (∀ (i : Nat), (let z4 := List.getD (T.toList t) i default; let z2 := Prod.fst z4; let z3 := int (V.kind z2) :: int (V.num z2) :: str (V.text z2) :: encI (V.items z2) :: cellsP (Prod.snd z4); let z5 := List.take i (T.toList t); i < List.length (T.toList t) → E true ∧ E true ∧ (oneF ([int (V.kind z2) :: int (V.num z2) :: str (V.text z2) :: encI (V.items z2) :: cellsP (Prod.snd z4)]) ∧ List.length (cellsPs z5) + List.length (chunk 8 1 z3) ≤ maxLen ∧ (List.length (cellsPs z5) + List.length (chunk 8 1 z3)) * 112 ≤ 140737488355328 ∧ E false) ∧ E true ∧ E true ∧ z1 ∧ (Ob.row 8 44 (cellsPs z5 ++ chunk (TypeInfo.size (Tables.types (Program.toTables P))[44]) 1 z3) = Ob.row 8 44 (cellsPs (List.take (i + 1) (T.toList t))) ∧ E (Ob.box [AV.lsl 1]) ∧ True) ∧ E true ∧ (false = true → false = true))) ∧ (0 < List.length (T.toList t) → E true) ∧ E (FV.sl 8 (cellsPs (List.take (List.length (T.toList t)) (T.toList t))))) get25 ent25 (by kernel_rfl) ?_
  refine ⟨?_, ⟨rfl, ⟨rfl, rfl, trivial⟩, ⟨rfl, rfl, trivial⟩, rfl, fun hi => ?_⟩, rfl, rfl, fun i => fun hi => rfl, fun Y => fun hi => fun hi => fun hi => fun hi => ?_, fun i => fun hi => ⟨rfl, rfl, ⟨?_, ?_, ?_, rfl⟩, rfl, rfl, ⟨rfl, rfl, trivial⟩, ⟨?_, rfl, trivial⟩, rfl, fun hi => ?_⟩, fun hi => rfl, rfl⟩
  all_goals first | exact all_ok _ _ _ | (rename_i h1 h2 h3; have e : (walkR Y.b t 0).2 = t.toList.length := (by rw [h2, walkR_all t 0 (fun _ _ _ => rfl), T.toList_length]; simp); have h5 := all1_ok Y o n t hf hi (by rw [h3, T.toList_length]; exact Nat.le_refl _) (by rw [h3, T.toList_length]; exact Nat.le_refl _) h1; rw [e] at h5; exact h5) | (intro x hx; simp [cellsP] at hx; rcases hx with rfl | rfl | rfl | rfl | rfl | rfl | rfl | rfl <;> rfl) | (simp only [cellsPs_length, List.length_take, chunk, List.length_cons, List.length_nil, T.toList_length, maxLen]; omega) | (exact congrArg (Ob.row 8 44) (cellsPs_snoc _ _ hi)) | assumption
end Go.Sx

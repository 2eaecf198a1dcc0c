/-
  Proved: what some functions of the program answer, or a law of the evaluator that shows it, one theorem each; its conditions are the hypotheses that stand ahead of it.
-/
import Derived.Test.YtgekmpfoihidpaaGreatDoorO1
import Derived.Test.YtgekmpfoihidpaaGreatDoorPSt
import Derived.KernelRfl
set_option maxRecDepth 100000
set_option maxHeartbeats 4000000
set_option linter.unusedSimpArgs false
set_option linter.unusedVariables false
namespace Go.Sx
open Go.Proofs Sp
/-- A number as a value; a text as a value; no value. -/
def mkI (n : Int) : V := .mk 2 n [] []
def nilW : V := .mk 0 0 [] []
def Smost (n : Int) (i : Nat) : St := { sl := slots 16 [(0, .f (int n)), (3, .f (int (i : Int)))], ob := [], nx := 0 }
theorem bits_spec : ∀ (f n h : Nat), (∀ j, j < h → 2 ^ j ≤ n) → h + f = 60 → (∀ j, j < T.bits f n h → 2 ^ j ≤ n ∧ j < 60) ∧ T.bits f n h ≤ 60 ∧ (T.bits f n h = 60 ∨ n < 2 ^ T.bits f n h)
  | 0, n, h, hj, hf => by simp only [T.bits]; exact ⟨fun j h1 => ⟨hj j h1, by omega⟩, by omega, .inl (by omega)⟩
  | f + 1, n, h, hj, hf => by
    simp only [T.bits]
    split
    · rename_i h1
      exact bits_spec f n (h + 1) (fun j h2 => by
        rcases Nat.lt_or_ge j h with h3 | h3
        · exact hj j h3
        · rw [show j = h from by omega]; exact h1) (by omega)
    · rename_i h1
      exact ⟨fun j h2 => ⟨hj j h2, by omega⟩, by omega, .inr (by omega)⟩
theorem shl1 (i : Nat) (h : i ≤ 60) : IntKind.i64.wrap (1 * 2 ^ (min i IntKind.i64.bits)) = ((2 ^ i : Nat) : Int) := by
  have h1 : (2 ^ i : Nat) ≤ 2 ^ 60 := Nat.pow_le_pow_right (by omega) h
  rw [show min i IntKind.i64.bits = i from by simp [IntKind.bits]; omega, Int.one_mul]
  rw [show ((2 : Int) ^ i) = ((2 ^ i : Nat) : Int) by simp]
  generalize 2 ^ i = m at *
  exact wrapS _ (by omega) (by omega)
theorem get70 : P.funcs[70]? = some Tryz.f70 := by kernel_rfl
theorem ent70 : entersP P 70 = true := by kernel_rfl
theorem plainInt_ok (n : Int)  : CallsF P G 70 [int n] (.agg [int 2, int n, str [], .nils]) := by
  refine sx_fn (hs := []) (E (FV.agg [int 2, int n, str [], FV.nils])) get70 ent70 (by kernel_rfl) ?_
  rfl
theorem get97 : P.funcs[97]? = some Tryz.f97 := by kernel_rfl
theorem ent97 : entersP P 97 = true := by kernel_rfl
theorem most_run (n N : Nat) (hn : n < 1000000) (hN : N ≤ 60) (hj : ∀ j, j < N → 2 ^ j ≤ n ∧ j < 60) (h2 : N = 60 ∨ n < 2 ^ N) : CallsF P G 97 [int (n : Int)] (int ((2 * N : Nat) : Int)) := by
  refine sx_fn (hs := [.loop [] [] (Smost (n : Int)) (N) (fun i => [.br [.br [] []] [.dec false]]), .br [.br [] []] [.dec false]]) (let z1 := IntKind.wrap IntKind.i64 (2 * (N : Int)); (E true ∧ (E (AV.f (int (n : Int))) ∧ AV.f (int 0) = AV.f (int (Int.ofNat 0)) ∧ True) ∧ True ∧ E true ∧ (false = true → false = true)) ∧ (∀ (i : Nat), i < N → Br (decide (IntKind.wrap IntKind.i64 (1 * 2 ^ min i (IntKind.bits IntKind.i64)) ≤ (n : Int))) (Br (decide ((i : Int) < 60)) (E true ∧ (E (AV.f (int (n : Int))) ∧ AV.f (int (IntKind.wrap IntKind.i64 ((i : Int) + 1))) = AV.f (int (↑(i + 1) : Int)) ∧ True) ∧ True ∧ E true ∧ (St.nd (Smost (n : Int) (i + 1)) = true → false = true)) False) (E false ∧ False)) ∧ Br (decide (IntKind.wrap IntKind.i64 (1 * 2 ^ min N (IntKind.bits IntKind.i64)) ≤ (n : Int))) (Br (decide ((N : Int) < 60)) False (int z1 = int (↑(2 * N) : Int))) (E false ∧ int z1 = int (↑(2 * N) : Int))) get97 ent97 (by kernel_rfl) ?_
  refine ⟨⟨rfl, ⟨rfl, ?_, trivial⟩, trivial, rfl, fun hi => ?_⟩, fun i => fun hlt => ⟨fun hi => ⟨fun hi => ⟨rfl, ⟨rfl, ?_, trivial⟩, trivial, rfl, fun hi => ?_⟩, fun hi => ?_⟩, fun hi => ⟨rfl, ?_⟩⟩, fun hi => ⟨fun hi => ?_, fun hi => ?_⟩, fun hi => ⟨rfl, ?_⟩⟩
  all_goals first | (rw [shl1 _ (by omega)] at *; simp only [decide_eq_true_eq, decide_eq_false_iff_not] at *; omega) | (exfalso; have h8 := hj i hlt; rw [shl1 i (by omega)] at *; simp only [decide_eq_true_eq, decide_eq_false_iff_not] at *; omega) | (exact congrArg int (by rw [wrapS _ (by omega) (by omega)]; omega)) | assumption | (exact congrArg (fun x => AV.f (int x)) (by (try simp only [cellsVs_length, List.length_append, List.length_map, List.length_take, List.length_drop, List.length_reverse, List.length_set, List.length_replicate, chunk, List.length_cons, List.length_nil, Int.toNat_natCast, V.items, maxLen]); rw [wrapS _ (by omega) (by omega)]; (try omega))) | (simp [V.kind, V.num, V.text, V.items, *]; done)
theorem int_ok (n : Int) : CallsF P G 70 [int n] (encV (mkI n)) := (plainInt_ok n).weak (nilV 2 n [])
end Go.Sx
set_option maxRecDepth 100000
set_option maxHeartbeats 4000000
set_option linter.unusedSimpArgs false
set_option linter.unusedVariables false
namespace Go.Sx
open Go.Proofs Sp
/-- A map with a pair put in, and one with a key taken out: its tree, and how many keys it has. -/
def putT (c : V → V → Int) (x : T × Nat) (k v : V) : T × Nat := ((T.insert c k v x.1).blackened, if (T.find c k x.1).isNil then x.2 + 1 else x.2)
def ofT (c : V → V → Int) (l : List (V × V)) : Nat → T × Nat
  | 0 => (.nil, 0)
  | i + 1 => putT c (ofT c l i) (l.getD i default).1 (l.getD i default).2
def encX (o : Int) (x : T × Nat) : FV := encM o (x.2 : Int) x.1
noncomputable def RP (q : V × V) : Prop := Fine q.1 ∧ Fine q.2 ∧ rightB q.1 = true ∧ rightB q.2 = true
noncomputable def OkX (x : T × Nat) : Prop := T.Good RP x.2 x.1
/-- What a map's order answers. -/
def CmpC (c : V → V → Int) (o : Int) : Prop := ∀ (n : Int) (t : T) (a b : V), Fine a → Fine b → rightB a = true → rightB b = true → CallsF P G 113 [encM o n t, encV a, encV b] (int (c a b))
def Sof (c : V → V → Int) (o : Int) (l : List (V × V)) (i : Nat) : St := { sl := slots 38 [(6, .f (encX o (ofT c l i))), (22, .f (encPs l)), (23, .f (int (cellsPs l).length)), (24, .f (int (i : Int)))], ob := [], nx := 0 }
theorem okX_nil : OkX (.nil, 0) := T.good_nil _
theorem okX_put {x : T × Nat} (c : V → V → Int) (h : OkX x) {k v : V} (hp : RP (k, v)) : OkX (putT c x k v) := T.good_insert c k v h hp
theorem put_le (c : V → V → Int) (x : T × Nat) (k v : V) : (putT c x k v).2 ≤ x.2 + 1 := by simp only [putT]; split <;> omega
theorem ofT_ok {c : V → V → Int} {l : List (V × V)} (hl : ∀ q, q ∈ l → RP q) : ∀ i, i ≤ l.length → OkX (ofT c l i) ∧ (ofT c l i).2 ≤ i
  | 0, _ => ⟨okX_nil, Nat.le_refl _⟩
  | i + 1, hi => by
    obtain ⟨h1, h2⟩ := ofT_ok hl i (by omega)
    have hm : l.getD i default ∈ l := by rw [List.getD_eq_getElem?_getD, List.getElem?_eq_getElem (by omega)]; exact List.getElem_mem (by omega)
    refine ⟨okX_put c h1 (hl _ hm), Nat.le_trans (put_le _ _ _ _) (by omega)⟩
theorem withM_put (c : V → V → Int) (o : Int) (x : T × Nat) (k v : V) : withM c o (x.2 : Int) x.1 k v = encX o (putT c x k v) := by
  simp only [withM, withN, encX, putT]
  split <;> simp
theorem cmpX {c : V → V → Int} {o : Int} (hC : CmpC c o) {x : T × Nat} (hx : OkX x) {k : V} (hk : Fine k) (hr : rightB k = true) (n : Int) (t : T) : ∀ y, y ∈ x.1.toList.map (·.1) → CallsF P G 113 [encM o n t, encV k, encV y] (int (c k y)) := by
  intro y hy
  obtain ⟨q, h1, rfl⟩ := List.mem_map.mp hy
  have h2 := hx.2.2.2 q h1
  exact hC n t k q.1 hk h2.1 hr h2.2.2.1
theorem with_put {c : V → V → Int} {o : Int} (hC : CmpC c o) {x : T × Nat} (hx : OkX x) (hn : x.2 ≤ 1000000) {k v : V} (hp : RP (k, v)) : CallsF P G 65 [encX o x, encV k, encV v] (encX o (putT c x k v)) := by
  have h := with_ok c o (x.2 : Int) x.1 k v ⟨by omega, by omega⟩ (cmpX hC hx hp.1 hp.2.2.1 _ _) (insert_ok c _ _ k v x.1 (cmpX hC hx hp.1 hp.2.2.1 _ _))
  rw [withM_put] at h
  exact h
theorem pairE_zero {k v : V} (h1 : rightB k = true) (h2 : rightB v = true) : pairE k v = 0 := by simp [pairE, h1, h2]
theorem most_ok (n : Nat) (hn : n < 1000000) : CallsF P G 97 [int (n : Int)] (int (T.most n : Nat)) := by
  obtain ⟨h1, h2, h3⟩ := bits_spec 60 n 0 (by simp) rfl
  exact most_run n (T.bits 60 n 0) hn h2 h1 h3
theorem allP {l : List (V × V)} {p : V × V → Prop} (h : ∀ x, x ∈ l → p x) {i : Nat} (hi : i < l.length) : p (l.getD i default) := by
  rw [List.getD_eq_getElem?_getD, List.getElem?_eq_getElem hi]; exact h _ (List.getElem_mem hi)
theorem get10 : P.funcs[10]? = some Tryz.f10 := by kernel_rfl
theorem ent10 : entersP P 10 = true := by kernel_rfl
theorem of_run (c : V → V → Int) (o : Int) (l : List (V × V)) (N : Nat) (ho : 0 ≤ o ∧ o ≤ 5) (hl : l.length ≤ 65536) (hN : N = l.length) (hf : ∀ q, q ∈ l → RP q) (hck : CallsF P G 64 [encPs l] (int 0))
  (hw : ∀ i, i < l.length → CallsF P G 65 [encX o (ofT c l i), encV (l.getD i default).1, encV (l.getD i default).2] (encX o (putT c (ofT c l i) (l.getD i default).1 (l.getD i default).2))) : CallsF P G 10 [int o, encPs l] (.tup [encX o (ofT c l N), int 0]) := by
  refine sx_fn (hs := let z1 := List.getD l N default; [.call (FV.tup [encM o 0 T.nil, int 0]), .dec true, .call (int 0), .dec false, .loop [] [] (Sof c o l) (N) (fun i => [.br [.el (cellsP (Prod.fst (List.getD l i default)) ++ cellsP (Prod.snd (List.getD l i default))), .nat 8, .call (encV (Prod.fst (List.getD l i default))), .call (encV (Prod.snd (List.getD l i default))), .call (encX o (putT c (ofT c l i) (Prod.fst (List.getD l i default)) (Prod.snd (List.getD l i default))))] []]), .br [.el (cellsP (Prod.fst z1) ++ cellsP (Prod.snd z1)), .nat 8, .call (encV (Prod.fst z1)), .call (encV (Prod.snd z1)), .call (encX o (putT c (ofT c l N) (Prod.fst z1) (Prod.snd z1)))] []]) (let z1 := List.getD l N default; let z2 := (↑(List.length (cellsPs l)) : Int); let z3 := putT c (ofT c l N) (Prod.fst z1) (Prod.snd z1); let z4 := (↑(Prod.snd (ofT c l N)) : Int); CallsF P G 63 [int o] (FV.tup [encM o 0 T.nil, int 0]) ∧ E true ∧ CallsF P G 64 [FV.sl 8 (cellsPs l)] (int 0) ∧ E false ∧ (E true ∧ (AV.f (encM o 0 T.nil) = AV.f (FV.ptr [int o, int (↑(Prod.snd (ofT c l 0)) : Int), encT (Prod.fst (ofT c l 0))] 0) ∧ E (AV.f (FV.sl 8 (cellsPs l))) ∧ E (AV.f (int z2)) ∧ AV.f (int 0) = AV.f (int (Int.ofNat 0)) ∧ True) ∧ True ∧ E true ∧ (false = true → false = true)) ∧ (∀ (i : Nat), (let z5 := List.getD l i default; let z7 := putT c (ofT c l i) (Prod.fst z5) (Prod.snd z5); let z6 := FV.ptr [int o, int (↑(Prod.snd z7) : Int), encT (Prod.fst z7)] 0; i < N → Br (decide ((i : Int) < z2)) ((E 8 ∧ (0 : Int) ≤ (i : Int) ∧ (cellsPs l)[i]? = some (int (V.kind (Prod.fst z5)) :: int (V.num (Prod.fst z5)) :: str (V.text (Prod.fst z5)) :: encI (V.items (Prod.fst z5)) :: cellsP (Prod.snd z5))) ∧ E true ∧ CallsF P G 66 [encV (Prod.fst z5)] (encV (Prod.fst z5)) ∧ CallsF P G 66 [encV (Prod.snd z5)] (encV (Prod.snd z5)) ∧ CallsF P G 65 [FV.ptr [int o, int (↑(Prod.snd (ofT c l i)) : Int), encT (Prod.fst (ofT c l i))] 0, encV (Prod.fst z5), encV (Prod.snd z5)] z6 ∧ E true ∧ (AV.f z6 = AV.f (FV.ptr [int o, int (↑(Prod.snd (ofT c l (i + 1))) : Int), encT (Prod.fst (ofT c l (i + 1)))] 0) ∧ E (AV.f (FV.sl 8 (cellsPs l))) ∧ E (AV.f (int z2)) ∧ AV.f (int (IntKind.wrap IntKind.i64 ((i : Int) + 1))) = AV.f (int (↑(i + 1) : Int)) ∧ True) ∧ True ∧ E true ∧ (St.nd (Sof c o l (i + 1)) = true → false = true)) False)) ∧ Br (decide ((N : Int) < z2)) ((E 8 ∧ (0 : Int) ≤ (N : Int) ∧ (cellsPs l)[N]? = some (int (V.kind (Prod.fst z1)) :: int (V.num (Prod.fst z1)) :: str (V.text (Prod.fst z1)) :: encI (V.items (Prod.fst z1)) :: cellsP (Prod.snd z1))) ∧ E true ∧ CallsF P G 66 [encV (Prod.fst z1)] (encV (Prod.fst z1)) ∧ CallsF P G 66 [encV (Prod.snd z1)] (encV (Prod.snd z1)) ∧ CallsF P G 65 [FV.ptr [int o, int z4, encT (Prod.fst (ofT c l N))] 0, encV (Prod.fst z1), encV (Prod.snd z1)] (FV.ptr [int o, int (↑(Prod.snd z3) : Int), encT (Prod.fst z3)] 0) ∧ False) (E (FV.tup [FV.ptr [int o, int z4, encT (Prod.fst (ofT c l N))] 0, int 0]))) get10 ent10 (by kernel_rfl) ?_
  refine ⟨?_, rfl, ?_, rfl, ⟨rfl, ⟨?_, rfl, rfl, ?_, trivial⟩, trivial, rfl, fun hi => ?_⟩, fun i => fun hlt => ⟨fun hi => ⟨⟨rfl, ?_, ?_⟩, rfl, ?_, ?_, ?_, rfl, ⟨?_, rfl, rfl, ?_, trivial⟩, trivial, rfl, fun hi => ?_⟩, fun hi => ?_⟩, fun hi => ⟨⟨rfl, ?_, ?_⟩, rfl, ?_, ?_, ?_, ?_⟩, fun hi => rfl⟩
  all_goals first | exact new_ok _ ho | exact hck | exact hw i (by omega) | exact cellsPs_get l _ (by omega) | exact own2_ok _ (allP hf (by omega)).1 | exact own2_ok _ (allP hf (by omega)).2.1 | (simp only [cellsPs_length, decide_eq_true_eq, decide_eq_false_iff_not] at *; omega) | (exact congrArg (fun x => AV.f (int x)) (wrapS ((i : Int) + 1) (by omega) (by omega))) | assumption | (simp [V.kind, V.num, V.text, V.items, *]; done) | rfl
end Go.Sx
set_option maxRecDepth 100000
set_option maxHeartbeats 4000000
set_option linter.unusedSimpArgs false
set_option linter.unusedVariables false
namespace Go.Sx
open Go.Proofs Sp
theorem count_one (k n : Int) (s : List UInt8) (d m : Int) (hp : plainB (.mk k n s []) = true) (h5 : k ≠ 5) (h6 : k ≠ 6) (hm : 1 ≤ m) : countV (.mk k n s []) d m = 1 := by
  simp [countV, badV, hp, formB, countL, h5, h6]
  omega
theorem right_mkI (n : Int) : rightB (mkI n) = true := by simp [rightB, mkI, count_one 2 n [] 16 1024 (by simp [plainB]) (by omega) (by omega) (by omega)]
theorem right_nilW : rightB nilW = true := by simp [rightB, nilW, count_one 0 0 [] 16 1024 (by simp [plainB]) (by omega) (by omega) (by omega)]
theorem fine_mkI (n : Int) (h : -9223372036854775808 ≤ n ∧ n ≤ 9223372036854775807) : Fine (mkI n) := Fine.mk 2 n [] [] (by omega) h (by simp) (by simp) (by simp)
theorem fine_nilW : Fine nilW := Fine.mk 0 0 [] [] (by omega) (by omega) (by simp) (by simp) (by simp)
theorem of_ok {c : V → V → Int} {o : Int} (hC : CmpC c o) (ho : 0 ≤ o ∧ o ≤ 5) {l : List (V × V)} (hl : l.length ≤ 65536) (hf : ∀ q, q ∈ l → RP q) : CallsF P G 10 [int o, encPs l] (.tup [encX o (ofT c l l.length), int 0]) :=
  of_run c o l l.length ho hl rfl hf (checked_all l l.length hl (Nat.le_refl _) (fun p hp => ⟨(hf p hp).1, (hf p hp).2.1⟩) (fun i hi => pairE_zero (allP hf hi).2.2.1 (allP hf hi).2.2.2) rfl)
    (fun i hi => with_put hC (ofT_ok hf i (by omega)).1 (by have := (ofT_ok (c := c) hf i (by omega)).2; omega) (allP hf hi))
end Go.Sx

/-
  Proved: what some functions of the program answer, or a law of the evaluator that shows it, one theorem each; its conditions are the hypotheses that stand ahead of it.
-/
import Derived.Test.YtgbkobkiomeokaaGreatDoorO1
import Derived.Test.YtgbkobkiomeokaaGreatDoorPSt
import Derived.KernelRfl
set_option maxRecDepth 100000
set_option maxHeartbeats 4000000
set_option linter.unusedSimpArgs false
set_option linter.unusedVariables false
namespace Go.Sx
open Go.Proofs Sp
/-- A number as a value; a text as a value; no value. -/
def mkI (n : Int) : V := .mk 2 n [] []
def mkT (s : List UInt8) : V := .mk 3 0 s []
def Smost (n : Int) (i : Nat) : St := { sl := slots 16 [(0, .f (int n)), (3, .f (int (i : Int)))], ob := [], nx := 0 }
theorem bits_spec : ∀ (f n h : Nat), (∀ j, j < h → 2 ^ j ≤ n) → h + f = 60 → (∀ j, j < T.bits f n h → 2 ^ j ≤ n ∧ j < 60) ∧ T.bits f n h ≤ 60 ∧ (T.bits f n h = 60 ∨ n < 2 ^ T.bits f n h)
  | 0, n, h, hj, hf => by simp only [T.bits]; exact ⟨fun j h1 => ⟨hj j h1, by omega⟩, by omega, .inl (by omega)⟩
  | f + 1, n, h, hj, hf => by
    simp only [T.bits]
    split
    · rename_i h1
      exact bits_spec f n (h + 1) (fun j h2 => by
        rcases Nat.lt_or_ge j h with h3 | h3
        · exact hj j h3
        · rw [show j = h from by omega]; exact h1) (by omega)
    · rename_i h1
      exact ⟨fun j h2 => ⟨hj j h2, by omega⟩, by omega, .inr (by omega)⟩
theorem shl1 (i : Nat) (h : i ≤ 60) : IntKind.i64.wrap (1 * 2 ^ (min i IntKind.i64.bits)) = ((2 ^ i : Nat) : Int) := by
  have h1 : (2 ^ i : Nat) ≤ 2 ^ 60 := Nat.pow_le_pow_right (by omega) h
  rw [show min i IntKind.i64.bits = i from by simp [IntKind.bits]; omega, Int.one_mul]
  rw [show ((2 : Int) ^ i) = ((2 ^ i : Nat) : Int) by simp]
  generalize 2 ^ i = m at *
  exact wrapS _ (by omega) (by omega)
theorem get28 : P.funcs[28]? = some Tryz.f28 := by kernel_rfl
theorem ent28 : entersP P 28 = true := by kernel_rfl
theorem plainInt_ok (n : Int)  : CallsF P G 28 [int n] (.agg [int 2, int n, str [], .nils]) := by
  refine sx_fn (hs := []) (E (FV.agg [int 2, int n, str [], FV.nils])) get28 ent28 (by kernel_rfl) ?_
  rfl
theorem get29 : P.funcs[29]? = some Tryz.f29 := by kernel_rfl
theorem ent29 : entersP P 29 = true := by kernel_rfl
theorem plainText_ok (s : List UInt8)  : CallsF P G 29 [str s] (.agg [int 3, int 0, str s, .nils]) := by
  refine sx_fn (hs := []) (E (FV.agg [int 3, int 0, str s, FV.nils])) get29 ent29 (by kernel_rfl) ?_
  rfl
theorem get45 : P.funcs[45]? = some Tryz.f45 := by kernel_rfl
theorem ent45 : entersP P 45 = true := by kernel_rfl
theorem most_run (n N : Nat) (hn : n < 1000000) (hN : N ≤ 60) (hj : ∀ j, j < N → 2 ^ j ≤ n ∧ j < 60) (h2 : N = 60 ∨ n < 2 ^ N) : CallsF P G 45 [int (n : Int)] (int ((2 * N : Nat) : Int)) := by
  refine sx_fn (hs := [.loop [] [] (Smost (n : Int)) (N) (fun i => [.br [.br [] []] [.dec false]]), .br [.br [] []] [.dec false]]) (let z1 := IntKind.wrap IntKind.i64 (2 * (N : Int)); (E true ∧ (E (AV.f (int (n : Int))) ∧ AV.f (int 0) = AV.f (int (Int.ofNat 0)) ∧ True) ∧ True ∧ E true ∧ (false = true → false = true)) ∧ (∀ (i : Nat), i < N → Br (decide (IntKind.wrap IntKind.i64 (1 * 2 ^ min i (IntKind.bits IntKind.i64)) ≤ (n : Int))) (Br (decide ((i : Int) < 60)) (E true ∧ (E (AV.f (int (n : Int))) ∧ AV.f (int (IntKind.wrap IntKind.i64 ((i : Int) + 1))) = AV.f (int (↑(i + 1) : Int)) ∧ True) ∧ True ∧ E true ∧ (St.nd (Smost (n : Int) (i + 1)) = true → false = true)) False) (E false ∧ False)) ∧ Br (decide (IntKind.wrap IntKind.i64 (1 * 2 ^ min N (IntKind.bits IntKind.i64)) ≤ (n : Int))) (Br (decide ((N : Int) < 60)) False (int z1 = int (↑(2 * N) : Int))) (E false ∧ int z1 = int (↑(2 * N) : Int))) get45 ent45 (by kernel_rfl) ?_
  refine ⟨⟨rfl, ⟨rfl, ?_, trivial⟩, trivial, rfl, fun hi => ?_⟩, fun i => fun hlt => ⟨fun hi => ⟨fun hi => ⟨rfl, ⟨rfl, ?_, trivial⟩, trivial, rfl, fun hi => ?_⟩, fun hi => ?_⟩, fun hi => ⟨rfl, ?_⟩⟩, fun hi => ⟨fun hi => ?_, fun hi => ?_⟩, fun hi => ⟨rfl, ?_⟩⟩
  all_goals first | (rw [shl1 _ (by omega)] at *; simp only [decide_eq_true_eq, decide_eq_false_iff_not] at *; omega) | (exfalso; have h8 := hj i hlt; rw [shl1 i (by omega)] at *; simp only [decide_eq_true_eq, decide_eq_false_iff_not] at *; omega) | (exact congrArg int (by rw [wrapS _ (by omega) (by omega)]; omega)) | assumption | (exact congrArg (fun x => AV.f (int x)) (by (try simp only [cellsVs_length, List.length_append, List.length_map, List.length_take, List.length_drop, List.length_reverse, List.length_set, List.length_replicate, chunk, List.length_cons, List.length_nil, Int.toNat_natCast, V.items, maxLen]); rw [wrapS _ (by omega) (by omega)]; (try omega))) | (simp [V.kind, V.num, V.text, V.items, *]; done)
theorem int_ok (n : Int) : CallsF P G 28 [int n] (encV (mkI n)) := (plainInt_ok n).weak (nilV 2 n [])
theorem text_ok (s : List UInt8) : CallsF P G 29 [str s] (encV (mkT s)) := (plainText_ok s).weak (nilV 3 0 s)
end Go.Sx
set_option maxRecDepth 100000
set_option maxHeartbeats 4000000
set_option linter.unusedSimpArgs false
set_option linter.unusedVariables false
namespace Go.Sx
open Go.Proofs Sp
/-- A map with a pair put in, and one with a key taken out: its tree, and how many keys it has. -/
def putT (c : V → V → Int) (x : T × Nat) (k v : V) : T × Nat := ((T.insert c k v x.1).blackened, if (T.find c k x.1).isNil then x.2 + 1 else x.2)
def ofT (c : V → V → Int) (l : List (V × V)) : Nat → T × Nat
  | 0 => (.nil, 0)
  | i + 1 => putT c (ofT c l i) (l.getD i default).1 (l.getD i default).2
def encX (o : Int) (x : T × Nat) : FV := encM o (x.2 : Int) x.1
noncomputable def RP (q : V × V) : Prop := Fine q.1 ∧ Fine q.2 ∧ rightB q.1 = true ∧ rightB q.2 = true
noncomputable def OkX (x : T × Nat) : Prop := T.Good RP x.2 x.1
/-- What a map's order answers. -/
def CmpC (c : V → V → Int) (o : Int) : Prop := ∀ (n : Int) (t : T) (a b : V), Fine a → Fine b → rightB a = true → rightB b = true → CallsF P G 20 [encM o n t, encV a, encV b] (int (c a b))
def Sof (c : V → V → Int) (o : Int) (l : List (V × V)) (i : Nat) : St := { sl := slots 38 [(6, .f (encX o (ofT c l i))), (22, .f (encPs l)), (23, .f (int (cellsPs l).length)), (24, .f (int (i : Int)))], ob := [], nx := 0 }
theorem okX_nil : OkX (.nil, 0) := T.good_nil _
theorem okX_put {x : T × Nat} (c : V → V → Int) (h : OkX x) {k v : V} (hp : RP (k, v)) : OkX (putT c x k v) := T.good_insert c k v h hp
theorem put_le (c : V → V → Int) (x : T × Nat) (k v : V) : (putT c x k v).2 ≤ x.2 + 1 := by simp only [putT]; split <;> omega
theorem ofT_ok {c : V → V → Int} {l : List (V × V)} (hl : ∀ q, q ∈ l → RP q) : ∀ i, i ≤ l.length → OkX (ofT c l i) ∧ (ofT c l i).2 ≤ i
  | 0, _ => ⟨okX_nil, Nat.le_refl _⟩
  | i + 1, hi => by
    obtain ⟨h1, h2⟩ := ofT_ok hl i (by omega)
    have hm : l.getD i default ∈ l := by rw [List.getD_eq_getElem?_getD, List.getElem?_eq_getElem (by omega)]; exact List.getElem_mem (by omega)
    refine ⟨okX_put c h1 (hl _ hm), Nat.le_trans (put_le _ _ _ _) (by omega)⟩
theorem withM_put (c : V → V → Int) (o : Int) (x : T × Nat) (k v : V) : withM c o (x.2 : Int) x.1 k v = encX o (putT c x k v) := by
  simp only [withM, withN, encX, putT]
  split <;> simp
theorem cmpX {c : V → V → Int} {o : Int} (hC : CmpC c o) {x : T × Nat} (hx : OkX x) {k : V} (hk : Fine k) (hr : rightB k = true) (n : Int) (t : T) : ∀ y, y ∈ x.1.toList.map (·.1) → CallsF P G 20 [encM o n t, encV k, encV y] (int (c k y)) := by
  intro y hy
  obtain ⟨q, h1, rfl⟩ := List.mem_map.mp hy
  have h2 := hx.2.2.2 q h1
  exact hC n t k q.1 hk h2.1 hr h2.2.2.1
theorem with_put {c : V → V → Int} {o : Int} (hC : CmpC c o) {x : T × Nat} (hx : OkX x) (hn : x.2 ≤ 1000000) {k v : V} (hp : RP (k, v)) : CallsF P G 15 [encX o x, encV k, encV v] (encX o (putT c x k v)) := by
  have h := with_ok c o (x.2 : Int) x.1 k v ⟨by omega, by omega⟩ (cmpX hC hx hp.1 hp.2.2.1 _ _) (insert_ok c _ _ k v x.1 (cmpX hC hx hp.1 hp.2.2.1 _ _))
  rw [withM_put] at h
  exact h
theorem pairE_zero {k v : V} (h1 : rightB k = true) (h2 : rightB v = true) : pairE k v = 0 := by simp [pairE, h1, h2]
theorem most_ok (n : Nat) (hn : n < 1000000) : CallsF P G 45 [int (n : Int)] (int (T.most n : Nat)) := by
  obtain ⟨h1, h2, h3⟩ := bits_spec 60 n 0 (by simp) rfl
  exact most_run n (T.bits 60 n 0) hn h2 h1 h3
theorem allP {l : List (V × V)} {p : V × V → Prop} (h : ∀ x, x ∈ l → p x) {i : Nat} (hi : i < l.length) : p (l.getD i default) := by
  rw [List.getD_eq_getElem?_getD, List.getElem?_eq_getElem hi]; exact h _ (List.getElem_mem hi)
theorem get27 : P.funcs[27]? = some Tryz.f27 := by kernel_rfl
theorem ent27 : entersP P 27 = true := by kernel_rfl
theorem flat_run (o : Int) (n : Nat) (t : T) (hn : n < 1000000) (hh : t.height ≤ 1152921504606846976) (h1 : t.height ≤ T.most n) (h2 : t.height = 0 ↔ n = 0) : CallsF P G 27 [encM o (n : Int) t] (bool true) := by
  refine sx_fn (hs := [.call (int (↑(T.height t) : Int)), .dec true, .call (int (n : Int)), .call (int (↑(T.most n) : Int)), .br [.call (int (n : Int))] []]) (CallsF P G 31 [encM o (n : Int) t] (int (↑(T.height t) : Int)) ∧ E true ∧ CallsF P G 23 [encM o (n : Int) t] (int (n : Int)) ∧ CallsF P G 45 [int (n : Int)] (int (↑(T.most n) : Int)) ∧ Br (decide ((↑(T.height t) : Int) ≤ (↑(T.most n) : Int))) (CallsF P G 23 [encM o (n : Int) t] (int (n : Int)) ∧ bool (((↑(T.height t) : Int) == 0) == ((n : Int) == 0)) = bool true) (bool false = bool true)) get27 ent27 (by kernel_rfl) ?_
  refine ⟨?_, rfl, ?_, ?_, fun hi => ⟨?_, ?_⟩, fun hi => ?_⟩
  all_goals first | exact mheight_ok _ _ _ (height_ok _ hh) | exact most_ok _ hn | (simp only [decide_eq_true_eq, decide_eq_false_iff_not] at *; omega) | (have h3 : (((t.height : Int)) == 0) = (((n : Int)) == 0) := (by rw [Bool.eq_iff_iff]; simp only [beq_iff_eq]; omega); simp_all; done) | exact len_ok _ _ _
theorem get4 : P.funcs[4]? = some Tryz.f4 := by kernel_rfl
theorem ent4 : entersP P 4 = true := by kernel_rfl
theorem of_run (c : V → V → Int) (o : Int) (l : List (V × V)) (N : Nat) (ho : 0 ≤ o ∧ o ≤ 5) (hl : l.length ≤ 65536) (hN : N = l.length) (hf : ∀ q, q ∈ l → RP q) (hck : CallsF P G 14 [encPs l] (int 0))
  (hw : ∀ i, i < l.length → CallsF P G 15 [encX o (ofT c l i), encV (l.getD i default).1, encV (l.getD i default).2] (encX o (putT c (ofT c l i) (l.getD i default).1 (l.getD i default).2))) : CallsF P G 4 [int o, encPs l] (.tup [encX o (ofT c l N), int 0]) := by
  refine sx_fn (hs := let z1 := List.getD l N default; [.call (FV.tup [encM o 0 T.nil, int 0]), .dec true, .call (int 0), .dec false, .loop [] [] (Sof c o l) (N) (fun i => [.br [.el (cellsP (Prod.fst (List.getD l i default)) ++ cellsP (Prod.snd (List.getD l i default))), .nat 8, .call (encV (Prod.fst (List.getD l i default))), .call (encV (Prod.snd (List.getD l i default))), .call (encX o (putT c (ofT c l i) (Prod.fst (List.getD l i default)) (Prod.snd (List.getD l i default))))] []]), .br [.el (cellsP (Prod.fst z1) ++ cellsP (Prod.snd z1)), .nat 8, .call (encV (Prod.fst z1)), .call (encV (Prod.snd z1)), .call (encX o (putT c (ofT c l N) (Prod.fst z1) (Prod.snd z1)))] []]) (let z1 := List.getD l N default; let z2 := (↑(List.length (cellsPs l)) : Int); let z3 := putT c (ofT c l N) (Prod.fst z1) (Prod.snd z1); let z4 := (↑(Prod.snd (ofT c l N)) : Int); CallsF P G 13 [int o] (FV.tup [encM o 0 T.nil, int 0]) ∧ E true ∧ CallsF P G 14 [FV.sl 8 (cellsPs l)] (int 0) ∧ E false ∧ (E true ∧ (AV.f (encM o 0 T.nil) = AV.f (FV.ptr [int o, int (↑(Prod.snd (ofT c l 0)) : Int), encT (Prod.fst (ofT c l 0))] 0) ∧ E (AV.f (FV.sl 8 (cellsPs l))) ∧ E (AV.f (int z2)) ∧ AV.f (int 0) = AV.f (int (Int.ofNat 0)) ∧ True) ∧ True ∧ E true ∧ (false = true → false = true)) ∧ (∀ (i : Nat), (let z5 := List.getD l i default; let z7 := putT c (ofT c l i) (Prod.fst z5) (Prod.snd z5); let z6 := FV.ptr [int o, int (↑(Prod.snd z7) : Int), encT (Prod.fst z7)] 0; i < N → Br (decide ((i : Int) < z2)) ((E 8 ∧ (0 : Int) ≤ (i : Int) ∧ (cellsPs l)[i]? = some (int (V.kind (Prod.fst z5)) :: int (V.num (Prod.fst z5)) :: str (V.text (Prod.fst z5)) :: encI (V.items (Prod.fst z5)) :: cellsP (Prod.snd z5))) ∧ E true ∧ CallsF P G 16 [encV (Prod.fst z5)] (encV (Prod.fst z5)) ∧ CallsF P G 16 [encV (Prod.snd z5)] (encV (Prod.snd z5)) ∧ CallsF P G 15 [FV.ptr [int o, int (↑(Prod.snd (ofT c l i)) : Int), encT (Prod.fst (ofT c l i))] 0, encV (Prod.fst z5), encV (Prod.snd z5)] z6 ∧ E true ∧ (AV.f z6 = AV.f (FV.ptr [int o, int (↑(Prod.snd (ofT c l (i + 1))) : Int), encT (Prod.fst (ofT c l (i + 1)))] 0) ∧ E (AV.f (FV.sl 8 (cellsPs l))) ∧ E (AV.f (int z2)) ∧ AV.f (int (IntKind.wrap IntKind.i64 ((i : Int) + 1))) = AV.f (int (↑(i + 1) : Int)) ∧ True) ∧ True ∧ E true ∧ (St.nd (Sof c o l (i + 1)) = true → false = true)) False)) ∧ Br (decide ((N : Int) < z2)) ((E 8 ∧ (0 : Int) ≤ (N : Int) ∧ (cellsPs l)[N]? = some (int (V.kind (Prod.fst z1)) :: int (V.num (Prod.fst z1)) :: str (V.text (Prod.fst z1)) :: encI (V.items (Prod.fst z1)) :: cellsP (Prod.snd z1))) ∧ E true ∧ CallsF P G 16 [encV (Prod.fst z1)] (encV (Prod.fst z1)) ∧ CallsF P G 16 [encV (Prod.snd z1)] (encV (Prod.snd z1)) ∧ CallsF P G 15 [FV.ptr [int o, int z4, encT (Prod.fst (ofT c l N))] 0, encV (Prod.fst z1), encV (Prod.snd z1)] (FV.ptr [int o, int (↑(Prod.snd z3) : Int), encT (Prod.fst z3)] 0) ∧ False) (E (FV.tup [FV.ptr [int o, int z4, encT (Prod.fst (ofT c l N))] 0, int 0]))) get4 ent4 (by kernel_rfl) ?_
  refine ⟨?_, rfl, ?_, rfl, ⟨rfl, ⟨?_, rfl, rfl, ?_, trivial⟩, trivial, rfl, fun hi => ?_⟩, fun i => fun hlt => ⟨fun hi => ⟨⟨rfl, ?_, ?_⟩, rfl, ?_, ?_, ?_, rfl, ⟨?_, rfl, rfl, ?_, trivial⟩, trivial, rfl, fun hi => ?_⟩, fun hi => ?_⟩, fun hi => ⟨⟨rfl, ?_, ?_⟩, rfl, ?_, ?_, ?_, ?_⟩, fun hi => rfl⟩
  all_goals first | exact new_ok _ ho | exact hck | exact hw i (by omega) | exact cellsPs_get l _ (by omega) | exact own2_ok _ (allP hf (by omega)).1 | exact own2_ok _ (allP hf (by omega)).2.1 | (simp only [cellsPs_length, decide_eq_true_eq, decide_eq_false_iff_not] at *; omega) | (exact congrArg (fun x => AV.f (int x)) (wrapS ((i : Int) + 1) (by omega) (by omega))) | assumption | (simp [V.kind, V.num, V.text, V.items, *]; done) | rfl
end Go.Sx
set_option maxRecDepth 100000
set_option maxHeartbeats 4000000
set_option linter.unusedSimpArgs false
set_option linter.unusedVariables false
namespace Go.Sx
open Go.Proofs Sp
/-- The map that the law's own two pairs make. -/
def tS : T := .node false (.node true .nil .nil (mkI 2) (mkT [98])) .nil (mkI 1) (mkT [97])
theorem count_one (k n : Int) (s : List UInt8) (d m : Int) (hp : plainB (.mk k n s []) = true) (h5 : k ≠ 5) (h6 : k ≠ 6) (hm : 1 ≤ m) : countV (.mk k n s []) d m = 1 := by
  simp [countV, badV, hp, formB, countL, h5, h6]
  omega
theorem right_mkI (n : Int) : rightB (mkI n) = true := by simp [rightB, mkI, count_one 2 n [] 16 1024 (by simp [plainB]) (by omega) (by omega) (by omega)]
theorem cmp_mkI (a b : Int) : cmpV (mkI a) (mkI b) = cmpI a b := by simp [mkI, cmpV_mk]
theorem fine_mkI (n : Int) (h : -9223372036854775808 ≤ n ∧ n ≤ 9223372036854775807) : Fine (mkI n) := Fine.mk 2 n [] [] (by omega) h (by simp) (by simp) (by simp)
theorem fine_mkT (s : List UInt8) (h : s.length ≤ 1000) : Fine (mkT s) := Fine.mk 3 0 s [] (by omega) (by omega) (by omega) (by simp) (by simp)
theorem flat_ok {o : Int} {x : T × Nat} (hx : OkX x) (hn : x.2 < 65537) : CallsF P G 27 [encX o x] (bool true) := by
  obtain ⟨h1, h2⟩ := T.good_height hx (by omega)
  have h3 : T.most x.2 ≤ 120 := by have := (bits_spec 60 x.2 0 (by simp) rfl).2.1; unfold T.most; omega
  exact flat_run o x.2 x.1 (by omega) (by omega) h1 h2
theorem cmpC1 : CmpC (fun a b => cmpV b a) 1 := mcmp_1
theorem of_ok {c : V → V → Int} {o : Int} (hC : CmpC c o) (ho : 0 ≤ o ∧ o ≤ 5) {l : List (V × V)} (hl : l.length ≤ 65536) (hf : ∀ q, q ∈ l → RP q) : CallsF P G 4 [int o, encPs l] (.tup [encX o (ofT c l l.length), int 0]) :=
  of_run c o l l.length ho hl rfl hf (checked_all l l.length hl (Nat.le_refl _) (fun p hp => ⟨(hf p hp).1, (hf p hp).2.1⟩) (fun i hi => pairE_zero (allP hf hi).2.2.1 (allP hf hi).2.2.2) rfl)
    (fun i hi => with_put hC (ofT_ok hf i (by omega)).1 (by have := (ofT_ok (c := c) hf i (by omega)).2; omega) (allP hf hi))
theorem right_mkT (s : List UInt8) (h0 : s.length ≤ 256) (h : utfB ⟨s.toArray⟩ = true) : rightB (mkT s) = true := by simp [rightB, mkT, count_one 3 0 s 16 1024 (by simp [plainB, h, h0]) (by omega) (by omega) (by omega)]
open Classical in
theorem utf_one (b : UInt8) (h : (Utf8.decode ⟨#[b]⟩ 0).1 ≠ 65533) : utfB ⟨#[b]⟩ = true := by
  unfold utfB
  rw [decide_eq_true_iff]
  intro i hi h2
  have h3 := posAt_ge ⟨#[b]⟩ i
  have h4 : (⟨#[b]⟩ : ByteArray).size = 1 := rfl
  obtain rfl : i = 0 := by omega
  exact h h2.1
theorem utf_a : utfB ⟨#[97]⟩ = true := utf_one 97 (by decide +kernel)
theorem utf_b : utfB ⟨#[98]⟩ = true := utf_one 98 (by decide +kernel)
theorem rp_pairs : ∀ q, q ∈ [(mkI 1, mkT [97]), (mkI 2, mkT [98])] → RP q := by
  intro q hq
  simp only [List.mem_cons, List.not_mem_nil, or_false] at hq
  rcases hq with rfl | rfl
  · exact ⟨fine_mkI _ (by omega), fine_mkT _ (by simp), right_mkI _, right_mkT _ (by simp) utf_a⟩
  · exact ⟨fine_mkI _ (by omega), fine_mkT _ (by simp), right_mkI _, right_mkT _ (by simp) utf_b⟩
theorem of_pairs : ofT (fun a b => cmpV b a) [(mkI 1, mkT [97]), (mkI 2, mkT [98])] 2 = (tS, 2) := by
  have h : cmpV (mkI 1) (mkI 2) = -1 := by rw [cmp_mkI]; simp [cmpI]
  simp [ofT, putT, T.insert, T.find, T.blackened, T.balance, T.like, h, tS]
theorem encS : encPs [(mkI 1, mkT [97]), (mkI 2, mkT [98])] = .sl 8 [cellsP (mkI 1) ++ cellsP (mkT [97]), cellsP (mkI 2) ++ cellsP (mkT [98])] := by simp [encPs, cellsPs]
theorem of_two : CallsF P G 4 [int 1, .sl 8 [cellsP (mkI 1) ++ cellsP (mkT [97]), cellsP (mkI 2) ++ cellsP (mkT [98])]] (.tup [encM 1 2 tS, int 0]) := by
  have h := of_ok cmpC1 (by omega) (l := [(mkI 1, mkT [97]), (mkI 2, mkT [98])]) (by simp) rp_pairs
  rw [show ([(mkI 1, mkT [97]), (mkI 2, mkT [98])] : List (V × V)).length = 2 from rfl, of_pairs, encS] at h
  exact h
theorem rp_tS : ∀ q, q ∈ tS.toList → RP q := by
  intro q hq
  apply rp_pairs q
  simp [tS, T.toList] at hq ⊢
  exact hq.symm
theorem pairs_two : CallsF P G 25 [encM 1 2 tS] (.sl 8 [cellsP (mkI 2) ++ cellsP (mkT [98]), cellsP (mkI 1) ++ cellsP (mkT [97])]) := by
  have h := pairs_ok 1 2 tS (fun p hp => ⟨(rp_tS p hp).1, (rp_tS p hp).2.1⟩) (by simp [tS, T.size])
  rw [show encPs tS.toList = .sl 8 [cellsP (mkI 2) ++ cellsP (mkT [98]), cellsP (mkI 1) ++ cellsP (mkT [97])] by simp [encPs, cellsPs, tS, T.toList]] at h
  exact h
theorem get_two : CallsF P G 30 [encM 1 2 tS, encV (mkI 1)] (.tup [encV (mkT [97]), bool true, int 0]) := by
  have hf : T.find (fun a b => cmpV b a) (mkI 1) tS = tS := by
    have h : cmpV (mkI 1) (mkI 1) = 0 := by rw [cmp_mkI]; simp [cmpI]
    simp [tS, T.find, h]
  have h := get_some (fun a b => cmpV b a) 1 2 tS (mkI 1) (fine_mkI _ (by omega)) (right_mkI _) (fun y hy => by
    obtain ⟨q, h1, rfl⟩ := List.mem_map.mp hy
    have h2 := rp_tS q h1
    exact cmpC1 2 tS _ _ (fine_mkI _ (by omega)) h2.1 (right_mkI _) h2.2.2.1) (by rw [hf]; rfl) (by rw [hf]; exact fine_mkT _ (by simp))
  rw [hf] at h
  exact h
theorem height_two : CallsF P G 31 [encM 1 2 tS] (int 2) := mheight_ok 1 2 tS (height_ok tS (by simp [tS, T.height]))
theorem get9 : P.funcs[9]? = some Tryz.f9 := by kernel_rfl
theorem ent9 : entersP P 9 = true := by kernel_rfl
theorem speaks_ok   : CallsF P G 9 [] (bool true) := by
  refine sx_fn (hs := [.call (encV (mkI (Int.ofNat 1))), .call (encV (mkT [97])), .call (encV (mkI (Int.ofNat 2))), .call (encV (mkT [98])), .lfz [0], .call (FV.tup [encM 1 2 tS, int 0]), .dec false, .dec false, .call (FV.sl 8 [cellsP (mkI 2) ++ cellsP (mkT [98]), cellsP (mkI 1) ++ cellsP (mkT [97])]), .call (encV (mkI (Int.ofNat 1))), .call (FV.tup [encV (mkT [97]), bool true, int 0]), .dec true, .dec true, .dec true, .dec true, .el ([int 2, int 2, str (V.text (mkI 2)), FV.sl 4 [], int 3, int 0, str (V.text (mkT [98])), FV.sl 4 []]), .dec true, .call (int 2)]) (let z1 := V.text (mkI (Int.ofNat 1)); let z2 := FV.agg [int 2, int 1, str z1, FV.sl 4 []]; CallsF P G 28 [int 1] z2 ∧ CallsF P G 29 [str [97]] (FV.agg [int 3, int 0, str (V.text (mkT [97])), FV.sl 4 []]) ∧ CallsF P G 28 [int 2] (FV.agg [int 2, int 2, str (V.text (mkI (Int.ofNat 2))), FV.sl 4 []]) ∧ CallsF P G 29 [str [98]] (FV.agg [int 3, int 0, str (V.text (mkT [98])), FV.sl 4 []]) ∧ CallsF P G 4 [int 1, FV.sl 8 [[int 2, int 1, str z1, FV.sl 4 [], int 3, int 0, str (V.text (mkT [97])), FV.sl 4 []], [int 2, int 2, str (V.text (mkI (Int.ofNat 2))), FV.sl 4 [], int 3, int 0, str (V.text (mkT [98])), FV.sl 4 []]]] (FV.tup [encM 1 2 tS, int 0]) ∧ E false ∧ E false ∧ CallsF P G 25 [encM 1 2 tS] (FV.sl 8 [[int 2, int 2, str (V.text (mkI 2)), FV.sl 4 [], int 3, int 0, str (V.text (mkT [98])), FV.sl 4 []], [int 2, int 1, str (V.text (mkI 1)), FV.sl 4 [], int 3, int 0, str (V.text (mkT [97])), FV.sl 4 []]]) ∧ CallsF P G 28 [int 1] z2 ∧ CallsF P G 30 [encM 1 2 tS, FV.agg [int 2, int 1, str z1, FV.sl 4 []]] (FV.tup [FV.agg [int 3, int 0, str (V.text (mkT [97])), FV.sl 4 []], bool true, int 0]) ∧ E true ∧ E true ∧ E true ∧ E true ∧ (E 8 ∧ (0 : Int) ≤ 0 ∧ E (some [int 2, int 2, str (V.text (mkI 2)), FV.sl 4 [], int 3, int 0, str (V.text (mkT [98])), FV.sl 4 []])) ∧ E true ∧ CallsF P G 31 [encM 1 2 tS] (int 2) ∧ E (bool true)) get9 ent9 (by kernel_rfl) ?_
  refine ⟨?_, ?_, ?_, ?_, ?_, rfl, rfl, ?_, ?_, ?_, rfl, rfl, rfl, rfl, ⟨rfl, ?_, rfl⟩, rfl, ?_, rfl⟩
  all_goals first | exact int_ok _ | exact text_ok _ | exact of_two | exact pairs_two | exact get_two | exact height_two | omega
end Go.Sx

/-
  Proved: what some functions of the program answer, or a law of the evaluator that shows it, one theorem each; its conditions are the hypotheses that stand ahead of it.
-/
import Derived.Test.YtkbaoibplojjlaaDoorL2
import Derived.KernelRfl
set_option maxRecDepth 100000
set_option maxHeartbeats 4000000
set_option linter.unusedSimpArgs false
set_option linter.unusedVariables false
namespace Go.Sx
open Go.Proofs Sp
/-- The map that the law's own two pairs make. -/
def tS : T := .node false (.node true .nil .nil (mkI 2) (mkT [98])) .nil (mkI 1) (mkT [97])
/-- The keys of the law, and the maps behind i steps. -/
def keyM (s : Int) (i : Nat) : V := mkI (IntKind.i64.wrap ((i : Int) * s))
noncomputable def manyT (s : Int) : Nat → T × Nat
  | 0 => (.nil, 0)
  | i + 1 => putT cmpV (manyT s i) (keyM s i) nilW
noncomputable def lessT (s : Int) (x : T × Nat) : Nat → T × Nat
  | 0 => x
  | i + 1 => cutT cmpV (lessT s x i) (keyM s i)
noncomputable def Smany (s : Int) (n : Nat) (i : Nat) : St := { sl := slots 79 [(0, .f (int (n : Int))), (1, .f (int s)), (5, .f (encX 0 (manyT s i))), (7, .f (int (i : Int)))], ob := [], nx := 0 }
noncomputable def Sless (s : Int) (n : Nat) (x : T × Nat) (i : Nat) : St := { sl := slots 79 [(0, .f (int (n : Int))), (1, .f (int s)), (5, .f (encX 0 (lessT s x i))), (8, .f (int (i : Int)))], ob := [], nx := 0 }
theorem count_one (k n : Int) (s : List UInt8) (d m : Int) (hp : plainB (.mk k n s []) = true) (h5 : k ≠ 5) (h6 : k ≠ 6) (hm : 1 ≤ m) : countV (.mk k n s []) d m = 1 := by
  simp [countV, badV, hp, formB, countL, h5, h6]
  omega
theorem right_mkI (n : Int) : rightB (mkI n) = true := by simp [rightB, mkI, count_one 2 n [] 16 1024 (by simp [plainB]) (by omega) (by omega) (by omega)]
theorem right_nilW : rightB nilW = true := by simp [rightB, nilW, count_one 0 0 [] 16 1024 (by simp [plainB]) (by omega) (by omega) (by omega)]
theorem cmp_mkI (a b : Int) : cmpV (mkI a) (mkI b) = cmpI a b := by simp [mkI, cmpV_mk]
theorem fine_mkI (n : Int) (h : -9223372036854775808 ≤ n ∧ n ≤ 9223372036854775807) : Fine (mkI n) := Fine.mk 2 n [] [] (by omega) h (by simp) (by simp) (by simp)
theorem fine_nilW : Fine nilW := Fine.mk 0 0 [] [] (by omega) (by omega) (by simp) (by simp) (by simp)
theorem fine_mkT (s : List UInt8) (h : s.length ≤ 1000) : Fine (mkT s) := Fine.mk 3 0 s [] (by omega) (by omega) (by omega) (by simp) (by simp)
theorem wrap_fits (n : Int) : -9223372036854775808 ≤ IntKind.i64.wrap n ∧ IntKind.i64.wrap n ≤ 9223372036854775807 := by
  simp only [IntKind.wrap, IntKind.signed, IntKind.bits]
  simp
  constructor <;> split <;> omega
theorem divN (n : Nat) (h : n ≤ 1500) : IntKind.i64.wrap ((n : Int).tdiv 2) = ((n / 2 : Nat) : Int) := by
  rw [show (n : Int).tdiv 2 = ((n / 2 : Nat) : Int) from by rw [Int.tdiv_eq_ediv_of_nonneg (by omega)]; omega]
  exact wrapS _ (by omega) (by omega)
theorem rp_key (s : Int) (i : Nat) : RP (keyM s i, nilW) := ⟨fine_mkI _ (wrap_fits _), fine_nilW, right_mkI _, right_nilW⟩
theorem manyT_ok (s : Int) : ∀ i, OkX (manyT s i) ∧ (manyT s i).2 ≤ i
  | 0 => ⟨okX_nil, Nat.le_refl _⟩
  | i + 1 => ⟨okX_put _ (manyT_ok s i).1 (rp_key s i), Nat.le_trans (put_le _ _ _ _) (by have := (manyT_ok s i).2; omega)⟩
theorem lessT_ok (s : Int) {x : T × Nat} (hx : OkX x) : ∀ i, OkX (lessT s x i) ∧ (lessT s x i).2 ≤ x.2
  | 0 => ⟨hx, Nat.le_refl _⟩
  | i + 1 => ⟨(okX_cut _ (lessT_ok s hx i).1 _).1, Nat.le_trans (okX_cut _ (lessT_ok s hx i).1 _).2 (lessT_ok s hx i).2⟩
theorem flat_ok {o : Int} {x : T × Nat} (hx : OkX x) (hn : x.2 < 65537) : CallsF P G 23 [encX o x] (bool true) := by
  obtain ⟨h1, h2⟩ := T.good_height hx (by omega)
  have h3 : T.most x.2 ≤ 120 := by have := (bits_spec 60 x.2 0 (by simp) rfl).2.1; unfold T.most; omega
  exact flat_run o x.2 x.1 (by omega) (by omega) h1 h2
theorem cmpC0 : CmpC cmpV 0 := mcmp_0
theorem cmpC1 : CmpC (fun a b => cmpV b a) 1 := mcmp_1
theorem CallsF.nilV3 {f : Nat} {a b : FV} {r : FV} (h : CallsF P G f [a, b, encV nilW] r) : CallsF P G f [a, b, .agg [int 0, int 0, str [], .nils]] r := h.args (by
  intro w ok vs h
  simp only [FRelL] at h ⊢
  obtain ⟨v1, r1, e1, h1, v2, r2, e2, h2, v3, r3, e3, h3, h4⟩ := h
  exact ⟨v1, r1, e1, h1, v2, r2, e2, h2, v3, r3, e3, nilV 0 0 [] w ok v3 h3, h4⟩)
theorem assoc_nil {x : T × Nat} (hx : OkX x) (hn : x.2 < 65536) (s : Int) (i : Nat) : CallsF P G 21 [encX 0 x, encV (keyM s i), .agg [int 0, int 0, str [], .nils]] (.tup [encX 0 (putT cmpV x (keyM s i) nilW), int 0]) :=
  (assoc_put cmpC0 hx hn (rp_key s i)).nilV3
theorem of_ok {c : V → V → Int} {o : Int} (hC : CmpC c o) (ho : 0 ≤ o ∧ o ≤ 5) {l : List (V × V)} (hl : l.length ≤ 65536) (hf : ∀ q, q ∈ l → RP q) : CallsF P G 7 [int o, encPs l] (.tup [encX o (ofT c l l.length), int 0]) :=
  of_run c o l l.length ho hl rfl hf (checked_all l l.length hl (Nat.le_refl _) (fun p hp => ⟨(hf p hp).1, (hf p hp).2.1⟩) (fun i hi => pairE_zero (allP hf hi).2.2.1 (allP hf hi).2.2.2) rfl)
    (fun i hi => with_put hC (ofT_ok hf i (by omega)).1 (by have := (ofT_ok (c := c) hf i (by omega)).2; omega) (allP hf hi))
theorem right_mkT (s : List UInt8) (h0 : s.length ≤ 256) (h : utfB ⟨s.toArray⟩ = true) : rightB (mkT s) = true := by simp [rightB, mkT, count_one 3 0 s 16 1024 (by simp [plainB, h, h0]) (by omega) (by omega) (by omega)]
open Classical in
theorem utf_one (b : UInt8) (h : (Utf8.decode ⟨#[b]⟩ 0).1 ≠ 65533) : utfB ⟨#[b]⟩ = true := by
  unfold utfB
  rw [decide_eq_true_iff]
  intro i hi h2
  have h3 := posAt_ge ⟨#[b]⟩ i
  have h4 : (⟨#[b]⟩ : ByteArray).size = 1 := rfl
  obtain rfl : i = 0 := by omega
  exact h h2.1
theorem utf_a : utfB ⟨#[97]⟩ = true := utf_one 97 (by decide +kernel)
theorem utf_b : utfB ⟨#[98]⟩ = true := utf_one 98 (by decide +kernel)
theorem rp_pairs : ∀ q, q ∈ [(mkI 1, mkT [97]), (mkI 2, mkT [98])] → RP q := by
  intro q hq
  simp only [List.mem_cons, List.not_mem_nil, or_false] at hq
  rcases hq with rfl | rfl
  · exact ⟨fine_mkI _ (by omega), fine_mkT _ (by simp), right_mkI _, right_mkT _ (by simp) utf_a⟩
  · exact ⟨fine_mkI _ (by omega), fine_mkT _ (by simp), right_mkI _, right_mkT _ (by simp) utf_b⟩
theorem of_pairs : ofT (fun a b => cmpV b a) [(mkI 1, mkT [97]), (mkI 2, mkT [98])] 2 = (tS, 2) := by
  have h : cmpV (mkI 1) (mkI 2) = -1 := by rw [cmp_mkI]; simp [cmpI]
  simp [ofT, putT, T.insert, T.find, T.blackened, T.balance, T.like, h, tS]
theorem encS : encPs [(mkI 1, mkT [97]), (mkI 2, mkT [98])] = .sl 8 [cellsP (mkI 1) ++ cellsP (mkT [97]), cellsP (mkI 2) ++ cellsP (mkT [98])] := by simp [encPs, cellsPs]
theorem of_two : CallsF P G 7 [int 1, .sl 8 [cellsP (mkI 1) ++ cellsP (mkT [97]), cellsP (mkI 2) ++ cellsP (mkT [98])]] (.tup [encM 1 2 tS, int 0]) := by
  have h := of_ok cmpC1 (by omega) (l := [(mkI 1, mkT [97]), (mkI 2, mkT [98])]) (by simp) rp_pairs
  rw [show ([(mkI 1, mkT [97]), (mkI 2, mkT [98])] : List (V × V)).length = 2 from rfl, of_pairs, encS] at h
  exact h
theorem rp_tS : ∀ q, q ∈ tS.toList → RP q := by
  intro q hq
  apply rp_pairs q
  simp [tS, T.toList] at hq ⊢
  exact hq.symm
theorem pairs_two : CallsF P G 9 [encM 1 2 tS] (.sl 8 [cellsP (mkI 2) ++ cellsP (mkT [98]), cellsP (mkI 1) ++ cellsP (mkT [97])]) := by
  have h := pairs_ok 1 2 tS (fun p hp => ⟨(rp_tS p hp).1, (rp_tS p hp).2.1⟩) (by simp [tS, T.size])
  rw [show encPs tS.toList = .sl 8 [cellsP (mkI 2) ++ cellsP (mkT [98]), cellsP (mkI 1) ++ cellsP (mkT [97])] by simp [encPs, cellsPs, tS, T.toList]] at h
  exact h
theorem get_two : CallsF P G 43 [encM 1 2 tS, encV (mkI 1)] (.tup [encV (mkT [97]), bool true, int 0]) := by
  have hf : T.find (fun a b => cmpV b a) (mkI 1) tS = tS := by
    have h : cmpV (mkI 1) (mkI 1) = 0 := by rw [cmp_mkI]; simp [cmpI]
    simp [tS, T.find, h]
  have h := get_some (fun a b => cmpV b a) 1 2 tS (mkI 1) (fine_mkI _ (by omega)) (right_mkI _) (fun y hy => by
    obtain ⟨q, h1, rfl⟩ := List.mem_map.mp hy
    have h2 := rp_tS q h1
    exact cmpC1 2 tS _ _ (fine_mkI _ (by omega)) h2.1 (right_mkI _) h2.2.2.1) (by rw [hf]; rfl) (by rw [hf]; exact fine_mkT _ (by simp))
  rw [hf] at h
  exact h
theorem height_two : CallsF P G 25 [encM 1 2 tS] (int 2) := mheight_ok 1 2 tS (height_ok tS (by simp [tS, T.height]))
theorem get19 : P.funcs[19]? = some Tryd.f19 := by kernel_rfl
theorem ent19 : entersP P 19 = true := by kernel_rfl
theorem speaks_ok   : CallsF P G 19 [] (bool true) := by
  refine sx_fn (hs := [.call (encV (mkI (Int.ofNat 1))), .call (encV (mkT [97])), .call (encV (mkI (Int.ofNat 2))), .call (encV (mkT [98])), .lfz [0], .call (FV.tup [encM 1 2 tS, int 0]), .dec false, .dec false, .call (FV.sl 8 [cellsP (mkI 2) ++ cellsP (mkT [98]), cellsP (mkI 1) ++ cellsP (mkT [97])]), .call (encV (mkI (Int.ofNat 1))), .call (FV.tup [encV (mkT [97]), bool true, int 0]), .dec true, .dec true, .dec true, .dec true, .el ([int 2, int 2, str (V.text (mkI 2)), FV.sl 4 [], int 3, int 0, str (V.text (mkT [98])), FV.sl 4 []]), .dec true, .call (int 2)]) ((CallsF P G 22 [int 1] (FV.agg [int 2, int 1, str (V.text (mkI (Int.ofNat 1))), FV.sl 4 []])) ∧ (CallsF P G 42 [str [97]] (FV.agg [int 3, int 0, str (V.text (mkT [97])), FV.sl 4 []])) ∧ (CallsF P G 22 [int 2] (FV.agg [int 2, int 2, str (V.text (mkI (Int.ofNat 2))), FV.sl 4 []])) ∧ (CallsF P G 42 [str [98]] (FV.agg [int 3, int 0, str (V.text (mkT [98])), FV.sl 4 []])) ∧ (CallsF P G 7 [int 1, FV.sl 8 [[int 2, int 1, str (V.text (mkI (Int.ofNat 1))), FV.sl 4 [], int 3, int 0, str (V.text (mkT [97])), FV.sl 4 []], [int 2, int 2, str (V.text (mkI (Int.ofNat 2))), FV.sl 4 [], int 3, int 0, str (V.text (mkT [98])), FV.sl 4 []]]] (FV.tup [encM 1 2 tS, int 0])) ∧ (E (false)) ∧ (E (false)) ∧ (CallsF P G 9 [encM 1 2 tS] (FV.sl 8 [[int 2, int 2, str (V.text (mkI 2)), FV.sl 4 [], int 3, int 0, str (V.text (mkT [98])), FV.sl 4 []], [int 2, int 1, str (V.text (mkI 1)), FV.sl 4 [], int 3, int 0, str (V.text (mkT [97])), FV.sl 4 []]])) ∧ (CallsF P G 22 [int 1] (FV.agg [int 2, int 1, str (V.text (mkI (Int.ofNat 1))), FV.sl 4 []])) ∧ (CallsF P G 43 [encM 1 2 tS, FV.agg [int 2, int 1, str (V.text (mkI (Int.ofNat 1))), FV.sl 4 []]] (FV.tup [FV.agg [int 3, int 0, str (V.text (mkT [97])), FV.sl 4 []], bool true, int 0])) ∧ (E (true)) ∧ (E (true)) ∧ (E (true)) ∧ (E (true)) ∧ ((E (8)) ∧ ((0 : Int) ≤ 0) ∧ E (some [int 2, int 2, str (V.text (mkI 2)), FV.sl 4 [], int 3, int 0, str (V.text (mkT [98])), FV.sl 4 []])) ∧ (E (true)) ∧ (CallsF P G 25 [encM 1 2 tS] (int 2)) ∧ E (bool true)) get19 ent19 (by kernel_rfl) ?_
  refine ⟨?_, ⟨?_, ⟨?_, ⟨?_, ⟨?_, ⟨rfl, ⟨rfl, ⟨?_, ⟨?_, ⟨?_, ⟨rfl, ⟨rfl, ⟨rfl, ⟨rfl, ⟨⟨rfl, ⟨?_, rfl⟩⟩, ⟨rfl, ⟨?_, rfl⟩⟩⟩⟩⟩⟩⟩⟩⟩⟩⟩⟩⟩⟩⟩⟩⟩
  all_goals first | exact int_ok _ | exact text_ok _ | exact of_two | exact pairs_two | exact get_two | exact height_two | omega
theorem get5 : P.funcs[5]? = some Tryd.f5 := by kernel_rfl
theorem ent5 : entersP P 5 = true := by kernel_rfl
theorem many_out (n s : Int) (h : n < 0 ∨ 1500 < n) : CallsF P G 5 [int n, int s] (bool true) := by
  refine sx_fn (hs := [.br [.dec true, .call (bool true)] [.dec true, .call (bool true)]]) (((((decide (n < 0)) = (true)) → ((E (true)) ∧ (CallsF P G 19 [] (bool true)) ∧ E (bool true)))) ∧ (((decide (n < 0)) = (false)) → (((decide (n > 1500)) = (true)) ∧ (CallsF P G 19 [] (bool true)) ∧ E (bool true)))) get5 ent5 (by kernel_rfl) ?_
  refine ⟨fun hi => ⟨rfl, ⟨?_, rfl⟩⟩, fun hi => ⟨?_, ⟨?_, rfl⟩⟩⟩
  all_goals first | exact speaks_ok | (simp only [decide_eq_true_eq, decide_eq_false_iff_not] at *; omega)
theorem many_in (n : Nat) (s : Int) (h : n ≤ 1500) : CallsF P G 5 [int (n : Int), int s] (bool true) := by
  refine sx_fn (hs := [.dec false, .br [.call (bool true)] [.call (FV.tup [encM (Int.ofNat 0) 0 T.nil, int 0]), .dec false, .dec false, .loop [] [] (Smany s n) (n) (fun i => [.br [.call (encV (mkI (IntKind.wrap IntKind.i64 ((i : Int) * s)))), .call (FV.tup [encX 0 (putT cmpV (manyT s i) (mkI (IntKind.wrap IntKind.i64 ((i : Int) * s))) nilW), int 0]), .dec false, .dec false, .call (bool true), .dec false] []]), .br [.call (encV (mkI (IntKind.wrap IntKind.i64 ((n : Int) * s)))), .call (FV.tup [encX 0 (putT cmpV (manyT s n) (mkI (IntKind.wrap IntKind.i64 ((n : Int) * s))) nilW), int 0]), .dec false, .dec false, .call (bool true), .dec false] [.loop [] [] (Sless s n (manyT s n)) (n / 2) (fun i => [.br [.call (encV (mkI (IntKind.wrap IntKind.i64 ((i : Int) * s)))), .call (FV.tup [encX 0 (cutT cmpV (lessT s (manyT s n) i) (mkI (IntKind.wrap IntKind.i64 ((i : Int) * s)))), int 0]), .dec false, .dec false, .call (bool true), .dec false] []]), .br [.call (encV (mkI (IntKind.wrap IntKind.i64 ((↑(n / 2) : Int) * s)))), .call (FV.tup [encX 0 (cutT cmpV (lessT s (manyT s n) (n / 2)) (mkI (IntKind.wrap IntKind.i64 ((↑(n / 2) : Int) * s)))), int 0]), .dec false, .dec false, .call (bool true), .dec false] [.call (bool true)]]]]) ((E (false)) ∧ (((decide ((n : Int) > 1500)) = (true)) → ((CallsF P G 19 [] (bool true)) ∧ E (bool true))) ∧ (((decide ((n : Int) > 1500)) = (false)) → ((CallsF P G 20 [int 0] (FV.tup [encM (Int.ofNat 0) 0 T.nil, int 0])) ∧ (E (false)) ∧ (E (false)) ∧ ((E (true)) ∧ ((E (AV.f (int (n : Int)))) ∧ (E (AV.f (int s))) ∧ ((AV.f (encM (Int.ofNat 0) 0 T.nil)) = (AV.f (FV.ptr [int 0, int (↑(Prod.snd (manyT s 0)) : Int), encT (Prod.fst (manyT s 0))] 0))) ∧ ((AV.f (int 0)) = (AV.f (int (Int.ofNat 0)))) ∧ True) ∧ (True) ∧ (E (true)) ∧ (((false) = (true)) → ((false) = (true)))) ∧ (∀ (i : Nat), (i < n) → ((((decide ((i : Int) < (n : Int))) = (true)) → ((CallsF P G 22 [int (IntKind.wrap IntKind.i64 ((i : Int) * s))] (FV.agg [int (V.kind (mkI (IntKind.wrap IntKind.i64 ((i : Int) * s)))), int (V.num (mkI (IntKind.wrap IntKind.i64 ((i : Int) * s)))), str (V.text (mkI (IntKind.wrap IntKind.i64 ((i : Int) * s)))), FV.sl 4 []])) ∧ (CallsF P G 21 [FV.ptr [int 0, int (↑(Prod.snd (manyT s i)) : Int), encT (Prod.fst (manyT s i))] 0, FV.agg [int (V.kind (mkI (IntKind.wrap IntKind.i64 ((i : Int) * s)))), int (V.num (mkI (IntKind.wrap IntKind.i64 ((i : Int) * s)))), str (V.text (mkI (IntKind.wrap IntKind.i64 ((i : Int) * s)))), FV.sl 4 []], FV.agg [int 0, int 0, str [], FV.nils]] (FV.tup [FV.ptr [int 0, int (↑(Prod.snd (putT cmpV (manyT s i) (mkI (IntKind.wrap IntKind.i64 ((i : Int) * s))) nilW)) : Int), encT (Prod.fst (putT cmpV (manyT s i) (mkI (IntKind.wrap IntKind.i64 ((i : Int) * s))) nilW))] 0, int 0])) ∧ (E (false)) ∧ (E (false)) ∧ (CallsF P G 23 [FV.ptr [int 0, int (↑(Prod.snd (putT cmpV (manyT s i) (mkI (IntKind.wrap IntKind.i64 ((i : Int) * s))) nilW)) : Int), encT (Prod.fst (putT cmpV (manyT s i) (mkI (IntKind.wrap IntKind.i64 ((i : Int) * s))) nilW))] 0] (bool true)) ∧ (E (false)) ∧ (E (true)) ∧ ((E (AV.f (int (n : Int)))) ∧ (E (AV.f (int s))) ∧ ((AV.f (FV.ptr [int 0, int (↑(Prod.snd (putT cmpV (manyT s i) (mkI (IntKind.wrap IntKind.i64 ((i : Int) * s))) nilW)) : Int), encT (Prod.fst (putT cmpV (manyT s i) (mkI (IntKind.wrap IntKind.i64 ((i : Int) * s))) nilW))] 0)) = (AV.f (FV.ptr [int 0, int (↑(Prod.snd (manyT s (i + 1))) : Int), encT (Prod.fst (manyT s (i + 1)))] 0))) ∧ ((AV.f (int (IntKind.wrap IntKind.i64 ((i : Int) + 1)))) = (AV.f (int (↑(i + 1) : Int)))) ∧ True) ∧ (True) ∧ (E (true)) ∧ ((St.nd (Smany s n (i + 1)) = true) → ((false) = (true))))) ∧ (((decide ((i : Int) < (n : Int))) = (false)) → (False)))) ∧ (((decide ((n : Int) < (n : Int))) = (true)) → ((CallsF P G 22 [int (IntKind.wrap IntKind.i64 ((n : Int) * s))] (FV.agg [int (V.kind (mkI (IntKind.wrap IntKind.i64 ((n : Int) * s)))), int (V.num (mkI (IntKind.wrap IntKind.i64 ((n : Int) * s)))), str (V.text (mkI (IntKind.wrap IntKind.i64 ((n : Int) * s)))), FV.sl 4 []])) ∧ (CallsF P G 21 [FV.ptr [int 0, int (↑(Prod.snd (manyT s n)) : Int), encT (Prod.fst (manyT s n))] 0, FV.agg [int (V.kind (mkI (IntKind.wrap IntKind.i64 ((n : Int) * s)))), int (V.num (mkI (IntKind.wrap IntKind.i64 ((n : Int) * s)))), str (V.text (mkI (IntKind.wrap IntKind.i64 ((n : Int) * s)))), FV.sl 4 []], FV.agg [int 0, int 0, str [], FV.nils]] (FV.tup [FV.ptr [int 0, int (↑(Prod.snd (putT cmpV (manyT s n) (mkI (IntKind.wrap IntKind.i64 ((n : Int) * s))) nilW)) : Int), encT (Prod.fst (putT cmpV (manyT s n) (mkI (IntKind.wrap IntKind.i64 ((n : Int) * s))) nilW))] 0, int 0])) ∧ (E (false)) ∧ (E (false)) ∧ (CallsF P G 23 [FV.ptr [int 0, int (↑(Prod.snd (putT cmpV (manyT s n) (mkI (IntKind.wrap IntKind.i64 ((n : Int) * s))) nilW)) : Int), encT (Prod.fst (putT cmpV (manyT s n) (mkI (IntKind.wrap IntKind.i64 ((n : Int) * s))) nilW))] 0] (bool true)) ∧ (E (false)) ∧ False)) ∧ (((decide ((n : Int) < (n : Int))) = (false)) → (((E (true)) ∧ ((E (AV.f (int (n : Int)))) ∧ (E (AV.f (int s))) ∧ ((AV.f (FV.ptr [int 0, int (↑(Prod.snd (manyT s n)) : Int), encT (Prod.fst (manyT s n))] 0)) = (AV.f (FV.ptr [int 0, int (↑(Prod.snd (lessT s (manyT s n) 0)) : Int), encT (Prod.fst (lessT s (manyT s n) 0))] 0))) ∧ ((AV.f (int 0)) = (AV.f (int (Int.ofNat 0)))) ∧ True) ∧ (True) ∧ (E (true)) ∧ (((false) = (true)) → ((false) = (true)))) ∧ (∀ (i : Nat), (i < n / 2) → ((((decide ((i : Int) < IntKind.wrap IntKind.i64 (Int.tdiv (n : Int) 2))) = (true)) → ((CallsF P G 22 [int (IntKind.wrap IntKind.i64 ((i : Int) * s))] (FV.agg [int (V.kind (mkI (IntKind.wrap IntKind.i64 ((i : Int) * s)))), int (V.num (mkI (IntKind.wrap IntKind.i64 ((i : Int) * s)))), str (V.text (mkI (IntKind.wrap IntKind.i64 ((i : Int) * s)))), FV.sl 4 []])) ∧ (CallsF P G 24 [FV.ptr [int 0, int (↑(Prod.snd (lessT s (manyT s n) i)) : Int), encT (Prod.fst (lessT s (manyT s n) i))] 0, FV.agg [int (V.kind (mkI (IntKind.wrap IntKind.i64 ((i : Int) * s)))), int (V.num (mkI (IntKind.wrap IntKind.i64 ((i : Int) * s)))), str (V.text (mkI (IntKind.wrap IntKind.i64 ((i : Int) * s)))), FV.sl 4 []]] (FV.tup [FV.ptr [int 0, int (↑(Prod.snd (cutT cmpV (lessT s (manyT s n) i) (mkI (IntKind.wrap IntKind.i64 ((i : Int) * s))))) : Int), encT (Prod.fst (cutT cmpV (lessT s (manyT s n) i) (mkI (IntKind.wrap IntKind.i64 ((i : Int) * s)))))] 0, int 0])) ∧ (E (false)) ∧ (E (false)) ∧ (CallsF P G 23 [FV.ptr [int 0, int (↑(Prod.snd (cutT cmpV (lessT s (manyT s n) i) (mkI (IntKind.wrap IntKind.i64 ((i : Int) * s))))) : Int), encT (Prod.fst (cutT cmpV (lessT s (manyT s n) i) (mkI (IntKind.wrap IntKind.i64 ((i : Int) * s)))))] 0] (bool true)) ∧ (E (false)) ∧ (E (true)) ∧ ((E (AV.f (int (n : Int)))) ∧ (E (AV.f (int s))) ∧ ((AV.f (FV.ptr [int 0, int (↑(Prod.snd (cutT cmpV (lessT s (manyT s n) i) (mkI (IntKind.wrap IntKind.i64 ((i : Int) * s))))) : Int), encT (Prod.fst (cutT cmpV (lessT s (manyT s n) i) (mkI (IntKind.wrap IntKind.i64 ((i : Int) * s)))))] 0)) = (AV.f (FV.ptr [int 0, int (↑(Prod.snd (lessT s (manyT s n) (i + 1))) : Int), encT (Prod.fst (lessT s (manyT s n) (i + 1)))] 0))) ∧ ((AV.f (int (IntKind.wrap IntKind.i64 ((i : Int) + 1)))) = (AV.f (int (↑(i + 1) : Int)))) ∧ True) ∧ (True) ∧ (E (true)) ∧ ((St.nd (Sless s n (manyT s n) (i + 1)) = true) → ((false) = (true))))) ∧ (((decide ((i : Int) < IntKind.wrap IntKind.i64 (Int.tdiv (n : Int) 2))) = (false)) → (False)))) ∧ (((decide ((↑(n / 2) : Int) < IntKind.wrap IntKind.i64 (Int.tdiv (n : Int) 2))) = (true)) → ((CallsF P G 22 [int (IntKind.wrap IntKind.i64 ((↑(n / 2) : Int) * s))] (FV.agg [int (V.kind (mkI (IntKind.wrap IntKind.i64 ((↑(n / 2) : Int) * s)))), int (V.num (mkI (IntKind.wrap IntKind.i64 ((↑(n / 2) : Int) * s)))), str (V.text (mkI (IntKind.wrap IntKind.i64 ((↑(n / 2) : Int) * s)))), FV.sl 4 []])) ∧ (CallsF P G 24 [FV.ptr [int 0, int (↑(Prod.snd (lessT s (manyT s n) (n / 2))) : Int), encT (Prod.fst (lessT s (manyT s n) (n / 2)))] 0, FV.agg [int (V.kind (mkI (IntKind.wrap IntKind.i64 ((↑(n / 2) : Int) * s)))), int (V.num (mkI (IntKind.wrap IntKind.i64 ((↑(n / 2) : Int) * s)))), str (V.text (mkI (IntKind.wrap IntKind.i64 ((↑(n / 2) : Int) * s)))), FV.sl 4 []]] (FV.tup [FV.ptr [int 0, int (↑(Prod.snd (cutT cmpV (lessT s (manyT s n) (n / 2)) (mkI (IntKind.wrap IntKind.i64 ((↑(n / 2) : Int) * s))))) : Int), encT (Prod.fst (cutT cmpV (lessT s (manyT s n) (n / 2)) (mkI (IntKind.wrap IntKind.i64 ((↑(n / 2) : Int) * s)))))] 0, int 0])) ∧ (E (false)) ∧ (E (false)) ∧ (CallsF P G 23 [FV.ptr [int 0, int (↑(Prod.snd (cutT cmpV (lessT s (manyT s n) (n / 2)) (mkI (IntKind.wrap IntKind.i64 ((↑(n / 2) : Int) * s))))) : Int), encT (Prod.fst (cutT cmpV (lessT s (manyT s n) (n / 2)) (mkI (IntKind.wrap IntKind.i64 ((↑(n / 2) : Int) * s)))))] 0] (bool true)) ∧ (E (false)) ∧ False)) ∧ (((decide ((↑(n / 2) : Int) < IntKind.wrap IntKind.i64 (Int.tdiv (n : Int) 2))) = (false)) → ((CallsF P G 19 [] (bool true)) ∧ E (bool true)))))))) get5 ent5 (by kernel_rfl) ?_
  refine ⟨rfl, ⟨fun hi => ⟨?_, rfl⟩, fun hi => ⟨?_, ⟨rfl, ⟨rfl, ⟨⟨rfl, ⟨⟨rfl, ⟨rfl, ⟨?_, ⟨?_, trivial⟩⟩⟩⟩, ⟨trivial, ⟨rfl, fun hi => ?_⟩⟩⟩⟩, fun i => fun hlt => ⟨fun hi => ⟨?_, ⟨?_, ⟨rfl, ⟨rfl, ⟨?_, ⟨rfl, ⟨rfl, ⟨⟨rfl, ⟨rfl, ⟨?_, ⟨?_, trivial⟩⟩⟩⟩, ⟨trivial, ⟨rfl, fun hi => ?_⟩⟩⟩⟩⟩⟩⟩⟩⟩⟩, fun hi => ?_⟩, ⟨fun hi => ⟨?_, ⟨?_, ⟨rfl, ⟨rfl, ⟨?_, ⟨rfl, ?_⟩⟩⟩⟩⟩⟩, fun hi => ⟨⟨rfl, ⟨⟨rfl, ⟨rfl, ⟨?_, ⟨?_, trivial⟩⟩⟩⟩, ⟨trivial, ⟨rfl, fun hi => ?_⟩⟩⟩⟩, fun i => fun hlt => ⟨fun hi => ⟨?_, ⟨?_, ⟨rfl, ⟨rfl, ⟨?_, ⟨rfl, ⟨rfl, ⟨⟨rfl, ⟨rfl, ⟨?_, ⟨?_, trivial⟩⟩⟩⟩, ⟨trivial, ⟨rfl, fun hi => ?_⟩⟩⟩⟩⟩⟩⟩⟩⟩⟩, fun hi => ?_⟩, ⟨fun hi => ⟨?_, ⟨?_, ⟨rfl, ⟨rfl, ⟨?_, ⟨rfl, ?_⟩⟩⟩⟩⟩⟩, fun hi => ⟨?_, rfl⟩⟩⟩⟩⟩⟩⟩⟩⟩⟩
  all_goals first | exact speaks_ok | exact new_ok _ (by omega) | exact int_ok _ | exact assoc_nil (manyT_ok s i).1 (by have := (manyT_ok s i).2; omega) s i | (have h9 := manyT_ok s (i + 1); have h8 := flat_ok (o := 0) h9.1 (by omega); exact h8) | exact dissoc_cut cmpC0 (lessT_ok s (manyT_ok s n).1 i).1 (by have := (lessT_ok s (manyT_ok s n).1 i).2; have := (manyT_ok s n).2; omega) (rp_key s i).1 (rp_key s i).2.2.1 | (have h7 := manyT_ok s n; have h9 := lessT_ok s h7.1 (i + 1); have h8 := flat_ok (o := 0) h9.1 (by omega); exact h8) | (exfalso; rw [divN n h] at *; simp only [decide_eq_true_eq, decide_eq_false_iff_not] at *; omega) | (simp only [decide_eq_true_eq, decide_eq_false_iff_not] at *; omega) | (exact congrArg (fun x => AV.f (int x)) (wrapS ((i : Int) + 1) (by omega) (by omega))) | assumption | (simp [V.kind, V.num, V.text, V.items, *]; done) | rfl
end Go.Sx

/-
  Proved: what some functions of the program answer, or a law of the evaluator that shows it, one theorem each; its conditions are the hypotheses that stand ahead of it.
-/
import Derived.Test.YtkbaoibplojjlaaGreatDoorPO
import Derived.KernelRfl
import Derived.Test.YtkbaoibplojjlaaGreatDoorL3
set_option maxRecDepth 100000
set_option maxHeartbeats 4000000
set_option linter.unusedSimpArgs false
set_option linter.unusedVariables false
namespace Go.Sx
open Go.Proofs Sp
def Srune2 (s : ByteArray) (i : Nat) : St := { sl := slots 10 [(2, .f (int (i : Int))), (4, .loc 0 0)], ob := [(0, .iter s (posAt s i))], nx := 1 }
theorem get188 : P.funcs[188]? = some Tryz.f188 := by kernel_rfl
theorem ent188 : entersP P 188 = true := by kernel_rfl
theorem runecount_run (s : ByteArray) (N : Nat) (hs : s.size ≤ 1000000) (h : ∀ i, i < N → posAt s i < s.size) (hN : ¬ posAt s N < s.size) : CallsF P G 188 [.sc (.string s)] (int (N : Int)) := by
  refine sx_fn (hs := [.loop [(0, 0)] [(0, 0)] (Srune2 s) N (fun _ => [.dec true, .dec true]), .dec false, .dec false]) (((E (true)) ∧ (((AV.f (int 0)) = (AV.f (int (Int.ofNat 0)))) ∧ (E (AV.loc 0 0)) ∧ True) ∧ (((Ob.iter s 0) = (Ob.iter s (posAt s 0))) ∧ True) ∧ (E (true)) ∧ (((false) = (true)) → ((false) = (true)))) ∧ ((∀ (i : Nat), ((i < N) → ((posAt s i < ByteArray.size s) ∧ (E (true)) ∧ (E (true)) ∧ (((AV.f (int (IntKind.wrap IntKind.i64 ((i : Int) + 1)))) = (AV.f (int (↑(i + 1) : Int)))) ∧ (E (AV.loc 0 0)) ∧ True) ∧ (((Ob.iter s (posAt s i + Prod.snd (Utf8.decode s (posAt s i)))) = (Ob.iter s (posAt s (i + 1)))) ∧ True) ∧ (E (true)) ∧ (((false) = (true)) → ((false) = (true))))))) ∧ (¬ (posAt s N < ByteArray.size s)) ∧ (E (false)) ∧ E (int (N : Int))) get188 ent188 (by kernel_rfl) ?_
  refine ⟨⟨rfl, ⟨⟨?_, ⟨rfl, trivial⟩⟩, ⟨⟨?_, trivial⟩, ⟨rfl, fun hi => ?_⟩⟩⟩⟩, ⟨fun i => fun hi => ⟨?_, ⟨rfl, ⟨rfl, ⟨⟨?_, ⟨rfl, trivial⟩⟩, ⟨⟨?_, trivial⟩, ⟨rfl, fun hi => ?_⟩⟩⟩⟩⟩⟩, ⟨?_, ⟨rfl, rfl⟩⟩⟩⟩
  all_goals first | exact (h i (by assumption)) | exact hN | (exact congrArg (fun x => AV.f (int x)) (by have h2 := posAt_ge s i; have h3 := h i (by assumption); exact wrapS ((i : Int) + 1) (by omega) (by omega))) | assumption | (simp [V.kind, V.num, V.text, V.items, *]; done) | rfl
theorem runecount_ok (s : List UInt8) (hs : s.length ≤ 1000000) : CallsF P G 188 [str s] (int (lettersN ⟨s.toArray⟩ : Nat)) :=
  runecount_run ⟨s.toArray⟩ (lettersN ⟨s.toArray⟩) (by simpa [ByteArray.size] using hs) (letters_spec _).2 (letters_spec _).1
def pick2 (a b : Int) (i : Nat) : Int := if i = 0 then a else b
def Sor (a b : Int) (i : Nat) : St := { sl := slots 18 [(3, .f (int 0)), (6, .f (.sl 1 [[int a], [int b]])), (7, .f (int 2)), (8, .f (int (i : Int)))], ob := [], nx := 0 }
theorem get183 : P.funcs[183]? = some Tryz.f183 := by kernel_rfl
theorem ent183 : entersP P 183 = true := by kernel_rfl
theorem or_0 (a b : Int) (h : a ≠ 0) : CallsF P G 183 [.sl 1 [[int a], [int b]]] (int a) := by
  refine sx_fn (hs := [.loop [] [] (Sor a b) (0) (fun i => [.br [.el ([int (pick2 a b i)]), .br [] []] []]), .dec true, .el ([int (pick2 a b 0)]), .br [] []]) (((E (true)) ∧ ((E (AV.f (int 0))) ∧ (E (AV.f (FV.sl 1 [[int a], [int b]]))) ∧ ((AV.f (int (↑(List.length [[int a], [int b]]) : Int))) = (AV.f (int 2))) ∧ ((AV.f (int 0)) = (AV.f (int (Int.ofNat 0)))) ∧ True) ∧ (True) ∧ (E (true)) ∧ (((false) = (true)) → ((false) = (true)))) ∧ (∀ (i : Nat), (i < 0) → ((((decide ((i : Int) < 2)) = (true)) → (((E (1)) ∧ ((0 : Int) ≤ (i : Int)) ∧ ([[int a], [int b]][i]?) = (some [int (pick2 a b i)])) ∧ (((pick2 a b i != 0) = (true)) → (False)) ∧ (((pick2 a b i != 0) = (false)) → ((E (true)) ∧ ((E (AV.f (int 0))) ∧ (E (AV.f (FV.sl 1 [[int a], [int b]]))) ∧ (E (AV.f (int 2))) ∧ ((AV.f (int (IntKind.wrap IntKind.i64 ((i : Int) + 1)))) = (AV.f (int (↑(i + 1) : Int)))) ∧ True) ∧ (True) ∧ (E (true)) ∧ ((St.nd (Sor a b (i + 1)) = true) → ((false) = (true))))))) ∧ (((decide ((i : Int) < 2)) = (false)) → (False)))) ∧ (E (true)) ∧ ((E (1)) ∧ ((0 : Int) ≤ (0 : Int)) ∧ (some [int a]) = (some [int (pick2 a b 0)])) ∧ (((pick2 a b 0 != 0) = (true)) → ((int (pick2 a b 0)) = (int a))) ∧ (((pick2 a b 0 != 0) = (false)) → (False))) get183 ent183 (by kernel_rfl) ?_
  refine ⟨⟨rfl, ⟨⟨rfl, ⟨rfl, ⟨?_, ⟨?_, trivial⟩⟩⟩⟩, ⟨trivial, ⟨rfl, fun hi => ?_⟩⟩⟩⟩, fun i => fun hlt => ⟨fun hi => ⟨⟨rfl, ⟨?_, ?_⟩⟩, ⟨fun hi => ?_, fun hi => ⟨rfl, ⟨⟨rfl, ⟨rfl, ⟨rfl, ⟨?_, trivial⟩⟩⟩⟩, ⟨trivial, ⟨rfl, fun hi => ?_⟩⟩⟩⟩⟩⟩, fun hi => ?_⟩, ⟨rfl, ⟨⟨rfl, ⟨?_, ?_⟩⟩, ⟨fun hi => ?_, fun hi => ?_⟩⟩⟩⟩
  all_goals first | rfl | (rcases (show i = 0 ∨ i = 1 by omega) with rfl | rfl <;> rfl) | (simp_all [pick2]; done)
theorem or_1 (b : Int) (h : b ≠ 0) : CallsF P G 183 [.sl 1 [[int 0], [int b]]] (int b) := by
  refine sx_fn (hs := [.loop [] [] (Sor 0 b) (1) (fun i => [.br [.el ([int (pick2 0 b i)]), .br [] []] []]), .dec true, .el ([int (pick2 0 b 1)]), .br [] []]) (((E (true)) ∧ ((E (AV.f (int 0))) ∧ (E (AV.f (FV.sl 1 [[int 0], [int b]]))) ∧ ((AV.f (int (↑(List.length [[int 0], [int b]]) : Int))) = (AV.f (int 2))) ∧ ((AV.f (int 0)) = (AV.f (int (Int.ofNat 0)))) ∧ True) ∧ (True) ∧ (E (true)) ∧ (((false) = (true)) → ((false) = (true)))) ∧ (∀ (i : Nat), (i < 1) → ((((decide ((i : Int) < 2)) = (true)) → (((E (1)) ∧ ((0 : Int) ≤ (i : Int)) ∧ ([[int 0], [int b]][i]?) = (some [int (pick2 0 b i)])) ∧ (((pick2 0 b i != 0) = (true)) → (False)) ∧ (((pick2 0 b i != 0) = (false)) → ((E (true)) ∧ ((E (AV.f (int 0))) ∧ (E (AV.f (FV.sl 1 [[int 0], [int b]]))) ∧ (E (AV.f (int 2))) ∧ ((AV.f (int (IntKind.wrap IntKind.i64 ((i : Int) + 1)))) = (AV.f (int (↑(i + 1) : Int)))) ∧ True) ∧ (True) ∧ (E (true)) ∧ ((St.nd (Sor 0 b (i + 1)) = true) → ((false) = (true))))))) ∧ (((decide ((i : Int) < 2)) = (false)) → (False)))) ∧ (E (true)) ∧ ((E (1)) ∧ ((0 : Int) ≤ (1 : Int)) ∧ (some [int b]) = (some [int (pick2 0 b 1)])) ∧ (((pick2 0 b 1 != 0) = (true)) → ((int (pick2 0 b 1)) = (int b))) ∧ (((pick2 0 b 1 != 0) = (false)) → (False))) get183 ent183 (by kernel_rfl) ?_
  refine ⟨⟨rfl, ⟨⟨rfl, ⟨rfl, ⟨?_, ⟨?_, trivial⟩⟩⟩⟩, ⟨trivial, ⟨rfl, fun hi => ?_⟩⟩⟩⟩, fun i => fun hlt => ⟨fun hi => ⟨⟨rfl, ⟨?_, ?_⟩⟩, ⟨fun hi => ?_, fun hi => ⟨rfl, ⟨⟨rfl, ⟨rfl, ⟨rfl, ⟨?_, trivial⟩⟩⟩⟩, ⟨trivial, ⟨rfl, fun hi => ?_⟩⟩⟩⟩⟩⟩, fun hi => ?_⟩, ⟨rfl, ⟨⟨rfl, ⟨?_, ?_⟩⟩, ⟨fun hi => ?_, fun hi => ?_⟩⟩⟩⟩
  all_goals first | rfl | (rcases (show i = 0 ∨ i = 1 by omega) with rfl | rfl <;> rfl) | (simp_all [pick2]; done) | assumption
theorem or_2   : CallsF P G 183 [.sl 1 [[int 0], [int 0]]] (int 0) := by
  refine sx_fn (hs := [.loop [] [] (Sor 0 0) (2) (fun i => [.br [.el ([int (pick2 0 0 i)]), .br [] []] []]), .dec false]) (((E (true)) ∧ ((E (AV.f (int 0))) ∧ (E (AV.f (FV.sl 1 [[int 0], [int 0]]))) ∧ ((AV.f (int (Int.ofNat (List.length [[int 0], [int 0]])))) = (AV.f (int 2))) ∧ ((AV.f (int 0)) = (AV.f (int (Int.ofNat 0)))) ∧ True) ∧ (True) ∧ (E (true)) ∧ (((false) = (true)) → ((false) = (true)))) ∧ (∀ (i : Nat), (i < 2) → ((((decide ((i : Int) < 2)) = (true)) → (((E (1)) ∧ ((0 : Int) ≤ (i : Int)) ∧ ([[int 0], [int 0]][i]?) = (some [int (pick2 0 0 i)])) ∧ (((pick2 0 0 i != 0) = (true)) → (False)) ∧ (((pick2 0 0 i != 0) = (false)) → ((E (true)) ∧ ((E (AV.f (int 0))) ∧ (E (AV.f (FV.sl 1 [[int 0], [int 0]]))) ∧ (E (AV.f (int 2))) ∧ ((AV.f (int (IntKind.wrap IntKind.i64 ((i : Int) + 1)))) = (AV.f (int (↑(i + 1) : Int)))) ∧ True) ∧ (True) ∧ (E (true)) ∧ ((St.nd (Sor 0 0 (i + 1)) = true) → ((false) = (true))))))) ∧ (((decide ((i : Int) < 2)) = (false)) → (False)))) ∧ (E (false)) ∧ E (int 0)) get183 ent183 (by kernel_rfl) ?_
  refine ⟨⟨rfl, ⟨⟨rfl, ⟨rfl, ⟨?_, ⟨?_, trivial⟩⟩⟩⟩, ⟨trivial, ⟨rfl, fun hi => ?_⟩⟩⟩⟩, fun i => fun hlt => ⟨fun hi => ⟨⟨rfl, ⟨?_, ?_⟩⟩, ⟨fun hi => ?_, fun hi => ⟨rfl, ⟨⟨rfl, ⟨rfl, ⟨rfl, ⟨?_, trivial⟩⟩⟩⟩, ⟨trivial, ⟨rfl, fun hi => ?_⟩⟩⟩⟩⟩⟩, fun hi => ?_⟩, ⟨rfl, rfl⟩⟩
  all_goals first | rfl | (rcases (show i = 0 ∨ i = 1 by omega) with rfl | rfl <;> rfl) | (simp_all [pick2]; done) | (simp only [decide_eq_true_eq, decide_eq_false_iff_not] at *; omega) | assumption
theorem or_ok (a b : Int) : CallsF P G 183 [.sl 1 [[int a], [int b]]] (int (orI a b)) := by
  unfold orI
  by_cases h : a ≠ 0
  · rw [if_pos h]; exact or_0 a b h
  · rw [if_neg h]
    obtain rfl : a = 0 := by omega
    by_cases h2 : b ≠ 0
    · exact or_1 b h2
    · obtain rfl : b = 0 := by omega
      exact or_2
theorem get177 : P.funcs[177]? = some Tryz.f177 := by kernel_rfl
theorem ent177 : entersP P 177 = true := by kernel_rfl
theorem runes_ok (a b : V) (ha : a.text.length ≤ 1000000) (hc : b.text.length ≤ 1000000) (hf : Fine a) : CallsF P G 177 [encV a, encV b] (int (runesC a b)) := by
  refine sx_fn (hs := [.br [.br [.nat 13, .call (int (↑(lettersN { data := List.toArray (V.text a) }) : Int)), .call (int (↑(lettersN { data := List.toArray (V.text b) }) : Int)), .call (int (cmpI (↑(lettersN { data := List.toArray (V.text a) }) : Int) (↑(lettersN { data := List.toArray (V.text b) }) : Int))), .call (int (cmpV a b)), .call (int (orI (cmpI (↑(lettersN { data := List.toArray (V.text a) }) : Int) (↑(lettersN { data := List.toArray (V.text b) }) : Int)) (cmpV a b)))] [.call (int (cmpV a b))]] [.dec false, .call (int (cmpV a b))]]) ((((V.kind a == 3) = (true)) → ((((V.kind b == 3) = (true)) → ((E (true)) ∧ (CallsF P G 188 [str (V.text a)] (int (↑(lettersN { data := List.toArray (V.text a) }) : Int))) ∧ (CallsF P G 188 [str (V.text b)] (int (↑(lettersN { data := List.toArray (V.text b) }) : Int))) ∧ (CallsF P G 125 [int (↑(lettersN { data := List.toArray (V.text a) }) : Int), int (↑(lettersN { data := List.toArray (V.text b) }) : Int)] (int (cmpI (↑(lettersN { data := List.toArray (V.text a) }) : Int) (↑(lettersN { data := List.toArray (V.text b) }) : Int)))) ∧ (CallsF P G 95 [encV a, encV b] (int (cmpV a b))) ∧ (CallsF P G 183 [FV.sl 1 [[int (cmpI (↑(lettersN { data := List.toArray (V.text a) }) : Int) (↑(lettersN { data := List.toArray (V.text b) }) : Int))], [int (cmpV a b)]]] (int (orI (cmpI (↑(lettersN { data := List.toArray (V.text a) }) : Int) (↑(lettersN { data := List.toArray (V.text b) }) : Int)) (cmpV a b)))) ∧ (int (orI (cmpI (↑(lettersN { data := List.toArray (V.text a) }) : Int) (↑(lettersN { data := List.toArray (V.text b) }) : Int)) (cmpV a b))) = (int (runesC a b)))) ∧ (((V.kind b == 3) = (false)) → ((CallsF P G 95 [encV a, encV b] (int (cmpV a b))) ∧ (int (cmpV a b)) = (int (runesC a b)))))) ∧ (((V.kind a == 3) = (false)) → ((E (false)) ∧ (CallsF P G 95 [encV a, encV b] (int (cmpV a b))) ∧ (int (cmpV a b)) = (int (runesC a b))))) get177 ent177 (by kernel_rfl) ?_
  refine ⟨fun hi => ⟨fun hi => ⟨rfl, ⟨?_, ⟨?_, ⟨?_, ⟨?_, ⟨?_, ?_⟩⟩⟩⟩⟩⟩, fun hi => ⟨?_, ?_⟩⟩, fun hi => ⟨rfl, ⟨?_, ?_⟩⟩⟩
  all_goals first | exact runecount_ok _ ha | exact runecount_ok _ hc | exact compare_ok _ _ hf | exact cmpInt_ok _ _ | exact or_ok _ _ | (simp_all [runesC]; done)
theorem get178 : P.funcs[178]? = some Tryz.f178 := by kernel_rfl
theorem ent178 : entersP P 178 = true := by kernel_rfl
theorem near_ok (a b : V) (hf : Fine a) : CallsF P G 178 [encV a, encV b] (int (nearC a b)) := by
  refine sx_fn (hs := [.br [.br [.nat 15, .call (FV.sc (Value.int IntKind.u64 (awayI (V.num a)))), .call (FV.sc (Value.int IntKind.u64 (awayI (V.num b)))), .call (int (cmpI (awayI (V.num a)) (awayI (V.num b)))), .call (int (cmpI (V.num a) (V.num b))), .call (int (orI (cmpI (awayI (V.num a)) (awayI (V.num b))) (cmpI (V.num a) (V.num b))))] [.call (int (cmpV a b))]] [.dec false, .call (int (cmpV a b))]]) ((((V.kind a == 2) = (true)) → ((((V.kind b == 2) = (true)) → ((E (true)) ∧ (CallsF P G 190 [int (V.num a)] (FV.sc (Value.int IntKind.u64 (awayI (V.num a))))) ∧ (CallsF P G 190 [int (V.num b)] (FV.sc (Value.int IntKind.u64 (awayI (V.num b))))) ∧ (CallsF P G 189 [FV.sc (Value.int IntKind.u64 (awayI (V.num a))), FV.sc (Value.int IntKind.u64 (awayI (V.num b)))] (int (cmpI (awayI (V.num a)) (awayI (V.num b))))) ∧ (CallsF P G 126 [int (V.num a), int (V.num b)] (int (cmpI (V.num a) (V.num b)))) ∧ (CallsF P G 183 [FV.sl 1 [[int (cmpI (awayI (V.num a)) (awayI (V.num b)))], [int (cmpI (V.num a) (V.num b))]]] (int (orI (cmpI (awayI (V.num a)) (awayI (V.num b))) (cmpI (V.num a) (V.num b))))) ∧ (int (orI (cmpI (awayI (V.num a)) (awayI (V.num b))) (cmpI (V.num a) (V.num b)))) = (int (nearC a b)))) ∧ (((V.kind b == 2) = (false)) → ((CallsF P G 95 [encV a, encV b] (int (cmpV a b))) ∧ (int (cmpV a b)) = (int (nearC a b)))))) ∧ (((V.kind a == 2) = (false)) → ((E (false)) ∧ (CallsF P G 95 [encV a, encV b] (int (cmpV a b))) ∧ (int (cmpV a b)) = (int (nearC a b))))) get178 ent178 (by kernel_rfl) ?_
  refine ⟨fun hi => ⟨fun hi => ⟨rfl, ⟨?_, ⟨?_, ⟨?_, ⟨?_, ⟨?_, ?_⟩⟩⟩⟩⟩⟩, fun hi => ⟨?_, ?_⟩⟩, fun hi => ⟨rfl, ⟨?_, ?_⟩⟩⟩
  all_goals first | exact away_ok _ | exact compare_ok _ _ hf | exact or_ok _ _ | exact cmp64_ok _ _ | exact cmpInt64_ok _ _ | (simp_all [nearC]; done)
theorem get182 : P.funcs[182]? = some Tryz.f182 := by kernel_rfl
theorem ent182 : entersP P 182 = true := by kernel_rfl
theorem byfull_ok (a b : V) (hf : Fine a) (hb : Fine b) (hra : rightB a = true) (hrb : rightB b = true) : CallsF P G 182 [encV a, encV b, .ptr [.fn 174 [] []] 0] (int (orI (cmpI (fullH a) (fullH b)) (cmpV a b))) := by
  refine sx_fn (hs := [.nat 13, .call (FV.sc (Value.int IntKind.u32 (fullH a))), .call (FV.sc (Value.int IntKind.u32 (fullH b))), .call (int (cmpI (fullH a) (fullH b))), .call (int (cmpV a b)), .call (int (orI (cmpI (fullH a) (fullH b)) (cmpV a b)))]) ((E (true)) ∧ (CallsF P G 174 [encV a] (FV.sc (Value.int IntKind.u32 (fullH a)))) ∧ (CallsF P G 174 [encV b] (FV.sc (Value.int IntKind.u32 (fullH b)))) ∧ (CallsF P G 184 [FV.sc (Value.int IntKind.u32 (fullH a)), FV.sc (Value.int IntKind.u32 (fullH b))] (int (cmpI (fullH a) (fullH b)))) ∧ (CallsF P G 95 [encV a, encV b] (int (cmpV a b))) ∧ (CallsF P G 183 [FV.sl 1 [[int (cmpI (fullH a) (fullH b))], [int (cmpV a b)]]] (int (orI (cmpI (fullH a) (fullH b)) (cmpV a b)))) ∧ E (int (orI (cmpI (fullH a) (fullH b)) (cmpV a b)))) get182 ent182 (by kernel_rfl) ?_
  refine ⟨rfl, ⟨?_, ⟨?_, ⟨?_, ⟨?_, ⟨?_, rfl⟩⟩⟩⟩⟩⟩
  all_goals first | exact ofull_ok _ hf hra | exact ofull_ok _ hb hrb | exact cmp32_ok _ _ | exact compare_ok _ _ hf | exact or_ok _ _
theorem get186 : P.funcs[186]? = some Tryz.f186 := by kernel_rfl
theorem ent186 : entersP P 186 = true := by kernel_rfl
theorem byparts_ok (a b : V) (hf : Fine a) (hb : Fine b) : CallsF P G 186 [encV a, encV b, .ptr [.fn 176 [] []] 0] (int (orI (cmpI (countV a 16 1024) (countV b 16 1024)) (cmpV a b))) := by
  refine sx_fn (hs := [.nat 13, .call (int (countV a 16 1024)), .call (int (countV b 16 1024)), .call (int (cmpI (countV a 16 1024) (countV b 16 1024))), .call (int (cmpV a b)), .call (int (orI (cmpI (countV a 16 1024) (countV b 16 1024)) (cmpV a b)))]) ((E (true)) ∧ (CallsF P G 176 [encV a] (int (countV a 16 1024))) ∧ (CallsF P G 176 [encV b] (int (countV b 16 1024))) ∧ (CallsF P G 125 [int (countV a 16 1024), int (countV b 16 1024)] (int (cmpI (countV a 16 1024) (countV b 16 1024)))) ∧ (CallsF P G 95 [encV a, encV b] (int (cmpV a b))) ∧ (CallsF P G 183 [FV.sl 1 [[int (cmpI (countV a 16 1024) (countV b 16 1024))], [int (cmpV a b)]]] (int (orI (cmpI (countV a 16 1024) (countV b 16 1024)) (cmpV a b)))) ∧ E (int (orI (cmpI (countV a 16 1024) (countV b 16 1024)) (cmpV a b)))) get186 ent186 (by kernel_rfl) ?_
  refine ⟨rfl, ⟨?_, ⟨?_, ⟨?_, ⟨?_, ⟨?_, rfl⟩⟩⟩⟩⟩⟩
  all_goals first | exact oparts_ok _ hf | exact oparts_ok _ hb | exact cmpInt_ok _ _ | exact compare_ok _ _ hf | exact or_ok _ _
end Go.Sx
set_option maxRecDepth 100000
set_option maxHeartbeats 4000000
set_option linter.unusedSimpArgs false
set_option linter.unusedVariables false
namespace Go.Sx
open Go.Proofs Sp
theorem ocmp_2 (a b : V) (ha : Fine a) (hb : Fine b) (hra : rightB a = true) (hrb : rightB b = true) (hta : a.text.length ≤ 1000000) (htb : b.text.length ≤ 1000000) : CallsF P G 102 [int 2, encV a, encV b] (.tup [int (orI (cmpI (fullH a) (fullH b)) (cmpV a b)), int 0]) := by
  refine sx_fn (hs := [.lfz [2], .call (FV.tup [FV.agg [FV.fn 182 [] [FV.ptr [FV.fn 174 [] []] 0]], int 0]), .dec false, .call (int (orI (cmpI (fullH a) (fullH b)) (cmpV a b)))]) ((CallsF P G 132 [int 2, FV.sl 4 [cellsP a, cellsP b]] (FV.tup [FV.agg [FV.fn 182 [] [FV.ptr [FV.fn 174 [] []] 0]], int 0])) ∧ (E (false)) ∧ (CallsF P G 182 [encV a, encV b, FV.ptr [FV.fn 174 [] []] 0] (int (orI (cmpI (fullH a) (fullH b)) (cmpV a b)))) ∧ E (FV.tup [int (orI (cmpI (fullH a) (fullH b)) (cmpV a b)), int 0])) get102 ent102 (by kernel_rfl) ?_
  refine ⟨?_, ⟨rfl, ⟨?_, rfl⟩⟩⟩
  all_goals first | (have h := listed_two 2 a b ha hb hra hrb asked_2; exact h) | exact byfull_ok _ _ ha hb hra hrb
theorem ocmp_3 (a b : V) (ha : Fine a) (hb : Fine b) (hra : rightB a = true) (hrb : rightB b = true) (hta : a.text.length ≤ 1000000) (htb : b.text.length ≤ 1000000) : CallsF P G 102 [int 3, encV a, encV b] (.tup [int (orI (cmpI (countV a 16 1024) (countV b 16 1024)) (cmpV a b)), int 0]) := by
  refine sx_fn (hs := [.lfz [2], .call (FV.tup [FV.agg [FV.fn 186 [] [FV.ptr [FV.fn 176 [] []] 0]], int 0]), .dec false, .call (int (orI (cmpI (countV a 16 1024) (countV b 16 1024)) (cmpV a b)))]) ((CallsF P G 132 [int 3, FV.sl 4 [cellsP a, cellsP b]] (FV.tup [FV.agg [FV.fn 186 [] [FV.ptr [FV.fn 176 [] []] 0]], int 0])) ∧ (E (false)) ∧ (CallsF P G 186 [encV a, encV b, FV.ptr [FV.fn 176 [] []] 0] (int (orI (cmpI (countV a 16 1024) (countV b 16 1024)) (cmpV a b)))) ∧ E (FV.tup [int (orI (cmpI (countV a 16 1024) (countV b 16 1024)) (cmpV a b)), int 0])) get102 ent102 (by kernel_rfl) ?_
  refine ⟨?_, ⟨rfl, ⟨?_, rfl⟩⟩⟩
  all_goals first | (have h := listed_two 3 a b ha hb hra hrb asked_3; exact h) | exact byparts_ok _ _ ha hb
theorem ocmp_4 (a b : V) (ha : Fine a) (hb : Fine b) (hra : rightB a = true) (hrb : rightB b = true) (hta : a.text.length ≤ 1000000) (htb : b.text.length ≤ 1000000) : CallsF P G 102 [int 4, encV a, encV b] (.tup [int (runesC a b), int 0]) := by
  refine sx_fn (hs := [.lfz [2], .call (FV.tup [FV.agg [FV.fn 177 [] []], int 0]), .dec false, .call (int (runesC a b))]) ((CallsF P G 132 [int 4, FV.sl 4 [cellsP a, cellsP b]] (FV.tup [FV.agg [FV.fn 177 [] []], int 0])) ∧ (E (false)) ∧ (CallsF P G 177 [encV a, encV b] (int (runesC a b))) ∧ E (FV.tup [int (runesC a b), int 0])) get102 ent102 (by kernel_rfl) ?_
  refine ⟨?_, ⟨rfl, ⟨?_, rfl⟩⟩⟩
  all_goals first | (have h := listed_two 4 a b ha hb hra hrb asked_4; exact h) | exact runes_ok _ _ hta htb ha
theorem ocmp_5 (a b : V) (ha : Fine a) (hb : Fine b) (hra : rightB a = true) (hrb : rightB b = true) (hta : a.text.length ≤ 1000000) (htb : b.text.length ≤ 1000000) : CallsF P G 102 [int 5, encV a, encV b] (.tup [int (nearC a b), int 0]) := by
  refine sx_fn (hs := [.lfz [2], .call (FV.tup [FV.agg [FV.fn 178 [] []], int 0]), .dec false, .call (int (nearC a b))]) ((CallsF P G 132 [int 5, FV.sl 4 [cellsP a, cellsP b]] (FV.tup [FV.agg [FV.fn 178 [] []], int 0])) ∧ (E (false)) ∧ (CallsF P G 178 [encV a, encV b] (int (nearC a b))) ∧ E (FV.tup [int (nearC a b), int 0])) get102 ent102 (by kernel_rfl) ?_
  refine ⟨?_, ⟨rfl, ⟨?_, rfl⟩⟩⟩
  all_goals first | (have h := listed_two 5 a b ha hb hra hrb asked_5; exact h) | exact near_ok _ _ ha
theorem right_text {v : V} (h : rightB v = true) : v.text.length ≤ 1000000 := by
  cases v with
  | mk k n s l =>
    have h1 : 0 < countV (.mk k n s l) 16 1024 := by simpa [rightB] using h
    have h2 := (countV_parts k n s l 16 1024 h1).1
    simp only [V.text]
    simp only [plainB] at h2
    split at h2
    · cases h2
    · rename_i h3
      by_cases h4 : k = 3
      · subst h4
        simp at h2
        omega
      · have : s = [] := by
          simp only [not_or, not_and, Decidable.not_not] at h3
          exact h3.1 h4
        rw [this]; simp
theorem cmpO_0 : cmpO 0 = cmpV := by simp [cmpO]
theorem cmpO_1 : cmpO 1 = fun a b => cmpV b a := by simp [cmpO]
theorem cmpO_2 : cmpO 2 = fullC := by simp [cmpO]
theorem cmpO_3 : cmpO 3 = partsC := by simp [cmpO]
theorem cmpO_4 : cmpO 4 = runesC := by simp [cmpO]
theorem cmpO_5 : cmpO 5 = nearC := by simp [cmpO]
theorem ocmp_ok (o : Int) (ho : 0 ≤ o ∧ o ≤ 5) (a b : V) (ha : Fine a) (hb : Fine b) (hra : rightB a = true) (hrb : rightB b = true) : CallsF P G 102 [int o, encV a, encV b] (.tup [int (cmpO o a b), int 0]) := by
  have hta := right_text hra
  have htb := right_text hrb
  rcases (show o = 0 ∨ o = 1 ∨ o = 2 ∨ o = 3 ∨ o = 4 ∨ o = 5 by omega) with rfl | rfl | rfl | rfl | rfl | rfl
  · rw [cmpO_0]; exact ocmp_0 a b ha hb hra hrb
  · rw [cmpO_1]; exact ocmp_1 a b ha hb hra hrb
  · rw [cmpO_2]; exact ocmp_2 a b ha hb hra hrb hta htb
  · rw [cmpO_3]; exact ocmp_3 a b ha hb hra hrb hta htb
  · rw [cmpO_4]; exact ocmp_4 a b ha hb hra hrb hta htb
  · rw [cmpO_5]; exact ocmp_5 a b ha hb hra hrb hta htb
theorem mcmp_run (o n : Int) (t : T) (a b : V) (ho : 0 ≤ o ∧ o ≤ 5) (ha : Fine a) (hb : Fine b) (hra : rightB a = true) (hrb : rightB b = true) : CallsF P G 79 [encM o n t, encV a, encV b] (int (cmpO o a b)) := by
  refine sx_fn (hs := [.nat 10, .call (int o), .call (FV.tup [int (cmpO o a b), int 0])]) ((E (true)) ∧ (CallsF P G 45 [encM o n t] (int o)) ∧ (CallsF P G 102 [int o, encV a, encV b] (FV.tup [int (cmpO o a b), int 0])) ∧ E (int (cmpO o a b))) get79 ent79 (by kernel_rfl) ?_
  refine ⟨rfl, ⟨?_, ⟨?_, rfl⟩⟩⟩
  all_goals first | exact order_ok _ _ _ | exact ocmp_ok _ ho _ _ ha hb hra hrb
theorem cmpCO (o : Int) (ho : 0 ≤ o ∧ o ≤ 5) : CmpC (cmpO o) o := fun n t a b ha hb hra hrb => mcmp_run o n t a b ho ha hb hra hrb
end Go.Sx

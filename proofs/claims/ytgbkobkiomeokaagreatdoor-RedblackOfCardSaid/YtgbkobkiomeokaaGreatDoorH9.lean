/-
  Proved: what some functions of the program answer, or a law of the evaluator that shows it, one theorem each; its conditions are the hypotheses that stand ahead of it.
-/
import Derived.Test.YtgbkobkiomeokaaGreatDoorPO
import Derived.KernelRfl
import Derived.Test.YtgbkobkiomeokaaGreatDoorL3
set_option maxRecDepth 100000
set_option maxHeartbeats 4000000
set_option linter.unusedSimpArgs false
set_option linter.unusedVariables false
namespace Go.Sx
open Go.Proofs Sp
def Srune2 (s : ByteArray) (i : Nat) : St := { sl := slots 10 [(2, .f (int (i : Int))), (4, .loc 0 0)], ob := [(0, .iter s (posAt s i))], nx := 1 }
theorem get127 : P.funcs[127]? = some Tryz.f127 := by kernel_rfl
theorem ent127 : entersP P 127 = true := by kernel_rfl
theorem runecount_run (s : ByteArray) (N : Nat) (hs : s.size ≤ 1000000) (h : ∀ i, i < N → posAt s i < s.size) (hN : ¬ posAt s N < s.size) : CallsF P G 127 [.sc (.string s)] (int (N : Int)) := by
  refine sx_fn (hs := [.loop [(0, 0)] [(0, 0)] (Srune2 s) N (fun _ => [.dec true, .dec true]), .dec false, .dec false]) ((E true ∧ (AV.f (int 0) = AV.f (int (Int.ofNat 0)) ∧ E (AV.loc 0 0) ∧ True) ∧ (Ob.iter s 0 = Ob.iter s (posAt s 0) ∧ True) ∧ E true ∧ (false = true → false = true)) ∧ (∀ (i : Nat), i < N → posAt s i < ByteArray.size s ∧ E true ∧ E true ∧ (AV.f (int (IntKind.wrap IntKind.i64 ((i : Int) + 1))) = AV.f (int (↑(i + 1) : Int)) ∧ E (AV.loc 0 0) ∧ True) ∧ (Ob.iter s (posAt s i + Prod.snd (Utf8.decode s (posAt s i))) = Ob.iter s (posAt s (i + 1)) ∧ True) ∧ E true ∧ (false = true → false = true)) ∧ ¬ (posAt s N < ByteArray.size s) ∧ E false ∧ E (int (N : Int))) get127 ent127 (by kernel_rfl) ?_
  refine ⟨⟨rfl, ⟨?_, rfl, trivial⟩, ⟨?_, trivial⟩, rfl, fun hi => ?_⟩, fun i => fun hi => ⟨?_, rfl, rfl, ⟨?_, rfl, trivial⟩, ⟨?_, trivial⟩, rfl, fun hi => ?_⟩, ?_, rfl, rfl⟩
  all_goals first | exact (h i (by assumption)) | exact hN | (exact congrArg (fun x => AV.f (int x)) (by have h2 := posAt_ge s i; have h3 := h i (by assumption); exact wrapS ((i : Int) + 1) (by omega) (by omega))) | assumption | (simp [V.kind, V.num, V.text, V.items, *]; done) | rfl
theorem runecount_ok (s : List UInt8) (hs : s.length ≤ 1000000) : CallsF P G 127 [str s] (int (lettersN ⟨s.toArray⟩ : Nat)) :=
  runecount_run ⟨s.toArray⟩ (lettersN ⟨s.toArray⟩) (by simpa [ByteArray.size] using hs) (letters_spec _).2 (letters_spec _).1
def pick2 (a b : Int) (i : Nat) : Int := if i = 0 then a else b
def Sor (a b : Int) (i : Nat) : St := { sl := slots 18 [(3, .f (int 0)), (6, .f (.sl 1 [[int a], [int b]])), (7, .f (int 2)), (8, .f (int (i : Int)))], ob := [], nx := 0 }
theorem get122 : P.funcs[122]? = some Tryz.f122 := by kernel_rfl
theorem ent122 : entersP P 122 = true := by kernel_rfl
theorem or_0 (a b : Int) (h : a ≠ 0) : CallsF P G 122 [.sl 1 [[int a], [int b]]] (int a) := by
  refine sx_fn (hs := [.loop [] [] (Sor a b) (0) (fun i => [.br [.el ([int (pick2 a b i)]), .br [] []] []]), .dec true, .el ([int (pick2 a b 0)]), .br [] []]) (let z1 := AV.f (FV.sl 1 [[int a], [int b]]); (E true ∧ (E (AV.f (int 0)) ∧ E z1 ∧ AV.f (int (↑(List.length [[int a], [int b]]) : Int)) = AV.f (int 2) ∧ AV.f (int 0) = AV.f (int (Int.ofNat 0)) ∧ True) ∧ True ∧ E true ∧ (false = true → false = true)) ∧ (∀ (i : Nat), i < 0 → Br (decide ((i : Int) < 2)) ((E 1 ∧ (0 : Int) ≤ (i : Int) ∧ [[int a], [int b]][i]? = some [int (pick2 a b i)]) ∧ Br (pick2 a b i != 0) False (E true ∧ (E (AV.f (int 0)) ∧ E z1 ∧ E (AV.f (int 2)) ∧ AV.f (int (IntKind.wrap IntKind.i64 ((i : Int) + 1))) = AV.f (int (↑(i + 1) : Int)) ∧ True) ∧ True ∧ E true ∧ (St.nd (Sor a b (i + 1)) = true → false = true))) False) ∧ E true ∧ (E 1 ∧ (0 : Int) ≤ (0 : Int) ∧ some [int a] = some [int (pick2 a b 0)]) ∧ Br (pick2 a b 0 != 0) (int (pick2 a b 0) = int a) False) get122 ent122 (by kernel_rfl) ?_
  refine ⟨⟨rfl, ⟨rfl, rfl, ?_, ?_, trivial⟩, trivial, rfl, fun hi => ?_⟩, fun i => fun hlt => ⟨fun hi => ⟨⟨rfl, ?_, ?_⟩, fun hi => ?_, fun hi => ⟨rfl, ⟨rfl, rfl, rfl, ?_, trivial⟩, trivial, rfl, fun hi => ?_⟩⟩, fun hi => ?_⟩, rfl, ⟨rfl, ?_, ?_⟩, fun hi => ?_, fun hi => ?_⟩
  all_goals first | rfl | (rcases (show i = 0 ∨ i = 1 by omega) with rfl | rfl <;> rfl) | (simp_all [pick2]; done)
theorem or_1 (b : Int) (h : b ≠ 0) : CallsF P G 122 [.sl 1 [[int 0], [int b]]] (int b) := by
  refine sx_fn (hs := [.loop [] [] (Sor 0 b) (1) (fun i => [.br [.el ([int (pick2 0 b i)]), .br [] []] []]), .dec true, .el ([int (pick2 0 b 1)]), .br [] []]) (let z1 := AV.f (FV.sl 1 [[int 0], [int b]]); (E true ∧ (E (AV.f (int 0)) ∧ E z1 ∧ AV.f (int (↑(List.length [[int 0], [int b]]) : Int)) = AV.f (int 2) ∧ AV.f (int 0) = AV.f (int (Int.ofNat 0)) ∧ True) ∧ True ∧ E true ∧ (false = true → false = true)) ∧ (∀ (i : Nat), i < 1 → Br (decide ((i : Int) < 2)) ((E 1 ∧ (0 : Int) ≤ (i : Int) ∧ [[int 0], [int b]][i]? = some [int (pick2 0 b i)]) ∧ Br (pick2 0 b i != 0) False (E true ∧ (E (AV.f (int 0)) ∧ E z1 ∧ E (AV.f (int 2)) ∧ AV.f (int (IntKind.wrap IntKind.i64 ((i : Int) + 1))) = AV.f (int (↑(i + 1) : Int)) ∧ True) ∧ True ∧ E true ∧ (St.nd (Sor 0 b (i + 1)) = true → false = true))) False) ∧ E true ∧ (E 1 ∧ (0 : Int) ≤ (1 : Int) ∧ some [int b] = some [int (pick2 0 b 1)]) ∧ Br (pick2 0 b 1 != 0) (int (pick2 0 b 1) = int b) False) get122 ent122 (by kernel_rfl) ?_
  refine ⟨⟨rfl, ⟨rfl, rfl, ?_, ?_, trivial⟩, trivial, rfl, fun hi => ?_⟩, fun i => fun hlt => ⟨fun hi => ⟨⟨rfl, ?_, ?_⟩, fun hi => ?_, fun hi => ⟨rfl, ⟨rfl, rfl, rfl, ?_, trivial⟩, trivial, rfl, fun hi => ?_⟩⟩, fun hi => ?_⟩, rfl, ⟨rfl, ?_, ?_⟩, fun hi => ?_, fun hi => ?_⟩
  all_goals first | rfl | (rcases (show i = 0 ∨ i = 1 by omega) with rfl | rfl <;> rfl) | (simp_all [pick2]; done) | assumption
theorem or_2   : CallsF P G 122 [.sl 1 [[int 0], [int 0]]] (int 0) := by
  refine sx_fn (hs := [.loop [] [] (Sor 0 0) (2) (fun i => [.br [.el ([int (pick2 0 0 i)]), .br [] []] []]), .dec false]) (let z1 := AV.f (FV.sl 1 [[int 0], [int 0]]); (E true ∧ (E (AV.f (int 0)) ∧ E z1 ∧ AV.f (int (Int.ofNat (List.length [[int 0], [int 0]]))) = AV.f (int 2) ∧ AV.f (int 0) = AV.f (int (Int.ofNat 0)) ∧ True) ∧ True ∧ E true ∧ (false = true → false = true)) ∧ (∀ (i : Nat), i < 2 → Br (decide ((i : Int) < 2)) ((E 1 ∧ (0 : Int) ≤ (i : Int) ∧ [[int 0], [int 0]][i]? = some [int (pick2 0 0 i)]) ∧ Br (pick2 0 0 i != 0) False (E true ∧ (E (AV.f (int 0)) ∧ E z1 ∧ E (AV.f (int 2)) ∧ AV.f (int (IntKind.wrap IntKind.i64 ((i : Int) + 1))) = AV.f (int (↑(i + 1) : Int)) ∧ True) ∧ True ∧ E true ∧ (St.nd (Sor 0 0 (i + 1)) = true → false = true))) False) ∧ E false ∧ E (int 0)) get122 ent122 (by kernel_rfl) ?_
  refine ⟨⟨rfl, ⟨rfl, rfl, ?_, ?_, trivial⟩, trivial, rfl, fun hi => ?_⟩, fun i => fun hlt => ⟨fun hi => ⟨⟨rfl, ?_, ?_⟩, fun hi => ?_, fun hi => ⟨rfl, ⟨rfl, rfl, rfl, ?_, trivial⟩, trivial, rfl, fun hi => ?_⟩⟩, fun hi => ?_⟩, rfl, rfl⟩
  all_goals first | rfl | (rcases (show i = 0 ∨ i = 1 by omega) with rfl | rfl <;> rfl) | (simp_all [pick2]; done) | (simp only [decide_eq_true_eq, decide_eq_false_iff_not] at *; omega) | assumption
theorem or_ok (a b : Int) : CallsF P G 122 [.sl 1 [[int a], [int b]]] (int (orI a b)) := by
  unfold orI
  by_cases h : a ≠ 0
  · rw [if_pos h]; exact or_0 a b h
  · rw [if_neg h]
    obtain rfl : a = 0 := by omega
    by_cases h2 : b ≠ 0
    · exact or_1 b h2
    · obtain rfl : b = 0 := by omega
      exact or_2
theorem get116 : P.funcs[116]? = some Tryz.f116 := by kernel_rfl
theorem ent116 : entersP P 116 = true := by kernel_rfl
theorem runes_ok (a b : V) (ha : a.text.length ≤ 1000000) (hc : b.text.length ≤ 1000000) (hf : Fine a) : CallsF P G 116 [encV a, encV b] (int (runesC a b)) := by
  refine sx_fn (hs := [.br [.br [.nat 13, .call (int (↑(lettersN { data := List.toArray (V.text a) }) : Int)), .call (int (↑(lettersN { data := List.toArray (V.text b) }) : Int)), .call (int (cmpI (↑(lettersN { data := List.toArray (V.text a) }) : Int) (↑(lettersN { data := List.toArray (V.text b) }) : Int))), .call (int (cmpV a b)), .call (int (orI (cmpI (↑(lettersN { data := List.toArray (V.text a) }) : Int) (↑(lettersN { data := List.toArray (V.text b) }) : Int)) (cmpV a b)))] [.call (int (cmpV a b))]] [.dec false, .call (int (cmpV a b))]]) (Br (V.kind a == 3) (Br (V.kind b == 3) (E true ∧ CallsF P G 127 [str (V.text a)] (int (↑(lettersN { data := List.toArray (V.text a) }) : Int)) ∧ CallsF P G 127 [str (V.text b)] (int (↑(lettersN { data := List.toArray (V.text b) }) : Int)) ∧ CallsF P G 76 [int (↑(lettersN { data := List.toArray (V.text a) }) : Int), int (↑(lettersN { data := List.toArray (V.text b) }) : Int)] (int (cmpI (↑(lettersN { data := List.toArray (V.text a) }) : Int) (↑(lettersN { data := List.toArray (V.text b) }) : Int))) ∧ CallsF P G 53 [encV a, encV b] (int (cmpV a b)) ∧ CallsF P G 122 [FV.sl 1 [[int (cmpI (↑(lettersN { data := List.toArray (V.text a) }) : Int) (↑(lettersN { data := List.toArray (V.text b) }) : Int))], [int (cmpV a b)]]] (int (orI (cmpI (↑(lettersN { data := List.toArray (V.text a) }) : Int) (↑(lettersN { data := List.toArray (V.text b) }) : Int)) (cmpV a b))) ∧ int (orI (cmpI (↑(lettersN { data := List.toArray (V.text a) }) : Int) (↑(lettersN { data := List.toArray (V.text b) }) : Int)) (cmpV a b)) = int (runesC a b)) (CallsF P G 53 [encV a, encV b] (int (cmpV a b)) ∧ int (cmpV a b) = int (runesC a b))) (E false ∧ CallsF P G 53 [encV a, encV b] (int (cmpV a b)) ∧ int (cmpV a b) = int (runesC a b))) get116 ent116 (by kernel_rfl) ?_
  refine ⟨fun hi => ⟨fun hi => ⟨rfl, ?_, ?_, ?_, ?_, ?_, ?_⟩, fun hi => ⟨?_, ?_⟩⟩, fun hi => ⟨rfl, ?_, ?_⟩⟩
  all_goals first | exact runecount_ok _ ha | exact runecount_ok _ hc | exact compare_ok _ _ hf | exact cmpInt_ok _ _ | exact or_ok _ _ | (simp_all [runesC]; done)
theorem get117 : P.funcs[117]? = some Tryz.f117 := by kernel_rfl
theorem ent117 : entersP P 117 = true := by kernel_rfl
theorem near_ok (a b : V) (hf : Fine a) : CallsF P G 117 [encV a, encV b] (int (nearC a b)) := by
  refine sx_fn (hs := let z1 := cmpI (awayI (V.num a)) (awayI (V.num b)); [.br [.br [.nat 15, .call (FV.sc (Value.int IntKind.u64 (awayI (V.num a)))), .call (FV.sc (Value.int IntKind.u64 (awayI (V.num b)))), .call (int z1), .call (int (cmpI (V.num a) (V.num b))), .call (int (orI z1 (cmpI (V.num a) (V.num b))))] [.call (int (cmpV a b))]] [.dec false, .call (int (cmpV a b))]]) (let z1 := cmpI (awayI (V.num a)) (awayI (V.num b)); let z2 := cmpI (V.num a) (V.num b); let z3 := Value.int IntKind.u64 (awayI (V.num a)); let z4 := Value.int IntKind.u64 (awayI (V.num b)); Br (V.kind a == 2) (Br (V.kind b == 2) (E true ∧ CallsF P G 129 [int (V.num a)] (FV.sc z3) ∧ CallsF P G 129 [int (V.num b)] (FV.sc z4) ∧ CallsF P G 128 [FV.sc z3, FV.sc z4] (int z1) ∧ CallsF P G 77 [int (V.num a), int (V.num b)] (int z2) ∧ CallsF P G 122 [FV.sl 1 [[int z1], [int z2]]] (int (orI z1 z2)) ∧ int (orI z1 z2) = int (nearC a b)) (CallsF P G 53 [encV a, encV b] (int (cmpV a b)) ∧ int (cmpV a b) = int (nearC a b))) (E false ∧ CallsF P G 53 [encV a, encV b] (int (cmpV a b)) ∧ int (cmpV a b) = int (nearC a b))) get117 ent117 (by kernel_rfl) ?_
  refine ⟨fun hi => ⟨fun hi => ⟨rfl, ?_, ?_, ?_, ?_, ?_, ?_⟩, fun hi => ⟨?_, ?_⟩⟩, fun hi => ⟨rfl, ?_, ?_⟩⟩
  all_goals first | exact away_ok _ | exact compare_ok _ _ hf | exact or_ok _ _ | exact cmp64_ok _ _ | exact cmpInt64_ok _ _ | (simp_all [nearC]; done)
theorem get121 : P.funcs[121]? = some Tryz.f121 := by kernel_rfl
theorem ent121 : entersP P 121 = true := by kernel_rfl
theorem byfull_ok (a b : V) (hf : Fine a) (hb : Fine b) (hra : rightB a = true) (hrb : rightB b = true) : CallsF P G 121 [encV a, encV b, .ptr [.fn 113 [] []] 0] (int (orI (cmpI (fullH a) (fullH b)) (cmpV a b))) := by
  refine sx_fn (hs := [.nat 13, .call (FV.sc (Value.int IntKind.u32 (fullH a))), .call (FV.sc (Value.int IntKind.u32 (fullH b))), .call (int (cmpI (fullH a) (fullH b))), .call (int (cmpV a b)), .call (int (orI (cmpI (fullH a) (fullH b)) (cmpV a b)))]) (let z1 := cmpI (fullH a) (fullH b); let z2 := Value.int IntKind.u32 (fullH a); let z3 := Value.int IntKind.u32 (fullH b); E true ∧ CallsF P G 113 [encV a] (FV.sc z2) ∧ CallsF P G 113 [encV b] (FV.sc z3) ∧ CallsF P G 123 [FV.sc z2, FV.sc z3] (int z1) ∧ CallsF P G 53 [encV a, encV b] (int (cmpV a b)) ∧ CallsF P G 122 [FV.sl 1 [[int z1], [int (cmpV a b)]]] (int (orI z1 (cmpV a b))) ∧ E (int (orI z1 (cmpV a b)))) get121 ent121 (by kernel_rfl) ?_
  refine ⟨rfl, ?_, ?_, ?_, ?_, ?_, rfl⟩
  all_goals first | exact ofull_ok _ hf hra | exact ofull_ok _ hb hrb | exact cmp32_ok _ _ | exact compare_ok _ _ hf | exact or_ok _ _
theorem get125 : P.funcs[125]? = some Tryz.f125 := by kernel_rfl
theorem ent125 : entersP P 125 = true := by kernel_rfl
theorem byparts_ok (a b : V) (hf : Fine a) (hb : Fine b) : CallsF P G 125 [encV a, encV b, .ptr [.fn 115 [] []] 0] (int (orI (cmpI (countV a 16 1024) (countV b 16 1024)) (cmpV a b))) := by
  refine sx_fn (hs := let z1 := cmpI (countV a 16 1024) (countV b 16 1024); [.nat 13, .call (int (countV a 16 1024)), .call (int (countV b 16 1024)), .call (int z1), .call (int (cmpV a b)), .call (int (orI z1 (cmpV a b)))]) (let z1 := cmpI (countV a 16 1024) (countV b 16 1024); E true ∧ CallsF P G 115 [encV a] (int (countV a 16 1024)) ∧ CallsF P G 115 [encV b] (int (countV b 16 1024)) ∧ CallsF P G 76 [int (countV a 16 1024), int (countV b 16 1024)] (int z1) ∧ CallsF P G 53 [encV a, encV b] (int (cmpV a b)) ∧ CallsF P G 122 [FV.sl 1 [[int z1], [int (cmpV a b)]]] (int (orI z1 (cmpV a b))) ∧ E (int (orI z1 (cmpV a b)))) get125 ent125 (by kernel_rfl) ?_
  refine ⟨rfl, ?_, ?_, ?_, ?_, ?_, rfl⟩
  all_goals first | exact oparts_ok _ hf | exact oparts_ok _ hb | exact cmpInt_ok _ _ | exact compare_ok _ _ hf | exact or_ok _ _
end Go.Sx
set_option maxRecDepth 100000
set_option maxHeartbeats 4000000
set_option linter.unusedSimpArgs false
set_option linter.unusedVariables false
namespace Go.Sx
open Go.Proofs Sp
theorem ocmp_2 (a b : V) (ha : Fine a) (hb : Fine b) (hra : rightB a = true) (hrb : rightB b = true) (hta : a.text.length ≤ 1000000) (htb : b.text.length ≤ 1000000) : CallsF P G 40 [int 2, encV a, encV b] (.tup [int (orI (cmpI (fullH a) (fullH b)) (cmpV a b)), int 0]) := by
  refine sx_fn (hs := [.lfz [2], .call (FV.tup [FV.agg [FV.fn 121 [] [FV.ptr [FV.fn 113 [] []] 0]], int 0]), .dec false, .call (int (orI (cmpI (fullH a) (fullH b)) (cmpV a b)))]) (let z1 := orI (cmpI (fullH a) (fullH b)) (cmpV a b); CallsF P G 64 [int 2, FV.sl 4 [cellsP a, cellsP b]] (FV.tup [FV.agg [FV.fn 121 [] [FV.ptr [FV.fn 113 [] []] 0]], int 0]) ∧ E false ∧ CallsF P G 121 [encV a, encV b, FV.ptr [FV.fn 113 [] []] 0] (int z1) ∧ E (FV.tup [int z1, int 0])) get40 ent40 (by kernel_rfl) ?_
  refine ⟨?_, rfl, ?_, rfl⟩
  all_goals first | (have h := listed_two 2 a b ha hb hra hrb asked_2; exact h) | exact byfull_ok _ _ ha hb hra hrb
theorem ocmp_3 (a b : V) (ha : Fine a) (hb : Fine b) (hra : rightB a = true) (hrb : rightB b = true) (hta : a.text.length ≤ 1000000) (htb : b.text.length ≤ 1000000) : CallsF P G 40 [int 3, encV a, encV b] (.tup [int (orI (cmpI (countV a 16 1024) (countV b 16 1024)) (cmpV a b)), int 0]) := by
  refine sx_fn (hs := [.lfz [2], .call (FV.tup [FV.agg [FV.fn 125 [] [FV.ptr [FV.fn 115 [] []] 0]], int 0]), .dec false, .call (int (orI (cmpI (countV a 16 1024) (countV b 16 1024)) (cmpV a b)))]) (let z1 := orI (cmpI (countV a 16 1024) (countV b 16 1024)) (cmpV a b); CallsF P G 64 [int 3, FV.sl 4 [cellsP a, cellsP b]] (FV.tup [FV.agg [FV.fn 125 [] [FV.ptr [FV.fn 115 [] []] 0]], int 0]) ∧ E false ∧ CallsF P G 125 [encV a, encV b, FV.ptr [FV.fn 115 [] []] 0] (int z1) ∧ E (FV.tup [int z1, int 0])) get40 ent40 (by kernel_rfl) ?_
  refine ⟨?_, rfl, ?_, rfl⟩
  all_goals first | (have h := listed_two 3 a b ha hb hra hrb asked_3; exact h) | exact byparts_ok _ _ ha hb
theorem ocmp_4 (a b : V) (ha : Fine a) (hb : Fine b) (hra : rightB a = true) (hrb : rightB b = true) (hta : a.text.length ≤ 1000000) (htb : b.text.length ≤ 1000000) : CallsF P G 40 [int 4, encV a, encV b] (.tup [int (runesC a b), int 0]) := by
  refine sx_fn (hs := [.lfz [2], .call (FV.tup [FV.agg [FV.fn 116 [] []], int 0]), .dec false, .call (int (runesC a b))]) (CallsF P G 64 [int 4, FV.sl 4 [cellsP a, cellsP b]] (FV.tup [FV.agg [FV.fn 116 [] []], int 0]) ∧ E false ∧ CallsF P G 116 [encV a, encV b] (int (runesC a b)) ∧ E (FV.tup [int (runesC a b), int 0])) get40 ent40 (by kernel_rfl) ?_
  refine ⟨?_, rfl, ?_, rfl⟩
  all_goals first | (have h := listed_two 4 a b ha hb hra hrb asked_4; exact h) | exact runes_ok _ _ hta htb ha
theorem ocmp_5 (a b : V) (ha : Fine a) (hb : Fine b) (hra : rightB a = true) (hrb : rightB b = true) (hta : a.text.length ≤ 1000000) (htb : b.text.length ≤ 1000000) : CallsF P G 40 [int 5, encV a, encV b] (.tup [int (nearC a b), int 0]) := by
  refine sx_fn (hs := [.lfz [2], .call (FV.tup [FV.agg [FV.fn 117 [] []], int 0]), .dec false, .call (int (nearC a b))]) (CallsF P G 64 [int 5, FV.sl 4 [cellsP a, cellsP b]] (FV.tup [FV.agg [FV.fn 117 [] []], int 0]) ∧ E false ∧ CallsF P G 117 [encV a, encV b] (int (nearC a b)) ∧ E (FV.tup [int (nearC a b), int 0])) get40 ent40 (by kernel_rfl) ?_
  refine ⟨?_, rfl, ?_, rfl⟩
  all_goals first | (have h := listed_two 5 a b ha hb hra hrb asked_5; exact h) | exact near_ok _ _ ha
theorem right_text {v : V} (h : rightB v = true) : v.text.length ≤ 1000000 := by
  cases v with
  | mk k n s l =>
    have h1 : 0 < countV (.mk k n s l) 16 1024 := by simpa [rightB] using h
    have h2 := (countV_parts k n s l 16 1024 h1).1
    simp only [V.text]
    simp only [plainB] at h2
    split at h2
    · cases h2
    · rename_i h3
      by_cases h4 : k = 3
      · subst h4
        simp at h2
        omega
      · have : s = [] := by
          simp only [not_or, not_and, Decidable.not_not] at h3
          exact h3.1 h4
        rw [this]; simp
theorem cmpO_0 : cmpO 0 = cmpV := by simp [cmpO]
theorem cmpO_1 : cmpO 1 = fun a b => cmpV b a := by simp [cmpO]
theorem cmpO_2 : cmpO 2 = fullC := by simp [cmpO]
theorem cmpO_3 : cmpO 3 = partsC := by simp [cmpO]
theorem cmpO_4 : cmpO 4 = runesC := by simp [cmpO]
theorem cmpO_5 : cmpO 5 = nearC := by simp [cmpO]
theorem ocmp_ok (o : Int) (ho : 0 ≤ o ∧ o ≤ 5) (a b : V) (ha : Fine a) (hb : Fine b) (hra : rightB a = true) (hrb : rightB b = true) : CallsF P G 40 [int o, encV a, encV b] (.tup [int (cmpO o a b), int 0]) := by
  have hta := right_text hra
  have htb := right_text hrb
  rcases (show o = 0 ∨ o = 1 ∨ o = 2 ∨ o = 3 ∨ o = 4 ∨ o = 5 by omega) with rfl | rfl | rfl | rfl | rfl | rfl
  · rw [cmpO_0]; exact ocmp_0 a b ha hb hra hrb
  · rw [cmpO_1]; exact ocmp_1 a b ha hb hra hrb
  · rw [cmpO_2]; exact ocmp_2 a b ha hb hra hrb hta htb
  · rw [cmpO_3]; exact ocmp_3 a b ha hb hra hrb hta htb
  · rw [cmpO_4]; exact ocmp_4 a b ha hb hra hrb hta htb
  · rw [cmpO_5]; exact ocmp_5 a b ha hb hra hrb hta htb
theorem mcmp_run (o n : Int) (t : T) (a b : V) (ho : 0 ≤ o ∧ o ≤ 5) (ha : Fine a) (hb : Fine b) (hra : rightB a = true) (hrb : rightB b = true) : CallsF P G 20 [encM o n t, encV a, encV b] (int (cmpO o a b)) := by
  refine sx_fn (hs := [.nat 10, .call (int o), .call (FV.tup [int (cmpO o a b), int 0])]) ((E (true)) ∧ (CallsF P G 22 [encM o n t] (int o)) ∧ (CallsF P G 40 [int o, encV a, encV b] (FV.tup [int (cmpO o a b), int 0])) ∧ E (int (cmpO o a b))) get20 ent20 (by kernel_rfl) ?_
  refine ⟨rfl, ⟨?_, ⟨?_, rfl⟩⟩⟩
  all_goals first | exact order_ok _ _ _ | exact ocmp_ok _ ho _ _ ha hb hra hrb
theorem cmpCO (o : Int) (ho : 0 ≤ o ∧ o ≤ 5) : CmpC (cmpO o) o := fun n t a b ha hb hra hrb => mcmp_run o n t a b ho ha hb hra hrb
end Go.Sx

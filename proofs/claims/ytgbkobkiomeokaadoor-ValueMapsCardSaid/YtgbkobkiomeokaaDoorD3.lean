/-
  Proved: what some functions of the program answer, or a law of the evaluator that shows it, one theorem each; its conditions are the hypotheses that stand ahead of it.
-/
import Derived.Test.YtgbkobkiomeokaaDoorW0
import Derived.KernelRfl
set_option maxRecDepth 100000
set_option maxHeartbeats 4000000
set_option linter.unusedSimpArgs false
set_option linter.unusedVariables false
namespace Go.Sx
open Go.Proofs Sp
def Sown (l : List V) (i : Nat) : St := { sl := slots 26 [(0, .f (encI l)), (2, .f .nils), (3, .lsl 0), (12, .f (encI l)), (13, .f (int (cellsVs l).length)), (14, .f (int (i : Int)))], ob := [(0, .row 4 25 (ownE l i))], nx := 1 }
theorem get53 : P.funcs[53]? = some Tryd.f53 := by kernel_rfl
theorem ent53 : entersP P 53 = true := by kernel_rfl
theorem owns_nil   : CallsF P G 53 [encI []] (.nils) := by
  refine sx_fn (hs := [.dec true]) ((E (true)) ∧ E (FV.nils)) get53 ent53 (by kernel_rfl) ?_
  exact ⟨rfl, rfl⟩
theorem owns_some (l : List V) (N : Nat) (hl : l.length ≤ 2513169434844) (h0 : 0 < l.length) (hN : N = l.length) (ih : ∀ i, i < l.length → CallsF P G 39 [encV (l.getD i default)] (encV (l.getD i default))) : CallsF P G 53 [encI l] (.sl 4 (ownE l N)) := by
  refine sx_fn (hs := [.br [] [.loop [(0, 0)] [(0, 0)] (Sown l) (N) (fun i => [.br [.el (cellsP (List.getD l i default)), .call (encV (List.getD l i default))] []]), .br [.el (cellsP (List.getD l N default)), .call (encV (List.getD l N default))] [.lfz [0]]]]) (let z1 := (↑(List.length (cellsVs l)) : Int); let z2 := List.getD l N default; Br (z1 == 0) (FV.nils = FV.sl 4 (ownE l N)) ((E (z1) ∧ (0 : Int) ≤ z1 ∧ 56 * List.length (cellsVs l) ≤ 281474976710656 ∧ List.length (cellsVs l) ≤ maxLen) ∧ (E true ∧ (E (AV.f (encI l)) ∧ E (AV.f FV.nils) ∧ E (AV.lsl 0) ∧ E (AV.f (encI l)) ∧ E (AV.f (int z1)) ∧ AV.f (int 0) = AV.f (int (Int.ofNat 0)) ∧ True) ∧ (Ob.row 4 25 (List.replicate (List.length (cellsVs l)) (List.map fV1 (Array.toList (Value.cells (Value.agg #[Value.int IntKind.i64 0, Value.int IntKind.i64 0, Value.string { data := #[] }, Value.slice none 0 0]))))) = Ob.row 4 25 (ownE l 0) ∧ True) ∧ E true ∧ (false = true → false = true)) ∧ (∀ (i : Nat), (let z3 := List.getD l i default; i < N → Br (decide ((i : Int) < z1)) ((E 4 ∧ (0 : Int) ≤ (i : Int) ∧ (cellsVs l)[i]? = some (cellsP z3)) ∧ CallsF P G 39 [encV z3] (encV z3) ∧ ((0 : Int) ≤ (i : Int) ∧ i < List.length (ownE l i)) ∧ i < List.length (ownE l i) ∧ E true ∧ (E (AV.f (encI l)) ∧ E (AV.f FV.nils) ∧ E (AV.lsl 0) ∧ E (AV.f (encI l)) ∧ E (AV.f (int z1)) ∧ AV.f (int (IntKind.wrap IntKind.i64 ((i : Int) + 1))) = AV.f (int (↑(i + 1) : Int)) ∧ True) ∧ (Ob.row 4 25 (List.set (ownE l i) i (cellsP z3)) = Ob.row 4 25 (ownE l (i + 1)) ∧ True) ∧ E true ∧ (St.nd (Sown l (i + 1)) = true → false = true)) False)) ∧ Br (decide ((N : Int) < z1)) ((E 4 ∧ (0 : Int) ≤ (N : Int) ∧ (cellsVs l)[N]? = some (cellsP z2)) ∧ CallsF P G 39 [encV z2] (encV z2) ∧ ((0 : Int) ≤ (N : Int) ∧ N < List.length (ownE l N)) ∧ N < List.length (ownE l N) ∧ False) (E (FV.sl 4 (ownE l N))))) get53 ent53 (by kernel_rfl) ?_
  refine ⟨fun hi => ?_, fun hi => ⟨⟨rfl, ?_, ?_, ?_⟩, ⟨rfl, ⟨rfl, rfl, rfl, rfl, rfl, ?_, trivial⟩, ⟨?_, trivial⟩, rfl, fun hi => ?_⟩, fun i => fun hlt => ⟨fun hi => ⟨⟨rfl, ?_, ?_⟩, ?_, ⟨?_, ?_⟩, ?_, rfl, ⟨rfl, rfl, rfl, rfl, rfl, ?_, trivial⟩, ⟨?_, trivial⟩, rfl, fun hi => ?_⟩, fun hi => ?_⟩, fun hi => ⟨⟨rfl, ?_, ?_⟩, ?_, ⟨?_, ?_⟩, ?_, ?_⟩, fun hi => rfl⟩⟩
  all_goals first | rfl | (simp only [cellsVs_length, decide_eq_true_eq, decide_eq_false_iff_not, ownE_length l i (by omega), Int.toNat_natCast] at *; omega) | (simp only [cellsVs_length, decide_eq_true_eq, decide_eq_false_iff_not, Int.toNat_natCast] at *; omega) | exact cellsVs_get l _ (by omega) | exact ih i (by omega) | (exact congrArg (fun x => AV.f (int x)) (wrapS ((i : Int) + 1) (by omega) (by omega))) | ((try rw [Int.toNat_natCast]); exact congrArg (Ob.row 4 25) (ownE_set l i (by omega))) | (simp [maxLen, cellsVs_length]; omega) | (exfalso; simp only [cellsVs_length, beq_iff_eq] at hi; omega) | (simp [ownE, cellsVs_length, cellsVs, zeroC, int, str, Value.cells, fV1]; done) | assumption
theorem get39 : P.funcs[39]? = some Tryd.f39 := by kernel_rfl
theorem ent39 : entersP P 39 = true := by kernel_rfl
theorem own_step (k n : Int) (s : List UInt8) (l : List V) (h : CallsF P G 53 [encI l] (encI l)) : CallsF P G 39 [encV (.mk k n s l)] (encV (.mk k n s l)) := by
  refine sx_fn (hs := [.call (encI l)]) ((CallsF P G 53 [encI l] (encI l)) ∧ E (FV.agg [int k, int n, str s, encI l])) get39 ent39 (by kernel_rfl) ?_
  refine ⟨?_, rfl⟩
  all_goals exact h
theorem owns_ok (l : List V) (hl : l.length ≤ 2513169434844) (ih : ∀ x, x ∈ l → CallsF P G 39 [encV x] (encV x)) : CallsF P G 53 [encI l] (encI l) := by
  rcases Nat.eq_zero_or_pos l.length with h | h
  · have : l = [] := List.eq_nil_of_length_eq_zero h
    subst this
    exact owns_nil.weak (nils_sl 4)
  · have := owns_some l l.length hl h rfl (fun i hi => by
      have hmem : l.getD i default ∈ l := by rw [List.getD_eq_getElem?_getD, List.getElem?_eq_getElem hi]; exact List.getElem_mem hi
      exact ih _ hmem)
    have e : ownE l l.length = cellsVs l := by simp [ownE]
    rw [e] at this
    exact this
theorem own_ok : ∀ v, Fine v → CallsF P G 39 [encV v] (encV v) := by
  intro v
  induction v using V.ind with
  | h k n s l ih =>
    intro hv
    exact own_step k n s l (owns_ok l hv.len.1 fun x hx => ih x hx (hv.items.2 x hx))
theorem get33 : P.funcs[33]? = some Tryd.f33 := by kernel_rfl
theorem ent33 : entersP P 33 = true := by kernel_rfl
theorem plainInt_ok (n : Int)  : CallsF P G 33 [int n] (.agg [int 2, int n, str [], .nils]) := by
  refine sx_fn (hs := []) (E (FV.agg [int 2, int n, str [], FV.nils])) get33 ent33 (by kernel_rfl) ?_
  rfl
theorem int_ok (n : Int) : CallsF P G 33 [int n] (encV (.mk 2 n [] [])) := (plainInt_ok n).weak (nilV 2 n [])
end Go.Sx
set_option maxRecDepth 100000
set_option maxHeartbeats 4000000
set_option linter.unusedSimpArgs false
set_option linter.unusedVariables false
namespace Go.Sx
open Go.Proofs Sp
def Svals (l : List V) (i : Nat) : St := { sl := slots 18 [(0, .f (encI l)), (2, .f (int 0)), (8, .f (encI l)), (9, .f (int (cellsVs l).length)), (10, .f (int (i : Int)))], ob := [], nx := 0 }
/-- What is wrong with a list of values. -/
noncomputable def listE (l : List V) : Int := if 65536 < l.length then 2 else if l.all rightB then 0 else 3
theorem get44 : P.funcs[44]? = some Tryd.f44 := by kernel_rfl
theorem ent44 : entersP P 44 = true := by kernel_rfl
theorem values_long (l : List V) (h : 65536 < l.length) : CallsF P G 44 [encI l] (int 2) := by
  refine sx_fn (hs := [.br [] []]) ((((decide ((↑(List.length (cellsVs l)) : Int) > 65536)) = (true)) → (E (int 2))) ∧ (((decide ((↑(List.length (cellsVs l)) : Int) > 65536)) = (false)) → (False))) get44 ent44 (by kernel_rfl) ?_
  refine ⟨fun hi => rfl, fun hi => ?_⟩
  all_goals (exfalso; simp only [cellsVs_length, decide_eq_true_eq, decide_eq_false_iff_not] at *; omega)
theorem values_all (l : List V) (N : Nat) (hl : l.length ≤ 65536) (hN : N ≤ l.length) (hk : ∀ i, i < N → rightB (l.getD i default) = true) (ih : ∀ i, i < l.length → CallsF P G 24 [encV (l.getD i default)] (bool (rightB (l.getD i default)))) (h3 : N = l.length) : CallsF P G 44 [encI l] (int 0) := by
  refine sx_fn (hs := [.br [] [.loop [] [] (Svals l) (N) (fun i => [.br [.el (cellsP (List.getD l i default)), .call (bool (rightB (List.getD l i default))), .br [] []] []]), .br [.el (cellsP (List.getD l N default)), .call (bool (rightB (List.getD l N default))), .br [] []] []]]) (let z1 := (↑(List.length (cellsVs l)) : Int); let z2 := List.getD l N default; Br (decide (z1 > 65536)) (int 2 = int 0) ((E true ∧ (E (AV.f (encI l)) ∧ E (AV.f (int 0)) ∧ E (AV.f (encI l)) ∧ E (AV.f (int z1)) ∧ AV.f (int 0) = AV.f (int (Int.ofNat 0)) ∧ True) ∧ True ∧ E true ∧ (false = true → false = true)) ∧ (∀ (i : Nat), (let z3 := List.getD l i default; i < N → Br (decide ((i : Int) < z1)) ((E 4 ∧ (0 : Int) ≤ (i : Int) ∧ (cellsVs l)[i]? = some (cellsP z3)) ∧ CallsF P G 24 [encV z3] (bool (rightB z3)) ∧ Br (!rightB z3) False (E true ∧ (E (AV.f (encI l)) ∧ E (AV.f (int 0)) ∧ E (AV.f (encI l)) ∧ E (AV.f (int z1)) ∧ AV.f (int (IntKind.wrap IntKind.i64 ((i : Int) + 1))) = AV.f (int (↑(i + 1) : Int)) ∧ True) ∧ True ∧ E true ∧ (St.nd (Svals l (i + 1)) = true → false = true))) False)) ∧ Br (decide ((N : Int) < z1)) ((E 4 ∧ (0 : Int) ≤ (N : Int) ∧ (cellsVs l)[N]? = some (cellsP z2)) ∧ CallsF P G 24 [encV z2] (bool (rightB z2)) ∧ Br (!rightB z2) (int 3 = int 0) False) (E (int 0)))) get44 ent44 (by kernel_rfl) ?_
  refine ⟨fun hi => ?_, fun hi => ⟨⟨rfl, ⟨rfl, rfl, rfl, rfl, ?_, trivial⟩, trivial, rfl, fun hi => ?_⟩, fun i => fun hlt => ⟨fun hi => ⟨⟨rfl, ?_, ?_⟩, ?_, fun hi => ?_, fun hi => ⟨rfl, ⟨rfl, rfl, rfl, rfl, ?_, trivial⟩, trivial, rfl, fun hi => ?_⟩⟩, fun hi => ?_⟩, fun hi => ⟨⟨rfl, ?_, ?_⟩, ?_, fun hi => ?_, fun hi => ?_⟩, fun hi => rfl⟩⟩
  all_goals first | rfl | (simp only [cellsVs_length, decide_eq_true_eq, decide_eq_false_iff_not] at *; omega) | exact cellsVs_get l _ (by omega) | exact ih i (by omega) | (exact congrArg (fun x => AV.f (int x)) (wrapS ((i : Int) + 1) (by omega) (by omega))) | assumption | (simp_all [V.kind, V.num, V.text, V.items]; done)
theorem values_not (l : List V) (N : Nat) (hl : l.length ≤ 65536) (hN : N ≤ l.length) (hk : ∀ i, i < N → rightB (l.getD i default) = true) (ih : ∀ i, i < l.length → CallsF P G 24 [encV (l.getD i default)] (bool (rightB (l.getD i default)))) (h3 : N < l.length) (h4 : rightB (l.getD N default) = false) : CallsF P G 44 [encI l] (int 3) := by
  refine sx_fn (hs := [.br [] [.loop [] [] (Svals l) (N) (fun i => [.br [.el (cellsP (List.getD l i default)), .call (bool (rightB (List.getD l i default))), .br [] []] []]), .br [.el (cellsP (List.getD l N default)), .call (bool (rightB (List.getD l N default))), .br [] []] []]]) (let z1 := (↑(List.length (cellsVs l)) : Int); let z2 := List.getD l N default; Br (decide (z1 > 65536)) (int 2 = int 3) ((E true ∧ (E (AV.f (encI l)) ∧ E (AV.f (int 0)) ∧ E (AV.f (encI l)) ∧ E (AV.f (int z1)) ∧ AV.f (int 0) = AV.f (int (Int.ofNat 0)) ∧ True) ∧ True ∧ E true ∧ (false = true → false = true)) ∧ (∀ (i : Nat), (let z3 := List.getD l i default; i < N → Br (decide ((i : Int) < z1)) ((E 4 ∧ (0 : Int) ≤ (i : Int) ∧ (cellsVs l)[i]? = some (cellsP z3)) ∧ CallsF P G 24 [encV z3] (bool (rightB z3)) ∧ Br (!rightB z3) False (E true ∧ (E (AV.f (encI l)) ∧ E (AV.f (int 0)) ∧ E (AV.f (encI l)) ∧ E (AV.f (int z1)) ∧ AV.f (int (IntKind.wrap IntKind.i64 ((i : Int) + 1))) = AV.f (int (↑(i + 1) : Int)) ∧ True) ∧ True ∧ E true ∧ (St.nd (Svals l (i + 1)) = true → false = true))) False)) ∧ Br (decide ((N : Int) < z1)) ((E 4 ∧ (0 : Int) ≤ (N : Int) ∧ (cellsVs l)[N]? = some (cellsP z2)) ∧ CallsF P G 24 [encV z2] (bool (rightB z2)) ∧ Br (!rightB z2) (E (int 3)) False) (int 0 = int 3))) get44 ent44 (by kernel_rfl) ?_
  refine ⟨fun hi => ?_, fun hi => ⟨⟨rfl, ⟨rfl, rfl, rfl, rfl, ?_, trivial⟩, trivial, rfl, fun hi => ?_⟩, fun i => fun hlt => ⟨fun hi => ⟨⟨rfl, ?_, ?_⟩, ?_, fun hi => ?_, fun hi => ⟨rfl, ⟨rfl, rfl, rfl, rfl, ?_, trivial⟩, trivial, rfl, fun hi => ?_⟩⟩, fun hi => ?_⟩, fun hi => ⟨⟨rfl, ?_, ?_⟩, ?_, fun hi => rfl, fun hi => ?_⟩, fun hi => ?_⟩⟩
  all_goals first | rfl | (simp only [cellsVs_length, decide_eq_true_eq, decide_eq_false_iff_not] at *; omega) | exact cellsVs_get l _ (by omega) | exact ih i (by omega) | (have h9 : N < l.length := by (simp only [cellsVs_length, decide_eq_true_eq] at *; omega)); exact ih N h9 | (exact congrArg (fun x => AV.f (int x)) (wrapS ((i : Int) + 1) (by omega) (by omega))) | assumption | (simp_all [V.kind, V.num, V.text, V.items]; done)
theorem values_ok (l : List V) (hf : ∀ x, x ∈ l → Fine x) : CallsF P G 44 [encI l] (int (listE l)) := by
  unfold listE
  split
  · exact values_long l (by assumption)
  · rename_i hl
    have ih : ∀ i, i < l.length → CallsF P G 24 [encV (l.getD i default)] (bool (rightB (l.getD i default))) := fun i hi => right_ok _ (fineD hf hi)
    obtain ⟨N, h1, h2⟩ := exists_least (fun i => i = l.length ∨ (i < l.length ∧ rightB (l.getD i default) = false)) ⟨l.length, .inl rfl⟩
    have hN : N ≤ l.length := by rcases h1 with h | h <;> omega
    have hk : ∀ i, i < N → rightB (l.getD i default) = true := fun i hi => by
      cases h : rightB (l.getD i default) with
      | true => rfl
      | false => have := h2 i (.inr ⟨by omega, h⟩); omega
    rcases h1 with h1 | ⟨h1, h3⟩
    · rw [if_pos]
      · exact values_all l N (by omega) hN hk ih h1
      · rw [List.all_eq_true]
        intro x hx
        obtain ⟨i, hi, rfl⟩ := List.getElem_of_mem hx
        have := hk i (by omega)
        rwa [List.getD_eq_getElem?_getD, List.getElem?_eq_getElem hi] at this
    · rw [if_neg]
      · exact values_not l N (by omega) hN hk ih h1 h3
      · intro h
        rw [List.all_eq_true] at h
        rw [List.getD_eq_getElem?_getD, List.getElem?_eq_getElem h1] at h3
        simp only [Option.getD_some] at h3
        rw [h _ (List.getElem_mem h1)] at h3
        cases h3
theorem get20 : P.funcs[20]? = some Tryd.f20 := by kernel_rfl
theorem ent20 : entersP P 20 = true := by kernel_rfl
theorem made_no (k : Int) (l : List V) (h : CallsF P G 24 [encV (.mk k 0 [] l)] (bool (rightB (.mk k 0 [] l)))) (h2 : rightB (.mk k 0 [] l) = false) : CallsF P G 20 [int k, encI l] (.tup [.agg [int 0, int 0, str [], .nils], int 2]) := by
  refine sx_fn (hs := [.call (bool (rightB (V.mk k (Int.ofNat 0) [] l))), .br [] [.call (encV (V.mk k (Int.ofNat 0) [] l))]]) (CallsF P G 24 [FV.agg [int k, int 0, str [], encI l]] (bool (rightB (V.mk k (Int.ofNat 0) [] l))) ∧ Br (!rightB (V.mk k (Int.ofNat 0) [] l)) (E (FV.tup [FV.agg [int 0, int 0, str [], FV.nils], int 2])) (CallsF P G 39 [FV.agg [int k, int 0, str [], encI l]] (FV.agg [int k, int 0, str [], encI l]) ∧ FV.tup [FV.agg [int k, int 0, str [], encI l], int 0] = FV.tup [FV.agg [int 0, int 0, str [], FV.nils], int 2])) get20 ent20 (by kernel_rfl) ?_
  refine ⟨?_, fun hi => rfl, fun hi => ⟨?_, ?_⟩⟩
  all_goals first | exact h | (exfalso; simp [h2] at hi; done)
theorem made_yes (k : Int) (l : List V) (h : CallsF P G 24 [encV (.mk k 0 [] l)] (bool (rightB (.mk k 0 [] l)))) (h3 : CallsF P G 39 [encV (.mk k 0 [] l)] (encV (.mk k 0 [] l))) (h2 : rightB (.mk k 0 [] l) = true) : CallsF P G 20 [int k, encI l] (.tup [encV (.mk k 0 [] l), int 0]) := by
  refine sx_fn (hs := [.call (bool (rightB (V.mk k (Int.ofNat 0) [] l))), .br [] [.call (encV (V.mk k (Int.ofNat 0) [] l))]]) (CallsF P G 24 [FV.agg [int k, int 0, str [], encI l]] (bool (rightB (V.mk k (Int.ofNat 0) [] l))) ∧ Br (!rightB (V.mk k (Int.ofNat 0) [] l)) (FV.tup [FV.agg [int 0, int 0, str [], FV.nils], int 2] = FV.tup [FV.agg [int k, int 0, str [], encI l], int 0]) (CallsF P G 39 [FV.agg [int k, int 0, str [], encI l]] (FV.agg [int k, int 0, str [], encI l]) ∧ E (FV.tup [FV.agg [int k, int 0, str [], encI l], int 0]))) get20 ent20 (by kernel_rfl) ?_
  refine ⟨?_, fun hi => ?_, fun hi => ⟨?_, rfl⟩⟩
  all_goals first | exact h | exact h3 | (exfalso; simp [h2] at hi; done)
end Go.Sx

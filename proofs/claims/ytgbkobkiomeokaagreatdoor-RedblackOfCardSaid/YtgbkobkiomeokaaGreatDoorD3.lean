/-
  Proved: what some functions of the program answer, or a law of the evaluator that shows it, one theorem each; its conditions are the hypotheses that stand ahead of it.
-/
import Derived.Test.YtgbkobkiomeokaaGreatDoorB5
import Derived.KernelRfl
set_option maxRecDepth 100000
set_option maxHeartbeats 4000000
set_option linter.unusedSimpArgs false
set_option linter.unusedVariables false
namespace Go.Sx
open Go.Proofs Sp
def Sown (l : List V) (i : Nat) : St := { sl := slots 26 [(0, .f (encI l)), (2, .f .nils), (3, .lsl 0), (12, .f (encI l)), (13, .f (int (cellsVs l).length)), (14, .f (int (i : Int)))], ob := [(0, .row 4 34 (ownE l i))], nx := 1 }
theorem get99 : P.funcs[99]? = some Tryz.f99 := by kernel_rfl
theorem ent99 : entersP P 99 = true := by kernel_rfl
theorem owns_nil   : CallsF P G 99 [encI []] (.nils) := by
  refine sx_fn (hs := [.dec true]) ((E (true)) ∧ E (FV.nils)) get99 ent99 (by kernel_rfl) ?_
  exact ⟨rfl, rfl⟩
theorem owns_some (l : List V) (N : Nat) (hl : l.length ≤ 2513169434844) (h0 : 0 < l.length) (hN : N = l.length) (ih : ∀ i, i < l.length → CallsF P G 80 [encV (l.getD i default)] (encV (l.getD i default))) : CallsF P G 99 [encI l] (.sl 4 (ownE l N)) := by
  refine sx_fn (hs := [.br [] [.loop [(0, 0)] [(0, 0)] (Sown l) (N) (fun i => [.br [.el (cellsP (List.getD l i default)), .call (encV (List.getD l i default))] []]), .br [.el (cellsP (List.getD l N default)), .call (encV (List.getD l N default))] [.lfz [0]]]]) (let z1 := (↑(List.length (cellsVs l)) : Int); let z2 := List.getD l N default; Br (z1 == 0) (FV.nils = FV.sl 4 (ownE l N)) ((E (z1) ∧ (0 : Int) ≤ z1 ∧ 56 * List.length (cellsVs l) ≤ 281474976710656 ∧ List.length (cellsVs l) ≤ maxLen) ∧ (E true ∧ (E (AV.f (encI l)) ∧ E (AV.f FV.nils) ∧ E (AV.lsl 0) ∧ E (AV.f (encI l)) ∧ E (AV.f (int z1)) ∧ AV.f (int 0) = AV.f (int (Int.ofNat 0)) ∧ True) ∧ (Ob.row 4 34 (List.replicate (List.length (cellsVs l)) (List.map fV1 (Array.toList (Value.cells (Value.agg #[Value.int IntKind.i64 0, Value.int IntKind.i64 0, Value.string { data := #[] }, Value.slice none 0 0]))))) = Ob.row 4 34 (ownE l 0) ∧ True) ∧ E true ∧ (false = true → false = true)) ∧ (∀ (i : Nat), (let z3 := List.getD l i default; i < N → Br (decide ((i : Int) < z1)) ((E 4 ∧ (0 : Int) ≤ (i : Int) ∧ (cellsVs l)[i]? = some (cellsP z3)) ∧ CallsF P G 80 [encV z3] (encV z3) ∧ ((0 : Int) ≤ (i : Int) ∧ i < List.length (ownE l i)) ∧ i < List.length (ownE l i) ∧ E true ∧ (E (AV.f (encI l)) ∧ E (AV.f FV.nils) ∧ E (AV.lsl 0) ∧ E (AV.f (encI l)) ∧ E (AV.f (int z1)) ∧ AV.f (int (IntKind.wrap IntKind.i64 ((i : Int) + 1))) = AV.f (int (↑(i + 1) : Int)) ∧ True) ∧ (Ob.row 4 34 (List.set (ownE l i) i (cellsP z3)) = Ob.row 4 34 (ownE l (i + 1)) ∧ True) ∧ E true ∧ (St.nd (Sown l (i + 1)) = true → false = true)) False)) ∧ Br (decide ((N : Int) < z1)) ((E 4 ∧ (0 : Int) ≤ (N : Int) ∧ (cellsVs l)[N]? = some (cellsP z2)) ∧ CallsF P G 80 [encV z2] (encV z2) ∧ ((0 : Int) ≤ (N : Int) ∧ N < List.length (ownE l N)) ∧ N < List.length (ownE l N) ∧ False) (E (FV.sl 4 (ownE l N))))) get99 ent99 (by kernel_rfl) ?_
  refine ⟨fun hi => ?_, fun hi => ⟨⟨rfl, ?_, ?_, ?_⟩, ⟨rfl, ⟨rfl, rfl, rfl, rfl, rfl, ?_, trivial⟩, ⟨?_, trivial⟩, rfl, fun hi => ?_⟩, fun i => fun hlt => ⟨fun hi => ⟨⟨rfl, ?_, ?_⟩, ?_, ⟨?_, ?_⟩, ?_, rfl, ⟨rfl, rfl, rfl, rfl, rfl, ?_, trivial⟩, ⟨?_, trivial⟩, rfl, fun hi => ?_⟩, fun hi => ?_⟩, fun hi => ⟨⟨rfl, ?_, ?_⟩, ?_, ⟨?_, ?_⟩, ?_, ?_⟩, fun hi => rfl⟩⟩
  all_goals first | rfl | (simp only [cellsVs_length, decide_eq_true_eq, decide_eq_false_iff_not, ownE_length l i (by omega), Int.toNat_natCast] at *; omega) | (simp only [cellsVs_length, decide_eq_true_eq, decide_eq_false_iff_not, Int.toNat_natCast] at *; omega) | exact cellsVs_get l _ (by omega) | exact ih i (by omega) | (exact congrArg (fun x => AV.f (int x)) (wrapS ((i : Int) + 1) (by omega) (by omega))) | ((try rw [Int.toNat_natCast]); exact congrArg (Ob.row 4 34) (ownE_set l i (by omega))) | (simp [maxLen, cellsVs_length]; omega) | (exfalso; simp only [cellsVs_length, beq_iff_eq] at hi; omega) | (simp [ownE, cellsVs_length, cellsVs, zeroC, int, str, Value.cells, fV1]; done) | assumption
theorem get80 : P.funcs[80]? = some Tryz.f80 := by kernel_rfl
theorem ent80 : entersP P 80 = true := by kernel_rfl
theorem own_step (k n : Int) (s : List UInt8) (l : List V) (h : CallsF P G 99 [encI l] (encI l)) : CallsF P G 80 [encV (.mk k n s l)] (encV (.mk k n s l)) := by
  refine sx_fn (hs := [.call (encI l)]) ((CallsF P G 99 [encI l] (encI l)) ∧ E (FV.agg [int k, int n, str s, encI l])) get80 ent80 (by kernel_rfl) ?_
  refine ⟨?_, rfl⟩
  all_goals exact h
theorem owns_ok (l : List V) (hl : l.length ≤ 2513169434844) (ih : ∀ x, x ∈ l → CallsF P G 80 [encV x] (encV x)) : CallsF P G 99 [encI l] (encI l) := by
  rcases Nat.eq_zero_or_pos l.length with h | h
  · have : l = [] := List.eq_nil_of_length_eq_zero h
    subst this
    exact owns_nil.weak (nils_sl 4)
  · have := owns_some l l.length hl h rfl (fun i hi => by
      have hmem : l.getD i default ∈ l := by rw [List.getD_eq_getElem?_getD, List.getElem?_eq_getElem hi]; exact List.getElem_mem hi
      exact ih _ hmem)
    have e : ownE l l.length = cellsVs l := by simp [ownE]
    rw [e] at this
    exact this
theorem own_ok : ∀ v, Fine v → CallsF P G 80 [encV v] (encV v) := by
  intro v
  induction v using V.ind with
  | h k n s l ih =>
    intro hv
    exact own_step k n s l (owns_ok l hv.len.1 fun x hx => ih x hx (hv.items.2 x hx))
end Go.Sx
set_option maxRecDepth 100000
set_option maxHeartbeats 4000000
set_option linter.unusedSimpArgs false
set_option linter.unusedVariables false
namespace Go.Sx
open Go.Proofs Sp
theorem get57 : P.funcs[57]? = some Tryz.f57 := by kernel_rfl
theorem ent57 : entersP P 57 = true := by kernel_rfl
theorem made_no (k : Int) (l : List V) (h : CallsF P G 74 [encV (.mk k 0 [] l)] (bool (rightB (.mk k 0 [] l)))) (h2 : rightB (.mk k 0 [] l) = false) : CallsF P G 57 [int k, encI l] (.tup [.agg [int 0, int 0, str [], .nils], int 2]) := by
  refine sx_fn (hs := [.call (bool (rightB (V.mk k (Int.ofNat 0) [] l))), .br [] [.call (encV (V.mk k (Int.ofNat 0) [] l))]]) (CallsF P G 74 [FV.agg [int k, int 0, str [], encI l]] (bool (rightB (V.mk k (Int.ofNat 0) [] l))) ∧ Br (!rightB (V.mk k (Int.ofNat 0) [] l)) (E (FV.tup [FV.agg [int 0, int 0, str [], FV.nils], int 2])) (CallsF P G 80 [FV.agg [int k, int 0, str [], encI l]] (FV.agg [int k, int 0, str [], encI l]) ∧ FV.tup [FV.agg [int k, int 0, str [], encI l], int 0] = FV.tup [FV.agg [int 0, int 0, str [], FV.nils], int 2])) get57 ent57 (by kernel_rfl) ?_
  refine ⟨?_, fun hi => rfl, fun hi => ⟨?_, ?_⟩⟩
  all_goals first | exact h | (exfalso; simp [h2] at hi; done)
theorem made_yes (k : Int) (l : List V) (h : CallsF P G 74 [encV (.mk k 0 [] l)] (bool (rightB (.mk k 0 [] l)))) (h3 : CallsF P G 80 [encV (.mk k 0 [] l)] (encV (.mk k 0 [] l))) (h2 : rightB (.mk k 0 [] l) = true) : CallsF P G 57 [int k, encI l] (.tup [encV (.mk k 0 [] l), int 0]) := by
  refine sx_fn (hs := [.call (bool (rightB (V.mk k (Int.ofNat 0) [] l))), .br [] [.call (encV (V.mk k (Int.ofNat 0) [] l))]]) (CallsF P G 74 [FV.agg [int k, int 0, str [], encI l]] (bool (rightB (V.mk k (Int.ofNat 0) [] l))) ∧ Br (!rightB (V.mk k (Int.ofNat 0) [] l)) (FV.tup [FV.agg [int 0, int 0, str [], FV.nils], int 2] = FV.tup [FV.agg [int k, int 0, str [], encI l], int 0]) (CallsF P G 80 [FV.agg [int k, int 0, str [], encI l]] (FV.agg [int k, int 0, str [], encI l]) ∧ E (FV.tup [FV.agg [int k, int 0, str [], encI l], int 0]))) get57 ent57 (by kernel_rfl) ?_
  refine ⟨?_, fun hi => ?_, fun hi => ⟨?_, rfl⟩⟩
  all_goals first | exact h | exact h3 | (exfalso; simp [h2] at hi; done)
end Go.Sx

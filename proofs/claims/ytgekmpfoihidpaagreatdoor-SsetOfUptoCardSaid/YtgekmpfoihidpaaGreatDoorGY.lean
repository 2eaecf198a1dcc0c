/-
  Proved: what some functions of the program answer, or a law of the evaluator that shows it, one theorem each; its conditions are the hypotheses that stand ahead of it.
-/
import Derived.Test.YtgekmpfoihidpaaGreatDoorG2
import Derived.KernelRfl
set_option maxRecDepth 100000
set_option maxHeartbeats 4000000
set_option linter.unusedSimpArgs false
set_option linter.unusedVariables false
namespace Go.Sx
open Go.Proofs Sp
theorem get136 : P.funcs[136]? = some Tryz.f136 := by kernel_rfl
theorem ent136 : entersP P 136 = true := by kernel_rfl
theorem split_ok (o n : Int) (t : T) (k : V) (ho : 0 ≤ o ∧ o ≤ 5) (hk : Fine k) (hr : rightB k = true) (hp : ∀ p, p ∈ t.toList → RP p) (hs : t.size ≤ 131072) (hR : Rising (cmpO o) t.toList) : CallsF P G 136 [encM o n t, encV k] (.tup [int (aheadN (cmpO o) k t.toList : Nat), int (uptoN (cmpO o) k t.toList : Nat), encPs t.toList]) := by
  refine sx_fn (hs := [.call (encPs (T.toList t)), .lfz [0, 1, 2, 3], .call (int (↑(aheadN (cmpO o) k (T.toList t)) : Int)), .call (int (↑(uptoN (cmpO o) k (T.toList t)) : Int)), .nat 6]) (let z1 := cellsPs (T.toList t); let z2 := (↑(aheadN (cmpO o) k (T.toList t)) : Int); let z3 := (↑(uptoN (cmpO o) k (T.toList t)) : Int); CallsF P G 72 [encM o n t] (FV.sl 8 z1) ∧ CallsF P G 175 [int (↑(List.length z1) : Int), FV.fn 176 [] [FV.ptr [FV.fn 174 [] [FV.ptr [encM o n t] 0, FV.ptr [FV.sl 8 z1] 0, FV.ptr (cellsP k) 0]] 0]] (int z2) ∧ CallsF P G 175 [int (↑(List.length z1) : Int), FV.fn 177 [] [FV.ptr [FV.fn 174 [] [FV.ptr [encM o n t] 0, FV.ptr [FV.sl 8 z1] 0, FV.ptr (cellsP k) 0]] 0]] (int z3) ∧ E true ∧ E (FV.tup [int z2, int z3, FV.sl 8 z1])) get136 ent136 (by kernel_rfl) ?_
  refine ⟨?_, ?_, ?_, rfl, rfl⟩
  all_goals first | exact pairs_ok _ _ _ (fun p h => ⟨(hp p h).1, (hp p h).2.1⟩) hs | (rw [cellsPs_length, T.toList_length]; exact search_ahead o n t k ho hk hr hp hs hR) | (rw [cellsPs_length, T.toList_length]; exact search_upto o n t k ho hk hr hp hs hR)
theorem get101 : P.funcs[101]? = some Tryz.f101 := by kernel_rfl
theorem ent101 : entersP P 101 = true := by kernel_rfl
theorem rank_ok (o n : Int) (t : T) (k : V) (ho : 0 ≤ o ∧ o ≤ 5) (hk : Fine k) (hr : rightB k = true) (hp : ∀ p, p ∈ t.toList → RP p) (hs : t.size ≤ 131072) (hR : Rising (cmpO o) t.toList) : CallsF P G 101 [encM o n t, encV k] (.tup [int (aheadN (cmpO o) k t.toList : Nat), int 0]) := by
  refine sx_fn (hs := [.call (int (chkI (rightB k))), .br [] [.call (FV.tup [int (↑(aheadN (cmpO o) k (T.toList t)) : Int), int (↑(uptoN (cmpO o) k (T.toList t)) : Int), encPs (T.toList t)])]]) (let z1 := (↑(aheadN (cmpO o) k (T.toList t)) : Int); CallsF P G 125 [encV k] (int (chkI (rightB k))) ∧ Br (chkI (rightB k) != 0) (FV.tup [int 0, int (chkI (rightB k))] = FV.tup [int z1, int 0]) (CallsF P G 136 [encM o n t, encV k] (FV.tup [int z1, int (↑(uptoN (cmpO o) k (T.toList t)) : Int), FV.sl 8 (cellsPs (T.toList t))]) ∧ E (FV.tup [int z1, int 0]))) get101 ent101 (by kernel_rfl) ?_
  refine ⟨?_, fun hi => ?_, fun hi => ⟨?_, rfl⟩⟩
  all_goals first | exact check_chk _ hk | exact split_ok o n t k ho hk hr hp hs hR | (exfalso; rw [hr] at *; simp_all [chkI]; done)
end Go.Sx
set_option maxRecDepth 100000
set_option maxHeartbeats 4000000
set_option linter.unusedSimpArgs false
set_option linter.unusedVariables false
namespace Go.Sx
open Go.Proofs Sp
end Go.Sx
set_option maxRecDepth 100000
set_option maxHeartbeats 4000000
set_option linter.unusedSimpArgs false
set_option linter.unusedVariables false
namespace Go.Sx
open Go.Proofs Sp
theorem of_kind (o : Int) (l : List (V × V)) (h : o < 0 ∨ 5 < o) : CallsF P G 10 [int o, encPs l] (.tup [.sc (.pointer none), int 4]) := by
  refine sx_fn (hs := [.call (FV.tup [FV.sc (Value.pointer none), int 4]), .dec false, .dec true]) ((CallsF P G 63 [int o] (FV.tup [FV.sc (Value.pointer none), int 4])) ∧ (E (false)) ∧ (E (true)) ∧ E (FV.tup [FV.sc (Value.pointer none), int 4])) get10 ent10 (by kernel_rfl) ?_
  refine ⟨?_, ⟨rfl, ⟨rfl, rfl⟩⟩⟩
  all_goals exact new_bad _ h
theorem of_wrong (o e : Int) (l : List (V × V)) (ho : 0 ≤ o ∧ o ≤ 5) (he : e ≠ 0) (h : CallsF P G 64 [encPs l] (int e)) : CallsF P G 10 [int o, encPs l] (.tup [.sc (.pointer none), int e]) := by
  refine sx_fn (hs := [.call (FV.tup [encM o 0 T.nil, int 0]), .dec true, .call (int e), .br [] []]) (CallsF P G 63 [int o] (FV.tup [encM o 0 T.nil, int 0]) ∧ E true ∧ CallsF P G 64 [FV.sl 8 (cellsPs l)] (int e) ∧ Br (e != 0) (E (FV.tup [FV.sc (Value.pointer none), int e])) False) get10 ent10 (by kernel_rfl) ?_
  refine ⟨?_, rfl, ?_, fun hi => rfl, fun hi => ?_⟩
  all_goals first | exact new_ok _ ho | exact h | (exfalso; simp_all; done)
theorem inQ_no {L : List (V × V)} {i : Int} (h : ¬ (0 ≤ i ∧ i < L.length)) : inQ L i = false := by
  cases h2 : inQ L i with
  | false => rfl
  | true =>
    simp only [inQ, Bool.and_eq_true, decide_eq_true_eq] at h2
    exact absurd h2 h
end Go.Sx

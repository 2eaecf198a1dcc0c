/-
  Proved: what some functions of the program answer, or a law of the evaluator that shows it, one theorem each; its conditions are the hypotheses that stand ahead of it.
-/
import Derived.Test.YtkbaoibplojjlaaGreatDoorH9
import Derived.Test.YtkbaoibplojjlaaGreatDoorPSo
import Derived.Test.YtkbaoibplojjlaaGreatDoorD1
import Derived.KernelRfl
set_option maxRecDepth 100000
set_option maxHeartbeats 4000000
set_option linter.unusedSimpArgs false
set_option linter.unusedVariables false
namespace Go.Sx
open Go.Proofs Sp
/-- A pair, and that in a place of a list, if it is there. -/
def encQ (q : V × V) : FV := .agg (cellsP q.1 ++ cellsP q.2)
def inQ (L : List (V × V)) (i : Int) : Bool := decide (0 ≤ i) && decide (i < L.length)
def atQ (L : List (V × V)) (i : Int) : V × V := if inQ L i then L.getD i.toNat default else (nilW, nilW)
def noQ : V × V := (nilW, nilW)
theorem zq : ∀ w ok v, FRel w ok (.agg [int 0, int 0, str [], .nils, int 0, int 0, str [], .nils]) v → FRel w ok (encQ (nilW, nilW)) v := by
  intro w ok v h
  simp only [encQ, cellsP, nilW, V.kind, V.num, V.text, V.items, cellsVs, List.cons_append, List.nil_append, FRel, FRelL] at h ⊢
  obtain ⟨cs, rfl, h⟩ := h
  refine ⟨cs, rfl, ?_⟩
  obtain ⟨v1, r1, e1, h1, v2, r2, e2, h2, v3, r3, e3, h3, v4, r4, e4, h4, v5, r5, e5, h5, v6, r6, e6, h6, v7, r7, e7, h7, v8, r8, e8, h8, h9⟩ := h
  exact ⟨v1, r1, e1, h1, v2, r2, e2, h2, v3, r3, e3, h3, v4, r4, e4, .inl ⟨trivial, .inl h4⟩, v5, r5, e5, h5, v6, r6, e6, h6, v7, r7, e7, h7, v8, r8, e8, .inl ⟨trivial, .inl h8⟩, h9⟩
theorem zq_tup (us : List FV) : ∀ w ok v, FRel w ok (.tup (.agg [int 0, int 0, str [], .nils, int 0, int 0, str [], .nils] :: us)) v → FRel w ok (.tup (encQ (nilW, nilW) :: us)) v := by
  intro w ok v h
  rw [FRel] at h ⊢
  obtain ⟨cs, e, h⟩ := h
  refine ⟨cs, e, ?_⟩
  rw [FRelL] at h ⊢
  obtain ⟨v1, r1, e1, h1, h2⟩ := h
  exact ⟨v1, r1, e1, zq _ _ _ h1, h2⟩
theorem inQ_out {L : List (V × V)} {i : Int} (h : inQ L i = false) : atQ L i = (nilW, nilW) := by simp [atQ, h]
theorem inQ_nat {L : List (V × V)} {i : Nat} (h : i < L.length) : inQ L i = true ∧ atQ L i = L.getD i default := by
  have : inQ L i = true := by simp [inQ]; omega
  exact ⟨this, by simp [atQ, this]⟩
theorem get97 : P.funcs[97]? = some Tryz.f97 := by kernel_rfl
theorem ent97 : entersP P 97 = true := by kernel_rfl
theorem pair_in (L : List (V × V)) (i : Nat) (hl : L.length ≤ 1000000) (hi : i < L.length) : CallsF P G 97 [encPs L, int (i : Int)] (.tup [encQ (L.getD i default), bool true]) := by
  refine sx_fn (hs := [.dec false, .br [] [.el (cellsP (Prod.fst (List.getD L i default)) ++ cellsP (Prod.snd (List.getD L i default)))]]) ((E (false)) ∧ (((decide ((i : Int) ≥ (↑(List.length (cellsPs L)) : Int))) = (true)) → ((FV.tup [FV.agg [int 0, int 0, str [], FV.nils, int 0, int 0, str [], FV.nils], bool false]) = (FV.tup [FV.agg (int (V.kind (Prod.fst (List.getD L i default))) :: int (V.num (Prod.fst (List.getD L i default))) :: str (V.text (Prod.fst (List.getD L i default))) :: encI (V.items (Prod.fst (List.getD L i default))) :: cellsP (Prod.snd (List.getD L i default))), bool true]))) ∧ (((decide ((i : Int) ≥ (↑(List.length (cellsPs L)) : Int))) = (false)) → (((E (8)) ∧ ((0 : Int) ≤ (i : Int)) ∧ ((cellsPs L)[i]?) = (some (int (V.kind (Prod.fst (List.getD L i default))) :: int (V.num (Prod.fst (List.getD L i default))) :: str (V.text (Prod.fst (List.getD L i default))) :: encI (V.items (Prod.fst (List.getD L i default))) :: cellsP (Prod.snd (List.getD L i default))))) ∧ E (FV.tup [FV.agg (int (V.kind (Prod.fst (List.getD L i default))) :: int (V.num (Prod.fst (List.getD L i default))) :: str (V.text (Prod.fst (List.getD L i default))) :: encI (V.items (Prod.fst (List.getD L i default))) :: cellsP (Prod.snd (List.getD L i default))), bool true])))) get97 ent97 (by kernel_rfl) ?_
  refine ⟨rfl, ⟨fun hi => ?_, fun hi => ⟨⟨rfl, ⟨?_, ?_⟩⟩, rfl⟩⟩⟩
  all_goals first | exact cellsPs_get L _ (by omega) | (exfalso; simp only [cellsPs_length, decide_eq_true_eq, decide_eq_false_iff_not] at *; omega) | (simp only [cellsPs_length, decide_eq_true_eq, decide_eq_false_iff_not] at *; omega)
theorem pair_out (L : List (V × V)) (i : Int) (h : i < 0 ∨ L.length ≤ i) : CallsF P G 97 [encPs L, int i] (.tup [.agg [int 0, int 0, str [], .nils, int 0, int 0, str [], .nils], bool false]) := by
  refine sx_fn (hs := [.br [.dec true] [.br [] [.el (cellsP (Prod.fst (List.getD L (Int.toNat i) default)) ++ cellsP (Prod.snd (List.getD L (Int.toNat i) default)))]]]) ((((decide (i < 0)) = (true)) → ((E (true)) ∧ E (FV.tup [FV.agg [int 0, int 0, str [], FV.nils, int 0, int 0, str [], FV.nils], bool false]))) ∧ (((decide (i < 0)) = (false)) → ((((decide (i ≥ (↑(List.length (cellsPs L)) : Int))) = (true)) → (E (FV.tup [FV.agg [int 0, int 0, str [], FV.nils, int 0, int 0, str [], FV.nils], bool false]))) ∧ (((decide (i ≥ (↑(List.length (cellsPs L)) : Int))) = (false)) → (((E (8)) ∧ ((0 : Int) ≤ i) ∧ ((cellsPs L)[Int.toNat i]?) = (some (int (V.kind (Prod.fst (List.getD L (Int.toNat i) default))) :: int (V.num (Prod.fst (List.getD L (Int.toNat i) default))) :: str (V.text (Prod.fst (List.getD L (Int.toNat i) default))) :: encI (V.items (Prod.fst (List.getD L (Int.toNat i) default))) :: cellsP (Prod.snd (List.getD L (Int.toNat i) default))))) ∧ (FV.tup [FV.agg (int (V.kind (Prod.fst (List.getD L (Int.toNat i) default))) :: int (V.num (Prod.fst (List.getD L (Int.toNat i) default))) :: str (V.text (Prod.fst (List.getD L (Int.toNat i) default))) :: encI (V.items (Prod.fst (List.getD L (Int.toNat i) default))) :: cellsP (Prod.snd (List.getD L (Int.toNat i) default))), bool true]) = (FV.tup [FV.agg [int 0, int 0, str [], FV.nils, int 0, int 0, str [], FV.nils], bool false])))))) get97 ent97 (by kernel_rfl) ?_
  refine ⟨fun hi => ⟨rfl, rfl⟩, fun hi => ⟨fun hi => rfl, fun hi => ⟨⟨rfl, ⟨?_, ?_⟩⟩, ?_⟩⟩⟩
  all_goals (exfalso; simp only [cellsPs_length, decide_eq_true_eq, decide_eq_false_iff_not] at *; omega)
theorem qpair_ok (L : List (V × V)) (hl : L.length ≤ 1000000) (i : Int) : CallsF P G 97 [encPs L, int i] (.tup [encQ (atQ L i), bool (inQ L i)]) := by
  by_cases h : 0 ≤ i ∧ i < L.length
  · obtain ⟨n, rfl⟩ := Int.eq_ofNat_of_zero_le h.1
    obtain ⟨h1, h2⟩ := inQ_nat (L := L) (i := n) (by omega)
    rw [h1, h2]
    exact pair_in L n hl (by omega)
  · have h1 : inQ L i = false := by simp [inQ]; omega
    rw [h1, inQ_out h1]
    exact (pair_out L i (by omega)).weak (zq_tup _)
theorem get99 : P.funcs[99]? = some Tryz.f99 := by kernel_rfl
theorem ent99 : entersP P 99 = true := by kernel_rfl
theorem rat_in (L : List (V × V)) (i : Nat) (hl : L.length ≤ 1000000) (hi : i < L.length) : CallsF P G 99 [encPs L, int (i : Int)] (.tup [encQ (L.getD i default), int 0]) := by
  refine sx_fn (hs := [.dec false, .br [] [.el (cellsP (Prod.fst (List.getD L i default)) ++ cellsP (Prod.snd (List.getD L i default)))]]) ((E (false)) ∧ (((decide ((i : Int) ≥ (↑(List.length (cellsPs L)) : Int))) = (true)) → ((FV.tup [FV.agg [int 0, int 0, str [], FV.nils, int 0, int 0, str [], FV.nils], int 5]) = (FV.tup [FV.agg (int (V.kind (Prod.fst (List.getD L i default))) :: int (V.num (Prod.fst (List.getD L i default))) :: str (V.text (Prod.fst (List.getD L i default))) :: encI (V.items (Prod.fst (List.getD L i default))) :: cellsP (Prod.snd (List.getD L i default))), int 0]))) ∧ (((decide ((i : Int) ≥ (↑(List.length (cellsPs L)) : Int))) = (false)) → (((E (8)) ∧ ((0 : Int) ≤ (i : Int)) ∧ ((cellsPs L)[i]?) = (some (int (V.kind (Prod.fst (List.getD L i default))) :: int (V.num (Prod.fst (List.getD L i default))) :: str (V.text (Prod.fst (List.getD L i default))) :: encI (V.items (Prod.fst (List.getD L i default))) :: cellsP (Prod.snd (List.getD L i default))))) ∧ E (FV.tup [FV.agg (int (V.kind (Prod.fst (List.getD L i default))) :: int (V.num (Prod.fst (List.getD L i default))) :: str (V.text (Prod.fst (List.getD L i default))) :: encI (V.items (Prod.fst (List.getD L i default))) :: cellsP (Prod.snd (List.getD L i default))), int 0])))) get99 ent99 (by kernel_rfl) ?_
  refine ⟨rfl, ⟨fun hi => ?_, fun hi => ⟨⟨rfl, ⟨?_, ?_⟩⟩, rfl⟩⟩⟩
  all_goals first | exact cellsPs_get L _ (by omega) | (exfalso; simp only [cellsPs_length, decide_eq_true_eq, decide_eq_false_iff_not] at *; omega) | (simp only [cellsPs_length, decide_eq_true_eq, decide_eq_false_iff_not] at *; omega)
theorem rat_out (L : List (V × V)) (i : Int) (h : i < 0 ∨ L.length ≤ i) : CallsF P G 99 [encPs L, int i] (.tup [.agg [int 0, int 0, str [], .nils, int 0, int 0, str [], .nils], int 5]) := by
  refine sx_fn (hs := [.br [.dec true] [.br [] [.el (cellsP (Prod.fst (List.getD L (Int.toNat i) default)) ++ cellsP (Prod.snd (List.getD L (Int.toNat i) default)))]]]) ((((decide (i < 0)) = (true)) → ((E (true)) ∧ E (FV.tup [FV.agg [int 0, int 0, str [], FV.nils, int 0, int 0, str [], FV.nils], int 5]))) ∧ (((decide (i < 0)) = (false)) → ((((decide (i ≥ (↑(List.length (cellsPs L)) : Int))) = (true)) → (E (FV.tup [FV.agg [int 0, int 0, str [], FV.nils, int 0, int 0, str [], FV.nils], int 5]))) ∧ (((decide (i ≥ (↑(List.length (cellsPs L)) : Int))) = (false)) → (((E (8)) ∧ ((0 : Int) ≤ i) ∧ ((cellsPs L)[Int.toNat i]?) = (some (int (V.kind (Prod.fst (List.getD L (Int.toNat i) default))) :: int (V.num (Prod.fst (List.getD L (Int.toNat i) default))) :: str (V.text (Prod.fst (List.getD L (Int.toNat i) default))) :: encI (V.items (Prod.fst (List.getD L (Int.toNat i) default))) :: cellsP (Prod.snd (List.getD L (Int.toNat i) default))))) ∧ (FV.tup [FV.agg (int (V.kind (Prod.fst (List.getD L (Int.toNat i) default))) :: int (V.num (Prod.fst (List.getD L (Int.toNat i) default))) :: str (V.text (Prod.fst (List.getD L (Int.toNat i) default))) :: encI (V.items (Prod.fst (List.getD L (Int.toNat i) default))) :: cellsP (Prod.snd (List.getD L (Int.toNat i) default))), int 0]) = (FV.tup [FV.agg [int 0, int 0, str [], FV.nils, int 0, int 0, str [], FV.nils], int 5])))))) get99 ent99 (by kernel_rfl) ?_
  refine ⟨fun hi => ⟨rfl, rfl⟩, fun hi => ⟨fun hi => rfl, fun hi => ⟨⟨rfl, ⟨?_, ?_⟩⟩, ?_⟩⟩⟩
  all_goals (exfalso; simp only [cellsPs_length, decide_eq_true_eq, decide_eq_false_iff_not] at *; omega)
theorem rat_ok (L : List (V × V)) (hl : L.length ≤ 1000000) (i : Int) : CallsF P G 99 [encPs L, int i] (.tup [encQ (atQ L i), int (if inQ L i then 0 else 5)]) := by
  by_cases h : 0 ≤ i ∧ i < L.length
  · obtain ⟨n, rfl⟩ := Int.eq_ofNat_of_zero_le h.1
    obtain ⟨h1, h2⟩ := inQ_nat (L := L) (i := n) (by omega)
    rw [h1, h2]
    exact rat_in L n hl (by omega)
  · have h1 : inQ L i = false := by simp [inQ]; omega
    rw [h1, inQ_out h1]
    exact (rat_out L i (by omega)).weak (zq_tup _)
theorem get23 : P.funcs[23]? = some Tryz.f23 := by kernel_rfl
theorem ent23 : entersP P 23 = true := by kernel_rfl
theorem pairEq_ok (p : V × V) (hp : Fine p.1 ∧ Fine p.2) : CallsF P G 23 [encQ p, encQ p] (bool true) := by
  refine sx_fn (hs := [.call (bool (eqB (Prod.fst p) (Prod.fst p))), .br [.call (bool (eqB (Prod.snd p) (Prod.snd p)))] []]) ((CallsF P G 34 [encV (Prod.fst p), encV (Prod.fst p)] (bool (eqB (Prod.fst p) (Prod.fst p)))) ∧ (((eqB (Prod.fst p) (Prod.fst p)) = (true)) → ((CallsF P G 34 [encV (Prod.snd p), encV (Prod.snd p)] (bool (eqB (Prod.snd p) (Prod.snd p)))) ∧ (bool (eqB (Prod.snd p) (Prod.snd p))) = (bool true))) ∧ (((eqB (Prod.fst p) (Prod.fst p)) = (false)) → ((bool false) = (bool true)))) get23 ent23 (by kernel_rfl) ?_
  refine ⟨?_, ⟨fun hi => ⟨?_, ?_⟩, fun hi => ?_⟩⟩
  all_goals first | exact eq_ok _ hp.1 _ | exact eq_ok _ hp.2 _ | (exfalso; simp_all [eqB]; done) | (simp_all [eqB]; done)
end Go.Sx
set_option maxRecDepth 100000
set_option maxHeartbeats 4000000
set_option linter.unusedSimpArgs false
set_option linter.unusedVariables false
namespace Go.Sx
open Go.Proofs Sp
def Ssearch (g : Nat) (c : FV) (p : Nat → Bool) (n : Nat) (i : Nat) : St := { sl := slots 26 [(1, .f (.fn g [] [c])), (5, .f (int ((runS p n i).1 : Int))), (6, .f (int ((runS p n i).2 : Int)))], ob := [], nx := 0 }
theorem midS {a b : Nat} (h : a + b ≤ 2000000) : IntKind.i64.wrap (Int.fdiv (IntKind.u64.wrap (IntKind.i64.wrap ((a : Int) + (b : Int)))) (2 ^ min (Int.toNat 1) IntKind.u64.bits)) = (((a + b) / 2 : Nat) : Int) := by
  rw [show ((2 : Int) ^ min (Int.toNat 1) IntKind.u64.bits) = 2 from by decide]
  rw [wrapS ((a : Int) + b) (by omega) (by omega), show IntKind.u64.wrap ((a : Int) + b) = (a : Int) + b from by simp only [IntKind.wrap, IntKind.signed, IntKind.bits]; simp; omega]
  rw [show Int.fdiv ((a : Int) + b) 2 = (((a + b) / 2 : Nat) : Int) from by rw [Int.fdiv_eq_ediv_of_nonneg _ (by omega)]; omega]
  exact wrapS _ (by omega) (by omega)
theorem runS_no {p : Nat → Bool} {n i : Nat} (h : (!p (((runS p n i).1 + (runS p n i).2) / 2)) = true) : (runS p n (i + 1)).1 = ((runS p n i).1 + (runS p n i).2) / 2 + 1 ∧ (runS p n (i + 1)).2 = (runS p n i).2 := by
  simp only [runS, stepS]; rw [if_neg (by simpa using h)]; exact ⟨rfl, rfl⟩
theorem runS_yes {p : Nat → Bool} {n i : Nat} (h : (!p (((runS p n i).1 + (runS p n i).2) / 2)) = false) : (runS p n (i + 1)).1 = (runS p n i).1 ∧ (runS p n (i + 1)).2 = ((runS p n i).1 + (runS p n i).2) / 2 := by
  simp only [runS, stepS]; rw [if_pos (by simpa using h)]; exact ⟨rfl, rfl⟩
theorem ofT_rising (o : Int) (l : List (V × V)) : ∀ i, Rising (cmpO o) (ofT (cmpO o) l i).1.toList
  | 0 => by simp [ofT, T.toList, Rising]
  | i + 1 => T.insert_rising (cmpO_line o) _ _ _ (ofT_rising o l i)
theorem get103 : P.funcs[103]? = some Tryz.f103 := by kernel_rfl
theorem ent103 : entersP P 103 = true := by kernel_rfl
theorem search_run (g : Nat) (c : FV) (p : Nat → Bool) (n N : Nat) (hn : n ≤ 1000000) (hp : ∀ h, h < n → CallsF P G g [int (h : Int), c] (bool (p h))) (hin : ∀ i, i ≤ N → (runS p n i).1 ≤ (runS p n i).2 ∧ (runS p n i).2 ≤ n) (h1 : ∀ j, j < N → (runS p n j).1 < (runS p n j).2) (h2 : ¬ (runS p n N).1 < (runS p n N).2) : CallsF P G 103 [int (n : Int), .fn g [] [c]] (int ((runS p n N).1 : Int)) := by
  refine sx_fn (hs := [.loop [] [] (Ssearch g c p n) (N) (fun i => [.br [.call (bool (p (Int.toNat (IntKind.wrap IntKind.i64 (Int.fdiv (IntKind.wrap IntKind.u64 (IntKind.wrap IntKind.i64 ((↑(Prod.fst (runS p n i)) : Int) + (↑(Prod.snd (runS p n i)) : Int)))) (2 ^ min (Int.toNat 1) (IntKind.bits IntKind.u64))))))), .br [] []] []]), .br [.call (bool (p (Int.toNat (IntKind.wrap IntKind.i64 (Int.fdiv (IntKind.wrap IntKind.u64 (IntKind.wrap IntKind.i64 ((↑(Prod.fst (runS p n N)) : Int) + (↑(Prod.snd (runS p n N)) : Int)))) (2 ^ min (Int.toNat 1) (IntKind.bits IntKind.u64))))))), .br [] []] []]) (((E (true)) ∧ ((E (AV.f (FV.fn g [] [c]))) ∧ ((AV.f (int 0)) = (AV.f (int (↑(Prod.fst (runS p n 0)) : Int)))) ∧ ((AV.f (int (n : Int))) = (AV.f (int (↑(Prod.snd (runS p n 0)) : Int)))) ∧ True) ∧ (True) ∧ (E (true)) ∧ (((false) = (true)) → ((false) = (true)))) ∧ (∀ (i : Nat), (i < N) → ((((decide ((↑(Prod.fst (runS p n i)) : Int) < (↑(Prod.snd (runS p n i)) : Int))) = (true)) → ((CallsF P G g [int (IntKind.wrap IntKind.i64 (Int.fdiv (IntKind.wrap IntKind.u64 (IntKind.wrap IntKind.i64 ((↑(Prod.fst (runS p n i)) : Int) + (↑(Prod.snd (runS p n i)) : Int)))) (2 ^ min (Int.toNat 1) (IntKind.bits IntKind.u64)))), c] (bool (p (Int.toNat (IntKind.wrap IntKind.i64 (Int.fdiv (IntKind.wrap IntKind.u64 (IntKind.wrap IntKind.i64 ((↑(Prod.fst (runS p n i)) : Int) + (↑(Prod.snd (runS p n i)) : Int)))) (2 ^ min (Int.toNat 1) (IntKind.bits IntKind.u64)))))))) ∧ (((!p (Int.toNat (IntKind.wrap IntKind.i64 (Int.fdiv (IntKind.wrap IntKind.u64 (IntKind.wrap IntKind.i64 ((↑(Prod.fst (runS p n i)) : Int) + (↑(Prod.snd (runS p n i)) : Int)))) (2 ^ min (Int.toNat 1) (IntKind.bits IntKind.u64)))))) = (true)) → ((E (true)) ∧ ((E (AV.f (FV.fn g [] [c]))) ∧ ((AV.f (int (IntKind.wrap IntKind.i64 (IntKind.wrap IntKind.i64 (Int.fdiv (IntKind.wrap IntKind.u64 (IntKind.wrap IntKind.i64 ((↑(Prod.fst (runS p n i)) : Int) + (↑(Prod.snd (runS p n i)) : Int)))) (2 ^ min (Int.toNat 1) (IntKind.bits IntKind.u64))) + 1)))) = (AV.f (int (↑(Prod.fst (runS p n (i + 1))) : Int)))) ∧ ((AV.f (int (↑(Prod.snd (runS p n i)) : Int))) = (AV.f (int (↑(Prod.snd (runS p n (i + 1))) : Int)))) ∧ True) ∧ (True) ∧ (E (true)) ∧ ((St.nd (Ssearch g c p n (i + 1)) = true) → ((false) = (true))))) ∧ (((!p (Int.toNat (IntKind.wrap IntKind.i64 (Int.fdiv (IntKind.wrap IntKind.u64 (IntKind.wrap IntKind.i64 ((↑(Prod.fst (runS p n i)) : Int) + (↑(Prod.snd (runS p n i)) : Int)))) (2 ^ min (Int.toNat 1) (IntKind.bits IntKind.u64)))))) = (false)) → ((E (true)) ∧ ((E (AV.f (FV.fn g [] [c]))) ∧ ((AV.f (int (↑(Prod.fst (runS p n i)) : Int))) = (AV.f (int (↑(Prod.fst (runS p n (i + 1))) : Int)))) ∧ ((AV.f (int (IntKind.wrap IntKind.i64 (Int.fdiv (IntKind.wrap IntKind.u64 (IntKind.wrap IntKind.i64 ((↑(Prod.fst (runS p n i)) : Int) + (↑(Prod.snd (runS p n i)) : Int)))) (2 ^ min (Int.toNat 1) (IntKind.bits IntKind.u64)))))) = (AV.f (int (↑(Prod.snd (runS p n (i + 1))) : Int)))) ∧ True) ∧ (True) ∧ (E (true)) ∧ ((St.nd (Ssearch g c p n (i + 1)) = true) → ((false) = (true))))))) ∧ (((decide ((↑(Prod.fst (runS p n i)) : Int) < (↑(Prod.snd (runS p n i)) : Int))) = (false)) → (False)))) ∧ (((decide ((↑(Prod.fst (runS p n N)) : Int) < (↑(Prod.snd (runS p n N)) : Int))) = (true)) → ((CallsF P G g [int (IntKind.wrap IntKind.i64 (Int.fdiv (IntKind.wrap IntKind.u64 (IntKind.wrap IntKind.i64 ((↑(Prod.fst (runS p n N)) : Int) + (↑(Prod.snd (runS p n N)) : Int)))) (2 ^ min (Int.toNat 1) (IntKind.bits IntKind.u64)))), c] (bool (p (Int.toNat (IntKind.wrap IntKind.i64 (Int.fdiv (IntKind.wrap IntKind.u64 (IntKind.wrap IntKind.i64 ((↑(Prod.fst (runS p n N)) : Int) + (↑(Prod.snd (runS p n N)) : Int)))) (2 ^ min (Int.toNat 1) (IntKind.bits IntKind.u64)))))))) ∧ (((!p (Int.toNat (IntKind.wrap IntKind.i64 (Int.fdiv (IntKind.wrap IntKind.u64 (IntKind.wrap IntKind.i64 ((↑(Prod.fst (runS p n N)) : Int) + (↑(Prod.snd (runS p n N)) : Int)))) (2 ^ min (Int.toNat 1) (IntKind.bits IntKind.u64)))))) = (true)) → (False)) ∧ (((!p (Int.toNat (IntKind.wrap IntKind.i64 (Int.fdiv (IntKind.wrap IntKind.u64 (IntKind.wrap IntKind.i64 ((↑(Prod.fst (runS p n N)) : Int) + (↑(Prod.snd (runS p n N)) : Int)))) (2 ^ min (Int.toNat 1) (IntKind.bits IntKind.u64)))))) = (false)) → (False)))) ∧ (((decide ((↑(Prod.fst (runS p n N)) : Int) < (↑(Prod.snd (runS p n N)) : Int))) = (false)) → (E (int (↑(Prod.fst (runS p n N)) : Int))))) get103 ent103 (by kernel_rfl) ?_
  refine ⟨⟨rfl, ⟨⟨rfl, ⟨?_, ⟨?_, trivial⟩⟩⟩, ⟨trivial, ⟨rfl, fun hi => ?_⟩⟩⟩⟩, fun i => fun hlt => ⟨fun hi => ⟨?_, ⟨fun hi => ⟨rfl, ⟨⟨rfl, ⟨?_, ⟨?_, trivial⟩⟩⟩, ⟨trivial, ⟨rfl, fun hi => ?_⟩⟩⟩⟩, fun hi => ⟨rfl, ⟨⟨rfl, ⟨?_, ⟨?_, trivial⟩⟩⟩, ⟨trivial, ⟨rfl, fun hi => ?_⟩⟩⟩⟩⟩⟩, fun hi => ?_⟩, ⟨fun hi => ⟨?_, ⟨fun hi => ?_, fun hi => ?_⟩⟩, fun hi => rfl⟩⟩
  all_goals first | (have q1 := hin i (by omega); have q2 := h1 i (by assumption); have q0 := midS (show (runS p n i).1 + (runS p n i).2 ≤ 2000000 by omega); rw [q0]; exact hp _ (by omega)) | (have q1 := hin i (by omega); have q2 := h1 i (by assumption); have q0 := midS (show (runS p n i).1 + (runS p n i).2 ≤ 2000000 by omega); rw [q0, Int.toNat_natCast] at hi; have q3 := runS_no hi; (try rw [q0]); rw [q3.1]; first | done | exact congrArg (fun x => AV.f (int x)) (wrapS ((((runS p n i).1 + (runS p n i).2) / 2 : Nat) + 1 : Int) (by omega) (by omega))) | (have q1 := hin i (by omega); have q2 := h1 i (by assumption); have q0 := midS (show (runS p n i).1 + (runS p n i).2 ≤ 2000000 by omega); rw [q0, Int.toNat_natCast] at hi; have q3 := runS_no hi; (try rw [q0]); rw [q3.2]; first | done | exact congrArg (fun x => AV.f (int x)) (wrapS ((((runS p n i).1 + (runS p n i).2) / 2 : Nat) + 1 : Int) (by omega) (by omega))) | (have q1 := hin i (by omega); have q2 := h1 i (by assumption); have q0 := midS (show (runS p n i).1 + (runS p n i).2 ≤ 2000000 by omega); rw [q0, Int.toNat_natCast] at hi; have q3 := runS_yes hi; (try rw [q0]); rw [q3.1]; first | done | exact congrArg (fun x => AV.f (int x)) (wrapS ((((runS p n i).1 + (runS p n i).2) / 2 : Nat) + 1 : Int) (by omega) (by omega))) | (have q1 := hin i (by omega); have q2 := h1 i (by assumption); have q0 := midS (show (runS p n i).1 + (runS p n i).2 ≤ 2000000 by omega); rw [q0, Int.toNat_natCast] at hi; have q3 := runS_yes hi; (try rw [q0]); rw [q3.2]; first | done | exact congrArg (fun x => AV.f (int x)) (wrapS ((((runS p n i).1 + (runS p n i).2) / 2 : Nat) + 1 : Int) (by omega) (by omega))) | (have q2 := h1 i (by assumption); simp only [decide_eq_true_eq, decide_eq_false_iff_not] at *; omega) | (exfalso; simp only [decide_eq_true_eq, decide_eq_false_iff_not] at *; omega) | assumption | rfl
theorem get101 : P.funcs[101]? = some Tryz.f101 := by kernel_rfl
theorem ent101 : entersP P 101 = true := by kernel_rfl
theorem split1_ok (o n : Int) (t : T) (k : V) (i : Nat) (ho : 0 ≤ o ∧ o ≤ 5) (hk : Fine k) (hr : rightB k = true) (hp : ∀ p, p ∈ t.toList → RP p) (hs : t.size ≤ 131072) (hi : i < t.toList.length) : CallsF P G 101 [int (i : Int), .ptr [encM o n t] 0, .ptr [encPs t.toList] 0, .ptr (cellsP k) 0] (int (cmpO o (t.toList.getD i default).1 k)) := by
  refine sx_fn (hs := [.nat 14, .call (int o), .el (cellsP (Prod.fst (List.getD (T.toList t) i default)) ++ cellsP (Prod.snd (List.getD (T.toList t) i default))), .call (FV.tup [int (cmpO o (Prod.fst (List.getD (T.toList t) i default)) k), int 0])]) ((E (true)) ∧ (CallsF P G 45 [encM o n t] (int o)) ∧ ((E (8)) ∧ ((0 : Int) ≤ (i : Int)) ∧ ((cellsPs (T.toList t))[i]?) = (some (int (V.kind (Prod.fst (List.getD (T.toList t) i default))) :: int (V.num (Prod.fst (List.getD (T.toList t) i default))) :: str (V.text (Prod.fst (List.getD (T.toList t) i default))) :: encI (V.items (Prod.fst (List.getD (T.toList t) i default))) :: cellsP (Prod.snd (List.getD (T.toList t) i default))))) ∧ (CallsF P G 102 [int o, encV (Prod.fst (List.getD (T.toList t) i default)), encV k] (FV.tup [int (cmpO o (Prod.fst (List.getD (T.toList t) i default)) k), int 0])) ∧ E (int (cmpO o (Prod.fst (List.getD (T.toList t) i default)) k))) get101 ent101 (by kernel_rfl) ?_
  refine ⟨rfl, ⟨?_, ⟨⟨rfl, ⟨?_, ?_⟩⟩, ⟨?_, rfl⟩⟩⟩⟩
  all_goals first | exact order_ok _ _ _ | exact cellsPs_get _ _ (by omega) | (exact ocmp_ok o ho _ _ (allP hp hi).1 hk (allP hp hi).2.2.1 hr) | omega
theorem get104 : P.funcs[104]? = some Tryz.f104 := by kernel_rfl
theorem ent104 : entersP P 104 = true := by kernel_rfl
theorem split2_ok (g : Nat) (a b c : FV) (x z : Int) (h : CallsF P G g [int x, a, b, c] (int z)) : CallsF P G 104 [int x, .ptr [.fn g [] [a, b, c]] 0] (bool (decide (0 ≤ z))) := by
  refine sx_fn (hs := [.call (int z)]) ((CallsF P G g [int x, a, b, c] (int z)) ∧ (bool (decide (z ≥ 0))) = (bool (decide (0 ≤ z)))) get104 ent104 (by kernel_rfl) ?_
  refine ⟨?_, ?_⟩
  all_goals first | exact h | (with_reducible rfl)
theorem get105 : P.funcs[105]? = some Tryz.f105 := by kernel_rfl
theorem ent105 : entersP P 105 = true := by kernel_rfl
theorem split3_ok (g : Nat) (a b c : FV) (x z : Int) (h : CallsF P G g [int x, a, b, c] (int z)) : CallsF P G 105 [int x, .ptr [.fn g [] [a, b, c]] 0] (bool (decide (0 < z))) := by
  refine sx_fn (hs := [.call (int z)]) ((CallsF P G g [int x, a, b, c] (int z)) ∧ (bool (decide (z > 0))) = (bool (decide (0 < z)))) get105 ent105 (by kernel_rfl) ?_
  refine ⟨?_, ?_⟩
  all_goals first | exact h | (with_reducible rfl)
theorem search_ok (g : Nat) (c : FV) (p : Nat → Bool) (n r : Nat) (hn : n ≤ 1000000) (hp : ∀ h, h < n → CallsF P G g [int (h : Int), c] (bool (p h))) (hm : ∀ i j, i ≤ j → j < n → p i = true → p j = true) (hr : Sp.Place p n r) : CallsF P G 103 [int (n : Int), .fn g [] [c]] (int (r : Int)) := by
  obtain ⟨N, h1, h2⟩ := runS_end p n hm
  have hin := runS_inv p n hm
  have h := search_run g c p n N hn hp (fun i hi => ⟨(hin i fun j hj => h1 j (by omega)).1, (hin i fun j hj => h1 j (by omega)).2.1⟩) h1 h2
  obtain ⟨q1, q2, q3, q4, _⟩ := hin N h1
  have e : (runS p n N).1 = r := Sp.Place.uniq ⟨by omega, q3, fun j hj hj2 => q4 j (by omega) hj2⟩ hr
  rw [e] at h
  exact h
theorem place_mono {p : Nat → Bool} {n r : Nat} (h : Sp.Place p n r) : ∀ i j, i ≤ j → j < n → p i = true → p j = true := by
  intro i j hij hj hi
  rcases Nat.lt_or_ge i r with h1 | h1
  · have := h.2.1 i h1; simp_all
  · exact h.2.2 j (by omega) hj
theorem search_ahead (o n : Int) (t : T) (k : V) (ho : 0 ≤ o ∧ o ≤ 5) (hk : Fine k) (hr : rightB k = true) (hp : ∀ p, p ∈ t.toList → RP p) (hs : t.size ≤ 131072) (hR : Rising (cmpO o) t.toList) : CallsF P G 103 [int ((t.size : Nat) : Int), .fn 104 [] [.ptr [.fn 101 [] [.ptr [encM o n t] 0, .ptr [encPs t.toList] 0, .ptr (cellsP k) 0]] 0]] (int (aheadN (cmpO o) k t.toList : Nat)) := by
  have h := ahead_place (cmpO_line o) k hR
  rw [T.toList_length] at h
  exact search_ok _ _ _ _ _ (by omega) (fun i hi => split2_ok _ _ _ _ _ _ (split1_ok o n t k i ho hk hr hp hs (by rw [T.toList_length]; exact hi))) (place_mono h) h
theorem search_upto (o n : Int) (t : T) (k : V) (ho : 0 ≤ o ∧ o ≤ 5) (hk : Fine k) (hr : rightB k = true) (hp : ∀ p, p ∈ t.toList → RP p) (hs : t.size ≤ 131072) (hR : Rising (cmpO o) t.toList) : CallsF P G 103 [int ((t.size : Nat) : Int), .fn 105 [] [.ptr [.fn 101 [] [.ptr [encM o n t] 0, .ptr [encPs t.toList] 0, .ptr (cellsP k) 0]] 0]] (int (uptoN (cmpO o) k t.toList : Nat)) := by
  have h := upto_place (cmpO_line o) k hR
  rw [T.toList_length] at h
  exact search_ok _ _ _ _ _ (by omega) (fun i hi => split3_ok _ _ _ _ _ _ (split1_ok o n t k i ho hk hr hp hs (by rw [T.toList_length]; exact hi))) (place_mono h) h
end Go.Sx
set_option maxRecDepth 100000
set_option maxHeartbeats 4000000
set_option linter.unusedSimpArgs false
set_option linter.unusedVariables false
namespace Go.Sx
open Go.Proofs Sp
theorem get74 : P.funcs[74]? = some Tryz.f74 := by kernel_rfl
theorem ent74 : entersP P 74 = true := by kernel_rfl
theorem split_ok (o n : Int) (t : T) (k : V) (ho : 0 ≤ o ∧ o ≤ 5) (hk : Fine k) (hr : rightB k = true) (hp : ∀ p, p ∈ t.toList → RP p) (hs : t.size ≤ 131072) (hR : Rising (cmpO o) t.toList) : CallsF P G 74 [encM o n t, encV k] (.tup [int (aheadN (cmpO o) k t.toList : Nat), int (uptoN (cmpO o) k t.toList : Nat), encPs t.toList]) := by
  refine sx_fn (hs := [.call (encPs (T.toList t)), .lfz [0, 1, 2, 3], .call (int (↑(aheadN (cmpO o) k (T.toList t)) : Int)), .call (int (↑(uptoN (cmpO o) k (T.toList t)) : Int)), .nat 6]) ((CallsF P G 20 [encM o n t] (FV.sl 8 (cellsPs (T.toList t)))) ∧ (CallsF P G 103 [int (↑(List.length (cellsPs (T.toList t))) : Int), FV.fn 104 [] [FV.ptr [FV.fn 101 [] [FV.ptr [encM o n t] 0, FV.ptr [FV.sl 8 (cellsPs (T.toList t))] 0, FV.ptr (cellsP k) 0]] 0]] (int (↑(aheadN (cmpO o) k (T.toList t)) : Int))) ∧ (CallsF P G 103 [int (↑(List.length (cellsPs (T.toList t))) : Int), FV.fn 105 [] [FV.ptr [FV.fn 101 [] [FV.ptr [encM o n t] 0, FV.ptr [FV.sl 8 (cellsPs (T.toList t))] 0, FV.ptr (cellsP k) 0]] 0]] (int (↑(uptoN (cmpO o) k (T.toList t)) : Int))) ∧ (E (true)) ∧ E (FV.tup [int (↑(aheadN (cmpO o) k (T.toList t)) : Int), int (↑(uptoN (cmpO o) k (T.toList t)) : Int), FV.sl 8 (cellsPs (T.toList t))])) get74 ent74 (by kernel_rfl) ?_
  refine ⟨?_, ⟨?_, ⟨?_, ⟨rfl, rfl⟩⟩⟩⟩
  all_goals first | exact pairs_ok _ _ _ (fun p h => ⟨(hp p h).1, (hp p h).2.1⟩) hs | (rw [cellsPs_length, T.toList_length]; exact search_ahead o n t k ho hk hr hp hs hR) | (rw [cellsPs_length, T.toList_length]; exact search_upto o n t k ho hk hr hp hs hR)
theorem get28 : P.funcs[28]? = some Tryz.f28 := by kernel_rfl
theorem ent28 : entersP P 28 = true := by kernel_rfl
theorem rank_ok (o n : Int) (t : T) (k : V) (ho : 0 ≤ o ∧ o ≤ 5) (hk : Fine k) (hr : rightB k = true) (hp : ∀ p, p ∈ t.toList → RP p) (hs : t.size ≤ 131072) (hR : Rising (cmpO o) t.toList) : CallsF P G 28 [encM o n t, encV k] (.tup [int (aheadN (cmpO o) k t.toList : Nat), int 0]) := by
  refine sx_fn (hs := [.call (int (chkI (rightB k))), .br [] [.call (FV.tup [int (↑(aheadN (cmpO o) k (T.toList t)) : Int), int (↑(uptoN (cmpO o) k (T.toList t)) : Int), encPs (T.toList t)])]]) ((CallsF P G 73 [encV k] (int (chkI (rightB k)))) ∧ (((chkI (rightB k) != 0) = (true)) → ((FV.tup [int 0, int (chkI (rightB k))]) = (FV.tup [int (↑(aheadN (cmpO o) k (T.toList t)) : Int), int 0]))) ∧ (((chkI (rightB k) != 0) = (false)) → ((CallsF P G 74 [encM o n t, encV k] (FV.tup [int (↑(aheadN (cmpO o) k (T.toList t)) : Int), int (↑(uptoN (cmpO o) k (T.toList t)) : Int), FV.sl 8 (cellsPs (T.toList t))])) ∧ E (FV.tup [int (↑(aheadN (cmpO o) k (T.toList t)) : Int), int 0])))) get28 ent28 (by kernel_rfl) ?_
  refine ⟨?_, ⟨fun hi => ?_, fun hi => ⟨?_, rfl⟩⟩⟩
  all_goals first | exact check_chk _ hk | exact split_ok o n t k ho hk hr hp hs hR | (exfalso; rw [hr] at *; simp_all [chkI]; done)
theorem rank_not (o n : Int) (t : T) (k : V) (hk : Fine k) (hr : rightB k = false) : CallsF P G 28 [encM o n t, encV k] (.tup [int 0, int 3]) := by
  refine sx_fn (hs := [.call (int (chkI (rightB k))), .dec true]) ((CallsF P G 73 [encV k] (int (chkI (rightB k)))) ∧ ((chkI (rightB k) != 0) = (true)) ∧ (FV.tup [int 0, int (chkI (rightB k))]) = (FV.tup [int 0, int 3])) get28 ent28 (by kernel_rfl) ?_
  refine ⟨?_, ⟨?_, ?_⟩⟩
  all_goals first | exact check_chk _ hk | (rw [hr]; rfl)
theorem get67 : P.funcs[67]? = some Tryz.f67 := by kernel_rfl
theorem ent67 : entersP P 67 = true := by kernel_rfl
theorem floor1_ok (a u : Int)  : CallsF P G 67 [int a, int u] (int (IntKind.i64.wrap (u - 1))) := by
  refine sx_fn (hs := []) (E (int (IntKind.wrap IntKind.i64 (u - 1)))) get67 ent67 (by kernel_rfl) ?_
  rfl
theorem get66 : P.funcs[66]? = some Tryz.f66 := by kernel_rfl
theorem ent66 : entersP P 66 = true := by kernel_rfl
theorem asked_ok (o n : Int) (t : T) (k : V) (g : Nat) (pl : Int) (ho : 0 ≤ o ∧ o ≤ 5) (hk : Fine k) (hr : rightB k = true) (hp : ∀ p, p ∈ t.toList → RP p) (hs : t.size ≤ 131072) (hR : Rising (cmpO o) t.toList) (hg : CallsF P G g [int (aheadN (cmpO o) k t.toList : Nat), int (uptoN (cmpO o) k t.toList : Nat)] (int pl)) : CallsF P G 66 [encM o n t, encV k, .fn g [] []] (.tup [encQ (atQ t.toList pl), bool (inQ t.toList pl), int 0]) := by
  refine sx_fn (hs := [.call (int (chkI (rightB k))), .br [] [.call (FV.tup [int (↑(aheadN (cmpO o) k (T.toList t)) : Int), int (↑(uptoN (cmpO o) k (T.toList t)) : Int), encPs (T.toList t)]), .call (int pl), .call (FV.tup [encQ (atQ (T.toList t) pl), bool (inQ (T.toList t) pl)])]]) ((CallsF P G 73 [encV k] (int (chkI (rightB k)))) ∧ (((chkI (rightB k) != 0) = (true)) → ((FV.tup [FV.agg [int 0, int 0, str [], FV.nils, int 0, int 0, str [], FV.nils], bool false, int (chkI (rightB k))]) = (FV.tup [FV.agg (int (V.kind (Prod.fst (atQ (T.toList t) pl))) :: int (V.num (Prod.fst (atQ (T.toList t) pl))) :: str (V.text (Prod.fst (atQ (T.toList t) pl))) :: encI (V.items (Prod.fst (atQ (T.toList t) pl))) :: cellsP (Prod.snd (atQ (T.toList t) pl))), bool (inQ (T.toList t) pl), int 0]))) ∧ (((chkI (rightB k) != 0) = (false)) → ((CallsF P G 74 [encM o n t, encV k] (FV.tup [int (↑(aheadN (cmpO o) k (T.toList t)) : Int), int (↑(uptoN (cmpO o) k (T.toList t)) : Int), FV.sl 8 (cellsPs (T.toList t))])) ∧ (CallsF P G g [int (↑(aheadN (cmpO o) k (T.toList t)) : Int), int (↑(uptoN (cmpO o) k (T.toList t)) : Int)] (int pl)) ∧ (CallsF P G 97 [FV.sl 8 (cellsPs (T.toList t)), int pl] (FV.tup [FV.agg (int (V.kind (Prod.fst (atQ (T.toList t) pl))) :: int (V.num (Prod.fst (atQ (T.toList t) pl))) :: str (V.text (Prod.fst (atQ (T.toList t) pl))) :: encI (V.items (Prod.fst (atQ (T.toList t) pl))) :: cellsP (Prod.snd (atQ (T.toList t) pl))), bool (inQ (T.toList t) pl)])) ∧ E (FV.tup [FV.agg (int (V.kind (Prod.fst (atQ (T.toList t) pl))) :: int (V.num (Prod.fst (atQ (T.toList t) pl))) :: str (V.text (Prod.fst (atQ (T.toList t) pl))) :: encI (V.items (Prod.fst (atQ (T.toList t) pl))) :: cellsP (Prod.snd (atQ (T.toList t) pl))), bool (inQ (T.toList t) pl), int 0])))) get66 ent66 (by kernel_rfl) ?_
  refine ⟨?_, ⟨fun hi => ?_, fun hi => ⟨?_, ⟨?_, ⟨?_, rfl⟩⟩⟩⟩⟩
  all_goals first | exact check_chk _ hk | exact split_ok o n t k ho hk hr hp hs hR | exact qpair_ok _ (by rw [T.toList_length]; omega) _ | exact hg | (exfalso; rw [hr] at *; simp_all [chkI]; done)
theorem get21 : P.funcs[21]? = some Tryz.f21 := by kernel_rfl
theorem ent21 : entersP P 21 = true := by kernel_rfl
theorem floor_ok (o n : Int) (t : T) (k : V) (ho : 0 ≤ o ∧ o ≤ 5) (hk : Fine k) (hr : rightB k = true) (hp : ∀ p, p ∈ t.toList → RP p) (hs : t.size ≤ 131072) (hR : Rising (cmpO o) t.toList) (hw : IntKind.i64.wrap (((uptoN (cmpO o) k t.toList : Nat) : Int) - 1) = ((uptoN (cmpO o) k t.toList : Nat) : Int) - 1) : CallsF P G 21 [encM o n t, encV k] (.tup [encQ (atQ t.toList (((uptoN (cmpO o) k t.toList : Nat) : Int) - 1)), bool (inQ t.toList (((uptoN (cmpO o) k t.toList : Nat) : Int) - 1)), int 0]) := by
  refine sx_fn (hs := [.call (FV.tup [encQ (atQ (T.toList t) ((↑(uptoN (cmpO o) k (T.toList t)) : Int) - 1)), bool (inQ (T.toList t) ((↑(uptoN (cmpO o) k (T.toList t)) : Int) - 1)), int 0])]) ((CallsF P G 66 [encM o n t, encV k, FV.fn 67 [] []] (FV.tup [FV.agg (int (V.kind (Prod.fst (atQ (T.toList t) ((↑(uptoN (cmpO o) k (T.toList t)) : Int) - 1)))) :: int (V.num (Prod.fst (atQ (T.toList t) ((↑(uptoN (cmpO o) k (T.toList t)) : Int) - 1)))) :: str (V.text (Prod.fst (atQ (T.toList t) ((↑(uptoN (cmpO o) k (T.toList t)) : Int) - 1)))) :: encI (V.items (Prod.fst (atQ (T.toList t) ((↑(uptoN (cmpO o) k (T.toList t)) : Int) - 1)))) :: cellsP (Prod.snd (atQ (T.toList t) ((↑(uptoN (cmpO o) k (T.toList t)) : Int) - 1)))), bool (inQ (T.toList t) ((↑(uptoN (cmpO o) k (T.toList t)) : Int) - 1)), int 0])) ∧ E (FV.tup [FV.agg (int (V.kind (Prod.fst (atQ (T.toList t) ((↑(uptoN (cmpO o) k (T.toList t)) : Int) - 1)))) :: int (V.num (Prod.fst (atQ (T.toList t) ((↑(uptoN (cmpO o) k (T.toList t)) : Int) - 1)))) :: str (V.text (Prod.fst (atQ (T.toList t) ((↑(uptoN (cmpO o) k (T.toList t)) : Int) - 1)))) :: encI (V.items (Prod.fst (atQ (T.toList t) ((↑(uptoN (cmpO o) k (T.toList t)) : Int) - 1)))) :: cellsP (Prod.snd (atQ (T.toList t) ((↑(uptoN (cmpO o) k (T.toList t)) : Int) - 1)))), bool (inQ (T.toList t) ((↑(uptoN (cmpO o) k (T.toList t)) : Int) - 1)), int 0])) get21 ent21 (by kernel_rfl) ?_
  refine ⟨?_, rfl⟩
  all_goals exact asked_ok o n t k _ _ ho hk hr hp hs hR (by rw [← hw]; exact floor1_ok _ _)
end Go.Sx
set_option maxRecDepth 100000
set_option maxHeartbeats 4000000
set_option linter.unusedSimpArgs false
set_option linter.unusedVariables false
namespace Go.Sx
open Go.Proofs Sp
/-- The pairs of the law's own map. -/
def spL : List (V × V) := [(mkI 1, mkI 1), (mkI 3, mkI 3), (mkI 5, mkI 5)]
def Sspk (F : Nat → List (V × V)) (i : Nat) : St := { sl := slots 69 [(1, .lsl 1), (11, .lsl 0), (12, .f (int 3)), (13, .f (int (i : Int)))], ob := [(0, .row 1 2 [[int 1], [int 3], [int 5]]), (1, .row 8 46 (cellsPs (F i)))], nx := 2 }
theorem spL_ok : ∀ q, q ∈ spL → RP q := by
  intro q hq
  simp only [spL, List.mem_cons, List.not_mem_nil, or_false] at hq
  rcases hq with rfl | rfl | rfl <;> exact ⟨fine_mkI _ (by omega), fine_mkI _ (by omega), right_mkI _, right_mkI _⟩
theorem cmp13 : cmpV (mkI 3) (mkI 1) = 1 := by rw [cmp_mkI]; simp [cmpI]
theorem sp_list : (ofT (cmpO 0) spL 3).1.toList = spL ∧ (ofT (cmpO 0) spL 3).2 = 3 := by
  rw [cmpO_0]
  have h1 : cmpV (mkI 3) (mkI 1) = 1 := by rw [cmp_mkI]; simp [cmpI]
  have h2 : cmpV (mkI 5) (mkI 1) = 1 := by rw [cmp_mkI]; simp [cmpI]
  have h3 : cmpV (mkI 5) (mkI 3) = 1 := by rw [cmp_mkI]; simp [cmpI]
  constructor <;> simp [ofT, putT, T.insert, T.find, T.blackened, T.balance, T.like, T.toList, T.red, T.isNil, h1, h2, h3, spL]
theorem sp_place : aheadN (cmpO 0) (mkI 4) spL = 2 ∧ uptoN (cmpO 0) (mkI 4) spL = 2 := by
  rw [cmpO_0]
  have h1 : cmpV (mkI 1) (mkI 4) = -1 := by rw [cmp_mkI]; simp [cmpI]
  have h2 : cmpV (mkI 3) (mkI 4) = -1 := by rw [cmp_mkI]; simp [cmpI]
  have h3 : cmpV (mkI 5) (mkI 4) = 1 := by rw [cmp_mkI]; simp [cmpI]
  simp [aheadN, uptoN, spL, List.takeWhile_cons, h1, h2, h3]
theorem sp_len (i : Nat) : (cellsPs (spL.take i)).length ≤ 3 := by rw [cellsPs_length, List.length_take]; exact Nat.min_le_right _ _
theorem sp_step (i : Nat) (h : i < 3) : cellsPs (spL.take i) ++ [cellsP (mkI (2 * (i : Int) + 1)) ++ cellsP (mkI (2 * (i : Int) + 1))] = cellsPs (spL.take (i + 1)) := by
  rcases (show i = 0 ∨ i = 1 ∨ i = 2 by omega) with rfl | rfl | rfl <;> simp [spL, cellsPs]
theorem sp_of : CallsF P G 9 [int 0, encPs spL] (.tup [encX 0 (ofT (cmpO 0) spL 3), int 0]) := of_ok (cmpCO 0 (by omega)) (by omega) (by simp [spL]) spL_ok
theorem sp_facts : (∀ p, p ∈ (ofT (cmpO 0) spL 3).1.toList → RP p) ∧ (ofT (cmpO 0) spL 3).1.size ≤ 131072 ∧ Rising (cmpO 0) (ofT (cmpO 0) spL 3).1.toList := by
  refine ⟨fun p hp => spL_ok p (by rw [sp_list.1] at hp; exact hp), ?_, ofT_rising 0 spL 3⟩
  rw [← T.toList_length, sp_list.1]; simp [spL]
theorem sp_floor : CallsF P G 21 [encX 0 (ofT (cmpO 0) spL 3), encV (mkI 4)] (.tup [encQ (mkI 3, mkI 3), bool true, int 0]) := by
  obtain ⟨h1, h2, h3⟩ := sp_facts
  have h := floor_ok 0 ((ofT (cmpO 0) spL 3).2 : Int) (ofT (cmpO 0) spL 3).1 (mkI 4) (by omega) (fine_mkI _ (by omega)) (right_mkI _) h1 h2 h3 (by rw [sp_list.1, sp_place.2]; rfl)
  rw [sp_list.1, sp_place.2] at h
  exact h
theorem sp_rank : CallsF P G 28 [encX 0 (ofT (cmpO 0) spL 3), encV (mkI 4)] (.tup [int 2, int 0]) := by
  obtain ⟨h1, h2, h3⟩ := sp_facts
  have h := rank_ok 0 ((ofT (cmpO 0) spL 3).2 : Int) (ofT (cmpO 0) spL 3).1 (mkI 4) (by omega) (fine_mkI _ (by omega)) (right_mkI _) h1 h2 h3
  rw [sp_list.1, sp_place.1] at h
  exact h
theorem get19 : P.funcs[19]? = some Tryz.f19 := by kernel_rfl
theorem ent19 : entersP P 19 = true := by kernel_rfl
theorem speaks15_ok (x : T × Nat) (F : Nat → List (V × V)) (hF0 : F 0 = []) (hFs : ∀ i, i < 3 → cellsPs (F i) ++ [cellsP (mkI (2 * (i : Int) + 1)) ++ cellsP (mkI (2 * (i : Int) + 1))] = cellsPs (F (i + 1))) (hFl : ∀ i, (cellsPs (F i)).length ≤ 3) (h1 : CallsF P G 9 [int 0, encPs (F 3)] (.tup [encX 0 x, int 0])) (h2 : CallsF P G 21 [encX 0 x, encV (mkI 4)] (.tup [encQ (mkI 3, mkI 3), bool true, int 0])) (h3 : CallsF P G 28 [encX 0 x, encV (mkI 4)] (.tup [int 2, int 0])) : CallsF P G 19 [] (bool true) := by
  refine sx_fn (hs := [.pre [.nrow 1 8 46], .loop [(0, 0), (1, 1)] [(0, 0), (3, 1)] (Sspk F) 3 (fun i => [.dec true, .el [int (2 * (i : Int) + 1)], .call (encV (mkI (2 * (i : Int) + 1))), .call (encV (mkI (2 * (i : Int) + 1)))]), .dec false, .lfz [1], .call (.tup [encX 0 x, int 0]), .dec false, .dec false, .call (encV (mkI 4)), .call (.tup [encQ (mkI 3, mkI 3), bool true, int 0]), .call (encV (mkI 4)), .call (.tup [int 2, int 0]), .dec true, .dec true, .dec true, .dec true]) (((E (true)) ∧ ((E (AV.lsl 1)) ∧ (E (AV.lsl 0)) ∧ ((AV.f (int (Int.ofNat (List.length (chunk (TypeInfo.size (Tables.types (Program.toTables P))[2]) 3 [fV (Value.int IntKind.i64 1), fV (Value.int IntKind.i64 3), fV (Value.int IntKind.i64 5)]))))) = (AV.f (int 3))) ∧ ((AV.f (int 0)) = (AV.f (int (Int.ofNat 0)))) ∧ True) ∧ ((E (Ob.row 1 2 [[int 1], [int 3], [int 5]])) ∧ ((Ob.row 8 46 []) = (Ob.row 8 46 (cellsPs (F 0)))) ∧ True) ∧ (E (true)) ∧ (((false) = (true)) → ((false) = (true)))) ∧ ((∀ (i : Nat), ((i < 3) → (((decide ((i : Int) < 3)) = (true)) ∧ (((0 : Int) ≤ (i : Int)) ∧ i < 3) ∧ (([[int 1], [int 3], [int 5]][i]?) = (some [int (2 * (i : Int) + 1)])) ∧ (CallsF P G 57 [int (2 * (i : Int) + 1)] (FV.agg [int (V.kind (mkI (2 * (i : Int) + 1))), int (V.num (mkI (2 * (i : Int) + 1))), str (V.text (mkI (2 * (i : Int) + 1))), FV.sl 4 []])) ∧ (CallsF P G 57 [int (2 * (i : Int) + 1)] (FV.agg [int (V.kind (mkI (2 * (i : Int) + 1))), int (V.num (mkI (2 * (i : Int) + 1))), str (V.text (mkI (2 * (i : Int) + 1))), FV.sl 4 []])) ∧ ((oneF ([[int (V.kind (mkI (2 * (i : Int) + 1))), int (V.num (mkI (2 * (i : Int) + 1))), str (V.text (mkI (2 * (i : Int) + 1))), FV.sl 4 [], int (V.kind (mkI (2 * (i : Int) + 1))), int (V.num (mkI (2 * (i : Int) + 1))), str (V.text (mkI (2 * (i : Int) + 1))), FV.sl 4 []]])) ∧ (List.length (cellsPs (F i)) + List.length (chunk 8 1 (int (V.kind (mkI (2 * (i : Int) + 1))) :: int (V.num (mkI (2 * (i : Int) + 1))) :: str (V.text (mkI (2 * (i : Int) + 1))) :: encI (V.items (mkI (2 * (i : Int) + 1))) :: cellsP (mkI (2 * (i : Int) + 1)))) ≤ maxLen) ∧ ((List.length (cellsPs (F i)) + List.length (chunk 8 1 (int (V.kind (mkI (2 * (i : Int) + 1))) :: int (V.num (mkI (2 * (i : Int) + 1))) :: str (V.text (mkI (2 * (i : Int) + 1))) :: encI (V.items (mkI (2 * (i : Int) + 1))) :: cellsP (mkI (2 * (i : Int) + 1))))) * 112 ≤ 140737488355328) ∧ E (false)) ∧ (E (true)) ∧ ((E (AV.lsl 1)) ∧ (E (AV.lsl 0)) ∧ (E (AV.f (int 3))) ∧ ((AV.f (int (IntKind.wrap IntKind.i64 ((i : Int) + 1)))) = (AV.f (int (↑(i + 1) : Int)))) ∧ True) ∧ ((E (Ob.row 1 2 [[int 1], [int 3], [int 5]])) ∧ ((Ob.row 8 46 (cellsPs (F i) ++ chunk (TypeInfo.size (Tables.types (Program.toTables P))[46]) 1 (int (V.kind (mkI (2 * (i : Int) + 1))) :: int (V.num (mkI (2 * (i : Int) + 1))) :: str (V.text (mkI (2 * (i : Int) + 1))) :: encI (V.items (mkI (2 * (i : Int) + 1))) :: cellsP (mkI (2 * (i : Int) + 1))))) = (Ob.row 8 46 (cellsPs (F (i + 1))))) ∧ True) ∧ (E (true)) ∧ (((false) = (true)) → ((false) = (true))))))) ∧ (E (false)) ∧ (CallsF P G 9 [int 0, FV.sl 8 (cellsPs (F 3))] (FV.tup [FV.ptr [int 0, int (↑(Prod.snd x) : Int), encT (Prod.fst x)] 0, int 0])) ∧ (E (false)) ∧ (E (false)) ∧ (CallsF P G 57 [int 4] (FV.agg [int 2, int 4, str (V.text (mkI 4)), FV.sl 4 []])) ∧ (CallsF P G 21 [FV.ptr [int 0, int (↑(Prod.snd x) : Int), encT (Prod.fst x)] 0, FV.agg [int 2, int 4, str (V.text (mkI 4)), FV.sl 4 []]] (FV.tup [FV.agg [int 2, int 3, str (V.text (Prod.fst (mkI 3, mkI 3))), FV.sl 4 [], int 2, int 3, str (V.text (Prod.snd (mkI 3, mkI 3))), FV.sl 4 []], bool true, int 0])) ∧ (CallsF P G 57 [int 4] (FV.agg [int 2, int 4, str (V.text (mkI 4)), FV.sl 4 []])) ∧ (CallsF P G 28 [FV.ptr [int 0, int (↑(Prod.snd x) : Int), encT (Prod.fst x)] 0, FV.agg [int 2, int 4, str (V.text (mkI 4)), FV.sl 4 []]] (FV.tup [int 2, int 0])) ∧ (E (true)) ∧ (E (true)) ∧ (E (true)) ∧ (E (true)) ∧ E (bool true)) get19 ent19 (by kernel_rfl) ?_
  refine ⟨⟨rfl, ⟨⟨rfl, ⟨rfl, ⟨?_, ⟨?_, trivial⟩⟩⟩⟩, ⟨⟨rfl, ⟨?_, trivial⟩⟩, ⟨rfl, fun hi => ?_⟩⟩⟩⟩, ⟨fun i => fun hi => ⟨?_, ⟨⟨?_, ?_⟩, ⟨?_, ⟨?_, ⟨?_, ⟨⟨?_, ⟨?_, ⟨?_, rfl⟩⟩⟩, ⟨rfl, ⟨⟨rfl, ⟨rfl, ⟨rfl, ⟨?_, trivial⟩⟩⟩⟩, ⟨⟨rfl, ⟨?_, trivial⟩⟩, ⟨rfl, fun hi => ?_⟩⟩⟩⟩⟩⟩⟩⟩⟩⟩, ⟨rfl, ⟨?_, ⟨rfl, ⟨rfl, ⟨?_, ⟨?_, ⟨?_, ⟨?_, ⟨rfl, ⟨rfl, ⟨rfl, ⟨rfl, rfl⟩⟩⟩⟩⟩⟩⟩⟩⟩⟩⟩⟩⟩⟩
  all_goals first | exact int_ok _ | (rw [hF0]; rfl) | exact h1 | exact h2 | exact h3 | (rcases (show i = 0 ∨ i = 1 ∨ i = 2 by omega) with rfl | rfl | rfl <;> rfl) | (exact congrArg (Ob.row 8 46) (hFs i (by omega))) | (have := hFl i; simp only [chunk, List.length_cons, List.length_nil, maxLen]; omega) | assumption | omega | (intro x hx; simp at hx; rcases hx with rfl | rfl | rfl | rfl | rfl | rfl | rfl | rfl <;> rfl) | (simp [V.kind, V.num, V.text, V.items, *]; done) | rfl
theorem speaks15 : CallsF P G 19 [] (bool true) := speaks15_ok _ (fun i => spL.take i) rfl sp_step sp_len sp_of sp_floor sp_rank
end Go.Sx
set_option maxRecDepth 100000
set_option maxHeartbeats 4000000
set_option linter.unusedSimpArgs false
set_option linter.unusedVariables false
namespace Go.Sx
open Go.Proofs Sp
theorem of_kind (o : Int) (l : List (V × V)) (h : o < 0 ∨ 5 < o) : CallsF P G 9 [int o, encPs l] (.tup [.sc (.pointer none), int 4]) := by
  refine sx_fn (hs := [.call (FV.tup [FV.sc (Value.pointer none), int 4]), .dec false, .dec true]) ((CallsF P G 31 [int o] (FV.tup [FV.sc (Value.pointer none), int 4])) ∧ (E (false)) ∧ (E (true)) ∧ E (FV.tup [FV.sc (Value.pointer none), int 4])) get9 ent9 (by kernel_rfl) ?_
  refine ⟨?_, ⟨rfl, ⟨rfl, rfl⟩⟩⟩
  all_goals exact new_bad _ h
theorem of_wrong (o e : Int) (l : List (V × V)) (ho : 0 ≤ o ∧ o ≤ 5) (he : e ≠ 0) (h : CallsF P G 51 [encPs l] (int e)) : CallsF P G 9 [int o, encPs l] (.tup [.sc (.pointer none), int e]) := by
  refine sx_fn (hs := [.call (FV.tup [encM o 0 T.nil, int 0]), .dec true, .call (int e), .br [] []]) ((CallsF P G 31 [int o] (FV.tup [encM o 0 T.nil, int 0])) ∧ (E (true)) ∧ (CallsF P G 51 [FV.sl 8 (cellsPs l)] (int e)) ∧ (((e != 0) = (true)) → (E (FV.tup [FV.sc (Value.pointer none), int e]))) ∧ (((e != 0) = (false)) → (False))) get9 ent9 (by kernel_rfl) ?_
  refine ⟨?_, ⟨rfl, ⟨?_, ⟨fun hi => rfl, fun hi => ?_⟩⟩⟩⟩
  all_goals first | exact new_ok _ ho | exact h | (exfalso; simp_all; done)
theorem of_cases (o : Int) (l : List (V × V)) (hf : ∀ p, p ∈ l → Fine p.1 ∧ Fine p.2) :
    (∃ e, e ≠ 0 ∧ CallsF P G 9 [int o, encPs l] (.tup [.sc (.pointer none), int e])) ∨ ((0 ≤ o ∧ o ≤ 5) ∧ l.length ≤ 65536 ∧ (∀ q, q ∈ l → RP q)) := by
  by_cases ho : 0 ≤ o ∧ o ≤ 5
  · by_cases hl : l.length ≤ 65536
    · by_cases hr : ∀ i, i < l.length → pairE (l.getD i default).1 (l.getD i default).2 = 0
      · refine .inr ⟨ho, hl, fun q hq => ?_⟩
        obtain ⟨i, hi, e⟩ := List.getElem_of_mem hq
        have h1 := hr i hi
        rw [List.getD_eq_getElem?_getD, List.getElem?_eq_getElem hi, Option.getD_some, e] at h1
        have h2 := hf q hq
        refine ⟨h2.1, h2.2, ?_⟩
        simp only [pairE] at h1
        cases a : rightB q.1 <;> cases b : rightB q.2 <;> simp [a, b] at h1 ⊢
      · have hr2 : ∃ i, i < l.length ∧ ¬ pairE (l.getD i default).1 (l.getD i default).2 = 0 := Classical.byContradiction fun h => hr fun i hi => Classical.byContradiction fun h2 => h ⟨i, hi, h2⟩
        obtain ⟨N, ⟨h1, h2⟩, h3⟩ := exists_least (fun i => i < l.length ∧ ¬ pairE (l.getD i default).1 (l.getD i default).2 = 0) hr2
        refine .inl ⟨3, by omega, of_wrong o 3 l ho (by omega) (checked_not l N hl (by omega) hf (fun i hi => Classical.byContradiction fun h4 => by have h5 := h3 i ⟨by omega, h4⟩; omega) h1 ?_)⟩
        revert h2
        simp only [pairE]
        split <;> simp
    · exact .inl ⟨2, by omega, of_wrong o 2 l ho (by omega) (checked_long l (by omega))⟩
  · exact .inl ⟨4, by omega, of_kind o l (by omega)⟩
theorem cmpCX (o : Int) (ho : 0 ≤ o ∧ o ≤ 5) (l : List (V × V)) (hl : l.length ≤ 65536) (hr : ∀ q, q ∈ l → RP q) : ∃ t : T, CallsF P G 9 [int o, encPs l] (.tup [encM o (t.size : Int) t, int 0]) ∧ (∀ p, p ∈ t.toList → RP p) ∧ t.size ≤ 65536 ∧ Rising (cmpO o) t.toList := by
  have h := of_ok (cmpCO o ho) ho hl hr
  obtain ⟨h1, h2⟩ := ofT_ok (c := cmpO o) hr l.length (Nat.le_refl _)
  have h3 := ofT_rising o l l.length
  generalize ofT (cmpO o) l l.length = x at *
  obtain ⟨t, n⟩ := x
  have e : t.size = n := h1.2.2.1
  subst e
  exact ⟨t, h, h1.2.2.2, by simp only at h2; omega, h3⟩
theorem fine_at {L : List (V × V)} (hp : ∀ p, p ∈ L → RP p) (i : Int) : Fine (atQ L i).1 ∧ Fine (atQ L i).2 := by
  unfold atQ
  split
  · rename_i h
    simp only [inQ, Bool.and_eq_true, decide_eq_true_eq] at h
    have := allP hp (i := i.toNat) (by omega)
    exact ⟨this.1, this.2.1⟩
  · exact ⟨fine_nilW, fine_nilW⟩
theorem inQ_no {L : List (V × V)} {i : Int} (h : ¬ (0 ≤ i ∧ i < L.length)) : inQ L i = false := by
  cases h2 : inQ L i with
  | false => rfl
  | true =>
    simp only [inQ, Bool.and_eq_true, decide_eq_true_eq] at h2
    exact absurd h2 h

end Go.Sx

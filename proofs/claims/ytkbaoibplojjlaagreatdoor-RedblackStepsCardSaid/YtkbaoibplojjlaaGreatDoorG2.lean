/-
  Proved: what some functions of the program answer, or a law of the evaluator that shows it, one theorem each; its conditions are the hypotheses that stand ahead of it.
-/
import Derived.Test.YtkbaoibplojjlaaGreatDoorH9
import Derived.Test.YtkbaoibplojjlaaGreatDoorPSo
import Derived.Test.YtkbaoibplojjlaaGreatDoorD1
import Derived.KernelRfl
set_option maxRecDepth 100000
set_option maxHeartbeats 4000000
set_option linter.unusedSimpArgs false
set_option linter.unusedVariables false
namespace Go.Sx
open Go.Proofs Sp
/-- A pair, and that in a place of a list, if it is there. -/
def encQ (q : V × V) : FV := .agg (cellsP q.1 ++ cellsP q.2)
def inQ (L : List (V × V)) (i : Int) : Bool := decide (0 ≤ i) && decide (i < L.length)
def atQ (L : List (V × V)) (i : Int) : V × V := if inQ L i then L.getD i.toNat default else (nilW, nilW)
def noQ : V × V := (nilW, nilW)
theorem zq : ∀ w ok v, FRel w ok (.agg [int 0, int 0, str [], .nils, int 0, int 0, str [], .nils]) v → FRel w ok (encQ (nilW, nilW)) v := by
  intro w ok v h
  simp only [encQ, cellsP, nilW, V.kind, V.num, V.text, V.items, cellsVs, List.cons_append, List.nil_append, FRel, FRelL] at h ⊢
  obtain ⟨cs, rfl, h⟩ := h
  refine ⟨cs, rfl, ?_⟩
  obtain ⟨v1, r1, e1, h1, v2, r2, e2, h2, v3, r3, e3, h3, v4, r4, e4, h4, v5, r5, e5, h5, v6, r6, e6, h6, v7, r7, e7, h7, v8, r8, e8, h8, h9⟩ := h
  exact ⟨v1, r1, e1, h1, v2, r2, e2, h2, v3, r3, e3, h3, v4, r4, e4, .inl ⟨trivial, .inl h4⟩, v5, r5, e5, h5, v6, r6, e6, h6, v7, r7, e7, h7, v8, r8, e8, .inl ⟨trivial, .inl h8⟩, h9⟩
theorem zq_tup (us : List FV) : ∀ w ok v, FRel w ok (.tup (.agg [int 0, int 0, str [], .nils, int 0, int 0, str [], .nils] :: us)) v → FRel w ok (.tup (encQ (nilW, nilW) :: us)) v := by
  intro w ok v h
  rw [FRel] at h ⊢
  obtain ⟨cs, e, h⟩ := h
  refine ⟨cs, e, ?_⟩
  rw [FRelL] at h ⊢
  obtain ⟨v1, r1, e1, h1, h2⟩ := h
  exact ⟨v1, r1, e1, zq _ _ _ h1, h2⟩
theorem inQ_out {L : List (V × V)} {i : Int} (h : inQ L i = false) : atQ L i = (nilW, nilW) := by simp [atQ, h]
theorem inQ_nat {L : List (V × V)} {i : Nat} (h : i < L.length) : inQ L i = true ∧ atQ L i = L.getD i default := by
  have : inQ L i = true := by simp [inQ]; omega
  exact ⟨this, by simp [atQ, this]⟩
theorem get97 : P.funcs[97]? = some Tryz.f97 := by kernel_rfl
theorem ent97 : entersP P 97 = true := by kernel_rfl
theorem pair_in (L : List (V × V)) (i : Nat) (hl : L.length ≤ 1000000) (hi : i < L.length) : CallsF P G 97 [encPs L, int (i : Int)] (.tup [encQ (L.getD i default), bool true]) := by
  refine sx_fn (hs := [.dec false, .br [] [.el (cellsP (Prod.fst (List.getD L i default)) ++ cellsP (Prod.snd (List.getD L i default)))]]) ((E (false)) ∧ (((decide ((i : Int) ≥ (↑(List.length (cellsPs L)) : Int))) = (true)) → ((FV.tup [FV.agg [int 0, int 0, str [], FV.nils, int 0, int 0, str [], FV.nils], bool false]) = (FV.tup [FV.agg (int (V.kind (Prod.fst (List.getD L i default))) :: int (V.num (Prod.fst (List.getD L i default))) :: str (V.text (Prod.fst (List.getD L i default))) :: encI (V.items (Prod.fst (List.getD L i default))) :: cellsP (Prod.snd (List.getD L i default))), bool true]))) ∧ (((decide ((i : Int) ≥ (↑(List.length (cellsPs L)) : Int))) = (false)) → (((E (8)) ∧ ((0 : Int) ≤ (i : Int)) ∧ ((cellsPs L)[i]?) = (some (int (V.kind (Prod.fst (List.getD L i default))) :: int (V.num (Prod.fst (List.getD L i default))) :: str (V.text (Prod.fst (List.getD L i default))) :: encI (V.items (Prod.fst (List.getD L i default))) :: cellsP (Prod.snd (List.getD L i default))))) ∧ E (FV.tup [FV.agg (int (V.kind (Prod.fst (List.getD L i default))) :: int (V.num (Prod.fst (List.getD L i default))) :: str (V.text (Prod.fst (List.getD L i default))) :: encI (V.items (Prod.fst (List.getD L i default))) :: cellsP (Prod.snd (List.getD L i default))), bool true])))) get97 ent97 (by kernel_rfl) ?_
  refine ⟨rfl, ⟨fun hi => ?_, fun hi => ⟨⟨rfl, ⟨?_, ?_⟩⟩, rfl⟩⟩⟩
  all_goals first | exact cellsPs_get L _ (by omega) | (exfalso; simp only [cellsPs_length, decide_eq_true_eq, decide_eq_false_iff_not] at *; omega) | (simp only [cellsPs_length, decide_eq_true_eq, decide_eq_false_iff_not] at *; omega)
theorem pair_out (L : List (V × V)) (i : Int) (h : i < 0 ∨ L.length ≤ i) : CallsF P G 97 [encPs L, int i] (.tup [.agg [int 0, int 0, str [], .nils, int 0, int 0, str [], .nils], bool false]) := by
  refine sx_fn (hs := [.br [.dec true] [.br [] [.el (cellsP (Prod.fst (List.getD L (Int.toNat i) default)) ++ cellsP (Prod.snd (List.getD L (Int.toNat i) default)))]]]) ((((decide (i < 0)) = (true)) → ((E (true)) ∧ E (FV.tup [FV.agg [int 0, int 0, str [], FV.nils, int 0, int 0, str [], FV.nils], bool false]))) ∧ (((decide (i < 0)) = (false)) → ((((decide (i ≥ (↑(List.length (cellsPs L)) : Int))) = (true)) → (E (FV.tup [FV.agg [int 0, int 0, str [], FV.nils, int 0, int 0, str [], FV.nils], bool false]))) ∧ (((decide (i ≥ (↑(List.length (cellsPs L)) : Int))) = (false)) → (((E (8)) ∧ ((0 : Int) ≤ i) ∧ ((cellsPs L)[Int.toNat i]?) = (some (int (V.kind (Prod.fst (List.getD L (Int.toNat i) default))) :: int (V.num (Prod.fst (List.getD L (Int.toNat i) default))) :: str (V.text (Prod.fst (List.getD L (Int.toNat i) default))) :: encI (V.items (Prod.fst (List.getD L (Int.toNat i) default))) :: cellsP (Prod.snd (List.getD L (Int.toNat i) default))))) ∧ (FV.tup [FV.agg (int (V.kind (Prod.fst (List.getD L (Int.toNat i) default))) :: int (V.num (Prod.fst (List.getD L (Int.toNat i) default))) :: str (V.text (Prod.fst (List.getD L (Int.toNat i) default))) :: encI (V.items (Prod.fst (List.getD L (Int.toNat i) default))) :: cellsP (Prod.snd (List.getD L (Int.toNat i) default))), bool true]) = (FV.tup [FV.agg [int 0, int 0, str [], FV.nils, int 0, int 0, str [], FV.nils], bool false])))))) get97 ent97 (by kernel_rfl) ?_
  refine ⟨fun hi => ⟨rfl, rfl⟩, fun hi => ⟨fun hi => rfl, fun hi => ⟨⟨rfl, ⟨?_, ?_⟩⟩, ?_⟩⟩⟩
  all_goals (exfalso; simp only [cellsPs_length, decide_eq_true_eq, decide_eq_false_iff_not] at *; omega)
theorem qpair_ok (L : List (V × V)) (hl : L.length ≤ 1000000) (i : Int) : CallsF P G 97 [encPs L, int i] (.tup [encQ (atQ L i), bool (inQ L i)]) := by
  by_cases h : 0 ≤ i ∧ i < L.length
  · obtain ⟨n, rfl⟩ := Int.eq_ofNat_of_zero_le h.1
    obtain ⟨h1, h2⟩ := inQ_nat (L := L) (i := n) (by omega)
    rw [h1, h2]
    exact pair_in L n hl (by omega)
  · have h1 : inQ L i = false := by simp [inQ]; omega
    rw [h1, inQ_out h1]
    exact (pair_out L i (by omega)).weak (zq_tup _)
theorem get99 : P.funcs[99]? = some Tryz.f99 := by kernel_rfl
theorem ent99 : entersP P 99 = true := by kernel_rfl
theorem rat_in (L : List (V × V)) (i : Nat) (hl : L.length ≤ 1000000) (hi : i < L.length) : CallsF P G 99 [encPs L, int (i : Int)] (.tup [encQ (L.getD i default), int 0]) := by
  refine sx_fn (hs := [.dec false, .br [] [.el (cellsP (Prod.fst (List.getD L i default)) ++ cellsP (Prod.snd (List.getD L i default)))]]) ((E (false)) ∧ (((decide ((i : Int) ≥ (↑(List.length (cellsPs L)) : Int))) = (true)) → ((FV.tup [FV.agg [int 0, int 0, str [], FV.nils, int 0, int 0, str [], FV.nils], int 5]) = (FV.tup [FV.agg (int (V.kind (Prod.fst (List.getD L i default))) :: int (V.num (Prod.fst (List.getD L i default))) :: str (V.text (Prod.fst (List.getD L i default))) :: encI (V.items (Prod.fst (List.getD L i default))) :: cellsP (Prod.snd (List.getD L i default))), int 0]))) ∧ (((decide ((i : Int) ≥ (↑(List.length (cellsPs L)) : Int))) = (false)) → (((E (8)) ∧ ((0 : Int) ≤ (i : Int)) ∧ ((cellsPs L)[i]?) = (some (int (V.kind (Prod.fst (List.getD L i default))) :: int (V.num (Prod.fst (List.getD L i default))) :: str (V.text (Prod.fst (List.getD L i default))) :: encI (V.items (Prod.fst (List.getD L i default))) :: cellsP (Prod.snd (List.getD L i default))))) ∧ E (FV.tup [FV.agg (int (V.kind (Prod.fst (List.getD L i default))) :: int (V.num (Prod.fst (List.getD L i default))) :: str (V.text (Prod.fst (List.getD L i default))) :: encI (V.items (Prod.fst (List.getD L i default))) :: cellsP (Prod.snd (List.getD L i default))), int 0])))) get99 ent99 (by kernel_rfl) ?_
  refine ⟨rfl, ⟨fun hi => ?_, fun hi => ⟨⟨rfl, ⟨?_, ?_⟩⟩, rfl⟩⟩⟩
  all_goals first | exact cellsPs_get L _ (by omega) | (exfalso; simp only [cellsPs_length, decide_eq_true_eq, decide_eq_false_iff_not] at *; omega) | (simp only [cellsPs_length, decide_eq_true_eq, decide_eq_false_iff_not] at *; omega)
theorem rat_out (L : List (V × V)) (i : Int) (h : i < 0 ∨ L.length ≤ i) : CallsF P G 99 [encPs L, int i] (.tup [.agg [int 0, int 0, str [], .nils, int 0, int 0, str [], .nils], int 5]) := by
  refine sx_fn (hs := [.br [.dec true] [.br [] [.el (cellsP (Prod.fst (List.getD L (Int.toNat i) default)) ++ cellsP (Prod.snd (List.getD L (Int.toNat i) default)))]]]) ((((decide (i < 0)) = (true)) → ((E (true)) ∧ E (FV.tup [FV.agg [int 0, int 0, str [], FV.nils, int 0, int 0, str [], FV.nils], int 5]))) ∧ (((decide (i < 0)) = (false)) → ((((decide (i ≥ (↑(List.length (cellsPs L)) : Int))) = (true)) → (E (FV.tup [FV.agg [int 0, int 0, str [], FV.nils, int 0, int 0, str [], FV.nils], int 5]))) ∧ (((decide (i ≥ (↑(List.length (cellsPs L)) : Int))) = (false)) → (((E (8)) ∧ ((0 : Int) ≤ i) ∧ ((cellsPs L)[Int.toNat i]?) = (some (int (V.kind (Prod.fst (List.getD L (Int.toNat i) default))) :: int (V.num (Prod.fst (List.getD L (Int.toNat i) default))) :: str (V.text (Prod.fst (List.getD L (Int.toNat i) default))) :: encI (V.items (Prod.fst (List.getD L (Int.toNat i) default))) :: cellsP (Prod.snd (List.getD L (Int.toNat i) default))))) ∧ (FV.tup [FV.agg (int (V.kind (Prod.fst (List.getD L (Int.toNat i) default))) :: int (V.num (Prod.fst (List.getD L (Int.toNat i) default))) :: str (V.text (Prod.fst (List.getD L (Int.toNat i) default))) :: encI (V.items (Prod.fst (List.getD L (Int.toNat i) default))) :: cellsP (Prod.snd (List.getD L (Int.toNat i) default))), int 0]) = (FV.tup [FV.agg [int 0, int 0, str [], FV.nils, int 0, int 0, str [], FV.nils], int 5])))))) get99 ent99 (by kernel_rfl) ?_
  refine ⟨fun hi => ⟨rfl, rfl⟩, fun hi => ⟨fun hi => rfl, fun hi => ⟨⟨rfl, ⟨?_, ?_⟩⟩, ?_⟩⟩⟩
  all_goals (exfalso; simp only [cellsPs_length, decide_eq_true_eq, decide_eq_false_iff_not] at *; omega)
theorem rat_ok (L : List (V × V)) (hl : L.length ≤ 1000000) (i : Int) : CallsF P G 99 [encPs L, int i] (.tup [encQ (atQ L i), int (if inQ L i then 0 else 5)]) := by
  by_cases h : 0 ≤ i ∧ i < L.length
  · obtain ⟨n, rfl⟩ := Int.eq_ofNat_of_zero_le h.1
    obtain ⟨h1, h2⟩ := inQ_nat (L := L) (i := n) (by omega)
    rw [h1, h2]
    exact rat_in L n hl (by omega)
  · have h1 : inQ L i = false := by simp [inQ]; omega
    rw [h1, inQ_out h1]
    exact (rat_out L i (by omega)).weak (zq_tup _)
theorem get23 : P.funcs[23]? = some Tryz.f23 := by kernel_rfl
theorem ent23 : entersP P 23 = true := by kernel_rfl
theorem pairEq_ok (p : V × V) (hp : Fine p.1 ∧ Fine p.2) : CallsF P G 23 [encQ p, encQ p] (bool true) := by
  refine sx_fn (hs := [.call (bool (eqB (Prod.fst p) (Prod.fst p))), .br [.call (bool (eqB (Prod.snd p) (Prod.snd p)))] []]) ((CallsF P G 34 [encV (Prod.fst p), encV (Prod.fst p)] (bool (eqB (Prod.fst p) (Prod.fst p)))) ∧ (((eqB (Prod.fst p) (Prod.fst p)) = (true)) → ((CallsF P G 34 [encV (Prod.snd p), encV (Prod.snd p)] (bool (eqB (Prod.snd p) (Prod.snd p)))) ∧ (bool (eqB (Prod.snd p) (Prod.snd p))) = (bool true))) ∧ (((eqB (Prod.fst p) (Prod.fst p)) = (false)) → ((bool false) = (bool true)))) get23 ent23 (by kernel_rfl) ?_
  refine ⟨?_, ⟨fun hi => ⟨?_, ?_⟩, fun hi => ?_⟩⟩
  all_goals first | exact eq_ok _ hp.1 _ | exact eq_ok _ hp.2 _ | (exfalso; simp_all [eqB]; done) | (simp_all [eqB]; done)
end Go.Sx
set_option maxRecDepth 100000
set_option maxHeartbeats 4000000
set_option linter.unusedSimpArgs false
set_option linter.unusedVariables false
namespace Go.Sx
open Go.Proofs Sp
def Ssearch (g : Nat) (c : FV) (p : Nat → Bool) (n : Nat) (i : Nat) : St := { sl := slots 26 [(1, .f (.fn g [] [c])), (5, .f (int ((runS p n i).1 : Int))), (6, .f (int ((runS p n i).2 : Int)))], ob := [], nx := 0 }
theorem midS {a b : Nat} (h : a + b ≤ 2000000) : IntKind.i64.wrap (Int.fdiv (IntKind.u64.wrap (IntKind.i64.wrap ((a : Int) + (b : Int)))) (2 ^ min (Int.toNat 1) IntKind.u64.bits)) = (((a + b) / 2 : Nat) : Int) := by
  rw [show ((2 : Int) ^ min (Int.toNat 1) IntKind.u64.bits) = 2 from by decide]
  rw [wrapS ((a : Int) + b) (by omega) (by omega), show IntKind.u64.wrap ((a : Int) + b) = (a : Int) + b from by simp only [IntKind.wrap, IntKind.signed, IntKind.bits]; simp; omega]
  rw [show Int.fdiv ((a : Int) + b) 2 = (((a + b) / 2 : Nat) : Int) from by rw [Int.fdiv_eq_ediv_of_nonneg _ (by omega)]; omega]
  exact wrapS _ (by omega) (by omega)
theorem runS_no {p : Nat → Bool} {n i : Nat} (h : (!p (((runS p n i).1 + (runS p n i).2) / 2)) = true) : (runS p n (i + 1)).1 = ((runS p n i).1 + (runS p n i).2) / 2 + 1 ∧ (runS p n (i + 1)).2 = (runS p n i).2 := by
  simp only [runS, stepS]; rw [if_neg (by simpa using h)]; exact ⟨rfl, rfl⟩
theorem runS_yes {p : Nat → Bool} {n i : Nat} (h : (!p (((runS p n i).1 + (runS p n i).2) / 2)) = false) : (runS p n (i + 1)).1 = (runS p n i).1 ∧ (runS p n (i + 1)).2 = ((runS p n i).1 + (runS p n i).2) / 2 := by
  simp only [runS, stepS]; rw [if_pos (by simpa using h)]; exact ⟨rfl, rfl⟩
theorem ofT_rising (o : Int) (l : List (V × V)) : ∀ i, Rising (cmpO o) (ofT (cmpO o) l i).1.toList
  | 0 => by simp [ofT, T.toList, Rising]
  | i + 1 => T.insert_rising (cmpO_line o) _ _ _ (ofT_rising o l i)
theorem get103 : P.funcs[103]? = some Tryz.f103 := by kernel_rfl
theorem ent103 : entersP P 103 = true := by kernel_rfl
theorem search_run (g : Nat) (c : FV) (p : Nat → Bool) (n N : Nat) (hn : n ≤ 1000000) (hp : ∀ h, h < n → CallsF P G g [int (h : Int), c] (bool (p h))) (hin : ∀ i, i ≤ N → (runS p n i).1 ≤ (runS p n i).2 ∧ (runS p n i).2 ≤ n) (h1 : ∀ j, j < N → (runS p n j).1 < (runS p n j).2) (h2 : ¬ (runS p n N).1 < (runS p n N).2) : CallsF P G 103 [int (n : Int), .fn g [] [c]] (int ((runS p n N).1 : Int)) := by
  refine sx_fn (hs := [.loop [] [] (Ssearch g c p n) (N) (fun i => [.br [.call (bool (p (Int.toNat (IntKind.wrap IntKind.i64 (Int.fdiv (IntKind.wrap IntKind.u64 (IntKind.wrap IntKind.i64 ((↑(Prod.fst (runS p n i)) : Int) + (↑(Prod.snd (runS p n i)) : Int)))) (2 ^ min (Int.toNat 1) (IntKind.bits IntKind.u64))))))), .br [] []] []]), .br [.call (bool (p (Int.toNat (IntKind.wrap IntKind.i64 (Int.fdiv (IntKind.wrap IntKind.u64 (IntKind.wrap IntKind.i64 ((↑(Prod.fst (runS p n N)) : Int) + (↑(Prod.snd (runS p n N)) : Int)))) (2 ^ min (Int.toNat 1) (IntKind.bits IntKind.u64))))))), .br [] []] []]) (((E (true)) ∧ ((E (AV.f (FV.fn g [] [c]))) ∧ ((AV.f (int 0)) = (AV.f (int (↑(Prod.fst (runS p n 0)) : Int)))) ∧ ((AV.f (int (n : Int))) = (AV.f (int (↑(Prod.snd (runS p n 0)) : Int)))) ∧ True) ∧ (True) ∧ (E (true)) ∧ (((false) = (true)) → ((false) = (true)))) ∧ (∀ (i : Nat), (i < N) → ((((decide ((↑(Prod.fst (runS p n i)) : Int) < (↑(Prod.snd (runS p n i)) : Int))) = (true)) → ((CallsF P G g [int (IntKind.wrap IntKind.i64 (Int.fdiv (IntKind.wrap IntKind.u64 (IntKind.wrap IntKind.i64 ((↑(Prod.fst (runS p n i)) : Int) + (↑(Prod.snd (runS p n i)) : Int)))) (2 ^ min (Int.toNat 1) (IntKind.bits IntKind.u64)))), c] (bool (p (Int.toNat (IntKind.wrap IntKind.i64 (Int.fdiv (IntKind.wrap IntKind.u64 (IntKind.wrap IntKind.i64 ((↑(Prod.fst (runS p n i)) : Int) + (↑(Prod.snd (runS p n i)) : Int)))) (2 ^ min (Int.toNat 1) (IntKind.bits IntKind.u64)))))))) ∧ (((!p (Int.toNat (IntKind.wrap IntKind.i64 (Int.fdiv (IntKind.wrap IntKind.u64 (IntKind.wrap IntKind.i64 ((↑(Prod.fst (runS p n i)) : Int) + (↑(Prod.snd (runS p n i)) : Int)))) (2 ^ min (Int.toNat 1) (IntKind.bits IntKind.u64)))))) = (true)) → ((E (true)) ∧ ((E (AV.f (FV.fn g [] [c]))) ∧ ((AV.f (int (IntKind.wrap IntKind.i64 (IntKind.wrap IntKind.i64 (Int.fdiv (IntKind.wrap IntKind.u64 (IntKind.wrap IntKind.i64 ((↑(Prod.fst (runS p n i)) : Int) + (↑(Prod.snd (runS p n i)) : Int)))) (2 ^ min (Int.toNat 1) (IntKind.bits IntKind.u64))) + 1)))) = (AV.f (int (↑(Prod.fst (runS p n (i + 1))) : Int)))) ∧ ((AV.f (int (↑(Prod.snd (runS p n i)) : Int))) = (AV.f (int (↑(Prod.snd (runS p n (i + 1))) : Int)))) ∧ True) ∧ (True) ∧ (E (true)) ∧ ((St.nd (Ssearch g c p n (i + 1)) = true) → ((false) = (true))))) ∧ (((!p (Int.toNat (IntKind.wrap IntKind.i64 (Int.fdiv (IntKind.wrap IntKind.u64 (IntKind.wrap IntKind.i64 ((↑(Prod.fst (runS p n i)) : Int) + (↑(Prod.snd (runS p n i)) : Int)))) (2 ^ min (Int.toNat 1) (IntKind.bits IntKind.u64)))))) = (false)) → ((E (true)) ∧ ((E (AV.f (FV.fn g [] [c]))) ∧ ((AV.f (int (↑(Prod.fst (runS p n i)) : Int))) = (AV.f (int (↑(Prod.fst (runS p n (i + 1))) : Int)))) ∧ ((AV.f (int (IntKind.wrap IntKind.i64 (Int.fdiv (IntKind.wrap IntKind.u64 (IntKind.wrap IntKind.i64 ((↑(Prod.fst (runS p n i)) : Int) + (↑(Prod.snd (runS p n i)) : Int)))) (2 ^ min (Int.toNat 1) (IntKind.bits IntKind.u64)))))) = (AV.f (int (↑(Prod.snd (runS p n (i + 1))) : Int)))) ∧ True) ∧ (True) ∧ (E (true)) ∧ ((St.nd (Ssearch g c p n (i + 1)) = true) → ((false) = (true))))))) ∧ (((decide ((↑(Prod.fst (runS p n i)) : Int) < (↑(Prod.snd (runS p n i)) : Int))) = (false)) → (False)))) ∧ (((decide ((↑(Prod.fst (runS p n N)) : Int) < (↑(Prod.snd (runS p n N)) : Int))) = (true)) → ((CallsF P G g [int (IntKind.wrap IntKind.i64 (Int.fdiv (IntKind.wrap IntKind.u64 (IntKind.wrap IntKind.i64 ((↑(Prod.fst (runS p n N)) : Int) + (↑(Prod.snd (runS p n N)) : Int)))) (2 ^ min (Int.toNat 1) (IntKind.bits IntKind.u64)))), c] (bool (p (Int.toNat (IntKind.wrap IntKind.i64 (Int.fdiv (IntKind.wrap IntKind.u64 (IntKind.wrap IntKind.i64 ((↑(Prod.fst (runS p n N)) : Int) + (↑(Prod.snd (runS p n N)) : Int)))) (2 ^ min (Int.toNat 1) (IntKind.bits IntKind.u64)))))))) ∧ (((!p (Int.toNat (IntKind.wrap IntKind.i64 (Int.fdiv (IntKind.wrap IntKind.u64 (IntKind.wrap IntKind.i64 ((↑(Prod.fst (runS p n N)) : Int) + (↑(Prod.snd (runS p n N)) : Int)))) (2 ^ min (Int.toNat 1) (IntKind.bits IntKind.u64)))))) = (true)) → (False)) ∧ (((!p (Int.toNat (IntKind.wrap IntKind.i64 (Int.fdiv (IntKind.wrap IntKind.u64 (IntKind.wrap IntKind.i64 ((↑(Prod.fst (runS p n N)) : Int) + (↑(Prod.snd (runS p n N)) : Int)))) (2 ^ min (Int.toNat 1) (IntKind.bits IntKind.u64)))))) = (false)) → (False)))) ∧ (((decide ((↑(Prod.fst (runS p n N)) : Int) < (↑(Prod.snd (runS p n N)) : Int))) = (false)) → (E (int (↑(Prod.fst (runS p n N)) : Int))))) get103 ent103 (by kernel_rfl) ?_
  refine ⟨⟨rfl, ⟨⟨rfl, ⟨?_, ⟨?_, trivial⟩⟩⟩, ⟨trivial, ⟨rfl, fun hi => ?_⟩⟩⟩⟩, fun i => fun hlt => ⟨fun hi => ⟨?_, ⟨fun hi => ⟨rfl, ⟨⟨rfl, ⟨?_, ⟨?_, trivial⟩⟩⟩, ⟨trivial, ⟨rfl, fun hi => ?_⟩⟩⟩⟩, fun hi => ⟨rfl, ⟨⟨rfl, ⟨?_, ⟨?_, trivial⟩⟩⟩, ⟨trivial, ⟨rfl, fun hi => ?_⟩⟩⟩⟩⟩⟩, fun hi => ?_⟩, ⟨fun hi => ⟨?_, ⟨fun hi => ?_, fun hi => ?_⟩⟩, fun hi => rfl⟩⟩
  all_goals first | (have q1 := hin i (by omega); have q2 := h1 i (by assumption); have q0 := midS (show (runS p n i).1 + (runS p n i).2 ≤ 2000000 by omega); rw [q0]; exact hp _ (by omega)) | (have q1 := hin i (by omega); have q2 := h1 i (by assumption); have q0 := midS (show (runS p n i).1 + (runS p n i).2 ≤ 2000000 by omega); rw [q0, Int.toNat_natCast] at hi; have q3 := runS_no hi; (try rw [q0]); rw [q3.1]; first | done | exact congrArg (fun x => AV.f (int x)) (wrapS ((((runS p n i).1 + (runS p n i).2) / 2 : Nat) + 1 : Int) (by omega) (by omega))) | (have q1 := hin i (by omega); have q2 := h1 i (by assumption); have q0 := midS (show (runS p n i).1 + (runS p n i).2 ≤ 2000000 by omega); rw [q0, Int.toNat_natCast] at hi; have q3 := runS_no hi; (try rw [q0]); rw [q3.2]; first | done | exact congrArg (fun x => AV.f (int x)) (wrapS ((((runS p n i).1 + (runS p n i).2) / 2 : Nat) + 1 : Int) (by omega) (by omega))) | (have q1 := hin i (by omega); have q2 := h1 i (by assumption); have q0 := midS (show (runS p n i).1 + (runS p n i).2 ≤ 2000000 by omega); rw [q0, Int.toNat_natCast] at hi; have q3 := runS_yes hi; (try rw [q0]); rw [q3.1]; first | done | exact congrArg (fun x => AV.f (int x)) (wrapS ((((runS p n i).1 + (runS p n i).2) / 2 : Nat) + 1 : Int) (by omega) (by omega))) | (have q1 := hin i (by omega); have q2 := h1 i (by assumption); have q0 := midS (show (runS p n i).1 + (runS p n i).2 ≤ 2000000 by omega); rw [q0, Int.toNat_natCast] at hi; have q3 := runS_yes hi; (try rw [q0]); rw [q3.2]; first | done | exact congrArg (fun x => AV.f (int x)) (wrapS ((((runS p n i).1 + (runS p n i).2) / 2 : Nat) + 1 : Int) (by omega) (by omega))) | (have q2 := h1 i (by assumption); simp only [decide_eq_true_eq, decide_eq_false_iff_not] at *; omega) | (exfalso; simp only [decide_eq_true_eq, decide_eq_false_iff_not] at *; omega) | assumption | rfl
theorem get101 : P.funcs[101]? = some Tryz.f101 := by kernel_rfl
theorem ent101 : entersP P 101 = true := by kernel_rfl
theorem split1_ok (o n : Int) (t : T) (k : V) (i : Nat) (ho : 0 ≤ o ∧ o ≤ 5) (hk : Fine k) (hr : rightB k = true) (hp : ∀ p, p ∈ t.toList → RP p) (hs : t.size ≤ 131072) (hi : i < t.toList.length) : CallsF P G 101 [int (i : Int), .ptr [encM o n t] 0, .ptr [encPs t.toList] 0, .ptr (cellsP k) 0] (int (cmpO o (t.toList.getD i default).1 k)) := by
  refine sx_fn (hs := [.nat 14, .call (int o), .el (cellsP (Prod.fst (List.getD (T.toList t) i default)) ++ cellsP (Prod.snd (List.getD (T.toList t) i default))), .call (FV.tup [int (cmpO o (Prod.fst (List.getD (T.toList t) i default)) k), int 0])]) ((E (true)) ∧ (CallsF P G 45 [encM o n t] (int o)) ∧ ((E (8)) ∧ ((0 : Int) ≤ (i : Int)) ∧ ((cellsPs (T.toList t))[i]?) = (some (int (V.kind (Prod.fst (List.getD (T.toList t) i default))) :: int (V.num (Prod.fst (List.getD (T.toList t) i default))) :: str (V.text (Prod.fst (List.getD (T.toList t) i default))) :: encI (V.items (Prod.fst (List.getD (T.toList t) i default))) :: cellsP (Prod.snd (List.getD (T.toList t) i default))))) ∧ (CallsF P G 102 [int o, encV (Prod.fst (List.getD (T.toList t) i default)), encV k] (FV.tup [int (cmpO o (Prod.fst (List.getD (T.toList t) i default)) k), int 0])) ∧ E (int (cmpO o (Prod.fst (List.getD (T.toList t) i default)) k))) get101 ent101 (by kernel_rfl) ?_
  refine ⟨rfl, ⟨?_, ⟨⟨rfl, ⟨?_, ?_⟩⟩, ⟨?_, rfl⟩⟩⟩⟩
  all_goals first | exact order_ok _ _ _ | exact cellsPs_get _ _ (by omega) | (exact ocmp_ok o ho _ _ (allP hp hi).1 hk (allP hp hi).2.2.1 hr) | omega
theorem get104 : P.funcs[104]? = some Tryz.f104 := by kernel_rfl
theorem ent104 : entersP P 104 = true := by kernel_rfl
theorem split2_ok (g : Nat) (a b c : FV) (x z : Int) (h : CallsF P G g [int x, a, b, c] (int z)) : CallsF P G 104 [int x, .ptr [.fn g [] [a, b, c]] 0] (bool (decide (0 ≤ z))) := by
  refine sx_fn (hs := [.call (int z)]) ((CallsF P G g [int x, a, b, c] (int z)) ∧ (bool (decide (z ≥ 0))) = (bool (decide (0 ≤ z)))) get104 ent104 (by kernel_rfl) ?_
  refine ⟨?_, ?_⟩
  all_goals first | exact h | (with_reducible rfl)
theorem get105 : P.funcs[105]? = some Tryz.f105 := by kernel_rfl
theorem ent105 : entersP P 105 = true := by kernel_rfl
theorem split3_ok (g : Nat) (a b c : FV) (x z : Int) (h : CallsF P G g [int x, a, b, c] (int z)) : CallsF P G 105 [int x, .ptr [.fn g [] [a, b, c]] 0] (bool (decide (0 < z))) := by
  refine sx_fn (hs := [.call (int z)]) ((CallsF P G g [int x, a, b, c] (int z)) ∧ (bool (decide (z > 0))) = (bool (decide (0 < z)))) get105 ent105 (by kernel_rfl) ?_
  refine ⟨?_, ?_⟩
  all_goals first | exact h | (with_reducible rfl)
theorem search_ok (g : Nat) (c : FV) (p : Nat → Bool) (n r : Nat) (hn : n ≤ 1000000) (hp : ∀ h, h < n → CallsF P G g [int (h : Int), c] (bool (p h))) (hm : ∀ i j, i ≤ j → j < n → p i = true → p j = true) (hr : Sp.Place p n r) : CallsF P G 103 [int (n : Int), .fn g [] [c]] (int (r : Int)) := by
  obtain ⟨N, h1, h2⟩ := runS_end p n hm
  have hin := runS_inv p n hm
  have h := search_run g c p n N hn hp (fun i hi => ⟨(hin i fun j hj => h1 j (by omega)).1, (hin i fun j hj => h1 j (by omega)).2.1⟩) h1 h2
  obtain ⟨q1, q2, q3, q4, _⟩ := hin N h1
  have e : (runS p n N).1 = r := Sp.Place.uniq ⟨by omega, q3, fun j hj hj2 => q4 j (by omega) hj2⟩ hr
  rw [e] at h
  exact h
theorem place_mono {p : Nat → Bool} {n r : Nat} (h : Sp.Place p n r) : ∀ i j, i ≤ j → j < n → p i = true → p j = true := by
  intro i j hij hj hi
  rcases Nat.lt_or_ge i r with h1 | h1
  · have := h.2.1 i h1; simp_all
  · exact h.2.2 j (by omega) hj
theorem search_ahead (o n : Int) (t : T) (k : V) (ho : 0 ≤ o ∧ o ≤ 5) (hk : Fine k) (hr : rightB k = true) (hp : ∀ p, p ∈ t.toList → RP p) (hs : t.size ≤ 131072) (hR : Rising (cmpO o) t.toList) : CallsF P G 103 [int ((t.size : Nat) : Int), .fn 104 [] [.ptr [.fn 101 [] [.ptr [encM o n t] 0, .ptr [encPs t.toList] 0, .ptr (cellsP k) 0]] 0]] (int (aheadN (cmpO o) k t.toList : Nat)) := by
  have h := ahead_place (cmpO_line o) k hR
  rw [T.toList_length] at h
  exact search_ok _ _ _ _ _ (by omega) (fun i hi => split2_ok _ _ _ _ _ _ (split1_ok o n t k i ho hk hr hp hs (by rw [T.toList_length]; exact hi))) (place_mono h) h
theorem search_upto (o n : Int) (t : T) (k : V) (ho : 0 ≤ o ∧ o ≤ 5) (hk : Fine k) (hr : rightB k = true) (hp : ∀ p, p ∈ t.toList → RP p) (hs : t.size ≤ 131072) (hR : Rising (cmpO o) t.toList) : CallsF P G 103 [int ((t.size : Nat) : Int), .fn 105 [] [.ptr [.fn 101 [] [.ptr [encM o n t] 0, .ptr [encPs t.toList] 0, .ptr (cellsP k) 0]] 0]] (int (uptoN (cmpO o) k t.toList : Nat)) := by
  have h := upto_place (cmpO_line o) k hR
  rw [T.toList_length] at h
  exact search_ok _ _ _ _ _ (by omega) (fun i hi => split3_ok _ _ _ _ _ _ (split1_ok o n t k i ho hk hr hp hs (by rw [T.toList_length]; exact hi))) (place_mono h) h
end Go.Sx

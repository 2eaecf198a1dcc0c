/-
  Proved: what some functions of the program answer, or a law of the evaluator that shows it, one theorem each; its conditions are the hypotheses that stand ahead of it.
-/
import Derived.Test.YtgekmpfoihidpaaGreatDoorH9
import Derived.Test.YtgekmpfoihidpaaGreatDoorPSt
import Derived.Test.YtgekmpfoihidpaaGreatDoorD1
import Derived.KernelRfl
set_option maxRecDepth 100000
set_option maxHeartbeats 4000000
set_option linter.unusedSimpArgs false
set_option linter.unusedVariables false
namespace Go.Sx
open Go.Proofs Sp
/-- A pair, and that in a place of a list, if it is there. -/
def encQ (q : V × V) : FV := .agg (cellsP q.1 ++ cellsP q.2)
def inQ (L : List (V × V)) (i : Int) : Bool := decide (0 ≤ i) && decide (i < L.length)
def atQ (L : List (V × V)) (i : Int) : V × V := if inQ L i then L.getD i.toNat default else (nilW, nilW)
theorem zq : ∀ w ok v, FRel w ok (.agg [int 0, int 0, str [], .nils, int 0, int 0, str [], .nils]) v → FRel w ok (encQ (nilW, nilW)) v := by
  intro w ok v h
  simp only [encQ, cellsP, nilW, V.kind, V.num, V.text, V.items, cellsVs, List.cons_append, List.nil_append, FRel, FRelL] at h ⊢
  obtain ⟨cs, rfl, h⟩ := h
  refine ⟨cs, rfl, ?_⟩
  obtain ⟨v1, r1, e1, h1, v2, r2, e2, h2, v3, r3, e3, h3, v4, r4, e4, h4, v5, r5, e5, h5, v6, r6, e6, h6, v7, r7, e7, h7, v8, r8, e8, h8, h9⟩ := h
  exact ⟨v1, r1, e1, h1, v2, r2, e2, h2, v3, r3, e3, h3, v4, r4, e4, .inl ⟨trivial, .inl h4⟩, v5, r5, e5, h5, v6, r6, e6, h6, v7, r7, e7, h7, v8, r8, e8, .inl ⟨trivial, .inl h8⟩, h9⟩
theorem zq_tup (us : List FV) : ∀ w ok v, FRel w ok (.tup (.agg [int 0, int 0, str [], .nils, int 0, int 0, str [], .nils] :: us)) v → FRel w ok (.tup (encQ (nilW, nilW) :: us)) v := by
  intro w ok v h
  rw [FRel] at h ⊢
  obtain ⟨cs, e, h⟩ := h
  refine ⟨cs, e, ?_⟩
  rw [FRelL] at h ⊢
  obtain ⟨v1, r1, e1, h1, h2⟩ := h
  exact ⟨v1, r1, e1, zq _ _ _ h1, h2⟩
theorem inQ_out {L : List (V × V)} {i : Int} (h : inQ L i = false) : atQ L i = (nilW, nilW) := by simp [atQ, h]
theorem inQ_nat {L : List (V × V)} {i : Nat} (h : i < L.length) : inQ L i = true ∧ atQ L i = L.getD i default := by
  have : inQ L i = true := by simp [inQ]; omega
  exact ⟨this, by simp [atQ, this]⟩
theorem get137 : P.funcs[137]? = some Tryz.f137 := by kernel_rfl
theorem ent137 : entersP P 137 = true := by kernel_rfl
theorem pair_in (L : List (V × V)) (i : Nat) (hl : L.length ≤ 1000000) (hi : i < L.length) : CallsF P G 137 [encPs L, int (i : Int)] (.tup [encQ (L.getD i default), bool true]) := by
  refine sx_fn (hs := [.dec false, .br [] [.el (cellsP (Prod.fst (List.getD L i default)) ++ cellsP (Prod.snd (List.getD L i default)))]]) (let z2 := Prod.fst (List.getD L i default); let z1 := int (V.kind z2) :: int (V.num z2) :: str (V.text z2) :: encI (V.items z2) :: cellsP (Prod.snd (List.getD L i default)); E false ∧ Br (decide ((i : Int) ≥ (↑(List.length (cellsPs L)) : Int))) (FV.tup [FV.agg [int 0, int 0, str [], FV.nils, int 0, int 0, str [], FV.nils], bool false] = FV.tup [FV.agg z1, bool true]) ((E 8 ∧ (0 : Int) ≤ (i : Int) ∧ (cellsPs L)[i]? = some z1) ∧ E (FV.tup [FV.agg z1, bool true]))) get137 ent137 (by kernel_rfl) ?_
  refine ⟨rfl, fun hi => ?_, fun hi => ⟨⟨rfl, ?_, ?_⟩, rfl⟩⟩
  all_goals first | exact cellsPs_get L _ (by omega) | (exfalso; simp only [cellsPs_length, decide_eq_true_eq, decide_eq_false_iff_not] at *; omega) | (simp only [cellsPs_length, decide_eq_true_eq, decide_eq_false_iff_not] at *; omega)
theorem pair_out (L : List (V × V)) (i : Int) (h : i < 0 ∨ L.length ≤ i) : CallsF P G 137 [encPs L, int i] (.tup [.agg [int 0, int 0, str [], .nils, int 0, int 0, str [], .nils], bool false]) := by
  refine sx_fn (hs := let z1 := List.getD L (Int.toNat i) default; [.br [.dec true] [.br [] [.el (cellsP (Prod.fst z1) ++ cellsP (Prod.snd z1))]]]) (let z3 := FV.tup [FV.agg [int 0, int 0, str [], FV.nils, int 0, int 0, str [], FV.nils], bool false]; let z4 := List.getD L (Int.toNat i) default; let z2 := Prod.fst z4; let z1 := int (V.kind z2) :: int (V.num z2) :: str (V.text z2) :: encI (V.items z2) :: cellsP (Prod.snd z4); Br (decide (i < 0)) (E true ∧ E z3) (Br (decide (i ≥ (↑(List.length (cellsPs L)) : Int))) (E z3) ((E 8 ∧ (0 : Int) ≤ i ∧ (cellsPs L)[Int.toNat i]? = some z1) ∧ FV.tup [FV.agg z1, bool true] = FV.tup [FV.agg [int 0, int 0, str [], FV.nils, int 0, int 0, str [], FV.nils], bool false]))) get137 ent137 (by kernel_rfl) ?_
  refine ⟨fun hi => ⟨rfl, rfl⟩, fun hi => ⟨fun hi => rfl, fun hi => ⟨⟨rfl, ?_, ?_⟩, ?_⟩⟩⟩
  all_goals (exfalso; simp only [cellsPs_length, decide_eq_true_eq, decide_eq_false_iff_not] at *; omega)
theorem qpair_ok (L : List (V × V)) (hl : L.length ≤ 1000000) (i : Int) : CallsF P G 137 [encPs L, int i] (.tup [encQ (atQ L i), bool (inQ L i)]) := by
  by_cases h : 0 ≤ i ∧ i < L.length
  · obtain ⟨n, rfl⟩ := Int.eq_ofNat_of_zero_le h.1
    obtain ⟨h1, h2⟩ := inQ_nat (L := L) (i := n) (by omega)
    rw [h1, h2]
    exact pair_in L n hl (by omega)
  · have h1 : inQ L i = false := by simp [inQ]; omega
    rw [h1, inQ_out h1]
    exact (pair_out L i (by omega)).weak (zq_tup _)
theorem get119 : P.funcs[119]? = some Tryz.f119 := by kernel_rfl
theorem ent119 : entersP P 119 = true := by kernel_rfl
theorem first_ok (o n : Int) (t : T) (hf : ∀ p, p ∈ t.toList → Fine p.1 ∧ Fine p.2) (hs : t.size ≤ 131072) : CallsF P G 119 [encM o n t] (.tup [encQ (atQ t.toList 0), bool (inQ t.toList 0)]) := by
  refine sx_fn (hs := [.call (encPs (T.toList t)), .call (FV.tup [encQ (atQ (T.toList t) (Int.ofNat 0)), bool (inQ (T.toList t) (Int.ofNat 0))])]) (let z3 := Prod.fst (atQ (T.toList t) 0); let z4 := inQ (T.toList t) (Int.ofNat 0); let z5 := atQ (T.toList t) (Int.ofNat 0); let z2 := Prod.fst z5; let z1 := int (V.kind z2) :: int (V.num z2) :: str (V.text z2) :: encI (V.items z2) :: cellsP (Prod.snd z5); CallsF P G 72 [encM o n t] (FV.sl 8 (cellsPs (T.toList t))) ∧ CallsF P G 137 [FV.sl 8 (cellsPs (T.toList t)), int 0] (FV.tup [FV.agg z1, bool z4]) ∧ FV.tup [FV.agg z1, bool z4] = FV.tup [FV.agg (int (V.kind z3) :: int (V.num z3) :: str (V.text z3) :: encI (V.items z3) :: cellsP (Prod.snd (atQ (T.toList t) 0))), bool (inQ (T.toList t) 0)]) get119 ent119 (by kernel_rfl) ?_
  refine ⟨?_, ?_, ?_⟩
  all_goals first | exact pairs_ok _ _ _ hf hs | exact qpair_ok _ (by rw [T.toList_length]; omega) _ | (simp [V.kind, V.num, V.text, V.items, *]; done)
theorem get120 : P.funcs[120]? = some Tryz.f120 := by kernel_rfl
theorem ent120 : entersP P 120 = true := by kernel_rfl
theorem last_run (o : Int) (t : T) (hf : ∀ p, p ∈ t.toList → Fine p.1 ∧ Fine p.2) (hs : t.size ≤ 131072) : CallsF P G 120 [encM o (t.size : Int) t] (.tup [encQ (atQ t.toList (IntKind.i64.wrap ((t.size : Int) - 1))), bool (inQ t.toList (IntKind.i64.wrap ((t.size : Int) - 1)))]) := by
  refine sx_fn (hs := let z1 := IntKind.wrap IntKind.i64 ((↑(T.size t) : Int) - 1); [.call (encPs (T.toList t)), .call (int (↑(T.size t) : Int)), .call (FV.tup [encQ (atQ (T.toList t) z1), bool (inQ (T.toList t) z1)])]) (let z3 := IntKind.wrap IntKind.i64 ((↑(T.size t) : Int) - 1); let z1 := atQ (T.toList t) z3; let z2 := FV.tup [FV.agg (int (V.kind (Prod.fst z1)) :: int (V.num (Prod.fst z1)) :: str (V.text (Prod.fst z1)) :: encI (V.items (Prod.fst z1)) :: cellsP (Prod.snd z1)), bool (inQ (T.toList t) z3)]; CallsF P G 72 [encM o (↑(T.size t) : Int) t] (FV.sl 8 (cellsPs (T.toList t))) ∧ CallsF P G 76 [encM o (↑(T.size t) : Int) t] (int (↑(T.size t) : Int)) ∧ CallsF P G 137 [FV.sl 8 (cellsPs (T.toList t)), int z3] z2 ∧ E z2) get120 ent120 (by kernel_rfl) ?_
  refine ⟨?_, ?_, ?_, rfl⟩
  all_goals first | exact pairs_ok _ _ _ hf hs | exact qpair_ok _ (by rw [T.toList_length]; omega) _ | exact len_ok _ _ _
theorem last_ok (o : Int) (t : T) (hf : ∀ p, p ∈ t.toList → Fine p.1 ∧ Fine p.2) (hs : t.size ≤ 131072) : CallsF P G 120 [encM o (t.size : Int) t] (.tup [encQ (atQ t.toList ((t.size : Int) - 1)), bool (inQ t.toList ((t.size : Int) - 1))]) := by
  have h := last_run o t hf hs
  rw [wrapS ((t.size : Int) - 1) (by omega) (by omega)] at h
  exact h
end Go.Sx
set_option maxRecDepth 100000
set_option maxHeartbeats 4000000
set_option linter.unusedSimpArgs false
set_option linter.unusedVariables false
namespace Go.Sx
open Go.Proofs Sp
def Ssearch (g : Nat) (c : FV) (p : Nat → Bool) (n : Nat) (i : Nat) : St := { sl := slots 26 [(1, .f (.fn g [] [c])), (5, .f (int ((runS p n i).1 : Int))), (6, .f (int ((runS p n i).2 : Int)))], ob := [], nx := 0 }
theorem midS {a b : Nat} (h : a + b ≤ 2000000) : IntKind.i64.wrap (Int.fdiv (IntKind.u64.wrap (IntKind.i64.wrap ((a : Int) + (b : Int)))) (2 ^ min (Int.toNat 1) IntKind.u64.bits)) = (((a + b) / 2 : Nat) : Int) := by
  rw [show ((2 : Int) ^ min (Int.toNat 1) IntKind.u64.bits) = 2 from by decide]
  rw [wrapS ((a : Int) + b) (by omega) (by omega), show IntKind.u64.wrap ((a : Int) + b) = (a : Int) + b from by simp only [IntKind.wrap, IntKind.signed, IntKind.bits]; simp; omega]
  rw [show Int.fdiv ((a : Int) + b) 2 = (((a + b) / 2 : Nat) : Int) from by rw [Int.fdiv_eq_ediv_of_nonneg _ (by omega)]; omega]
  exact wrapS _ (by omega) (by omega)
theorem runS_no {p : Nat → Bool} {n i : Nat} (h : (!p (((runS p n i).1 + (runS p n i).2) / 2)) = true) : (runS p n (i + 1)).1 = ((runS p n i).1 + (runS p n i).2) / 2 + 1 ∧ (runS p n (i + 1)).2 = (runS p n i).2 := by
  simp only [runS, stepS]; rw [if_neg (by simpa using h)]; exact ⟨rfl, rfl⟩
theorem runS_yes {p : Nat → Bool} {n i : Nat} (h : (!p (((runS p n i).1 + (runS p n i).2) / 2)) = false) : (runS p n (i + 1)).1 = (runS p n i).1 ∧ (runS p n (i + 1)).2 = ((runS p n i).1 + (runS p n i).2) / 2 := by
  simp only [runS, stepS]; rw [if_pos (by simpa using h)]; exact ⟨rfl, rfl⟩
theorem get175 : P.funcs[175]? = some Tryz.f175 := by kernel_rfl
theorem ent175 : entersP P 175 = true := by kernel_rfl
theorem search_run (g : Nat) (c : FV) (p : Nat → Bool) (n N : Nat) (hn : n ≤ 1000000) (hp : ∀ h, h < n → CallsF P G g [int (h : Int), c] (bool (p h))) (hin : ∀ i, i ≤ N → (runS p n i).1 ≤ (runS p n i).2 ∧ (runS p n i).2 ≤ n) (h1 : ∀ j, j < N → (runS p n j).1 < (runS p n j).2) (h2 : ¬ (runS p n N).1 < (runS p n N).2) : CallsF P G 175 [int (n : Int), .fn g [] [c]] (int ((runS p n N).1 : Int)) := by
  refine sx_fn (hs := let z1 := 2 ^ min (Int.toNat 1) (IntKind.bits IntKind.u64); [.loop [] [] (Ssearch g c p n) (N) (fun i => [.br [.call (bool (p (Int.toNat (IntKind.wrap IntKind.i64 (Int.fdiv (IntKind.wrap IntKind.u64 (IntKind.wrap IntKind.i64 ((↑(Prod.fst (runS p n i)) : Int) + (↑(Prod.snd (runS p n i)) : Int)))) z1))))), .br [] []] []]), .br [.call (bool (p (Int.toNat (IntKind.wrap IntKind.i64 (Int.fdiv (IntKind.wrap IntKind.u64 (IntKind.wrap IntKind.i64 ((↑(Prod.fst (runS p n N)) : Int) + (↑(Prod.snd (runS p n N)) : Int)))) z1))))), .br [] []] []]) (let z2 := 2 ^ min (Int.toNat 1) (IntKind.bits IntKind.u64); let z3 := (↑(Prod.fst (runS p n N)) : Int); let z4 := AV.f (FV.fn g [] [c]); let z5 := (↑(Prod.snd (runS p n N)) : Int); let z1 := IntKind.wrap IntKind.i64 (Int.fdiv (IntKind.wrap IntKind.u64 (IntKind.wrap IntKind.i64 (z3 + z5))) z2); (E true ∧ (E z4 ∧ AV.f (int 0) = AV.f (int (↑(Prod.fst (runS p n 0)) : Int)) ∧ AV.f (int (n : Int)) = AV.f (int (↑(Prod.snd (runS p n 0)) : Int)) ∧ True) ∧ True ∧ E true ∧ (false = true → false = true)) ∧ (∀ (i : Nat), (let z8 := (↑(Prod.fst (runS p n i)) : Int); let z9 := (↑(Prod.snd (runS p n i)) : Int); let z6 := Int.fdiv (IntKind.wrap IntKind.u64 (IntKind.wrap IntKind.i64 (z8 + z9))) z2; let z7 := IntKind.wrap IntKind.i64 z6; let z10 := int (↑(Prod.fst (runS p n (i + 1))) : Int); let z11 := int (↑(Prod.snd (runS p n (i + 1))) : Int); i < N → Br (decide (z8 < z9)) (CallsF P G g [int z7, c] (bool (p (Int.toNat z7))) ∧ Br (!p (Int.toNat z7)) (E true ∧ (E z4 ∧ AV.f (int (IntKind.wrap IntKind.i64 (IntKind.wrap IntKind.i64 z6 + 1))) = AV.f z10 ∧ AV.f (int z9) = AV.f z11 ∧ True) ∧ True ∧ E true ∧ (St.nd (Ssearch g c p n (i + 1)) = true → false = true)) (E true ∧ (E z4 ∧ AV.f (int z8) = AV.f z10 ∧ AV.f (int z7) = AV.f z11 ∧ True) ∧ True ∧ E true ∧ (St.nd (Ssearch g c p n (i + 1)) = true → false = true))) False)) ∧ Br (decide (z3 < z5)) (CallsF P G g [int z1, c] (bool (p (Int.toNat z1))) ∧ Br (!p (Int.toNat z1)) False False) (E (int z3))) get175 ent175 (by kernel_rfl) ?_
  refine ⟨⟨rfl, ⟨rfl, ?_, ?_, trivial⟩, trivial, rfl, fun hi => ?_⟩, fun i => fun hlt => ⟨fun hi => ⟨?_, fun hi => ⟨rfl, ⟨rfl, ?_, ?_, trivial⟩, trivial, rfl, fun hi => ?_⟩, fun hi => ⟨rfl, ⟨rfl, ?_, ?_, trivial⟩, trivial, rfl, fun hi => ?_⟩⟩, fun hi => ?_⟩, fun hi => ⟨?_, fun hi => ?_, fun hi => ?_⟩, fun hi => rfl⟩
  all_goals first | (have q1 := hin i (by omega); have q2 := h1 i (by assumption); have q0 := midS (show (runS p n i).1 + (runS p n i).2 ≤ 2000000 by omega); rw [q0]; exact hp _ (by omega)) | (have q1 := hin i (by omega); have q2 := h1 i (by assumption); have q0 := midS (show (runS p n i).1 + (runS p n i).2 ≤ 2000000 by omega); rw [q0, Int.toNat_natCast] at hi; have q3 := runS_no hi; (try rw [q0]); rw [q3.1]; first | done | exact congrArg (fun x => AV.f (int x)) (wrapS ((((runS p n i).1 + (runS p n i).2) / 2 : Nat) + 1 : Int) (by omega) (by omega))) | (have q1 := hin i (by omega); have q2 := h1 i (by assumption); have q0 := midS (show (runS p n i).1 + (runS p n i).2 ≤ 2000000 by omega); rw [q0, Int.toNat_natCast] at hi; have q3 := runS_no hi; (try rw [q0]); rw [q3.2]; first | done | exact congrArg (fun x => AV.f (int x)) (wrapS ((((runS p n i).1 + (runS p n i).2) / 2 : Nat) + 1 : Int) (by omega) (by omega))) | (have q1 := hin i (by omega); have q2 := h1 i (by assumption); have q0 := midS (show (runS p n i).1 + (runS p n i).2 ≤ 2000000 by omega); rw [q0, Int.toNat_natCast] at hi; have q3 := runS_yes hi; (try rw [q0]); rw [q3.1]; first | done | exact congrArg (fun x => AV.f (int x)) (wrapS ((((runS p n i).1 + (runS p n i).2) / 2 : Nat) + 1 : Int) (by omega) (by omega))) | (have q1 := hin i (by omega); have q2 := h1 i (by assumption); have q0 := midS (show (runS p n i).1 + (runS p n i).2 ≤ 2000000 by omega); rw [q0, Int.toNat_natCast] at hi; have q3 := runS_yes hi; (try rw [q0]); rw [q3.2]; first | done | exact congrArg (fun x => AV.f (int x)) (wrapS ((((runS p n i).1 + (runS p n i).2) / 2 : Nat) + 1 : Int) (by omega) (by omega))) | (have q2 := h1 i (by assumption); simp only [decide_eq_true_eq, decide_eq_false_iff_not] at *; omega) | (exfalso; simp only [decide_eq_true_eq, decide_eq_false_iff_not] at *; omega) | assumption | rfl
theorem get174 : P.funcs[174]? = some Tryz.f174 := by kernel_rfl
theorem ent174 : entersP P 174 = true := by kernel_rfl
theorem split1_ok (o n : Int) (t : T) (k : V) (i : Nat) (ho : 0 ≤ o ∧ o ≤ 5) (hk : Fine k) (hr : rightB k = true) (hp : ∀ p, p ∈ t.toList → RP p) (hs : t.size ≤ 131072) (hi : i < t.toList.length) : CallsF P G 174 [int (i : Int), .ptr [encM o n t] 0, .ptr [encPs t.toList] 0, .ptr (cellsP k) 0] (int (cmpO o (t.toList.getD i default).1 k)) := by
  refine sx_fn (hs := let z1 := List.getD (T.toList t) i default; [.nat 14, .call (int o), .el (cellsP (Prod.fst z1) ++ cellsP (Prod.snd z1)), .call (FV.tup [int (cmpO o (Prod.fst z1) k), int 0])]) (let z2 := List.getD (T.toList t) i default; let z1 := Prod.fst z2; E true ∧ CallsF P G 75 [encM o n t] (int o) ∧ (E 8 ∧ (0 : Int) ≤ (i : Int) ∧ (cellsPs (T.toList t))[i]? = some (int (V.kind z1) :: int (V.num z1) :: str (V.text z1) :: encI (V.items z1) :: cellsP (Prod.snd z2))) ∧ CallsF P G 147 [int o, encV z1, encV k] (FV.tup [int (cmpO o z1 k), int 0]) ∧ E (int (cmpO o z1 k))) get174 ent174 (by kernel_rfl) ?_
  refine ⟨rfl, ?_, ⟨rfl, ?_, ?_⟩, ?_, rfl⟩
  all_goals first | exact order_ok _ _ _ | exact cellsPs_get _ _ (by omega) | (exact ocmp_ok o ho _ _ (allP hp hi).1 hk (allP hp hi).2.2.1 hr) | omega
theorem get176 : P.funcs[176]? = some Tryz.f176 := by kernel_rfl
theorem ent176 : entersP P 176 = true := by kernel_rfl
theorem split2_ok (g : Nat) (a b c : FV) (x z : Int) (h : CallsF P G g [int x, a, b, c] (int z)) : CallsF P G 176 [int x, .ptr [.fn g [] [a, b, c]] 0] (bool (decide (0 ≤ z))) := by
  refine sx_fn (hs := [.call (int z)]) ((CallsF P G g [int x, a, b, c] (int z)) ∧ (bool (decide (z ≥ 0))) = (bool (decide (0 ≤ z)))) get176 ent176 (by kernel_rfl) ?_
  refine ⟨?_, ?_⟩
  all_goals first | exact h | (with_reducible rfl)
theorem get177 : P.funcs[177]? = some Tryz.f177 := by kernel_rfl
theorem ent177 : entersP P 177 = true := by kernel_rfl
theorem split3_ok (g : Nat) (a b c : FV) (x z : Int) (h : CallsF P G g [int x, a, b, c] (int z)) : CallsF P G 177 [int x, .ptr [.fn g [] [a, b, c]] 0] (bool (decide (0 < z))) := by
  refine sx_fn (hs := [.call (int z)]) ((CallsF P G g [int x, a, b, c] (int z)) ∧ (bool (decide (z > 0))) = (bool (decide (0 < z)))) get177 ent177 (by kernel_rfl) ?_
  refine ⟨?_, ?_⟩
  all_goals first | exact h | (with_reducible rfl)
theorem search_ok (g : Nat) (c : FV) (p : Nat → Bool) (n r : Nat) (hn : n ≤ 1000000) (hp : ∀ h, h < n → CallsF P G g [int (h : Int), c] (bool (p h))) (hm : ∀ i j, i ≤ j → j < n → p i = true → p j = true) (hr : Sp.Place p n r) : CallsF P G 175 [int (n : Int), .fn g [] [c]] (int (r : Int)) := by
  obtain ⟨N, h1, h2⟩ := runS_end p n hm
  have hin := runS_inv p n hm
  have h := search_run g c p n N hn hp (fun i hi => ⟨(hin i fun j hj => h1 j (by omega)).1, (hin i fun j hj => h1 j (by omega)).2.1⟩) h1 h2
  obtain ⟨q1, q2, q3, q4, _⟩ := hin N h1
  have e : (runS p n N).1 = r := Sp.Place.uniq ⟨by omega, q3, fun j hj hj2 => q4 j (by omega) hj2⟩ hr
  rw [e] at h
  exact h
theorem place_mono {p : Nat → Bool} {n r : Nat} (h : Sp.Place p n r) : ∀ i j, i ≤ j → j < n → p i = true → p j = true := by
  intro i j hij hj hi
  rcases Nat.lt_or_ge i r with h1 | h1
  · have := h.2.1 i h1; simp_all
  · exact h.2.2 j (by omega) hj
theorem search_ahead (o n : Int) (t : T) (k : V) (ho : 0 ≤ o ∧ o ≤ 5) (hk : Fine k) (hr : rightB k = true) (hp : ∀ p, p ∈ t.toList → RP p) (hs : t.size ≤ 131072) (hR : Rising (cmpO o) t.toList) : CallsF P G 175 [int ((t.size : Nat) : Int), .fn 176 [] [.ptr [.fn 174 [] [.ptr [encM o n t] 0, .ptr [encPs t.toList] 0, .ptr (cellsP k) 0]] 0]] (int (aheadN (cmpO o) k t.toList : Nat)) := by
  have h := ahead_place (cmpO_line o) k hR
  rw [T.toList_length] at h
  exact search_ok _ _ _ _ _ (by omega) (fun i hi => split2_ok _ _ _ _ _ _ (split1_ok o n t k i ho hk hr hp hs (by rw [T.toList_length]; exact hi))) (place_mono h) h
theorem search_upto (o n : Int) (t : T) (k : V) (ho : 0 ≤ o ∧ o ≤ 5) (hk : Fine k) (hr : rightB k = true) (hp : ∀ p, p ∈ t.toList → RP p) (hs : t.size ≤ 131072) (hR : Rising (cmpO o) t.toList) : CallsF P G 175 [int ((t.size : Nat) : Int), .fn 177 [] [.ptr [.fn 174 [] [.ptr [encM o n t] 0, .ptr [encPs t.toList] 0, .ptr (cellsP k) 0]] 0]] (int (uptoN (cmpO o) k t.toList : Nat)) := by
  have h := upto_place (cmpO_line o) k hR
  rw [T.toList_length] at h
  exact search_ok _ _ _ _ _ (by omega) (fun i hi => split3_ok _ _ _ _ _ _ (split1_ok o n t k i ho hk hr hp hs (by rw [T.toList_length]; exact hi))) (place_mono h) h
end Go.Sx

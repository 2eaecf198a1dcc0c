/-
  Proved: what some functions of the program answer, or a law of the evaluator that shows it, one theorem each; its conditions are the hypotheses that stand ahead of it.
-/
import Derived.Test.YtdgodofdnaligaaDoorE3
import Derived.Test.YtdgodofdnaligaaDoorCK
import Derived.KernelRfl
import Derived.Test.YtdgodofdnaligaaDoorU8N
import Derived.Test.YtdgodofdnaligaaDoorSxM
import Derived.Test.YtdgodofdnaligaaDoorD1
set_option maxRecDepth 100000
set_option maxHeartbeats 4000000
set_option linter.unusedSimpArgs false
set_option linter.unusedVariables false
namespace Go.Sx
open Go.Proofs Sp
end Go.Sx
set_option maxRecDepth 100000
set_option maxHeartbeats 4000000
set_option linter.unusedSimpArgs false
set_option linter.unusedVariables false
namespace Go.Sx
open Go.Proofs Sp
def encQ (q : V × V) : FV := .agg (cellsP q.1 ++ cellsP q.2)
theorem midS {a b : Nat} (h : a + b ≤ 2000000) : IntKind.i64.wrap (Int.fdiv (IntKind.u64.wrap (IntKind.i64.wrap ((a : Int) + (b : Int)))) (2 ^ min (Int.toNat 1) IntKind.u64.bits)) = (((a + b) / 2 : Nat) : Int) := by
  rw [show ((2 : Int) ^ min (Int.toNat 1) IntKind.u64.bits) = 2 from by decide]
  rw [wrapS ((a : Int) + b) (by omega) (by omega), show IntKind.u64.wrap ((a : Int) + b) = (a : Int) + b from by simp only [IntKind.wrap, IntKind.signed, IntKind.bits]; simp; omega]
  rw [show Int.fdiv ((a : Int) + b) 2 = (((a + b) / 2 : Nat) : Int) from by rw [Int.fdiv_eq_ediv_of_nonneg _ (by omega)]; omega]
  exact wrapS _ (by omega) (by omega)
theorem get28 : P.funcs[28]? = some Tryd.f28 := by kernel_rfl
theorem ent28 : entersP P 28 = true := by kernel_rfl
theorem pairEq_ok (p : V × V) (hp : Fine p.1 ∧ Fine p.2) : CallsF P G 28 [encQ p, encQ p] (bool true) := by
  refine sx_fn (hs := [.call (bool (eqB (Prod.fst p) (Prod.fst p))), .br [.call (bool (eqB (Prod.snd p) (Prod.snd p)))] []]) (let z1 := eqB (Prod.fst p) (Prod.fst p); let z2 := eqB (Prod.snd p) (Prod.snd p); CallsF P G 43 [encV (Prod.fst p), encV (Prod.fst p)] (bool z1) ∧ Br z1 (CallsF P G 43 [encV (Prod.snd p), encV (Prod.snd p)] (bool z2) ∧ bool z2 = bool true) (bool false = bool true)) get28 ent28 (by kernel_rfl) ?_
  refine ⟨?_, fun hi => ⟨?_, ?_⟩, fun hi => ?_⟩
  all_goals first | exact eq_ok _ hp.1 _ | exact eq_ok _ hp.2 _ | (exfalso; simp_all [eqB]; done) | (simp_all [eqB]; done)
def Sps (L : List (V × V)) (i : Nat) : St := { sl := slots 27 [(0, .f (encPs L)), (1, .f (encPs L)), (12, .f (int (cellsPs L).length)), (13, .f (int (i : Int)))], ob := [], nx := 0 }
theorem getD_memP (L : List (V × V)) (i : Nat) (h : i < L.length) : L.getD i default ∈ L := by
  rw [List.getD_eq_getElem?_getD, List.getElem?_eq_getElem h]; exact List.getElem_mem h
theorem get13 : P.funcs[13]? = some Tryd.f13 := by kernel_rfl
theorem ent13 : entersP P 13 = true := by kernel_rfl
theorem pairs_same (L : List (V × V)) (hl : L.length ≤ 1000000) (hE : ∀ p, p ∈ L → CallsF P G 28 [encQ p, encQ p] (bool true)) : CallsF P G 13 [encPs L, encPs L] (bool true) := by
  refine sx_fn (hs := [.dec false, .loop [] [] (Sps L) L.length (fun i => [.dec true, .nat 10, .el (cellsP (L.getD i default).1 ++ cellsP (L.getD i default).2), .el (cellsP (L.getD i default).1 ++ cellsP (L.getD i default).2), .call (bool true), .dec false]), .dec false]) (let z1 := (↑(List.length (cellsPs L)) : Int); let z2 := AV.f (FV.sl 8 (cellsPs L)); (z1 != z1) = false ∧ (E true ∧ (E z2 ∧ E z2 ∧ E (AV.f (int z1)) ∧ AV.f (int 0) = AV.f (int (Int.ofNat 0)) ∧ True) ∧ True ∧ E true ∧ (false = true → false = true)) ∧ (∀ (i : Nat), (let z4 := Prod.fst (List.getD L i default); let z3 := int (V.kind z4) :: int (V.num z4) :: str (V.text z4) :: encI (V.items z4) :: cellsP (Prod.snd (List.getD L i default)); let z5 := E 8 ∧ (0 : Int) ≤ (i : Int) ∧ (cellsPs L)[i]? = some z3; i < List.length L → decide ((i : Int) < z1) = true ∧ E true ∧ z5 ∧ z5 ∧ CallsF P G 28 [FV.agg z3, FV.agg z3] (bool true) ∧ E false ∧ E true ∧ (E z2 ∧ E z2 ∧ E (AV.f (int z1)) ∧ AV.f (int (IntKind.wrap IntKind.i64 ((i : Int) + 1))) = AV.f (int (↑(i + 1) : Int)) ∧ True) ∧ True ∧ E true ∧ (false = true → false = true))) ∧ decide ((↑(List.length L) : Int) < z1) = false ∧ E (bool true)) get13 ent13 (by kernel_rfl) ?_
  refine ⟨?_, ⟨rfl, ⟨rfl, rfl, rfl, ?_, trivial⟩, trivial, rfl, fun hi => ?_⟩, fun i => fun hi => ⟨?_, rfl, ⟨rfl, ?_, ?_⟩, ⟨rfl, ?_, ?_⟩, ?_, rfl, rfl, ⟨rfl, rfl, rfl, ?_, trivial⟩, trivial, rfl, fun hi => ?_⟩, ?_, rfl⟩
  all_goals first | exact hE _ (getD_memP L _ (by omega)) | exact cellsPs_get L _ (by omega) | (simp only [cellsPs_length, decide_eq_true_eq, decide_eq_false_iff_not]; omega) | (simp; done) | (exact congrArg (fun x => AV.f (int x)) (wrapS ((i : Int) + 1) (by omega) (by omega))) | assumption
end Go.Sx

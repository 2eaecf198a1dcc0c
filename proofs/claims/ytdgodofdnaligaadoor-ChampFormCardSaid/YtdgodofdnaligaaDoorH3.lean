/-
  Proved: what some functions of the program answer, or a law of the evaluator that shows it, one theorem each; its conditions are the hypotheses that stand ahead of it.
-/
import Derived.Test.YtdgodofdnaligaaDoorPHa
import Derived.KernelRfl
import Derived.Test.YtdgodofdnaligaaDoorC6
set_option maxRecDepth 100000
set_option maxHeartbeats 4000000
set_option linter.unusedSimpArgs false
set_option linter.unusedVariables false
namespace Go.Sx
open Go.Proofs Sp
theorem get101 : P.funcs[101]? = some Tryd.f101 := by kernel_rfl
theorem ent101 : entersP P 101 = true := by kernel_rfl
theorem rot15_ok {g : Gr} (k : Int)  : CallsF P g 101 [.sc (.int .u32 k), int 15] (.sc (.int .u32 (rotl 15 17 k))) := by
  refine sx_fn (hs := []) ((FV.sc (Value.int IntKind.u32 (IntKind.wrap IntKind.u32 (↑(BitVec.toNat (BitVec.ofInt (IntKind.bits IntKind.u32) (IntKind.wrap IntKind.u32 (k * 2 ^ min (Int.toNat (IntKind.wrap IntKind.u64 (↑(BitVec.toNat (BitVec.ofInt (IntKind.bits IntKind.u64) (IntKind.wrap IntKind.u64 15) &&& BitVec.ofInt (IntKind.bits IntKind.u64) 31)) : Int))) (IntKind.bits IntKind.u32))) ||| BitVec.ofInt (IntKind.bits IntKind.u32) (Int.fdiv k (2 ^ min (Int.toNat (IntKind.wrap IntKind.u64 (32 - IntKind.wrap IntKind.u64 (↑(BitVec.toNat (BitVec.ofInt (IntKind.bits IntKind.u64) (IntKind.wrap IntKind.u64 15) &&& BitVec.ofInt (IntKind.bits IntKind.u64) 31)) : Int)))) (IntKind.bits IntKind.u32))))) : Int)))) = (FV.sc (Value.int IntKind.u32 (rotl 15 17 k)))) get101 ent101 (by kernel_rfl) ?_
  all_goals kernel_rfl
theorem rot13_ok {g : Gr} (k : Int)  : CallsF P g 101 [.sc (.int .u32 k), int 13] (.sc (.int .u32 (rotl 13 19 k))) := by
  refine sx_fn (hs := []) ((FV.sc (Value.int IntKind.u32 (IntKind.wrap IntKind.u32 (↑(BitVec.toNat (BitVec.ofInt (IntKind.bits IntKind.u32) (IntKind.wrap IntKind.u32 (k * 2 ^ min (Int.toNat (IntKind.wrap IntKind.u64 (↑(BitVec.toNat (BitVec.ofInt (IntKind.bits IntKind.u64) (IntKind.wrap IntKind.u64 13) &&& BitVec.ofInt (IntKind.bits IntKind.u64) 31)) : Int))) (IntKind.bits IntKind.u32))) ||| BitVec.ofInt (IntKind.bits IntKind.u32) (Int.fdiv k (2 ^ min (Int.toNat (IntKind.wrap IntKind.u64 (32 - IntKind.wrap IntKind.u64 (↑(BitVec.toNat (BitVec.ofInt (IntKind.bits IntKind.u64) (IntKind.wrap IntKind.u64 13) &&& BitVec.ofInt (IntKind.bits IntKind.u64) 31)) : Int)))) (IntKind.bits IntKind.u32))))) : Int)))) = (FV.sc (Value.int IntKind.u32 (rotl 13 19 k)))) get101 ent101 (by kernel_rfl) ?_
  all_goals kernel_rfl
theorem get95 : P.funcs[95]? = some Tryd.f95 := by kernel_rfl
theorem ent95 : entersP P 95 = true := by kernel_rfl
theorem fin_ok {g : Gr} (k n : Int)  : CallsF P g 95 [.sc (.int .u32 k), .sc (.int .u32 n)] (.sc (.int .u32 (finH k n))) := by
  refine sx_fn (hs := []) ((FV.sc (Value.int IntKind.u32 (IntKind.wrap IntKind.u32 (↑(BitVec.toNat (BitVec.ofInt (IntKind.bits IntKind.u32) (IntKind.wrap IntKind.u32 (IntKind.wrap IntKind.u32 (↑(BitVec.toNat (BitVec.ofInt (IntKind.bits IntKind.u32) (IntKind.wrap IntKind.u32 (IntKind.wrap IntKind.u32 (↑(BitVec.toNat (BitVec.ofInt (IntKind.bits IntKind.u32) (IntKind.wrap IntKind.u32 (↑(BitVec.toNat (BitVec.ofInt (IntKind.bits IntKind.u32) k ^^^ BitVec.ofInt (IntKind.bits IntKind.u32) n)) : Int)) ^^^ BitVec.ofInt (IntKind.bits IntKind.u32) (Int.fdiv (IntKind.wrap IntKind.u32 (↑(BitVec.toNat (BitVec.ofInt (IntKind.bits IntKind.u32) k ^^^ BitVec.ofInt (IntKind.bits IntKind.u32) n)) : Int)) (2 ^ min (Int.toNat 16) (IntKind.bits IntKind.u32))))) : Int) * 2246822507)) ^^^ BitVec.ofInt (IntKind.bits IntKind.u32) (Int.fdiv (IntKind.wrap IntKind.u32 (IntKind.wrap IntKind.u32 (↑(BitVec.toNat (BitVec.ofInt (IntKind.bits IntKind.u32) (IntKind.wrap IntKind.u32 (↑(BitVec.toNat (BitVec.ofInt (IntKind.bits IntKind.u32) k ^^^ BitVec.ofInt (IntKind.bits IntKind.u32) n)) : Int)) ^^^ BitVec.ofInt (IntKind.bits IntKind.u32) (Int.fdiv (IntKind.wrap IntKind.u32 (↑(BitVec.toNat (BitVec.ofInt (IntKind.bits IntKind.u32) k ^^^ BitVec.ofInt (IntKind.bits IntKind.u32) n)) : Int)) (2 ^ min (Int.toNat 16) (IntKind.bits IntKind.u32))))) : Int) * 2246822507)) (2 ^ min (Int.toNat 13) (IntKind.bits IntKind.u32))))) : Int) * 3266489909)) ^^^ BitVec.ofInt (IntKind.bits IntKind.u32) (Int.fdiv (IntKind.wrap IntKind.u32 (IntKind.wrap IntKind.u32 (↑(BitVec.toNat (BitVec.ofInt (IntKind.bits IntKind.u32) (IntKind.wrap IntKind.u32 (IntKind.wrap IntKind.u32 (↑(BitVec.toNat (BitVec.ofInt (IntKind.bits IntKind.u32) (IntKind.wrap IntKind.u32 (↑(BitVec.toNat (BitVec.ofInt (IntKind.bits IntKind.u32) k ^^^ BitVec.ofInt (IntKind.bits IntKind.u32) n)) : Int)) ^^^ BitVec.ofInt (IntKind.bits IntKind.u32) (Int.fdiv (IntKind.wrap IntKind.u32 (↑(BitVec.toNat (BitVec.ofInt (IntKind.bits IntKind.u32) k ^^^ BitVec.ofInt (IntKind.bits IntKind.u32) n)) : Int)) (2 ^ min (Int.toNat 16) (IntKind.bits IntKind.u32))))) : Int) * 2246822507)) ^^^ BitVec.ofInt (IntKind.bits IntKind.u32) (Int.fdiv (IntKind.wrap IntKind.u32 (IntKind.wrap IntKind.u32 (↑(BitVec.toNat (BitVec.ofInt (IntKind.bits IntKind.u32) (IntKind.wrap IntKind.u32 (↑(BitVec.toNat (BitVec.ofInt (IntKind.bits IntKind.u32) k ^^^ BitVec.ofInt (IntKind.bits IntKind.u32) n)) : Int)) ^^^ BitVec.ofInt (IntKind.bits IntKind.u32) (Int.fdiv (IntKind.wrap IntKind.u32 (↑(BitVec.toNat (BitVec.ofInt (IntKind.bits IntKind.u32) k ^^^ BitVec.ofInt (IntKind.bits IntKind.u32) n)) : Int)) (2 ^ min (Int.toNat 16) (IntKind.bits IntKind.u32))))) : Int) * 2246822507)) (2 ^ min (Int.toNat 13) (IntKind.bits IntKind.u32))))) : Int) * 3266489909)) (2 ^ min (Int.toNat 16) (IntKind.bits IntKind.u32))))) : Int)))) = (FV.sc (Value.int IntKind.u32 (finH k n)))) get95 ent95 (by kernel_rfl) ?_
  all_goals kernel_rfl
theorem get97 : P.funcs[97]? = some Tryd.f97 := by kernel_rfl
theorem ent97 : entersP P 97 = true := by kernel_rfl
theorem mixK_ok {g : Gr} (k : Int)  : CallsF P g 97 [.sc (.int .u32 k)] (.sc (.int .u32 (mixK k))) := by
  refine sx_fn (hs := [.call (FV.sc (Value.int IntKind.u32 (rotl 15 17 (IntKind.wrap IntKind.u32 (k * 3432918353)))))]) (let z1 := IntKind.wrap IntKind.u32 (k * 3432918353); CallsF P g 101 [FV.sc (Value.int IntKind.u32 z1), int 15] (FV.sc (Value.int IntKind.u32 (rotl 15 17 z1))) ∧ FV.sc (Value.int IntKind.u32 (IntKind.wrap IntKind.u32 (rotl 15 17 z1 * 461845907))) = FV.sc (Value.int IntKind.u32 (mixK k))) get97 ent97 (by kernel_rfl) ?_
  refine ⟨?_, ?_⟩
  all_goals first | exact rot15_ok _ | kernel_rfl
theorem get96 : P.funcs[96]? = some Tryd.f96 := by kernel_rfl
theorem ent96 : entersP P 96 = true := by kernel_rfl
theorem mixH_ok {g : Gr} (h k : Int)  : CallsF P g 96 [.sc (.int .u32 h), .sc (.int .u32 k)] (.sc (.int .u32 (mixH h k))) := by
  refine sx_fn (hs := [.call (FV.sc (Value.int IntKind.u32 (rotl 13 19 (IntKind.wrap IntKind.u32 (↑(BitVec.toNat (BitVec.ofInt (IntKind.bits IntKind.u32) h ^^^ BitVec.ofInt (IntKind.bits IntKind.u32) k)) : Int)))))]) (let z1 := IntKind.wrap IntKind.u32 (↑(BitVec.toNat (BitVec.ofInt (IntKind.bits IntKind.u32) h ^^^ BitVec.ofInt (IntKind.bits IntKind.u32) k)) : Int); CallsF P g 101 [FV.sc (Value.int IntKind.u32 z1), int 13] (FV.sc (Value.int IntKind.u32 (rotl 13 19 z1))) ∧ FV.sc (Value.int IntKind.u32 (IntKind.wrap IntKind.u32 (IntKind.wrap IntKind.u32 (rotl 13 19 z1 * 5) + 3864292196))) = FV.sc (Value.int IntKind.u32 (mixH h k))) get96 ent96 (by kernel_rfl) ?_
  refine ⟨?_, ?_⟩
  all_goals first | exact rot13_ok _ | kernel_rfl
theorem get81 : P.funcs[81]? = some Tryd.f81 := by kernel_rfl
theorem ent81 : entersP P 81 = true := by kernel_rfl
theorem long_ok {g : Gr} (k : Int)  : CallsF P g 81 [.sc (.int .i64 k)] (.sc (.int .u32 (longH k))) := by
  refine sx_fn (hs := let z1 := mixK (IntKind.wrap IntKind.u32 (Int.fdiv (IntKind.wrap IntKind.u64 k) (2 ^ min (Int.toNat 32) (IntKind.bits IntKind.u64)))); let z3 := mixK (IntKind.wrap IntKind.u32 k); let z2 := mixH (Int.ofNat 0) z3; [.br [] [.call (FV.sc (Value.int IntKind.u32 z3)), .call (FV.sc (Value.int IntKind.u32 z2)), .call (FV.sc (Value.int IntKind.u32 z1)), .call (FV.sc (Value.int IntKind.u32 (mixH z2 z1))), .call (FV.sc (Value.int IntKind.u32 (finH (mixH z2 z1) (Int.ofNat 8))))]]) (let z1 := IntKind.wrap IntKind.u32 (Int.fdiv (IntKind.wrap IntKind.u64 k) (2 ^ min (Int.toNat 32) (IntKind.bits IntKind.u64))); let z3 := IntKind.wrap IntKind.u32 k; let z2 := mixH (Int.ofNat 0) (mixK z3); let z4 := Value.int IntKind.u32 (finH (mixH z2 (mixK z1)) (Int.ofNat 8)); let z5 := Value.int IntKind.u32 (mixH z2 (mixK z1)); let z6 := Value.int IntKind.u32 (Int.ofNat 0); let z7 := Value.int IntKind.u32 (longH k); let z8 := Value.int IntKind.u32 (mixK z3); let z9 := Value.int IntKind.u32 (mixK z1); Br (k == 0) (FV.sc z6 = FV.sc z7) (CallsF P g 97 [FV.sc (Value.int IntKind.u32 z3)] (FV.sc z8) ∧ CallsF P g 96 [FV.sc z6, FV.sc z8] (FV.sc (Value.int IntKind.u32 z2)) ∧ CallsF P g 97 [FV.sc (Value.int IntKind.u32 z1)] (FV.sc z9) ∧ CallsF P g 96 [FV.sc (Value.int IntKind.u32 z2), FV.sc z9] (FV.sc z5) ∧ CallsF P g 95 [FV.sc z5, FV.sc (Value.int IntKind.u32 (Int.ofNat 8))] (FV.sc z4) ∧ FV.sc z4 = FV.sc z7)) get81 ent81 (by kernel_rfl) ?_
  refine ⟨fun hi => ?_, fun hi => ⟨?_, ?_, ?_, ?_, ?_, ?_⟩⟩
  all_goals first | exact mixK_ok _ | exact mixH_ok _ _ | exact fin_ok _ _ | (simp only [beq_iff_eq] at *; subst k; kernel_rfl) | (exact congrArg (fun x => FV.sc (.int .u32 x)) (if_neg (by simp_all; done)).symm)
theorem get82 : P.funcs[82]? = some Tryd.f82 := by kernel_rfl
theorem ent82 : entersP P 82 = true := by kernel_rfl
theorem mint_ok {g : Gr} (k : Int)  : CallsF P g 82 [.sc (.int .i32 k)] (.sc (.int .u32 (intH k))) := by
  refine sx_fn (hs := let z1 := mixK (IntKind.wrap IntKind.u32 k); [.br [] [.call (FV.sc (Value.int IntKind.u32 z1)), .call (FV.sc (Value.int IntKind.u32 (mixH (Int.ofNat 0) z1))), .call (FV.sc (Value.int IntKind.u32 (finH (mixH (Int.ofNat 0) z1) (Int.ofNat 4))))]]) (let z1 := mixK (IntKind.wrap IntKind.u32 k); let z2 := Value.int IntKind.u32 (finH (mixH (Int.ofNat 0) z1) (Int.ofNat 4)); let z3 := Value.int IntKind.u32 (mixH (Int.ofNat 0) z1); let z4 := Value.int IntKind.u32 (Int.ofNat 0); let z5 := Value.int IntKind.u32 (intH k); Br (k == 0) (FV.sc z4 = FV.sc z5) (CallsF P g 97 [FV.sc (Value.int IntKind.u32 (IntKind.wrap IntKind.u32 k))] (FV.sc (Value.int IntKind.u32 z1)) ∧ CallsF P g 96 [FV.sc z4, FV.sc (Value.int IntKind.u32 z1)] (FV.sc z3) ∧ CallsF P g 95 [FV.sc z3, FV.sc (Value.int IntKind.u32 (Int.ofNat 4))] (FV.sc z2) ∧ FV.sc z2 = FV.sc z5)) get82 ent82 (by kernel_rfl) ?_
  refine ⟨fun hi => ?_, fun hi => ⟨?_, ?_, ?_, ?_⟩⟩
  all_goals first | exact mixK_ok _ | exact mixH_ok _ _ | exact fin_ok _ _ | (simp only [beq_iff_eq] at *; subst k; kernel_rfl) | (exact congrArg (fun x => FV.sc (.int .u32 x)) (if_neg (by simp_all; done)).symm)
theorem get98 : P.funcs[98]? = some Tryd.f98 := by kernel_rfl
theorem ent98 : entersP P 98 = true := by kernel_rfl
theorem coll2_ok {g : Gr} (k n : Int)  : CallsF P g 98 [.sc (.int .u32 k), int n] (.sc (.int .u32 (collH k n))) := by
  refine sx_fn (hs := let z1 := mixH (Int.ofNat 0) (mixK k); [.call (FV.sc (Value.int IntKind.u32 (mixK k))), .call (FV.sc (Value.int IntKind.u32 z1)), .call (FV.sc (Value.int IntKind.u32 (finH z1 (IntKind.wrap IntKind.u32 n))))]) (let z2 := mixH (Int.ofNat 0) (mixK k); let z1 := Value.int IntKind.u32 (finH z2 (IntKind.wrap IntKind.u32 n)); let z3 := Value.int IntKind.u32 (mixK k); CallsF P g 97 [FV.sc (Value.int IntKind.u32 k)] (FV.sc z3) ∧ CallsF P g 96 [FV.sc (Value.int IntKind.u32 (Int.ofNat 0)), FV.sc z3] (FV.sc (Value.int IntKind.u32 z2)) ∧ CallsF P g 95 [FV.sc (Value.int IntKind.u32 z2), FV.sc (Value.int IntKind.u32 (IntKind.wrap IntKind.u32 n))] (FV.sc z1) ∧ FV.sc z1 = FV.sc (Value.int IntKind.u32 (collH k n))) get98 ent98 (by kernel_rfl) ?_
  refine ⟨?_, ?_, ?_, ?_⟩
  all_goals first | exact mixK_ok _ | exact mixH_ok _ _ | exact fin_ok _ _ | kernel_rfl
end Go.Sx
set_option maxRecDepth 100000
set_option maxHeartbeats 4000000
set_option linter.unusedSimpArgs false
set_option linter.unusedVariables false
namespace Go.Sx
open Go.Proofs Sp
def cellsU (l : List Int) : List (List FV) := l.map fun n => [.sc (.int .u32 n)]
def encU (l : List Int) : FV := .sl 1 (cellsU l)
def cellsW (l : List Int) : List (List FV) := l.map fun n => [.sc (.int .u16 n)]
def encW (l : List Int) : FV := .sl 1 (cellsW l)
def Sord (l : List Int) (i : Nat) : St := { sl := slots 21 [(0, .f (encU l)), (3, .f (.sc (.int .u32 (ordF (l.take i))))), (6, .f (encU l)), (7, .f (int (l.length : Int))), (8, .f (int (i : Int)))], ob := [], nx := 0 }
def Sunord (l : List Int) (i : Nat) : St := { sl := slots 20 [(0, .f (encU l)), (3, .f (.sc (.int .u32 (unordF (l.take i))))), (6, .f (encU l)), (7, .f (int (l.length : Int))), (8, .f (int (i : Int)))], ob := [], nx := 0 }
def Sjava (l : List Int) (i : Nat) : St := { sl := slots 19 [(0, .f (encW l)), (3, .f (.sc (.int .i32 (javaF (l.take i))))), (6, .f (encW l)), (7, .f (int (l.length : Int))), (8, .f (int (i : Int)))], ob := [], nx := 0 }
theorem cellsU_length (l : List Int) : (cellsU l).length = l.length := List.length_map ..
theorem cellsW_length (l : List Int) : (cellsW l).length = l.length := List.length_map ..
theorem cellsU_get (l : List Int) (i : Nat) (h : i < l.length) : (cellsU l)[i]? = some [.sc (.int .u32 (l.getD i 0))] := by simp [cellsU, List.getD_eq_getElem?_getD, h]
theorem cellsW_get (l : List Int) (i : Nat) (h : i < l.length) : (cellsW l)[i]? = some [.sc (.int .u16 (l.getD i 0))] := by simp [cellsW, List.getD_eq_getElem?_getD, h]
theorem fold_take {α : Type} (f : α → Int → α) (a : α) (l : List Int) (i : Nat) (h : i < l.length) : (l.take (i + 1)).foldl f a = f ((l.take i).foldl f a) (l.getD i 0) := by
  rw [List.take_succ_eq_append_getElem h, List.foldl_append]
  simp [List.getD_eq_getElem?_getD, h]
theorem ordF_step (l : List Int) (i : Nat) (h : i < l.length) : IntKind.u32.wrap (IntKind.u32.wrap (31 * ordF (l.take i)) + l.getD i 0) = ordF (l.take (i + 1)) := by
  unfold ordF; rw [fold_take _ _ l i h]; rfl
theorem unordF_step (l : List Int) (i : Nat) (h : i < l.length) : IntKind.u32.wrap (unordF (l.take i) + l.getD i 0) = unordF (l.take (i + 1)) := by
  unfold unordF; rw [fold_take _ _ l i h]; rfl
theorem javaF_step (l : List Int) (i : Nat) (h : i < l.length) : IntKind.i32.wrap (IntKind.i32.wrap (31 * javaF (l.take i)) + IntKind.i32.wrap (l.getD i 0)) = javaF (l.take (i + 1)) := by
  unfold javaF; rw [fold_take _ _ l i h]
theorem get85 : P.funcs[85]? = some Tryd.f85 := by kernel_rfl
theorem ent85 : entersP P 85 = true := by kernel_rfl
theorem ordered_run {g : Gr} (l : List Int) (hl : l.length ≤ 1000000000) : CallsF P g 85 [encU l] (.sc (.int .u32 (collH (ordF (l.take l.length)) (l.length : Int)))) := by
  refine sx_fn (hs := [.loop [] [] (Sord l) (List.length l) (fun i => [.br [.el ([FV.sc (Value.int IntKind.u32 (List.getD l i 0))])] []]), .br [.el ([FV.sc (Value.int IntKind.u32 (List.getD l (List.length l) 0))])] [.call (FV.sc (Value.int IntKind.u32 (collH (ordF (List.take (List.length l) l)) (↑(List.length (cellsU l)) : Int))))]]) (let z1 := (↑(List.length l) : Int); let z2 := ordF (List.take (List.length l) l); let z3 := (↑(List.length (cellsU l)) : Int); let z4 := AV.f (FV.sl 1 (cellsU l)); let z5 := Value.int IntKind.u32 (collH z2 z3); (E true ∧ (E z4 ∧ AV.f (FV.sc (Value.int IntKind.u32 (Int.ofNat 1))) = AV.f (FV.sc (Value.int IntKind.u32 (ordF (List.take 0 l)))) ∧ E z4 ∧ AV.f (int z3) = AV.f (int z1) ∧ AV.f (int 0) = AV.f (int (Int.ofNat 0)) ∧ True) ∧ True ∧ E true ∧ (false = true → false = true)) ∧ (∀ (i : Nat), i < List.length l → Br (decide ((i : Int) < z1)) ((E 1 ∧ (0 : Int) ≤ (i : Int) ∧ (cellsU l)[i]? = some [FV.sc (Value.int IntKind.u32 (List.getD l i 0))]) ∧ E true ∧ (E z4 ∧ AV.f (FV.sc (Value.int IntKind.u32 (IntKind.wrap IntKind.u32 (IntKind.wrap IntKind.u32 (31 * ordF (List.take i l)) + List.getD l i 0)))) = AV.f (FV.sc (Value.int IntKind.u32 (ordF (List.take (i + 1) l)))) ∧ E z4 ∧ E (AV.f (int z1)) ∧ AV.f (int (IntKind.wrap IntKind.i64 ((i : Int) + 1))) = AV.f (int (↑(i + 1) : Int)) ∧ True) ∧ True ∧ E true ∧ (St.nd (Sord l (i + 1)) = true → false = true)) False) ∧ Br (decide (z1 < z1)) ((E 1 ∧ (0 : Int) ≤ z1 ∧ (cellsU l)[List.length l]? = some [FV.sc (Value.int IntKind.u32 (List.getD l (List.length l) 0))]) ∧ False) (CallsF P g 98 [FV.sc (Value.int IntKind.u32 z2), int z3] (FV.sc z5) ∧ FV.sc z5 = FV.sc (Value.int IntKind.u32 (collH z2 z1)))) get85 ent85 (by kernel_rfl) ?_
  refine ⟨⟨rfl, ⟨rfl, ?_, rfl, ?_, ?_, trivial⟩, trivial, rfl, fun hi => ?_⟩, fun i => fun hlt => ⟨fun hi => ⟨⟨rfl, ?_, ?_⟩, rfl, ⟨rfl, ?_, rfl, rfl, ?_, trivial⟩, trivial, rfl, fun hi => ?_⟩, fun hi => ?_⟩, fun hi => ⟨⟨rfl, ?_, ?_⟩, ?_⟩, fun hi => ⟨?_, ?_⟩⟩
  all_goals first | (simp only [List.take_zero]; kernel_rfl) | exact coll2_ok _ _ | exact cellsU_get l _ (by omega) | (simp only [cellsU_length, cellsW_length, decide_eq_true_eq, decide_eq_false_iff_not] at *; omega) | (exact congrArg (fun x => AV.f (int x)) (wrapS ((i : Int) + 1) (by omega) (by omega))) | (exact congrArg (fun x => AV.f (.sc (.int .u32 x))) (ordF_step l i (by omega))) | (rw [cellsU_length]) | assumption | (simp [V.kind, V.num, V.text, V.items, *]; done)
theorem get87 : P.funcs[87]? = some Tryd.f87 := by kernel_rfl
theorem ent87 : entersP P 87 = true := by kernel_rfl
theorem unordered_run {g : Gr} (l : List Int) (hl : l.length ≤ 1000000000) : CallsF P g 87 [encU l] (.sc (.int .u32 (collH (unordF (l.take l.length)) (l.length : Int)))) := by
  refine sx_fn (hs := [.loop [] [] (Sunord l) (List.length l) (fun i => [.br [.el ([FV.sc (Value.int IntKind.u32 (List.getD l i 0))])] []]), .br [.el ([FV.sc (Value.int IntKind.u32 (List.getD l (List.length l) 0))])] [.call (FV.sc (Value.int IntKind.u32 (collH (unordF (List.take (List.length l) l)) (↑(List.length (cellsU l)) : Int))))]]) (let z1 := (↑(List.length l) : Int); let z2 := unordF (List.take (List.length l) l); let z3 := (↑(List.length (cellsU l)) : Int); let z4 := AV.f (FV.sl 1 (cellsU l)); let z5 := Value.int IntKind.u32 (collH z2 z3); (E true ∧ (E z4 ∧ AV.f (FV.sc (Value.int IntKind.u32 (Int.ofNat 0))) = AV.f (FV.sc (Value.int IntKind.u32 (unordF (List.take 0 l)))) ∧ E z4 ∧ AV.f (int z3) = AV.f (int z1) ∧ AV.f (int 0) = AV.f (int (Int.ofNat 0)) ∧ True) ∧ True ∧ E true ∧ (false = true → false = true)) ∧ (∀ (i : Nat), i < List.length l → Br (decide ((i : Int) < z1)) ((E 1 ∧ (0 : Int) ≤ (i : Int) ∧ (cellsU l)[i]? = some [FV.sc (Value.int IntKind.u32 (List.getD l i 0))]) ∧ E true ∧ (E z4 ∧ AV.f (FV.sc (Value.int IntKind.u32 (IntKind.wrap IntKind.u32 (unordF (List.take i l) + List.getD l i 0)))) = AV.f (FV.sc (Value.int IntKind.u32 (unordF (List.take (i + 1) l)))) ∧ E z4 ∧ E (AV.f (int z1)) ∧ AV.f (int (IntKind.wrap IntKind.i64 ((i : Int) + 1))) = AV.f (int (↑(i + 1) : Int)) ∧ True) ∧ True ∧ E true ∧ (St.nd (Sunord l (i + 1)) = true → false = true)) False) ∧ Br (decide (z1 < z1)) ((E 1 ∧ (0 : Int) ≤ z1 ∧ (cellsU l)[List.length l]? = some [FV.sc (Value.int IntKind.u32 (List.getD l (List.length l) 0))]) ∧ False) (CallsF P g 98 [FV.sc (Value.int IntKind.u32 z2), int z3] (FV.sc z5) ∧ FV.sc z5 = FV.sc (Value.int IntKind.u32 (collH z2 z1)))) get87 ent87 (by kernel_rfl) ?_
  refine ⟨⟨rfl, ⟨rfl, ?_, rfl, ?_, ?_, trivial⟩, trivial, rfl, fun hi => ?_⟩, fun i => fun hlt => ⟨fun hi => ⟨⟨rfl, ?_, ?_⟩, rfl, ⟨rfl, ?_, rfl, rfl, ?_, trivial⟩, trivial, rfl, fun hi => ?_⟩, fun hi => ?_⟩, fun hi => ⟨⟨rfl, ?_, ?_⟩, ?_⟩, fun hi => ⟨?_, ?_⟩⟩
  all_goals first | (simp only [List.take_zero]; kernel_rfl) | exact coll2_ok _ _ | exact cellsU_get l _ (by omega) | (simp only [cellsU_length, cellsW_length, decide_eq_true_eq, decide_eq_false_iff_not] at *; omega) | (exact congrArg (fun x => AV.f (int x)) (wrapS ((i : Int) + 1) (by omega) (by omega))) | (exact congrArg (fun x => AV.f (.sc (.int .u32 x))) (unordF_step l i (by omega))) | (rw [cellsU_length]) | assumption | (simp [V.kind, V.num, V.text, V.items, *]; done)
theorem get83 : P.funcs[83]? = some Tryd.f83 := by kernel_rfl
theorem ent83 : entersP P 83 = true := by kernel_rfl
theorem java_run {g : Gr} (l : List Int) (hl : l.length ≤ 1000000000000000) : CallsF P g 83 [encW l] (.sc (.int .i32 (javaF (l.take l.length)))) := by
  refine sx_fn (hs := [.loop [] [] (Sjava l) (List.length l) (fun i => [.br [.el ([FV.sc (Value.int IntKind.u16 (List.getD l i 0))])] []]), .br [.el ([FV.sc (Value.int IntKind.u16 (List.getD l (List.length l) 0))])] []]) (let z1 := (↑(List.length l) : Int); let z2 := AV.f (FV.sl 1 (cellsW l)); (E true ∧ (E z2 ∧ AV.f (FV.sc (Value.int IntKind.i32 (Int.ofNat 0))) = AV.f (FV.sc (Value.int IntKind.i32 (javaF (List.take 0 l)))) ∧ E z2 ∧ AV.f (int (↑(List.length (cellsW l)) : Int)) = AV.f (int z1) ∧ AV.f (int 0) = AV.f (int (Int.ofNat 0)) ∧ True) ∧ True ∧ E true ∧ (false = true → false = true)) ∧ (∀ (i : Nat), i < List.length l → Br (decide ((i : Int) < z1)) ((E 1 ∧ (0 : Int) ≤ (i : Int) ∧ (cellsW l)[i]? = some [FV.sc (Value.int IntKind.u16 (List.getD l i 0))]) ∧ E true ∧ (E z2 ∧ AV.f (FV.sc (Value.int IntKind.i32 (IntKind.wrap IntKind.i32 (IntKind.wrap IntKind.i32 (31 * javaF (List.take i l)) + IntKind.wrap IntKind.i32 (List.getD l i 0))))) = AV.f (FV.sc (Value.int IntKind.i32 (javaF (List.take (i + 1) l)))) ∧ E z2 ∧ E (AV.f (int z1)) ∧ AV.f (int (IntKind.wrap IntKind.i64 ((i : Int) + 1))) = AV.f (int (↑(i + 1) : Int)) ∧ True) ∧ True ∧ E true ∧ (St.nd (Sjava l (i + 1)) = true → false = true)) False) ∧ Br (decide (z1 < z1)) ((E 1 ∧ (0 : Int) ≤ z1 ∧ (cellsW l)[List.length l]? = some [FV.sc (Value.int IntKind.u16 (List.getD l (List.length l) 0))]) ∧ False) (E (FV.sc (Value.int IntKind.i32 (javaF (List.take (List.length l) l)))))) get83 ent83 (by kernel_rfl) ?_
  refine ⟨⟨rfl, ⟨rfl, ?_, rfl, ?_, ?_, trivial⟩, trivial, rfl, fun hi => ?_⟩, fun i => fun hlt => ⟨fun hi => ⟨⟨rfl, ?_, ?_⟩, rfl, ⟨rfl, ?_, rfl, rfl, ?_, trivial⟩, trivial, rfl, fun hi => ?_⟩, fun hi => ?_⟩, fun hi => ⟨⟨rfl, ?_, ?_⟩, ?_⟩, fun hi => rfl⟩
  all_goals first | (simp only [List.take_zero]; kernel_rfl) | exact cellsW_get l _ (by omega) | (simp only [cellsU_length, cellsW_length, decide_eq_true_eq, decide_eq_false_iff_not] at *; omega) | (exact congrArg (fun x => AV.f (int x)) (wrapS ((i : Int) + 1) (by omega) (by omega))) | (exact congrArg (fun x => AV.f (.sc (.int .i32 x))) (javaF_step l i (by omega))) | (rw [cellsW_length]) | assumption | (simp [V.kind, V.num, V.text, V.items, *]; done)
theorem ordered_ok {g : Gr} (l : List Int) (hl : l.length ≤ 1000000000) : CallsF P g 85 [encU l] (.sc (.int .u32 (ordH l))) := by
  have h := ordered_run (g := g) l hl
  rw [List.take_length] at h
  exact h
theorem unordered_ok {g : Gr} (l : List Int) (hl : l.length ≤ 1000000000) : CallsF P g 87 [encU l] (.sc (.int .u32 (unordH l))) := by
  have h := unordered_run (g := g) l hl
  rw [List.take_length] at h
  exact h
theorem java_ok {g : Gr} (l : List Int) (hl : l.length ≤ 1000000000000000) : CallsF P g 83 [encW l] (.sc (.int .i32 (javaF l))) := by
  have h := java_run (g := g) l hl
  rw [List.take_length] at h
  exact h
theorem get88 : P.funcs[88]? = some Tryd.f88 := by kernel_rfl
theorem ent88 : entersP P 88 = true := by kernel_rfl
theorem entry_ok {g : Gr} (a b : Int)  : CallsF P g 88 [.sc (.int .u32 a), .sc (.int .u32 b)] (.sc (.int .u32 (ordH [a, b]))) := by
  refine sx_fn (hs := [.lfz [0], .call (FV.sc (Value.int IntKind.u32 (ordH [a, b])))]) (let z1 := FV.sc (Value.int IntKind.u32 (ordH [a, b])); CallsF P g 85 [FV.sl 1 [[FV.sc (Value.int IntKind.u32 a)], [FV.sc (Value.int IntKind.u32 b)]]] z1 ∧ E z1) get88 ent88 (by kernel_rfl) ?_
  refine ⟨?_, rfl⟩
  all_goals exact ordered_ok [a, b] (by simp)
end Go.Sx
set_option maxRecDepth 100000
set_option maxHeartbeats 4000000
set_option linter.unusedSimpArgs false
set_option linter.unusedVariables false
namespace Go.Sx
open Go.Proofs Sp
end Go.Sx
set_option maxRecDepth 100000
set_option maxHeartbeats 4000000
set_option linter.unusedSimpArgs false
set_option linter.unusedVariables false
namespace Go.Sx
open Go.Proofs Sp
def hi16 (c : Int) : Int := IntKind.u16.wrap (IntKind.i32.wrap (((BitVec.ofInt IntKind.i32.bits 55296 ||| BitVec.ofInt IntKind.i32.bits ((IntKind.i32.wrap (c - 65536)).fdiv (2 ^ 10))).toNat : Nat) : Int))
def lo16 (c : Int) : Int := IntKind.u16.wrap (IntKind.i32.wrap (((BitVec.ofInt IntKind.i32.bits 56320 ||| BitVec.ofInt IntKind.i32.bits (IntKind.i32.wrap (((BitVec.ofInt IntKind.i32.bits (IntKind.i32.wrap (c - 65536)) &&& BitVec.ofInt IntKind.i32.bits 1023).toNat : Nat) : Int))).toNat : Nat) : Int))
/-- A letter's units of 16 bits; those of a text's first letters. -/
def unitE (c : Int) : List Int := if c > 65535 then [hi16 c, lo16 c] else [IntKind.u16.wrap c]
def unitsL (s : ByteArray) : Nat → List Int
  | 0 => []
  | i + 1 => unitsL s i ++ unitE ((Utf8.decode s (posAt s i)).1 : Nat)
def Sunits (s : ByteArray) (i : Nat) : St := { sl := slots 32 [(3, .lsl 0), (7, .loc 1 0)], ob := [(0, .row 1 131 (cellsW (unitsL s i))), (1, .iter s (posAt s i))], nx := 2 }
theorem cellsW_app (a b : List Int) : cellsW (a ++ b) = cellsW a ++ cellsW b := List.map_append ..
theorem units_len (s : ByteArray) : ∀ i, (unitsL s i).length ≤ 2 * i
  | 0 => Nat.le_refl _
  | i + 1 => by
    have := units_len s i
    simp only [unitsL, unitE, List.length_append]
    split <;> simp <;> omega
theorem units_step1 (s : ByteArray) (i : Nat) (h : (((Utf8.decode s (posAt s i)).1 : Nat) : Int) > 65535) : cellsW (unitsL s i) ++ [[.sc (.int .u16 (hi16 ((Utf8.decode s (posAt s i)).1 : Nat)))]] ++ [[.sc (.int .u16 (lo16 ((Utf8.decode s (posAt s i)).1 : Nat)))]] = cellsW (unitsL s (i + 1)) := by
  simp only [unitsL, unitE, if_pos h, cellsW_app]
  simp [cellsW]
theorem units_step2 (s : ByteArray) (i : Nat) (h : ¬ (((Utf8.decode s (posAt s i)).1 : Nat) : Int) > 65535) : cellsW (unitsL s i) ++ [[.sc (.int .u16 (IntKind.u16.wrap ((Utf8.decode s (posAt s i)).1 : Nat)))]] = cellsW (unitsL s (i + 1)) := by
  simp only [unitsL, unitE, if_neg h, cellsW_app]
  simp [cellsW]
theorem get84 : P.funcs[84]? = some Tryd.f84 := by kernel_rfl
theorem ent84 : entersP P 84 = true := by kernel_rfl
theorem units_run (s : ByteArray) (N : Nat) (hs : s.size ≤ 1000000) (h : ∀ i, i < N → posAt s i < s.size) (hN : ¬ posAt s N < s.size) : CallsF P G 84 [.sc (.string s)] (.sl 1 (cellsW (unitsL s N))) := by
  refine sx_fn (hs := [.pre [.nrow 3 1 131], .loop [(0, 1), (1, 0)] [] (Sunits s) N (fun _ => [.dec true, .dec true, .br [.ren [(5, 0), (1, 1)]] [.ren [(3, 0), (1, 1)]]]), .dec false, .dec false, .frz [0]]) (let z1 := IntKind.bits IntKind.i32; let z2 := TypeInfo.size (Tables.types (Program.toTables P))[131]; let z3 := E (AV.lsl 0) ∧ E (AV.loc 1 0) ∧ True; (E true ∧ z3 ∧ (E (Ob.row 1 131 []) ∧ Ob.iter s 0 = Ob.iter s (posAt s 0) ∧ True) ∧ E true ∧ (false = true → false = true)) ∧ (∀ (i : Nat), (let z10 := Utf8.decode s (posAt s i); let z11 := (↑(Prod.fst z10) : Int); let z5 := IntKind.wrap IntKind.i32 (z11 - 65536); let z4 := Value.int IntKind.u16 (IntKind.wrap IntKind.u16 (IntKind.wrap IntKind.i32 (↑(BitVec.toNat (BitVec.ofInt 32 55296 ||| BitVec.ofInt 32 (Int.fdiv z5 (2 ^ 10)))) : Int))); let z6 := Value.int IntKind.u16 (IntKind.wrap IntKind.u16 z11); let z7 := chunk 1 1 [fV (Value.int IntKind.u16 (IntKind.wrap IntKind.u16 (IntKind.wrap IntKind.i32 (↑(BitVec.toNat (BitVec.ofInt 32 56320 ||| BitVec.ofInt 32 (IntKind.wrap IntKind.i32 (↑(BitVec.toNat (BitVec.ofInt 32 z5 &&& BitVec.ofInt 32 1023)) : Int)))) : Int))))]; let z8 := Value.int IntKind.u16 (IntKind.wrap IntKind.u16 (IntKind.wrap IntKind.i32 (↑(BitVec.toNat (BitVec.ofInt z1 56320 ||| BitVec.ofInt z1 (IntKind.wrap IntKind.i32 (↑(BitVec.toNat (BitVec.ofInt z1 z5 &&& BitVec.ofInt z1 1023)) : Int)))) : Int))); let z9 := Value.int IntKind.u16 (IntKind.wrap IntKind.u16 (IntKind.wrap IntKind.i32 (↑(BitVec.toNat (BitVec.ofInt z1 55296 ||| BitVec.ofInt z1 (Int.fdiv z5 (2 ^ min (Int.toNat 10) z1)))) : Int))); let z12 := cellsW (unitsL s i) ++ chunk 1 1 [fV z4]; i < N → posAt s i < ByteArray.size s ∧ E true ∧ Br (decide (z11 > 65535)) ((oneF ([[FV.sc z9]]) ∧ List.length (cellsW (unitsL s i)) + List.length (chunk 1 1 [fV z4]) ≤ maxLen ∧ (List.length (cellsW (unitsL s i)) + List.length (chunk 1 1 [fV z4])) * 2 ≤ 140737488355328 ∧ E false) ∧ (oneF ([[FV.sc z8]]) ∧ List.length z12 + List.length z7 ≤ maxLen ∧ (List.length z12 + List.length z7) * 2 ≤ 140737488355328 ∧ E false) ∧ E true ∧ z3 ∧ (Ob.row 1 131 (cellsW (unitsL s i) ++ chunk z2 1 [fV z9] ++ chunk z2 1 [fV z8]) = Ob.row 1 131 (cellsW (unitsL s (i + 1))) ∧ Ob.iter s (posAt s i + Prod.snd z10) = Ob.iter s (posAt s (i + 1)) ∧ True) ∧ E true ∧ (false = true → false = true)) ((oneF ([[FV.sc z6]]) ∧ List.length (cellsW (unitsL s i)) + List.length (chunk 1 1 [fV z6]) ≤ maxLen ∧ (List.length (cellsW (unitsL s i)) + List.length (chunk 1 1 [fV z6])) * 2 ≤ 140737488355328 ∧ E false) ∧ E true ∧ z3 ∧ (Ob.row 1 131 (cellsW (unitsL s i) ++ chunk z2 1 [fV z6]) = Ob.row 1 131 (cellsW (unitsL s (i + 1))) ∧ Ob.iter s (posAt s i + Prod.snd z10) = Ob.iter s (posAt s (i + 1)) ∧ True) ∧ E true ∧ (false = true → false = true)))) ∧ ¬ (posAt s N < ByteArray.size s) ∧ E false ∧ E (FV.sl 1 (cellsW (unitsL s N)))) get84 ent84 (by kernel_rfl) ?_
  refine ⟨⟨rfl, ⟨rfl, rfl, trivial⟩, ⟨rfl, ?_, trivial⟩, rfl, fun hi => ?_⟩, fun i => fun hi => ⟨?_, rfl, fun hi => ⟨⟨?_, ?_, ?_, rfl⟩, ⟨?_, ?_, ?_, rfl⟩, rfl, ⟨rfl, rfl, trivial⟩, ⟨?_, ?_, trivial⟩, rfl, fun hi => ?_⟩, fun hi => ⟨⟨?_, ?_, ?_, rfl⟩, rfl, ⟨rfl, rfl, trivial⟩, ⟨?_, ?_, trivial⟩, rfl, fun hi => ?_⟩⟩, ?_, rfl, rfl⟩
  all_goals first | exact (h i (by assumption)) | exact hN | (exact congrArg (Ob.row 1 131) (units_step1 s i (of_decide_eq_true (by assumption)))) | (exact congrArg (Ob.row 1 131) (units_step2 s i (of_decide_eq_false (by assumption)))) | (have h1 := units_len s i; have h2 := posAt_ge s i; have h3 := h i (by assumption); simp only [List.length_append, cellsW_length, chunk, List.length_cons, List.length_nil, maxLen]; omega) | assumption | (intro x hx; simp at hx; rcases hx with rfl | rfl | rfl | rfl <;> rfl) | rfl
end Go.Sx

/-
  Proved: what some functions of the program answer, or a law of the evaluator that shows it, one theorem each; its conditions are the hypotheses that stand ahead of it.
-/
import Derived.Test.YtgbkobkiomeokaaGreatDoorH4
import Derived.KernelRfl
import Derived.Test.YtgbkobkiomeokaaGreatDoorE2
import Derived.Test.YtgbkobkiomeokaaGreatDoorH7
import Derived.Test.YtgbkobkiomeokaaGreatDoorE4
set_option maxRecDepth 100000
set_option maxHeartbeats 4000000
set_option linter.unusedSimpArgs false
set_option linter.unusedVariables false
namespace Go.Sx
open Go.Proofs Sp
def SrOrd (l : List Int) (i : Nat) : St := { sl := slots 21 [(0, .f (encU l)), (3, .f (.sc (.int .u32 (ordF (l.take i))))), (6, .f (encU l)), (7, .f (int (l.length : Int))), (8, .f (int (i : Int)))], ob := [], nx := 0 }
def SrUnord (l : List Int) (i : Nat) : St := { sl := slots 20 [(0, .f (encU l)), (3, .f (.sc (.int .u32 (unordF (l.take i))))), (6, .f (encU l)), (7, .f (int (l.length : Int))), (8, .f (int (i : Int)))], ob := [], nx := 0 }
def SrJava (l : List Int) (i : Nat) : St := { sl := slots 19 [(0, .f (encW l)), (3, .f (.sc (.int .i32 (javaF (l.take i))))), (6, .f (encW l)), (7, .f (int (l.length : Int))), (8, .f (int (i : Int)))], ob := [], nx := 0 }
def longR (x : Int) : Int := if x = 0 then 0 else finH (mixH (mixH 0 (mixK (IntKind.u32.wrap x))) (mixK (IntKind.u32.wrap (x.fdiv (2 ^ 32))))) 8
theorem longR_eq (x : Int) : longR x = longH x := by
  unfold longR longH w32 sr
  have h : IntKind.u32.wrap (x.fdiv (2 ^ 32)) = IntKind.u32.wrap ((IntKind.u64.wrap x).fdiv (2 ^ 32)) := by
    rw [Int.fdiv_eq_ediv_of_nonneg _ (by omega), Int.fdiv_eq_ediv_of_nonneg _ (by omega)]
    simp only [IntKind.wrap, IntKind.signed, IntKind.bits]
    simp
    omega
  rw [h]
theorem get118 : P.funcs[118]? = some Tryz.f118 := by kernel_rfl
theorem ent118 : entersP P 118 = true := by kernel_rfl
theorem rturn15_ok {g : Gr} (k : Int)  : CallsF P g 118 [.sc (.int .u32 k), .sc (.int .u64 15)] (.sc (.int .u32 (rotl 15 17 k))) := by
  refine sx_fn (hs := []) ((FV.sc (Value.int IntKind.u32 (IntKind.wrap IntKind.u32 (↑(BitVec.toNat (BitVec.ofInt (IntKind.bits IntKind.u32) (IntKind.wrap IntKind.u32 (k * 2 ^ min (Int.toNat 15) (IntKind.bits IntKind.u32))) ||| BitVec.ofInt (IntKind.bits IntKind.u32) (Int.fdiv k (2 ^ min (Int.toNat (IntKind.wrap IntKind.u64 (32 - 15))) (IntKind.bits IntKind.u32))))) : Int)))) = (FV.sc (Value.int IntKind.u32 (rotl 15 17 k)))) get118 ent118 (by kernel_rfl) ?_
  all_goals kernel_rfl
theorem rturn13_ok {g : Gr} (k : Int)  : CallsF P g 118 [.sc (.int .u32 k), .sc (.int .u64 13)] (.sc (.int .u32 (rotl 13 19 k))) := by
  refine sx_fn (hs := []) ((FV.sc (Value.int IntKind.u32 (IntKind.wrap IntKind.u32 (↑(BitVec.toNat (BitVec.ofInt (IntKind.bits IntKind.u32) (IntKind.wrap IntKind.u32 (k * 2 ^ min (Int.toNat 13) (IntKind.bits IntKind.u32))) ||| BitVec.ofInt (IntKind.bits IntKind.u32) (Int.fdiv k (2 ^ min (Int.toNat (IntKind.wrap IntKind.u64 (32 - 13))) (IntKind.bits IntKind.u32))))) : Int)))) = (FV.sc (Value.int IntKind.u32 (rotl 13 19 k)))) get118 ent118 (by kernel_rfl) ?_
  all_goals kernel_rfl
theorem get102 : P.funcs[102]? = some Tryz.f102 := by kernel_rfl
theorem ent102 : entersP P 102 = true := by kernel_rfl
theorem rfin_ok {g : Gr} (k n : Int)  : CallsF P g 102 [.sc (.int .u32 k), .sc (.int .u32 n)] (.sc (.int .u32 (finH k n))) := by
  refine sx_fn (hs := []) ((FV.sc (Value.int IntKind.u32 (IntKind.wrap IntKind.u32 (↑(BitVec.toNat (BitVec.ofInt (IntKind.bits IntKind.u32) (IntKind.wrap IntKind.u32 (IntKind.wrap IntKind.u32 (↑(BitVec.toNat (BitVec.ofInt (IntKind.bits IntKind.u32) (IntKind.wrap IntKind.u32 (IntKind.wrap IntKind.u32 (↑(BitVec.toNat (BitVec.ofInt (IntKind.bits IntKind.u32) (IntKind.wrap IntKind.u32 (↑(BitVec.toNat (BitVec.ofInt (IntKind.bits IntKind.u32) k ^^^ BitVec.ofInt (IntKind.bits IntKind.u32) n)) : Int)) ^^^ BitVec.ofInt (IntKind.bits IntKind.u32) (Int.fdiv (IntKind.wrap IntKind.u32 (↑(BitVec.toNat (BitVec.ofInt (IntKind.bits IntKind.u32) k ^^^ BitVec.ofInt (IntKind.bits IntKind.u32) n)) : Int)) (2 ^ min (Int.toNat 16) (IntKind.bits IntKind.u32))))) : Int) * 2246822507)) ^^^ BitVec.ofInt (IntKind.bits IntKind.u32) (Int.fdiv (IntKind.wrap IntKind.u32 (IntKind.wrap IntKind.u32 (↑(BitVec.toNat (BitVec.ofInt (IntKind.bits IntKind.u32) (IntKind.wrap IntKind.u32 (↑(BitVec.toNat (BitVec.ofInt (IntKind.bits IntKind.u32) k ^^^ BitVec.ofInt (IntKind.bits IntKind.u32) n)) : Int)) ^^^ BitVec.ofInt (IntKind.bits IntKind.u32) (Int.fdiv (IntKind.wrap IntKind.u32 (↑(BitVec.toNat (BitVec.ofInt (IntKind.bits IntKind.u32) k ^^^ BitVec.ofInt (IntKind.bits IntKind.u32) n)) : Int)) (2 ^ min (Int.toNat 16) (IntKind.bits IntKind.u32))))) : Int) * 2246822507)) (2 ^ min (Int.toNat 13) (IntKind.bits IntKind.u32))))) : Int) * 3266489909)) ^^^ BitVec.ofInt (IntKind.bits IntKind.u32) (Int.fdiv (IntKind.wrap IntKind.u32 (IntKind.wrap IntKind.u32 (↑(BitVec.toNat (BitVec.ofInt (IntKind.bits IntKind.u32) (IntKind.wrap IntKind.u32 (IntKind.wrap IntKind.u32 (↑(BitVec.toNat (BitVec.ofInt (IntKind.bits IntKind.u32) (IntKind.wrap IntKind.u32 (↑(BitVec.toNat (BitVec.ofInt (IntKind.bits IntKind.u32) k ^^^ BitVec.ofInt (IntKind.bits IntKind.u32) n)) : Int)) ^^^ BitVec.ofInt (IntKind.bits IntKind.u32) (Int.fdiv (IntKind.wrap IntKind.u32 (↑(BitVec.toNat (BitVec.ofInt (IntKind.bits IntKind.u32) k ^^^ BitVec.ofInt (IntKind.bits IntKind.u32) n)) : Int)) (2 ^ min (Int.toNat 16) (IntKind.bits IntKind.u32))))) : Int) * 2246822507)) ^^^ BitVec.ofInt (IntKind.bits IntKind.u32) (Int.fdiv (IntKind.wrap IntKind.u32 (IntKind.wrap IntKind.u32 (↑(BitVec.toNat (BitVec.ofInt (IntKind.bits IntKind.u32) (IntKind.wrap IntKind.u32 (↑(BitVec.toNat (BitVec.ofInt (IntKind.bits IntKind.u32) k ^^^ BitVec.ofInt (IntKind.bits IntKind.u32) n)) : Int)) ^^^ BitVec.ofInt (IntKind.bits IntKind.u32) (Int.fdiv (IntKind.wrap IntKind.u32 (↑(BitVec.toNat (BitVec.ofInt (IntKind.bits IntKind.u32) k ^^^ BitVec.ofInt (IntKind.bits IntKind.u32) n)) : Int)) (2 ^ min (Int.toNat 16) (IntKind.bits IntKind.u32))))) : Int) * 2246822507)) (2 ^ min (Int.toNat 13) (IntKind.bits IntKind.u32))))) : Int) * 3266489909)) (2 ^ min (Int.toNat 16) (IntKind.bits IntKind.u32))))) : Int)))) = (FV.sc (Value.int IntKind.u32 (finH k n)))) get102 ent102 (by kernel_rfl) ?_
  all_goals kernel_rfl
theorem get104 : P.funcs[104]? = some Tryz.f104 := by kernel_rfl
theorem ent104 : entersP P 104 = true := by kernel_rfl
theorem rmixK_ok {g : Gr} (k : Int)  : CallsF P g 104 [.sc (.int .u32 k)] (.sc (.int .u32 (mixK k))) := by
  refine sx_fn (hs := [.call (FV.sc (Value.int IntKind.u32 (rotl 15 17 (IntKind.wrap IntKind.u32 (k * 3432918353)))))]) (let z1 := IntKind.wrap IntKind.u32 (k * 3432918353); CallsF P g 118 [FV.sc (Value.int IntKind.u32 z1), FV.sc (Value.int IntKind.u64 (Int.ofNat 15))] (FV.sc (Value.int IntKind.u32 (rotl 15 17 z1))) ∧ FV.sc (Value.int IntKind.u32 (IntKind.wrap IntKind.u32 (rotl 15 17 z1 * 461845907))) = FV.sc (Value.int IntKind.u32 (mixK k))) get104 ent104 (by kernel_rfl) ?_
  refine ⟨?_, ?_⟩
  all_goals first | exact rturn15_ok _ | kernel_rfl
theorem get103 : P.funcs[103]? = some Tryz.f103 := by kernel_rfl
theorem ent103 : entersP P 103 = true := by kernel_rfl
theorem rmixH_ok {g : Gr} (h k : Int)  : CallsF P g 103 [.sc (.int .u32 h), .sc (.int .u32 k)] (.sc (.int .u32 (mixH h k))) := by
  refine sx_fn (hs := [.call (FV.sc (Value.int IntKind.u32 (rotl 13 19 (IntKind.wrap IntKind.u32 (↑(BitVec.toNat (BitVec.ofInt (IntKind.bits IntKind.u32) h ^^^ BitVec.ofInt (IntKind.bits IntKind.u32) k)) : Int)))))]) (let z1 := IntKind.wrap IntKind.u32 (↑(BitVec.toNat (BitVec.ofInt (IntKind.bits IntKind.u32) h ^^^ BitVec.ofInt (IntKind.bits IntKind.u32) k)) : Int); CallsF P g 118 [FV.sc (Value.int IntKind.u32 z1), FV.sc (Value.int IntKind.u64 (Int.ofNat 13))] (FV.sc (Value.int IntKind.u32 (rotl 13 19 z1))) ∧ FV.sc (Value.int IntKind.u32 (IntKind.wrap IntKind.u32 (IntKind.wrap IntKind.u32 (rotl 13 19 z1 * 5) + 3864292196))) = FV.sc (Value.int IntKind.u32 (mixH h k))) get103 ent103 (by kernel_rfl) ?_
  refine ⟨?_, ?_⟩
  all_goals first | exact rturn13_ok _ | kernel_rfl
theorem get84 : P.funcs[84]? = some Tryz.f84 := by kernel_rfl
theorem ent84 : entersP P 84 = true := by kernel_rfl
theorem rlong_run {g : Gr} (k : Int)  : CallsF P g 84 [.sc (.int .i64 k)] (.sc (.int .u32 (longR k))) := by
  refine sx_fn (hs := let z1 := mixK (IntKind.wrap IntKind.u32 (Int.fdiv k (2 ^ min (Int.toNat 32) (IntKind.bits IntKind.i64)))); let z3 := mixK (IntKind.wrap IntKind.u32 k); let z2 := mixH (Int.ofNat 0) z3; [.br [] [.call (FV.sc (Value.int IntKind.u32 z3)), .call (FV.sc (Value.int IntKind.u32 z2)), .call (FV.sc (Value.int IntKind.u32 z1)), .call (FV.sc (Value.int IntKind.u32 (mixH z2 z1))), .call (FV.sc (Value.int IntKind.u32 (finH (mixH z2 z1) (Int.ofNat 8))))]]) (let z1 := IntKind.wrap IntKind.u32 (Int.fdiv k (2 ^ min (Int.toNat 32) (IntKind.bits IntKind.i64))); let z3 := IntKind.wrap IntKind.u32 k; let z2 := mixH (Int.ofNat 0) (mixK z3); let z4 := Value.int IntKind.u32 (finH (mixH z2 (mixK z1)) (Int.ofNat 8)); let z5 := Value.int IntKind.u32 (mixH z2 (mixK z1)); let z6 := Value.int IntKind.u32 (Int.ofNat 0); let z7 := Value.int IntKind.u32 (longR k); let z8 := Value.int IntKind.u32 (mixK z3); let z9 := Value.int IntKind.u32 (mixK z1); Br (k == 0) (FV.sc z6 = FV.sc z7) (CallsF P g 104 [FV.sc (Value.int IntKind.u32 z3)] (FV.sc z8) ∧ CallsF P g 103 [FV.sc z6, FV.sc z8] (FV.sc (Value.int IntKind.u32 z2)) ∧ CallsF P g 104 [FV.sc (Value.int IntKind.u32 z1)] (FV.sc z9) ∧ CallsF P g 103 [FV.sc (Value.int IntKind.u32 z2), FV.sc z9] (FV.sc z5) ∧ CallsF P g 102 [FV.sc z5, FV.sc (Value.int IntKind.u32 (Int.ofNat 8))] (FV.sc z4) ∧ FV.sc z4 = FV.sc z7)) get84 ent84 (by kernel_rfl) ?_
  refine ⟨fun hi => ?_, fun hi => ⟨?_, ?_, ?_, ?_, ?_, ?_⟩⟩
  all_goals first | exact rmixK_ok _ | exact rmixH_ok _ _ | exact rfin_ok _ _ | (simp only [beq_iff_eq] at *; subst k; kernel_rfl) | (exact congrArg (fun x => FV.sc (.int .u32 x)) (if_neg (by simp_all; done)).symm)
theorem get85 : P.funcs[85]? = some Tryz.f85 := by kernel_rfl
theorem ent85 : entersP P 85 = true := by kernel_rfl
theorem rint_ok {g : Gr} (k : Int)  : CallsF P g 85 [.sc (.int .i32 k)] (.sc (.int .u32 (intH k))) := by
  refine sx_fn (hs := let z1 := mixK (IntKind.wrap IntKind.u32 k); [.br [] [.call (FV.sc (Value.int IntKind.u32 z1)), .call (FV.sc (Value.int IntKind.u32 (mixH (Int.ofNat 0) z1))), .call (FV.sc (Value.int IntKind.u32 (finH (mixH (Int.ofNat 0) z1) (Int.ofNat 4))))]]) (let z1 := mixK (IntKind.wrap IntKind.u32 k); let z2 := Value.int IntKind.u32 (finH (mixH (Int.ofNat 0) z1) (Int.ofNat 4)); let z3 := Value.int IntKind.u32 (mixH (Int.ofNat 0) z1); let z4 := Value.int IntKind.u32 (Int.ofNat 0); let z5 := Value.int IntKind.u32 (intH k); Br (k == 0) (FV.sc z4 = FV.sc z5) (CallsF P g 104 [FV.sc (Value.int IntKind.u32 (IntKind.wrap IntKind.u32 k))] (FV.sc (Value.int IntKind.u32 z1)) ∧ CallsF P g 103 [FV.sc z4, FV.sc (Value.int IntKind.u32 z1)] (FV.sc z3) ∧ CallsF P g 102 [FV.sc z3, FV.sc (Value.int IntKind.u32 (Int.ofNat 4))] (FV.sc z2) ∧ FV.sc z2 = FV.sc z5)) get85 ent85 (by kernel_rfl) ?_
  refine ⟨fun hi => ?_, fun hi => ⟨?_, ?_, ?_, ?_⟩⟩
  all_goals first | exact rmixK_ok _ | exact rmixH_ok _ _ | exact rfin_ok _ _ | (simp only [beq_iff_eq] at *; subst k; kernel_rfl) | (exact congrArg (fun x => FV.sc (.int .u32 x)) (if_neg (by simp_all; done)).symm)
theorem get106 : P.funcs[106]? = some Tryz.f106 := by kernel_rfl
theorem ent106 : entersP P 106 = true := by kernel_rfl
theorem rcoll_ok {g : Gr} (k n : Int)  : CallsF P g 106 [.sc (.int .u32 k), int n] (.sc (.int .u32 (collH k n))) := by
  refine sx_fn (hs := let z1 := mixH (Int.ofNat 0) (mixK k); [.call (FV.sc (Value.int IntKind.u32 (mixK k))), .call (FV.sc (Value.int IntKind.u32 z1)), .call (FV.sc (Value.int IntKind.u32 (finH z1 (IntKind.wrap IntKind.u32 n))))]) (let z2 := mixH (Int.ofNat 0) (mixK k); let z1 := Value.int IntKind.u32 (finH z2 (IntKind.wrap IntKind.u32 n)); let z3 := Value.int IntKind.u32 (mixK k); CallsF P g 104 [FV.sc (Value.int IntKind.u32 k)] (FV.sc z3) ∧ CallsF P g 103 [FV.sc (Value.int IntKind.u32 (Int.ofNat 0)), FV.sc z3] (FV.sc (Value.int IntKind.u32 z2)) ∧ CallsF P g 102 [FV.sc (Value.int IntKind.u32 z2), FV.sc (Value.int IntKind.u32 (IntKind.wrap IntKind.u32 n))] (FV.sc z1) ∧ FV.sc z1 = FV.sc (Value.int IntKind.u32 (collH k n))) get106 ent106 (by kernel_rfl) ?_
  refine ⟨?_, ?_, ?_, ?_⟩
  all_goals first | exact rmixK_ok _ | exact rmixH_ok _ _ | exact rfin_ok _ _ | kernel_rfl
theorem get88 : P.funcs[88]? = some Tryz.f88 := by kernel_rfl
theorem ent88 : entersP P 88 = true := by kernel_rfl
theorem rordered_run {g : Gr} (l : List Int) (hl : l.length ≤ 1000000000) : CallsF P g 88 [encU l] (.sc (.int .u32 (collH (ordF (l.take l.length)) (l.length : Int)))) := by
  refine sx_fn (hs := [.loop [] [] (SrOrd l) (List.length l) (fun i => [.br [.el ([FV.sc (Value.int IntKind.u32 (List.getD l i 0))])] []]), .br [.el ([FV.sc (Value.int IntKind.u32 (List.getD l (List.length l) 0))])] [.call (FV.sc (Value.int IntKind.u32 (collH (ordF (List.take (List.length l) l)) (↑(List.length (cellsU l)) : Int))))]]) (let z1 := (↑(List.length l) : Int); let z2 := ordF (List.take (List.length l) l); let z3 := (↑(List.length (cellsU l)) : Int); let z4 := AV.f (FV.sl 1 (cellsU l)); let z5 := Value.int IntKind.u32 (collH z2 z3); (E true ∧ (E z4 ∧ AV.f (FV.sc (Value.int IntKind.u32 (Int.ofNat 1))) = AV.f (FV.sc (Value.int IntKind.u32 (ordF (List.take 0 l)))) ∧ E z4 ∧ AV.f (int z3) = AV.f (int z1) ∧ AV.f (int 0) = AV.f (int (Int.ofNat 0)) ∧ True) ∧ True ∧ E true ∧ (false = true → false = true)) ∧ (∀ (i : Nat), i < List.length l → Br (decide ((i : Int) < z1)) ((E 1 ∧ (0 : Int) ≤ (i : Int) ∧ (cellsU l)[i]? = some [FV.sc (Value.int IntKind.u32 (List.getD l i 0))]) ∧ E true ∧ (E z4 ∧ AV.f (FV.sc (Value.int IntKind.u32 (IntKind.wrap IntKind.u32 (IntKind.wrap IntKind.u32 (31 * ordF (List.take i l)) + List.getD l i 0)))) = AV.f (FV.sc (Value.int IntKind.u32 (ordF (List.take (i + 1) l)))) ∧ E z4 ∧ E (AV.f (int z1)) ∧ AV.f (int (IntKind.wrap IntKind.i64 ((i : Int) + 1))) = AV.f (int (↑(i + 1) : Int)) ∧ True) ∧ True ∧ E true ∧ (St.nd (SrOrd l (i + 1)) = true → false = true)) False) ∧ Br (decide (z1 < z1)) ((E 1 ∧ (0 : Int) ≤ z1 ∧ (cellsU l)[List.length l]? = some [FV.sc (Value.int IntKind.u32 (List.getD l (List.length l) 0))]) ∧ False) (CallsF P g 106 [FV.sc (Value.int IntKind.u32 z2), int z3] (FV.sc z5) ∧ FV.sc z5 = FV.sc (Value.int IntKind.u32 (collH z2 z1)))) get88 ent88 (by kernel_rfl) ?_
  refine ⟨⟨rfl, ⟨rfl, ?_, rfl, ?_, ?_, trivial⟩, trivial, rfl, fun hi => ?_⟩, fun i => fun hlt => ⟨fun hi => ⟨⟨rfl, ?_, ?_⟩, rfl, ⟨rfl, ?_, rfl, rfl, ?_, trivial⟩, trivial, rfl, fun hi => ?_⟩, fun hi => ?_⟩, fun hi => ⟨⟨rfl, ?_, ?_⟩, ?_⟩, fun hi => ⟨?_, ?_⟩⟩
  all_goals first | (simp only [List.take_zero]; kernel_rfl) | exact rcoll_ok _ _ | exact cellsU_get l _ (by omega) | (simp only [cellsU_length, cellsW_length, decide_eq_true_eq, decide_eq_false_iff_not] at *; omega) | (exact congrArg (fun x => AV.f (int x)) (wrapS ((i : Int) + 1) (by omega) (by omega))) | (exact congrArg (fun x => AV.f (.sc (.int .u32 x))) (ordF_step l i (by omega))) | (rw [cellsU_length]) | assumption | (simp [V.kind, V.num, V.text, V.items, *]; done)
theorem get90 : P.funcs[90]? = some Tryz.f90 := by kernel_rfl
theorem ent90 : entersP P 90 = true := by kernel_rfl
theorem runordered_run {g : Gr} (l : List Int) (hl : l.length ≤ 1000000000) : CallsF P g 90 [encU l] (.sc (.int .u32 (collH (unordF (l.take l.length)) (l.length : Int)))) := by
  refine sx_fn (hs := [.loop [] [] (SrUnord l) (List.length l) (fun i => [.br [.el ([FV.sc (Value.int IntKind.u32 (List.getD l i 0))])] []]), .br [.el ([FV.sc (Value.int IntKind.u32 (List.getD l (List.length l) 0))])] [.call (FV.sc (Value.int IntKind.u32 (collH (unordF (List.take (List.length l) l)) (↑(List.length (cellsU l)) : Int))))]]) (let z1 := (↑(List.length l) : Int); let z2 := unordF (List.take (List.length l) l); let z3 := (↑(List.length (cellsU l)) : Int); let z4 := AV.f (FV.sl 1 (cellsU l)); let z5 := Value.int IntKind.u32 (collH z2 z3); (E true ∧ (E z4 ∧ AV.f (FV.sc (Value.int IntKind.u32 (Int.ofNat 0))) = AV.f (FV.sc (Value.int IntKind.u32 (unordF (List.take 0 l)))) ∧ E z4 ∧ AV.f (int z3) = AV.f (int z1) ∧ AV.f (int 0) = AV.f (int (Int.ofNat 0)) ∧ True) ∧ True ∧ E true ∧ (false = true → false = true)) ∧ (∀ (i : Nat), i < List.length l → Br (decide ((i : Int) < z1)) ((E 1 ∧ (0 : Int) ≤ (i : Int) ∧ (cellsU l)[i]? = some [FV.sc (Value.int IntKind.u32 (List.getD l i 0))]) ∧ E true ∧ (E z4 ∧ AV.f (FV.sc (Value.int IntKind.u32 (IntKind.wrap IntKind.u32 (unordF (List.take i l) + List.getD l i 0)))) = AV.f (FV.sc (Value.int IntKind.u32 (unordF (List.take (i + 1) l)))) ∧ E z4 ∧ E (AV.f (int z1)) ∧ AV.f (int (IntKind.wrap IntKind.i64 ((i : Int) + 1))) = AV.f (int (↑(i + 1) : Int)) ∧ True) ∧ True ∧ E true ∧ (St.nd (SrUnord l (i + 1)) = true → false = true)) False) ∧ Br (decide (z1 < z1)) ((E 1 ∧ (0 : Int) ≤ z1 ∧ (cellsU l)[List.length l]? = some [FV.sc (Value.int IntKind.u32 (List.getD l (List.length l) 0))]) ∧ False) (CallsF P g 106 [FV.sc (Value.int IntKind.u32 z2), int z3] (FV.sc z5) ∧ FV.sc z5 = FV.sc (Value.int IntKind.u32 (collH z2 z1)))) get90 ent90 (by kernel_rfl) ?_
  refine ⟨⟨rfl, ⟨rfl, ?_, rfl, ?_, ?_, trivial⟩, trivial, rfl, fun hi => ?_⟩, fun i => fun hlt => ⟨fun hi => ⟨⟨rfl, ?_, ?_⟩, rfl, ⟨rfl, ?_, rfl, rfl, ?_, trivial⟩, trivial, rfl, fun hi => ?_⟩, fun hi => ?_⟩, fun hi => ⟨⟨rfl, ?_, ?_⟩, ?_⟩, fun hi => ⟨?_, ?_⟩⟩
  all_goals first | (simp only [List.take_zero]; kernel_rfl) | exact rcoll_ok _ _ | exact cellsU_get l _ (by omega) | (simp only [cellsU_length, cellsW_length, decide_eq_true_eq, decide_eq_false_iff_not] at *; omega) | (exact congrArg (fun x => AV.f (int x)) (wrapS ((i : Int) + 1) (by omega) (by omega))) | (exact congrArg (fun x => AV.f (.sc (.int .u32 x))) (unordF_step l i (by omega))) | (rw [cellsU_length]) | assumption | (simp [V.kind, V.num, V.text, V.items, *]; done)
theorem get86 : P.funcs[86]? = some Tryz.f86 := by kernel_rfl
theorem ent86 : entersP P 86 = true := by kernel_rfl
theorem rjava_run {g : Gr} (l : List Int) (hl : l.length ≤ 1000000000000000) : CallsF P g 86 [encW l] (.sc (.int .i32 (javaF (l.take l.length)))) := by
  refine sx_fn (hs := [.loop [] [] (SrJava l) (List.length l) (fun i => [.br [.el ([FV.sc (Value.int IntKind.u16 (List.getD l i 0))])] []]), .br [.el ([FV.sc (Value.int IntKind.u16 (List.getD l (List.length l) 0))])] []]) (let z1 := (↑(List.length l) : Int); let z2 := AV.f (FV.sl 1 (cellsW l)); (E true ∧ (E z2 ∧ AV.f (FV.sc (Value.int IntKind.i32 (Int.ofNat 0))) = AV.f (FV.sc (Value.int IntKind.i32 (javaF (List.take 0 l)))) ∧ E z2 ∧ AV.f (int (↑(List.length (cellsW l)) : Int)) = AV.f (int z1) ∧ AV.f (int 0) = AV.f (int (Int.ofNat 0)) ∧ True) ∧ True ∧ E true ∧ (false = true → false = true)) ∧ (∀ (i : Nat), i < List.length l → Br (decide ((i : Int) < z1)) ((E 1 ∧ (0 : Int) ≤ (i : Int) ∧ (cellsW l)[i]? = some [FV.sc (Value.int IntKind.u16 (List.getD l i 0))]) ∧ E true ∧ (E z2 ∧ AV.f (FV.sc (Value.int IntKind.i32 (IntKind.wrap IntKind.i32 (IntKind.wrap IntKind.i32 (31 * javaF (List.take i l)) + IntKind.wrap IntKind.i32 (List.getD l i 0))))) = AV.f (FV.sc (Value.int IntKind.i32 (javaF (List.take (i + 1) l)))) ∧ E z2 ∧ E (AV.f (int z1)) ∧ AV.f (int (IntKind.wrap IntKind.i64 ((i : Int) + 1))) = AV.f (int (↑(i + 1) : Int)) ∧ True) ∧ True ∧ E true ∧ (St.nd (SrJava l (i + 1)) = true → false = true)) False) ∧ Br (decide (z1 < z1)) ((E 1 ∧ (0 : Int) ≤ z1 ∧ (cellsW l)[List.length l]? = some [FV.sc (Value.int IntKind.u16 (List.getD l (List.length l) 0))]) ∧ False) (E (FV.sc (Value.int IntKind.i32 (javaF (List.take (List.length l) l)))))) get86 ent86 (by kernel_rfl) ?_
  refine ⟨⟨rfl, ⟨rfl, ?_, rfl, ?_, ?_, trivial⟩, trivial, rfl, fun hi => ?_⟩, fun i => fun hlt => ⟨fun hi => ⟨⟨rfl, ?_, ?_⟩, rfl, ⟨rfl, ?_, rfl, rfl, ?_, trivial⟩, trivial, rfl, fun hi => ?_⟩, fun hi => ?_⟩, fun hi => ⟨⟨rfl, ?_, ?_⟩, ?_⟩, fun hi => rfl⟩
  all_goals first | (simp only [List.take_zero]; kernel_rfl) | exact cellsW_get l _ (by omega) | (simp only [cellsU_length, cellsW_length, decide_eq_true_eq, decide_eq_false_iff_not] at *; omega) | (exact congrArg (fun x => AV.f (int x)) (wrapS ((i : Int) + 1) (by omega) (by omega))) | (exact congrArg (fun x => AV.f (.sc (.int .i32 x))) (javaF_step l i (by omega))) | (rw [cellsW_length]) | assumption | (simp [V.kind, V.num, V.text, V.items, *]; done)
theorem rlong_ok {g : Gr} (k : Int) : CallsF P g 84 [int k] (.sc (.int .u32 (longH k))) := by
  rw [← longR_eq]; exact rlong_run k
theorem rordered_ok {g : Gr} (l : List Int) (hl : l.length ≤ 1000000000) : CallsF P g 88 [encU l] (.sc (.int .u32 (ordH l))) := by
  have h := rordered_run (g := g) l hl
  rw [List.take_length] at h
  exact h
theorem runordered_ok {g : Gr} (l : List Int) (hl : l.length ≤ 1000000000) : CallsF P g 90 [encU l] (.sc (.int .u32 (unordH l))) := by
  have h := runordered_run (g := g) l hl
  rw [List.take_length] at h
  exact h
theorem rjava_ok {g : Gr} (l : List Int) (hl : l.length ≤ 1000000000000000) : CallsF P g 86 [encW l] (.sc (.int .i32 (javaF l))) := by
  have h := rjava_run (g := g) l hl
  rw [List.take_length] at h
  exact h
theorem get91 : P.funcs[91]? = some Tryz.f91 := by kernel_rfl
theorem ent91 : entersP P 91 = true := by kernel_rfl
theorem rentry_ok {g : Gr} (a b : Int)  : CallsF P g 91 [.sc (.int .u32 a), .sc (.int .u32 b)] (.sc (.int .u32 (ordH [a, b]))) := by
  refine sx_fn (hs := [.lfz [0], .call (FV.sc (Value.int IntKind.u32 (ordH [a, b])))]) (let z1 := FV.sc (Value.int IntKind.u32 (ordH [a, b])); CallsF P g 88 [FV.sl 1 [[FV.sc (Value.int IntKind.u32 a)], [FV.sc (Value.int IntKind.u32 b)]]] z1 ∧ E z1) get91 ent91 (by kernel_rfl) ?_
  refine ⟨?_, rfl⟩
  all_goals exact rordered_ok [a, b] (by simp)
end Go.Sx
set_option maxRecDepth 100000
set_option maxHeartbeats 4000000
set_option linter.unusedSimpArgs false
set_option linter.unusedVariables false
namespace Go.Sx
open Go.Proofs Sp
/-- A letter, by its bytes, where it is right. -/
def codeN (b0 b1 b2 b3 : Nat) : Nat × Nat :=
  if b0 < 128 then (b0, 1) else if b0 < 224 then (b0 % 32 * 64 + b1 % 64, 2) else if b0 < 240 then (b0 % 16 * 4096 + b1 % 64 * 64 + b2 % 64, 3) else (b0 % 8 * 262144 + b1 % 64 * 4096 + b2 % 64 * 64 + b3 % 64, 4)
theorem code_eq {n b0 b1 b2 b3 : Nat} (h : wid (Lib.decodeN n b0 b1 b2 b3) ≠ 0) (h0 : b0 < 256) (hn : 0 < n) : Lib.decodeN n b0 b1 b2 b3 = codeN b0 b1 b2 b3 ∧ (codeN b0 b1 b2 b3).2 ≤ n ∧ (codeN b0 b1 b2 b3).1 ≤ 1114111 := by
  unfold Lib.decodeN codeN at *
  by_cases a : b0 < 128
  · rw [if_pos a, if_pos a]; exact ⟨rfl, hn, by simp only; omega⟩
  · rw [if_neg a] at h ⊢
    rw [if_neg a]
    by_cases b : b0 / 32 = 6 ∧ (1 < n ∧ b1 / 64 = 2)
    · rw [if_pos b] at h ⊢
      rw [if_pos (show b0 < 224 by omega)]
      split at h
      · rename_i h1; rw [if_pos h1]; exact ⟨rfl, by simp only; omega, by simp only; omega⟩
      · exact absurd wid_bad h
    · rw [if_neg b] at h ⊢
      by_cases c : b0 / 16 = 14 ∧ (1 < n ∧ b1 / 64 = 2) ∧ (2 < n ∧ b2 / 64 = 2)
      · rw [if_pos c] at h ⊢
        rw [if_neg (show ¬ b0 < 224 by omega), if_pos (show b0 < 240 by omega)]
        split at h
        · rename_i h1; rw [if_pos h1]; exact ⟨rfl, by simp only; omega, by simp only; omega⟩
        · exact absurd wid_bad h
      · rw [if_neg c] at h ⊢
        by_cases d : b0 / 8 = 30 ∧ (1 < n ∧ b1 / 64 = 2) ∧ (2 < n ∧ b2 / 64 = 2) ∧ (3 < n ∧ b3 / 64 = 2)
        · rw [if_pos d] at h ⊢
          rw [if_neg (show ¬ b0 < 224 by omega), if_neg (show ¬ b0 < 240 by omega)]
          split at h
          · rename_i h1; rw [if_pos h1]; exact ⟨rfl, by simp only; omega, by simp only; omega⟩
          · exact absurd wid_bad h
        · rw [if_neg d] at h
          exact absurd wid_bad h
theorem tmodN (a b : Nat) : Int.tmod (a : Int) (b : Int) = ((a % b : Nat) : Int) := rfl
theorem wN (a : Nat) (h : a ≤ 4611686018427387904) : IntKind.i64.wrap (a : Int) = (a : Int) := wrapS _ (by omega) (by omega)
theorem wM (a b : Nat) (h : a * b ≤ 4611686018427387904) : IntKind.i64.wrap ((a : Int) * (b : Int)) = ((a * b : Nat) : Int) := by rw [← Int.natCast_mul]; exact wN _ h
theorem wA (a b : Nat) (h : a + b ≤ 4611686018427387904) : IntKind.i64.wrap ((a : Int) + (b : Int)) = ((a + b : Nat) : Int) := by rw [← Int.natCast_add]; exact wN _ h
theorem num2 (a b : Nat) (ha : a < 256) (hb : b < 256) : IntKind.i64.wrap (IntKind.i64.wrap ((IntKind.i64.wrap (a : Int)).tmod ((32 : Nat) : Int) * ((64 : Nat) : Int)) + (IntKind.i64.wrap (b : Int)).tmod ((64 : Nat) : Int)) = ((a % 32 * 64 + b % 64 : Nat) : Int) := by
  rw [wN a (by omega), wN b (by omega), tmodN, tmodN, wM _ _ (by omega), wA _ _ (by omega)]
theorem num3 (a b c : Nat) (ha : a < 256) (hb : b < 256) (hc : c < 256) : IntKind.i64.wrap (IntKind.i64.wrap (IntKind.i64.wrap ((IntKind.i64.wrap (a : Int)).tmod ((16 : Nat) : Int) * ((4096 : Nat) : Int)) + IntKind.i64.wrap ((IntKind.i64.wrap (b : Int)).tmod ((64 : Nat) : Int) * ((64 : Nat) : Int))) + (IntKind.i64.wrap (c : Int)).tmod ((64 : Nat) : Int)) = ((a % 16 * 4096 + b % 64 * 64 + c % 64 : Nat) : Int) := by
  rw [wN a (by omega), wN b (by omega), wN c (by omega), tmodN, tmodN, tmodN, wM _ _ (by omega), wM _ _ (by omega), wA _ _ (by omega), wA _ _ (by omega)]
theorem num4 (a b c d : Nat) (ha : a < 256) (hb : b < 256) (hc : c < 256) (hd : d < 256) : IntKind.i64.wrap (IntKind.i64.wrap (IntKind.i64.wrap (IntKind.i64.wrap ((IntKind.i64.wrap (a : Int)).tmod ((8 : Nat) : Int) * ((262144 : Nat) : Int)) + IntKind.i64.wrap ((IntKind.i64.wrap (b : Int)).tmod ((64 : Nat) : Int) * ((4096 : Nat) : Int))) + IntKind.i64.wrap ((IntKind.i64.wrap (c : Int)).tmod ((64 : Nat) : Int) * ((64 : Nat) : Int))) + (IntKind.i64.wrap (d : Int)).tmod ((64 : Nat) : Int)) = ((a % 8 * 262144 + b % 64 * 4096 + c % 64 * 64 + d % 64 : Nat) : Int) := by
  rw [wN a (by omega), wN b (by omega), wN c (by omega), wN d (by omega), tmodN, tmodN, tmodN, tmodN, wM _ _ (by omega), wM _ _ (by omega), wM _ _ (by omega), wA _ _ (by omega), wA _ _ (by omega), wA _ _ (by omega)]
theorem get105 : P.funcs[105]? = some Tryz.f105 := by kernel_rfl
theorem ent105 : entersP P 105 = true := by kernel_rfl
theorem code_1 (z : ByteArray) (hz : 0 < z.size) (h : strAt z 0 < 128) : CallsF P G 105 [.sc (.string z)] (.tup [int ((strAt z 0 : Nat) : Int), int 1]) := by
  refine sx_fn (hs := [.dec true]) (let z1 := (↑(strAt z (Int.toNat 0)) : Int); ((0 : Int) ≤ 0 ∧ (0 : Nat) < ByteArray.size z) ∧ decide (IntKind.wrap IntKind.i64 z1 < 128) = true ∧ FV.tup [int (IntKind.wrap IntKind.i64 z1), int 1] = FV.tup [int (↑(strAt z 0) : Int), int 1]) get105 ent105 (by kernel_rfl) ?_
  refine ⟨⟨?_, ?_⟩, ?_, ?_⟩
  all_goals first | (exact congrArg (fun x => FV.tup [int x, int 1]) (wN _ (by have := strAt_lt z 0; exact Nat.le_trans (Nat.le_of_lt this) (by omega)))) | (have b0 := strAt_lt z 0; have e : IntKind.i64.wrap ((strAt z 0 : Nat) : Int) = ((strAt z 0 : Nat) : Int) := wN _ (by omega); show decide (IntKind.i64.wrap ((strAt z 0 : Nat) : Int) < _) = _; rw [e]; simp only [decide_eq_true_eq, decide_eq_false_iff_not]; omega) | omega
theorem code_2 (z : ByteArray) (hz : 1 < z.size) (h : 128 ≤ strAt z 0 ∧ strAt z 0 < 224) : CallsF P G 105 [.sc (.string z)] (.tup [int ((strAt z 0 % 32 * 64 + strAt z 1 % 64 : Nat) : Int), int 2]) := by
  refine sx_fn (hs := [.dec false, .dec true]) (let z1 := (↑(strAt z (Int.toNat 0)) : Int); ((0 : Int) ≤ 0 ∧ (0 : Nat) < ByteArray.size z) ∧ decide (IntKind.wrap IntKind.i64 z1 < 128) = false ∧ decide (IntKind.wrap IntKind.i64 z1 < 224) = true ∧ ((0 : Int) ≤ 1 ∧ (1 : Nat) < ByteArray.size z) ∧ FV.tup [int (IntKind.wrap IntKind.i64 (IntKind.wrap IntKind.i64 (Int.tmod (IntKind.wrap IntKind.i64 z1) 32 * 64) + Int.tmod (IntKind.wrap IntKind.i64 (↑(strAt z (Int.toNat 1)) : Int)) 64)), int 2] = FV.tup [int (↑(strAt z 0 % 32 * 64 + strAt z 1 % 64) : Int), int 2]) get105 ent105 (by kernel_rfl) ?_
  refine ⟨⟨?_, ?_⟩, ?_, ?_, ⟨?_, ?_⟩, ?_⟩
  all_goals first | (exact congrArg (fun x => FV.tup [int x, int 2]) (num2 _ _ (strAt_lt z 0) (strAt_lt z 1))) | (have b0 := strAt_lt z 0; have e : IntKind.i64.wrap ((strAt z 0 : Nat) : Int) = ((strAt z 0 : Nat) : Int) := wN _ (by omega); show decide (IntKind.i64.wrap ((strAt z 0 : Nat) : Int) < _) = _; rw [e]; simp only [decide_eq_true_eq, decide_eq_false_iff_not]; omega) | omega
theorem code_3 (z : ByteArray) (hz : 2 < z.size) (h : 224 ≤ strAt z 0 ∧ strAt z 0 < 240) : CallsF P G 105 [.sc (.string z)] (.tup [int ((strAt z 0 % 16 * 4096 + strAt z 1 % 64 * 64 + strAt z 2 % 64 : Nat) : Int), int 3]) := by
  refine sx_fn (hs := [.dec false, .dec false, .dec true, .nat 16]) (let z1 := (↑(strAt z (Int.toNat 0)) : Int); ((0 : Int) ≤ 0 ∧ (0 : Nat) < ByteArray.size z) ∧ decide (IntKind.wrap IntKind.i64 z1 < 128) = false ∧ decide (IntKind.wrap IntKind.i64 z1 < 224) = false ∧ decide (IntKind.wrap IntKind.i64 z1 < 240) = true ∧ E true ∧ ((0 : Int) ≤ 1 ∧ (1 : Nat) < ByteArray.size z) ∧ ((0 : Int) ≤ 2 ∧ (2 : Nat) < ByteArray.size z) ∧ FV.tup [int (IntKind.wrap IntKind.i64 (IntKind.wrap IntKind.i64 (IntKind.wrap IntKind.i64 (Int.tmod (IntKind.wrap IntKind.i64 z1) 16 * 4096) + IntKind.wrap IntKind.i64 (Int.tmod (IntKind.wrap IntKind.i64 (↑(strAt z (Int.toNat 1)) : Int)) 64 * 64)) + Int.tmod (IntKind.wrap IntKind.i64 (↑(strAt z (Int.toNat 2)) : Int)) 64)), int 3] = FV.tup [int (↑(strAt z 0 % 16 * 4096 + strAt z 1 % 64 * 64 + strAt z 2 % 64) : Int), int 3]) get105 ent105 (by kernel_rfl) ?_
  refine ⟨⟨?_, ?_⟩, ?_, ?_, ?_, rfl, ⟨?_, ?_⟩, ⟨?_, ?_⟩, ?_⟩
  all_goals first | (exact congrArg (fun x => FV.tup [int x, int 3]) (num3 _ _ _ (strAt_lt z 0) (strAt_lt z 1) (strAt_lt z 2))) | (have b0 := strAt_lt z 0; have e : IntKind.i64.wrap ((strAt z 0 : Nat) : Int) = ((strAt z 0 : Nat) : Int) := wN _ (by omega); show decide (IntKind.i64.wrap ((strAt z 0 : Nat) : Int) < _) = _; rw [e]; simp only [decide_eq_true_eq, decide_eq_false_iff_not]; omega) | omega
theorem code_4 (z : ByteArray) (hz : 3 < z.size) (h : 240 ≤ strAt z 0) : CallsF P G 105 [.sc (.string z)] (.tup [int ((strAt z 0 % 8 * 262144 + strAt z 1 % 64 * 4096 + strAt z 2 % 64 * 64 + strAt z 3 % 64 : Nat) : Int), int 4]) := by
  refine sx_fn (hs := [.dec false, .dec false, .dec false, .nat 22]) (let z1 := (↑(strAt z (Int.toNat 0)) : Int); ((0 : Int) ≤ 0 ∧ (0 : Nat) < ByteArray.size z) ∧ decide (IntKind.wrap IntKind.i64 z1 < 128) = false ∧ decide (IntKind.wrap IntKind.i64 z1 < 224) = false ∧ decide (IntKind.wrap IntKind.i64 z1 < 240) = false ∧ E true ∧ ((0 : Int) ≤ 1 ∧ (1 : Nat) < ByteArray.size z) ∧ ((0 : Int) ≤ 2 ∧ (2 : Nat) < ByteArray.size z) ∧ ((0 : Int) ≤ 3 ∧ (3 : Nat) < ByteArray.size z) ∧ FV.tup [int (IntKind.wrap IntKind.i64 (IntKind.wrap IntKind.i64 (IntKind.wrap IntKind.i64 (IntKind.wrap IntKind.i64 (Int.tmod (IntKind.wrap IntKind.i64 z1) 8 * 262144) + IntKind.wrap IntKind.i64 (Int.tmod (IntKind.wrap IntKind.i64 (↑(strAt z (Int.toNat 1)) : Int)) 64 * 4096)) + IntKind.wrap IntKind.i64 (Int.tmod (IntKind.wrap IntKind.i64 (↑(strAt z (Int.toNat 2)) : Int)) 64 * 64)) + Int.tmod (IntKind.wrap IntKind.i64 (↑(strAt z (Int.toNat 3)) : Int)) 64)), int 4] = FV.tup [int (↑(strAt z 0 % 8 * 262144 + strAt z 1 % 64 * 4096 + strAt z 2 % 64 * 64 + strAt z 3 % 64) : Int), int 4]) get105 ent105 (by kernel_rfl) ?_
  refine ⟨⟨?_, ?_⟩, ?_, ?_, ?_, rfl, ⟨?_, ?_⟩, ⟨?_, ?_⟩, ⟨?_, ?_⟩, ?_⟩
  all_goals first | (exact congrArg (fun x => FV.tup [int x, int 4]) (num4 _ _ _ _ (strAt_lt z 0) (strAt_lt z 1) (strAt_lt z 2) (strAt_lt z 3))) | (have b0 := strAt_lt z 0; have e : IntKind.i64.wrap ((strAt z 0 : Nat) : Int) = ((strAt z 0 : Nat) : Int) := wN _ (by omega); show decide (IntKind.i64.wrap ((strAt z 0 : Nat) : Int) < _) = _; rw [e]; simp only [decide_eq_true_eq, decide_eq_false_iff_not]; omega) | omega
end Go.Sx
set_option maxRecDepth 100000
set_option maxHeartbeats 4000000
set_option linter.unusedSimpArgs false
set_option linter.unusedVariables false
namespace Go.Sx
open Go.Proofs Sp
def SrUnits (R : Nat → ByteArray) (U : Nat → List (List FV)) (i : Nat) : St := { sl := slots 38 [(0, .f (.sc (.string (R i)))), (3, .lsl 0)], ob := [(0, .row 1 133 (U i))], nx := 1 }
theorem strAt_rest (s : ByteArray) (p k : Nat) : strAt (s.extract p s.size) k = strAt s (p + k) := by rw [← strAt_get, ← strAt_get, get_extract]
theorem size_rest (s : ByteArray) (p : Nat) : (s.extract p s.size).size = s.size - p := by rw [ByteArray.size_extract, Nat.min_self]
theorem decode_code (s : ByteArray) (p : Nat) (hp : p < s.size) (h : refU s p ≠ 0) : Utf8.decode s p = codeN (strAt s p) (strAt s (p + 1)) (strAt s (p + 2)) (strAt s (p + 3)) ∧ p + (Utf8.decode s p).2 ≤ s.size ∧ (Utf8.decode s p).1 ≤ 1114111 := by
  rw [refU_eq, Lib.decode_at] at h
  simp only [strAt_get] at h
  have e := code_eq h (strAt_lt _ _) (by omega)
  rw [Lib.decode_at]
  simp only [strAt_get]
  rw [e.1]
  exact ⟨rfl, by omega, e.2.2⟩
theorem code_ok (s : ByteArray) (p : Nat) (hp : p < s.size) (h : refU s p ≠ 0) : CallsF P G 105 [.sc (.string (s.extract p s.size))] (.tup [int (((Utf8.decode s p).1 : Nat) : Int), int (((Utf8.decode s p).2 : Nat) : Int)]) := by
  obtain ⟨e, e2, _⟩ := decode_code s p hp h
  have hz := size_rest s p
  have z0 := strAt_rest s p 0
  have z1 := strAt_rest s p 1
  have z2 := strAt_rest s p 2
  have z3 := strAt_rest s p 3
  rw [Nat.add_zero] at z0
  rw [e] at e2 ⊢
  unfold codeN at e2 ⊢
  by_cases a : strAt s p < 128
  · rw [if_pos a] at e2 ⊢
    have h1 := code_1 (s.extract p s.size) (by omega) (by omega)
    rw [z0] at h1; exact h1
  · rw [if_neg a] at e2 ⊢
    by_cases b : strAt s p < 224
    · rw [if_pos b] at e2 ⊢
      simp only at e2
      have h1 := code_2 (s.extract p s.size) (by omega) (by omega)
      rw [z0, z1] at h1; exact h1
    · rw [if_neg b] at e2 ⊢
      by_cases c : strAt s p < 240
      · rw [if_pos c] at e2 ⊢
        simp only at e2
        have h1 := code_3 (s.extract p s.size) (by omega) (by omega)
        rw [z0, z1, z2] at h1; exact h1
      · rw [if_neg c] at e2 ⊢
        simp only at e2
        have h1 := code_4 (s.extract p s.size) (by omega) (by omega)
        rw [z0, z1, z2, z3] at h1; exact h1
def hiR (c : Int) : Int := IntKind.u16.wrap (IntKind.i64.wrap (55296 + IntKind.i64.wrap ((IntKind.i64.wrap (c - 65536)).tdiv 1024)))
def loR (c : Int) : Int := IntKind.u16.wrap (IntKind.i64.wrap (56320 + (IntKind.i64.wrap (c - 65536)).tmod 1024))
theorem w32s (n : Int) (h : 0 ≤ n) (h2 : n ≤ 2147483647) : IntKind.i32.wrap n = n := by
  simp only [IntKind.wrap, IntKind.signed, IntKind.bits]; simp; omega
theorem bvN (a : Nat) (h : a < 4294967296) : (BitVec.ofInt IntKind.i32.bits (a : Int)).toNat = a := by
  rw [BitVec.toNat_ofInt, show ((2 ^ IntKind.i32.bits : Nat) : Int) = 4294967296 from by decide]
  omega
theorem hi_eq (c : Nat) (h : 65536 ≤ c) (h2 : c ≤ 1114111) : hi16 (c : Int) = hiR (c : Int) := by
  unfold hi16 hiR
  obtain ⟨m, rfl⟩ : ∃ m, c = 65536 + m := ⟨c - 65536, by omega⟩
  rw [show (((65536 + m : Nat) : Int) - 65536) = ((m : Nat) : Int) from by omega, w32s ((m : Nat) : Int) (by omega) (by omega), wN m (by omega)]
  rw [show Int.fdiv ((m : Nat) : Int) (2 ^ 10) = ((m / 1024 : Nat) : Int) from by rw [Int.fdiv_eq_ediv_of_nonneg _ (by omega)]; omega]
  rw [show Int.tdiv ((m : Nat) : Int) 1024 = ((m / 1024 : Nat) : Int) from rfl, wN _ (by omega)]
  rw [BitVec.toNat_or, show (BitVec.ofInt IntKind.i32.bits (55296 : Int)).toNat = 55296 from by decide, bvN _ (by omega)]
  have e := Nat.two_pow_add_eq_or_of_lt (i := 10) (b := m / 1024) (by omega) 54
  rw [show (55296 : Nat) = 2 ^ 10 * 54 from by decide, ← e]
  rw [w32s _ (by omega) (by omega)]
  rw [show (55296 : Int) + ((m / 1024 : Nat) : Int) = ((55296 + m / 1024 : Nat) : Int) from by omega, wN _ (by omega)]
theorem lo_eq (c : Nat) (h : 65536 ≤ c) (h2 : c ≤ 1114111) : lo16 (c : Int) = loR (c : Int) := by
  unfold lo16 loR
  obtain ⟨m, rfl⟩ : ∃ m, c = 65536 + m := ⟨c - 65536, by omega⟩
  rw [show (((65536 + m : Nat) : Int) - 65536) = ((m : Nat) : Int) from by omega, w32s ((m : Nat) : Int) (by omega) (by omega), wN m (by omega)]
  rw [show Int.tmod ((m : Nat) : Int) 1024 = ((m % 1024 : Nat) : Int) from rfl]
  rw [BitVec.toNat_and, bvN m (by omega), show (BitVec.ofInt IntKind.i32.bits (1023 : Int)).toNat = 2 ^ 10 - 1 from by decide, Nat.and_two_pow_sub_one_eq_mod, show (2 : Nat) ^ 10 = 1024 from rfl]
  rw [w32s ((m % 1024 : Nat) : Int) (by omega) (by omega), BitVec.toNat_or, show (BitVec.ofInt IntKind.i32.bits (56320 : Int)).toNat = 56320 from by decide, bvN _ (by omega)]
  have e := Nat.two_pow_add_eq_or_of_lt (i := 10) (b := m % 1024) (by omega) 55
  rw [show (56320 : Nat) = 2 ^ 10 * 55 from by decide, ← e]
  rw [w32s _ (by omega) (by omega)]
  rw [show (56320 : Int) + ((m % 1024 : Nat) : Int) = ((56320 + m % 1024 : Nat) : Int) from by omega, wN _ (by omega)]
theorem rstep1 (s : ByteArray) (i : Nat) (hp : posAt s i < s.size) (hr : refU s (posAt s i) ≠ 0) (h : decide ((((Utf8.decode s (posAt s i)).1 : Nat) : Int) > 65535) = true) : cellsW (unitsL s i) ++ [[.sc (.int .u16 (hiR ((Utf8.decode s (posAt s i)).1 : Nat)))], [.sc (.int .u16 (loR ((Utf8.decode s (posAt s i)).1 : Nat)))]] = cellsW (unitsL s (i + 1)) := by
  have h1 := of_decide_eq_true h
  have h2 := (decode_code s _ hp hr).2.2
  rw [← units_step1 s i h1, hi_eq _ (by omega) h2, lo_eq _ (by omega) h2]
  simp
theorem rest_step (s : ByteArray) (i : Nat) (hp : posAt s i < s.size) (hr : refU s (posAt s i) ≠ 0) : (s.extract (posAt s i) s.size).extract (Utf8.decode s (posAt s i)).2 (s.extract (posAt s i) s.size).size = s.extract (posAt s (i + 1)) s.size := by
  have h2 := (decode_code s _ hp hr).2.1
  rw [ByteArray.extract_extract, size_rest]
  rw [show min (posAt s i + (s.size - posAt s i)) s.size = s.size from by omega]
  rfl
theorem get87 : P.funcs[87]? = some Tryz.f87 := by kernel_rfl
theorem ent87 : entersP P 87 = true := by kernel_rfl
theorem runits_gen (s : ByteArray) (R : Nat → ByteArray) (c w : Nat → Nat) (U : Nat → List (List FV)) (N : Nat) (h0 : R 0 = s) (hU0 : U 0 = []) (hpos : ∀ i, i < N → 0 < (R i).size) (hend : (R N).size = 0) (hcode : ∀ i, i < N → CallsF P G 105 [.sc (.string (R i))] (.tup [int (c i : Int), int (w i : Int)])) (hw : ∀ i, i < N → w i ≤ (R i).size) (hnext : ∀ i, i < N → (R i).extract (w i) (R i).size = R (i + 1)) (hrow1 : ∀ i, i < N → (c i : Int) > 65535 → U i ++ [[.sc (.int .u16 (hiR (c i)))], [.sc (.int .u16 (loR (c i)))]] = U (i + 1)) (hrow2 : ∀ i, i < N → ¬ (c i : Int) > 65535 → U i ++ [[.sc (.int .u16 (IntKind.u16.wrap (c i)))]] = U (i + 1)) (hlen : ∀ i, i ≤ N → (U i).length ≤ 2000000) : CallsF P G 87 [.sc (.string s)] (.sl 1 (U N)) := by
  refine sx_fn (hs := [.pre [.nrow 3 1 133], .loop [(0, 0)] [(2, 0)] (SrUnits R U) N (fun i => [.dec true, .call (.tup [int (c i : Int), int (w i : Int)]), .br [] []]), .dec false, .lfz [0]]) (let z1 := TypeInfo.size (Tables.types (Program.toTables P))[133]; (E true ∧ (AV.f (FV.sc (Value.string s)) = AV.f (FV.sc (Value.string (R 0))) ∧ E (AV.lsl 0) ∧ True) ∧ (Ob.row 1 133 [] = Ob.row 1 133 (U 0) ∧ True) ∧ E true ∧ (false = true → false = true)) ∧ (∀ (i : Nat), (let z4 := Value.int IntKind.u16 (IntKind.wrap IntKind.u16 (↑(c i) : Int)); let z6 := (↑(ByteArray.size (R i)) : Int); let z5 := AV.f (FV.sc (Value.string (ByteArray.extract (R i) (w i) (Int.toNat (Option.getD none z6))))) = AV.f (FV.sc (Value.string (R (i + 1)))) ∧ E (AV.lsl 0) ∧ True; let z7 := IntKind.wrap IntKind.i64 ((↑(c i) : Int) - 65536); let z2 := Value.int IntKind.u16 (IntKind.wrap IntKind.u16 (IntKind.wrap IntKind.i64 (55296 + IntKind.wrap IntKind.i64 (Int.tdiv z7 1024)))); let z3 := Value.int IntKind.u16 (IntKind.wrap IntKind.u16 (IntKind.wrap IntKind.i64 (56320 + Int.tmod z7 1024))); i < N → decide (z6 > 0) = true ∧ CallsF P G 105 [FV.sc (Value.string (R i))] (FV.tup [int (↑(c i) : Int), int (↑(w i) : Int)]) ∧ ((0 : Int) ≤ (↑(w i) : Int) ∧ (↑(w i) : Int) ≤ Option.getD none z6 ∧ Option.getD none z6 ≤ z6) ∧ Br (decide ((↑(c i) : Int) > 65535)) ((oneF ([[FV.sc z2], [FV.sc z3]]) ∧ List.length (U i) + List.length (chunk 1 2 [fV z2, fV z3]) ≤ maxLen ∧ (List.length (U i) + List.length (chunk 1 2 [fV z2, fV z3])) * 2 ≤ 140737488355328 ∧ E false) ∧ E true ∧ z5 ∧ (Ob.row 1 133 (U i ++ chunk z1 2 [fV z2, fV z3]) = Ob.row 1 133 (U (i + 1)) ∧ True) ∧ E true ∧ (false = true → false = true)) ((oneF ([[FV.sc z4]]) ∧ List.length (U i) + List.length (chunk 1 1 [fV z4]) ≤ maxLen ∧ (List.length (U i) + List.length (chunk 1 1 [fV z4])) * 2 ≤ 140737488355328 ∧ E false) ∧ E true ∧ z5 ∧ (Ob.row 1 133 (U i ++ chunk z1 1 [fV z4]) = Ob.row 1 133 (U (i + 1)) ∧ True) ∧ E true ∧ (false = true → false = true)))) ∧ decide ((↑(ByteArray.size (R N)) : Int) > 0) = false ∧ E (FV.sl 1 (U N))) get87 ent87 (by kernel_rfl) ?_
  refine ⟨⟨rfl, ⟨?_, rfl, trivial⟩, ⟨?_, trivial⟩, rfl, fun hi => ?_⟩, fun i => fun hi => ⟨?_, ?_, ⟨?_, ?_, ?_⟩, fun hi => ⟨⟨?_, ?_, ?_, rfl⟩, rfl, ⟨?_, rfl, trivial⟩, ⟨?_, trivial⟩, rfl, fun hi => ?_⟩, fun hi => ⟨⟨?_, ?_, ?_, rfl⟩, rfl, ⟨?_, rfl, trivial⟩, ⟨?_, trivial⟩, rfl, fun hi => ?_⟩⟩, ?_, rfl⟩
  all_goals first | (rw [h0]) | (rw [hU0]) | (have h3 := hpos i (by assumption); simp only [decide_eq_true_eq]; omega) | (simp only [decide_eq_false_iff_not]; omega) | exact hcode i (by assumption) | (have h4 := hw i (by assumption); show ((w i : Nat) : Int) ≤ (((R i).size : Nat) : Int); omega) | (exact congrArg (fun x => AV.f (.sc (.string x))) (hnext i (by assumption))) | (exact congrArg (Ob.row 1 133) (hrow1 i (by assumption) (of_decide_eq_true (by assumption)))) | (exact congrArg (Ob.row 1 133) (hrow2 i (by assumption) (of_decide_eq_false (by assumption)))) | (have h1 := hlen i (by omega); simp only [chunk, List.length_cons, List.length_nil, maxLen]; omega) | assumption | omega | (intro x hx; simp at hx; rcases hx with rfl | rfl | rfl | rfl <;> rfl) | (simp [V.kind, V.num, V.text, V.items, *]; done)
theorem runits_run (s : ByteArray) (N : Nat) (hs : s.size ≤ 1000000) (h : ∀ i, i < N → posAt s i < s.size ∧ refU s (posAt s i) ≠ 0) (hN : ¬ posAt s N < s.size) : CallsF P G 87 [.sc (.string s)] (.sl 1 (cellsW (unitsL s N))) := by
  refine runits_gen s (fun i => s.extract (posAt s i) s.size) (fun i => (Utf8.decode s (posAt s i)).1) (fun i => (Utf8.decode s (posAt s i)).2) (fun i => cellsW (unitsL s i)) N ByteArray.extract_zero_size rfl ?_ ?_ ?_ ?_ ?_ ?_ ?_ ?_
  · intro i hi; have := (h i hi).1; simp only [size_rest]; omega
  · simp only [size_rest]; omega
  · intro i hi; exact code_ok s _ (h i hi).1 (h i hi).2
  · intro i hi; have := (decode_code s _ (h i hi).1 (h i hi).2).2.1; simp only [size_rest]; omega
  · intro i hi; exact rest_step s i (h i hi).1 (h i hi).2
  · intro i hi hc; exact rstep1 s i (h i hi).1 (h i hi).2 (decide_eq_true hc)
  · intro i hi hc; exact units_step2 s i hc
  · intro i hi
    have h1 := units_len s i
    rw [cellsW_length]
    rcases Nat.eq_zero_or_pos i with rfl | h0
    · omega
    · have h2 := posAt_ge s (i - 1)
      have h3 := (h (i - 1) (by omega)).1
      omega
end Go.Sx
set_option maxRecDepth 100000
set_option maxHeartbeats 4000000
set_option linter.unusedSimpArgs false
set_option linter.unusedVariables false
namespace Go.Sx
open Go.Proofs Sp
noncomputable def Seach (l : List V) (i : Nat) : St := { sl := slots 20 [(0, .f (encI l)), (3, .lsl 0), (4, .f (int (i : Int)))], ob := [(0, .row 1 100 (cellsU (fullHs (l.take i))))], nx := 1 }
def SWhole (h : List Int) (i : Nat) : St := { sl := slots 64 [(3, .f (encU h)), (4, .lsl 0), (5, .f (int ((2 * i : Nat) : Int)))], ob := [(0, .row 1 100 (cellsU (entriesH (h.take (2 * i)))))], nx := 1 }
theorem runits_ok (s : List UInt8) (hs : s.length ≤ 1000) (hu : utfB ⟨s.toArray⟩ = true) : CallsF P G 87 [.sc (.string ⟨s.toArray⟩)] (encW (unitsOf ⟨s.toArray⟩)) := by
  obtain ⟨h1, h2⟩ := letters_spec ⟨s.toArray⟩
  exact runits_run ⟨s.toArray⟩ (lettersN ⟨s.toArray⟩) (by rw [size_mk]; omega) (fun i hi => ⟨h2 i hi, fun h => (utfB_iff.1 hu i (h2 i hi)) ((bad_refU _ _ (h2 i hi)).2 h)⟩) h1
theorem get89 : P.funcs[89]? = some Tryz.f89 := by kernel_rfl
theorem ent89 : entersP P 89 = true := by kernel_rfl
theorem each_run (l : List V) (hl : l.length ≤ 1000000) (ih : ∀ i, i < l.length → CallsF P G 66 [encV (l.getD i default)] (.sc (.int .u32 (fullH (l.getD i default))))) : CallsF P G 89 [encI l] (.sl 1 (cellsU (fullHs (l.take l.length)))) := by
  refine sx_fn (hs := let z1 := List.getD l (List.length l) default; [Hint.pre [Hint.nrow 3 1 100], .loop [(0, 0)] [(2, 0)] (Seach l) (List.length l) (fun i => [.br [.el (cellsP (List.getD l i default)), .call (FV.sc (Value.int IntKind.u32 (fullH (List.getD l i default))))] []]), .br [.el (cellsP z1), .call (FV.sc (Value.int IntKind.u32 (fullH z1)))] [.lfz [0]]]) (let z2 := cellsU (fullHs (List.take (List.length l) l)); let z3 := List.getD l (List.length l) default; let z1 := Value.int IntKind.u32 (fullH z3); let z4 := (↑(List.length (cellsVs l)) : Int); (E true ∧ (E (AV.f (encI l)) ∧ E (AV.lsl 0) ∧ AV.f (int 0) = AV.f (int (Int.ofNat 0)) ∧ True) ∧ (E (Ob.row 1 100 []) ∧ True) ∧ E true ∧ (false = true → false = true)) ∧ (∀ (i : Nat), (let z6 := fullHs (List.take i l); let z7 := List.getD l i default; let z5 := Value.int IntKind.u32 (fullH z7); i < List.length l → Br (decide ((i : Int) < z4)) ((E 4 ∧ (0 : Int) ≤ (i : Int) ∧ (cellsVs l)[i]? = some (cellsP z7)) ∧ CallsF P G 66 [encV z7] (FV.sc z5) ∧ (oneF ([[FV.sc z5]]) ∧ List.length (cellsU z6) + List.length (chunk 1 1 [FV.sc z5]) ≤ maxLen ∧ (List.length (cellsU z6) + List.length (chunk 1 1 [FV.sc z5])) * 4 ≤ 140737488355328 ∧ E false) ∧ E true ∧ (E (AV.f (encI l)) ∧ E (AV.lsl 0) ∧ AV.f (int (IntKind.wrap IntKind.i64 ((i : Int) + 1))) = AV.f (int (↑(i + 1) : Int)) ∧ True) ∧ (Ob.row 1 100 (cellsU z6 ++ chunk (TypeInfo.size (Tables.types (Program.toTables P))[100]) 1 [FV.sc z5]) = Ob.row 1 100 (cellsU (fullHs (List.take (i + 1) l))) ∧ True) ∧ E true ∧ (St.nd (Seach l (i + 1)) = true → false = true)) False)) ∧ Br (decide ((↑(List.length l) : Int) < z4)) ((E 4 ∧ (0 : Int) ≤ (↑(List.length l) : Int) ∧ (cellsVs l)[List.length l]? = some (cellsP z3)) ∧ CallsF P G 66 [encV z3] (FV.sc z1) ∧ (oneF ([[FV.sc z1]]) ∧ List.length z2 + List.length (chunk 1 1 [FV.sc z1]) ≤ maxLen ∧ (List.length z2 + List.length (chunk 1 1 [FV.sc z1])) * 4 ≤ 140737488355328 ∧ E false) ∧ False) (E (FV.sl 1 z2))) get89 ent89 (by kernel_rfl) ?_
  refine ⟨⟨rfl, ⟨rfl, rfl, ?_, trivial⟩, ⟨rfl, trivial⟩, rfl, fun hi => ?_⟩, fun i => fun hlt => ⟨fun hi => ⟨⟨rfl, ?_, ?_⟩, ?_, ⟨?_, ?_, ?_, rfl⟩, rfl, ⟨rfl, rfl, ?_, trivial⟩, ⟨?_, trivial⟩, rfl, fun hi => ?_⟩, fun hi => ?_⟩, fun hi => ⟨⟨rfl, ?_, ?_⟩, ?_, ⟨?_, ?_, ?_, rfl⟩, ?_⟩, fun hi => rfl⟩
  all_goals first | exact ih i (by omega) | exact cellsVs_get l _ (by omega) | (exact congrArg (Ob.row 1 100) (all_step l i (by omega))) | (simp only [all_len l i (by omega), chunk, List.length_cons, List.length_nil, maxLen]; omega) | (simp only [cellsVs_length, decide_eq_true_eq, decide_eq_false_iff_not] at *; omega) | (exact congrArg (fun x => AV.f (int x)) (wrapS ((i : Int) + 1) (by omega) (by omega))) | (simp [oneF]; done) | assumption | (intro x hx; simp at hx; rcases hx with rfl | rfl | rfl | rfl <;> rfl)
theorem each_ok (l : List V) (hl : l.length ≤ 1000000) (ih : ∀ x, x ∈ l → CallsF P G 66 [encV x] (.sc (.int .u32 (fullH x)))) : CallsF P G 89 [encI l] (encU (fullHs l)) := by
  have h := each_run l hl (fun i hi => ih _ (by rw [List.getD_eq_getElem?_getD, List.getElem?_eq_getElem hi]; exact List.getElem_mem hi))
  rw [List.take_length] at h
  exact h
theorem get66 : P.funcs[66]? = some Tryz.f66 := by kernel_rfl
theorem ent66 : entersP P 66 = true := by kernel_rfl
theorem whole_leaf (k n : Int) (s : List UInt8) (l : List V) (h6 : k ≠ 6) (hs : k = 3 → s.length ≤ 1000 ∧ utfB ⟨s.toArray⟩ = true) (hl : l.length ≤ 1000000) (ha : CallsF P G 89 [encI l] (encU (fullHs l))) : CallsF P G 66 [encV (.mk k n s l)] (.sc (.int .u32 (hashK k n s (fullHs l)))) := by
  refine sx_fn (hs := let z1 := javaF (unitsOf ⟨s.toArray⟩); [.br [.br [] []] [.br [.call (.sc (.int .u32 (longH n)))] [.br [.call (encW (unitsOf ⟨s.toArray⟩)), .call (.sc (.int .i32 z1)), .call (.sc (.int .u32 (intH z1)))] [.br [.call (encU (fullHs l)), .call (.sc (.int .u32 (ordH (fullHs l))))] [.br [.call (encU (fullHs l)), .call (.sc (.int .u32 (unordH (fullHs l))))] [.dec false]]]]]]) (let z1 := Value.int IntKind.u32 (hashK k n s (fullHs l)); let z2 := Value.int IntKind.u32 (unordH (fullHs l)); let z3 := Value.int IntKind.u32 (ordH (fullHs l)); let z4 := Value.int IntKind.u32 (longH n); let z5 := FV.sl 1 (cellsU (fullHs l)); Br (k == 1) (Br (n == 1) (FV.sc (Value.int IntKind.u32 (Int.ofNat 1231)) = FV.sc z1) (FV.sc (Value.int IntKind.u32 (Int.ofNat 1237)) = FV.sc z1)) (Br (k == 2) (CallsF P G 84 [int n] (FV.sc z4) ∧ FV.sc z4 = FV.sc z1) (Br (k == 3) (CallsF P G 87 [str s] (FV.sl 1 (cellsW (unitsOf { data := List.toArray s }))) ∧ CallsF P G 86 [FV.sl 1 (cellsW (unitsOf { data := List.toArray s }))] (FV.sc (Value.int IntKind.i32 (javaF (unitsOf { data := List.toArray s })))) ∧ CallsF P G 85 [FV.sc (Value.int IntKind.i32 (javaF (unitsOf { data := List.toArray s })))] (FV.sc (Value.int IntKind.u32 (intH (javaF (unitsOf { data := List.toArray s }))))) ∧ FV.sc (Value.int IntKind.u32 (intH (javaF (unitsOf { data := List.toArray s })))) = FV.sc z1) (Br (k == 4) (CallsF P G 89 [encI l] z5 ∧ CallsF P G 88 [FV.sl 1 (cellsU (fullHs l))] (FV.sc z3) ∧ FV.sc z3 = FV.sc z1) (Br (k == 5) (CallsF P G 89 [encI l] z5 ∧ CallsF P G 90 [FV.sl 1 (cellsU (fullHs l))] (FV.sc z2) ∧ FV.sc z2 = FV.sc z1) ((k == 6) = false ∧ FV.sc (Value.int IntKind.u32 (Int.ofNat 0)) = FV.sc z1)))))) get66 ent66 (by kernel_rfl) ?_
  refine ⟨fun hi => ⟨fun hi => ?_, fun hi => ?_⟩, fun hi => ⟨fun hi => ⟨?_, ?_⟩, fun hi => ⟨fun hi => ⟨?_, ?_, ?_, ?_⟩, fun hi => ⟨fun hi => ⟨?_, ?_, ?_⟩, fun hi => ⟨fun hi => ⟨?_, ?_, ?_⟩, fun hi => ⟨?_, ?_⟩⟩⟩⟩⟩⟩
  all_goals first | exact rlong_ok _ | exact rint_ok _ | exact ha | exact runits_ok _ (hs (by simpa using hi)).1 (hs (by simpa using hi)).2 | exact rjava_ok _ (by have h8 := unitsOf_len ⟨s.toArray⟩; rw [size_mk] at h8; have h9 := (hs (by simp_all; done)).1; omega) | exact rordered_ok _ (by rw [fullHs_len]; omega) | exact runordered_ok _ (by rw [fullHs_len]; omega) | (simp_all [hashK]; done)
theorem whole_map (n : Int) (s : List UInt8) (l : List V) (h : List Int) (N : Nat) (hh : h = fullHs l) (hl : h.length ≤ 1000000) (hN : h.length = 2 * N) (ha : CallsF P G 89 [encI l] (encU h)) : CallsF P G 66 [encV (.mk 6 n s l)] (.sc (.int .u32 (unordH (entriesH (h.take (2 * N)))))) := by
  refine sx_fn (hs := [.dec false, .dec false, .dec false, .dec false, .dec false, .dec true, .call (encU h), .pre [.nrow 4 1 100], .loop [(1, 0)] [(1, 0)] (SWhole h) N (fun i => [.dec true, .nat 12, .el [.sc (.int .u32 (h.getD (2 * i) 0))], .el [.sc (.int .u32 (h.getD (2 * i + 1) 0))], .call (.sc (.int .u32 (ordH [h.getD (2 * i) 0, h.getD (2 * i + 1) 0])))]), .dec false, .frz [0], .call (.sc (.int .u32 (unordH (entriesH (h.take (2 * N))))))]) (let z2 := (↑(List.length (cellsU h)) : Int); let z3 := entriesH (List.take (2 * N) h); let z1 := FV.sc (Value.int IntKind.u32 (unordH z3)); E false ∧ E false ∧ E false ∧ E false ∧ E false ∧ E true ∧ CallsF P G 89 [encI l] (FV.sl 1 (cellsU h)) ∧ (E true ∧ (E (AV.f (FV.sl 1 (cellsU h))) ∧ E (AV.lsl 0) ∧ AV.f (int 0) = AV.f (int (Int.ofNat (2 * 0))) ∧ True) ∧ (E (Ob.row 1 100 []) ∧ True) ∧ E true ∧ (false = true → false = true)) ∧ (∀ (i : Nat), (let z4 := Value.int IntKind.u32 (ordH [List.getD h (2 * i) 0, List.getD h (2 * i + 1) 0]); let z5 := entriesH (List.take (2 * i) h); let z6 := Value.int IntKind.u32 (List.getD h (2 * i + 1) 0); let z7 := Value.int IntKind.u32 (List.getD h (2 * i) 0); let z8 := (↑(2 * i) : Int) + 1; i < N → decide (IntKind.wrap IntKind.i64 z8 < z2) = true ∧ E true ∧ (E 1 ∧ (0 : Int) ≤ (↑(2 * i) : Int) ∧ (cellsU h)[2 * i]? = some [FV.sc z7]) ∧ (E 1 ∧ (0 : Int) ≤ IntKind.wrap IntKind.i64 z8 ∧ (cellsU h)[Int.toNat (IntKind.wrap IntKind.i64 z8)]? = some [FV.sc z6]) ∧ CallsF P G 91 [FV.sc z7, FV.sc z6] (FV.sc z4) ∧ (oneF ([[FV.sc z4]]) ∧ List.length (cellsU z5) + List.length (chunk 1 1 [FV.sc z4]) ≤ maxLen ∧ (List.length (cellsU z5) + List.length (chunk 1 1 [FV.sc z4])) * 4 ≤ 140737488355328 ∧ E false) ∧ E true ∧ (E (AV.f (FV.sl 1 (cellsU h))) ∧ E (AV.lsl 0) ∧ AV.f (int (IntKind.wrap IntKind.i64 ((↑(2 * i) : Int) + 2))) = AV.f (int (↑(2 * (i + 1)) : Int)) ∧ True) ∧ (Ob.row 1 100 (cellsU z5 ++ chunk (TypeInfo.size (Tables.types (Program.toTables P))[100]) 1 [FV.sc z4]) = Ob.row 1 100 (cellsU (entriesH (List.take (2 * (i + 1)) h))) ∧ True) ∧ E true ∧ (false = true → false = true))) ∧ decide (IntKind.wrap IntKind.i64 ((↑(2 * N) : Int) + 1) < z2) = false ∧ CallsF P G 90 [FV.sl 1 (cellsU z3)] z1 ∧ E z1) get66 ent66 (by kernel_rfl) ?_
  refine ⟨rfl, rfl, rfl, rfl, rfl, rfl, ?_, ⟨rfl, ⟨rfl, rfl, ?_, trivial⟩, ⟨rfl, trivial⟩, rfl, fun hi => ?_⟩, fun i => fun hi => ⟨?_, rfl, ⟨rfl, ?_, ?_⟩, ⟨rfl, ?_, ?_⟩, ?_, ⟨?_, ?_, ?_, rfl⟩, rfl, ⟨rfl, rfl, ?_, trivial⟩, ⟨?_, trivial⟩, rfl, fun hi => ?_⟩, ?_, ?_, rfl⟩
  all_goals first | exact cellsU_get2 h i hl (by omega) | (exact congrArg (Ob.row 1 100) (entries_row h i (by omega))) | (have h8 := entries_le h (2 * i); simp only [chunk, List.length_cons, List.length_nil, maxLen]; omega) | (exact congrArg (fun x => AV.f (int x)) (by rw [wrapS _ (by omega) (by omega)]; omega)) | (rw [wrapS _ (by omega) (by omega)]; simp only [cellsU_length, decide_eq_true_eq, decide_eq_false_iff_not]; omega) | exact ha | exact rentry_ok _ _ | exact cellsU_get h _ (by omega) | (exact runordered_ok _ (by have h8 := entries_len _ (h.take (2 * N)) (Nat.le_refl _); rw [List.length_take] at h8; omega)) | assumption | omega | (rw [wrapS _ (by omega) (by omega)]; omega) | (intro x hx; simp at hx; rcases hx with rfl | rfl | rfl | rfl <;> rfl) | (simp [V.kind, V.num, V.text, V.items, *]; done)
theorem plain_text {n : Int} {s : List UInt8} {l : List V} (h : plainB (.mk 3 n s l) = true) : s.length ≤ 1000 ∧ utfB ⟨s.toArray⟩ = true := by
  simp only [plainB] at h
  split at h
  · cases h
  · rw [if_neg (by omega), if_pos trivial, Bool.and_eq_true, decide_eq_true_eq] at h
    exact ⟨by omega, h.2⟩
theorem whole_ok : ∀ v, Fine v → ∀ d m, m ≤ 1024 → 0 < countV v d m → CallsF P G 66 [encV v] (.sc (.int .u32 (fullH v))) := by
  intro v
  induction v using V.ind with
  | h k n s l ih =>
    intro hv d m hm hc
    obtain ⟨h1, h2, h3, h4⟩ := count_parts hc
    have hl : l.length ≤ 1000000 := by omega
    have ha := each_ok l hl fun x hx => by
      obtain ⟨m', h5, h6⟩ := h4 x hx
      exact ih x hx (hv.items.2 x hx) _ m' (by omega) h6
    rw [fullH]
    by_cases h6 : k = 6
    · subst h6
      simp only [formB] at h2
      have h7 : l.length % 2 = 0 := by
        rw [if_neg (by omega), if_neg (by omega), if_pos trivial, Bool.and_eq_true, decide_eq_true_eq] at h2
        exact h2.1
      have h8 := whole_map n s l (fullHs l) (l.length / 2) rfl (by rw [fullHs_len]; exact hl) (by rw [fullHs_len]; omega) ha
      rw [List.take_of_length_le (by rw [fullHs_len]; omega)] at h8
      simpa [hashK] using h8
    · exact whole_leaf k n s l h6 (fun h3 => by subst h3; exact plain_text h1) hl ha
end Go.Sx

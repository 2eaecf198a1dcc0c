/-
  Proved: what some functions of the program answer, or a law of the evaluator that shows it, one theorem each; its conditions are the hypotheses that stand ahead of it.
-/
import Derived.Test.YtdgodofdnaligaaDoorZS
import Derived.KernelRfl
import Derived.ChangeKeysEq
import Derived.Laws.StructEq
set_option maxRecDepth 100000
set_option maxHeartbeats 4000000
set_option linter.unusedSimpArgs false
set_option linter.unusedVariables false
namespace Go.Sx
open Go.Proofs Sp
open Sp.Ch Sp.Sy
theorem tor_len (H : V → Nat) (L : List (V × V)) : (tor H 7 L).length = L.length := (tor_perm H 7 L).length_eq
end Go.Sx
set_option maxRecDepth 100000
set_option maxHeartbeats 4000000
set_option linter.unusedSimpArgs false
set_option linter.unusedVariables false
namespace Go.Sx
open Go.Proofs Sp
open Go
theorem eqF_ints (xs : Array Value) (hx : ∀ i, i < xs.size → ∃ k v, xs[i]? = some (.int k v)) (d : Nat) (w : World) : ∀ fs : List Field, fs.all (fun f => P.plainKey f.type && decide (f.offset < xs.size) && (match P.underlying f.type with | some (.int _) => true | _ => false)) = true → (Op.eqFields (d + 1) xs xs fs).run P w = .ok true w
  | [], _ => rfl
  | f :: fs, h => by
    simp only [List.all_cons, Bool.and_eq_true] at h
    obtain ⟨⟨⟨h1, h2⟩, h3⟩, h4⟩ := h
    have ih := eqF_ints xs hx d w fs h4
    obtain ⟨k, v, hv⟩ := hx f.offset (of_decide_eq_true h2)
    have hp := run_part_plain w h1 hv
    have hu : ∃ k', P.underlying f.type = some (.int k') := by
      split at h3
      · exact ⟨_, by assumption⟩
      · cases h3
    obtain ⟨k', hu⟩ := hu
    simp only [Op.eqFields]
    split
    · simp only [Sem.run_bind, hp, Result.andThen_ok, run_equalIn_int w d _ k k' v v hu, beq_self_eq_true, Bool.not_true, Bool.false_eq_true, if_false]
      exact ih
    · exact ih
theorem eqO_ints (t : TypeId) (xs : Array Value) (hx : ∀ i, i < xs.size → ∃ k v, xs[i]? = some (.int k v)) (h0 : P.eqGuardType P.depth t = false) (h1 : P.underlying t = some (.struct (P.fieldsOf t))) (h2 : P.stoodInHeld t = false)
    (h3 : (P.fieldsOf t).toList.all (fun f => P.plainKey f.type && decide (f.offset < xs.size) && (match P.underlying f.type with | some (.int _) => true | _ => false)) = true) (w : World) : (Op.equal t (.agg xs) (.agg xs)).run P w = .ok true w := by
  show (Op.equalIn (9999 + 1) t (.agg xs) (.agg xs)).run P w = _
  rw [run_equalIn_agg w 9999 t xs xs h1 h2]
  exact eqF_ints xs hx 9998 w _ h3
theorem eq_rowW (d a b m : Int) (w : World) : (Op.equal 71 (.agg #[.int .i64 d, .int .u32 a, .int .u32 b, .int .i64 m]) (.agg #[.int .i64 d, .int .u32 a, .int .u32 b, .int .i64 m])).run P w = .ok true w :=
  eqO_ints 71 _ (fun i hi => by
    match i, hi with
    | 0, _ => exact ⟨_, _, rfl⟩
    | 1, _ => exact ⟨_, _, rfl⟩
    | 2, _ => exact ⟨_, _, rfl⟩
    | 3, _ => exact ⟨_, _, rfl⟩) (by kernel_rfl) (by kernel_rfl) (by kernel_rfl) (by kernel_rfl) w
theorem eq_row (d a b m : Int) : EqO P 71 #[.int .i64 d, .int .u32 a, .int .u32 b, .int .i64 m] #[.int .i64 d, .int .u32 a, .int .u32 b, .int .i64 m] true := ⟨by kernel_rfl, fun w => eq_rowW d a b m w⟩
def Ssp (R : List (List FV)) (i : Nat) : St := { sl := slots 26 [(0, .f (.sl 4 R)), (1, .f (.sl 4 R)), (12, .f (int (R.length : Int))), (13, .f (int (i : Int)))], ob := [], nx := 0 }
theorem get18 : P.funcs[18]? = some Tryd.f18 := by kernel_rfl
theorem ent18 : entersP P 18 = true := by kernel_rfl
theorem shapes_run (R : List (List FV)) (d a b m : Nat → Int) (N : Nat) (hN : N = R.length) (hl : R.length ≤ 10000000) (he : ∀ i, i < N → R[i]? = some [int (d i), .sc (.int .u32 (a i)), .sc (.int .u32 (b i)), int (m i)]) : CallsF P G 18 [.sl 4 R, .sl 4 R] (bool true) := by
  refine sx_fn (hs := [.dec false, .loop [] [] (Ssp R) N (fun i => [.dec true, .nat 9, .el [int (d i), .sc (.int .u32 (a i)), .sc (.int .u32 (b i)), int (m i)], .el [int (d i), .sc (.int .u32 (a i)), .sc (.int .u32 (b i)), int (m i)], .isn true, .dec false]), .dec false]) (let z1 := (↑(List.length R) : Int); (z1 != z1) = false ∧ (E true ∧ (E (AV.f (FV.sl 4 R)) ∧ E (AV.f (FV.sl 4 R)) ∧ E (AV.f (int z1)) ∧ AV.f (int 0) = AV.f (int (Int.ofNat 0)) ∧ True) ∧ True ∧ E true ∧ (false = true → false = true)) ∧ (∀ (i : Nat), (let z2 := E 4 ∧ (0 : Int) ≤ (i : Int) ∧ R[i]? = some [int (d i), FV.sc (Value.int IntKind.u32 (a i)), FV.sc (Value.int IntKind.u32 (b i)), int (m i)]; i < N → decide ((i : Int) < z1) = true ∧ E true ∧ z2 ∧ z2 ∧ EqO P 71 #[Value.int IntKind.i64 (d i), Value.int IntKind.u32 (a i), Value.int IntKind.u32 (b i), Value.int IntKind.i64 (m i)] #[Value.int IntKind.i64 (d i), Value.int IntKind.u32 (a i), Value.int IntKind.u32 (b i), Value.int IntKind.i64 (m i)] true ∧ E false ∧ E true ∧ (E (AV.f (FV.sl 4 R)) ∧ E (AV.f (FV.sl 4 R)) ∧ E (AV.f (int z1)) ∧ AV.f (int (IntKind.wrap IntKind.i64 ((i : Int) + 1))) = AV.f (int (↑(i + 1) : Int)) ∧ True) ∧ True ∧ E true ∧ (false = true → false = true))) ∧ decide ((N : Int) < z1) = false ∧ E (bool true)) get18 ent18 (by kernel_rfl) ?_
  refine ⟨?_, ⟨rfl, ⟨rfl, rfl, rfl, ?_, trivial⟩, trivial, rfl, fun hi => ?_⟩, fun i => fun hi => ⟨?_, rfl, ⟨rfl, ?_, ?_⟩, ⟨rfl, ?_, ?_⟩, ?_, rfl, rfl, ⟨rfl, rfl, rfl, ?_, trivial⟩, trivial, rfl, fun hi => ?_⟩, ?_, rfl⟩
  all_goals first | exact eq_row _ _ _ _ | exact he i (by assumption) | (simp only [decide_eq_true_eq, decide_eq_false_iff_not]; omega) | (exact congrArg (fun x => AV.f (int x)) (wrapS ((i : Int) + 1) (by omega) (by omega))) | (simp; done) | omega
def SlisR (l : List V) (i : Nat) : St := { sl := slots 18 [(0, .f (encI l)), (8, .f (encI l)), (9, .f (int (cellsVs l).length)), (10, .f (int (i : Int)))], ob := [], nx := 0 }
theorem get15 : P.funcs[15]? = some Tryd.f15 := by kernel_rfl
theorem ent15 : entersP P 15 = true := by kernel_rfl
theorem listed_long (l : List V) (h : 65536 < l.length) : CallsF P G 15 [encI l] (int 2) := by
  refine sx_fn (hs := [.dec true]) (((decide ((↑(List.length (cellsVs l)) : Int) > 65536)) = (true)) ∧ E (int 2)) get15 ent15 (by kernel_rfl) ?_
  refine ⟨?_, rfl⟩
  all_goals (simp only [cellsVs_length, decide_eq_true_eq, decide_eq_false_iff_not] at *; omega)
theorem listed_all (l : List V) (N : Nat) (hl : l.length ≤ 65536) (hN : N ≤ l.length) (hk : ∀ i, i < N → rightB (l.getD i default) = true) (ih : ∀ i, i < l.length → CallsF P G 30 [encV (l.getD i default)] (bool (rightB (l.getD i default)))) (h3 : N = l.length) : CallsF P G 15 [encI l] (int 0) := by
  refine sx_fn (hs := [.dec false, .loop [] [] (SlisR l) N (fun i => [.dec true, .el (cellsP (l.getD (i) default)), .call (bool true), .dec false]), .dec false]) (let z1 := (↑(List.length (cellsVs l)) : Int); decide (z1 > 65536) = false ∧ (E true ∧ (E (AV.f (encI l)) ∧ E (AV.f (encI l)) ∧ E (AV.f (int z1)) ∧ AV.f (int 0) = AV.f (int (Int.ofNat 0)) ∧ True) ∧ True ∧ E true ∧ (false = true → false = true)) ∧ (∀ (i : Nat), i < N → decide ((i : Int) < z1) = true ∧ (E 4 ∧ (0 : Int) ≤ (i : Int) ∧ (cellsVs l)[i]? = some (cellsP (List.getD l i default))) ∧ CallsF P G 30 [encV (List.getD l i default)] (bool true) ∧ E false ∧ E true ∧ (E (AV.f (encI l)) ∧ E (AV.f (encI l)) ∧ E (AV.f (int z1)) ∧ AV.f (int (IntKind.wrap IntKind.i64 ((i : Int) + 1))) = AV.f (int (↑(i + 1) : Int)) ∧ True) ∧ True ∧ E true ∧ (false = true → false = true)) ∧ decide ((N : Int) < z1) = false ∧ E (int 0)) get15 ent15 (by kernel_rfl) ?_
  refine ⟨?_, ⟨rfl, ⟨rfl, rfl, rfl, ?_, trivial⟩, trivial, rfl, fun hi => ?_⟩, fun i => fun hi => ⟨?_, ⟨rfl, ?_, ?_⟩, ?_, rfl, rfl, ⟨rfl, rfl, rfl, ?_, trivial⟩, trivial, rfl, fun hi => ?_⟩, ?_, rfl⟩
  all_goals first | rfl | (simp only [cellsVs_length, decide_eq_true_eq, decide_eq_false_iff_not] at *; omega) | exact cellsVs_get l _ (by omega) | (have h8 := ih i (by omega); rw [hk i (by omega)] at h8; exact h8) | (exact congrArg (fun x => AV.f (int x)) (wrapS ((i : Int) + 1) (by omega) (by omega))) | assumption | omega
theorem listed_not (l : List V) (N : Nat) (hl : l.length ≤ 65536) (hN : N ≤ l.length) (hk : ∀ i, i < N → rightB (l.getD i default) = true) (ih : ∀ i, i < l.length → CallsF P G 30 [encV (l.getD i default)] (bool (rightB (l.getD i default)))) (h3 : N < l.length) (h4 : rightB (l.getD N default) = false) : CallsF P G 15 [encI l] (int 3) := by
  refine sx_fn (hs := [.dec false, .loop [] [] (SlisR l) N (fun i => [.dec true, .el (cellsP (l.getD (i) default)), .call (bool true), .dec false]), .dec true, .el (cellsP (l.getD (N) default)), .call (bool false), .dec true]) (let z1 := (↑(List.length (cellsVs l)) : Int); decide (z1 > 65536) = false ∧ (E true ∧ (E (AV.f (encI l)) ∧ E (AV.f (encI l)) ∧ E (AV.f (int z1)) ∧ AV.f (int 0) = AV.f (int (Int.ofNat 0)) ∧ True) ∧ True ∧ E true ∧ (false = true → false = true)) ∧ (∀ (i : Nat), i < N → decide ((i : Int) < z1) = true ∧ (E 4 ∧ (0 : Int) ≤ (i : Int) ∧ (cellsVs l)[i]? = some (cellsP (List.getD l i default))) ∧ CallsF P G 30 [encV (List.getD l i default)] (bool true) ∧ E false ∧ E true ∧ (E (AV.f (encI l)) ∧ E (AV.f (encI l)) ∧ E (AV.f (int z1)) ∧ AV.f (int (IntKind.wrap IntKind.i64 ((i : Int) + 1))) = AV.f (int (↑(i + 1) : Int)) ∧ True) ∧ True ∧ E true ∧ (false = true → false = true)) ∧ decide ((N : Int) < z1) = true ∧ (E 4 ∧ (0 : Int) ≤ (N : Int) ∧ (cellsVs l)[N]? = some (cellsP (List.getD l N default))) ∧ CallsF P G 30 [encV (List.getD l N default)] (bool false) ∧ E true ∧ E (int 3)) get15 ent15 (by kernel_rfl) ?_
  refine ⟨?_, ⟨rfl, ⟨rfl, rfl, rfl, ?_, trivial⟩, trivial, rfl, fun hi => ?_⟩, fun i => fun hi => ⟨?_, ⟨rfl, ?_, ?_⟩, ?_, rfl, rfl, ⟨rfl, rfl, rfl, ?_, trivial⟩, trivial, rfl, fun hi => ?_⟩, ?_, ⟨rfl, ?_, ?_⟩, ?_, rfl, rfl⟩
  all_goals first | rfl | (simp only [cellsVs_length, decide_eq_true_eq, decide_eq_false_iff_not] at *; omega) | exact cellsVs_get l _ (by omega) | (have h8 := ih i (by omega); rw [hk i (by omega)] at h8; exact h8) | (have h8 := ih N (by omega); rw [h4] at h8; exact h8) | (exact congrArg (fun x => AV.f (int x)) (wrapS ((i : Int) + 1) (by omega) (by omega))) | assumption | omega
open Sp.Ch Sp.Sy
theorem listed_ok (l : List V) (hf : ∀ x, x ∈ l → Fine x) : CallsF P G 15 [encI l] (int (listE l)) := by
  unfold listE
  split
  · exact listed_long l (by assumption)
  · rename_i hl
    have ih : ∀ i, i < l.length → CallsF P G 30 [encV (l.getD i default)] (bool (rightB (l.getD i default))) := fun i hi => refRight_ok _ (fineD hf hi)
    obtain ⟨N, h1, h2⟩ := exists_least (fun i => i = l.length ∨ (i < l.length ∧ rightB (l.getD i default) = false)) ⟨l.length, .inl rfl⟩
    have hN : N ≤ l.length := by rcases h1 with h | h <;> omega
    have hk : ∀ i, i < N → rightB (l.getD i default) = true := fun i hi => by
      cases h : rightB (l.getD i default) with
      | true => rfl
      | false => have := h2 i (.inr ⟨by omega, h⟩); omega
    rcases h1 with h1 | ⟨h1, h3⟩
    · rw [if_pos]
      · exact listed_all l N (by omega) hN hk ih h1
      · rw [List.all_eq_true]
        intro x hx
        obtain ⟨i, hi, rfl⟩ := List.getElem_of_mem hx
        have := hk i (by omega)
        rwa [List.getD_eq_getElem?_getD, List.getElem?_eq_getElem hi] at this
    · rw [if_neg]
      · exact listed_not l N (by omega) hN hk ih h1 h3
      · intro h
        rw [List.all_eq_true] at h
        rw [List.getD_eq_getElem?_getD, List.getElem?_eq_getElem h1] at h3
        simp only [Option.getD_some] at h3
        rw [h _ (List.getElem_mem h1)] at h3
        cases h3
open Sp.Ch Sp.Sy
theorem getBk (l : List (V × V)) (i : Nat) (h : i < l.length) : (cellsPs l)[Int.toNat ((l.length : Int) - 1 - (i : Int))]? = some (cellsP (l.getD (l.length - 1 - i) default).1 ++ cellsP (l.getD (l.length - 1 - i) default).2) := by
  rw [show Int.toNat ((l.length : Int) - 1 - (i : Int)) = l.length - 1 - i from by omega]
  exact cellsPs_get l _ (by omega)
def Sf1 (l : List (V × V)) (ex : List V) (a0 : List FV) (bm : Nat → List FV) (i : Nat) : St := { sl := slots 165 [(1, .f (encPs l)), (2, .f (encI ex)), (7, .f (.ptr a0 0)), (9, .f (.ptr (bm i) 0)), (68, .f (encI ex)), (69, .f (int (ex.length : Int))), (70, .f (int (i : Int)))], ob := [], nx := 0 }
def Sf2 (l : List (V × V)) (ex : List V) (a0 : List FV) (cm : Nat → List FV) (i : Nat) : St := { sl := slots 165 [(1, .f (encPs l)), (2, .f (encI ex)), (7, .f (.ptr a0 0)), (9, .f (.ptr (cm i) 0)), (13, .f (int ((l.length : Int) - 1 - (i : Int))))], ob := [], nx := 0 }
def Sf3 (ex : List V) (a0 : List FV) (dm : Nat → List FV) (i : Nat) : St := { sl := slots 165 [(7, .f (.ptr a0 0)), (9, .f (.ptr (dm i) 0)), (123, .f (encI ex)), (124, .f (int (ex.length : Int))), (125, .f (int (i : Int)))], ob := [], nx := 0 }
theorem get4 : P.funcs[4]? = some Tryd.f4 := by kernel_rfl
theorem ent4 : entersP P 4 = true := by kernel_rfl
theorem form_err (kd : Int) (l : List (V × V)) (ex : List V) (e : Int) (ha : CallsF P G 14 [int kd, encPs l] (.tup [.sc (.pointer none), int e])) (hn : e ≠ 0) (hsp : CallsF P G 12 [] (bool true)) : CallsF P G 4 [int kd, encPs l, encI ex] (bool true) := by
  refine sx_fn (hs := [.call (.tup [.sc (.pointer none), int e]), .dec true, .dec true, .call (bool true)]) (CallsF P G 14 [int kd, FV.sl 8 (cellsPs l)] (FV.tup [FV.sc (Value.pointer none), int e]) ∧ (e != 0) = true ∧ E true ∧ CallsF P G 12 [] (bool true) ∧ E (bool true)) get4 ent4 (by kernel_rfl) ?_
  refine ⟨?_, ?_, rfl, ?_, rfl⟩
  all_goals first | exact ha | exact hsp | (simp [hn]; done)
theorem form_a (kd : Int) (l : List (V × V)) (ex : List V) (a0 : List FV) (ha : CallsF P G 14 [int kd, encPs l] (.tup [.ptr a0 0, int 0])) (hsp : CallsF P G 12 [] (bool true)) (h : 300 < l.length) : CallsF P G 4 [int kd, encPs l, encI ex] (bool true) := by
  refine sx_fn (hs := [.call (.tup [.ptr a0 0, int 0]), .dec false, .dec false, .dec true, .dec true, .dec true, .dec true, .call (bool true)]) (CallsF P G 14 [int kd, FV.sl 8 (cellsPs l)] (FV.tup [FV.ptr a0 0, int 0]) ∧ E false ∧ E false ∧ decide ((↑(List.length (cellsPs l)) : Int) > 300) = true ∧ E true ∧ E true ∧ E true ∧ CallsF P G 12 [] (bool true) ∧ E (bool true)) get4 ent4 (by kernel_rfl) ?_
  refine ⟨?_, rfl, rfl, ?_, rfl, rfl, rfl, ?_, rfl⟩
  all_goals first | exact ha | exact hsp | (simp only [cellsPs_length, cellsVs_length, decide_eq_true_eq, decide_eq_false_iff_not]; omega)
theorem form_b (kd : Int) (l : List (V × V)) (ex : List V) (a0 : List FV) (ha : CallsF P G 14 [int kd, encPs l] (.tup [.ptr a0 0, int 0])) (hsp : CallsF P G 12 [] (bool true)) (h : l.length ≤ 300) (h9 : 300 < ex.length) : CallsF P G 4 [int kd, encPs l, encI ex] (bool true) := by
  refine sx_fn (hs := [.call (.tup [.ptr a0 0, int 0]), .dec false, .dec false, .dec false, .dec true, .dec true, .dec true, .call (bool true)]) (CallsF P G 14 [int kd, FV.sl 8 (cellsPs l)] (FV.tup [FV.ptr a0 0, int 0]) ∧ E false ∧ E false ∧ decide ((↑(List.length (cellsPs l)) : Int) > 300) = false ∧ decide ((↑(List.length (cellsVs ex)) : Int) > 300) = true ∧ E true ∧ E true ∧ CallsF P G 12 [] (bool true) ∧ E (bool true)) get4 ent4 (by kernel_rfl) ?_
  refine ⟨?_, rfl, rfl, ?_, ?_, rfl, rfl, ?_, rfl⟩
  all_goals first | exact ha | exact hsp | (simp only [cellsPs_length, cellsVs_length, decide_eq_true_eq, decide_eq_false_iff_not]; omega)
theorem form_c (kd : Int) (l : List (V × V)) (ex : List V) (a0 : List FV) (n : Int) (ha : CallsF P G 14 [int kd, encPs l] (.tup [.ptr a0 0, int 0])) (hsp : CallsF P G 12 [] (bool true)) (h : l.length ≤ 300) (h9 : ex.length ≤ 300) (hli : CallsF P G 15 [encI ex] (int n)) (hn : n ≠ 0) : CallsF P G 4 [int kd, encPs l, encI ex] (bool true) := by
  refine sx_fn (hs := [.call (.tup [.ptr a0 0, int 0]), .dec false, .dec false, .dec false, .dec false, .call (int n), .dec true, .dec true, .call (bool true)]) (CallsF P G 14 [int kd, FV.sl 8 (cellsPs l)] (FV.tup [FV.ptr a0 0, int 0]) ∧ E false ∧ E false ∧ decide ((↑(List.length (cellsPs l)) : Int) > 300) = false ∧ decide ((↑(List.length (cellsVs ex)) : Int) > 300) = false ∧ CallsF P G 15 [encI ex] (int n) ∧ (n != 0) = true ∧ E true ∧ CallsF P G 12 [] (bool true) ∧ E (bool true)) get4 ent4 (by kernel_rfl) ?_
  refine ⟨?_, rfl, rfl, ?_, ?_, ?_, ?_, rfl, ?_, rfl⟩
  all_goals first | exact ha | exact hsp | exact hli | (simp only [cellsPs_length, cellsVs_length, decide_eq_true_eq, decide_eq_false_iff_not]; omega) | (simp [hn]; done)
theorem form_run (kd : Int) (l : List (V × V)) (ex : List V) (a0 : List FV) (bm cm dm : Nat → List FV) (w z : Nat → V) (q : Nat → Bool) (T : List (V × V)) (R : List (List FV)) (N1 N2 : Nat) (ha : CallsF P G 14 [int kd, encPs l] (.tup [.ptr a0 0, int 0])) (hsp : CallsF P G 12 [] (bool true)) (h : l.length ≤ 300) (h9 : ex.length ≤ 300) (hli : CallsF P G 15 [encI ex] (int 0)) (hN1 : N1 = ex.length) (hN2 : N2 = l.length) (hnw : CallsF P G 6 [int kd] (.tup [.ptr (bm 0) 0, int 0])) (hc0 : cm 0 = bm N1) (hd0 : dm 0 = cm N2) (h1 : ∀ i, i < N1 → CallsF P G 5 [.ptr (bm i) 0, encV (ex.getD i default), encV (ex.getD i default)] (.tup [.ptr (bm (i + 1)) 0, int 0])) (hg : ∀ i, i < N2 → CallsF P G 16 [.ptr a0 0, encV (l.getD (l.length - 1 - i) default).1] (.tup [encV (w i), bool true, int 0])) (h2 : ∀ i, i < N2 → CallsF P G 5 [.ptr (cm i) 0, encV (l.getD (l.length - 1 - i) default).1, encV (w i)] (.tup [.ptr (cm (i + 1)) 0, int 0])) (hz : ∀ i, i < N1 → CallsF P G 16 [.ptr a0 0, encV (ex.getD i default)] (.tup [encV (z i), bool (q i), int 0])) (h3q : ∀ i, i < N1 → q i = true → dm (i + 1) = dm i) (h3 : ∀ i, i < N1 → q i = false → CallsF P G 17 [.ptr (dm i) 0, encV (ex.getD i default)] (.tup [.ptr (dm (i + 1)) 0, int 0])) (hpa : CallsF P G 9 [.ptr a0 0] (encPs T)) (hpd : CallsF P G 9 [.ptr (dm N1) 0] (encPs T)) (hpp : CallsF P G 13 [encPs T, encPs T] (bool true)) (hsa : CallsF P G 10 [.ptr a0 0] (.sl 4 R)) (hsd : CallsF P G 10 [.ptr (dm N1) 0] (.sl 4 R)) (hss : CallsF P G 18 [.sl 4 R, .sl 4 R] (bool true)) : CallsF P G 4 [int kd, encPs l, encI ex] (bool true) := by
  refine sx_fn (hs := [.call (.tup [.ptr a0 0, int 0]), .dec false, .dec false, .dec false, .dec false, .call (int 0), .dec false, .call (.tup [.ptr (bm 0) 0, int 0]), .dec false, .dec false, .loop [] [] (Sf1 l ex a0 bm) N1 (fun i => [.dec true, .el (cellsP (ex.getD i default)), .call (.tup [.ptr (bm (i + 1)) 0, int 0]), .dec false, .dec false]), .dec false, .loop [] [] (Sf2 l ex a0 cm) N2 (fun i => [.dec true, .el (cellsP (l.getD (l.length - 1 - i) default).1 ++ cellsP (l.getD (l.length - 1 - i) default).2), .call (.tup [encV (w i), bool true, int 0]), .pcs [(9, 0), (4, 0)], .el (cellsP (l.getD (l.length - 1 - i) default).1 ++ cellsP (l.getD (l.length - 1 - i) default).2), .call (.tup [.ptr (cm (i + 1)) 0, int 0]), .dec false, .dec false]), .dec false, .loop [] [] (Sf3 ex a0 dm) N1 (fun i => [.dec true, .el (cellsP (ex.getD i default)), .call (.tup [encV (z i), bool (q i), int 0]), .br [] [.call (.tup [.ptr (dm (i + 1)) 0, int 0]), .dec false, .dec false]]), .dec false, .call (encPs T), .call (encPs T), .call (bool true), .dec true, .call (.sl 4 R), .call (.sl 4 R), .call (bool true), .dec true, .call (bool true)]) (let z1 := (↑(List.length ex) : Int); let z2 := (↑(List.length l) : Int); let z3 := AV.f (FV.sl 8 (cellsPs l)); let z4 := (↑(List.length (cellsVs ex)) : Int); let z5 := (↑(List.length (cellsPs l)) : Int); CallsF P G 14 [int kd, FV.sl 8 (cellsPs l)] (FV.tup [FV.ptr a0 0, int 0]) ∧ E false ∧ E false ∧ decide (z5 > 300) = false ∧ decide (z4 > 300) = false ∧ CallsF P G 15 [encI ex] (int 0) ∧ E false ∧ CallsF P G 6 [int kd] (FV.tup [FV.ptr (bm 0) 0, int 0]) ∧ E false ∧ E false ∧ (E true ∧ (E z3 ∧ E (AV.f (encI ex)) ∧ E (AV.f (FV.ptr a0 0)) ∧ E (AV.f (FV.ptr (bm 0) 0)) ∧ E (AV.f (encI ex)) ∧ AV.f (int z4) = AV.f (int z1) ∧ AV.f (int 0) = AV.f (int (Int.ofNat 0)) ∧ True) ∧ True ∧ E true ∧ (false = true → false = true)) ∧ (∀ (i : Nat), (let z6 := List.getD ex i default; i < N1 → decide ((i : Int) < z1) = true ∧ (E 4 ∧ (0 : Int) ≤ (i : Int) ∧ (cellsVs ex)[i]? = some (cellsP z6)) ∧ CallsF P G 5 [FV.ptr (bm i) 0, encV z6, encV z6] (FV.tup [FV.ptr (bm (i + 1)) 0, int 0]) ∧ E false ∧ E false ∧ E true ∧ (E z3 ∧ E (AV.f (encI ex)) ∧ E (AV.f (FV.ptr a0 0)) ∧ E (AV.f (FV.ptr (bm (i + 1)) 0)) ∧ E (AV.f (encI ex)) ∧ E (AV.f (int z1)) ∧ AV.f (int (IntKind.wrap IntKind.i64 ((i : Int) + 1))) = AV.f (int (↑(i + 1) : Int)) ∧ True) ∧ True ∧ E true ∧ (false = true → false = true))) ∧ decide ((N1 : Int) < z1) = false ∧ (E true ∧ (E z3 ∧ E (AV.f (encI ex)) ∧ E (AV.f (FV.ptr a0 0)) ∧ AV.f (FV.ptr (bm N1) 0) = AV.f (FV.ptr (cm 0) 0) ∧ AV.f (int (IntKind.wrap IntKind.i64 (z5 - 1))) = AV.f (int (z2 - 1 - (0 : Int))) ∧ True) ∧ True ∧ E true ∧ (false = true → false = true)) ∧ (∀ (i : Nat), (let z9 := List.getD l (List.length l - 1 - i) default; let z7 := Prod.fst z9; let z8 := E 8 ∧ (0 : Int) ≤ z2 - 1 - (i : Int) ∧ (cellsPs l)[Int.toNat (z2 - 1 - (i : Int))]? = some (int (V.kind z7) :: int (V.num z7) :: str (V.text z7) :: encI (V.items z7) :: cellsP (Prod.snd z9)); i < N2 → decide (z2 - 1 - (i : Int) ≥ 0) = true ∧ z8 ∧ CallsF P G 16 [FV.ptr a0 0, encV z7] (FV.tup [encV (w i), bool true, int 0]) ∧ E true ∧ z8 ∧ CallsF P G 5 [FV.ptr (cm i) 0, encV z7, encV (w i)] (FV.tup [FV.ptr (cm (i + 1)) 0, int 0]) ∧ E false ∧ E false ∧ E true ∧ (E z3 ∧ E (AV.f (encI ex)) ∧ E (AV.f (FV.ptr a0 0)) ∧ E (AV.f (FV.ptr (cm (i + 1)) 0)) ∧ AV.f (int (IntKind.wrap IntKind.i64 (z2 - 1 - (i : Int) - 1))) = AV.f (int (z2 - 1 - (↑(i + 1) : Int))) ∧ True) ∧ True ∧ E true ∧ (false = true → false = true))) ∧ decide (z2 - 1 - (N2 : Int) ≥ 0) = false ∧ (E true ∧ (E (AV.f (FV.ptr a0 0)) ∧ AV.f (FV.ptr (cm N2) 0) = AV.f (FV.ptr (dm 0) 0) ∧ E (AV.f (encI ex)) ∧ AV.f (int z4) = AV.f (int z1) ∧ AV.f (int 0) = AV.f (int (Int.ofNat 0)) ∧ True) ∧ True ∧ E true ∧ (false = true → false = true)) ∧ (∀ (i : Nat), (let z10 := int (IntKind.wrap IntKind.i64 ((i : Int) + 1)); let z11 := List.getD ex i default; i < N1 → decide ((i : Int) < z1) = true ∧ (E 4 ∧ (0 : Int) ≤ (i : Int) ∧ (cellsVs ex)[i]? = some (cellsP z11)) ∧ CallsF P G 16 [FV.ptr a0 0, encV z11] (FV.tup [encV (z i), bool (q i), int 0]) ∧ Br (q i) (E true ∧ (E (AV.f (FV.ptr a0 0)) ∧ AV.f (FV.ptr (dm i) 0) = AV.f (FV.ptr (dm (i + 1)) 0) ∧ E (AV.f (encI ex)) ∧ E (AV.f (int z1)) ∧ AV.f z10 = AV.f (int (↑(i + 1) : Int)) ∧ True) ∧ True ∧ E true ∧ (false = true → false = true)) (CallsF P G 17 [FV.ptr (dm i) 0, encV z11] (FV.tup [FV.ptr (dm (i + 1)) 0, int 0]) ∧ E false ∧ E false ∧ E true ∧ (E (AV.f (FV.ptr a0 0)) ∧ E (AV.f (FV.ptr (dm (i + 1)) 0)) ∧ E (AV.f (encI ex)) ∧ E (AV.f (int z1)) ∧ AV.f z10 = AV.f (int (↑(i + 1) : Int)) ∧ True) ∧ True ∧ E true ∧ (false = true → false = true)))) ∧ decide ((N1 : Int) < z1) = false ∧ CallsF P G 9 [FV.ptr a0 0] (FV.sl 8 (cellsPs T)) ∧ CallsF P G 9 [FV.ptr (dm N1) 0] (FV.sl 8 (cellsPs T)) ∧ CallsF P G 13 [FV.sl 8 (cellsPs T), FV.sl 8 (cellsPs T)] (bool true) ∧ E true ∧ CallsF P G 10 [FV.ptr a0 0] (FV.sl 4 R) ∧ CallsF P G 10 [FV.ptr (dm N1) 0] (FV.sl 4 R) ∧ CallsF P G 18 [FV.sl 4 R, FV.sl 4 R] (bool true) ∧ E true ∧ CallsF P G 12 [] (bool true) ∧ E (bool true)) get4 ent4 (by kernel_rfl) ?_
  refine ⟨?_, rfl, rfl, ?_, ?_, ?_, rfl, ?_, rfl, rfl, ⟨rfl, ⟨rfl, rfl, rfl, rfl, rfl, ?_, ?_, trivial⟩, trivial, rfl, fun hi => ?_⟩, fun i => fun hi => ⟨?_, ⟨rfl, ?_, ?_⟩, ?_, rfl, rfl, rfl, ⟨rfl, rfl, rfl, rfl, rfl, rfl, ?_, trivial⟩, trivial, rfl, fun hi => ?_⟩, ?_, ⟨rfl, ⟨rfl, rfl, rfl, ?_, ?_, trivial⟩, trivial, rfl, fun hi => ?_⟩, fun i => fun hi => ⟨?_, ⟨rfl, ?_, ?_⟩, ?_, rfl, ⟨rfl, ?_, ?_⟩, ?_, rfl, rfl, rfl, ⟨rfl, rfl, rfl, rfl, ?_, trivial⟩, trivial, rfl, fun hi => ?_⟩, ?_, ⟨rfl, ⟨rfl, ?_, rfl, ?_, ?_, trivial⟩, trivial, rfl, fun hi => ?_⟩, fun i => fun hi => ⟨?_, ⟨rfl, ?_, ?_⟩, ?_, fun hi => ⟨rfl, ⟨rfl, ?_, rfl, rfl, ?_, trivial⟩, trivial, rfl, fun hi => ?_⟩, fun hi => ⟨?_, rfl, rfl, rfl, ⟨rfl, rfl, rfl, rfl, ?_, trivial⟩, trivial, rfl, fun hi => ?_⟩⟩, ?_, ?_, ?_, ?_, rfl, ?_, ?_, ?_, rfl, ?_, rfl⟩
  all_goals first | exact ha | exact hsp | exact hli | exact hnw | exact h1 i (by assumption) | exact hg i (by assumption) | exact h2 i (by assumption) | exact hz i (by assumption) | exact h3 i (by assumption) (by simpa using hi) | exact hpa | exact hpd | exact hpp | exact hsa | exact hsd | exact hss | rfl | exact cellsVs_get ex i (by omega) | exact getBk l i (by omega) | (rw [cellsVs_length]; done) | (simp only [cellsPs_length, cellsVs_length, decide_eq_true_eq, decide_eq_false_iff_not]; omega) | (exact congrArg (fun x => AV.f (int x)) (wrapS ((i : Int) + 1) (by omega) (by omega))) | (rw [hc0]) | (rw [hd0]) | (exact congrArg (fun x => AV.f (int x)) (by rw [cellsPs_length, wrapS _ (by omega) (by omega)]; omega)) | (exact congrArg (fun x => AV.f (int x)) (by rw [wrapS _ (by omega) (by omega)]; omega)) | (rw [h3q i (by assumption) (by simpa using hi)]) | omega
end Go.Sx

/-
  Proved: what some functions of the program answer, or a law of the evaluator that shows it, one theorem each; its conditions are the hypotheses that stand ahead of it.
-/
import Derived.Test.YtkbaoibplojjlaaDoorO1
import Derived.Test.YtkbaoibplojjlaaDoorPRL
import Derived.KernelRfl
set_option maxRecDepth 100000
set_option maxHeartbeats 4000000
set_option linter.unusedSimpArgs false
set_option linter.unusedVariables false
namespace Go.Sx
open Go.Proofs Sp
/-- A number as a value; a text as a value; no value. -/
def mkI (n : Int) : V := .mk 2 n [] []
def mkT (s : List UInt8) : V := .mk 3 0 s []
def nilW : V := .mk 0 0 [] []
def Smost (n : Int) (i : Nat) : St := { sl := slots 16 [(0, .f (int n)), (3, .f (int (i : Int)))], ob := [], nx := 0 }
theorem bits_spec : ∀ (f n h : Nat), (∀ j, j < h → 2 ^ j ≤ n) → h + f = 60 → (∀ j, j < T.bits f n h → 2 ^ j ≤ n ∧ j < 60) ∧ T.bits f n h ≤ 60 ∧ (T.bits f n h = 60 ∨ n < 2 ^ T.bits f n h)
  | 0, n, h, hj, hf => by simp only [T.bits]; exact ⟨fun j h1 => ⟨hj j h1, by omega⟩, by omega, .inl (by omega)⟩
  | f + 1, n, h, hj, hf => by
    simp only [T.bits]
    split
    · rename_i h1
      exact bits_spec f n (h + 1) (fun j h2 => by
        rcases Nat.lt_or_ge j h with h3 | h3
        · exact hj j h3
        · rw [show j = h from by omega]; exact h1) (by omega)
    · rename_i h1
      exact ⟨fun j h2 => ⟨hj j h2, by omega⟩, by omega, .inr (by omega)⟩
theorem shl1 (i : Nat) (h : i ≤ 60) : IntKind.i64.wrap (1 * 2 ^ (min i IntKind.i64.bits)) = ((2 ^ i : Nat) : Int) := by
  have h1 : (2 ^ i : Nat) ≤ 2 ^ 60 := Nat.pow_le_pow_right (by omega) h
  rw [show min i IntKind.i64.bits = i from by simp [IntKind.bits]; omega, Int.one_mul]
  rw [show ((2 : Int) ^ i) = ((2 ^ i : Nat) : Int) by simp]
  generalize 2 ^ i = m at *
  exact wrapS _ (by omega) (by omega)
theorem get22 : P.funcs[22]? = some Tryd.f22 := by kernel_rfl
theorem ent22 : entersP P 22 = true := by kernel_rfl
theorem plainInt_ok (n : Int)  : CallsF P G 22 [int n] (.agg [int 2, int n, str [], .nils]) := by
  refine sx_fn (hs := []) (E (FV.agg [int 2, int n, str [], FV.nils])) get22 ent22 (by kernel_rfl) ?_
  rfl
theorem get42 : P.funcs[42]? = some Tryd.f42 := by kernel_rfl
theorem ent42 : entersP P 42 = true := by kernel_rfl
theorem plainText_ok (s : List UInt8)  : CallsF P G 42 [str s] (.agg [int 3, int 0, str s, .nils]) := by
  refine sx_fn (hs := []) (E (FV.agg [int 3, int 0, str s, FV.nils])) get42 ent42 (by kernel_rfl) ?_
  rfl
theorem get46 : P.funcs[46]? = some Tryd.f46 := by kernel_rfl
theorem ent46 : entersP P 46 = true := by kernel_rfl
theorem most_run (n N : Nat) (hn : n < 1000000) (hN : N ≤ 60) (hj : ∀ j, j < N → 2 ^ j ≤ n ∧ j < 60) (h2 : N = 60 ∨ n < 2 ^ N) : CallsF P G 46 [int (n : Int)] (int ((2 * N : Nat) : Int)) := by
  refine sx_fn (hs := [.loop [] [] (Smost (n : Int)) (N) (fun i => [.br [.br [] []] [.dec false]]), .br [.br [] []] [.dec false]]) (((E (true)) ∧ ((E (AV.f (int (n : Int)))) ∧ ((AV.f (int 0)) = (AV.f (int (Int.ofNat 0)))) ∧ True) ∧ (True) ∧ (E (true)) ∧ (((false) = (true)) → ((false) = (true)))) ∧ (∀ (i : Nat), (i < N) → ((((decide (IntKind.wrap IntKind.i64 (1 * 2 ^ min i (IntKind.bits IntKind.i64)) ≤ (n : Int))) = (true)) → ((((decide ((i : Int) < 60)) = (true)) → ((E (true)) ∧ ((E (AV.f (int (n : Int)))) ∧ ((AV.f (int (IntKind.wrap IntKind.i64 ((i : Int) + 1)))) = (AV.f (int (↑(i + 1) : Int)))) ∧ True) ∧ (True) ∧ (E (true)) ∧ ((St.nd (Smost (n : Int) (i + 1)) = true) → ((false) = (true))))) ∧ (((decide ((i : Int) < 60)) = (false)) → (False)))) ∧ (((decide (IntKind.wrap IntKind.i64 (1 * 2 ^ min i (IntKind.bits IntKind.i64)) ≤ (n : Int))) = (false)) → ((E (false)) ∧ False)))) ∧ (((decide (IntKind.wrap IntKind.i64 (1 * 2 ^ min N (IntKind.bits IntKind.i64)) ≤ (n : Int))) = (true)) → ((((decide ((N : Int) < 60)) = (true)) → (False)) ∧ (((decide ((N : Int) < 60)) = (false)) → ((int (IntKind.wrap IntKind.i64 (2 * (N : Int)))) = (int (↑(2 * N) : Int)))))) ∧ (((decide (IntKind.wrap IntKind.i64 (1 * 2 ^ min N (IntKind.bits IntKind.i64)) ≤ (n : Int))) = (false)) → ((E (false)) ∧ (int (IntKind.wrap IntKind.i64 (2 * (N : Int)))) = (int (↑(2 * N) : Int))))) get46 ent46 (by kernel_rfl) ?_
  refine ⟨⟨rfl, ⟨⟨rfl, ⟨?_, trivial⟩⟩, ⟨trivial, ⟨rfl, fun hi => ?_⟩⟩⟩⟩, fun i => fun hlt => ⟨fun hi => ⟨fun hi => ⟨rfl, ⟨⟨rfl, ⟨?_, trivial⟩⟩, ⟨trivial, ⟨rfl, fun hi => ?_⟩⟩⟩⟩, fun hi => ?_⟩, fun hi => ⟨rfl, ?_⟩⟩, ⟨fun hi => ⟨fun hi => ?_, fun hi => ?_⟩, fun hi => ⟨rfl, ?_⟩⟩⟩
  all_goals first | (rw [shl1 _ (by omega)] at *; simp only [decide_eq_true_eq, decide_eq_false_iff_not] at *; omega) | (exfalso; have h8 := hj i hlt; rw [shl1 i (by omega)] at *; simp only [decide_eq_true_eq, decide_eq_false_iff_not] at *; omega) | (exact congrArg int (by rw [wrapS _ (by omega) (by omega)]; omega)) | assumption | (exact congrArg (fun x => AV.f (int x)) (by (try simp only [cellsVs_length, List.length_append, List.length_map, List.length_take, List.length_drop, List.length_reverse, List.length_set, List.length_replicate, chunk, List.length_cons, List.length_nil, Int.toNat_natCast, V.items, maxLen]); rw [wrapS _ (by omega) (by omega)]; (try omega))) | (simp [V.kind, V.num, V.text, V.items, *]; done)
theorem int_ok (n : Int) : CallsF P G 22 [int n] (encV (mkI n)) := (plainInt_ok n).weak (nilV 2 n [])
theorem text_ok (s : List UInt8) : CallsF P G 42 [str s] (encV (mkT s)) := (plainText_ok s).weak (nilV 3 0 s)
end Go.Sx

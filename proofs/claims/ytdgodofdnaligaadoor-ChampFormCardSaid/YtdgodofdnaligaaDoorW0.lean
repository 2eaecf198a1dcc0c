/-
  Proved: what some functions of the program answer, or a law of the evaluator that shows it, one theorem each; its conditions are the hypotheses that stand ahead of it.
-/
import Derived.Test.YtdgodofdnaligaaDoorE3
import Derived.Test.YtdgodofdnaligaaDoorCK
import Derived.KernelRfl
import Derived.Test.YtdgodofdnaligaaDoorU8N
import Derived.Test.YtdgodofdnaligaaDoorSxM
import Derived.Test.YtdgodofdnaligaaDoorD1
set_option maxRecDepth 100000
set_option maxHeartbeats 4000000
set_option linter.unusedSimpArgs false
set_option linter.unusedVariables false
namespace Go.Sx
open Go.Proofs Sp
theorem refOwn_ok : ∀ v, Fine v → CallsF P G 61 [encV v] (bool (plainB v && formB v))
  | .mk k n s l, hv => by
    obtain ⟨hl, hf⟩ := hv.items
    have hlen := hv.len
    have hE : ∀ (b : Bool), (plainB (.mk k n s l) && formB (.mk k n s l)) = b → CallsF P G 61 [encV (.mk k n s l)] (bool b) → CallsF P G 61 [encV (.mk k n s l)] (bool (plainB (.mk k n s l) && formB (.mk k n s l))) := fun b e h => by rw [e]; exact h
    by_cases ho : k < 0 ∨ 6 < k
    · refine hE _ ?_ (own_out k n s l ho)
      have : plainB (.mk k n s l) = false := by
        simp only [plainB]
        split
        · rfl
        · rw [if_neg (by omega), if_neg (by omega)]; simp; omega
      simp [this]
    · rcases (by omega : k = 0 ∨ k = 1 ∨ k = 2 ∨ k = 3 ∨ k = 4 ∨ k = 5 ∨ k = 6) with rfl | rfl | rfl | rfl | rfl | rfl | rfl
      · refine hE _ ?_ (own_0 n s l)
        cases s <;> cases l <;> simp [plainB, formB] <;> (try rw [Bool.eq_iff_iff]) <;> (try simp)
      · refine hE _ ?_ (own_1 n s l)
        cases s <;> cases l <;> simp [plainB, formB] <;> (try rw [Bool.eq_iff_iff]) <;> (try simp)
      · refine hE _ ?_ (own_2 n s l)
        cases s <;> cases l <;> simp [plainB, formB]
      · obtain ⟨nl, h1, h2⟩ := letters_ok (g := G) ⟨s.toArray⟩ (by rw [size_mk]; omega)
        refine hE _ ?_ (own_3 n s l nl h2)
        have e : decide (0 ≤ nl) = utfB ⟨s.toArray⟩ := by rw [Bool.eq_iff_iff, decide_eq_true_iff]; exact h1
        rw [e]
        by_cases h0 : n = 0
        · cases l <;> simp [plainB, formB, h0]
        · simp [plainB, formB, h0]
      · refine hE _ ?_ (own_4 n s l)
        cases s <;> simp [plainB, formB] <;> (try rw [Bool.eq_iff_iff]) <;> (try simp)
      · by_cases hb : n ≠ 0 ∨ s ≠ []
        · refine hE _ ?_ (own_5_bad n s l hb)
          have : plainB (.mk 5 n s l) = false := by simp only [plainB]; rw [if_pos (by rcases hb with h | h; exact .inr ⟨by omega, by omega, h⟩; exact .inl ⟨by omega, h⟩)]
          simp [this]
        · simp only [not_or, Decidable.not_not] at hb
          obtain ⟨rfl, rfl⟩ := hb
          have hp : plainB (.mk 5 0 [] l) = true := by simp [plainB]
          obtain ⟨N, h1, h2⟩ := rising_split 1 (by omega) l
          rcases h2 with ⟨a, e⟩ | ⟨a, b, e⟩
          · exact hE _ (by simp [hp, formB, e]) (own_5_good l N hl hf h1 a)
          · exact hE _ (by simp [hp, formB, e]) (own_5_fall l N hl hf h1 a b)
      · by_cases hb : n ≠ 0 ∨ s ≠ []
        · refine hE _ ?_ (own_6_bad n s l hb)
          have : plainB (.mk 6 n s l) = false := by simp only [plainB]; rw [if_pos (by rcases hb with h | h; exact .inr ⟨by omega, by omega, h⟩; exact .inl ⟨by omega, h⟩)]
          simp [this]
        · simp only [not_or, Decidable.not_not] at hb
          obtain ⟨rfl, rfl⟩ := hb
          have hp : plainB (.mk 6 0 [] l) = true := by simp [plainB]
          by_cases he : l.length % 2 = 0
          · obtain ⟨N, h1, h2⟩ := rising_split 2 (by omega) l
            rcases h2 with ⟨a, e⟩ | ⟨a, b, e⟩
            · exact hE _ (by simp [hp, formB, e, he]) (own_6_good l N hl hf h1 he a)
            · exact hE _ (by simp [hp, formB, e]) (own_6_fall l N hl hf h1 he a b)
          · exact hE _ (by simp [hp, formB, he]) (own_6_odd l he)
/-- The reference's count: -1 where the program has 0. -/
def fitI (c : Int) : Int := if c = 0 then -1 else c
def Sfits (k n : Int) (s : List UInt8) (l : List V) (d m : Int) (a : Nat → Int) (i : Nat) : St := { sl := slots 54 [(1, .f (int d)), (2, .f (int m)), (3, .loc 0 0), (7, .f (int (a i))), (31, .f (encI l)), (32, .f (int (cellsVs l).length)), (33, .f (int (i : Int)))], ob := [(0, .box ((cellsP (.mk k n s l)).map .f))], nx := 1 }
theorem get44 : P.funcs[44]? = some Tryd.f44 := by kernel_rfl
theorem ent44 : entersP P 44 = true := by kernel_rfl
theorem fits_bad (k n : Int) (s : List UInt8) (l : List V) (d m : Int) (h : m < 1 ∨ (0 < l.length ∧ d = 0) ∨ m < l.length) : CallsF P G 44 [encV (.mk k n s l), int d, int m] (int (-1)) := by
  refine sx_fn (hs := [.br [.dec true, .dec true] [.br [.br [.dec true] [.dec true]] [.dec false, .dec true]]]) (let z1 := (↑(List.length (cellsVs l)) : Int); Br (decide (m < 1)) (E true ∧ E true ∧ E (int (-1))) (Br (decide (z1 > 0)) (Br (d == 0) (E true ∧ E (int (-1))) (decide (z1 > m) = true ∧ E (int (-1)))) (E false ∧ decide (z1 > m) = true ∧ E (int (-1))))) get44 ent44 (by kernel_rfl) ?_
  refine ⟨fun hi => ⟨rfl, rfl, rfl⟩, fun hi => ⟨fun hi => ⟨fun hi => ⟨rfl, rfl⟩, fun hi => ⟨?_, rfl⟩⟩, fun hi => ⟨rfl, ?_, rfl⟩⟩⟩
  all_goals first | (exfalso; simp only [cellsVs_length, V.items, decide_eq_true_eq, decide_eq_false_iff_not, beq_iff_eq, beq_eq_false_iff_ne] at *; omega) | (simp only [cellsVs_length, V.items, decide_eq_true_eq, decide_eq_false_iff_not, beq_iff_eq, beq_eq_false_iff_ne] at *; omega)
theorem fits_stop (k n : Int) (s : List UInt8) (l : List V) (d m : Int) (N : Nat) (h : ¬ (m < 1 ∨ (0 < l.length ∧ d = 0) ∨ m < l.length)) (hl : l.length ≤ 1152921504606846976) (hN : N ≤ l.length) (hd : 0 < l.length → IntKind.wrap IntKind.i64 (d - 1) = d - 1)
  (hm : ∀ i, i ≤ N → IntKind.wrap IntKind.i64 (m - accV l (d - 1) m i) = m - accV l (d - 1) m i) (ha : ∀ i, i < N → IntKind.wrap IntKind.i64 (accV l (d - 1) m i + fitI (countV (l.getD i default) (d - 1) (m - accV l (d - 1) m i))) = accV l (d - 1) m (i + 1))
  (hk : ∀ i, i < N → ¬ fitI (countV (l.getD i default) (d - 1) (m - accV l (d - 1) m i)) < 0)
  (ih : ∀ i, i < l.length → i ≤ N → CallsF P G 44 [encV (l.getD i default), int (d - 1), int (m - accV l (d - 1) m i)] (int (fitI (countV (l.getD i default) (d - 1) (m - accV l (d - 1) m i))))) (h2 : N < l.length) (h3 : countV (l.getD N default) (d - 1) (m - accV l (d - 1) m N) = 0) : CallsF P G 44 [encV (.mk k n s l), int d, int m] (int (-1)) := by
  refine sx_fn (hs := [.dec false, .dec true, .dec false, .dec false, .loop [(0,0)] [(0,0)] (Sfits k n s l d m (accV l (d - 1) m)) N (fun i => [.dec true, .el (cellsP (l.getD (i) default)), .call (int (fitI (countV (l.getD (i) default) (d - 1) (m - accV l (d - 1) m (i))))), .dec false]), .dec true, .el (cellsP (l.getD (N) default)), .call (int (fitI (countV (l.getD (N) default) (d - 1) (m - accV l (d - 1) m (N))))), .dec true]) (let z1 := (↑(List.length (cellsVs l)) : Int); let z2 := E (Ob.box [AV.f (int k), AV.f (int n), AV.f (str s), AV.f (encI l)]) ∧ True; let z4 := List.getD l N default; let z3 := countV z4 (d - 1) (m - accV l (d - 1) m N); let z5 := IntKind.wrap IntKind.i64 (d - 1); decide (m < 1) = false ∧ decide (z1 > 0) = true ∧ (d == 0) = false ∧ decide (z1 > m) = false ∧ (E true ∧ (E (AV.f (int d)) ∧ E (AV.f (int m)) ∧ E (AV.loc 0 0) ∧ AV.f (int 1) = AV.f (int (accV l (d - 1) m 0)) ∧ E (AV.f (encI l)) ∧ E (AV.f (int z1)) ∧ AV.f (int 0) = AV.f (int (Int.ofNat 0)) ∧ True) ∧ z2 ∧ E true ∧ (false = true → false = true)) ∧ (∀ (i : Nat), (let z7 := List.getD l i default; let z6 := countV z7 (d - 1) (m - accV l (d - 1) m i); i < N → decide ((i : Int) < z1) = true ∧ (E 4 ∧ (0 : Int) ≤ (i : Int) ∧ (cellsVs l)[i]? = some (cellsP z7)) ∧ CallsF P G 44 [encV z7, int z5, int (IntKind.wrap IntKind.i64 (m - accV l (d - 1) m i))] (int (fitI z6)) ∧ decide (fitI z6 < 0) = false ∧ E true ∧ (E (AV.f (int d)) ∧ E (AV.f (int m)) ∧ E (AV.loc 0 0) ∧ AV.f (int (IntKind.wrap IntKind.i64 (accV l (d - 1) m i + fitI z6))) = AV.f (int (accV l (d - 1) m (i + 1))) ∧ E (AV.f (encI l)) ∧ E (AV.f (int z1)) ∧ AV.f (int (IntKind.wrap IntKind.i64 ((i : Int) + 1))) = AV.f (int (↑(i + 1) : Int)) ∧ True) ∧ z2 ∧ E true ∧ (false = true → false = true))) ∧ decide ((N : Int) < z1) = true ∧ (E 4 ∧ (0 : Int) ≤ (N : Int) ∧ (cellsVs l)[N]? = some (cellsP z4)) ∧ CallsF P G 44 [encV z4, int z5, int (IntKind.wrap IntKind.i64 (m - accV l (d - 1) m N))] (int (fitI z3)) ∧ decide (fitI z3 < 0) = true ∧ E (int (-1))) get44 ent44 (by kernel_rfl) ?_
  refine ⟨?_, ?_, ?_, ?_, ⟨rfl, ⟨rfl, rfl, rfl, ?_, rfl, rfl, ?_, trivial⟩, ⟨rfl, trivial⟩, rfl, fun hi => ?_⟩, fun i => fun hi => ⟨?_, ⟨rfl, ?_, ?_⟩, ?_, ?_, rfl, ⟨rfl, rfl, rfl, ?_, rfl, rfl, ?_, trivial⟩, ⟨rfl, trivial⟩, rfl, fun hi => ?_⟩, ?_, ⟨rfl, ?_, ?_⟩, ?_, ?_, rfl⟩
  all_goals first | rfl | (simp only [cellsVs_length, V.items, decide_eq_true_eq, decide_eq_false_iff_not, beq_iff_eq, beq_eq_false_iff_ne] at *; omega) | (exact cellsVs_get l _ (by omega)) | (rw [hd (by omega), hm i (by omega)]; exact ih i (by omega) (by omega)) | (rw [hd (by omega), hm N (by omega)]; exact ih N (by omega) (by omega)) | (simp only [decide_eq_false_iff_not]; exact hk i (by omega)) | (exact congrArg (fun x => AV.f (int x)) (ha i (by omega))) | (exact congrArg (fun x => AV.f (int x)) (wrapS ((i : Int) + 1) (by omega) (by omega))) | (rw [h3]; rfl) | (simp [cellsVs_length]; done) | assumption
theorem fits_full_cons (k n : Int) (s : List UInt8) (l : List V) (d m : Int) (N : Nat) (h : ¬ (m < 1 ∨ (0 < l.length ∧ d = 0) ∨ m < l.length)) (hl : l.length ≤ 1152921504606846976) (hN : N ≤ l.length) (hd : 0 < l.length → IntKind.wrap IntKind.i64 (d - 1) = d - 1)
  (hm : ∀ i, i ≤ N → IntKind.wrap IntKind.i64 (m - accV l (d - 1) m i) = m - accV l (d - 1) m i) (ha : ∀ i, i < N → IntKind.wrap IntKind.i64 (accV l (d - 1) m i + fitI (countV (l.getD i default) (d - 1) (m - accV l (d - 1) m i))) = accV l (d - 1) m (i + 1))
  (hk : ∀ i, i < N → ¬ fitI (countV (l.getD i default) (d - 1) (m - accV l (d - 1) m i)) < 0)
  (ih : ∀ i, i < l.length → i ≤ N → CallsF P G 44 [encV (l.getD i default), int (d - 1), int (m - accV l (d - 1) m i)] (int (fitI (countV (l.getD i default) (d - 1) (m - accV l (d - 1) m i))))) (h2 : N = l.length) (h0 : 0 < l.length) (hf : CallsF P G 61 [encV (.mk k n s l)] (bool (plainB (.mk k n s l) && formB (.mk k n s l)))) : CallsF P G 44 [encV (.mk k n s l), int d, int m] (int (if (plainB (.mk k n s l) && formB (.mk k n s l)) = true then accV l (d - 1) m N else -1)) := by
  refine sx_fn (hs := [.dec false, .dec true, .dec false, .dec false, .loop [(0,0)] [(0,0)] (Sfits k n s l d m (accV l (d - 1) m)) N (fun i => [.dec true, .el (cellsP (l.getD (i) default)), .call (int (fitI (countV (l.getD (i) default) (d - 1) (m - accV l (d - 1) m (i))))), .dec false]), .dec false, .call (bool (plainB (.mk k n s l) && formB (.mk k n s l))), .br [] []]) (let z1 := (↑(List.length (cellsVs l)) : Int); let z2 := plainB (V.mk k n s l) && formB (V.mk k n s l); let z3 := E (Ob.box [AV.f (int k), AV.f (int n), AV.f (str s), AV.f (encI l)]) ∧ True; let z4 := if z2 = true then accV l (d - 1) m N else -1; decide (m < 1) = false ∧ decide (z1 > 0) = true ∧ (d == 0) = false ∧ decide (z1 > m) = false ∧ (E true ∧ (E (AV.f (int d)) ∧ E (AV.f (int m)) ∧ E (AV.loc 0 0) ∧ AV.f (int 1) = AV.f (int (accV l (d - 1) m 0)) ∧ E (AV.f (encI l)) ∧ E (AV.f (int z1)) ∧ AV.f (int 0) = AV.f (int (Int.ofNat 0)) ∧ True) ∧ z3 ∧ E true ∧ (false = true → false = true)) ∧ (∀ (i : Nat), (let z6 := List.getD l i default; let z5 := countV z6 (d - 1) (m - accV l (d - 1) m i); i < N → decide ((i : Int) < z1) = true ∧ (E 4 ∧ (0 : Int) ≤ (i : Int) ∧ (cellsVs l)[i]? = some (cellsP z6)) ∧ CallsF P G 44 [encV z6, int (IntKind.wrap IntKind.i64 (d - 1)), int (IntKind.wrap IntKind.i64 (m - accV l (d - 1) m i))] (int (fitI z5)) ∧ decide (fitI z5 < 0) = false ∧ E true ∧ (E (AV.f (int d)) ∧ E (AV.f (int m)) ∧ E (AV.loc 0 0) ∧ AV.f (int (IntKind.wrap IntKind.i64 (accV l (d - 1) m i + fitI z5))) = AV.f (int (accV l (d - 1) m (i + 1))) ∧ E (AV.f (encI l)) ∧ E (AV.f (int z1)) ∧ AV.f (int (IntKind.wrap IntKind.i64 ((i : Int) + 1))) = AV.f (int (↑(i + 1) : Int)) ∧ True) ∧ z3 ∧ E true ∧ (false = true → false = true))) ∧ decide ((N : Int) < z1) = false ∧ CallsF P G 61 [FV.agg [int k, int n, str s, encI l]] (bool z2) ∧ Br (!z2) (int (-1) = int z4) (int (accV l (d - 1) m N) = int z4)) get44 ent44 (by kernel_rfl) ?_
  refine ⟨?_, ?_, ?_, ?_, ⟨rfl, ⟨rfl, rfl, rfl, ?_, rfl, rfl, ?_, trivial⟩, ⟨rfl, trivial⟩, rfl, fun hi => ?_⟩, fun i => fun hi => ⟨?_, ⟨rfl, ?_, ?_⟩, ?_, ?_, rfl, ⟨rfl, rfl, rfl, ?_, rfl, rfl, ?_, trivial⟩, ⟨rfl, trivial⟩, rfl, fun hi => ?_⟩, ?_, ?_, fun hi => ?_, fun hi => ?_⟩
  all_goals first | rfl | exact hf | (simp only [cellsVs_length, V.items, decide_eq_true_eq, decide_eq_false_iff_not, beq_iff_eq, beq_eq_false_iff_ne] at *; omega) | (exact cellsVs_get l _ (by omega)) | (rw [hd (by omega), hm i (by omega)]; exact ih i (by omega) (by omega)) | (simp only [decide_eq_false_iff_not]; exact hk i (by omega)) | (exact congrArg (fun x => AV.f (int x)) (ha i (by omega))) | (exact congrArg (fun x => AV.f (int x)) (wrapS ((i : Int) + 1) (by omega) (by omega))) | (simp [cellsVs_length]; done) | (rw [if_neg (by intro h9; rw [h9] at hi; simp at hi)]; done) | (rw [if_pos (by simpa using hi)]; done) | assumption
theorem fits_full_nil (k n : Int) (s : List UInt8) (l : List V) (d m : Int) (N : Nat) (h : ¬ (m < 1 ∨ (0 < l.length ∧ d = 0) ∨ m < l.length)) (hl : l.length ≤ 1152921504606846976) (hN : N ≤ l.length) (hd : 0 < l.length → IntKind.wrap IntKind.i64 (d - 1) = d - 1)
  (hm : ∀ i, i ≤ N → IntKind.wrap IntKind.i64 (m - accV l (d - 1) m i) = m - accV l (d - 1) m i) (ha : ∀ i, i < N → IntKind.wrap IntKind.i64 (accV l (d - 1) m i + fitI (countV (l.getD i default) (d - 1) (m - accV l (d - 1) m i))) = accV l (d - 1) m (i + 1))
  (hk : ∀ i, i < N → ¬ fitI (countV (l.getD i default) (d - 1) (m - accV l (d - 1) m i)) < 0)
  (ih : ∀ i, i < l.length → i ≤ N → CallsF P G 44 [encV (l.getD i default), int (d - 1), int (m - accV l (d - 1) m i)] (int (fitI (countV (l.getD i default) (d - 1) (m - accV l (d - 1) m i))))) (h2 : N = l.length) (h0 : l.length = 0) (hf : CallsF P G 61 [encV (.mk k n s l)] (bool (plainB (.mk k n s l) && formB (.mk k n s l)))) : CallsF P G 44 [encV (.mk k n s l), int d, int m] (int (if (plainB (.mk k n s l) && formB (.mk k n s l)) = true then accV l (d - 1) m N else -1)) := by
  refine sx_fn (hs := [.dec false, .dec false, .dec false, .dec false, .loop [(0,0)] [(0,0)] (Sfits k n s l d m (accV l (d - 1) m)) N (fun i => [.dec true, .el (cellsP (l.getD (i) default)), .call (int (fitI (countV (l.getD (i) default) (d - 1) (m - accV l (d - 1) m (i))))), .dec false]), .dec false, .call (bool (plainB (.mk k n s l) && formB (.mk k n s l))), .br [] []]) (let z1 := (↑(List.length (cellsVs l)) : Int); let z2 := plainB (V.mk k n s l) && formB (V.mk k n s l); let z3 := E (Ob.box [AV.f (int k), AV.f (int n), AV.f (str s), AV.f (encI l)]) ∧ True; let z4 := if z2 = true then accV l (d - 1) m N else -1; decide (m < 1) = false ∧ decide (z1 > 0) = false ∧ E false ∧ decide (z1 > m) = false ∧ (E true ∧ (E (AV.f (int d)) ∧ E (AV.f (int m)) ∧ E (AV.loc 0 0) ∧ AV.f (int 1) = AV.f (int (accV l (d - 1) m 0)) ∧ E (AV.f (encI l)) ∧ E (AV.f (int z1)) ∧ AV.f (int 0) = AV.f (int (Int.ofNat 0)) ∧ True) ∧ z3 ∧ E true ∧ (false = true → false = true)) ∧ (∀ (i : Nat), (let z6 := List.getD l i default; let z5 := countV z6 (d - 1) (m - accV l (d - 1) m i); i < N → decide ((i : Int) < z1) = true ∧ (E 4 ∧ (0 : Int) ≤ (i : Int) ∧ (cellsVs l)[i]? = some (cellsP z6)) ∧ CallsF P G 44 [encV z6, int (IntKind.wrap IntKind.i64 (d - 1)), int (IntKind.wrap IntKind.i64 (m - accV l (d - 1) m i))] (int (fitI z5)) ∧ decide (fitI z5 < 0) = false ∧ E true ∧ (E (AV.f (int d)) ∧ E (AV.f (int m)) ∧ E (AV.loc 0 0) ∧ AV.f (int (IntKind.wrap IntKind.i64 (accV l (d - 1) m i + fitI z5))) = AV.f (int (accV l (d - 1) m (i + 1))) ∧ E (AV.f (encI l)) ∧ E (AV.f (int z1)) ∧ AV.f (int (IntKind.wrap IntKind.i64 ((i : Int) + 1))) = AV.f (int (↑(i + 1) : Int)) ∧ True) ∧ z3 ∧ E true ∧ (false = true → false = true))) ∧ decide ((N : Int) < z1) = false ∧ CallsF P G 61 [FV.agg [int k, int n, str s, encI l]] (bool z2) ∧ Br (!z2) (int (-1) = int z4) (int (accV l (d - 1) m N) = int z4)) get44 ent44 (by kernel_rfl) ?_
  refine ⟨?_, ?_, rfl, ?_, ⟨rfl, ⟨rfl, rfl, rfl, ?_, rfl, rfl, ?_, trivial⟩, ⟨rfl, trivial⟩, rfl, fun hi => ?_⟩, fun i => fun hi => ⟨?_, ⟨rfl, ?_, ?_⟩, ?_, ?_, rfl, ⟨rfl, rfl, rfl, ?_, rfl, rfl, ?_, trivial⟩, ⟨rfl, trivial⟩, rfl, fun hi => ?_⟩, ?_, ?_, fun hi => ?_, fun hi => ?_⟩
  all_goals first | rfl | exact hf | (simp only [cellsVs_length, V.items, decide_eq_true_eq, decide_eq_false_iff_not, beq_iff_eq, beq_eq_false_iff_ne] at *; omega) | (exact cellsVs_get l _ (by omega)) | (rw [hd (by omega), hm i (by omega)]; exact ih i (by omega) (by omega)) | (exact congrArg (fun x => AV.f (int x)) (ha i (by omega))) | (exact congrArg (fun x => AV.f (int x)) (wrapS ((i : Int) + 1) (by omega) (by omega))) | (simp [cellsVs_length]; done) | (rw [if_neg (by intro h9; rw [h9] at hi; simp at hi)]; done) | (rw [if_pos (by simpa using hi)]; done) | assumption
theorem fitI_neg {c : Int} (h : 0 ≤ c) : fitI c < 0 ↔ c = 0 := by unfold fitI; split <;> omega
theorem fitI_pos {c : Int} (h : c ≠ 0) : fitI c = c := by unfold fitI; rw [if_neg h]
theorem countV_true {k n : Int} {s : List UInt8} {l : List V} {d m : Int} (h : badV (.mk k n s l) d m = false) : countV (.mk k n s l) d m = if countL l (d - 1) m 1 = 0 then 0 else if formB (.mk k n s l) then countL l (d - 1) m 1 else 0 := by
  simp only [countV, h]; simp
theorem countV_bad {k n : Int} {s : List UInt8} {l : List V} {d m : Int} (h : badV (.mk k n s l) d m = true) : countV (.mk k n s l) d m = 0 := by simp only [countV, h]; simp
theorem accV_len (l : List V) (d m : Int) (hm : 1 ≤ m) : ∀ i, (∀ j, j < i → countV (l.getD j default) d (m - accV l d m j) ≠ 0) → (i : Int) + 1 ≤ accV l d m i
  | 0, _ => by simp [accV]
  | i + 1, h => by
    have h1 := accV_len l d m hm i (fun j hj => h j (by omega))
    have h2 := countV_bd (l.getD i default) d (m - accV l d m i)
    have h3 := h i (by omega)
    simp only [accV]
    omega
theorem fits_ok : ∀ v, Fine v → ∀ d m, 0 ≤ d → d ≤ 1152921504606846976 → -1152921504606846976 ≤ m → m ≤ 1152921504606846976 → CallsF P G 44 [encV v, int d, int m] (int (fitI (countV v d m))) := by
  intro v
  induction v using V.ind with
  | h k n s l ih =>
    intro hv d m hd hd2 hm1 hm2
    obtain ⟨hl, hi⟩ := hv.items
    by_cases hb : m < 1 ∨ (0 < l.length ∧ d = 0) ∨ m < l.length
    · have : countV (.mk k n s l) d m = 0 := countV_bad (by
        simp only [badV, Bool.or_eq_true, Bool.and_eq_true, decide_eq_true_eq]; omega)
      rw [this]; exact fits_bad k n s l d m hb
    · have hm : 1 ≤ m := by omega
      obtain ⟨N, h1, h2⟩ := exists_least (fun i => i = l.length ∨ (i < l.length ∧ countV (l.getD i default) (d - 1) (m - accV l (d - 1) m i) = 0)) ⟨l.length, .inl rfl⟩
      have hN : N ≤ l.length := by rcases h1 with h | h <;> omega
      have hk : ∀ i, i < N → countV (l.getD i default) (d - 1) (m - accV l (d - 1) m i) ≠ 0 := fun i hi h => by
        have := h2 i (.inr ⟨by omega, h⟩); omega
      have hacc : ∀ i, i ≤ N → 1 ≤ accV l (d - 1) m i ∧ accV l (d - 1) m i ≤ m := fun i hi => accV_bd l (d - 1) m hm i (fun j hj => hk j (by omega))
      have hwd : 0 < l.length → IntKind.wrap IntKind.i64 (d - 1) = d - 1 := fun _ => wrapS _ (by omega) (by omega)
      have hwm : ∀ i, i ≤ N → IntKind.wrap IntKind.i64 (m - accV l (d - 1) m i) = m - accV l (d - 1) m i := fun i hi => by
        have := hacc i hi; exact wrapS _ (by omega) (by omega)
      have hwa : ∀ i, i < N → IntKind.wrap IntKind.i64 (accV l (d - 1) m i + fitI (countV (l.getD i default) (d - 1) (m - accV l (d - 1) m i))) = accV l (d - 1) m (i + 1) := fun i hi => by
        have h5 := hacc (i + 1) hi
        rw [fitI_pos (hk i hi)]
        simp only [accV] at h5 ⊢
        exact wrapS _ (by omega) (by omega)
      have hkk : ∀ i, i < N → ¬ fitI (countV (l.getD i default) (d - 1) (m - accV l (d - 1) m i)) < 0 := fun i hi => by
        rw [fitI_neg (countV_bd _ _ _).1]; exact hk i hi
      have hih : ∀ i, i < l.length → i ≤ N → CallsF P G 44 [encV (l.getD i default), int (d - 1), int (m - accV l (d - 1) m i)] (int (fitI (countV (l.getD i default) (d - 1) (m - accV l (d - 1) m i)))) := fun i hil hiN => by
        have h5 := hacc i hiN
        have hmem : l.getD i default ∈ l := by rw [List.getD_eq_getElem?_getD, List.getElem?_eq_getElem hil]; exact List.getElem_mem hil
        exact ih _ hmem (hi _ hmem) _ _ (by omega) (by omega) (by omega) (by omega)
      rcases h1 with h1 | ⟨h1, h3⟩
      · have hlen := accV_len l (d - 1) m hm N hk
        have h5 := hacc N (Nat.le_refl _)
        have hres : fitI (countV (.mk k n s l) d m) = if (plainB (.mk k n s l) && formB (.mk k n s l)) = true then accV l (d - 1) m N else -1 := by
          cases hp : plainB (.mk k n s l) with
          | false =>
            rw [countV_bad (by simp [badV, hp])]; simp [fitI]
          | true =>
            have hbv : badV (.mk k n s l) d m = false := by
              simp only [badV, hp, Bool.or_eq_false_iff, Bool.and_eq_false_imp, decide_eq_true_eq, decide_eq_false_iff_not, Bool.not_true]
              exact ⟨⟨⟨by omega, by omega⟩, fun h => by omega⟩, trivial⟩
            have hcl : countL l (d - 1) m 1 = accV l (d - 1) m N := by
              rw [countL_acc l (d - 1) m N hN hk, show l.drop N = [] from by rw [h1]; simp]
              simp only [countL]
            rw [countV_true hbv, hcl, if_neg (by omega)]
            cases formB (.mk k n s l) with
            | true => simp; exact fitI_pos (by omega)
            | false => simp [fitI]
        rw [hres]
        by_cases h0 : 0 < l.length
        · exact fits_full_cons k n s l d m N hb hl hN hwd hwm hwa hkk hih h1 h0 (refOwn_ok _ hv)
        · exact fits_full_nil k n s l d m N hb hl hN hwd hwm hwa hkk hih h1 (by omega) (refOwn_ok _ hv)
      · have hz : countV (.mk k n s l) d m = 0 := by
          cases hbv : badV (.mk k n s l) d m with
          | true => exact countV_bad hbv
          | false =>
            have hcl : countL l (d - 1) m 1 = 0 := by
              rw [countL_acc l (d - 1) m N hN hk, drop_cons h1]
              simp only [countL]
              rw [if_pos h3]
            rw [countV_true hbv, if_pos hcl]
        rw [hz]
        exact fits_stop k n s l d m N hb hl hN hwd hwm hwa hkk hih h1 h3
theorem fitI_right (v : V) : decide (0 ≤ fitI (countV v 16 1024)) = rightB v := by
  have h := (countV_bd v 16 1024).1
  unfold rightB
  rw [Bool.eq_iff_iff, decide_eq_true_iff, decide_eq_true_iff]
  unfold fitI
  split <;> omega
theorem get30 : P.funcs[30]? = some Tryd.f30 := by kernel_rfl
theorem ent30 : entersP P 30 = true := by kernel_rfl
theorem refRight_ok (v : V) (hv : Fine v) : CallsF P G 30 [encV v] (bool (rightB v)) := by
  refine sx_fn (hs := [.call (int (fitI (countV v (Int.ofNat 16) (Int.ofNat 1024))))]) (let z1 := countV v (Int.ofNat 16) (Int.ofNat 1024); CallsF P G 44 [encV v, int 16, int 1024] (int (fitI z1)) ∧ bool (decide (fitI z1 ≥ 0)) = bool (rightB v)) get30 ent30 (by kernel_rfl) ?_
  refine ⟨?_, ?_⟩
  all_goals first | exact fits_ok v hv 16 1024 (by omega) (by omega) (by omega) (by omega) | exact congrArg (fun b => FV.sc (Value.bool b)) (fitI_right v)
end Go.Sx
set_option maxRecDepth 100000
set_option maxHeartbeats 4000000
set_option linter.unusedSimpArgs false
set_option linter.unusedVariables false
namespace Go.Sx
open Go.Proofs Sp
def encQ (q : V × V) : FV := .agg (cellsP q.1 ++ cellsP q.2)
theorem midS {a b : Nat} (h : a + b ≤ 2000000) : IntKind.i64.wrap (Int.fdiv (IntKind.u64.wrap (IntKind.i64.wrap ((a : Int) + (b : Int)))) (2 ^ min (Int.toNat 1) IntKind.u64.bits)) = (((a + b) / 2 : Nat) : Int) := by
  rw [show ((2 : Int) ^ min (Int.toNat 1) IntKind.u64.bits) = 2 from by decide]
  rw [wrapS ((a : Int) + b) (by omega) (by omega), show IntKind.u64.wrap ((a : Int) + b) = (a : Int) + b from by simp only [IntKind.wrap, IntKind.signed, IntKind.bits]; simp; omega]
  rw [show Int.fdiv ((a : Int) + b) 2 = (((a + b) / 2 : Nat) : Int) from by rw [Int.fdiv_eq_ediv_of_nonneg _ (by omega)]; omega]
  exact wrapS _ (by omega) (by omega)
theorem get28 : P.funcs[28]? = some Tryd.f28 := by kernel_rfl
theorem ent28 : entersP P 28 = true := by kernel_rfl
theorem pairEq_ok (p : V × V) (hp : Fine p.1 ∧ Fine p.2) : CallsF P G 28 [encQ p, encQ p] (bool true) := by
  refine sx_fn (hs := [.call (bool (eqB (Prod.fst p) (Prod.fst p))), .br [.call (bool (eqB (Prod.snd p) (Prod.snd p)))] []]) (let z1 := eqB (Prod.fst p) (Prod.fst p); let z2 := eqB (Prod.snd p) (Prod.snd p); CallsF P G 43 [encV (Prod.fst p), encV (Prod.fst p)] (bool z1) ∧ Br z1 (CallsF P G 43 [encV (Prod.snd p), encV (Prod.snd p)] (bool z2) ∧ bool z2 = bool true) (bool false = bool true)) get28 ent28 (by kernel_rfl) ?_
  refine ⟨?_, fun hi => ⟨?_, ?_⟩, fun hi => ?_⟩
  all_goals first | exact eq_ok _ hp.1 _ | exact eq_ok _ hp.2 _ | (exfalso; simp_all [eqB]; done) | (simp_all [eqB]; done)
def Sps (L : List (V × V)) (i : Nat) : St := { sl := slots 27 [(0, .f (encPs L)), (1, .f (encPs L)), (12, .f (int (cellsPs L).length)), (13, .f (int (i : Int)))], ob := [], nx := 0 }
theorem getD_memP (L : List (V × V)) (i : Nat) (h : i < L.length) : L.getD i default ∈ L := by
  rw [List.getD_eq_getElem?_getD, List.getElem?_eq_getElem h]; exact List.getElem_mem h
theorem get13 : P.funcs[13]? = some Tryd.f13 := by kernel_rfl
theorem ent13 : entersP P 13 = true := by kernel_rfl
theorem pairs_same (L : List (V × V)) (hl : L.length ≤ 1000000) (hE : ∀ p, p ∈ L → CallsF P G 28 [encQ p, encQ p] (bool true)) : CallsF P G 13 [encPs L, encPs L] (bool true) := by
  refine sx_fn (hs := [.dec false, .loop [] [] (Sps L) L.length (fun i => [.dec true, .nat 10, .el (cellsP (L.getD i default).1 ++ cellsP (L.getD i default).2), .el (cellsP (L.getD i default).1 ++ cellsP (L.getD i default).2), .call (bool true), .dec false]), .dec false]) (let z1 := (↑(List.length (cellsPs L)) : Int); let z2 := AV.f (FV.sl 8 (cellsPs L)); (z1 != z1) = false ∧ (E true ∧ (E z2 ∧ E z2 ∧ E (AV.f (int z1)) ∧ AV.f (int 0) = AV.f (int (Int.ofNat 0)) ∧ True) ∧ True ∧ E true ∧ (false = true → false = true)) ∧ (∀ (i : Nat), (let z4 := Prod.fst (List.getD L i default); let z3 := int (V.kind z4) :: int (V.num z4) :: str (V.text z4) :: encI (V.items z4) :: cellsP (Prod.snd (List.getD L i default)); let z5 := E 8 ∧ (0 : Int) ≤ (i : Int) ∧ (cellsPs L)[i]? = some z3; i < List.length L → decide ((i : Int) < z1) = true ∧ E true ∧ z5 ∧ z5 ∧ CallsF P G 28 [FV.agg z3, FV.agg z3] (bool true) ∧ E false ∧ E true ∧ (E z2 ∧ E z2 ∧ E (AV.f (int z1)) ∧ AV.f (int (IntKind.wrap IntKind.i64 ((i : Int) + 1))) = AV.f (int (↑(i + 1) : Int)) ∧ True) ∧ True ∧ E true ∧ (false = true → false = true))) ∧ decide ((↑(List.length L) : Int) < z1) = false ∧ E (bool true)) get13 ent13 (by kernel_rfl) ?_
  refine ⟨?_, ⟨rfl, ⟨rfl, rfl, rfl, ?_, trivial⟩, trivial, rfl, fun hi => ?_⟩, fun i => fun hi => ⟨?_, rfl, ⟨rfl, ?_, ?_⟩, ⟨rfl, ?_, ?_⟩, ?_, rfl, rfl, ⟨rfl, rfl, rfl, ?_, trivial⟩, trivial, rfl, fun hi => ?_⟩, ?_, rfl⟩
  all_goals first | exact hE _ (getD_memP L _ (by omega)) | exact cellsPs_get L _ (by omega) | (simp only [cellsPs_length, decide_eq_true_eq, decide_eq_false_iff_not]; omega) | (simp; done) | (exact congrArg (fun x => AV.f (int x)) (wrapS ((i : Int) + 1) (by omega) (by omega))) | assumption
def Spd (l : List (V × V)) (i : Nat) : St := { sl := slots 25 [(8, .f (encPs l)), (9, .f (int (cellsPs l).length)), (10, .f (int (i : Int)))], ob := [], nx := 0 }
end Go.Sx

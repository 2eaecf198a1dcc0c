/-
  Proved: what some functions of the program answer, or a law of the evaluator that shows it, one theorem each; its conditions are the hypotheses that stand ahead of it.
-/
import Derived.Test.YtgekmpfoihidpaaGreatDoorC8
import Derived.KernelRfl
set_option maxRecDepth 100000
set_option maxHeartbeats 4000000
set_option linter.unusedSimpArgs false
set_option linter.unusedVariables false
namespace Go.Sx
open Go.Proofs Sp
theorem countL_bd (l : List V) (h : ∀ x, x ∈ l → ∀ d m, 0 ≤ countV x d m ∧ (countV x d m ≤ m ∨ countV x d m = 0)) : ∀ d m n, 1 ≤ n → countL l d m n = 0 ∨ (n ≤ countL l d m n ∧ (countL l d m n ≤ m ∨ countL l d m n = n)) := by
  induction l with
  | nil => intro d m n hn; right; simp [countL]
  | cons x l ih =>
    intro d m n hn
    simp only [countL]
    have h1 := h x (by simp) d (m - n)
    split
    · exact .inl rfl
    · have h2 := ih (fun y hy => h y (by simp [hy])) d m (n + countV x d (m - n)) (by omega)
      omega
theorem countV_bd : ∀ v d m, 0 ≤ countV v d m ∧ (countV v d m ≤ m ∨ countV v d m = 0) := by
  intro v
  induction v using V.ind with
  | h k n s l ih =>
    intro d m
    simp only [countV]
    split
    · omega
    · rename_i hb
      have h1 := countL_bd l ih (d - 1) m 1 (by omega)
      have hm : 1 ≤ m := by
        simp only [badV, Bool.or_eq_true, decide_eq_true_eq, not_or] at hb
        omega
      split
      · omega
      · split
        · omega
        · omega
theorem drop_cons {l : List V} {i : Nat} (h : i < l.length) : l.drop i = l.getD i default :: l.drop (i + 1) := by
  rw [List.getD_eq_getElem?_getD, List.getElem?_eq_getElem h, List.drop_eq_getElem_cons h]; rfl
theorem countL_acc (l : List V) (d m : Int) : ∀ i, i ≤ l.length → (∀ j, j < i → countV (l.getD j default) d (m - accV l d m j) ≠ 0) → countL l d m 1 = countL (l.drop i) d m (accV l d m i)
  | 0, _, _ => by simp [accV]
  | i + 1, hi, h => by
    rw [countL_acc l d m i (by omega) (fun j hj => h j (by omega)), drop_cons (by omega)]
    simp only [countL, accV]
    rw [if_neg (h i (by omega))]
theorem accV_bd (l : List V) (d m : Int) (hm : 1 ≤ m) : ∀ i, (∀ j, j < i → countV (l.getD j default) d (m - accV l d m j) ≠ 0) → 1 ≤ accV l d m i ∧ accV l d m i ≤ m
  | 0, _ => by simp [accV]; omega
  | i + 1, h => by
    have h1 := accV_bd l d m hm i (fun j hj => h j (by omega))
    have h2 := countV_bd (l.getD i default) d (m - accV l d m i)
    have h3 := h i (by omega)
    simp only [accV]
    omega
theorem count_ok : ∀ v, Fine v → ∀ d m, 0 ≤ d → d ≤ 1152921504606846976 → -1152921504606846976 ≤ m → m ≤ 1152921504606846976 → CallsF P G 193 [encV v, int d, int m] (int (countV v d m)) := by
  intro v
  induction v using V.ind with
  | h k n s l ih =>
    intro hv d m hd hd2 hm1 hm2
    obtain ⟨hl, hi⟩ := hv.items
    simp only [countV]
    cases hb : badV (.mk k n s l) d m with
    | true => rw [if_pos rfl]; exact count_bad k n s l d m hb
    | false =>
      rw [if_neg (by simp)]
      have hm : 1 ≤ m ∧ (0 < l.length → d ≠ 0) := by
        simp only [badV, Bool.or_eq_false_iff, Bool.and_eq_false_imp, decide_eq_true_eq, decide_eq_false_iff_not] at hb
        exact ⟨by omega, fun h => hb.1.2 h⟩
      obtain ⟨N, h1, h2⟩ := exists_least (fun i => i = l.length ∨ (i < l.length ∧ countV (l.getD i default) (d - 1) (m - accV l (d - 1) m i) = 0)) ⟨l.length, .inl rfl⟩
      have hN : N ≤ l.length := by rcases h1 with h | h <;> omega
      have hk : ∀ i, i < N → countV (l.getD i default) (d - 1) (m - accV l (d - 1) m i) ≠ 0 := fun i hi h => by
        have := h2 i (.inr ⟨by omega, h⟩); omega
      have hacc : ∀ i, i ≤ N → 1 ≤ accV l (d - 1) m i ∧ accV l (d - 1) m i ≤ m := fun i hi => accV_bd l (d - 1) m hm.1 i (fun j hj => hk j (by omega))
      have hwd : 0 < l.length → IntKind.wrap IntKind.i64 (d - 1) = d - 1 := fun _ => wrapS _ (by omega) (by omega)
      have hwm : ∀ i, i ≤ N → IntKind.wrap IntKind.i64 (m - accV l (d - 1) m i) = m - accV l (d - 1) m i := fun i hi => by
        have := hacc i hi; exact wrapS _ (by omega) (by omega)
      have hwa : ∀ i, i < N → IntKind.wrap IntKind.i64 (accV l (d - 1) m i + countV (l.getD i default) (d - 1) (m - accV l (d - 1) m i)) = accV l (d - 1) m (i + 1) := fun i hi => by
        have h5 := hacc (i + 1) hi
        simp only [accV] at h5 ⊢
        exact wrapS _ (by omega) (by omega)
      have hih : ∀ i, i < l.length → i ≤ N → CallsF P G 193 [encV (l.getD i default), int (d - 1), int (m - accV l (d - 1) m i)] (int (countV (l.getD i default) (d - 1) (m - accV l (d - 1) m i))) := fun i hil hiN => by
        have h5 := hacc i hiN
        have hmem : l.getD i default ∈ l := by rw [List.getD_eq_getElem?_getD, List.getElem?_eq_getElem hil]; exact List.getElem_mem hil
        have := hm.2 (by omega)
        exact ih _ hmem (hi _ hmem) _ _ (by omega) (by omega) (by omega) (by omega)
      rcases h1 with h1 | ⟨h1, h3⟩
      · have hcl : countL l (d - 1) m 1 = accV l (d - 1) m N := by
          rw [countL_acc l (d - 1) m N hN hk, show l.drop N = [] from by rw [h1]; simp]
          simp only [countL]
        have h5 := hacc N (Nat.le_refl _)
        rw [hcl, if_neg (by omega)]
        exact count_full k n s l d m N hb hl hN hwd hwm hwa hk hih h1 (form_ok _ hv)
      · have hcl : countL l (d - 1) m 1 = 0 := by
          rw [countL_acc l (d - 1) m N hN hk, drop_cons h1]
          simp only [countL]
          rw [if_pos h3]
        rw [hcl, if_pos rfl]
        exact count_stop k n s l d m N hb hl hN hwd hwm hwa hk hih h1 h3
/-- A right value, in the program's words. -/
noncomputable def rightB (v : V) : Bool := decide (0 < countV v 16 1024)
theorem get168 : P.funcs[168]? = some Tryz.f168 := by kernel_rfl
theorem ent168 : entersP P 168 = true := by kernel_rfl
theorem right_ok (v : V) (hv : Fine v) : CallsF P G 168 [encV v] (bool (rightB v)) := by
  refine sx_fn (hs := [.call (int (countV v (Int.ofNat 16) (Int.ofNat 1024)))]) ((CallsF P G 193 [encV v, int 16, int 1024] (int (countV v (Int.ofNat 16) (Int.ofNat 1024)))) ∧ (bool (decide (countV v (Int.ofNat 16) (Int.ofNat 1024) > 0))) = (bool (rightB v))) get168 ent168 (by kernel_rfl) ?_
  refine ⟨?_, ?_⟩
  all_goals first | exact count_ok v hv 16 1024 (by omega) (by omega) (by omega) (by omega) | rfl
theorem get125 : P.funcs[125]? = some Tryz.f125 := by kernel_rfl
theorem ent125 : entersP P 125 = true := by kernel_rfl
theorem check_ok (v : V) (hv : Fine v) : CallsF P G 125 [encV v] (int (if rightB v then 0 else 3)) := by
  refine sx_fn (hs := [.call (bool (rightB v)), .br [] []]) ((CallsF P G 168 [encV v] (bool (rightB v))) ∧ (((!rightB v) = (true)) → ((int 3) = (int (if rightB v = true then 0 else 3)))) ∧ (((!rightB v) = (false)) → ((int 0) = (int (if rightB v = true then 0 else 3))))) get125 ent125 (by kernel_rfl) ?_
  refine ⟨?_, ⟨fun hi => ?_, fun hi => ?_⟩⟩
  all_goals first | exact right_ok v hv | (simp at hi; simp [int, hi]; done)
theorem get254 : P.funcs[254]? = some Tryz.f254 := by kernel_rfl
theorem ent254 : entersP P 254 = true := by kernel_rfl
theorem parts_ok (v : V) (hv : Fine v) : CallsF P G 254 [encV v] (.tup [int (countV v 16 1024), int (if rightB v then 0 else 3)]) := by
  refine sx_fn (hs := [.call (int (countV v (Int.ofNat 16) (Int.ofNat 1024))), .br [] []]) (let z1 := countV v (Int.ofNat 16) (Int.ofNat 1024); let z2 := if rightB v = true then 0 else 3; CallsF P G 193 [encV v, int 16, int 1024] (int z1) ∧ Br (countV v (Int.ofNat 16) (Int.ofNat 1024) == 0) (FV.tup [int 0, int 3] = FV.tup [int (countV v 16 1024), int z2]) (FV.tup [int z1, int 0] = FV.tup [int (countV v 16 1024), int z2])) get254 ent254 (by kernel_rfl) ?_
  refine ⟨?_, fun hi => ?_, fun hi => ?_⟩
  all_goals first | exact count_ok v hv 16 1024 (by omega) (by omega) (by omega) (by omega) | (have := countV_bd v 16 1024; simp at hi; simp [int, rightB, hi]; done) | (have := countV_bd v 16 1024; simp at hi; simp [int, rightB, hi]; omega)
end Go.Sx

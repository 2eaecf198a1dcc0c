/-
  Proved: what some functions of the program answer, or a law of the evaluator that shows it, one theorem each; its conditions are the hypotheses that stand ahead of it.
-/
import Derived.Test.YtmnefgonaaakfaaDoorE4
import Derived.KernelRfl
set_option maxRecDepth 100000
set_option linter.unusedSimpArgs false
set_option linter.unusedVariables false
namespace Go.Sx
open Go.Proofs Sp
mutual
def deepV : V → Int
  | .mk _ _ _ l => deepL l 0
def deepL : List V → Int → Int
  | [], n => n
  | x :: l, n => deepL l (if n < 1 + deepV x then 1 + deepV x else n)
end
def dacc (l : List V) : Nat → Int
  | 0 => 0
  | i + 1 => if dacc l i < 1 + deepV (l.getD i default) then 1 + deepV (l.getD i default) else dacc l i
theorem deepL_drop (l : List V) : ∀ i, i ≤ l.length → deepL l 0 = deepL (l.drop i) (dacc l i)
  | 0, _ => by simp [dacc]
  | i + 1, h => by
    rw [deepL_drop l i (by omega), drop_cons (by omega)]
    simp only [deepL, dacc]
theorem deepV_dacc (k n : Int) (s : List UInt8) (l : List V) : deepV (.mk k n s l) = dacc l l.length := by
  simp only [deepV]
  rw [deepL_drop l l.length (Nat.le_refl _), List.drop_length]
  simp only [deepL]
theorem countL_items {l : List V} {d m n : Int} (h : countL l d m n ≠ 0) : ∀ x, x ∈ l → ∃ m', 0 < countV x d m' := by
  induction l generalizing n with
  | nil => intro x hx; simp at hx
  | cons y l ih =>
    intro x hx
    simp only [countL] at h
    split at h
    · exact absurd rfl h
    · rename_i hy
      rcases List.mem_cons.1 hx with rfl | hx
      · exact ⟨m - n, by have := (countV_bd x d (m - n)).1; omega⟩
      · exact ih h x hx
theorem deep_bd : ∀ v d m, 0 ≤ d → 0 < countV v d m → 0 ≤ deepV v ∧ deepV v ≤ d := by
  intro v
  induction v using V.ind with
  | h k n s l ih =>
    intro d m hd h
    have hb : badV (.mk k n s l) d m = false := by
      cases hb : badV (.mk k n s l) d m with
      | false => rfl
      | true => rw [countV_bad hb] at h; omega
    rw [countV_true hb] at h
    have hc : countL l (d - 1) m 1 ≠ 0 := by
      intro e; rw [if_pos e] at h; omega
    have hit := countL_items hc
    have hd0 : 0 < l.length → d ≠ 0 := by
      simp only [badV, Bool.or_eq_false_iff, Bool.and_eq_false_imp, decide_eq_true_eq, decide_eq_false_iff_not] at hb
      exact hb.1.2
    rw [deepV_dacc]
    have main : ∀ i, i ≤ l.length → 0 ≤ dacc l i ∧ dacc l i ≤ d := by
      intro i
      induction i with
      | zero => intro _; simp [dacc]; omega
      | succ i ihi =>
        intro hi
        have h1 := ihi (by omega)
        have hmem : l.getD i default ∈ l := by rw [List.getD_eq_getElem?_getD, List.getElem?_eq_getElem (by omega)]; exact List.getElem_mem (by omega)
        obtain ⟨m', h2⟩ := hit _ hmem
        have h3 := ih _ hmem (d - 1) m' (by have := hd0 (by omega); omega) h2
        simp only [dacc]
        split <;> omega
    exact main _ (Nat.le_refl _)
def Sdeep (k n : Int) (s : List UInt8) (l : List V) (i : Nat) : St := { sl := slots 20 [(1, .loc 0 0), (3, .f (int (dacc l i))), (7, .f (encI l)), (8, .f (int (cellsVs l).length)), (9, .f (int (i : Int)))], ob := [(0, .box ((cellsP (.mk k n s l)).map .f))], nx := 1 }
def Sdepth (k n : Int) (s : List UInt8) (l : List V) (i : Nat) : St := { sl := slots 23 [(1, .loc 0 0), (3, .f (int (dacc l i))), (8, .f (encI l)), (9, .f (int (cellsVs l).length)), (10, .f (int (i : Int)))], ob := [(0, .box ((cellsP (.mk k n s l)).map .f))], nx := 1 }
theorem get47 : P.funcs[47]? = some Tryd.f47 := by kernel_rfl
theorem ent47 : entersP P 47 = true := by kernel_rfl
theorem deep_run (k n : Int) (s : List UInt8) (l : List V) (hl : l.length ≤ 1152921504606846976) (hb : ∀ i, i ≤ l.length → 0 ≤ dacc l i ∧ dacc l i ≤ 16) (hx : ∀ i, i < l.length → 0 ≤ deepV (l.getD i default) ∧ deepV (l.getD i default) ≤ 15) (ih : ∀ i, i < l.length → CallsF P G 47 [encV (l.getD i default)] (int (deepV (l.getD i default)))) : CallsF P G 47 [encV (.mk k n s l)] (int (dacc l l.length)) := by
  refine sx_fn (hs := [.loop [(0,0)] [(0,0)] (Sdeep k n s l) l.length (fun i => [.dec true, .el (cellsP (l.getD i default)), .call (int (deepV (l.getD i default)))]), .dec false]) ((((true) = (true)) ∧ (((AV.loc 0 0) = (AV.loc 0 0)) ∧ ((AV.f (FV.sc (Value.int IntKind.i64 (Int.ofNat 0)))) = (AV.f (FV.sc (Value.int IntKind.i64 (dacc l 0))))) ∧ ((AV.f (FV.sl 4 (cellsVs (V.items (V.mk k n s l))))) = (AV.f (FV.sl 4 (cellsVs l)))) ∧ ((AV.f (FV.sc (Value.int IntKind.i64 (↑(List.length (cellsVs (V.items (V.mk k n s l)))) : Int)))) = (AV.f (FV.sc (Value.int IntKind.i64 (↑(List.length (cellsVs l)) : Int))))) ∧ ((AV.f (FV.sc (Value.int IntKind.i64 (Int.ofNat 0)))) = (AV.f (FV.sc (Value.int IntKind.i64 (Int.ofNat 0))))) ∧ True) ∧ ((Ob.box [AV.f (FV.sc (Value.int IntKind.i64 (V.kind (V.mk k n s l)))), AV.f (FV.sc (Value.int IntKind.i64 (V.num (V.mk k n s l)))), AV.f (FV.sc (Value.string { data := List.toArray (V.text (V.mk k n s l)) })), AV.f (FV.sl 4 (cellsVs (V.items (V.mk k n s l))))]) = (Ob.box [AV.f (FV.sc (Value.int IntKind.i64 (V.kind (V.mk k n s l)))), AV.f (FV.sc (Value.int IntKind.i64 (V.num (V.mk k n s l)))), AV.f (FV.sc (Value.string { data := List.toArray (V.text (V.mk k n s l)) })), AV.f (FV.sl 4 (cellsVs (V.items (V.mk k n s l))))])) ∧ True) ∧ ((∀ (i : Nat), ((i < List.length l) → (((decide ((↑i : Int) < (↑(List.length (cellsVs l)) : Int))) = (true)) ∧ (((4) = (4)) ∧ (0 ≤ (↑i : Int)) ∧ ((cellsVs l)[Int.toNat (↑i : Int)]?) = (some [FV.sc (Value.int IntKind.i64 (V.kind (List.getD l i default))), FV.sc (Value.int IntKind.i64 (V.num (List.getD l i default))), FV.sc (Value.string { data := List.toArray (V.text (List.getD l i default)) }), FV.sl 4 (cellsVs (V.items (List.getD l i default)))])) ∧ (CallsF P G 47 [FV.agg [FV.sc (Value.int IntKind.i64 (V.kind (List.getD l i default))), FV.sc (Value.int IntKind.i64 (V.num (List.getD l i default))), FV.sc (Value.string { data := List.toArray (V.text (List.getD l i default)) }), FV.sl 4 (cellsVs (V.items (List.getD l i default)))]] (FV.sc (Value.int IntKind.i64 (deepV (List.getD l i default))))) ∧ ((true) = (true)) ∧ (((AV.loc 0 0) = (AV.loc 0 0)) ∧ ((AV.f (FV.sc (Value.int IntKind.i64 (if IntKind.wrap IntKind.i64 (1 + deepV (List.getD l i default)) > dacc l i then IntKind.wrap IntKind.i64 (1 + deepV (List.getD l i default)) else dacc l i)))) = (AV.f (FV.sc (Value.int IntKind.i64 (dacc l (i + 1)))))) ∧ ((AV.f (FV.sl 4 (cellsVs l))) = (AV.f (FV.sl 4 (cellsVs l)))) ∧ ((AV.f (FV.sc (Value.int IntKind.i64 (↑(List.length (cellsVs l)) : Int)))) = (AV.f (FV.sc (Value.int IntKind.i64 (↑(List.length (cellsVs l)) : Int))))) ∧ ((AV.f (FV.sc (Value.int IntKind.i64 (IntKind.wrap IntKind.i64 ((↑i : Int) + 1))))) = (AV.f (FV.sc (Value.int IntKind.i64 (↑(i + 1) : Int))))) ∧ True) ∧ ((Ob.box [AV.f (FV.sc (Value.int IntKind.i64 (V.kind (V.mk k n s l)))), AV.f (FV.sc (Value.int IntKind.i64 (V.num (V.mk k n s l)))), AV.f (FV.sc (Value.string { data := List.toArray (V.text (V.mk k n s l)) })), AV.f (FV.sl 4 (cellsVs (V.items (V.mk k n s l))))]) = (Ob.box [AV.f (FV.sc (Value.int IntKind.i64 (V.kind (V.mk k n s l)))), AV.f (FV.sc (Value.int IntKind.i64 (V.num (V.mk k n s l)))), AV.f (FV.sc (Value.string { data := List.toArray (V.text (V.mk k n s l)) })), AV.f (FV.sl 4 (cellsVs (V.items (V.mk k n s l))))])) ∧ True)))) ∧ ((decide ((↑(List.length l) : Int) < (↑(List.length (cellsVs l)) : Int))) = (false)) ∧ (FV.sc (Value.int IntKind.i64 (dacc l (List.length l)))) = (FV.sc (Value.int IntKind.i64 (dacc l (List.length l))))) get47 ent47 (by kernel_rfl) ?_
  refine ⟨⟨rfl, ⟨⟨rfl, ⟨?_, ⟨?_, ⟨?_, ⟨rfl, trivial⟩⟩⟩⟩⟩, ⟨rfl, trivial⟩⟩⟩, ⟨fun i => fun hi => ⟨?_, ⟨⟨rfl, ⟨?_, ?_⟩⟩, ⟨?_, ⟨rfl, ⟨⟨rfl, ⟨?_, ⟨rfl, ⟨rfl, ⟨?_, trivial⟩⟩⟩⟩⟩, ⟨rfl, trivial⟩⟩⟩⟩⟩⟩, ⟨?_, rfl⟩⟩⟩
  all_goals first | rfl | (have h3 := hx i (by omega); rw [wrapS (1 + deepV (l.getD i default)) (by omega) (by omega)]; first | rfl | (simp [dacc]; done)) | exact ih i (by omega) | (exact cellsVs_get l _ (by omega)) | (simp only [cellsVs_length, V.items, decide_eq_true_eq, decide_eq_false_iff_not]; omega) | (exact congrArg (fun x => AV.f (int x)) (wrapS ((i : Int) + 1) (by omega) (by omega))) | (have h1 := hb i (by omega); have h2 := hb (i + 1) (by omega); have h3 := hx i (by omega); simp only [dacc] at h2 ⊢; exact congrArg (fun x => AV.f (int x)) (by rw [wrapS _ (by omega) (by omega)]; omega)) | (have h1 := hb i (by omega); have h2 := hb (i + 1) (by omega); have h3 := hx i (by omega); rw [wrapS _ (by omega) (by omega)]; simp only [dacc] at h2 ⊢; simp [int]; done) | (have h1 := hb i (by omega); have h2 := hb (i + 1) (by omega); have h3 := hx i (by omega); rw [wrapS _ (by omega) (by omega)] at *; simp only [dacc, decide_eq_true_eq, decide_eq_false_iff_not, gt_iff_lt] at *; exact congrArg (fun x => AV.f (int x)) (by omega)) | assumption | omega | (simp only [decide_eq_true_eq, decide_eq_false_iff_not]; omega) | (simp only [decide_eq_true_eq, decide_eq_false_iff_not, beq_iff_eq, beq_eq_false_iff_ne, cellsVs_length, List.length_append, List.length_map, List.length_take, List.length_drop, List.length_reverse, List.length_set, List.length_replicate, chunk, List.length_cons, List.length_nil, Int.toNat_natCast, V.items, maxLen]; omega) | (exfalso; simp only [decide_eq_true_eq, decide_eq_false_iff_not, beq_iff_eq, beq_eq_false_iff_ne, cellsVs_length, List.length_append, List.length_map, List.length_take, List.length_drop, List.length_reverse, List.length_set, List.length_replicate, chunk, List.length_cons, List.length_nil, Int.toNat_natCast, V.items, maxLen] at *; omega) | (rw [wrapS _ (by omega) (by omega)]; omega) | (exact congrArg (fun x => AV.f (int x)) (by (try simp only [cellsVs_length, List.length_append, List.length_map, List.length_take, List.length_drop, List.length_reverse, List.length_set, List.length_replicate, chunk, List.length_cons, List.length_nil, Int.toNat_natCast, V.items, maxLen]); rw [wrapS _ (by omega) (by omega)]; (try omega))) | (intro x hx; simp at hx; rcases hx with rfl | rfl | rfl | rfl <;> rfl) | (intro x hx; simp at hx; rcases hx with rfl | rfl | rfl | rfl | rfl | rfl | rfl | rfl <;> rfl) | (simp [V.kind, V.num, V.text, V.items, *]; done) | (simp_all [V.kind, V.num, V.text, V.items]; done)
theorem get49 : P.funcs[49]? = some Tryd.f49 := by kernel_rfl
theorem ent49 : entersP P 49 = true := by kernel_rfl
theorem depth_run (k n : Int) (s : List UInt8) (l : List V) (hl : l.length ≤ 1152921504606846976) (hb : ∀ i, i ≤ l.length → 0 ≤ dacc l i ∧ dacc l i ≤ 16) (hx : ∀ i, i < l.length → 0 ≤ deepV (l.getD i default) ∧ deepV (l.getD i default) ≤ 15) (ih : ∀ i, i < l.length → CallsF P G 49 [encV (l.getD i default)] (int (deepV (l.getD i default)))) : CallsF P G 49 [encV (.mk k n s l)] (int (dacc l l.length)) := by
  refine sx_fn (hs := [.loop [(0,0)] [(0,0)] (Sdepth k n s l) l.length (fun i => [.dec true, .el (cellsP (l.getD i default)), .call (int (deepV (l.getD i default))), .br [] []]), .dec false]) ((((true) = (true)) ∧ (((AV.loc 0 0) = (AV.loc 0 0)) ∧ ((AV.f (FV.sc (Value.int IntKind.i64 (Int.ofNat 0)))) = (AV.f (FV.sc (Value.int IntKind.i64 (dacc l 0))))) ∧ ((AV.f (FV.sl 4 (cellsVs (V.items (V.mk k n s l))))) = (AV.f (FV.sl 4 (cellsVs l)))) ∧ ((AV.f (FV.sc (Value.int IntKind.i64 (↑(List.length (cellsVs (V.items (V.mk k n s l)))) : Int)))) = (AV.f (FV.sc (Value.int IntKind.i64 (↑(List.length (cellsVs l)) : Int))))) ∧ ((AV.f (FV.sc (Value.int IntKind.i64 (Int.ofNat 0)))) = (AV.f (FV.sc (Value.int IntKind.i64 (Int.ofNat 0))))) ∧ True) ∧ ((Ob.box [AV.f (FV.sc (Value.int IntKind.i64 (V.kind (V.mk k n s l)))), AV.f (FV.sc (Value.int IntKind.i64 (V.num (V.mk k n s l)))), AV.f (FV.sc (Value.string { data := List.toArray (V.text (V.mk k n s l)) })), AV.f (FV.sl 4 (cellsVs (V.items (V.mk k n s l))))]) = (Ob.box [AV.f (FV.sc (Value.int IntKind.i64 (V.kind (V.mk k n s l)))), AV.f (FV.sc (Value.int IntKind.i64 (V.num (V.mk k n s l)))), AV.f (FV.sc (Value.string { data := List.toArray (V.text (V.mk k n s l)) })), AV.f (FV.sl 4 (cellsVs (V.items (V.mk k n s l))))])) ∧ True) ∧ ((∀ (i : Nat), ((i < List.length l) → (((decide ((↑i : Int) < (↑(List.length (cellsVs l)) : Int))) = (true)) ∧ (((4) = (4)) ∧ (0 ≤ (↑i : Int)) ∧ ((cellsVs l)[Int.toNat (↑i : Int)]?) = (some [FV.sc (Value.int IntKind.i64 (V.kind (List.getD l i default))), FV.sc (Value.int IntKind.i64 (V.num (List.getD l i default))), FV.sc (Value.string { data := List.toArray (V.text (List.getD l i default)) }), FV.sl 4 (cellsVs (V.items (List.getD l i default)))])) ∧ (CallsF P G 49 [FV.agg [FV.sc (Value.int IntKind.i64 (V.kind (List.getD l i default))), FV.sc (Value.int IntKind.i64 (V.num (List.getD l i default))), FV.sc (Value.string { data := List.toArray (V.text (List.getD l i default)) }), FV.sl 4 (cellsVs (V.items (List.getD l i default)))]] (FV.sc (Value.int IntKind.i64 (deepV (List.getD l i default))))) ∧ ((((decide (IntKind.wrap IntKind.i64 (1 + deepV (List.getD l i default)) > dacc l i)) = (true)) → (((true) = (true)) ∧ (((AV.loc 0 0) = (AV.loc 0 0)) ∧ ((AV.f (FV.sc (Value.int IntKind.i64 (IntKind.wrap IntKind.i64 (1 + deepV (List.getD l i default)))))) = (AV.f (FV.sc (Value.int IntKind.i64 (dacc l (i + 1)))))) ∧ ((AV.f (FV.sl 4 (cellsVs l))) = (AV.f (FV.sl 4 (cellsVs l)))) ∧ ((AV.f (FV.sc (Value.int IntKind.i64 (↑(List.length (cellsVs l)) : Int)))) = (AV.f (FV.sc (Value.int IntKind.i64 (↑(List.length (cellsVs l)) : Int))))) ∧ ((AV.f (FV.sc (Value.int IntKind.i64 (IntKind.wrap IntKind.i64 ((↑i : Int) + 1))))) = (AV.f (FV.sc (Value.int IntKind.i64 (↑(i + 1) : Int))))) ∧ True) ∧ ((Ob.box [AV.f (FV.sc (Value.int IntKind.i64 (V.kind (V.mk k n s l)))), AV.f (FV.sc (Value.int IntKind.i64 (V.num (V.mk k n s l)))), AV.f (FV.sc (Value.string { data := List.toArray (V.text (V.mk k n s l)) })), AV.f (FV.sl 4 (cellsVs (V.items (V.mk k n s l))))]) = (Ob.box [AV.f (FV.sc (Value.int IntKind.i64 (V.kind (V.mk k n s l)))), AV.f (FV.sc (Value.int IntKind.i64 (V.num (V.mk k n s l)))), AV.f (FV.sc (Value.string { data := List.toArray (V.text (V.mk k n s l)) })), AV.f (FV.sl 4 (cellsVs (V.items (V.mk k n s l))))])) ∧ True))) ∧ (((decide (IntKind.wrap IntKind.i64 (1 + deepV (List.getD l i default)) > dacc l i)) = (false)) → (((true) = (true)) ∧ (((AV.loc 0 0) = (AV.loc 0 0)) ∧ ((AV.f (FV.sc (Value.int IntKind.i64 (dacc l i)))) = (AV.f (FV.sc (Value.int IntKind.i64 (dacc l (i + 1)))))) ∧ ((AV.f (FV.sl 4 (cellsVs l))) = (AV.f (FV.sl 4 (cellsVs l)))) ∧ ((AV.f (FV.sc (Value.int IntKind.i64 (↑(List.length (cellsVs l)) : Int)))) = (AV.f (FV.sc (Value.int IntKind.i64 (↑(List.length (cellsVs l)) : Int))))) ∧ ((AV.f (FV.sc (Value.int IntKind.i64 (IntKind.wrap IntKind.i64 ((↑i : Int) + 1))))) = (AV.f (FV.sc (Value.int IntKind.i64 (↑(i + 1) : Int))))) ∧ True) ∧ ((Ob.box [AV.f (FV.sc (Value.int IntKind.i64 (V.kind (V.mk k n s l)))), AV.f (FV.sc (Value.int IntKind.i64 (V.num (V.mk k n s l)))), AV.f (FV.sc (Value.string { data := List.toArray (V.text (V.mk k n s l)) })), AV.f (FV.sl 4 (cellsVs (V.items (V.mk k n s l))))]) = (Ob.box [AV.f (FV.sc (Value.int IntKind.i64 (V.kind (V.mk k n s l)))), AV.f (FV.sc (Value.int IntKind.i64 (V.num (V.mk k n s l)))), AV.f (FV.sc (Value.string { data := List.toArray (V.text (V.mk k n s l)) })), AV.f (FV.sl 4 (cellsVs (V.items (V.mk k n s l))))])) ∧ True)))))) ∧ ((decide ((↑(List.length l) : Int) < (↑(List.length (cellsVs l)) : Int))) = (false)) ∧ (FV.sc (Value.int IntKind.i64 (dacc l (List.length l)))) = (FV.sc (Value.int IntKind.i64 (dacc l (List.length l))))) get49 ent49 (by kernel_rfl) ?_
  refine ⟨⟨rfl, ⟨⟨rfl, ⟨?_, ⟨?_, ⟨?_, ⟨rfl, trivial⟩⟩⟩⟩⟩, ⟨rfl, trivial⟩⟩⟩, ⟨fun i => fun hi => ⟨?_, ⟨⟨rfl, ⟨?_, ?_⟩⟩, ⟨?_, ⟨fun hi => ⟨rfl, ⟨⟨rfl, ⟨?_, ⟨rfl, ⟨rfl, ⟨?_, trivial⟩⟩⟩⟩⟩, ⟨rfl, trivial⟩⟩⟩, fun hi => ⟨rfl, ⟨⟨rfl, ⟨?_, ⟨rfl, ⟨rfl, ⟨?_, trivial⟩⟩⟩⟩⟩, ⟨rfl, trivial⟩⟩⟩⟩⟩⟩⟩, ⟨?_, rfl⟩⟩⟩
  all_goals first | rfl | (have h3 := hx i (by omega); rw [wrapS (1 + deepV (l.getD i default)) (by omega) (by omega)]; first | rfl | (simp [dacc]; done)) | exact ih i (by omega) | (exact cellsVs_get l _ (by omega)) | (simp only [cellsVs_length, V.items, decide_eq_true_eq, decide_eq_false_iff_not]; omega) | (exact congrArg (fun x => AV.f (int x)) (wrapS ((i : Int) + 1) (by omega) (by omega))) | (have h1 := hb i (by omega); have h2 := hb (i + 1) (by omega); have h3 := hx i (by omega); simp only [dacc] at h2 ⊢; exact congrArg (fun x => AV.f (int x)) (by rw [wrapS _ (by omega) (by omega)]; omega)) | (have h1 := hb i (by omega); have h2 := hb (i + 1) (by omega); have h3 := hx i (by omega); rw [wrapS _ (by omega) (by omega)]; simp only [dacc] at h2 ⊢; simp [int]; done) | (have h1 := hb i (by omega); have h2 := hb (i + 1) (by omega); have h3 := hx i (by omega); rw [wrapS _ (by omega) (by omega)] at *; simp only [dacc, decide_eq_true_eq, decide_eq_false_iff_not, gt_iff_lt] at *; exact congrArg (fun x => AV.f (int x)) (by omega)) | assumption | omega | (simp only [decide_eq_true_eq, decide_eq_false_iff_not]; omega) | (simp only [decide_eq_true_eq, decide_eq_false_iff_not, beq_iff_eq, beq_eq_false_iff_ne, cellsVs_length, List.length_append, List.length_map, List.length_take, List.length_drop, List.length_reverse, List.length_set, List.length_replicate, chunk, List.length_cons, List.length_nil, Int.toNat_natCast, V.items, maxLen]; omega) | (exfalso; simp only [decide_eq_true_eq, decide_eq_false_iff_not, beq_iff_eq, beq_eq_false_iff_ne, cellsVs_length, List.length_append, List.length_map, List.length_take, List.length_drop, List.length_reverse, List.length_set, List.length_replicate, chunk, List.length_cons, List.length_nil, Int.toNat_natCast, V.items, maxLen] at *; omega) | (rw [wrapS _ (by omega) (by omega)]; omega) | (exact congrArg (fun x => AV.f (int x)) (by (try simp only [cellsVs_length, List.length_append, List.length_map, List.length_take, List.length_drop, List.length_reverse, List.length_set, List.length_replicate, chunk, List.length_cons, List.length_nil, Int.toNat_natCast, V.items, maxLen]); rw [wrapS _ (by omega) (by omega)]; (try omega))) | (intro x hx; simp at hx; rcases hx with rfl | rfl | rfl | rfl <;> rfl) | (intro x hx; simp at hx; rcases hx with rfl | rfl | rfl | rfl | rfl | rfl | rfl | rfl <;> rfl) | (simp [V.kind, V.num, V.text, V.items, *]; done) | (simp_all [V.kind, V.num, V.text, V.items]; done)
theorem deep_items {k n : Int} {s : List UInt8} {l : List V} {d m : Int} (hd : 0 ≤ d) (h : 0 < countV (.mk k n s l) d m) : (∀ i, i ≤ l.length → 0 ≤ dacc l i ∧ dacc l i ≤ d) ∧ (∀ i, i < l.length → 0 ≤ d - 1 ∧ (∃ m', 0 < countV (l.getD i default) (d - 1) m') ∧ 0 ≤ deepV (l.getD i default) ∧ deepV (l.getD i default) ≤ d - 1) := by
  have hb : badV (.mk k n s l) d m = false := by
    cases hb : badV (.mk k n s l) d m with
    | false => rfl
    | true => rw [countV_bad hb] at h; omega
  rw [countV_true hb] at h
  have hc : countL l (d - 1) m 1 ≠ 0 := by
    intro e; rw [if_pos e] at h; omega
  have hit := countL_items hc
  have hd0 : 0 < l.length → d ≠ 0 := by
    simp only [badV, Bool.or_eq_false_iff, Bool.and_eq_false_imp, decide_eq_true_eq, decide_eq_false_iff_not] at hb
    exact hb.1.2
  have main2 : ∀ i, i < l.length → 0 ≤ d - 1 ∧ (∃ m', 0 < countV (l.getD i default) (d - 1) m') ∧ 0 ≤ deepV (l.getD i default) ∧ deepV (l.getD i default) ≤ d - 1 := by
    intro i hi
    have hmem : l.getD i default ∈ l := by rw [List.getD_eq_getElem?_getD, List.getElem?_eq_getElem hi]; exact List.getElem_mem hi
    obtain ⟨m', h2⟩ := hit _ hmem
    have hd1 : 0 ≤ d - 1 := by have := hd0 (by omega); omega
    have h3 := deep_bd _ (d - 1) m' hd1 h2
    exact ⟨hd1, ⟨m', h2⟩, h3⟩
  refine ⟨?_, main2⟩
  intro i
  induction i with
  | zero => intro _; simp [dacc]; omega
  | succ i ihi =>
    intro hi
    have h1 := ihi (by omega)
    have h3 := main2 i (by omega)
    simp only [dacc]
    split <;> omega
theorem deep_ok : ∀ v, Fine v → ∀ d m, 0 ≤ d → d ≤ 16 → 0 < countV v d m → CallsF P G 47 [encV v] (int (deepV v)) ∧ CallsF P G 49 [encV v] (int (deepV v)) := by
  intro v
  induction v using V.ind with
  | h k n s l ih =>
    intro hv d m hd hd2 h
    obtain ⟨hl, hi⟩ := hv.items
    obtain ⟨h1, h2⟩ := deep_items hd h
    have hmem : ∀ i, i < l.length → l.getD i default ∈ l := fun i hi => by rw [List.getD_eq_getElem?_getD, List.getElem?_eq_getElem hi]; exact List.getElem_mem hi
    have hih : ∀ i, i < l.length → CallsF P G 47 [encV (l.getD i default)] (int (deepV (l.getD i default))) ∧ CallsF P G 49 [encV (l.getD i default)] (int (deepV (l.getD i default))) := fun i hil => by
      obtain ⟨g1, ⟨m', g2⟩, g3, g4⟩ := h2 i hil
      exact ih _ (hmem i hil) (hi _ (hmem i hil)) (d - 1) m' g1 (by omega) g2
    rw [deepV_dacc]
    have b1 : ∀ i, i ≤ l.length → 0 ≤ dacc l i ∧ dacc l i ≤ 16 := fun i hi => by have := h1 i hi; omega
    have b2 : ∀ i, i < l.length → 0 ≤ deepV (l.getD i default) ∧ deepV (l.getD i default) ≤ 15 := fun i hi => by have := h2 i hi; omega
    exact ⟨deep_run k n s l hl b1 b2 (fun i hi => (hih i hi).1), depth_run k n s l hl b1 b2 (fun i hi => (hih i hi).2)⟩
theorem rightB_count {v : V} (h : rightB v = true) : 0 < countV v 16 1024 := by simpa [rightB] using h
noncomputable def deepR (v : V) : Int := if rightB v then deepV v else 0
theorem get17 : P.funcs[17]? = some Tryd.f17 := by kernel_rfl
theorem ent17 : entersP P 17 = true := by kernel_rfl
theorem Deep_ok (v : V) (hv : Fine v) : CallsF P G 17 [encV v] (.tup [int (deepR v), int (chkI (rightB v))]) := by
  refine sx_fn (hs := [.call (bool (rightB v)), .br [] [.call (int (deepV v))]]) ((CallsF P G 37 [FV.agg [FV.sc (Value.int IntKind.i64 (V.kind v)), FV.sc (Value.int IntKind.i64 (V.num v)), FV.sc (Value.string { data := List.toArray (V.text v) }), FV.sl 4 (cellsVs (V.items v))]] (FV.sc (Value.bool (rightB v)))) ∧ (((!rightB v) = (true)) → ((FV.tup [FV.sc (Value.int IntKind.i64 (Int.ofNat 0)), FV.sc (Value.int IntKind.i64 (Int.ofNat 3))]) = (FV.tup [FV.sc (Value.int IntKind.i64 (deepR v)), FV.sc (Value.int IntKind.i64 (chkI (rightB v)))]))) ∧ (((!rightB v) = (false)) → ((CallsF P G 47 [FV.agg [FV.sc (Value.int IntKind.i64 (V.kind v)), FV.sc (Value.int IntKind.i64 (V.num v)), FV.sc (Value.string { data := List.toArray (V.text v) }), FV.sl 4 (cellsVs (V.items v))]] (FV.sc (Value.int IntKind.i64 (deepV v)))) ∧ (FV.tup [FV.sc (Value.int IntKind.i64 (deepV v)), FV.sc (Value.int IntKind.i64 (Int.ofNat 0))]) = (FV.tup [FV.sc (Value.int IntKind.i64 (deepR v)), FV.sc (Value.int IntKind.i64 (chkI (rightB v)))])))) get17 ent17 (by kernel_rfl) ?_
  refine ⟨?_, ⟨fun hi => ?_, fun hi => ⟨?_, ?_⟩⟩⟩
  all_goals first | exact right_ok v hv | exact refRight_ok v hv | exact (deep_ok v hv 16 1024 (by omega) (by omega) (rightB_count (by simpa using hi))).1 | exact (deep_ok v hv 16 1024 (by omega) (by omega) (rightB_count (by simpa using hi))).2 | (simp at hi; simp [deepR, chkI, hi, int]; done) | assumption | omega | (simp only [decide_eq_true_eq, decide_eq_false_iff_not]; omega) | (simp only [decide_eq_true_eq, decide_eq_false_iff_not, beq_iff_eq, beq_eq_false_iff_ne, cellsVs_length, List.length_append, List.length_map, List.length_take, List.length_drop, List.length_reverse, List.length_set, List.length_replicate, chunk, List.length_cons, List.length_nil, Int.toNat_natCast, V.items, maxLen]; omega) | (exfalso; simp only [decide_eq_true_eq, decide_eq_false_iff_not, beq_iff_eq, beq_eq_false_iff_ne, cellsVs_length, List.length_append, List.length_map, List.length_take, List.length_drop, List.length_reverse, List.length_set, List.length_replicate, chunk, List.length_cons, List.length_nil, Int.toNat_natCast, V.items, maxLen] at *; omega) | (rw [wrapS _ (by omega) (by omega)]; omega) | (exact congrArg (fun x => AV.f (int x)) (by (try simp only [cellsVs_length, List.length_append, List.length_map, List.length_take, List.length_drop, List.length_reverse, List.length_set, List.length_replicate, chunk, List.length_cons, List.length_nil, Int.toNat_natCast, V.items, maxLen]); rw [wrapS _ (by omega) (by omega)]; (try omega))) | (intro x hx; simp at hx; rcases hx with rfl | rfl | rfl | rfl <;> rfl) | (intro x hx; simp at hx; rcases hx with rfl | rfl | rfl | rfl | rfl | rfl | rfl | rfl <;> rfl) | (simp [V.kind, V.num, V.text, V.items, *]; done) | (simp_all [V.kind, V.num, V.text, V.items]; done)
theorem get18 : P.funcs[18]? = some Tryd.f18 := by kernel_rfl
theorem ent18 : entersP P 18 = true := by kernel_rfl
theorem refDeep_ok (v : V) (hv : Fine v) : CallsF P G 18 [encV v] (.tup [int (deepR v), int (chkI (rightB v))]) := by
  refine sx_fn (hs := [.call (bool (rightB v)), .br [] [.call (int (deepV v))]]) ((CallsF P G 48 [FV.agg [FV.sc (Value.int IntKind.i64 (V.kind v)), FV.sc (Value.int IntKind.i64 (V.num v)), FV.sc (Value.string { data := List.toArray (V.text v) }), FV.sl 4 (cellsVs (V.items v))]] (FV.sc (Value.bool (rightB v)))) ∧ (((!rightB v) = (true)) → ((FV.tup [FV.sc (Value.int IntKind.i64 (Int.ofNat 0)), FV.sc (Value.int IntKind.i64 (Int.ofNat 3))]) = (FV.tup [FV.sc (Value.int IntKind.i64 (deepR v)), FV.sc (Value.int IntKind.i64 (chkI (rightB v)))]))) ∧ (((!rightB v) = (false)) → ((CallsF P G 49 [FV.agg [FV.sc (Value.int IntKind.i64 (V.kind v)), FV.sc (Value.int IntKind.i64 (V.num v)), FV.sc (Value.string { data := List.toArray (V.text v) }), FV.sl 4 (cellsVs (V.items v))]] (FV.sc (Value.int IntKind.i64 (deepV v)))) ∧ (FV.tup [FV.sc (Value.int IntKind.i64 (deepV v)), FV.sc (Value.int IntKind.i64 (Int.ofNat 0))]) = (FV.tup [FV.sc (Value.int IntKind.i64 (deepR v)), FV.sc (Value.int IntKind.i64 (chkI (rightB v)))])))) get18 ent18 (by kernel_rfl) ?_
  refine ⟨?_, ⟨fun hi => ?_, fun hi => ⟨?_, ?_⟩⟩⟩
  all_goals first | exact right_ok v hv | exact refRight_ok v hv | exact (deep_ok v hv 16 1024 (by omega) (by omega) (rightB_count (by simpa using hi))).1 | exact (deep_ok v hv 16 1024 (by omega) (by omega) (rightB_count (by simpa using hi))).2 | (simp at hi; simp [deepR, chkI, hi, int]; done) | assumption | omega | (simp only [decide_eq_true_eq, decide_eq_false_iff_not]; omega) | (simp only [decide_eq_true_eq, decide_eq_false_iff_not, beq_iff_eq, beq_eq_false_iff_ne, cellsVs_length, List.length_append, List.length_map, List.length_take, List.length_drop, List.length_reverse, List.length_set, List.length_replicate, chunk, List.length_cons, List.length_nil, Int.toNat_natCast, V.items, maxLen]; omega) | (exfalso; simp only [decide_eq_true_eq, decide_eq_false_iff_not, beq_iff_eq, beq_eq_false_iff_ne, cellsVs_length, List.length_append, List.length_map, List.length_take, List.length_drop, List.length_reverse, List.length_set, List.length_replicate, chunk, List.length_cons, List.length_nil, Int.toNat_natCast, V.items, maxLen] at *; omega) | (rw [wrapS _ (by omega) (by omega)]; omega) | (exact congrArg (fun x => AV.f (int x)) (by (try simp only [cellsVs_length, List.length_append, List.length_map, List.length_take, List.length_drop, List.length_reverse, List.length_set, List.length_replicate, chunk, List.length_cons, List.length_nil, Int.toNat_natCast, V.items, maxLen]); rw [wrapS _ (by omega) (by omega)]; (try omega))) | (intro x hx; simp at hx; rcases hx with rfl | rfl | rfl | rfl <;> rfl) | (intro x hx; simp at hx; rcases hx with rfl | rfl | rfl | rfl | rfl | rfl | rfl | rfl <;> rfl) | (simp [V.kind, V.num, V.text, V.items, *]; done) | (simp_all [V.kind, V.num, V.text, V.items]; done)
end Go.Sx

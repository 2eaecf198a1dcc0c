/-
  Proved: what some functions of the program answer, or a law of the evaluator that shows it, one theorem each; its conditions are the hypotheses that stand ahead of it.
-/
import Derived.Test.YtdgodofdnaligaaDoorCK
import Derived.KernelRfl
set_option maxRecDepth 100000
set_option maxHeartbeats 4000000
set_option linter.unusedSimpArgs false
set_option linter.unusedVariables false
namespace Go.Sx
open Go.Proofs Sp
open Classical in
/-- The same in all fields. -/
noncomputable def eqB (a b : V) : Bool := decide (a = b)
def Seq (k n : Int) (s : List UInt8) (l l2 : List V) (i : Nat) : St := { sl := slots 53 [(2, .loc 0 0), (3, .loc 1 0), (4, .f (bool false)), (35, .f (encI l)), (36, .f (int (cellsVs l).length)), (37, .f (int (i : Int)))], ob := [(1, .box ((cellsP (.mk k n s l2)).map .f)), (0, .box ((cellsP (.mk k n s l)).map .f))], nx := 2 }
theorem get43 : P.funcs[43]? = some Tryd.f43 := by kernel_rfl
theorem ent43 : entersP P 43 = true := by kernel_rfl
theorem eq_unlike (k n k2 n2 : Int) (s s2 : List UInt8) (l l2 : List V) (h : k ≠ k2 ∨ n ≠ n2 ∨ s ≠ s2 ∨ l.length ≠ l2.length) : CallsF P G 43 [encV (.mk k n s l), encV (.mk k2 n2 s2 l2)] (bool false) := by
  refine sx_fn (hs := [.br [.dec true, .dec true, .dec true] [.br [.dec true, .dec true] [.br [.dec true] [.br [] []]]]]) (Br (k != k2) (E true ∧ E true ∧ E true ∧ E (bool false)) (Br (n != n2) (E true ∧ E true ∧ E (bool false)) (Br (!ByteArray.toList { data := List.toArray s } == ByteArray.toList { data := List.toArray s2 }) (E true ∧ E (bool false)) (Br ((↑(List.length (cellsVs l)) : Int) != (↑(List.length (cellsVs l2)) : Int)) (E (bool false)) False)))) get43 ent43 (by kernel_rfl) ?_
  refine ⟨fun hi => ⟨rfl, rfl, rfl, rfl⟩, fun hi => ⟨fun hi => ⟨rfl, rfl, rfl⟩, fun hi => ⟨fun hi => ⟨rfl, rfl⟩, fun hi => ⟨fun hi => rfl, fun hi => ?_⟩⟩⟩⟩
  all_goals (exfalso; simp_all [V.kind, V.num, V.text, V.items, cellsVs_length]; omega)
theorem eq_all (k n : Int) (s : List UInt8) (l l2 : List V) (N : Nat) (hl : l.length ≤ 1152921504606846976) (h2 : l.length = l2.length) (hN : N ≤ l.length) (hk : ∀ i, i < N → eqB (l.getD i default) (l2.getD i default) = true) (ih : ∀ i, i < l.length → CallsF P G 43 [encV (l.getD i default), encV (l2.getD i default)] (bool (eqB (l.getD i default) (l2.getD i default)))) (h3 : N = l.length) : CallsF P G 43 [encV (.mk k n s l), encV (.mk k n s l2)] (bool true) := by
  refine sx_fn (hs := [.br [.dec true, .dec true, .dec true] [.br [.dec true, .dec true] [.br [.dec true] [.br [] [.loop [(0, 0), (1, 1)] [(0, 0), (1, 1)] (Seq k n s l l2) (N) (fun i => [.br [.nat 12, .el (cellsP (List.getD l i default)), .el (cellsP (List.getD l2 i default)), .call (bool (eqB (List.getD l i default) (List.getD l2 i default))), .br [] []] []]), .br [.nat 12, .el (cellsP (List.getD l N default)), .el (cellsP (List.getD l2 N default)), .call (bool (eqB (List.getD l N default) (List.getD l2 N default))), .br [] []] []]]]]]) (let z1 := E (Ob.box [AV.f (int k), AV.f (int n), AV.f (str s), AV.f (encI l2)]) ∧ E (Ob.box [AV.f (int k), AV.f (int n), AV.f (str s), AV.f (encI l)]) ∧ True; let z2 := (↑(List.length (cellsVs l)) : Int); let z3 := List.getD l2 N default; let z4 := List.getD l N default; Br (k != k) (E true ∧ E true ∧ E true ∧ bool false = bool true) (Br (n != n) (E true ∧ E true ∧ bool false = bool true) (Br (!ByteArray.toList { data := List.toArray s } == ByteArray.toList { data := List.toArray s }) (E true ∧ bool false = bool true) (Br (z2 != (↑(List.length (cellsVs l2)) : Int)) (bool false = bool true) ((E true ∧ (E (AV.loc 0 0) ∧ E (AV.loc 1 0) ∧ E (AV.f (bool false)) ∧ E (AV.f (encI l)) ∧ E (AV.f (int z2)) ∧ AV.f (int 0) = AV.f (int (Int.ofNat 0)) ∧ True) ∧ z1 ∧ E true ∧ (false = true → false = true)) ∧ (∀ (i : Nat), (let z5 := List.getD l2 i default; let z6 := List.getD l i default; i < N → Br (decide ((i : Int) < z2)) (E true ∧ (E 4 ∧ (0 : Int) ≤ (i : Int) ∧ (cellsVs l)[i]? = some (cellsP z6)) ∧ (E 4 ∧ (0 : Int) ≤ (i : Int) ∧ (cellsVs l2)[i]? = some (cellsP z5)) ∧ CallsF P G 43 [encV z6, encV z5] (bool (eqB z6 z5)) ∧ Br (!eqB z6 z5) False (E true ∧ (E (AV.loc 0 0) ∧ E (AV.loc 1 0) ∧ E (AV.f (bool false)) ∧ E (AV.f (encI l)) ∧ E (AV.f (int z2)) ∧ AV.f (int (IntKind.wrap IntKind.i64 ((i : Int) + 1))) = AV.f (int (↑(i + 1) : Int)) ∧ True) ∧ z1 ∧ E true ∧ (St.nd (Seq k n s l l2 (i + 1)) = true → false = true))) False)) ∧ Br (decide ((N : Int) < z2)) (E true ∧ (E 4 ∧ (0 : Int) ≤ (N : Int) ∧ (cellsVs l)[N]? = some (cellsP z4)) ∧ (E 4 ∧ (0 : Int) ≤ (N : Int) ∧ (cellsVs l2)[N]? = some (cellsP z3)) ∧ CallsF P G 43 [encV z4, encV z3] (bool (eqB z4 z3)) ∧ Br (!eqB z4 z3) (bool false = bool true) False) (E (bool true))))))) get43 ent43 (by kernel_rfl) ?_
  refine ⟨fun hi => ⟨rfl, rfl, rfl, ?_⟩, fun hi => ⟨fun hi => ⟨rfl, rfl, ?_⟩, fun hi => ⟨fun hi => ⟨rfl, ?_⟩, fun hi => ⟨fun hi => ?_, fun hi => ⟨⟨rfl, ⟨rfl, rfl, rfl, rfl, rfl, ?_, trivial⟩, ⟨rfl, rfl, trivial⟩, rfl, fun hi => ?_⟩, fun i => fun hlt => ⟨fun hi => ⟨rfl, ⟨rfl, ?_, ?_⟩, ⟨rfl, ?_, ?_⟩, ?_, fun hi => ?_, fun hi => ⟨rfl, ⟨rfl, rfl, rfl, rfl, rfl, ?_, trivial⟩, ⟨rfl, rfl, trivial⟩, rfl, fun hi => ?_⟩⟩, fun hi => ?_⟩, fun hi => ⟨rfl, ⟨rfl, ?_, ?_⟩, ⟨rfl, ?_, ?_⟩, ?_, fun hi => ?_, fun hi => ?_⟩, fun hi => rfl⟩⟩⟩⟩⟩
  all_goals first | rfl | (simp only [cellsVs_length, decide_eq_true_eq, decide_eq_false_iff_not] at *; omega) | exact cellsVs_get l _ (by omega) | exact cellsVs_get l2 _ (by omega) | exact ih i (by omega) | (exact congrArg (fun x => AV.f (int x)) (wrapS ((i : Int) + 1) (by omega) (by omega))) | (exfalso; simp_all [V.kind, V.num, V.text, V.items, cellsVs_length]; done) | assumption
theorem eq_not (k n : Int) (s : List UInt8) (l l2 : List V) (N : Nat) (hl : l.length ≤ 1152921504606846976) (h2 : l.length = l2.length) (hN : N ≤ l.length) (hk : ∀ i, i < N → eqB (l.getD i default) (l2.getD i default) = true) (ih : ∀ i, i < l.length → CallsF P G 43 [encV (l.getD i default), encV (l2.getD i default)] (bool (eqB (l.getD i default) (l2.getD i default)))) (h3 : N < l.length) (h4 : eqB (l.getD N default) (l2.getD N default) = false) : CallsF P G 43 [encV (.mk k n s l), encV (.mk k n s l2)] (bool false) := by
  refine sx_fn (hs := [.br [.dec true, .dec true, .dec true] [.br [.dec true, .dec true] [.br [.dec true] [.br [] [.loop [(0, 0), (1, 1)] [(0, 0), (1, 1)] (Seq k n s l l2) (N) (fun i => [.br [.nat 12, .el (cellsP (List.getD l i default)), .el (cellsP (List.getD l2 i default)), .call (bool (eqB (List.getD l i default) (List.getD l2 i default))), .br [] []] []]), .br [.nat 12, .el (cellsP (List.getD l N default)), .el (cellsP (List.getD l2 N default)), .call (bool (eqB (List.getD l N default) (List.getD l2 N default))), .br [] []] []]]]]]) (let z1 := E (Ob.box [AV.f (int k), AV.f (int n), AV.f (str s), AV.f (encI l2)]) ∧ E (Ob.box [AV.f (int k), AV.f (int n), AV.f (str s), AV.f (encI l)]) ∧ True; let z2 := (↑(List.length (cellsVs l)) : Int); let z3 := List.getD l2 N default; let z4 := List.getD l N default; Br (k != k) (E true ∧ E true ∧ E true ∧ E (bool false)) (Br (n != n) (E true ∧ E true ∧ E (bool false)) (Br (!ByteArray.toList { data := List.toArray s } == ByteArray.toList { data := List.toArray s }) (E true ∧ E (bool false)) (Br (z2 != (↑(List.length (cellsVs l2)) : Int)) (E (bool false)) ((E true ∧ (E (AV.loc 0 0) ∧ E (AV.loc 1 0) ∧ E (AV.f (bool false)) ∧ E (AV.f (encI l)) ∧ E (AV.f (int z2)) ∧ AV.f (int 0) = AV.f (int (Int.ofNat 0)) ∧ True) ∧ z1 ∧ E true ∧ (false = true → false = true)) ∧ (∀ (i : Nat), (let z5 := List.getD l2 i default; let z6 := List.getD l i default; i < N → Br (decide ((i : Int) < z2)) (E true ∧ (E 4 ∧ (0 : Int) ≤ (i : Int) ∧ (cellsVs l)[i]? = some (cellsP z6)) ∧ (E 4 ∧ (0 : Int) ≤ (i : Int) ∧ (cellsVs l2)[i]? = some (cellsP z5)) ∧ CallsF P G 43 [encV z6, encV z5] (bool (eqB z6 z5)) ∧ Br (!eqB z6 z5) False (E true ∧ (E (AV.loc 0 0) ∧ E (AV.loc 1 0) ∧ E (AV.f (bool false)) ∧ E (AV.f (encI l)) ∧ E (AV.f (int z2)) ∧ AV.f (int (IntKind.wrap IntKind.i64 ((i : Int) + 1))) = AV.f (int (↑(i + 1) : Int)) ∧ True) ∧ z1 ∧ E true ∧ (St.nd (Seq k n s l l2 (i + 1)) = true → false = true))) False)) ∧ Br (decide ((N : Int) < z2)) (E true ∧ (E 4 ∧ (0 : Int) ≤ (N : Int) ∧ (cellsVs l)[N]? = some (cellsP z4)) ∧ (E 4 ∧ (0 : Int) ≤ (N : Int) ∧ (cellsVs l2)[N]? = some (cellsP z3)) ∧ CallsF P G 43 [encV z4, encV z3] (bool (eqB z4 z3)) ∧ Br (!eqB z4 z3) (E (bool false)) False) (bool true = bool false)))))) get43 ent43 (by kernel_rfl) ?_
  refine ⟨fun hi => ⟨rfl, rfl, rfl, rfl⟩, fun hi => ⟨fun hi => ⟨rfl, rfl, rfl⟩, fun hi => ⟨fun hi => ⟨rfl, rfl⟩, fun hi => ⟨fun hi => rfl, fun hi => ⟨⟨rfl, ⟨rfl, rfl, rfl, rfl, rfl, ?_, trivial⟩, ⟨rfl, rfl, trivial⟩, rfl, fun hi => ?_⟩, fun i => fun hlt => ⟨fun hi => ⟨rfl, ⟨rfl, ?_, ?_⟩, ⟨rfl, ?_, ?_⟩, ?_, fun hi => ?_, fun hi => ⟨rfl, ⟨rfl, rfl, rfl, rfl, rfl, ?_, trivial⟩, ⟨rfl, rfl, trivial⟩, rfl, fun hi => ?_⟩⟩, fun hi => ?_⟩, fun hi => ⟨rfl, ⟨rfl, ?_, ?_⟩, ⟨rfl, ?_, ?_⟩, ?_, fun hi => rfl, fun hi => ?_⟩, fun hi => ?_⟩⟩⟩⟩⟩
  all_goals first | rfl | (simp only [cellsVs_length, decide_eq_true_eq, decide_eq_false_iff_not] at *; omega) | exact cellsVs_get l _ (by omega) | exact cellsVs_get l2 _ (by omega) | exact ih i (by omega) | (have h9 : N < l.length := by (simp only [cellsVs_length, decide_eq_true_eq] at *; omega)); exact ih N h9 | (exact congrArg (fun x => AV.f (int x)) (wrapS ((i : Int) + 1) (by omega) (by omega))) | (exfalso; simp_all [V.kind, V.num, V.text, V.items, cellsVs_length]; done) | assumption | (simp_all [V.kind, V.num, V.text, V.items]; done)
theorem eqB_true {a b : V} : eqB a b = true ↔ a = b := by simp [eqB]
theorem eqB_false {a b : V} : eqB a b = false ↔ a ≠ b := by simp [eqB]
theorem eq_ok : ∀ a, Fine a → ∀ b, CallsF P G 43 [encV a, encV b] (bool (eqB a b)) := by
  intro a
  induction a using V.ind with
  | h k n s l ih =>
    intro ha b
    cases b with
    | mk k2 n2 s2 l2 =>
      obtain ⟨hl, hi⟩ := ha.items
      by_cases hu : k ≠ k2 ∨ n ≠ n2 ∨ s ≠ s2 ∨ l.length ≠ l2.length
      · have : eqB (.mk k n s l) (.mk k2 n2 s2 l2) = false := by
          rw [eqB_false]; rintro h; injection h with h1 h2 h3 h4
          subst h1; subst h2; subst h3; subst h4; simp at hu
        rw [this]; exact eq_unlike k n k2 n2 s s2 l l2 hu
      · simp only [not_or, Decidable.not_not] at hu
        obtain ⟨rfl, rfl, rfl, hlen⟩ := hu
        have hih : ∀ i, i < l.length → CallsF P G 43 [encV (l.getD i default), encV (l2.getD i default)] (bool (eqB (l.getD i default) (l2.getD i default))) := fun i hil => by
          have hmem : l.getD i default ∈ l := by rw [List.getD_eq_getElem?_getD, List.getElem?_eq_getElem hil]; exact List.getElem_mem hil
          exact ih _ hmem (hi _ hmem) _
        obtain ⟨N, h1, h2⟩ := exists_least (fun i => i = l.length ∨ (i < l.length ∧ eqB (l.getD i default) (l2.getD i default) = false)) ⟨l.length, .inl rfl⟩
        have hN : N ≤ l.length := by rcases h1 with h | h <;> omega
        have hk : ∀ i, i < N → eqB (l.getD i default) (l2.getD i default) = true := fun i hi => by
          cases h : eqB (l.getD i default) (l2.getD i default) with
          | true => rfl
          | false => have := h2 i (.inr ⟨by omega, h⟩); omega
        rcases h1 with h1 | ⟨h1, h3⟩
        · have hll : l = l2 := by
            apply List.ext_getElem? 
            intro i
            rcases Nat.lt_or_ge i l.length with h | h
            · have := eqB_true.1 (hk i (by omega))
              rw [List.getD_eq_getElem?_getD, List.getD_eq_getElem?_getD, List.getElem?_eq_getElem h, List.getElem?_eq_getElem (by omega)] at this
              rw [List.getElem?_eq_getElem h, List.getElem?_eq_getElem (by omega)]
              simpa using this
            · rw [List.getElem?_eq_none h, List.getElem?_eq_none (by omega)]
          have : eqB (.mk k n s l) (.mk k n s l2) = true := by rw [eqB_true, hll]
          rw [this]; exact eq_all k n s l l2 N hl hlen hN hk hih h1
        · have : eqB (.mk k n s l) (.mk k n s l2) = false := by
            rw [eqB_false]; intro h; injection h with _ _ _ h4
            subst h4; rw [eqB_false] at h3; exact h3 rfl
          rw [this]; exact eq_not k n s l l2 N hl hlen hN hk hih h1 h3
end Go.Sx

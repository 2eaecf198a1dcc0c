/-
  Proved: what some functions of the program answer, or a law of the evaluator that shows it, one theorem each; its conditions are the hypotheses that stand ahead of it.
-/
import Derived.Test.YtdgodofdnaligaaDoorH3
import Derived.Test.YtdgodofdnaligaaDoorCK
import Derived.KernelRfl
import Derived.Test.YtdgodofdnaligaaDoorE2
import Derived.Test.YtdgodofdnaligaaDoorW0
set_option maxRecDepth 100000
set_option maxHeartbeats 4000000
set_option linter.unusedSimpArgs false
set_option linter.unusedVariables false
namespace Go.Sx
open Go.Proofs Sp
theorem units_least (s : ByteArray) : ∃ N, ¬ posAt s N < s.size ∧ ∀ i, i < N → posAt s i < s.size := by
  obtain ⟨N, h1, h2⟩ := exists_least (fun i => ¬ posAt s i < s.size) ⟨s.size, by have := posAt_ge s s.size; omega⟩
  exact ⟨N, h1, fun i hi => Classical.byContradiction fun h => by have := h2 i h; omega⟩
/-- How many letters a text has. -/
noncomputable def lettersN (s : ByteArray) : Nat := Classical.choose (units_least s)
noncomputable def unitsOf (s : ByteArray) : List Int := unitsL s (lettersN s)
theorem letters_spec (s : ByteArray) : ¬ posAt s (lettersN s) < s.size ∧ ∀ i, i < lettersN s → posAt s i < s.size := Classical.choose_spec (units_least s)
theorem letters_le (s : ByteArray) : lettersN s ≤ s.size := by
  rcases Nat.lt_or_ge s.size (lettersN s) with h | h
  · have h1 := (letters_spec s).2 s.size h
    have h2 := posAt_ge s s.size
    omega
  · exact h
theorem units_ok (s : ByteArray) (hs : s.size ≤ 1000000) : CallsF P G 84 [.sc (.string s)] (encW (unitsOf s)) :=
  units_run s (lettersN s) hs (letters_spec s).2 (letters_spec s).1
theorem unitsOf_len (s : ByteArray) : (unitsOf s).length ≤ 2 * s.size := Nat.le_trans (units_len s _) (by have := letters_le s; omega)
/-- A value's full hash. -/
noncomputable def hashK (k n : Int) (s : List UInt8) (l : List Int) : Int :=
  if k = 1 then (if n = 1 then 1231 else 1237) else if k = 2 then longH n else if k = 3 then intH (javaF (unitsOf ⟨s.toArray⟩)) else if k = 4 then ordH l else if k = 5 then unordH l else if k = 6 then unordH (entriesH l) else 0
mutual
noncomputable def fullH : V → Int
  | .mk k n s l => hashK k n s (fullHs l)
noncomputable def fullHs : List V → List Int
  | [] => []
  | v :: l => fullH v :: fullHs l
end
noncomputable def Sall (l : List V) (i : Nat) : St := { sl := slots 19 [(3, .lsl 0), (6, .f (encI l)), (7, .f (int (cellsVs l).length)), (8, .f (int (i : Int)))], ob := [(0, .row 1 49 (cellsU (fullHs (l.take i))))], nx := 1 }
theorem fullHs_map : ∀ l, fullHs l = l.map fullH
  | [] => by simp [fullHs]
  | v :: l => by simp [fullHs, fullHs_map l]
theorem all_step (l : List V) (i : Nat) (h : i < l.length) : cellsU (fullHs (l.take i)) ++ [[.sc (.int .u32 (fullH (l.getD i default)))]] = cellsU (fullHs (l.take (i + 1))) := by
  rw [List.take_succ_eq_append_getElem h, fullHs_map, fullHs_map, List.map_append]
  simp only [cellsU, List.map_append, List.map_cons, List.map_nil, List.getD_eq_getElem?_getD, List.getElem?_eq_getElem h, Option.getD_some]
theorem all_len (l : List V) (i : Nat) (h : i ≤ l.length) : (cellsU (fullHs (l.take i))).length = i := by
  rw [cellsU_length, fullHs_map]; simp; omega
theorem get86 : P.funcs[86]? = some Tryd.f86 := by kernel_rfl
theorem ent86 : entersP P 86 = true := by kernel_rfl
theorem all_run (l : List V) (hl : l.length ≤ 1000000) (ih : ∀ i, i < l.length → CallsF P G 70 [encV (l.getD i default)] (.sc (.int .u32 (fullH (l.getD i default))))) : CallsF P G 86 [encI l] (.sl 1 (cellsU (fullHs (l.take l.length)))) := by
  refine sx_fn (hs := let z1 := List.getD l (List.length l) default; [Hint.pre [Hint.nrow 3 1 49], .loop [(0, 0)] [(3, 0)] (Sall l) (List.length l) (fun i => [.br [.el (cellsP (List.getD l i default)), .call (FV.sc (Value.int IntKind.u32 (fullH (List.getD l i default))))] []]), .br [.el (cellsP z1), .call (FV.sc (Value.int IntKind.u32 (fullH z1)))] [.lfz [0]]]) (let z2 := (↑(List.length (cellsVs l)) : Int); let z3 := cellsU (fullHs (List.take (List.length l) l)); let z4 := List.getD l (List.length l) default; let z1 := Value.int IntKind.u32 (fullH z4); (E true ∧ (E (AV.lsl 0) ∧ E (AV.f (encI l)) ∧ E (AV.f (int z2)) ∧ AV.f (int 0) = AV.f (int (Int.ofNat 0)) ∧ True) ∧ (E (Ob.row 1 49 []) ∧ True) ∧ E true ∧ (false = true → false = true)) ∧ (∀ (i : Nat), (let z6 := fullHs (List.take i l); let z7 := List.getD l i default; let z5 := Value.int IntKind.u32 (fullH z7); i < List.length l → Br (decide ((i : Int) < z2)) ((E 4 ∧ (0 : Int) ≤ (i : Int) ∧ (cellsVs l)[i]? = some (cellsP z7)) ∧ CallsF P G 70 [encV z7] (FV.sc z5) ∧ (oneF ([[FV.sc z5]]) ∧ List.length (cellsU z6) + List.length (chunk 1 1 [FV.sc z5]) ≤ maxLen ∧ (List.length (cellsU z6) + List.length (chunk 1 1 [FV.sc z5])) * 4 ≤ 140737488355328 ∧ E false) ∧ E true ∧ (E (AV.lsl 0) ∧ E (AV.f (encI l)) ∧ E (AV.f (int z2)) ∧ AV.f (int (IntKind.wrap IntKind.i64 ((i : Int) + 1))) = AV.f (int (↑(i + 1) : Int)) ∧ True) ∧ (Ob.row 1 49 (cellsU z6 ++ chunk (TypeInfo.size (Tables.types (Program.toTables P))[49]) 1 [FV.sc z5]) = Ob.row 1 49 (cellsU (fullHs (List.take (i + 1) l))) ∧ True) ∧ E true ∧ (St.nd (Sall l (i + 1)) = true → false = true)) False)) ∧ Br (decide ((↑(List.length l) : Int) < z2)) ((E 4 ∧ (0 : Int) ≤ (↑(List.length l) : Int) ∧ (cellsVs l)[List.length l]? = some (cellsP z4)) ∧ CallsF P G 70 [encV z4] (FV.sc z1) ∧ (oneF ([[FV.sc z1]]) ∧ List.length z3 + List.length (chunk 1 1 [FV.sc z1]) ≤ maxLen ∧ (List.length z3 + List.length (chunk 1 1 [FV.sc z1])) * 4 ≤ 140737488355328 ∧ E false) ∧ False) (E (FV.sl 1 z3))) get86 ent86 (by kernel_rfl) ?_
  refine ⟨⟨rfl, ⟨rfl, rfl, rfl, ?_, trivial⟩, ⟨rfl, trivial⟩, rfl, fun hi => ?_⟩, fun i => fun hlt => ⟨fun hi => ⟨⟨rfl, ?_, ?_⟩, ?_, ⟨?_, ?_, ?_, rfl⟩, rfl, ⟨rfl, rfl, rfl, ?_, trivial⟩, ⟨?_, trivial⟩, rfl, fun hi => ?_⟩, fun hi => ?_⟩, fun hi => ⟨⟨rfl, ?_, ?_⟩, ?_, ⟨?_, ?_, ?_, rfl⟩, ?_⟩, fun hi => rfl⟩
  all_goals first | exact ih i (by omega) | exact cellsVs_get l _ (by omega) | (exact congrArg (Ob.row 1 49) (all_step l i (by omega))) | (simp only [all_len l i (by omega), chunk, List.length_cons, List.length_nil, maxLen]; omega) | (simp only [cellsVs_length, decide_eq_true_eq, decide_eq_false_iff_not] at *; omega) | (exact congrArg (fun x => AV.f (int x)) (wrapS ((i : Int) + 1) (by omega) (by omega))) | (simp [oneF]; done) | assumption | (intro x hx; simp at hx; rcases hx with rfl | rfl | rfl | rfl <;> rfl)
end Go.Sx
set_option maxRecDepth 100000
set_option maxHeartbeats 4000000
set_option linter.unusedSimpArgs false
set_option linter.unusedVariables false
namespace Go.Sx
open Go.Proofs Sp
end Go.Sx
set_option maxRecDepth 100000
set_option maxHeartbeats 4000000
set_option linter.unusedSimpArgs false
set_option linter.unusedVariables false
namespace Go.Sx
open Go.Proofs Sp
def Sfull (h : List Int) (i : Nat) : St := { sl := slots 63 [(3, .lsl 0), (4, .f (encU h)), (5, .f (int ((2 * i : Nat) : Int)))], ob := [(0, .row 1 49 (cellsU (entriesH (h.take (2 * i)))))], nx := 1 }
theorem countL_items : ∀ (l : List V) (d m n : Int), 0 ≤ n → countL l d m n ≠ 0 → ∀ x, x ∈ l → ∃ m', m' ≤ m ∧ 0 < countV x d m'
  | [], _, _, _, _, _, x, hx => by simp at hx
  | y :: l, d, m, n, hn, h, x, hx => by
    simp only [countL] at h
    by_cases h0 : countV y d (m - n) = 0
    · rw [if_pos h0] at h; exact absurd rfl h
    · rw [if_neg h0] at h
      have h1 := (countV_bd y d (m - n)).1
      rcases List.mem_cons.mp hx with rfl | hx
      · exact ⟨m - n, by omega, by omega⟩
      · exact countL_items l d m _ (by omega) h x hx
/-- What a value that counts is made of. -/
theorem count_parts {k n : Int} {s : List UInt8} {l : List V} {d m : Int} (h : 0 < countV (.mk k n s l) d m) : plainB (.mk k n s l) = true ∧ formB (.mk k n s l) = true ∧ (l.length : Int) < m ∧ ∀ x, x ∈ l → ∃ m', m' ≤ m ∧ 0 < countV x (d - 1) m' := by
  simp only [countV] at h
  split at h
  · omega
  · rename_i hb
    split at h
    · omega
    · rename_i hc
      split at h
      · rename_i hf
        simp only [badV, Bool.or_eq_true, decide_eq_true_eq, Bool.not_eq_true', not_or] at hb
        obtain ⟨⟨⟨h1, h2⟩, h3⟩, h4⟩ := hb
        exact ⟨by simpa using h4, hf, by omega, fun x hx => countL_items l (d - 1) m 1 (by omega) hc x hx⟩
      · omega
theorem entries_step : ∀ (i : Nat) (h : List Int), 2 * i + 1 < h.length → entriesH (h.take (2 * (i + 1))) = entriesH (h.take (2 * i)) ++ [ordH [h.getD (2 * i) 0, h.getD (2 * i + 1) 0]]
  | 0, h, hh => by
    match h, hh with
    | a :: b :: t, _ => simp [entriesH]
    | [a], hh => simp at hh
    | [], hh => simp at hh
  | i + 1, h, hh => by
    match h, hh with
    | a :: b :: t, hh =>
      have ih := entries_step i t (by simp at hh; omega)
      rw [show 2 * (i + 1 + 1) = 2 * (i + 1) + 2 from by omega, show 2 * (i + 1) = 2 * i + 2 from by omega] at *
      simp only [List.take_succ_cons, entriesH, List.cons_append]
      rw [show 2 * i + 2 + 1 = 2 * i + 1 + 2 from by omega]
      simp only [List.getD_cons_succ]
      rw [ih]
    | [a], hh => simp at hh
    | [], hh => simp at hh
theorem entries_len : ∀ (n : Nat) (h : List Int), h.length ≤ n → (entriesH h).length ≤ h.length
  | n, [], _ => by simp [entriesH]
  | n, [a], _ => by simp [entriesH]
  | 0, a :: b :: t, hn => by simp at hn
  | n + 1, a :: b :: t, hn => by
    have := entries_len n t (by simp at hn; omega)
    simp [entriesH]; omega
theorem hall_ok (l : List V) (hl : l.length ≤ 1000000) (ih : ∀ x, x ∈ l → CallsF P G 70 [encV x] (.sc (.int .u32 (fullH x)))) : CallsF P G 86 [encI l] (encU (fullHs l)) := by
  have h := all_run l hl (fun i hi => ih _ (by rw [List.getD_eq_getElem?_getD, List.getElem?_eq_getElem hi]; exact List.getElem_mem hi))
  rw [List.take_length] at h
  exact h
theorem fullHs_len (l : List V) : (fullHs l).length = l.length := by rw [fullHs_map, List.length_map]
theorem get70 : P.funcs[70]? = some Tryd.f70 := by kernel_rfl
theorem ent70 : entersP P 70 = true := by kernel_rfl
theorem full_leaf (k n : Int) (s : List UInt8) (l : List V) (h6 : k ≠ 6) (hs : k = 3 → s.length ≤ 1000) (hl : l.length ≤ 1000000) (ha : CallsF P G 86 [encI l] (encU (fullHs l))) : CallsF P G 70 [encV (.mk k n s l)] (.sc (.int .u32 (hashK k n s (fullHs l)))) := by
  refine sx_fn (hs := let z1 := javaF (unitsOf ⟨s.toArray⟩); [.br [.br [] []] [.br [.call (.sc (.int .u32 (longH n)))] [.br [.call (encW (unitsOf ⟨s.toArray⟩)), .call (.sc (.int .i32 z1)), .call (.sc (.int .u32 (intH z1)))] [.br [.call (encU (fullHs l)), .call (.sc (.int .u32 (ordH (fullHs l))))] [.br [.call (encU (fullHs l)), .call (.sc (.int .u32 (unordH (fullHs l))))] [.dec false]]]]]]) (let z1 := Value.int IntKind.u32 (hashK k n s (fullHs l)); let z2 := Value.int IntKind.u32 (unordH (fullHs l)); let z3 := Value.int IntKind.u32 (ordH (fullHs l)); let z4 := Value.int IntKind.u32 (longH n); let z5 := FV.sl 1 (cellsU (fullHs l)); Br (k == 1) (Br (n == 1) (FV.sc (Value.int IntKind.u32 (Int.ofNat 1231)) = FV.sc z1) (FV.sc (Value.int IntKind.u32 (Int.ofNat 1237)) = FV.sc z1)) (Br (k == 2) (CallsF P G 81 [int n] (FV.sc z4) ∧ FV.sc z4 = FV.sc z1) (Br (k == 3) (CallsF P G 84 [str s] (FV.sl 1 (cellsW (unitsOf { data := List.toArray s }))) ∧ CallsF P G 83 [FV.sl 1 (cellsW (unitsOf { data := List.toArray s }))] (FV.sc (Value.int IntKind.i32 (javaF (unitsOf { data := List.toArray s })))) ∧ CallsF P G 82 [FV.sc (Value.int IntKind.i32 (javaF (unitsOf { data := List.toArray s })))] (FV.sc (Value.int IntKind.u32 (intH (javaF (unitsOf { data := List.toArray s }))))) ∧ FV.sc (Value.int IntKind.u32 (intH (javaF (unitsOf { data := List.toArray s })))) = FV.sc z1) (Br (k == 4) (CallsF P G 86 [encI l] z5 ∧ CallsF P G 85 [FV.sl 1 (cellsU (fullHs l))] (FV.sc z3) ∧ FV.sc z3 = FV.sc z1) (Br (k == 5) (CallsF P G 86 [encI l] z5 ∧ CallsF P G 87 [FV.sl 1 (cellsU (fullHs l))] (FV.sc z2) ∧ FV.sc z2 = FV.sc z1) ((k == 6) = false ∧ FV.sc (Value.int IntKind.u32 (Int.ofNat 0)) = FV.sc z1)))))) get70 ent70 (by kernel_rfl) ?_
  refine ⟨fun hi => ⟨fun hi => ?_, fun hi => ?_⟩, fun hi => ⟨fun hi => ⟨?_, ?_⟩, fun hi => ⟨fun hi => ⟨?_, ?_, ?_, ?_⟩, fun hi => ⟨fun hi => ⟨?_, ?_, ?_⟩, fun hi => ⟨fun hi => ⟨?_, ?_, ?_⟩, fun hi => ⟨?_, ?_⟩⟩⟩⟩⟩⟩
  all_goals first | exact long_ok _ | exact mint_ok _ | exact ha | exact units_ok _ (by have h9 := hs (by simpa using hi); rw [size_mk]; omega) | exact java_ok _ (by have h8 := unitsOf_len ⟨s.toArray⟩; rw [size_mk] at h8; have h9 := hs (by simp_all; done); omega) | exact ordered_ok _ (by rw [fullHs_len]; omega) | exact unordered_ok _ (by rw [fullHs_len]; omega) | (simp_all [hashK]; done)
end Go.Sx
set_option maxRecDepth 100000
set_option maxHeartbeats 4000000
set_option linter.unusedSimpArgs false
set_option linter.unusedVariables false
namespace Go.Sx
open Go.Proofs Sp
theorem cellsU_get2 (h : List Int) (i : Nat) (hl : h.length ≤ 1000000) (hi : 2 * i + 1 < h.length) : (cellsU h)[(IntKind.i64.wrap (((2 * i : Nat) : Int) + 1)).toNat]? = some [.sc (.int .u32 (h.getD (2 * i + 1) 0))] := by
  rw [wrapS _ (by omega) (by omega), show ((((2 * i : Nat) : Int) + 1)).toNat = 2 * i + 1 from by omega]
  exact cellsU_get h _ hi
theorem entries_row (h : List Int) (i : Nat) (hi : 2 * i + 1 < h.length) : cellsU (entriesH (h.take (2 * i))) ++ [[.sc (.int .u32 (ordH [h.getD (2 * i) 0, h.getD (2 * i + 1) 0]))]] = cellsU (entriesH (h.take (2 * (i + 1)))) := by
  rw [entries_step i h hi]; simp [cellsU]
theorem entries_le (h : List Int) (i : Nat) : (cellsU (entriesH (h.take i))).length ≤ h.length := by
  have h8 := entries_len _ (h.take i) (Nat.le_refl _)
  rw [List.length_take] at h8
  rw [cellsU_length]; omega
theorem full_map (n : Int) (s : List UInt8) (l : List V) (h : List Int) (N : Nat) (hh : h = fullHs l) (hl : h.length ≤ 1000000) (hN : h.length = 2 * N) (ha : CallsF P G 86 [encI l] (encU h)) : CallsF P G 70 [encV (.mk 6 n s l)] (.sc (.int .u32 (unordH (entriesH (h.take (2 * N)))))) := by
  refine sx_fn (hs := [.dec false, .dec false, .dec false, .dec false, .dec false, .dec true, .call (encU h), .pre [.nrow 3 1 49], .loop [(1, 0)] [(1, 0)] (Sfull h) N (fun i => [.dec true, .nat 12, .el [.sc (.int .u32 (h.getD (2 * i) 0))], .el [.sc (.int .u32 (h.getD (2 * i + 1) 0))], .call (.sc (.int .u32 (ordH [h.getD (2 * i) 0, h.getD (2 * i + 1) 0])))]), .dec false, .frz [0], .call (.sc (.int .u32 (unordH (entriesH (h.take (2 * N))))))]) (let z2 := (↑(List.length (cellsU h)) : Int); let z3 := entriesH (List.take (2 * N) h); let z1 := FV.sc (Value.int IntKind.u32 (unordH z3)); E false ∧ E false ∧ E false ∧ E false ∧ E false ∧ E true ∧ CallsF P G 86 [encI l] (FV.sl 1 (cellsU h)) ∧ (E true ∧ (E (AV.lsl 0) ∧ E (AV.f (FV.sl 1 (cellsU h))) ∧ AV.f (int 0) = AV.f (int (Int.ofNat (2 * 0))) ∧ True) ∧ (E (Ob.row 1 49 []) ∧ True) ∧ E true ∧ (false = true → false = true)) ∧ (∀ (i : Nat), (let z4 := Value.int IntKind.u32 (ordH [List.getD h (2 * i) 0, List.getD h (2 * i + 1) 0]); let z5 := entriesH (List.take (2 * i) h); let z6 := Value.int IntKind.u32 (List.getD h (2 * i + 1) 0); let z7 := Value.int IntKind.u32 (List.getD h (2 * i) 0); i < N → decide ((↑(2 * i) : Int) < z2) = true ∧ E true ∧ (E 1 ∧ (0 : Int) ≤ (↑(2 * i) : Int) ∧ (cellsU h)[2 * i]? = some [FV.sc z7]) ∧ (E 1 ∧ (0 : Int) ≤ IntKind.wrap IntKind.i64 ((↑(2 * i) : Int) + 1) ∧ (cellsU h)[Int.toNat (IntKind.wrap IntKind.i64 ((↑(2 * i) : Int) + 1))]? = some [FV.sc z6]) ∧ CallsF P G 88 [FV.sc z7, FV.sc z6] (FV.sc z4) ∧ (oneF ([[FV.sc z4]]) ∧ List.length (cellsU z5) + List.length (chunk 1 1 [FV.sc z4]) ≤ maxLen ∧ (List.length (cellsU z5) + List.length (chunk 1 1 [FV.sc z4])) * 4 ≤ 140737488355328 ∧ E false) ∧ E true ∧ (E (AV.lsl 0) ∧ E (AV.f (FV.sl 1 (cellsU h))) ∧ AV.f (int (IntKind.wrap IntKind.i64 ((↑(2 * i) : Int) + 2))) = AV.f (int (↑(2 * (i + 1)) : Int)) ∧ True) ∧ (Ob.row 1 49 (cellsU z5 ++ chunk (TypeInfo.size (Tables.types (Program.toTables P))[49]) 1 [FV.sc z4]) = Ob.row 1 49 (cellsU (entriesH (List.take (2 * (i + 1)) h))) ∧ True) ∧ E true ∧ (false = true → false = true))) ∧ decide ((↑(2 * N) : Int) < z2) = false ∧ CallsF P G 87 [FV.sl 1 (cellsU z3)] z1 ∧ E z1) get70 ent70 (by kernel_rfl) ?_
  refine ⟨rfl, rfl, rfl, rfl, rfl, rfl, ?_, ⟨rfl, ⟨rfl, rfl, ?_, trivial⟩, ⟨rfl, trivial⟩, rfl, fun hi => ?_⟩, fun i => fun hi => ⟨?_, rfl, ⟨rfl, ?_, ?_⟩, ⟨rfl, ?_, ?_⟩, ?_, ⟨?_, ?_, ?_, rfl⟩, rfl, ⟨rfl, rfl, ?_, trivial⟩, ⟨?_, trivial⟩, rfl, fun hi => ?_⟩, ?_, ?_, rfl⟩
  all_goals first | exact cellsU_get2 h i hl (by omega) | (exact congrArg (Ob.row 1 49) (entries_row h i (by omega))) | (have h8 := entries_le h (2 * i); simp only [chunk, List.length_cons, List.length_nil, maxLen]; omega) | (exact congrArg (fun x => AV.f (int x)) (by rw [wrapS _ (by omega) (by omega)]; omega)) | (simp only [cellsU_length, decide_eq_true_eq, decide_eq_false_iff_not] at *; omega) | exact ha | exact entry_ok _ _ | exact cellsU_get h _ (by omega) | (exact unordered_ok _ (by have h8 := entries_len _ (h.take (2 * N)) (Nat.le_refl _); rw [List.length_take] at h8; omega)) | assumption | omega | (rw [wrapS _ (by omega) (by omega)]; omega) | (intro x hx; simp at hx; rcases hx with rfl | rfl | rfl | rfl <;> rfl) | (simp [V.kind, V.num, V.text, V.items, *]; done)
end Go.Sx
set_option maxRecDepth 100000
set_option maxHeartbeats 4000000
set_option linter.unusedSimpArgs false
set_option linter.unusedVariables false
namespace Go.Sx
open Go.Proofs Sp
end Go.Sx
set_option maxRecDepth 100000
set_option maxHeartbeats 4000000
set_option linter.unusedSimpArgs false
set_option linter.unusedVariables false
namespace Go.Sx
open Go.Proofs Sp
end Go.Sx

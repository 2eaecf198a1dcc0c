/-
  Proved: what some functions of the program answer, or a law of the evaluator that shows it, one theorem each; its conditions are the hypotheses that stand ahead of it.
-/
import Derived.Test.YtgbkobkiomeokaaGreatDoorH4
import Derived.KernelRfl
import Derived.Test.YtgbkobkiomeokaaGreatDoorO1
set_option maxRecDepth 100000
set_option maxHeartbeats 4000000
set_option linter.unusedSimpArgs false
set_option linter.unusedVariables false
namespace Go.Sx
open Go.Proofs Sp
def Sfull (h : List Int) (i : Nat) : St := { sl := slots 63 [(3, .lsl 0), (4, .f (encU h)), (5, .f (int ((2 * i : Nat) : Int)))], ob := [(0, .row 1 100 (cellsU (entriesH (h.take (2 * i)))))], nx := 1 }
theorem countL_items : ∀ (l : List V) (d m n : Int), 0 ≤ n → countL l d m n ≠ 0 → ∀ x, x ∈ l → ∃ m', m' ≤ m ∧ 0 < countV x d m'
  | [], _, _, _, _, _, x, hx => by simp at hx
  | y :: l, d, m, n, hn, h, x, hx => by
    simp only [countL] at h
    by_cases h0 : countV y d (m - n) = 0
    · rw [if_pos h0] at h; exact absurd rfl h
    · rw [if_neg h0] at h
      have h1 := (countV_bd y d (m - n)).1
      rcases List.mem_cons.mp hx with rfl | hx
      · exact ⟨m - n, by omega, by omega⟩
      · exact countL_items l d m _ (by omega) h x hx
/-- What a value that counts is made of. -/
theorem count_parts {k n : Int} {s : List UInt8} {l : List V} {d m : Int} (h : 0 < countV (.mk k n s l) d m) : plainB (.mk k n s l) = true ∧ formB (.mk k n s l) = true ∧ (l.length : Int) < m ∧ ∀ x, x ∈ l → ∃ m', m' ≤ m ∧ 0 < countV x (d - 1) m' := by
  simp only [countV] at h
  split at h
  · omega
  · rename_i hb
    split at h
    · omega
    · rename_i hc
      split at h
      · rename_i hf
        simp only [badV, Bool.or_eq_true, decide_eq_true_eq, Bool.not_eq_true', not_or] at hb
        obtain ⟨⟨⟨h1, h2⟩, h3⟩, h4⟩ := hb
        exact ⟨by simpa using h4, hf, by omega, fun x hx => countL_items l (d - 1) m 1 (by omega) hc x hx⟩
      · omega
theorem entries_step : ∀ (i : Nat) (h : List Int), 2 * i + 1 < h.length → entriesH (h.take (2 * (i + 1))) = entriesH (h.take (2 * i)) ++ [ordH [h.getD (2 * i) 0, h.getD (2 * i + 1) 0]]
  | 0, h, hh => by
    match h, hh with
    | a :: b :: t, _ => simp [entriesH]
    | [a], hh => simp at hh
    | [], hh => simp at hh
  | i + 1, h, hh => by
    match h, hh with
    | a :: b :: t, hh =>
      have ih := entries_step i t (by simp at hh; omega)
      rw [show 2 * (i + 1 + 1) = 2 * (i + 1) + 2 from by omega, show 2 * (i + 1) = 2 * i + 2 from by omega] at *
      simp only [List.take_succ_cons, entriesH, List.cons_append]
      rw [show 2 * i + 2 + 1 = 2 * i + 1 + 2 from by omega]
      simp only [List.getD_cons_succ]
      rw [ih]
    | [a], hh => simp at hh
    | [], hh => simp at hh
theorem entries_len : ∀ (n : Nat) (h : List Int), h.length ≤ n → (entriesH h).length ≤ h.length
  | n, [], _ => by simp [entriesH]
  | n, [a], _ => by simp [entriesH]
  | 0, a :: b :: t, hn => by simp at hn
  | n + 1, a :: b :: t, hn => by
    have := entries_len n t (by simp at hn; omega)
    simp [entriesH]; omega
theorem hall_ok (l : List V) (hl : l.length ≤ 1000000) (ih : ∀ x, x ∈ l → CallsF P G 132 [encV x] (.sc (.int .u32 (fullH x)))) : CallsF P G 140 [encI l] (encU (fullHs l)) := by
  have h := all_run l hl (fun i hi => ih _ (by rw [List.getD_eq_getElem?_getD, List.getElem?_eq_getElem hi]; exact List.getElem_mem hi))
  rw [List.take_length] at h
  exact h
theorem fullHs_len (l : List V) : (fullHs l).length = l.length := by rw [fullHs_map, List.length_map]
theorem get132 : P.funcs[132]? = some Tryz.f132 := by kernel_rfl
theorem ent132 : entersP P 132 = true := by kernel_rfl
theorem full_leaf (k n : Int) (s : List UInt8) (l : List V) (h6 : k ≠ 6) (hs : k = 3 → s.length ≤ 1000) (hl : l.length ≤ 1000000) (ha : CallsF P G 140 [encI l] (encU (fullHs l))) : CallsF P G 132 [encV (.mk k n s l)] (.sc (.int .u32 (hashK k n s (fullHs l)))) := by
  refine sx_fn (hs := let z1 := javaF (unitsOf ⟨s.toArray⟩); [.br [.br [] []] [.br [.call (.sc (.int .u32 (longH n)))] [.br [.call (encW (unitsOf ⟨s.toArray⟩)), .call (.sc (.int .i32 z1)), .call (.sc (.int .u32 (intH z1)))] [.br [.call (encU (fullHs l)), .call (.sc (.int .u32 (ordH (fullHs l))))] [.br [.call (encU (fullHs l)), .call (.sc (.int .u32 (unordH (fullHs l))))] [.dec false]]]]]]) (let z1 := Value.int IntKind.u32 (hashK k n s (fullHs l)); let z2 := Value.int IntKind.u32 (unordH (fullHs l)); let z3 := Value.int IntKind.u32 (ordH (fullHs l)); let z4 := Value.int IntKind.u32 (longH n); let z5 := FV.sl 1 (cellsU (fullHs l)); Br (k == 1) (Br (n == 1) (FV.sc (Value.int IntKind.u32 (Int.ofNat 1231)) = FV.sc z1) (FV.sc (Value.int IntKind.u32 (Int.ofNat 1237)) = FV.sc z1)) (Br (k == 2) (CallsF P G 135 [int n] (FV.sc z4) ∧ FV.sc z4 = FV.sc z1) (Br (k == 3) (CallsF P G 138 [str s] (FV.sl 1 (cellsW (unitsOf { data := List.toArray s }))) ∧ CallsF P G 137 [FV.sl 1 (cellsW (unitsOf { data := List.toArray s }))] (FV.sc (Value.int IntKind.i32 (javaF (unitsOf { data := List.toArray s })))) ∧ CallsF P G 136 [FV.sc (Value.int IntKind.i32 (javaF (unitsOf { data := List.toArray s })))] (FV.sc (Value.int IntKind.u32 (intH (javaF (unitsOf { data := List.toArray s }))))) ∧ FV.sc (Value.int IntKind.u32 (intH (javaF (unitsOf { data := List.toArray s })))) = FV.sc z1) (Br (k == 4) (CallsF P G 140 [encI l] z5 ∧ CallsF P G 139 [FV.sl 1 (cellsU (fullHs l))] (FV.sc z3) ∧ FV.sc z3 = FV.sc z1) (Br (k == 5) (CallsF P G 140 [encI l] z5 ∧ CallsF P G 141 [FV.sl 1 (cellsU (fullHs l))] (FV.sc z2) ∧ FV.sc z2 = FV.sc z1) ((k == 6) = false ∧ FV.sc (Value.int IntKind.u32 (Int.ofNat 0)) = FV.sc z1)))))) get132 ent132 (by kernel_rfl) ?_
  refine ⟨fun hi => ⟨fun hi => ?_, fun hi => ?_⟩, fun hi => ⟨fun hi => ⟨?_, ?_⟩, fun hi => ⟨fun hi => ⟨?_, ?_, ?_, ?_⟩, fun hi => ⟨fun hi => ⟨?_, ?_, ?_⟩, fun hi => ⟨fun hi => ⟨?_, ?_, ?_⟩, fun hi => ⟨?_, ?_⟩⟩⟩⟩⟩⟩
  all_goals first | exact long_ok _ | exact mint_ok _ | exact ha | exact units_ok _ (by have h9 := hs (by simpa using hi); rw [size_mk]; omega) | exact java_ok _ (by have h8 := unitsOf_len ⟨s.toArray⟩; rw [size_mk] at h8; have h9 := hs (by simp_all; done); omega) | exact ordered_ok _ (by rw [fullHs_len]; omega) | exact unordered_ok _ (by rw [fullHs_len]; omega) | (simp_all [hashK]; done)
end Go.Sx
set_option maxRecDepth 100000
set_option maxHeartbeats 4000000
set_option linter.unusedSimpArgs false
set_option linter.unusedVariables false
namespace Go.Sx
open Go.Proofs Sp
theorem cellsU_get2 (h : List Int) (i : Nat) (hl : h.length ≤ 1000000) (hi : 2 * i + 1 < h.length) : (cellsU h)[(IntKind.i64.wrap (((2 * i : Nat) : Int) + 1)).toNat]? = some [.sc (.int .u32 (h.getD (2 * i + 1) 0))] := by
  rw [wrapS _ (by omega) (by omega), show ((((2 * i : Nat) : Int) + 1)).toNat = 2 * i + 1 from by omega]
  exact cellsU_get h _ hi
theorem entries_row (h : List Int) (i : Nat) (hi : 2 * i + 1 < h.length) : cellsU (entriesH (h.take (2 * i))) ++ [[.sc (.int .u32 (ordH [h.getD (2 * i) 0, h.getD (2 * i + 1) 0]))]] = cellsU (entriesH (h.take (2 * (i + 1)))) := by
  rw [entries_step i h hi]; simp [cellsU]
theorem entries_le (h : List Int) (i : Nat) : (cellsU (entriesH (h.take i))).length ≤ h.length := by
  have h8 := entries_len _ (h.take i) (Nat.le_refl _)
  rw [List.length_take] at h8
  rw [cellsU_length]; omega
theorem full_map (n : Int) (s : List UInt8) (l : List V) (h : List Int) (N : Nat) (hh : h = fullHs l) (hl : h.length ≤ 1000000) (hN : h.length = 2 * N) (ha : CallsF P G 140 [encI l] (encU h)) : CallsF P G 132 [encV (.mk 6 n s l)] (.sc (.int .u32 (unordH (entriesH (h.take (2 * N)))))) := by
  refine sx_fn (hs := [.dec false, .dec false, .dec false, .dec false, .dec false, .dec true, .call (encU h), .pre [.nrow 3 1 100], .loop [(1, 0)] [(1, 0)] (Sfull h) N (fun i => [.dec true, .nat 12, .el [.sc (.int .u32 (h.getD (2 * i) 0))], .el [.sc (.int .u32 (h.getD (2 * i + 1) 0))], .call (.sc (.int .u32 (ordH [h.getD (2 * i) 0, h.getD (2 * i + 1) 0])))]), .dec false, .frz [0], .call (.sc (.int .u32 (unordH (entriesH (h.take (2 * N))))))]) (let z2 := (↑(List.length (cellsU h)) : Int); let z3 := entriesH (List.take (2 * N) h); let z1 := FV.sc (Value.int IntKind.u32 (unordH z3)); E false ∧ E false ∧ E false ∧ E false ∧ E false ∧ E true ∧ CallsF P G 140 [encI l] (FV.sl 1 (cellsU h)) ∧ (E true ∧ (E (AV.lsl 0) ∧ E (AV.f (FV.sl 1 (cellsU h))) ∧ AV.f (int 0) = AV.f (int (Int.ofNat (2 * 0))) ∧ True) ∧ (E (Ob.row 1 100 []) ∧ True) ∧ E true ∧ (false = true → false = true)) ∧ (∀ (i : Nat), (let z4 := Value.int IntKind.u32 (ordH [List.getD h (2 * i) 0, List.getD h (2 * i + 1) 0]); let z5 := entriesH (List.take (2 * i) h); let z6 := Value.int IntKind.u32 (List.getD h (2 * i + 1) 0); let z7 := Value.int IntKind.u32 (List.getD h (2 * i) 0); i < N → decide ((↑(2 * i) : Int) < z2) = true ∧ E true ∧ (E 1 ∧ (0 : Int) ≤ (↑(2 * i) : Int) ∧ (cellsU h)[2 * i]? = some [FV.sc z7]) ∧ (E 1 ∧ (0 : Int) ≤ IntKind.wrap IntKind.i64 ((↑(2 * i) : Int) + 1) ∧ (cellsU h)[Int.toNat (IntKind.wrap IntKind.i64 ((↑(2 * i) : Int) + 1))]? = some [FV.sc z6]) ∧ CallsF P G 142 [FV.sc z7, FV.sc z6] (FV.sc z4) ∧ (oneF ([[FV.sc z4]]) ∧ List.length (cellsU z5) + List.length (chunk 1 1 [FV.sc z4]) ≤ maxLen ∧ (List.length (cellsU z5) + List.length (chunk 1 1 [FV.sc z4])) * 4 ≤ 140737488355328 ∧ E false) ∧ E true ∧ (E (AV.lsl 0) ∧ E (AV.f (FV.sl 1 (cellsU h))) ∧ AV.f (int (IntKind.wrap IntKind.i64 ((↑(2 * i) : Int) + 2))) = AV.f (int (↑(2 * (i + 1)) : Int)) ∧ True) ∧ (Ob.row 1 100 (cellsU z5 ++ chunk (TypeInfo.size (Tables.types (Program.toTables P))[100]) 1 [FV.sc z4]) = Ob.row 1 100 (cellsU (entriesH (List.take (2 * (i + 1)) h))) ∧ True) ∧ E true ∧ (false = true → false = true))) ∧ decide ((↑(2 * N) : Int) < z2) = false ∧ CallsF P G 141 [FV.sl 1 (cellsU z3)] z1 ∧ E z1) get132 ent132 (by kernel_rfl) ?_
  refine ⟨rfl, rfl, rfl, rfl, rfl, rfl, ?_, ⟨rfl, ⟨rfl, rfl, ?_, trivial⟩, ⟨rfl, trivial⟩, rfl, fun hi => ?_⟩, fun i => fun hi => ⟨?_, rfl, ⟨rfl, ?_, ?_⟩, ⟨rfl, ?_, ?_⟩, ?_, ⟨?_, ?_, ?_, rfl⟩, rfl, ⟨rfl, rfl, ?_, trivial⟩, ⟨?_, trivial⟩, rfl, fun hi => ?_⟩, ?_, ?_, rfl⟩
  all_goals first | exact cellsU_get2 h i hl (by omega) | (exact congrArg (Ob.row 1 100) (entries_row h i (by omega))) | (have h8 := entries_le h (2 * i); simp only [chunk, List.length_cons, List.length_nil, maxLen]; omega) | (exact congrArg (fun x => AV.f (int x)) (by rw [wrapS _ (by omega) (by omega)]; omega)) | (simp only [cellsU_length, decide_eq_true_eq, decide_eq_false_iff_not] at *; omega) | exact ha | exact entry_ok _ _ | exact cellsU_get h _ (by omega) | (exact unordered_ok _ (by have h8 := entries_len _ (h.take (2 * N)) (Nat.le_refl _); rw [List.length_take] at h8; omega)) | assumption | omega | (rw [wrapS _ (by omega) (by omega)]; omega) | (intro x hx; simp at hx; rcases hx with rfl | rfl | rfl | rfl <;> rfl) | (simp [V.kind, V.num, V.text, V.items, *]; done)
end Go.Sx
set_option maxRecDepth 100000
set_option maxHeartbeats 4000000
set_option linter.unusedSimpArgs false
set_option linter.unusedVariables false
namespace Go.Sx
open Go.Proofs Sp
/-- What a number stands away from 0; the first that is not 0. -/
def awayI (n : Int) : Int := if n < 0 then IntKind.u64.wrap (0 - IntKind.u64.wrap n) else IntKind.u64.wrap n
def orI (a b : Int) : Int := if a ≠ 0 then a else b
theorem full_ok : ∀ v, Fine v → ∀ d m, m ≤ 1024 → 0 < countV v d m → CallsF P G 132 [encV v] (.sc (.int .u32 (fullH v))) := by
  intro v
  induction v using V.ind with
  | h k n s l ih =>
    intro hv d m hm hc
    obtain ⟨h1, h2, h3, h4⟩ := count_parts hc
    have hl : l.length ≤ 1000000 := by omega
    have ha := hall_ok l hl fun x hx => by
      obtain ⟨m', h5, h6⟩ := h4 x hx
      exact ih x hx (hv.items.2 x hx) _ m' (by omega) h6
    rw [fullH]
    by_cases h6 : k = 6
    · subst h6
      simp only [formB] at h2
      have h7 : l.length % 2 = 0 := by
        rw [if_neg (by omega), if_neg (by omega), if_pos trivial, Bool.and_eq_true, decide_eq_true_eq] at h2
        exact h2.1
      have h8 := full_map n s l (fullHs l) (l.length / 2) rfl (by rw [fullHs_len]; exact hl) (by rw [fullHs_len]; omega) ha
      rw [List.take_of_length_le (by rw [fullHs_len]; omega)] at h8
      simpa [hashK] using h8
    · refine full_leaf k n s l h6 (fun h3 => ?_) hl ha
      subst h3
      simp only [plainB] at h1
      split at h1
      · cases h1
      · rw [if_neg (by omega), if_pos trivial, Bool.and_eq_true, decide_eq_true_eq] at h1
        omega
theorem get124 : P.funcs[124]? = some Tryz.f124 := by kernel_rfl
theorem ent124 : entersP P 124 = true := by kernel_rfl
theorem hFull_ok (v : V) (hv : Fine v) (hr : rightB v = true) : CallsF P G 124 [encV v] (.tup [.sc (.int .u32 (fullH v)), int 0]) := by
  refine sx_fn (hs := [.call (int (chkI (rightB v))), .br [] [.call (FV.sc (Value.int IntKind.u32 (fullH v)))]]) (let z1 := Value.int IntKind.u32 (fullH v); CallsF P G 46 [encV v] (int (chkI (rightB v))) ∧ Br (chkI (rightB v) != 0) (FV.tup [FV.sc (Value.int IntKind.u32 (Int.ofNat 0)), int (chkI (rightB v))] = FV.tup [FV.sc z1, int 0]) (CallsF P G 132 [encV v] (FV.sc z1) ∧ E (FV.tup [FV.sc z1, int 0]))) get124 ent124 (by kernel_rfl) ?_
  refine ⟨?_, fun hi => ?_, fun hi => ⟨?_, rfl⟩⟩
  all_goals first | exact check_chk _ hv | exact full_ok _ hv _ _ (Int.le_refl _) (by simpa [rightB] using hr) | (exfalso; simp [hr, chkI] at hi; done)
theorem get113 : P.funcs[113]? = some Tryz.f113 := by kernel_rfl
theorem ent113 : entersP P 113 = true := by kernel_rfl
theorem ofull_ok (v : V) (hv : Fine v) (hr : rightB v = true) : CallsF P G 113 [encV v] (.sc (.int .u32 (fullH v))) := by
  refine sx_fn (hs := [.call (FV.tup [FV.sc (Value.int IntKind.u32 (fullH v)), int 0])]) ((CallsF P G 124 [encV v] (FV.tup [FV.sc (Value.int IntKind.u32 (fullH v)), int 0])) ∧ E (FV.sc (Value.int IntKind.u32 (fullH v)))) get113 ent113 (by kernel_rfl) ?_
  refine ⟨?_, rfl⟩
  all_goals exact hFull_ok v hv hr
theorem get115 : P.funcs[115]? = some Tryz.f115 := by kernel_rfl
theorem ent115 : entersP P 115 = true := by kernel_rfl
theorem oparts_ok (v : V) (hv : Fine v) : CallsF P G 115 [encV v] (int (countV v 16 1024)) := by
  refine sx_fn (hs := [.call (FV.tup [int (countV v 16 1024), int (if rightB v = true then 0 else 3)])]) ((CallsF P G 126 [encV v] (FV.tup [int (countV v 16 1024), int (if rightB v = true then 0 else 3)])) ∧ E (int (countV v 16 1024))) get115 ent115 (by kernel_rfl) ?_
  refine ⟨?_, rfl⟩
  all_goals exact parts_ok v hv
theorem get129 : P.funcs[129]? = some Tryz.f129 := by kernel_rfl
theorem ent129 : entersP P 129 = true := by kernel_rfl
theorem away_ok (n : Int)  : CallsF P G 129 [.sc (.int .i64 n)] (.sc (.int .u64 (awayI n))) := by
  refine sx_fn (hs := [.br [] []]) (let z1 := Value.int IntKind.u64 (awayI n); Br (decide (n < 0)) (FV.sc (Value.int IntKind.u64 (IntKind.wrap IntKind.u64 (0 - IntKind.wrap IntKind.u64 n))) = FV.sc z1) (FV.sc (Value.int IntKind.u64 (IntKind.wrap IntKind.u64 n)) = FV.sc z1)) get129 ent129 (by kernel_rfl) ?_
  refine ⟨fun hi => ?_, fun hi => ?_⟩
  all_goals first | (exact congrArg (fun x => FV.sc (.int .u64 x)) (if_pos (of_decide_eq_true hi)).symm) | (exact congrArg (fun x => FV.sc (.int .u64 x)) (if_neg (of_decide_eq_false hi)).symm)
theorem get131 : P.funcs[131]? = some Tryz.f131 := by kernel_rfl
theorem ent131 : entersP P 131 = true := by kernel_rfl
theorem nan32_ok (n : Int)  : CallsF P G 131 [.sc (.int .u32 n)] (bool false) := by
  refine sx_fn (hs := []) ((bool (n != n)) = (bool false)) get131 ent131 (by kernel_rfl) ?_
  all_goals (simp [V.kind, V.num, V.text, V.items, *]; done)
theorem get133 : P.funcs[133]? = some Tryz.f133 := by kernel_rfl
theorem ent133 : entersP P 133 = true := by kernel_rfl
theorem nan64_ok (n : Int)  : CallsF P G 133 [.sc (.int .u64 n)] (bool false) := by
  refine sx_fn (hs := []) ((bool (n != n)) = (bool false)) get133 ent133 (by kernel_rfl) ?_
  all_goals (simp [V.kind, V.num, V.text, V.items, *]; done)
theorem get123 : P.funcs[123]? = some Tryz.f123 := by kernel_rfl
theorem ent123 : entersP P 123 = true := by kernel_rfl
theorem cmp32_ok (a b : Int)  : CallsF P G 123 [.sc (.int .u32 a), .sc (.int .u32 b)] (int (cmpI a b)) := by
  refine sx_fn (hs := [.call (bool false), .call (bool false), .dec false, .dec false, .br [] [.br [] []]]) (CallsF P G 131 [FV.sc (Value.int IntKind.u32 a)] (bool false) ∧ CallsF P G 131 [FV.sc (Value.int IntKind.u32 b)] (bool false) ∧ E false ∧ E false ∧ Br (decide (a < b)) (int (-1) = int (cmpI a b)) (Br (decide (a > b)) (int 1 = int (cmpI a b)) (int 0 = int (cmpI a b)))) get123 ent123 (by kernel_rfl) ?_
  refine ⟨?_, ?_, rfl, rfl, fun hi => ?_, fun hi => ⟨fun hi => ?_, fun hi => ?_⟩⟩
  all_goals first | exact nan32_ok _ | (simp_all [cmpI]; done) | (exact congrArg int (by simp only [decide_eq_true_eq, decide_eq_false_iff_not] at *; unfold cmpI; split <;> (try split) <;> omega))
theorem get128 : P.funcs[128]? = some Tryz.f128 := by kernel_rfl
theorem ent128 : entersP P 128 = true := by kernel_rfl
theorem cmp64_ok (a b : Int)  : CallsF P G 128 [.sc (.int .u64 a), .sc (.int .u64 b)] (int (cmpI a b)) := by
  refine sx_fn (hs := [.call (bool false), .call (bool false), .dec false, .dec false, .br [] [.br [] []]]) (CallsF P G 133 [FV.sc (Value.int IntKind.u64 a)] (bool false) ∧ CallsF P G 133 [FV.sc (Value.int IntKind.u64 b)] (bool false) ∧ E false ∧ E false ∧ Br (decide (a < b)) (int (-1) = int (cmpI a b)) (Br (decide (a > b)) (int 1 = int (cmpI a b)) (int 0 = int (cmpI a b)))) get128 ent128 (by kernel_rfl) ?_
  refine ⟨?_, ?_, rfl, rfl, fun hi => ?_, fun hi => ⟨fun hi => ?_, fun hi => ?_⟩⟩
  all_goals first | exact nan64_ok _ | (simp_all [cmpI]; done) | (exact congrArg int (by simp only [decide_eq_true_eq, decide_eq_false_iff_not] at *; unfold cmpI; split <;> (try split) <;> omega))
end Go.Sx

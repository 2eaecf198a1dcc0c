/-
  Proved: what some functions of the program answer, or a law of the evaluator that shows it, one theorem each; its conditions are the hypotheses that stand ahead of it.
-/
import Derived.Test.YtdgodofdnaligaaDoorZP
import Derived.KernelRfl
import Derived.Test.YtdgodofdnaligaaDoorZ3
set_option maxRecDepth 100000
set_option maxHeartbeats 4000000
set_option linter.unusedSimpArgs false
set_option linter.unusedVariables false
namespace Go.Sx
open Go.Proofs Sp
def Sass (M : FV) (k v : V) (i : Nat) : St := { sl := slots 46 [(0, .f M), (4, .loc 0 0), (5, .loc 1 0), (15, .f (.sl 4 [[int k.kind, int k.num, str k.text, encI k.items], [int v.kind, int v.num, str v.text, encI v.items]])), (16, .f (int 2)), (17, .f (int (i : Int)))], ob := [(0, .box [.f (int k.kind), .f (int k.num), .f (str k.text), .f (encI k.items)]), (1, .box [.f (int v.kind), .f (int v.num), .f (str v.text), .f (encI v.items)])], nx := 2 }
theorem get5 : P.funcs[5]? = some Tryd.f5 := by kernel_rfl
theorem ent5 : entersP P 5 = true := by kernel_rfl
theorem mass_low (M : FV) (k v : V) (x : Nat → V) (n : Int) (M2 : FV) (hel : ∀ i, i < 2 → ([[int k.kind, int k.num, str k.text, encI k.items], [int v.kind, int v.num, str v.text, encI v.items]] : List (List FV))[i]? = some (cellsP (x i))) (hc : ∀ i, i < 2 → CallsF P G 19 [encV (x i)] (int 0)) (hn : CallsF P G 7 [M] (int n)) (hlt : n < 65536) (hput : CallsF P G 23 [M, encV k, encV v] (M2))  : CallsF P G 5 [M, encV k, encV v] (.tup [M2, int 0]) := by
  refine sx_fn (hs := [.pre [.frz [2]], .loop [(0,0),(1,1)] [(0,0),(1,1)] (Sass M k v) 2 (fun i => [.dec true, .el (cellsP (x i)), .call (int 0), .dec false]), .dec false, .call (int n), .dec false, .call (M2)]) (let z1 := E (Ob.box [AV.f (int (V.kind k)), AV.f (int (V.num k)), AV.f (str (V.text k)), AV.f (encI (V.items k))]) ∧ E (Ob.box [AV.f (int (V.kind v)), AV.f (int (V.num v)), AV.f (str (V.text v)), AV.f (encI (V.items v))]) ∧ True; let z2 := AV.f (FV.sl 4 [cellsP k, cellsP v]); (E true ∧ (E (AV.f M) ∧ E (AV.loc 0 0) ∧ E (AV.loc 1 0) ∧ E z2 ∧ AV.f (int (↑(List.length (chunk (TypeInfo.size (Tables.types (Program.toTables P))[24]) 2 (int (V.kind k) :: int (V.num k) :: str (V.text k) :: encI (V.items k) :: cellsP v))) : Int)) = AV.f (int 2) ∧ AV.f (int 0) = AV.f (int (Int.ofNat 0)) ∧ True) ∧ z1 ∧ E true ∧ (false = true → false = true)) ∧ (∀ (i : Nat), i < 2 → decide ((i : Int) < 2) = true ∧ (E 4 ∧ (0 : Int) ≤ (i : Int) ∧ [cellsP k, cellsP v][i]? = some (cellsP (x i))) ∧ CallsF P G 19 [encV (x i)] (int 0) ∧ E false ∧ E true ∧ (E (AV.f M) ∧ E (AV.loc 0 0) ∧ E (AV.loc 1 0) ∧ E z2 ∧ E (AV.f (int 2)) ∧ AV.f (int (IntKind.wrap IntKind.i64 ((i : Int) + 1))) = AV.f (int (↑(i + 1) : Int)) ∧ True) ∧ z1 ∧ E true ∧ (false = true → false = true)) ∧ E false ∧ CallsF P G 7 [M] (int n) ∧ decide (n ≥ 65536) = false ∧ CallsF P G 23 [M, encV k, encV v] (M2) ∧ E (FV.tup [M2, int 0])) get5 ent5 (by kernel_rfl) ?_
  refine ⟨⟨rfl, ⟨rfl, rfl, rfl, rfl, ?_, ?_, trivial⟩, ⟨rfl, rfl, trivial⟩, rfl, fun hi => ?_⟩, fun i => fun hi => ⟨?_, ⟨rfl, ?_, ?_⟩, ?_, rfl, rfl, ⟨rfl, rfl, rfl, rfl, rfl, ?_, trivial⟩, ⟨rfl, rfl, trivial⟩, rfl, fun hi => ?_⟩, rfl, ?_, ?_, ?_, rfl⟩
  all_goals first | exact hc i (by assumption) | exact hel i (by omega) | exact hn | exact hput | rfl | (simp only [decide_eq_true_eq, decide_eq_false_iff_not]; omega) | (exact congrArg (fun x => AV.f (int x)) (wrapS ((i : Int) + 1) (by omega) (by omega))) | omega
theorem mass_full (M : FV) (k v : V) (x : Nat → V) (n : Int) (M2 : FV) (h : Nat) (tc : List FV) (h9 : Int) (e : V × V) (hel : ∀ i, i < 2 → ([[int k.kind, int k.num, str k.text, encI k.items], [int v.kind, int v.num, str v.text, encI v.items]] : List (List FV))[i]? = some (cellsP (x i))) (hc : ∀ i, i < 2 → CallsF P G 19 [encV (x i)] (int 0)) (hn : CallsF P G 7 [M] (int n)) (hge : 65536 ≤ n) (hput : CallsF P G 23 [M, encV k, encV v] (M2)) (ht : CallsF P G 20 [M] (.ptr tc 0)) (hh : CallsF P G 22 [M, encV k] (.sc (.int .u32 (h : Int)))) (hf : CallsF P G 21 [.ptr tc 0, .sc (.int .u32 (h : Int)), encV k, int 0] (.tup [.agg [.sc (.int .u32 h9), int e.1.kind, int e.1.num, str e.1.text, encI e.1.items, int e.2.kind, int e.2.num, str e.2.text, encI e.2.items], bool true])) : CallsF P G 5 [M, encV k, encV v] (.tup [M2, int 0]) := by
  refine sx_fn (hs := [.pre [.frz [2]], .loop [(0,0),(1,1)] [(0,0),(1,1)] (Sass M k v) 2 (fun i => [.dec true, .el (cellsP (x i)), .call (int 0), .dec false]), .dec false, .call (int n), .dec true, .nae 11 10 9, .call (.ptr tc 0), .call (.sc (.int .u32 (h : Int))), .call (.tup [.agg [.sc (.int .u32 h9), int e.1.kind, int e.1.num, str e.1.text, encI e.1.items, int e.2.kind, int e.2.num, str e.2.text, encI e.2.items], bool true]), .dec false, .call (M2)]) (let z1 := E (Ob.box [AV.f (int (V.kind k)), AV.f (int (V.num k)), AV.f (str (V.text k)), AV.f (encI (V.items k))]) ∧ E (Ob.box [AV.f (int (V.kind v)), AV.f (int (V.num v)), AV.f (str (V.text v)), AV.f (encI (V.items v))]) ∧ True; let z2 := AV.f (FV.sl 4 [cellsP k, cellsP v]); let z3 := Value.int IntKind.u32 (h : Int); (E true ∧ (E (AV.f M) ∧ E (AV.loc 0 0) ∧ E (AV.loc 1 0) ∧ E z2 ∧ AV.f (int (↑(List.length (chunk (TypeInfo.size (Tables.types (Program.toTables P))[24]) 2 (int (V.kind k) :: int (V.num k) :: str (V.text k) :: encI (V.items k) :: cellsP v))) : Int)) = AV.f (int 2) ∧ AV.f (int 0) = AV.f (int (Int.ofNat 0)) ∧ True) ∧ z1 ∧ E true ∧ (false = true → false = true)) ∧ (∀ (i : Nat), i < 2 → decide ((i : Int) < 2) = true ∧ (E 4 ∧ (0 : Int) ≤ (i : Int) ∧ [cellsP k, cellsP v][i]? = some (cellsP (x i))) ∧ CallsF P G 19 [encV (x i)] (int 0) ∧ E false ∧ E true ∧ (E (AV.f M) ∧ E (AV.loc 0 0) ∧ E (AV.loc 1 0) ∧ E z2 ∧ E (AV.f (int 2)) ∧ AV.f (int (IntKind.wrap IntKind.i64 ((i : Int) + 1))) = AV.f (int (↑(i + 1) : Int)) ∧ True) ∧ z1 ∧ E true ∧ (false = true → false = true)) ∧ E false ∧ CallsF P G 7 [M] (int n) ∧ decide (n ≥ 65536) = true ∧ E true ∧ E true ∧ CallsF P G 20 [M] (FV.ptr tc 0) ∧ CallsF P G 22 [M, encV k] (FV.sc z3) ∧ CallsF P G 21 [FV.ptr tc 0, FV.sc z3, encV k, int 0] (FV.tup [FV.agg (FV.sc (Value.int IntKind.u32 h9) :: int (V.kind (Prod.fst e)) :: int (V.num (Prod.fst e)) :: str (V.text (Prod.fst e)) :: encI (V.items (Prod.fst e)) :: cellsP (Prod.snd e)), bool true]) ∧ E (AV.f (bool true)) ∧ E false ∧ CallsF P G 23 [M, encV k, encV v] (M2) ∧ E (FV.tup [M2, int 0])) get5 ent5 (by kernel_rfl) ?_
  refine ⟨⟨rfl, ⟨rfl, rfl, rfl, rfl, ?_, ?_, trivial⟩, ⟨rfl, rfl, trivial⟩, rfl, fun hi => ?_⟩, fun i => fun hi => ⟨?_, ⟨rfl, ?_, ?_⟩, ?_, rfl, rfl, ⟨rfl, rfl, rfl, rfl, rfl, ?_, trivial⟩, ⟨rfl, rfl, trivial⟩, rfl, fun hi => ?_⟩, rfl, ?_, ?_, rfl, rfl, ?_, ?_, ?_, rfl, rfl, ?_, rfl⟩
  all_goals first | exact hc i (by assumption) | exact hel i (by omega) | exact hn | exact hput | exact ht | exact hh | exact hf | rfl | (simp only [decide_eq_true_eq, decide_eq_false_iff_not]; omega) | (exact congrArg (fun x => AV.f (int x)) (wrapS ((i : Int) + 1) (by omega) (by omega))) | omega
end Go.Sx
set_option maxRecDepth 100000
set_option maxHeartbeats 4000000
set_option linter.unusedSimpArgs false
set_option linter.unusedVariables false
namespace Go.Sx
open Go.Proofs Sp
open Sp.Ch Sp.Sy
theorem chk_ok (k : V) (h : Fine k) : CallsF P G 19 [encV k] (int (chkI (rightB k))) := check_ok k h
theorem mTop {M : FV} {kd : Nat} {L : List (V × V)} (h : IsM M kd L) : ∃ tc, encC (kHash kd) 7 L = .ptr tc 0 := by
  obtain ⟨k1, k2, ke, kk, e⟩ := encC_form (kHash kd) 7 L
  exact ⟨_, e⟩
theorem mGet_in {M : FV} {kd : Nat} {L : List (V × V)} (h : IsM M kd L) (hL : OkM L) (k : V) (hk : Fine k) (hr : rightB k = true) (m : V × V) (hm : m ∈ L) (hs : sameK k m = true) : CallsF P G 16 [M, encV k] (.tup [encV m.2, bool true, int 0]) := by
  obtain ⟨tc, e⟩ := mTop h
  have ht := h.top
  have hf := find_in (kHash kd) (kHash_lt kd) L k hL.dk (hL.hc kd hr) (by have := hL.len; omega) (fun q hq => (hL.fine q hq).1) m hm hs
  rw [e] at ht hf
  exact mget_in M k (kHash kd k) tc _ m hr (chk_ok k hk) ht (mHash h k hk hr) hf (own_ok m.2 (hL.fine m hm).2)
theorem mGet_out {M : FV} {kd : Nat} {L : List (V × V)} (h : IsM M kd L) (hL : OkM L) (k : V) (hk : Fine k) (hr : rightB k = true) (hn : L.any (sameK k) = false) : CallsF P G 16 [M, encV k] (.tup [.agg [int 0, int 0, str [], .nils], bool false, int 0]) := by
  obtain ⟨tc, e⟩ := mTop h
  have ht := h.top
  obtain ⟨h9, e9, hf⟩ := find_out (kHash kd) (kHash_lt kd) L k hL.dk (hL.hc kd hr) (by have := hL.len; omega) (fun q hq => (hL.fine q hq).1) hn
  rw [e] at ht hf
  exact mget_out M k (kHash kd k) tc _ e9 hr (chk_ok k hk) ht (mHash h k hk hr) hf
theorem mDis {M : FV} {kd : Nat} {L : List (V × V)} (h : IsM M kd L) (hL : OkM L) (k : V) (hk : Fine k) (hr : rightB k = true) : CallsF P G 17 [M, encV k] (.tup [encMC kd (cut k L), int 0]) := by
  obtain ⟨tc, e⟩ := mTop h
  have ht := h.top
  unfold encMC
  cases hn : L.any (sameK k) with
  | true =>
    obtain ⟨m, hm, hs⟩ := List.any_eq_true.1 hn
    have hf := find_in (kHash kd) (kHash_lt kd) L k hL.dk (hL.hc kd hr) (by have := hL.len; omega) (fun q hq => (hL.fine q hq).1) m hm hs
    have hw := wo_ok (kHash kd) (kHash_lt kd) 7 (by omega) 0 (by omega) L k hL.dk (hL.hc kd hr) (by have := hL.len; omega) (fun q hq => (hL.fine q hq).1) hn
    obtain ⟨z1, z2, ze, zk, ez⟩ := encC_form (kHash kd) 7 (cut k L)
    rw [e] at ht hf hw
    rw [ez] at hw ⊢
    exact mdis_run M k kd (kHash kd k) tc _ _ m true hr (chk_ok k hk) h.kind ht (mHash h k hk hr) hf (fun _ => hw) (fun h => by cases h)
  | false =>
    obtain ⟨h9, e9, hf⟩ := find_out (kHash kd) (kHash_lt kd) L k hL.dk (hL.hc kd hr) (by have := hL.len; omega) (fun q hq => (hL.fine q hq).1) hn
    rw [e] at ht hf
    rw [cut_other (fun q hq => by simpa using List.any_eq_false.1 hn q hq), e]
    exact mdis_run M k kd (kHash kd k) tc tc _ e9 false hr (chk_ok k hk) h.kind ht (mHash h k hk hr) hf (fun h => by cases h) (fun _ => rfl)
def two (k v : V) (i : Nat) : V := if i = 0 then k else v
theorem two_el (k v : V) : ∀ i, i < 2 → ([[int k.kind, int k.num, str k.text, encI k.items], [int v.kind, int v.num, str v.text, encI v.items]] : List (List FV))[i]? = some (cellsP (two k v i))
  | 0, _ => rfl
  | 1, _ => rfl
  | i + 2, h => by omega
theorem chk_yes {k : V} (h : Fine k) (hr : rightB k = true) : CallsF P G 19 [encV k] (int 0) := by have := chk_ok k h; rw [hr] at this; exact this
theorem mAss {M : FV} {kd : Nat} {L : List (V × V)} (h : IsM M kd L) (hL : OkM L) (k v : V) (hk : Fine k ∧ Fine v) (hr : rightB k = true ∧ rightB v = true) (hn : L.length = 65536 → L.any (sameK k) = true) : CallsF P G 5 [M, encV k, encV v] (.tup [encMC kd (put (k, v) L), int 0]) := by
  have hc : ∀ i, i < 2 → CallsF P G 19 [encV (two k v i)] (int 0) := fun i hi => by
    unfold two; split
    · exact chk_yes hk.1 hr.1
    · exact chk_yes hk.2 hr.2
  rcases Nat.lt_or_ge L.length 65536 with hlt | hge
  · exact mass_low M k v (two k v) _ _ (two_el k v) hc (mLen h) (by omega) (mPut h hL k v hk hr.1)
  · obtain ⟨tc, e⟩ := mTop h
    have ht := h.top
    obtain ⟨m, hm, hs⟩ := List.any_eq_true.1 (hn (by have := hL.len; omega))
    have hf := find_in (kHash kd) (kHash_lt kd) L k hL.dk (hL.hc kd hr.1) (by have := hL.len; omega) (fun q hq => (hL.fine q hq).1) m hm hs
    rw [e] at ht hf
    exact mass_full M k v (two k v) _ _ (kHash kd k) tc _ m (two_el k v) hc (mLen h) (by omega) (mPut h hL k v hk hr.1) ht (mHash h k hk.1 hr.1) hf
end Go.Sx
set_option maxRecDepth 100000
set_option maxHeartbeats 4000000
set_option linter.unusedSimpArgs false
set_option linter.unusedVariables false
namespace Go.Sx
open Go.Proofs Sp
def mkI (n : Int) : V := .mk 2 n [] []
def mkT (s : List UInt8) : V := .mk 3 0 s []
theorem get27 : P.funcs[27]? = some Tryd.f27 := by kernel_rfl
theorem ent27 : entersP P 27 = true := by kernel_rfl
theorem plainText_run (s : List UInt8)  : CallsF P G 27 [str s] (.agg [int 3, int 0, str s, .nils]) := by
  refine sx_fn (hs := []) (E (FV.agg [int 3, int 0, str s, FV.nils])) get27 ent27 (by kernel_rfl) ?_
  rfl
theorem text_ok (s : List UInt8) : CallsF P G 27 [str s] (encV (mkT s)) := (plainText_run s).weak (nilV 3 0 s)
theorem get12 : P.funcs[12]? = some Tryd.f12 := by kernel_rfl
theorem ent12 : entersP P 12 = true := by kernel_rfl
theorem speaks_run (c0 c1 c2 : List FV) (R : List (List FV)) (y0 y1 y2 : FV) (h0 : CallsF P G 6 [int 32] (.tup [.ptr c0 0, int 0])) (h1 : CallsF P G 5 [.ptr c0 0, encV (mkI 1), encV (mkT [97])] (.tup [.ptr c1 0, int 0])) (h2 : CallsF P G 5 [.ptr c1 0, encV (mkI 2), encV (mkT [98])] (.tup [.ptr c2 0, int 0])) (h3 : CallsF P G 16 [.ptr c2 0, encV (mkI 2)] (.tup [encV (mkT [98]), bool true, int 0])) (h4 : CallsF P G 10 [.ptr c2 0] (.sl 4 R)) (h5 : CallsF P G 7 [.ptr c2 0] (int 2)) (hl : R.length = 8) (he : R[7]? = some [y0, y1, y2, int 2]) : CallsF P G 12 [] (bool true) := by
  refine sx_fn (hs := [.call (.tup [.ptr c0 0, int 0]), .dec false, .dec false, .call (encV (mkI 1)), .call (encV (mkT [97])), .call (.tup [.ptr c1 0, int 0]), .dec false, .dec false, .call (encV (mkI 2)), .call (encV (mkT [98])), .call (.tup [.ptr c2 0, int 0]), .dec false, .dec false, .call (encV (mkI 2)), .call (.tup [encV (mkT [98]), bool true, int 0]), .call (.sl 4 R), .dec true, .dec true, .dec true, .call (int 2), .dec true, .dec true, .el [y0, y1, y2, int 2]]) (let z1 := FV.agg [int 2, int 2, str (V.text (mkI 2)), FV.sl 4 []]; CallsF P G 6 [int 32] (FV.tup [FV.ptr c0 0, int 0]) ∧ E false ∧ E false ∧ CallsF P G 26 [int 1] (FV.agg [int 2, int 1, str (V.text (mkI 1)), FV.sl 4 []]) ∧ CallsF P G 27 [str [97]] (FV.agg [int 3, int 0, str (V.text (mkT [97])), FV.sl 4 []]) ∧ CallsF P G 5 [FV.ptr c0 0, FV.agg [int 2, int 1, str (V.text (mkI 1)), FV.sl 4 []], FV.agg [int 3, int 0, str (V.text (mkT [97])), FV.sl 4 []]] (FV.tup [FV.ptr c1 0, int 0]) ∧ E false ∧ E false ∧ CallsF P G 26 [int 2] z1 ∧ CallsF P G 27 [str [98]] (FV.agg [int 3, int 0, str (V.text (mkT [98])), FV.sl 4 []]) ∧ CallsF P G 5 [FV.ptr c1 0, FV.agg [int 2, int 2, str (V.text (mkI 2)), FV.sl 4 []], FV.agg [int 3, int 0, str (V.text (mkT [98])), FV.sl 4 []]] (FV.tup [FV.ptr c2 0, int 0]) ∧ E false ∧ E false ∧ CallsF P G 26 [int 2] z1 ∧ CallsF P G 16 [FV.ptr c2 0, FV.agg [int 2, int 2, str (V.text (mkI 2)), FV.sl 4 []]] (FV.tup [FV.agg [int 3, int 0, str (V.text (mkT [98])), FV.sl 4 []], bool true, int 0]) ∧ CallsF P G 10 [FV.ptr c2 0] (FV.sl 4 R) ∧ E true ∧ E true ∧ E true ∧ CallsF P G 7 [FV.ptr c2 0] (int 2) ∧ E true ∧ ((↑(List.length R) : Int) == 8) = true ∧ (E 4 ∧ (0 : Int) ≤ 7 ∧ R[Int.toNat 7]? = some [y0, y1, y2, int 2]) ∧ E (bool true)) get12 ent12 (by kernel_rfl) ?_
  refine ⟨?_, rfl, rfl, ?_, ?_, ?_, rfl, rfl, ?_, ?_, ?_, rfl, rfl, ?_, ?_, ?_, rfl, rfl, rfl, ?_, rfl, ?_, ⟨rfl, ?_, ?_⟩, rfl⟩
  all_goals first | exact h0 | exact h1 | exact h2 | exact h3 | exact h4 | exact h5 | exact int_ok 1 | exact int_ok 2 | exact text_ok [97] | exact text_ok [98] | exact he | (rw [hl]; rfl) | omega
open Sp.Ch Sp.Sy
theorem count_one (k n : Int) (s : List UInt8) (d m : Int) (hp : plainB (.mk k n s []) = true) (h5 : k ≠ 5) (h6 : k ≠ 6) (hm : 1 ≤ m) : countV (.mk k n s []) d m = 1 := by
  simp [countV, badV, hp, formB, countL, h5, h6]
  omega
theorem right_mkI (n : Int) : rightB (mkI n) = true := by simp [rightB, mkI, count_one 2 n [] 16 1024 (by simp [plainB]) (by omega) (by omega) (by omega)]
theorem cmp_mkI (a b : Int) : cmpV (mkI a) (mkI b) = cmpI a b := by simp [mkI, cmpV_mk]
theorem fine_mkI (n : Int) (h : -9223372036854775808 ≤ n ∧ n ≤ 9223372036854775807) : Fine (mkI n) := Fine.mk 2 n [] [] (by omega) h (by simp) (by simp) (by simp)
theorem fine_mkT (s : List UInt8) (h : s.length ≤ 1000) : Fine (mkT s) := Fine.mk 3 0 s [] (by omega) (by omega) (by omega) (by simp) (by simp)
theorem right_mkT (s : List UInt8) (h0 : s.length ≤ 256) (h : utfB ⟨s.toArray⟩ = true) : rightB (mkT s) = true := by simp [rightB, mkT, count_one 3 0 s 16 1024 (by simp [plainB, h, h0]) (by omega) (by omega) (by omega)]
open Classical in
theorem utf_one (b : UInt8) (h : (Utf8.decode ⟨#[b]⟩ 0).1 ≠ 65533) : utfB ⟨#[b]⟩ = true := by
  unfold utfB
  rw [decide_eq_true_iff]
  intro i hi h2
  have h3 := posAt_ge ⟨#[b]⟩ i
  have h4 : (⟨#[b]⟩ : ByteArray).size = 1 := rfl
  obtain rfl : i = 0 := by omega
  exact h h2.1
theorem utf_a : utfB ⟨#[97]⟩ = true := utf_one 97 (by decide +kernel)
theorem utf_b : utfB ⟨#[98]⟩ = true := utf_one 98 (by decide +kernel)
theorem kHash32 (v : V) : kHash 32 v = 0 := by unfold kHash cutK; simp
theorem kdl_const (H : V → Nat) (hH : ∀ v, H v = 0) (d : Nat) (L : List (V × V)) (h2 : 2 ≤ L.length) : kdl H d L = [L] := by
  have h0 : ∀ x, pl H d x = 0 := fun x => by unfold pl plh; rw [hH]; simp
  have e0 : cls H d 0 L = L := by unfold cls; exact List.filter_eq_self.2 fun x _ => by simp [h0]
  have e1 : ∀ q, q ≠ 0 → cls H d q L = [] := fun q hq => by unfold cls; exact List.filter_eq_nil_iff.2 fun x _ => by simp [h0]; omega
  have hn : kdl H d [] = [] := by unfold kdl; exact List.flatMap_eq_nil_iff.2 fun q _ => by simp [cls, more]
  obtain ⟨C, D, c1, c2, c3⟩ := kdl_turn H d 0 [] L (by omega) (fun q hq => by rw [e1 q hq]; rfl)
  rw [hn] at c2
  have h5 := List.append_eq_nil_iff.1 c2.symm
  have h6 := List.append_eq_nil_iff.1 h5.2
  rw [c3, h5.1, h6.2, e0, more_some h2]; rfl
theorem shC_const (H : V → Nat) (hH : ∀ v, H v = 0) (L : List (V × V)) (h2 : 2 ≤ L.length) : ∀ f, (shC H f L).length = f + 1 ∧ (shC H f L)[f]? = some [int 7, .sc (.int .u32 0), .sc (.int .u32 0), int (L.length : Int)]
  | 0 => ⟨rfl, rfl⟩
  | f + 1 => by
    obtain ⟨h3, h4⟩ := shC_const H hH L h2 f
    rw [shC, kdl_const H hH _ L h2]
    refine ⟨by simp [h3], ?_⟩
    rw [List.getElem?_cons_succ, List.flatMap_cons, List.flatMap_nil, List.append_nil]
    exact h4
theorem speaks_ok : CallsF P G 12 [] (bool true) := by
  have f1 := fine_mkI 1 (by omega)
  have f2 := fine_mkI 2 (by omega)
  have fa := fine_mkT [97] (by simp)
  have fb := fine_mkT [98] (by simp)
  have ra := right_mkT [97] (by simp) utf_a
  have rb := right_mkT [98] (by simp) utf_b
  have h0 := newM_ok 32 (by omega)
  have m0 := isM_some 32 (by omega) []
  have h1 := mAss m0 OkM.nil (mkI 1) (mkT [97]) ⟨f1, fa⟩ ⟨right_mkI 1, ra⟩ (fun h => by simp at h)
  have e1 : put (mkI 1, mkT [97]) [] = [(mkI 1, mkT [97])] := rfl
  have o1 : OkM (put (mkI 1, mkT [97]) []) := OkM.nil.put ⟨f1, fa⟩ ⟨right_mkI 1, ra⟩ (by rw [e1]; simp)
  have m1 := isM_some 32 (by omega) (put (mkI 1, mkT [97]) [])
  have h2 := mAss m1 o1 (mkI 2) (mkT [98]) ⟨f2, fb⟩ ⟨right_mkI 2, rb⟩ (fun h => by rw [e1] at h; simp at h)
  have e2 : put (mkI 2, mkT [98]) (put (mkI 1, mkT [97]) []) = [(mkI 2, mkT [98]), (mkI 1, mkT [97])] := by
    have : cmpV (mkI 1) (mkI 2) = -1 := by rw [cmp_mkI]; simp [cmpI]
    rw [e1]; simp [put, sameK, this]
  have o2 : OkM (put (mkI 2, mkT [98]) (put (mkI 1, mkT [97]) [])) := o1.put ⟨f2, fb⟩ ⟨right_mkI 2, rb⟩ (by rw [e2]; simp)
  have m2 := isM_some 32 (by omega) (put (mkI 2, mkT [98]) (put (mkI 1, mkT [97]) []))
  have h3 := mGet_in m2 o2 (mkI 2) f2 (right_mkI 2) (mkI 2, mkT [98]) (by rw [e2]; simp) (by simp [sameK, cmp_mkI, cmpI])
  have h4 := mShape m2 o2
  have h5 := mLen m2
  have hs := shC_const (kHash 32) kHash32 (put (mkI 2, mkT [98]) (put (mkI 1, mkT [97]) [])) (by rw [e2]; simp) 7
  have hl : (put (mkI 2, mkT [98]) (put (mkI 1, mkT [97]) [])).length = 2 := by rw [e2]; rfl
  rw [hl] at h5 hs
  exact speaks_run _ _ _ _ _ _ _ h0 h1 h2 h3 h4 h5 hs.1 hs.2
end Go.Sx

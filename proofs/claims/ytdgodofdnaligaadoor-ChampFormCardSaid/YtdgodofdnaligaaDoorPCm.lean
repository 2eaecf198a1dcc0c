/-
  Proved: what some functions of the program answer, or a law of the evaluator that shows it, one theorem each; its conditions are the hypotheses that stand ahead of it.
-/
import Derived.Test.YtdgodofdnaligaaDoorX7
import Derived.KernelRfl
import Derived.Test.YtdgodofdnaligaaDoorX1
import Derived.Test.YtdgodofdnaligaaDoorPSt
set_option maxRecDepth 100000
set_option maxHeartbeats 4000000
set_option linter.unusedSimpArgs false
set_option linter.unusedVariables false
namespace Go.Sx
open Go.Proofs Sp
open Sp.Ch Sp.Sy
theorem b2_lt {p : Nat} (hp : p < 32) : b2 p < 4294967296 := Nat.pow_lt_pow_right (a := 2) (by omega) hp
theorem cellsEs_len9 (H : V → Nat) (L : List (V × V)) : ∀ x ∈ cellsEs H L, x.length = 9 := by
  intro x hx
  obtain ⟨e, _, rfl⟩ := List.mem_map.1 hx
  simp [cellsE, cellsP]
theorem oneF_cellsEs (H : V → Nat) (L : List (V × V)) : oneF (cellsEs H L) := by
  intro x hx
  obtain ⟨l, hl, hx⟩ := List.mem_flatten.1 hx
  obtain ⟨e, _, rfl⟩ := List.mem_map.1 hl
  simp [cellsE, cellsP] at hx
  rcases hx with rfl | rfl | rfl | rfl | rfl | rfl | rfl | rfl | rfl <;> rfl
theorem get39 : P.funcs[39]? = some Tryd.f39 := by kernel_rfl
theorem ent39 : entersP P 39 = true := by kernel_rfl
theorem with_bot_in (H : V → Nat) (S : List (V × V)) (e : V × V) (a1 a2 ct : Int) (Ks : List (List FV)) (i : Nat) (hl : S.length ≤ 1000000) (hi : i < S.length) (hp : CallsF P G 37 [.ptr [.sc (.int .u32 a1), .sc (.int .u32 a2), .sl 9 (cellsEs H S), .sl 1 Ks, int ct] 0, encV e.1] (.tup [int (i : Int), bool true])) : CallsF P G 39 [.ptr [.sc (.int .u32 a1), .sc (.int .u32 a2), .sl 9 (cellsEs H S), .sl 1 Ks, int ct] 0, .agg (cellsE H e), int 7] (.ptr [.sc (.int .u32 a1), .sc (.int .u32 a2), .sl 9 ((cellsEs H S).set i (cellsE H e)), .sl 1 Ks, int (ct)] 0) := by
  refine sx_fn (hs := [.dec true, .call (.tup [int (i : Int), bool true]), .callO 51 9 (cellsEs H S), .dec true, .lfz [2, 1]]) (let z1 := Value.int IntKind.u32 a1; let z2 := Value.int IntKind.u32 a2; E true ∧ CallsF P G 37 [FV.ptr [FV.sc z1, FV.sc z2, FV.sl 9 (cellsEs H S), FV.sl 1 Ks, int ct] 0, encV (Prod.fst e)] (FV.tup [int (i : Int), bool true]) ∧ CallsO P G 47 [FV.sl 9 (cellsEs H S)] (51) (9) (cellsEs H S) ∧ E true ∧ ((0 : Int) ≤ (i : Int) ∧ i < List.length (cellsEs H S)) ∧ i < List.length (cellsEs H S) ∧ FV.ptr [FV.sc z1, FV.sc z2, FV.sl 9 (List.set (cellsEs H S) i (FV.sc (Value.int IntKind.u32 (↑(H (Prod.fst e)) : Int)) :: int (V.kind (Prod.fst e)) :: int (V.num (Prod.fst e)) :: str (V.text (Prod.fst e)) :: encI (V.items (Prod.fst e)) :: cellsP (Prod.snd e))), FV.sl 1 Ks, int ct] 0 = FV.ptr [FV.sc z1, FV.sc z2, FV.sl 9 (List.set (cellsEs H S) i (cellsE H e)), FV.sl 1 Ks, int ct] 0) get39 ent39 (by kernel_rfl) ?_
  refine ⟨rfl, ?_, ?_, rfl, ⟨?_, ?_⟩, ?_, ?_⟩
  all_goals first | exact hp | exact cloneE_ok _ (by rw [cellsEs_length]; exact hl) (oneF_cellsEs H S) (cellsEs_len9 H S) | rfl | (simp only [cellsEs_length]; omega) | omega
theorem with_bot_new (H : V → Nat) (S : List (V × V)) (e : V × V) (a1 a2 ct : Int) (Ks : List (List FV)) (i : Nat) (hl : S.length ≤ 1000000) (hct : 0 ≤ ct ∧ ct ≤ 1000000) (hi : i ≤ S.length) (hp : CallsF P G 37 [.ptr [.sc (.int .u32 a1), .sc (.int .u32 a2), .sl 9 (cellsEs H S), .sl 1 Ks, int ct] 0, encV e.1] (.tup [int (i : Int), bool false])) : CallsF P G 39 [.ptr [.sc (.int .u32 a1), .sc (.int .u32 a2), .sl 9 (cellsEs H S), .sl 1 Ks, int ct] 0, .agg (cellsE H e), int 7] (.ptr [.sc (.int .u32 a1), .sc (.int .u32 a2), .sl 9 (((cellsEs H S).take i ++ [cellsE H e] ++ (cellsEs H S).drop i)), .sl 1 Ks, int (ct + 1)] 0) := by
  refine sx_fn (hs := [.dec true, .call (.tup [int (i : Int), bool false]), .callO 51 9 (cellsEs H S), .dec false, .lfz [3], .callW ((cellsEs H S).take i ++ [cellsE H e] ++ (cellsEs H S).drop i) none, .lfz [4, 1]]) (let z1 := List.take i (cellsEs H S) ++ [cellsE H e] ++ List.drop i (cellsEs H S); let z2 := Value.int IntKind.u32 a1; let z3 := Value.int IntKind.u32 a2; E true ∧ CallsF P G 37 [FV.ptr [FV.sc z2, FV.sc z3, FV.sl 9 (cellsEs H S), FV.sl 1 Ks, int ct] 0, encV (Prod.fst e)] (FV.tup [int (i : Int), bool false]) ∧ CallsO P G 47 [FV.sl 9 (cellsEs H S)] (51) (9) (cellsEs H S) ∧ E false ∧ CallsW P G 50 (51) (9) (cellsEs H S) ([int (i : Int), FV.sl 9 [FV.sc (Value.int IntKind.u32 (↑(H (Prod.fst e)) : Int)) :: int (V.kind (Prod.fst e)) :: int (V.num (Prod.fst e)) :: str (V.text (Prod.fst e)) :: encI (V.items (Prod.fst e)) :: cellsP (Prod.snd e)]]) z1 (none) ∧ FV.ptr [FV.sc z2, FV.sc z3, FV.sl 9 z1, FV.sl 1 Ks, int (IntKind.wrap IntKind.i64 (ct + 1))] 0 = FV.ptr [FV.sc z2, FV.sc z3, FV.sl 9 z1, FV.sl 1 Ks, int (ct + 1)] 0) get39 ent39 (by kernel_rfl) ?_
  refine ⟨rfl, ?_, ?_, rfl, ?_, ?_⟩
  all_goals first | exact hp | exact cloneE_ok _ (by rw [cellsEs_length]; exact hl) (oneF_cellsEs H S) (cellsEs_len9 H S) | exact insert_okE rfl _ i _ (by rw [cellsEs_length]; exact hi) (by rw [cellsEs_length]; exact hl) (oneF_cellsEs H S) (oneF_cellsEs H [e]) | (rw [wrapS _ (by omega) (by omega)])
end Go.Sx
set_option maxRecDepth 100000
set_option maxHeartbeats 4000000
set_option linter.unusedSimpArgs false
set_option linter.unusedVariables false
namespace Go.Sx
open Go.Proofs Sp
def notN (a b : Nat) : Nat := a &&& (2 ^ 32 - 1 - b)
theorem u32_notB (a m : Nat) (ha : a < 4294967296) (hm : m < 4294967296) : IntKind.u32.wrap (((BitVec.ofInt IntKind.u32.bits (a : Int) &&& ~~~BitVec.ofInt IntKind.u32.bits (m : Int)).toNat : Nat) : Int) = ((notN a m : Nat) : Int) := by
  show IntKind.u32.wrap (((BitVec.ofInt 32 (a : Int) &&& ~~~BitVec.ofInt 32 (m : Int)).toNat : Nat) : Int) = _
  rw [BitVec.toNat_and, BitVec.toNat_not, bv_nat a ha, bv_nat m hm]
  have := @Nat.and_le_left a (2 ^ 32 - 1 - m)
  exact u32_id (by omega) (by omega)
theorem u32_orB (a m : Nat) (ha : a < 4294967296) (hm : m < 4294967296) : IntKind.u32.wrap (((BitVec.ofInt IntKind.u32.bits (a : Int) ||| BitVec.ofInt IntKind.u32.bits (m : Int)).toNat : Nat) : Int) = ((a ||| m : Nat) : Int) := u32_or a m ha hm
theorem with_kid (H : V → Nat) (S : List (V × V)) (e : V × V) (a1 a2 b : Nat) (ct : Int) (Ks : List (List FV)) (i j d : Nat) (k1 k2 n1 n2 : FV) (ke ne : List (List FV)) (kk nk : List (List FV)) (kc nc : Int)  (hd : d ≤ 6) (h1 : a1 < 4294967296) (h2 : a2 < 4294967296) (hb : b < 4294967296) (hbit : CallsF P G 34 [.sc (.int .u32 ((H e.1) : Int)), int (d : Int)] (.sc (.int .u32 (b : Int)))) (hi : CallsF P G 35 [.sc (.int .u32 (a1 : Int)), .sc (.int .u32 (b : Int))] (int (i : Int))) (hj : CallsF P G 35 [.sc (.int .u32 (a2 : Int)), .sc (.int .u32 (b : Int))] (int (j : Int))) (hl : S.length ≤ 1000000) (hKl : Ks.length ≤ 1000000) (hKo : oneF Ks) (hK1 : ∀ x ∈ Ks, x.length = 1) (hct : 0 ≤ ct ∧ ct ≤ 1000000) (hn : a2 &&& b ≠ 0) (hkc : 0 ≤ kc ∧ kc ≤ 1000000) (hnc : 0 ≤ nc ∧ nc ≤ 1000000) (hel : Ks[j]? = some [.ptr [k1, k2, .sl 9 ke, .sl 1 kk, int kc] 0]) (hrec : CallsF P G 39 [.ptr [k1, k2, .sl 9 ke, .sl 1 kk, int kc] 0, .agg (cellsE H e), int ((d : Int) + 1)] (.ptr [n1, n2, .sl 9 ne, .sl 1 nk, int nc] 0)) : CallsF P G 39 [.ptr [.sc (.int .u32 ((a1 : Int))), .sc (.int .u32 ((a2 : Int))), .sl 9 (cellsEs H S), .sl 1 (Ks), int (ct)] 0, .agg (cellsE H e), int (d : Int)] (.ptr [.sc (.int .u32 ((a1 : Int))), .sc (.int .u32 ((a2 : Int))), .sl 9 (cellsEs H S), .sl 1 (Ks.set j [.ptr [n1, n2, .sl 9 ne, .sl 1 nk, int nc] 0]), int (ct + (nc - kc))] 0) := by
  refine sx_fn (hs := [.dec false, .call (.sc (.int .u32 (b : Int))), .nat 14, .call (int (i : Int)), .call (int (j : Int)), .dec true, .callO 53 1 Ks, .nat 15, .el [.ptr [k1, k2, .sl 9 ke, .sl 1 kk, int kc] 0], .call (.ptr [n1, n2, .sl 9 ne, .sl 1 nk, int nc] 0), .nat 23, .el [.ptr [n1, n2, .sl 9 ne, .sl 1 nk, int nc] 0], .el [.ptr [k1, k2, .sl 9 ke, .sl 1 kk, int kc] 0], .lfz [2, 1]]) (let z1 := List.set Ks j [FV.ptr [n1, n2, FV.sl 9 ne, FV.sl 1 nk, int nc] 0]; let z2 := E 1 ∧ (0 : Int) ≤ (j : Int) ∧ Ks[j]? = some [FV.ptr [k1, k2, FV.sl 9 ke, FV.sl 1 kk, int kc] 0]; let z3 := Value.int IntKind.u32 (a1 : Int); let z4 := Value.int IntKind.u32 (a2 : Int); let z5 := Value.int IntKind.u32 (b : Int); let z6 := Value.int IntKind.u32 (↑(H (Prod.fst e)) : Int); ((d : Int) == 7) = false ∧ CallsF P G 34 [FV.sc z6, int (d : Int)] (FV.sc z5) ∧ E true ∧ CallsF P G 35 [FV.sc z3, FV.sc z5] (int (i : Int)) ∧ CallsF P G 35 [FV.sc z4, FV.sc z5] (int (j : Int)) ∧ (IntKind.wrap IntKind.u32 (↑(BitVec.toNat (BitVec.ofInt (IntKind.bits IntKind.u32) (a2 : Int) &&& BitVec.ofInt (IntKind.bits IntKind.u32) (b : Int))) : Int) != 0) = true ∧ CallsO P G 48 [FV.sl 1 Ks] (53) (1) (Ks) ∧ E true ∧ z2 ∧ CallsF P G 39 [FV.ptr [k1, k2, FV.sl 9 ke, FV.sl 1 kk, int kc] 0, FV.agg (FV.sc z6 :: int (V.kind (Prod.fst e)) :: int (V.num (Prod.fst e)) :: str (V.text (Prod.fst e)) :: encI (V.items (Prod.fst e)) :: cellsP (Prod.snd e)), int (IntKind.wrap IntKind.i64 ((d : Int) + 1))] (FV.ptr [n1, n2, FV.sl 9 ne, FV.sl 1 nk, int nc] 0) ∧ ((0 : Int) ≤ (j : Int) ∧ j < List.length Ks) ∧ j < List.length Ks ∧ E true ∧ ((0 : Int) ≤ (j : Int) ∧ j < List.length z1) ∧ z1[j]? = some [FV.ptr [n1, n2, FV.sl 9 ne, FV.sl 1 nk, int nc] 0] ∧ z2 ∧ FV.ptr [FV.sc z3, FV.sc z4, FV.sl 9 (cellsEs H S), FV.sl 1 z1, int (IntKind.wrap IntKind.i64 (ct + IntKind.wrap IntKind.i64 (nc - kc)))] 0 = FV.ptr [FV.sc z3, FV.sc z4, FV.sl 9 (cellsEs H S), FV.sl 1 z1, int (ct + (nc - kc))] 0) get39 ent39 (by kernel_rfl) ?_
  refine ⟨?_, ?_, rfl, ?_, ?_, ?_, ?_, rfl, ⟨rfl, ?_, ?_⟩, ?_, ⟨?_, ?_⟩, ?_, rfl, ⟨?_, ?_⟩, ?_, ⟨rfl, ?_, ?_⟩, ?_⟩
  all_goals first | exact hbit | exact hi | exact hj | (rw [beq_eq_false_iff_ne]; omega) | (have q2 := u32_and a2 b h2 hb; rw [bne_iff_ne]; intro e9; exact hn (by have e8 := q2.symm.trans e9; exact_mod_cast e8)) | exact cloneN_ok _ hKl hKo hK1 | (obtain ⟨q3, q4⟩ := List.getElem?_eq_some_iff.1 hel; first | exact q3 | (simp only [List.length_set]; exact q3) | omega) | (obtain ⟨q3, q4⟩ := List.getElem?_eq_some_iff.1 hel; rw [List.getElem?_set_self q3]) | (rw [wrapS _ (by omega) (by omega)]; exact hrec) | (rw [wrapS (nc - kc) (by omega) (by omega), wrapS _ (by omega) (by omega)])
def Sw9 (H : V → Nat) (S : List (V × V)) (e : V × V) (a1 a2 b i : Nat) (ct : Int) (Ks : List (List FV)) : St := { sl := slots 217 [(7, .loc 0 0), (10, .f (.sc (.int .u32 (b : Int))))], ob := [(0, .box [.f (.sc (.int .u32 (a1 : Int))), .f (.sc (.int .u32 (a2 : Int))), .lsl 1, .f (.sl 1 Ks), .f (int (ct))]), (1, .row 9 51 ((cellsEs H S).take i ++ [cellsE H e] ++ (cellsEs H S).drop i))], nx := 2 }
theorem with_new (H : V → Nat) (S : List (V × V)) (e : V × V) (a1 a2 b : Nat) (ct : Int) (Ks : List (List FV)) (i j d : Nat)  (hd : d ≤ 6) (h1 : a1 < 4294967296) (h2 : a2 < 4294967296) (hb : b < 4294967296) (hbit : CallsF P G 34 [.sc (.int .u32 ((H e.1) : Int)), int (d : Int)] (.sc (.int .u32 (b : Int)))) (hi : CallsF P G 35 [.sc (.int .u32 (a1 : Int)), .sc (.int .u32 (b : Int))] (int (i : Int))) (hj : CallsF P G 35 [.sc (.int .u32 (a2 : Int)), .sc (.int .u32 (b : Int))] (int (j : Int))) (hl : S.length ≤ 1000000) (hKl : Ks.length ≤ 1000000) (hKo : oneF Ks) (hK1 : ∀ x ∈ Ks, x.length = 1) (hct : 0 ≤ ct ∧ ct ≤ 1000000) (hn : a2 &&& b = 0) (hm : a1 &&& b = 0) (hil : i ≤ S.length) : CallsF P G 39 [.ptr [.sc (.int .u32 ((a1 : Int))), .sc (.int .u32 ((a2 : Int))), .sl 9 (cellsEs H S), .sl 1 (Ks), int (ct)] 0, .agg (cellsE H e), int (d : Int)] (.ptr [.sc (.int .u32 (((a1 ||| b : Nat) : Int))), .sc (.int .u32 ((a2 : Int))), .sl 9 ((cellsEs H S).take i ++ [cellsE H e] ++ (cellsEs H S).drop i), .sl 1 (Ks), int (ct + 1)] 0) := by
  refine sx_fn (hs := [.dec false, .call (.sc (.int .u32 (b : Int))), .nat 14, .call (int (i : Int)), .call (int (j : Int)), .dec false, .dec true, .loop [(1,0),(4,1)] [] (fun _ => Sw9 H S e a1 a2 b i ct Ks) 0 (fun _ => [.callO 51 9 (cellsEs H S), .lfz [1182], .callW ((cellsEs H S).take i ++ [cellsE H e] ++ (cellsEs H S).drop i) none]), .lfz [1, 0]]) (let z3 := List.take i (cellsEs H S) ++ [cellsE H e] ++ List.drop i (cellsEs H S); let z5 := IntKind.bits IntKind.u32; let z6 := Value.int IntKind.u32 (a2 : Int); let z7 := Value.int IntKind.u32 (b : Int); let z4 := E (AV.loc 0 0) ∧ E (AV.f (FV.sc z7)) ∧ True; let z8 := Value.int IntKind.u32 (↑(H (Prod.fst e)) : Int); let z2 := [int (i : Int), FV.sl 9 [FV.sc z8 :: int (V.kind (Prod.fst e)) :: int (V.num (Prod.fst e)) :: str (V.text (Prod.fst e)) :: encI (V.items (Prod.fst e)) :: cellsP (Prod.snd e)]]; let z9 := Value.int IntKind.u32 (a1 : Int); let z1 := E (Ob.box [AV.f (FV.sc z9), AV.f (FV.sc z6), AV.lsl 1, AV.f (FV.sl 1 Ks), AV.f (int ct)]) ∧ E (Ob.row 9 51 z3) ∧ True; ((d : Int) == 7) = false ∧ CallsF P G 34 [FV.sc z8, int (d : Int)] (FV.sc z7) ∧ E true ∧ CallsF P G 35 [FV.sc z9, FV.sc z7] (int (i : Int)) ∧ CallsF P G 35 [FV.sc z6, FV.sc z7] (int (j : Int)) ∧ (IntKind.wrap IntKind.u32 (↑(BitVec.toNat (BitVec.ofInt z5 (a2 : Int) &&& BitVec.ofInt z5 (b : Int))) : Int) != 0) = false ∧ (IntKind.wrap IntKind.u32 (↑(BitVec.toNat (BitVec.ofInt z5 (a1 : Int) &&& BitVec.ofInt z5 (b : Int))) : Int) == 0) = true ∧ (E true ∧ E false ∧ (E false ∧ (CallsO P G 47 [FV.sl 9 (cellsEs H S)] (51) (9) (cellsEs H S) ∧ E false ∧ E false ∧ E false ∧ CallsW P G 50 (51) (9) (cellsEs H S) z2 z3 (none) ∧ E false ∧ E false ∧ E true ∧ E true ∧ z4 ∧ z1 ∧ E true ∧ (false = true → false = true)) ∧ E false ∧ (CallsO P G 47 [FV.sl 9 (cellsEs H S)] (51) (9) (cellsEs H S) ∧ E false ∧ E false ∧ CallsW P G 50 (51) (9) (cellsEs H S) z2 z3 (none) ∧ E false ∧ E false ∧ E true ∧ E true ∧ z4 ∧ z1 ∧ E true ∧ (false = true → false = true)) ∧ E false ∧ CallsO P G 47 [FV.sl 9 (cellsEs H S)] (51) (9) (cellsEs H S) ∧ E false ∧ CallsW P G 50 (51) (9) (cellsEs H S) z2 z3 (none) ∧ E false ∧ E false ∧ E true ∧ E true ∧ z4 ∧ z1 ∧ E true ∧ (false = true → false = true)) ∧ E false ∧ (E false ∧ (CallsO P G 47 [FV.sl 9 (cellsEs H S)] (51) (9) (cellsEs H S) ∧ E false ∧ E false ∧ CallsW P G 50 (51) (9) (cellsEs H S) z2 z3 (none) ∧ E false ∧ E false ∧ E true ∧ E true ∧ z4 ∧ z1 ∧ E true ∧ (false = true → false = true)) ∧ E false ∧ CallsO P G 47 [FV.sl 9 (cellsEs H S)] (51) (9) (cellsEs H S) ∧ E false ∧ CallsW P G 50 (51) (9) (cellsEs H S) z2 z3 (none) ∧ E false ∧ E false ∧ E true ∧ E true ∧ z4 ∧ z1 ∧ E true ∧ (false = true → false = true)) ∧ E false ∧ E false ∧ CallsO P G 47 [FV.sl 9 (cellsEs H S)] (51) (9) (cellsEs H S) ∧ E false ∧ CallsW P G 50 (51) (9) (cellsEs H S) z2 z3 (none) ∧ E false ∧ E false ∧ E true ∧ E true ∧ z4 ∧ z1 ∧ E true ∧ (false = true → false = true)) ∧ FV.ptr [FV.sc (Value.int IntKind.u32 (IntKind.wrap IntKind.u32 (↑(BitVec.toNat (BitVec.ofInt z5 (a1 : Int) ||| BitVec.ofInt z5 (b : Int))) : Int))), FV.sc z6, FV.sl 9 z3, FV.sl 1 Ks, int (IntKind.wrap IntKind.i64 (ct + 1))] 0 = FV.ptr [FV.sc (Value.int IntKind.u32 (↑(a1 ||| b) : Int)), FV.sc z6, FV.sl 9 z3, FV.sl 1 Ks, int (ct + 1)] 0) get39 ent39 (by kernel_rfl) ?_
  refine ⟨?_, ?_, rfl, ?_, ?_, ?_, ?_, ⟨rfl, rfl, ⟨rfl, ⟨?_, rfl, rfl, rfl, ?_, rfl, rfl, rfl, rfl, ⟨rfl, rfl, trivial⟩, ⟨rfl, rfl, trivial⟩, rfl, fun hi => ?_⟩, rfl, ⟨?_, rfl, rfl, ?_, rfl, rfl, rfl, rfl, ⟨rfl, rfl, trivial⟩, ⟨rfl, rfl, trivial⟩, rfl, fun hi => ?_⟩, rfl, ?_, rfl, ?_, rfl, rfl, rfl, rfl, ⟨rfl, rfl, trivial⟩, ⟨rfl, rfl, trivial⟩, rfl, fun hi => ?_⟩, rfl, ⟨rfl, ⟨?_, rfl, rfl, ?_, rfl, rfl, rfl, rfl, ⟨rfl, rfl, trivial⟩, ⟨rfl, rfl, trivial⟩, rfl, fun hi => ?_⟩, rfl, ?_, rfl, ?_, rfl, rfl, rfl, rfl, ⟨rfl, rfl, trivial⟩, ⟨rfl, rfl, trivial⟩, rfl, fun hi => ?_⟩, rfl, rfl, ?_, rfl, ?_, rfl, rfl, rfl, rfl, ⟨rfl, rfl, trivial⟩, ⟨rfl, rfl, trivial⟩, rfl, fun hi => ?_⟩, ?_⟩
  all_goals first | exact hbit | exact hi | exact hj | (rw [beq_eq_false_iff_ne]; omega) | (have q2 := u32_and a2 b h2 hb; rw [hn] at q2; rw [bne_eq_false_iff_eq]; exact q2) | (have q1 := u32_and a1 b h1 hb; rw [hm] at q1; rw [beq_iff_eq]; exact q1) | exact cloneE_ok _ (by rw [cellsEs_length]; exact hl) (oneF_cellsEs H S) (cellsEs_len9 H S) | exact insert_okE rfl _ i _ (by rw [cellsEs_length]; exact hil) (by rw [cellsEs_length]; exact hl) (oneF_cellsEs H S) (oneF_cellsEs H [e]) | (rw [u32_orB a1 b h1 hb, wrapS _ (by omega) (by omega)])
theorem with_same (H : V → Nat) (S : List (V × V)) (e : V × V) (a1 a2 b : Nat) (ct : Int) (Ks : List (List FV)) (i j d : Nat) (m : V × V)  (hd : d ≤ 6) (h1 : a1 < 4294967296) (h2 : a2 < 4294967296) (hb : b < 4294967296) (hbit : CallsF P G 34 [.sc (.int .u32 ((H e.1) : Int)), int (d : Int)] (.sc (.int .u32 (b : Int)))) (hi : CallsF P G 35 [.sc (.int .u32 (a1 : Int)), .sc (.int .u32 (b : Int))] (int (i : Int))) (hj : CallsF P G 35 [.sc (.int .u32 (a2 : Int)), .sc (.int .u32 (b : Int))] (int (j : Int))) (hl : S.length ≤ 1000000) (hKl : Ks.length ≤ 1000000) (hKo : oneF Ks) (hK1 : ∀ x ∈ Ks, x.length = 1) (hct : 0 ≤ ct ∧ ct ≤ 1000000) (hn : a2 &&& b = 0) (hm : a1 &&& b ≠ 0) (hel : (cellsEs H S)[i]? = some (cellsE H m)) (heq : CallsF P G 36 [encV m.1, encV e.1] (bool true)) : CallsF P G 39 [.ptr [.sc (.int .u32 ((a1 : Int))), .sc (.int .u32 ((a2 : Int))), .sl 9 (cellsEs H S), .sl 1 (Ks), int (ct)] 0, .agg (cellsE H e), int (d : Int)] (.ptr [.sc (.int .u32 ((a1 : Int))), .sc (.int .u32 ((a2 : Int))), .sl 9 ((cellsEs H S).set i (cellsE H e)), .sl 1 (Ks), int (ct)] 0) := by
  refine sx_fn (hs := [.dec false, .call (.sc (.int .u32 (b : Int))), .nat 14, .call (int (i : Int)), .call (int (j : Int)), .dec false, .dec false, .nat 12, .el (cellsE H m), .call (bool true), .dec true, .callO 51 9 (cellsEs H S), .lfz [2, 1]]) (let z1 := IntKind.bits IntKind.u32; let z2 := Value.int IntKind.u32 (a1 : Int); let z3 := Value.int IntKind.u32 (a2 : Int); let z4 := Value.int IntKind.u32 (b : Int); let z5 := Value.int IntKind.u32 (↑(H (Prod.fst e)) : Int); ((d : Int) == 7) = false ∧ CallsF P G 34 [FV.sc z5, int (d : Int)] (FV.sc z4) ∧ E true ∧ CallsF P G 35 [FV.sc z2, FV.sc z4] (int (i : Int)) ∧ CallsF P G 35 [FV.sc z3, FV.sc z4] (int (j : Int)) ∧ (IntKind.wrap IntKind.u32 (↑(BitVec.toNat (BitVec.ofInt z1 (a2 : Int) &&& BitVec.ofInt z1 (b : Int))) : Int) != 0) = false ∧ (IntKind.wrap IntKind.u32 (↑(BitVec.toNat (BitVec.ofInt z1 (a1 : Int) &&& BitVec.ofInt z1 (b : Int))) : Int) == 0) = false ∧ E true ∧ (E 9 ∧ (0 : Int) ≤ (i : Int) ∧ (cellsEs H S)[i]? = some (FV.sc (Value.int IntKind.u32 (↑(H (Prod.fst m)) : Int)) :: int (V.kind (Prod.fst m)) :: int (V.num (Prod.fst m)) :: str (V.text (Prod.fst m)) :: encI (V.items (Prod.fst m)) :: cellsP (Prod.snd m))) ∧ CallsF P G 36 [encV (Prod.fst m), encV (Prod.fst e)] (bool true) ∧ E true ∧ CallsO P G 47 [FV.sl 9 (cellsEs H S)] (51) (9) (cellsEs H S) ∧ ((0 : Int) ≤ (i : Int) ∧ i < List.length (cellsEs H S)) ∧ i < List.length (cellsEs H S) ∧ FV.ptr [FV.sc z2, FV.sc z3, FV.sl 9 (List.set (cellsEs H S) i (FV.sc z5 :: int (V.kind (Prod.fst e)) :: int (V.num (Prod.fst e)) :: str (V.text (Prod.fst e)) :: encI (V.items (Prod.fst e)) :: cellsP (Prod.snd e))), FV.sl 1 Ks, int ct] 0 = FV.ptr [FV.sc z2, FV.sc z3, FV.sl 9 (List.set (cellsEs H S) i (cellsE H e)), FV.sl 1 Ks, int ct] 0) get39 ent39 (by kernel_rfl) ?_
  refine ⟨?_, ?_, rfl, ?_, ?_, ?_, ?_, rfl, ⟨rfl, ?_, ?_⟩, ?_, rfl, ?_, ⟨?_, ?_⟩, ?_, ?_⟩
  all_goals first | exact hbit | exact hi | exact hj | exact heq | rfl | (rw [beq_eq_false_iff_ne]; omega) | (have q2 := u32_and a2 b h2 hb; rw [hn] at q2; rw [bne_eq_false_iff_eq]; exact q2) | (have q1 := u32_and a1 b h1 hb; rw [beq_eq_false_iff_ne]; intro e9; exact hm (by have e8 := q1.symm.trans e9; exact_mod_cast e8)) | exact cloneE_ok _ (by rw [cellsEs_length]; exact hl) (oneF_cellsEs H S) (cellsEs_len9 H S) | (obtain ⟨q3, q4⟩ := List.getElem?_eq_some_iff.1 hel; first | exact q3 | (simp only [List.length_set]; exact q3) | omega) | exact hel
theorem with_split (H : V → Nat) (S : List (V × V)) (e : V × V) (a1 a2 b : Nat) (ct : Int) (Ks : List (List FV)) (i j d : Nat) (m : V × V) (x1 x2 : List FV)  (hd : d ≤ 6) (h1 : a1 < 4294967296) (h2 : a2 < 4294967296) (hb : b < 4294967296) (hbit : CallsF P G 34 [.sc (.int .u32 ((H e.1) : Int)), int (d : Int)] (.sc (.int .u32 (b : Int)))) (hi : CallsF P G 35 [.sc (.int .u32 (a1 : Int)), .sc (.int .u32 (b : Int))] (int (i : Int))) (hj : CallsF P G 35 [.sc (.int .u32 (a2 : Int)), .sc (.int .u32 (b : Int))] (int (j : Int))) (hl : S.length ≤ 1000000) (hKl : Ks.length ≤ 1000000) (hKo : oneF Ks) (hK1 : ∀ x ∈ Ks, x.length = 1) (hct : 0 ≤ ct ∧ ct ≤ 1000000) (hn : a2 &&& b = 0) (hm : a1 &&& b ≠ 0) (hjl : j ≤ Ks.length) (hel : (cellsEs H S)[i]? = some (cellsE H m)) (heq : CallsF P G 36 [encV m.1, encV e.1] (bool false)) (hx1 : CallsF P G 39 [.ptr [.sc (.int .u32 0), .sc (.int .u32 0), .nils, .nils, int 0] 0, .agg (cellsE H m), int ((d : Int) + 1)] (.ptr x1 0)) (hx2 : CallsF P G 39 [.ptr x1 0, .agg (cellsE H e), int ((d : Int) + 1)] (.ptr x2 0)) : CallsF P G 39 [.ptr [.sc (.int .u32 ((a1 : Int))), .sc (.int .u32 ((a2 : Int))), .sl 9 (cellsEs H S), .sl 1 (Ks), int (ct)] 0, .agg (cellsE H e), int (d : Int)] (.ptr [.sc (.int .u32 (((notN a1 b : Nat) : Int))), .sc (.int .u32 (((a2 ||| b : Nat) : Int))), .sl 9 ((cellsEs H S).take i ++ (cellsEs H S).drop (i + 1)), .sl 1 (Ks.take j ++ [[.ptr x2 0]] ++ Ks.drop j), int (ct + 1)] 0) := by
  refine sx_fn (hs := [.dec false, .call (.sc (.int .u32 (b : Int))), .nat 14, .call (int (i : Int)), .call (int (j : Int)), .dec false, .dec false, .nat 12, .el (cellsE H m), .call (bool false), .dec false, .nat 17, .el (cellsE H m), .call (.ptr x1 0), .call (.ptr x2 0), .callO 51 9 (cellsEs H S), .callW ((cellsEs H S).take i ++ (cellsEs H S).drop (i + 1)) none, .callO 53 1 Ks, .lfz [5], .callW (Ks.take j ++ [[.ptr x2 0]] ++ Ks.drop j) none, .lfz [6, 3, 1]]) (let z1 := FV.sc (Value.int IntKind.u32 (↑(H (Prod.fst m)) : Int)) :: int (V.kind (Prod.fst m)) :: int (V.num (Prod.fst m)) :: str (V.text (Prod.fst m)) :: encI (V.items (Prod.fst m)) :: cellsP (Prod.snd m); let z2 := IntKind.bits IntKind.u32; let z3 := List.take i (cellsEs H S) ++ List.drop (i + 1) (cellsEs H S); let z4 := List.take j Ks ++ [[FV.ptr x2 0]] ++ List.drop j Ks; let z5 := Value.int IntKind.u32 (b : Int); let z6 := E 9 ∧ (0 : Int) ≤ (i : Int) ∧ (cellsEs H S)[i]? = some z1; let z7 := Value.int IntKind.u32 (↑(H (Prod.fst e)) : Int); let z8 := IntKind.wrap IntKind.i64 ((d : Int) + 1); let z9 := Value.int IntKind.u32 (Int.ofNat 0); ((d : Int) == 7) = false ∧ CallsF P G 34 [FV.sc z7, int (d : Int)] (FV.sc z5) ∧ E true ∧ CallsF P G 35 [FV.sc (Value.int IntKind.u32 (a1 : Int)), FV.sc z5] (int (i : Int)) ∧ CallsF P G 35 [FV.sc (Value.int IntKind.u32 (a2 : Int)), FV.sc z5] (int (j : Int)) ∧ (IntKind.wrap IntKind.u32 (↑(BitVec.toNat (BitVec.ofInt z2 (a2 : Int) &&& BitVec.ofInt z2 (b : Int))) : Int) != 0) = false ∧ (IntKind.wrap IntKind.u32 (↑(BitVec.toNat (BitVec.ofInt z2 (a1 : Int) &&& BitVec.ofInt z2 (b : Int))) : Int) == 0) = false ∧ E true ∧ z6 ∧ CallsF P G 36 [encV (Prod.fst m), encV (Prod.fst e)] (bool false) ∧ E false ∧ E true ∧ z6 ∧ CallsF P G 39 [FV.ptr [FV.sc z9, FV.sc z9, FV.nils, FV.nils, int 0] 0, FV.agg z1, int z8] (FV.ptr x1 0) ∧ CallsF P G 39 [FV.ptr x1 0, FV.agg (FV.sc z7 :: int (V.kind (Prod.fst e)) :: int (V.num (Prod.fst e)) :: str (V.text (Prod.fst e)) :: encI (V.items (Prod.fst e)) :: cellsP (Prod.snd e)), int z8] (FV.ptr x2 0) ∧ CallsO P G 47 [FV.sl 9 (cellsEs H S)] (51) (9) (cellsEs H S) ∧ CallsW P G 46 (51) (9) (cellsEs H S) ([int (i : Int), int (IntKind.wrap IntKind.i64 ((i : Int) + 1))]) z3 (none) ∧ CallsO P G 48 [FV.sl 1 Ks] (53) (1) (Ks) ∧ CallsW P G 60 (53) (1) (Ks) ([int (j : Int), FV.sl 1 [[FV.ptr x2 0]]]) z4 (none) ∧ FV.ptr [FV.sc (Value.int IntKind.u32 (IntKind.wrap IntKind.u32 (↑(BitVec.toNat (BitVec.ofInt z2 (a1 : Int) &&& ~~~BitVec.ofInt z2 (b : Int))) : Int))), FV.sc (Value.int IntKind.u32 (IntKind.wrap IntKind.u32 (↑(BitVec.toNat (BitVec.ofInt z2 (a2 : Int) ||| BitVec.ofInt z2 (b : Int))) : Int))), FV.sl 9 z3, FV.sl 1 z4, int (IntKind.wrap IntKind.i64 (ct + 1))] 0 = FV.ptr [FV.sc (Value.int IntKind.u32 (↑(notN a1 b) : Int)), FV.sc (Value.int IntKind.u32 (↑(a2 ||| b) : Int)), FV.sl 9 z3, FV.sl 1 z4, int (ct + 1)] 0) get39 ent39 (by kernel_rfl) ?_
  refine ⟨?_, ?_, rfl, ?_, ?_, ?_, ?_, rfl, ⟨rfl, ?_, ?_⟩, ?_, rfl, rfl, ⟨rfl, ?_, ?_⟩, ?_, ?_, ?_, ?_, ?_, ?_, ?_⟩
  all_goals first | exact hbit | exact hi | exact hj | exact heq | (rw [beq_eq_false_iff_ne]; omega) | (have q2 := u32_and a2 b h2 hb; rw [hn] at q2; rw [bne_eq_false_iff_eq]; exact q2) | (have q1 := u32_and a1 b h1 hb; rw [beq_eq_false_iff_ne]; intro e9; exact hm (by have e8 := q1.symm.trans e9; exact_mod_cast e8)) | exact cloneN_ok _ hKl hKo hK1 | exact cloneE_ok _ (by rw [cellsEs_length]; exact hl) (oneF_cellsEs H S) (cellsEs_len9 H S) | (obtain ⟨q3, q4⟩ := List.getElem?_eq_some_iff.1 hel; first | exact q3 | (simp only [List.length_set]; exact q3) | omega) | exact hel | (obtain ⟨q3, q4⟩ := List.getElem?_eq_some_iff.1 hel; rw [cellsEs_length] at q3; rw [wrapS _ (by omega) (by omega)]; exact delete_okE rfl _ i (by rw [cellsEs_length]; exact q3) (by rw [cellsEs_length]; exact hl) (oneF_cellsEs H S)) | exact insert_okEP rfl _ j _ hjl hKl hKo (by intro x hx; simp at hx; subst hx; rfl) | (rw [u32_notB a1 b h1 hb, u32_orB a2 b h2 hb, wrapS _ (by omega) (by omega)]) | (rw [wrapS _ (by omega) (by omega)]; exact hx1) | (rw [wrapS _ (by omega) (by omega)]; exact hx2)
end Go.Sx
set_option linter.unusedVariables false
set_option linter.unusedSimpArgs false
namespace Sp
namespace Ch
theorem bits_set {S S' : Nat → Bool} (p : Nat) (hp : p < 32) (he : ∀ q, q ≠ p → S' q = S q) (h : S' p = true) : bits S' 32 = bits S 32 ||| 2 ^ p := by
  rw [bits_or S p hp]
  refine bits_congr 32 fun q _ => ?_
  by_cases hq : q = p
  · subst hq; simp [h]
  · simp [he q hq, hq]
theorem bits_clr {S S' : Nat → Bool} (p : Nat) (hp : p < 32) (he : ∀ q, q ≠ p → S' q = S q) (h : S' p = false) : bits S' 32 = bits S 32 &&& (2 ^ 32 - 1 - 2 ^ p) := by
  rw [bits_out S p hp]
  refine bits_congr 32 fun q _ => ?_
  by_cases hq : q = p
  · subst hq; simp [h]
  · simp [he q hq, hq]
theorem bits_kept {S S' : Nat → Bool} (p : Nat) (he : ∀ q, q ≠ p → S' q = S q) (h : S' p = S p) : bits S' 32 = bits S 32 := by
  refine bits_congr 32 fun q _ => ?_
  by_cases hq : q = p
  · subst hq; exact h
  · exact he q hq
/-- What is turned at one place of a node. -/
theorem turn_at (H : V → Nat) (d p : Nat) (L M : List (V × V)) (hp : p < 32) (he : ∀ q, q ≠ p → cls H d q M = cls H d q L) : ∃ A B C D, A.length = sgn H d p L ∧ C.length = kdn H d p L ∧ sgl H d L = A ++ (one1 (cls H d p L) ++ B) ∧ sgl H d M = A ++ (one1 (cls H d p M) ++ B) ∧ kdl H d L = C ++ (more (cls H d p L) ++ D) ∧ kdl H d M = C ++ (more (cls H d p M) ++ D) := by
  obtain ⟨A, B, h1, h2, h3⟩ := sgl_turn H d p L M hp he
  obtain ⟨C, D, h4, h5, h6⟩ := kdl_turn H d p L M hp he
  exact ⟨A, B, C, D, h1, h4, h2, h3, h5, h6⟩
theorem one1_none {c : List (V × V)} (h : c.length ≠ 1) : one1 c = [] := by simp [one1, h]
theorem more_some {c : List (V × V)} (h : 2 ≤ c.length) : more c = [c] := by unfold more; rw [if_pos h]
theorem put_ge (e : V × V) {c : List (V × V)} (h : Dk c) : c.length ≤ (put e c).length ∧ (put e c).length ≤ c.length + 1 := by
  have h1 := put_len e c; have h2 := same_le (k := e.1) h; omega
theorem cut_other {k : V} {c : List (V × V)} (h : ∀ q, q ∈ c → sameK k q = false) : cut k c = c := by
  unfold cut; exact List.filter_eq_self.2 fun q hq => by simp [h q hq]
theorem cut_less {k : V} {c : List (V × V)} (h : Dk c) (ht : c.any (sameK k) = true) : (cut k c).length + 1 = c.length := by
  have h1 := cut_len k c; have h2 := same_le (k := k) h
  obtain ⟨q, hq, hs⟩ := List.any_eq_true.1 ht
  have : 0 < (c.filter (sameK k)).length := List.length_pos_of_mem (List.mem_filter.2 ⟨hq, hs⟩)
  omega
/-- A list without a key. -/
theorem drop_one {α : Type} (A B : List α) (m : α) : (A ++ ([m] ++ B)).take A.length ++ (A ++ ([m] ++ B)).drop (A.length + 1) = A ++ B := by
  simp [List.drop_append]
theorem set_one {α : Type} (A B : List α) (m e : α) : (A ++ ([m] ++ B)).set A.length e = A ++ ([e] ++ B) := by
  simp [List.set_append]
theorem ins_one {α : Type} (A B : List α) (e : α) : (A ++ ([] ++ B)).take A.length ++ [e] ++ (A ++ ([] ++ B)).drop A.length = A ++ ([e] ++ B) := by
  simp
/-- At the bottom: a member put into a rising list. -/
theorem bot_put (e : V × V) {L : List (V × V)} (hd : Dk L) : ∃ a m b, srtL cmpV L = a ++ m ++ b ∧ a.length = aheadN cmpV e.1 (srtL cmpV L) ∧ m = m.filter (sameK e.1) ∧ m.length ≤ 1 ∧ (m.length = 1 ↔ L.any (sameK e.1) = true) ∧ srtL cmpV (put e L) = a ++ ([e] ++ b) ∧ srtL cmpV (cut e.1 L) = a ++ b := by
  have hR := srtL_rising cmpV_line (fun _ _ e => e) hd
  obtain ⟨a, m, b, h1, h2, h3, h4, h5, h6⟩ := split_at cmpV_line e.1 (srtL cmpV L) hR
  have hla : a.length = aheadN cmpV e.1 (srtL cmpV L) := by
    have h7 : a.length = ((srtL cmpV L).take (aheadN cmpV e.1 (srtL cmpV L))).length := by rw [h2]
    rw [List.length_take] at h7
    have h8 := (ahead_place cmpV_line e.1 hR).1
    omega
  have hdS : Dk (srtL cmpV L) := hd.perm (srtL_perm cmpV L).symm
  have hb : ∀ q, q ∈ b → sameK e.1 q = false := fun q hq => by have := h6 q hq; unfold sameK; rw [beq_eq_false_iff_ne]; omega
  have ha : ∀ q, q ∈ a → sameK e.1 q = false := fun q hq => by have := h4 q hq; unfold sameK; rw [beq_eq_false_iff_ne]; omega
  have hm : m = m.filter (sameK e.1) := (List.filter_eq_self.2 fun q hq => by have := h5 q hq; simp [sameK, this]).symm
  have hm1 : m.length ≤ 1 := by
    have h7 : Dk m := by
      rw [h1] at hdS
      exact ((List.pairwise_append.1 (List.pairwise_append.1 hdS).1).2.1)
    have := same_le (k := e.1) h7
    rw [← hm] at this; exact this
  have hany : m.length = 1 ↔ L.any (sameK e.1) = true := by
    have h7 : L.any (sameK e.1) = (srtL cmpV L).any (sameK e.1) := by
      rw [Bool.eq_iff_iff, List.any_eq_true, List.any_eq_true]
      exact ⟨fun ⟨q, h8, h9⟩ => ⟨q, (srtL_perm cmpV L).mem_iff.2 h8, h9⟩, fun ⟨q, h8, h9⟩ => ⟨q, (srtL_perm cmpV L).mem_iff.1 h8, h9⟩⟩
    have fa : a.any (sameK e.1) = false := List.any_eq_false.2 (fun q hq => by simp [ha q hq])
    have fb : b.any (sameK e.1) = false := List.any_eq_false.2 (fun q hq => by simp [hb q hq])
    rw [h7, h1, List.any_append, List.any_append, fa, fb]
    simp only [Bool.false_or, Bool.or_false]
    constructor
    · intro h
      match m, h with
      | q :: m', h => rw [List.any_eq_true]; exact ⟨q, by simp, by have := h5 q (by simp); simp [sameK, this]⟩
    · intro h
      obtain ⟨q, hq, _⟩ := List.any_eq_true.1 h
      have := List.length_pos_of_mem hq; omega
  have hp : (srtL cmpV (cut e.1 L)).Perm (cut e.1 (srtL cmpV L)) := (srtL_perm cmpV _).trans (cut_perm (srtL_perm cmpV L).symm)
  have hc : cut e.1 (srtL cmpV L) = a ++ b := by
    have fa : cut e.1 a = a := cut_other ha
    have fb : cut e.1 b = b := cut_other hb
    have fm : cut e.1 m = [] := List.filter_eq_nil_iff.2 (fun q hq => by have := h5 q hq; simp [sameK, this])
    rw [h1]; unfold cut at fa fb fm ⊢
    rw [List.filter_append, List.filter_append, fa, fb, fm]
    simp
  have hcR : Rising cmpV (a ++ b) := by rw [← hc]; exact hR.filter _
  refine ⟨a, m, b, h1, hla, hm, hm1, hany, ?_, ?_⟩
  · have h7 := mem_ins cmpV_line e (srtL cmpV L) hR
    have h8 : insL cmpV (srtL cmpV L) e = a ++ ([e] ++ b) := by unfold insL; rw [h2, h3]; simp
    rw [← h8]
    refine rising_perm cmpV_line ((srtL_perm cmpV _).trans ?_) (srtL_rising cmpV_line (fun _ _ e => e) hd.put) h7.2
    rw [h8]
    refine ((put_perm (srtL_perm cmpV L).symm)).trans ?_
    have h9 : put e (srtL cmpV L) = e :: (a ++ b) := by rw [← hc]; rfl
    rw [h9]
    exact List.perm_middle.symm
  · refine rising_perm cmpV_line (hp.trans (by rw [hc])) (srtL_rising cmpV_line (fun _ _ e => e) hd.cut) hcR
end Ch
end Sp

/-
  Proved: what some functions of the program answer, or a law of the evaluator that shows it, one theorem each; its conditions are the hypotheses that stand ahead of it.
-/
import Derived.Test.YtdgodofdnaligaaDoorX1
import Derived.KernelRfl
import Derived.Test.YtdgodofdnaligaaDoorPRL
import Derived.Test.YtdgodofdnaligaaDoorPSt
set_option maxRecDepth 100000
set_option maxHeartbeats 4000000
set_option linter.unusedSimpArgs false
set_option linter.unusedVariables false
namespace Go.Sx
open Go.Proofs Sp
open Sp.Ch
theorem by255 (x k : Nat) (hx : x < 4294967296) : IntKind.u32.wrap (((BitVec.ofInt 32 (Int.fdiv (x : Int) (2 ^ k)) &&& BitVec.ofInt 32 255).toNat : Nat) : Int) = ((x / 2 ^ k % 256 : Nat) : Int) := by
  have hd : x / 2 ^ k < 4294967296 := Nat.lt_of_le_of_lt (Nat.div_le_self _ _) hx
  have h255 : (BitVec.ofInt 32 255 : BitVec 32) = BitVec.ofInt 32 ((255 : Nat) : Int) := rfl
  rw [fdiv_nat, h255, u32_and _ 255 hd (by omega), show (255 : Nat) = 2 ^ 8 - 1 from rfl, Nat.and_two_pow_sub_one_eq_mod]
theorem by255' (x : Nat) (hx : x < 4294967296) : IntKind.u32.wrap (((BitVec.ofInt 32 (x : Int) &&& BitVec.ofInt 32 255).toNat : Nat) : Int) = ((x % 256 : Nat) : Int) := by
  have h255 : (BitVec.ofInt 32 255 : BitVec 32) = BitVec.ofInt 32 ((255 : Nat) : Int) := rfl
  rw [h255, u32_and _ 255 hx (by omega), show (255 : Nat) = 2 ^ 8 - 1 from rfl, Nat.and_two_pow_sub_one_eq_mod]
theorem pop_add (x n : Nat) : ∀ m, pop x (n + m) = pop x n + pop (x >>> n) m
  | 0 => by simp [pop]
  | m + 1 => by
    rw [← Nat.add_assoc, pop, pop_add x n m, pop, Nat.testBit_shiftRight]
    omega
theorem pop_mod (x : Nat) : ∀ n m, n ≤ m → pop (x % 2 ^ m) n = pop x n
  | 0, _, _ => rfl
  | n + 1, m, h => by
    rw [pop, pop, pop_mod x n m (by omega), Nat.testBit_mod_two_pow]
    have : n < m := by omega
    simp [this]
theorem pop_le (x : Nat) : ∀ n, pop x n ≤ n
  | 0 => Nat.le_refl _
  | n + 1 => by have := pop_le x n; rw [pop]; split <;> omega
theorem pop_four (x : Nat) : pop x 32 = pop (x / 2 ^ 24 % 256) 8 + pop (x / 2 ^ 16 % 256) 8 + pop (x / 2 ^ 8 % 256) 8 + pop (x % 256) 8 := by
  have h1 : pop x 32 = pop x 8 + pop (x >>> 8) 24 := pop_add x 8 24
  have h2 : pop (x >>> 8) 24 = pop (x >>> 8) 8 + pop (x >>> 8 >>> 8) 16 := pop_add (x >>> 8) 8 16
  have h3 : pop (x >>> 8 >>> 8) 16 = pop (x >>> 8 >>> 8) 8 + pop (x >>> 8 >>> 8 >>> 8) 8 := pop_add (x >>> 8 >>> 8) 8 8
  have s1 : x >>> 8 = x / 2 ^ 8 := Nat.shiftRight_eq_div_pow x 8
  have s2 : x >>> 8 >>> 8 = x / 2 ^ 16 := by rw [← Nat.shiftRight_add]; exact Nat.shiftRight_eq_div_pow x 16
  have s3 : x >>> 8 >>> 8 >>> 8 = x / 2 ^ 24 := by rw [← Nat.shiftRight_add, ← Nat.shiftRight_add]; exact Nat.shiftRight_eq_div_pow x 24
  have e : ∀ y, pop (y % 256) 8 = pop y 8 := fun y => pop_mod y 8 8 (Nat.le_refl _)
  rw [e, e, e, e, h1, h2, h3, s3, s2, s1]
  omega
def tab8 : ByteArray := ⟨List.toArray (List.append (List.append [0, 1, 1, 2, 1, 2, 2, 3, 1, 2, 2, 3, 2, 3, 3, 4, 1, 2, 2, 3, 2, 3, 3, 4, 2, 3, 3, 4, 3, 4, 4, 5, 1, 2, 2, 3, 2, 3, 3, 4, 2, 3, 3, 4, 3, 4, 4, 5, 2, 3, 3, 4, 3, 4, 4, 5, 3, 4, 4, 5, 4, 5, 5, 6] [1, 2, 2, 3, 2, 3, 3, 4, 2, 3, 3, 4, 3, 4, 4, 5, 2, 3, 3, 4, 3, 4, 4, 5, 3, 4, 4, 5, 4, 5, 5, 6, 2, 3, 3, 4, 3, 4, 4, 5, 3, 4, 4, 5, 4, 5, 5, 6, 3, 4, 4, 5, 4, 5, 5, 6, 4, 5, 5, 6, 5, 6, 6, 7]) (List.append [1, 2, 2, 3, 2, 3, 3, 4, 2, 3, 3, 4, 3, 4, 4, 5, 2, 3, 3, 4, 3, 4, 4, 5, 3, 4, 4, 5, 4, 5, 5, 6, 2, 3, 3, 4, 3, 4, 4, 5, 3, 4, 4, 5, 4, 5, 5, 6, 3, 4, 4, 5, 4, 5, 5, 6, 4, 5, 5, 6, 5, 6, 6, 7] [2, 3, 3, 4, 3, 4, 4, 5, 3, 4, 4, 5, 4, 5, 5, 6, 3, 4, 4, 5, 4, 5, 5, 6, 4, 5, 5, 6, 5, 6, 6, 7, 3, 4, 4, 5, 4, 5, 5, 6, 4, 5, 5, 6, 5, 6, 6, 7, 4, 5, 5, 6, 5, 6, 6, 7, 5, 6, 6, 7, 6, 7, 7, 8]))⟩
theorem tab_ok : ∀ b, b < 256 → strAt tab8 b = pop b 8 := by
  have h : ((List.range 256).all fun b => strAt tab8 b == pop b 8) = true := by kernel_rfl
  intro b hb
  have := List.all_eq_true.1 h b (by simpa using hb)
  simpa using this
theorem u8_id {n : Int} (h0 : 0 ≤ n) (h1 : n < 256) : IntKind.u8.wrap n = n := by
  simp only [IntKind.wrap, IntKind.signed, IntKind.bits]
  simp
  omega
theorem ones_fin (T : ByteArray) (hT : ∀ b, b < 256 → strAt T b = pop b 8) (x : Nat) (hx : x < 4294967296) : int (IntKind.i64.wrap (IntKind.u8.wrap (IntKind.u8.wrap (IntKind.u8.wrap ((strAt T (Int.toNat (Int.fdiv (x : Int) (2 ^ 24))) : Int) + (strAt T (Int.toNat (IntKind.u32.wrap (((BitVec.ofInt 32 (Int.fdiv (x : Int) (2 ^ 16)) &&& BitVec.ofInt 32 255).toNat : Nat) : Int))) : Int)) + (strAt T (Int.toNat (IntKind.u32.wrap (((BitVec.ofInt 32 (Int.fdiv (x : Int) (2 ^ 8)) &&& BitVec.ofInt 32 255).toNat : Nat) : Int))) : Int)) + (strAt T (Int.toNat (IntKind.u32.wrap (((BitVec.ofInt 32 (x : Int) &&& BitVec.ofInt 32 255).toNat : Nat) : Int))) : Int)))) = int (pop x 32 : Nat) := by
  rw [by255 x 16 hx, by255 x 8 hx, by255' x hx, fdiv_nat, Int.toNat_natCast, Int.toNat_natCast, Int.toNat_natCast, Int.toNat_natCast]
  have h24 : x / 2 ^ 24 < 256 := by omega
  have e24 : x / 2 ^ 24 % 256 = x / 2 ^ 24 := Nat.mod_eq_of_lt h24
  rw [hT _ h24, hT _ (Nat.mod_lt _ (by omega)), hT _ (Nat.mod_lt _ (by omega)), hT _ (Nat.mod_lt _ (by omega))]
  have hp := pop_four x
  rw [e24] at hp
  have l1 := pop_le (x / 2 ^ 24) 8; have l2 := pop_le (x / 2 ^ 16 % 256) 8; have l3 := pop_le (x / 2 ^ 8 % 256) 8; have l4 := pop_le (x % 256) 8
  rw [u8_id (n := (pop (x / 2 ^ 24) 8 : Int) + (pop (x / 2 ^ 16 % 256) 8 : Int)) (by omega) (by omega), u8_id (n := (pop (x / 2 ^ 24) 8 : Int) + (pop (x / 2 ^ 16 % 256) 8 : Int) + (pop (x / 2 ^ 8 % 256) 8 : Int)) (by omega) (by omega), u8_id (by omega) (by omega), wrapS _ (by omega) (by omega)]
  exact congrArg int (by omega)
theorem get53 : P.funcs[53]? = some Tryd.f53 := by kernel_rfl
theorem ent53 : entersP P 53 = true := by kernel_rfl
theorem ones_run (x : Nat) (hx : x < 4294967296) : CallsF P G 53 [.sc (.int .u32 (x : Int))] (int (Sp.Ch.pop x 32 : Nat)) := by
  refine sx_fn (hs := [.nat 19]) (let z1 := List.append (List.append [0, 1, 1, 2, 1, 2, 2, 3, 1, 2, 2, 3, 2, 3, 3, 4, 1, 2, 2, 3, 2, 3, 3, 4, 2, 3, 3, 4, 3, 4, 4, 5, 1, 2, 2, 3, 2, 3, 3, 4, 2, 3, 3, 4, 3, 4, 4, 5, 2, 3, 3, 4, 3, 4, 4, 5, 3, 4, 4, 5, 4, 5, 5, 6] [1, 2, 2, 3, 2, 3, 3, 4, 2, 3, 3, 4, 3, 4, 4, 5, 2, 3, 3, 4, 3, 4, 4, 5, 3, 4, 4, 5, 4, 5, 5, 6, 2, 3, 3, 4, 3, 4, 4, 5, 3, 4, 4, 5, 4, 5, 5, 6, 3, 4, 4, 5, 4, 5, 5, 6, 4, 5, 5, 6, 5, 6, 6, 7]) (List.append [1, 2, 2, 3, 2, 3, 3, 4, 2, 3, 3, 4, 3, 4, 4, 5, 2, 3, 3, 4, 3, 4, 4, 5, 3, 4, 4, 5, 4, 5, 5, 6, 2, 3, 3, 4, 3, 4, 4, 5, 3, 4, 4, 5, 4, 5, 5, 6, 3, 4, 4, 5, 4, 5, 5, 6, 4, 5, 5, 6, 5, 6, 6, 7] [2, 3, 3, 4, 3, 4, 4, 5, 3, 4, 4, 5, 4, 5, 5, 6, 3, 4, 4, 5, 4, 5, 5, 6, 4, 5, 5, 6, 5, 6, 6, 7, 3, 4, 4, 5, 4, 5, 5, 6, 4, 5, 5, 6, 5, 6, 6, 7, 4, 5, 5, 6, 5, 6, 6, 7, 5, 6, 6, 7, 6, 7, 7, 8]); let z2 := IntKind.bits IntKind.u32; let z3 := (↑(BitVec.toNat (BitVec.ofInt 32 (Int.fdiv (x : Int) (2 ^ 16)) &&& BitVec.ofInt 32 255)) : Int); let z4 := (↑(BitVec.toNat (BitVec.ofInt 32 (Int.fdiv (x : Int) (2 ^ 8)) &&& BitVec.ofInt 32 255)) : Int); let z5 := (↑(BitVec.toNat (BitVec.ofInt 32 (x : Int) &&& BitVec.ofInt 32 255)) : Int); E true ∧ ((0 : Int) ≤ Int.fdiv (x : Int) (2 ^ 24) ∧ Int.toNat (Int.fdiv (x : Int) (2 ^ 24)) < 256) ∧ ((0 : Int) ≤ IntKind.wrap IntKind.u32 z3 ∧ Int.toNat (IntKind.wrap IntKind.u32 z3) < 256) ∧ ((0 : Int) ≤ IntKind.wrap IntKind.u32 z4 ∧ Int.toNat (IntKind.wrap IntKind.u32 z4) < 256) ∧ ((0 : Int) ≤ IntKind.wrap IntKind.u32 z5 ∧ Int.toNat (IntKind.wrap IntKind.u32 z5) < 256) ∧ int (IntKind.wrap IntKind.i64 (IntKind.wrap IntKind.u8 (IntKind.wrap IntKind.u8 (IntKind.wrap IntKind.u8 ((↑(strAt { data := List.toArray z1 } (Int.toNat (Int.fdiv (x : Int) (2 ^ min (Int.toNat 24) z2)))) : Int) + (↑(strAt { data := List.toArray z1 } (Int.toNat (IntKind.wrap IntKind.u32 (↑(BitVec.toNat (BitVec.ofInt z2 (Int.fdiv (x : Int) (2 ^ min (Int.toNat 16) z2)) &&& BitVec.ofInt z2 255)) : Int)))) : Int)) + (↑(strAt { data := List.toArray z1 } (Int.toNat (IntKind.wrap IntKind.u32 (↑(BitVec.toNat (BitVec.ofInt z2 (Int.fdiv (x : Int) (2 ^ min (Int.toNat 8) z2)) &&& BitVec.ofInt z2 255)) : Int)))) : Int)) + (↑(strAt { data := List.toArray z1 } (Int.toNat (IntKind.wrap IntKind.u32 (↑(BitVec.toNat (BitVec.ofInt z2 (x : Int) &&& BitVec.ofInt z2 255)) : Int)))) : Int)))) = int (↑(Ch.pop x 32) : Int)) get53 ent53 (by kernel_rfl) ?_
  refine ⟨rfl, ⟨?_, ?_⟩, ⟨?_, ?_⟩, ⟨?_, ?_⟩, ⟨?_, ?_⟩, ?_⟩
  all_goals first | (rw [fdiv_nat]; omega) | (rw [by255 x _ hx]; omega) | (rw [by255' x hx]; omega) | exact ones_fin tab8 tab_ok x hx
end Go.Sx
set_option maxRecDepth 100000
set_option maxHeartbeats 4000000
set_option linter.unusedSimpArgs false
set_option linter.unusedVariables false
namespace Go.Sx
open Go.Proofs Sp
def cellsE (H : V → Nat) (e : V × V) : List FV := .sc (.int .u32 (H e.1 : Int)) :: (cellsP e.1 ++ cellsP e.2)
def cellsEs (H : V → Nat) (L : List (V × V)) : List (List FV) := L.map (cellsE H)
def Sbs (H : V → Nat) (L : List (V × V)) (k : V) (g : Nat) (A B : Nat → Nat) (i : Nat) : St := { sl := slots 49 [(0, .f (.sl 9 (cellsEs H L))), (2, .f (.fn g [] [])), (4, .loc 0 0), (8, .f (int (L.length : Int))), (9, .f (int (A i : Int))), (10, .f (int (B i : Int)))], ob := [(0, .box [.f (int k.kind), .f (int k.num), .f (str k.text), .f (encI k.items)])], nx := 1 }
theorem cellsEs_length (H : V → Nat) (L : List (V × V)) : (cellsEs H L).length = L.length := by simp [cellsEs]
theorem cellsEs_get (H : V → Nat) (L : List (V × V)) (i : Nat) (h : i < L.length) : (cellsEs H L)[i]? = some (cellsE H (L.getD i default)) := by
  simp [cellsEs, List.getD_eq_getElem?_getD, List.getElem?_eq_getElem h]
theorem cellsEs_get2 (H : V → Nat) (L : List (V × V)) (i j : Nat) (e : i = j) (h : j < L.length) : (cellsEs H L)[i]? = some (cellsE H (L.getD j default)) := by subst e; exact cellsEs_get H L i h
theorem midS1 {a b : Nat} (h : a + b ≤ 2000000) : IntKind.i64.wrap (Int.fdiv (IntKind.u64.wrap (IntKind.i64.wrap ((a : Int) + (b : Int)))) (2 ^ 1)) = (((a + b) / 2 : Nat) : Int) := midS h
theorem get56 : P.funcs[56]? = some Tryd.f56 := by kernel_rfl
theorem ent56 : entersP P 56 = true := by kernel_rfl
theorem plc1_ok (H : V → Nat) (e : V × V) (k : V) (hf : Fine e.1) : CallsF P G 56 [.agg (cellsE H e), encV k] (int (cmpV e.1 k)) := by
  refine sx_fn (hs := [.call (int (cmpV e.1 k))]) ((CallsF P G 54 [encV (Prod.fst e), encV k] (int (cmpV (Prod.fst e) k))) ∧ E (int (cmpV (Prod.fst e) k))) get56 ent56 (by kernel_rfl) ?_
  refine ⟨?_, rfl⟩
  all_goals exact compare_ok _ _ hf
theorem get55 : P.funcs[55]? = some Tryd.f55 := by kernel_rfl
theorem ent55 : entersP P 55 = true := by kernel_rfl
theorem bsf_in (H : V → Nat) (L : List (V × V)) (k : V) (g N : Nat) (A B : Nat → Nat) (c : Nat → Int) (e : Int) (hl : L.length ≤ 1000000) (hA0 : A 0 = 0) (hB0 : B 0 = L.length) (hin : ∀ i, i ≤ N → A i ≤ B i ∧ B i ≤ L.length) (h1 : ∀ i, i < N → A i < B i) (he : ¬ A N < B N) (hc : ∀ i, i < N → CallsF P G g [.agg (cellsE H (L.getD ((A i + B i) / 2) default)), encV k] (int (c i))) (hs : ∀ i, i < N → (c i < 0 → A (i + 1) = ((A i + B i) / 2) + 1 ∧ B (i + 1) = B i) ∧ (¬ c i < 0 → A (i + 1) = A i ∧ B (i + 1) = ((A i + B i) / 2))) (hlt : A N < L.length) (hx : CallsF P G g [.agg (cellsE H (L.getD (A N) default)), encV k] (int e)) : CallsF P G 55 [.sl 9 (cellsEs H L), encV k, .fn g [] []] (.tup [int (A N : Int), bool (e == 0)]) := by
  refine sx_fn (hs := [.loop [(0,0)] [(0,0)] (Sbs H L k g A B) N (fun i => [.dec true, .nat 8, .el (cellsE H (L.getD ((A i + B i) / 2) default)), .call (int (c i)), .br [] []]), .dec false, .nat 16, .dec true, .el (cellsE H (L.getD (A N) default)), .call (int e)]) (let z2 := E (Ob.box [AV.f (int (V.kind k)), AV.f (int (V.num k)), AV.f (str (V.text k)), AV.f (encI (V.items k))]) ∧ True; let z3 := Prod.fst (List.getD L (A N) default); let z1 := FV.sc (Value.int IntKind.u32 (↑(H z3) : Int)) :: int (V.kind z3) :: int (V.num z3) :: str (V.text z3) :: encI (V.items z3) :: cellsP (Prod.snd (List.getD L (A N) default)); let z4 := 2 ^ min (Int.toNat 1) (IntKind.bits IntKind.u64); let z5 := (↑(List.length L) : Int); let z6 := AV.f (FV.sl 9 (cellsEs H L)); let z7 := int (↑(List.length (cellsEs H L)) : Int); let z8 := AV.f (FV.fn g [] []); (E true ∧ (E z6 ∧ E z8 ∧ E (AV.loc 0 0) ∧ AV.f z7 = AV.f (int z5) ∧ AV.f (int 0) = AV.f (int (↑(A 0) : Int)) ∧ AV.f z7 = AV.f (int (↑(B 0) : Int)) ∧ True) ∧ z2 ∧ E true ∧ (false = true → false = true)) ∧ (∀ (i : Nat), (let z10 := IntKind.wrap IntKind.u64 (IntKind.wrap IntKind.i64 ((↑(A i) : Int) + (↑(B i) : Int))); let z12 := IntKind.wrap IntKind.i64 (Int.fdiv z10 z4); let z13 := List.getD L ((A i + B i) / 2) default; let z9 := Prod.fst z13; let z11 := FV.sc (Value.int IntKind.u32 (↑(H z9) : Int)) :: int (V.kind z9) :: int (V.num z9) :: str (V.text z9) :: encI (V.items z9) :: cellsP (Prod.snd z13); i < N → decide ((↑(A i) : Int) < (↑(B i) : Int)) = true ∧ E true ∧ (E 9 ∧ (0 : Int) ≤ IntKind.wrap IntKind.i64 (Int.fdiv z10 (2 ^ 1)) ∧ (cellsEs H L)[Int.toNat z12]? = some z11) ∧ CallsF P G g [FV.agg z11, encV k] (int (c i)) ∧ Br (decide (c i < 0)) (E true ∧ (E z6 ∧ E z8 ∧ E (AV.loc 0 0) ∧ E (AV.f (int z5)) ∧ AV.f (int (IntKind.wrap IntKind.i64 (IntKind.wrap IntKind.i64 (Int.fdiv z10 z4) + 1))) = AV.f (int (↑(A (i + 1)) : Int)) ∧ AV.f (int (↑(B i) : Int)) = AV.f (int (↑(B (i + 1)) : Int)) ∧ True) ∧ z2 ∧ E true ∧ (false = true → false = true)) (E true ∧ (E z6 ∧ E z8 ∧ E (AV.loc 0 0) ∧ E (AV.f (int z5)) ∧ AV.f (int (↑(A i) : Int)) = AV.f (int (↑(A (i + 1)) : Int)) ∧ AV.f (int z12) = AV.f (int (↑(B (i + 1)) : Int)) ∧ True) ∧ z2 ∧ E true ∧ (false = true → false = true)))) ∧ decide ((↑(A N) : Int) < (↑(B N) : Int)) = false ∧ E true ∧ decide ((↑(A N) : Int) < z5) = true ∧ (E 9 ∧ (0 : Int) ≤ (↑(A N) : Int) ∧ (cellsEs H L)[A N]? = some z1) ∧ CallsF P G g [FV.agg z1, encV k] (int e) ∧ E (FV.tup [int (↑(A N) : Int), bool (e == 0)])) get55 ent55 (by kernel_rfl) ?_
  refine ⟨⟨rfl, ⟨rfl, rfl, rfl, ?_, ?_, ?_, trivial⟩, ⟨rfl, trivial⟩, rfl, fun hi => ?_⟩, fun i => fun hi => ⟨?_, rfl, ⟨rfl, ?_, ?_⟩, ?_, fun hi => ⟨rfl, ⟨rfl, rfl, rfl, rfl, ?_, ?_, trivial⟩, ⟨rfl, trivial⟩, rfl, fun hi => ?_⟩, fun hi => ⟨rfl, ⟨rfl, rfl, rfl, rfl, ?_, ?_, trivial⟩, ⟨rfl, trivial⟩, rfl, fun hi => ?_⟩⟩, ?_, rfl, ?_, ⟨rfl, ?_, ?_⟩, ?_, rfl⟩
  all_goals first | (have q1 := hin i (by omega); have q2 := h1 i (by assumption); have q0 := midS1 (show A i + B i ≤ 2000000 by omega); have q8 := midS (show A i + B i ≤ 2000000 by omega); simp only [decide_eq_true_eq]; omega) | (have q1 := hin i (by omega); have q2 := h1 i (by assumption); have q0 := midS1 (show A i + B i ≤ 2000000 by omega); have q8 := midS (show A i + B i ≤ 2000000 by omega); (first | rw [q0] | rw [q8]); exact cellsEs_get2 _ _ _ _ (by omega) (by omega)) | (have q1 := hin i (by omega); have q2 := h1 i (by assumption); have q0 := midS1 (show A i + B i ≤ 2000000 by omega); have q8 := midS (show A i + B i ≤ 2000000 by omega); (first | rw [q0] | rw [q8]); (try simp only [cellsEs_length]); omega) | (have q1 := hin i (by omega); have q2 := h1 i (by assumption); have q0 := midS1 (show A i + B i ≤ 2000000 by omega); have q8 := midS (show A i + B i ≤ 2000000 by omega); exact hc i (by assumption)) | (have q1 := hin i (by omega); have q2 := h1 i (by assumption); have q0 := midS1 (show A i + B i ≤ 2000000 by omega); have q8 := midS (show A i + B i ≤ 2000000 by omega); have q3 := (hs i (by assumption)).1 (by simpa using hi); (first | rw [q0] | rw [q8] | skip); first | (rw [q3.1]; exact congrArg (fun x => AV.f (int x)) (wrapS _ (by omega) (by omega))) | (rw [q3.2]; done)) | (have q1 := hin i (by omega); have q2 := h1 i (by assumption); have q0 := midS1 (show A i + B i ≤ 2000000 by omega); have q8 := midS (show A i + B i ≤ 2000000 by omega); have q3 := (hs i (by assumption)).2 (by simpa using hi); (first | rw [q0] | rw [q8] | skip); first | (rw [q3.1]; done) | (rw [q3.2]; done)) | (rw [hB0, cellsEs_length]; done) | (simp only [decide_eq_false_iff_not]; omega) | (simp only [cellsEs_length, decide_eq_true_eq]; omega) | exact cellsEs_get2 _ _ _ _ (by omega) (by omega) | exact hx | (rw [cellsEs_length]; done) | (omega) | (simp [V.kind, V.num, V.text, V.items, *]; done)
theorem bsf_end (H : V → Nat) (L : List (V × V)) (k : V) (g N : Nat) (A B : Nat → Nat) (c : Nat → Int) (hl : L.length ≤ 1000000) (hA0 : A 0 = 0) (hB0 : B 0 = L.length) (hin : ∀ i, i ≤ N → A i ≤ B i ∧ B i ≤ L.length) (h1 : ∀ i, i < N → A i < B i) (he : ¬ A N < B N) (hc : ∀ i, i < N → CallsF P G g [.agg (cellsE H (L.getD ((A i + B i) / 2) default)), encV k] (int (c i))) (hs : ∀ i, i < N → (c i < 0 → A (i + 1) = ((A i + B i) / 2) + 1 ∧ B (i + 1) = B i) ∧ (¬ c i < 0 → A (i + 1) = A i ∧ B (i + 1) = ((A i + B i) / 2))) (hlt : A N = L.length) : CallsF P G 55 [.sl 9 (cellsEs H L), encV k, .fn g [] []] (.tup [int (A N : Int), bool false]) := by
  refine sx_fn (hs := [.loop [(0,0)] [(0,0)] (Sbs H L k g A B) N (fun i => [.dec true, .nat 8, .el (cellsE H (L.getD ((A i + B i) / 2) default)), .call (int (c i)), .br [] []]), .dec false, .nat 16, .dec false]) (let z1 := E (Ob.box [AV.f (int (V.kind k)), AV.f (int (V.num k)), AV.f (str (V.text k)), AV.f (encI (V.items k))]) ∧ True; let z2 := 2 ^ min (Int.toNat 1) (IntKind.bits IntKind.u64); let z3 := (↑(List.length L) : Int); let z4 := AV.f (FV.sl 9 (cellsEs H L)); let z5 := int (↑(List.length (cellsEs H L)) : Int); let z6 := AV.f (FV.fn g [] []); (E true ∧ (E z4 ∧ E z6 ∧ E (AV.loc 0 0) ∧ AV.f z5 = AV.f (int z3) ∧ AV.f (int 0) = AV.f (int (↑(A 0) : Int)) ∧ AV.f z5 = AV.f (int (↑(B 0) : Int)) ∧ True) ∧ z1 ∧ E true ∧ (false = true → false = true)) ∧ (∀ (i : Nat), (let z8 := IntKind.wrap IntKind.u64 (IntKind.wrap IntKind.i64 ((↑(A i) : Int) + (↑(B i) : Int))); let z10 := IntKind.wrap IntKind.i64 (Int.fdiv z8 z2); let z11 := List.getD L ((A i + B i) / 2) default; let z7 := Prod.fst z11; let z9 := FV.sc (Value.int IntKind.u32 (↑(H z7) : Int)) :: int (V.kind z7) :: int (V.num z7) :: str (V.text z7) :: encI (V.items z7) :: cellsP (Prod.snd z11); i < N → decide ((↑(A i) : Int) < (↑(B i) : Int)) = true ∧ E true ∧ (E 9 ∧ (0 : Int) ≤ IntKind.wrap IntKind.i64 (Int.fdiv z8 (2 ^ 1)) ∧ (cellsEs H L)[Int.toNat z10]? = some z9) ∧ CallsF P G g [FV.agg z9, encV k] (int (c i)) ∧ Br (decide (c i < 0)) (E true ∧ (E z4 ∧ E z6 ∧ E (AV.loc 0 0) ∧ E (AV.f (int z3)) ∧ AV.f (int (IntKind.wrap IntKind.i64 (IntKind.wrap IntKind.i64 (Int.fdiv z8 z2) + 1))) = AV.f (int (↑(A (i + 1)) : Int)) ∧ AV.f (int (↑(B i) : Int)) = AV.f (int (↑(B (i + 1)) : Int)) ∧ True) ∧ z1 ∧ E true ∧ (false = true → false = true)) (E true ∧ (E z4 ∧ E z6 ∧ E (AV.loc 0 0) ∧ E (AV.f (int z3)) ∧ AV.f (int (↑(A i) : Int)) = AV.f (int (↑(A (i + 1)) : Int)) ∧ AV.f (int z10) = AV.f (int (↑(B (i + 1)) : Int)) ∧ True) ∧ z1 ∧ E true ∧ (false = true → false = true)))) ∧ decide ((↑(A N) : Int) < (↑(B N) : Int)) = false ∧ E true ∧ decide ((↑(A N) : Int) < z3) = false ∧ E (FV.tup [int (↑(A N) : Int), bool false])) get55 ent55 (by kernel_rfl) ?_
  refine ⟨⟨rfl, ⟨rfl, rfl, rfl, ?_, ?_, ?_, trivial⟩, ⟨rfl, trivial⟩, rfl, fun hi => ?_⟩, fun i => fun hi => ⟨?_, rfl, ⟨rfl, ?_, ?_⟩, ?_, fun hi => ⟨rfl, ⟨rfl, rfl, rfl, rfl, ?_, ?_, trivial⟩, ⟨rfl, trivial⟩, rfl, fun hi => ?_⟩, fun hi => ⟨rfl, ⟨rfl, rfl, rfl, rfl, ?_, ?_, trivial⟩, ⟨rfl, trivial⟩, rfl, fun hi => ?_⟩⟩, ?_, rfl, ?_, rfl⟩
  all_goals first | (have q1 := hin i (by omega); have q2 := h1 i (by assumption); have q0 := midS1 (show A i + B i ≤ 2000000 by omega); have q8 := midS (show A i + B i ≤ 2000000 by omega); simp only [decide_eq_true_eq]; omega) | (have q1 := hin i (by omega); have q2 := h1 i (by assumption); have q0 := midS1 (show A i + B i ≤ 2000000 by omega); have q8 := midS (show A i + B i ≤ 2000000 by omega); (first | rw [q0] | rw [q8]); exact cellsEs_get2 _ _ _ _ (by omega) (by omega)) | (have q1 := hin i (by omega); have q2 := h1 i (by assumption); have q0 := midS1 (show A i + B i ≤ 2000000 by omega); have q8 := midS (show A i + B i ≤ 2000000 by omega); (first | rw [q0] | rw [q8]); (try simp only [cellsEs_length]); omega) | (have q1 := hin i (by omega); have q2 := h1 i (by assumption); have q0 := midS1 (show A i + B i ≤ 2000000 by omega); have q8 := midS (show A i + B i ≤ 2000000 by omega); exact hc i (by assumption)) | (have q1 := hin i (by omega); have q2 := h1 i (by assumption); have q0 := midS1 (show A i + B i ≤ 2000000 by omega); have q8 := midS (show A i + B i ≤ 2000000 by omega); have q3 := (hs i (by assumption)).1 (by simpa using hi); (first | rw [q0] | rw [q8] | skip); first | (rw [q3.1]; exact congrArg (fun x => AV.f (int x)) (wrapS _ (by omega) (by omega))) | (rw [q3.2]; done)) | (have q1 := hin i (by omega); have q2 := h1 i (by assumption); have q0 := midS1 (show A i + B i ≤ 2000000 by omega); have q8 := midS (show A i + B i ≤ 2000000 by omega); have q3 := (hs i (by assumption)).2 (by simpa using hi); (first | rw [q0] | rw [q8] | skip); first | (rw [q3.1]; done) | (rw [q3.2]; done)) | (rw [hB0, cellsEs_length]; done) | (simp only [decide_eq_false_iff_not]; omega) | (rw [cellsEs_length]; done) | (omega) | (simp [V.kind, V.num, V.text, V.items, *]; done)
end Go.Sx
set_option linter.unusedVariables false
set_option linter.unusedSimpArgs false
namespace Sp
namespace Sy
theorem Pre.refl {α : Type} {c : α → α → Int} (H : Pre c) (x : α) : 0 ≤ c x x := by
  rcases Int.lt_or_le (c x x) 0 with h | h
  · exact H.asym _ _ h
  · exact h
theorem sd_take {α : Type} [Inhabited α] {c : α → α → Int} (H : Pre c) : ∀ {v : List α}, Sd c v → ∀ w, w < v.length → ∀ y, y ∈ v.take (w + 1) → 0 ≤ c (v.getD w default) y
  | [], _, w, h, _, _ => by simp at h
  | z :: v, hs, 0, h, y, hy => by simp at hy; subst hy; exact H.refl _
  | z :: v, hs, w + 1, h, y, hy => by
    have h' := List.pairwise_cons.1 hs
    simp only [List.length_cons] at h
    rw [List.take_succ_cons] at hy
    rw [List.getD_cons_succ]
    rcases List.mem_cons.1 hy with rfl | hy
    · exact h'.1 _ (getD_mem (by omega))
    · exact sd_take H h'.2 w (by omega) y hy
theorem sd_drop {α : Type} [Inhabited α] {c : α → α → Int} (H : Pre c) : ∀ {v : List α}, Sd c v → ∀ w, w < v.length → ∀ y, y ∈ v.drop w → 0 ≤ c y (v.getD w default)
  | [], _, w, h, _, _ => by simp at h
  | z :: v, hs, 0, h, y, hy => by
    have h' := List.pairwise_cons.1 hs
    simp only [List.drop_zero] at hy
    rw [List.getD_cons_zero]
    rcases List.mem_cons.1 hy with rfl | hy
    · exact H.refl _
    · exact h'.1 _ hy
  | z :: v, hs, w + 1, h, y, hy => by
    have h' := List.pairwise_cons.1 hs
    simp only [List.length_cons] at h
    rw [List.drop_succ_cons] at hy
    rw [List.getD_cons_succ]
    exact sd_drop H h'.2 w (by omega) y hy
theorem Pre.cut {α : Type} {c : α → α → Int} (H : Pre c) {x x' y y' : α} (h : c y' x' < 0) (hx : 0 ≤ c x x') (hy : 0 ≤ c y' y) : c y x < 0 := by
  rcases Int.lt_or_le (c y x) 0 with h1 | h1
  · exact h1
  · have := H.trans _ _ _ hx (H.trans _ _ _ h1 hy); omega
end Sy
end Sp
set_option maxRecDepth 100000
set_option maxHeartbeats 4000000
set_option linter.unusedSimpArgs false
set_option linter.unusedVariables false
namespace Go.Sx
open Go.Proofs Sp
theorem get37 : P.funcs[37]? = some Tryd.f37 := by kernel_rfl
theorem ent37 : entersP P 37 = true := by kernel_rfl
theorem plc_run (H : V → Nat) (L : List (V × V)) (k : V) (a1 a2 : Int) (a4 a5 : FV) (i : Int) (b : Bool) (h : CallsF P G 55 [.sl 9 (cellsEs H L), encV k, .fn 56 [] []] (.tup [int i, bool b])) : CallsF P G 37 [.ptr [.sc (.int .u32 a1), .sc (.int .u32 a2), .sl 9 (cellsEs H L), a4, a5] 0, encV k] (.tup [int i, bool b]) := by
  refine sx_fn (hs := [.nat 10, .call (.tup [int i, bool b])]) ((E (true)) ∧ (CallsF P G 55 [FV.sl 9 (cellsEs H L), encV k, FV.fn 56 [] []] (FV.tup [int i, bool b])) ∧ E (FV.tup [int i, bool b])) get37 ent37 (by kernel_rfl) ?_
  refine ⟨rfl, ⟨?_, rfl⟩⟩
  all_goals exact h
open Sp.Ch Sp.Sy
theorem rising_sd {c : V → V → Int} (h : Line c (fun _ => True)) {L : List (V × V)} (hR : Rising c L) : Sd (fun p q : V × V => c p.1 q.1) L := by
  refine List.Pairwise.imp ?_ (show L.Pairwise (fun p q : V × V => c p.1 q.1 < 0) from hR)
  intro x y hxy
  have := h.turn x.1 y.1 trivial trivial; show 0 ≤ c y.1 x.1; omega
/-- What a search by halves finds in a rising list. -/
theorem bs_ahead {c : V → V → Int} (h : Line c (fun _ => True)) (k : V) {L : List (V × V)} (hR : Rising c L) (i : Nat) (hi : i ≤ L.length) (h1 : 0 < i → c (L.getD (i - 1) default).1 k < 0) (h2 : i < L.length → ¬ c (L.getD i default).1 k < 0) : i = aheadN c k L := by
  have hP := line_pre h
  have sd := rising_sd h hR
  have e := ahead_len (c := c) (k := k) (a := L.take i) (b := L.drop i) (fun q hq => ?_) (fun q hq => ?_)
  · rw [List.take_append_drop, List.length_take, Nat.min_eq_left hi] at e; exact e.symm
  · have p1 : 0 < i := by
      rcases Nat.eq_zero_or_pos i with rfl | h
      · simp at hq
      · exact h
    have h3 : 0 ≤ c (L.getD (i - 1) default).1 q.1 := sd_take hP sd (i - 1) (by omega) q (by rw [show i - 1 + 1 = i by omega]; exact hq)
    have h4 := h1 p1
    have t1 := h.turn (L.getD (i - 1) default).1 q.1 trivial trivial
    rcases Int.lt_or_le (c q.1 k) 0 with h5 | h5
    · exact h5
    · have t2 := h.turn q.1 k trivial trivial
      have t3 := h.turn (L.getD (i - 1) default).1 k trivial trivial
      have := h.le_trans k q.1 (L.getD (i - 1) default).1 trivial trivial trivial (by omega) (by omega)
      omega
  · have p2 : i < L.length := by
      rcases Nat.lt_or_ge i L.length with h | h
      · exact h
      · rw [List.drop_eq_nil_of_le h] at hq; simp at hq
    have h3 : 0 ≤ c q.1 (L.getD i default).1 := sd_drop hP sd i p2 q hq
    have h4 := h2 p2
    have t1 := h.turn (L.getD i default).1 q.1 trivial trivial
    have t2 := h.turn q.1 k trivial trivial
    have t3 := h.turn (L.getD i default).1 k trivial trivial
    rcases Int.lt_or_le (c q.1 k) 0 with h5 | h5
    · have := h.le_trans k (L.getD i default).1 q.1 trivial trivial trivial (by omega) (by omega)
      omega
    · exact h5
/-- Is a key there? -/
def thereK (k : V) (L : List (V × V)) : Bool := L.any (sameK k)
theorem there_at {k : V} {L : List (V × V)} (hR : Rising cmpV L) (i : Nat) (hi : i ≤ L.length) (h1 : 0 < i → cmpV (L.getD (i - 1) default).1 k < 0) (h2 : i < L.length → ¬ cmpV (L.getD i default).1 k < 0) : thereK k L = (decide (i < L.length) && (cmpV (L.getD i default).1 k == 0)) := by
  obtain ⟨a, m, b, e, e1, e2, l1, l2, l3⟩ := split_at cmpV_line k L hR
  have ei := bs_ahead cmpV_line k hR i hi h1 h2
  rw [← ei] at e1
  have hla : a.length = i := by rw [← e1, List.length_take, Nat.min_eq_left hi]
  have hb' : ∀ q, q ∈ b → cmpV q.1 k ≠ 0 := fun q hq => by have := l3 q hq; have := cmpV_line.turn q.1 k trivial trivial; omega
  cases m with
  | nil =>
    have h3 : thereK k L = false := by
      unfold thereK; rw [e, List.any_eq_false]
      intro q hq
      simp only [List.append_nil, List.mem_append] at hq
      rcases hq with hq | hq
      · have := l1 q hq; simp [sameK]; omega
      · have := hb' q hq; simp [sameK, this]
    rw [h3]
    cases b with
    | nil => have : L.length = i := by rw [e]; simp [hla]
             simp [this]
    | cons q b =>
      have hg : L.getD i default = q := by rw [e, List.append_nil]; exact getD_mid _ _ _ _ hla.symm
      have := hb' q (by simp)
      rw [hg]; simp [this]
  | cons q m =>
    have hg : L.getD i default = q := by rw [e, List.append_assoc]; exact getD_mid _ _ _ _ hla.symm
    have hq := l2 q (by simp)
    have hlt : i < L.length := by rw [e]; simp [hla]
    have h3 : thereK k L = true := by
      unfold thereK; rw [e, List.any_eq_true]
      exact ⟨q, by simp, by simp [sameK, hq]⟩
    rw [h3, hg]; simp [hlt, hq]
theorem plc_ok (H : V → Nat) (L : List (V × V)) (k : V) (a1 a2 : Int) (a4 a5 : FV) (hl : L.length ≤ 1000000) (hf : ∀ q, q ∈ L → Fine q.1) (hR : Rising cmpV L) :
    CallsF P G 37 [.ptr [.sc (.int .u32 a1), .sc (.int .u32 a2), .sl 9 (cellsEs H L), a4, a5] 0, encV k] (.tup [int (aheadN cmpV k L : Nat), bool (thereK k L)]) := by
  refine plc_run H L k a1 a2 a4 a5 _ _ ?_
  obtain ⟨N, b1, b2, b3, b4, b5⟩ := bs_ends (fun h => decide (cmpV (L.getD h default).1 k < 0)) 0 L.length (Nat.zero_le _)
  have bst := bs_step (fun h => decide (cmpV (L.getD h default).1 k < 0)) 0 L.length
  have hA0 : (bs (fun h => decide (cmpV (L.getD h default).1 k < 0)) 0 L.length 0).1 = 0 := rfl
  have hB0 : (bs (fun h => decide (cmpV (L.getD h default).1 k < 0)) 0 L.length 0).2 = L.length := rfl
  generalize bs (fun h => decide (cmpV (L.getD h default).1 k < 0)) 0 L.length = AB at *
  have h1 : 0 < (AB N).1 → cmpV (L.getD ((AB N).1 - 1) default).1 k < 0 := fun h => of_decide_eq_true (b4 h)
  have h2 : (AB N).1 < L.length → ¬ cmpV (L.getD (AB N).1 default).1 k < 0 := fun h => of_decide_eq_false (b5 h)
  have tN := b3 N (Nat.le_refl _)
  have e1 := bs_ahead cmpV_line k hR (AB N).1 (by omega) h1 h2
  have e2 := there_at hR (AB N).1 (by omega) h1 h2
  rw [← e1, e2]
  have hc : ∀ i, i < N → CallsF P G 56 [.agg (cellsE H (L.getD (((AB i).1 + (AB i).2) / 2) default)), encV k] (int (cmpV (L.getD (((AB i).1 + (AB i).2) / 2) default).1 k)) := fun i hi => by
    have q1 := b1 i hi; have q2 := b3 i (by omega)
    exact plc1_ok H _ k (hf _ (getD_mem (by omega)))
  have hs : ∀ i, i < N → (cmpV (L.getD (((AB i).1 + (AB i).2) / 2) default).1 k < 0 → (AB (i + 1)).1 = ((AB i).1 + (AB i).2) / 2 + 1 ∧ (AB (i + 1)).2 = (AB i).2) ∧ (¬ cmpV (L.getD (((AB i).1 + (AB i).2) / 2) default).1 k < 0 → (AB (i + 1)).1 = (AB i).1 ∧ (AB (i + 1)).2 = ((AB i).1 + (AB i).2) / 2) := fun i hi => ⟨fun h => (bst i).1 (decide_eq_true h), fun h => (bst i).2 (decide_eq_false h)⟩
  by_cases hlt : (AB N).1 < L.length
  · have h := bsf_in H L k 56 N (fun i => (AB i).1) (fun i => (AB i).2) _ _ hl hA0 hB0 (fun i hi => (b3 i hi).2) b1 (by rw [b2]; omega) hc hs hlt (plc1_ok H _ k (hf _ (getD_mem hlt)))
    simpa [hlt] using h
  · have h := bsf_end H L k 56 N (fun i => (AB i).1) (fun i => (AB i).2) _ hl hA0 hB0 (fun i hi => (b3 i hi).2) b1 (by rw [b2]; omega) hc hs (show (AB N).1 = L.length by omega)
    simpa [hlt] using h
end Go.Sx

/-
  Proved: what some functions of the program answer, or a law of the evaluator that shows it, one theorem each; its conditions are the hypotheses that stand ahead of it.
-/
import Derived.Test.YtdgodofdnaligaaDoorPSt
import Derived.Test.YtdgodofdnaligaaDoorW0
import Derived.Test.YtdgodofdnaligaaDoorSxM
import Derived.KernelRfl
set_option linter.unusedVariables false
set_option linter.unusedSimpArgs false
namespace Sp
theorem exists_leastB (p : Nat → Prop) (h : ∃ i, p i) : ∃ N, p N ∧ ∀ i, p i → N ≤ i := by
  obtain ⟨i, hi⟩ := h
  induction i using Nat.strongRecOn with
  | ind i ih =>
    by_cases h : ∃ j, j < i ∧ p j
    · obtain ⟨j, h1, h2⟩ := h
      exact ih j h1 h2
    · exact ⟨i, hi, fun j hj => by
        rcases Nat.lt_or_ge j i with h1 | h1
        · exact absurd ⟨j, h1, hj⟩ h
        · exact h1⟩
/-- A list by its keys, with a pair put in. -/
def insL (c : V → V → Int) (L : List (V × V)) (q : V × V) : List (V × V) := L.take (aheadN c q.1 L) ++ q :: L.drop (uptoN c q.1 L)
theorem split_at {c : V → V → Int} (H : Line c (fun _ => True)) (k : V) (L : List (V × V)) (h : Rising c L) : ∃ a m b, L = a ++ m ++ b ∧ L.take (aheadN c k L) = a ∧ L.drop (uptoN c k L) = b ∧ (∀ q, q ∈ a → c q.1 k < 0) ∧ (∀ q, q ∈ m → c q.1 k = 0) ∧ (∀ q, q ∈ b → 0 < c q.1 k) := by
  obtain ⟨w1, w2⟩ := upto_ahead H k h
  obtain ⟨a1, a2, a3⟩ := ahead_place H k h
  obtain ⟨u1, u2, u3⟩ := upto_place H k h
  have g : ∀ (l : List (V × V)) (n m : Nat) (q : V × V), q ∈ (L.take m).drop n → ∃ i, n ≤ i ∧ i < m ∧ i < L.length ∧ L.getD i default = q := fun _ n m q hq => by
    obtain ⟨j, hj, e⟩ := List.getElem_of_mem hq
    rw [List.length_drop, List.length_take] at hj
    rw [List.getElem_drop, List.getElem_take] at e
    exact ⟨n + j, by omega, by omega, by omega, by rw [List.getD_eq_getElem?_getD, List.getElem?_eq_getElem (by omega), Option.getD_some, e]⟩
  refine ⟨_, (L.take (uptoN c k L)).drop (aheadN c k L), _, ?_, rfl, rfl, fun q hq => ?_, fun q hq => ?_, fun q hq => ?_⟩
  · rw [List.drop_take, List.append_assoc]
    have e : L.drop (uptoN c k L) = (L.drop (aheadN c k L)).drop (uptoN c k L - aheadN c k L) := by rw [List.drop_drop]; congr 1; omega
    rw [e, List.take_append_drop, List.take_append_drop]
  · obtain ⟨i, _, h2, _, e⟩ := g L 0 _ q (by simpa using hq)
    have := a2 i h2
    simp only [decide_eq_false_iff_not, e] at this; omega
  · obtain ⟨i, h1, h2, h3, e⟩ := g L _ _ q hq
    have x := a3 i h1 h3
    have y := u2 i h2
    simp only [decide_eq_false_iff_not, decide_eq_true_eq, e] at x y; omega
  · obtain ⟨i, h1, h2, h3, e⟩ := g L _ L.length q (by rwa [List.take_length])
    have := u3 i h1 h3
    simpa only [decide_eq_true_eq, e] using this
theorem mem_ins {c : V → V → Int} (H : Line c (fun _ => True)) (x : V × V) (L : List (V × V)) (h : Rising c L) : (∀ q, q ∈ insL c L x ↔ q = x ∨ (q ∈ L ∧ c q.1 x.1 ≠ 0)) ∧ Rising c (insL c L x) := by
  obtain ⟨a, m, b, e, e1, e2, h1, h2, h3⟩ := split_at H x.1 L h
  have t := fun p q : V × V => H.turn p.1 q.1 trivial trivial
  unfold insL
  rw [e1, e2]
  constructor
  · intro q
    simp only [List.mem_append, List.mem_cons, e]
    constructor
    · rintro (h | h | h)
      · exact .inr ⟨.inl (.inl h), by have := h1 q h; omega⟩
      · exact .inl h
      · exact .inr ⟨.inr h, by have := h3 q h; omega⟩
    · rintro (h | ⟨(h | h) | h, h4⟩)
      · exact .inr (.inl h)
      · exact .inl h
      · exact absurd (h2 q h) h4
      · exact .inr (.inr h)
  · rw [rising_mid]
    rw [e] at h
    obtain ⟨r1, r2, r3⟩ := List.pairwise_append.1 h
    obtain ⟨r4, r5, r6⟩ := List.pairwise_append.1 r1
    exact ⟨r4, r2, h1, fun q hq => by have := h3 q hq; have := t x q; omega, fun p hp q hq => r3 p (by simp [hp]) q hq⟩
end Sp
set_option linter.unusedVariables false
set_option linter.unusedSimpArgs false
namespace Sp
namespace Ch
theorem Hc.perm {H : V → Nat} {k : V} {L M : List (V × V)} (h : Hc H k L) (hp : L.Perm M) : Hc H k M := fun x hx => h x (hp.mem_iff.2 hx)
theorem Dk.perm {L M : List (V × V)} (h : Dk L) (hp : L.Perm M) : Dk M := by
  refine List.Perm.pairwise hp h fun {x y} hxy => ?_
  have := cmpV_line.turn x.1 y.1 trivial trivial; omega
theorem put_perm {e : V × V} {L M : List (V × V)} (hp : L.Perm M) : (put e L).Perm (put e M) := (hp.filter _).cons e
theorem cut_perm {k : V} {L M : List (V × V)} (hp : L.Perm M) : (cut k L).Perm (cut k M) := hp.filter _
theorem tor_self {H : V → Nat} {L R : List (V × V)} (hp : L.Perm R) (hR : Rising (tcp H 7) R) (hd : Dk L) : tor H 7 L = R :=
  rising_perm (tcp_line H 7) ((tor_perm H 7 L).trans hp) (tor_rising H 7 L hd) hR
end Ch
end Sp
set_option maxRecDepth 100000
set_option maxHeartbeats 4000000
set_option linter.unusedSimpArgs false
set_option linter.unusedVariables false
namespace Go.Sx
open Go.Proofs Sp
def b2 (p : Nat) : Nat := 2 ^ p
open Sp.Ch
theorem u32_id {n : Int} (h0 : 0 ≤ n) (h1 : n < 4294967296) : IntKind.u32.wrap n = n := by
  simp only [IntKind.wrap, IntKind.signed, IntKind.bits]
  simp
  omega
theorem bv_nat (a : Nat) (ha : a < 4294967296) : (BitVec.ofInt 32 (a : Int)).toNat = a := by
  rw [BitVec.ofInt_natCast, BitVec.toNat_ofNat]; exact Nat.mod_eq_of_lt ha
theorem u32_and (a m : Nat) (ha : a < 4294967296) (hm : m < 4294967296) : IntKind.u32.wrap (((BitVec.ofInt 32 (a : Int) &&& BitVec.ofInt 32 (m : Int)).toNat : Nat) : Int) = ((a &&& m : Nat) : Int) := by
  rw [BitVec.toNat_and, bv_nat a ha, bv_nat m hm]
  have := @Nat.and_le_left a m
  exact u32_id (by omega) (by omega)
theorem u32_or (a m : Nat) (ha : a < 4294967296) (hm : m < 4294967296) : IntKind.u32.wrap (((BitVec.ofInt 32 (a : Int) ||| BitVec.ofInt 32 (m : Int)).toNat : Nat) : Int) = ((a ||| m : Nat) : Int) := by
  rw [BitVec.toNat_or, bv_nat a ha, bv_nat m hm]
  have : a ||| m < 2 ^ 32 := Nat.or_lt_two_pow (by omega) (by omega)
  exact u32_id (by omega) (by omega)
theorem fdiv_nat (a k : Nat) : Int.fdiv (a : Int) (2 ^ k) = ((a / 2 ^ k : Nat) : Int) := by
  rw [Int.fdiv_eq_ediv_of_nonneg _ (by exact_mod_cast Nat.zero_le (2 ^ k))]
  exact_mod_cast rfl
theorem bit_eq (h k : Nat) (hh : h < 4294967296) : IntKind.u32.wrap (1 * 2 ^ min (IntKind.u32.wrap (((BitVec.ofInt 32 (Int.fdiv (h : Int) (2 ^ k)) &&& BitVec.ofInt 32 31).toNat : Nat) : Int)).toNat 32) = (b2 ((h >>> k) % 32) : Int) := by
  have hd : h / 2 ^ k < 4294967296 := Nat.lt_of_le_of_lt (Nat.div_le_self _ _) hh
  have h31 : (BitVec.ofInt 32 31 : BitVec 32) = BitVec.ofInt 32 ((31 : Nat) : Int) := rfl
  rw [fdiv_nat, h31, u32_and _ 31 hd (by omega), Int.toNat_natCast, show (31 : Nat) = 2 ^ 5 - 1 from rfl, Nat.and_two_pow_sub_one_eq_mod, ← Nat.shiftRight_eq_div_pow]
  have hm : (h >>> k) % 2 ^ 5 < 32 := Nat.mod_lt _ (by omega)
  rw [Nat.min_eq_left (by omega), Int.one_mul]
  have hp : 2 ^ ((h >>> k) % 2 ^ 5) < 2 ^ 32 := Nat.pow_lt_pow_right (by omega) hm
  have e : ((2 : Int) ^ ((h >>> k) % 2 ^ 5)) = (b2 ((h >>> k) % 32) : Int) := by unfold b2; exact_mod_cast rfl
  have hb : b2 ((h >>> k) % 32) < 4294967296 := hp
  rw [e]
  exact u32_id (by omega) (by omega)
theorem idx_eq (x p : Nat) (hx : x < 4294967296) (hp : p < 32) : IntKind.u32.wrap (((BitVec.ofInt 32 (x : Int) &&& BitVec.ofInt 32 (IntKind.u32.wrap ((b2 p : Int) - 1))).toNat : Nat) : Int) = ((x % 2 ^ p : Nat) : Int) := by
  have hpp : b2 p < 4294967296 := Nat.pow_lt_pow_right (a := 2) (by omega) hp
  have hpos : 0 < b2 p := Nat.two_pow_pos p
  have e1 : IntKind.u32.wrap ((b2 p : Int) - 1) = ((b2 p - 1 : Nat) : Int) := by rw [u32_id (by omega) (by omega)]; omega
  rw [e1, u32_and x (b2 p - 1) hx (by omega)]
  unfold b2
  rw [Nat.and_two_pow_sub_one_eq_mod]
theorem get34 : P.funcs[34]? = some Tryd.f34 := by kernel_rfl
theorem ent34 : entersP P 34 = true := by kernel_rfl
theorem bit_0 (h : Nat) (hh : h < 4294967296) : CallsF P G 34 [.sc (.int .u32 (h : Int)), int 0] (.sc (.int .u32 (b2 (Sp.Ch.plh 0 h) : Int))) := by
  refine sx_fn (hs := []) ((FV.sc (Value.int IntKind.u32 (IntKind.wrap IntKind.u32 (1 * 2 ^ min (Int.toNat (IntKind.wrap IntKind.u32 (↑(BitVec.toNat (BitVec.ofInt (IntKind.bits IntKind.u32) (Int.fdiv (h : Int) (2 ^ min (Int.toNat (IntKind.wrap IntKind.i64 (5 * 0))) (IntKind.bits IntKind.u32))) &&& BitVec.ofInt (IntKind.bits IntKind.u32) 31)) : Int))) (IntKind.bits IntKind.u32))))) = (FV.sc (Value.int IntKind.u32 (↑(b2 (Ch.plh 0 h)) : Int)))) get34 ent34 (by kernel_rfl) ?_
  all_goals (exact congrArg (fun x => FV.sc (.int .u32 x)) (bit_eq h 0 hh))
theorem bit_1 (h : Nat) (hh : h < 4294967296) : CallsF P G 34 [.sc (.int .u32 (h : Int)), int 1] (.sc (.int .u32 (b2 (Sp.Ch.plh 1 h) : Int))) := by
  refine sx_fn (hs := []) ((FV.sc (Value.int IntKind.u32 (IntKind.wrap IntKind.u32 (1 * 2 ^ min (Int.toNat (IntKind.wrap IntKind.u32 (↑(BitVec.toNat (BitVec.ofInt (IntKind.bits IntKind.u32) (Int.fdiv (h : Int) (2 ^ min (Int.toNat (IntKind.wrap IntKind.i64 (5 * 1))) (IntKind.bits IntKind.u32))) &&& BitVec.ofInt (IntKind.bits IntKind.u32) 31)) : Int))) (IntKind.bits IntKind.u32))))) = (FV.sc (Value.int IntKind.u32 (↑(b2 (Ch.plh 1 h)) : Int)))) get34 ent34 (by kernel_rfl) ?_
  all_goals (exact congrArg (fun x => FV.sc (.int .u32 x)) (bit_eq h 5 hh))
theorem bit_2 (h : Nat) (hh : h < 4294967296) : CallsF P G 34 [.sc (.int .u32 (h : Int)), int 2] (.sc (.int .u32 (b2 (Sp.Ch.plh 2 h) : Int))) := by
  refine sx_fn (hs := []) ((FV.sc (Value.int IntKind.u32 (IntKind.wrap IntKind.u32 (1 * 2 ^ min (Int.toNat (IntKind.wrap IntKind.u32 (↑(BitVec.toNat (BitVec.ofInt (IntKind.bits IntKind.u32) (Int.fdiv (h : Int) (2 ^ min (Int.toNat (IntKind.wrap IntKind.i64 (5 * 2))) (IntKind.bits IntKind.u32))) &&& BitVec.ofInt (IntKind.bits IntKind.u32) 31)) : Int))) (IntKind.bits IntKind.u32))))) = (FV.sc (Value.int IntKind.u32 (↑(b2 (Ch.plh 2 h)) : Int)))) get34 ent34 (by kernel_rfl) ?_
  all_goals (exact congrArg (fun x => FV.sc (.int .u32 x)) (bit_eq h 10 hh))
theorem bit_3 (h : Nat) (hh : h < 4294967296) : CallsF P G 34 [.sc (.int .u32 (h : Int)), int 3] (.sc (.int .u32 (b2 (Sp.Ch.plh 3 h) : Int))) := by
  refine sx_fn (hs := []) ((FV.sc (Value.int IntKind.u32 (IntKind.wrap IntKind.u32 (1 * 2 ^ min (Int.toNat (IntKind.wrap IntKind.u32 (↑(BitVec.toNat (BitVec.ofInt (IntKind.bits IntKind.u32) (Int.fdiv (h : Int) (2 ^ min (Int.toNat (IntKind.wrap IntKind.i64 (5 * 3))) (IntKind.bits IntKind.u32))) &&& BitVec.ofInt (IntKind.bits IntKind.u32) 31)) : Int))) (IntKind.bits IntKind.u32))))) = (FV.sc (Value.int IntKind.u32 (↑(b2 (Ch.plh 3 h)) : Int)))) get34 ent34 (by kernel_rfl) ?_
  all_goals (exact congrArg (fun x => FV.sc (.int .u32 x)) (bit_eq h 15 hh))
theorem bit_4 (h : Nat) (hh : h < 4294967296) : CallsF P G 34 [.sc (.int .u32 (h : Int)), int 4] (.sc (.int .u32 (b2 (Sp.Ch.plh 4 h) : Int))) := by
  refine sx_fn (hs := []) ((FV.sc (Value.int IntKind.u32 (IntKind.wrap IntKind.u32 (1 * 2 ^ min (Int.toNat (IntKind.wrap IntKind.u32 (↑(BitVec.toNat (BitVec.ofInt (IntKind.bits IntKind.u32) (Int.fdiv (h : Int) (2 ^ min (Int.toNat (IntKind.wrap IntKind.i64 (5 * 4))) (IntKind.bits IntKind.u32))) &&& BitVec.ofInt (IntKind.bits IntKind.u32) 31)) : Int))) (IntKind.bits IntKind.u32))))) = (FV.sc (Value.int IntKind.u32 (↑(b2 (Ch.plh 4 h)) : Int)))) get34 ent34 (by kernel_rfl) ?_
  all_goals (exact congrArg (fun x => FV.sc (.int .u32 x)) (bit_eq h 20 hh))
theorem bit_5 (h : Nat) (hh : h < 4294967296) : CallsF P G 34 [.sc (.int .u32 (h : Int)), int 5] (.sc (.int .u32 (b2 (Sp.Ch.plh 5 h) : Int))) := by
  refine sx_fn (hs := []) ((FV.sc (Value.int IntKind.u32 (IntKind.wrap IntKind.u32 (1 * 2 ^ min (Int.toNat (IntKind.wrap IntKind.u32 (↑(BitVec.toNat (BitVec.ofInt (IntKind.bits IntKind.u32) (Int.fdiv (h : Int) (2 ^ min (Int.toNat (IntKind.wrap IntKind.i64 (5 * 5))) (IntKind.bits IntKind.u32))) &&& BitVec.ofInt (IntKind.bits IntKind.u32) 31)) : Int))) (IntKind.bits IntKind.u32))))) = (FV.sc (Value.int IntKind.u32 (↑(b2 (Ch.plh 5 h)) : Int)))) get34 ent34 (by kernel_rfl) ?_
  all_goals (exact congrArg (fun x => FV.sc (.int .u32 x)) (bit_eq h 25 hh))
theorem bit_6 (h : Nat) (hh : h < 4294967296) : CallsF P G 34 [.sc (.int .u32 (h : Int)), int 6] (.sc (.int .u32 (b2 (Sp.Ch.plh 6 h) : Int))) := by
  refine sx_fn (hs := []) ((FV.sc (Value.int IntKind.u32 (IntKind.wrap IntKind.u32 (1 * 2 ^ min (Int.toNat (IntKind.wrap IntKind.u32 (↑(BitVec.toNat (BitVec.ofInt (IntKind.bits IntKind.u32) (Int.fdiv (h : Int) (2 ^ min (Int.toNat (IntKind.wrap IntKind.i64 (5 * 6))) (IntKind.bits IntKind.u32))) &&& BitVec.ofInt (IntKind.bits IntKind.u32) 31)) : Int))) (IntKind.bits IntKind.u32))))) = (FV.sc (Value.int IntKind.u32 (↑(b2 (Ch.plh 6 h)) : Int)))) get34 ent34 (by kernel_rfl) ?_
  all_goals (exact congrArg (fun x => FV.sc (.int .u32 x)) (bit_eq h 30 hh))
theorem get35 : P.funcs[35]? = some Tryd.f35 := by kernel_rfl
theorem ent35 : entersP P 35 = true := by kernel_rfl
theorem index_run (x p : Nat) (r : Int) (hx : x < 4294967296) (hp : p < 32) (h : CallsF P G 53 [.sc (.int .u32 ((x % 2 ^ p : Nat) : Int))] (int r)) : CallsF P G 35 [.sc (.int .u32 (x : Int)), .sc (.int .u32 (b2 p : Int))] (int r) := by
  refine sx_fn (hs := [.call (int r)]) (CallsF P G 53 [FV.sc (Value.int IntKind.u32 (IntKind.wrap IntKind.u32 (↑(BitVec.toNat (BitVec.ofInt (IntKind.bits IntKind.u32) (x : Int) &&& BitVec.ofInt (IntKind.bits IntKind.u32) (IntKind.wrap IntKind.u32 ((↑(b2 p) : Int) - 1)))) : Int)))] (int r) ∧ E (int r)) get35 ent35 (by kernel_rfl) ?_
  refine ⟨?_, rfl⟩
  all_goals exact (congrArg (fun y => CallsF P G 53 [.sc (.int .u32 y)] (int r)) (idx_eq x p hx hp)).mpr h
theorem bit_ok (h d : Nat) (hh : h < 4294967296) (hd : d ≤ 6) : CallsF P G 34 [.sc (.int .u32 (h : Int)), int (d : Int)] (.sc (.int .u32 (b2 (plh d h) : Int))) := by
  match d, hd with
  | 0, _ => exact bit_0 h hh
  | 1, _ => exact bit_1 h hh
  | 2, _ => exact bit_2 h hh
  | 3, _ => exact bit_3 h hh
  | 4, _ => exact bit_4 h hh
  | 5, _ => exact bit_5 h hh
  | 6, _ => exact bit_6 h hh
  | d + 7, hd => omega
end Go.Sx

/-
  Proved: what some functions of the program answer, or a law of the evaluator that shows it, one theorem each; its conditions are the hypotheses that stand ahead of it.
-/
import Derived.Test.YtdgodofdnaligaaDoorPSz
import Derived.Test.YtdgodofdnaligaaDoorC2
import Derived.Test.YtdgodofdnaligaaDoorR3
set_option linter.unusedVariables false
set_option linter.unusedSimpArgs false
namespace Sp
namespace Sy
theorem getD_mem {α : Type} [Inhabited α] {l : List α} {i : Nat} (h : i < l.length) : l.getD i default ∈ l := by
  rw [List.getD_eq_getElem?_getD, List.getElem?_eq_getElem h]; exact List.getElem_mem h
theorem drop_one {α : Type} [Inhabited α] {l : List α} {i : Nat} (hl : i < l.length) : l.drop i = l.getD i default :: l.drop (i + 1) := by
  rw [List.drop_eq_getElem_cons hl, List.getD_eq_getElem?_getD, List.getElem?_eq_getElem hl]; rfl
end Sy
end Sp
set_option linter.unusedVariables false
set_option linter.unusedSimpArgs false
namespace Sp
/-- Lists made place by place. -/
theorem range_split (p n : Nat) (h : p < n) : List.range n = List.range p ++ p :: List.range' (p + 1) (n - (p + 1)) := by
  rw [List.range_eq_range', show n = p + (1 + (n - (p + 1))) by omega, ← List.range'_append_1, ← List.range'_append_1, List.range_eq_range']
  simp [Nat.add_assoc]
  congr 2 <;> omega
theorem fm_split {α : Type} (g : Nat → List α) (p n : Nat) (h : p < n) : (List.range n).flatMap g = (List.range p).flatMap g ++ (g p ++ (List.range' (p + 1) (n - (p + 1))).flatMap g) := by
  rw [range_split p n h, List.flatMap_append, List.flatMap_cons]
theorem fm_congr {α : Type} {g g' : Nat → List α} {l : List Nat} (h : ∀ q, q ∈ l → g q = g' q) : l.flatMap g = l.flatMap g' := by
  induction l with
  | nil => rfl
  | cons x l ih => rw [List.flatMap_cons, List.flatMap_cons, h x (by simp), ih fun q hq => h q (by simp [hq])]
/-- What is turned at one place. -/
theorem fm_turn {α : Type} {g g' : Nat → List α} (p n : Nat) (h : p < n) (he : ∀ q, q < n → q ≠ p → g' q = g q) : (List.range n).flatMap g' = (List.range p).flatMap g ++ (g' p ++ (List.range' (p + 1) (n - (p + 1))).flatMap g) := by
  rw [fm_split g' p n h]
  congr 1
  · exact fm_congr fun q hq => he q (by simp at hq; omega) (by simp at hq; omega)
  · congr 1
    exact fm_congr fun q hq => he q (by simp at hq; omega) (by simp at hq; omega)
namespace Ch
variable (H : V → Nat)
/-- The place of a hash at a depth. -/
def plh (d h : Nat) : Nat := (h >>> (5 * d)) % 32
/-- The place of a member at a depth; H is the hash of a key. -/
def pl (d : Nat) (e : V × V) : Nat := plh d (H e.1)
theorem pl_lt (d : Nat) (e : V × V) : pl H d e < 32 := Nat.mod_lt _ (by omega)
def sameK (k : V) (e : V × V) : Bool := cmpV e.1 k == 0
/-- A member put in, a key taken out. -/
def put (e : V × V) (L : List (V × V)) : List (V × V) := e :: L.filter fun x => !sameK e.1 x
def cut (k : V) (L : List (V × V)) : List (V × V) := L.filter fun x => !sameK k x
def cls (d p : Nat) (L : List (V × V)) : List (V × V) := L.filter fun x => pl H d x == p
/-- No key twice. -/
def Dk (L : List (V × V)) : Prop := L.Pairwise fun x y => cmpV x.1 y.1 ≠ 0
theorem cls_cut (d p : Nat) (k : V) (L : List (V × V)) : cls H d p (cut k L) = cut k (cls H d p L) := by
  unfold cls cut
  rw [List.filter_filter, List.filter_filter]
  congr 1; funext x; exact Bool.and_comm _ _
theorem cls_cut_other (d p : Nat) (e : V × V) (L : List (V × V)) (hH : ∀ x, x ∈ L → sameK e.1 x = true → H x.1 = H e.1) (hp : pl H d e ≠ p) : cut e.1 (cls H d p L) = cls H d p L := by
  unfold cut cls
  rw [List.filter_eq_self]
  intro x hx
  rw [List.mem_filter] at hx
  cases h : sameK e.1 x with
  | false => rfl
  | true => have h1 := hH x hx.1 h; have h2 := hx.2; simp only [pl, beq_iff_eq] at h2 hp; rw [h1] at h2; exact absurd h2 hp
theorem cls_put_same (d : Nat) (e : V × V) (L : List (V × V)) : cls H d (pl H d e) (put e L) = put e (cls H d (pl H d e) L) := by
  have h := cls_cut H d (pl H d e) e.1 L
  unfold put
  unfold cls at h ⊢
  rw [List.filter_cons_of_pos (by simp)]
  congr 1
theorem cls_put_other (d p : Nat) (e : V × V) (L : List (V × V)) (hH : ∀ x, x ∈ L → sameK e.1 x = true → H x.1 = H e.1) (hp : pl H d e ≠ p) : cls H d p (put e L) = cls H d p L := by
  have h := cls_cut H d p e.1 L
  have h2 := cls_cut_other H d p e L hH hp
  unfold put
  unfold cls at h h2 ⊢
  rw [List.filter_cons_of_neg (by simpa using hp)]
  unfold cut at h h2
  rw [h, h2]
theorem mem_cls {d p : Nat} {L : List (V × V)} {x : V × V} : x ∈ cls H d p L ↔ x ∈ L ∧ pl H d x = p := by
  unfold cls; rw [List.mem_filter]; simp
theorem cls_len (d p : Nat) (L : List (V × V)) : (cls H d p L).length ≤ L.length := List.length_filter_le _ _
/-- Members that stand alone at their places; the lists of those that do not. -/
def one1 (c : List (V × V)) : List (V × V) := if c.length = 1 then c else []
def more (c : List (V × V)) : List (List (V × V)) := if 2 ≤ c.length then [c] else []
def sgl (d : Nat) (L : List (V × V)) : List (V × V) := (List.range 32).flatMap fun p => one1 (cls H d p L)
def kdl (d : Nat) (L : List (V × V)) : List (List (V × V)) := (List.range 32).flatMap fun p => more (cls H d p L)
/-- How many stand alone ahead of a place; how many lists. -/
def sgn (d p : Nat) (L : List (V × V)) : Nat := ((List.range p).flatMap fun q => one1 (cls H d q L)).length
def kdn (d p : Nat) (L : List (V × V)) : Nat := ((List.range p).flatMap fun q => more (cls H d q L)).length
theorem sgl_turn (d p : Nat) (L M : List (V × V)) (hp : p < 32) (he : ∀ q, q ≠ p → cls H d q M = cls H d q L) : ∃ A B, A.length = sgn H d p L ∧ sgl H d L = A ++ (one1 (cls H d p L) ++ B) ∧ sgl H d M = A ++ (one1 (cls H d p M) ++ B) :=
  ⟨_, _, rfl, fm_split (fun q => one1 (cls H d q L)) p 32 hp, fm_turn (g := fun q => one1 (cls H d q L)) (g' := fun q => one1 (cls H d q M)) p 32 hp fun q _ hq => by rw [he q hq]⟩
theorem kdl_turn (d p : Nat) (L M : List (V × V)) (hp : p < 32) (he : ∀ q, q ≠ p → cls H d q M = cls H d q L) : ∃ A B, A.length = kdn H d p L ∧ kdl H d L = A ++ (more (cls H d p L) ++ B) ∧ kdl H d M = A ++ (more (cls H d p M) ++ B) :=
  ⟨_, _, rfl, fm_split (fun q => more (cls H d q L)) p 32 hp, fm_turn (g := fun q => more (cls H d q L)) (g' := fun q => more (cls H d q M)) p 32 hp fun q _ hq => by rw [he q hq]⟩
/-- A set of places as a number. -/
def bits (S : Nat → Bool) : Nat → Nat
  | 0 => 0
  | n + 1 => bits S n + (if S n then 2 ^ n else 0)
theorem bits_lt (S : Nat → Bool) : ∀ n, bits S n < 2 ^ n
  | 0 => by simp [bits]
  | n + 1 => by
    have := bits_lt S n
    rw [bits, Nat.pow_succ]
    split <;> omega
theorem bits_test (S : Nat → Bool) : ∀ n p, (bits S n).testBit p = (decide (p < n) && S p)
  | 0, p => by simp [bits]
  | n + 1, p => by
    have h := bits_lt S n
    have ih := bits_test S n p
    rw [bits]
    by_cases hs : S n = true
    · rw [if_pos hs, Nat.add_comm]
      rcases Nat.lt_trichotomy p n with hp | hp | hp
      · rw [Nat.testBit_two_pow_add_gt hp, ih]; simp [hp, Nat.lt_succ_of_lt hp]
      · subst hp
        rw [Nat.testBit_two_pow_add_eq, Nat.testBit_lt_two_pow h]; simp [hs]
      · have : 2 ^ n + bits S n < 2 ^ p := by
          have : 2 ^ (n + 1) ≤ 2 ^ p := Nat.pow_le_pow_right (by omega) hp
          rw [Nat.pow_succ] at this; omega
        rw [Nat.testBit_lt_two_pow this]; simp; omega
    · rw [if_neg hs, Nat.add_zero, ih]
      by_cases hp : p = n
      · subst hp; simp at hs; simp [hs]
      · have : (decide (p < n + 1)) = decide (p < n) := by rw [decide_eq_decide]; omega
        rw [this]
end Ch
end Sp
set_option linter.unusedVariables false
set_option linter.unusedSimpArgs false
namespace Sp
namespace Ch
theorem bits_congr {S T : Nat → Bool} : ∀ n, (∀ q, q < n → S q = T q) → bits S n = bits T n
  | 0, _ => rfl
  | n + 1, h => by rw [bits, bits, bits_congr n fun q hq => h q (by omega), h n (by omega)]
/-- What is asked of one place. -/
theorem bits_and (S : Nat → Bool) (p : Nat) (hp : p < 32) : bits S 32 &&& 2 ^ p = if S p then 2 ^ p else 0 := by
  refine Nat.eq_of_testBit_eq fun i => ?_
  rw [Nat.testBit_and, bits_test, Nat.testBit_two_pow]
  by_cases h : p = i
  · subst h
    cases hs : S p <;> simp [hp, hs, Nat.testBit_two_pow]
  · cases hs : S p <;> simp [h, hs, Nat.testBit_two_pow]
theorem bits_mod (S : Nat → Bool) (p : Nat) (hp : p ≤ 32) : bits S 32 % 2 ^ p = bits S p := by
  refine Nat.eq_of_testBit_eq fun i => ?_
  rw [Nat.testBit_mod_two_pow, bits_test, bits_test]
  by_cases h : i < p
  · simp [h, show i < 32 by omega]
  · simp [h]
theorem bits_or (S : Nat → Bool) (p : Nat) (hp : p < 32) : bits S 32 ||| 2 ^ p = bits (fun q => S q || q == p) 32 := by
  refine Nat.eq_of_testBit_eq fun i => ?_
  rw [Nat.testBit_or, bits_test, bits_test, Nat.testBit_two_pow]
  by_cases h : i = p
  · subst h; simp [hp]
  · have : ¬ p = i := fun e => h e.symm
    have h2 : (i == p) = false := by simpa using h
    simp [h2, this]
theorem bits_or2 (S T : Nat → Bool) : bits S 32 ||| bits T 32 = bits (fun q => S q || T q) 32 := by
  refine Nat.eq_of_testBit_eq fun i => ?_
  rw [Nat.testBit_or, bits_test, bits_test, bits_test]
  cases decide (i < 32) <;> simp
/-- A place taken out. -/
theorem bits_out (S : Nat → Bool) (p : Nat) (hp : p < 32) : bits S 32 &&& (2 ^ 32 - 1 - 2 ^ p) = bits (fun q => S q && !(q == p)) 32 := by
  refine Nat.eq_of_testBit_eq fun i => ?_
  have hlt : 2 ^ p < 2 ^ 32 := Nat.pow_lt_pow_right (by omega) hp
  rw [Nat.testBit_and, bits_test, bits_test, show 2 ^ 32 - 1 - 2 ^ p = 2 ^ 32 - (2 ^ p + 1) by omega, Nat.testBit_two_pow_sub_succ hlt, Nat.testBit_two_pow]
  by_cases h : i = p
  · subst h; simp [hp]
  · have : ¬ p = i := fun e => h e.symm
    simp only [h, this]
    cases decide (i < 32) <;> simp [h]
/-- How many places ahead of one. -/
def cnt (S : Nat → Bool) : Nat → Nat
  | 0 => 0
  | n + 1 => cnt S n + (if S n then 1 else 0)
/-- How many bits of a number are set. -/
def pop (x : Nat) : Nat → Nat
  | 0 => 0
  | n + 1 => pop x n + (if x.testBit n then 1 else 0)
theorem pop_bits (S : Nat → Bool) (p : Nat) : ∀ n, p ≤ n → pop (bits S p) n = cnt S p
  | n, h => by
    have main : ∀ n, pop (bits S p) n = cnt S (min n p) := by
      intro n
      induction n with
      | zero => simp [pop, cnt]
      | succ n ih =>
        rw [pop, ih, bits_test]
        by_cases hn : n < p
        · rw [Nat.min_eq_left (by omega), Nat.min_eq_left (by omega), cnt]; simp [hn]
        · rw [Nat.min_eq_right (by omega), Nat.min_eq_right (by omega)]; simp [hn]
    rw [main, Nat.min_eq_right h]
theorem cnt_sgn (H : V → Nat) (d : Nat) (L : List (V × V)) : ∀ p, cnt (fun q => (cls H d q L).length == 1) p = sgn H d p L
  | 0 => rfl
  | p + 1 => by
    rw [cnt, cnt_sgn H d L p, sgn, sgn, List.range_succ, List.flatMap_append, List.length_append]
    simp [one1]
    split <;> simp [*]
theorem cnt_kdn (H : V → Nat) (d : Nat) (L : List (V × V)) : ∀ p, cnt (fun q => decide (2 ≤ (cls H d q L).length)) p = kdn H d p L
  | 0 => rfl
  | p + 1 => by
    rw [cnt, cnt_kdn H d L p, kdn, kdn, List.range_succ, List.flatMap_append, List.length_append]
    simp [more]
    split <;> simp [*]
/-- The lowest place of a set, and the set without it. -/
theorem low_of (p m n : Nat) (hp : p < n) (hx : 2 ^ p * (2 * m + 1) < 2 ^ n) :
    2 ^ p * (2 * m + 1) &&& (2 ^ n - 2 ^ p * (2 * m + 1)) = 2 ^ p ∧ 2 ^ p * (2 * m + 1) &&& (2 ^ p * (2 * m + 1) - 1) = 2 ^ p * (2 * m) := by
  have hpos : 0 < 2 ^ p := Nat.two_pow_pos p
  have e1 : 2 ^ n = 2 ^ p * 2 ^ (n - p) := by rw [← Nat.pow_add]; congr 1; omega
  have e2 : 2 ^ (n - p) = 2 * 2 ^ (n - p - 1) := by
    rw [show n - p = (n - p - 1) + 1 by omega, Nat.pow_succ, Nat.mul_comm]; simp
  have hm : 2 * m + 1 < 2 ^ (n - p) := by
    rw [e1] at hx; exact Nat.lt_of_mul_lt_mul_left hx
  have hm2 : m < 2 ^ (n - p - 1) := by omega
  constructor
  · have e3 : 2 ^ n - 2 ^ p * (2 * m + 1) = 2 ^ p * (2 * (2 ^ (n - p - 1) - (m + 1)) + 1) := by
      rw [e1, ← Nat.mul_sub]; congr 1; omega
    rw [e3]
    refine Nat.eq_of_testBit_eq fun i => ?_
    rw [Nat.testBit_and, Nat.testBit_two_pow_mul, Nat.testBit_two_pow_mul, Nat.testBit_two_pow]
    by_cases hi : p ≤ i
    · obtain ⟨j, rfl⟩ := Nat.le.dest hi
      rw [Nat.add_sub_cancel_left]
      cases j with
      | zero => simp [Nat.testBit_zero]
      | succ j =>
        have q1 : (2 * m + 1).testBit (j + 1) = m.testBit j := by rw [Nat.testBit_succ]; congr 1; omega
        have q2 : (2 * (2 ^ (n - p - 1) - (m + 1)) + 1).testBit (j + 1) = (2 ^ (n - p - 1) - (m + 1)).testBit j := by rw [Nat.testBit_succ]; congr 1; omega
        rw [q1, q2, Nat.testBit_two_pow_sub_succ hm2]
        have : ¬ p = p + (j + 1) := by omega
        cases m.testBit j <;> simp [this]
    · have : ¬ p = i := by omega
      simp [hi, this]
  · have e3 : 2 ^ p * (2 * m + 1) - 1 = 2 ^ p * (2 * m) + (2 ^ p - 1) := by rw [Nat.mul_add, Nat.mul_one]; omega
    have e4 : 2 ^ p * (2 * m + 1) = 2 ^ p * (2 * m + 1) + 0 := rfl
    refine Nat.eq_of_testBit_eq fun i => ?_
    rw [e3, Nat.testBit_and, Nat.testBit_two_pow_mul, Nat.testBit_two_pow_mul, Nat.testBit_two_pow_mul_add _ (by omega)]
    by_cases hi : p ≤ i
    · obtain ⟨j, rfl⟩ := Nat.le.dest hi
      rw [Nat.add_sub_cancel_left, if_neg (by omega)]
      cases j with
      | zero => simp [Nat.testBit_zero]
      | succ j =>
        have q1 : (2 * m + 1).testBit (j + 1) = m.testBit j := by rw [Nat.testBit_succ]; congr 1; omega
        have q2 : (2 * m).testBit (j + 1) = m.testBit j := by rw [Nat.testBit_succ]; congr 1; omega
        rw [q1, q2]; simp
    · simp [hi]
end Ch
end Sp
set_option linter.unusedVariables false
set_option linter.unusedSimpArgs false
namespace Sp
namespace T
/-- The greatest height of a map of so many keys: twice the bits of its number. -/
def bits : Nat → Nat → Nat → Nat
  | 0, _, h => h
  | f + 1, n, h => if 2 ^ h ≤ n then bits f n (h + 1) else h
end T
end Sp

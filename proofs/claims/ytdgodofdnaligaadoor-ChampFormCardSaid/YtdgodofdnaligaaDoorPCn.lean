/-
  Proved: what some functions of the program answer, or a law of the evaluator that shows it, one theorem each; its conditions are the hypotheses that stand ahead of it.
-/
import Derived.Test.YtdgodofdnaligaaDoorY3
import Derived.Test.YtdgodofdnaligaaDoorX5
import Derived.KernelRfl
import Derived.Test.YtdgodofdnaligaaDoorPCm
set_option maxRecDepth 100000
set_option maxHeartbeats 4000000
set_option linter.unusedSimpArgs false
set_option linter.unusedVariables false
namespace Go.Sx
open Go.Proofs Sp
open Sp.Ch Sp.Sy
/-- The members on the way of a hash. -/
def wayL (H : V → Nat) (h : Nat) (L : List (V × V)) : Nat → List (V × V)
  | 0 => L
  | i + 1 => cls H i (plh i h) (wayL H h L i)
def wayM (H : V → Nat) (h : Nat) (L : List (V × V)) (i : Nat) : List (V × V) := if i ≤ 6 then sgl H i (wayL H h L i) else srtL cmpV (wayL H h L i)
def wayK (H : V → Nat) (h : Nat) (L : List (V × V)) (i : Nat) : List (List FV) := if i ≤ 6 then (kdl H i (wayL H h L i)).map (fun c => [encC H (6 - i) c]) else []
def wayD (H : V → Nat) (h : Nat) (L : List (V × V)) (i : Nat) : Nat := if i ≤ 6 then sgb H i (wayL H h L i) else 0
def wayN (H : V → Nat) (h : Nat) (L : List (V × V)) (i : Nat) : Nat := if i ≤ 6 then kdb H i (wayL H h L i) else 0
theorem way_enc (H : V → Nat) (h : Nat) (L : List (V × V)) (i : Nat) (hi : i ≤ 7) : encC H (7 - i) (wayL H h L i) = .ptr [.sc (.int .u32 (wayD H h L i : Int)), .sc (.int .u32 (wayN H h L i : Int)), .sl 9 (cellsEs H (wayM H h L i)), .sl 1 (wayK H h L i), int ((wayL H h L i).length : Int)] 0 := by
  rcases Nat.lt_or_ge i 7 with h1 | h1
  · have e : 7 - i = (6 - i) + 1 := by omega
    have e2 : 6 - (6 - i) = i := by omega
    unfold wayD wayN wayM wayK
    rw [if_pos (by omega), if_pos (by omega), if_pos (by omega), if_pos (by omega), e, encC, e2]
  · obtain rfl : i = 7 := by omega
    rfl
theorem way_any (H : V → Nat) (k : V) (L : List (V × V)) (hc : Hc H k L) : ∀ i, Hc H k (wayL H (H k) L i) ∧ (wayL H (H k) L i).any (sameK k) = L.any (sameK k)
  | 0 => ⟨hc, rfl⟩
  | i + 1 => by
    obtain ⟨h1, h2⟩ := way_any H k L hc i
    refine ⟨h1.cls i _, ?_⟩
    rw [← h2, wayL]
    cases h3 : (wayL H (H k) L i).any (sameK k) with
    | true => exact any_cls h1 i h3
    | false =>
      rw [List.any_eq_false] at h3 ⊢
      exact fun q hq => h3 q ((mem_cls H).1 hq).1
theorem way_mem (H : V → Nat) (h : Nat) (L : List (V × V)) : ∀ i q, q ∈ wayL H h L i → q ∈ L
  | 0, q, hq => hq
  | i + 1, q, hq => way_mem H h L i q ((mem_cls H).1 hq).1
theorem way_dk (H : V → Nat) (h : Nat) (L : List (V × V)) (hd : Dk L) : ∀ i, Dk (wayL H h L i)
  | 0 => hd
  | i + 1 => (way_dk H h L hd i).cls
theorem way_le (H : V → Nat) (h : Nat) (L : List (V × V)) : ∀ i, (wayL H h L i).length ≤ L.length
  | 0 => Nat.le_refl _
  | i + 1 => Nat.le_trans (cls_len H i _ _) (way_le H h L i)
theorem same_uniq {k : V} {L : List (V × V)} (hd : Dk L) {m m' : V × V} (h : m ∈ L) (h' : m' ∈ L) (hs : sameK k m = true) (hs' : sameK k m' = true) : m = m' := by
  have h1 := same_le (k := k) hd
  have a : m ∈ L.filter (sameK k) := List.mem_filter.2 ⟨h, hs⟩
  have b : m' ∈ L.filter (sameK k) := List.mem_filter.2 ⟨h', hs'⟩
  match hc : L.filter (sameK k), h1, a, b with
  | [], _, a, _ => cases a
  | [x], _, a, b => simp at a b; rw [a, b]
  | x :: y :: l, h1, _, _ => simp at h1
theorem zero_entry : Le (.tup [.agg [.sc (.int .u32 0), int 0, int 0, str [], .nils, int 0, int 0, str [], .nils], bool false]) (.tup [.agg (.sc (.int .u32 0) :: (cellsP (V.mk 0 0 [] []) ++ cellsP (V.mk 0 0 [] []))), bool false]) := by
  have hn : Le .nils (encI []) := le_nils 4
  refine le_tup (LeL.cons (le_agg ?_) (LeL.cons Le.rfl LeL.nil))
  exact LeL.cons Le.rfl (LeL.cons Le.rfl (LeL.cons Le.rfl (LeL.cons Le.rfl (LeL.cons hn (LeL.cons Le.rfl (LeL.cons Le.rfl (LeL.cons Le.rfl (LeL.cons hn LeL.nil))))))))
/-- FIND: a key's member, there or not. -/
theorem find_gen (H : V → Nat) (hH : ∀ v, H v < 4294967296) (L : List (V × V)) (k : V) (hd : Dk L) (hc : Hc H k L) (hl : L.length ≤ 900000) (hf : ∀ q, q ∈ L → Fine q.1) :
    (L.any (sameK k) = false ∧ ∃ (h9 : Int) (e : V × V), CallsF P G 21 [encC H 7 L, .sc (.int .u32 (H k : Int)), encV k, int 0] (.tup [.agg (.sc (.int .u32 h9) :: (cellsP e.1 ++ cellsP e.2)), bool false])) ∨
    (∃ m, m ∈ L ∧ sameK k m = true ∧ CallsF P G 21 [encC H 7 L, .sc (.int .u32 (H k : Int)), encV k, int 0] (.tup [.agg (cellsE H m), bool true])) := by
  obtain ⟨N, hN, hmin⟩ := exists_leastB (fun i => ¬ (i ≤ 6 ∧ 2 ≤ (wayL H (H k) L (i + 1)).length)) ⟨7, by omega⟩
  have hN7 : N ≤ 7 := hmin 7 (by omega)
  have hlow : ∀ i, i < N → i ≤ 6 ∧ 2 ≤ (wayL H (H k) L (i + 1)).length := fun i hi => Classical.byContradiction fun h => by have := hmin i h; omega
  have hp : ∀ i, plh i (H k) < 32 := fun i => pl_lt H i (k, k)
  have hdt : ∀ i, wayD H (H k) L i < 4294967296 := fun i => by unfold wayD; split; exact sgb_lt _ _ _; omega
  have hnt : ∀ i, wayN H (H k) L i < 4294967296 := fun i => by unfold wayN; split; exact kdb_lt _ _ _; omega
  have hbit : ∀ i : Nat, i ≤ 6 → CallsF P G 34 [.sc (.int .u32 (H k : Int)), int (i : Int)] (.sc (.int .u32 (b2 (plh i (H k)) : Int))) := fun i hi => bit_ok (H k) i (hH k) hi
  have hD : ∀ i, i < N → wayD H (H k) L i &&& b2 (plh i (H k)) = 0 := fun i hi => by
    obtain ⟨h1, h2⟩ := hlow i hi
    unfold wayD; rw [if_pos h1]
    exact bit_out (hp i) (by rw [wayL] at h2; simp; omega)
  have hK : ∀ i, i < N → wayN H (H k) L i &&& b2 (plh i (H k)) ≠ 0 := fun i hi => by
    obtain ⟨h1, h2⟩ := hlow i hi
    unfold wayN; rw [if_pos h1]
    exact bit_in (hp i) (by rw [wayL] at h2; simpa using h2)
  have hix : ∀ i, i < N → CallsF P G 35 [.sc (.int .u32 (wayN H (H k) L i : Int)), .sc (.int .u32 (b2 (plh i (H k)) : Int))] (int ((kdn H i (plh i (H k)) (wayL H (H k) L i) : Nat) : Int)) := fun i hi => by
    unfold wayN; rw [if_pos (hlow i hi).1]
    exact index_kdl H i _ _ (hp i)
  have hel : ∀ i, i < N → (wayK H (H k) L i)[((kdn H i (plh i (H k)) (wayL H (H k) L i) : Nat) : Int).toNat]? = some [.ptr [.sc (.int .u32 (wayD H (H k) L (i + 1) : Int)), .sc (.int .u32 (wayN H (H k) L (i + 1) : Int)), .sl 9 (cellsEs H (wayM H (H k) L (i + 1))), .sl 1 (wayK H (H k) L (i + 1)), int ((wayL H (H k) L (i + 1)).length : Int)] 0] := fun i hi => by
    obtain ⟨h1, h2⟩ := hlow i hi
    rw [← way_enc H (H k) L (i + 1) (by omega), Int.toNat_natCast]
    unfold wayK; rw [if_pos h1]
    obtain ⟨C, D, t2, t5, _⟩ := kdl_turn H i (plh i (H k)) (wayL H (H k) L i) (wayL H (H k) L i) (hp i) (fun q _ => rfl)
    rw [t5, ← t2, more_some (by rw [wayL] at h2; exact h2)]
    have e : 7 - (i + 1) = 6 - i := by omega
    rw [e]
    simp [wayL]
  obtain ⟨hcN, haN⟩ := way_any H k L hc N
  have hdN := way_dk H (H k) L hd N
  have hlN := way_le H (H k) L N
  have e0 : encC H 7 L = .ptr [.sc (.int .u32 (wayD H (H k) L 0 : Int)), .sc (.int .u32 (wayN H (H k) L 0 : Int)), .sl 9 (cellsEs H (wayM H (H k) L 0)), .sl 1 (wayK H (H k) L 0), int ((wayL H (H k) L 0).length : Int)] 0 := way_enc H (H k) L 0 (by omega)
  rcases Nat.lt_or_ge N 7 with h7 | h7
  · have hn1 : (wayL H (H k) L (N + 1)).length < 2 := Classical.byContradiction fun h => hN ⟨by omega, by omega⟩
    obtain ⟨hc1, ha1⟩ := way_any H k L hc (N + 1)
    rcases Nat.eq_zero_or_pos (wayL H (H k) L (N + 1)).length with h0 | h0
    · have h00 := List.length_eq_zero_iff.1 h0
      have ha0 : L.any (sameK k) = false := by rw [← ha1, h00]; rfl
      rw [wayL] at h00
      have h := find_none H (H k) k N _ _ (fun i => plh i (H k)) _ _ (fun i => ((wayL H (H k) L i).length : Int)) _ (hH k) hdt hnt hp hbit hD hK hix (fun i _ => Int.natCast_nonneg _) hel (by omega) (by unfold wayD; rw [if_pos (by omega)]; exact bit_out (hp N) (by rw [h00]; rfl)) (by unfold wayN; rw [if_pos (by omega)]; exact bit_out (hp N) (by rw [h00]; rfl))
      rw [← e0] at h
      exact .inl ⟨ha0, 0, (V.mk 0 0 [] [], V.mk 0 0 [] []), h.le zero_entry⟩
    · obtain ⟨m, hm1⟩ := one_cls (show (wayL H (H k) L (N + 1)).length = 1 by omega)
      have hmL : m ∈ L := way_mem H (H k) L (N + 1) m (by rw [hm1]; simp)
      rw [hm1] at ha1
      have hm2 : cls H N (plh N (H k)) (wayL H (H k) L N) = [m] := hm1
      have hD2 : wayD H (H k) L N &&& b2 (plh N (H k)) ≠ 0 := by unfold wayD; rw [if_pos (by omega)]; exact bit_in (hp N) (by rw [hm2]; rfl)
      have hiN : CallsF P G 35 [.sc (.int .u32 (wayD H (H k) L N : Int)), .sc (.int .u32 (b2 (plh N (H k)) : Int))] (int ((sgn H N (plh N (H k)) (wayL H (H k) L N) : Nat) : Int)) := by
        unfold wayD; rw [if_pos (by omega)]; exact index_sgl H N _ _ (hp N)
      have heN : (cellsEs H (wayM H (H k) L N))[((sgn H N (plh N (H k)) (wayL H (H k) L N) : Nat) : Int).toNat]? = some (cellsE H m) := by
        unfold wayM; rw [if_pos (by omega), Int.toNat_natCast]
        obtain ⟨A, B, t1, t3, _⟩ := sgl_turn H N (plh N (H k)) (wayL H (H k) L N) (wayL H (H k) L N) (hp N) (fun q _ => rfl)
        rw [t3, ← t1, hm2]
        simp [cellsEs, one1]
      by_cases hh : H m.1 = H k
      · have heq := equal_ok (g := G) m.1 k (hf m hmL)
        have h := find_one H (H k) k N _ _ (fun i => plh i (H k)) _ _ (fun i => ((wayL H (H k) L i).length : Int)) _ m _ _ (hH k) hdt hnt hp hbit hD hK hix (fun i _ => Int.natCast_nonneg _) hel (by omega) hD2 hiN (Int.natCast_nonneg _) heN (by rw [hh]) heq
        rw [← e0] at h
        cases hs : sameK k m with
        | true =>
          have hs' : (cmpV m.1 k == 0) = true := hs
          rw [hs'] at h
          exact .inr ⟨m, hmL, hs, h⟩
        | false =>
          have hs' : (cmpV m.1 k == 0) = false := hs
          rw [hs'] at h
          exact .inl ⟨by rw [← ha1]; simp [hs], _, m, h⟩
      · have h := find_else H (H k) k N _ _ (fun i => plh i (H k)) _ _ (fun i => ((wayL H (H k) L i).length : Int)) _ m _ (hH k) hdt hnt hp hbit hD hK hix (fun i _ => Int.natCast_nonneg _) hel (by omega) hD2 hiN (Int.natCast_nonneg _) heN (by intro e; exact hh (by exact_mod_cast e))
        rw [← e0] at h
        refine .inl ⟨?_, _, m, h⟩
        rw [← ha1]
        cases hs : sameK k m with
        | true => exact (hh (hc m hmL hs)).elim
        | false => simp [hs]
  · obtain rfl : N = 7 := by omega
    have hR := srtL_rising cmpV_line (fun _ _ e => e) hdN
    have hwm : wayM H (H k) L 7 = srtL cmpV (wayL H (H k) L 7) := rfl
    have hS : (srtL cmpV (wayL H (H k) L 7)).length = (wayL H (H k) L 7).length := (srtL_perm cmpV _).length_eq
    have hpl := plc_ok H (srtL cmpV (wayL H (H k) L 7)) k (wayD H (H k) L 7 : Int) (wayN H (H k) L 7 : Int) (.sl 1 (wayK H (H k) L 7)) (int ((wayL H (H k) L 7).length : Int)) (by omega) (fun q hq => hf q (way_mem H (H k) L 7 q ((srtL_perm cmpV _).mem_iff.1 hq))) hR
    rw [any_srt, haN] at hpl
    cases ha : L.any (sameK k) with
    | false =>
      rw [ha] at hpl
      have h := find_bno H (H k) k 7 _ _ (fun i => plh i (H k)) _ _ (fun i => ((wayL H (H k) L i).length : Int)) _ _ (hH k) hdt hnt hp hbit hD hK hix (fun i _ => Int.natCast_nonneg _) hel rfl hpl
      rw [← e0] at h
      exact .inl ⟨rfl, 0, (V.mk 0 0 [] [], V.mk 0 0 [] []), h.le zero_entry⟩
    | true =>
      rw [ha] at hpl
      obtain ⟨a, m, b, q1, q2, q3, q4, q5, q6, q7⟩ := bot_put (k, k) hdN
      obtain ⟨x, rfl⟩ := List.length_eq_one_iff.1 (q5.2 (by rw [haN]; exact ha))
      have hx : sameK k x = true := by
        have h9 : x ∈ [x].filter (sameK k) := by rw [← q3]; simp
        exact (List.mem_filter.1 h9).2
      have hxL : x ∈ L := way_mem H (H k) L 7 x ((srtL_perm cmpV _).mem_iff.1 (by rw [q1]; simp))
      have h := find_bot H (H k) k 7 _ _ (fun i => plh i (H k)) _ _ (fun i => ((wayL H (H k) L i).length : Int)) _ x _ (hH k) hdt hnt hp hbit hD hK hix (fun i _ => Int.natCast_nonneg _) hel rfl (Int.natCast_nonneg _) (by
        rw [hwm, Int.toNat_natCast, ← q2, q1]; simp [cellsEs]) hpl
      rw [← e0] at h
      exact .inr ⟨x, hxL, hx, h⟩
theorem find_in (H : V → Nat) (hH : ∀ v, H v < 4294967296) (L : List (V × V)) (k : V) (hd : Dk L) (hc : Hc H k L) (hl : L.length ≤ 900000) (hf : ∀ q, q ∈ L → Fine q.1) (m : V × V) (hm : m ∈ L) (hs : sameK k m = true) :
    CallsF P G 21 [encC H 7 L, .sc (.int .u32 (H k : Int)), encV k, int 0] (.tup [.agg (cellsE H m), bool true]) := by
  rcases find_gen H hH L k hd hc hl hf with ⟨h, _⟩ | ⟨m', h1, h2, h3⟩
  · exact absurd hs (by have := List.any_eq_false.1 h m hm; simpa using this)
  · rw [same_uniq hd hm h1 hs h2]; exact h3
theorem find_out (H : V → Nat) (hH : ∀ v, H v < 4294967296) (L : List (V × V)) (k : V) (hd : Dk L) (hc : Hc H k L) (hl : L.length ≤ 900000) (hf : ∀ q, q ∈ L → Fine q.1) (h : L.any (sameK k) = false) :
    ∃ (h9 : Int) (e : V × V), CallsF P G 21 [encC H 7 L, .sc (.int .u32 (H k : Int)), encV k, int 0] (.tup [.agg (.sc (.int .u32 h9) :: (cellsP e.1 ++ cellsP e.2)), bool false]) := by
  rcases find_gen H hH L k hd hc hl hf with ⟨_, h1⟩ | ⟨m', h1, h2, h3⟩
  · exact h1
  · have := List.any_eq_false.1 h m' h1; simp [h2] at this
end Go.Sx
set_option linter.unusedVariables false
set_option linter.unusedSimpArgs false
namespace Sp
namespace Ch
/-- m calls from the i-th on: did all go on, and how many were made? -/
def goR (b : Nat → Bool) : Nat → Nat → Bool × Nat
  | 0, i => (true, i)
  | m + 1, i => if b i then goR b m (i + 1) else (false, i + 1)
theorem goR_cases (b : Nat → Bool) : ∀ m i, ((∀ j, j < m → b (i + j) = true) ∧ goR b m i = (true, i + m)) ∨ ∃ N, N < m ∧ (∀ j, j < N → b (i + j) = true) ∧ b (i + N) = false ∧ goR b m i = (false, i + N + 1)
  | 0, i => .inl ⟨fun j hj => by omega, rfl⟩
  | m + 1, i => by
    cases hb : b i with
    | false => exact .inr ⟨0, by omega, fun j hj => by omega, hb, by simp [goR, hb]⟩
    | true =>
      rcases goR_cases b m (i + 1) with ⟨h1, h2⟩ | ⟨N, h1, h2, h3, h4⟩
      · refine .inl ⟨fun j hj => ?_, by simp [goR, hb, h2]; omega⟩
        cases j with
        | zero => exact hb
        | succ j => have := h1 j (by omega); rwa [show i + 1 + j = i + (j + 1) by omega] at this
      · refine .inr ⟨N + 1, by omega, fun j hj => ?_, by rwa [show i + 1 + N = i + (N + 1) by omega] at h3, by simp [goR, hb, h4]; omega⟩
        cases j with
        | zero => exact hb
        | succ j => have := h2 j (by omega); rwa [show i + 1 + j = i + (j + 1) by omega] at this
theorem goR_all {b : Nat → Bool} {m i : Nat} (h : ∀ j, j < m → b (i + j) = true) : goR b m i = (true, i + m) := by
  rcases goR_cases b m i with ⟨_, h2⟩ | ⟨N, h1, _, h3, _⟩
  · exact h2
  · rw [h N h1] at h3; cases h3
theorem goR_succ {b : Nat → Bool} {m i : Nat} (h : b i = true) : goR b (m + 1) i = goR b m (i + 1) := by rw [goR, if_pos h]
theorem goR_not {b : Nat → Bool} {m i : Nat} (h : ¬ b i = true) : goR b (m + 1) i = (false, i + 1) := by rw [goR, if_neg h]
theorem goR_app (b : Nat → Bool) : ∀ m n i, ((goR b m i).1 = true → goR b (m + n) i = goR b n (i + m)) ∧ ((goR b m i).1 = false → goR b (m + n) i = goR b m i)
  | 0, n, i => by simp [goR]
  | m + 1, n, i => by
    obtain ⟨h1, h2⟩ := goR_app b m n (i + 1)
    rw [show m + 1 + n = (m + n) + 1 by omega, show i + (m + 1) = i + 1 + m by omega]
    by_cases hb : b i = true
    · rw [goR_succ hb, goR_succ hb]; exact ⟨h1, h2⟩
    · rw [goR_not hb, goR_not hb]; simp
theorem bits_zero {S : Nat → Bool} : ∀ n, (∀ q, q < n → S q = false) → bits S n = 0
  | 0, _ => rfl
  | n + 1, h => by rw [bits, bits_zero n fun q hq => h q (by omega), h n (by omega)]; rfl
/-- A set by its lowest place. -/
theorem bits_low_form {S : Nat → Bool} {p : Nat} (h1 : ∀ q, q < p → S q = false) (h2 : S p = true) : ∀ n, p < n → ∃ m, bits S n = 2 ^ p * (2 * m + 1) ∧ bits (fun q => S q && !(q == p)) n = 2 ^ p * (2 * m)
  | 0, h => by omega
  | n + 1, h => by
    rcases Nat.lt_or_ge p n with hp | hp
    · obtain ⟨m, e1, e2⟩ := bits_low_form h1 h2 n hp
      have e3 : 2 ^ n = 2 ^ p * (2 * 2 ^ (n - p - 1)) := by
        have : 2 * 2 ^ (n - p - 1) = 2 ^ (n - p) := by
          have h9 := Nat.pow_succ 2 (n - p - 1)
          rw [show (n - p - 1).succ = n - p by omega] at h9; omega
        rw [this, ← Nat.pow_add]; congr 1; omega
      have hne : (n == p) = false := by simpa using (by omega : ¬ n = p)
      rw [bits, bits, e1, e2]
      cases hs : S n with
      | false => exact ⟨m, by simp, by simp⟩
      | true =>
        refine ⟨m + 2 ^ (n - p - 1), ?_, ?_⟩
        · simp only [if_true]; rw [e3, ← Nat.mul_add]; congr 1; omega
        · simp only [hne, Bool.not_false, Bool.and_true, if_true]; rw [e3, ← Nat.mul_add]; congr 1; omega
    · obtain rfl : p = n := by omega
      refine ⟨0, ?_, ?_⟩
      · rw [bits, bits_zero p h1, h2]; simp
      · rw [bits, bits_zero p fun q hq => by rw [h1 q hq]; rfl]; simp
/-- The places that have members. -/
def plcs (H : V → Nat) (d : Nat) (L : List (V × V)) : List Nat := (List.range 32).filter fun q => decide (1 ≤ (cls H d q L).length)
/-- The set of the places from the i-th on. -/
def setN (ps : List Nat) (i : Nat) : Nat := bits (fun q => (ps.drop i).contains q) 32
theorem setN_step {ps : List Nat} (hs : ps.Pairwise (· < ·)) (hl : ∀ q, q ∈ ps → q < 32) (i : Nat) (h : i < ps.length) : ∃ m, setN ps i = 2 ^ (ps.getD i 0) * (2 * m + 1) ∧ setN ps (i + 1) = 2 ^ (ps.getD i 0) * (2 * m) := by
  have hd : ps.drop i = ps.getD i 0 :: ps.drop (i + 1) := by rw [List.drop_eq_getElem_cons h]; simp [List.getD_eq_getElem?_getD, List.getElem?_eq_getElem h]
  have hp : (ps.drop i).Pairwise (· < ·) := hs.sublist (List.drop_sublist _ _)
  rw [hd] at hp
  obtain ⟨hp1, hp2⟩ := List.pairwise_cons.1 hp
  have hmem : ps.getD i 0 ∈ ps := by rw [List.getD_eq_getElem?_getD, List.getElem?_eq_getElem h]; exact List.getElem_mem h
  obtain ⟨m, e1, e2⟩ := bits_low_form (S := fun q => (ps.drop i).contains q) (p := ps.getD i 0) (fun q hq => by
    rw [hd]; simp only [List.contains_cons, Bool.or_eq_false_iff, beq_eq_false_iff_ne]
    refine ⟨by omega, ?_⟩
    rw [Bool.eq_false_iff]; intro hc
    have := hp1 q (List.contains_iff_mem.1 hc); omega) (by rw [hd]; simp) 32 (hl _ hmem)
  refine ⟨m, e1, ?_⟩
  rw [← e2]; unfold setN
  refine bits_congr 32 fun q _ => ?_
  rw [hd]
  simp only [List.contains_cons]
  by_cases hq : q = ps.getD i 0
  · subst hq
    have : (ps.drop (i + 1)).contains (ps.getD i 0) = false := by
      rw [Bool.eq_false_iff]; intro hc
      have := hp1 _ (List.contains_iff_mem.1 hc); omega
    rw [this]; simp
  · have h9 : (q == ps.getD i 0) = false := by simpa using hq
    rw [h9]; simp
theorem setN_end (ps : List Nat) : setN ps ps.length = 0 := by unfold setN; rw [List.drop_length]; exact bits_zero 32 fun q _ => rfl
theorem plcs_lt (H : V → Nat) (d : Nat) (L : List (V × V)) : ∀ q, q ∈ plcs H d L → q < 32 := fun q hq => by simpa using (List.mem_filter.1 hq).1
theorem plcs_sorted (H : V → Nat) (d : Nat) (L : List (V × V)) : (plcs H d L).Pairwise (· < ·) := List.pairwise_lt_range.filter _
theorem plcs_set (H : V → Nat) (d : Nat) (L : List (V × V)) : bits (fun q => (cls H d q L).length == 1) 32 ||| bits (fun q => decide (2 ≤ (cls H d q L).length)) 32 = setN (plcs H d L) 0 := by
  rw [bits_or2]; unfold setN plcs
  refine bits_congr 32 fun q hq => ?_
  rw [List.drop_zero, Bool.eq_iff_iff]
  simp only [Bool.or_eq_true, beq_iff_eq, decide_eq_true_eq, List.contains_iff_mem, List.mem_filter, List.mem_range]
  omega
/-- What hangs on one place, in trie order. -/
def piece (H : V → Nat) (f : Nat) (L : List (V × V)) (p : Nat) : List (V × V) := if (cls H (6 - f) p L).length ≤ 1 then cls H (6 - f) p L else tor H f (cls H (6 - f) p L)
theorem piece_len (H : V → Nat) (f : Nat) (L : List (V × V)) (p : Nat) : (piece H f L p).length = (cls H (6 - f) p L).length := by
  unfold piece; split
  · rfl
  · exact (tor_perm H f _).length_eq
theorem fm_filter {α : Type} (g : Nat → List α) (P : Nat → Bool) : ∀ l : List Nat, (∀ q, q ∈ l → P q = false → g q = []) → l.flatMap g = (l.filter P).flatMap g
  | [], _ => rfl
  | x :: l, h => by
    have ih := fm_filter g P l fun q hq => h q (by simp [hq])
    rw [List.flatMap_cons, List.filter_cons]
    cases hp : P x with
    | true => rw [if_pos rfl, List.flatMap_cons, ih]
    | false => rw [h x (by simp) hp, ih]; simp
theorem tor_pieces (H : V → Nat) (f : Nat) (L : List (V × V)) : tor H (f + 1) L = (plcs H (6 - f) L).flatMap (piece H f L) := by
  unfold plcs
  rw [← fm_filter]
  · rfl
  · intro q _ hq
    have : (cls H (6 - f) q L).length = 0 := by simpa using hq
    rw [← piece_len] at this
    exact List.length_eq_zero_iff.1 this
theorem fm_get {α : Type} [Inhabited α] (g : Nat → List α) : ∀ (ps : List Nat) (i j : Nat), i < ps.length → j < (g (ps.getD i 0)).length → (ps.flatMap g).getD (((ps.take i).flatMap g).length + j) default = (g (ps.getD i 0)).getD j default
  | [], i, j, h, _ => by simp at h
  | x :: ps, 0, j, _, hj => by
    simp only [List.getD_cons_zero] at hj ⊢
    simp [List.getD_eq_getElem?_getD, List.getElem?_append_left hj]
  | x :: ps, i + 1, j, h, hj => by
    simp only [List.getD_cons_succ] at hj ⊢
    have ih := fm_get g ps i j (by simpa using h) hj
    rw [← ih]
    simp [List.getD_eq_getElem?_getD, List.getElem?_append_right, Nat.add_assoc]
theorem fm_take_succ {α : Type} (g : Nat → List α) (ps : List Nat) (i : Nat) (h : i < ps.length) : ((ps.take (i + 1)).flatMap g).length = ((ps.take i).flatMap g).length + (g (ps.getD i 0)).length := by
  rw [List.take_succ_eq_append_getElem h, List.flatMap_append, List.length_append]
  simp [List.getD_eq_getElem?_getD, List.getElem?_eq_getElem h]
theorem fm_take_le {α : Type} (g : Nat → List α) (ps : List Nat) (i : Nat) : ((ps.take i).flatMap g).length ≤ (ps.flatMap g).length := by
  have h : ps.flatMap g = (ps.take i).flatMap g ++ (ps.drop i).flatMap g := by rw [← List.flatMap_append, List.take_append_drop]
  rw [h, List.length_append]; omega
end Ch
end Sp

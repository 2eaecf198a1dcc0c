/-
  Proved: what some functions of the program answer, or a law of the evaluator that shows it, one theorem each; its conditions are the hypotheses that stand ahead of it.
-/
import Derived.Test.YtdgodofdnaligaaDoorY5
import Derived.KernelRfl
import Derived.Test.YtdgodofdnaligaaDoorC2
set_option maxRecDepth 100000
set_option maxHeartbeats 4000000
set_option linter.unusedSimpArgs false
set_option linter.unusedVariables false
namespace Go.Sx
open Go.Proofs Sp
open Sp.Ch Sp.Sy
theorem set_low {ps : List Nat} (hs : ps.Pairwise (· < ·)) (hl : ∀ q, q ∈ ps → q < 32) (i : Nat) (h : i < ps.length) :
    setN ps i ≠ 0 ∧ IntKind.wrap IntKind.u32 (((BitVec.ofInt (IntKind.bits IntKind.u32) (setN ps i : Int) &&& BitVec.ofInt (IntKind.bits IntKind.u32) (IntKind.wrap IntKind.u32 (0 - (setN ps i : Int)))).toNat : Nat) : Int) = (b2 (ps.getD i 0) : Int) ∧
    IntKind.wrap IntKind.u32 (((BitVec.ofInt (IntKind.bits IntKind.u32) (setN ps i : Int) &&& BitVec.ofInt (IntKind.bits IntKind.u32) (IntKind.wrap IntKind.u32 ((setN ps i : Int) - 1))).toNat : Nat) : Int) = (setN ps (i + 1) : Int) := by
  obtain ⟨m, e1, e2⟩ := setN_step hs hl i h
  have hmem : ps.getD i 0 ∈ ps := by rw [List.getD_eq_getElem?_getD, List.getElem?_eq_getElem h]; exact List.getElem_mem h
  have hp := hl _ hmem
  have hlt : setN ps i < 4294967296 := bits_lt _ 32
  have hpos : 0 < 2 ^ (ps.getD i 0) := Nat.two_pow_pos _
  have h0 : 0 < setN ps i := by rw [e1]; exact Nat.mul_pos hpos (by omega)
  obtain ⟨l1, l2⟩ := low_of (ps.getD i 0) m 32 hp (by rw [← e1]; exact hlt)
  rw [← e1] at l1 l2
  rw [← e2] at l2
  have w1 : IntKind.wrap IntKind.u32 (0 - (setN ps i : Int)) = ((2 ^ 32 - setN ps i : Nat) : Int) := by
    simp only [IntKind.wrap, IntKind.signed, IntKind.bits]
    simp
    omega
  have w2 : IntKind.wrap IntKind.u32 ((setN ps i : Int) - 1) = ((setN ps i - 1 : Nat) : Int) := by rw [u32_id (by omega) (by omega)]; omega
  refine ⟨by omega, ?_, ?_⟩
  · rw [w1, u32_andB _ _ hlt (by omega), l1]; rfl
  · rw [w2, u32_andB _ _ hlt (by omega), l2]
/-- EACH: all members in trie order, as long as it goes on. -/
theorem ceach_ok (H : V → Nat) (Y : Yd) (hlaw : YLaw P G Y) : ∀ (f : Nat), f ≤ 7 → ∀ (d : Nat), f + d = 7 → ∀ (L : List (V × V)) (i0 : Nat), L.length ≤ 900000 →
    (∀ j, j < L.length → (∀ t, t < j → Y.b (i0 + t) = true) → Y.alive (i0 + j)) → (∀ j, j < L.length → Y.it (i0 + j) = [.agg (cellsE H ((tor H f L).getD j default))]) →
    CallsX P G 41 [encC H f L, int (d : Int), .sc Y.u] Y i0 (bool (goR Y.b L.length i0).1) (goR Y.b L.length i0).2
  | 0, _, d, hfd, L, i0, hl, hal, hit => by
    obtain rfl : d = 7 := by omega
    have hS : (srtL cmpV L).length = L.length := (srtL_perm cmpV L).length_eq
    show CallsX P G 41 [.ptr [.sc (.int .u32 0), .sc (.int .u32 0), .sl 9 (cellsEs H (srtL cmpV L)), .sl 1 [], int (L.length : Int)] 0, int 7, .sc Y.u] Y i0 _ _
    have hal' : ∀ i, i < (srtL cmpV L).length → (∀ j, j < i → Y.b (i0 + j) = true) → Y.alive (i0 + i) := fun i hi hb => hal i (by omega) hb
    have hit' : ∀ i, i < (srtL cmpV L).length → Y.it (i0 + i) = [.agg (cellsE H ((srtL cmpV L).getD i default))] := fun i hi => hit i (by omega)
    rcases goR_cases Y.b L.length i0 with ⟨h1, h2⟩ | ⟨N, h1, h2, h3, h4⟩
    · rw [h2]
      exact eab_all H (srtL cmpV L) 0 0 (L.length : Int) [] Y i0 L.length (by omega) hlaw hal' hit' h1 hS.symm
    · rw [h4]
      exact eab_stop H (srtL cmpV L) 0 0 (L.length : Int) [] Y i0 N (by omega) hlaw hal' hit' h2 (by omega) h3
  | f + 1, hf7, d, hfd, L, i0, hl, hal, hit => by
    obtain rfl : d = 6 - f := by omega
    have ih := ceach_ok H Y hlaw f (by omega) (6 - f + 1) (by omega)
    have hps := plcs_sorted H (6 - f) L
    have hpl := plcs_lt H (6 - f) L
    have hset := plcs_set H (6 - f) L
    have htor := tor_pieces H f L
    have hlen : (tor H (f + 1) L).length = L.length := (tor_perm H (f + 1) L).length_eq
    rw [htor] at hit hlen
    have hcl1 : ∀ q, q ∈ plcs H (6 - f) L → 1 ≤ (cls H (6 - f) q L).length := fun q hq => by simpa using (List.mem_filter.1 hq).2
    have hpc := piece_len H f L
    generalize hPS : plcs H (6 - f) L = ps at *
    have hmem : ∀ i, i < ps.length → ps.getD i 0 ∈ ps := fun i h => by rw [List.getD_eq_getElem?_getD, List.getElem?_eq_getElem h]; exact List.getElem_mem h
    have hp32 : ∀ i, ps.getD i 0 < 32 := fun i => by
      rcases Nat.lt_or_ge i ps.length with h | h
      · exact hpl _ (hmem i h)
      · rw [List.getD_eq_getElem?_getD, List.getElem?_eq_none h]; exact (by omega : (0 : Nat) < 32)
    have hn0 : i0 + ((ps.take 0).flatMap (piece H f L)).length = i0 := by simp
    have hns : ∀ i, i < ps.length → i0 + ((ps.take (i + 1)).flatMap (piece H f L)).length = i0 + ((ps.take i).flatMap (piece H f L)).length + (cls H (6 - f) (ps.getD i 0) L).length := fun i hi => by rw [fm_take_succ _ _ _ hi, hpc]; omega
    have hnle : ∀ i, ((ps.take i).flatMap (piece H f L)).length ≤ L.length := fun i => by rw [← hlen]; exact fm_take_le _ _ _
    have hitp : ∀ i, i < ps.length → ∀ j, j < (cls H (6 - f) (ps.getD i 0) L).length → ((ps.take i).flatMap (piece H f L)).length + j < L.length ∧ Y.it (i0 + ((ps.take i).flatMap (piece H f L)).length + j) = [.agg (cellsE H ((piece H f L (ps.getD i 0)).getD j default))] := fun i hi j hj => by
      have h1 := hns i hi
      have h2 := hnle (i + 1)
      have h3 := hit (((ps.take i).flatMap (piece H f L)).length + j) (by omega)
      rw [fm_get _ _ _ _ hi (by rw [hpc]; exact hj)] at h3
      exact ⟨by omega, by rw [Nat.add_assoc]; exact h3⟩
    obtain ⟨N, hN, hmin⟩ := exists_leastB (fun i => i = ps.length ∨ (goR Y.b (cls H (6 - f) (ps.getD i 0) L).length (i0 + ((ps.take i).flatMap (piece H f L)).length)).1 = false) ⟨ps.length, .inl rfl⟩
    have hNle : N ≤ ps.length := hmin _ (.inl rfl)
    have hgo : ∀ i, i < N → (∀ j, j < (cls H (6 - f) (ps.getD i 0) L).length → Y.b (i0 + ((ps.take i).flatMap (piece H f L)).length + j) = true) := fun i hi => by
      rcases goR_cases Y.b (cls H (6 - f) (ps.getD i 0) L).length (i0 + ((ps.take i).flatMap (piece H f L)).length) with ⟨h1, h2⟩ | ⟨M, h1, h2, h3, h4⟩
      · exact h1
      · have := hmin i (.inr (by rw [h4])); omega
    have hall : ∀ i, i ≤ N → ∀ t, t < ((ps.take i).flatMap (piece H f L)).length → Y.b (i0 + t) = true := by
      intro i
      induction i with
      | zero => intro _ t ht; simp at ht
      | succ i ihi =>
        intro hi t ht
        have h1 := hns i (by omega)
        rcases Nat.lt_or_ge t ((ps.take i).flatMap (piece H f L)).length with h2 | h2
        · exact ihi (by omega) t h2
        · have := hgo i (by omega) (t - ((ps.take i).flatMap (piece H f L)).length) (by omega)
          rwa [show i0 + ((ps.take i).flatMap (piece H f L)).length + (t - ((ps.take i).flatMap (piece H f L)).length) = i0 + t by omega] at this
    have halp : ∀ i, i < ps.length → i ≤ N → ∀ j, j < (cls H (6 - f) (ps.getD i 0) L).length → (∀ t, t < j → Y.b (i0 + ((ps.take i).flatMap (piece H f L)).length + t) = true) → Y.alive (i0 + ((ps.take i).flatMap (piece H f L)).length + j) := fun i hi hiN j hj hb => by
      have h1 := (hitp i hi j hj).1
      have h2 := hal (((ps.take i).flatMap (piece H f L)).length + j) h1 fun t ht => by
        rcases Nat.lt_or_ge t ((ps.take i).flatMap (piece H f L)).length with h2 | h2
        · exact hall i hiN t h2
        · have := hb (t - ((ps.take i).flatMap (piece H f L)).length) (by omega)
          rwa [show i0 + ((ps.take i).flatMap (piece H f L)).length + (t - ((ps.take i).flatMap (piece H f L)).length) = i0 + t by omega] at this
      rw [Nat.add_assoc]; exact h2
    have hbit1 : ∀ i, i < ps.length → sgb H (6 - f) L &&& b2 (ps.getD i 0) ≠ 0 → (cls H (6 - f) (ps.getD i 0) L).length = 1 := fun i hi h => Classical.byContradiction fun hne => h (bit_out (hp32 i) (by simpa using hne))
    have hbit2 : ∀ i, i < ps.length → sgb H (6 - f) L &&& b2 (ps.getD i 0) = 0 → 2 ≤ (cls H (6 - f) (ps.getD i 0) L).length := fun i hi h => by
      have h1 := hcl1 _ (hmem i hi)
      have h2 : (cls H (6 - f) (ps.getD i 0) L).length ≠ 1 := fun he => (bit_in (S := fun q => (cls H (6 - f) q L).length == 1) (hp32 i) (by simpa using he)) h
      omega
    -- a single member
    have hSg : ∀ i, i < ps.length → i ≤ N → sgb H (6 - f) L &&& b2 (ps.getD i 0) ≠ 0 → CallsF P G 35 [.sc (.int .u32 (sgb H (6 - f) L : Int)), .sc (.int .u32 (b2 (ps.getD i 0) : Int))] (int ((sgn H (6 - f) (ps.getD i 0) L : Nat) : Int)) ∧ (0 : Int) ≤ ((sgn H (6 - f) (ps.getD i 0) L : Nat) : Int) ∧ (cellsEs H (sgl H (6 - f) L))[(((sgn H (6 - f) (ps.getD i 0) L : Nat) : Int)).toNat]? = some (cellsE H ((cls H (6 - f) (ps.getD i 0) L).getD 0 default)) ∧ Y.alive (i0 + ((ps.take i).flatMap (piece H f L)).length) ∧ Y.it (i0 + ((ps.take i).flatMap (piece H f L)).length) = [.agg (cellsE H ((cls H (6 - f) (ps.getD i 0) L).getD 0 default))] := fun i hi hiN hb => by
      have h1 := hbit1 i hi hb
      obtain ⟨m, hm⟩ := one_cls h1
      refine ⟨index_sgl H (6 - f) _ L (hp32 i), Int.natCast_nonneg _, ?_, ?_, ?_⟩
      · obtain ⟨A, B, t1, t3, _⟩ := sgl_turn H (6 - f) (ps.getD i 0) L L (hp32 i) (fun q _ => rfl)
        rw [Int.toNat_natCast, t3, ← t1, hm]
        simp [cellsEs, one1]
      · have := halp i hi hiN 0 (by omega) (fun t ht => by omega)
        simpa using this
      · have := (hitp i hi 0 (by omega)).2
        have h3 : piece H f L (ps.getD i 0) = cls H (6 - f) (ps.getD i 0) L := by unfold piece; rw [if_pos (by omega)]
        rw [h3] at this
        simpa using this
    have hKd : ∀ i, i < ps.length → i ≤ N → sgb H (6 - f) L &&& b2 (ps.getD i 0) = 0 → CallsF P G 35 [.sc (.int .u32 (kdb H (6 - f) L : Int)), .sc (.int .u32 (b2 (ps.getD i 0) : Int))] (int ((kdn H (6 - f) (ps.getD i 0) L : Nat) : Int)) ∧ (0 : Int) ≤ ((kdn H (6 - f) (ps.getD i 0) L : Nat) : Int) ∧ (kidE H f L)[(((kdn H (6 - f) (ps.getD i 0) L : Nat) : Int)).toNat]? = some [encC H f (cls H (6 - f) (ps.getD i 0) L)] ∧ CallsX P G 41 [encC H f (cls H (6 - f) (ps.getD i 0) L), int (((6 - f : Nat) : Int) + 1), .sc Y.u] Y (i0 + ((ps.take i).flatMap (piece H f L)).length) (bool (goR Y.b (cls H (6 - f) (ps.getD i 0) L).length (i0 + ((ps.take i).flatMap (piece H f L)).length)).1) (goR Y.b (cls H (6 - f) (ps.getD i 0) L).length (i0 + ((ps.take i).flatMap (piece H f L)).length)).2 := fun i hi hiN hb => by
      have h1 := hbit2 i hi hb
      have hlc := cls_len H (6 - f) (ps.getD i 0) L
      refine ⟨index_kdl H (6 - f) _ L (hp32 i), Int.natCast_nonneg _, ?_, ?_⟩
      · obtain ⟨C, D, t2, t5, _⟩ := kdl_turn H (6 - f) (ps.getD i 0) L L (hp32 i) (fun q _ => rfl)
        rw [Int.toNat_natCast]; unfold kidE
        rw [t5, ← t2, more_some h1]
        simp
      · refine ih _ _ (by omega) (halp i hi hiN) fun j hj => ?_
        have h2 := (hitp i hi j hj).2
        have h3 : piece H f L (ps.getD i 0) = tor H f (cls H (6 - f) (ps.getD i 0) L) := by unfold piece; rw [if_neg (by omega)]
        rw [h3] at h2; exact h2
    have h0 : IntKind.wrap IntKind.u32 (((BitVec.ofInt (IntKind.bits IntKind.u32) (sgb H (6 - f) L : Int) ||| BitVec.ofInt (IntKind.bits IntKind.u32) (kdb H (6 - f) L : Int)).toNat : Nat) : Int) = (setN ps 0 : Int) := by
      rw [u32_orB _ _ (sgb_lt _ _ _) (kdb_lt _ _ _)]; unfold sgb kdb; rw [hset]
    have hlow : ∀ i, i < N + 1 → setN ps i ≠ 0 → IntKind.wrap IntKind.u32 (((BitVec.ofInt (IntKind.bits IntKind.u32) (setN ps i : Int) &&& BitVec.ofInt (IntKind.bits IntKind.u32) (IntKind.wrap IntKind.u32 (0 - (setN ps i : Int)))).toNat : Nat) : Int) = (b2 (ps.getD i 0) : Int) := fun i hi h9 => by
      rcases Nat.lt_or_ge i ps.length with h | h
      · exact (set_low hps hpl i h).2.1
      · obtain rfl : i = ps.length := by omega
        exact (h9 (setN_end ps)).elim
    have hS' : ∀ i, i < N → sgb H (6 - f) L &&& b2 (ps.getD i 0) ≠ 0 → CallsF P G 35 [.sc (.int .u32 (sgb H (6 - f) L : Int)), .sc (.int .u32 (b2 (ps.getD i 0) : Int))] (int ((sgn H (6 - f) (ps.getD i 0) L : Nat) : Int)) ∧ (0 : Int) ≤ ((sgn H (6 - f) (ps.getD i 0) L : Nat) : Int) ∧ (cellsEs H (sgl H (6 - f) L))[(((sgn H (6 - f) (ps.getD i 0) L : Nat) : Int)).toNat]? = some (cellsE H ((cls H (6 - f) (ps.getD i 0) L).getD 0 default)) ∧ Y.alive (i0 + ((ps.take i).flatMap (piece H f L)).length) ∧ Y.it (i0 + ((ps.take i).flatMap (piece H f L)).length) = [.agg (cellsE H ((cls H (6 - f) (ps.getD i 0) L).getD 0 default))] ∧ Y.b (i0 + ((ps.take i).flatMap (piece H f L)).length) = true ∧ i0 + ((ps.take (i + 1)).flatMap (piece H f L)).length = i0 + ((ps.take i).flatMap (piece H f L)).length + 1 := fun i hi hb => by
      obtain ⟨z1, z2, z3, z4, z5⟩ := hSg i (by omega) (by omega) hb
      have h1 := hbit1 i (by omega) hb
      have h2 := hgo i hi 0 (by omega)
      have h3 := hns i (by omega)
      exact ⟨z1, z2, z3, z4, z5, by simpa using h2, by omega⟩
    have hK' : ∀ i, i < N → sgb H (6 - f) L &&& b2 (ps.getD i 0) = 0 → CallsF P G 35 [.sc (.int .u32 (kdb H (6 - f) L : Int)), .sc (.int .u32 (b2 (ps.getD i 0) : Int))] (int ((kdn H (6 - f) (ps.getD i 0) L : Nat) : Int)) ∧ (0 : Int) ≤ ((kdn H (6 - f) (ps.getD i 0) L : Nat) : Int) ∧ (kidE H f L)[(((kdn H (6 - f) (ps.getD i 0) L : Nat) : Int)).toNat]? = some [encC H f (cls H (6 - f) (ps.getD i 0) L)] ∧ CallsX P G 41 [encC H f (cls H (6 - f) (ps.getD i 0) L), int (((6 - f : Nat) : Int) + 1), .sc Y.u] Y (i0 + ((ps.take i).flatMap (piece H f L)).length) (bool true) (i0 + ((ps.take (i + 1)).flatMap (piece H f L)).length) := fun i hi hb => by
      obtain ⟨z1, z2, z3, z4⟩ := hKd i (by omega) (by omega) hb
      have h2 := goR_all (hgo i hi)
      rw [h2] at z4
      rw [hns i (by omega)]
      exact ⟨z1, z2, z3, z4⟩
    have key : CallsX P G 41 [encC H (f + 1) L, int ((6 - f : Nat) : Int), .sc Y.u] Y (i0 + ((ps.take 0).flatMap (piece H f L)).length) (bool (goR Y.b L.length i0).1) (goR Y.b L.length i0).2 := by
      rcases Nat.lt_or_ge N ps.length with hlt | hge
      · have hf1 : (goR Y.b (cls H (6 - f) (ps.getD N 0) L).length (i0 + ((ps.take N).flatMap (piece H f L)).length)).1 = false := by
          rcases hN with h | h
          · omega
          · exact h
        have htot : goR Y.b L.length i0 = (false, (goR Y.b (cls H (6 - f) (ps.getD N 0) L).length (i0 + ((ps.take N).flatMap (piece H f L)).length)).2) := by
          have h1 := hns N hlt
          have h2 := hnle (N + 1)
          have e1 : L.length = ((ps.take N).flatMap (piece H f L)).length + (L.length - ((ps.take N).flatMap (piece H f L)).length) := by omega
          have e2 : L.length - ((ps.take N).flatMap (piece H f L)).length = (cls H (6 - f) (ps.getD N 0) L).length + (L.length - ((ps.take (N + 1)).flatMap (piece H f L)).length) := by omega
          have h3 := goR_all (hall N (Nat.le_refl _))
          rw [e1, (goR_app Y.b _ _ i0).1 (by rw [h3]), e2, (goR_app Y.b _ _ _).2 hf1, ← hf1]
        rw [htot]
        have hsN := (set_low hps hpl N hlt).1
        by_cases hb : sgb H (6 - f) L &&& b2 (ps.getD N 0) = 0
        · obtain ⟨z1, z2, z3, z4⟩ := hKd N hlt (Nat.le_refl _) hb
          rw [hf1] at z4
          exact eam_kid H (sgl H (6 - f) L) (sgb H (6 - f) L) (kdb H (6 - f) L) (6 - f) (L.length : Int) (kidE H f L) Y N (setN ps) (fun i => ps.getD i 0) (fun i => i0 + ((ps.take i).flatMap (piece H f L)).length) (fun i => ((sgn H (6 - f) (ps.getD i 0) L : Nat) : Int)) (fun i => ((kdn H (6 - f) (ps.getD i 0) L : Nat) : Int)) (fun i => (cls H (6 - f) (ps.getD i 0) L).getD 0 default) (fun i => encC H f (cls H (6 - f) (ps.getD i 0) L)) _ (by omega) (sgb_lt _ _ _) (kdb_lt _ _ _) hp32 hlaw h0 (fun i hi => (set_low hps hpl i (by omega)).1) hlow (fun i hi => (set_low hps hpl i (by omega)).2.2) hS' hK' hsN hb z1 z2 z3 z4
        · obtain ⟨z1, z2, z3, z4, z5⟩ := hSg N hlt (Nat.le_refl _) hb
          have hc1 := hbit1 N hlt hb
          rw [hc1] at hf1 ⊢
          have hbf : Y.b (i0 + ((ps.take N).flatMap (piece H f L)).length) = false := by
            cases h : Y.b (i0 + ((ps.take N).flatMap (piece H f L)).length) with
            | false => rfl
            | true => rw [goR_succ h] at hf1; cases hf1
          rw [goR_not (by rw [hbf]; simp)]
          exact eam_one H (sgl H (6 - f) L) (sgb H (6 - f) L) (kdb H (6 - f) L) (6 - f) (L.length : Int) (kidE H f L) Y N (setN ps) (fun i => ps.getD i 0) (fun i => i0 + ((ps.take i).flatMap (piece H f L)).length) (fun i => ((sgn H (6 - f) (ps.getD i 0) L : Nat) : Int)) (fun i => ((kdn H (6 - f) (ps.getD i 0) L : Nat) : Int)) (fun i => (cls H (6 - f) (ps.getD i 0) L).getD 0 default) (fun i => encC H f (cls H (6 - f) (ps.getD i 0) L)) (by omega) (sgb_lt _ _ _) (kdb_lt _ _ _) hp32 hlaw h0 (fun i hi => (set_low hps hpl i (by omega)).1) hlow (fun i hi => (set_low hps hpl i (by omega)).2.2) hS' hK' hsN hb z1 z2 z3 z4 z5 hbf
      · obtain rfl : N = ps.length := by omega
        have hful : ((ps.take ps.length).flatMap (piece H f L)).length = L.length := by rw [List.take_length]; exact hlen
        have htot : goR Y.b L.length i0 = (true, i0 + ((ps.take ps.length).flatMap (piece H f L)).length) := by
          rw [hful]; exact goR_all fun j hj => hall ps.length (Nat.le_refl _) j (by rw [hful]; exact hj)
        rw [htot]
        exact eam_all H (sgl H (6 - f) L) (sgb H (6 - f) L) (kdb H (6 - f) L) (6 - f) (L.length : Int) (kidE H f L) Y ps.length (setN ps) (fun i => ps.getD i 0) (fun i => i0 + ((ps.take i).flatMap (piece H f L)).length) (fun i => ((sgn H (6 - f) (ps.getD i 0) L : Nat) : Int)) (fun i => ((kdn H (6 - f) (ps.getD i 0) L : Nat) : Int)) (fun i => (cls H (6 - f) (ps.getD i 0) L).getD 0 default) (fun i => encC H f (cls H (6 - f) (ps.getD i 0) L)) (by omega) (sgb_lt _ _ _) (kdb_lt _ _ _) hp32 hlaw h0 (fun i hi => (set_low hps hpl i (by omega)).1) hlow (fun i hi => (set_low hps hpl i (by omega)).2.2) hS' hK' (setN_end ps)
    rw [hn0] at key
    exact key
end Go.Sx
set_option maxRecDepth 100000
set_option maxHeartbeats 4000000
set_option linter.unusedSimpArgs false
set_option linter.unusedVariables false
namespace Go.Sx
open Go.Proofs Sp
def Ssh (d : Nat) (Ks : List (List FV)) (R : Nat → List (List FV)) (i : Nat) : St := { sl := slots 43 [(1, .lsl 0), (2, .f (int (d : Int))), (30, .f (.sl 1 Ks)), (31, .f (int (Ks.length : Int))), (32, .f (int (i : Int)))], ob := [(0, .row 4 71 (R i))], nx := 1 }
theorem get25 : P.funcs[25]? = some Tryd.f25 := by kernel_rfl
theorem ent25 : entersP P 25 = true := by kernel_rfl
theorem shape_run (Es : List (List FV)) (a1 a2 ct : Int) (d : Nat) (Ks es : List (List FV)) (N : Nat) (kd : Nat → FV) (R : Nat → List (List FV)) (hd : d ≤ 7) (hEs : Es.length ≤ 1000000) (hN : N = Ks.length) (hKl : Ks.length ≤ 1000000) (h0 : R 0 = es ++ [[int (d : Int), .sc (.int .u32 a1), .sc (.int .u32 a2), int (Es.length : Int)]]) (hles : es.length ≤ 10000000) (hel : ∀ i, i < N → Ks[i]? = some [kd i]) (hrec : ∀ i, i < N → CallsU P G 25 71 4 (R i) (kd i) [int ((d : Int) + 1)] (R (i + 1))) : CallsU P G 25 71 4 es (.ptr [.sc (.int .u32 (a1)), .sc (.int .u32 (a2)), .sl 9 (Es), .sl 1 (Ks), int (ct)] 0) [int (d : Int)] (R N) := by
  refine sx_fnU (hs := [.nat 17, .loop [(1, 0)] [(1, 0)] (Ssh d Ks R) N (fun i => [.dec true, .el [kd i], .callW (R (i + 1)) none]), .dec false]) (let z2 := (↑(List.length Ks) : Int); let z3 := Value.int IntKind.u32 a1; let z4 := Value.int IntKind.u32 a2; let z5 := (↑(List.length Es) : Int); let z1 := chunk 4 1 [int (d : Int), FV.sc z3, FV.sc z4, int z5]; E true ∧ (oneF ([[int (d : Int), FV.sc z3, FV.sc z4, int z5]]) ∧ List.length es + List.length z1 ≤ maxLen ∧ (List.length es + List.length z1) * 24 ≤ 140737488355328 ∧ E false) ∧ (E true ∧ (E (AV.lsl 0) ∧ E (AV.f (int (d : Int))) ∧ E (AV.f (FV.sl 1 Ks)) ∧ E (AV.f (int z2)) ∧ AV.f (int 0) = AV.f (int (Int.ofNat 0)) ∧ True) ∧ (Ob.row 4 71 (es ++ chunk (TypeInfo.size (Tables.types (Program.toTables P))[71]) 1 [int (d : Int), FV.sc z3, FV.sc z4, int z5]) = Ob.row 4 71 (R 0) ∧ True) ∧ E true ∧ (false = true → false = true)) ∧ (∀ (i : Nat), i < N → decide ((i : Int) < z2) = true ∧ (E 1 ∧ (0 : Int) ≤ (i : Int) ∧ Ks[i]? = some [kd i]) ∧ CallsU P G 25 (71) (4) (R i) (kd i) ([int (IntKind.wrap IntKind.i64 ((d : Int) + 1))]) (R (i + 1)) ∧ E true ∧ (E (AV.lsl 0) ∧ E (AV.f (int (d : Int))) ∧ E (AV.f (FV.sl 1 Ks)) ∧ E (AV.f (int z2)) ∧ AV.f (int (IntKind.wrap IntKind.i64 ((i : Int) + 1))) = AV.f (int (↑(i + 1) : Int)) ∧ True) ∧ (E (Ob.row 4 71 (R (i + 1))) ∧ True) ∧ E true ∧ (false = true → false = true)) ∧ decide ((N : Int) < z2) = false ∧ E 71 ∧ E 4 ∧ E (R N)) get25 ent25 (by kernel_rfl) ?_
  refine ⟨rfl, ⟨?_, ?_, ?_, rfl⟩, ⟨rfl, ⟨rfl, rfl, rfl, rfl, ?_, trivial⟩, ⟨?_, trivial⟩, rfl, fun hi => ?_⟩, fun i => fun hi => ⟨?_, ⟨rfl, ?_, ?_⟩, ?_, rfl, ⟨rfl, rfl, rfl, rfl, ?_, trivial⟩, ⟨rfl, trivial⟩, rfl, fun hi => ?_⟩, ?_, rfl, rfl, rfl⟩
  all_goals first | rfl | exact hel i (by assumption) | (rw [wrapS _ (by omega) (by omega)]; exact hrec i (by assumption)) | (exact congrArg (Ob.row 4 71) h0.symm) | (simp only [decide_eq_true_eq, decide_eq_false_iff_not]; omega) | (exact congrArg (fun x => AV.f (int x)) (wrapS ((i : Int) + 1) (by omega) (by omega))) | (intro x hx; simp [chunk] at hx; rcases hx with rfl | rfl | rfl | rfl <;> rfl) | (simp only [chunk, List.length_cons, List.length_nil, maxLen]; omega) | omega
theorem shape_top (Es : List (List FV)) (a1 a2 ct : Int) (d : Nat) (Ks : List (List FV)) (N : Nat) (kd : Nat → FV) (R : Nat → List (List FV)) (hd : d ≤ 7) (hEs : Es.length ≤ 1000000) (hN : N = Ks.length) (hKl : Ks.length ≤ 1000000) (h0 : R 0 = [[int (d : Int), .sc (.int .u32 a1), .sc (.int .u32 a2), int (Es.length : Int)]]) (hel : ∀ i, i < N → Ks[i]? = some [kd i]) (hrec : ∀ i, i < N → CallsU P G 25 71 4 (R i) (kd i) [int ((d : Int) + 1)] (R (i + 1))) : CallsO P G 25 [.ptr [.sc (.int .u32 (a1)), .sc (.int .u32 (a2)), .sl 9 (Es), .sl 1 (Ks), int (ct)] 0, .nils, int (d : Int)] 71 4 (R N) := by
  refine sx_fnO (hs := [.nat 17, .loop [(0, 0)] [(1, 0)] (Ssh d Ks R) N (fun i => [.dec true, .el [kd i], .callW (R (i + 1)) none]), .dec false]) (let z2 := (↑(List.length Ks) : Int); let z3 := Value.int IntKind.u32 a1; let z4 := Value.int IntKind.u32 a2; let z5 := (↑(List.length Es) : Int); let z1 := chunk 4 1 [int (d : Int), FV.sc z3, FV.sc z4, int z5]; E true ∧ (oneF ([[int (d : Int), FV.sc z3, FV.sc z4, int z5]]) ∧ 0 + List.length z1 ≤ maxLen ∧ (0 + List.length z1) * 24 ≤ 140737488355328 ∧ E false) ∧ (E true ∧ (E (AV.lsl 0) ∧ E (AV.f (int (d : Int))) ∧ E (AV.f (FV.sl 1 Ks)) ∧ E (AV.f (int z2)) ∧ AV.f (int 0) = AV.f (int (Int.ofNat 0)) ∧ True) ∧ (Ob.row 4 71 [[int (d : Int), FV.sc z3, FV.sc z4, int z5]] = Ob.row 4 71 (R 0) ∧ True) ∧ E true ∧ (false = true → false = true)) ∧ (∀ (i : Nat), i < N → decide ((i : Int) < z2) = true ∧ (E 1 ∧ (0 : Int) ≤ (i : Int) ∧ Ks[i]? = some [kd i]) ∧ CallsU P G 25 (71) (4) (R i) (kd i) ([int (IntKind.wrap IntKind.i64 ((d : Int) + 1))]) (R (i + 1)) ∧ E true ∧ (E (AV.lsl 0) ∧ E (AV.f (int (d : Int))) ∧ E (AV.f (FV.sl 1 Ks)) ∧ E (AV.f (int z2)) ∧ AV.f (int (IntKind.wrap IntKind.i64 ((i : Int) + 1))) = AV.f (int (↑(i + 1) : Int)) ∧ True) ∧ (E (Ob.row 4 71 (R (i + 1))) ∧ True) ∧ E true ∧ (false = true → false = true)) ∧ decide ((N : Int) < z2) = false ∧ E 71 ∧ E 4 ∧ E (R N)) get25 ent25 (by kernel_rfl) ?_
  refine ⟨rfl, ⟨?_, ?_, ?_, rfl⟩, ⟨rfl, ⟨rfl, rfl, rfl, rfl, ?_, trivial⟩, ⟨?_, trivial⟩, rfl, fun hi => ?_⟩, fun i => fun hi => ⟨?_, ⟨rfl, ?_, ?_⟩, ?_, rfl, ⟨rfl, rfl, rfl, rfl, ?_, trivial⟩, ⟨rfl, trivial⟩, rfl, fun hi => ?_⟩, ?_, rfl, rfl, rfl⟩
  all_goals first | rfl | exact hel i (by assumption) | (rw [wrapS _ (by omega) (by omega)]; exact hrec i (by assumption)) | (rw [h0]; done) | (simp only [decide_eq_true_eq, decide_eq_false_iff_not]; omega) | (exact congrArg (fun x => AV.f (int x)) (wrapS ((i : Int) + 1) (by omega) (by omega))) | (intro x hx; simp [chunk] at hx; rcases hx with rfl | rfl | rfl | rfl <;> rfl) | (simp only [chunk, List.length_cons, List.length_nil, maxLen]; omega) | omega
end Go.Sx
set_option maxRecDepth 100000
set_option maxHeartbeats 4000000
set_option linter.unusedSimpArgs false
set_option linter.unusedVariables false
namespace Go.Sx
open Go.Proofs Sp
/-- The shapes of a node and of those below it. -/
def shC (H : V → Nat) : Nat → List (V × V) → List (List FV)
  | 0, L => [[int 7, .sc (.int .u32 0), .sc (.int .u32 0), int (L.length : Int)]]
  | f + 1, L => [int ((6 - f : Nat) : Int), .sc (.int .u32 (sgb H (6 - f) L : Int)), .sc (.int .u32 (kdb H (6 - f) L : Int)), int ((Sp.Ch.sgl H (6 - f) L).length : Int)] :: (Sp.Ch.kdl H (6 - f) L).flatMap (shC H f)
open Sp.Ch Sp.Sy
theorem kdl_two (H : V → Nat) (d : Nat) (L : List (V × V)) : ∀ c, c ∈ kdl H d L → 2 ≤ c.length := by
  intro c hc
  obtain ⟨q, _, h⟩ := List.mem_flatMap.1 hc
  unfold more at h
  split at h
  · simp at h; subst h; assumption
  · cases h
theorem kdl_sum (H : V → Nat) (d : Nat) (L : List (V × V)) : ((kdl H d L).flatMap id).length ≤ L.length := by
  have h1 := (classes_perm H d L).length_eq
  rw [← h1]; unfold kdl
  rw [List.flatMap_assoc]
  refine fm_len_le _ _ (fun q => ?_) _
  unfold more; split
  · simp
  · simp
theorem sh_len_kids (H : V → Nat) (f : Nat) (ih : ∀ L, (shC H f L).length ≤ 1 + f * L.length) : ∀ l : List (List (V × V)), (∀ c, c ∈ l → 2 ≤ c.length) → (l.flatMap (shC H f)).length ≤ (f + 1) * (l.flatMap id).length
  | [], _ => by simp
  | c :: l, h => by
    have h1 := sh_len_kids H f ih l fun x hx => h x (by simp [hx])
    have h2 := ih c
    have h3 := h c (by simp)
    rw [List.flatMap_cons, List.flatMap_cons, List.length_append, List.length_append, Nat.mul_add, Nat.add_mul f 1 (id c).length]
    simp only [id]
    omega
theorem shC_len (H : V → Nat) : ∀ (f : Nat) (L : List (V × V)), (shC H f L).length ≤ 1 + f * L.length
  | 0, L => by simp [shC]
  | f + 1, L => by
    have h1 := sh_len_kids H f (shC_len H f) _ (kdl_two H (6 - f) L)
    have h2 := kdl_sum H (6 - f) L
    have h3 := Nat.mul_le_mul_left (f + 1) h2
    simp only [shC, List.length_cons]; omega
theorem fm_take {α β : Type} (g : α → List β) (l : List α) (i : Nat) : ((l.take i).flatMap g).length ≤ (l.flatMap g).length := by
  have h : l.flatMap g = (l.take i).flatMap g ++ (l.drop i).flatMap g := by rw [← List.flatMap_append, List.take_append_drop]
  rw [h, List.length_append]; omega
theorem shape_ok (H : V → Nat) : ∀ (f : Nat), f ≤ 7 → ∀ (d : Nat), f + d = 7 → ∀ (L : List (V × V)) (es : List (List FV)), L.length ≤ 900000 → es.length + f * L.length ≤ 9000000 →
    CallsU P G 25 71 4 es (encC H f L) [int (d : Int)] (es ++ shC H f L)
  | 0, _, d, hfd, L, es, hl, hes => by
    obtain rfl : d = 7 := by omega
    have hS : (srtL cmpV L).length = L.length := (srtL_perm cmpV L).length_eq
    have h := shape_run (cellsEs H (srtL cmpV L)) 0 0 (L.length : Int) 7 [] es 0 (fun _ => .any) (fun _ => es ++ [[int ((7 : Nat) : Int), .sc (.int .u32 0), .sc (.int .u32 0), int ((cellsEs H (srtL cmpV L)).length : Int)]]) (by omega) (by rw [cellsEs_length]; omega) rfl (by simp) rfl (by omega) (fun i hi => by omega) (fun i hi => by omega)
    rw [cellsEs_length, hS] at h
    exact h
  | f + 1, hf7, d, hfd, L, es, hl, hes => by
    obtain rfl : d = 6 - f := by omega
    have ih := shape_ok H f (by omega) (6 - f + 1) (by omega)
    have hk2 := kdl_two H (6 - f) L
    have hks := kdl_sum H (6 - f) L
    have hkl := kdl_len H (6 - f) L
    have hsl := sgl_len H (6 - f) L
    have hkE : (kidE H f L).length = (kdl H (6 - f) L).length := by simp [kidE]
    have hsum := sh_len_kids H f (shC_len H f) _ hk2
    have hmul := Nat.mul_le_mul_left (f + 1) hks
    have h := shape_run (cellsEs H (sgl H (6 - f) L)) (sgb H (6 - f) L : Int) (kdb H (6 - f) L : Int) (L.length : Int) (6 - f) (kidE H f L) es (kidE H f L).length (fun i => encC H f ((kdl H (6 - f) L).getD i [])) (fun i => es ++ ([int ((6 - f : Nat) : Int), .sc (.int .u32 (sgb H (6 - f) L : Int)), .sc (.int .u32 (kdb H (6 - f) L : Int)), int ((cellsEs H (sgl H (6 - f) L)).length : Int)] :: ((kdl H (6 - f) L).take i).flatMap (shC H f))) (by omega) (by rw [cellsEs_length]; omega) rfl (by omega) (by simp) (by omega) (fun i hi => by
        unfold kidE at hi ⊢
        rw [List.length_map] at hi
        simp [List.getD_eq_getElem?_getD, List.getElem?_eq_getElem hi]) (fun i hi => by
        rw [hkE] at hi
        have hm : (kdl H (6 - f) L).getD i [] ∈ kdl H (6 - f) L := by rw [List.getD_eq_getElem?_getD, List.getElem?_eq_getElem hi]; exact List.getElem_mem hi
        have h1 : ((kdl H (6 - f) L).take (i + 1)).flatMap (shC H f) = ((kdl H (6 - f) L).take i).flatMap (shC H f) ++ shC H f ((kdl H (6 - f) L).getD i []) := by
          rw [List.take_succ_eq_append_getElem hi, List.flatMap_append]; simp [List.getD_eq_getElem?_getD, List.getElem?_eq_getElem hi]
        have h2 := sh_len_kids H f (shC_len H f) ((kdl H (6 - f) L).take i) (fun c hc => hk2 c (List.mem_of_mem_take hc))
        have h3 : ((kdl H (6 - f) L).take (i + 1)).flatMap id = ((kdl H (6 - f) L).take i).flatMap id ++ (kdl H (6 - f) L).getD i [] := by
          rw [List.take_succ_eq_append_getElem hi, List.flatMap_append]; simp [List.getD_eq_getElem?_getD, List.getElem?_eq_getElem hi]
        have h4 := fm_take id (kdl H (6 - f) L) (i + 1)
        rw [h3, List.length_append] at h4
        have h5 : (f + 1) * (((kdl H (6 - f) L).take i).flatMap id).length + (f + 1) * ((kdl H (6 - f) L).getD i []).length ≤ (f + 1) * L.length := by rw [← Nat.mul_add]; exact Nat.mul_le_mul_left _ (by omega)
        have h6 : f * ((kdl H (6 - f) L).getD i []).length ≤ (f + 1) * ((kdl H (6 - f) L).getD i []).length := Nat.mul_le_mul_right _ (by omega)
        have h7 := hk2 _ hm
        have h8 : (f + 1) * 2 ≤ (f + 1) * ((kdl H (6 - f) L).getD i []).length := Nat.mul_le_mul_left _ h7
        have h9 : f * ((kdl H (6 - f) L).getD i []).length + ((kdl H (6 - f) L).getD i []).length = (f + 1) * ((kdl H (6 - f) L).getD i []).length := by rw [Nat.add_mul, Nat.one_mul]
        have hr := ih ((kdl H (6 - f) L).getD i []) (es ++ ([int ((6 - f : Nat) : Int), .sc (.int .u32 (sgb H (6 - f) L : Int)), .sc (.int .u32 (kdb H (6 - f) L : Int)), int ((cellsEs H (sgl H (6 - f) L)).length : Int)] :: ((kdl H (6 - f) L).take i).flatMap (shC H f))) (by omega) (by simp only [List.length_append, List.length_cons]; omega)
        rw [List.append_assoc, List.cons_append] at hr
        rw [h1]
        exact hr)
    have e1 : (kdl H (6 - f) L).take (kidE H f L).length = kdl H (6 - f) L := by rw [hkE, List.take_length]
    simp only [e1, cellsEs_length] at h
    exact h
/-- Shape's list, from nothing on. -/
theorem shape_zero (H : V → Nat) (L : List (V × V)) (hl : L.length ≤ 900000) : CallsO P G 25 [encC H 7 L, .nils, int 0] 71 4 (shC H 7 L) := by
  have hk2 := kdl_two H 0 L
  have hks := kdl_sum H 0 L
  have hkl := kdl_len H 0 L
  have hsl := sgl_len H 0 L
  have hkE : (kidE H 6 L).length = (kdl H 0 L).length := by simp [kidE]
  have hsum := sh_len_kids H 6 (shC_len H 6) _ hk2
  have h := shape_top (cellsEs H (sgl H 0 L)) (sgb H 0 L : Int) (kdb H 0 L : Int) (L.length : Int) 0 (kidE H 6 L) (kidE H 6 L).length (fun i => encC H 6 ((kdl H 0 L).getD i [])) (fun i => [int ((0 : Nat) : Int), .sc (.int .u32 (sgb H 0 L : Int)), .sc (.int .u32 (kdb H 0 L : Int)), int ((cellsEs H (sgl H 0 L)).length : Int)] :: ((kdl H 0 L).take i).flatMap (shC H 6)) (by omega) (by rw [cellsEs_length]; omega) rfl (by omega) (by simp) (fun i hi => by
      unfold kidE at hi ⊢
      rw [List.length_map] at hi
      simp [List.getD_eq_getElem?_getD, List.getElem?_eq_getElem hi]) (fun i hi => by
      rw [hkE] at hi
      have hm : (kdl H 0 L).getD i [] ∈ kdl H 0 L := by rw [List.getD_eq_getElem?_getD, List.getElem?_eq_getElem hi]; exact List.getElem_mem hi
      have h1 : ((kdl H 0 L).take (i + 1)).flatMap (shC H 6) = ((kdl H 0 L).take i).flatMap (shC H 6) ++ shC H 6 ((kdl H 0 L).getD i []) := by
        rw [List.take_succ_eq_append_getElem hi, List.flatMap_append]; simp [List.getD_eq_getElem?_getD, List.getElem?_eq_getElem hi]
      have h2 := sh_len_kids H 6 (shC_len H 6) ((kdl H 0 L).take i) (fun c hc => hk2 c (List.mem_of_mem_take hc))
      have h3 : ((kdl H 0 L).take (i + 1)).flatMap id = ((kdl H 0 L).take i).flatMap id ++ (kdl H 0 L).getD i [] := by
        rw [List.take_succ_eq_append_getElem hi, List.flatMap_append]; simp [List.getD_eq_getElem?_getD, List.getElem?_eq_getElem hi]
      have h4 := fm_take id (kdl H 0 L) (i + 1)
      rw [h3, List.length_append] at h4
      have hr := shape_ok H 6 (by omega) 1 (by omega) ((kdl H 0 L).getD i []) ([int ((0 : Nat) : Int), .sc (.int .u32 (sgb H 0 L : Int)), .sc (.int .u32 (kdb H 0 L : Int)), int ((cellsEs H (sgl H 0 L)).length : Int)] :: ((kdl H 0 L).take i).flatMap (shC H 6)) (by omega) (by simp only [List.length_cons]; omega)
      rw [h1]
      exact hr)
  have e1 : (kdl H 0 L).take (kidE H 6 L).length = kdl H 0 L := by rw [hkE, List.take_length]
  simp only [e1, cellsEs_length] at h
  exact h
end Go.Sx
set_option linter.unusedVariables false
set_option linter.unusedSimpArgs false
namespace Sp
open Go
/-! ### Words of 32 bits, as the machine reckons with them -/
def w32 (n : Int) : Int := IntKind.u32.wrap n
def xo32 (a b : Int) : Int := IntKind.u32.wrap (((BitVec.ofInt IntKind.u32.bits a ^^^ BitVec.ofInt IntKind.u32.bits b).toNat : Nat) : Int)
def or32 (a b : Int) : Int := IntKind.u32.wrap (((BitVec.ofInt IntKind.u32.bits a ||| BitVec.ofInt IntKind.u32.bits b).toNat : Nat) : Int)
def sr (a : Int) (n : Nat) : Int := a.fdiv (2 ^ n)
def sl32 (a : Int) (n : Nat) : Int := w32 (a * 2 ^ n)
def rotl (n m : Nat) (k : Int) : Int := or32 (sl32 k n) (sr k m)
def mixK (k : Int) : Int := w32 (rotl 15 17 (w32 (k * 3432918353)) * 461845907)
def mixH (h k : Int) : Int := w32 (w32 (rotl 13 19 (xo32 h k) * 5) + 3864292196)
def fin1 (h : Int) : Int := w32 (xo32 h (sr h 16) * 2246822507)
def fin2 (h : Int) : Int := w32 (xo32 h (sr h 13) * 3266489909)
def fin3 (h : Int) : Int := xo32 h (sr h 16)
def finH (h n : Int) : Int := fin3 (fin2 (fin1 (xo32 h n)))
def intH (x : Int) : Int := if x = 0 then 0 else finH (mixH 0 (mixK (w32 x))) 4
def longH (x : Int) : Int := if x = 0 then 0 else finH (mixH (mixH 0 (mixK (w32 x))) (mixK (w32 (sr (IntKind.u64.wrap x) 32)))) 8
def collH (h n : Int) : Int := finH (mixH 0 (mixK h)) (w32 n)
def ordF (l : List Int) : Int := l.foldl (fun h x => w32 (w32 (31 * h) + x)) 1
def unordF (l : List Int) : Int := l.foldl (fun h x => w32 (h + x)) 0
def ordH (l : List Int) : Int := collH (ordF l) l.length
def unordH (l : List Int) : Int := collH (unordF l) l.length
def javaF (l : List Int) : Int := l.foldl (fun h x => IntKind.i32.wrap (IntKind.i32.wrap (31 * h) + IntKind.i32.wrap x)) 0
def entriesH : List Int → List Int
  | a :: b :: t => ordH [a, b] :: entriesH t
  | _ => []
attribute [irreducible] rotl mixK mixH finH collH ordF unordF javaF
end Sp

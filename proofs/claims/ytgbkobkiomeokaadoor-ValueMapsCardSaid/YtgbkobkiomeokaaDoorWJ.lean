/-
  Proved: what some functions of the program answer, or a law of the evaluator that shows it, one theorem each; its conditions are the hypotheses that stand ahead of it.
-/
import Derived.Test.YtgbkobkiomeokaaDoorWI
import Derived.Test.YtgbkobkiomeokaaDoorWK
import Derived.Test.YtgbkobkiomeokaaDoorH5
import Derived.KernelRfl
set_option maxRecDepth 100000
set_option maxHeartbeats 4000000
set_option linter.unusedSimpArgs false
set_option linter.unusedVariables false
namespace Go.Sx
open Go.Proofs Sp
theorem get3 : P.funcs[3]? = some Tryd.f3 := by kernel_rfl
theorem ent3 : entersP P 3 = true := by kernel_rfl
theorem maps_bad (l q : List (V × V)) (v m : V) (g : Int) (e : Int) (he : e ≠ 0) (h0 : CallsF P G 4 [encPs l] (.tup [encV m, int e])) (h1 : CallsF P G 5 [encPs l] (.tup [encV m, int e])) (h2 : CallsF P G 6 [encV v] (.tup [encPs q, int g])) (h3 : CallsF P G 7 [encV v] (.tup [encPs q, int g])) (h4 : CallsF P G 8 [encV m, encV m] (bool true)) (h5 : CallsF P G 9 [encPs q, encPs q] (bool true)) (h6 : CallsF P G 10 [] (bool true)) : CallsF P G 3 [encPs l, encV v] (bool true) := by
  refine sx_fn (hs := [.call (.tup [encV m, int e]), .call (.tup [encV m, int e]), .call (.tup [encPs q, int g]), .call (.tup [encPs q, int g]), .call (bool true), .dec false, .dec false, .call (bool true), .dec false, .dec false, .dec true, .call (bool true)]) (let z1 := FV.tup [FV.sl 8 (cellsPs q), int g]; CallsF P G 4 [FV.sl 8 (cellsPs l)] (FV.tup [encV m, int e]) ∧ CallsF P G 5 [FV.sl 8 (cellsPs l)] (FV.tup [encV m, int e]) ∧ CallsF P G 6 [encV v] z1 ∧ CallsF P G 7 [encV v] z1 ∧ CallsF P G 8 [encV m, encV m] (bool true) ∧ E false ∧ (e != e) = false ∧ CallsF P G 9 [FV.sl 8 (cellsPs q), FV.sl 8 (cellsPs q)] (bool true) ∧ E false ∧ (g != g) = false ∧ (e != 0) = true ∧ CallsF P G 10 [] (bool true) ∧ E (bool true)) get3 ent3 (by kernel_rfl) ?_
  refine ⟨?_, ?_, ?_, ?_, ?_, rfl, ?_, ?_, rfl, ?_, ?_, ?_, rfl⟩
  all_goals first | exact h0 | exact h1 | exact h2 | exact h3 | exact h4 | exact h5 | exact h6 | (simp; done) | (simp_all; done)
theorem maps_good (l q : List (V × V)) (v m : V) (g : Int) (q2 : List (V × V))  (h0 : CallsF P G 4 [encPs l] (.tup [encV m, int 0])) (h1 : CallsF P G 5 [encPs l] (.tup [encV m, int 0])) (h2 : CallsF P G 6 [encV v] (.tup [encPs q, int g])) (h3 : CallsF P G 7 [encV v] (.tup [encPs q, int g])) (h4 : CallsF P G 8 [encV m, encV m] (bool true)) (h5 : CallsF P G 9 [encPs q, encPs q] (bool true)) (h6 : CallsF P G 6 [encV m] (.tup [encPs q2, int 0])) (h7 : CallsF P G 4 [encPs q2] (.tup [encV m, int 0])) (h8 : CallsF P G 10 [] (bool true)) : CallsF P G 3 [encPs l, encV v] (bool true) := by
  refine sx_fn (hs := let z1 := FV.tup [encV m, int 0]; [.call z1, .call z1, .call (FV.tup [encPs q, int g]), .call (FV.tup [encPs q, int g]), .call (bool true), .dec false, .dec false, .call (bool true), .dec false, .br [] [.dec false, .call (FV.tup [encPs q2, int 0]), .call z1, .dec true, .dec true, .call (bool true), .dec true, .call (bool true)]]) (let z1 := FV.tup [encV m, int 0]; let z2 := FV.tup [FV.sl 8 (cellsPs q), int g]; CallsF P G 4 [FV.sl 8 (cellsPs l)] z1 ∧ CallsF P G 5 [FV.sl 8 (cellsPs l)] z1 ∧ CallsF P G 6 [encV v] z2 ∧ CallsF P G 7 [encV v] z2 ∧ CallsF P G 8 [encV m, encV m] (bool true) ∧ E false ∧ E false ∧ CallsF P G 9 [FV.sl 8 (cellsPs q), FV.sl 8 (cellsPs q)] (bool true) ∧ E false ∧ Br (g != g) (bool false = bool true) (E false ∧ CallsF P G 6 [encV m] (FV.tup [FV.sl 8 (cellsPs q2), int 0]) ∧ CallsF P G 4 [FV.sl 8 (cellsPs q2)] z1 ∧ E true ∧ E true ∧ CallsF P G 8 [encV m, encV m] (bool true) ∧ E true ∧ CallsF P G 10 [] (bool true) ∧ E (bool true))) get3 ent3 (by kernel_rfl) ?_
  refine ⟨?_, ?_, ?_, ?_, ?_, rfl, rfl, ?_, rfl, fun hi => ?_, fun hi => ⟨rfl, ?_, ?_, rfl, rfl, ?_, rfl, ?_, rfl⟩⟩
  all_goals first | exact h0 | exact h1 | exact h2 | exact h3 | exact h4 | exact h5 | exact h6 | exact h7 | exact h8 | (simp_all; done)
open Sp.Sy
theorem nilP (x : FV) : ∀ w ok v, FRel w ok (.tup [.nils, x]) v → FRel w ok (.tup [encPs [], x]) v := by
  intro w ok v h
  simp only [FRel, FRelL] at h ⊢
  obtain ⟨cs, e, v1, r1, e1, h1, h2⟩ := h
  exact ⟨cs, e, v1, r1, e1, nils_sl 8 w ok v1 h1, h2⟩
theorem right_items {n : Int} {s : List UInt8} {l : List V} (h : rightB (.mk 6 n s l) = true) : l.length % 2 = 0 ∧ l.length ≤ 1000000 := by
  have hc : 0 < countV (.mk 6 n s l) 16 1024 := by simpa [rightB] using h
  obtain ⟨h1, h2, h3, h4⟩ := count_parts hc
  simp only [formB] at h2
  rw [if_neg (by omega), if_neg (by omega), if_pos trivial, Bool.and_eq_true, decide_eq_true_eq] at h2
  exact ⟨h2.1, by omega⟩
theorem prs_fine {l : List V} (hf : ∀ x, x ∈ l → Fine x) : ∀ j, 2 * j ≤ l.length → ∀ p, p ∈ prs l j → Fine p.1 ∧ Fine p.2
  | 0, _, p, hp => by simp [prs] at hp
  | j + 1, hj, p, hp => by
    rw [prs, List.mem_append] at hp
    rcases hp with hp | hp
    · exact prs_fine hf j (by omega) p hp
    · simp only [List.mem_singleton] at hp
      subst hp
      exact ⟨hf _ (getD_mem (by omega)), hf _ (getD_mem (by omega))⟩
theorem vpairs_both (v : V) (hv : Fine v) : ∃ q g, (∀ p, p ∈ q → Fine p.1 ∧ Fine p.2) ∧ q.length ≤ 1000000 ∧ CallsF P G 6 [encV v] (.tup [encPs q, int g]) ∧ CallsF P G 7 [encV v] (.tup [encPs q, int g]) := by
  obtain ⟨k, n, s, l⟩ := v
  have r1 := right_ok _ hv
  have r2 := refRight_ok _ hv
  cases hr : rightB (.mk k n s l) with
  | false =>
    rw [hr] at r1 r2
    exact ⟨[], 3, by simp, by simp, (vpairs_bad _ r1).weak (nilP _), (rpairs_bad _ r2).weak (nilP _)⟩
  | true =>
    rw [hr] at r1 r2
    by_cases hk : k = 6
    · subst hk
      obtain ⟨e1, e2⟩ := right_items hr
      have hf := hv.items.2
      refine ⟨prs l (l.length / 2), 0, prs_fine hf _ (by omega), by rw [prs_len]; omega, vpairs_run n s l _ e2 (by omega) r1 (fun i hi => ownPair_ok _ (hf _ (getD_mem (by omega))) (hf _ (getD_mem (by omega)))), rpairs_run n s l _ r2 (pairsOf_run n s l _ e2 (by omega))⟩
    · exact ⟨[], 1, by simp, by simp, (vpairs_kind k n s l r1 hk).weak (nilP _), (rpairs_kind k n s l r2 hk).weak (nilP _)⟩
theorem itemsL_get : ∀ (L : List (V × V)) (i : Nat), i < L.length → (itemsL L).getD (2 * i) default = (L.getD i default).1 ∧ (itemsL L).getD (2 * i + 1) default = (L.getD i default).2
  | [], i, h => by simp at h
  | p :: L, 0, _ => ⟨rfl, rfl⟩
  | p :: L, i + 1, h => by
    have := itemsL_get L i (by simpa using h)
    rw [show 2 * (i + 1) = 2 * i + 1 + 1 by omega, show 2 * i + 1 + 1 + 1 = (2 * i + 1) + 1 + 1 by omega]
    simpa only [itemsL, List.getD_cons_succ] using this
theorem prs_items (L : List (V × V)) : ∀ j, j ≤ L.length → prs (itemsL L) j = L.take j
  | 0, _ => by simp [prs]
  | j + 1, h => by
    obtain ⟨e1, e2⟩ := itemsL_get L j (by omega)
    rw [prs, prs_items L j (by omega), e1, e2, take_one (by omega)]
/-- A map's pairs make the same map. -/
theorem mapL_again (l : List (V × V)) : mapL (mapL l) = mapL l := by
  refine ris_ext _ _ (mapL_ris _) (mapL_ris _) fun k => ?_
  rw [mapL_fnd]
  generalize hL : mapL l = L
  have hR : Rising cmpV L := hL ▸ mapL_ris l
  cases h : fnd k L with
  | none =>
    refine fnd_none fun q hq h0 => ?_
    have hq : q ∈ L := by simpa using hq
    have : fnd k L ≠ none := by
      unfold fnd
      rw [Ne, List.find?_eq_none]
      intro hh; exact hh q hq (by simpa using h0)
    exact this h
  | some p =>
    obtain ⟨h1, h2⟩ := fnd_mem h
    cases h3 : fnd k L.reverse with
    | none =>
      exfalso
      have : fnd k L.reverse ≠ none := by
        unfold fnd
        rw [Ne, List.find?_eq_none]
        intro hh; exact hh p (by simpa using h1) (by simpa using h2)
      exact this h3
    | some q =>
      obtain ⟨h4, h5⟩ := fnd_mem h3
      have h4 : q ∈ L := by simpa using h4
      have e : cmpV p.1 q.1 = 0 := (cmp0_left (d := q.1) h2).1 h5
      congr 1
      obtain ⟨i, hi, rfl⟩ := List.getElem_of_mem h1
      obtain ⟨j, hj, rfl⟩ := List.getElem_of_mem h4
      have hp := List.pairwise_iff_getElem.1 hR
      have t := cmp_turn L[i].1 L[j].1
      rcases Nat.lt_trichotomy i j with h6 | h6 | h6
      · have := hp i j hi hj h6; omega
      · subst h6; rfl
      · have := hp j i hj hi h6; omega
theorem maps_law (l : List (V × V)) (v : V) (hl : ∀ x, x ∈ l → Fine x.1 ∧ Fine x.2) (hv : Fine v) : CallsF P G 3 [encPs l, encV v] (bool true) := by
  have a1 := map_ok l hl
  have a2 := refMap_ok l hl
  obtain ⟨q, g, q1, q2, b1, b2⟩ := vpairs_both v hv
  have hm : Fine (mapR l).1 := by
    have hz : Fine V0 := Fine.mk 0 0 [] [] (by omega) (by omega) (by simp) (by simp) (by simp)
    have hlen := mapL_len l
    unfold mapR
    split
    · rename_i h0
      have := (pairL_zero h0).1
      unfold madeR
      split
      · exact fineL (N := 2513169434844) (itemsL_fine fun p hp => hl p (mapL_mem hp)) (by rw [itemsL_len]; omega) (by omega) 6 (by omega)
      · exact hz
    · exact hz
  have c1 : CallsF P G 8 [encV (mapR l).1, encV (mapR l).1] (bool true) := by
    have h := eq_ok _ hm (mapR l).1
    rwa [show eqB (mapR l).1 (mapR l).1 = true by simp [eqB]] at h
  have c2 := pairs_same q q2 fun p hp => pairEq_ok p (q1 p hp)
  by_cases he : (mapR l).2 = 0
  · have h0 : pairL l = 0 := by
      apply Classical.byContradiction; intro h
      unfold mapR at he; rw [if_neg h] at he; exact h he
    obtain ⟨hlen, hr⟩ := pairL_zero h0
    have hR : rightB (.mk 6 0 [] (itemsL (mapL l))) = true := by
      apply Classical.byContradiction; intro h
      unfold mapR madeR at he; rw [if_pos h0, if_neg h] at he; simp at he
    have em : mapR l = (.mk 6 0 [] (itemsL (mapL l)), 0) := by unfold mapR madeR; rw [if_pos h0, if_pos hR]
    have hml := mapL_len l
    have hmf : ∀ p, p ∈ mapL l → Fine p.1 ∧ Fine p.2 := fun p hp => hl p (mapL_mem hp)
    have hit := itemsL_fine hmf
    have hp2 : pairL (mapL l) = 0 := by
      unfold pairL
      rw [if_neg (by omega), if_pos]
      rw [List.all_eq_true]
      intro p hp
      have := hr p (mapL_mem hp)
      simp [this.1, this.2]
    have em2 : mapR (mapL l) = (.mk 6 0 [] (itemsL (mapL l)), 0) := by unfold mapR madeR; rw [if_pos hp2, mapL_again, if_pos hR]
    have d2 := map_ok (mapL l) hmf
    rw [em2] at d2
    rw [em] at a1 a2 c1 hm
    have rr := right_ok _ hm
    rw [hR] at rr
    have d1 := vpairs_run 0 [] (itemsL (mapL l)) (mapL l).length (by rw [itemsL_len]; omega) (by rw [itemsL_len]) rr (fun i hi => ownPair_ok _ (hit _ (getD_mem (by rw [itemsL_len]; omega))) (hit _ (getD_mem (by rw [itemsL_len]; omega))))
    rw [prs_items _ _ (Nat.le_refl _), List.take_length] at d1
    exact maps_good l q v _ g (mapL l) a1 a2 b1 b2 c1 c2 d1 d2 speaks_ok
  · exact maps_bad l q v _ g _ he a1 a2 b1 b2 c1 c2 speaks_ok
end Go.Sx

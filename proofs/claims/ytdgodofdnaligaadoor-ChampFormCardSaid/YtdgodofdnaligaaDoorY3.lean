/-
  Proved: what some functions of the program answer, or a law of the evaluator that shows it, one theorem each; its conditions are the hypotheses that stand ahead of it.
-/
import Derived.Test.YtdgodofdnaligaaDoorY2
import Derived.KernelRfl
set_option maxRecDepth 100000
set_option maxHeartbeats 4000000
set_option linter.unusedSimpArgs false
set_option linter.unusedVariables false
namespace Go.Sx
open Go.Proofs Sp
open Sp.Ch Sp.Sy
theorem sgl_single (H : V → Nat) (d : Nat) (m : V × V) : sgl H d [m] = [m] := by
  obtain ⟨A, B, h1, h2, h3⟩ := sgl_turn H d (pl H d m) [] [m] (pl_lt H d m) (fun q hq => by simp [cls, Ne.symm hq])
  have h4 : sgl H d [] = [] := by unfold sgl; exact List.flatMap_eq_nil_iff.2 fun q _ => by simp [cls, one1]
  rw [h4] at h2
  have h5 := List.append_eq_nil_iff.1 h2.symm
  have h6 := List.append_eq_nil_iff.1 h5.2
  rw [h3, h5.1, h6.2]
  simp [cls, one1]
theorem encC_single (H : V → Nat) (f : Nat) (m : V × V) : ∃ n1 n2 nk, encC H f [m] = .ptr [n1, n2, .sl 9 [cellsE H m], .sl 1 nk, int 1] 0 := by
  cases f with
  | zero =>
    have h : srtL cmpV [m] = [m] := List.perm_singleton.1 (srtL_perm cmpV [m])
    exact ⟨.sc (.int .u32 0), .sc (.int .u32 0), [], by rw [encC, h]; rfl⟩
  | succ f => exact ⟨.sc (.int .u32 (sgb H (6 - f) [m] : Int)), .sc (.int .u32 (kdb H (6 - f) [m] : Int)), (kdl H (6 - f) [m]).map fun c => [encC H f c], by rw [encC, sgl_single]; rfl⟩
theorem any_cls {H : V → Nat} {k : V} {L : List (V × V)} (hc : Hc H k L) (d : Nat) (h : L.any (sameK k) = true) : (cls H d (plh d (H k)) L).any (sameK k) = true := by
  obtain ⟨q, hq, hs⟩ := List.any_eq_true.1 h
  exact List.any_eq_true.2 ⟨q, (mem_cls H).2 ⟨hq, by unfold pl; rw [hc q hq hs]⟩, hs⟩
theorem any_srt (k : V) (L : List (V × V)) : thereK k (srtL cmpV L) = L.any (sameK k) := by
  unfold thereK
  rw [Bool.eq_iff_iff, List.any_eq_true, List.any_eq_true]
  exact ⟨fun ⟨q, h8, h9⟩ => ⟨q, (srtL_perm cmpV L).mem_iff.1 h8, h9⟩, fun ⟨q, h8, h9⟩ => ⟨q, (srtL_perm cmpV L).mem_iff.2 h8, h9⟩⟩
/-- WITHOUT: a node without a key is the node of the members without it. -/
theorem wo_ok (H : V → Nat) (hH : ∀ v, H v < 4294967296) : ∀ (f : Nat), f ≤ 7 → ∀ (d : Nat), f + d = 7 → ∀ (L : List (V × V)) (k : V), Dk L → Hc H k L → L.length ≤ 900000 → (∀ q, q ∈ L → Fine q.1) → L.any (sameK k) = true →
    CallsF P G 32 [encC H f L, .sc (.int .u32 (H k : Int)), encV k, int (d : Int)] (encC H f (cut k L))
  | 0, _, d, hfd, L, k, hd, hc, hl, hf, hk => by
    obtain rfl : d = 7 := by omega
    have hS : (srtL cmpV L).length = L.length := (srtL_perm cmpV L).length_eq
    have hR := srtL_rising cmpV_line (fun _ _ e => e) hd
    have hp := plc_ok H (srtL cmpV L) k 0 0 (.sl 1 []) (int (L.length : Int)) (by omega) (fun q hq => hf q ((srtL_perm cmpV L).mem_iff.1 hq)) hR
    obtain ⟨a, m, b, h1, h2, h3, h4, h5, h6, h7⟩ := bot_put (k, k) hd
    rw [any_srt, hk, ← h2] at hp
    obtain ⟨x, rfl⟩ := List.length_eq_one_iff.1 (h5.2 hk)
    have hcl := cut_less hd hk
    have h := wo_bot H (srtL cmpV L) k (H k) 0 0 (L.length : Int) [] a.length true (by omega) (by omega) (by rw [h1]; simp) hp
    refine cast (congrArg (CallsF P G 32 _) ?_) h
    have h7 : srtL cmpV (cut k L) = a ++ b := h7
    rw [encC, h7]
    have e2 : (L.length : Int) - 1 = ((cut k L).length : Int) := by omega
    have e3 := drop_one (cellsEs H a) (cellsEs H b) (cellsE H x)
    have e4 : (cellsEs H a).length = a.length := cellsEs_length H a
    rw [e4] at e3
    have e5 : cellsEs H (a ++ b) = cellsEs H a ++ cellsEs H b := cellsEs_app H a b
    have e6 : cellsEs H (a ++ [x] ++ b) = cellsEs H a ++ ([cellsE H x] ++ cellsEs H b) := by simp [cellsEs]
    rw [e2, e5, ← e3, h1, e6]
  | f + 1, hf7, d, hfd, L, k, hd, hc, hl, hf, hk => by
    obtain rfl : d = 6 - f := by omega
    have ih := wo_ok H hH f (by omega) (6 - f + 1) (by omega)
    have hp : plh (6 - f) (H k) < 32 := pl_lt H _ (k, k)
    have hbit := bit_ok (H k) (6 - f) (hH k) (by omega)
    have hi := index_sgl H (6 - f) (plh (6 - f) (H k)) L hp
    have hj := index_kdl H (6 - f) (plh (6 - f) (H k)) L hp
    have hcl := hc.cls (6 - f) (plh (6 - f) (H k))
    have hdc : Dk (cls H (6 - f) (plh (6 - f) (H k)) L) := hd.cls
    have hlc := cls_len H (6 - f) (plh (6 - f) (H k)) L
    have hfc : ∀ q, q ∈ cls H (6 - f) (plh (6 - f) (H k)) L → Fine q.1 := fun q hq => hf q ((mem_cls H).1 hq).1
    have hkc := any_cls hc (6 - f) hk
    have hless := cut_less hdc hkc
    have hlessL := cut_less hd hk
    have hsame := cls_cut H (6 - f) (plh (6 - f) (H k)) k L
    have hoth : ∀ q, q ≠ plh (6 - f) (H k) → cls H (6 - f) q (cut k L) = cls H (6 - f) q L := fun q hq => by
      rw [cls_cut]; exact cls_cut_other H (6 - f) q (k, k) L (fun x hx hs => hc x hx hs) (fun h => hq h.symm)
    obtain ⟨A, B, C, D, t1, t2, t3, t4, t5, t6⟩ := turn_at H (6 - f) (plh (6 - f) (H k)) L (cut k L) hp hoth
    have hsl := sgl_len H (6 - f) L
    have hkl := kdl_len H (6 - f) L
    have hkE : (kidE H f L).length = (kdl H (6 - f) L).length := by simp [kidE]
    rw [hsame] at t4 t6
    have b1 := b2_lt hp
    have hposc : 1 ≤ (cls H (6 - f) (plh (6 - f) (H k)) L).length := by omega
    have e4 : ((cut k L).length : Int) = (L.length : Int) - 1 := by omega
    show CallsF P G 32 [.ptr [.sc (.int .u32 (sgb H (6 - f) L : Int)), .sc (.int .u32 (kdb H (6 - f) L : Int)), .sl 9 (cellsEs H (sgl H (6 - f) L)), .sl 1 (kidE H f L), int (L.length : Int)] 0, .sc (.int .u32 (H k : Int)), encV k, int ((6 - f : Nat) : Int)] (encC H (f + 1) (cut k L))
    rcases Nat.lt_or_ge (cls H (6 - f) (plh (6 - f) (H k)) L).length 2 with hlt | hge
    · obtain ⟨m, hm1⟩ := one_cls (show (cls H (6 - f) (plh (6 - f) (H k)) L).length = 1 by omega)
      have hm : sgb H (6 - f) L &&& b2 (plh (6 - f) (H k)) ≠ 0 := bit_in hp (by rw [hm1]; rfl)
      have hcm : cut k (cls H (6 - f) (plh (6 - f) (H k)) L) = [] := List.length_eq_zero_iff.1 (by omega)
      rw [hcm] at t4 t6
      rw [hm1] at t3 t5
      have h := wo_one H (sgl H (6 - f) L) k (H k) (sgb H (6 - f) L) (kdb H (6 - f) L) (b2 (plh (6 - f) (H k))) (L.length : Int) (kidE H f L) (sgn H (6 - f) (plh (6 - f) (H k)) L) (kdn H (6 - f) (plh (6 - f) (H k)) L) (6 - f) (by omega) (sgb_lt _ _ _) (kdb_lt _ _ _) b1 hbit hi hj (by omega) (by omega) (kidE_oneF _ _ _) (kidE_one _ _ _) (by omega) hm (by rw [t3, ← t1]; simp [one1])
      refine cast (congrArg (CallsF P G 32 _) ?_) h
      rw [encC]
      have e1 : sgb H (6 - f) (cut k L) = notN (sgb H (6 - f) L) (b2 (plh (6 - f) (H k))) := bits_clr _ hp (fun q hq => by rw [hoth q hq]) (by rw [hsame, hcm]; rfl)
      have e2 : kdb H (6 - f) (cut k L) = kdb H (6 - f) L := bits_kept _ (fun q hq => by rw [hoth q hq]) (by rw [hsame, hcm, hm1]; rfl)
      have e3 : kdl H (6 - f) (cut k L) = kdl H (6 - f) L := by rw [t5, t6]; rfl
      have e5 : cellsEs H (sgl H (6 - f) (cut k L)) = (cellsEs H (sgl H (6 - f) L)).take (sgn H (6 - f) (plh (6 - f) (H k)) L) ++ (cellsEs H (sgl H (6 - f) L)).drop (sgn H (6 - f) (plh (6 - f) (H k)) L + 1) := by
        rw [t3, t4, ← t1]
        simp [one1, cellsEs, List.drop_append]
      rw [e1, e2, e3, e4, e5]; rfl
    · have hm : sgb H (6 - f) L &&& b2 (plh (6 - f) (H k)) = 0 := bit_out hp (by simp; omega)
      rw [more_some hge] at t5
      rw [one1_none (by omega : (cls H (6 - f) (plh (6 - f) (H k)) L).length ≠ 1)] at t3
      have hrec := ih (cls H (6 - f) (plh (6 - f) (H k)) L) k hdc hcl (by omega) hfc hkc
      obtain ⟨y1, y2, y3, y4, ey⟩ := encC_form H f (cls H (6 - f) (plh (6 - f) (H k)) L)
      have hel : (kidE H f L)[kdn H (6 - f) (plh (6 - f) (H k)) L]? = some [encC H f (cls H (6 - f) (plh (6 - f) (H k)) L)] := by
        unfold kidE; rw [t5, ← t2]; simp
      rw [ey] at hrec hel
      have hjl : kdn H (6 - f) (plh (6 - f) (H k)) L < (kidE H f L).length := by rw [hkE, t5, ← t2]; simp
      rcases Nat.lt_or_ge 1 (cut k (cls H (6 - f) (plh (6 - f) (H k)) L)).length with hc2 | hc2
      · rw [more_some (by omega)] at t6
        rw [one1_none (by omega)] at t4
        obtain ⟨z1, z2, z3, z4, ez⟩ := encC_form H f (cut k (cls H (6 - f) (plh (6 - f) (H k)) L))
        rw [ez] at hrec
        have h := wo_kid H (sgl H (6 - f) L) k (H k) (sgb H (6 - f) L) (kdb H (6 - f) L) (b2 (plh (6 - f) (H k))) (L.length : Int) (kidE H f L) (sgn H (6 - f) (plh (6 - f) (H k)) L) (kdn H (6 - f) (plh (6 - f) (H k)) L) (6 - f) y1 y2 z1 z2 y3 z3 y4 z4 _ _ (by omega) (sgb_lt _ _ _) (kdb_lt _ _ _) b1 hbit hi hj (by omega) (by omega) (kidE_oneF _ _ _) (kidE_one _ _ _) (by omega) hm hjl hel hrec (by omega)
        refine cast (congrArg (CallsF P G 32 _) ?_) h
        rw [encC, ← ez]
        have e1 : sgb H (6 - f) (cut k L) = sgb H (6 - f) L := bits_kept _ (fun q hq => by rw [hoth q hq]) (by rw [hsame, Bool.eq_iff_iff]; simp; omega)
        have e2 : kdb H (6 - f) (cut k L) = kdb H (6 - f) L := bits_kept _ (fun q hq => by rw [hoth q hq]) (by rw [hsame, Bool.eq_iff_iff]; simp; omega)
        have e3 : ((kdl H (6 - f) (cut k L)).map fun c => [encC H f c]) = (kidE H f L).set (kdn H (6 - f) (plh (6 - f) (H k)) L) [encC H f (cut k (cls H (6 - f) (plh (6 - f) (H k)) L))] := by
          unfold kidE
          rw [t5, t6, ← t2]
          simp [List.set_append]
        have e5 : sgl H (6 - f) (cut k L) = sgl H (6 - f) L := by rw [t3, t4]
        rw [e1, e2, e3, e4, e5]
      · obtain ⟨m, hm1⟩ := one_cls (show (cut k (cls H (6 - f) (plh (6 - f) (H k)) L)).length = 1 by omega)
        rw [hm1] at t4 t6 hrec
        obtain ⟨z1, z2, z4, ez⟩ := encC_single H f m
        rw [ez] at hrec
        have h := wo_up H (sgl H (6 - f) L) k (H k) (sgb H (6 - f) L) (kdb H (6 - f) L) (b2 (plh (6 - f) (H k))) (L.length : Int) (kidE H f L) (sgn H (6 - f) (plh (6 - f) (H k)) L) (kdn H (6 - f) (plh (6 - f) (H k)) L) (6 - f) m y1 y2 z1 z2 y3 [cellsE H m] y4 z4 _ 1 (by omega) (sgb_lt _ _ _) (kdb_lt _ _ _) b1 hbit hi hj (by omega) (by omega) (kidE_oneF _ _ _) (kidE_one _ _ _) (by omega) hm hjl hel hrec (by omega) (by rw [t3, ← t1]; simp) (only_one H m z1 z2 z4 1)
        refine cast (congrArg (CallsF P G 32 _) ?_) h
        rw [encC]
        have e1 : sgb H (6 - f) (cut k L) = sgb H (6 - f) L ||| b2 (plh (6 - f) (H k)) := bits_set _ hp (fun q hq => by rw [hoth q hq]) (by rw [hsame, hm1]; rfl)
        have e2 : kdb H (6 - f) (cut k L) = notN (kdb H (6 - f) L) (b2 (plh (6 - f) (H k))) := bits_clr _ hp (fun q hq => by rw [hoth q hq]) (by rw [hsame, hm1]; rfl)
        have e3 : ((kdl H (6 - f) (cut k L)).map fun c => [encC H f c]) = (kidE H f L).take (kdn H (6 - f) (plh (6 - f) (H k)) L) ++ (kidE H f L).drop (kdn H (6 - f) (plh (6 - f) (H k)) L + 1) := by
          unfold kidE
          rw [t5, t6, ← t2]
          simp [more, List.drop_append]
        have e5 : cellsEs H (sgl H (6 - f) (cut k L)) = (cellsEs H (sgl H (6 - f) L)).take (sgn H (6 - f) (plh (6 - f) (H k)) L) ++ [cellsE H m] ++ (cellsEs H (sgl H (6 - f) L)).drop (sgn H (6 - f) (plh (6 - f) (H k)) L) := by
          rw [t3, t4, ← t1]
          simp [one1, cellsEs]
        rw [e1, e2, e3, e4, e5]
end Go.Sx

/-
  Proved: what some functions of the program answer, or a law of the evaluator that shows it, one theorem each; its conditions are the hypotheses that stand ahead of it.
-/
import Derived.Test.YtdgodofdnaligaaDoorPCm
import Derived.KernelRfl
set_option maxRecDepth 100000
set_option maxHeartbeats 4000000
set_option linter.unusedSimpArgs false
set_option linter.unusedVariables false
namespace Go.Sx
open Go.Proofs Sp
/-- One word says less than another one. -/
def Le (x y : FV) : Prop := ∀ w ok v, FRel w ok x v → FRel w ok y v
def LeL : List FV → List FV → Prop
  | [], [] => True
  | x :: l, y :: m => Le x y ∧ LeL l m
  | _, _ => False
open Sp.Ch Sp.Sy
theorem LeL.nil : LeL [] [] := trivial
theorem LeL.cons {x y : FV} {l m : List FV} (h : Le x y) (t : LeL l m) : LeL (x :: l) (y :: m) := ⟨h, t⟩
theorem Le.rfl {x : FV} : Le x x := fun _ _ _ h => h
theorem LeL.refl : ∀ l : List FV, LeL l l
  | [] => trivial
  | x :: l => ⟨Le.rfl, LeL.refl l⟩
theorem relC_le {w : World} {ok : Nat → Prop} {b : Nat} : ∀ (l m : List FV) (o : Nat), LeL l m → FRelC w ok l b o → FRelC w ok m b o
  | [], [], _, _, h => h
  | x :: l, y :: m, o, hl, h => by
    simp only [FRelC] at h ⊢
    obtain ⟨⟨v, h1, h2⟩, h3⟩ := h
    exact ⟨⟨v, h1, hl.1 _ _ _ h2⟩, relC_le l m _ hl.2 h3⟩
theorem relL_le {w : World} {ok : Nat → Prop} : ∀ (l m : List FV) (cs : List Value), LeL l m → FRelL w ok l cs → FRelL w ok m cs
  | [], [], _, _, h => h
  | x :: l, y :: m, cs, hl, h => by
    simp only [FRelL] at h ⊢
    obtain ⟨v, r, e, h1, h2⟩ := h
    exact ⟨v, r, e, hl.1 _ _ _ h1, relL_le l m _ hl.2 h2⟩
theorem le_ptr {l m : List FV} (h : LeL l m) (k : Nat) : Le (.ptr l k) (.ptr m k) := by
  intro w ok v h1
  simp only [FRel] at h1 ⊢
  obtain ⟨b, o, e, h2, h3⟩ := h1
  exact ⟨b, o, e, h2, relC_le _ _ _ h h3⟩
theorem le_agg {l m : List FV} (h : LeL l m) : Le (.agg l) (.agg m) := by
  intro w ok v h1
  simp only [FRel] at h1 ⊢
  obtain ⟨cs, e, h2⟩ := h1
  exact ⟨cs, e, relL_le _ _ _ h h2⟩
theorem le_tup {l m : List FV} (h : LeL l m) : Le (.tup l) (.tup m) := by
  intro w ok v h1
  simp only [FRel] at h1 ⊢
  obtain ⟨cs, e, h2⟩ := h1
  exact ⟨cs, e, relL_le _ _ _ h h2⟩
theorem le_nils (z : Nat) : Le .nils (.sl z []) := nils_sl z
theorem CallsF.le {f : Nat} {args : List FV} {r s : FV} (h : CallsF P G f args r) (hl : Le r s) : CallsF P G f args s := h.weak hl
theorem CallsF.argL {f : Nat} {args args' : List FV} {r : FV} (h : CallsF P G f args r) (hl : LeL args' args) : CallsF P G f args' r :=
  fun w ok vs hg hok hv => h w ok vs hg hok (relL_le _ _ _ hl hv)
theorem encC_form (H : V → Nat) (f : Nat) (L : List (V × V)) : ∃ k1 k2 ke kk, encC H f L = .ptr [k1, k2, .sl 9 ke, .sl 1 kk, int (L.length : Int)] 0 := by
  cases f with
  | zero => exact ⟨_, _, _, _, rfl⟩
  | succ f => exact ⟨_, _, _, _, rfl⟩
theorem bits_no : ∀ n, Sp.Ch.bits (fun _ => false) n = 0
  | 0 => rfl
  | n + 1 => by simp [Sp.Ch.bits, bits_no n]
/-- An empty node is one of no members. -/
theorem encC_nil (H : V → Nat) (f : Nat) : encC H f [] = .ptr [.sc (.int .u32 0), .sc (.int .u32 0), .sl 9 [], .sl 1 [], int 0] 0 := by
  cases f with
  | zero => rfl
  | succ f =>
    have h1 : sgb H (6 - f) [] = 0 := by unfold sgb; exact (bits_congr 32 fun q _ => by simp [cls]).trans (bits_no 32)
    have h2 : kdb H (6 - f) [] = 0 := by unfold kdb; exact (bits_congr 32 fun q _ => by simp [cls]).trans (bits_no 32)
    have h3 : sgl H (6 - f) [] = [] := by unfold sgl; exact List.flatMap_eq_nil_iff.2 fun q _ => by simp [cls, one1]
    have h4 : kdl H (6 - f) [] = [] := by unfold kdl; exact List.flatMap_eq_nil_iff.2 fun q _ => by simp [cls, more]
    rw [encC, h1, h2, h3, h4]; rfl
theorem zero_node (H : V → Nat) (f : Nat) : Le (.ptr [.sc (.int .u32 0), .sc (.int .u32 0), .nils, .nils, int 0] 0) (encC H f []) := by
  rw [encC_nil]
  exact le_ptr (LeL.cons Le.rfl (LeL.cons Le.rfl (LeL.cons (le_nils 9) (LeL.cons (le_nils 1) (LeL.cons Le.rfl LeL.nil))))) 0
/-- The nodes below, as a row. -/
def kidE (H : V → Nat) (f : Nat) (L : List (V × V)) : List (List FV) := (kdl H (6 - f) L).map fun c => [encC H f c]
theorem kidE_one (H : V → Nat) (f : Nat) (L : List (V × V)) : ∀ x ∈ kidE H f L, x.length = 1 := by
  intro x hx
  obtain ⟨c, _, rfl⟩ := List.mem_map.1 hx
  rfl
theorem kidE_oneF (H : V → Nat) (f : Nat) (L : List (V × V)) : oneF (kidE H f L) := by
  intro x hx
  obtain ⟨l, hl, hx⟩ := List.mem_flatten.1 hx
  obtain ⟨c, _, rfl⟩ := List.mem_map.1 hl
  simp at hx; subst hx
  obtain ⟨_, _, _, _, e⟩ := encC_form H f c
  rw [e]; rfl
theorem fm_len_le {α β γ : Type} (f : α → List β) (g : α → List γ) (h : ∀ x, (f x).length ≤ (g x).length) : ∀ l : List α, (l.flatMap f).length ≤ (l.flatMap g).length
  | [] => Nat.le_refl _
  | x :: l => by
    have h1 := fm_len_le f g h l; have h2 := h x
    rw [List.flatMap_cons, List.flatMap_cons, List.length_append, List.length_append]; omega
theorem sgl_len (H : V → Nat) (d : Nat) (L : List (V × V)) : (sgl H d L).length ≤ L.length := by
  have h1 := (classes_perm H d L).length_eq
  rw [← h1]; unfold sgl
  refine fm_len_le _ _ (fun q => ?_) _
  unfold one1; split
  · exact Nat.le_refl _
  · exact Nat.zero_le _
theorem kdl_len (H : V → Nat) (d : Nat) (L : List (V × V)) : (kdl H d L).length ≤ L.length := by
  have h1 := (classes_perm H d L).length_eq
  rw [← h1]; unfold kdl
  refine fm_len_le _ _ (fun q => ?_) _
  unfold more; split
  · simp; omega
  · exact Nat.zero_le _
theorem cellsEs_app (H : V → Nat) (A B : List (V × V)) : cellsEs H (A ++ B) = cellsEs H A ++ cellsEs H B := by simp [cellsEs]
theorem bit_in {S : Nat → Bool} {p : Nat} (hp : p < 32) (h : S p = true) : Sp.Ch.bits S 32 &&& b2 p ≠ 0 := by
  unfold b2; rw [bits_and S p hp, if_pos h]; exact Nat.pos_iff_ne_zero.1 (Nat.two_pow_pos p)
theorem bit_out {S : Nat → Bool} {p : Nat} (hp : p < 32) (h : S p = false) : Sp.Ch.bits S 32 &&& b2 p = 0 := by
  unfold b2; rw [bits_and S p hp, if_neg (by simp [h])]
/-- WITH: a node with a member is the node of the members with it. -/
theorem with_ok (H : V → Nat) (hH : ∀ v, H v < 4294967296) : ∀ (f : Nat), f ≤ 7 → ∀ (d : Nat), f + d = 7 → ∀ (L : List (V × V)) (e : V × V), Dk L → Hc H e.1 L → L.length ≤ 900000 → (∀ q, q ∈ L → Fine q.1) → Fine e.1 →
    CallsF P G 39 [encC H f L, .agg (cellsE H e), int (d : Int)] (encC H f (put e L))
  | 0, _, d, hfd, L, e, hd, hc, hl, hf, he => by
    obtain rfl : d = 7 := by omega
    have hS : (srtL cmpV L).length = L.length := (srtL_perm cmpV L).length_eq
    have hR := srtL_rising cmpV_line (fun _ _ e => e) hd
    have hp := plc_ok H (srtL cmpV L) e.1 0 0 (.sl 1 []) (int (L.length : Int)) (by omega) (fun q hq => hf q ((srtL_perm cmpV L).mem_iff.1 hq)) hR
    obtain ⟨a, m, b, h1, h2, h3, h4, h5, h6, h7⟩ := bot_put e hd
    have ht : thereK e.1 (srtL cmpV L) = L.any (sameK e.1) := by
      unfold thereK
      rw [Bool.eq_iff_iff, List.any_eq_true, List.any_eq_true]
      exact ⟨fun ⟨q, h8, h9⟩ => ⟨q, (srtL_perm cmpV L).mem_iff.1 h8, h9⟩, fun ⟨q, h8, h9⟩ => ⟨q, (srtL_perm cmpV L).mem_iff.2 h8, h9⟩⟩
    have hpl := put_len e L
    have hfl : (L.filter (sameK e.1)).length = m.length := by
      have h8 := ((srtL_perm cmpV L).filter (sameK e.1)).length_eq
      rw [← h8, h1, List.filter_append, List.filter_append, ← h3]
      have hb := h7
      have e1 : a.filter (sameK e.1) = [] ∧ b.filter (sameK e.1) = [] := by
        have h9 : (srtL cmpV (cut e.1 L)).filter (sameK e.1) = [] := List.filter_eq_nil_iff.2 fun q hq => by
          have := (srtL_perm cmpV _).mem_iff.1 hq
          have := (List.mem_filter.1 this).2
          simpa using this
        rw [h7, List.filter_append] at h9
        exact List.append_eq_nil_iff.1 h9
      rw [e1.1, e1.2]; simp
    rw [ht] at hp
    cases hm : m.length with
    | zero =>
      have hm0 : m = [] := List.length_eq_zero_iff.1 hm
      subst hm0
      have hf0 : L.any (sameK e.1) = false := by
        cases hx : L.any (sameK e.1) with
        | false => rfl
        | true => have := h5.2 hx; omega
      rw [hf0, ← h2] at hp
      have h := with_bot_new H (srtL cmpV L) e 0 0 (L.length : Int) [] a.length (by omega) (by omega) (by rw [h1]; simp) hp
      refine cast (congrArg (CallsF P G 39 _) ?_) h
      rw [encC, h6]
      have e2 : (L.length : Int) + 1 = ((put e L).length : Int) := by omega
      rw [e2, h1, cellsEs_app]
      have e3 := ins_one (cellsEs H a) (cellsEs H b) (cellsE H e)
      have e4 : (cellsEs H a).length = a.length := cellsEs_length H a
      rw [e4] at e3
      have e5 : cellsEs H (a ++ ([e] ++ b)) = cellsEs H a ++ ([cellsE H e] ++ cellsEs H b) := by simp [cellsEs]
      rw [e5, ← e3]
      simp [cellsEs]
    | succ n =>
      obtain rfl : n = 0 := by omega
      obtain ⟨x, rfl⟩ := List.length_eq_one_iff.1 hm
      rw [h5.1 hm, ← h2] at hp
      have h := with_bot_in H (srtL cmpV L) e 0 0 (L.length : Int) [] a.length (by omega) (by rw [h1]; simp) hp
      refine cast (congrArg (CallsF P G 39 _) ?_) h
      rw [encC, h6]
      have e2 : (L.length : Int) = ((put e L).length : Int) := by simp at hfl; omega
      rw [← e2, h1]
      have e3 := set_one (cellsEs H a) (cellsEs H b) (cellsE H x) (cellsE H e)
      have e4 : (cellsEs H a).length = a.length := cellsEs_length H a
      rw [e4] at e3
      have e5 : cellsEs H (a ++ ([e] ++ b)) = cellsEs H a ++ ([cellsE H e] ++ cellsEs H b) := by simp [cellsEs]
      have e6 : cellsEs H (a ++ [x] ++ b) = cellsEs H a ++ ([cellsE H x] ++ cellsEs H b) := by simp [cellsEs]
      rw [e5, ← e3, e6]
  | f + 1, hf7, d, hfd, L, e, hd, hc, hl, hf, he => by
    obtain rfl : d = 6 - f := by omega
    have ih := with_ok H hH f (by omega) (6 - f + 1) (by omega)
    have hp : pl H (6 - f) e < 32 := pl_lt H _ e
    have hbit := bit_ok (H e.1) (6 - f) (hH e.1) (by omega)
    have hi := index_sgl H (6 - f) (pl H (6 - f) e) L hp
    have hj := index_kdl H (6 - f) (pl H (6 - f) e) L hp
    have hcl := hc.cls (6 - f) (pl H (6 - f) e)
    have hdc : Dk (cls H (6 - f) (pl H (6 - f) e) L) := hd.cls
    have hlc := cls_len H (6 - f) (pl H (6 - f) e) L
    have hfc : ∀ q, q ∈ cls H (6 - f) (pl H (6 - f) e) L → Fine q.1 := fun q hq => hf q ((mem_cls H).1 hq).1
    have hg := put_grow (H := H) hc (6 - f)
    have hsame := cls_put_same H (6 - f) e L
    have hoth : ∀ q, q ≠ pl H (6 - f) e → cls H (6 - f) q (put e L) = cls H (6 - f) q L := fun q hq => cls_put_other H (6 - f) q e L (fun x hx hs => hc x hx hs) (fun h => hq h.symm)
    obtain ⟨A, B, C, D, t1, t2, t3, t4, t5, t6⟩ := turn_at H (6 - f) (pl H (6 - f) e) L (put e L) hp hoth
    have hsl := sgl_len H (6 - f) L
    have hkl := kdl_len H (6 - f) L
    have hkE : (kidE H f L).length = (kdl H (6 - f) L).length := by simp [kidE]
    rw [hsame] at t4 t6
    have hpg := put_ge e hdc
    have b1 := b2_lt hp
    show CallsF P G 39 [.ptr [.sc (.int .u32 (sgb H (6 - f) L : Int)), .sc (.int .u32 (kdb H (6 - f) L : Int)), .sl 9 (cellsEs H (sgl H (6 - f) L)), .sl 1 (kidE H f L), int (L.length : Int)] 0, .agg (cellsE H e), int ((6 - f : Nat) : Int)] (encC H (f + 1) (put e L))
    rcases Nat.lt_or_ge (cls H (6 - f) (pl H (6 - f) e) L).length 2 with hlt | hge
    · have hn : kdb H (6 - f) L &&& b2 (pl H (6 - f) e) = 0 := bit_out hp (by simp; omega)
      rcases Nat.eq_zero_or_pos (cls H (6 - f) (pl H (6 - f) e) L).length with h0 | h0
      · have h00 := List.length_eq_zero_iff.1 h0
        have hm : sgb H (6 - f) L &&& b2 (pl H (6 - f) e) = 0 := bit_out hp (by simp; omega)
        rw [h00] at t3 t4 t5 t6 hg
        have h := with_new H (sgl H (6 - f) L) e (sgb H (6 - f) L) (kdb H (6 - f) L) (b2 (pl H (6 - f) e)) (L.length : Int) (kidE H f L) (sgn H (6 - f) (pl H (6 - f) e) L) (kdn H (6 - f) (pl H (6 - f) e) L) (6 - f) (by omega) (sgb_lt _ _ _) (kdb_lt _ _ _) b1 hbit hi hj (by omega) (by omega) (kidE_oneF _ _ _) (kidE_one _ _ _) (by omega) hn hm (by rw [t3, ← t1]; simp)
        refine cast (congrArg (CallsF P G 39 _) ?_) h
        rw [encC]
        have e1 : sgb H (6 - f) (put e L) = sgb H (6 - f) L ||| b2 (pl H (6 - f) e) := bits_set _ hp (fun q hq => by rw [hoth q hq]) (by rw [hsame, h00, put_none]; rfl)
        have e2 : kdb H (6 - f) (put e L) = kdb H (6 - f) L := bits_kept _ (fun q hq => by rw [hoth q hq]) (by rw [hsame, h00, put_none]; rfl)
        have e3 : kdl H (6 - f) (put e L) = kdl H (6 - f) L := by rw [t5, t6, put_none]; rfl
        have e4 : ((put e L).length : Int) = (L.length : Int) + 1 := by rw [put_none] at hg; simp at hg; omega
        have e5 : cellsEs H (sgl H (6 - f) (put e L)) = (cellsEs H (sgl H (6 - f) L)).take (sgn H (6 - f) (pl H (6 - f) e) L) ++ [cellsE H e] ++ (cellsEs H (sgl H (6 - f) L)).drop (sgn H (6 - f) (pl H (6 - f) e) L) := by
          rw [t3, t4, put_none, ← t1]
          simp [one1, cellsEs]
        rw [e1, e2, e3, e4, e5]; rfl
      · obtain ⟨m, hm1⟩ := one_cls (show (cls H (6 - f) (pl H (6 - f) e) L).length = 1 by omega)
        have hm : sgb H (6 - f) L &&& b2 (pl H (6 - f) e) ≠ 0 := bit_in hp (by rw [hm1]; rfl)
        rw [hm1] at t3 t4 t5 t6 hg hcl hdc hfc
        have hel : (cellsEs H (sgl H (6 - f) L))[sgn H (6 - f) (pl H (6 - f) e) L]? = some (cellsE H m) := by
          rw [t3, ← t1]; simp [cellsEs, one1]
        have heq := equal_ok (g := G) m.1 e.1 (hfc m (by simp))
        cases hs : sameK e.1 m with
        | true =>
          have hs' : (cmpV m.1 e.1 == 0) = true := hs
          rw [hs'] at heq
          have h := with_same H (sgl H (6 - f) L) e (sgb H (6 - f) L) (kdb H (6 - f) L) (b2 (pl H (6 - f) e)) (L.length : Int) (kidE H f L) (sgn H (6 - f) (pl H (6 - f) e) L) (kdn H (6 - f) (pl H (6 - f) e) L) (6 - f) m (by omega) (sgb_lt _ _ _) (kdb_lt _ _ _) b1 hbit hi hj (by omega) (by omega) (kidE_oneF _ _ _) (kidE_one _ _ _) (by omega) hn hm hel heq
          refine cast (congrArg (CallsF P G 39 _) ?_) h
          rw [encC]
          rw [put_one_same hs] at t4 t6 hg
          have e1 : sgb H (6 - f) (put e L) = sgb H (6 - f) L := bits_kept _ (fun q hq => by rw [hoth q hq]) (by rw [hsame, hm1, put_one_same hs]; rfl)
          have e2 : kdb H (6 - f) (put e L) = kdb H (6 - f) L := bits_kept _ (fun q hq => by rw [hoth q hq]) (by rw [hsame, hm1, put_one_same hs]; rfl)
          have e3 : kdl H (6 - f) (put e L) = kdl H (6 - f) L := by rw [t5, t6]; rfl
          have e4 : ((put e L).length : Int) = (L.length : Int) := by simp at hg; omega
          have e5 : cellsEs H (sgl H (6 - f) (put e L)) = (cellsEs H (sgl H (6 - f) L)).set (sgn H (6 - f) (pl H (6 - f) e) L) (cellsE H e) := by
            rw [t3, t4, ← t1]
            simp [one1, cellsEs, List.set_append]
          rw [e1, e2, e3, e4, e5]; rfl
        | false =>
          have hs' : (cmpV m.1 e.1 == 0) = false := hs
          rw [hs'] at heq
          have hx1 := ih [] m List.Pairwise.nil (fun x hx => by cases hx) (by simp) (fun x hx => by cases hx) (hfc m (by simp))
          rw [put_none] at hx1
          have hx2 := ih [m] e hdc (by exact hcl) (by simp) hfc he
          rw [put_one_other hs] at hx2
          have hx1 := hx1.argL (args' := [.ptr [.sc (.int .u32 0), .sc (.int .u32 0), .nils, .nils, int 0] 0, .agg (cellsE H m), int ((6 - f + 1 : Nat) : Int)]) (LeL.cons (zero_node H f) (LeL.refl _))
          obtain ⟨y1, y2, y3, y4, ey⟩ := encC_form H f [m]
          obtain ⟨z1, z2, z3, z4, ez⟩ := encC_form H f [e, m]
          rw [ey] at hx1 hx2
          rw [ez] at hx2
          have h := with_split H (sgl H (6 - f) L) e (sgb H (6 - f) L) (kdb H (6 - f) L) (b2 (pl H (6 - f) e)) (L.length : Int) (kidE H f L) (sgn H (6 - f) (pl H (6 - f) e) L) (kdn H (6 - f) (pl H (6 - f) e) L) (6 - f) m _ _ (by omega) (sgb_lt _ _ _) (kdb_lt _ _ _) b1 hbit hi hj (by omega) (by omega) (kidE_oneF _ _ _) (kidE_one _ _ _) (by omega) hn hm (by rw [hkE, t5, ← t2]; simp) hel heq hx1 hx2
          refine cast (congrArg (CallsF P G 39 _) ?_) h
          rw [encC, ← ez]
          rw [put_one_other hs] at t4 t6 hg
          have e1 : sgb H (6 - f) (put e L) = notN (sgb H (6 - f) L) (b2 (pl H (6 - f) e)) := bits_clr _ hp (fun q hq => by rw [hoth q hq]) (by rw [hsame, hm1, put_one_other hs]; rfl)
          have e2 : kdb H (6 - f) (put e L) = kdb H (6 - f) L ||| b2 (pl H (6 - f) e) := bits_set _ hp (fun q hq => by rw [hoth q hq]) (by rw [hsame, hm1, put_one_other hs]; rfl)
          have e3 : ((kdl H (6 - f) (put e L)).map fun c => [encC H f c]) = (kidE H f L).take (kdn H (6 - f) (pl H (6 - f) e) L) ++ [[encC H f [e, m]]] ++ (kidE H f L).drop (kdn H (6 - f) (pl H (6 - f) e) L) := by
            unfold kidE
            rw [t5, t6, ← t2]
            simp [more]
          have e4 : ((put e L).length : Int) = (L.length : Int) + 1 := by simp at hg; omega
          have e5 : cellsEs H (sgl H (6 - f) (put e L)) = (cellsEs H (sgl H (6 - f) L)).take (sgn H (6 - f) (pl H (6 - f) e) L) ++ (cellsEs H (sgl H (6 - f) L)).drop (sgn H (6 - f) (pl H (6 - f) e) L + 1) := by
            rw [t3, t4, ← t1]
            simp [one1, cellsEs, List.drop_append]
          rw [e1, e2, e3, e4, e5]
    · have hn : kdb H (6 - f) L &&& b2 (pl H (6 - f) e) ≠ 0 := bit_in hp (by simpa using hge)
      rw [more_some hge] at t5
      rw [more_some (by omega : 2 ≤ (put e (cls H (6 - f) (pl H (6 - f) e) L)).length)] at t6
      rw [one1_none (by omega)] at t3 t4
      have hrec := ih (cls H (6 - f) (pl H (6 - f) e) L) e hdc hcl (by omega) hfc he
      obtain ⟨y1, y2, y3, y4, ey⟩ := encC_form H f (cls H (6 - f) (pl H (6 - f) e) L)
      obtain ⟨z1, z2, z3, z4, ez⟩ := encC_form H f (put e (cls H (6 - f) (pl H (6 - f) e) L))
      have hel : (kidE H f L)[kdn H (6 - f) (pl H (6 - f) e) L]? = some [encC H f (cls H (6 - f) (pl H (6 - f) e) L)] := by
        unfold kidE; rw [t5, ← t2]; simp
      rw [ey] at hrec hel
      rw [ez] at hrec
      have h := with_kid H (sgl H (6 - f) L) e (sgb H (6 - f) L) (kdb H (6 - f) L) (b2 (pl H (6 - f) e)) (L.length : Int) (kidE H f L) (sgn H (6 - f) (pl H (6 - f) e) L) (kdn H (6 - f) (pl H (6 - f) e) L) (6 - f) y1 y2 z1 z2 y3 z3 y4 z4 _ _ (by omega) (sgb_lt _ _ _) (kdb_lt _ _ _) b1 hbit hi hj (by omega) (by omega) (kidE_oneF _ _ _) (kidE_one _ _ _) (by omega) hn (by omega) (by omega) hel hrec
      refine cast (congrArg (CallsF P G 39 _) ?_) h
      rw [encC, ← ez]
      have e1 : sgb H (6 - f) (put e L) = sgb H (6 - f) L := bits_kept _ (fun q hq => by rw [hoth q hq]) (by rw [hsame, Bool.eq_iff_iff]; simp; omega)
      have e2 : kdb H (6 - f) (put e L) = kdb H (6 - f) L := bits_kept _ (fun q hq => by rw [hoth q hq]) (by rw [hsame, Bool.eq_iff_iff]; simp; omega)
      have e3 : ((kdl H (6 - f) (put e L)).map fun c => [encC H f c]) = (kidE H f L).set (kdn H (6 - f) (pl H (6 - f) e) L) [encC H f (put e (cls H (6 - f) (pl H (6 - f) e) L))] := by
        unfold kidE
        rw [t5, t6, ← t2]
        simp [List.set_append]
      have e4 : ((put e L).length : Int) = (L.length : Int) + (((put e (cls H (6 - f) (pl H (6 - f) e) L)).length : Int) - ((cls H (6 - f) (pl H (6 - f) e) L).length : Int)) := by omega
      have e5 : sgl H (6 - f) (put e L) = sgl H (6 - f) L := by rw [t3, t4]
      rw [e1, e2, e3, e4, e5]
end Go.Sx
set_option maxRecDepth 100000
set_option maxHeartbeats 4000000
set_option linter.unusedSimpArgs false
set_option linter.unusedVariables false
namespace Go.Sx
open Go.Proofs Sp
theorem get51 : P.funcs[51]? = some Tryd.f51 := by kernel_rfl
theorem ent51 : entersP P 51 = true := by kernel_rfl
theorem only_one (H : V → Nat) (m : V × V) (k1 k2 : FV) (kk : List (List FV)) (kc : Int)  : CallsF P G 51 [.ptr [k1, k2, .sl 9 [cellsE H m], .sl 1 kk, int kc] 0] (.agg (cellsE H m)) := by
  refine sx_fn (hs := [.loop [(0,0)] [(0,0)] (fun _ => { sl := slots 21 [(0, .f (.ptr [k1, k2, .sl 9 [cellsE H m], .sl 1 kk, int kc] 0)), (2, .loc 0 0)], ob := [(0, .box [.f (.sc (.int .u32 0)), .f (int 0), .f (int 0), .f (str []), .f .nils, .f (int 0), .f (int 0), .f (str []), .f .nils])], nx := 1 }) 0 (fun _ => [.dec true, .el [(.ptr [k1, k2, .sl 9 [cellsE H m], .sl 1 kk, int kc] 0)]]), .dec false, .el (cellsE H m)]) (let z3 := E (Ob.box [AV.f (FV.sc (Value.int IntKind.u32 (Int.ofNat 0))), AV.f (int 0), AV.f (int 0), AV.f (str []), AV.f FV.nils, AV.f (int 0), AV.f (int 0), AV.f (str []), AV.f FV.nils]) ∧ True; let z4 := Value.int IntKind.u32 (↑(H (Prod.fst m)) : Int); let z5 := V.items (Prod.fst m); let z1 := E (AV.f (FV.ptr [k1, k2, FV.sl 9 [FV.sc z4 :: int (V.kind (Prod.fst m)) :: int (V.num (Prod.fst m)) :: str (V.text (Prod.fst m)) :: encI z5 :: cellsP (Prod.snd m)], FV.sl 1 kk, int kc] 0)) ∧ E (AV.loc 0 0) ∧ True; let z2 := FV.sc z4 :: int (V.kind (Prod.fst m)) :: int (V.num (Prod.fst m)) :: str (V.text (Prod.fst m)) :: encI z5 :: cellsP (Prod.snd m); (E true ∧ z1 ∧ z3 ∧ E true ∧ (false = true → false = true)) ∧ (∀ (i : Nat), i < 0 → false = true ∧ (E 1 ∧ (0 : Int) ≤ 0 ∧ kk[Int.toNat 0]? = some [FV.ptr [k1, k2, FV.sl 9 [FV.sc z4 :: int (V.kind (Prod.fst m)) :: int (V.num (Prod.fst m)) :: str (V.text (Prod.fst m)) :: encI z5 :: cellsP (Prod.snd m)], FV.sl 1 kk, int kc] 0]) ∧ E true ∧ z1 ∧ z3 ∧ E true ∧ (false = true → false = true)) ∧ E false ∧ (E 9 ∧ (0 : Int) ≤ 0 ∧ E (some z2)) ∧ E (FV.agg z2)) get51 ent51 (by kernel_rfl) ?_
  refine ⟨⟨rfl, ⟨rfl, rfl, trivial⟩, ⟨rfl, trivial⟩, rfl, fun hi => ?_⟩, fun i => fun hi => ⟨?_, ⟨rfl, ?_, ?_⟩, rfl, ⟨rfl, rfl, trivial⟩, ⟨rfl, trivial⟩, rfl, fun hi => ?_⟩, rfl, ⟨rfl, ?_, rfl⟩, rfl⟩
  all_goals first | (exfalso; omega) | assumption | omega
theorem get32 : P.funcs[32]? = some Tryd.f32 := by kernel_rfl
theorem ent32 : entersP P 32 = true := by kernel_rfl
theorem wo_bot (H : V → Nat) (S : List (V × V)) (k : V) (h : Nat) (a1 a2 ct : Int) (Ks : List (List FV)) (i : Nat) (q : Bool) (hl : S.length ≤ 1000000) (hct : 1 ≤ ct ∧ ct ≤ 1000000) (hil : i < S.length) (hp : CallsF P G 37 [.ptr [.sc (.int .u32 (a1)), .sc (.int .u32 (a2)), .sl 9 (cellsEs H S), .sl 1 (Ks), int (ct)] 0, encV k] (.tup [int (i : Int), bool q])) : CallsF P G 32 [.ptr [.sc (.int .u32 (a1)), .sc (.int .u32 (a2)), .sl 9 (cellsEs H S), .sl 1 (Ks), int (ct)] 0, .sc (.int .u32 (h : Int)), encV k, int 7] (.ptr [.sc (.int .u32 (a1)), .sc (.int .u32 (a2)), .sl 9 ((cellsEs H S).take i ++ (cellsEs H S).drop (i + 1)), .sl 1 (Ks), int (ct - 1)] 0) := by
  refine sx_fn (hs := [.dec true, .call (.tup [int (i : Int), bool q]), .callO 51 9 (cellsEs H S), .callW ((cellsEs H S).take i ++ (cellsEs H S).drop (i + 1)) none, .lfz [3, 1]]) (let z1 := List.take i (cellsEs H S) ++ List.drop (i + 1) (cellsEs H S); let z2 := Value.int IntKind.u32 a1; let z3 := Value.int IntKind.u32 a2; E true ∧ CallsF P G 37 [FV.ptr [FV.sc z2, FV.sc z3, FV.sl 9 (cellsEs H S), FV.sl 1 Ks, int ct] 0, encV k] (FV.tup [int (i : Int), bool q]) ∧ CallsO P G 47 [FV.sl 9 (cellsEs H S)] (51) (9) (cellsEs H S) ∧ CallsW P G 46 (51) (9) (cellsEs H S) ([int (i : Int), int (IntKind.wrap IntKind.i64 ((i : Int) + 1))]) z1 (none) ∧ FV.ptr [FV.sc z2, FV.sc z3, FV.sl 9 z1, FV.sl 1 Ks, int (IntKind.wrap IntKind.i64 (ct - 1))] 0 = FV.ptr [FV.sc z2, FV.sc z3, FV.sl 9 z1, FV.sl 1 Ks, int (ct - 1)] 0) get32 ent32 (by kernel_rfl) ?_
  refine ⟨rfl, ?_, ?_, ?_, ?_⟩
  all_goals first | exact hp | exact cloneE_ok _ (by rw [cellsEs_length]; exact hl) (oneF_cellsEs H S) (cellsEs_len9 H S) | (rw [wrapS _ (by omega) (by omega)]; exact delete_okE rfl _ i (by rw [cellsEs_length]; exact hil) (by rw [cellsEs_length]; exact hl) (oneF_cellsEs H S)) | (rw [wrapS _ (by omega) (by omega)])
theorem wo_one (H : V → Nat) (S : List (V × V)) (k : V) (h a1 a2 b : Nat) (ct : Int) (Ks : List (List FV)) (i j d : Nat)  (hd : d ≤ 6) (h1 : a1 < 4294967296) (h2 : a2 < 4294967296) (hb : b < 4294967296) (hbit : CallsF P G 34 [.sc (.int .u32 (h : Int)), int (d : Int)] (.sc (.int .u32 (b : Int)))) (hi : CallsF P G 35 [.sc (.int .u32 (a1 : Int)), .sc (.int .u32 (b : Int))] (int (i : Int))) (hj : CallsF P G 35 [.sc (.int .u32 (a2 : Int)), .sc (.int .u32 (b : Int))] (int (j : Int))) (hl : S.length ≤ 1000000) (hKl : Ks.length ≤ 1000000) (hKo : oneF Ks) (hK1 : ∀ x ∈ Ks, x.length = 1) (hct : 1 ≤ ct ∧ ct ≤ 1000000) (hm : a1 &&& b ≠ 0) (hil : i < S.length) : CallsF P G 32 [.ptr [.sc (.int .u32 ((a1 : Int))), .sc (.int .u32 ((a2 : Int))), .sl 9 (cellsEs H S), .sl 1 (Ks), int (ct)] 0, .sc (.int .u32 (h : Int)), encV k, int (d : Int)] (.ptr [.sc (.int .u32 (((notN a1 b : Nat) : Int))), .sc (.int .u32 ((a2 : Int))), .sl 9 ((cellsEs H S).take i ++ (cellsEs H S).drop (i + 1)), .sl 1 (Ks), int (ct - 1)] 0) := by
  refine sx_fn (hs := [.dec false, .call (.sc (.int .u32 (b : Int))), .nat 14, .call (int (i : Int)), .call (int (j : Int)), .dec true, .callO 51 9 (cellsEs H S), .callW ((cellsEs H S).take i ++ (cellsEs H S).drop (i + 1)) none, .lfz [3, 1]]) (let z1 := List.take i (cellsEs H S) ++ List.drop (i + 1) (cellsEs H S); let z2 := IntKind.bits IntKind.u32; let z3 := Value.int IntKind.u32 (a2 : Int); let z4 := Value.int IntKind.u32 (b : Int); ((d : Int) == 7) = false ∧ CallsF P G 34 [FV.sc (Value.int IntKind.u32 (h : Int)), int (d : Int)] (FV.sc z4) ∧ E true ∧ CallsF P G 35 [FV.sc (Value.int IntKind.u32 (a1 : Int)), FV.sc z4] (int (i : Int)) ∧ CallsF P G 35 [FV.sc z3, FV.sc z4] (int (j : Int)) ∧ (IntKind.wrap IntKind.u32 (↑(BitVec.toNat (BitVec.ofInt z2 (a1 : Int) &&& BitVec.ofInt z2 (b : Int))) : Int) != 0) = true ∧ CallsO P G 47 [FV.sl 9 (cellsEs H S)] (51) (9) (cellsEs H S) ∧ CallsW P G 46 (51) (9) (cellsEs H S) ([int (i : Int), int (IntKind.wrap IntKind.i64 ((i : Int) + 1))]) z1 (none) ∧ FV.ptr [FV.sc (Value.int IntKind.u32 (IntKind.wrap IntKind.u32 (↑(BitVec.toNat (BitVec.ofInt z2 (a1 : Int) &&& ~~~BitVec.ofInt z2 (b : Int))) : Int))), FV.sc z3, FV.sl 9 z1, FV.sl 1 Ks, int (IntKind.wrap IntKind.i64 (ct - 1))] 0 = FV.ptr [FV.sc (Value.int IntKind.u32 (↑(notN a1 b) : Int)), FV.sc z3, FV.sl 9 z1, FV.sl 1 Ks, int (ct - 1)] 0) get32 ent32 (by kernel_rfl) ?_
  refine ⟨?_, ?_, rfl, ?_, ?_, ?_, ?_, ?_, ?_⟩
  all_goals first | exact hbit | exact hi | exact hj | exact cloneE_ok _ (by rw [cellsEs_length]; exact hl) (oneF_cellsEs H S) (cellsEs_len9 H S) | (rw [wrapS _ (by omega) (by omega)]; exact delete_okE rfl _ i (by rw [cellsEs_length]; exact hil) (by rw [cellsEs_length]; exact hl) (oneF_cellsEs H S)) | (have q1 := u32_and a1 b h1 hb; rw [bne_iff_ne]; intro e9; exact hm (by have e8 := q1.symm.trans e9; exact_mod_cast e8)) | (rw [u32_notB a1 b h1 hb, wrapS _ (by omega) (by omega)]) | (rw [beq_eq_false_iff_ne]; omega)
theorem wo_kid (H : V → Nat) (S : List (V × V)) (k : V) (h a1 a2 b : Nat) (ct : Int) (Ks : List (List FV)) (i j d : Nat) (k1 k2 n1 n2 : FV) (ke ne : List (List FV)) (kk nk : List (List FV)) (kc nc : Int)  (hd : d ≤ 6) (h1 : a1 < 4294967296) (h2 : a2 < 4294967296) (hb : b < 4294967296) (hbit : CallsF P G 34 [.sc (.int .u32 (h : Int)), int (d : Int)] (.sc (.int .u32 (b : Int)))) (hi : CallsF P G 35 [.sc (.int .u32 (a1 : Int)), .sc (.int .u32 (b : Int))] (int (i : Int))) (hj : CallsF P G 35 [.sc (.int .u32 (a2 : Int)), .sc (.int .u32 (b : Int))] (int (j : Int))) (hl : S.length ≤ 1000000) (hKl : Ks.length ≤ 1000000) (hKo : oneF Ks) (hK1 : ∀ x ∈ Ks, x.length = 1) (hct : 1 ≤ ct ∧ ct ≤ 1000000) (hm : a1 &&& b = 0) (hjl : j < Ks.length) (hel : Ks[j]? = some [.ptr [k1, k2, .sl 9 ke, .sl 1 kk, int kc] 0]) (hrec : CallsF P G 32 [.ptr [k1, k2, .sl 9 ke, .sl 1 kk, int kc] 0, .sc (.int .u32 (h : Int)), encV k, int ((d : Int) + 1)] (.ptr [n1, n2, .sl 9 ne, .sl 1 nk, int nc] 0)) (hnc : 1 < nc) : CallsF P G 32 [.ptr [.sc (.int .u32 ((a1 : Int))), .sc (.int .u32 ((a2 : Int))), .sl 9 (cellsEs H S), .sl 1 (Ks), int (ct)] 0, .sc (.int .u32 (h : Int)), encV k, int (d : Int)] (.ptr [.sc (.int .u32 ((a1 : Int))), .sc (.int .u32 ((a2 : Int))), .sl 9 (cellsEs H S), .sl 1 (Ks.set j [.ptr [n1, n2, .sl 9 ne, .sl 1 nk, int nc] 0]), int (ct - 1)] 0) := by
  refine sx_fn (hs := [.dec false, .call (.sc (.int .u32 (b : Int))), .nat 14, .call (int (i : Int)), .call (int (j : Int)), .dec false, .nat 13, .el [.ptr [k1, k2, .sl 9 ke, .sl 1 kk, int kc] 0], .call (.ptr [n1, n2, .sl 9 ne, .sl 1 nk, int nc] 0), .dec true, .callO 53 1 Ks, .lfz [2, 1]]) (let z1 := List.set Ks j [FV.ptr [n1, n2, FV.sl 9 ne, FV.sl 1 nk, int nc] 0]; let z2 := Value.int IntKind.u32 (a1 : Int); let z3 := Value.int IntKind.u32 (a2 : Int); let z4 := Value.int IntKind.u32 (b : Int); let z5 := Value.int IntKind.u32 (h : Int); ((d : Int) == 7) = false ∧ CallsF P G 34 [FV.sc z5, int (d : Int)] (FV.sc z4) ∧ E true ∧ CallsF P G 35 [FV.sc z2, FV.sc z4] (int (i : Int)) ∧ CallsF P G 35 [FV.sc z3, FV.sc z4] (int (j : Int)) ∧ (IntKind.wrap IntKind.u32 (↑(BitVec.toNat (BitVec.ofInt (IntKind.bits IntKind.u32) (a1 : Int) &&& BitVec.ofInt (IntKind.bits IntKind.u32) (b : Int))) : Int) != 0) = false ∧ E true ∧ (E 1 ∧ (0 : Int) ≤ (j : Int) ∧ Ks[j]? = some [FV.ptr [k1, k2, FV.sl 9 ke, FV.sl 1 kk, int kc] 0]) ∧ CallsF P G 32 [FV.ptr [k1, k2, FV.sl 9 ke, FV.sl 1 kk, int kc] 0, FV.sc z5, encV k, int (IntKind.wrap IntKind.i64 ((d : Int) + 1))] (FV.ptr [n1, n2, FV.sl 9 ne, FV.sl 1 nk, int nc] 0) ∧ decide (nc > 1) = true ∧ CallsO P G 48 [FV.sl 1 Ks] (53) (1) (Ks) ∧ ((0 : Int) ≤ (j : Int) ∧ j < List.length Ks) ∧ j < List.length Ks ∧ FV.ptr [FV.sc z2, FV.sc z3, FV.sl 9 (cellsEs H S), FV.sl 1 z1, int (IntKind.wrap IntKind.i64 (ct - 1))] 0 = FV.ptr [FV.sc z2, FV.sc z3, FV.sl 9 (cellsEs H S), FV.sl 1 z1, int (ct - 1)] 0) get32 ent32 (by kernel_rfl) ?_
  refine ⟨?_, ?_, rfl, ?_, ?_, ?_, rfl, ⟨rfl, ?_, ?_⟩, ?_, ?_, ?_, ⟨?_, ?_⟩, ?_, ?_⟩
  all_goals first | exact hbit | exact hi | exact hj | exact cloneN_ok _ hKl hKo hK1 | (rw [wrapS _ (by omega) (by omega)]; exact hrec) | (have q1 := u32_and a1 b h1 hb; rw [hm] at q1; rw [bne_eq_false_iff_eq]; exact q1) | (rw [wrapS _ (by omega) (by omega)]) | (rw [beq_eq_false_iff_ne]; omega) | exact hel | exact hjl | omega | (simp only [decide_eq_true_eq, decide_eq_false_iff_not]; omega)
theorem wo_up (H : V → Nat) (S : List (V × V)) (k : V) (h a1 a2 b : Nat) (ct : Int) (Ks : List (List FV)) (i j d : Nat) (m : V × V) (k1 k2 n1 n2 : FV) (ke ne : List (List FV)) (kk nk : List (List FV)) (kc nc : Int)  (hd : d ≤ 6) (h1 : a1 < 4294967296) (h2 : a2 < 4294967296) (hb : b < 4294967296) (hbit : CallsF P G 34 [.sc (.int .u32 (h : Int)), int (d : Int)] (.sc (.int .u32 (b : Int)))) (hi : CallsF P G 35 [.sc (.int .u32 (a1 : Int)), .sc (.int .u32 (b : Int))] (int (i : Int))) (hj : CallsF P G 35 [.sc (.int .u32 (a2 : Int)), .sc (.int .u32 (b : Int))] (int (j : Int))) (hl : S.length ≤ 1000000) (hKl : Ks.length ≤ 1000000) (hKo : oneF Ks) (hK1 : ∀ x ∈ Ks, x.length = 1) (hct : 1 ≤ ct ∧ ct ≤ 1000000) (hm : a1 &&& b = 0) (hjl : j < Ks.length) (hel : Ks[j]? = some [.ptr [k1, k2, .sl 9 ke, .sl 1 kk, int kc] 0]) (hrec : CallsF P G 32 [.ptr [k1, k2, .sl 9 ke, .sl 1 kk, int kc] 0, .sc (.int .u32 (h : Int)), encV k, int ((d : Int) + 1)] (.ptr [n1, n2, .sl 9 ne, .sl 1 nk, int nc] 0)) (hnc : nc ≤ 1) (hil : i ≤ S.length) (ho : CallsF P G 51 [.ptr [n1, n2, .sl 9 ne, .sl 1 nk, int nc] 0] (.agg (cellsE H m))) : CallsF P G 32 [.ptr [.sc (.int .u32 ((a1 : Int))), .sc (.int .u32 ((a2 : Int))), .sl 9 (cellsEs H S), .sl 1 (Ks), int (ct)] 0, .sc (.int .u32 (h : Int)), encV k, int (d : Int)] (.ptr [.sc (.int .u32 (((a1 ||| b : Nat) : Int))), .sc (.int .u32 (((notN a2 b : Nat) : Int))), .sl 9 ((cellsEs H S).take i ++ [cellsE H m] ++ (cellsEs H S).drop i), .sl 1 (Ks.take j ++ Ks.drop (j + 1)), int (ct - 1)] 0) := by
  refine sx_fn (hs := [.dec false, .call (.sc (.int .u32 (b : Int))), .nat 14, .call (int (i : Int)), .call (int (j : Int)), .dec false, .nat 13, .el [.ptr [k1, k2, .sl 9 ke, .sl 1 kk, int kc] 0], .call (.ptr [n1, n2, .sl 9 ne, .sl 1 nk, int nc] 0), .dec false, .callO 53 1 Ks, .callW (Ks.take j ++ Ks.drop (j + 1)) none, .callO 51 9 (cellsEs H S), .call (.agg (cellsE H m)), .lfz [5], .callW ((cellsEs H S).take i ++ [cellsE H m] ++ (cellsEs H S).drop i) none, .lfz [6, 3, 1]]) (let z1 := List.take i (cellsEs H S) ++ [cellsE H m] ++ List.drop i (cellsEs H S); let z2 := IntKind.bits IntKind.u32; let z3 := List.take j Ks ++ List.drop (j + 1) Ks; let z4 := Value.int IntKind.u32 (b : Int); let z5 := Value.int IntKind.u32 (↑(H (Prod.fst m)) : Int); let z6 := Value.int IntKind.u32 (h : Int); ((d : Int) == 7) = false ∧ CallsF P G 34 [FV.sc z6, int (d : Int)] (FV.sc z4) ∧ E true ∧ CallsF P G 35 [FV.sc (Value.int IntKind.u32 (a1 : Int)), FV.sc z4] (int (i : Int)) ∧ CallsF P G 35 [FV.sc (Value.int IntKind.u32 (a2 : Int)), FV.sc z4] (int (j : Int)) ∧ (IntKind.wrap IntKind.u32 (↑(BitVec.toNat (BitVec.ofInt z2 (a1 : Int) &&& BitVec.ofInt z2 (b : Int))) : Int) != 0) = false ∧ E true ∧ (E 1 ∧ (0 : Int) ≤ (j : Int) ∧ Ks[j]? = some [FV.ptr [k1, k2, FV.sl 9 ke, FV.sl 1 kk, int kc] 0]) ∧ CallsF P G 32 [FV.ptr [k1, k2, FV.sl 9 ke, FV.sl 1 kk, int kc] 0, FV.sc z6, encV k, int (IntKind.wrap IntKind.i64 ((d : Int) + 1))] (FV.ptr [n1, n2, FV.sl 9 ne, FV.sl 1 nk, int nc] 0) ∧ decide (nc > 1) = false ∧ CallsO P G 48 [FV.sl 1 Ks] (53) (1) (Ks) ∧ CallsW P G 49 (53) (1) (Ks) ([int (j : Int), int (IntKind.wrap IntKind.i64 ((j : Int) + 1))]) z3 (none) ∧ CallsO P G 47 [FV.sl 9 (cellsEs H S)] (51) (9) (cellsEs H S) ∧ CallsF P G 51 [FV.ptr [n1, n2, FV.sl 9 ne, FV.sl 1 nk, int nc] 0] (FV.agg (FV.sc z5 :: int (V.kind (Prod.fst m)) :: int (V.num (Prod.fst m)) :: str (V.text (Prod.fst m)) :: encI (V.items (Prod.fst m)) :: cellsP (Prod.snd m))) ∧ CallsW P G 50 (51) (9) (cellsEs H S) ([int (i : Int), FV.sl 9 [FV.sc z5 :: int (V.kind (Prod.fst m)) :: int (V.num (Prod.fst m)) :: str (V.text (Prod.fst m)) :: encI (V.items (Prod.fst m)) :: cellsP (Prod.snd m)]]) z1 (none) ∧ FV.ptr [FV.sc (Value.int IntKind.u32 (IntKind.wrap IntKind.u32 (↑(BitVec.toNat (BitVec.ofInt z2 (a1 : Int) ||| BitVec.ofInt z2 (b : Int))) : Int))), FV.sc (Value.int IntKind.u32 (IntKind.wrap IntKind.u32 (↑(BitVec.toNat (BitVec.ofInt z2 (a2 : Int) &&& ~~~BitVec.ofInt z2 (b : Int))) : Int))), FV.sl 9 z1, FV.sl 1 z3, int (IntKind.wrap IntKind.i64 (ct - 1))] 0 = FV.ptr [FV.sc (Value.int IntKind.u32 (↑(a1 ||| b) : Int)), FV.sc (Value.int IntKind.u32 (↑(notN a2 b) : Int)), FV.sl 9 z1, FV.sl 1 z3, int (ct - 1)] 0) get32 ent32 (by kernel_rfl) ?_
  refine ⟨?_, ?_, rfl, ?_, ?_, ?_, rfl, ⟨rfl, ?_, ?_⟩, ?_, ?_, ?_, ?_, ?_, ?_, ?_, ?_⟩
  all_goals first | exact hbit | exact hi | exact hj | exact ho | exact cloneN_ok _ hKl hKo hK1 | exact cloneE_ok _ (by rw [cellsEs_length]; exact hl) (oneF_cellsEs H S) (cellsEs_len9 H S) | (rw [wrapS _ (by omega) (by omega)]; exact hrec) | (rw [wrapS _ (by omega) (by omega)]; exact delete_okEP rfl _ j hjl hKl hKo) | exact insert_okE rfl _ i _ (by rw [cellsEs_length]; exact hil) (by rw [cellsEs_length]; exact hl) (oneF_cellsEs H S) (oneF_cellsEs H [m]) | (have q1 := u32_and a1 b h1 hb; rw [hm] at q1; rw [bne_eq_false_iff_eq]; exact q1) | (rw [u32_notB a2 b h2 hb, u32_orB a1 b h1 hb, wrapS _ (by omega) (by omega)]) | (rw [beq_eq_false_iff_ne]; omega) | exact hel | omega | (simp only [decide_eq_true_eq, decide_eq_false_iff_not]; omega)
end Go.Sx

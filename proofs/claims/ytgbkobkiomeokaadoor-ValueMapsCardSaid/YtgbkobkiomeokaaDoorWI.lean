/-
  Proved: what some functions of the program answer, or a law of the evaluator that shows it, one theorem each; its conditions are the hypotheses that stand ahead of it.
-/
import Derived.Test.YtgbkobkiomeokaaDoorWC
import Derived.Test.YtgbkobkiomeokaaDoorWE
import Derived.Test.YtgbkobkiomeokaaDoorPSo
import Derived.KernelRfl
set_option maxRecDepth 100000
set_option maxHeartbeats 4000000
set_option linter.unusedSimpArgs false
set_option linter.unusedVariables false
namespace Go.Sx
open Go.Proofs Sp
theorem fineL {l : List V} {N : Nat} (h : ∀ x, x ∈ l → Fine x) (hl : l.length ≤ N) (hN : N ≤ 2513169434844) (k : Int) (hk : 0 ≤ k ∧ k ≤ 6) : Fine (.mk k 0 [] l) := Fine.mk k 0 [] l (by omega) (by omega) (by simp) (by omega) h
theorem nilT {a b c : FV} (l : List FV) : ∀ w ok v, FRel w ok (.tup (.agg [a, b, c, .nils] :: l)) v → FRel w ok (.tup (.agg [a, b, c, .sl 4 []] :: l)) v := by
  intro w ok v h
  simp only [FRel, FRelL] at h ⊢
  obtain ⟨cs, e, v0, r0, e0, ⟨cs1, e1, h1⟩, h2⟩ := h
  refine ⟨cs, e, v0, r0, e0, ⟨cs1, e1, ?_⟩, h2⟩
  obtain ⟨v1, r1, e1, h1, v2, r2, e2, h2, v3, r3, e3, h3, v4, r4, e4, h4, h5⟩ := h1
  exact ⟨v1, r1, e1, h1, v2, r2, e2, h2, v3, r3, e3, h3, v4, r4, e4, .inl ⟨trivial, .inl h4⟩, h5⟩
def V0 : V := .mk 0 0 [] []
noncomputable def madeR (k : Int) (l : List V) : V × Int := if rightB (.mk k 0 [] l) then (.mk k 0 [] l, 0) else (V0, 2)
theorem get40 : P.funcs[40]? = some Tryd.f40 := by kernel_rfl
theorem ent40 : entersP P 40 = true := by kernel_rfl
theorem told_no (k : Int) (l : List V) (h : CallsF P G 26 [encV (.mk k 0 [] l)] (bool (rightB (.mk k 0 [] l)))) (h2 : rightB (.mk k 0 [] l) = false) : CallsF P G 40 [encV (.mk k 0 [] l)] (.tup [.agg [int 0, int 0, str [], .nils], int 2]) := by
  refine sx_fn (hs := [.call (bool false), .dec true]) ((CallsF P G 26 [FV.agg [int k, int 0, str [], encI l]] (bool false)) ∧ (E (true)) ∧ E (FV.tup [FV.agg [int 0, int 0, str [], FV.nils], int 2])) get40 ent40 (by kernel_rfl) ?_
  refine ⟨?_, ⟨rfl, rfl⟩⟩
  all_goals (rw [h2] at h; exact h)
theorem told_yes (k : Int) (l : List V) (h : CallsF P G 26 [encV (.mk k 0 [] l)] (bool (rightB (.mk k 0 [] l)))) (h2 : rightB (.mk k 0 [] l) = true) : CallsF P G 40 [encV (.mk k 0 [] l)] (.tup [encV (.mk k 0 [] l), int 0]) := by
  refine sx_fn (hs := [.call (bool true), .dec false]) ((CallsF P G 26 [FV.agg [int k, int 0, str [], encI l]] (bool true)) ∧ (E (false)) ∧ E (FV.tup [FV.agg [int k, int 0, str [], encI l], int 0])) get40 ent40 (by kernel_rfl) ?_
  refine ⟨?_, ⟨rfl, rfl⟩⟩
  all_goals (rw [h2] at h; exact h)
theorem told_ok (k : Int) (hk : 0 ≤ k ∧ k ≤ 6) (l : List V) (hf : ∀ x, x ∈ l → Fine x) (hl : l.length ≤ 2513169434844) : CallsF P G 40 [encV (.mk k 0 [] l)] (.tup [encV (madeR k l).1, int (madeR k l).2]) := by
  have hF := fineL hf hl (Nat.le_refl _) k hk
  unfold madeR
  cases h : rightB (.mk k 0 [] l) with
  | true => rw [if_pos rfl]; exact told_yes k l (refRight_ok _ hF) h
  | false => rw [if_neg (by simp)]; exact (told_no k l (refRight_ok _ hF) h).weak (nilT _)
open Sp.Sy
/-- The first pair of a key. -/
def fnd (k : V) (l : List (V × V)) : Option (V × V) := l.find? fun p => cmpV k p.1 == 0
theorem fnd_cons (k : V) (p : V × V) (l : List (V × V)) : fnd k (p :: l) = if cmpV k p.1 = 0 then some p else fnd k l := by
  unfold fnd
  rw [List.find?_cons]
  by_cases h : cmpV k p.1 = 0
  · simp [h]
  · rw [beq_eq_false_iff_ne.2 h, if_neg h]
theorem cmp0_sym {a b : V} (h : cmpV a b = 0) : cmpV b a = 0 := by have := cmpV_line.turn a b trivial trivial; omega
theorem cmp_le {a b d : V} (h1 : cmpV a b ≤ 0) (h2 : cmpV b d ≤ 0) : cmpV a d ≤ 0 := cmpV_line.le_trans a b d trivial trivial trivial h1 h2
theorem cmp_turn (a b : V) : cmpV b a = - cmpV a b := cmpV_line.turn a b trivial trivial
theorem cmp0_left {a b d : V} (h : cmpV a b = 0) : cmpV a d = 0 ↔ cmpV b d = 0 := by
  have t1 := cmp_turn a b; have t2 := cmp_turn a d; have t3 := cmp_turn b d
  constructor
  · intro h1
    have := cmp_le (a := b) (b := a) (d := d) (by omega) (by omega)
    have := cmp_le (a := d) (b := a) (d := b) (by omega) (by omega)
    omega
  · intro h1
    have := cmp_le (a := a) (b := b) (d := d) (by omega) (by omega)
    have := cmp_le (a := d) (b := b) (d := a) (by omega) (by omega)
    omega
theorem cmp0_right {a b d : V} (h : cmpV a b = 0) : cmpV d a = 0 ↔ cmpV d b = 0 := by
  have t2 := cmp_turn a d; have t3 := cmp_turn b d; have := cmp0_left (d := d) h
  constructor <;> intro h1 <;> omega
theorem cmp_lt_le {a b d : V} (h1 : cmpV a b < 0) (h2 : cmpV b d ≤ 0) : cmpV a d < 0 := by
  have t1 := cmp_turn a b; have t2 := cmp_turn a d; have t3 := cmp_turn b d
  rcases Int.lt_or_le (cmpV a d) 0 with h | h
  · exact h
  · have := cmp_le (a := b) (b := d) (d := a) h2 (by omega); omega
theorem cmp_le_lt {a b d : V} (h1 : cmpV a b ≤ 0) (h2 : cmpV b d < 0) : cmpV a d < 0 := by
  have t1 := cmp_turn a b; have t2 := cmp_turn a d; have t3 := cmp_turn b d
  rcases Int.lt_or_le (cmpV a d) 0 with h | h
  · exact h
  · have := cmp_le (a := d) (b := a) (d := b) (by omega) h1; omega
theorem fnd_ins (k : V) (x : V × V) : ∀ (s : List (V × V)), fnd k (mrg (fun p q : V × V => cmpV p.1 q.1) [x] s) = if cmpV k x.1 = 0 then some x else fnd k s
  | [] => by rw [mrg_nil, fnd_cons]
  | y :: s => by
    by_cases h : cmpV y.1 x.1 < 0
    · rw [mrg_lt [] s h, fnd_cons, fnd_ins k x s, fnd_cons]
      by_cases h1 : cmpV k y.1 = 0
      · rw [if_pos h1, if_pos h1, if_neg]
        intro h2
        have := (cmp0_left (d := x.1) (cmp0_sym h1)).2 h2; omega
      · rw [if_neg h1, if_neg h1]
    · rw [mrg_ge [] s h, nil_mrg, fnd_cons]
theorem fnd_srt (k : V) : ∀ (l : List (V × V)), fnd k (srt (fun p q : V × V => cmpV p.1 q.1) l) = fnd k l
  | [] => rfl
  | x :: l => by
    show fnd k (mrg (fun p q : V × V => cmpV p.1 q.1) [x] (srt (fun p q : V × V => cmpV p.1 q.1) l)) = _
    rw [fnd_ins, fnd_cons, fnd_srt k l]
theorem fnd_compF (k : V) : ∀ (l : List (V × V)) (p : V × V), fnd k (p :: compFq (fun p q : V × V => cmpV p.1 q.1 == 0) p l) = fnd k (p :: l)
  | [], p => rfl
  | y :: l, p => by
    have ih := fnd_compF k l y
    by_cases h1 : cmpV k p.1 = 0
    · rw [fnd_cons, fnd_cons, if_pos h1, if_pos h1]
    · rw [fnd_cons, fnd_cons k p, if_neg h1, if_neg h1]
      simp only [compFq]
      by_cases h2 : cmpV y.1 p.1 = 0
      · have h3 : ¬ cmpV k y.1 = 0 := fun h => h1 ((cmp0_right h2).1 h)
        rw [fnd_cons, fnd_cons k y, if_neg h3, if_neg h3] at ih
        rw [if_pos (by simp [h2]), ih, fnd_cons, if_neg h3]
      · rw [if_neg (by simp [h2]), ih]
theorem fnd_comp (k : V) (l : List (V × V)) : fnd k (compq (fun p q : V × V => cmpV p.1 q.1 == 0) l) = fnd k l := by
  cases l with
  | nil => rfl
  | cons x l => exact fnd_compF k l x
theorem ris_compF : ∀ (l : List (V × V)) (p : V × V), Sd (fun p q : V × V => cmpV p.1 q.1) (p :: l) → Rising cmpV (p :: compFq (fun p q : V × V => cmpV p.1 q.1 == 0) p l)
  | [], p, _ => by simp [compFq, Rising]
  | y :: l, p, h => by
    have h' := List.pairwise_cons.1 h
    have ih := ris_compF l y h'.2
    have hy : 0 ≤ cmpV y.1 p.1 := h'.1 y (by simp)
    have ty := cmp_turn y.1 p.1
    simp only [compFq]
    have ih' := List.pairwise_cons.1 ih
    by_cases h2 : cmpV y.1 p.1 = 0
    · rw [if_pos (by simp [h2])]
      exact List.pairwise_cons.2 ⟨fun z hz => cmp_le_lt (b := y.1) (by omega) (ih'.1 z hz), ih'.2⟩
    · rw [if_neg (by simp [h2])]
      have hp : cmpV p.1 y.1 < 0 := by omega
      refine List.pairwise_cons.2 ⟨fun z hz => ?_, ih⟩
      rcases List.mem_cons.1 hz with rfl | hz
      · exact hp
      · exact cmp_lt_le hp (Int.le_of_lt (ih'.1 z hz))
theorem mapL_ris (l : List (V × V)) : Rising cmpV (mapL l) := by
  have h := srt_sd cpre l.reverse
  unfold mapL
  cases hs : srt (fun p q : V × V => cmpV p.1 q.1) l.reverse with
  | nil => simp [compq, Rising]
  | cons x s => rw [hs] at h; exact ris_compF s x h
theorem mapL_fnd (k : V) (l : List (V × V)) : fnd k (mapL l) = fnd k l.reverse := by rw [mapL, fnd_comp, fnd_srt]
theorem fnd_none {k : V} {l : List (V × V)} (h : ∀ q, q ∈ l → cmpV k q.1 ≠ 0) : fnd k l = none := by
  unfold fnd
  rw [List.find?_eq_none]
  intro q hq; simpa using h q hq
theorem fnd_mem {k : V} {l : List (V × V)} {p : V × V} (h : fnd k l = some p) : p ∈ l ∧ cmpV k p.1 = 0 := ⟨List.mem_of_find?_eq_some h, by simpa using List.find?_some h⟩
theorem ris_ext : ∀ (A B : List (V × V)), Rising cmpV A → Rising cmpV B → (∀ k, fnd k A = fnd k B) → A = B
  | [], [], _, _, _ => rfl
  | [], q :: B, _, _, h => by
    have := h q.1
    rw [fnd_cons, if_pos (cmpV_self _)] at this
    simp [fnd] at this
  | p :: A, [], _, _, h => by
    have := h p.1
    rw [fnd_cons, if_pos (cmpV_self _)] at this
    simp [fnd] at this
  | p :: A, q :: B, hA, hB, h => by
    have hA' := List.pairwise_cons.1 hA; have hB' := List.pairwise_cons.1 hB
    have e : p = q := by
      have h1 := h p.1; have h2 := h q.1
      rw [fnd_cons, if_pos (cmpV_self _)] at h1
      rw [fnd_cons] at h1
      split at h1
      · simpa using h1
      · have m1 := (fnd_mem h1.symm).1
        rw [fnd_cons q.1 q, if_pos (cmpV_self _), fnd_cons] at h2
        split at h2
        · simpa using h2
        · have m2 := (fnd_mem h2).1
          have := hA'.1 q m2; have := hB'.1 p m1; have := cmp_turn p.1 q.1; omega
    subst e
    rw [ris_ext A B hA'.2 hB'.2 fun k => ?_]
    have hk := h k
    rw [fnd_cons, fnd_cons] at hk
    split at hk
    · rename_i h0
      rw [fnd_none fun z hz hz0 => ?_, fnd_none fun z hz hz0 => ?_]
      · have := hB'.1 z hz; have := (cmp0_left (d := z.1) h0).1 hz0; omega
      · have := hA'.1 z hz; have := (cmp0_left (d := z.1) h0).1 hz0; omega
    · exact hk
/-- Two lists of pairs put together; of a key that both have the second one's. -/
def mgL : List (V × V) → List (V × V) → List (V × V)
  | [], b => b
  | x :: a, [] => x :: a
  | x :: a, y :: b => if cmpV x.1 y.1 < 0 then x :: mgL a (y :: b) else if cmpV x.1 y.1 = 0 then y :: mgL a b else y :: mgL (x :: a) b
termination_by a b => a.length + b.length
theorem mgL_nil (a : List (V × V)) : mgL a [] = a := by cases a <;> simp [mgL]
theorem mgL_mem : ∀ (a b : List (V × V)) (z : V × V), z ∈ mgL a b → z ∈ a ∨ z ∈ b
  | [], b, z, h => by simp only [mgL] at h; exact .inr h
  | x :: a, [], z, h => by simp only [mgL] at h; exact .inl h
  | x :: a, y :: b, z, h => by
    rw [mgL] at h
    split at h
    · rcases List.mem_cons.1 h with rfl | h
      · simp
      · rcases mgL_mem a (y :: b) z h with h | h
        · simp [h]
        · exact .inr h
    · split at h
      · rcases List.mem_cons.1 h with rfl | h
        · simp
        · rcases mgL_mem a b z h with h | h
          · simp [h]
          · simp [h]
      · rcases List.mem_cons.1 h with rfl | h
        · simp
        · rcases mgL_mem (x :: a) b z h with h | h
          · exact .inl h
          · simp [h]
termination_by a b => a.length + b.length
theorem mgL_ris : ∀ (a b : List (V × V)), Rising cmpV a → Rising cmpV b → Rising cmpV (mgL a b)
  | [], b, _, hb => by simpa only [mgL] using hb
  | x :: a, [], ha, _ => by simpa only [mgL] using ha
  | x :: a, y :: b, ha, hb => by
    have ha' := List.pairwise_cons.1 ha; have hb' := List.pairwise_cons.1 hb
    have t := cmp_turn x.1 y.1
    rw [mgL]
    split
    · rename_i h
      refine List.pairwise_cons.2 ⟨fun z hz => ?_, mgL_ris a (y :: b) ha'.2 hb⟩
      rcases mgL_mem _ _ z hz with hz | hz
      · exact ha'.1 z hz
      · rcases List.mem_cons.1 hz with rfl | hz
        · exact h
        · exact cmp_lt_le h (Int.le_of_lt (hb'.1 z hz))
    · split
      · rename_i h
        refine List.pairwise_cons.2 ⟨fun z hz => ?_, mgL_ris a b ha'.2 hb'.2⟩
        rcases mgL_mem _ _ z hz with hz | hz
        · exact cmp_le_lt (b := x.1) (by omega) (ha'.1 z hz)
        · exact hb'.1 z hz
      · refine List.pairwise_cons.2 ⟨fun z hz => ?_, mgL_ris (x :: a) b ha hb'.2⟩
        have hyx : cmpV y.1 x.1 < 0 := by omega
        rcases mgL_mem _ _ z hz with hz | hz
        · rcases List.mem_cons.1 hz with rfl | hz
          · exact hyx
          · exact cmp_lt_le hyx (Int.le_of_lt (ha'.1 z hz))
        · exact hb'.1 z hz
termination_by a b => a.length + b.length
theorem mgL_fnd (k : V) : ∀ (a b : List (V × V)), Rising cmpV b → fnd k (mgL a b) = (fnd k b).or (fnd k a)
  | [], b, _ => by simp only [mgL]; simp [fnd]
  | x :: a, [], _ => by simp only [mgL]; simp [fnd]
  | x :: a, y :: b, hb => by
    have hb' := List.pairwise_cons.1 hb
    rw [mgL]
    split
    · rename_i h
      rw [fnd_cons, mgL_fnd k a (y :: b) hb, fnd_cons k x]
      by_cases h0 : cmpV k x.1 = 0
      · rw [if_pos h0, if_pos h0, fnd_none (l := y :: b) fun z hz hz0 => ?_]
        · rfl
        · have h1 : cmpV x.1 z.1 < 0 := by
            rcases List.mem_cons.1 hz with rfl | hz
            · exact h
            · exact cmp_lt_le h (Int.le_of_lt (hb'.1 z hz))
          have := (cmp0_left (d := z.1) h0).1 hz0; omega
      · rw [if_neg h0, if_neg h0]
    · split
      · rename_i h
        rw [fnd_cons, mgL_fnd k a b hb'.2, fnd_cons k y, fnd_cons k x]
        by_cases h0 : cmpV k y.1 = 0
        · rw [if_pos h0, if_pos h0]; rfl
        · rw [if_neg h0, if_neg h0, if_neg fun h1 => h0 ((cmp0_right h).1 h1)]
      · rw [fnd_cons, mgL_fnd k (x :: a) b hb'.2, fnd_cons k y]
        by_cases h0 : cmpV k y.1 = 0
        · rw [if_pos h0, if_pos h0]; rfl
        · rw [if_neg h0, if_neg h0]
termination_by a b => a.length + b.length
/-- The map of two lists' pairs is their maps put together. -/
theorem mapL_two (a b : List (V × V)) : mgL (mapL a) (mapL b) = mapL (a ++ b) := by
  refine ris_ext _ _ (mgL_ris _ _ (mapL_ris a) (mapL_ris b)) (mapL_ris _) fun k => ?_
  rw [mgL_fnd k _ _ (mapL_ris b), mapL_fnd, mapL_fnd, mapL_fnd, List.reverse_append]
  unfold fnd
  rw [List.find?_append]
theorem mapL_small (l : List (V × V)) (h : l.length < 2) : mapL l = l := by
  match l, h with
  | [], _ => rfl
  | [x], _ => simp [mapL, srt_one, compq, compFq]
  | _ :: _ :: _, h => simp at h; omega
theorem compFq_mem (q : V × V → V × V → Bool) : ∀ (l : List (V × V)) (p x : V × V), x ∈ compFq q p l → x ∈ l
  | [], p, x, h => by simp [compFq] at h
  | y :: l, p, x, h => by
    simp only [compFq] at h
    split at h
    · exact .tail _ (compFq_mem q l _ x h)
    · rcases List.mem_cons.1 h with rfl | h
      · exact .head _
      · exact .tail _ (compFq_mem q l _ x h)
theorem compFq_len (q : V × V → V × V → Bool) : ∀ (l : List (V × V)) (p : V × V), (compFq q p l).length ≤ l.length
  | [], p => by simp [compFq]
  | y :: l, p => by
    simp only [compFq]
    have := compFq_len q l y
    split
    · simp; omega
    · simp; omega
theorem mapL_mem {l : List (V × V)} {x : V × V} (h : x ∈ mapL l) : x ∈ l := by
  unfold mapL at h
  have m : ∀ y, y ∈ srt (fun p q : V × V => cmpV p.1 q.1) l.reverse → y ∈ l := fun y hy => by rw [srt_mem] at hy; simpa using hy
  cases hs : srt (fun p q : V × V => cmpV p.1 q.1) l.reverse with
  | nil => rw [hs] at h; simp [compq] at h
  | cons z s =>
    rw [hs] at h m
    simp only [compq] at h
    rcases List.mem_cons.1 h with rfl | h
    · exact m _ (.head _)
    · exact m _ (.tail _ (compFq_mem _ _ _ _ h))
theorem mapL_len (l : List (V × V)) : (mapL l).length ≤ l.length := by
  have e : (srt (fun p q : V × V => cmpV p.1 q.1) l.reverse).length = l.length := by rw [srt_length, List.length_reverse]
  unfold mapL
  cases hs : srt (fun p q : V × V => cmpV p.1 q.1) l.reverse with
  | nil => rw [hs] at e; simp [compq]
  | cons z s => rw [hs] at e; have := compFq_len (fun p q : V × V => cmpV p.1 q.1 == 0) s z; simp [compq] at e ⊢; omega
/-- A map that is made of pairs, or what is wrong with them. -/
noncomputable def mapR (l : List (V × V)) : V × Int := if pairL l = 0 then madeR 6 (itemsL (mapL l)) else (V0, pairL l)
theorem itemsL_fine {l : List (V × V)} (hf : ∀ p, p ∈ l → Fine p.1 ∧ Fine p.2) : ∀ x, x ∈ itemsL l → Fine x := fun x hx => by
  obtain ⟨p, hp, h | h⟩ := itemsL_mem l x hx
  · rw [h]; exact (hf p hp).1
  · rw [h]; exact (hf p hp).2
theorem map_ok (l : List (V × V)) (hf : ∀ p, p ∈ l → Fine p.1 ∧ Fine p.2) : CallsF P G 4 [encPs l] (.tup [encV (mapR l).1, int (mapR l).2]) := by
  unfold mapR
  have hv := vpaired_ok l hf
  by_cases h0 : pairL l = 0
  · rw [if_pos h0]
    obtain ⟨hl, hr⟩ := pairL_zero h0
    rw [h0] at hv
    have hlen := mapL_len l
    have hF : ∀ x, x ∈ itemsL (mapL l) → Fine x := itemsL_fine fun p hp => hf p (mapL_mem hp)
    have hFF := fineL (N := 2513169434844) hF (by rw [itemsL_len]; omega) (by omega) 6 (by omega)
    unfold madeR
    cases h : rightB (.mk 6 0 [] (itemsL (mapL l))) with
    | true => rw [if_pos rfl]; exact map_yes l _ _ hv hl rfl (by omega) hf rfl (made_yes 6 _ (by have := right_ok _ hFF; rwa [h] at this ⊢) (own_ok _ hFF) h)
    | false => rw [if_neg (by simp)]; exact (map_no l _ _ hv hl rfl (by omega) hf rfl (made_no 6 _ (right_ok _ hFF) h)).weak (nilT _)
  · rw [if_neg h0]
    exact (map_bad l hv h0).weak (nilT _)
end Go.Sx
set_option maxRecDepth 100000
set_option maxHeartbeats 4000000
set_option linter.unusedSimpArgs false
set_option linter.unusedVariables false
namespace Go.Sx
open Go.Proofs Sp
/-- The merging of two rising lists of pairs, step by step: how many are taken of each, and what is out. -/
noncomputable def mgk (a b : List (V × V)) : Nat → Nat × Nat × List (V × V)
  | 0 => (0, 0, [])
  | i + 1 => if cmpV (a.getD (mgk a b i).1 default).1 (b.getD (mgk a b i).2.1 default).1 < 0 then ((mgk a b i).1 + 1, (mgk a b i).2.1, (mgk a b i).2.2 ++ [a.getD (mgk a b i).1 default])
    else if cmpV (a.getD (mgk a b i).1 default).1 (b.getD (mgk a b i).2.1 default).1 = 0 then ((mgk a b i).1 + 1, (mgk a b i).2.1 + 1, (mgk a b i).2.2 ++ [b.getD (mgk a b i).2.1 default])
    else ((mgk a b i).1, (mgk a b i).2.1 + 1, (mgk a b i).2.2 ++ [b.getD (mgk a b i).2.1 default])
noncomputable def Smk (a b : List (V × V)) (i : Nat) : St := { sl := slots 70 [(4, .f (encPs (a.drop (mgk a b i).1))), (5, .f (encPs (b.drop (mgk a b i).2.1))), (6, .lsl 0)], ob := [(0, .row 8 42 (cellsPs (mgk a b i).2.2))], nx := 1 }
def Smo (l : List (V × V)) (i : Nat) : St := { sl := slots 28 [(2, .loc 0 0), (4, .loc 1 0), (8, .f (encPs l)), (9, .f (int (cellsPs l).length)), (10, .f (int (i : Int)))], ob := [(0, .box [.f (int 0), .f (int 0), .f (str []), .f .nils]), (1, .box [.f (int 6), .f (int 0), .f (str []), .lsl 2]), (2, .row 4 25 (cellsVs (itemsL (l.take i))))], nx := 3 }
open Sp.Sy
theorem drop0q (l : List (V × V)) (p : Nat) (h : p < l.length) : (cellsPs (l.drop p))[0]? = some (cellsP (l.getD p default).1 ++ cellsP (l.getD p default).2) := by
  rw [drop_one h]; rfl
theorem next1q (l : List (V × V)) (p n : Nat) (h : n = (cellsPs (l.drop p)).length) : ((cellsPs (l.drop p)).take n).drop 1 = cellsPs (l.drop (p + 1)) := by
  rw [h, List.take_length, cellsPs_drop, List.drop_drop]
theorem snocq (l : List (V × V)) (x : V × V) : cellsPs l ++ [cellsP x.1 ++ cellsP x.2] = cellsPs (l ++ [x]) := by rw [cellsPs_app]; rfl
theorem mgk_lt {a b : List (V × V)} {i : Nat} (h : cmpV (a.getD (mgk a b i).1 default).1 (b.getD (mgk a b i).2.1 default).1 < 0) : mgk a b (i + 1) = ((mgk a b i).1 + 1, (mgk a b i).2.1, (mgk a b i).2.2 ++ [a.getD (mgk a b i).1 default]) := by simp only [mgk]; rw [if_pos h]
theorem mgk_eq {a b : List (V × V)} {i : Nat} (h : cmpV (a.getD (mgk a b i).1 default).1 (b.getD (mgk a b i).2.1 default).1 = 0) : mgk a b (i + 1) = ((mgk a b i).1 + 1, (mgk a b i).2.1 + 1, (mgk a b i).2.2 ++ [b.getD (mgk a b i).2.1 default]) := by simp only [mgk]; rw [if_neg (by omega), if_pos h]
theorem mgk_gt {a b : List (V × V)} {i : Nat} (h : ¬ cmpV (a.getD (mgk a b i).1 default).1 (b.getD (mgk a b i).2.1 default).1 < 0) (h2 : ¬ cmpV (a.getD (mgk a b i).1 default).1 (b.getD (mgk a b i).2.1 default).1 = 0) : mgk a b (i + 1) = ((mgk a b i).1, (mgk a b i).2.1 + 1, (mgk a b i).2.2 ++ [b.getD (mgk a b i).2.1 default]) := by simp only [mgk]; rw [if_neg h, if_neg h2]
theorem mgk_step (a b : List (V × V)) (i : Nat) (h1 : (mgk a b i).1 < a.length) (h2 : (mgk a b i).2.1 < b.length) :
    (mgk a b (i + 1)).2.2 ++ mgL (a.drop (mgk a b (i + 1)).1) (b.drop (mgk a b (i + 1)).2.1) = (mgk a b i).2.2 ++ mgL (a.drop (mgk a b i).1) (b.drop (mgk a b i).2.1) := by
  rw [drop_one h1, drop_one h2, mgL]
  by_cases h : cmpV (a.getD (mgk a b i).1 default).1 (b.getD (mgk a b i).2.1 default).1 < 0
  · rw [if_pos h, mgk_lt h]
    simp only
    rw [drop_one h2]; simp
  · by_cases h0 : cmpV (a.getD (mgk a b i).1 default).1 (b.getD (mgk a b i).2.1 default).1 = 0
    · rw [if_neg h, if_pos h0, mgk_eq h0]
      simp
    · rw [if_neg h, if_neg h0, mgk_gt h h0]
      simp only
      rw [drop_one h1]; simp
theorem mgk_upto (a b : List (V × V)) : ∀ i, (∀ j, j < i → (mgk a b j).1 < a.length ∧ (mgk a b j).2.1 < b.length) → ((mgk a b i).1 ≤ a.length ∧ (mgk a b i).2.1 ≤ b.length ∧ (mgk a b i).2.2.length ≤ (mgk a b i).1 + (mgk a b i).2.1 ∧ i ≤ (mgk a b i).1 + (mgk a b i).2.1) ∧ (mgk a b i).2.2 ++ mgL (a.drop (mgk a b i).1) (b.drop (mgk a b i).2.1) = mgL a b
  | 0, _ => by simp [mgk]
  | i + 1, h => by
    obtain ⟨⟨q1, q2, q3, q4⟩, q5⟩ := mgk_upto a b i fun j hj => h j (by omega)
    obtain ⟨h1, h2⟩ := h i (by omega)
    refine ⟨?_, (mgk_step a b i h1 h2).trans q5⟩
    by_cases hl : cmpV (a.getD (mgk a b i).1 default).1 (b.getD (mgk a b i).2.1 default).1 < 0
    · rw [mgk_lt hl]; simp only [List.length_append, List.length_singleton]; omega
    · by_cases h0 : cmpV (a.getD (mgk a b i).1 default).1 (b.getD (mgk a b i).2.1 default).1 = 0
      · rw [mgk_eq h0]; simp only [List.length_append, List.length_singleton]; omega
      · rw [mgk_gt hl h0]; simp only [List.length_append, List.length_singleton]; omega
theorem get23 : P.funcs[23]? = some Tryd.f23 := by kernel_rfl
theorem ent23 : entersP P 23 = true := by kernel_rfl
theorem keyed_short (l : List (V × V)) (hl : l.length < 2) : CallsF P G 23 [encPs l] (encPs l) := by
  refine sx_fn (hs := [.dec true, .lfz [1]]) (decide ((↑(List.length (cellsPs l)) : Int) < 2) = true ∧ (oneF (cellsPs l) ∧ 0 + List.length (cellsPs l) ≤ maxLen ∧ (0 + List.length (cellsPs l)) * 112 ≤ 140737488355328 ∧ E false) ∧ FV.sl 8 (chunk (TypeInfo.size (Tables.types (Program.toTables P))[42]) 0 [] ++ cellsPs l) = FV.sl 8 (cellsPs l)) get23 ent23 (by kernel_rfl) ?_
  refine ⟨?_, ⟨?_, ?_, ?_, rfl⟩, ?_⟩
  all_goals first | rfl | exact oneF_cellsPs l | (simp only [cellsPs_length, decide_eq_true_eq]; omega) | (simp only [cellsPs_length, chunk, List.length_nil, maxLen]; omega)
theorem keyed_long (l a b : List (V × V)) (N : Nat) (hn : 2 ≤ l.length) (hl : l.length ≤ 65536) (hlen : a.length + b.length ≤ l.length) (hfa : ∀ x, x ∈ a → Fine x.1) (hfb : ∀ x, x ∈ b → Fine x.1) (iha : CallsF P G 23 [encPs (l.take (l.length / 2))] (encPs a)) (ihb : CallsF P G 23 [encPs (l.drop (l.length / 2))] (encPs b)) (hA : ∀ i, i ≤ N → (mgk a b i).1 ≤ a.length ∧ (mgk a b i).2.1 ≤ b.length ∧ (mgk a b i).2.2.length ≤ (mgk a b i).1 + (mgk a b i).2.1) (hlt : ∀ i, i < N → (mgk a b i).1 < a.length ∧ (mgk a b i).2.1 < b.length) (he : ¬ ((mgk a b N).1 < a.length ∧ (mgk a b N).2.1 < b.length))  : CallsF P G 23 [encPs l] (encPs ((mgk a b N).2.2 ++ a.drop (mgk a b N).1 ++ b.drop (mgk a b N).2.1)) := by
  have hq : IntKind.wrap IntKind.i64 (Int.tdiv ((cellsPs l).length : Int) 2) = ((l.length / 2 : Nat) : Int) := by
    rw [cellsPs_length, show Int.tdiv (l.length : Int) 2 = ((l.length / 2 : Nat) : Int) from rfl]; exact wrapS _ (by omega) (by omega)
  refine sx_fn (hs := [.dec false, .call (encPs a), .call (encPs b), .pre [.nrow 6 8 42], .loop [(0,0)] [(2,0)] (Smk a b) N (fun i => [.dec true, .dec true, .nat 10, .el (cellsP (a.getD (mgk a b i).1 default).1 ++ cellsP (a.getD (mgk a b i).1 default).2), .el (cellsP (b.getD (mgk a b i).2.1 default).1 ++ cellsP (b.getD (mgk a b i).2.1 default).2), .call (int (cmpV (a.getD (mgk a b i).1 default).1 (b.getD (mgk a b i).2.1 default).1)), .br [.el (cellsP (a.getD (mgk a b i).1 default).1 ++ cellsP (a.getD (mgk a b i).1 default).2)] [.el (cellsP (b.getD (mgk a b i).2.1 default).1 ++ cellsP (b.getD (mgk a b i).2.1 default).2), .br [] []]]), .br [.dec false, .lfz [2]] [.dec false, .lfz [2]]]) (let z2 := (↑(List.length (cellsPs l)) : Int); let z4 := Prod.snd (mgk a b N); let z5 := List.drop (Prod.fst (mgk a b N)) a; let z3 := oneF (cellsPs z5) ∧ List.length (cellsPs (Prod.snd z4)) + List.length (cellsPs z5) ≤ maxLen ∧ (List.length (cellsPs (Prod.snd z4)) + List.length (cellsPs z5)) * 112 ≤ 140737488355328 ∧ E false; let z6 := List.drop (Prod.fst z4) b; let z7 := IntKind.wrap IntKind.i64 (Int.tdiv z2 2); let z8 := TypeInfo.size (Tables.types (Program.toTables P))[42]; let z9 := cellsPs (Prod.snd z4 ++ List.drop (Prod.fst (mgk a b N)) a ++ List.drop (Prod.fst z4) b); let z10 := cellsPs (Prod.snd z4) ++ cellsPs z5 ++ cellsPs z6; let z11 := cellsPs (Prod.snd z4) ++ cellsPs z5; let z1 := oneF (cellsPs z6) ∧ List.length z11 + List.length (cellsPs z6) ≤ maxLen ∧ (List.length z11 + List.length (cellsPs z6)) * 112 ≤ 140737488355328 ∧ E false; decide (z2 < 2) = false ∧ (E 8 ∧ (0 : Int) ≤ 0 ∧ (0 : Int) ≤ Option.getD (some z7) z2 ∧ Option.getD (some z7) z2 ≤ z2) ∧ CallsF P G 23 [FV.sl 8 (List.drop (Int.toNat 0) (List.take (Int.toNat (Option.getD (some z7) z2)) (cellsPs l)))] (FV.sl 8 (cellsPs a)) ∧ (E 8 ∧ (0 : Int) ≤ IntKind.wrap IntKind.i64 (Int.tdiv z2 2) ∧ IntKind.wrap IntKind.i64 (Int.tdiv z2 2) ≤ Option.getD none z2 ∧ Option.getD none z2 ≤ z2) ∧ CallsF P G 23 [FV.sl 8 (List.drop (Int.toNat z7) (List.take (Int.toNat (Option.getD none z2)) (cellsPs l)))] (FV.sl 8 (cellsPs b)) ∧ (E true ∧ (AV.f (FV.sl 8 (cellsPs a)) = AV.f (FV.sl 8 (cellsPs (List.drop (Prod.fst (mgk a b 0)) a))) ∧ AV.f (FV.sl 8 (cellsPs b)) = AV.f (FV.sl 8 (cellsPs (List.drop (Prod.fst (Prod.snd (mgk a b 0))) b))) ∧ E (AV.lsl 0) ∧ True) ∧ (E (Ob.row 8 42 []) ∧ True) ∧ E true ∧ (false = true → false = true)) ∧ (∀ (i : Nat), (let z14 := Prod.fst (Prod.snd (mgk a b i)); let z16 := cellsPs (List.drop (Prod.fst (mgk a b i)) a); let z18 := cellsPs (List.drop z14 b); let z19 := (↑(List.length z16) : Int); let z20 := Prod.snd (Prod.snd (mgk a b i)); let z22 := FV.sl 8 (cellsPs (List.drop (Prod.fst (mgk a b (i + 1))) a)); let z23 := (↑(List.length z18) : Int); let z25 := FV.sl 8 (List.drop (Int.toNat 1) (List.take (Int.toNat (Option.getD none z19)) z16)); let z26 := FV.sl 8 (List.drop (Int.toNat 1) (List.take (Int.toNat (Option.getD none z23)) z18)); let z27 := List.getD a (Prod.fst (mgk a b i)) default; let z13 := Prod.fst z27; let z15 := int (V.kind z13) :: int (V.num z13) :: str (V.text z13) :: encI (V.items z13) :: cellsP (Prod.snd z27); let z28 := E 8 ∧ (0 : Int) ≤ 1 ∧ (1 : Int) ≤ Option.getD none z19 ∧ Option.getD none z19 ≤ z19; let z29 := Prod.snd (mgk a b (i + 1)); let z21 := FV.sl 8 (cellsPs (List.drop (Prod.fst z29) b)); let z30 := E 8 ∧ (0 : Int) ≤ 0 ∧ z16[Int.toNat 0]? = some z15; let z32 := List.getD b z14 default; let z17 := Prod.fst z32; let z12 := int (V.kind z17) :: int (V.num z17) :: str (V.text z17) :: encI (V.items z17) :: cellsP (Prod.snd z32); let z24 := Ob.row 8 42 (cellsPs z20 ++ chunk z8 1 z12) = Ob.row 8 42 (cellsPs (Prod.snd z29)) ∧ True; let z31 := E 8 ∧ (0 : Int) ≤ 0 ∧ z18[Int.toNat 0]? = some z12; i < N → decide (z19 > 0) = true ∧ decide (z23 > 0) = true ∧ E true ∧ z30 ∧ z31 ∧ CallsF P G 41 [encV z13, encV z17] (int (cmpV z13 z17)) ∧ Br (decide (cmpV z13 z17 < 0)) (z30 ∧ (oneF ([int (V.kind z13) :: int (V.num z13) :: str (V.text z13) :: encI (V.items z13) :: cellsP (Prod.snd z27)]) ∧ List.length (cellsPs z20) + List.length (chunk 8 1 z15) ≤ maxLen ∧ (List.length (cellsPs z20) + List.length (chunk 8 1 z15)) * 112 ≤ 140737488355328 ∧ E false) ∧ z28 ∧ E true ∧ (AV.f z25 = AV.f z22 ∧ AV.f (FV.sl 8 z18) = AV.f z21 ∧ E (AV.lsl 0) ∧ True) ∧ (Ob.row 8 42 (cellsPs z20 ++ chunk z8 1 z15) = Ob.row 8 42 (cellsPs (Prod.snd z29)) ∧ True) ∧ E true ∧ (false = true → false = true)) (z31 ∧ (oneF ([int (V.kind z17) :: int (V.num z17) :: str (V.text z17) :: encI (V.items z17) :: cellsP (Prod.snd z32)]) ∧ List.length (cellsPs z20) + List.length (chunk 8 1 z12) ≤ maxLen ∧ (List.length (cellsPs z20) + List.length (chunk 8 1 z12)) * 112 ≤ 140737488355328 ∧ E false) ∧ (E 8 ∧ (0 : Int) ≤ 1 ∧ (1 : Int) ≤ Option.getD none z23 ∧ Option.getD none z23 ≤ z23) ∧ Br (cmpV z13 z17 == 0) (z28 ∧ E true ∧ (AV.f z25 = AV.f z22 ∧ AV.f z26 = AV.f z21 ∧ E (AV.lsl 0) ∧ True) ∧ z24 ∧ E true ∧ (false = true → false = true)) (E true ∧ (AV.f (FV.sl 8 z16) = AV.f z22 ∧ AV.f z26 = AV.f z21 ∧ E (AV.lsl 0) ∧ True) ∧ z24 ∧ E true ∧ (false = true → false = true))))) ∧ Br (decide ((↑(List.length (cellsPs z5)) : Int) > 0)) (decide ((↑(List.length (cellsPs z6)) : Int) > 0) = false ∧ z3 ∧ z1 ∧ FV.sl 8 z10 = FV.sl 8 z9) (E false ∧ z3 ∧ z1 ∧ FV.sl 8 z10 = FV.sl 8 z9)) get23 ent23 (by kernel_rfl) ?_
  refine ⟨?_, ⟨rfl, ?_, ?_, ?_⟩, ?_, ⟨rfl, ?_, ?_, ?_⟩, ?_, ⟨rfl, ⟨?_, ?_, rfl, trivial⟩, ⟨rfl, trivial⟩, rfl, fun hi => ?_⟩, fun i => fun hi => ⟨?_, ?_, rfl, ⟨rfl, ?_, ?_⟩, ⟨rfl, ?_, ?_⟩, ?_, fun hi => ⟨⟨rfl, ?_, ?_⟩, ⟨?_, ?_, ?_, rfl⟩, ⟨rfl, ?_, ?_, ?_⟩, rfl, ⟨?_, ?_, rfl, trivial⟩, ⟨?_, trivial⟩, rfl, fun hi => ?_⟩, fun hi => ⟨⟨rfl, ?_, ?_⟩, ⟨?_, ?_, ?_, rfl⟩, ⟨rfl, ?_, ?_, ?_⟩, fun hi => ⟨⟨rfl, ?_, ?_, ?_⟩, rfl, ⟨?_, ?_, rfl, trivial⟩, ⟨?_, trivial⟩, rfl, fun hi => ?_⟩, fun hi => ⟨rfl, ⟨?_, ?_, rfl, trivial⟩, ⟨?_, trivial⟩, rfl, fun hi => ?_⟩⟩⟩, fun hi => ⟨?_, ⟨?_, ?_, ?_, rfl⟩, ⟨?_, ?_, ?_, rfl⟩, ?_⟩, fun hi => ⟨rfl, ⟨?_, ?_, ?_, rfl⟩, ⟨?_, ?_, ?_, rfl⟩, ?_⟩⟩
  all_goals first | rfl | (simp only [Option.getD_some, Option.getD_none, hq]; rw [cellsPs_length]; omega) | (simp only [Option.getD_some, Option.getD_none, hq]; omega) | (rw [hq, cellsPs_take]; exact iha) | (simp only [Option.getD_none, hq, Int.toNat_natCast, List.take_length, cellsPs_drop]; exact ihb) | (have h5 := hlt i (by omega); simp only [cellsPs_length, List.length_drop, Option.getD_none]; omega) | (have h5 := hlt i (by omega); exact drop0q _ _ (by omega)) | (have h5 := hlt i (by omega); simp only [cellsPs_length, List.length_drop, decide_eq_true_eq]; omega) | (have h5 := hlt i (by omega); exact refCompare_ok _ _ (hfa _ (getD_mem (by omega)))) | (have h5 := hlt i (by omega); have h6 := hA i (by omega); simp only [cellsPs_length, chunk, List.length_cons, List.length_nil, maxLen, List.length_append, List.length_drop]; omega) | (have h6 := hA N (by omega); simp only [cellsPs_length, chunk, List.length_cons, List.length_nil, maxLen, List.length_append, List.length_drop]; omega) | exact oneF_cellsPs _ | (have h5 := hlt i (by omega); simp only [decide_eq_true_eq, decide_eq_false_iff_not, beq_iff_eq, beq_eq_false_iff_ne] at *; (first | rw [mgk_lt (by assumption)] | rw [mgk_eq (by assumption)] | rw [mgk_gt (by assumption) (by assumption)]); exact congrArg AV.f (congrArg (FV.sl 8) (next1q _ _ _ rfl))) | (simp only [decide_eq_true_eq, decide_eq_false_iff_not, beq_iff_eq, beq_eq_false_iff_ne] at *; (first | rw [mgk_lt (by assumption)] | rw [mgk_eq (by assumption)] | rw [mgk_gt (by assumption) (by assumption)]); exact congrArg (Ob.row 8 42) (snocq _ _)) | (simp only [decide_eq_true_eq, decide_eq_false_iff_not, beq_iff_eq, beq_eq_false_iff_ne] at *; (first | rw [mgk_lt (by assumption)] | rw [mgk_eq (by assumption)] | rw [mgk_gt (by assumption) (by assumption)]); done) | (simp only [cellsPs_length, List.length_drop, decide_eq_true_eq, decide_eq_false_iff_not] at *; omega) | (simp only [cellsPs_app]; done) | (intro x hx; simp [cellsP] at hx; rcases hx with rfl | rfl | rfl | rfl | rfl | rfl | rfl | rfl <;> rfl)
theorem get22 : P.funcs[22]? = some Tryd.f22 := by kernel_rfl
theorem ent22 : entersP P 22 = true := by kernel_rfl
theorem mapof_run (l : List (V × V)) (N : Nat) (hN : N = l.length) (hl : l.length ≤ 65536) (hm : CallsF P G 40 [encV (.mk 6 0 [] (itemsL l))] (.tup [encV (madeR 6 (itemsL l)).1, int (madeR 6 (itemsL l)).2])) : CallsF P G 22 [encPs l] (.tup [encV (madeR 6 (itemsL l)).1, int (madeR 6 (itemsL l)).2]) := by
  refine sx_fn (hs := [.pre [.nrowb 1 3 4 25], .loop [(0,0),(1,1),(2,2)] [(0,0),(1,1),(5,2)] (Smo l) N (fun i => [.dec true, .el (cellsP (l.getD i default).1 ++ cellsP (l.getD i default).2)]), .dec false, .lfz [2], .call (.tup [encV (madeR 6 (itemsL l)).1, int (madeR 6 (itemsL l)).2])]) (let z1 := (↑(List.length (cellsPs l)) : Int); let z2 := FV.tup [encV (Prod.fst (madeR 6 (itemsL l))), int (Prod.snd (madeR 6 (itemsL l)))]; let z3 := Ob.box [AV.f (int 0), AV.f (int 0), AV.f (str []), AV.f FV.nils]; let z4 := Ob.box [AV.f (int 6), AV.f (int 0), AV.f (str []), AV.lsl 2]; (E true ∧ (E (AV.loc 0 0) ∧ E (AV.loc 1 0) ∧ E (AV.f (FV.sl 8 (cellsPs l))) ∧ E (AV.f (int z1)) ∧ AV.f (int 0) = AV.f (int (Int.ofNat 0)) ∧ True) ∧ (E z3 ∧ E z4 ∧ E (Ob.row 4 25 []) ∧ True) ∧ E true ∧ (false = true → false = true)) ∧ (∀ (i : Nat), (let z7 := itemsL (List.take i l); let z8 := List.getD l i default; let z6 := Prod.fst z8; let z5 := int (V.kind z6) :: int (V.num z6) :: str (V.text z6) :: encI (V.items z6) :: cellsP (Prod.snd z8); i < N → decide ((i : Int) < z1) = true ∧ (E 8 ∧ (0 : Int) ≤ (i : Int) ∧ (cellsPs l)[i]? = some z5) ∧ (oneF ([cellsP z6, cellsP (Prod.snd z8)]) ∧ List.length (cellsVs z7) + List.length (chunk 4 2 z5) ≤ maxLen ∧ (List.length (cellsVs z7) + List.length (chunk 4 2 z5)) * 56 ≤ 140737488355328 ∧ E false) ∧ E true ∧ (E (AV.loc 0 0) ∧ E (AV.loc 1 0) ∧ E (AV.f (FV.sl 8 (cellsPs l))) ∧ E (AV.f (int z1)) ∧ AV.f (int (IntKind.wrap IntKind.i64 ((i : Int) + 1))) = AV.f (int (↑(i + 1) : Int)) ∧ True) ∧ (E z3 ∧ E z4 ∧ Ob.row 4 25 (cellsVs z7 ++ chunk (TypeInfo.size (Tables.types (Program.toTables P))[25]) 2 z5) = Ob.row 4 25 (cellsVs (itemsL (List.take (i + 1) l))) ∧ True) ∧ E true ∧ (false = true → false = true))) ∧ decide ((N : Int) < z1) = false ∧ CallsF P G 40 [FV.agg [int 6, int 0, str [], encI (itemsL (List.take N l))]] z2 ∧ E z2) get22 ent22 (by kernel_rfl) ?_
  refine ⟨⟨rfl, ⟨rfl, rfl, rfl, rfl, ?_, trivial⟩, ⟨rfl, rfl, rfl, trivial⟩, rfl, fun hi => ?_⟩, fun i => fun hi => ⟨?_, ⟨rfl, ?_, ?_⟩, ⟨?_, ?_, ?_, rfl⟩, rfl, ⟨rfl, rfl, rfl, rfl, ?_, trivial⟩, ⟨rfl, rfl, ?_, trivial⟩, rfl, fun hi => ?_⟩, ?_, ?_, rfl⟩
  all_goals first | rfl | exact cellsPs_get l _ (by omega) | (simp only [cellsPs_length, decide_eq_true_eq, decide_eq_false_iff_not] at *; omega) | (exact congrArg (fun x => AV.f (int x)) (wrapS ((i : Int) + 1) (by omega) (by omega))) | exact congrArg (Ob.row 4 25) (itemsL_step l i (by omega)) | (have h9 := oneF_cellsVs [(l.getD i default).1, (l.getD i default).2]; simpa only [cellsVs, cellsP_eq] using h9) | (simp only [cellsVs_length, itemsL_len, chunk, List.length_take, List.length_cons, List.length_nil, maxLen]; omega) | (rw [hN, List.take_length]; exact hm) | assumption | omega
theorem get5 : P.funcs[5]? = some Tryd.f5 := by kernel_rfl
theorem ent5 : entersP P 5 = true := by kernel_rfl
theorem refMap_bad (l : List (V × V)) (h : CallsF P G 21 [encPs l] (int (pairL l))) (h0 : pairL l ≠ 0) : CallsF P G 5 [encPs l] (.tup [.agg [int 0, int 0, str [], .nils], int (pairL l)]) := by
  refine sx_fn (hs := [.call (int (pairL l)), .dec true]) ((CallsF P G 21 [FV.sl 8 (cellsPs l)] (int (pairL l))) ∧ ((pairL l != 0) = (true)) ∧ E (FV.tup [FV.agg [int 0, int 0, str [], FV.nils], int (pairL l)])) get5 ent5 (by kernel_rfl) ?_
  refine ⟨?_, ⟨?_, rfl⟩⟩
  all_goals first | exact h | (simp [h0]; done)
theorem refMap_good (l M : List (V × V)) (w : V) (e : Int) (h : CallsF P G 21 [encPs l] (int 0)) (h1 : CallsF P G 23 [encPs l] (encPs M)) (h2 : CallsF P G 22 [encPs M] (.tup [encV w, int e])) : CallsF P G 5 [encPs l] (.tup [encV w, int e]) := by
  refine sx_fn (hs := [.call (int 0), .dec false, .call (encPs M), .call (.tup [encV w, int e])]) (CallsF P G 21 [FV.sl 8 (cellsPs l)] (int 0) ∧ E false ∧ CallsF P G 23 [FV.sl 8 (cellsPs l)] (FV.sl 8 (cellsPs M)) ∧ CallsF P G 22 [FV.sl 8 (cellsPs M)] (FV.tup [encV w, int e]) ∧ E (FV.tup [encV w, int e])) get5 ent5 (by kernel_rfl) ?_
  refine ⟨?_, rfl, ?_, ?_, rfl⟩
  all_goals first | exact h | exact h1 | exact h2
theorem keyed_ok : ∀ (n : Nat) (l : List (V × V)), l.length ≤ n → l.length ≤ 65536 → (∀ x, x ∈ l → Fine x.1) → CallsF P G 23 [encPs l] (encPs (mapL l)) := by
  intro n
  induction n with
  | zero =>
    intro l hn _ _
    rw [mapL_small l (by omega)]
    exact keyed_short l (by omega)
  | succ n ih =>
    intro l hn hl hf
    by_cases h2 : l.length < 2
    · rw [mapL_small l h2]; exact keyed_short l h2
    · have ta : ∀ x, x ∈ l.take (l.length / 2) → x ∈ l := fun x hx => List.mem_of_mem_take hx
      have tb : ∀ x, x ∈ l.drop (l.length / 2) → x ∈ l := fun x hx => List.mem_of_mem_drop hx
      have iha := ih (l.take (l.length / 2)) (by simp; omega) (by simp; omega) (fun x hx => hf x (ta x hx))
      have ihb := ih (l.drop (l.length / 2)) (by simp; omega) (by simp; omega) (fun x hx => hf x (tb x hx))
      have hfa : ∀ x, x ∈ mapL (l.take (l.length / 2)) → Fine x.1 := fun x hx => hf x (ta x (mapL_mem hx))
      have hfb : ∀ x, x ∈ mapL (l.drop (l.length / 2)) → Fine x.1 := fun x hx => hf x (tb x (mapL_mem hx))
      have la := mapL_len (l.take (l.length / 2))
      have lb := mapL_len (l.drop (l.length / 2))
      have e2 := mapL_two (l.take (l.length / 2)) (l.drop (l.length / 2))
      rw [List.take_append_drop] at e2
      generalize mapL (l.take (l.length / 2)) = a at *
      generalize mapL (l.drop (l.length / 2)) = b at *
      have hlen : a.length + b.length ≤ l.length := by simp only [List.length_take, List.length_drop] at la lb; omega
      obtain ⟨N, h3, h4⟩ := exists_least (fun i => ¬ ((mgk a b i).1 < a.length ∧ (mgk a b i).2.1 < b.length)) (by
        apply Classical.byContradiction
        intro h
        have h : ∀ i, (mgk a b i).1 < a.length ∧ (mgk a b i).2.1 < b.length := fun i => by
          apply Classical.byContradiction; intro h'; exact h ⟨i, h'⟩
        have h5 := h (a.length + b.length)
        have h6 := (mgk_upto a b (a.length + b.length) fun j _ => h j).1
        omega)
      have hlt : ∀ i, i < N → (mgk a b i).1 < a.length ∧ (mgk a b i).2.1 < b.length := fun i hi => by
        apply Classical.byContradiction; intro h; have := h4 i h; omega
      have hI := fun i (hi : i ≤ N) => mgk_upto a b i fun j hj => hlt j (by omega)
      have e3 : (mgk a b N).2.2 ++ a.drop (mgk a b N).1 ++ b.drop (mgk a b N).2.1 = mapL l := by
        rw [← e2, ← (hI N (Nat.le_refl _)).2, List.append_assoc]
        congr 1
        rcases Nat.lt_or_ge (mgk a b N).1 a.length with h5 | h5
        · rw [show b.drop (mgk a b N).2.1 = [] from List.drop_eq_nil_of_le (by omega), mgL_nil, List.append_nil]
        · rw [show a.drop (mgk a b N).1 = [] from List.drop_eq_nil_of_le h5, List.nil_append]; simp only [mgL]
      rw [← e3]
      exact keyed_long l a b N (by omega) hl hlen hfa hfb iha ihb (fun i hi => ⟨(hI i hi).1.1, (hI i hi).1.2.1, (hI i hi).1.2.2.1⟩) hlt h3
theorem refMap_ok (l : List (V × V)) (hf : ∀ p, p ∈ l → Fine p.1 ∧ Fine p.2) : CallsF P G 5 [encPs l] (.tup [encV (mapR l).1, int (mapR l).2]) := by
  unfold mapR
  have hv := rpaired_ok l hf
  by_cases h0 : pairL l = 0
  · rw [if_pos h0]
    obtain ⟨hl, hr⟩ := pairL_zero h0
    rw [h0] at hv
    have hlen := mapL_len l
    have hF : ∀ x, x ∈ itemsL (mapL l) → Fine x := itemsL_fine fun p hp => hf p (mapL_mem hp)
    exact refMap_good l (mapL l) _ _ hv (keyed_ok l.length l (Nat.le_refl _) hl fun x hx => (hf x hx).1) (mapof_run (mapL l) _ rfl (by omega) (told_ok 6 (by omega) _ hF (by rw [itemsL_len]; omega)))
  · rw [if_neg h0]
    exact (refMap_bad l hv h0).weak (nilT _)
end Go.Sx
set_option maxRecDepth 100000
set_option maxHeartbeats 4000000
set_option linter.unusedSimpArgs false
set_option linter.unusedVariables false
namespace Go.Sx
open Go.Proofs Sp
/-- A map's pairs: the first j of them. -/
def prs (l : List V) : Nat → List (V × V)
  | 0 => []
  | j + 1 => prs l j ++ [(l.getD (2 * j) default, l.getD (2 * j + 1) default)]
def Svp (n : Int) (s : List UInt8) (l : List V) (i : Nat) : St := { sl := slots 36 [(1, .loc 0 0), (4, .lsl 1), (5, .f (int ((2 * i : Nat) : Int)))], ob := [(0, .box [.f (int 6), .f (int n), .f (str s), .f (encI l)]), (1, .row 8 42 (cellsPs (prs l i)))], nx := 2 }
def Srp (n : Int) (s : List UInt8) (l : List V) (i : Nat) : St := { sl := slots 29 [(1, .loc 0 0), (3, .lsl 1), (4, .f (int ((2 * i : Nat) : Int)))], ob := [(0, .box [.f (int 6), .f (int n), .f (str s), .f (encI l)]), (1, .row 8 42 (cellsPs (prs l i)))], nx := 2 }
open Sp.Sy
theorem prs_len (l : List V) : ∀ j, (prs l j).length = j
  | 0 => rfl
  | j + 1 => by rw [prs, List.length_append, prs_len l j]; rfl
theorem snocp (l : List (V × V)) (x : V × V) : cellsPs l ++ [cellsP x.1 ++ cellsP x.2] = cellsPs (l ++ [x]) := by rw [cellsPs_app]; rfl
theorem vget (l : List V) (i j : Nat) (h : i = j) (hj : j < l.length) : (cellsVs l)[i]? = some (cellsP (l.getD j default)) := by subst h; exact cellsVs_get l i hj
theorem get25 : P.funcs[25]? = some Tryd.f25 := by kernel_rfl
theorem ent25 : entersP P 25 = true := by kernel_rfl
theorem ownPair_ok (p : V × V) (h1 : Fine p.1) (h2 : Fine p.2) : CallsF P G 25 [encQ p] (encQ p) := by
  refine sx_fn (hs := [.nat 7, .call (encV p.1), .call (encV p.2)]) ((E (true)) ∧ (CallsF P G 39 [encV (Prod.fst p)] (encV (Prod.fst p))) ∧ (CallsF P G 39 [encV (Prod.snd p)] (encV (Prod.snd p))) ∧ E (FV.agg (int (V.kind (Prod.fst p)) :: int (V.num (Prod.fst p)) :: str (V.text (Prod.fst p)) :: encI (V.items (Prod.fst p)) :: cellsP (Prod.snd p)))) get25 ent25 (by kernel_rfl) ?_
  refine ⟨rfl, ⟨?_, ⟨?_, rfl⟩⟩⟩
  all_goals first | exact own_ok _ h1 | exact own_ok _ h2
theorem get6 : P.funcs[6]? = some Tryd.f6 := by kernel_rfl
theorem ent6 : entersP P 6 = true := by kernel_rfl
theorem vpairs_bad (v : V) (h : CallsF P G 24 [encV v] (bool false)) : CallsF P G 6 [encV v] (.tup [.nils, int 3]) := by
  refine sx_fn (hs := [.call (bool false), .dec true]) ((CallsF P G 24 [encV v] (bool false)) ∧ (E (true)) ∧ E (FV.tup [FV.nils, int 3])) get6 ent6 (by kernel_rfl) ?_
  refine ⟨?_, ⟨rfl, rfl⟩⟩
  all_goals exact h
theorem vpairs_kind (k n : Int) (s : List UInt8) (l : List V) (h : CallsF P G 24 [encV (.mk k n s l)] (bool true)) (hk : k ≠ 6) : CallsF P G 6 [encV (.mk k n s l)] (.tup [.nils, int 1]) := by
  refine sx_fn (hs := [.call (bool true), .dec false, .dec true]) ((CallsF P G 24 [FV.agg [int k, int n, str s, encI l]] (bool true)) ∧ (E (false)) ∧ ((k != 6) = (true)) ∧ E (FV.tup [FV.nils, int 1])) get6 ent6 (by kernel_rfl) ?_
  refine ⟨?_, ⟨rfl, ⟨?_, rfl⟩⟩⟩
  all_goals first | exact h | (simp [hk]; done)
theorem get7 : P.funcs[7]? = some Tryd.f7 := by kernel_rfl
theorem ent7 : entersP P 7 = true := by kernel_rfl
theorem rpairs_bad (v : V) (h : CallsF P G 26 [encV v] (bool false)) : CallsF P G 7 [encV v] (.tup [.nils, int 3]) := by
  refine sx_fn (hs := [.call (bool false), .dec true]) ((CallsF P G 26 [encV v] (bool false)) ∧ (E (true)) ∧ E (FV.tup [FV.nils, int 3])) get7 ent7 (by kernel_rfl) ?_
  refine ⟨?_, ⟨rfl, rfl⟩⟩
  all_goals exact h
theorem rpairs_kind (k n : Int) (s : List UInt8) (l : List V) (h : CallsF P G 26 [encV (.mk k n s l)] (bool true)) (hk : k ≠ 6) : CallsF P G 7 [encV (.mk k n s l)] (.tup [.nils, int 1]) := by
  refine sx_fn (hs := [.call (bool true), .dec false, .dec true]) ((CallsF P G 26 [FV.agg [int k, int n, str s, encI l]] (bool true)) ∧ (E (false)) ∧ ((k != 6) = (true)) ∧ E (FV.tup [FV.nils, int 1])) get7 ent7 (by kernel_rfl) ?_
  refine ⟨?_, ⟨rfl, ⟨?_, rfl⟩⟩⟩
  all_goals first | exact h | (simp [hk]; done)
theorem vpairs_run (n : Int) (s : List UInt8) (l : List V) (N : Nat) (hl : l.length ≤ 1000000) (hN : l.length = 2 * N) (h : CallsF P G 24 [encV (.mk 6 n s l)] (bool true)) (hO : ∀ i, i < N → CallsF P G 25 [encQ (l.getD (2 * i) default, l.getD (2 * i + 1) default)] (encQ (l.getD (2 * i) default, l.getD (2 * i + 1) default))) : CallsF P G 6 [encV (.mk 6 n s l)] (.tup [encPs (prs l N), int 0]) := by
  refine sx_fn (hs := [.call (bool true), .dec false, .dec false, .pre [.nrow 4 8 42], .loop [(0,0),(1,1)] [(0,0),(3,1)] (Svp n s l) N (fun i => [.dec true, .tkn 1 [(13, 3)], .el (cellsP (l.getD (2 * i) default)), .el (cellsP (l.getD (2 * i + 1) default)), .call (encQ (l.getD (2 * i) default, l.getD (2 * i + 1) default))]), .dec false, .frz [1]]) ((CallsF P G 24 [FV.agg [int 6, int n, str s, encI l]] (bool true)) ∧ (E (false)) ∧ (E (false)) ∧ ((E (true)) ∧ ((E (AV.loc 0 0)) ∧ (E (AV.lsl 1)) ∧ ((AV.f (int 0)) = (AV.f (int (Int.ofNat (2 * 0))))) ∧ True) ∧ ((E (Ob.box [AV.f (int 6), AV.f (int n), AV.f (str s), AV.f (encI l)])) ∧ (E (Ob.row 8 42 [])) ∧ True) ∧ (E (true)) ∧ (((false) = (true)) → ((false) = (true)))) ∧ ((∀ (i : Nat), ((i < N) → (((decide ((↑(2 * i) : Int) < (↑(List.length (cellsVs l)) : Int))) = (true)) ∧ (E (true)) ∧ ((E (4)) ∧ ((0 : Int) ≤ (↑(2 * i) : Int)) ∧ ((cellsVs l)[2 * i]?) = (some (cellsP (List.getD l (2 * i) default)))) ∧ ((E (4)) ∧ ((0 : Int) ≤ IntKind.wrap IntKind.i64 ((↑(2 * i) : Int) + 1)) ∧ ((cellsVs l)[Int.toNat (IntKind.wrap IntKind.i64 ((↑(2 * i) : Int) + 1))]?) = (some (cellsP (List.getD l (2 * i + 1) default)))) ∧ (CallsF P G 25 [FV.agg (int (V.kind (List.getD l (2 * i) default)) :: int (V.num (List.getD l (2 * i) default)) :: str (V.text (List.getD l (2 * i) default)) :: encI (V.items (List.getD l (2 * i) default)) :: cellsP (List.getD l (2 * i + 1) default))] (FV.agg (int (V.kind (Prod.fst (List.getD l (2 * i) default, List.getD l (2 * i + 1) default))) :: int (V.num (Prod.fst (List.getD l (2 * i) default, List.getD l (2 * i + 1) default))) :: str (V.text (Prod.fst (List.getD l (2 * i) default, List.getD l (2 * i + 1) default))) :: encI (V.items (Prod.fst (List.getD l (2 * i) default, List.getD l (2 * i + 1) default))) :: cellsP (Prod.snd (List.getD l (2 * i) default, List.getD l (2 * i + 1) default))))) ∧ ((oneF ([int (V.kind (Prod.fst (List.getD l (2 * i) default, List.getD l (2 * i + 1) default))) :: int (V.num (Prod.fst (List.getD l (2 * i) default, List.getD l (2 * i + 1) default))) :: str (V.text (Prod.fst (List.getD l (2 * i) default, List.getD l (2 * i + 1) default))) :: encI (V.items (Prod.fst (List.getD l (2 * i) default, List.getD l (2 * i + 1) default))) :: cellsP (Prod.snd (List.getD l (2 * i) default, List.getD l (2 * i + 1) default))])) ∧ (List.length (cellsPs (prs l i)) + List.length (chunk 8 1 (int (V.kind (Prod.fst (List.getD l (2 * i) default, List.getD l (2 * i + 1) default))) :: int (V.num (Prod.fst (List.getD l (2 * i) default, List.getD l (2 * i + 1) default))) :: str (V.text (Prod.fst (List.getD l (2 * i) default, List.getD l (2 * i + 1) default))) :: encI (V.items (Prod.fst (List.getD l (2 * i) default, List.getD l (2 * i + 1) default))) :: cellsP (Prod.snd (List.getD l (2 * i) default, List.getD l (2 * i + 1) default)))) ≤ maxLen) ∧ ((List.length (cellsPs (prs l i)) + List.length (chunk 8 1 (int (V.kind (Prod.fst (List.getD l (2 * i) default, List.getD l (2 * i + 1) default))) :: int (V.num (Prod.fst (List.getD l (2 * i) default, List.getD l (2 * i + 1) default))) :: str (V.text (Prod.fst (List.getD l (2 * i) default, List.getD l (2 * i + 1) default))) :: encI (V.items (Prod.fst (List.getD l (2 * i) default, List.getD l (2 * i + 1) default))) :: cellsP (Prod.snd (List.getD l (2 * i) default, List.getD l (2 * i + 1) default))))) * 112 ≤ 140737488355328) ∧ E (false)) ∧ (E (true)) ∧ ((E (AV.loc 0 0)) ∧ (E (AV.lsl 1)) ∧ ((AV.f (int (IntKind.wrap IntKind.i64 ((↑(2 * i) : Int) + 2)))) = (AV.f (int (↑(2 * (i + 1)) : Int)))) ∧ True) ∧ ((E (Ob.box [AV.f (int 6), AV.f (int n), AV.f (str s), AV.f (encI l)])) ∧ ((Ob.row 8 42 (cellsPs (prs l i) ++ chunk (TypeInfo.size (Tables.types (Program.toTables P))[42]) 1 (int (V.kind (Prod.fst (List.getD l (2 * i) default, List.getD l (2 * i + 1) default))) :: int (V.num (Prod.fst (List.getD l (2 * i) default, List.getD l (2 * i + 1) default))) :: str (V.text (Prod.fst (List.getD l (2 * i) default, List.getD l (2 * i + 1) default))) :: encI (V.items (Prod.fst (List.getD l (2 * i) default, List.getD l (2 * i + 1) default))) :: cellsP (Prod.snd (List.getD l (2 * i) default, List.getD l (2 * i + 1) default))))) = (Ob.row 8 42 (cellsPs (prs l (i + 1))))) ∧ True) ∧ (E (true)) ∧ (((false) = (true)) → ((false) = (true))))))) ∧ ((decide ((↑(2 * N) : Int) < (↑(List.length (cellsVs l)) : Int))) = (false)) ∧ E (FV.tup [FV.sl 8 (cellsPs (prs l N)), int 0])) get6 ent6 (by kernel_rfl) ?_
  refine ⟨?_, ⟨rfl, ⟨rfl, ⟨⟨rfl, ⟨⟨rfl, ⟨rfl, ⟨?_, trivial⟩⟩⟩, ⟨⟨rfl, ⟨rfl, trivial⟩⟩, ⟨rfl, fun hi => ?_⟩⟩⟩⟩, ⟨fun i => fun hi => ⟨?_, ⟨rfl, ⟨⟨rfl, ⟨?_, ?_⟩⟩, ⟨⟨rfl, ⟨?_, ?_⟩⟩, ⟨?_, ⟨⟨?_, ⟨?_, ⟨?_, rfl⟩⟩⟩, ⟨rfl, ⟨⟨rfl, ⟨rfl, ⟨?_, trivial⟩⟩⟩, ⟨⟨rfl, ⟨?_, trivial⟩⟩, ⟨rfl, fun hi => ?_⟩⟩⟩⟩⟩⟩⟩⟩⟩⟩, ⟨?_, rfl⟩⟩⟩⟩⟩⟩
  all_goals first | rfl | exact h | exact hO i (by omega) | (rw [wrapS _ (by omega) (by omega)]; exact vget l _ _ (by omega) (by omega)) | exact vget l _ _ (by omega) (by omega) | (simp only [cellsVs_length, decide_eq_true_eq, decide_eq_false_iff_not] at *; omega) | (rw [wrapS _ (by omega) (by omega)]; omega) | (exact congrArg (fun x => AV.f (int x)) (by rw [wrapS _ (by omega) (by omega)]; omega)) | exact congrArg (Ob.row 8 42) (snocp _ _) | (intro x hx; simp [cellsP] at hx; rcases hx with rfl | rfl | rfl | rfl | rfl | rfl | rfl | rfl <;> rfl) | (simp only [cellsPs_length, prs_len, chunk, List.length_cons, List.length_nil, maxLen]; omega) | assumption | omega
theorem get27 : P.funcs[27]? = some Tryd.f27 := by kernel_rfl
theorem ent27 : entersP P 27 = true := by kernel_rfl
theorem pairsOf_run (n : Int) (s : List UInt8) (l : List V) (N : Nat) (hl : l.length ≤ 1000000) (hN : l.length = 2 * N) : CallsF P G 27 [encV (.mk 6 n s l)] (encPs (prs l N)) := by
  refine sx_fn (hs := [.pre [.nrow 3 8 42], .loop [(0,0),(1,1)] [(0,0),(3,1)] (Srp n s l) N (fun i => [.dec true, .tkn 1 [(12, 3)], .el (cellsP (l.getD (2 * i) default)), .el (cellsP (l.getD (2 * i + 1) default))]), .dec false, .frz [1]]) (((E (true)) ∧ ((E (AV.loc 0 0)) ∧ (E (AV.lsl 1)) ∧ ((AV.f (int 0)) = (AV.f (int (Int.ofNat (2 * 0))))) ∧ True) ∧ ((E (Ob.box [AV.f (int 6), AV.f (int n), AV.f (str s), AV.f (encI l)])) ∧ (E (Ob.row 8 42 [])) ∧ True) ∧ (E (true)) ∧ (((false) = (true)) → ((false) = (true)))) ∧ ((∀ (i : Nat), ((i < N) → (((decide (IntKind.wrap IntKind.i64 ((↑(2 * i) : Int) + 1) < (↑(List.length (cellsVs l)) : Int))) = (true)) ∧ (E (true)) ∧ ((E (4)) ∧ ((0 : Int) ≤ (↑(2 * i) : Int)) ∧ ((cellsVs l)[2 * i]?) = (some (cellsP (List.getD l (2 * i) default)))) ∧ ((E (4)) ∧ ((0 : Int) ≤ IntKind.wrap IntKind.i64 ((↑(2 * i) : Int) + 1)) ∧ ((cellsVs l)[Int.toNat (IntKind.wrap IntKind.i64 ((↑(2 * i) : Int) + 1))]?) = (some (cellsP (List.getD l (2 * i + 1) default)))) ∧ ((oneF ([int (V.kind (List.getD l (2 * i) default)) :: int (V.num (List.getD l (2 * i) default)) :: str (V.text (List.getD l (2 * i) default)) :: encI (V.items (List.getD l (2 * i) default)) :: cellsP (List.getD l (2 * i + 1) default)])) ∧ (List.length (cellsPs (prs l i)) + List.length (chunk 8 1 (int (V.kind (List.getD l (2 * i) default)) :: int (V.num (List.getD l (2 * i) default)) :: str (V.text (List.getD l (2 * i) default)) :: encI (V.items (List.getD l (2 * i) default)) :: cellsP (List.getD l (2 * i + 1) default))) ≤ maxLen) ∧ ((List.length (cellsPs (prs l i)) + List.length (chunk 8 1 (int (V.kind (List.getD l (2 * i) default)) :: int (V.num (List.getD l (2 * i) default)) :: str (V.text (List.getD l (2 * i) default)) :: encI (V.items (List.getD l (2 * i) default)) :: cellsP (List.getD l (2 * i + 1) default)))) * 112 ≤ 140737488355328) ∧ E (false)) ∧ (E (true)) ∧ ((E (AV.loc 0 0)) ∧ (E (AV.lsl 1)) ∧ ((AV.f (int (IntKind.wrap IntKind.i64 ((↑(2 * i) : Int) + 2)))) = (AV.f (int (↑(2 * (i + 1)) : Int)))) ∧ True) ∧ ((E (Ob.box [AV.f (int 6), AV.f (int n), AV.f (str s), AV.f (encI l)])) ∧ ((Ob.row 8 42 (cellsPs (prs l i) ++ chunk (TypeInfo.size (Tables.types (Program.toTables P))[42]) 1 (int (V.kind (List.getD l (2 * i) default)) :: int (V.num (List.getD l (2 * i) default)) :: str (V.text (List.getD l (2 * i) default)) :: encI (V.items (List.getD l (2 * i) default)) :: cellsP (List.getD l (2 * i + 1) default)))) = (Ob.row 8 42 (cellsPs (prs l (i + 1))))) ∧ True) ∧ (E (true)) ∧ (((false) = (true)) → ((false) = (true))))))) ∧ ((decide (IntKind.wrap IntKind.i64 ((↑(2 * N) : Int) + 1) < (↑(List.length (cellsVs l)) : Int))) = (false)) ∧ E (FV.sl 8 (cellsPs (prs l N)))) get27 ent27 (by kernel_rfl) ?_
  refine ⟨⟨rfl, ⟨⟨rfl, ⟨rfl, ⟨?_, trivial⟩⟩⟩, ⟨⟨rfl, ⟨rfl, trivial⟩⟩, ⟨rfl, fun hi => ?_⟩⟩⟩⟩, ⟨fun i => fun hi => ⟨?_, ⟨rfl, ⟨⟨rfl, ⟨?_, ?_⟩⟩, ⟨⟨rfl, ⟨?_, ?_⟩⟩, ⟨⟨?_, ⟨?_, ⟨?_, rfl⟩⟩⟩, ⟨rfl, ⟨⟨rfl, ⟨rfl, ⟨?_, trivial⟩⟩⟩, ⟨⟨rfl, ⟨?_, trivial⟩⟩, ⟨rfl, fun hi => ?_⟩⟩⟩⟩⟩⟩⟩⟩⟩, ⟨?_, rfl⟩⟩⟩
  all_goals first | rfl | (rw [wrapS _ (by omega) (by omega)]; exact vget l _ _ (by omega) (by omega)) | exact vget l _ _ (by omega) (by omega) | (rw [wrapS _ (by omega) (by omega)]; simp only [cellsVs_length, decide_eq_true_eq, decide_eq_false_iff_not]; omega) | (rw [wrapS _ (by omega) (by omega)]; omega) | (exact congrArg (fun x => AV.f (int x)) (by rw [wrapS _ (by omega) (by omega)]; omega)) | exact congrArg (Ob.row 8 42) (snocp (prs l i) (l.getD (2 * i) default, l.getD (2 * i + 1) default)) | (intro x hx; simp [cellsP] at hx; rcases hx with rfl | rfl | rfl | rfl | rfl | rfl | rfl | rfl <;> rfl) | (simp only [cellsPs_length, prs_len, chunk, List.length_cons, List.length_nil, maxLen]; omega) | assumption | omega
theorem rpairs_run (n : Int) (s : List UInt8) (l : List V) (M : List (V × V)) (h : CallsF P G 26 [encV (.mk 6 n s l)] (bool true)) (h2 : CallsF P G 27 [encV (.mk 6 n s l)] (encPs M)) : CallsF P G 7 [encV (.mk 6 n s l)] (.tup [encPs M, int 0]) := by
  refine sx_fn (hs := [.call (bool true), .dec false, .dec false, .call (encPs M)]) ((CallsF P G 26 [FV.agg [int 6, int n, str s, encI l]] (bool true)) ∧ (E (false)) ∧ (E (false)) ∧ (CallsF P G 27 [FV.agg [int 6, int n, str s, encI l]] (FV.sl 8 (cellsPs M))) ∧ E (FV.tup [FV.sl 8 (cellsPs M), int 0])) get7 ent7 (by kernel_rfl) ?_
  refine ⟨?_, ⟨rfl, ⟨rfl, ⟨?_, rfl⟩⟩⟩⟩
  all_goals first | exact h | exact h2
end Go.Sx

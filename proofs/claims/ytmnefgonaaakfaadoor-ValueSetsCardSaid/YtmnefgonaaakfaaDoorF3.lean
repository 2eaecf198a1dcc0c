/-
  Proved: what some functions of the program answer, or a law of the evaluator that shows it, one theorem each; its conditions are the hypotheses that stand ahead of it.
-/
import Derived.Test.YtmnefgonaaakfaaDoorF2
import Derived.KernelRfl
set_option maxRecDepth 100000
set_option linter.unusedSimpArgs false
set_option linter.unusedVariables false
namespace Go.Sx
open Go.Proofs Sp
/-- The merging of two rising lists, step by step: how many are taken of each, and what is out. -/
def mgi (a b : List V) : Nat → Nat × Nat × List V
  | 0 => (0, 0, [])
  | i + 1 => if cmpV (b.getD (mgi a b i).2.1 default) (a.getD (mgi a b i).1 default) < 0 then ((mgi a b i).1, (mgi a b i).2.1 + 1, (mgi a b i).2.2 ++ [b.getD (mgi a b i).2.1 default])
    else ((mgi a b i).1 + 1, (mgi a b i).2.1, (mgi a b i).2.2 ++ [a.getD (mgi a b i).1 default])
def Smg (a b : List V) (i : Nat) : St := { sl := slots 62 [(4, .f (encI (a.drop (mgi a b i).1))), (5, .f (encI (b.drop (mgi a b i).2.1))), (6, .lsl 0)], ob := [(0, .row 4 24 (cellsVs (mgi a b i).2.2))], nx := 1 }
theorem drop0 (l : List V) (p : Nat) (h : p < l.length) : (cellsVs (l.drop p))[0]? = some (cellsP (l.getD p default)) := by
  rw [drop_cons h]; simp [cellsVs, cellsP_eq]
theorem cellsVs_drop : ∀ (l : List V) (i : Nat), (cellsVs l).drop i = cellsVs (l.drop i)
  | _, 0 => rfl
  | [], i + 1 => rfl
  | y :: l, i + 1 => by simp [cellsVs, cellsVs_drop l i]
theorem next1 (l : List V) (p n : Nat) (h : n = (cellsVs (l.drop p)).length) : ((cellsVs (l.drop p)).take n).drop 1 = cellsVs (l.drop (p + 1)) := by
  rw [h, List.take_length, cellsVs_drop, List.drop_drop]
/-- What holds between the two lists and what is out. -/
structure MgI (a b : List V) (i : Nat) : Prop where
  p : (mgi a b i).1 ≤ a.length
  q : (mgi a b i).2.1 ≤ b.length
  len : (mgi a b i).2.2.length = (mgi a b i).1 + (mgi a b i).2.1
  perm : ((mgi a b i).2.2 ++ (a.drop (mgi a b i).1 ++ b.drop (mgi a b i).2.1)).Perm (a ++ b)
  sorted : (mgi a b i).2.2.Pairwise fun x y => cmpV x y ≤ 0
  le : ∀ x, x ∈ (mgi a b i).2.2 → ∀ y, y ∈ a.drop (mgi a b i).1 ++ b.drop (mgi a b i).2.1 → cmpV x y ≤ 0
theorem drop_le {a : List V} (h : a.Pairwise fun x y => cmpV x y ≤ 0) {p : Nat} (hp : p < a.length) : ∀ y, y ∈ a.drop p → cmpV (a.getD p default) y ≤ 0 := by
  intro y hy
  rw [drop_cons hp] at hy
  have hq := (drop_cons hp) ▸ h.drop (i := p)
  rw [List.pairwise_cons] at hq
  rcases List.mem_cons.1 hy with rfl | hy
  · rw [cmpV_self]; omega
  · exact hq.1 y hy
theorem mgI_step {a b : List V} (ha : a.Pairwise fun x y => cmpV x y ≤ 0) (hb : b.Pairwise fun x y => cmpV x y ≤ 0) {i : Nat} (h : MgI a b i) (h1 : (mgi a b i).1 < a.length) (h2 : (mgi a b i).2.1 < b.length) : MgI a b (i + 1) := by
  have da := drop_le ha h1
  have db := drop_le hb h2
  have ma : a.getD (mgi a b i).1 default ∈ a.drop (mgi a b i).1 := by rw [drop_cons h1]; simp
  have mb : b.getD (mgi a b i).2.1 default ∈ b.drop (mgi a b i).2.1 := by rw [drop_cons h2]; simp
  have suba : ∀ y, y ∈ a.drop ((mgi a b i).1 + 1) → y ∈ a.drop (mgi a b i).1 := fun y hy => by rw [drop_cons h1]; simp [hy]
  have subb : ∀ y, y ∈ b.drop ((mgi a b i).2.1 + 1) → y ∈ b.drop (mgi a b i).2.1 := fun y hy => by rw [drop_cons h2]; simp [hy]
  by_cases hc : cmpV (b.getD (mgi a b i).2.1 default) (a.getD (mgi a b i).1 default) < 0
  · have e : mgi a b (i + 1) = ((mgi a b i).1, (mgi a b i).2.1 + 1, (mgi a b i).2.2 ++ [b.getD (mgi a b i).2.1 default]) := by simp only [mgi]; rw [if_pos hc]
    have hle : ∀ y, y ∈ a.drop (mgi a b i).1 ++ b.drop (mgi a b i).2.1 → cmpV (b.getD (mgi a b i).2.1 default) y ≤ 0 := fun y hy => by
      rcases List.mem_append.1 hy with hy | hy
      · exact cmpV_line.le_trans _ _ _ trivial trivial trivial (by omega) (da y hy)
      · exact db y hy
    refine ⟨by rw [e]; exact h.p, by rw [e]; simp only; omega, by rw [e]; simp only [List.length_append, List.length_cons, List.length_nil, h.len]; omega, ?_, ?_, ?_⟩
    · rw [e]
      simp only
      refine List.Perm.trans ?_ h.perm
      rw [List.append_assoc]
      refine List.Perm.append_left _ ?_
      rw [drop_cons h2]
      exact (List.perm_middle (a := b.getD (mgi a b i).2.1 default) (l₁ := a.drop (mgi a b i).1) (l₂ := b.drop ((mgi a b i).2.1 + 1))).symm
    · rw [e]
      exact List.pairwise_append.2 ⟨h.sorted, by simp, fun x hx y hy => by
        have ey : y = b.getD (mgi a b i).2.1 default := by simpa using hy
        rw [ey]; exact h.le x hx _ (List.mem_append.2 (.inr mb))⟩
    · rw [e]
      intro x hx y hy
      have hy' : y ∈ a.drop (mgi a b i).1 ++ b.drop (mgi a b i).2.1 := by
        rcases List.mem_append.1 hy with hy | hy
        · simp [hy]
        · simp [subb y hy]
      rcases List.mem_append.1 hx with hx | hx
      · exact h.le x hx y hy'
      · have ex : x = b.getD (mgi a b i).2.1 default := by simpa using hx
        rw [ex]; exact hle y hy'
  · have e : mgi a b (i + 1) = ((mgi a b i).1 + 1, (mgi a b i).2.1, (mgi a b i).2.2 ++ [a.getD (mgi a b i).1 default]) := by simp only [mgi]; rw [if_neg hc]
    have ht := cmpV_line.turn (b.getD (mgi a b i).2.1 default) (a.getD (mgi a b i).1 default) trivial trivial
    have hle : ∀ y, y ∈ a.drop (mgi a b i).1 ++ b.drop (mgi a b i).2.1 → cmpV (a.getD (mgi a b i).1 default) y ≤ 0 := fun y hy => by
      rcases List.mem_append.1 hy with hy | hy
      · exact da y hy
      · exact cmpV_line.le_trans _ _ _ trivial trivial trivial (by omega) (db y hy)
    refine ⟨by rw [e]; simp only; omega, by rw [e]; exact h.q, by rw [e]; simp only [List.length_append, List.length_cons, List.length_nil, h.len]; omega, ?_, ?_, ?_⟩
    · rw [e]
      simp only
      refine List.Perm.trans ?_ h.perm
      rw [List.append_assoc]
      refine List.Perm.append_left _ ?_
      rw [drop_cons h1]
      simp
    · rw [e]
      exact List.pairwise_append.2 ⟨h.sorted, by simp, fun x hx y hy => by
        have ey : y = a.getD (mgi a b i).1 default := by simpa using hy
        rw [ey]; exact h.le x hx _ (List.mem_append.2 (.inl ma))⟩
    · rw [e]
      intro x hx y hy
      have hy' : y ∈ a.drop (mgi a b i).1 ++ b.drop (mgi a b i).2.1 := by
        rcases List.mem_append.1 hy with hy | hy
        · simp [suba y hy]
        · simp [hy]
      rcases List.mem_append.1 hx with hx | hx
      · exact h.le x hx y hy'
      · have ex : x = a.getD (mgi a b i).1 default := by simpa using hx
        rw [ex]; exact hle y hy'
theorem mgI_upto {a b : List V} (ha : a.Pairwise fun x y => cmpV x y ≤ 0) (hb : b.Pairwise fun x y => cmpV x y ≤ 0) : ∀ i, (∀ j, j < i → (mgi a b j).1 < a.length ∧ (mgi a b j).2.1 < b.length) → MgI a b i
  | 0, _ => ⟨by simp [mgi], by simp [mgi], by simp [mgi], by simp [mgi], by simp [mgi], by simp [mgi]⟩
  | i + 1, h => mgI_step ha hb (mgI_upto ha hb i fun j hj => h j (by omega)) (h i (by omega)).1 (h i (by omega)).2
theorem mg_end {l : List V} (hr : ∀ x, x ∈ l → rightB x = true) {a b : List V} (ha : a.Pairwise fun x y => cmpV x y ≤ 0) (hb : b.Pairwise fun x y => cmpV x y ≤ 0) (hp : (a ++ b).Perm l) {N : Nat} (h : MgI a b N) (he : ¬ ((mgi a b N).1 < a.length ∧ (mgi a b N).2.1 < b.length)) :
    (mgi a b N).2.2 ++ a.drop (mgi a b N).1 ++ b.drop (mgi a b N).2.1 = sortL l := by
  refine sorted_unique l _ ?_ ?_ fun x y hx hy h => rightB_same (hr x hx) (hr y hy) h
  · rw [List.append_assoc]; exact h.perm.trans hp
  · rw [List.append_assoc]
    refine List.pairwise_append.2 ⟨h.sorted, ?_, h.le⟩
    have h1 := h.p
    have h2 := h.q
    by_cases e : (mgi a b N).1 = a.length
    · rw [e, List.drop_length, List.nil_append]; exact hb.drop
    · rw [show (mgi a b N).2.1 = b.length by omega, List.drop_length, List.append_nil]; exact ha.drop
theorem get53 : P.funcs[53]? = some Tryd.f53 := by kernel_rfl
theorem ent53 : entersP P 53 = true := by kernel_rfl
theorem sorted_short (l : List V) (hl : l.length < 2) : CallsF P G 53 [encI l] (encI l) := by
  refine sx_fn (hs := [.dec true, .lfz [1]]) (((decide ((↑(List.length (cellsVs l)) : Int) < 2)) = (true)) ∧ ((oneF (cellsVs l)) ∧ (0 + List.length (cellsVs l) ≤ maxLen) ∧ ((0 + List.length (cellsVs l)) * 56 ≤ 140737488355328) ∧ (false) = (false)) ∧ (FV.sl 4 (chunk (TypeInfo.size (Tables.types (Program.toTables P))[24]) 0 [] ++ cellsVs l)) = (FV.sl 4 (cellsVs l))) get53 ent53 (by kernel_rfl) ?_
  refine ⟨?_, ⟨⟨?_, ⟨?_, ⟨?_, rfl⟩⟩⟩, ?_⟩⟩
  all_goals first | rfl | exact oneF_cellsVs l | (simp only [cellsVs_length, decide_eq_true_eq]; omega) | (simp only [cellsVs_length, chunk, List.length_nil, maxLen]; omega) | (simp [chunk]; done) | assumption | omega | (simp only [decide_eq_true_eq, decide_eq_false_iff_not]; omega) | (simp only [decide_eq_true_eq, decide_eq_false_iff_not, beq_iff_eq, beq_eq_false_iff_ne, cellsVs_length, List.length_append, List.length_map, List.length_take, List.length_drop, List.length_reverse, List.length_set, List.length_replicate, chunk, List.length_cons, List.length_nil, Int.toNat_natCast, V.items, maxLen]; omega) | (exfalso; simp only [decide_eq_true_eq, decide_eq_false_iff_not, beq_iff_eq, beq_eq_false_iff_ne, cellsVs_length, List.length_append, List.length_map, List.length_take, List.length_drop, List.length_reverse, List.length_set, List.length_replicate, chunk, List.length_cons, List.length_nil, Int.toNat_natCast, V.items, maxLen] at *; omega) | (rw [wrapS _ (by omega) (by omega)]; omega) | (exact congrArg (fun x => AV.f (int x)) (by (try simp only [cellsVs_length, List.length_append, List.length_map, List.length_take, List.length_drop, List.length_reverse, List.length_set, List.length_replicate, chunk, List.length_cons, List.length_nil, Int.toNat_natCast, V.items, maxLen]); rw [wrapS _ (by omega) (by omega)]; (try omega))) | (intro x hx; simp at hx; rcases hx with rfl | rfl | rfl | rfl <;> rfl) | (intro x hx; simp at hx; rcases hx with rfl | rfl | rfl | rfl | rfl | rfl | rfl | rfl <;> rfl) | (simp [V.kind, V.num, V.text, V.items, *]; done) | (simp_all [V.kind, V.num, V.text, V.items]; done)
theorem sorted_long (l a b : List V) (N : Nat) (hn : 2 ≤ l.length) (hl : l.length ≤ 65536) (hlen : a.length + b.length = l.length) (hfa : ∀ x, x ∈ a → Fine x) (hfb : ∀ x, x ∈ b → Fine x) (iha : CallsF P G 53 [encI (l.take (l.length / 2))] (encI a)) (ihb : CallsF P G 53 [encI (l.drop (l.length / 2))] (encI b)) (hI : ∀ i, i ≤ N → MgI a b i) (hlt : ∀ i, i < N → (mgi a b i).1 < a.length ∧ (mgi a b i).2.1 < b.length) (he : ¬ ((mgi a b N).1 < a.length ∧ (mgi a b N).2.1 < b.length))  : CallsF P G 53 [encI l] (encI ((mgi a b N).2.2 ++ a.drop (mgi a b N).1 ++ b.drop (mgi a b N).2.1)) := by
  have hq : IntKind.wrap IntKind.i64 (Int.tdiv ((cellsVs l).length : Int) 2) = ((l.length / 2 : Nat) : Int) := by
    rw [cellsVs_length, show Int.tdiv (l.length : Int) 2 = ((l.length / 2 : Nat) : Int) from rfl]; exact wrapS _ (by omega) (by omega)
  have hA : ∀ i, i ≤ N → (mgi a b i).1 ≤ a.length ∧ (mgi a b i).2.1 ≤ b.length ∧ (mgi a b i).2.2.length = (mgi a b i).1 + (mgi a b i).2.1 := fun i hi => ⟨(hI i hi).p, (hI i hi).q, (hI i hi).len⟩
  refine sx_fn (hs := [.dec false, .call (encI a), .call (encI b), .pre [.nrow 6 4 24], .loop [(0,0)] [(2,0)] (Smg a b) N (fun i => [.dec true, .dec true, .nat 8, .el (cellsP (b.getD (mgi a b i).2.1 default)), .el (cellsP (a.getD (mgi a b i).1 default)), .call (int (cmpV (b.getD (mgi a b i).2.1 default) (a.getD (mgi a b i).1 default))), .br [.el (cellsP (b.getD (mgi a b i).2.1 default))] [.el (cellsP (a.getD (mgi a b i).1 default))]]), .br [.dec false, .lfz [2]] [.dec false, .lfz [2]]]) (((decide ((↑(List.length (cellsVs l)) : Int) < 2)) = (false)) ∧ (((4) = (4)) ∧ ((0 : Int) ≤ 0) ∧ ((0 : Int) ≤ Option.getD (some (IntKind.wrap IntKind.i64 (Int.tdiv (↑(List.length (cellsVs l)) : Int) 2))) (↑(List.length (cellsVs l)) : Int)) ∧ Option.getD (some (IntKind.wrap IntKind.i64 (Int.tdiv (↑(List.length (cellsVs l)) : Int) 2))) (↑(List.length (cellsVs l)) : Int) ≤ (↑(List.length (cellsVs l)) : Int)) ∧ (CallsF P G 53 [FV.sl 4 (List.drop (Int.toNat 0) (List.take (Int.toNat (Option.getD (some (IntKind.wrap IntKind.i64 (Int.tdiv (↑(List.length (cellsVs l)) : Int) 2))) (↑(List.length (cellsVs l)) : Int))) (cellsVs l)))] (FV.sl 4 (cellsVs a))) ∧ (((4) = (4)) ∧ ((0 : Int) ≤ IntKind.wrap IntKind.i64 (Int.tdiv (↑(List.length (cellsVs l)) : Int) 2)) ∧ (IntKind.wrap IntKind.i64 (Int.tdiv (↑(List.length (cellsVs l)) : Int) 2) ≤ Option.getD none (↑(List.length (cellsVs l)) : Int)) ∧ Option.getD none (↑(List.length (cellsVs l)) : Int) ≤ (↑(List.length (cellsVs l)) : Int)) ∧ (CallsF P G 53 [FV.sl 4 (List.drop (Int.toNat (IntKind.wrap IntKind.i64 (Int.tdiv (↑(List.length (cellsVs l)) : Int) 2))) (List.take (Int.toNat (Option.getD none (↑(List.length (cellsVs l)) : Int))) (cellsVs l)))] (FV.sl 4 (cellsVs b))) ∧ (((true) = (true)) ∧ (((AV.f (FV.sl 4 (cellsVs a))) = (AV.f (FV.sl 4 (cellsVs (List.drop (Prod.fst (mgi a b 0)) a))))) ∧ ((AV.f (FV.sl 4 (cellsVs b))) = (AV.f (FV.sl 4 (cellsVs (List.drop (Prod.fst (Prod.snd (mgi a b 0))) b))))) ∧ ((AV.lsl 0) = (AV.lsl 0)) ∧ True) ∧ ((Ob.row 4 24 []) = (Ob.row 4 24 [])) ∧ True) ∧ ((∀ (i : Nat), ((i < N) → (((decide ((↑(List.length (cellsVs (List.drop (Prod.fst (mgi a b i)) a))) : Int) > 0)) = (true)) ∧ ((decide ((↑(List.length (cellsVs (List.drop (Prod.fst (Prod.snd (mgi a b i))) b))) : Int) > 0)) = (true)) ∧ ((true) = (true)) ∧ (((4) = (4)) ∧ ((0 : Int) ≤ 0) ∧ ((cellsVs (List.drop (Prod.fst (Prod.snd (mgi a b i))) b))[Int.toNat 0]?) = (some [FV.sc (Value.int IntKind.i64 (V.kind (List.getD b (Prod.fst (Prod.snd (mgi a b i))) default))), FV.sc (Value.int IntKind.i64 (V.num (List.getD b (Prod.fst (Prod.snd (mgi a b i))) default))), FV.sc (Value.string { data := List.toArray (V.text (List.getD b (Prod.fst (Prod.snd (mgi a b i))) default)) }), FV.sl 4 (cellsVs (V.items (List.getD b (Prod.fst (Prod.snd (mgi a b i))) default)))])) ∧ (((4) = (4)) ∧ ((0 : Int) ≤ 0) ∧ ((cellsVs (List.drop (Prod.fst (mgi a b i)) a))[Int.toNat 0]?) = (some [FV.sc (Value.int IntKind.i64 (V.kind (List.getD a (Prod.fst (mgi a b i)) default))), FV.sc (Value.int IntKind.i64 (V.num (List.getD a (Prod.fst (mgi a b i)) default))), FV.sc (Value.string { data := List.toArray (V.text (List.getD a (Prod.fst (mgi a b i)) default)) }), FV.sl 4 (cellsVs (V.items (List.getD a (Prod.fst (mgi a b i)) default)))])) ∧ (CallsF P G 79 [FV.agg [FV.sc (Value.int IntKind.i64 (V.kind (List.getD b (Prod.fst (Prod.snd (mgi a b i))) default))), FV.sc (Value.int IntKind.i64 (V.num (List.getD b (Prod.fst (Prod.snd (mgi a b i))) default))), FV.sc (Value.string { data := List.toArray (V.text (List.getD b (Prod.fst (Prod.snd (mgi a b i))) default)) }), FV.sl 4 (cellsVs (V.items (List.getD b (Prod.fst (Prod.snd (mgi a b i))) default)))], FV.agg [FV.sc (Value.int IntKind.i64 (V.kind (List.getD a (Prod.fst (mgi a b i)) default))), FV.sc (Value.int IntKind.i64 (V.num (List.getD a (Prod.fst (mgi a b i)) default))), FV.sc (Value.string { data := List.toArray (V.text (List.getD a (Prod.fst (mgi a b i)) default)) }), FV.sl 4 (cellsVs (V.items (List.getD a (Prod.fst (mgi a b i)) default)))]] (FV.sc (Value.int IntKind.i64 (cmpV (List.getD b (Prod.fst (Prod.snd (mgi a b i))) default) (List.getD a (Prod.fst (mgi a b i)) default))))) ∧ ((((decide (cmpV (List.getD b (Prod.fst (Prod.snd (mgi a b i))) default) (List.getD a (Prod.fst (mgi a b i)) default) < 0)) = (true)) → ((((4) = (4)) ∧ ((0 : Int) ≤ 0) ∧ ((cellsVs (List.drop (Prod.fst (Prod.snd (mgi a b i))) b))[Int.toNat 0]?) = (some [FV.sc (Value.int IntKind.i64 (V.kind (List.getD b (Prod.fst (Prod.snd (mgi a b i))) default))), FV.sc (Value.int IntKind.i64 (V.num (List.getD b (Prod.fst (Prod.snd (mgi a b i))) default))), FV.sc (Value.string { data := List.toArray (V.text (List.getD b (Prod.fst (Prod.snd (mgi a b i))) default)) }), FV.sl 4 (cellsVs (V.items (List.getD b (Prod.fst (Prod.snd (mgi a b i))) default)))])) ∧ ((oneF ([[FV.sc (Value.int IntKind.i64 (V.kind (List.getD b (Prod.fst (Prod.snd (mgi a b i))) default))), FV.sc (Value.int IntKind.i64 (V.num (List.getD b (Prod.fst (Prod.snd (mgi a b i))) default))), FV.sc (Value.string { data := List.toArray (V.text (List.getD b (Prod.fst (Prod.snd (mgi a b i))) default)) }), FV.sl 4 (cellsVs (V.items (List.getD b (Prod.fst (Prod.snd (mgi a b i))) default)))]])) ∧ (List.length (cellsVs (Prod.snd (Prod.snd (mgi a b i)))) + List.length (chunk 4 1 [int (V.kind (List.getD b (Prod.fst (Prod.snd (mgi a b i))) default)), int (V.num (List.getD b (Prod.fst (Prod.snd (mgi a b i))) default)), str (V.text (List.getD b (Prod.fst (Prod.snd (mgi a b i))) default)), FV.sl 4 (cellsVs (V.items (List.getD b (Prod.fst (Prod.snd (mgi a b i))) default)))]) ≤ maxLen) ∧ ((List.length (cellsVs (Prod.snd (Prod.snd (mgi a b i)))) + List.length (chunk 4 1 [int (V.kind (List.getD b (Prod.fst (Prod.snd (mgi a b i))) default)), int (V.num (List.getD b (Prod.fst (Prod.snd (mgi a b i))) default)), str (V.text (List.getD b (Prod.fst (Prod.snd (mgi a b i))) default)), FV.sl 4 (cellsVs (V.items (List.getD b (Prod.fst (Prod.snd (mgi a b i))) default)))])) * 56 ≤ 140737488355328) ∧ (false) = (false)) ∧ (((4) = (4)) ∧ ((0 : Int) ≤ 1) ∧ ((1 : Int) ≤ Option.getD none (↑(List.length (cellsVs (List.drop (Prod.fst (Prod.snd (mgi a b i))) b))) : Int)) ∧ Option.getD none (↑(List.length (cellsVs (List.drop (Prod.fst (Prod.snd (mgi a b i))) b))) : Int) ≤ (↑(List.length (cellsVs (List.drop (Prod.fst (Prod.snd (mgi a b i))) b))) : Int)) ∧ ((true) = (true)) ∧ (((AV.f (FV.sl 4 (cellsVs (List.drop (Prod.fst (mgi a b i)) a)))) = (AV.f (FV.sl 4 (cellsVs (List.drop (Prod.fst (mgi a b (i + 1))) a))))) ∧ ((AV.f (FV.sl 4 (List.drop (Int.toNat 1) (List.take (Int.toNat (Option.getD none (↑(List.length (cellsVs (List.drop (Prod.fst (Prod.snd (mgi a b i))) b))) : Int))) (cellsVs (List.drop (Prod.fst (Prod.snd (mgi a b i))) b)))))) = (AV.f (FV.sl 4 (cellsVs (List.drop (Prod.fst (Prod.snd (mgi a b (i + 1)))) b))))) ∧ ((AV.lsl 0) = (AV.lsl 0)) ∧ True) ∧ ((Ob.row 4 24 (cellsVs (Prod.snd (Prod.snd (mgi a b i))) ++ chunk (TypeInfo.size (Tables.types (Program.toTables P))[24]) 1 [int (V.kind (List.getD b (Prod.fst (Prod.snd (mgi a b i))) default)), int (V.num (List.getD b (Prod.fst (Prod.snd (mgi a b i))) default)), str (V.text (List.getD b (Prod.fst (Prod.snd (mgi a b i))) default)), FV.sl 4 (cellsVs (V.items (List.getD b (Prod.fst (Prod.snd (mgi a b i))) default)))])) = (Ob.row 4 24 (cellsVs (Prod.snd (Prod.snd (mgi a b (i + 1))))))) ∧ True))) ∧ (((decide (cmpV (List.getD b (Prod.fst (Prod.snd (mgi a b i))) default) (List.getD a (Prod.fst (mgi a b i)) default) < 0)) = (false)) → ((((4) = (4)) ∧ ((0 : Int) ≤ 0) ∧ ((cellsVs (List.drop (Prod.fst (mgi a b i)) a))[Int.toNat 0]?) = (some [FV.sc (Value.int IntKind.i64 (V.kind (List.getD a (Prod.fst (mgi a b i)) default))), FV.sc (Value.int IntKind.i64 (V.num (List.getD a (Prod.fst (mgi a b i)) default))), FV.sc (Value.string { data := List.toArray (V.text (List.getD a (Prod.fst (mgi a b i)) default)) }), FV.sl 4 (cellsVs (V.items (List.getD a (Prod.fst (mgi a b i)) default)))])) ∧ ((oneF ([[FV.sc (Value.int IntKind.i64 (V.kind (List.getD a (Prod.fst (mgi a b i)) default))), FV.sc (Value.int IntKind.i64 (V.num (List.getD a (Prod.fst (mgi a b i)) default))), FV.sc (Value.string { data := List.toArray (V.text (List.getD a (Prod.fst (mgi a b i)) default)) }), FV.sl 4 (cellsVs (V.items (List.getD a (Prod.fst (mgi a b i)) default)))]])) ∧ (List.length (cellsVs (Prod.snd (Prod.snd (mgi a b i)))) + List.length (chunk 4 1 [int (V.kind (List.getD a (Prod.fst (mgi a b i)) default)), int (V.num (List.getD a (Prod.fst (mgi a b i)) default)), str (V.text (List.getD a (Prod.fst (mgi a b i)) default)), FV.sl 4 (cellsVs (V.items (List.getD a (Prod.fst (mgi a b i)) default)))]) ≤ maxLen) ∧ ((List.length (cellsVs (Prod.snd (Prod.snd (mgi a b i)))) + List.length (chunk 4 1 [int (V.kind (List.getD a (Prod.fst (mgi a b i)) default)), int (V.num (List.getD a (Prod.fst (mgi a b i)) default)), str (V.text (List.getD a (Prod.fst (mgi a b i)) default)), FV.sl 4 (cellsVs (V.items (List.getD a (Prod.fst (mgi a b i)) default)))])) * 56 ≤ 140737488355328) ∧ (false) = (false)) ∧ (((4) = (4)) ∧ ((0 : Int) ≤ 1) ∧ ((1 : Int) ≤ Option.getD none (↑(List.length (cellsVs (List.drop (Prod.fst (mgi a b i)) a))) : Int)) ∧ Option.getD none (↑(List.length (cellsVs (List.drop (Prod.fst (mgi a b i)) a))) : Int) ≤ (↑(List.length (cellsVs (List.drop (Prod.fst (mgi a b i)) a))) : Int)) ∧ ((true) = (true)) ∧ (((AV.f (FV.sl 4 (List.drop (Int.toNat 1) (List.take (Int.toNat (Option.getD none (↑(List.length (cellsVs (List.drop (Prod.fst (mgi a b i)) a))) : Int))) (cellsVs (List.drop (Prod.fst (mgi a b i)) a)))))) = (AV.f (FV.sl 4 (cellsVs (List.drop (Prod.fst (mgi a b (i + 1))) a))))) ∧ ((AV.f (FV.sl 4 (cellsVs (List.drop (Prod.fst (Prod.snd (mgi a b i))) b)))) = (AV.f (FV.sl 4 (cellsVs (List.drop (Prod.fst (Prod.snd (mgi a b (i + 1)))) b))))) ∧ ((AV.lsl 0) = (AV.lsl 0)) ∧ True) ∧ ((Ob.row 4 24 (cellsVs (Prod.snd (Prod.snd (mgi a b i))) ++ chunk (TypeInfo.size (Tables.types (Program.toTables P))[24]) 1 [int (V.kind (List.getD a (Prod.fst (mgi a b i)) default)), int (V.num (List.getD a (Prod.fst (mgi a b i)) default)), str (V.text (List.getD a (Prod.fst (mgi a b i)) default)), FV.sl 4 (cellsVs (V.items (List.getD a (Prod.fst (mgi a b i)) default)))])) = (Ob.row 4 24 (cellsVs (Prod.snd (Prod.snd (mgi a b (i + 1))))))) ∧ True)))))) ∧ ((((decide ((↑(List.length (cellsVs (List.drop (Prod.fst (mgi a b N)) a))) : Int) > 0)) = (true)) → (((decide ((↑(List.length (cellsVs (List.drop (Prod.fst (Prod.snd (mgi a b N))) b))) : Int) > 0)) = (false)) ∧ ((oneF (cellsVs (List.drop (Prod.fst (mgi a b N)) a))) ∧ (List.length (cellsVs (Prod.snd (Prod.snd (mgi a b N)))) + List.length (cellsVs (List.drop (Prod.fst (mgi a b N)) a)) ≤ maxLen) ∧ ((List.length (cellsVs (Prod.snd (Prod.snd (mgi a b N)))) + List.length (cellsVs (List.drop (Prod.fst (mgi a b N)) a))) * 56 ≤ 140737488355328) ∧ (false) = (false)) ∧ ((oneF (cellsVs (List.drop (Prod.fst (Prod.snd (mgi a b N))) b))) ∧ (List.length (cellsVs (Prod.snd (Prod.snd (mgi a b N))) ++ cellsVs (List.drop (Prod.fst (mgi a b N)) a)) + List.length (cellsVs (List.drop (Prod.fst (Prod.snd (mgi a b N))) b)) ≤ maxLen) ∧ ((List.length (cellsVs (Prod.snd (Prod.snd (mgi a b N))) ++ cellsVs (List.drop (Prod.fst (mgi a b N)) a)) + List.length (cellsVs (List.drop (Prod.fst (Prod.snd (mgi a b N))) b))) * 56 ≤ 140737488355328) ∧ (false) = (false)) ∧ (FV.sl 4 (cellsVs (Prod.snd (Prod.snd (mgi a b N))) ++ cellsVs (List.drop (Prod.fst (mgi a b N)) a) ++ cellsVs (List.drop (Prod.fst (Prod.snd (mgi a b N))) b))) = (FV.sl 4 (cellsVs (Prod.snd (Prod.snd (mgi a b N)) ++ List.drop (Prod.fst (mgi a b N)) a ++ List.drop (Prod.fst (Prod.snd (mgi a b N))) b)))))) ∧ (((decide ((↑(List.length (cellsVs (List.drop (Prod.fst (mgi a b N)) a))) : Int) > 0)) = (false)) → (((false) = (false)) ∧ ((oneF (cellsVs (List.drop (Prod.fst (mgi a b N)) a))) ∧ (List.length (cellsVs (Prod.snd (Prod.snd (mgi a b N)))) + List.length (cellsVs (List.drop (Prod.fst (mgi a b N)) a)) ≤ maxLen) ∧ ((List.length (cellsVs (Prod.snd (Prod.snd (mgi a b N)))) + List.length (cellsVs (List.drop (Prod.fst (mgi a b N)) a))) * 56 ≤ 140737488355328) ∧ (false) = (false)) ∧ ((oneF (cellsVs (List.drop (Prod.fst (Prod.snd (mgi a b N))) b))) ∧ (List.length (cellsVs (Prod.snd (Prod.snd (mgi a b N))) ++ cellsVs (List.drop (Prod.fst (mgi a b N)) a)) + List.length (cellsVs (List.drop (Prod.fst (Prod.snd (mgi a b N))) b)) ≤ maxLen) ∧ ((List.length (cellsVs (Prod.snd (Prod.snd (mgi a b N))) ++ cellsVs (List.drop (Prod.fst (mgi a b N)) a)) + List.length (cellsVs (List.drop (Prod.fst (Prod.snd (mgi a b N))) b))) * 56 ≤ 140737488355328) ∧ (false) = (false)) ∧ (FV.sl 4 (cellsVs (Prod.snd (Prod.snd (mgi a b N))) ++ cellsVs (List.drop (Prod.fst (mgi a b N)) a) ++ cellsVs (List.drop (Prod.fst (Prod.snd (mgi a b N))) b))) = (FV.sl 4 (cellsVs (Prod.snd (Prod.snd (mgi a b N)) ++ List.drop (Prod.fst (mgi a b N)) a ++ List.drop (Prod.fst (Prod.snd (mgi a b N))) b)))))) get53 ent53 (by kernel_rfl) ?_
  refine ⟨?_, ⟨⟨rfl, ⟨?_, ⟨?_, ?_⟩⟩⟩, ⟨?_, ⟨⟨rfl, ⟨?_, ⟨?_, ?_⟩⟩⟩, ⟨?_, ⟨⟨rfl, ⟨⟨?_, ⟨?_, ⟨rfl, trivial⟩⟩⟩, ⟨rfl, trivial⟩⟩⟩, ⟨fun i => fun hi => ⟨?_, ⟨?_, ⟨rfl, ⟨⟨rfl, ⟨?_, ?_⟩⟩, ⟨⟨rfl, ⟨?_, ?_⟩⟩, ⟨?_, ⟨fun hi => ⟨⟨rfl, ⟨?_, ?_⟩⟩, ⟨⟨?_, ⟨?_, ⟨?_, rfl⟩⟩⟩, ⟨⟨rfl, ⟨?_, ⟨?_, ?_⟩⟩⟩, ⟨rfl, ⟨⟨?_, ⟨?_, ⟨rfl, trivial⟩⟩⟩, ⟨?_, trivial⟩⟩⟩⟩⟩⟩, fun hi => ⟨⟨rfl, ⟨?_, ?_⟩⟩, ⟨⟨?_, ⟨?_, ⟨?_, rfl⟩⟩⟩, ⟨⟨rfl, ⟨?_, ⟨?_, ?_⟩⟩⟩, ⟨rfl, ⟨⟨?_, ⟨?_, ⟨rfl, trivial⟩⟩⟩, ⟨?_, trivial⟩⟩⟩⟩⟩⟩⟩⟩⟩⟩⟩⟩⟩, ⟨fun hi => ⟨?_, ⟨⟨?_, ⟨?_, ⟨?_, rfl⟩⟩⟩, ⟨⟨?_, ⟨?_, ⟨?_, rfl⟩⟩⟩, ?_⟩⟩⟩, fun hi => ⟨rfl, ⟨⟨?_, ⟨?_, ⟨?_, rfl⟩⟩⟩, ⟨⟨?_, ⟨?_, ⟨?_, rfl⟩⟩⟩, ?_⟩⟩⟩⟩⟩⟩⟩⟩⟩⟩⟩
  all_goals first | rfl | (simp only [Option.getD_some, Option.getD_none, hq]; rw [cellsVs_length]; omega) | (simp only [Option.getD_some, Option.getD_none, hq]; omega) | (rw [hq, cellsVs_length]; omega) | (rw [hq]; omega) | (simp only [Option.getD_none, hq]; rw [cellsVs_length]; omega) | (simp only [Option.getD_some, hq, Int.toNat_natCast, cellsVs_take, Int.toNat_zero, List.drop_zero]; exact iha) | (simp only [Option.getD_none, hq, Int.toNat_natCast, List.take_length, cellsVs_drop]; exact ihb) | (have h5 := hlt i (by omega); simp only [cellsVs_length, List.length_drop, Option.getD_none]; omega) | (simp only [decide_eq_true_eq] at hi; simp only [mgi]; rw [if_pos hi]; done) | (simp only [decide_eq_false_iff_not] at hi; simp only [mgi]; rw [if_neg hi]; done) | (simp only [decide_eq_true_eq] at hi; simp only [mgi]; rw [if_pos hi]; exact congrArg AV.f (congrArg (FV.sl 4) (next1 _ _ _ (by simp)))) | (simp only [decide_eq_false_iff_not] at hi; simp only [mgi]; rw [if_neg hi]; exact congrArg AV.f (congrArg (FV.sl 4) (next1 _ _ _ (by simp)))) | (rw [hq, Int.toNat_natCast, cellsVs_take]; exact iha) | (rw [hq, Int.toNat_natCast, cellsVs_drop]; exact ihb) | exact iha | exact ihb | (simp only [hq, Int.toNat_natCast, cellsVs_take, cellsVs_drop, List.drop_zero, List.take_of_length_le, cellsVs_length, Int.toNat_zero, Nat.le_refl]; first | exact iha | exact ihb) | (have h5 := hlt i (by omega); exact drop0 _ _ (by omega)) | (have h5 := hlt i (by omega); simp only [cellsVs_length, List.length_drop, decide_eq_true_eq]; omega) | (have h5 := hlt i (by omega); exact refCompare_ok _ _ (hfb _ (by rw [List.getD_eq_getElem?_getD, List.getElem?_eq_getElem (by omega)]; exact List.getElem_mem _))) | (have h5 := hlt i (by omega); have h6 := hA i (by omega); simp only [cellsVs_length, chunk, List.length_cons, List.length_nil, maxLen, List.length_append, List.length_drop]; omega) | (have h6 := hA N (by omega); simp only [cellsVs_length, chunk, List.length_cons, List.length_nil, maxLen, List.length_append, List.length_drop]; omega) | exact oneF_cellsVs _ | (have h5 := hlt i (by omega); simp only [decide_eq_true_eq] at hi; simp only [mgi]; rw [if_pos hi]; exact congrArg AV.f (congrArg (FV.sl 4) (next1 _ _ _ rfl))) | (have h5 := hlt i (by omega); simp only [decide_eq_false_iff_not] at hi; simp only [mgi]; rw [if_neg hi]; exact congrArg AV.f (congrArg (FV.sl 4) (next1 _ _ _ rfl))) | (simp only [decide_eq_true_eq] at hi; simp only [mgi]; rw [if_pos hi]; rfl) | (simp only [decide_eq_false_iff_not] at hi; simp only [mgi]; rw [if_neg hi]; rfl) | (simp only [decide_eq_true_eq] at hi; simp only [mgi]; rw [if_pos hi]; exact congrArg (Ob.row 4 24) (cellsVs_snoc _ _)) | (simp only [decide_eq_false_iff_not] at hi; simp only [mgi]; rw [if_neg hi]; exact congrArg (Ob.row 4 24) (cellsVs_snoc _ _)) | (simp only [cellsVs_length, List.length_drop, decide_eq_true_eq, decide_eq_false_iff_not] at *; omega) | (simp only [cellsVs_app]; done) | (rw [cellsVs_app, cellsVs_app]; rfl) | assumption | omega | (simp only [decide_eq_true_eq, decide_eq_false_iff_not]; omega) | (simp only [decide_eq_true_eq, decide_eq_false_iff_not, beq_iff_eq, beq_eq_false_iff_ne, cellsVs_length, List.length_append, List.length_map, List.length_take, List.length_drop, List.length_reverse, List.length_set, List.length_replicate, chunk, List.length_cons, List.length_nil, Int.toNat_natCast, V.items, maxLen]; omega) | (exfalso; simp only [decide_eq_true_eq, decide_eq_false_iff_not, beq_iff_eq, beq_eq_false_iff_ne, cellsVs_length, List.length_append, List.length_map, List.length_take, List.length_drop, List.length_reverse, List.length_set, List.length_replicate, chunk, List.length_cons, List.length_nil, Int.toNat_natCast, V.items, maxLen] at *; omega) | (rw [wrapS _ (by omega) (by omega)]; omega) | (exact congrArg (fun x => AV.f (int x)) (by (try simp only [cellsVs_length, List.length_append, List.length_map, List.length_take, List.length_drop, List.length_reverse, List.length_set, List.length_replicate, chunk, List.length_cons, List.length_nil, Int.toNat_natCast, V.items, maxLen]); rw [wrapS _ (by omega) (by omega)]; (try omega))) | (intro x hx; simp at hx; rcases hx with rfl | rfl | rfl | rfl <;> rfl) | (intro x hx; simp at hx; rcases hx with rfl | rfl | rfl | rfl | rfl | rfl | rfl | rfl <;> rfl) | (simp [V.kind, V.num, V.text, V.items, *]; done) | (simp_all [V.kind, V.num, V.text, V.items]; done)
theorem sorted_ok : ∀ (n : Nat) (l : List V), l.length ≤ n → l.length ≤ 65536 → (∀ x, x ∈ l → Fine x) → (∀ x, x ∈ l → rightB x = true) → CallsF P G 53 [encI l] (encI (sortL l)) := by
  intro n
  induction n with
  | zero =>
    intro l hn _ _ hr
    have : l = [] := List.length_eq_zero_iff.1 (by omega)
    subst this
    have h := sorted_short [] (by simp)
    simpa [sortL] using h
  | succ n ih =>
    intro l hn hl hf hr
    by_cases h2 : l.length < 2
    · have e : sortL l = l := by
        match l, h2 with
        | [], _ => simp [sortL]
        | [x], _ => simp [sortL]
        | _ :: _ :: _, h => simp at h; omega
      rw [e]; exact sorted_short l h2
    · have ta : ∀ x, x ∈ l.take (l.length / 2) → x ∈ l := fun x hx => List.mem_of_mem_take hx
      have tb : ∀ x, x ∈ l.drop (l.length / 2) → x ∈ l := fun x hx => List.mem_of_mem_drop hx
      have iha := ih (l.take (l.length / 2)) (by simp; omega) (by simp; omega) (fun x hx => hf x (ta x hx)) (fun x hx => hr x (ta x hx))
      have ihb := ih (l.drop (l.length / 2)) (by simp; omega) (by simp; omega) (fun x hx => hf x (tb x hx)) (fun x hx => hr x (tb x hx))
      have sa := sortL_sorted (l.take (l.length / 2))
      have sb := sortL_sorted (l.drop (l.length / 2))
      have hp : (sortL (l.take (l.length / 2)) ++ sortL (l.drop (l.length / 2))).Perm l := by
        refine ((List.mergeSort_perm _ _).append (List.mergeSort_perm _ _)).trans ?_
        rw [List.take_append_drop]
      have hfa : ∀ x, x ∈ sortL (l.take (l.length / 2)) → Fine x := fun x hx => hf x (ta x ((sortL_mem _ x).1 hx))
      have hfb : ∀ x, x ∈ sortL (l.drop (l.length / 2)) → Fine x := fun x hx => hf x (tb x ((sortL_mem _ x).1 hx))
      have la := sortL_len (l.take (l.length / 2))
      have lb := sortL_len (l.drop (l.length / 2))
      generalize sortL (l.take (l.length / 2)) = a at *
      generalize sortL (l.drop (l.length / 2)) = b at *
      have hlen : a.length + b.length = l.length := by rw [la, lb]; simp; omega
      obtain ⟨N, h3, h4⟩ := exists_least (fun i => ¬ ((mgi a b i).1 < a.length ∧ (mgi a b i).2.1 < b.length)) (by
        apply Classical.byContradiction
        intro h
        have h : ∀ i, (mgi a b i).1 < a.length ∧ (mgi a b i).2.1 < b.length := fun i => by
          apply Classical.byContradiction; intro h'; exact h ⟨i, h'⟩
        have hs : ∀ i, (mgi a b i).1 + (mgi a b i).2.1 = i := by
          intro i
          induction i with
          | zero => simp [mgi]
          | succ i ihi => simp only [mgi]; split <;> simp only <;> omega
        have h5 := h (a.length + b.length)
        have h6 := hs (a.length + b.length)
        omega)
      have hlt : ∀ i, i < N → (mgi a b i).1 < a.length ∧ (mgi a b i).2.1 < b.length := fun i hi => by
        apply Classical.byContradiction; intro h; have := h4 i h; omega
      have hI : ∀ i, i ≤ N → MgI a b i := fun i hi => mgI_upto sa sb i fun j hj => hlt j (by omega)
      rw [← mg_end hr sa sb hp (hI N (Nat.le_refl _)) h3]
      exact sorted_long l a b N (by omega) hl hlen hfa hfb iha ihb hI hlt h3
end Go.Sx

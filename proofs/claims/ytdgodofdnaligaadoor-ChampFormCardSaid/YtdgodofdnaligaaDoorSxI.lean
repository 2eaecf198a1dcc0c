/-
  Proved: what some functions of the program answer, or a law of the evaluator that shows it, one theorem each; its conditions are the hypotheses that stand ahead of it.
-/
import Derived.Test.YtdgodofdnaligaaDoorSxH
set_option linter.unusedVariables false
set_option linter.unusedSimpArgs false
namespace Go.Sx
open Go.RowKit
theorem chunk_spec (z : Nat) : ∀ (n : Nat) (l : List FV), l.length = n * z → (chunk z n l).flatten = l ∧ (chunk z n l).length = n ∧ ∀ x ∈ chunk z n l, x.length = z
  | 0, l, h => by
    have : l = [] := List.eq_nil_of_length_eq_zero (by simpa using h)
    simp [chunk, this]
  | n + 1, l, h => by
    have h1 : z ≤ l.length := by rw [h, Nat.add_mul]; omega
    obtain ⟨h2, h3, h4⟩ := chunk_spec z n (l.drop z) (by rw [List.length_drop, h, Nat.add_mul]; omega)
    refine ⟨by simp [chunk, h2], by simp [chunk, h3], ?_⟩
    intro x hx
    simp only [chunk, List.mem_cons] at hx
    rcases hx with rfl | hx
    · simp; omega
    · exact h4 x hx
theorem flatten_replicate_get {α : Type} (l : List α) : ∀ (n j : Nat), (List.replicate n l).flatten[j]? = if j < n * l.length then l[j % l.length]? else none
  | 0, j => by simp
  | n + 1, j => by
    rw [List.replicate_succ, List.flatten_cons, List.getElem?_append]
    by_cases hj : j < l.length
    · rw [if_pos hj, if_pos (by rw [Nat.add_mul]; omega), Nat.mod_eq_of_lt hj]
    · rw [if_neg hj, flatten_replicate_get l n (j - l.length)]
      have e : (j - l.length) % l.length = j % l.length := by
        rw [Nat.mod_eq_sub_mod (by omega : l.length ≤ j)]
      rw [e]
      by_cases h : j - l.length < n * l.length
      · rw [if_pos h, if_pos (by rw [Nat.add_mul]; omega)]
      · rw [if_neg h, if_neg (by rw [Nat.add_mul]; omega)]
theorem madeCells_flat (z : Array Value) (n : Nat) : (madeCells z (n * z.size)).toList = (List.replicate n z.toList).flatten := by
  apply List.ext_getElem?
  intro j
  rw [flatten_replicate_get]
  simp only [Array.length_toList]
  by_cases hj : j < n * z.size
  · have hz : 0 < z.size := by
      rcases Nat.eq_zero_or_pos z.size with h | h
      · rw [h] at hj; simp at hj
      · exact h
    have hm := Nat.mod_lt j hz
    simp [madeCells, hj, hm]
  · simp [madeCells, hj]
theorem map_flatten_rep (f : Value → FV) (n : Nat) (l : List Value) : (List.replicate n (l.map f)).flatten = (List.replicate n l).flatten.map f := by
  induction n with
  | zero => simp
  | succ n ih => rw [List.replicate_succ, List.flatten_cons, ih, List.replicate_succ, List.flatten_cons, List.map_append]
theorem take_put {α : Type} (cur x : List α) (p m : Nat) (h : p + x.length ≤ m) (hm : m ≤ cur.length) :
    (cur.take p ++ x ++ cur.drop (p + x.length)).take m = (cur.take m).take p ++ x ++ (cur.take m).drop (p + x.length) := by
  have e1 : p ≤ cur.length := by omega
  rw [List.take_append, List.take_append, List.length_append, List.length_take, Nat.min_eq_left e1, List.take_take, Nat.min_eq_right (by omega : p ≤ m), List.take_of_length_le (by omega : x.length ≤ m - p),
    List.take_take, Nat.min_eq_left (by omega : p ≤ m), List.drop_take]
theorem FV.one_cell {w : World} {ok : Nat → Prop} {x : FV} {v : Value} (h : x.one = true) (hr : FRel w ok x v) : v.oneCell' = true := by
  cases x <;> simp only [FRel, FV.one] at h hr
  · subst hr; exact h
  · subst hr; rfl
  · cases h
  · cases h
  · obtain ⟨b, o, rfl, _⟩ := hr; rfl
  · rcases hr with ⟨_, rfl | ⟨_, _, rfl⟩⟩ | ⟨b, o, c, rfl, _⟩ <;> rfl
  · obtain ⟨fs, cs, rfl, _⟩ := hr; rfl
  · cases h
theorem AV.one_cell {w : World} {ok : Nat → Prop} {en : Env} {x : AV} {v : Value} (h : x.one = true) (hr : ARel w ok en x v) : v.oneCell' = true := by
  cases x <;> simp only [ARel, AV.one] at h hr
  · exact FV.one_cell h hr
  · cases h
  · obtain ⟨b, _, rfl⟩ := hr; rfl
  · obtain ⟨_, A, n, c, rfl⟩ := hr; rfl
  · obtain ⟨b, _, rfl⟩ := hr; rfl
  · obtain ⟨b, c, _, rfl, _⟩ := hr; rfl
  · obtain ⟨fs, cs, rfl, _⟩ := hr; rfl
  · cases h
theorem oneL_cell {w : World} {ok : Nat → Prop} {en : Env} : ∀ (l : List AV) (vs : List Value), oneL l = true → ARelL w ok en l vs → ∀ v ∈ vs, v.oneCell' = true
  | [], vs, h, hr => by simp only [ARelL] at hr; simp [hr]
  | x :: l, vs, h, hr => by
    simp only [oneL, Bool.and_eq_true, ARelL] at h hr
    obtain ⟨v, r, rfl, h1, h2⟩ := hr
    intro u hu
    rcases List.mem_cons.1 hu with rfl | hu
    · exact AV.one_cell h.1 h1
    · exact oneL_cell l r h.2 h2 u hu
theorem FRelL.oneCell {w : World} {ok : Nat → Prop} : ∀ (l : List FV) (vs : List Value), (∀ x ∈ l, x.one = true) → FRelL w ok l vs → ∀ v ∈ vs, v.oneCell' = true
  | [], vs, h, hr => by simp only [FRelL] at hr; simp [hr]
  | x :: l, vs, h, hr => by
    simp only [FRelL] at hr
    obtain ⟨v, r, rfl, h1, h2⟩ := hr
    intro u hu
    rcases List.mem_cons.1 hu with rfl | hu
    · exact FV.one_cell (h x (by simp)) h1
    · exact FRelL.oneCell l r (fun y hy => h y (by simp [hy])) h2 u hu
theorem FRelE.cells {w : World} {ok : Nat → Prop} {sz : Nat} : ∀ (es : List (List FV)) (b o : Nat), FRelE w ok sz es b o → ∃ vs : List Value, vs.length = es.length * sz ∧ w.rangeAt b o vs ∧ FRelL w ok es.flatten vs
  | [], b, o, h => ⟨[], by simp, fun j v hv => by simp at hv, by simp [FRelL]⟩
  | e :: es, b, o, h => by
    simp only [FRelE] at h
    obtain ⟨h1, h2, h3⟩ := h
    have ht : takeN sz e = some e := by
      rw [← h1]
      clear h1 h2 h3
      induction e with
      | nil => rfl
      | cons x e ih => simp [takeN, ih]
    obtain ⟨us, k1, k2, k3⟩ := FRelC.take sz e e b o h2 ht
    obtain ⟨vs, g1, g2, g3⟩ := FRelE.cells es b (o + sz) h3
    refine ⟨us ++ vs, by rw [List.length_append, k1, g1, List.length_cons, Nat.add_mul]; omega, ?_, by rw [List.flatten_cons]; exact FRelL.append _ _ _ _ k3 g3⟩
    intro j v hv
    rw [List.getElem?_append] at hv
    split at hv
    · exact k2 j v hv
    · have := g2 (j - us.length) v hv
      rwa [show o + sz + (j - us.length) = o + j from by omega] at this
section
variable {P : Program} {G : Gr} {X : Nat → Prop} {ok0 : Nat → Prop} {w0 w w' : World} {tv : Nat → Value} {en en' : Env} {st st' : St} {a : Act}
theorem wp_value {lr : Option Nat} {o : Oper} {v : Value} {next : Act → World → Prop} {Q : Exit → Act → World → Prop} (h : (execOp a.eval o).run P w = .ok (.value v) w') (hn : next (a.put o.dst v) w') : o.wpIn (FW lr) 0 P a w next Q := by
  refine ⟨fun _ _ => trivial, ?_⟩
  rw [sem_FW (P := P) (w := w) lr ⟨by simp [h], by simp [h]⟩, h]
  exact hn
theorem wp_skip' {lr : Option Nat} {o : Oper} {next : Act → World → Prop} {Q : Exit → Act → World → Prop} (h : (execOp a.eval o).run P w = .ok .skip w') (hd : o.dst = none) (hn : next a w') : o.wpIn (FW lr) 0 P a w next Q := by
  refine ⟨fun _ _ => trivial, ?_⟩
  rw [sem_FW (P := P) (w := w) lr ⟨by simp [h], by simp [h]⟩, h]
  simp only [Oper.uponIn, hd]
  exact hn
theorem elemP_under {t e : TypeId} (h : elemP P t = some e) : P.underlying t = some (.slice e) := by
  unfold elemP at h
  split at h
  · simp only [Option.some.injEq] at h; subst h; assumption
  · cases h
theorem fV1_relA (w : World) (ok : Nat → Prop) (en : Env) : ∀ l : List Value, ARelL w ok en (l.map fun v => AV.f (fV1 v)) l ∧ ∀ n, bdL n (l.map fun v => AV.f (fV1 v))
  | [] => by simp [ARelL, bdL]
  | v :: l => by
    have ih := fV1_relA w ok en l
    simp only [List.map_cons, ARelL, bdL, AV.bd]
    exact ⟨⟨v, l, rfl, by simp only [ARel]; exact fV1_rel _ _ v, ih.1⟩, fun n => ⟨trivial, ih.2 n⟩⟩
theorem new_box (h : Inv G X ok0 w0 tv st a w en) (d : Option Tmp) (cs : List AV) (t : TypeId) (vs : Array Value) (hr : ARelL w (okS ok0 w0 w st.ob en) en cs vs.toList) (hb : bdL st.nx cs) :
    ∃ en', Inv G X ok0 w0 tv (st.fresh d (.loc st.nx 0) (.box cs) none) (a.put d (.pointer (some ⟨w.heap.size, 0, none⟩))) (w.alloc (.cells vs t)) en' := by
  refine ⟨_, Inv.fresh h d _ _ none (opt (some w.heap.size)) undef _ (Turned.alloc w en _) (by simp) (by rintro b e; cases e; exact .inl (Nat.le_refl _)) ?_ (bdL_mono (Nat.le_succ _) _ hb) ?_ (by simp [AV.bd])⟩
  · intro ok' hc
    exact ⟨w.heap.size, vs, t, by simp [Env.with], heap_alloc_new w _, ARelL.carry hc (Env.with_upto _ _ _ _) _ _ hb hr⟩
  · intro ok'
    simp only [ARel]
    exact ⟨_, by simp [Env.with], rfl⟩
theorem new_row (h : Inv G X ok0 w0 tv st a w en) (d : Option Tmp) (sz e : Nat) (es : List (List FV)) (kill : Option Nat) (v : Value) (xs : List Value)
    (ht : Turned G w w' en kill) (hlive : ∀ k, kill = some k → ∃ o, getOb k st.ob = some o)
    (hB : ∀ b, v.ownBlock = some b → w.heap.size ≤ b ∨ ∃ k, kill = some k ∧ en.blk k b)
    (hown : w'.ownsRow 0 e sz v es.length xs) (hr : FRelL w (okS ok0 w0 w st.ob en) es.flatten xs) (hl : ∀ x ∈ es, x.length = sz) :
    ∃ en', Inv G X ok0 w0 tv (st.fresh d (.lsl st.nx) (.row sz e es) kill) (a.put d v) w' en' := by
  refine ⟨_, Inv.fresh h d _ _ kill (opt v.ownBlock) v v ht hlive hB ?_ trivial ?_ (by simp [AV.bd])⟩
  · intro ok' hc
    exact ⟨xs, by simpa [Env.with] using hown, by simp [Env.with], FRelL.carry hc _ _ hr, hl⟩
  · intro ok'
    simp only [ARel]
    refine ⟨by simp [Env.with], ?_⟩
    rcases hown.2 with ⟨rfl, _⟩ | ⟨g, cap, cur, rfl, _⟩
    · exact ⟨_, _, _, rfl⟩
    · exact ⟨_, _, _, rfl⟩
theorem FRelE.lens {ok : Nat → Prop} {sz : Nat} : ∀ (es : List (List FV)) (b o : Nat), FRelE w ok sz es b o → ∀ x ∈ es, x.length = sz
  | [], b, o, h, x, hx => by simp at hx
  | e :: es, b, o, h, x, hx => by
    simp only [FRelE] at h
    rcases List.mem_cons.1 hx with rfl | hx
    · exact h.1
    · exact FRelE.lens es b (o + sz) h.2.2 x hx
theorem src_rel (h : Mem G X ok0 w0 st.ob st.nx w en) {x : AV} {u : Value} {sz : Nat} {fs : List (List FV)} (hs : srcE st x = some (sz, fs)) (hx : ARel w (okS ok0 w0 w st.ob en) en x u) :
    (∀ y ∈ fs, y.length = sz) ∧ ((fs = [] ∧ u = .slice none 0 0) ∨ ∃ ad c news, u = .slice (some ad) fs.length c ∧ news.length = fs.length * sz ∧ (∀ j v, news[j]? = some v → w.cell? (ad.add j) = some v) ∧ FRelL w (okS ok0 w0 w st.ob en) fs.flatten news) := by
  unfold srcE at hs
  split at hs
  · simp only [Option.some.injEq, Prod.mk.injEq] at hs
    obtain ⟨rfl, rfl⟩ := hs
    simp only [ARel, FRel] at hx
    rcases hx with ⟨rfl, rfl | ⟨ad, c, rfl⟩⟩ | ⟨b, o, c, rfl, _, _, hE⟩
    · exact ⟨by simp, .inl ⟨rfl, rfl⟩⟩
    · exact ⟨by simp, .inr ⟨ad, c, [], rfl, by simp, by simp, by simp [FRelL]⟩⟩
    · obtain ⟨vs, h1, h2, h3⟩ := hE.cells
      exact ⟨hE.lens, .inr ⟨⟨b, o, none⟩, c, vs, rfl, h1, fun j v hv => by rw [Addr.add_mid]; exact h2 j v hv, h3⟩⟩
  · rename_i k
    split at hs
    · rename_i sz' e es hk
      simp only [Option.some.injEq, Prod.mk.injEq] at hs
      obtain ⟨rfl, rfl⟩ := hs
      simp only [ARel] at hx
      obtain ⟨_, _, _, xs, h1, h2, h3, h4⟩ := h.obs k _ hk
      refine ⟨h4, ?_⟩
      rcases h1.2 with ⟨hv, hn⟩ | ⟨g, cap, cur, hv, hbg, hg, hnc, hcm, hcs, htake⟩
      · exact .inl ⟨List.eq_nil_of_length_eq_zero hn, hx.1.trans hv⟩
      · exact .inr ⟨⟨g, 0, none⟩, cap, xs, hx.1.trans hv, h1.1, fun j v hj => h1.cells (by rw [hv]; rfl) j v hj, h3⟩
    · cases hs
  · cases hs
theorem dst_rel (h : Mem G X ok0 w0 st.ob st.nx w en) {x : AV} {u : Value} {z e : Nat} {kill : Option Nat} {es : List (List FV)} (hs : dstE st z e x = some (kill, es)) (hx : ARel w (okS ok0 w0 w st.ob en) en x u) :
    ∃ xs, w.ownsRow 0 e z u es.length xs ∧ FRelL w (okS ok0 w0 w st.ob en) es.flatten xs ∧ (∀ y ∈ es, y.length = z) ∧ (∀ k, kill = some k → (∃ o, getOb k st.ob = some o) ∧ en.blk k = opt u.ownBlock) ∧ (kill = none → u.ownBlock = none) := by
  unfold dstE at hs
  split at hs
  · simp only [Option.some.injEq, Prod.mk.injEq] at hs
    obtain ⟨rfl, rfl⟩ := hs
    simp only [ARel, FRel] at hx
    subst hx
    exact ⟨[], World.ownsRow_nil _ _ _ _, by simp [FRelL], by simp, by simp, fun _ => rfl⟩
  · rename_i k
    split at hs
    · rename_i sz e' es' hk
      split at hs
      · rename_i hc
        simp only [Bool.and_eq_true, beq_iff_eq] at hc
        obtain ⟨rfl, rfl⟩ := hc
        simp only [Option.some.injEq, Prod.mk.injEq] at hs
        obtain ⟨rfl, rfl⟩ := hs
        simp only [ARel] at hx
        obtain ⟨_, _, _, xs, h1, h2, h3, h4⟩ := h.obs k _ hk
        refine ⟨xs, by rw [hx.1]; exact h1, h3, h4, ?_, by simp⟩
        rintro k' e; cases e
        exact ⟨⟨_, hk⟩, by rw [hx.1]; exact h2⟩
      · cases hs
    · cases hs
  · cases hs
theorem isAppend_eq {c : Call} (h : isAppend c = true) : c.callee = .builtin .append := by
  unfold isAppend at h
  split at h
  · assumption
  · cases h
theorem flat_len {sz : Nat} : ∀ es : List (List FV), (∀ x ∈ es, x.length = sz) → es.flatten.length = es.length * sz
  | [], _ => by simp
  | e :: es, h => by
    rw [List.flatten_cons, List.length_append, flat_len es (fun x hx => h x (by simp [hx])), h e (by simp), List.length_cons, Nat.add_mul]; omega
theorem ownsRow_zero {base : Nat} {e : TypeId} {sz : Nat} {v : Value} {n : Nat} {xs : List Value} (h : w.ownsRow base e sz v n xs) : w.ownsRow 0 e sz v n xs := by
  refine ⟨h.1, ?_⟩
  rcases h.2 with hn | ⟨g, cap, cur, rfl, hb, rest⟩
  · exact .inl hn
  · exact .inr ⟨g, cap, cur, rfl, Nat.zero_le _, rest⟩
theorem ownsRow_base {base : Nat} {e : TypeId} {sz : Nat} {v : Value} {n : Nat} {xs : List Value} (h : w.ownsRow 0 e sz v n xs) (hb : ∀ b, v.ownBlock = some b → base ≤ b) : w.ownsRow base e sz v n xs := by
  refine ⟨h.1, ?_⟩
  rcases h.2 with hn | ⟨g, cap, cur, rfl, _, rest⟩
  · exact .inl hn
  · exact .inr ⟨g, cap, cur, rfl, hb g rfl, rest⟩
theorem ownsRow_slice {base : Nat} {e : TypeId} {sz : Nat} {v : Value} {n : Nat} {xs : List Value} (h : w.ownsRow base e sz v n xs) : ∃ A m c, v = .slice A m c := by
  rcases h.2 with ⟨rfl, _⟩ | ⟨g, cap, cur, rfl, _⟩
  · exact ⟨_, _, _, rfl⟩
  · exact ⟨_, _, _, rfl⟩
theorem isClear_eq {c : Call} (h : isClear c = true) : c.callee = .builtin .clear := by
  unfold isClear at h
  split at h
  · assumption
  · cases h
theorem flatten_rep {α : Type} (l : List α) (z : Nat) (h : l.length = z) : ∀ n : Nat, (List.replicate n l).flatten.length = n * z
  | 0 => by simp
  | n + 1 => by rw [List.replicate_succ, List.flatten_cons, List.length_append, flatten_rep l z h n, h, Nat.add_mul]; omega
theorem run_clear_row (t e ty : TypeId) (ie : TypeInfo) (zv : Value) (hu : P.underlying t = some (.slice e)) (hi : P.info? e = some ie) (hz : ie.zero = some zv) (b o n c : Nat) (cur : Array Value) (e' : TypeId) (hn : 0 < n)
    (hg : w.heap[b]? = some (.cells cur e' (0, 0))) (hl : o + n * zv.cells.size ≤ cur.size) (h1 : ∀ v ∈ zv.cells.toList, v.oneCell' = true) :
    (Builtin.clear_ #[t] ty #[.slice (some ⟨b, o, none⟩) n c]).run P w = .ok (.tuple #[]) (w.setRow b (cur.toList.take o ++ (List.replicate n zv.cells.toList).flatten ++ cur.toList.drop (o + n * zv.cells.size)).toArray) := by
  have hzl : (Builtin.zeroCells zv.cells n).toList = (List.replicate n zv.cells.toList).flatten := madeCells_flat zv.cells n
  have hlen : (List.replicate n zv.cells.toList).flatten.length = n * zv.cells.size := by
    rw [← hzl]; simp [Builtin.zeroCells]
  have hst := run_storeCells_at (P := P) b o e' (List.replicate n zv.cells.toList).flatten 0 cur w hg (by rw [hlen]; omega) (by
    intro v hv
    obtain ⟨l, hl, hv⟩ := List.mem_flatten.1 hv
    rw [(List.mem_replicate.1 hl).2] at hv
    exact h1 v hv)
  simp only [Nat.add_zero, hlen] at hst
  obtain ⟨m, rfl⟩ : ∃ m, n = m + 1 := ⟨n - 1, by omega⟩
  have hzr : (zeroValue e).run P w = .ok zv w := by simp [zeroValue, typeInfo, hi, hz, Result.andThen]
  simp only [Builtin.clear_, Sem.run_bind, run_underlying hu, Result.andThen_ok]
  simp [run_underlying hu, hzr, hzl, hst, Result.andThen]
theorem mstep_sound {lr : Option Nat} {o : Oper} {hs hs' : List Hint} {p : Option Prop} {next : Act → World → Prop} {Q : Exit → Act → World → Prop} (h : Inv G X ok0 w0 tv st a w en) (hm : mstep P G st o hs = some (p, st', hs')) (hp : hold p)
    (hn : ∀ a' w', (∃ en', Inv G X ok0 w0 tv st' a' w' en') → next a' w') : o.wpIn (FW lr) 0 P a w next Q := by
  unfold mstep at hm
  cases hop : o.op with
  | alloc t =>
    simp only [hop] at hm
    split at hm
    · rename_i z hz
      simp only [Option.some.injEq, Prod.mk.injEq] at hm
      obtain ⟨rfl, rfl, rfl⟩ := hm
      obtain ⟨zv, h1, h2, h3⟩ := zeroP_run (w := w) (ok := okS ok0 w0 w st.ob en) (en := en) hz
      refine wp_value (v := .pointer (some ⟨w.heap.size, 0, none⟩)) (w' := w.alloc (.cells zv.cells t)) ?_ (hn _ _ (new_box h o.dst _ t zv.cells h2 (h3 _)))
      simp [execOp, hop, Instr.alloc, h1, newVar, newRow, Result.andThen]
    · cases hm
  | box t x =>
    simp only [hop] at hm
    have key : ∀ cs, cellsAV (st.opnd x) = some cs → (∀ a' w', (∃ en', Inv G X ok0 w0 tv (st.fresh o.dst (.loc st.nx 0) (.box cs) none) a' w' en') → next a' w') → o.wpIn (FW lr) 0 P a w next Q := by
      intro cs hcs hn
      obtain ⟨h1, h2⟩ := h.opnd x
      obtain ⟨h3, h4⟩ := cellsAV_rel hcs h1 h2
      refine wp_value (v := .pointer (some ⟨w.heap.size, 0, none⟩)) (w' := w.alloc (.cells (a.eval x).cells t)) ?_ (hn _ _ (new_box h o.dst _ t _ h3 h4))
      simp [execOp, hop, Instr.box, newVar, newRow, Result.andThen]
    split at hm
    · simp only [Option.some.injEq, Prod.mk.injEq] at hm
      obtain ⟨rfl, rfl, rfl⟩ := hm
      exact key _ (cellsAV_one hp) hn
    · split at hm
      · rename_i cs hcs
        simp only [Option.some.injEq, Prod.mk.injEq] at hm
        obtain ⟨rfl, rfl, rfl⟩ := hm
        exact key _ hcs hn
      · cases hm
  | store t x y =>
    simp only [hop] at hm
    split at hm
    · cases hm
    · rename_i hd
      obtain ⟨hx, hxb⟩ := h.opnd x
      obtain ⟨hy, hyb⟩ := h.opnd y
      have core : ∀ k off xs n cs cs', st.opnd x = .loc k off → cellsAV (st.opnd y) = some xs → sizeP P t = some n → getOb k st.ob = some (.box cs) → putAt cs off xs = some cs' → oneL xs = true → xs.length = n →
          (∀ a' w', (∃ en', Inv G X ok0 w0 tv { st with ob := setOb k (.box cs') st.ob } a' w' en') → next a' w') → o.wpIn (FW lr) 0 P a w next Q := by
        intro k off xs n cs cs' hxe hxs hsz hk hput ho1 ho2 hn
        rw [hxe] at hx
        simp only [ARel] at hx
        obtain ⟨b, hb, ex⟩ := hx
        obtain ⟨g1, g2, g3, b', vs, ty, g4, g5, g6⟩ := h.mem.obs k _ hk
        rw [hb] at g4
        cases opt_inj g4
        obtain ⟨h1, h2⟩ := cellsAV_rel hxs hy hyb
        obtain ⟨h3, h4⟩ := putAt_rel cs off xs cs' _ _ hput g6 h1
        have hlen : (a.eval y).cells.toList.length = n := by rw [ARelL.length _ _ h1, ho2]
        have hrun := run_storeCells_at (P := P) b off ty (a.eval y).cells.toList 0 vs w g5 (by simpa using h3) (oneL_cell _ _ ho1 h1)
        refine wp_skip' (w' := w.setRow b (vs.toList.take off ++ (a.eval y).cells.toList ++ vs.toList.drop (off + (a.eval y).cells.toList.length)).toArray) ?_ hd (hn _ _ ⟨en, ?_⟩)
        · simp only [Nat.add_zero] at hrun
          simp only [execOp, hop, ex, Instr.storeAt, Instr.sureAddr, storeVar, Sem.run_bind, Sem.run_pure, Result.andThen, run_sizeP hsz, hrun]
          rw [if_neg (by simpa using hlen)]
          simp [hrun, Result.andThen]
        · refine Inv.inplace h k _ _ hk ⟨rfl, rfl, rfl, by simp, fun b' hb' hne => setRow_other w b b' _ (fun e => hne k rfl (by rw [hb, e]; exact rfl)), fun _ => Nat.le_refl _⟩ ?_ (putAt_bd cs off xs cs' hput g3 h2)
          intro ok' hc
          refine ⟨b, _, ty, hb, setRow_heap w b vs _ ty _ g5, ?_⟩
          have := ARelL.carry hc (EnvUpto.refl st.nx en) _ _ (putAt_bd cs off xs cs' hput g3 h2) h4
          simpa using this
      split at hm
      · split at hm
        · rename_i k off n hxe hsz
          split at hm
          · rename_i cs hk
            split at hm
            · rename_i cs' hput
              split at hm
              · rename_i hn1
                simp only [beq_iff_eq] at hn1
                subst hn1
                simp only [Option.some.injEq, Prod.mk.injEq] at hm
                obtain ⟨rfl, rfl, rfl⟩ := hm
                exact core k off _ 1 cs cs' hxe (cellsAV_one hp) hsz hk hput (by have hp1 : (st.opnd y).one = true := hp; simp [oneL, hp1]) rfl hn
              · cases hm
            · cases hm
          · cases hm
        · cases hm
      split at hm
      · rename_i k off xs n hxe hxs hsz
        split at hm
        · rename_i cs hk
          split at hm
          · rename_i cs' hput
            split at hm
            · rename_i hone
              simp only [Bool.and_eq_true, beq_iff_eq] at hone
              simp only [Option.some.injEq, Prod.mk.injEq] at hm
              obtain ⟨rfl, rfl, rfl⟩ := hm
              exact core k off xs n cs cs' hxe hxs hsz hk hput hone.1 hone.2 hn
            · cases hm
          · cases hm
        · cases hm
      · rename_i k sz i xs n hxe hxs hsz
        split at hm
        · rename_i sz' e es fs hk hfs
          split at hm
          · rename_i hone
            simp only [Bool.and_eq_true, beq_iff_eq] at hone
            obtain ⟨⟨⟨ho1, ho2⟩, ho3⟩, ho4⟩ := hone
            simp only [Option.some.injEq, Prod.mk.injEq] at hm
            obtain ⟨rfl, rfl, rfl⟩ := hm
            subst ho4
            subst ho3
            rw [hxe] at hx
            simp only [ARel] at hx
            obtain ⟨b, hb, ex⟩ := hx
            obtain ⟨g1, g2, g3, rs, g4, g5, g6, g7⟩ := h.mem.obs k _ hk
            obtain ⟨h1, h2⟩ := cellsAV_rel hxs hy hyb
            have hlen : (a.eval y).cells.toList.length = n := by rw [ARelL.length _ _ h1, ho2]
            have hF := toFL_rel _ _ _ hfs h1
            rw [hb] at g5
            rcases g4.2 with ⟨hv, _⟩ | ⟨g, cap, cur, hv, hbg, hg, hnc, hcm, hcs, htake⟩
            · rw [hv] at g5; cases opt_inj g5
            · rw [hv] at g5
              replace g5 := opt_inj g5
              simp only [Value.ownBlock, Option.some.injEq] at g5
              subst g5
              have hi : i < es.length := hp
              have hin : i * n + n ≤ es.length * n := by
                have := Nat.mul_le_mul_right n (show i + 1 ≤ es.length from hi)
                rw [Nat.add_mul] at this; omega
              have hcap : es.length * n ≤ cap * n := Nat.mul_le_mul_right n hnc
              have hrun := run_storeCells_at (P := P) b (i * n) e (a.eval y).cells.toList 0 cur w hg (by rw [hlen, hcs]; omega) (oneL_cell _ _ ho1 h1)
              refine wp_skip' (w' := w.setRow b (cur.toList.take (i * n) ++ (a.eval y).cells.toList ++ cur.toList.drop (i * n + (a.eval y).cells.toList.length)).toArray) ?_ hd (hn _ _ ⟨en, ?_⟩)
              · simp only [Nat.add_zero] at hrun ex
                simp only [execOp, hop, ex, Instr.storeAt, Instr.sureAddr, storeVar, Sem.run_bind, Sem.run_pure, Result.andThen, run_sizeP hsz, hrun]
                rw [if_neg (by simpa using hlen)]
                simp [hrun, Result.andThen]
              · refine Inv.inplace h k _ _ hk ⟨rfl, rfl, rfl, by simp, fun b' hb' hne => setRow_other w b b' _ (fun e => hne k rfl (by rw [hb, e]; exact rfl)), fun _ => Nat.le_refl _⟩ ?_ trivial
                intro ok' hc
                refine ⟨rs.take (i * n) ++ (a.eval y).cells.toList ++ rs.drop (i * n + n), ?_, by rw [hb, hv]; rfl, ?_, ?_⟩
                · have hrs : rs.length = es.length * n := g4.1
                  have hcl : cur.toList.length = cap * n := by simp [hcs]
                  refine ⟨by rw [List.length_append, List.length_append, List.length_take, List.length_drop, hrs, hlen, List.length_set, Nat.min_eq_left (by omega)]; omega, .inr ⟨b, cap, _, by simpa using hv, hbg, setRow_heap w b cur _ e _ hg, by simpa using hnc, hcm, ?_, ?_⟩⟩
                  · rw [List.size_toArray, List.length_append, List.length_append, List.length_take, List.length_drop, Array.length_toList, hlen, hcs, Nat.min_eq_left (by omega)]
                    omega
                  · rw [List.length_set, ← htake, List.toList_toArray, take_put _ _ _ _ (by rw [hlen]; exact hin) (by rw [hcl]; exact hcap), hlen]
                · have hset : (es.set i fs).flatten = es.flatten.take (i * n) ++ fs ++ es.flatten.drop (i * n + n) := by
                    have hfl : fs.length = n := by rw [← FRelL.length _ _ hF, hlen]
                    clear hrun hcs htake hin hcap g4 g6 hk
                    have : ∀ (es : List (List FV)) (i : Nat), i < es.length → (∀ x ∈ es, x.length = n) → (es.set i fs).flatten = es.flatten.take (i * n) ++ fs ++ es.flatten.drop (i * n + n) := by
                      intro es
                      induction es with
                      | nil => intro i hi; simp at hi
                      | cons e es ih =>
                        intro i hi hl
                        have he : e.length = n := hl e (by simp)
                        cases i with
                        | zero => simp [← he]
                        | succ i =>
                          rw [List.set_cons_succ, List.flatten_cons, List.flatten_cons, ih i (by simpa using hi) (fun x hx => hl x (by simp [hx]))]
                          rw [show (i + 1) * n = e.length + i * n from by rw [Nat.add_mul, he]; omega, List.take_append, List.drop_append]
                          simp [Nat.add_assoc]
                          rw [List.take_of_length_le (l := e) (by omega), List.drop_eq_nil_of_le (as := e) (by omega)]
                          simp
                    exact this es i hi g7
                  rw [hset]
                  have hrl := FRelL.carry hc _ _ g6
                  have hfl : es.flatten.length = es.length * n := by rw [← FRelL.length _ _ hrl, g4.1]
                  have s1 := FRelL.split (es.flatten.take (i * n)) (es.flatten.drop (i * n)) rs (by rw [List.take_append_drop]; exact hrl)
                  have s2 := FRelL.split (es.flatten.take (i * n + n)) (es.flatten.drop (i * n + n)) rs (by rw [List.take_append_drop]; exact hrl)
                  rw [List.length_take, hfl, Nat.min_eq_left (by omega)] at s1 s2
                  exact FRelL.append _ _ _ _ (FRelL.append _ _ _ _ s1.1 (FRelL.carry hc _ _ hF)) s2.2
                · intro x hx
                  rcases List.mem_or_eq_of_mem_set hx with hx | rfl
                  · exact g7 x hx
                  · rw [← FRelL.length _ _ hF, hlen]
          · cases hm
        · cases hm
      · cases hm
  | buildSlice t n ps =>
    simp only [hop] at hm
    split at hm
    · cases hm
    · rename_i e he
      split at hm
      · cases hm
      · rename_i ie hie
        split at hm
        · cases hm
        · rename_i zv hz
          split at hm
          · rename_i hcond
            simp only [Bool.and_eq_true, decide_eq_true_eq] at hcond
            split at hm
            · rename_i cs hcs
              split at hm
              · rename_i fs hfs
                split at hm
                · rename_i hlen
                  simp only [beq_iff_eq] at hlen
                  simp only [Option.some.injEq, Prod.mk.injEq] at hm
                  obtain ⟨rfl, rfl, rfl⟩ := hm
                  have hz0 := fV1_relA w (okS ok0 w0 w st.ob en) en ((List.range (n * ie.size)).map fun i => zv.cells[i % zv.cells.size]!)
                  have hzz : (zcells zv (n * ie.size)).map AV.f = ((List.range (n * ie.size)).map fun i => zv.cells[i % zv.cells.size]!).map fun v => AV.f (fV1 v) := by simp [zcells]
                  obtain ⟨cells, h1, h2, h3⟩ := fill_rel (w := w) (en := en) (ρ := a.eval) (st := st) (ok := okS ok0 w0 w st.ob en) (nx := st.nx) (fun i => some (i * ie.size, ie.size)) ps.toList _ cs ((Array.range (n * ie.size)).map (zv.cells[· % zv.cells.size]!))
                    (fun x hx => h.opnd x) hcs (by rw [hzz]; simpa [Array.toList_map] using hz0.1) (.inr (by rw [hzz]; exact hz0.2 _))
                  have hF := toFL_rel _ _ _ hfs h2
                  obtain ⟨c1, c2, c3⟩ := chunk_spec ie.size n fs hlen
                  have hcl : cells.size = n * ie.size := by rw [← hlen, ← FRelL.length _ _ hF]; simp
                  refine wp_value (v := .slice (some ⟨w.heap.size, 0, none⟩) n n) (w' := w.alloc (.cells cells e)) ?_ (hn _ _ (new_row h o.dst ie.size e (chunk ie.size n fs) none _ cells.toList (Turned.alloc w en _) (by simp)
                    (by rintro b eb; cases eb; exact .inl (Nat.le_refl _)) (by rw [c2]; exact World.ownsRow_lit w cells n (Nat.zero_le _) hcond.2 hcl) (by rw [c1]; exact hF) c3))
                  have eps : (ps.map fun (i, x) => (i, a.eval x)).toList = ps.toList.map fun q => (q.1, a.eval q.2) := by simp
                  have hb : (Instr.buildSlice t n (ps.map fun (i, x) => (i, a.eval x))).run P w = .ok (.slice (some ⟨w.heap.size, 0, none⟩) n n) (w.alloc (.cells cells e)) := by
                    rw [← eps] at h1
                    by_cases h0 : n * ie.size = 0
                    · rw [h0] at h1
                      simp only [Array.range_zero', Array.map_empty, Array.toList_map] at h1
                      simp [Instr.buildSlice, run_underlying (elemP_under he), sizeOf, typeInfo, hie, h0, newRow, h1, Result.andThen, Array.range_zero']
                    · exact run_buildSlice w t e n _ cells ie zv (elemP_under he) hie hz (by omega) h0 h1
                  simp only [execOp, hop, Sem.run_bind, hb, Result.andThen]
                  rfl
                · cases hm
              · cases hm
            · cases hm
          · cases hm
  | makeSlice t l c =>
    simp only [hop] at hm
    split at hm
    · cases hm
    · rename_i e he
      split at hm
      · cases hm
      · rename_i ie hie
        split at hm
        · cases hm
        · rename_i zv hz
          split at hm
          · rename_i k1 n k2 m hl hc
            split at hm
            · rename_i hsz
              simp only [beq_iff_eq] at hsz
              simp only [Option.some.injEq, Prod.mk.injEq] at hm
              obtain ⟨rfl, rfl, rfl⟩ := hm
              obtain ⟨rfl, h0, hb, hml⟩ := hp
              have e1 : a.eval l = .int k1 n := by have := (h.opnd l).1; rw [hl] at this; simpa [ARel, FRel] using this
              have e2 : a.eval c = .int k2 n := by have := (h.opnd c).1; rw [hc] at this; simpa [ARel, FRel] using this
              have hnn : ((n.toNat : Nat) : Int) = n := by omega
              have hr := run_make (P := P) w t e ie zv (elemP_under he) hie hz k1 k2 n n h0 (Int.le_refl _) (by
                have h' : ((ie.bytes * n.toNat : Nat) : Int) ≤ 281474976710656 := by omega
                rwa [Int.natCast_mul, hnn] at h') (by simp only [maxLen] at hml; omega)
              refine wp_value (v := .slice (some ⟨w.heap.size, 0, none⟩) n.toNat n.toNat) (w' := w.alloc (.cells (madeCells zv.cells (n.toNat * ie.size)) e)) ?_
                (hn _ _ (new_row h o.dst ie.size e _ none _ (madeCells zv.cells (n.toNat * ie.size)).toList (Turned.alloc w en _) (by simp) (by rintro b eb; cases eb; exact .inl (Nat.le_refl _)) ?_ ?_ ?_))
              · simp only [execOp, hop, e1, e2, Sem.run_bind, hr, Result.andThen]; rfl
              · rw [List.length_replicate]; exact World.ownsRow_lit w _ _ (Nat.zero_le _) hml (size_madeCells _ _)
              · rw [← hsz, madeCells_flat, map_flatten_rep]; exact fV1_relL _ _ _
              · intro x hx
                rw [(List.mem_replicate.1 hx).2]
                simpa using hsz
            · cases hm
          · cases hm
  | call c =>
    simp only [hop] at hm
    split at hm
    · rename_i s x t t' hargs htys
      split at hm
      · rename_i htt
        simp only [Bool.and_eq_true, beq_iff_eq] at htt
        obtain ⟨rfl, happ⟩ := htt
        split at hm
        · cases hm
        · rename_i e he
          split at hm
          · cases hm
          · rename_i ie hie
            split at hm
            · cases hm
            · rename_i zv hz
              split at hm
              · rename_i kill es sz fs hdst hsrc
                split at hm
                · rename_i hcond
                  simp only [Bool.and_eq_true, beq_iff_eq, decide_eq_true_eq] at hcond
                  obtain ⟨⟨rfl, hzs⟩, hpos⟩ := hcond
                  simp only [Option.some.injEq, Prod.mk.injEq] at hm
                  obtain ⟨rfl, rfl, rfl⟩ := hm
                  obtain ⟨hone, hmax, hbytes, hstr⟩ := hp
                  have hA : c.args = #[s, x] := by apply Array.ext'; simpa using hargs
                  have hT : c.argTypes = #[t, t] := by apply Array.ext'; simpa using htys
                  have hC := isAppend_eq happ
                  obtain ⟨xs, d1, d2, d3, d4, d5⟩ := dst_rel h.mem hdst (h.opnd s).1
                  obtain ⟨s1, s2⟩ := src_rel h.mem hsrc (h.opnd x).1
                  have fin : ∀ (v' : Value) (w' : World) (news : List Value), (Builtin.append_ #[t, t] o.type #[a.eval s, a.eval x]).run P w = .ok v' w' → w'.ownsRow 0 e ie.size v' (es.length + fs.length) (xs ++ news) →
                      w.grownBy w' (a.eval s).ownBlock → (v'.ownBlock = (a.eval s).ownBlock ∨ v'.ownBlock = some w.heap.size) → FRelL w (okS ok0 w0 w st.ob en) fs.flatten news → o.wpIn (FW lr) 0 P a w next Q := by
                    intro v' w' news hrun hown hg hblk hnews
                    refine wp_value (v := v') (w' := w') ?_ (hn _ _ (new_row h o.dst ie.size e (es ++ fs) kill v' (xs ++ news) ⟨hg.os, hg.tape, hg.output, hg.size, ?_, fun hs => by rw [hstr] at hs; cases hs⟩ (fun k hk => (d4 k hk).1) ?_ ?_ ?_ ?_))
                    · simp only [execOp, hop, resolve, hC, invoke, builtin, hA, hT, Sem.run_bind, Sem.run_pure, Result.andThen_ok, List.map_toArray, List.map_cons, List.map_nil, hrun]
                    · intro b hb hne
                      refine hg.block b hb fun e' => ?_
                      cases kill with
                      | none => rw [d5 rfl] at e'; cases e'
                      | some k => exact hne k rfl (by rw [(d4 k rfl).2]; exact e'.symm)
                    · intro b hb
                      rcases hblk with h' | h'
                      · rw [hb] at h'
                        cases kill with
                        | none => rw [d5 rfl] at h'; cases h'
                        | some k => exact .inr ⟨k, rfl, by rw [(d4 k rfl).2]; exact h'.symm⟩
                      · rw [hb] at h'; cases h'; exact .inl (Nat.le_refl _)
                    · rw [List.length_append]; exact hown
                    · rw [List.flatten_append]; exact FRelL.append _ _ _ _ d2 hnews
                    · intro y hy
                      rcases List.mem_append.1 hy with hy | hy
                      · exact d3 y hy
                      · exact s1 y hy
                  rcases s2 with ⟨rfl, ex⟩ | ⟨ad, cp, news, ex, n1, n2, n3⟩
                  · refine fin (a.eval s) w [] (by rw [ex]; exact run_append_owned_none w 0 t o.type e ie ie.size (elemP_under he) hie _ _ xs d1) (by simpa using d1) ⟨rfl, rfl, rfl, Nat.le_refl _, fun _ _ _ => rfl⟩ (.inl rfl) (by simp [FRelL])
                  · obtain ⟨v', w', hr, r1, r2, _, r4⟩ := run_append_own_at (P := P) w 0 t o.type e ie zv ie.size ie.bytes (elemP_under he) hie hz rfl rfl hzs hpos _ _ xs d1 ad fs.length cp news n1 n2 (FRelL.oneCell _ _ hone n3) hmax hbytes (Nat.zero_le _)
                    exact fin v' w' news (by rw [ex]; exact hr) r1 r2 r4 n3
                · cases hm
              · cases hm
      · cases hm
    · rename_i x t hargs htys
      split at hm
      · rename_i hcl
        have hA : c.args = #[x] := by apply Array.ext'; simpa using hargs
        have hT : c.argTypes = #[t] := by apply Array.ext'; simpa using htys
        have hC := isClear_eq hcl
        split at hm
        · rename_i k sz o' n e hxe he
          split at hm
          · rename_i ie sz' e' es hie hk
            split at hm
            · rename_i zv hz
              split at hm
              · rename_i hcond
                simp only [Bool.and_eq_true, beq_iff_eq] at hcond
                obtain ⟨hzs, rfl⟩ := hcond
                simp only [Option.some.injEq, Prod.mk.injEq] at hm
                obtain ⟨rfl, rfl, rfl⟩ := hm
                obtain ⟨hle, hn0, hone⟩ := hp
                have hx := (h.opnd x).1
                rw [hxe] at hx
                simp only [ARel] at hx
                obtain ⟨b, cc, hb, ex, _⟩ := hx
                obtain ⟨g1, g2, g3, rs, g4, g5, g6, g7⟩ := h.mem.obs k _ hk
                rw [hb] at g5
                rcases g4.2 with ⟨hv, _⟩ | ⟨g, cap, cur, hv, hbg, hg, hnc, hcm, hcs, htake⟩
                · rw [hv] at g5; cases opt_inj g5
                · rw [hv] at g5
                  replace g5 := opt_inj g5
                  simp only [Value.ownBlock, Option.some.injEq] at g5
                  subst g5
                  subst hzs
                  generalize hN : zv.cells.size = N at *
                  have hmul : (o' + n) * N ≤ es.length * N := Nat.mul_le_mul_right N hle
                  rw [Nat.add_mul] at hmul
                  have hcap : es.length * N ≤ cap * N := Nat.mul_le_mul_right N hnc
                  have hzc : ∀ v ∈ zv.cells.toList, v.oneCell' = true := by
                    refine FRelL.oneCell (w := w) (ok := fun _ => True) _ _ ?_ (fV1_relL w _ zv.cells.toList)
                    intro y hy
                    exact hone y (by simpa using hy)
                  have hrun := run_clear_row (P := P) (w := w) t e o.type ie zv (elemP_under he) hie hz b (o' * N) n cc cur e' hn0 hg (by rw [hN]; omega) hzc
                  rw [hN] at hrun
                  have hzl : zv.cells.toList.length = N := by simpa using hN
                  have hrl : (List.replicate n zv.cells.toList).flatten.length = n * N := by
                    exact flatten_rep _ _ hzl n
                  have hi : Inv G X ok0 w0 tv { st with ob := setOb k (.row N e' (es.take o' ++ List.replicate n (zv.cells.toList.map fV1) ++ es.drop (o' + n))) st.ob } a
                      (w.setRow b (cur.toList.take (o' * N) ++ (List.replicate n zv.cells.toList).flatten ++ cur.toList.drop (o' * N + n * N)).toArray) en := by
                    refine Inv.inplace h k _ _ hk ⟨rfl, rfl, rfl, by simp, fun b' hb' hne => setRow_other w b b' _ (fun e => hne k rfl (by rw [hb, e]; exact rfl)), fun _ => Nat.le_refl _⟩ ?_ trivial
                    intro ok' hc
                    have hrs : rs.length = es.length * N := g4.1
                    have hcl : cur.toList.length = cap * N := by simp [hcs]
                    have hnl : (es.take o' ++ List.replicate n (zv.cells.toList.map fV1) ++ es.drop (o' + n)).length = es.length := by
                      simp only [List.length_append, List.length_take, List.length_replicate, List.length_drop]; omega
                    refine ⟨rs.take (o' * N) ++ (List.replicate n zv.cells.toList).flatten ++ rs.drop (o' * N + n * N), ?_, by rw [hb, hv]; rfl, ?_, ?_⟩
                    · refine ⟨by rw [List.length_append, List.length_append, List.length_take, List.length_drop, hrs, hrl, hnl, Nat.min_eq_left (by omega)]; omega, .inr ⟨b, cap, _, by rw [hv, hnl], hbg, setRow_heap w b cur _ e' _ hg, by omega, hcm, ?_, ?_⟩⟩
                      · rw [List.size_toArray, List.length_append, List.length_append, List.length_take, List.length_drop, Array.length_toList, hrl, hcs, Nat.min_eq_left (by omega)]
                        omega
                      · rw [hnl, ← htake, List.toList_toArray]
                        have := take_put cur.toList (List.replicate n zv.cells.toList).flatten (o' * N) (es.length * N) (by rw [hrl]; omega) (by rw [hcl]; exact hcap)
                        rw [hrl] at this
                        exact this
                    · have hfl : ∀ q : List (List FV), (∀ x ∈ q, x.length = N) → q.flatten.length = q.length * N := flat_len
                      have hrl2 := FRelL.carry hc _ _ g6
                      have s1 := FRelL.split (es.take o').flatten (es.drop o').flatten rs (by rw [← List.flatten_append, List.take_append_drop]; exact hrl2)
                      have s2 := FRelL.split (es.take (o' + n)).flatten (es.drop (o' + n)).flatten rs (by rw [← List.flatten_append, List.take_append_drop]; exact hrl2)
                      rw [hfl _ (fun x hx => g7 x (List.mem_of_mem_take hx)), List.length_take, Nat.min_eq_left (by omega)] at s1
                      rw [hfl _ (fun x hx => g7 x (List.mem_of_mem_take hx)), List.length_take, Nat.min_eq_left (by omega), Nat.add_mul] at s2
                      rw [List.flatten_append, List.flatten_append]
                      refine FRelL.append _ _ _ _ (FRelL.append _ _ _ _ s1.1 ?_) s2.2
                      rw [map_flatten_rep]
                      exact fV1_relL _ _ _
                    · intro y hy
                      rcases List.mem_append.1 hy with hy | hy
                      · rcases List.mem_append.1 hy with hy | hy
                        · exact g7 y (List.mem_of_mem_take hy)
                        · rw [(List.mem_replicate.1 hy).2]; simpa using hzl
                      · exact g7 y (List.mem_of_mem_drop hy)
                  refine wp_value (v := .tuple #[]) ?_ (hn _ _ ⟨en, Inv.put hi o.dst (x := .f (.tup [])) (by simp only [ARel, FRel, FRelL]; exact ⟨[], rfl, rfl⟩) (by simp [AV.bd])⟩)
                  simp only [execOp, hop, resolve, hC, invoke, builtin, hA, hT, Sem.run_bind, Sem.run_pure, Result.andThen_ok, List.map_toArray, List.map_cons, List.map_nil, ex, hrun]
              · cases hm
            · cases hm
          · cases hm
        · cases hm
      · cases hm
    · cases hm
  | range t x =>
    simp only [hop] at hm
    split at hm
    · rename_i s hxe ht
      simp only [Option.some.injEq, Prod.mk.injEq] at hm
      obtain ⟨rfl, rfl, rfl⟩ := hm
      have hu : P.underlying t = some .string := by
        unfold strTy at ht
        split at ht
        · assumption
        · cases ht
      have hx := (h.opnd x).1
      rw [hxe] at hx
      simp only [ARel, FRel] at hx
      refine wp_value (v := .pointer (some ⟨w.heap.size, 0, none⟩)) (w' := w.alloc (.stringIter s 0)) ?_ (hn _ _ ⟨_, Inv.fresh h o.dst _ _ none (opt (some w.heap.size)) undef _ (Turned.alloc w en _) (by simp) (by rintro b e; cases e; exact .inl (Nat.le_refl _)) ?_ trivial ?_ (by simp [AV.bd])⟩)
      · simp [execOp, hop, hx, Instr.range, run_underlying hu, Result.andThen]
      · intro ok' hc
        exact ⟨w.heap.size, by simp [Env.with], heap_alloc_new w _⟩
      · intro ok'
        simp only [ARel]
        exact ⟨_, by simp [Env.with], rfl⟩
    · cases hm
  | next x b =>
    cases b with
    | false => simp only [hop] at hm; cases hm
    | true =>
    simp only [hop] at hm
    split at hm
    · rename_i k d hs2 hxe
      split at hm
      · rename_i s pos hk
        have hx := (h.opnd x).1
        rw [hxe] at hx
        simp only [ARel] at hx
        obtain ⟨b, hb, ex⟩ := hx
        obtain ⟨g1, g2, g3, b', g4, g5⟩ := h.mem.obs k _ hk
        rw [hb] at g4
        cases opt_inj g4
        have hlt := (Array.getElem?_eq_some_iff.1 g5).1
        cases d with
        | true =>
          simp only [Option.some.injEq, Prod.mk.injEq] at hm
          obtain ⟨rfl, rfl, rfl⟩ := hm
          have hpos : pos < s.size := hp
          refine wp_value (v := .tuple #[.bool true, .int .i64 pos, .int .i32 (Utf8.decode s pos).1]) (w' := { w with heap := w.heap.setIfInBounds b (.stringIter s (pos + (Utf8.decode s pos).2)) }) ?_ (hn _ _ ⟨en, ?_⟩)
          · have hg : (if hh : b < w.heap.size then some w.heap[b] else none) = some (.stringIter s pos) := by rw [dif_pos hlt]; rw [Array.getElem?_eq_getElem hlt] at g5; exact g5
            simp [execOp, hop, ex, Instr.next, getObj, setObj, Sem.run, g5, hpos, Result.andThen, goInt]
          · have hi : Inv G X ok0 w0 tv { st with ob := setOb k (.iter s (pos + (Utf8.decode s pos).2)) st.ob } a { w with heap := w.heap.setIfInBounds b (.stringIter s (pos + (Utf8.decode s pos).2)) } en := by
              refine Inv.inplace h k _ _ hk ⟨rfl, rfl, rfl, by simp, fun b' hb' hne => ?_, fun _ => Nat.le_refl _⟩ ?_ trivial
              · have : b ≠ b' := fun e => hne k rfl (by rw [hb, e]; exact rfl)
                simp [Array.getElem?_setIfInBounds_ne this]
              · intro ok' hc
                exact ⟨b, hb, by simp [hlt]⟩
            exact Inv.put hi o.dst (by simp only [ARel, FRel, FRelL]; exact ⟨_, rfl, _, _, rfl, rfl, _, _, rfl, rfl, _, _, rfl, rfl, rfl⟩) (by simp [AV.bd])
        | false =>
          simp only [Option.some.injEq, Prod.mk.injEq] at hm
          obtain ⟨rfl, rfl, rfl⟩ := hm
          have hpos : ¬ pos < s.size := hp
          refine wp_value (v := .tuple #[.bool false]) (w' := w) ?_ (hn _ _ ⟨en, Inv.put h o.dst (by simp only [ARel, FRel, FRelL]; exact ⟨_, rfl, _, _, rfl, rfl, rfl⟩) (by simp [AV.bd])⟩)
          simp [execOp, hop, ex, Instr.next, getObj, Sem.run, g5, hpos, Result.andThen]
      · cases hm
    · cases hm
  | slice t x lo hi mx =>
    cases mx with
    | some m => simp only [hop] at hm; cases hm
    | none =>
    simp only [hop] at hm
    split at hm
    · rename_i k y hs2 hxe
      split at hm
      · rename_i sz e es ik n e' hk hye he
        split at hm
        · rename_i z hz
          split at hm
          · rename_i hcond
            simp only [Bool.and_eq_true, beq_iff_eq] at hcond
            obtain ⟨rfl, rfl⟩ := hcond
            simp only [Option.some.injEq, Prod.mk.injEq] at hm
            obtain ⟨rfl, rfl, rfl⟩ := hm
            obtain ⟨h0, hle⟩ := hp
            have hx := (h.opnd x).1
            have hy := (h.opnd y).1
            rw [hxe] at hx
            rw [hye] at hy
            simp only [ARel, FRel] at hx hy
            obtain ⟨g1, g2, g3, xs, r1, r2, r3, r4⟩ := h.mem.obs k _ hk
            have hlen : (es.take n.toNat).length = n.toNat := by rw [List.length_take]; omega
            have htl : ∀ q ∈ es.take n.toNat, q.length = z := fun q hq => r4 q (List.mem_of_mem_take hq)
            have hfl : (es.take n.toNat).flatten.length = n.toNat * z := by rw [flat_len _ htl, hlen]
            have hrel : FRelL w (okS ok0 w0 w st.ob en) (es.take n.toNat).flatten (xs.take (n.toNat * z)) := by
              have := (FRelL.split (es.take n.toNat).flatten (es.drop n.toNat).flatten xs (by rw [← List.flatten_append, List.take_append_drop]; exact r3)).1
              rwa [hfl] at this
            have fin : ∀ v' : Value, (Instr.sliceAt t (a.eval x) none (some (.int ik n)) none).run P w = .ok v' w → v'.ownBlock = (en.val k).ownBlock → w.ownsRow 0 e' z v' (es.take n.toNat).length (xs.take (n.toNat * z)) → o.wpIn (FW lr) 0 P a w next Q := by
              intro v' hrun hblk hown
              refine wp_value (v := v') (w' := w) ?_ (hn _ _ (new_row h o.dst z e' (es.take n.toNat) (some k) v' _ ⟨rfl, rfl, rfl, Nat.le_refl _, fun _ _ _ => rfl, fun _ => Nat.le_refl _⟩ (by rintro j e; cases e; exact ⟨_, hk⟩)
                (by intro b hb; exact .inr ⟨k, rfl, by rw [r2, ← hblk]; exact hb⟩) hown hrel htl))
              simp only [execOp, hop, Option.map_none, Option.map_some, hy, Sem.run_bind, hrun, Result.andThen]
              rfl
            have hu := elemP_under he
            rcases r1.2 with ⟨hv, hnil⟩ | ⟨g, cap, cur, hv, hbg, hg, hnc, hcm, hcs, htake⟩
            · have hes : es = [] := List.eq_nil_of_length_eq_zero hnil
              have hn0 : n.toNat = 0 := by omega
              have hb := run_sliceBounds (P := P) (b := true) (len := 0) (cap := 0) (lo := none) (hi := some (.int ik n)) (l := 0) (h := n) (.inl ⟨rfl, rfl⟩) (.inr ⟨ik, rfl⟩) (by omega) (by omega) (by omega) (Nat.le_refl 0) w
              refine fin (.slice none 0 0) (by rw [hx.1, hv]; exact run_sliceAt_nil hu hz w hb (by simp) hn0) (by rw [hv]) ?_
              rw [hes, hn0]
              simpa using World.ownsRow_nil w 0 e' z
            · have hb := run_sliceBounds (P := P) (b := true) (len := es.length) (cap := cap) (lo := none) (hi := some (.int ik n)) (l := 0) (h := n) (.inl ⟨rfl, rfl⟩) (.inr ⟨ik, rfl⟩) (by omega) (by omega) (by omega) hnc w
              have hr := run_sliceAt_some (b := g) (o := 0) hu hz w hb
              refine fin (.slice (some ⟨g, 0, none⟩) n.toNat cap) ?_ (by rw [hv]; rfl) ?_
              · rw [hx.1, hv, hr]
                by_cases hc : cap = (0 : Int).toNat
                · simp
                · simp
              · rw [hlen]
                refine ⟨?_, .inr ⟨g, cap, cur, rfl, Nat.zero_le _, hg, by omega, hcm, hcs, ?_⟩⟩
                · have hxl := r1.1
                  have hmul := Nat.mul_le_mul_right z hle
                  rw [List.length_take, hxl]; omega
                · rw [← htake, List.take_take, Nat.min_eq_left (Nat.mul_le_mul_right z hle)]
          · cases hm
        · cases hm
      · cases hm
    · cases hm
  | _ => simp only [hop] at hm; cases hm
theorem toFL_args {ok : Nat → Prop} {c : Call} {as : List FV} (h : Inv G X ok0 w0 tv st a w en) (hs : toFL (opL st c.args.toList) = some as) : FRelL w (okS ok0 w0 w st.ob en) as (c.args.toList.map a.eval) :=
  toFL_rel _ _ _ hs (opL_rel (nx := st.nx) c.args.toList (fun x _ => h.opnd x)).1
theorem run_call_fn {o : Oper} {c : Call} {f : Operand} {g : Nat} (hop : o.op = .call c) (hc : c.callee = .value f) (hf : a.eval f = .func (.func g) #[] #[]) :
    (execOp a.eval o).run P w = (callFunc g (c.args.toList.map a.eval).toArray).run P w := by
  simp only [execOp, hop, resolve, hc, hf, Deferred.ofValue, Sem.run_bind]
  simp only [Sem.run_pure, Result.andThen, invoke]
  congr 2
  apply Array.ext'
  simp
theorem CallY.wp {lr : Option Nat} {o : Oper} {g : Nat} {args : Array Value} {R : Value → World → Prop} {next : Act → World → Prop} {Q : Exit → Act → World → Prop} (hrun : (execOp a.eval o).run P w = (callFunc g args).run P w) (h : CallY P g args w R)
    (hn : ∀ v w', R v w' → next (a.put o.dst v) w') : o.wpIn (FW lr) 0 P a w next Q := by
  refine OpY.wp (R := R) ?_ hn
  unfold OpY
  unfold CallY at h
  rw [hrun]
  split at h
  · rename_i e; rw [e]; exact h
  · rename_i e; rw [e]; exact h
  · exact h.elim
theorem FRelL.mono {ok ok' : Nat → Prop} (h : ∀ b, ok b → ok' b) (l : List FV) (vs : List Value) (hr : FRelL w ok l vs) : FRelL w ok' l vs := FRelL.carry (Carry.same w h) l vs hr
theorem wstep_sound {lr : Option Nat} {o : Oper} {hs hs' : List Hint} {p : Option Prop} {next : Act → World → Prop} {Q : Exit → Act → World → Prop} (h : Inv G X ok0 w0 tv st a w en) (hm : wstep P G st o hs = some (p, st', hs')) (hp : hold p)
    (hn : ∀ a' w', (∃ en', Inv G X ok0 w0 tv st' a' w' en') → next a' w') : o.wpIn (FW lr) 0 P a w next Q := by
  unfold wstep at hm
  split at hm
  · rename_i c hop
    split at hm
    · rename_i f hc
      have func : ∀ g, st.opnd f = .f (.fn g [] []) → a.eval f = .func (.func g) #[] #[] := by
        intro g hg
        have := (h.opnd f).1
        rw [hg] at this
        simp only [ARel, FRel, FRelL] at this
        obtain ⟨fs, cs, e, rfl, rfl⟩ := this
        exact e
      split at hm
      · rename_i g e sz es hs2 hf
        split at hm
        · rename_i as has
          simp only [Option.some.injEq, Prod.mk.injEq] at hm
          obtain ⟨rfl, rfl, rfl⟩ := hm
          have hcall := hp w (okS ok0 w0 w st.ob en) _ h.mem.ground (fun b hb => hb.2.1) (toFL_args (ok := fun _ => True) h has)
          refine CallY.wp (run_call_fn hop hc (func g hf)) hcall ?_
          rintro v w' ⟨xs, r1, r2, r3, hx⟩
          obtain ⟨A, m, cc, hv⟩ := ownsRow_slice r1
          refine hn _ _ ⟨_, Inv.fresh2 h o.dst (.lsl st.nx) (.row sz e es) none (opt v.ownBlock) v v ⟨hx.below.os, hx.below.tape, hx.below.output, hx.size, fun b hb _ => hx.block b hb, hx.dr⟩ (by simp) (fun b hb => .inl (r1.lt b hb).1) ?_ trivial ?_ (by simp [AV.bd])⟩
          · intro hcar hnew
            refine ⟨xs, by simpa [Env.with] using ownsRow_zero r1, by simp [Env.with], FRelL.mono (fun b hb => ?_) _ _ r2, r3⟩
            rcases hb.1 with h1 | h1
            · exact hcar.oks b h1
            · exact hnew b (.inl h1.1) h1.2 hb.2
          · intro ok'
            simp only [ARel]
            exact ⟨by simp [Env.with], A, m, cc, hv⟩
        · cases hm
      · rename_i g es' r hs2 hf
        split at hm
        · rename_i k rest hargs
          split at hm
          · rename_i sz e es rest' hk hrest
            have hA := (opL_rel (nx := st.nx) c.args.toList (fun x _ => h.opnd x)).1
            rw [hargs] at hA
            simp only [ARelL, ARel] at hA
            obtain ⟨v, vs, hmap, ⟨hv, A, m, cc, hsl⟩, hvs⟩ := hA
            obtain ⟨g1, g2, g3, xs, r1, r2, r3, r4⟩ := h.mem.obs k _ hk
            have hpre : ∀ b, okS ok0 w0 w st.ob en b → b < w.heap.size ∧ v.ownBlock ≠ some b := fun b hb => ⟨hb.2.1, fun e => hb.2.2.1 k _ hk (by rw [r2, ← hv]; exact e)⟩
            have hgr : ∀ b, v.ownBlock = some b → ¬ G.has b := by
              intro b hb hh
              rcases g2 b (by rw [r2, ← hv]; exact hb) with h1 | h1
              · have := G.lt _ _ h.mem.gr hh; omega
              · exact (h.mem.xok b h1).2 hh
            have hR := toFL_rel _ _ _ hrest hvs
            rw [← hv] at r1
            split at hm
            · simp only [Option.some.injEq, Prod.mk.injEq] at hm
              obtain ⟨rfl, rfl, rfl⟩ := hm
              have hcall := hp w (okS ok0 w0 w st.ob en) v xs vs h.mem.ground hpre hgr r1 r3 r4 hR
              rw [← hmap] at hcall
              refine CallY.wp (run_call_fn hop hc (func g hf)) hcall ?_
              rintro u w' ⟨v', xs', q1, q2, q3, q4, rfl, hx⟩
              obtain ⟨A', m', cc', hsl'⟩ := ownsRow_slice q1
              refine hn _ _ ⟨_, Inv.fresh2 h o.dst (.lsl st.nx) (.row sz e es') (some k) (opt u.ownBlock) u u ⟨hx.os, hx.tape, hx.output, hx.size, fun b hb hne => hx.block b hb fun e => hne k rfl (by rw [r2, ← hv]; exact e), hx.dr⟩ (by rintro j e; cases e; exact ⟨_, hk⟩) ?_ ?_ trivial ?_ (by simp [AV.bd])⟩
              · intro b hb
                rcases q2 b hb with h1 | h1
                · exact .inr ⟨k, rfl, by rw [r2, ← hv]; exact h1⟩
                · exact .inl h1
              · intro hcar hnew
                refine ⟨xs', by simpa [Env.with] using q1, by simp [Env.with], FRelL.mono (fun b hb => ?_) _ _ q3, q4⟩
                rcases hb.1 with h1 | h1 | h1
                · exact hcar.oks b h1
                · exact hnew b (.inr ⟨k, rfl, by rw [r2, ← hv]; exact h1⟩) (Nat.lt_of_lt_of_le (r1.lt b h1).2 hx.size) hb.2
                · exact hnew b (.inl h1.1) h1.2 hb.2
              · intro ok'
                simp only [ARel]
                exact ⟨by simp [Env.with], A', m', cc', hsl'⟩
            · rename_i r
              simp only [Option.some.injEq, Prod.mk.injEq] at hm
              obtain ⟨rfl, rfl, rfl⟩ := hm
              have hcall := hp w (okS ok0 w0 w st.ob en) v xs vs h.mem.ground hpre hgr r1 r3 r4 hR
              rw [← hmap] at hcall
              refine CallY.wp (run_call_fn hop hc (func g hf)) hcall ?_
              rintro u w' ⟨v', xs', q1, q2, q3, q4, ⟨rfl, q5⟩, hx⟩
              have ht : Turned G w w' en (some k) := ⟨hx.os, hx.tape, hx.output, hx.size, fun b hb hne => hx.block b hb fun e => hne k rfl (by rw [r2, ← hv]; exact e), hx.dr⟩
              have hok : ∀ b, ((okS ok0 w0 w st.ob en b ∨ (w.heap.size ≤ b ∧ b < w'.heap.size)) ∧ v'.ownBlock ≠ some b) → okS ok0 w0 w' (setOb k (.row sz e es') st.ob) en b := by
                intro b hb
                have hl : ∀ j q, getOb j (setOb k (.row sz e es') st.ob) = some q → ∃ q', getOb j st.ob = some q' := by
                  intro j q hj
                  rcases getOb_setOb k _ st.ob j q hj with ⟨rfl, _⟩ | ⟨_, h2⟩
                  · exact ⟨_, hk⟩
                  · exact ⟨_, h2⟩
                rcases hb.1 with h1 | h1
                · exact ⟨h1.1, Nat.lt_of_lt_of_le h1.2.1 hx.size, fun j q hj => by obtain ⟨q', hq⟩ := hl j q hj; exact h1.2.2.1 j q' hq, h1.2.2.2⟩
                · refine ⟨.inr (Nat.le_trans h.mem.ext.size h1.1), h1.2, fun j q hj e => ?_, fun hD => by have := (h.mem.dsl b hD).2.1; omega⟩
                  obtain ⟨q', hq⟩ := hl j q hj
                  have := (h.mem.obs j q' hq).2.2.2.lt e
                  omega
              obtain ⟨hm2, hc2, hd2⟩ := Mem.turn (ob' := setOb k (.row sz e es') st.ob) (nx' := st.nx) (en' := en) h.mem (some k) k (.row sz e es') ht (by rintro j hj; cases hj; exact ⟨_, hk⟩) (EnvUpto.refl _ _) (Nat.le_refl _) g1
                (by
                  intro j p hj
                  rcases getOb_setOb k _ st.ob j p hj with h | ⟨h1, h2⟩
                  · exact .inl h
                  · exact .inr ⟨h1, h2, fun e => h1 (by simpa using e.symm)⟩)
                (by intro b hb; exact .inr ⟨k, rfl, hb⟩) (fun _ => ⟨xs', by rw [← hv]; exact q1, r2, FRelL.mono (fun b hb => hok b ⟨hb.1.imp id (fun h9 => h9.resolve_left fun e => hb.2 e), hb.2⟩) _ _ q3, q4⟩) trivial
              have hi : Inv G X ok0 w0 tv { st with ob := setOb k (.row sz e es') st.ob } a w' en := ⟨hm2, h.defs.turn hd2 rfl, ARelL.carry hc2 (EnvUpto.refl _ _) _ _ h.bd h.slots, h.bd, h.keep, h.nod⟩
              exact hn _ _ ⟨en, Inv.put hi o.dst (by simp only [ARel]; exact FRel.carry (Carry.same _ hok) _ _ q5) (by simp [AV.bd])⟩
          · cases hm
        · rename_i x k rest hargs
          split at hm
          · rename_i sz e es rest' hk hrest
            have hA := (opL_rel (nx := st.nx) c.args.toList (fun x _ => h.opnd x)).1
            rw [hargs] at hA
            simp only [ARelL, ARel] at hA
            obtain ⟨y, vs0, hmap, hy, v, vs, rfl, ⟨hv, A, m, cc, hsl⟩, hvs⟩ := hA
            obtain ⟨g1, g2, g3, xs, r1, r2, r3, r4⟩ := h.mem.obs k _ hk
            have hpre : ∀ b, okS ok0 w0 w st.ob en b → b < w.heap.size ∧ v.ownBlock ≠ some b := fun b hb => ⟨hb.2.1, fun e => hb.2.2.1 k _ hk (by rw [r2, ← hv]; exact e)⟩
            have hgr : ∀ b, v.ownBlock = some b → ¬ G.has b := by
              intro b hb hh
              rcases g2 b (by rw [r2, ← hv]; exact hb) with h1 | h1
              · have := G.lt _ _ h.mem.gr hh; omega
              · exact (h.mem.xok b h1).2 hh
            have hR := toFL_rel _ _ _ hrest hvs
            rw [← hv] at r1
            simp only [Option.some.injEq, Prod.mk.injEq] at hm
            obtain ⟨rfl, rfl, rfl⟩ := hm
            have hcall := hp w (okS ok0 w0 w st.ob en) v xs y vs h.mem.ground hpre hgr r1 r3 r4 hy hR
            rw [← hmap] at hcall
            refine CallY.wp (run_call_fn hop hc (func g hf)) hcall ?_
            rintro u w' ⟨xs', q1, q2, q3, q4, hx⟩
            obtain ⟨A', m', cc', hsl'⟩ := ownsRow_slice q1
            refine hn _ _ ⟨_, Inv.fresh2 h o.dst (.lsl st.nx) (.row sz e es') (some k) (opt u.ownBlock) u u ⟨hx.os, hx.tape, hx.output, hx.size, fun b hb hne => hx.block b hb fun e => hne k rfl (by rw [r2, ← hv]; exact e), hx.dr⟩ (by rintro j e; cases e; exact ⟨_, hk⟩) ?_ ?_ trivial ?_ (by simp [AV.bd])⟩
            · intro b hb
              rcases q2 b hb with h1 | h1
              · exact .inr ⟨k, rfl, by rw [r2, ← hv]; exact h1⟩
              · exact .inl h1
            · intro hcar hnew
              refine ⟨xs', by simpa [Env.with] using q1, by simp [Env.with], FRelL.mono (fun b hb => ?_) _ _ q3, q4⟩
              rcases hb.1 with h1 | h1 | h1
              · exact hcar.oks b h1
              · exact hnew b (.inr ⟨k, rfl, by rw [r2, ← hv]; exact h1⟩) (Nat.lt_of_lt_of_le (r1.lt b h1).2 hx.size) hb.2
              · exact hnew b (.inl h1.1) h1.2 hb.2
            · intro ok'
              simp only [ARel]
              exact ⟨by simp [Env.with], A', m', cc', hsl'⟩
          · cases hm
        · cases hm
      · cases hm
    · cases hm
  · cases hm
/-! ### Yielders -/
theorem YPre.of_inv (h : Inv G X ok0 w0 tv st a w en) {k : Nat} {Y : Yd} {i : Nat} (hk : getOb k st.ob = some (.yd Y i)) : ∃ τ, YPre G Y i w (en.blk k) τ (okS ok0 w0 w st.ob en) ∧ ∀ b, τ b → okS ok0 w0 w st.ob en b := by
  obtain ⟨g1, g2, g3, τ, h1, h2, h3⟩ := h.mem.obs k _ hk
  refine ⟨τ, ⟨h1, h.mem.ground, fun b hb => ⟨hb.2.1, hb.2.2.1 k _ hk⟩, fun b hb => ⟨h3 b hb, fun hh => ?_⟩, fun b hb => ⟨(h2 b hb).2.1, (h2 b hb).2.2.1 k _ hk⟩⟩, h2⟩
  rcases g2 b hb with h4 | h4
  · have := G.lt _ _ h.mem.gr hh; omega
  · exact (h.mem.xok b h4).2 hh
/-- Behind a call that has turned a yielder's blocks alone. -/
theorem Inv.yielded (h : Inv G X ok0 w0 tv st a w en) {k : Nat} {Y : Yd} {i i' : Nat} (hk : getOb k st.ob = some (.yd Y i)) {τ : Nat → Prop} (hτ : ∀ b, τ b → okS ok0 w0 w st.ob en b)
    (hp : YPost G Y i' w (en.blk k) τ (okS ok0 w0 w st.ob en) w') (d : Option Tmp) {r : FV} {u : Value} (hr : FRel w' (fun _ => False) r u) :
    ∃ en', Inv G X ok0 w0 tv (st.fresh d (.f r) (.yd Y i') (some k)) (a.put d u) w' en' := by
  obtain ⟨φ', τ', p1, p2, p3, hx⟩ := hp
  refine ⟨_, Inv.fresh2 h d (.f r) (.yd Y i') (some k) φ' undef u ⟨hx.os, hx.tape, hx.output, hx.size, fun b hb hne => hx.block b hb (hne k rfl), hx.dr⟩ (by rintro j e; cases e; exact ⟨_, hk⟩)
    (fun b hb => (p2 b hb).1.elim (fun e => .inr ⟨k, rfl, e⟩) .inl) ?_ trivial ?_ (by simp [AV.bd])⟩
  · intro hcar hnew
    refine ⟨τ', by simpa [Env.with] using p1, fun b hb => ?_, fun b hb => (p2 b (by simpa [Env.with] using hb)).2⟩
    obtain ⟨h1, h2, h3⟩ := p3 b hb
    rcases h1 with h1 | h1 | h1 | h1
    · exact hcar.oks b (hτ b h1)
    · exact hcar.oks b h1
    · exact hnew b (.inr ⟨k, rfl, h1⟩) h2 h3
    · exact hnew b (.inl h1) h2 h3
  · intro ok'
    simp only [ARel]
    exact FRel.carry (Carry.same _ fun b hb => hb.elim) _ _ hr
theorem CallV.wp {lr : Option Nat} {o : Oper} {c : Call} {f : Operand} {R : Value → World → Prop} {next : Act → World → Prop} {Q : Exit → Act → World → Prop} (hop : o.op = .call c) (hc : c.callee = .value f)
    (h : CallV P (a.eval f) (c.args.toList.map a.eval).toArray w R) (hn : ∀ v w', R v w' → next (a.put o.dst v) w') : o.wpIn (FW lr) 0 P a w next Q := by
  refine OpY.wp (R := R) ?_ hn
  have hrun : (execOp a.eval o).run P w = (do let d ← Deferred.ofValue (a.eval f) (c.args.toList.map a.eval).toArray; invoke d.target d.args : Sem Next).run P w := by
    have : (c.args.toList.map a.eval).toArray = c.args.map a.eval := by
      apply Array.ext'; simp
    rw [this]
    simp only [execOp, hop, resolve, hc]
  unfold OpY
  unfold CallV at h
  rw [hrun]
  exact h
/-- A function's value, called: its function, called. -/
theorem CallV.of_fn {h : Nat} {fs cs : List Value} {vs : List Value} {R : Value → World → Prop} (hc : CallY P h (fs ++ vs ++ cs).toArray w R) : CallV P (.func (.func h) fs.toArray cs.toArray) vs.toArray w R := by
  have hrun : (do let d ← Deferred.ofValue (.func (.func h) fs.toArray cs.toArray) vs.toArray; invoke d.target d.args : Sem Next).run P w = (callFunc h (fs ++ vs ++ cs).toArray).run P w := by
    simp only [Deferred.ofValue, Sem.run_bind, Sem.run_pure, Result.andThen, invoke]
    congr 2
    apply Array.ext'
    simp
  unfold CallV
  unfold CallY at hc
  rw [hrun]
  split at hc
  · rename_i e; rw [e]; exact hc
  · rename_i e; rw [e]; exact hc
  · exact hc.elim
/-- A closure over a yielder is a yielder. -/
def Yd.via (Y : Yd) (it : Nat → List FV) (h : Nat) (first caps : List FV) (fs cs : List Value) : Yd where
  u := .func (.func h) fs.toArray cs.toArray
  one := rfl
  it := it
  b := Y.b
  n := Y.n
  J i w φ τ := ∃ τ0 : Nat → Prop, Y.J i w φ τ0 ∧ (∀ b, τ0 b → τ b) ∧ FRelL w τ first fs ∧ FRelL w τ caps cs
  stab := by
    rintro i w w' φ τ ⟨τ0, h1, h2, h3, h4⟩ hr
    have hc : Carry w w' τ τ := ⟨fun _ h => h, fun b hb => hr.blk b (.inr hb), hr.os, hr.tape, hr.output, hr.size⟩
    exact ⟨τ0, Y.stab _ _ _ _ _ h1 ⟨hr.os, hr.tape, hr.output, hr.size, fun b hb => hr.blk b (hb.imp id (h2 b))⟩, h2, FRelL.carry hc _ _ h3, FRelL.carry hc _ _ h4⟩
theorem Yd.via_law {Y : Yd} {it : Nat → List FV} {h : Nat} {first caps : List FV} {fs cs : List Value} (hc : ∀ j, Y.alive j → CallsX P G h (first ++ it j ++ caps) Y j (.sc (.bool (Y.b j))) (j + 1)) :
    YLaw P G (Y.via it h first caps fs cs) := by
  rintro i w φ τ ok vs hal hp hv
  obtain ⟨τ0, h1, h2, h3, h4⟩ := hp.st
  have hok2 : ∀ b, (ok b ∨ τ b) → b < w.heap.size ∧ ¬ φ b := fun b hb => hb.elim (hp.okl b) (hp.rd b)
  have hcall := hc i hal w φ τ0 (fun b => ok b ∨ τ b) (fs ++ vs ++ cs) ⟨h1, hp.gr, hok2, hp.own, fun b hb => hp.rd b (h2 b hb)⟩
    (FRelL.append _ _ _ _ (FRelL.append _ _ _ _ (FRelL.mono (fun _ => .inr) _ _ h3) (FRelL.mono (fun _ => .inl) _ _ hv)) (FRelL.mono (fun _ => .inr) _ _ h4))
  have key : ∀ v w', (FRel w' (fun _ => False) (.sc (.bool (Y.b i))) v ∧ YPost G Y (i + 1) w φ τ0 (fun b => ok b ∨ τ b) w') → v = .bool (Y.b i) ∧ YPost G (Y.via it h first caps fs cs) (i + 1) w φ τ ok w' := by
    rintro v w' ⟨hv, φ', τ', p1, p2, p3, hx⟩
    refine ⟨by simpa [FRel] using hv, φ', fun b => τ' b ∨ τ b, ⟨τ', p1, fun _ => .inl, ?_, ?_⟩, p2, ?_, hx⟩
    · exact FRelL.carry ⟨fun _ => .inr, fun b hb => hx.block b (hp.rd b hb).1 (hp.rd b hb).2, hx.os, hx.tape, hx.output, hx.size⟩ _ _ h3
    · exact FRelL.carry ⟨fun _ => .inr, fun b hb => hx.block b (hp.rd b hb).1 (hp.rd b hb).2, hx.os, hx.tape, hx.output, hx.size⟩ _ _ h4
    · rintro b (hb | hb)
      · obtain ⟨q1, q2, q3⟩ := p3 b hb
        refine ⟨?_, q2, q3⟩
        rcases q1 with q1 | (q1 | q1) | q1 | q1
        · exact .inl (h2 b q1)
        · exact .inr (.inl q1)
        · exact .inl q1
        · exact .inr (.inr (.inl q1))
        · exact .inr (.inr (.inr q1))
      · obtain ⟨q1, q2⟩ := hp.rd b hb
        refine ⟨.inl hb, Nat.lt_of_lt_of_le q1 hx.size, fun hb' => ?_⟩
        rcases (p2 b hb').1 with q3 | q3
        · exact q2 q3
        · omega
  have := CallV.of_fn (vs := vs) hcall
  unfold CallV at this ⊢
  split at this
  · rename_i e
    simp only [Yd.via, e]
    exact key _ _ this
  · rename_i e
    simp only [Yd.via, e]
    refine this.mono ?_
    rintro e' w'' ⟨v, rfl, hr⟩
    exact ⟨v, rfl, key _ _ hr⟩
  · rename_i e
    simp only [Yd.via, e]
    refine RoundIn.mono this ?_
    rintro e' w'' ⟨v, rfl, hr⟩
    exact ⟨v, rfl, key _ _ hr⟩
  · exact this.elim
theorem FRelL.set_sc {ok : Nat → Prop} : ∀ (l : List FV) (vs : List Value) (n : Nat) (x : FV), FRelL w ok l vs → l[n]? = some x → ∃ v, vs[n]? = some v ∧ FRel w ok x v ∧ FRelL w ok (l.set n (.sc v)) vs
  | [], vs, n, x, h, hn => by simp at hn
  | y :: l, vs, 0, x, h, hn => by
    simp only [FRelL] at h
    obtain ⟨v, r, rfl, h1, h2⟩ := h
    simp at hn
    subst hn
    exact ⟨v, rfl, h1, by simp only [List.set_cons_zero, FRelL]; exact ⟨v, r, rfl, by simp [FRel], h2⟩⟩
  | y :: l, vs, n + 1, x, h, hn => by
    simp only [FRelL] at h
    obtain ⟨v, r, rfl, h1, h2⟩ := h
    obtain ⟨u, q1, q2, q3⟩ := FRelL.set_sc l r n x h2 (by simpa using hn)
    exact ⟨u, by simpa using q1, q2, by simp only [List.set_cons_succ, FRelL]; exact ⟨v, r, rfl, h1, q3⟩⟩
theorem ystep_sound {lr : Option Nat} {o : Oper} {hs hs' : List Hint} {p : Option Prop} {next : Act → World → Prop} {Q : Exit → Act → World → Prop} (h : Inv G X ok0 w0 tv st a w en) (hm : ystep P G st o hs = some (p, st', hs')) (hp : hold p)
    (hn : ∀ a' w', (∃ en', Inv G X ok0 w0 tv st' a' w' en') → next a' w') : o.wpIn (FW lr) 0 P a w next Q := by
  unfold ystep at hm
  split at hm
  · rename_i c hop
    split at hm
    · rename_i f as hc has
      have hargs : FRelL w (okS ok0 w0 w st.ob en) as (c.args.toList.map a.eval) := toFL_rel _ _ _ has (opL_rel (nx := st.nx) c.args.toList (fun x _ => h.opnd x)).1
      have func : ∀ g, st.opnd f = .f (.fn g [] []) → a.eval f = .func (.func g) #[] #[] := by
        intro g hg
        have := (h.opnd f).1
        rw [hg] at this
        simp only [ARel, FRel, FRelL] at this
        obtain ⟨fs, cs, e, rfl, rfl⟩ := this
        exact e
      split at hm
      · rename_i u k hs2 hf
        split at hm
        · rename_i Y i hk
          simp only [Option.some.injEq, Prod.mk.injEq] at hm
          obtain ⟨rfl, rfl, rfl⟩ := hm
          obtain ⟨rfl, hl, hal, rfl⟩ := hp
          obtain ⟨τ, hpre, hτ⟩ := YPre.of_inv h hk
          have hu : a.eval f = Y.u := by
            have := (h.opnd f).1
            rw [hf] at this
            simpa [ARel, FRel] using this
          refine CallV.wp hop hc (by rw [hu]; exact hl i w _ τ _ _ hal hpre hargs) ?_
          rintro v w' ⟨rfl, hpost⟩
          exact hn _ _ (Inv.yielded h hk hτ hpost o.dst (by simp [FRel]))
        · cases hm
      · rename_i g k i' r hs2 hf
        split at hm
        · rename_i Y i hk
          simp only [Option.some.injEq, Prod.mk.injEq] at hm
          obtain ⟨rfl, rfl, rfl⟩ := hm
          obtain ⟨τ, hpre, hτ⟩ := YPre.of_inv h hk
          refine CallY.wp (run_call_fn hop hc (func g hf)) (hp w _ τ _ _ hpre hargs) ?_
          rintro v w' ⟨hr, hpost⟩
          exact hn _ _ (Inv.yielded h hk hτ hpost o.dst hr)
        · cases hm
      · rename_i g k n it i' r hs2 hf
        split at hm
        · rename_i Y i hh first caps hk hc2
          simp only [Option.some.injEq, Prod.mk.injEq] at hm
          obtain ⟨rfl, rfl, rfl⟩ := hm
          obtain ⟨hp1, hp2⟩ := hp
          obtain ⟨τ, hpre, hτ⟩ := YPre.of_inv h hk
          obtain ⟨v0, q1, q2, q3⟩ := FRelL.set_sc as _ n _ hargs hc2
          simp only [FRel] at q2
          obtain ⟨fs, cs, rfl, q4, q5⟩ := q2
          have hcall := hp1 (Y.via it hh first caps fs cs) rfl rfl rfl (Yd.via_law hp2)
          refine CallY.wp (run_call_fn hop hc (func g hf)) (hcall w (en.blk k) (okS ok0 w0 w st.ob en) (okS ok0 w0 w st.ob en) _ ⟨⟨τ, hpre.st, hτ, q4, q5⟩, hpre.gr, hpre.okl, hpre.own, hpre.okl⟩ q3) ?_
          rintro v w' ⟨hr, φ', τ', ⟨τ0, r1, r2, _⟩, p2, p3, hx⟩
          exact hn _ _ (Inv.yielded h hk (fun _ hb => hb) ⟨φ', τ0, r1, p2, fun b hb => p3 b (r2 b hb), hx⟩ o.dst hr)
        · cases hm
      · cases hm
    · cases hm
  · cases hm
end
end Go.Sx

/-
  Proved: what some functions of the program answer, or a law of the evaluator that shows it, one theorem each; its conditions are the hypotheses that stand ahead of it.
-/
import Derived.Test.YtdgodofdnaligaaDoorSxG
import Derived.Maps.AppendAt
import Derived.Laws.MakeOwn
import Derived.Laws.OwnMore
import Derived.Great.BuildSlice
set_option linter.unusedVariables false
set_option linter.unusedSimpArgs false
namespace Go.Sx
open Go.RowKit
/-- n pieces of z cells. -/
def chunk (z : Nat) : Nat → List FV → List (List FV)
  | 0, _ => []
  | n + 1, l => l.take z :: chunk z n (l.drop z)
def zcells (z : Value) (m : Nat) : List FV := (List.range m).map fun i => fV1 (z.cells[i % z.cells.size]!)
abbrev MV := Option (Option Prop × St × List Hint)
/-- A new object, and what names it in the slot d; the object 'kill' is no more. -/
def St.fresh (st : St) (d : Option Tmp) (x : AV) (o : Ob) (kill : Option Nat) : St :=
  { sl := (st.put d x).sl, ob := (st.nx, o) :: (match kill with | some k => delOb k st.ob | none => st.ob), nx := st.nx + 1, kp := (st.put d x).kp, nd := st.nd }
def srcE (st : St) : AV → Option (Nat × List (List FV))
  | .f (.sl sz es) => some (sz, es)
  | .lsl k => match getOb k st.ob with
    | some (.row sz _ es) => some (sz, es)
    | _ => none
  | _ => none
def dstE (st : St) (z e : Nat) : AV → Option (Option Nat × List (List FV))
  | .f .nils => some (none, [])
  | .lsl k => match getOb k st.ob with
    | some (.row sz e' es) => if sz == z && e' == e then some (some k, es) else none
    | _ => none
  | _ => none
def oneF (es : List (List FV)) : Prop := ∀ x ∈ es.flatten, x.one = true
def isAppend (c : Call) : Bool := match c.callee with
  | .builtin .append => true
  | _ => false
def isClear (c : Call) : Bool := match c.callee with
  | .builtin .clear => true
  | _ => false
/-- Operations that make or write memory. -/
def mstep (P : Program) (G : Gr) (st : St) (o : Oper) (hs : List Hint) : MV :=
  match o.op with
  | .alloc t => match zeroP P t with
    | some z => some (none, st.fresh o.dst (.loc st.nx 0) (.box (z.map .f)) none, hs)
    | none => none
  | .box _ x => match hs with
    | .ones :: hs => some (some ((st.opnd x).one = true), st.fresh o.dst (.loc st.nx 0) (.box [st.opnd x]) none, hs)
    | hs => (match cellsAV (st.opnd x) with
      | some cs => some (none, st.fresh o.dst (.loc st.nx 0) (.box cs) none, hs)
      | none => none)
  | .store t a x => match o.dst with
    | some _ => none
    | none => match hs with
    | .ones :: hs' => (match st.opnd a, sizeP P t with
      | .loc k off, some n => match getOb k st.ob with
        | some (.box cs) => match putAt cs off [st.opnd x] with
          | some cs' => if n == 1 then some (some ((st.opnd x).one = true), { st with ob := setOb k (.box cs') st.ob }, hs') else none
          | none => none
        | _ => none
      | _, _ => none)
    | hs => (match st.opnd a, cellsAV (st.opnd x), sizeP P t with
      | .loc k off, some xs, some n => match getOb k st.ob with
        | some (.box cs) => match putAt cs off xs with
          | some cs' => if oneL xs && xs.length == n then some (none, { st with ob := setOb k (.box cs') st.ob }, hs) else none
          | none => none
        | _ => none
      | .el k sz i 0, some xs, some n => match getOb k st.ob, toFL xs with
        | some (.row sz' e es), some fs => if oneL xs && xs.length == n && n == sz && sz == sz' then some (some (i < es.length), { st with ob := setOb k (.row sz' e (es.set i fs)) st.ob }, hs) else none
        | _, _ => none
      | _, _, _ => none)
  | .buildSlice t n ps => match elemP P t with
    | none => none
    | some e => match P.info? e with
      | none => none
      | some ie => match ie.zero with
        | none => none
        | some zv => if decide (n * ie.size ≤ 2 ^ 24) && decide (n ≤ maxLen) then
            (match fillP (fun i => some (i * ie.size, ie.size)) st ps.toList ((zcells zv (n * ie.size)).map .f) with
            | some cs => (match toFL cs with
              | some fs => if fs.length == n * ie.size then some (none, st.fresh o.dst (.lsl st.nx) (.row ie.size e (chunk ie.size n fs)) none, hs) else none
              | none => none)
            | none => none)
          else none
  | .makeSlice t l c => match elemP P t with
    | none => none
    | some e => match P.info? e with
      | none => none
      | some ie => match ie.zero with
        | none => none
        | some zv => match st.opnd l, st.opnd c with
          | .f (.sc (.int _ n)), .f (.sc (.int _ m)) => if zv.cells.size == ie.size then
              some (some (n = m ∧ 0 ≤ n ∧ ie.bytes * n.toNat ≤ 281474976710656 ∧ n.toNat ≤ maxLen), st.fresh o.dst (.lsl st.nx) (.row ie.size e (List.replicate n.toNat (zv.cells.toList.map fV1))) none, hs)
            else none
          | _, _ => none
  | .call c => match c.args.toList, c.argTypes.toList with
    | [s, x], [t, t'] => if t == t' && isAppend c then
        (match elemP P t with
        | none => none
        | some e => match P.info? e with
          | none => none
          | some ie => match ie.zero with
            | none => none
            | some zv => match dstE st ie.size e (st.opnd s), srcE st (st.opnd x) with
              | some (kill, es), some (sz, fs) => if sz == ie.size && zv.cells.size == ie.size && decide (0 < ie.size) then
                  some (some (oneF fs ∧ es.length + fs.length ≤ maxLen ∧ (es.length + fs.length) * ie.bytes ≤ 140737488355328 ∧ G.strict = false), st.fresh o.dst (.lsl st.nx) (.row ie.size e (es ++ fs)) kill, hs)
                else none
              | _, _ => none)
      else none
    | [x], [t] => if isClear c then
        (match st.opnd x, elemP P t with
        | .lvw k sz o' n, some e => (match P.info? e, getOb k st.ob with
          | some ie, some (.row sz' e' es) => (match ie.zero with
            | some zv => if zv.cells.size == sz && sz == sz' then
                some (some (o' + n ≤ es.length ∧ 0 < n ∧ oneF [zv.cells.toList.map fV1]), ({ st with ob := setOb k (.row sz' e' (es.take o' ++ List.replicate n (zv.cells.toList.map fV1) ++ es.drop (o' + n))) st.ob } : St).put o.dst (.f (.tup [])), hs)
              else none
            | none => none)
          | _, _ => none)
        | _, _ => none)
      else none
    | _, _ => none
  | .range t x => match st.opnd x, strTy P t with
    | .f (.sc (.string s)), true => some (none, st.fresh o.dst (.loc st.nx 0) (.iter s 0) none, hs)
    | _, _ => none
  | .next x true => match st.opnd x, hs with
    | .loc k 0, .dec d :: hs => (match getOb k st.ob with
      | some (.iter s pos) => (match d with
        | true => some (some (pos < s.size), ({ st with ob := setOb k (.iter s (pos + (Utf8.decode s pos).2)) st.ob } : St).put o.dst (.f (.tup [.sc (.bool true), .sc (.int .i64 pos), .sc (.int .i32 (Utf8.decode s pos).1)])), hs)
        | false => some (some (¬ pos < s.size), st.put o.dst (.f (.tup [.sc (.bool false)])), hs))
      | _ => none)
    | _, _ => none
  | .slice t x lo hi none => match st.opnd x, lo, hi, hs with
    | .lsl k, none, some y, .own :: hs => (match getOb k st.ob, st.opnd y, elemP P t with
      | some (.row sz e es), .f (.sc (.int _ n)), some e' => (match sizeP P e' with
        | some z => if z == sz && e' == e then some (some (0 ≤ n ∧ n.toNat ≤ es.length), st.fresh o.dst (.lsl st.nx) (.row sz e (es.take n.toNat)) (some k), hs) else none
        | none => none)
      | _, _, _ => none)
    | _, _, _, _ => none
  | _ => none
/-- Calls and pieces that are memory's by their hints. -/
def wstep (P : Program) (G : Gr) (st : St) (o : Oper) (hs : List Hint) : MV :=
  match o.op with
  | .call c => match c.callee with
    | .value f => match st.opnd f, hs with
      | .f (.fn g [] []), .callO e sz es :: hs => (match toFL (opL st c.args.toList) with
        | some as => some (some (CallsO P G g as e sz es), st.fresh o.dst (.lsl st.nx) (.row sz e es) none, hs)
        | none => none)
      | .f (.fn g [] []), .callW es' r :: hs => (match opL st c.args.toList with
        | .lsl k :: rest => (match getOb k st.ob, toFL rest with
          | some (.row sz e es), some rest => (match r with
            | none => some (some (CallsW P G g e sz es rest es' none), st.fresh o.dst (.lsl st.nx) (.row sz e es') (some k), hs)
            | some r => some (some (CallsW P G g e sz es rest es' (some r)), ({ st with ob := setOb k (.row sz e es') st.ob } : St).put o.dst (.f r), hs))
          | _, _ => none)
        | .f x :: .lsl k :: rest => (match getOb k st.ob, toFL rest, r with
          | some (.row sz e es), some rest, none => some (some (CallsU P G g e sz es x rest es'), st.fresh o.dst (.lsl st.nx) (.row sz e es') (some k), hs)
          | _, _, _ => none)
        | _ => none)
      | _, _ => none
    | _ => none
  | _ => none
def isW : Op → List Hint → Bool
  | .call c, .callO _ _ _ :: _ => match c.callee with
    | .value _ => true
    | _ => false
  | .call c, .callW _ _ :: _ => match c.callee with
    | .value _ => true
    | _ => false
  | _, _ => false
/-- Calls of yielders, and of what calls them. -/
def ystep (P : Program) (G : Gr) (st : St) (o : Oper) (hs : List Hint) : MV :=
  match o.op with
  | .call c => match c.callee, toFL (opL st c.args.toList) with
    | .value f, some as => match st.opnd f, hs with
      | .f (.sc u), .yield k :: hs => (match getOb k st.ob with
        | some (.yd Y i) => some (some (u = Y.u ∧ YLaw P G Y ∧ Y.alive i ∧ as = Y.it i), st.fresh o.dst (.f (.sc (.bool (Y.b i)))) (.yd Y (i + 1)) (some k), hs)
        | _ => none)
      | .f (.fn g [] []), .callX k i' r :: hs => (match getOb k st.ob with
        | some (.yd Y i) => some (some (CallsX P G g as Y i r i'), st.fresh o.dst (.f r) (.yd Y i') (some k), hs)
        | _ => none)
      | .f (.fn g [] []), .callC k n it i' r :: hs => (match getOb k st.ob, as[n]? with
        | some (.yd Y i), some (.fn h first caps) => some (some ((∀ Y' : Yd, Y'.it = it → Y'.b = Y.b → Y'.n = Y.n → YLaw P G Y' → CallsX P G g (as.set n (.sc Y'.u)) Y' i r i') ∧
            (∀ j, Y.alive j → CallsX P G h (first ++ it j ++ caps) Y j (.sc (.bool (Y.b j))) (j + 1))), st.fresh o.dst (.f r) (.yd Y i') (some k), hs)
        | _, _ => none)
      | _, _ => none
    | _, _ => none
  | _ => none
def isY : Op → List Hint → Bool
  | .call _, .yield _ :: _ => true
  | .call _, .callX _ _ _ :: _ => true
  | .call _, .callC _ _ _ _ _ :: _ => true
  | _, _ => false
def isOwn : Op → List Hint → Bool
  | .slice _ _ none (some _) none, .own :: _ => true
  | _, _ => false
def isMem : Op → Bool
  | .alloc _ => true
  | .box _ _ => true
  | .store _ _ _ => true
  | .buildSlice _ _ _ => true
  | .makeSlice _ _ _ => true
  | .range _ _ => true
  | .next _ _ => true
  | .call c => isAppend c || isClear c
  | _ => false
/-! ### Objects -/
theorem getOb_setOb (k : Nat) (o : Ob) : ∀ (l : List (Nat × Ob)) (j : Nat) (p : Ob), getOb j (setOb k o l) = some p → (j = k ∧ p = o) ∨ (j ≠ k ∧ getOb j l = some p)
  | [], j, p, h => by simp [setOb, getOb] at h
  | (i, q) :: r, j, p, h => by
    simp only [setOb] at h
    split at h
    · rename_i hik
      subst hik
      simp only [getOb] at h ⊢
      split at h
      · rename_i hij; simp only [Option.some.injEq] at h; exact .inl ⟨hij.symm, h.symm⟩
      · rename_i hij; exact .inr ⟨fun e => hij e.symm, by rw [if_neg hij]; exact h⟩
    · rename_i hik
      simp only [getOb] at h ⊢
      split at h
      · rename_i hij; subst hij; exact .inr ⟨hik, by simpa using h⟩
      · rename_i hij
        rcases getOb_setOb k o r j p h with h | h
        · exact .inl h
        · exact .inr ⟨h.1, by rw [if_neg hij]; exact h.2⟩
theorem getOb_delOb (k : Nat) : ∀ (l : List (Nat × Ob)) (j : Nat) (p : Ob), getOb j (delOb k l) = some p → j ≠ k ∧ getOb j l = some p
  | [], j, p, h => by simp [delOb, getOb] at h
  | (i, q) :: r, j, p, h => by
    simp only [delOb] at h
    split at h
    · rename_i hik
      subst hik
      obtain ⟨h1, h2⟩ := getOb_delOb i r j p h
      exact ⟨h1, by simp only [getOb]; rw [if_neg (fun e => h1 e.symm)]; exact h2⟩
    · rename_i hik
      simp only [getOb] at h ⊢
      split at h
      · rename_i hij; subst hij; exact ⟨hik, by simpa using h⟩
      · rename_i hij
        obtain ⟨h1, h2⟩ := getOb_delOb k r j p h
        exact ⟨h1, by rw [if_neg hij]; exact h2⟩
section
variable {P : Program} {G : Gr} {X : Nat → Prop} {ok0 : Nat → Prop} {w0 w w' : World} {tv : Nat → Value} {en en' : Env} {st : St} {ob ob' : List (Nat × Ob)} {nx nx' : Nat} {a : Act}
/-- The world has turned at one object at most, and one object is new or other. -/
structure Turned (G : Gr) (w w' : World) (en : Env) (touched : Option Nat) : Prop where
  os : w'.os = w.os
  tape : w'.tape = w.tape
  out : w'.output = w.output
  size : w.heap.size ≤ w'.heap.size
  same : ∀ b, b < w.heap.size → (∀ k, touched = some k → ¬ en.blk k b) → w'.heap[b]? = w.heap[b]?
  dr : G.strict = true → w.drawn ≤ w'.drawn
theorem Mem.turn (hm : Mem G X ok0 w0 ob nx w en) (touched : Option Nat) (kk : Nat) (o' : Ob) (ht : Turned G w w' en touched)
    (hlive : ∀ k, touched = some k → ∃ o, getOb k ob = some o) (hen : EnvUpto nx en en') (hnx : nx ≤ nx') (hkk : kk < nx')
    (hob : ∀ k o, getOb k ob' = some o → (k = kk ∧ o = o') ∨ (k ≠ kk ∧ getOb k ob = some o ∧ touched ≠ some k))
    (hB : ∀ b, en'.blk kk b → w.heap.size ≤ b ∨ ∃ k, touched = some k ∧ en.blk k b)
    (hrel : Carry w w' (okS ok0 w0 w ob en) (okS ok0 w0 w' ob' en') → ObRel 0 w' (okS ok0 w0 w' ob' en') en' kk o')
    (hbd : o'.bd nx') (hds : en'.ds = en.ds := by rfl) : Mem G X ok0 w0 ob' nx' w' en' ∧ Carry w w' (okS ok0 w0 w ob en) (okS ok0 w0 w' ob' en') ∧ ∀ D, en.ds D → w'.heap[D]? = w.heap[D]? := by
  have hc : Carry w w' (okS ok0 w0 w ob en) (okS ok0 w0 w' ob' en') := by
    refine ⟨fun b hb => ⟨hb.1, Nat.lt_of_lt_of_le hb.2.1 ht.size, fun k o ho => ?_, by rw [hds]; exact hb.2.2.2⟩, fun b hb => ?_, ht.os, ht.tape, ht.out, ht.size⟩
    · rcases hob k o ho with ⟨rfl, rfl⟩ | ⟨h1, h2, h3⟩
      · intro e
        rcases hB b e with h | ⟨j, hj, hjb⟩
        · have := hb.2.1; omega
        · obtain ⟨p, hp⟩ := hlive j hj
          exact hb.2.2.1 j p hp hjb
      · rw [(hen k (hm.obs k o h2).1).1]
        exact hb.2.2.1 k o h2
    · exact ht.same b hb.2.1 (fun k hk e => by obtain ⟨p, hp⟩ := hlive k hk; exact hb.2.2.1 k p hp e)
  have hblk : ∀ k o, getOb k ob = some o → touched ≠ some k → ∀ b, en.blk k b → w'.heap[b]? = w.heap[b]? := by
    intro k o ho hne b hb
    refine ht.same b ((hm.obs k o ho).2.2.2.lt hb) fun j hj e => ?_
    obtain ⟨p, hp⟩ := hlive j hj
    have hjk : k ≠ j := fun e => hne (by rw [e]; exact hj)
    exact hm.inj k j o p ho hp hjk b hb e
  refine ⟨⟨hm.gr, hm.okl, hm.xok, ⟨ht.os.trans hm.ext.os, ht.tape.trans hm.ext.tape, ht.out.trans hm.ext.output, Nat.le_trans hm.ext.size ht.size, fun b hb hX => ?_, fun hs => Nat.le_trans (hm.ext.dr hs) (ht.dr hs)⟩, fun k o ho => ?_, ?_, fun D hD => ?_⟩, hc, fun D hD => ht.same D (hm.dsl D hD).2.1 fun k hk e => by obtain ⟨p, hp⟩ := hlive k hk; exact (hm.dsl D hD).2.2 k p hp e⟩
  · rw [ht.same b (Nat.lt_of_lt_of_le hb hm.ext.size) fun k hk e => by
      obtain ⟨p, hp⟩ := hlive k hk
      rcases (hm.obs k p hp).2.1 b e with h | h
      · omega
      · exact hX h]
    exact hm.ext.block b hb hX
  · rcases hob k o ho with ⟨rfl, rfl⟩ | ⟨h1, h2, h3⟩
    · refine ⟨hkk, fun b hb => ?_, hbd, hrel hc⟩
      rcases hB b hb with h | ⟨j, hj, hjb⟩
      · exact .inl (Nat.le_trans hm.ext.size h)
      · obtain ⟨p, hp⟩ := hlive j hj
        exact (hm.obs j p hp).2.1 b hjb
    · obtain ⟨g1, g2, g3, g4⟩ := hm.obs k o h2
      refine ⟨Nat.lt_of_lt_of_le g1 hnx, fun b hb => g2 b (by rw [← (hen k g1).1]; exact hb), ?_, g4.carry hc hen g1 g3 (hblk k o h2 h3)⟩
      cases o with
      | box cs => exact bdL_mono hnx _ g3
      | row _ _ _ => trivial
      | iter _ _ => trivial
      | yd Y i => trivial
  · have key : ∀ j o, getOb j ob = some o → touched ≠ some j → ∀ b, en'.blk kk b → ¬ en.blk j b := by
      intro j o hj hne b hb e
      rcases hB b hb with h | ⟨i, hi, hib⟩
      · have := (hm.obs j o hj).2.2.2.lt (b := b) e
        omega
      · obtain ⟨p, hp⟩ := hlive i hi
        have hij : i ≠ j := fun e => hne (by rw [← e]; exact hi)
        exact hm.inj i j p o hp hj hij b hib e
    intro j k o p hj hk hne b hnn
    rcases hob j o hj with ⟨rfl, rfl⟩ | ⟨h1, h2, h3⟩ <;> rcases hob k p hk with ⟨rfl, rfl⟩ | ⟨g1, g2, g3⟩
    · exact absurd rfl hne
    · rw [(hen k (hm.obs k p g2).1).1]
      exact key k p g2 g3 b hnn
    · rw [(hen j (hm.obs j o h2).1).1] at hnn
      intro e
      exact key j o h2 h3 b e hnn
    · rw [(hen j (hm.obs j o h2).1).1] at hnn
      rw [(hen k (hm.obs k p g2).1).1]
      exact hm.inj j k o p h2 g2 hne b hnn
  · rw [hds] at hD
    obtain ⟨d1, d2, d3⟩ := hm.dsl D hD
    refine ⟨d1, Nat.lt_of_lt_of_le d2 ht.size, fun k o ho e => ?_⟩
    rcases hob k o ho with ⟨rfl, rfl⟩ | ⟨h1, h2, h3⟩
    · rcases hB D e with h | ⟨j, hj, hjb⟩
      · omega
      · obtain ⟨p, hp⟩ := hlive j hj
        exact d3 j p hp hjb
    · rw [(hen k (hm.obs k o h2).1).1] at e
      exact d3 k o h2 e
def Env.with (en : Env) (n : Nat) (B : Nat → Prop) (V : Value) : Env := { ds := en.ds, blk := fun j => if j = n then B else en.blk j, val := fun j => if j = n then V else en.val j }
theorem Env.with_upto (en : Env) (n : Nat) (B : Nat → Prop) (V : Value) : EnvUpto n en (en.with n B V) := fun k hk => by
  simp [Env.with, Nat.ne_of_lt hk]
/-- A new object. -/
theorem Inv.fresh2 (h : Inv G X ok0 w0 tv st a w en) (d : Option Tmp) (x : AV) (o' : Ob) (kill : Option Nat) (B : Nat → Prop) (V u : Value) (ht : Turned G w w' en kill)
    (hlive : ∀ k, kill = some k → ∃ o, getOb k st.ob = some o)
    (hB : ∀ b, B b → w.heap.size ≤ b ∨ ∃ k, kill = some k ∧ en.blk k b)
    (hrel : Carry w w' (okS ok0 w0 w st.ob en) (okS ok0 w0 w' (st.fresh d x o' kill).ob (en.with st.nx B V)) →
      (∀ b, (w.heap.size ≤ b ∨ ∃ k, kill = some k ∧ en.blk k b) → b < w'.heap.size → ¬ B b → okS ok0 w0 w' (st.fresh d x o' kill).ob (en.with st.nx B V) b) → ObRel 0 w' (okS ok0 w0 w' (st.fresh d x o' kill).ob (en.with st.nx B V)) (en.with st.nx B V) st.nx o')
    (hbd : o'.bd (st.nx + 1)) (hx : ∀ ok', ARel w' ok' (en.with st.nx B V) x u) (hxb : x.bd (st.nx + 1)) :
    Inv G X ok0 w0 tv (st.fresh d x o' kill) (a.put d u) w' (en.with st.nx B V) := by
  have hob : ∀ k o, getOb k (st.fresh d x o' kill).ob = some o → (k = st.nx ∧ o = o') ∨ (k ≠ st.nx ∧ getOb k st.ob = some o ∧ kill ≠ some k) := by
    intro k o hk
    simp only [St.fresh, getOb] at hk
    split at hk
    · rename_i e; simp only [Option.some.injEq] at hk; exact .inl ⟨e.symm, hk.symm⟩
    · rename_i e
      refine .inr ⟨fun e' => e e'.symm, ?_⟩
      cases kill with
      | none => exact ⟨hk, by simp⟩
      | some q =>
        obtain ⟨h1, h2⟩ := getOb_delOb q st.ob k o hk
        exact ⟨h2, fun e' => h1 (by simpa using e'.symm)⟩
  have hnew : ∀ b, (w.heap.size ≤ b ∨ ∃ k, kill = some k ∧ en.blk k b) → b < w'.heap.size → ¬ B b → okS ok0 w0 w' (st.fresh d x o' kill).ob (en.with st.nx B V) b := by
    intro b h1 h2 h3
    have h4 : ok0 b ∨ w0.heap.size ≤ b := by
      rcases h1 with h1 | ⟨k, hk, hb⟩
      · exact .inr (Nat.le_trans h.mem.ext.size h1)
      · obtain ⟨p, hp⟩ := hlive k hk
        rcases (h.mem.obs k p hp).2.1 b hb with h5 | h5
        · exact .inr h5
        · exact .inl (h.mem.xok b h5).1
    refine ⟨h4, h2, fun k o hk => ?_, fun hD => ?_⟩
    case refine_2 =>
      obtain ⟨d1, d2, d3⟩ := h.mem.dsl b hD
      rcases h1 with h1 | ⟨j, hj, hb⟩
      · omega
      · obtain ⟨p, hp⟩ := hlive j hj
        exact d3 j p hp hb
    rcases hob k o hk with ⟨rfl, _⟩ | ⟨g1, g2, g3⟩
    · simpa [Env.with] using h3
    · intro e
      have e' : en.blk k b := by simpa [Env.with, g1] using e
      rcases h1 with h1 | ⟨j, hj, hb⟩
      · have := (h.mem.obs k o g2).2.2.2.lt e'
        omega
      · obtain ⟨p, hp⟩ := hlive j hj
        have hkj : k ≠ j := fun e => g3 (by rw [e]; exact hj)
        exact h.mem.inj k j o p g2 hp hkj b e' hb
  obtain ⟨hm, hc, hd⟩ := Mem.turn (ob' := (st.fresh d x o' kill).ob) (nx' := st.nx + 1) (en' := en.with st.nx B V) h.mem kill st.nx o' ht hlive (Env.with_upto _ _ _ _) (Nat.le_succ _) (Nat.lt_succ_self _)
    hob (by intro b hb; exact hB b (by simpa [Env.with] using hb)) (fun hc => hrel hc hnew) hbd
  have h2 : Inv G X ok0 w0 tv { sl := st.sl, ob := (st.fresh d x o' kill).ob, nx := st.nx + 1, kp := st.kp, nd := st.nd } a w' (en.with st.nx B V) :=
    ⟨hm, h.defs.turn hd rfl, ARelL.carry hc (Env.with_upto _ _ _ _) _ _ h.bd h.slots, bdL_mono (Nat.le_succ _) _ h.bd, h.keep, h.nod⟩
  have := Inv.put h2 d (hx _) hxb
  cases d <;> exact this
/-- A new object. -/
theorem Inv.fresh (h : Inv G X ok0 w0 tv st a w en) (d : Option Tmp) (x : AV) (o' : Ob) (kill : Option Nat) (B : Nat → Prop) (V u : Value) (ht : Turned G w w' en kill)
    (hlive : ∀ k, kill = some k → ∃ o, getOb k st.ob = some o)
    (hB : ∀ b, B b → w.heap.size ≤ b ∨ ∃ k, kill = some k ∧ en.blk k b)
    (hrel : ∀ ok', Carry w w' (okS ok0 w0 w st.ob en) ok' → ObRel 0 w' ok' (en.with st.nx B V) st.nx o')
    (hbd : o'.bd (st.nx + 1)) (hx : ∀ ok', ARel w' ok' (en.with st.nx B V) x u) (hxb : x.bd (st.nx + 1)) :
    Inv G X ok0 w0 tv (st.fresh d x o' kill) (a.put d u) w' (en.with st.nx B V) := by
  obtain ⟨hm, hc, hd⟩ := Mem.turn (ob' := (st.fresh d x o' kill).ob) (nx' := st.nx + 1) (en' := en.with st.nx B V) h.mem kill st.nx o' ht hlive (Env.with_upto _ _ _ _) (Nat.le_succ _) (Nat.lt_succ_self _)
    (by
      intro k o hk
      simp only [St.fresh, getOb] at hk
      split at hk
      · rename_i e; simp only [Option.some.injEq] at hk; exact .inl ⟨e.symm, hk.symm⟩
      · rename_i e
        refine .inr ⟨fun e' => e e'.symm, ?_⟩
        cases kill with
        | none => exact ⟨hk, by simp⟩
        | some q =>
          obtain ⟨h1, h2⟩ := getOb_delOb q st.ob k o hk
          exact ⟨h2, fun e' => h1 (by simpa using e'.symm)⟩)
    (by intro b hb; exact hB b (by simpa [Env.with] using hb)) (hrel _) hbd
  have h2 : Inv G X ok0 w0 tv { sl := st.sl, ob := (st.fresh d x o' kill).ob, nx := st.nx + 1, kp := st.kp, nd := st.nd } a w' (en.with st.nx B V) :=
    ⟨hm, h.defs.turn hd rfl, ARelL.carry hc (Env.with_upto _ _ _ _) _ _ h.bd h.slots, bdL_mono (Nat.le_succ _) _ h.bd, h.keep, h.nod⟩
  have := Inv.put h2 d (hx _) hxb
  cases d <;> exact this
/-- An object turned in its place. -/
theorem Inv.inplace (h : Inv G X ok0 w0 tv st a w en) (k : Nat) (o o' : Ob) (hk : getOb k st.ob = some o) (ht : Turned G w w' en (some k))
    (hrel : ∀ ok', Carry w w' (okS ok0 w0 w st.ob en) ok' → ObRel 0 w' ok' en k o') (hbd : o'.bd st.nx) :
    Inv G X ok0 w0 tv { st with ob := setOb k o' st.ob } a w' en := by
  obtain ⟨hm, hc, hd⟩ := Mem.turn (ob' := setOb k o' st.ob) (nx' := st.nx) (en' := en) h.mem (some k) k o' ht (by rintro j hj; cases hj; exact ⟨o, hk⟩) (EnvUpto.refl _ _) (Nat.le_refl _) (h.mem.obs k o hk).1
    (by
      intro j p hj
      rcases getOb_setOb k o' st.ob j p hj with h | ⟨h1, h2⟩
      · exact .inl h
      · exact .inr ⟨h1, h2, fun e => h1 (by simpa using e.symm)⟩)
    (by intro b hb; exact .inr ⟨k, rfl, hb⟩) (hrel _) hbd
  exact ⟨hm, h.defs.turn hd rfl, ARelL.carry hc (EnvUpto.refl _ _) _ _ h.bd h.slots, h.bd, h.keep, h.nod⟩
theorem Turned.alloc (w : World) (en : Env) (o : Obj) : Turned G w (w.alloc o) en none := ⟨rfl, rfl, rfl, by simp, fun b hb _ => heap_alloc_old w o hb, fun _ => Nat.le_refl _⟩
end
end Go.Sx

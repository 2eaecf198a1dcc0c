/-
  Proved: what some functions of the program answer, or a law of the evaluator that shows it, one theorem each; its conditions are the hypotheses that stand ahead of it.
-/
import Derived.Test.YtdgodofdnaligaaDoorSxA
set_option linter.unusedVariables false
namespace Go.Sx
open Go.RowKit
def sizeP (P : Program) (t : TypeId) : Option Nat := (P.info? t).map (·.size)
def aggP (P : Program) (t : TypeId) : Option Bool :=
  match P.underlying t with
  | some (.struct _) => some true
  | some (.array _ _) => some true
  | some _ => some false
  | none => none
def zeroP (P : Program) (t : TypeId) : Option (List FV) :=
  match P.info? t with
  | some i => match i.zero with
    | some z => some (z.cells.toList.map fV1)
    | none => none
  | none => none
def elemP (P : Program) (t : TypeId) : Option TypeId :=
  match P.underlying t with
  | some (.slice e) => some e
  | _ => none
/-- A field's place, if it has cells. -/
def fieldP (P : Program) (t : TypeId) (f : Nat) : Option Nat :=
  match P.underlying t with
  | some (.struct fs) => match fs[f]? with
    | some d => match sizeP P d.type with
      | some (_ + 1) => some d.offset
      | _ => none
    | none => none
  | _ => none
def takeN {α : Type} : Nat → List α → Option (List α)
  | 0, _ => some []
  | n + 1, x :: l => match takeN n l with
    | some r => some (x :: r)
    | none => none
  | _ + 1, [] => none
def readAt {α : Type} (cs : List α) (off n : Nat) : Option (List α) := takeN n (cs.drop off)
def putAt {α : Type} : List α → Nat → List α → Option (List α)
  | cs, 0, [] => some cs
  | c :: cs, 0, x :: xs => match putAt cs 0 xs with
    | some r => some (x :: r)
    | none => none
  | c :: cs, n + 1, xs => match putAt cs n xs with
    | some r => some (c :: r)
    | none => none
  | [], _ + 1, _ => none
  | [], 0, _ :: _ => none
def loadF (P : Program) (t : TypeId) (cs : List FV) (off : Nat) : Option FV :=
  match aggP P t, sizeP P t with
  | some true, some n => match readAt cs off n with
    | some r => some (.agg r)
    | none => none
  | some false, _ => match readAt cs off 1 with
    | some [x] => some x
    | _ => none
  | _, _ => none
def loadA (P : Program) (t : TypeId) (cs : List AV) (off : Nat) : Option AV :=
  match aggP P t, sizeP P t with
  | some true, some n => match readAt cs off n with
    | some r => some (.agg r)
    | none => none
  | some false, _ => match readAt cs off 1 with
    | some [x] => some x
    | _ => none
  | _, _ => none
def loadP (P : Program) (st : St) (t : TypeId) : AV → Option AV
  | .f (.ptr cs off) => match loadF P t cs off with
    | some x => some (.f x)
    | none => none
  | .loc k off => match getOb k st.ob with
    | some (.box cs) => loadA P t cs off
    | _ => none
  | _ => none
/-- A scalar operand's value. -/
def scVals : List FV → Option (List Value)
  | [] => some []
  | .sc v :: l => (match scVals l with
    | some r => some (v :: r)
    | none => none)
  | _ :: _ => none
def scal : AV → Option Value
  | .f (.sc v) => some v
  | .f .nils => some (.slice none 0 0)
  | .f (.agg l) => (match scVals l with
    | some r => some (.agg r.toArray)
    | none => none)
  | _ => none
def scalAll (st : St) : List Operand → Bool
  | [] => true
  | x :: l => match scal (st.opnd x) with
    | some _ => scalAll st l
    | none => false
def isSelect : Op → Bool
  | .select _ _ => true
  | _ => false
/-- Operations on scalars alone: the model's own word. -/
def scalarP (P : Program) (st : St) (o : Oper) : Option AV :=
  if isSelect o.op then none else
  if scalAll st o.op.operands.toList then
    match pureRun P (execOp (fun x => (scal (st.opnd x)).getD undef) o) with
    | some (.value v) => some (.f (fV v))
    | _ => none
  else none
def ptrTy (P : Program) (t : TypeId) : Bool := match P.underlying t with
  | some (.pointer _) => true
  | _ => false
def fnTy (P : Program) (t : TypeId) : Bool := match P.underlying t with
  | some (.func _ _ _) => true
  | _ => false
/-- '==' of an address that is there and nil. -/
def nilEq (P : Program) (t : TypeId) : AV → AV → Bool
  | .f (.ptr _ _), .f (.sc (.pointer none)) => ptrTy P t
  | .loc _ _, .f (.sc (.pointer none)) => ptrTy P t
  | .f (.fn _ _ _), .f (.sc .nilFunc) => fnTy P t
  | .fn _ _ _, .f (.sc .nilFunc) => fnTy P t
  | _, _ => false
/-- '==' of two structs: the model's word, to be shown. -/
structure EqO (P : Program) (t : TypeId) (u v : Array Value) (b : Bool) : Prop where
  g : P.eqGuardType P.depth t = false
  e : ∀ w, (Op.equal t (.agg u) (.agg v)).run P w = .ok b w
/-- '==' of an address, nil or not, and nil; or of two structs. -/
def isnR (P : Program) (t : TypeId) (x y : AV) (hs : List Hint) : Option (Prop × Bool × List Hint) :=
  match hs with
  | .isn b :: hs => if ptrTy P t then (match x, y with
    | .f z, .f (.sc (.pointer none)) => some (IsNil z b, b, hs)
    | _, _ => none) else (match scal x, scal y with
    | some (.agg u), some (.agg v) => some (EqO P t u v b, b, hs)
    | _, _ => none)
  | _ => none
/-- The fields' places and sizes. -/
def placesL (P : Program) : List Field → Option (List (Nat × Nat))
  | [] => some []
  | f :: fs => match sizeP P f.type, placesL P fs with
    | some n, some r => some ((f.offset, n) :: r)
    | _, _ => none
def fillP (pl : Nat → Option (Nat × Nat)) (st : St) : List (Nat × Operand) → List AV → Option (List AV)
  | [], cs => some cs
  | (f, x) :: r, cs => match pl f, cellsAV (st.opnd x) with
    | some (d, n), some xs => if xs.length = n then
        (match putAt cs d xs with
        | some cs' => fillP pl st r cs'
        | none => none)
      else none
    | _, _ => none
/-- The same, where a value's being one cell is still to be shown. -/
def fillQ (pl : Nat → Option (Nat × Nat)) (st : St) : List (Nat × Operand) → List AV → Option (Prop × List AV)
  | [], cs => some (True, cs)
  | (f, x) :: r, cs => match pl f with
    | some (d, 1) => (match putAt cs d [st.opnd x] with
      | some cs' => (match fillQ pl st r cs' with
        | some (p, q) => some ((st.opnd x).one = true ∧ p, q)
        | none => none)
      | none => none)
    | some (d, n) => (match cellsAV (st.opnd x) with
      | some xs => if xs.length = n then
          (match putAt cs d xs with
          | some cs' => fillQ pl st r cs'
          | none => none)
        else none
      | none => none)
    | none => none
theorem cellsAV_one {x : AV} (h : x.one = true) : cellsAV x = some [x] := by
  unfold cellsAV
  split
  · simp [AV.one] at h
  · simp [AV.one, FV.one] at h
  · rw [if_pos h]
theorem fillQ_spec {pl : Nat → Option (Nat × Nat)} {st : St} : ∀ (ps : List (Nat × Operand)) (cs r : List AV) (p : Prop), fillQ pl st ps cs = some (p, r) → p → fillP pl st ps cs = some r
  | [], cs, r, p, h, hp => by
    simp only [fillQ, Option.some.injEq, Prod.mk.injEq] at h
    simp only [fillP, Option.some.injEq]; exact h.2
  | (f, x) :: ps, cs, r, p, h, hp => by
    simp only [fillQ] at h
    simp only [fillP]
    split at h
    · rename_i d hf
      split at h
      · rename_i cs' hput
        split at h
        · rename_i q r' hq
          simp only [Option.some.injEq, Prod.mk.injEq] at h
          obtain ⟨rfl, rfl⟩ := h
          rw [hf, cellsAV_one hp.1]
          simp only [List.length_singleton, if_true, hput]
          exact fillQ_spec ps cs' _ _ hq hp.2
        · cases h
      · cases h
    · rename_i d n hf1 hf
      split at h
      · rename_i xs hxs
        split at h
        · rename_i hl
          split at h
          · rename_i cs' hput
            rw [hf, hxs]
            simp only [hl, if_true, hput]
            exact fillQ_spec ps cs' _ _ h hp
          · cases h
        · cases h
      · cases h
    · cases h
abbrev PV := Option (Option Prop × AV × List Hint)
def andO : Option Prop → Prop → Prop
  | none, q => q
  | some p, q => p ∧ q
def okV (hs : List Hint) : Option AV → PV
  | some v => some (none, v, hs)
  | none => none
def callR (P : Program) (G : Gr) (f : AV) (as : List AV) (hs : List Hint) : PV :=
  match f, hs with
  | .f (.fn g first caps), .call r :: hs => match toFL as with
    | some as => some (some (CallsF P G g (first ++ as ++ caps) r), .f r, hs)
    | none => none
  | .fn g first caps, .call r :: hs => match toFL first, toFL as, toFL caps with
    | some first, some as, some caps => some (some (CallsF P G g (first ++ as ++ caps) r), .f r, hs)
    | _, _, _ => none
  | _, _ => none
def lenR (P : Program) (st : St) (ts : Array TypeId) : AV → Option AV
  | .f (.sl _ es) => if (elemP P (ts.getD 0 0)).isSome && ts.size == 1 then some (.f (.sc (.int .i64 es.length))) else none
  | .lsl k => match getOb k st.ob with
    | some (.row _ _ es) => if (elemP P (ts.getD 0 0)).isSome && ts.size == 1 then some (.f (.sc (.int .i64 es.length))) else none
    | _ => none
  | .lvw _ _ _ n => if (elemP P (ts.getD 0 0)).isSome && ts.size == 1 then some (.f (.sc (.int .i64 n))) else none
  | _ => none
def strTy (P : Program) (t : TypeId) : Bool := match P.underlying t with
  | some .string => true
  | _ => false
/-- A text's byte. -/
def strAt (s : ByteArray) (i : Nat) : Nat := (s.data.toList.getD i 0).toNat
/-- A bound of a slice expression: what stands there, or what is meant where nothing stands. -/
def boundP (st : St) (d : Option Int) : Option Operand → Option (Option Int)
  | none => some d
  | some x => match st.opnd x with
    | .f (.sc (.int _ n)) => some (some n)
    | _ => none
/-- Operations that turn nothing of the state. -/
def pvalR (P : Program) (G : Gr) (st : St) (o : Oper) (hs : List Hint) : PV :=
  match o.op with
  | .move x => some (none, st.opnd x, hs)
  | .assign x => some (none, st.opnd x, hs)
  | .pick c a b => match st.opnd c with
    | .f (.sc (.bool d)) => some (none, (if d then st.opnd a else st.opnd b), hs)
    | _ => none
  | .load t x => match st.opnd x with
    | .el k sz i d => match getOb k st.ob, hs with
      | some (.row sz' _ es), .el cs :: hs => if sz' == sz then (match loadF P t cs d with
        | some v => some (some (es[i]? = some cs), .f v, hs)
        | none => none) else none
      | _, _ => none
    | y => okV hs (loadP P st t y)
  | .nilCheck x => match hs with
    | .cast cs :: hs => (match st.opnd x with
      | .f y => some (some (y = .ptr cs 0), .f (.ptr cs 0), hs)
      | _ => none)
    | hs => (match st.opnd x with
      | .f (.ptr cs o) => some (none, .f (.ptr cs o), hs)
      | .loc k o => some (none, .loc k o, hs)
      | _ => none)
  | .fieldAddr t x f => match st.opnd x, fieldP P t f with
    | .f (.ptr cs o), some d => some (none, .f (.ptr cs (o + d)), hs)
    | .loc k o, some d => some (none, .loc k (o + d), hs)
    | _, _ => none
  | .indexAddr t x i => match st.opnd x, st.opnd i, elemP P t, hs with
    | .f (.sl sz es), .f (.sc (.int _ n)), some e, .el cs :: hs => match sizeP P e with
      | some z => some (some (z = sz ∧ 0 ≤ n ∧ es[n.toNat]? = some cs), .f (.ptr cs 0), hs)
      | none => none
    | .lsl k, .f (.sc (.int _ n)), some e, hs => match sizeP P e, getOb k st.ob with
      | some z, some (.row sz _ es) => if z == sz then some (some (0 ≤ n ∧ n.toNat < es.length), .el k z n.toNat 0, hs) else none
      | _, _ => none
    | .lvw k sz o m, .f (.sc (.int _ n)), some e, hs => match sizeP P e with
      | some z => if z == sz then some (some (0 ≤ n ∧ n.toNat < m), .el k z (o + n.toNat) 0, hs) else none
      | none => none
    | _, _, _, _ => none
  | .index t x i => match st.opnd x, st.opnd i, strTy P t with
    | .f (.sc (.string s)), .f (.sc (.int _ n)), true => some (some (0 ≤ n ∧ n.toNat < s.size), .f (.sc (.int .u8 (strAt s n.toNat))), hs)
    | _, _, _ => none
  | .slice t x lo hi none => match st.opnd x with
    | .f (.sl sz es) => match elemP P t, boundP st (some 0) lo, boundP st none hi with
      | some e, some (some l), some h => (match sizeP P e with
        | some z => some (some (z = sz ∧ 0 ≤ l ∧ l ≤ h.getD es.length ∧ h.getD es.length ≤ es.length), .f (.sl sz ((es.take (h.getD es.length).toNat).drop l.toNat)), hs)
        | none => none)
      | _, _, _ => none
    | .f (.sc (.string s)) => match strTy P t, boundP st (some 0) lo, boundP st none hi with
      | true, some (some l), some h => some (some (0 ≤ l ∧ l ≤ h.getD s.size ∧ h.getD s.size ≤ s.size), .f (.sc (.string (s.extract l.toNat (h.getD s.size).toNat))), hs)
      | _, _, _ => none
    | .lsl k => match hi, hs with
      | none, .own :: hs => (match getOb k st.ob, elemP P t, boundP st (some 0) lo with
        | some (.row sz _ es), some e, some (some l) => (match sizeP P e with
          | some z => if z == sz then some (some (0 ≤ l ∧ l.toNat < es.length), .lvw k z l.toNat (es.length - l.toNat), hs) else none
          | none => none)
        | _, _, _ => none)
      | _, _ => none
    | _ => none
  | .extract x i => match st.opnd x with
    | .f (.tup l) => match l[i]? with
      | some v => some (none, .f v, hs)
      | none => none
    | _ => none
  | .build t ps => match P.underlying t, zeroP P t with
    | some (.struct fs), some z => match placesL P fs.toList with
      | some pl => (match hs with
        | .ones :: hs => (match fillQ (fun f => pl[f]?) st ps.toList (z.map .f) with
          | some (p, cs) => some (some p, .agg cs, hs)
          | none => none)
        | hs => (match fillP (fun f => pl[f]?) st ps.toList (z.map .f) with
          | some cs => some (none, .agg cs, hs)
          | none => none))
      | none => none
    | _, _ => none
  | .makeFunc (.func f) a b => some (none, .fn f (opL st a.toList) (opL st b.toList), hs)
  | .call c => match c.callee with
    | .value f => callR P G (st.opnd f) (opL st c.args.toList) hs
    | .builtin .len => match c.args.toList with
      | [x] => match lenR P st c.argTypes (st.opnd x) with
        | some v => some (none, v, hs)
        | none => okV hs (scalarP P st o)
      | _ => none
    | _ => okV hs (scalarP P st o)
  | .binOp .eql t x y _ => match isnR P t (st.opnd x) (st.opnd y) hs with
    | some (p, b, hs) => some (some p, .f (.sc (.bool b)), hs)
    | none => if nilEq P t (st.opnd x) (st.opnd y) then some (none, .f (.sc (.bool false)), hs) else okV hs (scalarP P st o)
  | .binOp .neq t x y _ => match isnR P t (st.opnd x) (st.opnd y) hs with
    | some (p, b, hs) => some (some p, .f (.sc (.bool (!b))), hs)
    | none => if nilEq P t (st.opnd x) (st.opnd y) then some (none, .f (.sc (.bool true)), hs) else okV hs (scalarP P st o)
  | _ => okV hs (scalarP P st o)
def St.put (st : St) (d : Option Tmp) (v : AV) : St :=
  match d with
  | some d => { sl := st.sl.set d v, ob := st.ob, nx := st.nx, kp := st.kp.filter (fun t => t != d), nd := st.nd }
  | none => st
end Go.Sx

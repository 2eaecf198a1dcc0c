/-
  Proved: what some functions of the program answer, or a law of the evaluator that shows it, one theorem each; its conditions are the hypotheses that stand ahead of it.
-/
import Derived.Test.YtdgodofdnaligaaDoorSxI
import Derived.Laws.Cover3
set_option linter.unusedVariables false
set_option linter.unusedSimpArgs false
namespace Go.Sx
open Go.RowKit
/-! ### The evaluator -/
/-- A slice compared with nil: which of both an empty one is stays open. -/
def nilQ (P : Program) (st : St) (o : Oper) : Option (Bool × List (List FV)) :=
  match o.op with
  | .binOp .eql t x y _ => match elemP P t with
    | some _ => (match st.opnd x, st.opnd y with
      | .f (.sl _ es), .f .nils => some (true, es)
      | _, _ => none)
    | none => none
  | .binOp .neq t x y _ => match elemP P t with
    | some _ => (match st.opnd x, st.opnd y with
      | .f (.sl _ es), .f .nils => some (false, es)
      | _, _ => none)
    | none => none
  | _ => none
/-- One operation, in its turn. -/
def astep (P : Program) (G : Gr) (st : St) (o : Oper) (hs : List Hint) (K : St → List Hint → Prop) : Prop :=
  match nilQ P st o with
  | some (q, es) => ∀ b : Bool, (es ≠ [] → b = false) → K (st.put o.dst (.f (.sc (.bool (b == q))))) hs
  | none =>
  if isMem o.op || isOwn o.op hs then
    (match mstep P G st o hs with
    | some (p, st', hs') => andO p (K st' hs')
    | none => False)
  else if isW o.op hs then
    (match wstep P G st o hs with
    | some (p, st', hs') => andO p (K st' hs')
    | none => False)
  else if isY o.op hs then
    (match ystep P G st o hs with
    | some (p, st', hs') => andO p (K st' hs')
    | none => False)
  else
    (match pvalR P G st o hs with
    | some (p, v, hs') => andO p (K (st.put o.dst v) hs')
    | none => False)
def guardOf (ops : Array Oper) (j : Nat) : Option Tmp := (ops[j]?).bind (·.dst)
/-- A nil in a slot is a row of no elements. -/
def St.nrow (st : St) (t sz e : Nat) : Option St := match st.sl.getD t (.f .any) with
  | .f .nils => some (st.fresh (some t) (.lsl st.nx) (.row sz e []) none)
  | _ => none
/-- A nil in a box's cell likewise. -/
def St.nrowb (st : St) (k off sz e : Nat) : Option St := match getOb k st.ob with
  | some (.box cs) => (match cs.getD off (.f .any) with
    | .f .nils => some { sl := st.sl, ob := setOb k (.box (cs.set off (.lsl st.nx))) ((st.nx, .row sz e []) :: st.ob), nx := st.nx + 1, kp := st.kp, nd := st.nd }
    | _ => none)
  | _ => none
/-- What is to be frozen ahead. -/
def preH : List Hint → St → (St → List Hint → Prop) → Prop
  | .frz ks :: hs, st, K => (match st.frzs ks with
    | some st' => preH hs st' K
    | none => False)
  | .nrow t sz e :: hs, st, K => (match st.nrow t sz e with
    | some st' => preH hs st' K
    | none => False)
  | .nrowb k off sz e :: hs, st, K => (match st.nrowb k off sz e with
    | some st' => preH hs st' K
    | none => False)
  | hs, st, K => K st hs
def preF (st : St) (hs : List Hint) (K : St → List Hint → Prop) : Prop := preH hs st K
/-- What is to be done ahead of a loop. -/
def preL (st : St) (hs : List Hint) (K : St → List Hint → Prop) : Prop :=
  match hs with
  | .pre p :: hs => preF st p fun st _ => K st hs
  | hs => K st hs
/-- A slot's word, said otherwise. -/
def St.fix (st : St) (t : Nat) (x : AV) : St := { sl := st.sl.set t x, ob := st.ob, nx := st.nx, kp := st.kp, nd := st.nd }
/-- Operations in a row; 'step' is one of them. -/
def evalRow (ops : Array Oper) (step : St → Oper → List Hint → (St → List Hint → Prop) → Prop) : List Oper → List Nat → St → List Hint → (St → List Hint → Prop) → Prop
  | [], _, st, hs, K => K st hs
  | o :: r, dd, st, hs, K =>
    match o.guard with
    | none => step st o hs fun st hs => evalRow ops step r dd st hs K
    | some (j, want) => match guardOf ops j with
      | none => False
      | some t => match st.sl.getD t (.f .any) with
        | .f (.sc (.bool b)) =>
          if dd.contains t then
            (if b = want then step st o hs fun st hs => evalRow ops step r dd st hs K
             else evalRow ops step r dd (st.put o.dst (.f (.sc undef))) hs K)
          else match hs with
            | .dec d :: hs => b = d ∧
              (if d = want then step (st.fix t (.f (.sc (.bool d)))) o hs fun st hs => evalRow ops step r (t :: dd) st hs K
               else evalRow ops step r (t :: dd) ((st.fix t (.f (.sc (.bool d)))).put o.dst (.f (.sc undef))) hs K)
            | .br h1 h2 :: _ => (b = true →
                (match want with
                | true => step (st.fix t (.f (.sc (.bool true)))) o h1 fun st hs => evalRow ops step r (t :: dd) st hs K
                | false => evalRow ops step r (t :: dd) ((st.fix t (.f (.sc (.bool true)))).put o.dst (.f (.sc undef))) h1 K)) ∧ (b = false →
                (match want with
                | true => evalRow ops step r (t :: dd) ((st.fix t (.f (.sc (.bool false)))).put o.dst (.f (.sc undef))) h2 K
                | false => step (st.fix t (.f (.sc (.bool false)))) o h2 fun st hs => evalRow ops step r (t :: dd) st hs K))
            | _ => False
        | .f (.sc _) => evalRow ops step r dd (st.put o.dst (.f (.sc undef))) hs K
        | _ => False
/-- Can it be done as it stands? -/
def canStep (P : Program) (G : Gr) (st : St) (o : Oper) (hs : List Hint) : Bool :=
  match nilQ P st o with
  | some _ => true
  | none => if isMem o.op || isOwn o.op hs then (match mstep P G st o hs with | some _ => true | none => false)
    else if isW o.op hs then (match wstep P G st o hs with | some _ => true | none => false)
    else if isY o.op hs then (match ystep P G st o hs with | some _ => true | none => false)
    else (match pvalR P G st o hs with | some _ => true | none => false)
def ostep (P : Program) (G : Gr) (st : St) (o : Oper) (hs : List Hint) (K : St → List Hint → Prop) : Prop :=
  match hs with
  | .lfz ks :: hs' => if canStep P G st o hs then astep P G st o hs K else (match st.frzs ks with
    | some st' => astep P G st' o hs' K
    | none => False)
  | hs => preF st hs fun st hs => astep P G st o hs K
/-- Operations that turn nothing, in whatever order; what is made is frozen at once. -/
def dval (P : Program) (G : Gr) (st : St) (o : Oper) (hs : List Hint) : PV :=
  match o.op with
  | .box _ x => match cellsAV (st.opnd x) with
    | some cs => match toFL cs with
      | some c => some (none, .f (.ptr c 0), hs)
      | none => none
    | none => none
  | .buildSlice t n ps => match elemP P t with
    | none => none
    | some e => match P.info? e with
      | none => none
      | some ie => match ie.zero with
        | none => none
        | some zv => if decide (n * ie.size ≤ 2 ^ 24) then
            (match fillP (fun i => some (i * ie.size, ie.size)) st ps.toList ((zcells zv (n * ie.size)).map .f) with
            | some cs => (match toFL cs with
              | some fs => if fs.length == n * ie.size then some (none, .f (.sl ie.size (chunk ie.size n fs)), hs) else none
              | none => none)
            | none => none)
          else none
  | _ => if isMem o.op then none else pvalR P G st o hs
def dstep (P : Program) (G : Gr) (st : St) (o : Oper) (hs : List Hint) (K : St → List Hint → Prop) : Prop :=
  match dval P G st o hs with
  | some (p, v, hs') => andO p (K (st.put o.dst v) hs')
  | none => False
def edgeTo (o : Oper) (j : Nat) : Bool := o.after.any fun e => e.on == j && Region.binds .any e
def dstOf (ops : Array Oper) (j : Nat) : Option Tmp := (ops[j]?).bind (·.dst)
def edgeAt (ops : Array Oper) (m j : Nat) : Bool := match ops[m]? with
  | some o => edgeTo o j
  | none => false
/-- Pieces of a region that draws its order: n operations in any order, then m one by one, and so on. Where each one's piece begins. -/
def startsOf : List (Nat × Nat) → Nat → List Nat
  | [], _ => []
  | (n, m) :: r, c => List.replicate n c ++ (List.range' (c + n) m ++ startsOf r (c + n + m))
def bndOk (ss : List Nat) (size q : Nat) : Bool := (List.range size).all fun i => decide (i < q) || decide (q ≤ ss.getD i 0)
def blkOk (ops : Array Oper) (c n : Nat) : Bool :=
  (List.range' c n).all (fun i => match ops[i]? with
    | some o => (o.looksAt ops).all (fun t => (List.range' c n).all fun j => dstOf ops j != some t || (decide (j < i) && edgeTo o j)) &&
      (List.range' c n).all (fun j => j == i || o.dst == none || dstOf ops j != o.dst)
    | none => false)
def pcsOk (ops : Array Oper) (ss : List Nat) (cE : Nat) : List (Nat × Nat) → Nat → Bool
  | [], c => decide (c = cE)
  | (n, m) :: r, c => blkOk ops c n && bndOk ss ops.size (c + n) && (List.range' (c + n) m).all (fun k => bndOk ss ops.size (k + 1)) && decide (c + n + m ≤ ops.size) && pcsOk ops ss cE r (c + n + m)
def behindOk (ops : Array Oper) (ss : List Nat) : Bool :=
  (List.range ops.size).all (fun i => (List.range (ss.getD i 0)).all fun j => edgeAt ops i j || (List.range (ss.getD i 0)).any fun m => decide (j < m) && edgeAt ops m j)
def drawnOk (P : Program) (ops : Array Oper) (pcs : List (Nat × Nat)) : Bool :=
  P.follows .mixedOrders &&
  (List.range ops.size).all (fun i => match ops[i]? with
    | some o => o.after.all (fun e => !Region.binds .any e || decide (e.on < i)) && (match o.op with | .select _ _ => false | _ => true)
    | none => true) &&
  behindOk ops (startsOf pcs 0) && pcsOk ops (startsOf pcs 0) ops.size pcs 0
def evalPieces (P : Program) (G : Gr) (ops : Array Oper) : List (Nat × Nat) → Nat → St → List Hint → (St → List Hint → Prop) → Prop
  | [], _, st, hs, K => K st hs
  | (n, m) :: r, c, st, hs, K => evalRow ops (dstep P G) ((ops.toList.drop c).take n) [] st hs fun st hs => evalRow ops (ostep P G) ((ops.toList.drop (c + n)).take m) [] st hs fun st hs => evalPieces P G ops r (c + n + m) st hs K
def evalDrawn (P : Program) (G : Gr) (ops : Array Oper) (pcs : List (Nat × Nat)) (st : St) (hs : List Hint) (K : St → List Hint → Prop) : Prop :=
  drawnOk P ops pcs = true ∧ preF st hs fun st hs => evalPieces P G ops pcs 0 st hs K
def isAl (o : Oper) : Bool := match o.op with
  | .alloc _ => true
  | _ => false
/-- As dstep; what is newly laid stays unknown until the piece is done. -/
def dstepA (P : Program) (G : Gr) (st : St) (o : Oper) (hs : List Hint) (K : St → List Hint → Prop) : Prop :=
  if isAl o = true then K (st.put o.dst (.f .any)) hs else dstep P G st o hs K
/-- n operations in any order, one of which lays a new object; then one by one. -/
def evalDrawnC (P : Program) (G : Gr) (ops : Array Oper) (n a : Nat) (st : St) (hs : List Hint) (K : St → List Hint → Prop) : Prop :=
  (drawnOk P ops [(n, ops.size - n)] && decide (a < n) && (List.range n).all (fun i => match ops[i]? with
    | some o => !(isAl o) || i == a
    | none => true)) = true ∧ preF st hs fun st hs => match ops[a]? with
    | some o => (match o.op, o.dst, o.guard with
      | .alloc t, some d, none => (match zeroP P t with
        | some z => decide (d < st.sl.length) = true ∧ evalRow ops (dstepA P G) (ops.toList.take n) [] st hs fun st hs =>
            evalPieces P G ops [(0, ops.size - n)] n (st.fresh (some d) (.loc st.nx 0) (.box (z.map .f)) none) hs K
        | none => False)
      | _, _, _ => False)
    | none => False
def preA (n i : Nat) : Array Bool := ((List.range n).map fun j => decide (j < i)).toArray
/-- Pieces, and what is left in every order that it may have. -/
def allOf {α : Type} : List α → (α → Prop) → Prop
  | [], _ => True
  | [x], f => f x
  | x :: y :: l, f => f x ∧ allOf (y :: l) f
def evalAll (P : Program) (G : Gr) (ops : Array Oper) : Nat → Array Bool → St → List Hint → (St → List Hint → Prop) → Prop
  | 0, listed, st, hs, K => (Region.ready .any ops listed).isEmpty = true ∧ K st hs
  | n + 1, listed, st, hs, K => (Region.ready .any ops listed).isEmpty = false ∧ allOf (Region.ready .any ops listed) fun i => match ops[i]? with
    | some o => evalRow ops (ostep P G) [o] [] st hs fun st hs => evalAll P G ops n (listed.setIfInBounds i true) st hs K
    | none => False
def totalOf : List (Nat × Nat) → Nat
  | [] => 0
  | (n, m) :: r => n + m + totalOf r
def starA (ops : Array Oper) (pcs : List (Nat × Nat)) : List Nat := startsOf pcs 0 ++ List.replicate (ops.size - totalOf pcs) (totalOf pcs)
def drawnOkA (P : Program) (ops : Array Oper) (pcs : List (Nat × Nat)) : Bool :=
  P.follows .mixedOrders &&
  (List.range ops.size).all (fun i => match ops[i]? with
    | some o => o.after.all (fun e => !Region.binds .any e || decide (e.on < i)) && (match o.op with | .select _ _ => false | _ => true)
    | none => true) &&
  behindOk ops (starA ops pcs) && pcsOk ops (starA ops pcs) (totalOf pcs) pcs 0
def evalDrawnA (P : Program) (G : Gr) (ops : Array Oper) (pcs : List (Nat × Nat)) (st : St) (hs : List Hint) (K : St → List Hint → Prop) : Prop :=
  drawnOkA P ops pcs = true ∧ preF st hs fun st hs => evalPieces P G ops pcs 0 st hs fun st hs => evalAll P G ops (ops.size - totalOf pcs) (preA ops.size (totalOf pcs)) st hs K
/-- What asks nothing of memory is taken as soon as it is ready; the rest in every order. -/
def pureP (P : Program) (st : St) (o : Oper) : Option AV :=
  match o.op with
  | .move x => some (st.opnd x)
  | .assign x => some (st.opnd x)
  | .nilCheck x => (match st.opnd x with
    | .f (.ptr cs off) => some (.f (.ptr cs off))
    | _ => none)
  | .fieldAddr t x f => (match st.opnd x, fieldP P t f with
    | .f (.ptr cs off), some d => some (.f (.ptr cs (off + d)))
    | _, _ => none)
  | .extract x i => (match st.opnd x with
    | .f (.tup l) => (match l[i]? with
      | some v => some (.f v)
      | none => none)
    | _ => none)
  | _ => none
def takeR (P : Program) (ops : Array Oper) (listed : Array Bool) (st : St) (i : Nat) : Bool :=
  match ops[i]? with
  | some o => o.guard.isNone && (pureP P st o).isSome && Region.free .any ops listed i
  | none => false
def evalAllR (P : Program) (G : Gr) (ops : Array Oper) : Nat → Array Bool → St → List Hint → (St → List Hint → Prop) → Prop
  | 0, listed, st, hs, K => (Region.ready .any ops listed).isEmpty = true ∧ K st hs
  | n + 1, listed, st, hs, K => match (Region.ready .any ops listed).find? (takeR P ops listed st) with
    | some i => (match ops[i]? with
      | some o => (match pureP P st o with
        | some v => evalAllR P G ops n (listed.setIfInBounds i true) (st.put o.dst v) hs K
        | none => False)
      | none => False)
    | none => (Region.ready .any ops listed).isEmpty = false ∧ allOf (Region.ready .any ops listed) fun i => match ops[i]? with
      | some o => evalRow ops (ostep P G) [o] [] st hs fun st hs => evalAllR P G ops n (listed.setIfInBounds i true) st hs K
      | none => False
def hasTb (ops : Array Oper) : Bool :=
  decide (12 ≤ ops.size) && (match ops[ops.size - 1]? with
    | some o => (match o.op with | .assign _ => true | _ => false)
    | none => false)
/-- A region that begins with a move and ends with a store: its moves may be taken first. -/
def hasTk (ops : Array Oper) : Bool :=
  (match ops[0]? with
   | some o => (match o.op with | .move _ => true | _ => false)
   | none => false) &&
  (match ops[ops.size - 1]? with
   | some o => (match o.op with | .store _ _ _ => true | _ => false)
   | none => false)
def evalDrawnB (P : Program) (G : Gr) (ops : Array Oper) (pcs : List (Nat × Nat)) (st : St) (hs : List Hint) (K : St → List Hint → Prop) : Prop :=
  ((hasTk ops || hasTb ops) && Region.noSelect ops && drawnOkA P ops pcs) = true ∧ preF st hs fun st hs => evalPieces P G ops pcs 0 st hs fun st hs => evalAllR P G ops (ops.size - totalOf pcs) (preA ops.size (totalOf pcs)) st hs K
def hasAl (ops : Array Oper) : Bool := ops.any isAl
def behindE (ops : Array Oper) (ss : List Nat) (e : Nat) : Bool :=
  (List.range ops.size).all (fun i => (List.range (ss.getD i 0)).all fun j => j == e || (edgeAt ops i j || (List.range (ss.getD i 0)).any fun m => decide (j < m) && !(m == e) && edgeAt ops m j))
def preE (size n e : Nat) : Array Bool := (preA size n).setIfInBounds e false
/-- The same, where one of them (e), that asks nothing of memory, may come later. -/
def evalDrawnE (P : Program) (G : Gr) (ops : Array Oper) (n a e : Nat) (st : St) (hs : List Hint) (K : St → List Hint → Prop) : Prop :=
  ((hasTk ops || hasTb ops || hasAl ops) && Region.noSelect ops && (P.follows .mixedOrders &&
  (List.range ops.size).all (fun i => match ops[i]? with
    | some o => o.after.all (fun e => !Region.binds .any e || decide (e.on < i)) && (match o.op with | .select _ _ => false | _ => true)
    | none => true) &&
  behindE ops (startsOf [(n, ops.size - n)] 0) e && pcsOk ops (startsOf [(n, ops.size - n)] 0) ops.size [(n, ops.size - n)] 0) && decide (a < n) && decide (e < n) && !(e == a) &&
  Region.free .any ops (preE ops.size n e) e && (Region.ready .any ops (preE ops.size n e)).contains e && (List.range n).all (fun i => match ops[i]? with
    | some o => !(isAl o) || i == a
    | none => true)) = true ∧ preF st hs fun st hs => match ops[a]?, ops[e]? with
    | some o, some oe => (match o.op, o.dst, o.guard, oe.dst, oe.guard with
      | .alloc t, some d, none, some te, none => (match zeroP P t with
        | some z => (decide (d < st.sl.length) && decide (te < st.sl.length)) = true ∧ evalRow ops (dstepA P G) (ops.toList.take n) [] st hs fun st hs =>
            (match pureP P (st.put (some te) (.f .any)) oe with
            | some v => st.sl.getD te (.f .any) = v ∧ evalPieces P G ops [(0, ops.size - n)] n (st.fresh (some d) (.loc st.nx 0) (.box (z.map .f)) none) hs K
            | none => False)
        | none => False)
      | _, _, _, _, _ => False)
    | _, _ => False
/-- The same, and differences and sums of two words. -/
def pureQ (P : Program) (st : St) (o : Oper) : Option AV :=
  match o.op with
  | .binOp .sub _ x y _ => (match st.opnd x, st.opnd y with
    | .f (.sc (.int .i64 n)), .f (.sc (.int .i64 m)) => some (.f (.sc (.int .i64 (IntKind.i64.wrap (n - m)))))
    | _, _ => none)
  | .binOp .add _ x y _ => (match st.opnd x, st.opnd y with
    | .f (.sc (.int .i64 n)), .f (.sc (.int .i64 m)) => some (.f (.sc (.int .i64 (IntKind.i64.wrap (n + m)))))
    | _, _ => none)
  | _ => pureP P st o
def takeAt (ops : Array Oper) (i : Nat) : Bool := match ops[i]? with
  | some o => o.guard.isNone && o.after.all (fun e => !Region.binds .any e || decide (e.on < i)) && Region.free .any ops (preA ops.size i) i
  | none => false
def takes (P : Program) : List Oper → St → Option St
  | [], st => some st
  | o :: l, st => match pureQ P st o with
    | some v => takes P l (st.put o.dst v)
    | none => none
def behindF (ops : Array Oper) (ss : List Nat) (f : Nat) : Bool :=
  (List.range ops.size).all (fun i => (List.range (ss.getD i 0)).all fun j => decide (j < f) || (edgeAt ops i j || (List.range (ss.getD i 0)).any fun m => decide (j < m) && edgeAt ops m j))
def drawnOkT (P : Program) (ops : Array Oper) (f : Nat) (pcs : List (Nat × Nat)) : Bool :=
  (hasTk ops || hasTb ops) && P.follows .mixedOrders && Region.noSelect ops && decide (f ≤ ops.size) && (List.range f).all (takeAt ops) &&
  (List.range ops.size).all (fun i => match ops[i]? with
    | some o => o.after.all (fun e => !Region.binds .any e || decide (e.on < i)) && (match o.op with | .select _ _ => false | _ => true)
    | none => true) &&
  behindF ops (List.replicate f 0 ++ startsOf pcs f) f && pcsOk ops (List.replicate f 0 ++ startsOf pcs f) ops.size pcs f
def evalDrawnT (P : Program) (G : Gr) (ops : Array Oper) (f : Nat) (pcs : List (Nat × Nat)) (st : St) (hs : List Hint) (K : St → List Hint → Prop) : Prop :=
  drawnOkT P ops f pcs = true ∧ preF st hs fun st hs => match takes P (ops.toList.take f) st with
    | some st => evalPieces P G ops pcs f st hs K
    | none => False
/-- By which names a round ends. -/
def renOf (ρ : List (Nat × Nat)) : List Hint → List (Nat × Nat)
  | .ren ρ' :: _ => ρ'
  | _ => ρ
/-- What is written since is forgotten. -/
def keepL (kp : List Nat) : Nat → List AV → List AV
  | _, [] => []
  | t, x :: l => (if kp.contains t then x else .f .any) :: keepL kp (t + 1) l
/-- A round's frame: the caller's slots, the parameters set. -/
def setPs : List Tmp → List FV → List AV → List AV
  | p :: ps, x :: xs, l => setPs ps xs (l.set p (.f x))
  | _, _, l => l
def roundSt (S : St) (ps : Array Tmp) (xs : List FV) : St := { sl := setPs ps.toList xs S.sl, ob := S.ob, nx := S.nx, kp := (List.range S.sl.length).filter (fun t => !ps.toList.contains t), nd := true }
/-- The caller's words behind a round. -/
def St.back (st : St) : St := { sl := keepL st.kp 0 st.sl, ob := st.ob, nx := st.nx }
/-- No range over a function within. -/
def noRange : Code → Bool
  | .rangeFunc _ _ _ _ => false
  | .seq x y => noRange x && noRange y
  | .cond _ x y => noRange x && noRange y
  | .block _ c => noRange c
  | .loop c => noRange c
  | .region _ ops d => !(d && (hasTk ops || hasTb ops || hasAl ops))
  | _ => true
def evalCode (P : Program) (G : Gr) : Code → St → List Hint → (Ex → St → List Hint → Prop) → Prop
  | .skip, st, hs, K => K .normal st hs
  | .seq x y, st, hs, K => evalCode P G x st hs fun e st hs => match e with
    | .normal => evalCode P G y st hs K
    | e => K e st hs
  | .cond c x y, st, hs, K => match st.opnd c, hs with
    | .f (.sc (.bool b)), .dec d :: hs => b = d ∧ (match d with | true => evalCode P G x st hs K | false => evalCode P G y st hs K)
    | .f (.sc (.bool b)), .br h1 h2 :: _ => (b = true → evalCode P G x st h1 K) ∧ (b = false → evalCode P G y st h2 K)
    | _, _ => False
  | .region _ ops false, st, hs, K => evalRow ops (ostep P G) ops.toList [] st hs fun st hs => K .normal st hs
  | .region _ ops true, st, hs, K => match hs with
    | .nat n :: hs => evalDrawn P G ops [(n, ops.size - n)] st hs fun st hs => K .normal st hs
    | .pcs l :: hs => evalDrawn P G ops l st hs fun st hs => K .normal st hs
    | .pca l :: hs => evalDrawnA P G ops l st hs fun st hs => K .normal st hs
    | .pcb l :: hs => evalDrawnB P G ops l st hs fun st hs => K .normal st hs
    | .tkn f l :: hs => evalDrawnT P G ops f l st hs fun st hs => K .normal st hs
    | .nal n a :: hs => evalDrawnC P G ops n a st hs fun st hs => K .normal st hs
    | .nae n a e :: hs => evalDrawnE P G ops n a e st hs fun st hs => K .normal st hs
    | .loop ρ0 pcs S _ H :: hs => evalDrawnB P G ops pcs st (H 0) (fun st' _ => st'.weak ρ0 (S 0)) ∧ K .normal (S 0) hs
    | _ => False
  | .block id c, st, hs, K => evalCode P G c st hs fun e st hs => match e with
    | .exit i => if i = id then K .normal st hs else K (.exit i) st hs
    | e => K e st hs
  | .loop c, st, hs, K => preL st hs fun st hs => match hs with
    | .loop ρ0 ρ1 S N H :: hs => st.weak ρ0 (S 0) ∧ (∀ i, i < N → evalCode P G c (S i) (H i) fun e st' hs' => match e with
        | .normal => st'.weak (renOf ρ1 hs') (S (i + 1))
        | _ => False) ∧ evalCode P G c (S N) hs fun e st hs => match e with
        | .normal => False
        | e => K e st hs
    | _ => False
  | .exit id, st, hs, K => K (.exit id) st hs
  | .ret, st, hs, K => K .ret st hs
  | .label _, st, hs, K => K .normal st hs
  | .rangeFunc g ps assign body, st, hs, K => preL st hs fun st hs => match st.opnd g, hs with
    | .f (.fn gf first caps), .range ρ0 S n it b r x H :: hs => st.weak ρ0 (S 0) ∧ G.strict = false ∧ (noRange assign && noRange body && entersP P gf && (S n).kp.isEmpty && !(S n).nd) = true ∧
      (∀ i, i ≤ n → decide ((S i).sl.length = (S 0).sl.length) = true) ∧
      (∀ Y : Yd, Y.it = it → Y.b = b → Y.n = n → YLaw P G Y → CallsX P G gf (first ++ [.sc Y.u] ++ caps) Y 0 r n) ∧
      (∀ i, i < n → decide ((it i).length = ps.size) = true ∧ evalCode P G assign (roundSt (S i) ps (it i)) (H i) fun e st1 hs1 => match e with
        | .normal => st1.nd = true ∧ evalCode P G body st1 hs1 fun e st2 hs2 => (match e with
          | .normal => b i = true
          | e => b i = false ∧ i + 1 = n ∧ x = some e) ∧ st2.back.weak (renOf [] hs2) (S (i + 1))
        | _ => False) ∧
      (match x with
        | none => (0 < n → b (n - 1) = true) ∧ K .normal (S n) hs
        | some (.exit id) => (0 < n ∧ b (n - 1) = false) ∧ K (.exit id) (S n) hs
        | some .ret => (0 < n ∧ b (n - 1) = false) ∧ K .ret (S n) hs
        | some .normal => False)
    | _, _ => False
  | _, _, _, _ => False
def resultAV (P : Program) (st : St) : ResultVar → Option AV
  | .cell p t => loadP P st t (st.sl.getD p (.f .any))
  | .tmp t => some (st.sl.getD t (.f .any))
def resultsL (P : Program) (st : St) : List ResultVar → Option (List AV)
  | [] => some []
  | r :: rs => match resultAV P st r, resultsL P st rs with
    | some v, some vs => some (v :: vs)
    | _, _ => none
def resultsF (P : Program) (st : St) (fn : Func) : Option FV :=
  match resultsL P st fn.results.toList with
  | some [v] => v.toF
  | some l => (match toFL l with
    | some l => some (.tup l)
    | none => none)
  | none => none
def fnSt (fn : Func) (args : List FV) : St := { sl := args.map .f ++ List.replicate (fn.ntmps - args.length) (.f (.sc undef)), ob := [], nx := 0 }
def evalFn (P : Program) (G : Gr) (fn : Func) (args : List FV) (hs : List Hint) (r : FV) : Prop :=
  match fn.body with
  | none => False
  | some c => evalCode P G c (fnSt fn args) hs fun e st hs =>
    match e with
    | .exit _ => False
    | _ => match st.frzs (match hs with | .frz ks :: _ => ks | .lfz ks :: _ => ks | _ => []) with
      | none => False
      | some st => match resultsF P st fn with
        | some v => v = r
        | none => False
/-! ### Freezing -/
section
variable {P : Program} {G : Gr} {X : Nat → Prop} {ok0 : Nat → Prop} {w0 w w' : World} {tv : Nat → Value} {en en' : Env} {st st' : St} {a : Act}
mutual
theorem AV.sub_rel {ok ok' : Nat → Prop} {k : Nat} {p : Ob} {c : List FV} (hc : Carry w w ok ok')
    (hbox : ∀ cs, p = .box cs → ∃ b, en.blk k = opt (some b) ∧ ok' b ∧ FRelC w ok' c b 0)
    (hrow : ∀ sz e es, p = .row sz e es → FRel w ok' (.sl sz es) (en.val k)) : ∀ (x : AV) (v : Value), ARel w ok en x v → ARel w ok' en (x.sub k p c) v
  | .f x, v, h => by simp only [ARel, AV.sub] at h ⊢; exact FRel.carry hc x v h
  | .agg l, v, h => by
    simp only [ARel, AV.sub] at h ⊢
    obtain ⟨cs, e, h⟩ := h
    exact ⟨cs, e, subL_rel hc hbox hrow l cs h⟩
  | .loc j o, v, h => by
    simp only [AV.sub]
    split
    · rename_i hj
      subst hj
      cases p with
      | box cs =>
        simp only [ARel, FRel] at h ⊢
        obtain ⟨b, hb, rfl⟩ := h
        obtain ⟨b', hb', ho, hC⟩ := hbox cs rfl
        rw [hb] at hb'
        cases opt_inj hb'
        exact ⟨b, 0, by simp, ho, hC⟩
      | _ => simp [ARel, FRel]
    · simpa [ARel] using h
  | .lsl j, v, h => by
    simp only [AV.sub]
    split
    · rename_i hj
      subst hj
      cases p with
      | row sz e es =>
        simp only [ARel] at h
        have := hrow sz e es rfl
        rw [← h.1] at this
        simpa [ARel] using this
      | _ => simp [ARel, FRel]
    · simpa [ARel] using h
  | .el j sz i d, v, h => by
    simp only [AV.sub]
    split
    · simp [ARel, FRel]
    · simpa [ARel] using h
  | .lvw j sz o n, v, h => by
    simp only [AV.sub]
    split
    · simp [ARel, FRel]
    · simpa [ARel] using h
  | .fn f x y, v, h => by
    simp only [ARel, AV.sub] at h ⊢
    obtain ⟨fs, cs, e, h1, h2⟩ := h
    exact ⟨fs, cs, e, subL_rel hc hbox hrow x fs h1, subL_rel hc hbox hrow y cs h2⟩
  | .nul, _, _ => by simp [ARel, AV.sub]
theorem subL_rel {ok ok' : Nat → Prop} {k : Nat} {p : Ob} {c : List FV} (hc : Carry w w ok ok')
    (hbox : ∀ cs, p = .box cs → ∃ b, en.blk k = opt (some b) ∧ ok' b ∧ FRelC w ok' c b 0)
    (hrow : ∀ sz e es, p = .row sz e es → FRel w ok' (.sl sz es) (en.val k)) : ∀ (l : List AV) (vs : List Value), ARelL w ok en l vs → ARelL w ok' en (subL k p c l) vs
  | [], vs, h => by simpa [ARelL, subL] using h
  | x :: l, vs, h => by
    simp only [ARelL, subL] at h ⊢
    obtain ⟨v, r, e, h1, h2⟩ := h
    exact ⟨v, r, e, AV.sub_rel hc hbox hrow x v h1, subL_rel hc hbox hrow l r h2⟩
end
mutual
theorem AV.sub_bd {n k : Nat} {p : Ob} {c : List FV} : ∀ x : AV, x.bd n → (x.sub k p c).bd n
  | .f x, h => by simp [AV.sub, AV.bd]
  | .nul, h => by simp [AV.sub, AV.bd]
  | .agg l, h => by simp only [AV.sub, AV.bd] at h ⊢; exact subL_bd l h
  | .loc j o, h => by
    simp only [AV.sub]
    split
    · cases p <;> simp [AV.bd]
    · exact h
  | .lsl j, h => by
    simp only [AV.sub]
    split
    · cases p <;> simp [AV.bd]
    · exact h
  | .el j _ _ _, h => by
    simp only [AV.sub]
    split
    · simp [AV.bd]
    · exact h
  | .lvw j _ _ _, h => by
    simp only [AV.sub]
    split
    · simp [AV.bd]
    · exact h
  | .fn f x y, h => by simp only [AV.sub, AV.bd] at h ⊢; exact ⟨subL_bd x h.1, subL_bd y h.2⟩
theorem subL_bd {n k : Nat} {p : Ob} {c : List FV} : ∀ l : List AV, bdL n l → bdL n (subL k p c l)
  | [], h => by simp [subL, bdL]
  | x :: l, h => by simp only [subL, bdL] at h ⊢; exact ⟨AV.sub_bd x h.1, subL_bd l h.2⟩
end
theorem getOb_subObs (k : Nat) (p : Ob) (c : List FV) : ∀ (l : List (Nat × Ob)) (j : Nat) (o : Ob), getOb j (subObs k p c l) = some o → ∃ q, getOb j l = some q ∧ o = Ob.sub k p c q
  | [], j, o, h => by simp [subObs, getOb] at h
  | (i, q) :: r, j, o, h => by
    simp only [subObs, getOb] at h ⊢
    split at h
    · rename_i e; simp only [Option.some.injEq] at h; exact ⟨q, by rw [if_pos e], h.symm⟩
    · rename_i e
      obtain ⟨q', h1, h2⟩ := getOb_subObs k p c r j o h
      exact ⟨q', by rw [if_neg e]; exact h1, h2⟩
theorem St.sub_inv (h : Inv G X ok0 w0 tv st a w en) (k : Nat) (p : Ob) (c : List FV) (hk : getOb k st.ob = some p) (hbox : ∀ cs, p = .box cs → toFL cs = some c) :
    Inv G X ok0 w0 tv (st.sub k p c) a w en := by
  obtain ⟨g1, g2, g3, g4⟩ := h.mem.obs k p hk
  have live : ∀ j o, getOb j (st.sub k p c).ob = some o → ∃ q, j ≠ k ∧ getOb j st.ob = some q ∧ o = Ob.sub k p c q := by
    intro j o hj
    obtain ⟨q, h1, h2⟩ := getOb_subObs k p c _ j o hj
    obtain ⟨h3, h4⟩ := getOb_delOb k _ j q h1
    exact ⟨q, h3, h4, h2⟩
  have hc : Carry w w (okS ok0 w0 w st.ob en) (okS ok0 w0 w (st.sub k p c).ob en) := Carry.same w fun b hb => ⟨hb.1, hb.2.1, fun j o hj => by
    obtain ⟨q, _, h2, _⟩ := live j o hj
    exact hb.2.2.1 j q h2, hb.2.2.2⟩
  have hok : ∀ b, en.blk k b → okS ok0 w0 w (st.sub k p c).ob en b := by
    intro b hb
    refine ⟨(g2 b hb).elim .inr (fun h' => .inl (h.mem.xok b h').1), g4.lt hb, fun j o hj e => ?_, fun hD => (h.mem.dsl b hD).2.2 k p hk hb⟩
    obtain ⟨q, h1, h2, _⟩ := live j o hj
    exact h.mem.inj k j p q hk h2 (fun e => h1 e.symm) b hb e
  have hb1 : ∀ cs, p = .box cs → ∃ b, en.blk k = opt (some b) ∧ okS ok0 w0 w (st.sub k p c).ob en b ∧ FRelC w (okS ok0 w0 w (st.sub k p c).ob en) c b 0 := by
    rintro cs rfl
    obtain ⟨b, vs, t, h1, h2, h3⟩ := g4
    refine ⟨b, h1, hok b (by rw [h1]; exact rfl), FRelC.of c _ b 0 (FRelL.carry hc _ _ (toFL_rel _ _ _ (hbox cs rfl) h3)) fun j v hj => ?_⟩
    rw [cell_of_row w b _ vs t (0, 0) h2]
    simpa using hj
  have hr1 : ∀ sz e es, p = .row sz e es → FRel w (okS ok0 w0 w (st.sub k p c).ob en) (.sl sz es) (en.val k) := by
    rintro sz e es rfl
    obtain ⟨xs, h1, h2, h3, h4⟩ := g4
    simp only [FRel]
    rcases h1.2 with ⟨hv, hn⟩ | ⟨g, cap, cur, hv, hbg, hg, hnc, hcm, hcs, htake⟩
    · exact .inl ⟨List.eq_nil_of_length_eq_zero hn, .inl hv⟩
    · refine .inr ⟨g, 0, cap, hv, hnc, hok g (by rw [h2, hv]; rfl), FRelE.of es xs g 0 h4 (FRelL.carry hc _ _ h3) fun j v hj => ?_⟩
      have := h1.cells (g := g) (by rw [hv]; rfl) j v hj
      rwa [Addr.add_mid] at this
  refine ⟨⟨h.mem.gr, h.mem.okl, h.mem.xok, h.mem.ext, fun j o hj => ?_, fun i j o q hi hj hne b hnn => ?_, fun D hD => ?_⟩, h.defs, subL_rel hc hb1 hr1 _ _ h.slots, subL_bd _ h.bd, h.keep, h.nod⟩
  · obtain ⟨q, h1, h2, rfl⟩ := live j o hj
    obtain ⟨e1, e2, e3, e4⟩ := h.mem.obs j q h2
    refine ⟨e1, e2, ?_, ?_⟩
    · cases q with
      | box cs => exact subL_bd _ e3
      | row _ _ _ => trivial
      | iter _ _ => trivial
      | yd Y i => trivial
    · cases q with
      | box cs =>
        obtain ⟨b, vs, t, f1, f2, f3⟩ := e4
        exact ⟨b, vs, t, f1, f2, subL_rel hc hb1 hr1 _ _ f3⟩
      | row sz e es =>
        obtain ⟨xs, f1, f2, f3, f4⟩ := e4
        exact ⟨xs, f1, f2, FRelL.carry hc _ _ f3, f4⟩
      | iter s i => exact e4
      | yd Y i =>
        obtain ⟨τ, f1, f2, f3⟩ := e4
        exact ⟨τ, f1, fun b hb => hc.oks b (f2 b hb), f3⟩
  · obtain ⟨q1, _, h2, _⟩ := live i o hi
    obtain ⟨q2, _, h4, _⟩ := live j q hj
    exact h.mem.inj i j q1 q2 h2 h4 hne b hnn
  · obtain ⟨d1, d2, d3⟩ := h.mem.dsl D hD
    refine ⟨d1, d2, fun j o hj => ?_⟩
    obtain ⟨q, _, h2, _⟩ := live j o hj
    exact d3 j q h2
theorem St.frz_inv (h : Inv G X ok0 w0 tv st a w en) {k : Nat} (hf : st.frz k = some st') : Inv G X ok0 w0 tv st' a w en := by
  unfold St.frz at hf
  split at hf
  · rename_i cs hk
    split at hf
    · rename_i c hc
      simp only [Option.some.injEq] at hf
      subst hf
      exact St.sub_inv h k _ c hk (by rintro cs' e; cases e; exact hc)
    · cases hf
  · rename_i sz e es hk
    simp only [Option.some.injEq] at hf
    subst hf
    exact St.sub_inv h k _ [] hk (by rintro cs' e; cases e)
  · cases hf
theorem St.frzs_inv : ∀ (ks : List Nat) {st st' : St}, Inv G X ok0 w0 tv st a w en → st.frzs ks = some st' → Inv G X ok0 w0 tv st' a w en
  | [], st, st', h, hf => by simp only [St.frzs, Option.some.injEq] at hf; subst hf; exact h
  | k :: ks, st, st', h, hf => by
    simp only [St.frzs] at hf
    split at hf
    · rename_i st1 h1
      exact St.frzs_inv ks (St.frz_inv h h1) hf
    · cases hf
theorem St.nrow_inv (h : Inv G X ok0 w0 tv st a w en) {t sz e : Nat} (hf : st.nrow t sz e = some st') : ∃ en', Inv G X ok0 w0 tv st' a w en' := by
  unfold St.nrow at hf
  split at hf
  · rename_i ht
    simp only [Option.some.injEq] at hf
    subst hf
    have hv : a.tmps.getD t undef = .slice none 0 0 := by
      have := (h.opnd (.tmp t)).1
      simp only [St.opnd, ht, Act.eval, ARel, FRel] at this
      exact this
    have := new_row h (some t) sz e [] none (.slice none 0 0) [] ⟨rfl, rfl, rfl, Nat.le_refl _, fun _ _ _ => rfl, fun _ => Nat.le_refl _⟩ (by simp) (by intro b hb; cases hb) (by simpa using World.ownsRow_nil w 0 e sz) (by simp [FRelL]) (by simp)
    obtain ⟨en', h'⟩ := this
    refine ⟨en', ?_⟩
    have ea : a.put (some t) (.slice none 0 0) = a := by
      unfold Act.put
      simp only
      have : a.tmps.setIfInBounds t (.slice none 0 0) = a.tmps := by
        apply Array.ext_getElem?
        intro i
        rw [Array.getElem?_setIfInBounds]
        split
        · rename_i e
          subst e
          split
          · rename_i hlt
            rw [Array.getD_eq_getD_getElem?, Array.getElem?_eq_getElem hlt] at hv
            rw [Array.getElem?_eq_getElem hlt]
            simp only [Option.getD_some] at hv
            rw [hv]
          · rename_i hlt
            rw [Array.getElem?_eq_none (by omega)]
        · rfl
      rw [this]
    rw [ea] at h'
    exact h'
  · cases hf
theorem ARelL.set_at {ok : Nat → Prop} : ∀ (l : List AV) (vs : List Value) (off : Nat) (x : AV), ARelL w ok en l vs → (∀ v, vs[off]? = some v → ARel w ok en x v) → ARelL w ok en (l.set off x) vs
  | [], vs, off, x, h, _ => by simpa using h
  | y :: l, vs, 0, x, h, hx => by
    simp only [ARelL, List.set_cons_zero] at h ⊢
    obtain ⟨v, r, rfl, _, h2⟩ := h
    exact ⟨v, r, rfl, hx v rfl, h2⟩
  | y :: l, vs, off + 1, x, h, hx => by
    simp only [ARelL, List.set_cons_succ] at h ⊢
    obtain ⟨v, r, rfl, h1, h2⟩ := h
    exact ⟨v, r, rfl, h1, ARelL.set_at l r off x h2 (by simpa using hx)⟩
theorem St.nrowb_inv (h : Inv G X ok0 w0 tv st a w en) {k off sz e : Nat} (hf : st.nrowb k off sz e = some st') : ∃ en', Inv G X ok0 w0 tv st' a w en' := by
  unfold St.nrowb at hf
  split at hf
  · rename_i cs hk
    split at hf
    · rename_i ht
      simp only [Option.some.injEq] at hf
      subst hf
      obtain ⟨g1, g2, g3, b, vs, ty, g4, g5, g6⟩ := h.mem.obs k _ hk
      have hne : k ≠ st.nx := Nat.ne_of_lt g1
      have hb : ∀ b, opt none b → w.heap.size ≤ b ∨ ∃ j, (none : Option Nat) = some j ∧ en.blk j b := by intro b hb; cases hb
      have h1 := Inv.fresh h none (.lsl st.nx) (.row sz e []) none (opt none) (.slice none 0 0) (.slice none 0 0) ⟨rfl, rfl, rfl, Nat.le_refl _, fun _ _ _ => rfl, fun _ => Nat.le_refl _⟩ (by simp) hb
        (fun ok' hc => ⟨[], by simpa [Env.with] using World.ownsRow_nil w 0 e sz, by simp [Env.with, Value.ownBlock], by simp [FRelL], by simp⟩) trivial
        (fun ok' => by simp only [ARel]; exact ⟨by simp [Env.with], _, _, _, rfl⟩) (by simp [AV.bd])
      have hk1 : getOb k (st.fresh none (.lsl st.nx) (.row sz e []) none).ob = some (.box cs) := by
        simp only [St.fresh, getOb]; rw [if_neg (fun e => hne e.symm)]; exact hk
      obtain ⟨_, _, q3, b', vs', ty', q4, q5, q6⟩ := h1.mem.obs k _ hk1
      refine ⟨_, Inv.inplace h1 k _ (.box (cs.set off (.lsl st.nx))) hk1 ⟨rfl, rfl, rfl, Nat.le_refl _, fun _ _ _ => rfl, fun _ => Nat.le_refl _⟩ ?_ ?_⟩
      · intro ok' hc
        refine ⟨b', vs', ty', q4, q5, ?_⟩
        have q7 := ARelL.carry hc (EnvUpto.refl _ _) _ _ q3 q6
        refine ARelL.set_at cs vs'.toList off _ q7 fun v hv => ?_
        have q8 := ARelL.get cs vs'.toList off q7
        rw [ht] at q8
        simp only [ARel, FRel, List.getD_eq_getElem?_getD, hv, Option.getD_some] at q8
        subst q8
        simp only [ARel]
        exact ⟨by simp [Env.with], _, _, _, rfl⟩
      · exact bdL.set (by simp [AV.bd, St.fresh]) _ off q3
    · cases hf
  · cases hf
theorem preF_inv {hs : List Hint} {K : St → List Hint → Prop} (h : Inv G X ok0 w0 tv st a w en) (hp : preF st hs K) : ∃ st' hs' en', Inv G X ok0 w0 tv st' a w en' ∧ K st' hs' := by
  unfold preF at hp
  have main : ∀ (hs : List Hint) (st : St) (en : Env), Inv G X ok0 w0 tv st a w en → preH hs st K → ∃ st' hs' en', Inv G X ok0 w0 tv st' a w en' ∧ K st' hs' := by
    intro hs
    induction hs with
    | nil => intro st en h hp; exact ⟨st, [], en, h, hp⟩
    | cons x hs ih =>
      intro st en h hp
      cases x with
      | frz ks =>
        simp only [preH] at hp
        split at hp
        · rename_i st1 hf
          exact ih st1 en (St.frzs_inv _ h hf) hp
        · exact hp.elim
      | nrow t sz e =>
        simp only [preH] at hp
        split at hp
        · rename_i st1 hf
          obtain ⟨en1, h1⟩ := St.nrow_inv h hf
          exact ih st1 en1 h1 hp
        · exact hp.elim
      | nrowb k off sz e =>
        simp only [preH] at hp
        split at hp
        · rename_i st1 hf
          obtain ⟨en1, h1⟩ := St.nrowb_inv h hf
          exact ih st1 en1 h1 hp
        · exact hp.elim
      | _ => exact ⟨st, _, en, h, hp⟩
  exact main hs st en h hp
theorem preL_inv {hs : List Hint} {K : St → List Hint → Prop} (h : Inv G X ok0 w0 tv st a w en) (hp : preL st hs K) : ∃ st' hs' en', Inv G X ok0 w0 tv st' a w en' ∧ K st' hs' := by
  unfold preL at hp
  split at hp
  · obtain ⟨st', _, en', h', hk⟩ := preF_inv h hp
    exact ⟨st', _, en', h', hk⟩
  · exact ⟨st, _, en, h, hp⟩
/-! ### One operation, a row of them -/
theorem astep_sound {lr : Option Nat} {o : Oper} {hs : List Hint} {K : St → List Hint → Prop} {next : Act → World → Prop} {Q : Exit → Act → World → Prop} (h : Inv G X ok0 w0 tv st a w en) (hm : astep P G st o hs K)
    (hn : ∀ st' hs' a' w' en', Inv G X ok0 w0 tv st' a' w' en' → K st' hs' → next a' w') : o.wpIn (FW lr) 0 P a w next Q := by
  unfold astep at hm
  split at hm
  · rename_i q es hq
    have key : ∃ b : Bool, (es ≠ [] → b = false) ∧ (execOp a.eval o).run P w = .ok (.value (.bool (b == q))) w := by
      have main : ∀ (t : TypeId) (x y : Operand) (e : TypeId) (sz : Nat), elemP P t = some e → st.opnd x = .f (.sl sz es) → st.opnd y = .f .nils →
          ∃ b : Bool, (es ≠ [] → b = false) ∧ (Op.equal t (a.eval x) (a.eval y)).run P w = .ok b w ∧ a.eval y = .slice none 0 0 ∧ ∃ A n c, a.eval x = .slice A n c := by
        intro t x y e sz he hx hy
        have h1 := (h.opnd x).1
        have h2 := (h.opnd y).1
        rw [hx] at h1
        rw [hy] at h2
        simp only [ARel, FRel] at h1 h2
        rcases h1 with ⟨e0, ev | ⟨ad, c, ev⟩⟩ | ⟨b, o', c, ev, _⟩
        · exact ⟨true, fun hne => absurd e0 hne, by rw [ev, h2]; exact run_equal_slice_nil w t e none 0 0 (elemP_under he), h2, _, _, _, ev⟩
        · exact ⟨false, fun _ => rfl, by rw [ev, h2]; exact run_equal_slice_nil w t e (some ad) 0 c (elemP_under he), h2, _, _, _, ev⟩
        · exact ⟨false, fun _ => rfl, by rw [ev, h2]; exact run_equal_slice_nil w t e (some ⟨b, o', none⟩) es.length c (elemP_under he), h2, _, _, _, ev⟩
      unfold nilQ at hq
      split at hq
      · rename_i t x y _ hop
        split at hq
        case h_2 => cases hq
        rename_i e he
        split at hq
        · rename_i sz es' hx hy
          simp only [Option.some.injEq, Prod.mk.injEq] at hq
          obtain ⟨rfl, rfl⟩ := hq
          obtain ⟨b, h1, h2, h3, A, n, c, h4⟩ := main t x y e sz he hx hy
          refine ⟨b, h1, ?_⟩
          rw [h3, h4] at h2
          simp only [execOp, hop, h3, h4, eqGuard_at_slice]
          show ((do pure (Next.value (← (binOp .eql t (.slice A n c) (.slice none 0 0) : Sem Value))) : Sem Next)).run P w = _
          simp only [binOp, Sem.run_bind, h2, Result.andThen]
          cases b <;> rfl
        · cases hq
      · rename_i t x y _ hop
        split at hq
        case h_2 => cases hq
        rename_i e he
        split at hq
        · rename_i sz es' hx hy
          simp only [Option.some.injEq, Prod.mk.injEq] at hq
          obtain ⟨rfl, rfl⟩ := hq
          obtain ⟨b, h1, h2, h3, A, n, c, h4⟩ := main t x y e sz he hx hy
          refine ⟨b, h1, ?_⟩
          rw [h3, h4] at h2
          simp only [execOp, hop, h3, h4, eqGuard_at_slice]
          show ((do pure (Next.value (← (binOp .neq t (.slice A n c) (.slice none 0 0) : Sem Value))) : Sem Next)).run P w = _
          simp only [binOp, Sem.run_bind, h2, Result.andThen]
          cases b <;> rfl
        · cases hq
      · cases hq
    obtain ⟨b, h1, h2⟩ := key
    exact wp_value h2 (hn _ hs _ w en (Inv.put h o.dst (by simp only [ARel, FRel]) (by simp [AV.bd])) (hm b h1))
  split at hm
  · split at hm
    · rename_i p st' hs' hm'
      rw [andO_iff] at hm
      exact mstep_sound h hm' hm.1 fun a' w' ⟨en', h'⟩ => hn st' hs' a' w' en' h' hm.2
    · exact hm.elim
  · split at hm
    · split at hm
      · rename_i p st' hs' hm'
        rw [andO_iff] at hm
        exact wstep_sound h hm' hm.1 fun a' w' ⟨en', h'⟩ => hn st' hs' a' w' en' h' hm.2
      · exact hm.elim
    split at hm
    · split at hm
      · rename_i p st' hs' hm'
        rw [andO_iff] at hm
        exact ystep_sound h hm' hm.1 fun a' w' ⟨en', h'⟩ => hn st' hs' a' w' en' h' hm.2
      · exact hm.elim
    split at hm
    · rename_i p v hs' hm'
      rw [andO_iff] at hm
      obtain ⟨hb, hy⟩ := pval_sound h.mem (fun x _ => h.opnd x) hm' hm.1
      exact hy.wp fun v' w' ⟨hx, hr⟩ => hn _ hs' _ w' en (Inv.put (h.step hx) o.dst hr hb) hm.2
    · exact hm.elim
theorem ostep_sound {lr : Option Nat} {o : Oper} {hs : List Hint} {K : St → List Hint → Prop} {next : Act → World → Prop} {Q : Exit → Act → World → Prop} (h : Inv G X ok0 w0 tv st a w en) (hm : ostep P G st o hs K)
    (hn : ∀ st' hs' a' w' en', Inv G X ok0 w0 tv st' a' w' en' → K st' hs' → next a' w') : o.wpIn (FW lr) 0 P a w next Q := by
  unfold ostep at hm
  split at hm
  · split at hm
    · exact astep_sound h hm hn
    · split at hm
      · rename_i st1 hf
        exact astep_sound (St.frzs_inv _ h hf) hm hn
      · exact hm.elim
  · obtain ⟨st1, hs1, en1, h1, h2⟩ := preF_inv h hm
    exact astep_sound h1 h2 hn
theorem put_same {t : Nat} {x : AV} (h : st.sl.getD t (.f .any) = x) : st.fix t x = st := by
  unfold St.fix
  have : st.sl.set t x = st.sl := by
    rcases Nat.lt_or_ge t st.sl.length with ht | ht
    · rw [← h, List.getD_eq_getElem?_getD, List.getElem?_eq_getElem ht]
      simp
    · exact List.set_eq_of_length_le ht
  rw [this]
theorem yielded_of {ops : Array Oper} {j t : Nat} {b : Bool} (hg : guardOf ops j = some t) (hs : a.tmps.getD t undef = .bool b) : yielded ops a.tmps j = some b := by
  unfold yielded
  unfold guardOf at hg
  rw [hg]
  simp only [Option.bind_some]
  rw [Array.getD_eq_getD_getElem?] at hs
  cases h : a.tmps[t]? with
  | none => rw [h] at hs; simp [undef] at hs
  | some v => rw [h] at hs; simp at hs; rw [hs]
theorem slot_sc (h : Inv G X ok0 w0 tv st a w en) {t : Nat} {v : Value} (hs : st.sl.getD t (.f .any) = .f (.sc v)) : a.tmps.getD t undef = v := by
  have := (h.opnd (.tmp t)).1
  simp only [St.opnd, hs, Act.eval, ARel, FRel] at this
  exact this
theorem yielded_none {ops : Array Oper} {j t : Nat} {v : Value} (hg : guardOf ops j = some t) (hs : a.tmps.getD t undef = v) (hv : ∀ b, v ≠ .bool b) : yielded ops a.tmps j = none := by
  unfold yielded
  unfold guardOf at hg
  rw [hg]
  simp only [Option.bind_some]
  rw [Array.getD_eq_getD_getElem?] at hs
  cases h : a.tmps[t]? with
  | none => rfl
  | some u =>
    rw [h] at hs
    simp only [Option.getD_some] at hs
    subst hs
    cases u <;> first | rfl | exact absurd rfl (hv _)
theorem slot_bool (h : Inv G X ok0 w0 tv st a w en) {t : Nat} {b : Bool} (hs : st.sl.getD t (.f .any) = .f (.sc (.bool b))) : a.tmps.getD t undef = .bool b := by
  have := (h.opnd (.tmp t)).1
  simp only [St.opnd, hs, Act.eval, ARel, FRel] at this
  exact this
theorem evalRow_sound {lr : Option Nat} {ops : Array Oper} {E : Act → World → Prop} {Q : Exit → Act → World → Prop} {K : St → List Hint → Prop} (hQ : ∀ st' hs' a' w' en', Inv G X ok0 w0 tv st' a' w' en' → K st' hs' → E a' w') :
    ∀ (l : List Oper) (dd : List Nat) (st : St) (hs : List Hint) (a : Act) (w : World) (en : Env), Inv G X ok0 w0 tv st a w en → evalRow ops (ostep P G) l dd st hs K → wpLF lr P ops E Q l a w
  | [], dd, st, hs, a, w, en, h, hv => hQ st hs a w en h hv
  | o :: r, dd, st, hs, a, w, en, h, hv => by
    have undefs : ∀ d : Option Tmp, Inv G X ok0 w0 tv (st.put d (.f (.sc undef))) (a.put d undef) w en := fun d => h.put d (by simp [ARel, FRel]) (by simp [AV.bd])
    simp only [evalRow] at hv
    simp only [wpLF]
    split at hv
    · rename_i hg
      rw [if_pos (by simp [Region.wanted, hg])]
      exact ostep_sound h hv fun st' hs' a' w' en' h' hk => evalRow_sound hQ r dd st' hs' a' w' en' h' hk
    · rename_i j want hg
      split at hv
      · exact hv.elim
      · rename_i t ht
        split at hv
        · rename_i b hb
          have hy := yielded_of ht (slot_bool h hb)
          have hw : Region.wanted o (yielded ops a.tmps) = (b == want) := by simp [Region.wanted, hg, hy]
          split at hv
          · split at hv
            · rename_i hbw
              rw [if_pos (by rw [hw]; simp [hbw])]
              exact ostep_sound h hv fun st' hs' a' w' en' h' hk => evalRow_sound hQ r _ st' hs' a' w' en' h' hk
            · rename_i hbw
              rw [if_neg (by rw [hw]; simpa using hbw)]
              exact evalRow_sound hQ r _ _ _ _ _ _ (undefs o.dst) hv
          · split at hv
            · rename_i d hs2
              obtain ⟨rfl, hv⟩ := hv
              rw [put_same hb] at hv
              split at hv
              · rename_i hbw
                rw [if_pos (by rw [hw]; simp [hbw])]
                exact ostep_sound h hv fun st' hs' a' w' en' h' hk => evalRow_sound hQ r _ st' hs' a' w' en' h' hk
              · rename_i hbw
                rw [if_neg (by rw [hw]; simpa using hbw)]
                exact evalRow_sound hQ r _ _ _ _ _ _ (undefs o.dst) hv
            · obtain ⟨hv1, hv2⟩ := hv
              cases b with
              | true =>
                have hv := hv1 rfl
                rw [put_same hb] at hv
                cases want with
                | true =>
                  rw [if_pos (by rw [hw]; rfl)]
                  exact ostep_sound h hv fun st' hs' a' w' en' h' hk => evalRow_sound hQ r _ st' hs' a' w' en' h' hk
                | false =>
                  rw [if_neg (by rw [hw]; simp)]
                  exact evalRow_sound hQ r _ _ _ _ _ _ (undefs o.dst) hv
              | false =>
                have hv := hv2 rfl
                rw [put_same hb] at hv
                cases want with
                | true =>
                  rw [if_neg (by rw [hw]; simp)]
                  exact evalRow_sound hQ r _ _ _ _ _ _ (undefs o.dst) hv
                | false =>
                  rw [if_pos (by rw [hw]; rfl)]
                  exact ostep_sound h hv fun st' hs' a' w' en' h' hk => evalRow_sound hQ r _ st' hs' a' w' en' h' hk
            · exact hv.elim
        · rename_i v hnb hb
          have hy := yielded_none ht (slot_sc h hb) (fun b e => hnb b e)
          have hw : Region.wanted o (yielded ops a.tmps) = false := by simp [Region.wanted, hg, hy]
          rw [if_neg (by rw [hw]; simp)]
          exact evalRow_sound hQ r _ _ _ _ _ _ (undefs o.dst) hv
        · exact hv.elim
end
end Go.Sx

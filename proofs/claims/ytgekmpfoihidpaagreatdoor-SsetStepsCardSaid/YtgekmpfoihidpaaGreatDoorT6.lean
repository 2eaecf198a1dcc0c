/-
  Proved: what some functions of the program answer, or a law of the evaluator that shows it, one theorem each; its conditions are the hypotheses that stand ahead of it.
-/
import Derived.Test.YtgekmpfoihidpaaGreatDoorR5
import Derived.KernelRfl
import Derived.Test.YtgekmpfoihidpaaGreatDoorM5
import Derived.Test.YtgekmpfoihidpaaGreatDoorNL
import Derived.Test.YtgekmpfoihidpaaGreatDoorGY
import Derived.Test.YtgekmpfoihidpaaGreatDoorB5
set_option maxRecDepth 100000
set_option maxHeartbeats 4000000
set_option linter.unusedSimpArgs false
set_option linter.unusedVariables false
namespace Go.Sx
open Go.Proofs Sp
/-- The members of a set: the keys of its map. -/
def keysL (L : List (V × V)) : List V := L.map (·.1)
def itK1 (L : List (V × V)) (j : Nat) : List FV := [encV (L.getD j default).1]
def Ssk (M : FV) (Y : Yd) (i : Nat) : St := { sl := slots 13 [(1, .f (.ptr [.ptr [M] 0] 0)), (2, .loc 1 0)], ob := [(0, .yd Y i), (1, .box [.f (.sc Y.u)])], nx := 2 }
def Sit (o n : Int) (t : T) (l : List (V × V)) (i : Nat) : St := { sl := slots 15 [(0, .f (.ptr [encM o n t] 0)), (3, .loc 0 0)], ob := [(0, .box [.lsl 1]), (1, .row 4 62 (cellsVs (keysL (l.take i))))], nx := 2 }
theorem keys_step (l : List (V × V)) (i : Nat) (h : i < l.length) : cellsVs (keysL (l.take i)) ++ [cellsP (l.getD i default).1] = cellsVs (keysL (l.take (i + 1))) := by
  rw [List.take_succ_eq_append_getElem h]
  have e : ∀ a b : List V, cellsVs (a ++ b) = cellsVs a ++ cellsVs b := fun a b => by induction a with
    | nil => simp [cellsVs]
    | cons x a ih => simp [cellsVs, ih]
  have e2 : keysL (l.take i ++ [l[i]]) = keysL (l.take i) ++ [l[i].1] := by unfold keysL; rw [List.map_append]; rfl
  rw [e2, e, List.getD_eq_getElem?_getD, List.getElem?_eq_getElem h]
  simp [cellsVs, cellsP_eq]
theorem set_last (s : Nat) (l : List (List FV)) (z : List FV) (e : List FV) : (l ++ chunk s 1 z).set l.length e = l ++ [e] := by simp [chunk]
theorem keysL_len (l : List (V × V)) : (keysL l).length = l.length := by simp [keysL]
theorem get90 : P.funcs[90]? = some Tryz.f90 := by kernel_rfl
theorem ent90 : entersP P 90 = true := by kernel_rfl
theorem keys_ok (o n : Int) (t : T)  : CallsF P G 90 [.ptr [encM o n t] 0] (encM o n t) := by
  refine sx_fn (hs := [.dec false]) ((E (false)) ∧ E (encM o n t)) get90 ent90 (by kernel_rfl) ?_
  exact ⟨rfl, rfl⟩
theorem get86 : P.funcs[86]? = some Tryz.f86 := by kernel_rfl
theorem ent86 : entersP P 86 = true := by kernel_rfl
theorem smade_ok (o n : Int) (t : T)  : CallsF P G 86 [encM o n t, int 0] (.tup [.ptr [encM o n t] 0, int 0]) := by
  refine sx_fn (hs := [.dec false, .ones, .lfz [0]]) ((E (false)) ∧ ((E (true)) ∧ True) ∧ E (FV.tup [FV.ptr [encM o n t] 0, int 0])) get86 ent86 (by kernel_rfl) ?_
  exact ⟨rfl, ⟨⟨rfl, trivial⟩, rfl⟩⟩
theorem smade_no (M : FV) (e : Int) (he : e ≠ 0) : CallsF P G 86 [M, int e] (.tup [.sc (.pointer none), int e]) := by
  refine sx_fn (hs := [.br [] [.ones, .lfz [0]]]) ((((e != 0) = (true)) → (E (FV.tup [FV.sc (Value.pointer none), int e]))) ∧ (((e != 0) = (false)) → ((((AV.one (AV.f M)) = (true)) ∧ True) ∧ (FV.tup [FV.ptr [M] 0, int 0]) = (FV.tup [FV.sc (Value.pointer none), int e])))) get86 ent86 (by kernel_rfl) ?_
  refine ⟨fun hi => rfl, fun hi => ⟨⟨?_, trivial⟩, ?_⟩⟩
  all_goals (simp_all; done)
theorem get93 : P.funcs[93]? = some Tryz.f93 := by kernel_rfl
theorem ent93 : entersP P 93 = true := by kernel_rfl
theorem sorder_ok (o n : Int) (t : T)  : CallsF P G 93 [.ptr [encM o n t] 0] (int o) := by
  refine sx_fn (hs := [.call (encM o n t), .call (int o)]) ((CallsF P G 90 [FV.ptr [encM o n t] 0] (encM o n t)) ∧ (CallsF P G 75 [encM o n t] (int o)) ∧ E (int o)) get93 ent93 (by kernel_rfl) ?_
  refine ⟨?_, ⟨?_, rfl⟩⟩
  all_goals first | exact keys_ok _ _ _ | exact order_ok _ _ _
theorem get94 : P.funcs[94]? = some Tryz.f94 := by kernel_rfl
theorem ent94 : entersP P 94 = true := by kernel_rfl
theorem slen_ok (o n : Int) (t : T)  : CallsF P G 94 [.ptr [encM o n t] 0] (int n) := by
  refine sx_fn (hs := [.call (encM o n t), .call (int n)]) ((CallsF P G 90 [FV.ptr [encM o n t] 0] (encM o n t)) ∧ (CallsF P G 76 [encM o n t] (int n)) ∧ E (int n)) get94 ent94 (by kernel_rfl) ?_
  refine ⟨?_, ⟨?_, rfl⟩⟩
  all_goals first | exact keys_ok _ _ _ | exact len_ok _ _ _
theorem get96 : P.funcs[96]? = some Tryz.f96 := by kernel_rfl
theorem ent96 : entersP P 96 = true := by kernel_rfl
theorem sheight_ok (o n h : Int) (t : T) (hh : CallsF P G 74 [encM o n t] (int h)) : CallsF P G 96 [.ptr [encM o n t] 0] (int h) := by
  refine sx_fn (hs := [.call (encM o n t), .call (int h)]) ((CallsF P G 90 [FV.ptr [encM o n t] 0] (encM o n t)) ∧ (CallsF P G 74 [encM o n t] (int h)) ∧ E (int h)) get96 ent96 (by kernel_rfl) ?_
  refine ⟨?_, ⟨?_, rfl⟩⟩
  all_goals first | exact keys_ok _ _ _ | exact hh
theorem get100 : P.funcs[100]? = some Tryz.f100 := by kernel_rfl
theorem ent100 : entersP P 100 = true := by kernel_rfl
theorem sall_ok (o n : Int) (t : T)  : CallsF P G 100 [.ptr [encM o n t] 0] (.fn 135 [] [.ptr [.ptr [encM o n t] 0] 0]) := by
  refine sx_fn (hs := [.ones, .lfz [0]]) ((E (true)) ∧ E (FV.fn 135 [] [FV.ptr [FV.ptr [encM o n t] 0] 0])) get100 ent100 (by kernel_rfl) ?_
  exact ⟨rfl, rfl⟩
theorem get135 : P.funcs[135]? = some Tryz.f135 := by kernel_rfl
theorem ent135 : entersP P 135 = true := by kernel_rfl
theorem sall1_ok (Y : Yd) (o n : Int) (t : T) (N : Nat) (hf : ∀ p, p ∈ t.toList → Fine p.1 ∧ Fine p.2) (hN : N = t.toList.length) (hlaw : YLaw P G Y) (hal : ∀ i, i < N → Y.alive i) (hb : ∀ i, i < N → Y.b i = true) (hit : ∀ i, i < N → Y.it i = itK1 t.toList i) : CallsX P G 135 [.sc Y.u, .ptr [.ptr [encM o n t] 0] 0] (Y) (0) (.tup []) (N) := by
  refine sx_fnX (hs := [.ones, .call (encM o n t), .call (.fn 127 [] [.ptr [encM o n t] 0]), .range [(0, 0), (1, 1)] (Ssk (encM o n t) Y) N (itL t.toList) (fun _ => true) (.tup []) none (fun i => [.yield 0, .dec false, .ren [(3, 0), (1, 1)]])]) ((E (true)) ∧ ((AV.one (AV.f (FV.sc (Yd.u Y)))) = (true)) ∧ (CallsF P G 90 [FV.ptr [encM o n t] 0] (encM o n t)) ∧ (CallsF P G 78 [encM o n t] (FV.fn 127 [] [FV.ptr [encM o n t] 0])) ∧ ((E (true)) ∧ ((E (AV.f (FV.ptr [FV.ptr [encM o n t] 0] 0))) ∧ (E (AV.loc 1 0)) ∧ True) ∧ ((E (Ob.yd Y 0)) ∧ (E (Ob.box [AV.f (FV.sc (Yd.u Y))])) ∧ True) ∧ (E (true)) ∧ (((false) = (true)) → ((false) = (true)))) ∧ (E (false)) ∧ (E (true)) ∧ ((∀ (i : Nat), ((i ≤ N) → (E (true))))) ∧ ((∀ (Y : Yd), (((Yd.it Y) = (itL (T.toList t))) → ((((Yd.b Y) = (fun x => true)) → ((((Yd.n Y) = (N)) → (((YLaw P G Y) → (CallsX P G 127 ([FV.sc (Yd.u Y), FV.ptr [encM o n t] 0]) (Y) (0) (FV.tup []) (N))))))))))) ∧ ((∀ (i : Nat), ((i < N) → ((E (true)) ∧ (E (true)) ∧ ((E (Yd.u Y)) ∧ (YLaw P G Y) ∧ (Yd.alive Y i) ∧ ([encV (Prod.fst (List.getD (T.toList t) i default))]) = (Yd.it Y i)) ∧ ((!Yd.b Y i) = (false)) ∧ (E (true)) ∧ (E (true)) ∧ ((E (AV.f (FV.ptr [FV.ptr [encM o n t] 0] 0))) ∧ (E (AV.loc 1 0)) ∧ True) ∧ ((E (Ob.yd Y (i + 1))) ∧ (E (Ob.box [AV.f (FV.sc (Yd.u Y))])) ∧ True) ∧ (E (true)) ∧ (((false) = (true)) → ((false) = (true))))))) ∧ (((0 < N) → (E (true)))) ∧ (E (Y)) ∧ (E (N)) ∧ E (FV.tup [])) get135 ent135 (by kernel_rfl) ?_
  refine ⟨rfl, ⟨?_, ⟨?_, ⟨?_, ⟨⟨rfl, ⟨⟨rfl, ⟨rfl, trivial⟩⟩, ⟨⟨rfl, ⟨rfl, trivial⟩⟩, ⟨rfl, fun hi => ?_⟩⟩⟩⟩, ⟨rfl, ⟨rfl, ⟨fun i => fun hi => rfl, ⟨fun Y => fun hi => fun hi => fun hi => fun hi => ?_, ⟨fun i => fun hi => ⟨rfl, ⟨rfl, ⟨⟨rfl, ⟨?_, ⟨?_, ?_⟩⟩⟩, ⟨?_, ⟨rfl, ⟨rfl, ⟨⟨rfl, ⟨rfl, trivial⟩⟩, ⟨⟨rfl, ⟨rfl, trivial⟩⟩, ⟨rfl, fun hi => ?_⟩⟩⟩⟩⟩⟩⟩⟩⟩, ⟨fun hi => rfl, ⟨rfl, ⟨rfl, rfl⟩⟩⟩⟩⟩⟩⟩⟩⟩⟩⟩⟩⟩
  all_goals first | exact Y.one | exact keys_ok _ _ _ | exact all_ok _ _ _ | exact hlaw | exact hal i (by assumption) | (rw [hb i (by assumption)]; rfl) | (rw [hit i (by assumption)]; rfl) | (rename_i h1 h2 h3; have e : (walkR Y.b t 0).2 = N := (by rw [h2, walkR_all t 0 (fun _ _ _ => rfl), hN, T.toList_length]; simp); have h5 := all1_ok Y o n t hf hi (by rw [h3, hN, T.toList_length]; exact Nat.le_refl _) (by rw [h3, hN, T.toList_length]; exact Nat.le_refl _) h1; rw [e] at h5; exact h5) | assumption
theorem get32 : P.funcs[32]? = some Tryz.f32 := by kernel_rfl
theorem ent32 : entersP P 32 = true := by kernel_rfl
theorem sitems_run (o n : Int) (t : T) (N : Nat) (hf : ∀ p, p ∈ t.toList → Fine p.1 ∧ Fine p.2) (hs : t.size ≤ 131072) (hN : N = t.toList.length) : CallsF P G 32 [.ptr [encM o n t] 0] (.sl 4 (cellsVs (keysL (t.toList.take N)))) := by
  refine sx_fn (hs := [.call (.fn 135 [] [.ptr [.ptr [encM o n t] 0] 0]), .pre [.nrowb 0 0 4 62], .range [(0,0),(1,1)] (Sit o n t t.toList) N (itK1 t.toList) (fun _ => true) (.tup []) none (fun i => [.pca [(4, 1)], .ren [(0,0),(3,1)]]), .frz [1]]) ((CallsF P G 100 [FV.ptr [encM o n t] 0] (FV.fn 135 [] [FV.ptr [FV.ptr [encM o n t] 0] 0])) ∧ ((E (true)) ∧ ((E (AV.f (FV.ptr [encM o n t] 0))) ∧ (E (AV.loc 0 0)) ∧ True) ∧ ((E (Ob.box [AV.lsl 1])) ∧ (E (Ob.row 4 62 [])) ∧ True) ∧ (E (true)) ∧ (((false) = (true)) → ((false) = (true)))) ∧ (E (false)) ∧ (E (true)) ∧ ((∀ (i : Nat), ((i ≤ N) → (E (true))))) ∧ ((∀ (Y : Yd), (((Yd.it Y) = (itK1 (T.toList t))) → ((((Yd.b Y) = (fun x => true)) → ((((Yd.n Y) = (N)) → (((YLaw P G Y) → (CallsX P G 135 ([FV.sc (Yd.u Y), FV.ptr [FV.ptr [encM o n t] 0] 0]) (Y) (0) (FV.tup []) (N))))))))))) ∧ ((∀ (i : Nat), ((i < N) → ((E (true)) ∧ (E (true)) ∧ (E (true)) ∧ ((oneF ([[int 0, int 0, str [], FV.nils]])) ∧ (List.length (cellsVs (keysL (List.take i (T.toList t)))) + 1 ≤ maxLen) ∧ ((List.length (cellsVs (keysL (List.take i (T.toList t)))) + 1) * 56 ≤ 140737488355328) ∧ E (false)) ∧ (E (false)) ∧ ((((0 : Int) ≤ (↑(List.length (cellsVs (keysL (List.take i (T.toList t))))) : Int)) ∧ List.length (cellsVs (keysL (List.take i (T.toList t)))) < List.length (cellsVs (keysL (List.take i (T.toList t))) ++ chunk 4 1 [fV1 (Value.int IntKind.i64 0), fV1 (Value.int IntKind.i64 0), fV1 (Value.string { data := #[] }), fV1 (Value.slice none 0 0)])) ∧ (E (false)) ∧ ((List.length (cellsVs (keysL (List.take i (T.toList t)))) < List.length (cellsVs (keysL (List.take i (T.toList t))) ++ chunk 4 1 [fV1 (Value.int IntKind.i64 0), fV1 (Value.int IntKind.i64 0), fV1 (Value.string { data := #[] }), fV1 (Value.slice none 0 0)])) ∧ (E (false)) ∧ (E (true)) ∧ (E (true)) ∧ (E (true)) ∧ ((E (AV.f (FV.ptr [encM o n t] 0))) ∧ (E (AV.loc 0 0)) ∧ True) ∧ ((E (Ob.box [AV.lsl 1])) ∧ ((Ob.row 4 62 (List.set (cellsVs (keysL (List.take i (T.toList t))) ++ chunk (TypeInfo.size (Tables.types (Program.toTables P))[62]) 1 [fV1 (Value.int IntKind.i64 0), fV1 (Value.int IntKind.i64 0), fV1 (Value.string { data := #[] }), fV1 (Value.slice none 0 0)]) (List.length (cellsVs (keysL (List.take i (T.toList t))))) (cellsP (Prod.fst (List.getD (T.toList t) i default))))) = (Ob.row 4 62 (cellsVs (keysL (List.take (i + 1) (T.toList t)))))) ∧ True) ∧ (E (true)) ∧ (((false) = (true)) → ((false) = (true)))) ∧ (E (false)) ∧ (List.length (cellsVs (keysL (List.take i (T.toList t)))) < List.length (cellsVs (keysL (List.take i (T.toList t))) ++ chunk 4 1 [fV1 (Value.int IntKind.i64 0), fV1 (Value.int IntKind.i64 0), fV1 (Value.string { data := #[] }), fV1 (Value.slice none 0 0)])) ∧ (E (true)) ∧ (E (true)) ∧ (E (true)) ∧ ((E (AV.f (FV.ptr [encM o n t] 0))) ∧ (E (AV.loc 0 0)) ∧ True) ∧ ((E (Ob.box [AV.lsl 1])) ∧ ((Ob.row 4 62 (List.set (cellsVs (keysL (List.take i (T.toList t))) ++ chunk (TypeInfo.size (Tables.types (Program.toTables P))[62]) 1 [fV1 (Value.int IntKind.i64 0), fV1 (Value.int IntKind.i64 0), fV1 (Value.string { data := #[] }), fV1 (Value.slice none 0 0)]) (List.length (cellsVs (keysL (List.take i (T.toList t))))) (cellsP (Prod.fst (List.getD (T.toList t) i default))))) = (Ob.row 4 62 (cellsVs (keysL (List.take (i + 1) (T.toList t)))))) ∧ True) ∧ (E (true)) ∧ (((false) = (true)) → ((false) = (true)))) ∧ (E (false)) ∧ (((0 : Int) ≤ (↑(List.length (cellsVs (keysL (List.take i (T.toList t))))) : Int)) ∧ List.length (cellsVs (keysL (List.take i (T.toList t)))) < List.length (cellsVs (keysL (List.take i (T.toList t))) ++ chunk 4 1 [fV1 (Value.int IntKind.i64 0), fV1 (Value.int IntKind.i64 0), fV1 (Value.string { data := #[] }), fV1 (Value.slice none 0 0)])) ∧ (E (false)) ∧ (List.length (cellsVs (keysL (List.take i (T.toList t)))) < List.length (cellsVs (keysL (List.take i (T.toList t))) ++ chunk 4 1 [fV1 (Value.int IntKind.i64 0), fV1 (Value.int IntKind.i64 0), fV1 (Value.string { data := #[] }), fV1 (Value.slice none 0 0)])) ∧ (E (true)) ∧ (E (true)) ∧ (E (true)) ∧ ((E (AV.f (FV.ptr [encM o n t] 0))) ∧ (E (AV.loc 0 0)) ∧ True) ∧ ((E (Ob.box [AV.lsl 1])) ∧ ((Ob.row 4 62 (List.set (cellsVs (keysL (List.take i (T.toList t))) ++ chunk (TypeInfo.size (Tables.types (Program.toTables P))[62]) 1 [fV1 (Value.int IntKind.i64 0), fV1 (Value.int IntKind.i64 0), fV1 (Value.string { data := #[] }), fV1 (Value.slice none 0 0)]) (List.length (cellsVs (keysL (List.take i (T.toList t))))) (cellsP (Prod.fst (List.getD (T.toList t) i default))))) = (Ob.row 4 62 (cellsVs (keysL (List.take (i + 1) (T.toList t)))))) ∧ True) ∧ (E (true)) ∧ (((false) = (true)) → ((false) = (true))))))) ∧ (((0 < N) → (E (true)))) ∧ E (encI (keysL (List.take N (T.toList t))))) get32 ent32 (by kernel_rfl) ?_
  refine ⟨?_, ⟨⟨rfl, ⟨⟨rfl, ⟨rfl, trivial⟩⟩, ⟨⟨rfl, ⟨rfl, trivial⟩⟩, ⟨rfl, fun hi => ?_⟩⟩⟩⟩, ⟨rfl, ⟨rfl, ⟨fun i => fun hi => rfl, ⟨fun Y => fun hi => fun hi => fun hi => fun hi => ?_, ⟨fun i => fun hi => ⟨rfl, ⟨rfl, ⟨rfl, ⟨⟨?_, ⟨?_, ⟨?_, rfl⟩⟩⟩, ⟨rfl, ⟨⟨⟨?_, ?_⟩, ⟨rfl, ⟨⟨?_, ⟨rfl, ⟨rfl, ⟨rfl, ⟨rfl, ⟨⟨rfl, ⟨rfl, trivial⟩⟩, ⟨⟨rfl, ⟨?_, trivial⟩⟩, ⟨rfl, fun hi => ?_⟩⟩⟩⟩⟩⟩⟩⟩, ⟨rfl, ⟨?_, ⟨rfl, ⟨rfl, ⟨rfl, ⟨⟨rfl, ⟨rfl, trivial⟩⟩, ⟨⟨rfl, ⟨?_, trivial⟩⟩, ⟨rfl, fun hi => ?_⟩⟩⟩⟩⟩⟩⟩⟩⟩⟩⟩, ⟨rfl, ⟨⟨?_, ?_⟩, ⟨rfl, ⟨?_, ⟨rfl, ⟨rfl, ⟨rfl, ⟨⟨rfl, ⟨rfl, trivial⟩⟩, ⟨⟨rfl, ⟨?_, trivial⟩⟩, ⟨rfl, fun hi => ?_⟩⟩⟩⟩⟩⟩⟩⟩⟩⟩⟩⟩⟩⟩⟩⟩, ⟨fun hi => rfl, rfl⟩⟩⟩⟩⟩⟩⟩⟩
  all_goals first | exact sall_ok _ _ _ | (exact congrArg (Ob.row 4 62) ((set_last _ _ _ _).trans (keys_step _ _ (by omega)))) | (have h8 := T.toList_length t; simp only [cellsVs_length, keysL_len, List.length_take, chunk, List.length_cons, List.length_nil, maxLen]; omega) | (have h8 := T.toList_length t; simp only [List.length_append, cellsVs_length, keysL_len, List.length_take, chunk, List.length_cons, List.length_nil, maxLen]; omega) | (rename_i h1 h2 h3; exact sall1_ok Y o n t N hf hN hi (fun i hi2 => ⟨fun j _ => congrFun h2 j, by omega⟩) (fun i _ => congrFun h2 i) (fun i _ => congrFun h1 i)) | assumption | (intro x hx; simp at hx; rcases hx with rfl | rfl | rfl | rfl <;> rfl)
end Go.Sx
set_option maxRecDepth 100000
set_option maxHeartbeats 4000000
set_option linter.unusedSimpArgs false
set_option linter.unusedVariables false
namespace Go.Sx
open Go.Proofs Sp
/-- Members as pairs with no value. -/
def wL (l : List V) : List (V × V) := l.map fun v => (v, nilW)
def cellsN (l : List V) : List (List FV) := l.map fun v => cellsP v ++ [int 0, int 0, str [], .nils]
def Sso (o : Int) (l : List V) (i : Nat) : St := { sl := slots 29 [(0, .f (int o)), (6, .lsl 0), (9, .f (encI l)), (10, .f (int (cellsVs l).length)), (11, .f (int (i : Int)))], ob := [(0, .row 8 96 (cellsN (l.take i)))], nx := 1 }
def Smk (o : Int) (l : List V) (i : Nat) : St := { sl := slots 26 [(0, .f (int o)), (1, .f (encI l)), (5, .lsl 0), (6, .f (int (i : Int)))], ob := [(0, .row 8 96 (cellsN (l.take i)))], nx := 1 }
def Swi (o : Int) (L : List (V × V)) (i : Nat) : St := { sl := slots 32 [(0, .f (.ptr [.ptr [int o, encPs L] 0] 0)), (3, .lsl 0), (4, .f (int (i : Int)))], ob := [(0, .row 4 62 (cellsVs (keysL (L.take i))))], nx := 1 }
theorem cellsN_len (l : List V) : (cellsN l).length = l.length := List.length_map ..
theorem cellsN_step (l : List V) (i : Nat) (h : i < l.length) : cellsN (l.take i) ++ [cellsP (l.getD i default) ++ [int 0, int 0, str [], .nils]] = cellsN (l.take (i + 1)) := by
  rw [List.take_succ_eq_append_getElem h]
  unfold cellsN; rw [List.map_append, List.getD_eq_getElem?_getD, List.getElem?_eq_getElem h]; rfl
theorem cellsN_weak {w : World} {ok : Nat → Prop} {b : Nat} : ∀ (l : List V) (o : Nat), FRelE w ok 8 (cellsN l) b o → FRelE w ok 8 (cellsPs (wL l)) b o
  | [], o, h => by simp [wL, cellsPs, FRelE]
  | v :: l, o, h => by
    simp only [cellsN, wL, List.map_cons, cellsPs, FRelE] at h ⊢
    obtain ⟨h1, h2, h3⟩ := h
    refine ⟨rfl, ?_, cellsN_weak l _ h3⟩
    rw [nilW_cells]
    exact relC_le _ _ _ (LeL.app _ _ _ leL_zero) h2
theorem le_cellsN (l : List V) : Le (.sl 8 (cellsN l)) (encPs (wL l)) := by
  intro w ok v h
  have e : (cellsN l).length = (cellsPs (wL l)).length := by rw [cellsN_len, cellsPs_length]; simp [wL]
  simp only [FRel, encPs] at h ⊢
  rcases h with ⟨h1, h2⟩ | ⟨b, o, c, h1, h2, h3, h4⟩
  · left
    refine ⟨?_, h2⟩
    have h5 := congrArg List.length h1
    rw [e] at h5
    exact List.eq_nil_of_length_eq_zero h5
  · right
    exact ⟨b, o, c, by rw [← e]; exact h1, by rw [← e]; exact h2, h3, cellsN_weak _ _ h4⟩
theorem wL_len (l : List V) : (wL l).length = l.length := by simp [wL]
theorem get20 : P.funcs[20]? = some Tryz.f20 := by kernel_rfl
theorem ent20 : entersP P 20 = true := by kernel_rfl
theorem sof_run (o n : Int) (t : T) (l : List V) (N : Nat) (hN : N = l.length) (hl : l.length ≤ 1000000000000) (h1 : CallsF P G 10 [int o, .sl 8 (cellsN l)] (.tup [encM o n t, int 0])) : CallsF P G 20 [int o, encI l] (.tup [.ptr [encM o n t] 0, int 0]) := by
  refine sx_fn (hs := [Hint.pre [Hint.nrow 6 8 96], .loop [(0, 0)] [(3, 0)] (Sso o l) (N) (fun i => [.br [.el (cellsP (List.getD l i default))] []]), .br [.el (cellsP (List.getD l N default))] [.lfz [0], .call (FV.tup [encM o n t, int 0]), .call (FV.tup [FV.ptr [encM o n t] 0, int 0])]]) (let z1 := List.getD l N default; let z2 := Value.int IntKind.i64 0; let z3 := (↑(List.length (cellsVs l)) : Int); let z4 := Value.slice none 0 0; let z5 := cellsN (List.take N l); let z6 := FV.tup [FV.ptr [encM o n t] 0, int 0]; (E true ∧ (E (AV.f (int o)) ∧ E (AV.lsl 0) ∧ E (AV.f (encI l)) ∧ E (AV.f (int z3)) ∧ AV.f (int 0) = AV.f (int (Int.ofNat 0)) ∧ True) ∧ (E (Ob.row 8 96 []) ∧ True) ∧ E true ∧ (false = true → false = true)) ∧ (∀ (i : Nat), (let z7 := List.getD l i default; i < N → Br (decide ((i : Int) < z3)) ((E 4 ∧ (0 : Int) ≤ (i : Int) ∧ (cellsVs l)[i]? = some (cellsP z7)) ∧ (oneF ([[int (V.kind z7), int (V.num z7), str (V.text z7), encI (V.items z7), int 0, int 0, str [], FV.nils]]) ∧ List.length (cellsN (List.take i l)) + List.length (chunk 8 1 [int (V.kind z7), int (V.num z7), str (V.text z7), encI (V.items z7), fV1 z2, fV1 z2, fV1 (Value.string { data := #[] }), fV1 z4]) ≤ maxLen ∧ (List.length (cellsN (List.take i l)) + List.length (chunk 8 1 [int (V.kind z7), int (V.num z7), str (V.text z7), encI (V.items z7), fV1 z2, fV1 z2, fV1 (Value.string { data := #[] }), fV1 z4])) * 112 ≤ 140737488355328 ∧ E false) ∧ E true ∧ (E (AV.f (int o)) ∧ E (AV.lsl 0) ∧ E (AV.f (encI l)) ∧ E (AV.f (int z3)) ∧ AV.f (int (IntKind.wrap IntKind.i64 ((i : Int) + 1))) = AV.f (int (↑(i + 1) : Int)) ∧ True) ∧ (Ob.row 8 96 (cellsN (List.take i l) ++ chunk (TypeInfo.size (Tables.types (Program.toTables P))[96]) 1 [int (V.kind z7), int (V.num z7), str (V.text z7), encI (V.items z7), fV1 z2, fV1 z2, fV1 (Value.string { data := #[] }), fV1 z4]) = Ob.row 8 96 (cellsN (List.take (i + 1) l)) ∧ True) ∧ E true ∧ (St.nd (Sso o l (i + 1)) = true → false = true)) False)) ∧ Br (decide ((N : Int) < z3)) ((E 4 ∧ (0 : Int) ≤ (N : Int) ∧ (cellsVs l)[N]? = some (cellsP z1)) ∧ (oneF ([[int (V.kind z1), int (V.num z1), str (V.text z1), encI (V.items z1), int 0, int 0, str [], FV.nils]]) ∧ List.length z5 + List.length (chunk 8 1 [int (V.kind z1), int (V.num z1), str (V.text z1), encI (V.items z1), fV1 z2, fV1 z2, fV1 (Value.string { data := #[] }), fV1 z4]) ≤ maxLen ∧ (List.length z5 + List.length (chunk 8 1 [int (V.kind z1), int (V.num z1), str (V.text z1), encI (V.items z1), fV1 z2, fV1 z2, fV1 (Value.string { data := #[] }), fV1 z4])) * 112 ≤ 140737488355328 ∧ E false) ∧ False) (CallsF P G 10 [int o, FV.sl 8 z5] (FV.tup [encM o n t, int 0]) ∧ CallsF P G 86 [encM o n t, int 0] z6 ∧ E z6)) get20 ent20 (by kernel_rfl) ?_
  refine ⟨⟨rfl, ⟨rfl, rfl, rfl, rfl, ?_, trivial⟩, ⟨rfl, trivial⟩, rfl, fun hi => ?_⟩, fun i => fun hlt => ⟨fun hi => ⟨⟨rfl, ?_, ?_⟩, ⟨?_, ?_, ?_, rfl⟩, rfl, ⟨rfl, rfl, rfl, rfl, ?_, trivial⟩, ⟨?_, trivial⟩, rfl, fun hi => ?_⟩, fun hi => ?_⟩, fun hi => ⟨⟨rfl, ?_, ?_⟩, ⟨?_, ?_, ?_, rfl⟩, ?_⟩, fun hi => ⟨?_, ?_, rfl⟩⟩
  all_goals first | exact cellsVs_get l _ (by omega) | (simp only [cellsVs_length, decide_eq_true_eq, decide_eq_false_iff_not] at *; omega) | (exact congrArg (fun x => AV.f (int x)) (wrapS ((i : Int) + 1) (by omega) (by omega))) | (exact congrArg (Ob.row 8 96) (cellsN_step _ _ (by omega))) | (simp only [cellsN_len, List.length_take, chunk, List.length_cons, List.length_nil, maxLen]; omega) | (rw [hN, List.take_length]; exact h1) | exact smade_ok _ _ _ | assumption | (intro x hx; simp at hx; rcases hx with rfl | rfl | rfl | rfl | rfl | rfl | rfl | rfl <;> rfl) | (simp [V.kind, V.num, V.text, V.items, *]; done)
theorem get45 : P.funcs[45]? = some Tryz.f45 := by kernel_rfl
theorem ent45 : entersP P 45 = true := by kernel_rfl
theorem snew_ok (o : Int) (ho : 0 ≤ o ∧ o ≤ 5) : CallsF P G 45 [int o] (.tup [.ptr [encM o 0 .nil] 0, int 0]) := by
  refine sx_fn (hs := [.call (FV.tup [encM o 0 T.nil, int 0]), .call (FV.tup [FV.ptr [encM o 0 T.nil] 0, int 0])]) (let z1 := FV.tup [FV.ptr [encM o 0 T.nil] 0, int 0]; CallsF P G 63 [int o] (FV.tup [encM o 0 T.nil, int 0]) ∧ CallsF P G 86 [encM o 0 T.nil, int 0] z1 ∧ E z1) get45 ent45 (by kernel_rfl) ?_
  refine ⟨?_, ?_, rfl⟩
  all_goals first | exact new_ok _ ho | exact smade_ok _ _ _
theorem snew_bad (o e : Int) (he : e = 4) (ho : o < 0 ∨ 5 < o) : CallsF P G 45 [int o] (.tup [.sc (.pointer none), int e]) := by
  refine sx_fn (hs := let z1 := FV.tup [FV.sc (Value.pointer none), int e]; [.call z1, .call z1]) (let z1 := FV.tup [FV.sc (Value.pointer none), int e]; CallsF P G 63 [int o] z1 ∧ CallsF P G 86 [FV.sc (Value.pointer none), int e] z1 ∧ E z1) get45 ent45 (by kernel_rfl) ?_
  refine ⟨?_, ?_, rfl⟩
  all_goals first | (rw [he]; exact new_bad _ ho) | exact smade_no _ _ (by omega)
theorem get47 : P.funcs[47]? = some Tryz.f47 := by kernel_rfl
theorem ent47 : entersP P 47 = true := by kernel_rfl
theorem shas_ok (o n e : Int) (t : T) (k w : V) (b : Bool) (h : CallsF P G 73 [encM o n t, encV k] (.tup [encV w, bool b, int e])) : CallsF P G 47 [.ptr [encM o n t] 0, encV k] (.tup [bool b, int e]) := by
  refine sx_fn (hs := [.pcb [], .call (encM o n t), .call (.tup [encV w, bool b, int e])]) (let z1 := FV.tup [encV w, bool b, int e]; let z2 := FV.tup [bool b, int e]; let z3 := CallsF P G 73 [encM o n t, encV k] z1 ∧ E false ∧ E false ∧ E true ∧ E z2; E true ∧ E false ∧ (CallsF P G 90 [FV.ptr [encM o n t] 0] (encM o n t) ∧ E false ∧ (E false ∧ z3 ∧ E false ∧ CallsF P G 73 [encM o n t, encV k] z1 ∧ E false ∧ E true ∧ E z2) ∧ E false ∧ E false ∧ CallsF P G 73 [encM o n t, encV k] z1 ∧ E false ∧ E true ∧ E z2) ∧ (E false ∧ (CallsF P G 90 [FV.ptr [encM o n t] 0] (encM o n t) ∧ E false ∧ z3 ∧ E false ∧ CallsF P G 73 [encM o n t, encV k] z1 ∧ E false ∧ E true ∧ E z2) ∧ E false ∧ CallsF P G 90 [FV.ptr [encM o n t] 0] (encM o n t) ∧ E false ∧ CallsF P G 73 [encM o n t, encV k] z1 ∧ E false ∧ E true ∧ E z2) ∧ E false ∧ (CallsF P G 90 [FV.ptr [encM o n t] 0] (encM o n t) ∧ E false ∧ E false ∧ CallsF P G 73 [encM o n t, encV k] z1 ∧ E false ∧ E true ∧ E z2) ∧ E false ∧ CallsF P G 90 [FV.ptr [encM o n t] 0] (encM o n t) ∧ E false ∧ CallsF P G 73 [encM o n t, encV k] z1 ∧ E false ∧ E true ∧ E z2) get47 ent47 (by kernel_rfl) ?_
  refine ⟨rfl, rfl, ⟨?_, rfl, ⟨rfl, ⟨?_, rfl, rfl, rfl, rfl⟩, rfl, ?_, rfl, rfl, rfl⟩, rfl, rfl, ?_, rfl, rfl, rfl⟩, ⟨rfl, ⟨?_, rfl, ⟨?_, rfl, rfl, rfl, rfl⟩, rfl, ?_, rfl, rfl, rfl⟩, rfl, ?_, rfl, ?_, rfl, rfl, rfl⟩, rfl, ⟨?_, rfl, rfl, ?_, rfl, rfl, rfl⟩, rfl, ?_, rfl, ?_, rfl, rfl, rfl⟩
  all_goals first | exact keys_ok _ _ _ | exact h
theorem get51 : P.funcs[51]? = some Tryz.f51 := by kernel_rfl
theorem ent51 : entersP P 51 = true := by kernel_rfl
theorem sconj_ok (o n n2 : Int) (t t2 : T) (k : V) (h : CallsF P G 79 [encM o n t, encV k, .agg [int 0, int 0, str [], .nils]] (.tup [encM o n2 t2, int 0])) : CallsF P G 51 [.ptr [encM o n t] 0, encV k] (.tup [.ptr [encM o n2 t2] 0, int 0]) := by
  refine sx_fn (hs := [.nat 12, .call (encM o n t), .call (FV.tup [encM o n2 t2, int 0]), .call (FV.tup [FV.ptr [encM o n2 t2] 0, int 0])]) (let z1 := FV.tup [FV.ptr [encM o n2 t2] 0, int 0]; E true ∧ CallsF P G 90 [FV.ptr [encM o n t] 0] (encM o n t) ∧ CallsF P G 79 [encM o n t, encV k, FV.agg [int 0, int 0, str [], FV.nils]] (FV.tup [encM o n2 t2, int 0]) ∧ CallsF P G 86 [encM o n2 t2, int 0] z1 ∧ E z1) get51 ent51 (by kernel_rfl) ?_
  refine ⟨rfl, ?_, ?_, ?_, rfl⟩
  all_goals first | exact keys_ok _ _ _ | exact h | exact smade_ok _ _ _
theorem sconj_no (o n e : Int) (t : T) (k : V) (he : e ≠ 0) (h : CallsF P G 79 [encM o n t, encV k, .agg [int 0, int 0, str [], .nils]] (.tup [.sc (.pointer none), int e])) : CallsF P G 51 [.ptr [encM o n t] 0, encV k] (.tup [.sc (.pointer none), int e]) := by
  refine sx_fn (hs := let z1 := FV.tup [FV.sc (Value.pointer none), int e]; [.nat 12, .call (encM o n t), .call z1, .call z1]) (let z1 := FV.tup [FV.sc (Value.pointer none), int e]; E true ∧ CallsF P G 90 [FV.ptr [encM o n t] 0] (encM o n t) ∧ CallsF P G 79 [encM o n t, encV k, FV.agg [int 0, int 0, str [], FV.nils]] z1 ∧ CallsF P G 86 [FV.sc (Value.pointer none), int e] z1 ∧ E z1) get51 ent51 (by kernel_rfl) ?_
  refine ⟨rfl, ?_, ?_, ?_, rfl⟩
  all_goals first | exact keys_ok _ _ _ | exact h | exact smade_no _ _ he
theorem get49 : P.funcs[49]? = some Tryz.f49 := by kernel_rfl
theorem ent49 : entersP P 49 = true := by kernel_rfl
theorem sdisj_ok (o n n2 : Int) (t t2 : T) (k : V) (h : CallsF P G 110 [encM o n t, encV k] (.tup [encM o n2 t2, int 0])) : CallsF P G 49 [.ptr [encM o n t] 0, encV k] (.tup [.ptr [encM o n2 t2] 0, int 0]) := by
  refine sx_fn (hs := [.nat 11, .call (encM o n t), .call (FV.tup [encM o n2 t2, int 0]), .call (FV.tup [FV.ptr [encM o n2 t2] 0, int 0])]) (let z1 := FV.tup [FV.ptr [encM o n2 t2] 0, int 0]; E true ∧ CallsF P G 90 [FV.ptr [encM o n t] 0] (encM o n t) ∧ CallsF P G 110 [encM o n t, encV k] (FV.tup [encM o n2 t2, int 0]) ∧ CallsF P G 86 [encM o n2 t2, int 0] z1 ∧ E z1) get49 ent49 (by kernel_rfl) ?_
  refine ⟨rfl, ?_, ?_, ?_, rfl⟩
  all_goals first | exact keys_ok _ _ _ | exact h | exact smade_ok _ _ _
theorem sdisj_no (o n e : Int) (t : T) (k : V) (he : e ≠ 0) (h : CallsF P G 110 [encM o n t, encV k] (.tup [.sc (.pointer none), int e])) : CallsF P G 49 [.ptr [encM o n t] 0, encV k] (.tup [.sc (.pointer none), int e]) := by
  refine sx_fn (hs := let z1 := FV.tup [FV.sc (Value.pointer none), int e]; [.nat 11, .call (encM o n t), .call z1, .call z1]) (let z1 := FV.tup [FV.sc (Value.pointer none), int e]; E true ∧ CallsF P G 90 [FV.ptr [encM o n t] 0] (encM o n t) ∧ CallsF P G 110 [encM o n t, encV k] z1 ∧ CallsF P G 86 [FV.sc (Value.pointer none), int e] z1 ∧ E z1) get49 ent49 (by kernel_rfl) ?_
  refine ⟨rfl, ?_, ?_, ?_, rfl⟩
  all_goals first | exact keys_ok _ _ _ | exact h | exact smade_no _ _ he
theorem get88 : P.funcs[88]? = some Tryz.f88 := by kernel_rfl
theorem ent88 : entersP P 88 = true := by kernel_rfl
theorem rmake_run (o : Int) (l : List V) (L : List (V × V)) (N : Nat) (hN : N = l.length) (hl : l.length ≤ 1000000000000) (h1 : CallsF P G 69 [int o, .sl 8 (cellsN l)] (.ptr [int o, encPs L] 0)) : CallsF P G 88 [int o, encI l] (.ptr [.ptr [int o, encPs L] 0] 0) := by
  refine sx_fn (hs := [Hint.pre [Hint.nrow 5 8 96], .loop [(0, 0)] [(2, 0)] (Smk o l) (N) (fun i => [.br [.el (cellsP (List.getD l i default))] []]), .br [.el (cellsP (List.getD l N default))] [.lfz [0], .call (FV.ptr [int o, encPs L] 0), .ones, .lfz [1]]]) (let z1 := List.getD l N default; let z2 := Value.int IntKind.i64 0; let z3 := Value.slice none 0 0; let z4 := cellsN (List.take N l); let z5 := (↑(List.length (cellsVs l)) : Int); (E true ∧ (E (AV.f (int o)) ∧ E (AV.f (encI l)) ∧ E (AV.lsl 0) ∧ AV.f (int 0) = AV.f (int (Int.ofNat 0)) ∧ True) ∧ (E (Ob.row 8 96 []) ∧ True) ∧ E true ∧ (false = true → false = true)) ∧ (∀ (i : Nat), (let z6 := List.getD l i default; i < N → Br (decide ((i : Int) < z5)) ((E 4 ∧ (0 : Int) ≤ (i : Int) ∧ (cellsVs l)[i]? = some (cellsP z6)) ∧ (oneF ([[int (V.kind z6), int (V.num z6), str (V.text z6), encI (V.items z6), int 0, int 0, str [], FV.nils]]) ∧ List.length (cellsN (List.take i l)) + List.length (chunk 8 1 [int (V.kind z6), int (V.num z6), str (V.text z6), encI (V.items z6), fV1 z2, fV1 z2, fV1 (Value.string { data := #[] }), fV1 z3]) ≤ maxLen ∧ (List.length (cellsN (List.take i l)) + List.length (chunk 8 1 [int (V.kind z6), int (V.num z6), str (V.text z6), encI (V.items z6), fV1 z2, fV1 z2, fV1 (Value.string { data := #[] }), fV1 z3])) * 112 ≤ 140737488355328 ∧ E false) ∧ E true ∧ (E (AV.f (int o)) ∧ E (AV.f (encI l)) ∧ E (AV.lsl 0) ∧ AV.f (int (IntKind.wrap IntKind.i64 ((i : Int) + 1))) = AV.f (int (↑(i + 1) : Int)) ∧ True) ∧ (Ob.row 8 96 (cellsN (List.take i l) ++ chunk (TypeInfo.size (Tables.types (Program.toTables P))[96]) 1 [int (V.kind z6), int (V.num z6), str (V.text z6), encI (V.items z6), fV1 z2, fV1 z2, fV1 (Value.string { data := #[] }), fV1 z3]) = Ob.row 8 96 (cellsN (List.take (i + 1) l)) ∧ True) ∧ E true ∧ (St.nd (Smk o l (i + 1)) = true → false = true)) False)) ∧ Br (decide ((N : Int) < z5)) ((E 4 ∧ (0 : Int) ≤ (N : Int) ∧ (cellsVs l)[N]? = some (cellsP z1)) ∧ (oneF ([[int (V.kind z1), int (V.num z1), str (V.text z1), encI (V.items z1), int 0, int 0, str [], FV.nils]]) ∧ List.length z4 + List.length (chunk 8 1 [int (V.kind z1), int (V.num z1), str (V.text z1), encI (V.items z1), fV1 z2, fV1 z2, fV1 (Value.string { data := #[] }), fV1 z3]) ≤ maxLen ∧ (List.length z4 + List.length (chunk 8 1 [int (V.kind z1), int (V.num z1), str (V.text z1), encI (V.items z1), fV1 z2, fV1 z2, fV1 (Value.string { data := #[] }), fV1 z3])) * 112 ≤ 140737488355328 ∧ E false) ∧ False) (CallsF P G 69 [int o, FV.sl 8 z4] (FV.ptr [int o, FV.sl 8 (cellsPs L)] 0) ∧ (E true ∧ True) ∧ E (FV.ptr [FV.ptr [int o, FV.sl 8 (cellsPs L)] 0] 0))) get88 ent88 (by kernel_rfl) ?_
  refine ⟨⟨rfl, ⟨rfl, rfl, rfl, ?_, trivial⟩, ⟨rfl, trivial⟩, rfl, fun hi => ?_⟩, fun i => fun hlt => ⟨fun hi => ⟨⟨rfl, ?_, ?_⟩, ⟨?_, ?_, ?_, rfl⟩, rfl, ⟨rfl, rfl, rfl, ?_, trivial⟩, ⟨?_, trivial⟩, rfl, fun hi => ?_⟩, fun hi => ?_⟩, fun hi => ⟨⟨rfl, ?_, ?_⟩, ⟨?_, ?_, ?_, rfl⟩, ?_⟩, fun hi => ⟨?_, ⟨rfl, trivial⟩, rfl⟩⟩
  all_goals first | exact cellsVs_get l _ (by omega) | (simp only [cellsVs_length, decide_eq_true_eq, decide_eq_false_iff_not] at *; omega) | (exact congrArg (fun x => AV.f (int x)) (wrapS ((i : Int) + 1) (by omega) (by omega))) | (exact congrArg (Ob.row 8 96) (cellsN_step _ _ (by omega))) | (simp only [cellsN_len, List.length_take, chunk, List.length_cons, List.length_nil, maxLen]; omega) | (rw [hN, List.take_length]; exact h1) | assumption | (intro x hx; simp at hx; rcases hx with rfl | rfl | rfl | rfl | rfl | rfl | rfl | rfl <;> rfl) | (simp [V.kind, V.num, V.text, V.items, *]; done)
theorem get91 : P.funcs[91]? = some Tryz.f91 := by kernel_rfl
theorem ent91 : entersP P 91 = true := by kernel_rfl
theorem ritems_run (o : Int) (L : List (V × V)) (N : Nat) (hN : N = L.length) (hl : L.length ≤ 1000000) : CallsF P G 91 [.ptr [.ptr [int o, encPs L] 0] 0] (.sl 4 (cellsVs (keysL (L.take N)))) := by
  refine sx_fn (hs := [Hint.pre [Hint.nrow 3 4 62], .loop [(0, 0)] [(2, 0)] (Swi o L) (N) (fun i => [.br [.el (cellsP (Prod.fst (List.getD L i default)) ++ cellsP (Prod.snd (List.getD L i default)))] []]), .br [.el (cellsP (Prod.fst (List.getD L N default)) ++ cellsP (Prod.snd (List.getD L N default)))] [.lfz [0]]]) (let z1 := Prod.fst (List.getD L N default); let z2 := AV.f (FV.ptr [FV.ptr [int o, FV.sl 8 (cellsPs L)] 0] 0); let z3 := keysL (List.take N L); let z4 := (↑(List.length (cellsPs L)) : Int); (E true ∧ (E z2 ∧ E (AV.lsl 0) ∧ AV.f (int 0) = AV.f (int (Int.ofNat 0)) ∧ True) ∧ (E (Ob.row 4 62 []) ∧ True) ∧ E true ∧ (false = true → false = true)) ∧ (∀ (i : Nat), (let z5 := Prod.fst (List.getD L i default); let z6 := keysL (List.take i L); i < N → Br (decide ((i : Int) < z4)) ((E 8 ∧ (0 : Int) ≤ (i : Int) ∧ (cellsPs L)[i]? = some (int (V.kind z5) :: int (V.num z5) :: str (V.text z5) :: encI (V.items z5) :: cellsP (Prod.snd (List.getD L i default)))) ∧ (oneF ([cellsP z5]) ∧ List.length (cellsVs z6) + List.length (chunk 4 1 (cellsP z5)) ≤ maxLen ∧ (List.length (cellsVs z6) + List.length (chunk 4 1 (cellsP z5))) * 56 ≤ 140737488355328 ∧ E false) ∧ E true ∧ (E z2 ∧ E (AV.lsl 0) ∧ AV.f (int (IntKind.wrap IntKind.i64 ((i : Int) + 1))) = AV.f (int (↑(i + 1) : Int)) ∧ True) ∧ (Ob.row 4 62 (cellsVs z6 ++ chunk (TypeInfo.size (Tables.types (Program.toTables P))[62]) 1 (cellsP z5)) = Ob.row 4 62 (cellsVs (keysL (List.take (i + 1) L))) ∧ True) ∧ E true ∧ (St.nd (Swi o L (i + 1)) = true → false = true)) False)) ∧ Br (decide ((N : Int) < z4)) ((E 8 ∧ (0 : Int) ≤ (N : Int) ∧ (cellsPs L)[N]? = some (int (V.kind z1) :: int (V.num z1) :: str (V.text z1) :: encI (V.items z1) :: cellsP (Prod.snd (List.getD L N default)))) ∧ (oneF ([cellsP z1]) ∧ List.length (cellsVs z3) + List.length (chunk 4 1 (cellsP z1)) ≤ maxLen ∧ (List.length (cellsVs z3) + List.length (chunk 4 1 (cellsP z1))) * 56 ≤ 140737488355328 ∧ E false) ∧ False) (E (encI z3))) get91 ent91 (by kernel_rfl) ?_
  refine ⟨⟨rfl, ⟨rfl, rfl, ?_, trivial⟩, ⟨rfl, trivial⟩, rfl, fun hi => ?_⟩, fun i => fun hlt => ⟨fun hi => ⟨⟨rfl, ?_, ?_⟩, ⟨?_, ?_, ?_, rfl⟩, rfl, ⟨rfl, rfl, ?_, trivial⟩, ⟨?_, trivial⟩, rfl, fun hi => ?_⟩, fun hi => ?_⟩, fun hi => ⟨⟨rfl, ?_, ?_⟩, ⟨?_, ?_, ?_, rfl⟩, ?_⟩, fun hi => rfl⟩
  all_goals first | exact cellsPs_get L _ (by omega) | (simp only [cellsPs_length, decide_eq_true_eq, decide_eq_false_iff_not] at *; omega) | (exact congrArg (fun x => AV.f (int x)) (wrapS ((i : Int) + 1) (by omega) (by omega))) | (exact congrArg (Ob.row 4 62) (keys_step _ _ (by omega))) | (intro x hx; simp only [List.flatten_cons, List.flatten_nil, List.append_nil, cellsP, List.mem_cons, List.not_mem_nil, or_false] at hx; rcases hx with rfl | rfl | rfl | rfl <;> rfl) | (simp only [cellsVs_length, keysL_len, List.length_take, chunk, List.length_cons, List.length_nil, maxLen]; omega) | assumption | (simp [V.kind, V.num, V.text, V.items, *]; done)
theorem get92 : P.funcs[92]? = some Tryz.f92 := by kernel_rfl
theorem ent92 : entersP P 92 = true := by kernel_rfl
theorem rlen_ok (o : Int) (L : List (V × V))  : CallsF P G 92 [.ptr [.ptr [int o, encPs L] 0] 0] (int (L.length : Int)) := by
  refine sx_fn (hs := []) ((int (↑(List.length (cellsPs L)) : Int)) = (int (↑(List.length L) : Int))) get92 ent92 (by kernel_rfl) ?_
  all_goals (exact congrArg int (by rw [cellsPs_length]))
theorem get109 : P.funcs[109]? = some Tryz.f109 := by kernel_rfl
theorem ent109 : entersP P 109 = true := by kernel_rfl
theorem rin_ok (o : Int) (L : List (V × V)) (k w : V) (b : Bool) (h : CallsF P G 84 [.ptr [int o, encPs L] 0, encV k] (.tup [encV w, bool b])) : CallsF P G 109 [.ptr [.ptr [int o, encPs L] 0] 0, encV k] (bool b) := by
  refine sx_fn (hs := [.pcb [], .call (.tup [encV w, bool b])]) (let z2 := FV.tup [encV w, bool b]; let z1 := E false ∧ (E false ∧ (CallsF P G 84 [FV.ptr [int o, FV.sl 8 (cellsPs L)] 0, encV k] z2 ∧ E false ∧ E false ∧ E true ∧ E (bool b)) ∧ E false ∧ CallsF P G 84 [FV.ptr [int o, FV.sl 8 (cellsPs L)] 0, encV k] z2 ∧ E false ∧ E true ∧ E (bool b)) ∧ E false ∧ E false ∧ CallsF P G 84 [FV.ptr [int o, FV.sl 8 (cellsPs L)] 0, encV k] z2 ∧ E false ∧ E true ∧ E (bool b); E true ∧ E false ∧ z1 ∧ z1 ∧ E false ∧ (E false ∧ E false ∧ CallsF P G 84 [FV.ptr [int o, FV.sl 8 (cellsPs L)] 0, encV k] z2 ∧ E false ∧ E true ∧ E (bool b)) ∧ E false ∧ E false ∧ CallsF P G 84 [FV.ptr [int o, FV.sl 8 (cellsPs L)] 0, encV k] z2 ∧ E false ∧ E true ∧ E (bool b)) get109 ent109 (by kernel_rfl) ?_
  refine ⟨rfl, rfl, ⟨rfl, ⟨rfl, ⟨?_, rfl, rfl, rfl, rfl⟩, rfl, ?_, rfl, rfl, rfl⟩, rfl, rfl, ?_, rfl, rfl, rfl⟩, ⟨rfl, ⟨rfl, ⟨?_, rfl, rfl, rfl, rfl⟩, rfl, ?_, rfl, rfl, rfl⟩, rfl, rfl, ?_, rfl, rfl, rfl⟩, rfl, ⟨rfl, rfl, ?_, rfl, rfl, rfl⟩, rfl, rfl, ?_, rfl, rfl, rfl⟩
  all_goals exact h
theorem get48 : P.funcs[48]? = some Tryz.f48 := by kernel_rfl
theorem ent48 : entersP P 48 = true := by kernel_rfl
theorem rhas_ok (o : Int) (L : List (V × V)) (k : V) (b : Bool) (h0 : CallsF P G 103 [encV k] (bool true)) (h : CallsF P G 109 [.ptr [.ptr [int o, encPs L] 0] 0, encV k] (bool b)) : CallsF P G 48 [.ptr [.ptr [int o, encPs L] 0] 0, encV k] (.tup [bool b, int 0]) := by
  refine sx_fn (hs := [.call (bool true), .dec false, .call (bool b)]) ((CallsF P G 103 [encV k] (bool true)) ∧ (E (false)) ∧ (CallsF P G 109 [FV.ptr [FV.ptr [int o, FV.sl 8 (cellsPs L)] 0] 0, encV k] (bool b)) ∧ E (FV.tup [bool b, int 0])) get48 ent48 (by kernel_rfl) ?_
  refine ⟨?_, ⟨rfl, ⟨?_, rfl⟩⟩⟩
  all_goals first | exact h0 | exact h
theorem rhas_no (o : Int) (L : List (V × V)) (k : V) (h0 : CallsF P G 103 [encV k] (bool false)) : CallsF P G 48 [.ptr [.ptr [int o, encPs L] 0] 0, encV k] (.tup [bool false, int 3]) := by
  refine sx_fn (hs := [.call (bool false), .dec true]) ((CallsF P G 103 [encV k] (bool false)) ∧ (E (true)) ∧ E (FV.tup [bool false, int 3])) get48 ent48 (by kernel_rfl) ?_
  refine ⟨?_, ⟨rfl, rfl⟩⟩
  all_goals exact h0
theorem get112 : P.funcs[112]? = some Tryz.f112 := by kernel_rfl
theorem ent112 : entersP P 112 = true := by kernel_rfl
theorem rswith_ok (o : Int) (L L2 : List (V × V)) (k : V) (h : CallsF P G 146 [.ptr [int o, encPs L] 0, encV k, .agg [int 0, int 0, str [], .nils]] (.ptr [int o, encPs L2] 0)) : CallsF P G 112 [.ptr [.ptr [int o, encPs L] 0] 0, encV k] (.ptr [.ptr [int o, encPs L2] 0] 0) := by
  refine sx_fn (hs := [.nat 10, .call (FV.ptr [int o, encPs L2] 0)]) (E true ∧ CallsF P G 146 [FV.ptr [int o, FV.sl 8 (cellsPs L)] 0, encV k, FV.agg [int 0, int 0, str [], FV.nils]] (FV.ptr [int o, FV.sl 8 (cellsPs L2)] 0) ∧ E (FV.ptr [FV.ptr [int o, FV.sl 8 (cellsPs L2)] 0] 0)) get112 ent112 (by kernel_rfl) ?_
  refine ⟨rfl, ?_, rfl⟩
  all_goals exact h
theorem get111 : P.funcs[111]? = some Tryz.f111 := by kernel_rfl
theorem ent111 : entersP P 111 = true := by kernel_rfl
theorem rswithout_ok (o : Int) (L L2 : List (V × V)) (k : V) (h : CallsF P G 145 [.ptr [int o, encPs L] 0, encV k] (.ptr [int o, encPs L2] 0)) : CallsF P G 111 [.ptr [.ptr [int o, encPs L] 0] 0, encV k] (.ptr [.ptr [int o, encPs L2] 0] 0) := by
  refine sx_fn (hs := [.nat 9, .call (FV.ptr [int o, encPs L2] 0)]) ((E (true)) ∧ (CallsF P G 145 [FV.ptr [int o, FV.sl 8 (cellsPs L)] 0, encV k] (FV.ptr [int o, FV.sl 8 (cellsPs L2)] 0)) ∧ E (FV.ptr [FV.ptr [int o, FV.sl 8 (cellsPs L2)] 0] 0)) get111 ent111 (by kernel_rfl) ?_
  refine ⟨rfl, ⟨?_, rfl⟩⟩
  all_goals exact h
theorem get52 : P.funcs[52]? = some Tryz.f52 := by kernel_rfl
theorem ent52 : entersP P 52 = true := by kernel_rfl
theorem rsconj_no (o : Int) (L : List (V × V)) (k : V) (h0 : CallsF P G 103 [encV k] (bool false)) : CallsF P G 52 [.ptr [.ptr [int o, encPs L] 0] 0, encV k] (.tup [.sc (.pointer none), int 3]) := by
  refine sx_fn (hs := [.call (bool false), .dec true]) ((CallsF P G 103 [encV k] (bool false)) ∧ (E (true)) ∧ E (FV.tup [FV.sc (Value.pointer none), int 3])) get52 ent52 (by kernel_rfl) ?_
  refine ⟨?_, ⟨rfl, rfl⟩⟩
  all_goals exact h0
theorem rsconj_ok (o : Int) (L L2 : List (V × V)) (k : V) (b : Bool) (hl : L.length < 65536) (h0 : CallsF P G 103 [encV k] (bool true)) (h1 : CallsF P G 109 [.ptr [.ptr [int o, encPs L] 0] 0, encV k] (bool b)) (h2 : CallsF P G 112 [.ptr [.ptr [int o, encPs L] 0] 0, encV k] (.ptr [.ptr [int o, encPs L2] 0] 0)) : CallsF P G 52 [.ptr [.ptr [int o, encPs L] 0] 0, encV k] (.tup [.ptr [.ptr [int o, encPs L2] 0] 0, int 0]) := by
  refine sx_fn (hs := let z1 := FV.ptr [FV.ptr [int o, encPs L2] 0] 0; [.call (bool true), .dec false, .call (bool b), .br [.call (int (↑(List.length L) : Int)), .br [] [.call z1]] [.dec false, .call z1]]) (let z1 := FV.tup [FV.ptr [FV.ptr [int o, FV.sl 8 (cellsPs L2)] 0] 0, int 0]; let z2 := FV.ptr [FV.ptr [int o, FV.sl 8 (cellsPs L2)] 0] 0; CallsF P G 103 [encV k] (bool true) ∧ E false ∧ CallsF P G 109 [FV.ptr [FV.ptr [int o, FV.sl 8 (cellsPs L)] 0] 0, encV k] (bool b) ∧ Br (!b) (CallsF P G 92 [FV.ptr [FV.ptr [int o, FV.sl 8 (cellsPs L)] 0] 0] (int (↑(List.length L) : Int)) ∧ Br (decide ((↑(List.length L) : Int) ≥ 65536)) (FV.tup [FV.sc (Value.pointer none), int 2] = FV.tup [FV.ptr [FV.ptr [int o, FV.sl 8 (cellsPs L2)] 0] 0, int 0]) (CallsF P G 112 [FV.ptr [FV.ptr [int o, FV.sl 8 (cellsPs L)] 0] 0, encV k] z2 ∧ E z1)) (E false ∧ CallsF P G 112 [FV.ptr [FV.ptr [int o, FV.sl 8 (cellsPs L)] 0] 0, encV k] z2 ∧ E z1)) get52 ent52 (by kernel_rfl) ?_
  refine ⟨?_, rfl, ?_, fun hi => ⟨?_, fun hi => ?_, fun hi => ⟨?_, rfl⟩⟩, fun hi => ⟨rfl, ?_, rfl⟩⟩
  all_goals first | exact h0 | exact h1 | exact h2 | exact rlen_ok _ _ | (exfalso; simp only [decide_eq_true_eq, decide_eq_false_iff_not] at *; omega)
theorem get50 : P.funcs[50]? = some Tryz.f50 := by kernel_rfl
theorem ent50 : entersP P 50 = true := by kernel_rfl
theorem rsdisj_no (o : Int) (L : List (V × V)) (k : V) (h0 : CallsF P G 103 [encV k] (bool false)) : CallsF P G 50 [.ptr [.ptr [int o, encPs L] 0] 0, encV k] (.tup [.sc (.pointer none), int 3]) := by
  refine sx_fn (hs := [.call (bool false), .dec true]) ((CallsF P G 103 [encV k] (bool false)) ∧ (E (true)) ∧ E (FV.tup [FV.sc (Value.pointer none), int 3])) get50 ent50 (by kernel_rfl) ?_
  refine ⟨?_, ⟨rfl, rfl⟩⟩
  all_goals exact h0
theorem rsdisj_ok (o : Int) (L L2 : List (V × V)) (k : V) (h0 : CallsF P G 103 [encV k] (bool true)) (h2 : CallsF P G 111 [.ptr [.ptr [int o, encPs L] 0] 0, encV k] (.ptr [.ptr [int o, encPs L2] 0] 0)) : CallsF P G 50 [.ptr [.ptr [int o, encPs L] 0] 0, encV k] (.tup [.ptr [.ptr [int o, encPs L2] 0] 0, int 0]) := by
  refine sx_fn (hs := [.call (bool true), .dec false, .call (FV.ptr [FV.ptr [int o, encPs L2] 0] 0)]) (CallsF P G 103 [encV k] (bool true) ∧ E false ∧ CallsF P G 111 [FV.ptr [FV.ptr [int o, FV.sl 8 (cellsPs L)] 0] 0, encV k] (FV.ptr [FV.ptr [int o, FV.sl 8 (cellsPs L2)] 0] 0) ∧ E (FV.tup [FV.ptr [FV.ptr [int o, FV.sl 8 (cellsPs L2)] 0] 0, int 0])) get50 ent50 (by kernel_rfl) ?_
  refine ⟨?_, rfl, ?_, rfl⟩
  all_goals first | exact h0 | exact h2
end Go.Sx
set_option maxRecDepth 100000
set_option maxHeartbeats 4000000
set_option linter.unusedSimpArgs false
set_option linter.unusedVariables false
namespace Go.Sx
open Go.Proofs Sp
def Sgo16 (o n most : Int) (t : T) (l : List (V × V)) (i : Nat) : St := { sl := slots 29 [(3, .loc 0 0), (5, .loc 1 0)], ob := [(0, .box [.f (int most)]), (1, .box [.lsl 2]), (2, .row 4 62 (cellsVs (keysL (l.take i))))], nx := 3 }
def Svs (l : List V) (i : Nat) : St := { sl := slots 27 [(0, .f (encI l)), (1, .f (encI l)), (12, .f (int (cellsVs l).length)), (13, .f (int (i : Int)))], ob := [], nx := 0 }
def SInts (l : List Int) (i : Nat) : St := { sl := slots 19 [(3, .lsl 0), (6, .f (.sl 1 (l.map fun n => [int n]))), (7, .f (int (l.map fun n => [int n]).length)), (8, .f (int (i : Int)))], ob := [(0, .row 4 62 (cellsVs ((l.take i).map mkI)))], nx := 1 }
theorem ints_get (l : List Int) (i : Nat) (h : i < l.length) : (l.map fun n => [int n])[i]? = some [int (l.getD i 0)] := by simp [List.getD_eq_getElem?_getD, h]
theorem ints_step (l : List Int) (i : Nat) (h : i < l.length) : cellsVs ((l.take i).map mkI) ++ [cellsP (mkI (l.getD i 0))] = cellsVs ((l.take (i + 1)).map mkI) := by
  rw [List.take_succ_eq_append_getElem h, List.map_append, cellsVs_app]
  simp [cellsVs, cellsP_eq, List.getD_eq_getElem?_getD, h]
theorem getD_memV (l : List V) (i : Nat) (h : i < l.length) : l.getD i default ∈ l := by
  rw [List.getD_eq_getElem?_getD, List.getElem?_eq_getElem h]; exact List.getElem_mem h
theorem get95 : P.funcs[95]? = some Tryz.f95 := by kernel_rfl
theorem ent95 : entersP P 95 = true := by kernel_rfl
theorem gone16_run (o n : Int) (t : T) (N : Nat) (hf : ∀ p, p ∈ t.toList → Fine p.1 ∧ Fine p.2) (hs : t.size ≤ 131072) (hN : N = t.toList.length) : CallsF P G 95 [.ptr [encM o n t] 0, int ((N : Int) + 1)] (.sl 4 (cellsVs (keysL (t.toList.take N)))) := by
  refine sx_fn (hs := [.call (.fn 135 [] [.ptr [.ptr [encM o n t] 0] 0]), .dec false, .dec false, .pre [.nrowb 1 0 4 62], .range [(0,0),(1,1),(2,2)] (Sgo16 o n ((N : Int) + 1) t t.toList) N (itK1 t.toList) (fun _ => true) (.tup []) none (fun i => [.pca [(4, 1)], .dec false, .ren [(0,0),(1,1),(4,2)]]), .frz [2]]) (let z1 := Value.int IntKind.i64 0; let z2 := TypeInfo.size (Tables.types (Program.toTables P))[62]; let z3 := Value.slice none 0 0; let z4 := E (AV.loc 0 0) ∧ E (AV.loc 1 0) ∧ True; let z5 := Ob.box [AV.f (int ((N : Int) + 1))]; CallsF P G 100 [FV.ptr [encM o n t] 0] (FV.fn 135 [] [FV.ptr [FV.ptr [encM o n t] 0] 0]) ∧ E false ∧ E false ∧ (E true ∧ z4 ∧ (E z5 ∧ E (Ob.box [AV.lsl 2]) ∧ E (Ob.row 4 62 []) ∧ True) ∧ E true ∧ (false = true → false = true)) ∧ E false ∧ E true ∧ (∀ (i : Nat), i ≤ N → E true) ∧ (∀ (Y : Yd), Yd.it Y = itK1 (T.toList t) → Yd.b Y = (fun x => true) → Yd.n Y = N → YLaw P G Y → CallsX P G 135 ([FV.sc (Yd.u Y), FV.ptr [FV.ptr [encM o n t] 0] 0]) (Y) (0) (FV.tup []) (N)) ∧ (∀ (i : Nat), (let z6 := keysL (List.take i (T.toList t)); let z7 := cellsP (Prod.fst (List.getD (T.toList t) i default)); let z8 := List.length (cellsVs z6); let z9 := cellsVs (keysL (List.take (i + 1) (T.toList t))); i < N → E true ∧ E true ∧ E true ∧ (oneF ([[int 0, int 0, str [], FV.nils]]) ∧ List.length (cellsVs z6) + 1 ≤ maxLen ∧ (List.length (cellsVs z6) + 1) * 56 ≤ 140737488355328 ∧ E false) ∧ E false ∧ (((0 : Int) ≤ (↑z8 : Int) ∧ List.length (cellsVs z6) < List.length (cellsVs z6 ++ chunk 4 1 [fV1 z1, fV1 z1, fV1 (Value.string { data := #[] }), fV1 z3])) ∧ E false ∧ (List.length (cellsVs z6) < List.length (cellsVs z6 ++ chunk 4 1 [fV1 z1, fV1 z1, fV1 (Value.string { data := #[] }), fV1 z3]) ∧ E false ∧ E true ∧ decide ((↑(List.length (List.set (cellsVs z6 ++ chunk z2 1 [fV1 z1, fV1 z1, fV1 (Value.string { data := #[] }), fV1 z3]) z8 z7)) : Int) ≥ (N : Int) + 1) = false ∧ E true ∧ E true ∧ z4 ∧ (E z5 ∧ E (Ob.box [AV.lsl 2]) ∧ Ob.row 4 62 (List.set (cellsVs z6 ++ chunk z2 1 [fV1 z1, fV1 z1, fV1 (Value.string { data := #[] }), fV1 z3]) z8 z7) = Ob.row 4 62 z9 ∧ True) ∧ E true ∧ (false = true → false = true)) ∧ E false ∧ List.length (cellsVs z6) < List.length (cellsVs z6 ++ chunk 4 1 [fV1 z1, fV1 z1, fV1 (Value.string { data := #[] }), fV1 z3]) ∧ E true ∧ decide ((↑(List.length (List.set (cellsVs z6 ++ chunk z2 1 [fV1 z1, fV1 z1, fV1 (Value.string { data := #[] }), fV1 z3]) z8 z7)) : Int) ≥ (N : Int) + 1) = false ∧ E true ∧ E true ∧ z4 ∧ (E z5 ∧ E (Ob.box [AV.lsl 2]) ∧ Ob.row 4 62 (List.set (cellsVs z6 ++ chunk z2 1 [fV1 z1, fV1 z1, fV1 (Value.string { data := #[] }), fV1 z3]) z8 z7) = Ob.row 4 62 z9 ∧ True) ∧ E true ∧ (false = true → false = true)) ∧ E false ∧ ((0 : Int) ≤ (↑z8 : Int) ∧ List.length (cellsVs z6) < List.length (cellsVs z6 ++ chunk 4 1 [fV1 z1, fV1 z1, fV1 (Value.string { data := #[] }), fV1 z3])) ∧ E false ∧ List.length (cellsVs z6) < List.length (cellsVs z6 ++ chunk 4 1 [fV1 z1, fV1 z1, fV1 (Value.string { data := #[] }), fV1 z3]) ∧ E true ∧ decide ((↑(List.length (List.set (cellsVs z6 ++ chunk z2 1 [fV1 z1, fV1 z1, fV1 (Value.string { data := #[] }), fV1 z3]) z8 z7)) : Int) ≥ (N : Int) + 1) = false ∧ E true ∧ E true ∧ z4 ∧ (E z5 ∧ E (Ob.box [AV.lsl 2]) ∧ Ob.row 4 62 (List.set (cellsVs z6 ++ chunk z2 1 [fV1 z1, fV1 z1, fV1 (Value.string { data := #[] }), fV1 z3]) z8 z7) = Ob.row 4 62 z9 ∧ True) ∧ E true ∧ (false = true → false = true))) ∧ (0 < N → E true) ∧ E (encI (keysL (List.take N (T.toList t))))) get95 ent95 (by kernel_rfl) ?_
  refine ⟨?_, rfl, rfl, ⟨rfl, ⟨rfl, rfl, trivial⟩, ⟨rfl, rfl, rfl, trivial⟩, rfl, fun hi => ?_⟩, rfl, rfl, fun i => fun hi => rfl, fun Y => fun hi => fun hi => fun hi => fun hi => ?_, fun i => fun hi => ⟨rfl, rfl, rfl, ⟨?_, ?_, ?_, rfl⟩, rfl, ⟨⟨?_, ?_⟩, rfl, ⟨?_, rfl, rfl, ?_, rfl, rfl, ⟨rfl, rfl, trivial⟩, ⟨rfl, rfl, ?_, trivial⟩, rfl, fun hi => ?_⟩, rfl, ?_, rfl, ?_, rfl, rfl, ⟨rfl, rfl, trivial⟩, ⟨rfl, rfl, ?_, trivial⟩, rfl, fun hi => ?_⟩, rfl, ⟨?_, ?_⟩, rfl, ?_, rfl, ?_, rfl, rfl, ⟨rfl, rfl, trivial⟩, ⟨rfl, rfl, ?_, trivial⟩, rfl, fun hi => ?_⟩, fun hi => rfl, rfl⟩
  all_goals first | exact sall_ok _ _ _ | (exact congrArg (Ob.row 4 62) ((set_last _ _ _ _).trans (keys_step _ _ (by omega)))) | (have h8 := T.toList_length t; simp only [cellsVs_length, keysL_len, List.length_take, chunk, List.length_cons, List.length_nil, maxLen]; omega) | (have h8 := T.toList_length t; simp only [List.length_append, cellsVs_length, keysL_len, List.length_take, chunk, List.length_cons, List.length_nil, maxLen]; omega) | (have h8 := T.toList_length t; simp only [List.length_set, List.length_append, cellsVs_length, keysL_len, List.length_take, chunk, List.length_cons, List.length_nil, decide_eq_false_iff_not]; omega) | (rename_i h1 h2 h3; exact sall1_ok Y o n t N hf hN hi (fun i hi2 => ⟨fun j _ => congrFun h2 j, by omega⟩) (fun i _ => congrFun h2 i) (fun i _ => congrFun h1 i)) | assumption | (intro x hx; simp at hx; rcases hx with rfl | rfl | rfl | rfl <;> rfl)
theorem get36 : P.funcs[36]? = some Tryz.f36 := by kernel_rfl
theorem ent36 : entersP P 36 = true := by kernel_rfl
theorem vals_same (l : List V) (hl : l.length ≤ 1152921504606846976) (hf : ∀ x, x ∈ l → CallsF P G 35 [encV x, encV x] (bool true)) : CallsF P G 36 [encI l, encI l] (bool true) := by
  refine sx_fn (hs := [.dec false, .loop [] [] (Svs l) l.length (fun i => [.dec true, .nat 10, .el (cellsP (l.getD i default)), .el (cellsP (l.getD i default)), .call (bool true), .dec false]), .dec false]) (let z1 := (↑(List.length (cellsVs l)) : Int); (z1 != z1) = false ∧ (E true ∧ (E (AV.f (encI l)) ∧ E (AV.f (encI l)) ∧ E (AV.f (int z1)) ∧ AV.f (int 0) = AV.f (int (Int.ofNat 0)) ∧ True) ∧ True ∧ E true ∧ (false = true → false = true)) ∧ (∀ (i : Nat), (let z3 := List.getD l i default; let z2 := E 4 ∧ (0 : Int) ≤ (i : Int) ∧ (cellsVs l)[i]? = some (cellsP z3); i < List.length l → decide ((i : Int) < z1) = true ∧ E true ∧ z2 ∧ z2 ∧ CallsF P G 35 [encV z3, encV z3] (bool true) ∧ E false ∧ E true ∧ (E (AV.f (encI l)) ∧ E (AV.f (encI l)) ∧ E (AV.f (int z1)) ∧ AV.f (int (IntKind.wrap IntKind.i64 ((i : Int) + 1))) = AV.f (int (↑(i + 1) : Int)) ∧ True) ∧ True ∧ E true ∧ (false = true → false = true))) ∧ decide ((↑(List.length l) : Int) < z1) = false ∧ E (bool true)) get36 ent36 (by kernel_rfl) ?_
  refine ⟨?_, ⟨rfl, ⟨rfl, rfl, rfl, ?_, trivial⟩, trivial, rfl, fun hi => ?_⟩, fun i => fun hi => ⟨?_, rfl, ⟨rfl, ?_, ?_⟩, ⟨rfl, ?_, ?_⟩, ?_, rfl, rfl, ⟨rfl, rfl, rfl, ?_, trivial⟩, trivial, rfl, fun hi => ?_⟩, ?_, rfl⟩
  all_goals first | (simp; done) | exact cellsVs_get l _ (by omega) | exact hf _ (getD_memV l _ (by omega)) | (exact congrArg (fun x => AV.f (int x)) (wrapS ((i : Int) + 1) (by omega) (by omega))) | (simp only [cellsVs_length, decide_eq_true_eq, decide_eq_false_iff_not]; omega) | assumption
theorem get25 : P.funcs[25]? = some Tryz.f25 := by kernel_rfl
theorem ent25 : entersP P 25 = true := by kernel_rfl
theorem same16_run (o n h : Int) (t : T) (L : List (V × V)) (ks : List V) (mo : Int) (hn : n = (ks.length : Int)) (hh : h ≤ mo) (h0 : CallsF P G 91 [.ptr [.ptr [int o, encPs L] 0] 0] (encI ks)) (h1 : CallsF P G 93 [.ptr [encM o n t] 0] (int o)) (h2 : CallsF P G 94 [.ptr [encM o n t] 0] (int n)) (h3 : CallsF P G 32 [.ptr [encM o n t] 0] (encI ks)) (h4 : CallsF P G 36 [encI ks, encI ks] (bool true)) (h5 : CallsF P G 95 [.ptr [encM o n t] 0, int (IntKind.i64.wrap (((cellsVs ks).length : Int) + 1))] (encI ks)) (h6 : CallsF P G 96 [.ptr [encM o n t] 0] (int h)) (h7 : CallsF P G 97 [int ((cellsVs ks).length : Int)] (int mo)) : CallsF P G 25 [.ptr [encM o n t] 0, .ptr [.ptr [int o, encPs L] 0] 0] (bool true) := by
  refine sx_fn (hs := [.call (encI ks), .nat 45, .dec true, .call (int o), .dec true, .call (int n), .dec true, .call (encI ks), .call (bool true), .dec true, .call (encI ks), .call (bool true), .dec true, .call (int h), .call (int mo)]) (let z1 := (↑(List.length (cellsVs ks)) : Int); CallsF P G 91 [FV.ptr [FV.ptr [int o, FV.sl 8 (cellsPs L)] 0] 0] (encI ks) ∧ E true ∧ E true ∧ CallsF P G 93 [FV.ptr [encM o n t] 0] (int o) ∧ (o == o) = true ∧ CallsF P G 94 [FV.ptr [encM o n t] 0] (int n) ∧ (n == z1) = true ∧ CallsF P G 32 [FV.ptr [encM o n t] 0] (encI ks) ∧ CallsF P G 36 [encI ks, encI ks] (bool true) ∧ E true ∧ CallsF P G 95 [FV.ptr [encM o n t] 0, int (IntKind.wrap IntKind.i64 (z1 + 1))] (encI ks) ∧ CallsF P G 36 [encI ks, encI ks] (bool true) ∧ E true ∧ CallsF P G 96 [FV.ptr [encM o n t] 0] (int h) ∧ CallsF P G 97 [int z1] (int mo) ∧ bool (decide (h ≤ mo)) = bool true) get25 ent25 (by kernel_rfl) ?_
  refine ⟨?_, rfl, rfl, ?_, ?_, ?_, ?_, ?_, ?_, rfl, ?_, ?_, rfl, ?_, ?_, ?_⟩
  all_goals first | exact h0 | exact h1 | exact h2 | exact h3 | exact h4 | exact h5 | exact h6 | exact h7 | (simp; done) | (rw [hn, cellsVs_length]; simp; done) | (exact congrArg bool (decide_eq_true hh))
theorem get89 : P.funcs[89]? = some Tryz.f89 := by kernel_rfl
theorem ent89 : entersP P 89 = true := by kernel_rfl
theorem ints_all (l : List Int) (hl : l.length ≤ 65536) : CallsF P G 89 [.sl 1 (l.map fun n => [int n])] (.sl 4 (cellsVs (l.map mkI))) := by
  refine sx_fn (hs := let z1 := List.getD l (List.length l) 0; [Hint.pre [Hint.nrow 3 4 62], .loop [(0, 0)] [(2, 0)] (SInts l) (List.length l) (fun i => [.br [.el ([int (List.getD l i 0)]), .call (encV (mkI (List.getD l i 0)))] []]), .br [.el ([int z1]), .call (encV (mkI z1))] [.lfz [0]]]) (let z1 := List.getD l (List.length l) 0; let z2 := List.map mkI (List.take (List.length l) l); let z3 := chunk 4 1 (cellsP (mkI z1)); (E true ∧ (E (AV.lsl 0) ∧ E (AV.f (FV.sl 1 (List.map (fun n => [int n]) l))) ∧ E (AV.f (int (↑(List.length (List.map (fun n => [int n]) l)) : Int))) ∧ AV.f (int 0) = AV.f (int (Int.ofNat 0)) ∧ True) ∧ (E (Ob.row 4 62 []) ∧ True) ∧ E true ∧ (false = true → false = true)) ∧ (∀ (i : Nat), (let z4 := mkI (List.getD l i 0); let z5 := List.map mkI (List.take i l); i < List.length l → Br (decide ((i : Int) < (↑(List.length (List.map (fun n => [int n]) l)) : Int))) ((E 1 ∧ (0 : Int) ≤ (i : Int) ∧ (List.map (fun n => [int n]) l)[i]? = some [int (List.getD l i 0)]) ∧ CallsF P G 70 [int (List.getD l i 0)] (FV.agg [int (V.kind z4), int (V.num z4), str (V.text z4), FV.sl 4 []]) ∧ (oneF ([[int (V.kind z4), int (V.num z4), str (V.text z4), FV.sl 4 []]]) ∧ List.length (cellsVs z5) + List.length (chunk 4 1 (cellsP z4)) ≤ maxLen ∧ (List.length (cellsVs z5) + List.length (chunk 4 1 (cellsP z4))) * 56 ≤ 140737488355328 ∧ E false) ∧ E true ∧ (E (AV.lsl 0) ∧ E (AV.f (FV.sl 1 (List.map (fun n => [int n]) l))) ∧ E (AV.f (int (↑(List.length (List.map (fun n => [int n]) l)) : Int))) ∧ AV.f (int (IntKind.wrap IntKind.i64 ((i : Int) + 1))) = AV.f (int (↑(i + 1) : Int)) ∧ True) ∧ (Ob.row 4 62 (cellsVs z5 ++ chunk (TypeInfo.size (Tables.types (Program.toTables P))[62]) 1 (cellsP z4)) = Ob.row 4 62 (cellsVs (List.map mkI (List.take (i + 1) l))) ∧ True) ∧ E true ∧ (St.nd (SInts l (i + 1)) = true → false = true)) False)) ∧ Br (decide ((↑(List.length l) : Int) < (↑(List.length (List.map (fun n => [int n]) l)) : Int))) ((E 1 ∧ (0 : Int) ≤ (↑(List.length l) : Int) ∧ (List.map (fun n => [int n]) l)[List.length l]? = some [int z1]) ∧ CallsF P G 70 [int z1] (FV.agg [int (V.kind (mkI z1)), int (V.num (mkI z1)), str (V.text (mkI z1)), FV.sl 4 []]) ∧ (oneF ([[int (V.kind (mkI z1)), int (V.num (mkI z1)), str (V.text (mkI z1)), FV.sl 4 []]]) ∧ List.length (cellsVs z2) + List.length z3 ≤ maxLen ∧ (List.length (cellsVs z2) + List.length z3) * 56 ≤ 140737488355328 ∧ E false) ∧ False) (encI z2 = encI (List.map mkI l))) get89 ent89 (by kernel_rfl) ?_
  refine ⟨⟨rfl, ⟨rfl, rfl, rfl, ?_, trivial⟩, ⟨rfl, trivial⟩, rfl, fun hi => ?_⟩, fun i => fun hlt => ⟨fun hi => ⟨⟨rfl, ?_, ?_⟩, ?_, ⟨?_, ?_, ?_, rfl⟩, rfl, ⟨rfl, rfl, rfl, ?_, trivial⟩, ⟨?_, trivial⟩, rfl, fun hi => ?_⟩, fun hi => ?_⟩, fun hi => ⟨⟨rfl, ?_, ?_⟩, ?_, ⟨?_, ?_, ?_, rfl⟩, ?_⟩, fun hi => ?_⟩
  all_goals first | exact int_ok _ | exact ints_get l _ (by omega) | (simp; done) | (simp only [List.length_map, decide_eq_true_eq, decide_eq_false_iff_not, Int.toNat_natCast] at *; omega) | (exact congrArg (fun x => AV.f (int x)) (wrapS ((i : Int) + 1) (by omega) (by omega))) | (intro x hx; simp at hx; rcases hx with rfl | rfl | rfl | rfl <;> rfl) | (simp only [cellsVs_length, List.length_map, List.length_take, chunk, List.length_cons, List.length_nil, maxLen]; omega) | exact congrArg (Ob.row 4 62) (ints_step l i (by omega)) | assumption
theorem get33 : P.funcs[33]? = some Tryz.f33 := by kernel_rfl
theorem ent33 : entersP P 33 = true := by kernel_rfl
theorem srank_run (o n i e : Int) (t : T) (k : V) (h : CallsF P G 101 [encM o n t, encV k] (.tup [int i, int e])) : CallsF P G 33 [.ptr [encM o n t] 0, encV k] (.tup [int i, int e]) := by
  refine sx_fn (hs := [.nat 8, .call (encM o n t), .call (FV.tup [int i, int e])]) ((E (true)) ∧ (CallsF P G 90 [FV.ptr [encM o n t] 0] (encM o n t)) ∧ (CallsF P G 101 [encM o n t, encV k] (FV.tup [int i, int e])) ∧ E (FV.tup [int i, int e])) get33 ent33 (by kernel_rfl) ?_
  refine ⟨rfl, ⟨?_, ⟨?_, rfl⟩⟩⟩
  all_goals first | exact keys_ok _ _ _ | exact h
theorem get118 : P.funcs[118]? = some Tryz.f118 := by kernel_rfl
theorem ent118 : entersP P 118 = true := by kernel_rfl
theorem end_ok (q : V × V)  : CallsF P G 118 [encQ q, bool true] (.tup [encV q.1, int 0]) := by
  refine sx_fn (hs := [.dec false]) ((E (false)) ∧ E (FV.tup [encV (Prod.fst q), int 0])) get118 ent118 (by kernel_rfl) ?_
  exact ⟨rfl, rfl⟩
theorem get59 : P.funcs[59]? = some Tryz.f59 := by kernel_rfl
theorem ent59 : entersP P 59 = true := by kernel_rfl
theorem sfirst_run (o n e : Int) (t : T) (q : V × V) (w : V) (b : Bool) (h : CallsF P G 119 [encM o n t] (.tup [encQ q, bool b])) (h2 : CallsF P G 118 [encQ q, bool b] (.tup [encV w, int e])) : CallsF P G 59 [.ptr [encM o n t] 0] (.tup [encV w, int e]) := by
  refine sx_fn (hs := [.call (encM o n t), .call (FV.tup [encQ q, bool b]), .call (FV.tup [encV w, int e])]) (let z1 := int (V.kind (Prod.fst q)) :: int (V.num (Prod.fst q)) :: str (V.text (Prod.fst q)) :: encI (V.items (Prod.fst q)) :: cellsP (Prod.snd q); CallsF P G 90 [FV.ptr [encM o n t] 0] (encM o n t) ∧ CallsF P G 119 [encM o n t] (FV.tup [FV.agg z1, bool b]) ∧ CallsF P G 118 [FV.agg z1, bool b] (FV.tup [encV w, int e]) ∧ E (FV.tup [encV w, int e])) get59 ent59 (by kernel_rfl) ?_
  refine ⟨?_, ?_, ?_, rfl⟩
  all_goals first | exact keys_ok _ _ _ | exact h | exact h2
theorem get22 : P.funcs[22]? = some Tryz.f22 := by kernel_rfl
theorem ent22 : entersP P 22 = true := by kernel_rfl
theorem speaks16_run (o n : Int) (t : T) (v : V) (hv : v = mkI 0) (h1 : CallsF P G 89 [.sl 1 [[int (-2)], [int 1], [int 0]]] (encI [mkI (-2), mkI 1, mkI 0])) (h2 : CallsF P G 20 [int 5, encI [mkI (-2), mkI 1, mkI 0]] (.tup [.ptr [encM o n t] 0, int 0])) (h3 : CallsF P G 33 [.ptr [encM o n t] 0, encV (mkI (-1))] (.tup [int 1, int 0])) (h4 : CallsF P G 59 [.ptr [encM o n t] 0] (.tup [encV v, int 0])) (h5 : CallsF P G 32 [.ptr [encM o n t] 0] (encI [mkI 0, mkI 1, mkI (-2)])) (h6 : CallsF P G 89 [.sl 1 [[int 0], [int 1], [int (-2)]]] (encI [mkI 0, mkI 1, mkI (-2)])) (h7 : CallsF P G 36 [encI [mkI 0, mkI 1, mkI (-2)], encI [mkI 0, mkI 1, mkI (-2)]] (bool true)) : CallsF P G 22 [] (bool true) := by
  refine sx_fn (hs := let z1 := encI [mkI 0, mkI 1, mkI (-2)]; [.lfz [0], .call (encI [mkI (-2), mkI 1, mkI 0]), .call (FV.tup [FV.ptr [encM o n t] 0, int 0]), .dec false, .dec false, .call (encV (mkI (Int.negSucc 0))), .call (FV.tup [int 1, int 0]), .call (FV.tup [encV v, int 0]), .dec true, .dec true, .dec true, .br [.call z1, .lfz [2], .call z1, .call (bool true)] []]) (let z1 := FV.sl 4 [[int 2, int 0, str [], FV.sl 4 []], [int 2, int 1, str [], FV.sl 4 []], [int 2, int (-2), str [], FV.sl 4 []]]; let z2 := V.text (mkI (Int.negSucc 0)); CallsF P G 89 [FV.sl 1 [[int (-2)], [int 1], [int 0]]] (FV.sl 4 [[int 2, int (-2), str [], FV.sl 4 []], [int 2, int 1, str [], FV.sl 4 []], [int 2, int 0, str [], FV.sl 4 []]]) ∧ CallsF P G 20 [int 5, FV.sl 4 [[int 2, int (-2), str [], FV.sl 4 []], [int 2, int 1, str [], FV.sl 4 []], [int 2, int 0, str [], FV.sl 4 []]]] (FV.tup [FV.ptr [encM o n t] 0, int 0]) ∧ E false ∧ E false ∧ CallsF P G 70 [int (-1)] (FV.agg [int 2, int (-1), str z2, FV.sl 4 []]) ∧ CallsF P G 33 [FV.ptr [encM o n t] 0, FV.agg [int 2, int (-1), str z2, FV.sl 4 []]] (FV.tup [int 1, int 0]) ∧ CallsF P G 59 [FV.ptr [encM o n t] 0] (FV.tup [encV v, int 0]) ∧ E true ∧ E true ∧ E true ∧ Br (V.num v == 0) (CallsF P G 32 [FV.ptr [encM o n t] 0] z1 ∧ CallsF P G 89 [FV.sl 1 [[int 0], [int 1], [int (-2)]]] z1 ∧ CallsF P G 36 [FV.sl 4 [[int 2, int 0, str [], FV.sl 4 []], [int 2, int 1, str [], FV.sl 4 []], [int 2, int (-2), str [], FV.sl 4 []]], FV.sl 4 [[int 2, int 0, str [], FV.sl 4 []], [int 2, int 1, str [], FV.sl 4 []], [int 2, int (-2), str [], FV.sl 4 []]]] (bool true) ∧ E (bool true)) (bool false = bool true)) get22 ent22 (by kernel_rfl) ?_
  refine ⟨?_, ?_, rfl, rfl, ?_, ?_, ?_, rfl, rfl, rfl, fun hi => ⟨?_, ?_, ?_, rfl⟩, fun hi => ?_⟩
  all_goals first | exact h1 | exact h2 | exact int_ok _ | exact h3 | exact h4 | exact h5 | exact h6 | exact h7 | (exfalso; rw [hv] at hi; revert hi; decide)
end Go.Sx
set_option maxRecDepth 100000
set_option maxHeartbeats 4000000
set_option linter.unusedSimpArgs false
set_option linter.unusedVariables false
namespace Go.Sx
open Go.Proofs Sp
def cellsB (l : List Bool) : List (List FV) := l.map fun b => [bool b]
def S16 (o : Int) (l : List V) (less : List Bool) (X : Nat → T × Nat) (i : Nat) : St := { sl := slots 145 [(1, .f (encI l)), (2, .f (.sl 1 (cellsB less))), (7, .f (.ptr [encX o (X i)] 0)), (9, .f (.ptr [.ptr [int o, encPs (X i).1.toList] 0] 0)), (11, .f (int (i : Int)))], ob := [], nx := 0 }
theorem cellsB_len (l : List Bool) : (cellsB l).length = l.length := List.length_map ..
theorem cellsB_get (l : List Bool) (i : Nat) (h : i < l.length) : (cellsB l)[i]? = some [bool (l.getD i false)] := by simp [cellsB, List.getD_eq_getElem?_getD, h]
theorem halfI (i : Nat) (h : i ≤ 1000000) : IntKind.i64.wrap (Int.tdiv (i : Int) 2) = ((i / 2 : Nat) : Int) := by
  rw [show Int.tdiv (i : Int) 2 = ((i / 2 : Nat) : Int) from by rw [Int.tdiv_eq_ediv_of_nonneg (by omega)]; omega]
  exact wrapS _ (by omega) (by omega)
theorem get7 : P.funcs[7]? = some Tryz.f7 := by kernel_rfl
theorem ent7 : entersP P 7 = true := by kernel_rfl
theorem steps16_bad (o : Int) (l : List V) (less : List Bool) (h1 : CallsF P G 45 [int o] (.tup [.sc (.pointer none), int 4])) (h2 : CallsF P G 46 [int o] (.tup [.sc (.pointer none), int 4])) (h3 : CallsF P G 22 [] (bool true)) : CallsF P G 7 [int o, encI l, .sl 1 (cellsB less)] (bool true) := by
  refine sx_fn (hs := let z1 := FV.tup [FV.sc (Value.pointer none), int 4]; [.call z1, .call z1, .dec false, .dec false, .dec true, .call (bool true)]) (let z1 := FV.tup [FV.sc (Value.pointer none), int 4]; CallsF P G 45 [int o] z1 ∧ CallsF P G 46 [int o] z1 ∧ E false ∧ E false ∧ E true ∧ CallsF P G 22 [] (bool true) ∧ E (bool true)) get7 ent7 (by kernel_rfl) ?_
  refine ⟨?_, ?_, rfl, rfl, rfl, ?_, rfl⟩
  all_goals first | exact h1 | exact h2 | exact h3
theorem steps16_all (o : Int) (l : List V) (less : List Bool) (N : Nat) (X : Nat → T × Nat) (D F : Nat → FV) (nb hb : Nat → Bool) (ge er : Nat → Int) (hN : N = l.length) (hN3 : N ≤ 300) (hl : l.length ≤ 1152921504606846976) (hl2 : less.length ≤ 1152921504606846976) (hg : ∀ i, i < N → CallsF P G 47 [.ptr [encX o (X i)] 0, encV (l.getD i default)] (.tup [bool (hb i), int (ge i)])) (hrg : ∀ i, i < N → CallsF P G 48 [.ptr [.ptr [int o, encPs (X i).1.toList] 0] 0, encV (l.getD i default)] (.tup [bool (hb i), int (ge i)])) (hd : ∀ i, i < N → i < less.length → less.getD i false = true → CallsF P G 49 [.ptr [encX o (X i)] 0, encV (l.getD (i / 2) default)] (.tup [D i, int (er i)])) (hrd : ∀ i, i < N → i < less.length → less.getD i false = true → CallsF P G 50 [.ptr [.ptr [int o, encPs (X i).1.toList] 0] 0, encV (l.getD (i / 2) default)] (.tup [F i, int (er i)])) (ha : ∀ i, i < N → (less.length ≤ i ∨ less.getD i false = false) → CallsF P G 51 [.ptr [encX o (X i)] 0, encV (l.getD i default)] (.tup [D i, int (er i)])) (hra : ∀ i, i < N → (less.length ≤ i ∨ less.getD i false = false) → CallsF P G 52 [.ptr [.ptr [int o, encPs (X i).1.toList] 0] 0, encV (l.getD i default)] (.tup [F i, int (er i)])) (hDn : ∀ i, i < N → IsNil (D i) (nb i)) (hnb : ∀ i, i < N → nb i = (er i != 0)) (hD0 : ∀ i, i < N → er i = 0 → D i = .ptr [encX o (X (i + 1))] 0) (hE0 : ∀ i, i < N → er i = 0 → F i = .ptr [.ptr [int o, encPs (X (i + 1)).1.toList] 0] 0) (hX0 : ∀ i, i < N → er i ≠ 0 → X (i + 1) = X i) (hnew : CallsF P G 45 [int o] (.tup [.ptr [encM o 0 .nil] 0, int 0])) (hrnew : CallsF P G 46 [int o] (.tup [.ptr [.ptr [int o, encPs []] 0] 0, int 0])) (hX : X 0 = (.nil, 0)) (hsame : CallsF P G 25 [.ptr [encX o (X N)] 0, .ptr [.ptr [int o, encPs (X N).1.toList] 0] 0] (bool true)) (hspk : CallsF P G 22 [] (bool true)) : CallsF P G 7 [int o, encI l, .sl 1 (cellsB less)] (bool true) := by
  refine sx_fn (hs := [.call (.tup [.ptr [encM o 0 .nil] 0, int 0]), .call (.tup [.ptr [.ptr [int o, encPs []] 0] 0, int 0]), .dec false, .dec false, .dec false, .loop [] [] (S16 o l less X) N (fun i => [.dec true, .dec true, .el (cellsP (l.getD i default)), .call (.tup [bool (hb i), int (ge i)]), .el (cellsP (l.getD i default)), .call (.tup [bool (hb i), int (ge i)]), .dec false, .dec false, .br [.el [bool (less.getD i false)], .br [.el (cellsP (l.getD (i / 2) default)), .call (.tup [D i, int (er i)]), .el (cellsP (l.getD (i / 2) default)), .call (.tup [F i, int (er i)]), .dec false, .isn (nb i), .dec false, .br [] []] [.el (cellsP (l.getD i default)), .call (.tup [D i, int (er i)]), .el (cellsP (l.getD i default)), .call (.tup [F i, int (er i)]), .dec false, .isn (nb i), .dec false, .br [] []]] [.dec false, .el (cellsP (l.getD i default)), .call (.tup [D i, int (er i)]), .el (cellsP (l.getD i default)), .call (.tup [F i, int (er i)]), .dec false, .isn (nb i), .dec false, .br [] []]]), .dec false, .dec false, .call (bool true), .dec true, .call (bool true)]) (let z1 := AV.f (FV.sl 1 (cellsB less)); let z2 := (↑(List.length (cellsVs l)) : Int); CallsF P G 45 [int o] (FV.tup [FV.ptr [encM o 0 T.nil] 0, int 0]) ∧ CallsF P G 46 [int o] (FV.tup [FV.ptr [FV.ptr [int o, FV.sl 8 []] 0] 0, int 0]) ∧ E false ∧ E false ∧ E false ∧ (E true ∧ (E (AV.f (encI l)) ∧ E z1 ∧ AV.f (FV.ptr [encM o 0 T.nil] 0) = AV.f (FV.ptr [FV.ptr [int o, int (↑(Prod.snd (X 0)) : Int), encT (Prod.fst (X 0))] 0] 0) ∧ AV.f (FV.ptr [FV.ptr [int o, FV.sl 8 []] 0] 0) = AV.f (FV.ptr [FV.ptr [int o, FV.sl 8 (cellsPs (T.toList (Prod.fst (X 0))))] 0] 0) ∧ AV.f (int 0) = AV.f (int (Int.ofNat 0)) ∧ True) ∧ True ∧ E true ∧ (false = true → false = true)) ∧ (∀ (i : Nat), (let z7 := cellsPs (T.toList (Prod.fst (X i))); let z8 := List.getD l i default; let z5 := E 4 ∧ (0 : Int) ≤ (i : Int) ∧ (cellsVs l)[i]? = some (cellsP z8); let z9 := FV.ptr [FV.ptr [int o, int (↑(Prod.snd (X (i + 1))) : Int), encT (Prod.fst (X (i + 1)))] 0] 0; let z10 := (↑(Prod.snd (X i)) : Int); let z11 := FV.ptr [FV.ptr [int o, FV.sl 8 (cellsPs (T.toList (Prod.fst (X (i + 1)))))] 0] 0; let z12 := List.getD l (i / 2) default; let z6 := E 4 ∧ (0 : Int) ≤ IntKind.wrap IntKind.i64 (Int.tdiv (i : Int) 2) ∧ (cellsVs l)[Int.toNat (IntKind.wrap IntKind.i64 (Int.tdiv (i : Int) 2))]? = some (cellsP z12); let z13 := FV.tup [D i, int (er i)]; let z14 := FV.tup [F i, int (er i)]; let z15 := int (IntKind.wrap IntKind.i64 ((i : Int) + 1)); let z3 := E (AV.f (encI l)) ∧ E z1 ∧ AV.f (FV.ptr [FV.ptr [int o, int z10, encT (Prod.fst (X i))] 0] 0) = AV.f z9 ∧ AV.f (FV.ptr [FV.ptr [int o, FV.sl 8 z7] 0] 0) = AV.f z11 ∧ AV.f z15 = AV.f (int (↑(i + 1) : Int)) ∧ True; let z4 := E (AV.f (encI l)) ∧ E z1 ∧ AV.f (D i) = AV.f z9 ∧ AV.f (F i) = AV.f z11 ∧ AV.f z15 = AV.f (int (↑(i + 1) : Int)) ∧ True; let z16 := !nb i == (er i != 0); let z17 := FV.tup [bool (hb i), int (ge i)]; i < N → decide ((i : Int) < z2) = true ∧ decide ((i : Int) < 300) = true ∧ z5 ∧ CallsF P G 47 [FV.ptr [FV.ptr [int o, int z10, encT (Prod.fst (X i))] 0] 0, encV z8] z17 ∧ z5 ∧ CallsF P G 48 [FV.ptr [FV.ptr [int o, FV.sl 8 z7] 0] 0, encV z8] z17 ∧ (!hb i == hb i) = false ∧ (ge i != ge i) = false ∧ Br (decide ((i : Int) < (↑(List.length (cellsB less)) : Int))) ((E 1 ∧ (0 : Int) ≤ (i : Int) ∧ (cellsB less)[i]? = some [bool (List.getD less i false)]) ∧ Br (List.getD less i false) (z6 ∧ CallsF P G 49 [FV.ptr [FV.ptr [int o, int z10, encT (Prod.fst (X i))] 0] 0, encV z12] z13 ∧ z6 ∧ CallsF P G 50 [FV.ptr [FV.ptr [int o, FV.sl 8 z7] 0] 0, encV z12] z14 ∧ (er i != er i) = false ∧ IsNil (D i) (nb i) ∧ z16 = false ∧ Br (er i == 0) (E true ∧ z4 ∧ True ∧ E true ∧ (false = true → false = true)) (E true ∧ z3 ∧ True ∧ E true ∧ (false = true → false = true))) (z5 ∧ CallsF P G 51 [FV.ptr [FV.ptr [int o, int z10, encT (Prod.fst (X i))] 0] 0, encV z8] z13 ∧ z5 ∧ CallsF P G 52 [FV.ptr [FV.ptr [int o, FV.sl 8 z7] 0] 0, encV z8] z14 ∧ (er i != er i) = false ∧ IsNil (D i) (nb i) ∧ z16 = false ∧ Br (er i == 0) (E true ∧ z4 ∧ True ∧ E true ∧ (false = true → false = true)) (E true ∧ z3 ∧ True ∧ E true ∧ (false = true → false = true)))) (E false ∧ z5 ∧ CallsF P G 51 [FV.ptr [FV.ptr [int o, int z10, encT (Prod.fst (X i))] 0] 0, encV z8] z13 ∧ z5 ∧ CallsF P G 52 [FV.ptr [FV.ptr [int o, FV.sl 8 z7] 0] 0, encV z8] z14 ∧ (er i != er i) = false ∧ IsNil (D i) (nb i) ∧ z16 = false ∧ Br (er i == 0) (E true ∧ z4 ∧ True ∧ E true ∧ (false = true → false = true)) (E true ∧ z3 ∧ True ∧ E true ∧ (false = true → false = true))))) ∧ decide ((N : Int) < z2) = false ∧ E false ∧ CallsF P G 25 [FV.ptr [FV.ptr [int o, int (↑(Prod.snd (X N)) : Int), encT (Prod.fst (X N))] 0] 0, FV.ptr [FV.ptr [int o, FV.sl 8 (cellsPs (T.toList (Prod.fst (X N))))] 0] 0] (bool true) ∧ E true ∧ CallsF P G 22 [] (bool true) ∧ E (bool true)) get7 ent7 (by kernel_rfl) ?_
  refine ⟨?_, ?_, rfl, rfl, rfl, ⟨rfl, ⟨rfl, rfl, ?_, ?_, ?_, trivial⟩, trivial, rfl, fun hi => ?_⟩, fun i => fun hi => ⟨?_, ?_, ⟨rfl, ?_, ?_⟩, ?_, ⟨rfl, ?_, ?_⟩, ?_, ?_, ?_, fun hi => ⟨⟨rfl, ?_, ?_⟩, fun hi => ⟨⟨rfl, ?_, ?_⟩, ?_, ⟨rfl, ?_, ?_⟩, ?_, ?_, ?_, ?_, fun hi => ⟨rfl, ⟨rfl, rfl, ?_, ?_, ?_, trivial⟩, trivial, rfl, fun hi => ?_⟩, fun hi => ⟨rfl, ⟨rfl, rfl, ?_, ?_, ?_, trivial⟩, trivial, rfl, fun hi => ?_⟩⟩, fun hi => ⟨⟨rfl, ?_, ?_⟩, ?_, ⟨rfl, ?_, ?_⟩, ?_, ?_, ?_, ?_, fun hi => ⟨rfl, ⟨rfl, rfl, ?_, ?_, ?_, trivial⟩, trivial, rfl, fun hi => ?_⟩, fun hi => ⟨rfl, ⟨rfl, rfl, ?_, ?_, ?_, trivial⟩, trivial, rfl, fun hi => ?_⟩⟩⟩, fun hi => ⟨rfl, ⟨rfl, ?_, ?_⟩, ?_, ⟨rfl, ?_, ?_⟩, ?_, ?_, ?_, ?_, fun hi => ⟨rfl, ⟨rfl, rfl, ?_, ?_, ?_, trivial⟩, trivial, rfl, fun hi => ?_⟩, fun hi => ⟨rfl, ⟨rfl, rfl, ?_, ?_, ?_, trivial⟩, trivial, rfl, fun hi => ?_⟩⟩⟩, ?_, rfl, ?_, rfl, ?_, rfl⟩
  all_goals first | exact hg i (by assumption) | exact hrg i (by assumption) | (exact hd i (by assumption) (by simp only [cellsVs_length, cellsB_len, decide_eq_true_eq, decide_eq_false_iff_not] at *; omega) (by assumption)) | (exact hrd i (by assumption) (by simp only [cellsVs_length, cellsB_len, decide_eq_true_eq, decide_eq_false_iff_not] at *; omega) (by assumption)) | (exact ha i (by assumption) (.inr (by assumption))) | (exact hra i (by assumption) (.inr (by assumption))) | (exact ha i (by assumption) (.inl (by simp only [cellsVs_length, cellsB_len, decide_eq_true_eq, decide_eq_false_iff_not] at *; omega))) | (exact hra i (by assumption) (.inl (by simp only [cellsVs_length, cellsB_len, decide_eq_true_eq, decide_eq_false_iff_not] at *; omega))) | exact hDn i (by assumption) | exact hnew | exact hrnew | exact hsame | exact hspk | (exact cellsVs_get l i (by omega)) | (exact cellsB_get less i (by simp only [cellsVs_length, cellsB_len, decide_eq_true_eq, decide_eq_false_iff_not] at *; omega)) | (rw [halfI i (by omega), Int.toNat_natCast]; exact cellsVs_get l _ (by omega)) | (rw [halfI i (by omega)]; omega) | (rw [hX]; rfl) | (simp only [cellsVs_length, decide_eq_true_eq, decide_eq_false_iff_not]; omega) | (simp; done) | (rw [hnb i (by assumption)]; simp; done) | (rw [hE0 i (by assumption) (by simpa using hi)]; rfl) | (rw [hD0 i (by assumption) (by simpa using hi)]; rfl) | (rw [hX0 i (by assumption) (by simpa using hi)]; done) | (exact congrArg (fun x => AV.f (int x)) (wrapS ((i : Int) + 1) (by omega) (by omega))) | assumption
theorem steps16_part (o : Int) (l : List V) (less : List Bool) (N : Nat) (X : Nat → T × Nat) (D F : Nat → FV) (nb hb : Nat → Bool) (ge er : Nat → Int) (hN : N = 300) (hN3 : 300 < l.length) (hl : l.length ≤ 1152921504606846976) (hl2 : less.length ≤ 1152921504606846976) (hg : ∀ i, i < N → CallsF P G 47 [.ptr [encX o (X i)] 0, encV (l.getD i default)] (.tup [bool (hb i), int (ge i)])) (hrg : ∀ i, i < N → CallsF P G 48 [.ptr [.ptr [int o, encPs (X i).1.toList] 0] 0, encV (l.getD i default)] (.tup [bool (hb i), int (ge i)])) (hd : ∀ i, i < N → i < less.length → less.getD i false = true → CallsF P G 49 [.ptr [encX o (X i)] 0, encV (l.getD (i / 2) default)] (.tup [D i, int (er i)])) (hrd : ∀ i, i < N → i < less.length → less.getD i false = true → CallsF P G 50 [.ptr [.ptr [int o, encPs (X i).1.toList] 0] 0, encV (l.getD (i / 2) default)] (.tup [F i, int (er i)])) (ha : ∀ i, i < N → (less.length ≤ i ∨ less.getD i false = false) → CallsF P G 51 [.ptr [encX o (X i)] 0, encV (l.getD i default)] (.tup [D i, int (er i)])) (hra : ∀ i, i < N → (less.length ≤ i ∨ less.getD i false = false) → CallsF P G 52 [.ptr [.ptr [int o, encPs (X i).1.toList] 0] 0, encV (l.getD i default)] (.tup [F i, int (er i)])) (hDn : ∀ i, i < N → IsNil (D i) (nb i)) (hnb : ∀ i, i < N → nb i = (er i != 0)) (hD0 : ∀ i, i < N → er i = 0 → D i = .ptr [encX o (X (i + 1))] 0) (hE0 : ∀ i, i < N → er i = 0 → F i = .ptr [.ptr [int o, encPs (X (i + 1)).1.toList] 0] 0) (hX0 : ∀ i, i < N → er i ≠ 0 → X (i + 1) = X i) (hnew : CallsF P G 45 [int o] (.tup [.ptr [encM o 0 .nil] 0, int 0])) (hrnew : CallsF P G 46 [int o] (.tup [.ptr [.ptr [int o, encPs []] 0] 0, int 0])) (hX : X 0 = (.nil, 0)) (hsame : CallsF P G 25 [.ptr [encX o (X N)] 0, .ptr [.ptr [int o, encPs (X N).1.toList] 0] 0] (bool true)) (hspk : CallsF P G 22 [] (bool true)) : CallsF P G 7 [int o, encI l, .sl 1 (cellsB less)] (bool true) := by
  refine sx_fn (hs := [.call (.tup [.ptr [encM o 0 .nil] 0, int 0]), .call (.tup [.ptr [.ptr [int o, encPs []] 0] 0, int 0]), .dec false, .dec false, .dec false, .loop [] [] (S16 o l less X) N (fun i => [.dec true, .dec true, .el (cellsP (l.getD i default)), .call (.tup [bool (hb i), int (ge i)]), .el (cellsP (l.getD i default)), .call (.tup [bool (hb i), int (ge i)]), .dec false, .dec false, .br [.el [bool (less.getD i false)], .br [.el (cellsP (l.getD (i / 2) default)), .call (.tup [D i, int (er i)]), .el (cellsP (l.getD (i / 2) default)), .call (.tup [F i, int (er i)]), .dec false, .isn (nb i), .dec false, .br [] []] [.el (cellsP (l.getD i default)), .call (.tup [D i, int (er i)]), .el (cellsP (l.getD i default)), .call (.tup [F i, int (er i)]), .dec false, .isn (nb i), .dec false, .br [] []]] [.dec false, .el (cellsP (l.getD i default)), .call (.tup [D i, int (er i)]), .el (cellsP (l.getD i default)), .call (.tup [F i, int (er i)]), .dec false, .isn (nb i), .dec false, .br [] []]]), .dec true, .dec false, .call (bool true), .dec true, .call (bool true)]) (let z1 := AV.f (FV.sl 1 (cellsB less)); let z2 := (↑(List.length (cellsVs l)) : Int); CallsF P G 45 [int o] (FV.tup [FV.ptr [encM o 0 T.nil] 0, int 0]) ∧ CallsF P G 46 [int o] (FV.tup [FV.ptr [FV.ptr [int o, FV.sl 8 []] 0] 0, int 0]) ∧ E false ∧ E false ∧ E false ∧ (E true ∧ (E (AV.f (encI l)) ∧ E z1 ∧ AV.f (FV.ptr [encM o 0 T.nil] 0) = AV.f (FV.ptr [FV.ptr [int o, int (↑(Prod.snd (X 0)) : Int), encT (Prod.fst (X 0))] 0] 0) ∧ AV.f (FV.ptr [FV.ptr [int o, FV.sl 8 []] 0] 0) = AV.f (FV.ptr [FV.ptr [int o, FV.sl 8 (cellsPs (T.toList (Prod.fst (X 0))))] 0] 0) ∧ AV.f (int 0) = AV.f (int (Int.ofNat 0)) ∧ True) ∧ True ∧ E true ∧ (false = true → false = true)) ∧ (∀ (i : Nat), (let z7 := cellsPs (T.toList (Prod.fst (X i))); let z8 := List.getD l i default; let z5 := E 4 ∧ (0 : Int) ≤ (i : Int) ∧ (cellsVs l)[i]? = some (cellsP z8); let z9 := FV.ptr [FV.ptr [int o, int (↑(Prod.snd (X (i + 1))) : Int), encT (Prod.fst (X (i + 1)))] 0] 0; let z10 := (↑(Prod.snd (X i)) : Int); let z11 := FV.ptr [FV.ptr [int o, FV.sl 8 (cellsPs (T.toList (Prod.fst (X (i + 1)))))] 0] 0; let z12 := List.getD l (i / 2) default; let z6 := E 4 ∧ (0 : Int) ≤ IntKind.wrap IntKind.i64 (Int.tdiv (i : Int) 2) ∧ (cellsVs l)[Int.toNat (IntKind.wrap IntKind.i64 (Int.tdiv (i : Int) 2))]? = some (cellsP z12); let z13 := FV.tup [D i, int (er i)]; let z14 := FV.tup [F i, int (er i)]; let z15 := int (IntKind.wrap IntKind.i64 ((i : Int) + 1)); let z3 := E (AV.f (encI l)) ∧ E z1 ∧ AV.f (FV.ptr [FV.ptr [int o, int z10, encT (Prod.fst (X i))] 0] 0) = AV.f z9 ∧ AV.f (FV.ptr [FV.ptr [int o, FV.sl 8 z7] 0] 0) = AV.f z11 ∧ AV.f z15 = AV.f (int (↑(i + 1) : Int)) ∧ True; let z4 := E (AV.f (encI l)) ∧ E z1 ∧ AV.f (D i) = AV.f z9 ∧ AV.f (F i) = AV.f z11 ∧ AV.f z15 = AV.f (int (↑(i + 1) : Int)) ∧ True; let z16 := !nb i == (er i != 0); let z17 := FV.tup [bool (hb i), int (ge i)]; i < N → decide ((i : Int) < z2) = true ∧ decide ((i : Int) < 300) = true ∧ z5 ∧ CallsF P G 47 [FV.ptr [FV.ptr [int o, int z10, encT (Prod.fst (X i))] 0] 0, encV z8] z17 ∧ z5 ∧ CallsF P G 48 [FV.ptr [FV.ptr [int o, FV.sl 8 z7] 0] 0, encV z8] z17 ∧ (!hb i == hb i) = false ∧ (ge i != ge i) = false ∧ Br (decide ((i : Int) < (↑(List.length (cellsB less)) : Int))) ((E 1 ∧ (0 : Int) ≤ (i : Int) ∧ (cellsB less)[i]? = some [bool (List.getD less i false)]) ∧ Br (List.getD less i false) (z6 ∧ CallsF P G 49 [FV.ptr [FV.ptr [int o, int z10, encT (Prod.fst (X i))] 0] 0, encV z12] z13 ∧ z6 ∧ CallsF P G 50 [FV.ptr [FV.ptr [int o, FV.sl 8 z7] 0] 0, encV z12] z14 ∧ (er i != er i) = false ∧ IsNil (D i) (nb i) ∧ z16 = false ∧ Br (er i == 0) (E true ∧ z4 ∧ True ∧ E true ∧ (false = true → false = true)) (E true ∧ z3 ∧ True ∧ E true ∧ (false = true → false = true))) (z5 ∧ CallsF P G 51 [FV.ptr [FV.ptr [int o, int z10, encT (Prod.fst (X i))] 0] 0, encV z8] z13 ∧ z5 ∧ CallsF P G 52 [FV.ptr [FV.ptr [int o, FV.sl 8 z7] 0] 0, encV z8] z14 ∧ (er i != er i) = false ∧ IsNil (D i) (nb i) ∧ z16 = false ∧ Br (er i == 0) (E true ∧ z4 ∧ True ∧ E true ∧ (false = true → false = true)) (E true ∧ z3 ∧ True ∧ E true ∧ (false = true → false = true)))) (E false ∧ z5 ∧ CallsF P G 51 [FV.ptr [FV.ptr [int o, int z10, encT (Prod.fst (X i))] 0] 0, encV z8] z13 ∧ z5 ∧ CallsF P G 52 [FV.ptr [FV.ptr [int o, FV.sl 8 z7] 0] 0, encV z8] z14 ∧ (er i != er i) = false ∧ IsNil (D i) (nb i) ∧ z16 = false ∧ Br (er i == 0) (E true ∧ z4 ∧ True ∧ E true ∧ (false = true → false = true)) (E true ∧ z3 ∧ True ∧ E true ∧ (false = true → false = true))))) ∧ decide ((N : Int) < z2) = true ∧ decide ((N : Int) < 300) = false ∧ CallsF P G 25 [FV.ptr [FV.ptr [int o, int (↑(Prod.snd (X N)) : Int), encT (Prod.fst (X N))] 0] 0, FV.ptr [FV.ptr [int o, FV.sl 8 (cellsPs (T.toList (Prod.fst (X N))))] 0] 0] (bool true) ∧ E true ∧ CallsF P G 22 [] (bool true) ∧ E (bool true)) get7 ent7 (by kernel_rfl) ?_
  refine ⟨?_, ?_, rfl, rfl, rfl, ⟨rfl, ⟨rfl, rfl, ?_, ?_, ?_, trivial⟩, trivial, rfl, fun hi => ?_⟩, fun i => fun hi => ⟨?_, ?_, ⟨rfl, ?_, ?_⟩, ?_, ⟨rfl, ?_, ?_⟩, ?_, ?_, ?_, fun hi => ⟨⟨rfl, ?_, ?_⟩, fun hi => ⟨⟨rfl, ?_, ?_⟩, ?_, ⟨rfl, ?_, ?_⟩, ?_, ?_, ?_, ?_, fun hi => ⟨rfl, ⟨rfl, rfl, ?_, ?_, ?_, trivial⟩, trivial, rfl, fun hi => ?_⟩, fun hi => ⟨rfl, ⟨rfl, rfl, ?_, ?_, ?_, trivial⟩, trivial, rfl, fun hi => ?_⟩⟩, fun hi => ⟨⟨rfl, ?_, ?_⟩, ?_, ⟨rfl, ?_, ?_⟩, ?_, ?_, ?_, ?_, fun hi => ⟨rfl, ⟨rfl, rfl, ?_, ?_, ?_, trivial⟩, trivial, rfl, fun hi => ?_⟩, fun hi => ⟨rfl, ⟨rfl, rfl, ?_, ?_, ?_, trivial⟩, trivial, rfl, fun hi => ?_⟩⟩⟩, fun hi => ⟨rfl, ⟨rfl, ?_, ?_⟩, ?_, ⟨rfl, ?_, ?_⟩, ?_, ?_, ?_, ?_, fun hi => ⟨rfl, ⟨rfl, rfl, ?_, ?_, ?_, trivial⟩, trivial, rfl, fun hi => ?_⟩, fun hi => ⟨rfl, ⟨rfl, rfl, ?_, ?_, ?_, trivial⟩, trivial, rfl, fun hi => ?_⟩⟩⟩, ?_, ?_, ?_, rfl, ?_, rfl⟩
  all_goals first | exact hg i (by assumption) | exact hrg i (by assumption) | (exact hd i (by assumption) (by simp only [cellsVs_length, cellsB_len, decide_eq_true_eq, decide_eq_false_iff_not] at *; omega) (by assumption)) | (exact hrd i (by assumption) (by simp only [cellsVs_length, cellsB_len, decide_eq_true_eq, decide_eq_false_iff_not] at *; omega) (by assumption)) | (exact ha i (by assumption) (.inr (by assumption))) | (exact hra i (by assumption) (.inr (by assumption))) | (exact ha i (by assumption) (.inl (by simp only [cellsVs_length, cellsB_len, decide_eq_true_eq, decide_eq_false_iff_not] at *; omega))) | (exact hra i (by assumption) (.inl (by simp only [cellsVs_length, cellsB_len, decide_eq_true_eq, decide_eq_false_iff_not] at *; omega))) | exact hDn i (by assumption) | exact hnew | exact hrnew | exact hsame | exact hspk | (exact cellsVs_get l i (by omega)) | (exact cellsB_get less i (by simp only [cellsVs_length, cellsB_len, decide_eq_true_eq, decide_eq_false_iff_not] at *; omega)) | (rw [halfI i (by omega), Int.toNat_natCast]; exact cellsVs_get l _ (by omega)) | (rw [halfI i (by omega)]; omega) | (rw [hX]; rfl) | (simp only [cellsVs_length, decide_eq_true_eq, decide_eq_false_iff_not]; omega) | (simp; done) | (rw [hnb i (by assumption)]; simp; done) | (rw [hE0 i (by assumption) (by simpa using hi)]; rfl) | (rw [hD0 i (by assumption) (by simpa using hi)]; rfl) | (rw [hX0 i (by assumption) (by simpa using hi)]; done) | (exact congrArg (fun x => AV.f (int x)) (wrapS ((i : Int) + 1) (by omega) (by omega))) | assumption
end Go.Sx
set_option maxRecDepth 100000
set_option maxHeartbeats 4000000
set_option linter.unusedSimpArgs false
set_option linter.unusedVariables false
namespace Go.Sx
open Go.Proofs Sp
theorem okX_fine {x : T × Nat} (hx : OkX x) : ∀ p, p ∈ x.1.toList → Fine p.1 ∧ Fine p.2 := fun p hp => ⟨(hx.2.2.2 p hp).1, (hx.2.2.2 p hp).2.1⟩
theorem sitems_ok (o : Int) {x : T × Nat} (hx : OkX x) (hn : x.2 ≤ 65536) : CallsF P G 32 [.ptr [encX o x] 0] (encI (keysL x.1.toList)) := by
  have h := sitems_run o (x.2 : Int) x.1 _ (okX_fine hx) (by have : x.1.size = x.2 := hx.2.2.1; omega) rfl
  rw [List.take_length] at h
  exact h
theorem ritems_ok (o : Int) (L : List (V × V)) (hl : L.length ≤ 1000000) : CallsF P G 91 [.ptr [.ptr [int o, encPs L] 0] 0] (encI (keysL L)) := by
  have h := ritems_run o L _ rfl hl
  rw [List.take_length] at h
  exact h
theorem gone16_ok (o : Int) {x : T × Nat} (hx : OkX x) (hn : x.2 ≤ 65536) : CallsF P G 95 [.ptr [encX o x] 0, int (IntKind.i64.wrap (((cellsVs (keysL x.1.toList)).length : Int) + 1))] (encI (keysL x.1.toList)) := by
  have h8 := okX_len hx
  rw [cellsVs_length, keysL_len, wrapS _ (by omega) (by omega)]
  have h := gone16_run o (x.2 : Int) x.1 x.1.toList.length (okX_fine hx) (by have : x.1.size = x.2 := hx.2.2.1; omega) rfl
  rw [List.take_length] at h
  exact h
theorem plainSelf (v : V) (hv : Fine v) : CallsF P G 35 [encV v, encV v] (bool true) := by
  have h := eq_ok v hv v
  rw [eqB_true.2 rfl] at h
  exact h
theorem valsSelf (l : List V) (hl : l.length ≤ 1000000) (hf : ∀ x, x ∈ l → Fine x) : CallsF P G 36 [encI l, encI l] (bool true) := vals_same l (by omega) fun x hx => plainSelf x (hf x hx)
theorem keysL_fine {x : T × Nat} (hx : OkX x) : ∀ v, v ∈ keysL x.1.toList → Fine v := fun v hv => by
  obtain ⟨q, hq, rfl⟩ := List.mem_map.1 hv
  exact (hx.2.2.2 q hq).1
theorem same16_ok (o : Int) {x : T × Nat} (hx : OkX x) (hn : x.2 ≤ 65536) : CallsF P G 25 [.ptr [encX o x] 0, .ptr [.ptr [int o, encPs x.1.toList] 0] 0] (bool true) := by
  have h8 := okX_len hx
  obtain ⟨h1, h2⟩ := T.good_height hx (by omega)
  have h3 : T.most x.2 ≤ 120 := by have := (bits_spec 60 x.2 0 (by simp) rfl).2.1; unfold T.most; omega
  have hm := most_ok x.2 (by omega)
  have hl : (keysL x.1.toList).length = x.2 := by rw [keysL_len]; exact h8
  exact same16_run o (x.2 : Int) (x.1.height : Nat) x.1 x.1.toList (keysL x.1.toList) (T.most x.2 : Nat) (by rw [hl]) (by omega) (ritems_ok o _ (by omega)) (sorder_ok _ _ _) (slen_ok _ _ _) (sitems_ok o hx hn) (valsSelf _ (by omega) (keysL_fine hx)) (gone16_ok o hx hn)
    (sheight_ok _ _ _ _ (mheight_ok _ _ _ (height_ok _ (by omega)))) (by rw [cellsVs_length, hl]; exact hm)
theorem rp_wL {l : List V} (hf : ∀ v, v ∈ l → Fine v ∧ rightB v = true) : ∀ q, q ∈ wL l → RP q := fun q hq => by
  obtain ⟨v, hv, rfl⟩ := List.mem_map.1 hq
  exact ⟨(hf v hv).1, fine_nilW, (hf v hv).2, right_nilW⟩
theorem sof_ok (o : Int) (ho : 0 ≤ o ∧ o ≤ 5) (l : List V) (hl : l.length ≤ 65536) (hf : ∀ v, v ∈ l → Fine v ∧ rightB v = true) : CallsF P G 20 [int o, encI l] (.tup [.ptr [encX o (ofT (cmpO o) (wL l) (wL l).length)] 0, int 0]) := by
  have h := of_ok (cmpCO o ho) ho (l := wL l) (by rw [wL_len]; exact hl) (rp_wL hf)
  exact sof_run o _ _ l _ rfl (by omega) (h.argL (LeL.cons Le.rfl (LeL.cons (le_cellsN l) LeL.nil)))
theorem rmake_ok (o : Int) (ho : 0 ≤ o ∧ o ≤ 5) (l : List V) (hl : l.length ≤ 1000000) (hf : ∀ v, v ∈ l → Fine v ∧ rightB v = true) : CallsF P G 88 [int o, encI l] (.ptr [.ptr [int o, encPs (foldL (cmpO o) [] (wL l))] 0] 0) := by
  have h := build_ok o ho (wL l).length (wL l) (Nat.le_refl _) (by rw [wL_len]; exact hl) (rp_wL hf)
  exact rmake_run o l _ _ rfl (by omega) (h.argL (LeL.cons Le.rfl (LeL.cons (le_cellsN l) LeL.nil)))
def sp3 : List V := [mkI (-2), mkI 1, mkI 0]
def tS3 : T := .node false (.node false .nil .nil (mkI 0) nilW) (.node false .nil .nil (mkI (-2)) nilW) (mkI 1) nilW
theorem near3 (a b : Int) : cmpO 5 (mkI a) (mkI b) = orI (cmpI (awayI a) (awayI b)) (cmpI a b) := by
  show nearC (mkI a) (mkI b) = _
  unfold nearC
  rw [if_pos ⟨rfl, rfl⟩]
  rfl
theorem sp3_fine : ∀ v, v ∈ sp3 → Fine v ∧ rightB v = true := by
  intro v hv
  simp only [sp3, List.mem_cons, List.not_mem_nil, or_false] at hv
  rcases hv with rfl | rfl | rfl <;> exact ⟨fine_mkI _ (by omega), right_mkI _⟩
theorem aw2 : awayI (-2) = 2 := by decide
theorem aw1 : awayI 1 = 1 := by decide
theorem awm : awayI (-1) = 1 := by decide
theorem aw0 : awayI 0 = 0 := by decide
theorem n3a : cmpO 5 (mkI 1) (mkI (-2)) = -1 := by rw [near3]; simp [aw0, aw1, aw2, awm, orI, cmpI]
theorem n3b : cmpO 5 (mkI 0) (mkI (-2)) = -1 := by rw [near3]; simp [aw0, aw1, aw2, awm, orI, cmpI]
theorem n3c : cmpO 5 (mkI 0) (mkI 1) = -1 := by rw [near3]; simp [aw0, aw1, aw2, awm, orI, cmpI]
theorem n3d : cmpO 5 (mkI 0) (mkI (-1)) = -1 := by rw [near3]; simp [aw0, aw1, aw2, awm, orI, cmpI]
theorem n3e : cmpO 5 (mkI 1) (mkI (-1)) = 1 := by rw [near3]; simp [aw0, aw1, aw2, awm, orI, cmpI]
theorem of_sp3 : ofT (cmpO 5) (wL sp3) (wL sp3).length = (tS3, 3) := by
  rw [show (wL sp3).length = 3 from rfl]
  simp [ofT, putT, T.insert, T.find, T.blackened, T.balance, T.like, T.red, T.isNil, T.left, T.right, T.key, T.val, wL, sp3, n3a, n3b, n3c, tS3]
theorem speaks16 : CallsF P G 22 [] (bool true) := by
  have ho : (0 : Int) ≤ 5 ∧ (5 : Int) ≤ 5 := by omega
  have h2 := sof_ok 5 ho sp3 (by simp [sp3]) sp3_fine
  have hx := (ofT_ok (c := cmpO 5) (rp_wL sp3_fine) (wL sp3).length (Nat.le_refl _)).1
  have hR := (ofT_fold (cmpO_line 5) (wL sp3) (wL sp3).length (Nat.le_refl _)).2
  rw [of_sp3] at h2 hx hR
  have hk : keysL tS3.toList = [mkI 0, mkI 1, mkI (-2)] := by simp [keysL, tS3, T.toList]
  have hit := sitems_ok 5 hx (by simp)
  simp only [hk] at hit
  have hs : tS3.size ≤ 131072 := by simp [tS3, T.size]
  have hra := rank_ok 5 3 tS3 (mkI (-1)) ho (fine_mkI _ (by omega)) (right_mkI _) hx.2.2.2 hs hR
  have he : aheadN (cmpO 5) (mkI (-1)) tS3.toList = 1 := by simp [aheadN, tS3, T.toList, List.takeWhile_cons, n3d, n3e]
  rw [he] at hra
  have hfi := first_ok 5 3 tS3 (okX_fine hx) hs
  have e0 : atQ tS3.toList 0 = (mkI 0, nilW) := by simp [atQ, inQ, tS3, T.toList]
  have e1 : inQ tS3.toList 0 = true := by simp [inQ, tS3, T.toList]
  rw [e0, e1] at hfi
  exact speaks16_run 5 3 tS3 (mkI 0) rfl (ints_all [-2, 1, 0] (by simp)) h2 (srank_run _ _ _ _ _ _ hra) (sfirst_run 5 3 0 tS3 (mkI 0, nilW) (mkI 0) true hfi (end_ok _)) hit (ints_all [0, 1, -2] (by simp)) (valsSelf _ (by simp) fun v hv => by
    simp only [List.mem_cons, List.not_mem_nil, or_false] at hv
    rcases hv with rfl | rfl | rfl <;> exact fine_mkI _ (by omega))
end Go.Sx
set_option maxRecDepth 100000
set_option maxHeartbeats 4000000
set_option linter.unusedSimpArgs false
set_option linter.unusedVariables false
namespace Go.Sx
open Go.Proofs Sp
theorem get46 : P.funcs[46]? = some Tryz.f46 := by kernel_rfl
theorem ent46 : entersP P 46 = true := by kernel_rfl
theorem rsnew_ok (o : Int) (h : CallsF P G 67 [int o] (bool true)) (h2 : CallsF P G 88 [int o, .nils] (.ptr [.ptr [int o, encPs []] 0] 0)) : CallsF P G 46 [int o] (.tup [.ptr [.ptr [int o, encPs []] 0] 0, int 0]) := by
  refine sx_fn (hs := [.call (bool true), .dec false, .call (FV.ptr [FV.ptr [int o, encPs []] 0] 0)]) (CallsF P G 67 [int o] (bool true) ∧ E false ∧ CallsF P G 88 [int o, FV.nils] (FV.ptr [FV.ptr [int o, FV.sl 8 []] 0] 0) ∧ E (FV.tup [FV.ptr [FV.ptr [int o, FV.sl 8 []] 0] 0, int 0])) get46 ent46 (by kernel_rfl) ?_
  refine ⟨?_, rfl, ?_, rfl⟩
  all_goals first | exact h | exact h2
theorem rsnew_bad (o : Int) (h : CallsF P G 67 [int o] (bool false)) : CallsF P G 46 [int o] (.tup [.sc (.pointer none), int 4]) := by
  refine sx_fn (hs := [.call (bool false), .dec true]) ((CallsF P G 67 [int o] (bool false)) ∧ (E (true)) ∧ E (FV.tup [FV.sc (Value.pointer none), int 4])) get46 ent46 (by kernel_rfl) ?_
  refine ⟨?_, ⟨rfl, rfl⟩⟩
  all_goals exact h
/-- A map's members and what is asked of a key, there or not, right or not. -/
theorem has_both (o : Int) (ho : 0 ≤ o ∧ o ≤ 5) {x : T × Nat} (hx : OkX x) (hn : x.2 ≤ 65536) (hR : Rising (cmpO o) x.1.toList) {k : V} (hk : Fine k) :
    ∃ b e, CallsF P G 47 [.ptr [encX o x] 0, encV k] (.tup [bool b, int e]) ∧ CallsF P G 48 [.ptr [.ptr [int o, encPs x.1.toList] 0] 0, encV k] (.tup [bool b, int e]) ∧ (rightB k = true → CallsF P G 109 [.ptr [.ptr [int o, encPs x.1.toList] 0] 0, encV k] (bool b) ∧ e = 0 ∧ (b = true ↔ ∃ p, p ∈ x.1.toList ∧ p.1 = k)) := by
  have hri := refRight_ok k hk
  cases hr : rightB k with
  | false =>
    rw [hr] at hri
    exact ⟨false, 3, shas_ok _ _ _ _ k nilW _ ((get_bad o _ _ _ hk hr).le (le_tup (LeL.cons le_zero (LeL.refl _)))), rhas_no _ _ _ hri, (fun h => by cases h)⟩
  | true =>
    rw [hr] at hri
    by_cases hm : ∃ p, p ∈ x.1.toList ∧ p.1 = k
    · obtain ⟨p, hp, rfl⟩ := hm
      obtain ⟨h1, h2⟩ := get_hit o ho hx hn hR (show (p.1, p.2) ∈ x.1.toList from hp)
      have h3 := rin_ok o x.1.toList p.1 p.2 true h2
      exact ⟨true, 0, shas_ok _ _ _ _ _ _ _ h1, rhas_ok _ _ _ _ hri h3, fun _ => ⟨h3, rfl, ⟨fun _ => ⟨p, hp, rfl⟩, fun _ => rfl⟩⟩⟩
    · obtain ⟨h1, h2⟩ := get_miss o ho hx hn hR hk hr (fun p hp e => hm ⟨p, hp, e⟩)
      have h3 := rin_ok o x.1.toList k nilW false (h2.le (le_tup (LeL.cons le_zero (LeL.refl _))))
      exact ⟨false, 0, shas_ok _ _ _ _ _ _ _ h1, rhas_ok _ _ _ _ hri h3, fun _ => ⟨h3, rfl, ⟨(fun h => by cases h), fun h => absurd h hm⟩⟩⟩
theorem conj_both (o : Int) (ho : 0 ≤ o ∧ o ≤ 5) {x : T × Nat} (hx : OkX x) (hn : x.2 ≤ 60000) (hR : Rising (cmpO o) x.1.toList) {k : V} (hk : Fine k) (hr : rightB k = true) :
    CallsF P G 51 [.ptr [encX o x] 0, encV k] (.tup [.ptr [encX o (putT (cmpO o) x k nilW)] 0, int 0]) ∧ CallsF P G 52 [.ptr [.ptr [int o, encPs x.1.toList] 0] 0, encV k] (.tup [.ptr [.ptr [int o, encPs (putT (cmpO o) x k nilW).1.toList] 0] 0, int 0]) ∧ Rising (cmpO o) (putT (cmpO o) x k nilW).1.toList := by
  have hp : RP (k, nilW) := ⟨hk, fine_nilW, hr, right_nilW⟩
  have hri := refRight_ok k hk
  rw [hr] at hri
  obtain ⟨w1, w2⟩ := refWith_ok o ho hx hn hR hp
  obtain ⟨b, e, _, _, h3⟩ := has_both o ho hx (by omega) hR hk
  have h8 := okX_len hx
  refine ⟨sconj_ok _ _ _ _ _ _ (assoc_put (cmpCO o ho) hx (by omega) hp).nilV3, ?_, w2⟩
  exact rsconj_ok o _ _ k b (by omega) hri (h3 hr).1 (rswith_ok _ _ _ _ (CallsF.argL w1 (LeL.cons Le.rfl (LeL.cons Le.rfl (LeL.cons le_zero LeL.nil)))))
theorem conj_bad (o : Int) {x : T × Nat} {k : V} (hk : Fine k) (hr : rightB k = false) :
    CallsF P G 51 [.ptr [encX o x] 0, encV k] (.tup [.sc (.pointer none), int 3]) ∧ CallsF P G 52 [.ptr [.ptr [int o, encPs x.1.toList] 0] 0, encV k] (.tup [.sc (.pointer none), int 3]) := by
  have hri := refRight_ok k hk
  rw [hr] at hri
  exact ⟨sconj_no _ _ _ _ _ (by omega) (assoc_bad o _ _ k nilW hk fine_nilW (by simp [pairE, hr])).nilV3, rsconj_no _ _ _ hri⟩
theorem disj_both (o : Int) (ho : 0 ≤ o ∧ o ≤ 5) {x : T × Nat} (hx : OkX x) (hn : x.2 ≤ 60000) (hR : Rising (cmpO o) x.1.toList) {k : V} (hk : Fine k) (hr : rightB k = true) :
    CallsF P G 49 [.ptr [encX o x] 0, encV k] (.tup [.ptr [encX o (cutT (cmpO o) x k)] 0, int 0]) ∧ CallsF P G 50 [.ptr [.ptr [int o, encPs x.1.toList] 0] 0, encV k] (.tup [.ptr [.ptr [int o, encPs (cutT (cmpO o) x k).1.toList] 0] 0, int 0]) ∧ Rising (cmpO o) (cutT (cmpO o) x k).1.toList := by
  have hri := refRight_ok k hk
  rw [hr] at hri
  obtain ⟨w1, w2⟩ := refWithout_ok o ho hx hn hR hk hr
  exact ⟨sdisj_ok _ _ _ _ _ _ (dissoc_cut (cmpCO o ho) hx (by omega) hk hr), rsdisj_ok o _ _ k hri (rswithout_ok _ _ _ _ w1), w2⟩
theorem disj_bad (o : Int) {x : T × Nat} {k : V} (hk : Fine k) (hr : rightB k = false) :
    CallsF P G 49 [.ptr [encX o x] 0, encV k] (.tup [.sc (.pointer none), int 3]) ∧ CallsF P G 50 [.ptr [.ptr [int o, encPs x.1.toList] 0] 0, encV k] (.tup [.sc (.pointer none), int 3]) := by
  have hri := refRight_ok k hk
  rw [hr] at hri
  exact ⟨sdisj_no _ _ _ _ _ (by omega) (dissoc_bad o _ _ k hk hr), rsdisj_no _ _ _ hri⟩
/-- The sets, step by step. -/
noncomputable def lessI (less : List Bool) (i : Nat) : Bool := decide (i < less.length) && less.getD i false
noncomputable def keyI (l : List V) (less : List Bool) (i : Nat) : V := if lessI less i then l.getD (i / 2) default else l.getD i default
noncomputable def stepK (c : V → V → Int) (l : List V) (less : List Bool) : Nat → T × Nat
  | 0 => (.nil, 0)
  | i + 1 => if rightB (keyI l less i) then (if lessI less i then cutT c (stepK c l less i) (keyI l less i) else putT c (stepK c l less i) (keyI l less i) nilW) else stepK c l less i
theorem key_fine {l : List V} {less : List Bool} (hf : ∀ v, v ∈ l → Fine v) {i : Nat} (hi : i < l.length) : Fine (keyI l less i) := by
  unfold keyI
  split
  · exact hf _ (getD_memV l _ (by omega))
  · exact hf _ (getD_memV l _ hi)
theorem stepK_ok (o : Int) (ho : 0 ≤ o ∧ o ≤ 5) (l : List V) (less : List Bool) (hf : ∀ v, v ∈ l → Fine v) : ∀ i, i ≤ l.length → i ≤ 300 → OkX (stepK (cmpO o) l less i) ∧ (stepK (cmpO o) l less i).2 ≤ i ∧ Rising (cmpO o) (stepK (cmpO o) l less i).1.toList
  | 0, _, _ => ⟨okX_nil, Nat.le_refl _, by simp [stepK, T.toList, Rising]⟩
  | i + 1, hi, h3 => by
    obtain ⟨h1, h2, hR⟩ := stepK_ok o ho l less hf i (by omega) (by omega)
    have hk := key_fine (less := less) hf (show i < l.length by omega)
    simp only [stepK]
    split
    · rename_i hr
      split
      · exact ⟨(okX_cut _ h1 _).1, Nat.le_trans (okX_cut _ h1 _).2 (by omega), (disj_both o ho h1 (by omega) hR hk hr).2.2⟩
      · exact ⟨okX_put _ h1 ⟨hk, fine_nilW, hr, right_nilW⟩, Nat.le_trans (put_le _ _ _ _) (by omega), (conj_both o ho h1 (by omega) hR hk hr).2.2⟩
    · exact ⟨h1, by omega, hR⟩
theorem isNil_ptr0 (cs : List FV) (z : Nat) : IsNil (.ptr cs z) false := ⟨fun h => (by cases h), fun _ => ⟨_, _, rfl⟩⟩
theorem isNil_nil0 : IsNil (.sc (.pointer none)) true := ⟨fun _ => rfl, fun h => (by cases h)⟩
theorem sset_steps_law (o : Int) (l : List V) (less : List Bool) (hl : l.length ≤ 1152921504606846976) (hl2 : less.length ≤ 1152921504606846976) (hf : ∀ v, v ∈ l → Fine v) : CallsF P G 7 [int o, encI l, .sl 1 (cellsB less)] (bool true) := by
  have hk := kind_ok o
  by_cases ho : 0 ≤ o ∧ o ≤ 5
  case neg =>
    rw [show (decide (0 ≤ o) && decide (o ≤ 5)) = false by rw [Bool.and_eq_false_iff, decide_eq_false_iff_not, decide_eq_false_iff_not]; omega] at hk
    exact steps16_bad o l less (snew_bad o 4 rfl (by omega)) (rsnew_bad o hk) speaks16
  rw [show (decide (0 ≤ o) && decide (o ≤ 5)) = true by rw [Bool.and_eq_true, decide_eq_true_eq, decide_eq_true_eq]; exact ho] at hk
  have hmk := (rmake_ok o ho [] (by simp) (by simp)).argL (LeL.cons Le.rfl (LeL.cons (le_nils 4) LeL.nil) : LeL [int o, .nils] [int o, encI []])
  have hrn := rsnew_ok o hk hmk
  let X := stepK (cmpO o) l less
  have hX : ∀ i, i ≤ l.length → i ≤ 300 → OkX (X i) ∧ (X i).2 ≤ i ∧ Rising (cmpO o) (X i).1.toList := stepK_ok o ho l less hf
  let er : Nat → Int := fun i => if rightB (keyI l less i) then 0 else 3
  have hex : ∀ i, ∃ r : Bool × Int × FV × FV, i < l.length → i < 300 →
      CallsF P G 47 [.ptr [encX o (X i)] 0, encV (l.getD i default)] (.tup [bool r.1, int r.2.1]) ∧ CallsF P G 48 [.ptr [.ptr [int o, encPs (X i).1.toList] 0] 0, encV (l.getD i default)] (.tup [bool r.1, int r.2.1]) ∧
      (lessI less i = true → CallsF P G 49 [.ptr [encX o (X i)] 0, encV (l.getD (i / 2) default)] (.tup [r.2.2.1, int (er i)]) ∧ CallsF P G 50 [.ptr [.ptr [int o, encPs (X i).1.toList] 0] 0, encV (l.getD (i / 2) default)] (.tup [r.2.2.2, int (er i)])) ∧
      (lessI less i = false → CallsF P G 51 [.ptr [encX o (X i)] 0, encV (l.getD i default)] (.tup [r.2.2.1, int (er i)]) ∧ CallsF P G 52 [.ptr [.ptr [int o, encPs (X i).1.toList] 0] 0, encV (l.getD i default)] (.tup [r.2.2.2, int (er i)])) ∧
      IsNil r.2.2.1 (er i != 0) ∧ (er i = 0 → r.2.2.1 = .ptr [encX o (X (i + 1))] 0) ∧ (er i = 0 → r.2.2.2 = .ptr [.ptr [int o, encPs (X (i + 1)).1.toList] 0] 0) ∧ (er i ≠ 0 → X (i + 1) = X i) := fun i => by
    by_cases h : i < l.length ∧ i < 300
    case neg => exact ⟨(false, 0, .nils, .nils), fun h1 h2 => absurd ⟨h1, h2⟩ h⟩
    obtain ⟨x1, x2, x3⟩ := hX i (by omega) (by omega)
    obtain ⟨b, e, g1, g2, _⟩ := has_both o ho x1 (by omega) x3 (hf _ (getD_memV l i h.1))
    have hk := key_fine (less := less) hf h.1
    cases hr : rightB (keyI l less i) with
    | false =>
      have e1 : er i = 3 := if_neg (by rw [hr]; simp)
      have e2 : X (i + 1) = X i := by show stepK _ _ _ (i + 1) = _; simp only [stepK, hr]; rfl
      refine ⟨(b, e, .sc (.pointer none), .sc (.pointer none)), fun _ _ => ⟨g1, g2, fun hl => ?_, fun hl => ?_, ?_, fun h => ?_, fun h => ?_, fun _ => e2⟩⟩
      · have e3 : keyI l less i = l.getD (i / 2) default := by unfold keyI; rw [hl]; rfl
        rw [e1, ← e3]; exact disj_bad o hk hr
      · have e3 : keyI l less i = l.getD i default := by unfold keyI; rw [hl]; rfl
        rw [e1, ← e3]; exact conj_bad o hk hr
      · rw [e1]; exact isNil_nil0
      · rw [e1] at h; cases h
      · rw [e1] at h; cases h
    | true =>
      have e1 : er i = 0 := if_pos hr
      cases hl : lessI less i with
      | true =>
        have e2 : X (i + 1) = cutT (cmpO o) (X i) (keyI l less i) := by show stepK _ _ _ (i + 1) = _; simp only [stepK, hr, hl]; rfl
        have e3 : keyI l less i = l.getD (i / 2) default := by unfold keyI; rw [hl]; rfl
        obtain ⟨d1, d2, _⟩ := disj_both o ho x1 (by omega) x3 hk hr
        refine ⟨(b, e, .ptr [encX o (X (i + 1))] 0, .ptr [.ptr [int o, encPs (X (i + 1)).1.toList] 0] 0), fun _ _ => ⟨g1, g2, fun _ => ?_, (fun h => by cases h), ?_, fun _ => rfl, fun _ => rfl, fun h => absurd e1 h⟩⟩
        · rw [e1, ← e3, e2]; exact ⟨d1, d2⟩
        · rw [e1]; exact isNil_ptr0 _ _
      | false =>
        have e2 : X (i + 1) = putT (cmpO o) (X i) (keyI l less i) nilW := by show stepK _ _ _ (i + 1) = _; simp only [stepK, hr, hl]; rfl
        have e3 : keyI l less i = l.getD i default := by unfold keyI; rw [hl]; rfl
        obtain ⟨d1, d2, _⟩ := conj_both o ho x1 (by omega) x3 hk hr
        refine ⟨(b, e, .ptr [encX o (X (i + 1))] 0, .ptr [.ptr [int o, encPs (X (i + 1)).1.toList] 0] 0), fun _ _ => ⟨g1, g2, (fun h => by cases h), fun _ => ?_, ?_, fun _ => rfl, fun _ => rfl, fun h => absurd e1 h⟩⟩
        · rw [e1, ← e3, e2]; exact ⟨d1, d2⟩
        · rw [e1]; exact isNil_ptr0 _ _
  obtain ⟨F, hF⟩ := Classical.axiomOfChoice hex
  have hless : ∀ i, i < less.length → less.getD i false = true → lessI less i = true := fun i h1 h2 => by unfold lessI; rw [h2, decide_eq_true h1]; rfl
  have hmore : ∀ i, (less.length ≤ i ∨ less.getD i false = false) → lessI less i = false := fun i h => by
    unfold lessI
    rcases h with h | h
    · rw [decide_eq_false (by omega)]; rfl
    · rw [h, Bool.and_false]
  have hsame : ∀ N, N ≤ l.length → N ≤ 300 → CallsF P G 25 [.ptr [encX o (X N)] 0, .ptr [.ptr [int o, encPs (X N).1.toList] 0] 0] (bool true) := fun N h1 h2 => same16_ok o (hX N h1 h2).1 (by have := (hX N h1 h2).2.1; omega)
  rcases Nat.lt_or_ge 300 l.length with h3 | h3
  · exact steps16_part o l less 300 X (fun i => (F i).2.2.1) (fun i => (F i).2.2.2) (fun i => er i != 0) (fun i => (F i).1) (fun i => (F i).2.1) er rfl h3 hl hl2
      (fun i hi => (hF i (by omega) hi).1) (fun i hi => (hF i (by omega) hi).2.1) (fun i hi a b => ((hF i (by omega) hi).2.2.1 (hless i a b)).1) (fun i hi a b => ((hF i (by omega) hi).2.2.1 (hless i a b)).2) (fun i hi a => ((hF i (by omega) hi).2.2.2.1 (hmore i a)).1) (fun i hi a => ((hF i (by omega) hi).2.2.2.1 (hmore i a)).2)
      (fun i hi => (hF i (by omega) hi).2.2.2.2.1) (fun i hi => rfl) (fun i hi => (hF i (by omega) hi).2.2.2.2.2.1) (fun i hi => (hF i (by omega) hi).2.2.2.2.2.2.1) (fun i hi => (hF i (by omega) hi).2.2.2.2.2.2.2) (snew_ok o ho) hrn rfl (hsame 300 (by omega) (by omega)) speaks16
  · exact steps16_all o l less l.length X (fun i => (F i).2.2.1) (fun i => (F i).2.2.2) (fun i => er i != 0) (fun i => (F i).1) (fun i => (F i).2.1) er rfl h3 hl hl2
      (fun i hi => (hF i hi (by omega)).1) (fun i hi => (hF i hi (by omega)).2.1) (fun i hi a b => ((hF i hi (by omega)).2.2.1 (hless i a b)).1) (fun i hi a b => ((hF i hi (by omega)).2.2.1 (hless i a b)).2) (fun i hi a => ((hF i hi (by omega)).2.2.2.1 (hmore i a)).1) (fun i hi a => ((hF i hi (by omega)).2.2.2.1 (hmore i a)).2)
      (fun i hi => (hF i hi (by omega)).2.2.2.2.1) (fun i hi => rfl) (fun i hi => (hF i hi (by omega)).2.2.2.2.2.1) (fun i hi => (hF i hi (by omega)).2.2.2.2.2.2.1) (fun i hi => (hF i hi (by omega)).2.2.2.2.2.2.2) (snew_ok o ho) hrn rfl (hsame l.length (by omega) (by omega)) speaks16
end Go.Sx

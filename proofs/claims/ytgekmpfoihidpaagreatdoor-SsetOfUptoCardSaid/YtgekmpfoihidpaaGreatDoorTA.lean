/-
  Proved: what some functions of the program answer, or a law of the evaluator that shows it, one theorem each; its conditions are the hypotheses that stand ahead of it.
-/
import Derived.Test.YtgekmpfoihidpaaGreatDoorR5
import Derived.KernelRfl
import Derived.Test.YtgekmpfoihidpaaGreatDoorM5
import Derived.Test.YtgekmpfoihidpaaGreatDoorNL
import Derived.Test.YtgekmpfoihidpaaGreatDoorGY
import Derived.Test.YtgekmpfoihidpaaGreatDoorB6
set_option maxRecDepth 100000
set_option maxHeartbeats 4000000
set_option linter.unusedSimpArgs false
set_option linter.unusedVariables false
namespace Go.Sx
open Go.Proofs Sp
/-- The members of a set: the keys of its map. -/
def keysL (L : List (V × V)) : List V := L.map (·.1)
def itK1 (L : List (V × V)) (j : Nat) : List FV := [encV (L.getD j default).1]
def Ssk (M : FV) (Y : Yd) (i : Nat) : St := { sl := slots 13 [(1, .f (.ptr [.ptr [M] 0] 0)), (2, .loc 1 0)], ob := [(0, .yd Y i), (1, .box [.f (.sc Y.u)])], nx := 2 }
def Sit (o n : Int) (t : T) (l : List (V × V)) (i : Nat) : St := { sl := slots 15 [(0, .f (.ptr [encM o n t] 0)), (3, .loc 0 0)], ob := [(0, .box [.lsl 1]), (1, .row 4 62 (cellsVs (keysL (l.take i))))], nx := 2 }
theorem keys_step (l : List (V × V)) (i : Nat) (h : i < l.length) : cellsVs (keysL (l.take i)) ++ [cellsP (l.getD i default).1] = cellsVs (keysL (l.take (i + 1))) := by
  rw [List.take_succ_eq_append_getElem h]
  have e : ∀ a b : List V, cellsVs (a ++ b) = cellsVs a ++ cellsVs b := fun a b => by induction a with
    | nil => simp [cellsVs]
    | cons x a ih => simp [cellsVs, ih]
  have e2 : keysL (l.take i ++ [l[i]]) = keysL (l.take i) ++ [l[i].1] := by unfold keysL; rw [List.map_append]; rfl
  rw [e2, e, List.getD_eq_getElem?_getD, List.getElem?_eq_getElem h]
  simp [cellsVs, cellsP_eq]
theorem set_last (s : Nat) (l : List (List FV)) (z : List FV) (e : List FV) : (l ++ chunk s 1 z).set l.length e = l ++ [e] := by simp [chunk]
theorem keysL_len (l : List (V × V)) : (keysL l).length = l.length := by simp [keysL]
theorem get90 : P.funcs[90]? = some Tryz.f90 := by kernel_rfl
theorem ent90 : entersP P 90 = true := by kernel_rfl
theorem keys_ok (o n : Int) (t : T)  : CallsF P G 90 [.ptr [encM o n t] 0] (encM o n t) := by
  refine sx_fn (hs := [.dec false]) ((E (false)) ∧ E (encM o n t)) get90 ent90 (by kernel_rfl) ?_
  exact ⟨rfl, rfl⟩
theorem get86 : P.funcs[86]? = some Tryz.f86 := by kernel_rfl
theorem ent86 : entersP P 86 = true := by kernel_rfl
theorem smade_ok (o n : Int) (t : T)  : CallsF P G 86 [encM o n t, int 0] (.tup [.ptr [encM o n t] 0, int 0]) := by
  refine sx_fn (hs := [.dec false, .ones, .lfz [0]]) ((E (false)) ∧ ((E (true)) ∧ True) ∧ E (FV.tup [FV.ptr [encM o n t] 0, int 0])) get86 ent86 (by kernel_rfl) ?_
  exact ⟨rfl, ⟨⟨rfl, trivial⟩, rfl⟩⟩
theorem smade_no (M : FV) (e : Int) (he : e ≠ 0) : CallsF P G 86 [M, int e] (.tup [.sc (.pointer none), int e]) := by
  refine sx_fn (hs := [.br [] [.ones, .lfz [0]]]) ((((e != 0) = (true)) → (E (FV.tup [FV.sc (Value.pointer none), int e]))) ∧ (((e != 0) = (false)) → ((((AV.one (AV.f M)) = (true)) ∧ True) ∧ (FV.tup [FV.ptr [M] 0, int 0]) = (FV.tup [FV.sc (Value.pointer none), int e])))) get86 ent86 (by kernel_rfl) ?_
  refine ⟨fun hi => rfl, fun hi => ⟨⟨?_, trivial⟩, ?_⟩⟩
  all_goals (simp_all; done)
theorem get93 : P.funcs[93]? = some Tryz.f93 := by kernel_rfl
theorem ent93 : entersP P 93 = true := by kernel_rfl
theorem sorder_ok (o n : Int) (t : T)  : CallsF P G 93 [.ptr [encM o n t] 0] (int o) := by
  refine sx_fn (hs := [.call (encM o n t), .call (int o)]) ((CallsF P G 90 [FV.ptr [encM o n t] 0] (encM o n t)) ∧ (CallsF P G 75 [encM o n t] (int o)) ∧ E (int o)) get93 ent93 (by kernel_rfl) ?_
  refine ⟨?_, ⟨?_, rfl⟩⟩
  all_goals first | exact keys_ok _ _ _ | exact order_ok _ _ _
theorem get94 : P.funcs[94]? = some Tryz.f94 := by kernel_rfl
theorem ent94 : entersP P 94 = true := by kernel_rfl
theorem slen_ok (o n : Int) (t : T)  : CallsF P G 94 [.ptr [encM o n t] 0] (int n) := by
  refine sx_fn (hs := [.call (encM o n t), .call (int n)]) ((CallsF P G 90 [FV.ptr [encM o n t] 0] (encM o n t)) ∧ (CallsF P G 76 [encM o n t] (int n)) ∧ E (int n)) get94 ent94 (by kernel_rfl) ?_
  refine ⟨?_, ⟨?_, rfl⟩⟩
  all_goals first | exact keys_ok _ _ _ | exact len_ok _ _ _
theorem get96 : P.funcs[96]? = some Tryz.f96 := by kernel_rfl
theorem ent96 : entersP P 96 = true := by kernel_rfl
theorem sheight_ok (o n h : Int) (t : T) (hh : CallsF P G 74 [encM o n t] (int h)) : CallsF P G 96 [.ptr [encM o n t] 0] (int h) := by
  refine sx_fn (hs := [.call (encM o n t), .call (int h)]) ((CallsF P G 90 [FV.ptr [encM o n t] 0] (encM o n t)) ∧ (CallsF P G 74 [encM o n t] (int h)) ∧ E (int h)) get96 ent96 (by kernel_rfl) ?_
  refine ⟨?_, ⟨?_, rfl⟩⟩
  all_goals first | exact keys_ok _ _ _ | exact hh
theorem get100 : P.funcs[100]? = some Tryz.f100 := by kernel_rfl
theorem ent100 : entersP P 100 = true := by kernel_rfl
theorem sall_ok (o n : Int) (t : T)  : CallsF P G 100 [.ptr [encM o n t] 0] (.fn 135 [] [.ptr [.ptr [encM o n t] 0] 0]) := by
  refine sx_fn (hs := [.ones, .lfz [0]]) ((E (true)) ∧ E (FV.fn 135 [] [FV.ptr [FV.ptr [encM o n t] 0] 0])) get100 ent100 (by kernel_rfl) ?_
  exact ⟨rfl, rfl⟩
theorem get135 : P.funcs[135]? = some Tryz.f135 := by kernel_rfl
theorem ent135 : entersP P 135 = true := by kernel_rfl
theorem sall1_ok (Y : Yd) (o n : Int) (t : T) (N : Nat) (hf : ∀ p, p ∈ t.toList → Fine p.1 ∧ Fine p.2) (hN : N = t.toList.length) (hlaw : YLaw P G Y) (hal : ∀ i, i < N → Y.alive i) (hb : ∀ i, i < N → Y.b i = true) (hit : ∀ i, i < N → Y.it i = itK1 t.toList i) : CallsX P G 135 [.sc Y.u, .ptr [.ptr [encM o n t] 0] 0] (Y) (0) (.tup []) (N) := by
  refine sx_fnX (hs := [.ones, .call (encM o n t), .call (.fn 127 [] [.ptr [encM o n t] 0]), .range [(0, 0), (1, 1)] (Ssk (encM o n t) Y) N (itL t.toList) (fun _ => true) (.tup []) none (fun i => [.yield 0, .dec false, .ren [(3, 0), (1, 1)]])]) ((E (true)) ∧ ((AV.one (AV.f (FV.sc (Yd.u Y)))) = (true)) ∧ (CallsF P G 90 [FV.ptr [encM o n t] 0] (encM o n t)) ∧ (CallsF P G 78 [encM o n t] (FV.fn 127 [] [FV.ptr [encM o n t] 0])) ∧ ((E (true)) ∧ ((E (AV.f (FV.ptr [FV.ptr [encM o n t] 0] 0))) ∧ (E (AV.loc 1 0)) ∧ True) ∧ ((E (Ob.yd Y 0)) ∧ (E (Ob.box [AV.f (FV.sc (Yd.u Y))])) ∧ True) ∧ (E (true)) ∧ (((false) = (true)) → ((false) = (true)))) ∧ (E (false)) ∧ (E (true)) ∧ ((∀ (i : Nat), ((i ≤ N) → (E (true))))) ∧ ((∀ (Y : Yd), (((Yd.it Y) = (itL (T.toList t))) → ((((Yd.b Y) = (fun x => true)) → ((((Yd.n Y) = (N)) → (((YLaw P G Y) → (CallsX P G 127 ([FV.sc (Yd.u Y), FV.ptr [encM o n t] 0]) (Y) (0) (FV.tup []) (N))))))))))) ∧ ((∀ (i : Nat), ((i < N) → ((E (true)) ∧ (E (true)) ∧ ((E (Yd.u Y)) ∧ (YLaw P G Y) ∧ (Yd.alive Y i) ∧ ([encV (Prod.fst (List.getD (T.toList t) i default))]) = (Yd.it Y i)) ∧ ((!Yd.b Y i) = (false)) ∧ (E (true)) ∧ (E (true)) ∧ ((E (AV.f (FV.ptr [FV.ptr [encM o n t] 0] 0))) ∧ (E (AV.loc 1 0)) ∧ True) ∧ ((E (Ob.yd Y (i + 1))) ∧ (E (Ob.box [AV.f (FV.sc (Yd.u Y))])) ∧ True) ∧ (E (true)) ∧ (((false) = (true)) → ((false) = (true))))))) ∧ (((0 < N) → (E (true)))) ∧ (E (Y)) ∧ (E (N)) ∧ E (FV.tup [])) get135 ent135 (by kernel_rfl) ?_
  refine ⟨rfl, ⟨?_, ⟨?_, ⟨?_, ⟨⟨rfl, ⟨⟨rfl, ⟨rfl, trivial⟩⟩, ⟨⟨rfl, ⟨rfl, trivial⟩⟩, ⟨rfl, fun hi => ?_⟩⟩⟩⟩, ⟨rfl, ⟨rfl, ⟨fun i => fun hi => rfl, ⟨fun Y => fun hi => fun hi => fun hi => fun hi => ?_, ⟨fun i => fun hi => ⟨rfl, ⟨rfl, ⟨⟨rfl, ⟨?_, ⟨?_, ?_⟩⟩⟩, ⟨?_, ⟨rfl, ⟨rfl, ⟨⟨rfl, ⟨rfl, trivial⟩⟩, ⟨⟨rfl, ⟨rfl, trivial⟩⟩, ⟨rfl, fun hi => ?_⟩⟩⟩⟩⟩⟩⟩⟩⟩, ⟨fun hi => rfl, ⟨rfl, ⟨rfl, rfl⟩⟩⟩⟩⟩⟩⟩⟩⟩⟩⟩⟩⟩
  all_goals first | exact Y.one | exact keys_ok _ _ _ | exact all_ok _ _ _ | exact hlaw | exact hal i (by assumption) | (rw [hb i (by assumption)]; rfl) | (rw [hit i (by assumption)]; rfl) | (rename_i h1 h2 h3; have e : (walkR Y.b t 0).2 = N := (by rw [h2, walkR_all t 0 (fun _ _ _ => rfl), hN, T.toList_length]; simp); have h5 := all1_ok Y o n t hf hi (by rw [h3, hN, T.toList_length]; exact Nat.le_refl _) (by rw [h3, hN, T.toList_length]; exact Nat.le_refl _) h1; rw [e] at h5; exact h5) | assumption
theorem get32 : P.funcs[32]? = some Tryz.f32 := by kernel_rfl
theorem ent32 : entersP P 32 = true := by kernel_rfl
theorem sitems_run (o n : Int) (t : T) (N : Nat) (hf : ∀ p, p ∈ t.toList → Fine p.1 ∧ Fine p.2) (hs : t.size ≤ 131072) (hN : N = t.toList.length) : CallsF P G 32 [.ptr [encM o n t] 0] (.sl 4 (cellsVs (keysL (t.toList.take N)))) := by
  refine sx_fn (hs := [.call (.fn 135 [] [.ptr [.ptr [encM o n t] 0] 0]), .pre [.nrowb 0 0 4 62], .range [(0,0),(1,1)] (Sit o n t t.toList) N (itK1 t.toList) (fun _ => true) (.tup []) none (fun i => [.pca [(4, 1)], .ren [(0,0),(3,1)]]), .frz [1]]) ((CallsF P G 100 [FV.ptr [encM o n t] 0] (FV.fn 135 [] [FV.ptr [FV.ptr [encM o n t] 0] 0])) ∧ ((E (true)) ∧ ((E (AV.f (FV.ptr [encM o n t] 0))) ∧ (E (AV.loc 0 0)) ∧ True) ∧ ((E (Ob.box [AV.lsl 1])) ∧ (E (Ob.row 4 62 [])) ∧ True) ∧ (E (true)) ∧ (((false) = (true)) → ((false) = (true)))) ∧ (E (false)) ∧ (E (true)) ∧ ((∀ (i : Nat), ((i ≤ N) → (E (true))))) ∧ ((∀ (Y : Yd), (((Yd.it Y) = (itK1 (T.toList t))) → ((((Yd.b Y) = (fun x => true)) → ((((Yd.n Y) = (N)) → (((YLaw P G Y) → (CallsX P G 135 ([FV.sc (Yd.u Y), FV.ptr [FV.ptr [encM o n t] 0] 0]) (Y) (0) (FV.tup []) (N))))))))))) ∧ ((∀ (i : Nat), ((i < N) → ((E (true)) ∧ (E (true)) ∧ (E (true)) ∧ ((oneF ([[int 0, int 0, str [], FV.nils]])) ∧ (List.length (cellsVs (keysL (List.take i (T.toList t)))) + 1 ≤ maxLen) ∧ ((List.length (cellsVs (keysL (List.take i (T.toList t)))) + 1) * 56 ≤ 140737488355328) ∧ E (false)) ∧ (E (false)) ∧ ((((0 : Int) ≤ (↑(List.length (cellsVs (keysL (List.take i (T.toList t))))) : Int)) ∧ List.length (cellsVs (keysL (List.take i (T.toList t)))) < List.length (cellsVs (keysL (List.take i (T.toList t))) ++ chunk 4 1 [fV1 (Value.int IntKind.i64 0), fV1 (Value.int IntKind.i64 0), fV1 (Value.string { data := #[] }), fV1 (Value.slice none 0 0)])) ∧ (E (false)) ∧ ((List.length (cellsVs (keysL (List.take i (T.toList t)))) < List.length (cellsVs (keysL (List.take i (T.toList t))) ++ chunk 4 1 [fV1 (Value.int IntKind.i64 0), fV1 (Value.int IntKind.i64 0), fV1 (Value.string { data := #[] }), fV1 (Value.slice none 0 0)])) ∧ (E (false)) ∧ (E (true)) ∧ (E (true)) ∧ (E (true)) ∧ ((E (AV.f (FV.ptr [encM o n t] 0))) ∧ (E (AV.loc 0 0)) ∧ True) ∧ ((E (Ob.box [AV.lsl 1])) ∧ ((Ob.row 4 62 (List.set (cellsVs (keysL (List.take i (T.toList t))) ++ chunk (TypeInfo.size (Tables.types (Program.toTables P))[62]) 1 [fV1 (Value.int IntKind.i64 0), fV1 (Value.int IntKind.i64 0), fV1 (Value.string { data := #[] }), fV1 (Value.slice none 0 0)]) (List.length (cellsVs (keysL (List.take i (T.toList t))))) (cellsP (Prod.fst (List.getD (T.toList t) i default))))) = (Ob.row 4 62 (cellsVs (keysL (List.take (i + 1) (T.toList t)))))) ∧ True) ∧ (E (true)) ∧ (((false) = (true)) → ((false) = (true)))) ∧ (E (false)) ∧ (List.length (cellsVs (keysL (List.take i (T.toList t)))) < List.length (cellsVs (keysL (List.take i (T.toList t))) ++ chunk 4 1 [fV1 (Value.int IntKind.i64 0), fV1 (Value.int IntKind.i64 0), fV1 (Value.string { data := #[] }), fV1 (Value.slice none 0 0)])) ∧ (E (true)) ∧ (E (true)) ∧ (E (true)) ∧ ((E (AV.f (FV.ptr [encM o n t] 0))) ∧ (E (AV.loc 0 0)) ∧ True) ∧ ((E (Ob.box [AV.lsl 1])) ∧ ((Ob.row 4 62 (List.set (cellsVs (keysL (List.take i (T.toList t))) ++ chunk (TypeInfo.size (Tables.types (Program.toTables P))[62]) 1 [fV1 (Value.int IntKind.i64 0), fV1 (Value.int IntKind.i64 0), fV1 (Value.string { data := #[] }), fV1 (Value.slice none 0 0)]) (List.length (cellsVs (keysL (List.take i (T.toList t))))) (cellsP (Prod.fst (List.getD (T.toList t) i default))))) = (Ob.row 4 62 (cellsVs (keysL (List.take (i + 1) (T.toList t)))))) ∧ True) ∧ (E (true)) ∧ (((false) = (true)) → ((false) = (true)))) ∧ (E (false)) ∧ (((0 : Int) ≤ (↑(List.length (cellsVs (keysL (List.take i (T.toList t))))) : Int)) ∧ List.length (cellsVs (keysL (List.take i (T.toList t)))) < List.length (cellsVs (keysL (List.take i (T.toList t))) ++ chunk 4 1 [fV1 (Value.int IntKind.i64 0), fV1 (Value.int IntKind.i64 0), fV1 (Value.string { data := #[] }), fV1 (Value.slice none 0 0)])) ∧ (E (false)) ∧ (List.length (cellsVs (keysL (List.take i (T.toList t)))) < List.length (cellsVs (keysL (List.take i (T.toList t))) ++ chunk 4 1 [fV1 (Value.int IntKind.i64 0), fV1 (Value.int IntKind.i64 0), fV1 (Value.string { data := #[] }), fV1 (Value.slice none 0 0)])) ∧ (E (true)) ∧ (E (true)) ∧ (E (true)) ∧ ((E (AV.f (FV.ptr [encM o n t] 0))) ∧ (E (AV.loc 0 0)) ∧ True) ∧ ((E (Ob.box [AV.lsl 1])) ∧ ((Ob.row 4 62 (List.set (cellsVs (keysL (List.take i (T.toList t))) ++ chunk (TypeInfo.size (Tables.types (Program.toTables P))[62]) 1 [fV1 (Value.int IntKind.i64 0), fV1 (Value.int IntKind.i64 0), fV1 (Value.string { data := #[] }), fV1 (Value.slice none 0 0)]) (List.length (cellsVs (keysL (List.take i (T.toList t))))) (cellsP (Prod.fst (List.getD (T.toList t) i default))))) = (Ob.row 4 62 (cellsVs (keysL (List.take (i + 1) (T.toList t)))))) ∧ True) ∧ (E (true)) ∧ (((false) = (true)) → ((false) = (true))))))) ∧ (((0 < N) → (E (true)))) ∧ E (encI (keysL (List.take N (T.toList t))))) get32 ent32 (by kernel_rfl) ?_
  refine ⟨?_, ⟨⟨rfl, ⟨⟨rfl, ⟨rfl, trivial⟩⟩, ⟨⟨rfl, ⟨rfl, trivial⟩⟩, ⟨rfl, fun hi => ?_⟩⟩⟩⟩, ⟨rfl, ⟨rfl, ⟨fun i => fun hi => rfl, ⟨fun Y => fun hi => fun hi => fun hi => fun hi => ?_, ⟨fun i => fun hi => ⟨rfl, ⟨rfl, ⟨rfl, ⟨⟨?_, ⟨?_, ⟨?_, rfl⟩⟩⟩, ⟨rfl, ⟨⟨⟨?_, ?_⟩, ⟨rfl, ⟨⟨?_, ⟨rfl, ⟨rfl, ⟨rfl, ⟨rfl, ⟨⟨rfl, ⟨rfl, trivial⟩⟩, ⟨⟨rfl, ⟨?_, trivial⟩⟩, ⟨rfl, fun hi => ?_⟩⟩⟩⟩⟩⟩⟩⟩, ⟨rfl, ⟨?_, ⟨rfl, ⟨rfl, ⟨rfl, ⟨⟨rfl, ⟨rfl, trivial⟩⟩, ⟨⟨rfl, ⟨?_, trivial⟩⟩, ⟨rfl, fun hi => ?_⟩⟩⟩⟩⟩⟩⟩⟩⟩⟩⟩, ⟨rfl, ⟨⟨?_, ?_⟩, ⟨rfl, ⟨?_, ⟨rfl, ⟨rfl, ⟨rfl, ⟨⟨rfl, ⟨rfl, trivial⟩⟩, ⟨⟨rfl, ⟨?_, trivial⟩⟩, ⟨rfl, fun hi => ?_⟩⟩⟩⟩⟩⟩⟩⟩⟩⟩⟩⟩⟩⟩⟩⟩, ⟨fun hi => rfl, rfl⟩⟩⟩⟩⟩⟩⟩⟩
  all_goals first | exact sall_ok _ _ _ | (exact congrArg (Ob.row 4 62) ((set_last _ _ _ _).trans (keys_step _ _ (by omega)))) | (have h8 := T.toList_length t; simp only [cellsVs_length, keysL_len, List.length_take, chunk, List.length_cons, List.length_nil, maxLen]; omega) | (have h8 := T.toList_length t; simp only [List.length_append, cellsVs_length, keysL_len, List.length_take, chunk, List.length_cons, List.length_nil, maxLen]; omega) | (rename_i h1 h2 h3; exact sall1_ok Y o n t N hf hN hi (fun i hi2 => ⟨fun j _ => congrFun h2 j, by omega⟩) (fun i _ => congrFun h2 i) (fun i _ => congrFun h1 i)) | assumption | (intro x hx; simp at hx; rcases hx with rfl | rfl | rfl | rfl <;> rfl)
end Go.Sx
set_option maxRecDepth 100000
set_option maxHeartbeats 4000000
set_option linter.unusedSimpArgs false
set_option linter.unusedVariables false
namespace Go.Sx
open Go.Proofs Sp
/-- Members as pairs with no value. -/
def wL (l : List V) : List (V × V) := l.map fun v => (v, nilW)
def cellsN (l : List V) : List (List FV) := l.map fun v => cellsP v ++ [int 0, int 0, str [], .nils]
def Sso (o : Int) (l : List V) (i : Nat) : St := { sl := slots 29 [(0, .f (int o)), (6, .lsl 0), (9, .f (encI l)), (10, .f (int (cellsVs l).length)), (11, .f (int (i : Int)))], ob := [(0, .row 8 96 (cellsN (l.take i)))], nx := 1 }
def Smk (o : Int) (l : List V) (i : Nat) : St := { sl := slots 26 [(0, .f (int o)), (1, .f (encI l)), (5, .lsl 0), (6, .f (int (i : Int)))], ob := [(0, .row 8 96 (cellsN (l.take i)))], nx := 1 }
def Swi (o : Int) (L : List (V × V)) (i : Nat) : St := { sl := slots 32 [(0, .f (.ptr [.ptr [int o, encPs L] 0] 0)), (3, .lsl 0), (4, .f (int (i : Int)))], ob := [(0, .row 4 62 (cellsVs (keysL (L.take i))))], nx := 1 }
theorem cellsN_len (l : List V) : (cellsN l).length = l.length := List.length_map ..
theorem cellsN_step (l : List V) (i : Nat) (h : i < l.length) : cellsN (l.take i) ++ [cellsP (l.getD i default) ++ [int 0, int 0, str [], .nils]] = cellsN (l.take (i + 1)) := by
  rw [List.take_succ_eq_append_getElem h]
  unfold cellsN; rw [List.map_append, List.getD_eq_getElem?_getD, List.getElem?_eq_getElem h]; rfl
theorem cellsN_weak {w : World} {ok : Nat → Prop} {b : Nat} : ∀ (l : List V) (o : Nat), FRelE w ok 8 (cellsN l) b o → FRelE w ok 8 (cellsPs (wL l)) b o
  | [], o, h => by simp [wL, cellsPs, FRelE]
  | v :: l, o, h => by
    simp only [cellsN, wL, List.map_cons, cellsPs, FRelE] at h ⊢
    obtain ⟨h1, h2, h3⟩ := h
    refine ⟨rfl, ?_, cellsN_weak l _ h3⟩
    rw [nilW_cells]
    exact relC_le _ _ _ (LeL.app _ _ _ leL_zero) h2
theorem le_cellsN (l : List V) : Le (.sl 8 (cellsN l)) (encPs (wL l)) := by
  intro w ok v h
  have e : (cellsN l).length = (cellsPs (wL l)).length := by rw [cellsN_len, cellsPs_length]; simp [wL]
  simp only [FRel, encPs] at h ⊢
  rcases h with ⟨h1, h2⟩ | ⟨b, o, c, h1, h2, h3, h4⟩
  · left
    refine ⟨?_, h2⟩
    have h5 := congrArg List.length h1
    rw [e] at h5
    exact List.eq_nil_of_length_eq_zero h5
  · right
    exact ⟨b, o, c, by rw [← e]; exact h1, by rw [← e]; exact h2, h3, cellsN_weak _ _ h4⟩
theorem wL_len (l : List V) : (wL l).length = l.length := by simp [wL]
theorem get20 : P.funcs[20]? = some Tryz.f20 := by kernel_rfl
theorem ent20 : entersP P 20 = true := by kernel_rfl
theorem sof_run (o n : Int) (t : T) (l : List V) (N : Nat) (hN : N = l.length) (hl : l.length ≤ 1000000000000) (h1 : CallsF P G 10 [int o, .sl 8 (cellsN l)] (.tup [encM o n t, int 0])) : CallsF P G 20 [int o, encI l] (.tup [.ptr [encM o n t] 0, int 0]) := by
  refine sx_fn (hs := [Hint.pre [Hint.nrow 6 8 96], .loop [(0, 0)] [(3, 0)] (Sso o l) (N) (fun i => [.br [.el (cellsP (List.getD l i default))] []]), .br [.el (cellsP (List.getD l N default))] [.lfz [0], .call (FV.tup [encM o n t, int 0]), .call (FV.tup [FV.ptr [encM o n t] 0, int 0])]]) (let z1 := List.getD l N default; let z2 := Value.int IntKind.i64 0; let z3 := (↑(List.length (cellsVs l)) : Int); let z4 := Value.slice none 0 0; let z5 := cellsN (List.take N l); let z6 := FV.tup [FV.ptr [encM o n t] 0, int 0]; (E true ∧ (E (AV.f (int o)) ∧ E (AV.lsl 0) ∧ E (AV.f (encI l)) ∧ E (AV.f (int z3)) ∧ AV.f (int 0) = AV.f (int (Int.ofNat 0)) ∧ True) ∧ (E (Ob.row 8 96 []) ∧ True) ∧ E true ∧ (false = true → false = true)) ∧ (∀ (i : Nat), (let z7 := List.getD l i default; i < N → Br (decide ((i : Int) < z3)) ((E 4 ∧ (0 : Int) ≤ (i : Int) ∧ (cellsVs l)[i]? = some (cellsP z7)) ∧ (oneF ([[int (V.kind z7), int (V.num z7), str (V.text z7), encI (V.items z7), int 0, int 0, str [], FV.nils]]) ∧ List.length (cellsN (List.take i l)) + List.length (chunk 8 1 [int (V.kind z7), int (V.num z7), str (V.text z7), encI (V.items z7), fV1 z2, fV1 z2, fV1 (Value.string { data := #[] }), fV1 z4]) ≤ maxLen ∧ (List.length (cellsN (List.take i l)) + List.length (chunk 8 1 [int (V.kind z7), int (V.num z7), str (V.text z7), encI (V.items z7), fV1 z2, fV1 z2, fV1 (Value.string { data := #[] }), fV1 z4])) * 112 ≤ 140737488355328 ∧ E false) ∧ E true ∧ (E (AV.f (int o)) ∧ E (AV.lsl 0) ∧ E (AV.f (encI l)) ∧ E (AV.f (int z3)) ∧ AV.f (int (IntKind.wrap IntKind.i64 ((i : Int) + 1))) = AV.f (int (↑(i + 1) : Int)) ∧ True) ∧ (Ob.row 8 96 (cellsN (List.take i l) ++ chunk (TypeInfo.size (Tables.types (Program.toTables P))[96]) 1 [int (V.kind z7), int (V.num z7), str (V.text z7), encI (V.items z7), fV1 z2, fV1 z2, fV1 (Value.string { data := #[] }), fV1 z4]) = Ob.row 8 96 (cellsN (List.take (i + 1) l)) ∧ True) ∧ E true ∧ (St.nd (Sso o l (i + 1)) = true → false = true)) False)) ∧ Br (decide ((N : Int) < z3)) ((E 4 ∧ (0 : Int) ≤ (N : Int) ∧ (cellsVs l)[N]? = some (cellsP z1)) ∧ (oneF ([[int (V.kind z1), int (V.num z1), str (V.text z1), encI (V.items z1), int 0, int 0, str [], FV.nils]]) ∧ List.length z5 + List.length (chunk 8 1 [int (V.kind z1), int (V.num z1), str (V.text z1), encI (V.items z1), fV1 z2, fV1 z2, fV1 (Value.string { data := #[] }), fV1 z4]) ≤ maxLen ∧ (List.length z5 + List.length (chunk 8 1 [int (V.kind z1), int (V.num z1), str (V.text z1), encI (V.items z1), fV1 z2, fV1 z2, fV1 (Value.string { data := #[] }), fV1 z4])) * 112 ≤ 140737488355328 ∧ E false) ∧ False) (CallsF P G 10 [int o, FV.sl 8 z5] (FV.tup [encM o n t, int 0]) ∧ CallsF P G 86 [encM o n t, int 0] z6 ∧ E z6)) get20 ent20 (by kernel_rfl) ?_
  refine ⟨⟨rfl, ⟨rfl, rfl, rfl, rfl, ?_, trivial⟩, ⟨rfl, trivial⟩, rfl, fun hi => ?_⟩, fun i => fun hlt => ⟨fun hi => ⟨⟨rfl, ?_, ?_⟩, ⟨?_, ?_, ?_, rfl⟩, rfl, ⟨rfl, rfl, rfl, rfl, ?_, trivial⟩, ⟨?_, trivial⟩, rfl, fun hi => ?_⟩, fun hi => ?_⟩, fun hi => ⟨⟨rfl, ?_, ?_⟩, ⟨?_, ?_, ?_, rfl⟩, ?_⟩, fun hi => ⟨?_, ?_, rfl⟩⟩
  all_goals first | exact cellsVs_get l _ (by omega) | (simp only [cellsVs_length, decide_eq_true_eq, decide_eq_false_iff_not] at *; omega) | (exact congrArg (fun x => AV.f (int x)) (wrapS ((i : Int) + 1) (by omega) (by omega))) | (exact congrArg (Ob.row 8 96) (cellsN_step _ _ (by omega))) | (simp only [cellsN_len, List.length_take, chunk, List.length_cons, List.length_nil, maxLen]; omega) | (rw [hN, List.take_length]; exact h1) | exact smade_ok _ _ _ | assumption | (intro x hx; simp at hx; rcases hx with rfl | rfl | rfl | rfl | rfl | rfl | rfl | rfl <;> rfl) | (simp [V.kind, V.num, V.text, V.items, *]; done)
theorem sof_bad (o e : Int) (l : List V) (N : Nat) (he : e ≠ 0) (hN : N = l.length) (hl : l.length ≤ 1000000000000) (h1 : CallsF P G 10 [int o, .sl 8 (cellsN l)] (.tup [.sc (.pointer none), int e])) : CallsF P G 20 [int o, encI l] (.tup [.sc (.pointer none), int e]) := by
  refine sx_fn (hs := let z1 := FV.tup [FV.sc (Value.pointer none), int e]; [Hint.pre [Hint.nrow 6 8 96], .loop [(0, 0)] [(3, 0)] (Sso o l) (N) (fun i => [.br [.el (cellsP (List.getD l i default))] []]), .br [.el (cellsP (List.getD l N default))] [.lfz [0], .call z1, .call z1]]) (let z1 := List.getD l N default; let z2 := Value.int IntKind.i64 0; let z3 := (↑(List.length (cellsVs l)) : Int); let z4 := FV.tup [FV.sc (Value.pointer none), int e]; let z5 := Value.slice none 0 0; let z6 := cellsN (List.take N l); (E true ∧ (E (AV.f (int o)) ∧ E (AV.lsl 0) ∧ E (AV.f (encI l)) ∧ E (AV.f (int z3)) ∧ AV.f (int 0) = AV.f (int (Int.ofNat 0)) ∧ True) ∧ (E (Ob.row 8 96 []) ∧ True) ∧ E true ∧ (false = true → false = true)) ∧ (∀ (i : Nat), (let z7 := List.getD l i default; i < N → Br (decide ((i : Int) < z3)) ((E 4 ∧ (0 : Int) ≤ (i : Int) ∧ (cellsVs l)[i]? = some (cellsP z7)) ∧ (oneF ([[int (V.kind z7), int (V.num z7), str (V.text z7), encI (V.items z7), int 0, int 0, str [], FV.nils]]) ∧ List.length (cellsN (List.take i l)) + List.length (chunk 8 1 [int (V.kind z7), int (V.num z7), str (V.text z7), encI (V.items z7), fV1 z2, fV1 z2, fV1 (Value.string { data := #[] }), fV1 z5]) ≤ maxLen ∧ (List.length (cellsN (List.take i l)) + List.length (chunk 8 1 [int (V.kind z7), int (V.num z7), str (V.text z7), encI (V.items z7), fV1 z2, fV1 z2, fV1 (Value.string { data := #[] }), fV1 z5])) * 112 ≤ 140737488355328 ∧ E false) ∧ E true ∧ (E (AV.f (int o)) ∧ E (AV.lsl 0) ∧ E (AV.f (encI l)) ∧ E (AV.f (int z3)) ∧ AV.f (int (IntKind.wrap IntKind.i64 ((i : Int) + 1))) = AV.f (int (↑(i + 1) : Int)) ∧ True) ∧ (Ob.row 8 96 (cellsN (List.take i l) ++ chunk (TypeInfo.size (Tables.types (Program.toTables P))[96]) 1 [int (V.kind z7), int (V.num z7), str (V.text z7), encI (V.items z7), fV1 z2, fV1 z2, fV1 (Value.string { data := #[] }), fV1 z5]) = Ob.row 8 96 (cellsN (List.take (i + 1) l)) ∧ True) ∧ E true ∧ (St.nd (Sso o l (i + 1)) = true → false = true)) False)) ∧ Br (decide ((N : Int) < z3)) ((E 4 ∧ (0 : Int) ≤ (N : Int) ∧ (cellsVs l)[N]? = some (cellsP z1)) ∧ (oneF ([[int (V.kind z1), int (V.num z1), str (V.text z1), encI (V.items z1), int 0, int 0, str [], FV.nils]]) ∧ List.length z6 + List.length (chunk 8 1 [int (V.kind z1), int (V.num z1), str (V.text z1), encI (V.items z1), fV1 z2, fV1 z2, fV1 (Value.string { data := #[] }), fV1 z5]) ≤ maxLen ∧ (List.length z6 + List.length (chunk 8 1 [int (V.kind z1), int (V.num z1), str (V.text z1), encI (V.items z1), fV1 z2, fV1 z2, fV1 (Value.string { data := #[] }), fV1 z5])) * 112 ≤ 140737488355328 ∧ E false) ∧ False) (CallsF P G 10 [int o, FV.sl 8 z6] z4 ∧ CallsF P G 86 [FV.sc (Value.pointer none), int e] z4 ∧ E z4)) get20 ent20 (by kernel_rfl) ?_
  refine ⟨⟨rfl, ⟨rfl, rfl, rfl, rfl, ?_, trivial⟩, ⟨rfl, trivial⟩, rfl, fun hi => ?_⟩, fun i => fun hlt => ⟨fun hi => ⟨⟨rfl, ?_, ?_⟩, ⟨?_, ?_, ?_, rfl⟩, rfl, ⟨rfl, rfl, rfl, rfl, ?_, trivial⟩, ⟨?_, trivial⟩, rfl, fun hi => ?_⟩, fun hi => ?_⟩, fun hi => ⟨⟨rfl, ?_, ?_⟩, ⟨?_, ?_, ?_, rfl⟩, ?_⟩, fun hi => ⟨?_, ?_, rfl⟩⟩
  all_goals first | exact cellsVs_get l _ (by omega) | (simp only [cellsVs_length, decide_eq_true_eq, decide_eq_false_iff_not] at *; omega) | (exact congrArg (fun x => AV.f (int x)) (wrapS ((i : Int) + 1) (by omega) (by omega))) | (exact congrArg (Ob.row 8 96) (cellsN_step _ _ (by omega))) | (simp only [cellsN_len, List.length_take, chunk, List.length_cons, List.length_nil, maxLen]; omega) | (rw [hN, List.take_length]; exact h1) | exact smade_no _ _ he | assumption | (intro x hx; simp at hx; rcases hx with rfl | rfl | rfl | rfl | rfl | rfl | rfl | rfl <;> rfl) | (simp [V.kind, V.num, V.text, V.items, *]; done)
theorem get88 : P.funcs[88]? = some Tryz.f88 := by kernel_rfl
theorem ent88 : entersP P 88 = true := by kernel_rfl
theorem rmake_run (o : Int) (l : List V) (L : List (V × V)) (N : Nat) (hN : N = l.length) (hl : l.length ≤ 1000000000000) (h1 : CallsF P G 69 [int o, .sl 8 (cellsN l)] (.ptr [int o, encPs L] 0)) : CallsF P G 88 [int o, encI l] (.ptr [.ptr [int o, encPs L] 0] 0) := by
  refine sx_fn (hs := [Hint.pre [Hint.nrow 5 8 96], .loop [(0, 0)] [(2, 0)] (Smk o l) (N) (fun i => [.br [.el (cellsP (List.getD l i default))] []]), .br [.el (cellsP (List.getD l N default))] [.lfz [0], .call (FV.ptr [int o, encPs L] 0), .ones, .lfz [1]]]) (let z1 := List.getD l N default; let z2 := Value.int IntKind.i64 0; let z3 := Value.slice none 0 0; let z4 := cellsN (List.take N l); let z5 := (↑(List.length (cellsVs l)) : Int); (E true ∧ (E (AV.f (int o)) ∧ E (AV.f (encI l)) ∧ E (AV.lsl 0) ∧ AV.f (int 0) = AV.f (int (Int.ofNat 0)) ∧ True) ∧ (E (Ob.row 8 96 []) ∧ True) ∧ E true ∧ (false = true → false = true)) ∧ (∀ (i : Nat), (let z6 := List.getD l i default; i < N → Br (decide ((i : Int) < z5)) ((E 4 ∧ (0 : Int) ≤ (i : Int) ∧ (cellsVs l)[i]? = some (cellsP z6)) ∧ (oneF ([[int (V.kind z6), int (V.num z6), str (V.text z6), encI (V.items z6), int 0, int 0, str [], FV.nils]]) ∧ List.length (cellsN (List.take i l)) + List.length (chunk 8 1 [int (V.kind z6), int (V.num z6), str (V.text z6), encI (V.items z6), fV1 z2, fV1 z2, fV1 (Value.string { data := #[] }), fV1 z3]) ≤ maxLen ∧ (List.length (cellsN (List.take i l)) + List.length (chunk 8 1 [int (V.kind z6), int (V.num z6), str (V.text z6), encI (V.items z6), fV1 z2, fV1 z2, fV1 (Value.string { data := #[] }), fV1 z3])) * 112 ≤ 140737488355328 ∧ E false) ∧ E true ∧ (E (AV.f (int o)) ∧ E (AV.f (encI l)) ∧ E (AV.lsl 0) ∧ AV.f (int (IntKind.wrap IntKind.i64 ((i : Int) + 1))) = AV.f (int (↑(i + 1) : Int)) ∧ True) ∧ (Ob.row 8 96 (cellsN (List.take i l) ++ chunk (TypeInfo.size (Tables.types (Program.toTables P))[96]) 1 [int (V.kind z6), int (V.num z6), str (V.text z6), encI (V.items z6), fV1 z2, fV1 z2, fV1 (Value.string { data := #[] }), fV1 z3]) = Ob.row 8 96 (cellsN (List.take (i + 1) l)) ∧ True) ∧ E true ∧ (St.nd (Smk o l (i + 1)) = true → false = true)) False)) ∧ Br (decide ((N : Int) < z5)) ((E 4 ∧ (0 : Int) ≤ (N : Int) ∧ (cellsVs l)[N]? = some (cellsP z1)) ∧ (oneF ([[int (V.kind z1), int (V.num z1), str (V.text z1), encI (V.items z1), int 0, int 0, str [], FV.nils]]) ∧ List.length z4 + List.length (chunk 8 1 [int (V.kind z1), int (V.num z1), str (V.text z1), encI (V.items z1), fV1 z2, fV1 z2, fV1 (Value.string { data := #[] }), fV1 z3]) ≤ maxLen ∧ (List.length z4 + List.length (chunk 8 1 [int (V.kind z1), int (V.num z1), str (V.text z1), encI (V.items z1), fV1 z2, fV1 z2, fV1 (Value.string { data := #[] }), fV1 z3])) * 112 ≤ 140737488355328 ∧ E false) ∧ False) (CallsF P G 69 [int o, FV.sl 8 z4] (FV.ptr [int o, FV.sl 8 (cellsPs L)] 0) ∧ (E true ∧ True) ∧ E (FV.ptr [FV.ptr [int o, FV.sl 8 (cellsPs L)] 0] 0))) get88 ent88 (by kernel_rfl) ?_
  refine ⟨⟨rfl, ⟨rfl, rfl, rfl, ?_, trivial⟩, ⟨rfl, trivial⟩, rfl, fun hi => ?_⟩, fun i => fun hlt => ⟨fun hi => ⟨⟨rfl, ?_, ?_⟩, ⟨?_, ?_, ?_, rfl⟩, rfl, ⟨rfl, rfl, rfl, ?_, trivial⟩, ⟨?_, trivial⟩, rfl, fun hi => ?_⟩, fun hi => ?_⟩, fun hi => ⟨⟨rfl, ?_, ?_⟩, ⟨?_, ?_, ?_, rfl⟩, ?_⟩, fun hi => ⟨?_, ⟨rfl, trivial⟩, rfl⟩⟩
  all_goals first | exact cellsVs_get l _ (by omega) | (simp only [cellsVs_length, decide_eq_true_eq, decide_eq_false_iff_not] at *; omega) | (exact congrArg (fun x => AV.f (int x)) (wrapS ((i : Int) + 1) (by omega) (by omega))) | (exact congrArg (Ob.row 8 96) (cellsN_step _ _ (by omega))) | (simp only [cellsN_len, List.length_take, chunk, List.length_cons, List.length_nil, maxLen]; omega) | (rw [hN, List.take_length]; exact h1) | assumption | (intro x hx; simp at hx; rcases hx with rfl | rfl | rfl | rfl | rfl | rfl | rfl | rfl <;> rfl) | (simp [V.kind, V.num, V.text, V.items, *]; done)
theorem get91 : P.funcs[91]? = some Tryz.f91 := by kernel_rfl
theorem ent91 : entersP P 91 = true := by kernel_rfl
theorem ritems_run (o : Int) (L : List (V × V)) (N : Nat) (hN : N = L.length) (hl : L.length ≤ 1000000) : CallsF P G 91 [.ptr [.ptr [int o, encPs L] 0] 0] (.sl 4 (cellsVs (keysL (L.take N)))) := by
  refine sx_fn (hs := [Hint.pre [Hint.nrow 3 4 62], .loop [(0, 0)] [(2, 0)] (Swi o L) (N) (fun i => [.br [.el (cellsP (Prod.fst (List.getD L i default)) ++ cellsP (Prod.snd (List.getD L i default)))] []]), .br [.el (cellsP (Prod.fst (List.getD L N default)) ++ cellsP (Prod.snd (List.getD L N default)))] [.lfz [0]]]) (let z1 := Prod.fst (List.getD L N default); let z2 := AV.f (FV.ptr [FV.ptr [int o, FV.sl 8 (cellsPs L)] 0] 0); let z3 := keysL (List.take N L); let z4 := (↑(List.length (cellsPs L)) : Int); (E true ∧ (E z2 ∧ E (AV.lsl 0) ∧ AV.f (int 0) = AV.f (int (Int.ofNat 0)) ∧ True) ∧ (E (Ob.row 4 62 []) ∧ True) ∧ E true ∧ (false = true → false = true)) ∧ (∀ (i : Nat), (let z5 := Prod.fst (List.getD L i default); let z6 := keysL (List.take i L); i < N → Br (decide ((i : Int) < z4)) ((E 8 ∧ (0 : Int) ≤ (i : Int) ∧ (cellsPs L)[i]? = some (int (V.kind z5) :: int (V.num z5) :: str (V.text z5) :: encI (V.items z5) :: cellsP (Prod.snd (List.getD L i default)))) ∧ (oneF ([cellsP z5]) ∧ List.length (cellsVs z6) + List.length (chunk 4 1 (cellsP z5)) ≤ maxLen ∧ (List.length (cellsVs z6) + List.length (chunk 4 1 (cellsP z5))) * 56 ≤ 140737488355328 ∧ E false) ∧ E true ∧ (E z2 ∧ E (AV.lsl 0) ∧ AV.f (int (IntKind.wrap IntKind.i64 ((i : Int) + 1))) = AV.f (int (↑(i + 1) : Int)) ∧ True) ∧ (Ob.row 4 62 (cellsVs z6 ++ chunk (TypeInfo.size (Tables.types (Program.toTables P))[62]) 1 (cellsP z5)) = Ob.row 4 62 (cellsVs (keysL (List.take (i + 1) L))) ∧ True) ∧ E true ∧ (St.nd (Swi o L (i + 1)) = true → false = true)) False)) ∧ Br (decide ((N : Int) < z4)) ((E 8 ∧ (0 : Int) ≤ (N : Int) ∧ (cellsPs L)[N]? = some (int (V.kind z1) :: int (V.num z1) :: str (V.text z1) :: encI (V.items z1) :: cellsP (Prod.snd (List.getD L N default)))) ∧ (oneF ([cellsP z1]) ∧ List.length (cellsVs z3) + List.length (chunk 4 1 (cellsP z1)) ≤ maxLen ∧ (List.length (cellsVs z3) + List.length (chunk 4 1 (cellsP z1))) * 56 ≤ 140737488355328 ∧ E false) ∧ False) (E (encI z3))) get91 ent91 (by kernel_rfl) ?_
  refine ⟨⟨rfl, ⟨rfl, rfl, ?_, trivial⟩, ⟨rfl, trivial⟩, rfl, fun hi => ?_⟩, fun i => fun hlt => ⟨fun hi => ⟨⟨rfl, ?_, ?_⟩, ⟨?_, ?_, ?_, rfl⟩, rfl, ⟨rfl, rfl, ?_, trivial⟩, ⟨?_, trivial⟩, rfl, fun hi => ?_⟩, fun hi => ?_⟩, fun hi => ⟨⟨rfl, ?_, ?_⟩, ⟨?_, ?_, ?_, rfl⟩, ?_⟩, fun hi => rfl⟩
  all_goals first | exact cellsPs_get L _ (by omega) | (simp only [cellsPs_length, decide_eq_true_eq, decide_eq_false_iff_not] at *; omega) | (exact congrArg (fun x => AV.f (int x)) (wrapS ((i : Int) + 1) (by omega) (by omega))) | (exact congrArg (Ob.row 4 62) (keys_step _ _ (by omega))) | (intro x hx; simp only [List.flatten_cons, List.flatten_nil, List.append_nil, cellsP, List.mem_cons, List.not_mem_nil, or_false] at hx; rcases hx with rfl | rfl | rfl | rfl <;> rfl) | (simp only [cellsVs_length, keysL_len, List.length_take, chunk, List.length_cons, List.length_nil, maxLen]; omega) | assumption | (simp [V.kind, V.num, V.text, V.items, *]; done)
theorem get92 : P.funcs[92]? = some Tryz.f92 := by kernel_rfl
theorem ent92 : entersP P 92 = true := by kernel_rfl
theorem rlen_ok (o : Int) (L : List (V × V))  : CallsF P G 92 [.ptr [.ptr [int o, encPs L] 0] 0] (int (L.length : Int)) := by
  refine sx_fn (hs := []) ((int (↑(List.length (cellsPs L)) : Int)) = (int (↑(List.length L) : Int))) get92 ent92 (by kernel_rfl) ?_
  all_goals (exact congrArg int (by rw [cellsPs_length]))
end Go.Sx
set_option maxRecDepth 100000
set_option maxHeartbeats 4000000
set_option linter.unusedSimpArgs false
set_option linter.unusedVariables false
namespace Go.Sx
open Go.Proofs Sp
def Sgo16 (o n most : Int) (t : T) (l : List (V × V)) (i : Nat) : St := { sl := slots 29 [(3, .loc 0 0), (5, .loc 1 0)], ob := [(0, .box [.f (int most)]), (1, .box [.lsl 2]), (2, .row 4 62 (cellsVs (keysL (l.take i))))], nx := 3 }
def Svs (l : List V) (i : Nat) : St := { sl := slots 27 [(0, .f (encI l)), (1, .f (encI l)), (12, .f (int (cellsVs l).length)), (13, .f (int (i : Int)))], ob := [], nx := 0 }
def SInts (l : List Int) (i : Nat) : St := { sl := slots 19 [(3, .lsl 0), (6, .f (.sl 1 (l.map fun n => [int n]))), (7, .f (int (l.map fun n => [int n]).length)), (8, .f (int (i : Int)))], ob := [(0, .row 4 62 (cellsVs ((l.take i).map mkI)))], nx := 1 }
theorem ints_get (l : List Int) (i : Nat) (h : i < l.length) : (l.map fun n => [int n])[i]? = some [int (l.getD i 0)] := by simp [List.getD_eq_getElem?_getD, h]
theorem ints_step (l : List Int) (i : Nat) (h : i < l.length) : cellsVs ((l.take i).map mkI) ++ [cellsP (mkI (l.getD i 0))] = cellsVs ((l.take (i + 1)).map mkI) := by
  rw [List.take_succ_eq_append_getElem h, List.map_append, cellsVs_app]
  simp [cellsVs, cellsP_eq, List.getD_eq_getElem?_getD, h]
theorem getD_memV (l : List V) (i : Nat) (h : i < l.length) : l.getD i default ∈ l := by
  rw [List.getD_eq_getElem?_getD, List.getElem?_eq_getElem h]; exact List.getElem_mem h
theorem get95 : P.funcs[95]? = some Tryz.f95 := by kernel_rfl
theorem ent95 : entersP P 95 = true := by kernel_rfl
theorem gone16_run (o n : Int) (t : T) (N : Nat) (hf : ∀ p, p ∈ t.toList → Fine p.1 ∧ Fine p.2) (hs : t.size ≤ 131072) (hN : N = t.toList.length) : CallsF P G 95 [.ptr [encM o n t] 0, int ((N : Int) + 1)] (.sl 4 (cellsVs (keysL (t.toList.take N)))) := by
  refine sx_fn (hs := [.call (.fn 135 [] [.ptr [.ptr [encM o n t] 0] 0]), .dec false, .dec false, .pre [.nrowb 1 0 4 62], .range [(0,0),(1,1),(2,2)] (Sgo16 o n ((N : Int) + 1) t t.toList) N (itK1 t.toList) (fun _ => true) (.tup []) none (fun i => [.pca [(4, 1)], .dec false, .ren [(0,0),(1,1),(4,2)]]), .frz [2]]) (let z1 := Value.int IntKind.i64 0; let z2 := TypeInfo.size (Tables.types (Program.toTables P))[62]; let z3 := Value.slice none 0 0; let z4 := E (AV.loc 0 0) ∧ E (AV.loc 1 0) ∧ True; let z5 := Ob.box [AV.f (int ((N : Int) + 1))]; CallsF P G 100 [FV.ptr [encM o n t] 0] (FV.fn 135 [] [FV.ptr [FV.ptr [encM o n t] 0] 0]) ∧ E false ∧ E false ∧ (E true ∧ z4 ∧ (E z5 ∧ E (Ob.box [AV.lsl 2]) ∧ E (Ob.row 4 62 []) ∧ True) ∧ E true ∧ (false = true → false = true)) ∧ E false ∧ E true ∧ (∀ (i : Nat), i ≤ N → E true) ∧ (∀ (Y : Yd), Yd.it Y = itK1 (T.toList t) → Yd.b Y = (fun x => true) → Yd.n Y = N → YLaw P G Y → CallsX P G 135 ([FV.sc (Yd.u Y), FV.ptr [FV.ptr [encM o n t] 0] 0]) (Y) (0) (FV.tup []) (N)) ∧ (∀ (i : Nat), (let z6 := keysL (List.take i (T.toList t)); let z7 := cellsP (Prod.fst (List.getD (T.toList t) i default)); let z8 := List.length (cellsVs z6); let z9 := cellsVs (keysL (List.take (i + 1) (T.toList t))); i < N → E true ∧ E true ∧ E true ∧ (oneF ([[int 0, int 0, str [], FV.nils]]) ∧ List.length (cellsVs z6) + 1 ≤ maxLen ∧ (List.length (cellsVs z6) + 1) * 56 ≤ 140737488355328 ∧ E false) ∧ E false ∧ (((0 : Int) ≤ (↑z8 : Int) ∧ List.length (cellsVs z6) < List.length (cellsVs z6 ++ chunk 4 1 [fV1 z1, fV1 z1, fV1 (Value.string { data := #[] }), fV1 z3])) ∧ E false ∧ (List.length (cellsVs z6) < List.length (cellsVs z6 ++ chunk 4 1 [fV1 z1, fV1 z1, fV1 (Value.string { data := #[] }), fV1 z3]) ∧ E false ∧ E true ∧ decide ((↑(List.length (List.set (cellsVs z6 ++ chunk z2 1 [fV1 z1, fV1 z1, fV1 (Value.string { data := #[] }), fV1 z3]) z8 z7)) : Int) ≥ (N : Int) + 1) = false ∧ E true ∧ E true ∧ z4 ∧ (E z5 ∧ E (Ob.box [AV.lsl 2]) ∧ Ob.row 4 62 (List.set (cellsVs z6 ++ chunk z2 1 [fV1 z1, fV1 z1, fV1 (Value.string { data := #[] }), fV1 z3]) z8 z7) = Ob.row 4 62 z9 ∧ True) ∧ E true ∧ (false = true → false = true)) ∧ E false ∧ List.length (cellsVs z6) < List.length (cellsVs z6 ++ chunk 4 1 [fV1 z1, fV1 z1, fV1 (Value.string { data := #[] }), fV1 z3]) ∧ E true ∧ decide ((↑(List.length (List.set (cellsVs z6 ++ chunk z2 1 [fV1 z1, fV1 z1, fV1 (Value.string { data := #[] }), fV1 z3]) z8 z7)) : Int) ≥ (N : Int) + 1) = false ∧ E true ∧ E true ∧ z4 ∧ (E z5 ∧ E (Ob.box [AV.lsl 2]) ∧ Ob.row 4 62 (List.set (cellsVs z6 ++ chunk z2 1 [fV1 z1, fV1 z1, fV1 (Value.string { data := #[] }), fV1 z3]) z8 z7) = Ob.row 4 62 z9 ∧ True) ∧ E true ∧ (false = true → false = true)) ∧ E false ∧ ((0 : Int) ≤ (↑z8 : Int) ∧ List.length (cellsVs z6) < List.length (cellsVs z6 ++ chunk 4 1 [fV1 z1, fV1 z1, fV1 (Value.string { data := #[] }), fV1 z3])) ∧ E false ∧ List.length (cellsVs z6) < List.length (cellsVs z6 ++ chunk 4 1 [fV1 z1, fV1 z1, fV1 (Value.string { data := #[] }), fV1 z3]) ∧ E true ∧ decide ((↑(List.length (List.set (cellsVs z6 ++ chunk z2 1 [fV1 z1, fV1 z1, fV1 (Value.string { data := #[] }), fV1 z3]) z8 z7)) : Int) ≥ (N : Int) + 1) = false ∧ E true ∧ E true ∧ z4 ∧ (E z5 ∧ E (Ob.box [AV.lsl 2]) ∧ Ob.row 4 62 (List.set (cellsVs z6 ++ chunk z2 1 [fV1 z1, fV1 z1, fV1 (Value.string { data := #[] }), fV1 z3]) z8 z7) = Ob.row 4 62 z9 ∧ True) ∧ E true ∧ (false = true → false = true))) ∧ (0 < N → E true) ∧ E (encI (keysL (List.take N (T.toList t))))) get95 ent95 (by kernel_rfl) ?_
  refine ⟨?_, rfl, rfl, ⟨rfl, ⟨rfl, rfl, trivial⟩, ⟨rfl, rfl, rfl, trivial⟩, rfl, fun hi => ?_⟩, rfl, rfl, fun i => fun hi => rfl, fun Y => fun hi => fun hi => fun hi => fun hi => ?_, fun i => fun hi => ⟨rfl, rfl, rfl, ⟨?_, ?_, ?_, rfl⟩, rfl, ⟨⟨?_, ?_⟩, rfl, ⟨?_, rfl, rfl, ?_, rfl, rfl, ⟨rfl, rfl, trivial⟩, ⟨rfl, rfl, ?_, trivial⟩, rfl, fun hi => ?_⟩, rfl, ?_, rfl, ?_, rfl, rfl, ⟨rfl, rfl, trivial⟩, ⟨rfl, rfl, ?_, trivial⟩, rfl, fun hi => ?_⟩, rfl, ⟨?_, ?_⟩, rfl, ?_, rfl, ?_, rfl, rfl, ⟨rfl, rfl, trivial⟩, ⟨rfl, rfl, ?_, trivial⟩, rfl, fun hi => ?_⟩, fun hi => rfl, rfl⟩
  all_goals first | exact sall_ok _ _ _ | (exact congrArg (Ob.row 4 62) ((set_last _ _ _ _).trans (keys_step _ _ (by omega)))) | (have h8 := T.toList_length t; simp only [cellsVs_length, keysL_len, List.length_take, chunk, List.length_cons, List.length_nil, maxLen]; omega) | (have h8 := T.toList_length t; simp only [List.length_append, cellsVs_length, keysL_len, List.length_take, chunk, List.length_cons, List.length_nil, maxLen]; omega) | (have h8 := T.toList_length t; simp only [List.length_set, List.length_append, cellsVs_length, keysL_len, List.length_take, chunk, List.length_cons, List.length_nil, decide_eq_false_iff_not]; omega) | (rename_i h1 h2 h3; exact sall1_ok Y o n t N hf hN hi (fun i hi2 => ⟨fun j _ => congrFun h2 j, by omega⟩) (fun i _ => congrFun h2 i) (fun i _ => congrFun h1 i)) | assumption | (intro x hx; simp at hx; rcases hx with rfl | rfl | rfl | rfl <;> rfl)
theorem get36 : P.funcs[36]? = some Tryz.f36 := by kernel_rfl
theorem ent36 : entersP P 36 = true := by kernel_rfl
theorem vals_same (l : List V) (hl : l.length ≤ 1152921504606846976) (hf : ∀ x, x ∈ l → CallsF P G 35 [encV x, encV x] (bool true)) : CallsF P G 36 [encI l, encI l] (bool true) := by
  refine sx_fn (hs := [.dec false, .loop [] [] (Svs l) l.length (fun i => [.dec true, .nat 10, .el (cellsP (l.getD i default)), .el (cellsP (l.getD i default)), .call (bool true), .dec false]), .dec false]) (let z1 := (↑(List.length (cellsVs l)) : Int); (z1 != z1) = false ∧ (E true ∧ (E (AV.f (encI l)) ∧ E (AV.f (encI l)) ∧ E (AV.f (int z1)) ∧ AV.f (int 0) = AV.f (int (Int.ofNat 0)) ∧ True) ∧ True ∧ E true ∧ (false = true → false = true)) ∧ (∀ (i : Nat), (let z3 := List.getD l i default; let z2 := E 4 ∧ (0 : Int) ≤ (i : Int) ∧ (cellsVs l)[i]? = some (cellsP z3); i < List.length l → decide ((i : Int) < z1) = true ∧ E true ∧ z2 ∧ z2 ∧ CallsF P G 35 [encV z3, encV z3] (bool true) ∧ E false ∧ E true ∧ (E (AV.f (encI l)) ∧ E (AV.f (encI l)) ∧ E (AV.f (int z1)) ∧ AV.f (int (IntKind.wrap IntKind.i64 ((i : Int) + 1))) = AV.f (int (↑(i + 1) : Int)) ∧ True) ∧ True ∧ E true ∧ (false = true → false = true))) ∧ decide ((↑(List.length l) : Int) < z1) = false ∧ E (bool true)) get36 ent36 (by kernel_rfl) ?_
  refine ⟨?_, ⟨rfl, ⟨rfl, rfl, rfl, ?_, trivial⟩, trivial, rfl, fun hi => ?_⟩, fun i => fun hi => ⟨?_, rfl, ⟨rfl, ?_, ?_⟩, ⟨rfl, ?_, ?_⟩, ?_, rfl, rfl, ⟨rfl, rfl, rfl, ?_, trivial⟩, trivial, rfl, fun hi => ?_⟩, ?_, rfl⟩
  all_goals first | (simp; done) | exact cellsVs_get l _ (by omega) | exact hf _ (getD_memV l _ (by omega)) | (exact congrArg (fun x => AV.f (int x)) (wrapS ((i : Int) + 1) (by omega) (by omega))) | (simp only [cellsVs_length, decide_eq_true_eq, decide_eq_false_iff_not]; omega) | assumption
theorem get25 : P.funcs[25]? = some Tryz.f25 := by kernel_rfl
theorem ent25 : entersP P 25 = true := by kernel_rfl
theorem same16_run (o n h : Int) (t : T) (L : List (V × V)) (ks : List V) (mo : Int) (hn : n = (ks.length : Int)) (hh : h ≤ mo) (h0 : CallsF P G 91 [.ptr [.ptr [int o, encPs L] 0] 0] (encI ks)) (h1 : CallsF P G 93 [.ptr [encM o n t] 0] (int o)) (h2 : CallsF P G 94 [.ptr [encM o n t] 0] (int n)) (h3 : CallsF P G 32 [.ptr [encM o n t] 0] (encI ks)) (h4 : CallsF P G 36 [encI ks, encI ks] (bool true)) (h5 : CallsF P G 95 [.ptr [encM o n t] 0, int (IntKind.i64.wrap (((cellsVs ks).length : Int) + 1))] (encI ks)) (h6 : CallsF P G 96 [.ptr [encM o n t] 0] (int h)) (h7 : CallsF P G 97 [int ((cellsVs ks).length : Int)] (int mo)) : CallsF P G 25 [.ptr [encM o n t] 0, .ptr [.ptr [int o, encPs L] 0] 0] (bool true) := by
  refine sx_fn (hs := [.call (encI ks), .nat 45, .dec true, .call (int o), .dec true, .call (int n), .dec true, .call (encI ks), .call (bool true), .dec true, .call (encI ks), .call (bool true), .dec true, .call (int h), .call (int mo)]) (let z1 := (↑(List.length (cellsVs ks)) : Int); CallsF P G 91 [FV.ptr [FV.ptr [int o, FV.sl 8 (cellsPs L)] 0] 0] (encI ks) ∧ E true ∧ E true ∧ CallsF P G 93 [FV.ptr [encM o n t] 0] (int o) ∧ (o == o) = true ∧ CallsF P G 94 [FV.ptr [encM o n t] 0] (int n) ∧ (n == z1) = true ∧ CallsF P G 32 [FV.ptr [encM o n t] 0] (encI ks) ∧ CallsF P G 36 [encI ks, encI ks] (bool true) ∧ E true ∧ CallsF P G 95 [FV.ptr [encM o n t] 0, int (IntKind.wrap IntKind.i64 (z1 + 1))] (encI ks) ∧ CallsF P G 36 [encI ks, encI ks] (bool true) ∧ E true ∧ CallsF P G 96 [FV.ptr [encM o n t] 0] (int h) ∧ CallsF P G 97 [int z1] (int mo) ∧ bool (decide (h ≤ mo)) = bool true) get25 ent25 (by kernel_rfl) ?_
  refine ⟨?_, rfl, rfl, ?_, ?_, ?_, ?_, ?_, ?_, rfl, ?_, ?_, rfl, ?_, ?_, ?_⟩
  all_goals first | exact h0 | exact h1 | exact h2 | exact h3 | exact h4 | exact h5 | exact h6 | exact h7 | (simp; done) | (rw [hn, cellsVs_length]; simp; done) | (exact congrArg bool (decide_eq_true hh))
theorem get89 : P.funcs[89]? = some Tryz.f89 := by kernel_rfl
theorem ent89 : entersP P 89 = true := by kernel_rfl
theorem ints_all (l : List Int) (hl : l.length ≤ 65536) : CallsF P G 89 [.sl 1 (l.map fun n => [int n])] (.sl 4 (cellsVs (l.map mkI))) := by
  refine sx_fn (hs := let z1 := List.getD l (List.length l) 0; [Hint.pre [Hint.nrow 3 4 62], .loop [(0, 0)] [(2, 0)] (SInts l) (List.length l) (fun i => [.br [.el ([int (List.getD l i 0)]), .call (encV (mkI (List.getD l i 0)))] []]), .br [.el ([int z1]), .call (encV (mkI z1))] [.lfz [0]]]) (let z1 := List.getD l (List.length l) 0; let z2 := List.map mkI (List.take (List.length l) l); let z3 := chunk 4 1 (cellsP (mkI z1)); (E true ∧ (E (AV.lsl 0) ∧ E (AV.f (FV.sl 1 (List.map (fun n => [int n]) l))) ∧ E (AV.f (int (↑(List.length (List.map (fun n => [int n]) l)) : Int))) ∧ AV.f (int 0) = AV.f (int (Int.ofNat 0)) ∧ True) ∧ (E (Ob.row 4 62 []) ∧ True) ∧ E true ∧ (false = true → false = true)) ∧ (∀ (i : Nat), (let z4 := mkI (List.getD l i 0); let z5 := List.map mkI (List.take i l); i < List.length l → Br (decide ((i : Int) < (↑(List.length (List.map (fun n => [int n]) l)) : Int))) ((E 1 ∧ (0 : Int) ≤ (i : Int) ∧ (List.map (fun n => [int n]) l)[i]? = some [int (List.getD l i 0)]) ∧ CallsF P G 70 [int (List.getD l i 0)] (FV.agg [int (V.kind z4), int (V.num z4), str (V.text z4), FV.sl 4 []]) ∧ (oneF ([[int (V.kind z4), int (V.num z4), str (V.text z4), FV.sl 4 []]]) ∧ List.length (cellsVs z5) + List.length (chunk 4 1 (cellsP z4)) ≤ maxLen ∧ (List.length (cellsVs z5) + List.length (chunk 4 1 (cellsP z4))) * 56 ≤ 140737488355328 ∧ E false) ∧ E true ∧ (E (AV.lsl 0) ∧ E (AV.f (FV.sl 1 (List.map (fun n => [int n]) l))) ∧ E (AV.f (int (↑(List.length (List.map (fun n => [int n]) l)) : Int))) ∧ AV.f (int (IntKind.wrap IntKind.i64 ((i : Int) + 1))) = AV.f (int (↑(i + 1) : Int)) ∧ True) ∧ (Ob.row 4 62 (cellsVs z5 ++ chunk (TypeInfo.size (Tables.types (Program.toTables P))[62]) 1 (cellsP z4)) = Ob.row 4 62 (cellsVs (List.map mkI (List.take (i + 1) l))) ∧ True) ∧ E true ∧ (St.nd (SInts l (i + 1)) = true → false = true)) False)) ∧ Br (decide ((↑(List.length l) : Int) < (↑(List.length (List.map (fun n => [int n]) l)) : Int))) ((E 1 ∧ (0 : Int) ≤ (↑(List.length l) : Int) ∧ (List.map (fun n => [int n]) l)[List.length l]? = some [int z1]) ∧ CallsF P G 70 [int z1] (FV.agg [int (V.kind (mkI z1)), int (V.num (mkI z1)), str (V.text (mkI z1)), FV.sl 4 []]) ∧ (oneF ([[int (V.kind (mkI z1)), int (V.num (mkI z1)), str (V.text (mkI z1)), FV.sl 4 []]]) ∧ List.length (cellsVs z2) + List.length z3 ≤ maxLen ∧ (List.length (cellsVs z2) + List.length z3) * 56 ≤ 140737488355328 ∧ E false) ∧ False) (encI z2 = encI (List.map mkI l))) get89 ent89 (by kernel_rfl) ?_
  refine ⟨⟨rfl, ⟨rfl, rfl, rfl, ?_, trivial⟩, ⟨rfl, trivial⟩, rfl, fun hi => ?_⟩, fun i => fun hlt => ⟨fun hi => ⟨⟨rfl, ?_, ?_⟩, ?_, ⟨?_, ?_, ?_, rfl⟩, rfl, ⟨rfl, rfl, rfl, ?_, trivial⟩, ⟨?_, trivial⟩, rfl, fun hi => ?_⟩, fun hi => ?_⟩, fun hi => ⟨⟨rfl, ?_, ?_⟩, ?_, ⟨?_, ?_, ?_, rfl⟩, ?_⟩, fun hi => ?_⟩
  all_goals first | exact int_ok _ | exact ints_get l _ (by omega) | (simp; done) | (simp only [List.length_map, decide_eq_true_eq, decide_eq_false_iff_not, Int.toNat_natCast] at *; omega) | (exact congrArg (fun x => AV.f (int x)) (wrapS ((i : Int) + 1) (by omega) (by omega))) | (intro x hx; simp at hx; rcases hx with rfl | rfl | rfl | rfl <;> rfl) | (simp only [cellsVs_length, List.length_map, List.length_take, chunk, List.length_cons, List.length_nil, maxLen]; omega) | exact congrArg (Ob.row 4 62) (ints_step l i (by omega)) | assumption
theorem get33 : P.funcs[33]? = some Tryz.f33 := by kernel_rfl
theorem ent33 : entersP P 33 = true := by kernel_rfl
theorem srank_run (o n i e : Int) (t : T) (k : V) (h : CallsF P G 101 [encM o n t, encV k] (.tup [int i, int e])) : CallsF P G 33 [.ptr [encM o n t] 0, encV k] (.tup [int i, int e]) := by
  refine sx_fn (hs := [.nat 8, .call (encM o n t), .call (FV.tup [int i, int e])]) ((E (true)) ∧ (CallsF P G 90 [FV.ptr [encM o n t] 0] (encM o n t)) ∧ (CallsF P G 101 [encM o n t, encV k] (FV.tup [int i, int e])) ∧ E (FV.tup [int i, int e])) get33 ent33 (by kernel_rfl) ?_
  refine ⟨rfl, ⟨?_, ⟨?_, rfl⟩⟩⟩
  all_goals first | exact keys_ok _ _ _ | exact h
theorem get118 : P.funcs[118]? = some Tryz.f118 := by kernel_rfl
theorem ent118 : entersP P 118 = true := by kernel_rfl
theorem end_ok (q : V × V)  : CallsF P G 118 [encQ q, bool true] (.tup [encV q.1, int 0]) := by
  refine sx_fn (hs := [.dec false]) ((E (false)) ∧ E (FV.tup [encV (Prod.fst q), int 0])) get118 ent118 (by kernel_rfl) ?_
  exact ⟨rfl, rfl⟩
theorem end_no (q : V × V)  : CallsF P G 118 [encQ q, bool false] (.tup [.agg [int 0, int 0, str [], .nils], int 6]) := by
  refine sx_fn (hs := [.dec true]) ((E (true)) ∧ E (FV.tup [FV.agg [int 0, int 0, str [], FV.nils], int 6])) get118 ent118 (by kernel_rfl) ?_
  exact ⟨rfl, rfl⟩
theorem get59 : P.funcs[59]? = some Tryz.f59 := by kernel_rfl
theorem ent59 : entersP P 59 = true := by kernel_rfl
theorem sfirst_run (o n e : Int) (t : T) (q : V × V) (w : V) (b : Bool) (h : CallsF P G 119 [encM o n t] (.tup [encQ q, bool b])) (h2 : CallsF P G 118 [encQ q, bool b] (.tup [encV w, int e])) : CallsF P G 59 [.ptr [encM o n t] 0] (.tup [encV w, int e]) := by
  refine sx_fn (hs := [.call (encM o n t), .call (FV.tup [encQ q, bool b]), .call (FV.tup [encV w, int e])]) (let z1 := int (V.kind (Prod.fst q)) :: int (V.num (Prod.fst q)) :: str (V.text (Prod.fst q)) :: encI (V.items (Prod.fst q)) :: cellsP (Prod.snd q); CallsF P G 90 [FV.ptr [encM o n t] 0] (encM o n t) ∧ CallsF P G 119 [encM o n t] (FV.tup [FV.agg z1, bool b]) ∧ CallsF P G 118 [FV.agg z1, bool b] (FV.tup [encV w, int e]) ∧ E (FV.tup [encV w, int e])) get59 ent59 (by kernel_rfl) ?_
  refine ⟨?_, ?_, ?_, rfl⟩
  all_goals first | exact keys_ok _ _ _ | exact h | exact h2
theorem get61 : P.funcs[61]? = some Tryz.f61 := by kernel_rfl
theorem ent61 : entersP P 61 = true := by kernel_rfl
theorem slast_run (o n e : Int) (t : T) (q : V × V) (w : V) (b : Bool) (h : CallsF P G 120 [encM o n t] (.tup [encQ q, bool b])) (h2 : CallsF P G 118 [encQ q, bool b] (.tup [encV w, int e])) : CallsF P G 61 [.ptr [encM o n t] 0] (.tup [encV w, int e]) := by
  refine sx_fn (hs := [.call (encM o n t), .call (FV.tup [encQ q, bool b]), .call (FV.tup [encV w, int e])]) (let z1 := int (V.kind (Prod.fst q)) :: int (V.num (Prod.fst q)) :: str (V.text (Prod.fst q)) :: encI (V.items (Prod.fst q)) :: cellsP (Prod.snd q); CallsF P G 90 [FV.ptr [encM o n t] 0] (encM o n t) ∧ CallsF P G 120 [encM o n t] (FV.tup [FV.agg z1, bool b]) ∧ CallsF P G 118 [FV.agg z1, bool b] (FV.tup [encV w, int e]) ∧ E (FV.tup [encV w, int e])) get61 ent61 (by kernel_rfl) ?_
  refine ⟨?_, ?_, ?_, rfl⟩
  all_goals first | exact keys_ok _ _ _ | exact h | exact h2
theorem get22 : P.funcs[22]? = some Tryz.f22 := by kernel_rfl
theorem ent22 : entersP P 22 = true := by kernel_rfl
theorem speaks16_run (o n : Int) (t : T) (v : V) (hv : v = mkI 0) (h1 : CallsF P G 89 [.sl 1 [[int (-2)], [int 1], [int 0]]] (encI [mkI (-2), mkI 1, mkI 0])) (h2 : CallsF P G 20 [int 5, encI [mkI (-2), mkI 1, mkI 0]] (.tup [.ptr [encM o n t] 0, int 0])) (h3 : CallsF P G 33 [.ptr [encM o n t] 0, encV (mkI (-1))] (.tup [int 1, int 0])) (h4 : CallsF P G 59 [.ptr [encM o n t] 0] (.tup [encV v, int 0])) (h5 : CallsF P G 32 [.ptr [encM o n t] 0] (encI [mkI 0, mkI 1, mkI (-2)])) (h6 : CallsF P G 89 [.sl 1 [[int 0], [int 1], [int (-2)]]] (encI [mkI 0, mkI 1, mkI (-2)])) (h7 : CallsF P G 36 [encI [mkI 0, mkI 1, mkI (-2)], encI [mkI 0, mkI 1, mkI (-2)]] (bool true)) : CallsF P G 22 [] (bool true) := by
  refine sx_fn (hs := let z1 := encI [mkI 0, mkI 1, mkI (-2)]; [.lfz [0], .call (encI [mkI (-2), mkI 1, mkI 0]), .call (FV.tup [FV.ptr [encM o n t] 0, int 0]), .dec false, .dec false, .call (encV (mkI (Int.negSucc 0))), .call (FV.tup [int 1, int 0]), .call (FV.tup [encV v, int 0]), .dec true, .dec true, .dec true, .br [.call z1, .lfz [2], .call z1, .call (bool true)] []]) (let z1 := FV.sl 4 [[int 2, int 0, str [], FV.sl 4 []], [int 2, int 1, str [], FV.sl 4 []], [int 2, int (-2), str [], FV.sl 4 []]]; let z2 := V.text (mkI (Int.negSucc 0)); CallsF P G 89 [FV.sl 1 [[int (-2)], [int 1], [int 0]]] (FV.sl 4 [[int 2, int (-2), str [], FV.sl 4 []], [int 2, int 1, str [], FV.sl 4 []], [int 2, int 0, str [], FV.sl 4 []]]) ∧ CallsF P G 20 [int 5, FV.sl 4 [[int 2, int (-2), str [], FV.sl 4 []], [int 2, int 1, str [], FV.sl 4 []], [int 2, int 0, str [], FV.sl 4 []]]] (FV.tup [FV.ptr [encM o n t] 0, int 0]) ∧ E false ∧ E false ∧ CallsF P G 70 [int (-1)] (FV.agg [int 2, int (-1), str z2, FV.sl 4 []]) ∧ CallsF P G 33 [FV.ptr [encM o n t] 0, FV.agg [int 2, int (-1), str z2, FV.sl 4 []]] (FV.tup [int 1, int 0]) ∧ CallsF P G 59 [FV.ptr [encM o n t] 0] (FV.tup [encV v, int 0]) ∧ E true ∧ E true ∧ E true ∧ Br (V.num v == 0) (CallsF P G 32 [FV.ptr [encM o n t] 0] z1 ∧ CallsF P G 89 [FV.sl 1 [[int 0], [int 1], [int (-2)]]] z1 ∧ CallsF P G 36 [FV.sl 4 [[int 2, int 0, str [], FV.sl 4 []], [int 2, int 1, str [], FV.sl 4 []], [int 2, int (-2), str [], FV.sl 4 []]], FV.sl 4 [[int 2, int 0, str [], FV.sl 4 []], [int 2, int 1, str [], FV.sl 4 []], [int 2, int (-2), str [], FV.sl 4 []]]] (bool true) ∧ E (bool true)) (bool false = bool true)) get22 ent22 (by kernel_rfl) ?_
  refine ⟨?_, ?_, rfl, rfl, ?_, ?_, ?_, rfl, rfl, rfl, fun hi => ⟨?_, ?_, ?_, rfl⟩, fun hi => ?_⟩
  all_goals first | exact h1 | exact h2 | exact int_ok _ | exact h3 | exact h4 | exact h5 | exact h6 | exact h7 | (exfalso; rw [hv] at hi; revert hi; decide)
end Go.Sx
set_option maxRecDepth 100000
set_option maxHeartbeats 4000000
set_option linter.unusedSimpArgs false
set_option linter.unusedVariables false
namespace Go.Sx
open Go.Proofs Sp
end Go.Sx
set_option maxRecDepth 100000
set_option maxHeartbeats 4000000
set_option linter.unusedSimpArgs false
set_option linter.unusedVariables false
namespace Go.Sx
open Go.Proofs Sp
theorem okX_fine {x : T × Nat} (hx : OkX x) : ∀ p, p ∈ x.1.toList → Fine p.1 ∧ Fine p.2 := fun p hp => ⟨(hx.2.2.2 p hp).1, (hx.2.2.2 p hp).2.1⟩
theorem sitems_ok (o : Int) {x : T × Nat} (hx : OkX x) (hn : x.2 ≤ 65536) : CallsF P G 32 [.ptr [encX o x] 0] (encI (keysL x.1.toList)) := by
  have h := sitems_run o (x.2 : Int) x.1 _ (okX_fine hx) (by have : x.1.size = x.2 := hx.2.2.1; omega) rfl
  rw [List.take_length] at h
  exact h
theorem ritems_ok (o : Int) (L : List (V × V)) (hl : L.length ≤ 1000000) : CallsF P G 91 [.ptr [.ptr [int o, encPs L] 0] 0] (encI (keysL L)) := by
  have h := ritems_run o L _ rfl hl
  rw [List.take_length] at h
  exact h
theorem gone16_ok (o : Int) {x : T × Nat} (hx : OkX x) (hn : x.2 ≤ 65536) : CallsF P G 95 [.ptr [encX o x] 0, int (IntKind.i64.wrap (((cellsVs (keysL x.1.toList)).length : Int) + 1))] (encI (keysL x.1.toList)) := by
  have h8 := okX_len hx
  rw [cellsVs_length, keysL_len, wrapS _ (by omega) (by omega)]
  have h := gone16_run o (x.2 : Int) x.1 x.1.toList.length (okX_fine hx) (by have : x.1.size = x.2 := hx.2.2.1; omega) rfl
  rw [List.take_length] at h
  exact h
theorem plainSelf (v : V) (hv : Fine v) : CallsF P G 35 [encV v, encV v] (bool true) := by
  have h := eq_ok v hv v
  rw [eqB_true.2 rfl] at h
  exact h
theorem valsSelf (l : List V) (hl : l.length ≤ 1000000) (hf : ∀ x, x ∈ l → Fine x) : CallsF P G 36 [encI l, encI l] (bool true) := vals_same l (by omega) fun x hx => plainSelf x (hf x hx)
theorem keysL_fine {x : T × Nat} (hx : OkX x) : ∀ v, v ∈ keysL x.1.toList → Fine v := fun v hv => by
  obtain ⟨q, hq, rfl⟩ := List.mem_map.1 hv
  exact (hx.2.2.2 q hq).1
theorem same16_ok (o : Int) {x : T × Nat} (hx : OkX x) (hn : x.2 ≤ 65536) : CallsF P G 25 [.ptr [encX o x] 0, .ptr [.ptr [int o, encPs x.1.toList] 0] 0] (bool true) := by
  have h8 := okX_len hx
  obtain ⟨h1, h2⟩ := T.good_height hx (by omega)
  have h3 : T.most x.2 ≤ 120 := by have := (bits_spec 60 x.2 0 (by simp) rfl).2.1; unfold T.most; omega
  have hm := most_ok x.2 (by omega)
  have hl : (keysL x.1.toList).length = x.2 := by rw [keysL_len]; exact h8
  exact same16_run o (x.2 : Int) (x.1.height : Nat) x.1 x.1.toList (keysL x.1.toList) (T.most x.2 : Nat) (by rw [hl]) (by omega) (ritems_ok o _ (by omega)) (sorder_ok _ _ _) (slen_ok _ _ _) (sitems_ok o hx hn) (valsSelf _ (by omega) (keysL_fine hx)) (gone16_ok o hx hn)
    (sheight_ok _ _ _ _ (mheight_ok _ _ _ (height_ok _ (by omega)))) (by rw [cellsVs_length, hl]; exact hm)
theorem rp_wL {l : List V} (hf : ∀ v, v ∈ l → Fine v ∧ rightB v = true) : ∀ q, q ∈ wL l → RP q := fun q hq => by
  obtain ⟨v, hv, rfl⟩ := List.mem_map.1 hq
  exact ⟨(hf v hv).1, fine_nilW, (hf v hv).2, right_nilW⟩
theorem sof_ok (o : Int) (ho : 0 ≤ o ∧ o ≤ 5) (l : List V) (hl : l.length ≤ 65536) (hf : ∀ v, v ∈ l → Fine v ∧ rightB v = true) : CallsF P G 20 [int o, encI l] (.tup [.ptr [encX o (ofT (cmpO o) (wL l) (wL l).length)] 0, int 0]) := by
  have h := of_ok (cmpCO o ho) ho (l := wL l) (by rw [wL_len]; exact hl) (rp_wL hf)
  exact sof_run o _ _ l _ rfl (by omega) (h.argL (LeL.cons Le.rfl (LeL.cons (le_cellsN l) LeL.nil)))
theorem rmake_ok (o : Int) (ho : 0 ≤ o ∧ o ≤ 5) (l : List V) (hl : l.length ≤ 1000000) (hf : ∀ v, v ∈ l → Fine v ∧ rightB v = true) : CallsF P G 88 [int o, encI l] (.ptr [.ptr [int o, encPs (foldL (cmpO o) [] (wL l))] 0] 0) := by
  have h := build_ok o ho (wL l).length (wL l) (Nat.le_refl _) (by rw [wL_len]; exact hl) (rp_wL hf)
  exact rmake_run o l _ _ rfl (by omega) (h.argL (LeL.cons Le.rfl (LeL.cons (le_cellsN l) LeL.nil)))
def sp3 : List V := [mkI (-2), mkI 1, mkI 0]
def tS3 : T := .node false (.node false .nil .nil (mkI 0) nilW) (.node false .nil .nil (mkI (-2)) nilW) (mkI 1) nilW
theorem near3 (a b : Int) : cmpO 5 (mkI a) (mkI b) = orI (cmpI (awayI a) (awayI b)) (cmpI a b) := by
  show nearC (mkI a) (mkI b) = _
  unfold nearC
  rw [if_pos ⟨rfl, rfl⟩]
  rfl
theorem sp3_fine : ∀ v, v ∈ sp3 → Fine v ∧ rightB v = true := by
  intro v hv
  simp only [sp3, List.mem_cons, List.not_mem_nil, or_false] at hv
  rcases hv with rfl | rfl | rfl <;> exact ⟨fine_mkI _ (by omega), right_mkI _⟩
theorem aw2 : awayI (-2) = 2 := by decide
theorem aw1 : awayI 1 = 1 := by decide
theorem awm : awayI (-1) = 1 := by decide
theorem aw0 : awayI 0 = 0 := by decide
theorem n3a : cmpO 5 (mkI 1) (mkI (-2)) = -1 := by rw [near3]; simp [aw0, aw1, aw2, awm, orI, cmpI]
theorem n3b : cmpO 5 (mkI 0) (mkI (-2)) = -1 := by rw [near3]; simp [aw0, aw1, aw2, awm, orI, cmpI]
theorem n3c : cmpO 5 (mkI 0) (mkI 1) = -1 := by rw [near3]; simp [aw0, aw1, aw2, awm, orI, cmpI]
theorem n3d : cmpO 5 (mkI 0) (mkI (-1)) = -1 := by rw [near3]; simp [aw0, aw1, aw2, awm, orI, cmpI]
theorem n3e : cmpO 5 (mkI 1) (mkI (-1)) = 1 := by rw [near3]; simp [aw0, aw1, aw2, awm, orI, cmpI]
theorem of_sp3 : ofT (cmpO 5) (wL sp3) (wL sp3).length = (tS3, 3) := by
  rw [show (wL sp3).length = 3 from rfl]
  simp [ofT, putT, T.insert, T.find, T.blackened, T.balance, T.like, T.red, T.isNil, T.left, T.right, T.key, T.val, wL, sp3, n3a, n3b, n3c, tS3]
theorem speaks16 : CallsF P G 22 [] (bool true) := by
  have ho : (0 : Int) ≤ 5 ∧ (5 : Int) ≤ 5 := by omega
  have h2 := sof_ok 5 ho sp3 (by simp [sp3]) sp3_fine
  have hx := (ofT_ok (c := cmpO 5) (rp_wL sp3_fine) (wL sp3).length (Nat.le_refl _)).1
  have hR := (ofT_fold (cmpO_line 5) (wL sp3) (wL sp3).length (Nat.le_refl _)).2
  rw [of_sp3] at h2 hx hR
  have hk : keysL tS3.toList = [mkI 0, mkI 1, mkI (-2)] := by simp [keysL, tS3, T.toList]
  have hit := sitems_ok 5 hx (by simp)
  simp only [hk] at hit
  have hs : tS3.size ≤ 131072 := by simp [tS3, T.size]
  have hra := rank_ok 5 3 tS3 (mkI (-1)) ho (fine_mkI _ (by omega)) (right_mkI _) hx.2.2.2 hs hR
  have he : aheadN (cmpO 5) (mkI (-1)) tS3.toList = 1 := by simp [aheadN, tS3, T.toList, List.takeWhile_cons, n3d, n3e]
  rw [he] at hra
  have hfi := first_ok 5 3 tS3 (okX_fine hx) hs
  have e0 : atQ tS3.toList 0 = (mkI 0, nilW) := by simp [atQ, inQ, tS3, T.toList]
  have e1 : inQ tS3.toList 0 = true := by simp [inQ, tS3, T.toList]
  rw [e0, e1] at hfi
  exact speaks16_run 5 3 tS3 (mkI 0) rfl (ints_all [-2, 1, 0] (by simp)) h2 (srank_run _ _ _ _ _ _ hra) (sfirst_run 5 3 0 tS3 (mkI 0, nilW) (mkI 0) true hfi (end_ok _)) hit (ints_all [0, 1, -2] (by simp)) (valsSelf _ (by simp) fun v hv => by
    simp only [List.mem_cons, List.not_mem_nil, or_false] at hv
    rcases hv with rfl | rfl | rfl <;> exact fine_mkI _ (by omega))
end Go.Sx
set_option maxRecDepth 100000
set_option maxHeartbeats 4000000
set_option linter.unusedSimpArgs false
set_option linter.unusedVariables false
namespace Go.Sx
open Go.Proofs Sp
end Go.Sx
set_option maxRecDepth 100000
set_option maxHeartbeats 4000000
set_option linter.unusedSimpArgs false
set_option linter.unusedVariables false
namespace Go.Sx
open Go.Proofs Sp
end Go.Sx
set_option maxRecDepth 100000
set_option maxHeartbeats 4000000
set_option linter.unusedSimpArgs false
set_option linter.unusedVariables false
namespace Go.Sx
open Go.Proofs Sp
end Go.Sx
set_option maxRecDepth 100000
set_option maxHeartbeats 4000000
set_option linter.unusedSimpArgs false
set_option linter.unusedVariables false
namespace Go.Sx
open Go.Proofs Sp
def Sli (l : List V) (i : Nat) : St := { sl := slots 18 [(8, .f (encI l)), (9, .f (int (cellsVs l).length)), (10, .f (int (i : Int)))], ob := [], nx := 0 }
theorem get134 : P.funcs[134]? = some Tryz.f134 := by kernel_rfl
theorem ent134 : entersP P 134 = true := by kernel_rfl
theorem listed_long (l : List V) (h : 65536 < l.length) : CallsF P G 134 [encI l] (int 2) := by
  refine sx_fn (hs := [.br [] []]) ((((decide ((↑(List.length (cellsVs l)) : Int) > 65536)) = (true)) → (E (int 2))) ∧ (((decide ((↑(List.length (cellsVs l)) : Int) > 65536)) = (false)) → (False))) get134 ent134 (by kernel_rfl) ?_
  refine ⟨fun hi => rfl, fun hi => ?_⟩
  all_goals (exfalso; simp only [cellsVs_length, decide_eq_true_eq, decide_eq_false_iff_not] at *; omega)
theorem listed_all (l : List V) (N : Nat) (hl : l.length ≤ 65536) (hN : N ≤ l.length) (hf : ∀ v, v ∈ l → Fine v) (hk : ∀ i, i < N → rightB (l.getD i default) = true) (h3 : N = l.length) : CallsF P G 134 [encI l] (int 0) := by
  refine sx_fn (hs := [.br [] [.loop [] [] (Sli l) (N) (fun i => [.br [.el (cellsP (List.getD l i default)), .call (bool (rightB (List.getD l i default))), .br [] []] []]), .br [.el (cellsP (List.getD l N default)), .call (bool (rightB (List.getD l N default))), .br [] []] []]]) (let z1 := (↑(List.length (cellsVs l)) : Int); let z2 := List.getD l N default; Br (decide (z1 > 65536)) (int 2 = int 0) ((E true ∧ (E (AV.f (encI l)) ∧ E (AV.f (int z1)) ∧ AV.f (int 0) = AV.f (int (Int.ofNat 0)) ∧ True) ∧ True ∧ E true ∧ (false = true → false = true)) ∧ (∀ (i : Nat), (let z3 := List.getD l i default; i < N → Br (decide ((i : Int) < z1)) ((E 4 ∧ (0 : Int) ≤ (i : Int) ∧ (cellsVs l)[i]? = some (cellsP z3)) ∧ CallsF P G 103 [encV z3] (bool (rightB z3)) ∧ Br (!rightB z3) False (E true ∧ (E (AV.f (encI l)) ∧ E (AV.f (int z1)) ∧ AV.f (int (IntKind.wrap IntKind.i64 ((i : Int) + 1))) = AV.f (int (↑(i + 1) : Int)) ∧ True) ∧ True ∧ E true ∧ (St.nd (Sli l (i + 1)) = true → false = true))) False)) ∧ Br (decide ((N : Int) < z1)) ((E 4 ∧ (0 : Int) ≤ (N : Int) ∧ (cellsVs l)[N]? = some (cellsP z2)) ∧ CallsF P G 103 [encV z2] (bool (rightB z2)) ∧ Br (!rightB z2) (int 3 = int 0) False) (E (int 0)))) get134 ent134 (by kernel_rfl) ?_
  refine ⟨fun hi => ?_, fun hi => ⟨⟨rfl, ⟨rfl, rfl, ?_, trivial⟩, trivial, rfl, fun hi => ?_⟩, fun i => fun hlt => ⟨fun hi => ⟨⟨rfl, ?_, ?_⟩, ?_, fun hi => ?_, fun hi => ⟨rfl, ⟨rfl, rfl, ?_, trivial⟩, trivial, rfl, fun hi => ?_⟩⟩, fun hi => ?_⟩, fun hi => ⟨⟨rfl, ?_, ?_⟩, ?_, fun hi => ?_, fun hi => ?_⟩, fun hi => rfl⟩⟩
  all_goals first | (simp only [cellsVs_length, decide_eq_true_eq, decide_eq_false_iff_not] at *; omega) | exact cellsVs_get l _ (by omega) | exact refRight_ok _ (hf _ (getD_memV l _ (by omega))) | (exact congrArg (fun x => AV.f (int x)) (wrapS ((i : Int) + 1) (by omega) (by omega))) | (exfalso; have h8 := hk i hlt; rw [h8] at hi; cases hi) | (simp_all; done) | assumption
theorem listed_not (l : List V) (N : Nat) (hl : l.length ≤ 65536) (hN : N ≤ l.length) (hf : ∀ v, v ∈ l → Fine v) (hk : ∀ i, i < N → rightB (l.getD i default) = true) (h3 : N < l.length) (h4 : rightB (l.getD N default) = false) : CallsF P G 134 [encI l] (int 3) := by
  refine sx_fn (hs := [.br [] [.loop [] [] (Sli l) (N) (fun i => [.br [.el (cellsP (List.getD l i default)), .call (bool (rightB (List.getD l i default))), .br [] []] []]), .br [.el (cellsP (List.getD l N default)), .call (bool (rightB (List.getD l N default))), .br [] []] []]]) (let z1 := (↑(List.length (cellsVs l)) : Int); let z2 := List.getD l N default; Br (decide (z1 > 65536)) (int 2 = int 3) ((E true ∧ (E (AV.f (encI l)) ∧ E (AV.f (int z1)) ∧ AV.f (int 0) = AV.f (int (Int.ofNat 0)) ∧ True) ∧ True ∧ E true ∧ (false = true → false = true)) ∧ (∀ (i : Nat), (let z3 := List.getD l i default; i < N → Br (decide ((i : Int) < z1)) ((E 4 ∧ (0 : Int) ≤ (i : Int) ∧ (cellsVs l)[i]? = some (cellsP z3)) ∧ CallsF P G 103 [encV z3] (bool (rightB z3)) ∧ Br (!rightB z3) False (E true ∧ (E (AV.f (encI l)) ∧ E (AV.f (int z1)) ∧ AV.f (int (IntKind.wrap IntKind.i64 ((i : Int) + 1))) = AV.f (int (↑(i + 1) : Int)) ∧ True) ∧ True ∧ E true ∧ (St.nd (Sli l (i + 1)) = true → false = true))) False)) ∧ Br (decide ((N : Int) < z1)) ((E 4 ∧ (0 : Int) ≤ (N : Int) ∧ (cellsVs l)[N]? = some (cellsP z2)) ∧ CallsF P G 103 [encV z2] (bool (rightB z2)) ∧ Br (!rightB z2) (E (int 3)) False) (int 0 = int 3))) get134 ent134 (by kernel_rfl) ?_
  refine ⟨fun hi => ?_, fun hi => ⟨⟨rfl, ⟨rfl, rfl, ?_, trivial⟩, trivial, rfl, fun hi => ?_⟩, fun i => fun hlt => ⟨fun hi => ⟨⟨rfl, ?_, ?_⟩, ?_, fun hi => ?_, fun hi => ⟨rfl, ⟨rfl, rfl, ?_, trivial⟩, trivial, rfl, fun hi => ?_⟩⟩, fun hi => ?_⟩, fun hi => ⟨⟨rfl, ?_, ?_⟩, ?_, fun hi => rfl, fun hi => ?_⟩, fun hi => ?_⟩⟩
  all_goals first | (simp only [cellsVs_length, decide_eq_true_eq, decide_eq_false_iff_not] at *; omega) | exact cellsVs_get l _ (by omega) | exact refRight_ok _ (hf _ (getD_memV l _ (by omega))) | (exact congrArg (fun x => AV.f (int x)) (wrapS ((i : Int) + 1) (by omega) (by omega))) | (exfalso; have h8 := hk i hlt; rw [h8] at hi; cases hi) | (exfalso; rw [h4] at hi; cases hi) | (simp_all; done) | assumption
theorem get87 : P.funcs[87]? = some Tryz.f87 := by kernel_rfl
theorem ent87 : entersP P 87 = true := by kernel_rfl
theorem fit_kind (o : Int) (l : List V) (h : CallsF P G 67 [int o] (bool false)) : CallsF P G 87 [int o, encI l] (int 4) := by
  refine sx_fn (hs := [.call (bool false), .dec true]) ((CallsF P G 67 [int o] (bool false)) ∧ (E (true)) ∧ E (int 4)) get87 ent87 (by kernel_rfl) ?_
  refine ⟨?_, ⟨rfl, rfl⟩⟩
  all_goals exact h
theorem fit_list (o e : Int) (l : List V) (h : CallsF P G 67 [int o] (bool true)) (h2 : CallsF P G 134 [encI l] (int e)) : CallsF P G 87 [int o, encI l] (int e) := by
  refine sx_fn (hs := [.call (bool true), .dec false, .call (int e)]) ((CallsF P G 67 [int o] (bool true)) ∧ (E (false)) ∧ (CallsF P G 134 [encI l] (int e)) ∧ E (int e)) get87 ent87 (by kernel_rfl) ?_
  refine ⟨?_, ⟨rfl, ⟨?_, rfl⟩⟩⟩
  all_goals first | exact h | exact h2
theorem get21 : P.funcs[21]? = some Tryz.f21 := by kernel_rfl
theorem ent21 : entersP P 21 = true := by kernel_rfl
theorem rsof_bad (o e : Int) (l : List V) (he : e ≠ 0) (h : CallsF P G 87 [int o, encI l] (int e)) : CallsF P G 21 [int o, encI l] (.tup [.sc (.pointer none), int e]) := by
  refine sx_fn (hs := [.call (int e), .dec true]) ((CallsF P G 87 [int o, encI l] (int e)) ∧ ((e != 0) = (true)) ∧ E (FV.tup [FV.sc (Value.pointer none), int e])) get21 ent21 (by kernel_rfl) ?_
  refine ⟨?_, ⟨?_, rfl⟩⟩
  all_goals first | exact h | (simp_all; done)
theorem rsof_ok (o : Int) (l : List V) (L : List (V × V)) (h : CallsF P G 87 [int o, encI l] (int 0)) (h2 : CallsF P G 88 [int o, encI l] (.ptr [.ptr [int o, encPs L] 0] 0)) : CallsF P G 21 [int o, encI l] (.tup [.ptr [.ptr [int o, encPs L] 0] 0, int 0]) := by
  refine sx_fn (hs := [.call (int 0), .dec false, .call (FV.ptr [FV.ptr [int o, encPs L] 0] 0)]) (CallsF P G 87 [int o, encI l] (int 0) ∧ E false ∧ CallsF P G 88 [int o, encI l] (FV.ptr [FV.ptr [int o, FV.sl 8 (cellsPs L)] 0] 0) ∧ E (FV.tup [FV.ptr [FV.ptr [int o, FV.sl 8 (cellsPs L)] 0] 0, int 0])) get21 ent21 (by kernel_rfl) ?_
  refine ⟨?_, rfl, ?_, rfl⟩
  all_goals first | exact h | exact h2
end Go.Sx
set_option maxRecDepth 100000
set_option maxHeartbeats 4000000
set_option linter.unusedSimpArgs false
set_option linter.unusedVariables false
namespace Go.Sx
open Go.Proofs Sp
/-- What is wrong with an order and a list: the same told by both. -/
theorem sof_both (o : Int) (l : List V) (hf : ∀ v, v ∈ l → Fine v) (hl : l.length ≤ 1000000000000) :
    (∃ e, e ≠ 0 ∧ CallsF P G 20 [int o, encI l] (.tup [.sc (.pointer none), int e]) ∧ CallsF P G 21 [int o, encI l] (.tup [.sc (.pointer none), int e])) ∨ ((0 ≤ o ∧ o ≤ 5) ∧ l.length ≤ 65536 ∧ (∀ v, v ∈ l → Fine v ∧ rightB v = true) ∧ CallsF P G 21 [int o, encI l] (.tup [.ptr [.ptr [int o, encPs (foldL (cmpO o) [] (wL l))] 0] 0, int 0])) := by
  have hk := kind_ok o
  have arg : ∀ e : Int, e ≠ 0 → CallsF P G 10 [int o, encPs (wL l)] (.tup [.sc (.pointer none), int e]) → CallsF P G 20 [int o, encI l] (.tup [.sc (.pointer none), int e]) := fun e he h => sof_bad o e l _ he rfl hl (h.argL (LeL.cons Le.rfl (LeL.cons (le_cellsN l) LeL.nil)))
  have hw : ∀ i, i < l.length → (wL l).getD i default = (l.getD i default, nilW) := fun i hi => by simp [wL, List.getD_eq_getElem?_getD, List.getElem?_eq_getElem hi]
  have hfw : ∀ p, p ∈ wL l → Fine p.1 ∧ Fine p.2 := fun p hp => by
    obtain ⟨v, hv, rfl⟩ := List.mem_map.1 hp
    exact ⟨hf v hv, fine_nilW⟩
  by_cases ho : 0 ≤ o ∧ o ≤ 5
  case neg =>
    rw [show (decide (0 ≤ o) && decide (o ≤ 5)) = false by rw [Bool.and_eq_false_iff, decide_eq_false_iff_not, decide_eq_false_iff_not]; omega] at hk
    exact .inl ⟨4, by omega, arg 4 (by omega) (of_kind o _ (by omega)), rsof_bad o 4 l (by omega) (fit_kind o l hk)⟩
  rw [show (decide (0 ≤ o) && decide (o ≤ 5)) = true by rw [Bool.and_eq_true, decide_eq_true_eq, decide_eq_true_eq]; exact ho] at hk
  by_cases hl2 : l.length ≤ 65536
  case neg => exact .inl ⟨2, by omega, arg 2 (by omega) (of_wrong o 2 _ ho (by omega) (checked_long _ (by rw [wL_len]; omega))), rsof_bad o 2 l (by omega) (fit_list o 2 l hk (listed_long l (by omega)))⟩
  by_cases hr : ∀ i, i < l.length → rightB (l.getD i default) = true
  · refine .inr ⟨ho, hl2, fun v hv => ⟨hf v hv, ?_⟩, ?_⟩
    · obtain ⟨i, hi, e⟩ := List.getElem_of_mem hv
      have h1 := hr i hi
      rwa [List.getD_eq_getElem?_getD, List.getElem?_eq_getElem hi, Option.getD_some, e] at h1
    · refine rsof_ok o l _ (fit_list o 0 l hk (listed_all l l.length hl2 (Nat.le_refl _) hf hr rfl)) (rmake_ok o ho l (by omega) fun v hv => ⟨hf v hv, ?_⟩)
      obtain ⟨i, hi, e⟩ := List.getElem_of_mem hv
      have h1 := hr i hi
      rwa [List.getD_eq_getElem?_getD, List.getElem?_eq_getElem hi, Option.getD_some, e] at h1
  · have hr2 : ∃ i, i < l.length ∧ ¬ rightB (l.getD i default) = true := Classical.byContradiction fun h => hr fun i hi => Classical.byContradiction fun h2 => h ⟨i, hi, h2⟩
    obtain ⟨N, ⟨h1, h2⟩, h3⟩ := exists_least (fun i => i < l.length ∧ ¬ rightB (l.getD i default) = true) hr2
    have h0 : ∀ i, i < N → rightB (l.getD i default) = true := fun i hi => Classical.byContradiction fun h4 => by have h5 := h3 i ⟨by omega, h4⟩; omega
    have hn : rightB (l.getD N default) = false := by simpa using h2
    refine .inl ⟨3, by omega, arg 3 (by omega) (of_wrong o 3 _ ho (by omega) (checked_not (wL l) N (by rw [wL_len]; exact hl2) (by rw [wL_len]; omega) hfw (fun i hi => ?_) (by rw [wL_len]; exact h1) ?_)), rsof_bad o 3 l (by omega) (fit_list o 3 l hk (listed_not l N hl2 (by omega) hf h0 h1 hn))⟩
    · rw [hw i (by omega)]; exact pairE_zero (h0 i hi) right_nilW
    · rw [hw N h1]
      have bad : ∀ k v : V, rightB k = false → pairE k v = 3 := fun k v h => by simp [pairE, h]
      exact bad _ _ hn
end Go.Sx

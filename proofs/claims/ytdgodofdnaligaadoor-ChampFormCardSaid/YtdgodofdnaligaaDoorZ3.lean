/-
  Proved: what some functions of the program answer, or a law of the evaluator that shows it, one theorem each; its conditions are the hypotheses that stand ahead of it.
-/
import Derived.Test.YtdgodofdnaligaaDoorZP
import Derived.KernelRfl
set_option maxRecDepth 100000
set_option maxHeartbeats 4000000
set_option linter.unusedSimpArgs false
set_option linter.unusedVariables false
namespace Go.Sx
open Go.Proofs Sp
/-- What an iterator over a map hands out. -/
def itM (H : V → Nat) (T : List (V × V)) (j : Nat) : List FV := [.agg (cellsE H (T.getD j default))]
theorem get42 : P.funcs[42]? = some Tryd.f42 := by kernel_rfl
theorem ent42 : entersP P 42 = true := by kernel_rfl
theorem call11_ok (H : V → Nat) (Y : Yd) (m : V × V) (j : Nat) (hk : Fine m.1) (hv : Fine m.2) (hlaw : YLaw P G Y) (hal : Y.alive j) (hit : Y.it j = [encV m.1, encV m.2]) : CallsX P G 42 [.agg (cellsE H m), .ptr [.sc Y.u] 0] (Y) (j) (bool (Y.b j)) (j + 1) := by
  refine sx_fnX (hs := [.pcs [(7, 2)], .call (encV m.1), .call (encV m.2), .yield 0]) (E true ∧ E true ∧ CallsF P G 31 [encV (Prod.fst m)] (encV (Prod.fst m)) ∧ CallsF P G 31 [encV (Prod.snd m)] (encV (Prod.snd m)) ∧ (E (Yd.u Y) ∧ YLaw P G Y ∧ Yd.alive Y j ∧ [encV (Prod.fst m), encV (Prod.snd m)] = Yd.it Y j) ∧ E Y ∧ E (j + 1) ∧ E (bool (Yd.b Y j))) get42 ent42 (by kernel_rfl) ?_
  refine ⟨rfl, rfl, ?_, ?_, ⟨rfl, ?_, ?_, ?_⟩, rfl, rfl, rfl⟩
  all_goals first | exact own_ok _ hk | exact own_ok _ hv | exact hlaw | exact hal | exact hit.symm
theorem get40 : P.funcs[40]? = some Tryd.f40 := by kernel_rfl
theorem ent40 : entersP P 40 = true := by kernel_rfl
theorem call1_run (M : FV) (tc : List FV) (Y : Yd) (it : Nat → List FV) (n : Nat) (q : Bool) (hM : M.one = true) (ht : CallsF P G 20 [M] (.ptr tc 0)) (hx : ∀ Y' : Yd, Y'.it = it → Y'.b = Y.b → Y'.n = Y.n → YLaw P G Y' → CallsX P G 41 [.ptr tc 0, int 0, .sc Y'.u] Y' 0 (bool q) n) (hy : ∀ j, Y.alive j → CallsX P G 42 (it j ++ [.ptr [.sc Y.u] 0]) Y j (bool (Y.b j)) (j + 1)) : CallsX P G 40 [.sc Y.u, .ptr [M] 0] (Y) (0) (.tup []) (n) := by
  refine sx_fnX (hs := [.ones, .call (.ptr tc 0), .frz [1], .callC 0 2 it n (bool q)]) (E true ∧ AV.one (AV.f (FV.sc (Yd.u Y))) = true ∧ CallsF P G 20 [M] (FV.ptr tc 0) ∧ ((∀ (Y' : Yd), (((Yd.it Y') = (it)) → ((((Yd.b Y') = (Yd.b Y)) → ((((Yd.n Y') = (Yd.n Y)) → (((YLaw P G Y') → (CallsX P G 41 ([FV.ptr tc 0, int 0, FV.sc (Yd.u Y')]) (Y') (0) (bool q) (n)))))))))) ∧ ∀ (j : Nat), Yd.alive Y j → CallsX P G 42 ([] ++ it j ++ [FV.ptr [FV.sc (Yd.u Y)] 0]) (Y) (j) (bool (Yd.b Y j)) (j + 1)) ∧ E Y ∧ E n ∧ E (FV.tup [])) get40 ent40 (by kernel_rfl) ?_
  refine ⟨rfl, ?_, ?_, ⟨fun Y' => fun hi => fun hi => fun hi => fun hi => ?_, fun j => fun hi => ?_⟩, rfl, rfl, rfl⟩
  all_goals first | exact Y.one | exact ht | exact hx Y' (by assumption) (by assumption) (by assumption) (by assumption) | exact hy j (by assumption)
theorem get24 : P.funcs[24]? = some Tryd.f24 := by kernel_rfl
theorem ent24 : entersP P 24 = true := by kernel_rfl
theorem call_run (M : FV) (hM : M.one = true) : CallsF P G 24 [M] (.fn 40 [] [.ptr [M] 0]) := by
  refine sx_fn (hs := [.ones, .lfz [0]]) (((AV.one (AV.f M)) = (true)) ∧ E (FV.fn 40 [] [FV.ptr [M] 0])) get24 ent24 (by kernel_rfl) ?_
  refine ⟨?_, rfl⟩
  all_goals exact hM
def Smp (M : FV) (l : List (V × V)) (i : Nat) : St := { sl := slots 17 [(0, .f M), (3, .loc 0 0)], ob := [(1, .row 8 44 (cellsPs (l.take i))), (0, .box [.lsl 1])], nx := 2 }
theorem get9 : P.funcs[9]? = some Tryd.f9 := by kernel_rfl
theorem ent9 : entersP P 9 = true := by kernel_rfl
theorem mpairs_run (M : FV) (l : List (V × V)) (hA : CallsF P G 24 [M] (.fn 40 [] [.ptr [M] 0])) (hl : l.length ≤ 900000) (hR : ∀ Y : Yd, Y.it = itL l → Y.b = (fun _ => true) → Y.n = l.length → YLaw P G Y → CallsX P G 40 ([.sc Y.u, .ptr [M] 0]) Y 0 (.tup []) l.length) : CallsF P G 9 [M] (.sl 8 (cellsPs (l.take l.length))) := by
  refine sx_fn (hs := [.call (.fn 40 [] [.ptr [M] 0]), .pre [.nrowb 0 0 8 44], .range [(0,0),(1,1)] (Smp M l) l.length (itL l) (fun _ => true) (.tup []) none (fun i => [.ren [(0,0),(5,1)]]), .frz [1]]) (let z1 := E (AV.f M) ∧ E (AV.loc 0 0) ∧ True; CallsF P G 24 [M] (FV.fn 40 [] [FV.ptr [M] 0]) ∧ (E true ∧ z1 ∧ (E (Ob.row 8 44 []) ∧ E (Ob.box [AV.lsl 1]) ∧ True) ∧ E true ∧ (false = true → false = true)) ∧ E false ∧ E true ∧ (∀ (i : Nat), i ≤ List.length l → E true) ∧ (∀ (Y : Yd), Yd.it Y = itL l → Yd.b Y = (fun x => true) → Yd.n Y = List.length l → YLaw P G Y → CallsX P G 40 ([FV.sc (Yd.u Y), FV.ptr [M] 0]) (Y) (0) (FV.tup []) (List.length l)) ∧ (∀ (i : Nat), (let z4 := List.getD l i default; let z3 := Prod.fst z4; let z2 := int (V.kind z3) :: int (V.num z3) :: str (V.text z3) :: encI (V.items z3) :: cellsP (Prod.snd z4); i < List.length l → E true ∧ E true ∧ (oneF ([int (V.kind z3) :: int (V.num z3) :: str (V.text z3) :: encI (V.items z3) :: cellsP (Prod.snd z4)]) ∧ List.length (cellsPs (List.take i l)) + List.length (chunk 8 1 z2) ≤ maxLen ∧ (List.length (cellsPs (List.take i l)) + List.length (chunk 8 1 z2)) * 112 ≤ 140737488355328 ∧ E false) ∧ E true ∧ E true ∧ z1 ∧ (Ob.row 8 44 (cellsPs (List.take i l) ++ chunk (TypeInfo.size (Tables.types (Program.toTables P))[44]) 1 z2) = Ob.row 8 44 (cellsPs (List.take (i + 1) l)) ∧ E (Ob.box [AV.lsl 1]) ∧ True) ∧ E true ∧ (false = true → false = true))) ∧ (0 < List.length l → E true) ∧ E (FV.sl 8 (cellsPs (List.take (List.length l) l)))) get9 ent9 (by kernel_rfl) ?_
  refine ⟨?_, ⟨rfl, ⟨rfl, rfl, trivial⟩, ⟨rfl, rfl, trivial⟩, rfl, fun hi => ?_⟩, rfl, rfl, fun i => fun hi => rfl, fun Y => fun hi => fun hi => fun hi => fun hi => ?_, fun i => fun hi => ⟨rfl, rfl, ⟨?_, ?_, ?_, rfl⟩, rfl, rfl, ⟨rfl, rfl, trivial⟩, ⟨?_, rfl, trivial⟩, rfl, fun hi => ?_⟩, fun hi => rfl, rfl⟩
  all_goals first | exact hA | (rename_i h1 h2 h3; exact hR Y h1 h2 h3 hi) | (intro x hx; simp [cellsP] at hx; rcases hx with rfl | rfl | rfl | rfl | rfl | rfl | rfl | rfl <;> rfl) | (simp only [cellsPs_length, List.length_take, chunk, List.length_cons, List.length_nil, maxLen]; omega) | (exact congrArg (Ob.row 8 44) (cellsPs_snoc _ _ hi)) | assumption
theorem get10 : P.funcs[10]? = some Tryd.f10 := by kernel_rfl
theorem ent10 : entersP P 10 = true := by kernel_rfl
theorem mshape_run (M : FV) (tc : List FV) (R : List (List FV)) (ht : CallsF P G 20 [M] (.ptr tc 0)) (hR : CallsO P G 25 [.ptr tc 0, .nils, int 0] 71 4 R) : CallsF P G 10 [M] (.sl 4 R) := by
  refine sx_fn (hs := [.call (.ptr tc 0), .callO 71 4 R, .lfz [0]]) ((CallsF P G 20 [M] (FV.ptr tc 0)) ∧ (CallsO P G 25 [FV.ptr tc 0, FV.nils, int 0] (71) (4) (R)) ∧ E (FV.sl 4 R)) get10 ent10 (by kernel_rfl) ?_
  refine ⟨?_, ⟨?_, rfl⟩⟩
  all_goals first | exact ht | exact hR
theorem get6 : P.funcs[6]? = some Tryd.f6 := by kernel_rfl
theorem ent6 : entersP P 6 = true := by kernel_rfl
theorem new_low (n : Int) (h : n < 0) : CallsF P G 6 [int n] (.tup [.sc (.pointer none), int 4]) := by
  refine sx_fn (hs := [.dec true, .dec true]) (((decide (n < 0)) = (true)) ∧ (E (true)) ∧ E (FV.tup [FV.sc (Value.pointer none), int 4])) get6 ent6 (by kernel_rfl) ?_
  refine ⟨?_, ⟨rfl, rfl⟩⟩
  all_goals (simp only [decide_eq_true_eq]; omega)
theorem new_high (n : Int) (h : 63 < n) : CallsF P G 6 [int n] (.tup [.sc (.pointer none), int 4]) := by
  refine sx_fn (hs := [.dec false, .dec true]) (((decide (n < 0)) = (false)) ∧ ((decide (n > 63)) = (true)) ∧ E (FV.tup [FV.sc (Value.pointer none), int 4])) get6 ent6 (by kernel_rfl) ?_
  refine ⟨?_, ⟨?_, rfl⟩⟩
  all_goals (simp only [decide_eq_true_eq, decide_eq_false_iff_not]; omega)
theorem new_run (n : Int) (h : 0 ≤ n ∧ n ≤ 63) : CallsF P G 6 [int n] (.tup [.ptr [int n, .ptr [.sc (.int .u32 0), .sc (.int .u32 0), .nils, .nils, int 0] 0] 0, int 0]) := by
  refine sx_fn (hs := [.dec false, .dec false, .lfz [0, 1]]) (let z1 := Value.int IntKind.u32 (Int.ofNat 0); decide (n < 0) = false ∧ decide (n > 63) = false ∧ E (FV.tup [FV.ptr [int n, FV.ptr [FV.sc z1, FV.sc z1, FV.nils, FV.nils, int 0] 0] 0, int 0])) get6 ent6 (by kernel_rfl) ?_
  refine ⟨?_, ?_, rfl⟩
  all_goals (simp only [decide_eq_true_eq, decide_eq_false_iff_not]; omega)
theorem get14 : P.funcs[14]? = some Tryd.f14 := by kernel_rfl
theorem ent14 : entersP P 14 = true := by kernel_rfl
theorem of_kind (n e : Int) (l : List (V × V)) (hn : CallsF P G 6 [int n] (.tup [.sc (.pointer none), int e])) (he : e ≠ 0) : CallsF P G 14 [int n, encPs l] (.tup [.sc (.pointer none), int e]) := by
  refine sx_fn (hs := [.call (.tup [.sc (.pointer none), int e]), .dec false, .dec true]) ((CallsF P G 6 [int n] (FV.tup [FV.sc (Value.pointer none), int e])) ∧ ((e == 0) = (false)) ∧ ((e != 0) = (true)) ∧ E (FV.tup [FV.sc (Value.pointer none), int e])) get14 ent14 (by kernel_rfl) ?_
  refine ⟨?_, ⟨?_, ⟨?_, rfl⟩⟩⟩
  all_goals first | exact hn | (simp [he]; done)
theorem of_pairs (n e : Int) (M : FV) (l : List (V × V)) (hn : CallsF P G 6 [int n] (.tup [M, int 0])) (hp : CallsF P G 29 [encPs l] (int e)) (he : e ≠ 0) : CallsF P G 14 [int n, encPs l] (.tup [.sc (.pointer none), int e]) := by
  refine sx_fn (hs := [.call (.tup [M, int 0]), .dec true, .call (int e), .dec true]) ((CallsF P G 6 [int n] (FV.tup [M, int 0])) ∧ (E (true)) ∧ (CallsF P G 29 [FV.sl 8 (cellsPs l)] (int e)) ∧ ((e != 0) = (true)) ∧ E (FV.tup [FV.sc (Value.pointer none), int e])) get14 ent14 (by kernel_rfl) ?_
  refine ⟨?_, ⟨rfl, ⟨?_, ⟨?_, rfl⟩⟩⟩⟩
  all_goals first | exact hn | exact hp | (simp [he]; done)
def Sof (n : Int) (l : List (V × V)) (Mf : Nat → FV) (i : Nat) : St := { sl := slots 36 [(6, .f (Mf i)), (22, .f (encPs l)), (23, .f (int (l.length : Int))), (24, .f (int (i : Int)))], ob := [], nx := 0 }
theorem of_run (n : Int) (l : List (V × V)) (Mf : Nat → FV) (N : Nat) (hn : CallsF P G 6 [int n] (.tup [Mf 0, int 0])) (hp : CallsF P G 29 [encPs l] (int 0)) (hN : N = l.length) (hl : l.length ≤ 900000) (hput : ∀ i, i < N → CallsF P G 23 [Mf i, encV (l.getD i default).1, encV (l.getD i default).2] (Mf (i + 1))) : CallsF P G 14 [int n, encPs l] (.tup [Mf N, int 0]) := by
  refine sx_fn (hs := [.call (.tup [Mf 0, int 0]), .dec true, .call (int 0), .dec false, .loop [] [] (Sof n l Mf) N (fun i => [.dec true, .el (cellsP (l.getD i default).1 ++ cellsP (l.getD i default).2), .call (Mf (i + 1))]), .dec false]) (let z1 := (↑(List.length l) : Int); CallsF P G 6 [int n] (FV.tup [Mf 0, int 0]) ∧ E true ∧ CallsF P G 29 [FV.sl 8 (cellsPs l)] (int 0) ∧ E false ∧ (E true ∧ (E (AV.f (Mf 0)) ∧ E (AV.f (FV.sl 8 (cellsPs l))) ∧ AV.f (int (↑(List.length (cellsPs l)) : Int)) = AV.f (int z1) ∧ AV.f (int 0) = AV.f (int (Int.ofNat 0)) ∧ True) ∧ True ∧ E true ∧ (false = true → false = true)) ∧ (∀ (i : Nat), (let z3 := List.getD l i default; let z2 := Prod.fst z3; i < N → decide ((i : Int) < z1) = true ∧ (E 8 ∧ (0 : Int) ≤ (i : Int) ∧ (cellsPs l)[i]? = some (int (V.kind z2) :: int (V.num z2) :: str (V.text z2) :: encI (V.items z2) :: cellsP (Prod.snd z3))) ∧ CallsF P G 23 [Mf i, encV z2, encV (Prod.snd z3)] (Mf (i + 1)) ∧ E true ∧ (E (AV.f (Mf (i + 1))) ∧ E (AV.f (FV.sl 8 (cellsPs l))) ∧ E (AV.f (int z1)) ∧ AV.f (int (IntKind.wrap IntKind.i64 ((i : Int) + 1))) = AV.f (int (↑(i + 1) : Int)) ∧ True) ∧ True ∧ E true ∧ (false = true → false = true))) ∧ decide ((N : Int) < z1) = false ∧ E (FV.tup [Mf N, int 0])) get14 ent14 (by kernel_rfl) ?_
  refine ⟨?_, rfl, ?_, rfl, ⟨rfl, ⟨rfl, rfl, ?_, ?_, trivial⟩, trivial, rfl, fun hi => ?_⟩, fun i => fun hi => ⟨?_, ⟨rfl, ?_, ?_⟩, ?_, rfl, ⟨rfl, rfl, rfl, ?_, trivial⟩, trivial, rfl, fun hi => ?_⟩, ?_, rfl⟩
  all_goals first | exact hn | exact hp | rfl | exact hput i (by assumption) | exact cellsPs_get l _ (by omega) | (rw [cellsPs_length]; done) | (simp only [cellsPs_length, decide_eq_true_eq, decide_eq_false_iff_not]; omega) | (exact congrArg (fun x => AV.f (int x)) (wrapS ((i : Int) + 1) (by omega) (by omega))) | assumption | omega
end Go.Sx
set_option maxRecDepth 100000
set_option maxHeartbeats 4000000
set_option linter.unusedSimpArgs false
set_option linter.unusedVariables false
namespace Go.Sx
open Go.Proofs Sp
/-- Members that a map may have. -/
structure OkM (L : List (V × V)) : Prop where
  dk : Sp.Ch.Dk L
  fine : ∀ q, q ∈ L → Fine q.1 ∧ Fine q.2
  right : ∀ q, q ∈ L → rightB q.1 = true ∧ rightB q.2 = true
  len : L.length ≤ 65536
/-- A map of a kind with the members L. -/
structure IsM (M : FV) (kd : Nat) (L : List (V × V)) : Prop where
  one : M.one = true
  kind : CallsF P G 8 [M] (int (kd : Int))
  top : CallsF P G 20 [M] (encC (kHash kd) 7 L)
  kd63 : kd ≤ 63
open Sp.Ch Sp.Sy
theorem OkM.hc {L : List (V × V)} (h : OkM L) (kd : Nat) {k : V} (hk : rightB k = true) : Hc (kHash kd) k L := by
  intro x hx hs
  have h1 : cmpV x.1 k = 0 := by simpa [sameK] using hs
  rw [rightB_same (h.right x hx).1 hk h1]
theorem OkM.nil : OkM [] := ⟨List.Pairwise.nil, fun q hq => (by cases hq), fun q hq => (by cases hq), by simp⟩
theorem OkM.put {L : List (V × V)} (h : OkM L) {e : V × V} (hf : Fine e.1 ∧ Fine e.2) (hr : rightB e.1 = true ∧ rightB e.2 = true) (hl : (put e L).length ≤ 65536) : OkM (put e L) := by
  refine ⟨h.dk.put, fun q hq => ?_, fun q hq => ?_, hl⟩
  · rcases List.mem_cons.1 hq with rfl | hq
    · exact hf
    · exact h.fine q (List.mem_filter.1 hq).1
  · rcases List.mem_cons.1 hq with rfl | hq
    · exact hr
    · exact h.right q (List.mem_filter.1 hq).1
theorem OkM.cut {L : List (V × V)} (h : OkM L) (k : V) : OkM (cut k L) :=
  ⟨h.dk.cut, fun q hq => h.fine q (List.mem_filter.1 hq).1, fun q hq => h.right q (List.mem_filter.1 hq).1, Nat.le_trans (List.length_filter_le _ _) h.len⟩
theorem isM_some (kd : Nat) (h : kd ≤ 63) (L : List (V × V)) : IsM (encMC kd L) kd L := by
  obtain ⟨k1, k2, ke, kk, e⟩ := encC_form (kHash kd) 7 L
  refine ⟨rfl, kind_some _ _, ?_, h⟩
  unfold encMC
  rw [e]; exact top_some _ _
theorem mLen {M : FV} {kd : Nat} {L : List (V × V)} (h : IsM M kd L) : CallsF P G 7 [M] (int (L.length : Int)) := by
  obtain ⟨k1, k2, ke, kk, e⟩ := encC_form (kHash kd) 7 L
  have ht := h.top
  rw [e] at ht
  exact mlen_run M _ _ _ _ _ ht
theorem mHash {M : FV} {kd : Nat} {L : List (V × V)} (h : IsM M kd L) (k : V) (hk : Fine k) (hr : rightB k = true) : CallsF P G 22 [M, encV k] (.sc (.int .u32 (kHash kd k : Int))) :=
  mhash_run M k kd _ h.kind (hOf_ok kd k h.kd63 hk hr)
theorem mPut {M : FV} {kd : Nat} {L : List (V × V)} (h : IsM M kd L) (hL : OkM L) (k v : V) (hk : Fine k ∧ Fine v) (hr : rightB k = true) : CallsF P G 23 [M, encV k, encV v] (encMC kd (put (k, v) L)) := by
  obtain ⟨k1, k2, ke, kk, e⟩ := encC_form (kHash kd) 7 L
  obtain ⟨z1, z2, ze, zk, ez⟩ := encC_form (kHash kd) 7 (put (k, v) L)
  have ht := h.top
  have hw := with_ok (kHash kd) (kHash_lt kd) 7 (by omega) 0 (by omega) L (k, v) hL.dk (hL.hc kd hr) (by have := hL.len; omega) (fun q hq => (hL.fine q hq).1) hk.1
  rw [e] at ht hw
  rw [ez] at hw
  have := mput_run M _ _ k v kd (kHash kd k) h.kind ht (mHash h k hk.1 hr) (own_ok k hk.1) (own_ok v hk.2) hw
  unfold encMC
  rw [ez]; exact this
theorem mAll {M : FV} {kd : Nat} {L : List (V × V)} (h : IsM M kd L) : CallsF P G 24 [M] (.fn 40 [] [.ptr [M] 0]) := call_run M h.one
/-- The iterator over a map, as long as it goes on. -/
theorem mAll1 {M : FV} {kd : Nat} {L : List (V × V)} (h : IsM M kd L) (hL : OkM L) (Y : Yd) (hlaw : YLaw P G Y) (hn : Y.n ≤ L.length) (hal : ∀ j, j < L.length → (∀ t, t < j → Y.b t = true) → j < Y.n) (hit : Y.it = itL (tor (kHash kd) 7 L)) :
    CallsX P G 40 [.sc Y.u, .ptr [M] 0] Y 0 (.tup []) (goR Y.b L.length 0).2 := by
  have hlen : (tor (kHash kd) 7 L).length = L.length := (tor_perm _ 7 L).length_eq
  obtain ⟨k1, k2, ke, kk, e⟩ := encC_form (kHash kd) 7 L
  have ht := h.top
  rw [e] at ht
  refine call1_run M _ Y (itM (kHash kd) (tor (kHash kd) 7 L)) _ (goR Y.b L.length 0).1 h.one ht (fun Y' h1 h2 h3 h4 => ?_) (fun j hj => ?_)
  · have hx := ceach_ok (kHash kd) Y' h4 7 (by omega) 0 (by omega) L 0 (by have := hL.len; omega) (fun j hj hb => by
      rw [Nat.zero_add]
      refine ⟨fun t ht => by have := hb t ht; rwa [Nat.zero_add] at this, ?_⟩
      rw [h3]; exact hal j hj fun t ht => by have := hb t ht; rw [Nat.zero_add, h2] at this; exact this) (fun j hj => by rw [h1, Nat.zero_add]; rfl)
    rw [h2] at hx
    rw [e] at hx
    exact hx
  · have hj2 : j < L.length := by have := hj.2; omega
    have hm : (tor (kHash kd) 7 L).getD j default ∈ L := (tor_perm _ 7 L).mem_iff.1 (getD_memP _ _ (by omega))
    exact call11_ok (kHash kd) Y _ j (hL.fine _ hm).1 (hL.fine _ hm).2 hlaw hj (by rw [hit]; rfl)
theorem mPairs {M : FV} {kd : Nat} {L : List (V × V)} (h : IsM M kd L) (hL : OkM L) : CallsF P G 9 [M] (encPs (tor (kHash kd) 7 L)) := by
  have hlen : (tor (kHash kd) 7 L).length = L.length := (tor_perm _ 7 L).length_eq
  have h1 := mpairs_run M (tor (kHash kd) 7 L) (mAll h) (by have := hL.len; omega) (fun Y h1 h2 h3 h4 => by
    have h5 := mAll1 h hL Y h4 (by omega) (fun j hj _ => by omega) h1
    have e : goR Y.b L.length 0 = (true, L.length) := by have := goR_all (b := Y.b) (m := L.length) (i := 0) (fun j _ => by rw [h2]); rwa [Nat.zero_add] at this
    rw [e, ← hlen] at h5
    exact h5)
  rw [List.take_length] at h1
  exact h1
theorem mShape {M : FV} {kd : Nat} {L : List (V × V)} (h : IsM M kd L) (hL : OkM L) : CallsF P G 10 [M] (.sl 4 (shC (kHash kd) 7 L)) := by
  obtain ⟨k1, k2, ke, kk, e⟩ := encC_form (kHash kd) 7 L
  have ht := h.top
  have hs := shape_zero (kHash kd) L (by have := hL.len; omega)
  rw [e] at ht hs
  exact mshape_run M _ _ ht hs
theorem newM_ok (kd : Nat) (h : kd ≤ 63) : CallsF P G 6 [int (kd : Int)] (.tup [encMC kd [], int 0]) :=
  (new_run (kd : Int) (by omega)).le (le_tup (LeL.cons (le_ptr (LeL.cons Le.rfl (LeL.cons (zero_node (kHash kd) 7) LeL.nil)) 0) (LeL.cons Le.rfl LeL.nil)))
theorem newM_bad (n : Int) (h : ¬ (0 ≤ n ∧ n ≤ 63)) : CallsF P G 6 [int n] (.tup [nilM, int 4]) := by
  rcases Int.lt_or_le n 0 with h1 | h1
  · exact new_low n h1
  · exact new_high n (by omega)
/-- Pairs put in one by one. -/
def putsL (l : List (V × V)) : List (V × V) := l.foldl (fun L p => put p L) []
theorem puts_le (l : List (V × V)) : (putsL l).length ≤ l.length := by
  have main : ∀ (l L : List (V × V)), (l.foldl (fun L p => put p L) L).length ≤ L.length + l.length := by
    intro l
    induction l with
    | nil => intro L; simp
    | cons p l ih =>
      intro L
      have h1 := ih (put p L)
      have h2 := put_len p L
      simp only [List.foldl_cons, List.length_cons]; omega
  have := main l []
  rw [List.length_nil, Nat.zero_add] at this
  exact this
theorem puts_ok (l : List (V × V)) (hf : ∀ p, p ∈ l → Fine p.1 ∧ Fine p.2) (hr : ∀ p, p ∈ l → rightB p.1 = true ∧ rightB p.2 = true) (hl : l.length ≤ 65536) : ∀ i, i ≤ l.length → OkM (putsL (l.take i)) := by
  intro i
  induction i with
  | zero => intro _; simpa [putsL] using OkM.nil
  | succ i ih =>
    intro hi
    have h1 : putsL (l.take (i + 1)) = put (l.getD i default) (putsL (l.take i)) := by
      unfold putsL
      rw [List.take_succ_eq_append_getElem (by omega), List.foldl_append]
      simp [List.getD_eq_getElem?_getD, List.getElem?_eq_getElem (show i < l.length by omega)]
    have hm := getD_memP l i (by omega)
    rw [h1]
    refine (ih (by omega)).put (hf _ hm) (hr _ hm) ?_
    have h2 := puts_le (l.take (i + 1))
    rw [h1, List.length_take] at h2; omega
theorem ofM_ok (kd : Nat) (h : kd ≤ 63) (l : List (V × V)) (hf : ∀ p, p ∈ l → Fine p.1 ∧ Fine p.2) (hp : pairL l = 0) : CallsF P G 14 [int (kd : Int), encPs l] (.tup [encMC kd (putsL l), int 0]) := by
  obtain ⟨hl, hr⟩ := pairL_zero hp
  have hpa := vpaired_ok l hf
  rw [hp] at hpa
  have h1 := of_run (kd : Int) l (fun i => encMC kd (putsL (l.take i))) l.length (newM_ok kd h) hpa rfl (by omega) (fun i hi => by
    have e : putsL (l.take (i + 1)) = put (l.getD i default) (putsL (l.take i)) := by
      unfold putsL
      rw [List.take_succ_eq_append_getElem hi, List.foldl_append]
      simp [List.getD_eq_getElem?_getD, List.getElem?_eq_getElem hi]
    have hm := getD_memP l i hi
    rw [e]
    exact mPut (isM_some kd h _) (puts_ok l hf hr hl i (by omega)) _ _ (hf _ hm) (hr _ hm).1)
  simp only [List.take_length] at h1
  exact h1
theorem ofM_bad (n : Int) (h : ¬ (0 ≤ n ∧ n ≤ 63)) (l : List (V × V)) : CallsF P G 14 [int n, encPs l] (.tup [nilM, int 4]) := of_kind n 4 l (newM_bad n h) (by omega)
theorem ofM_not (kd : Nat) (h : kd ≤ 63) (l : List (V × V)) (hf : ∀ p, p ∈ l → Fine p.1 ∧ Fine p.2) (hp : pairL l ≠ 0) : CallsF P G 14 [int (kd : Int), encPs l] (.tup [nilM, int (pairL l)]) :=
  of_pairs (kd : Int) (pairL l) (encMC kd []) l (newM_ok kd h) (vpaired_ok l hf) hp
end Go.Sx
set_option maxRecDepth 100000
set_option maxHeartbeats 4000000
set_option linter.unusedSimpArgs false
set_option linter.unusedVariables false
namespace Go.Sx
open Go.Proofs Sp
theorem mget_in (M : FV) (k : V) (h : Nat) (tc : List FV) (h9 : Int) (e : V × V) (hr : rightB k = true) (hcheck : CallsF P G 19 [encV k] (int (chkI (rightB k)))) (ht : CallsF P G 20 [M] (.ptr tc 0)) (hh : CallsF P G 22 [M, encV k] (.sc (.int .u32 (h : Int)))) (hf : CallsF P G 21 [.ptr tc 0, .sc (.int .u32 (h : Int)), encV k, int 0] (.tup [.agg [.sc (.int .u32 h9), int e.1.kind, int e.1.num, str e.1.text, encI e.1.items, int e.2.kind, int e.2.num, str e.2.text, encI e.2.items], bool true])) (hok : CallsF P G 31 [encV e.2] (encV e.2)) : CallsF P G 16 [M, encV k] (.tup [encV e.2, bool true, int 0]) := by
  refine sx_fn (hs := [.call (int (chkI (rightB k))), .dec false, .nae 11 10 9, .call (.ptr tc 0), .call (.sc (.int .u32 (h : Int))), .call (.tup [.agg [.sc (.int .u32 h9), int e.1.kind, int e.1.num, str e.1.text, encI e.1.items, int e.2.kind, int e.2.num, str e.2.text, encI e.2.items], bool true]), .dec false, .call (encV e.2)]) (let z1 := Value.int IntKind.u32 (h : Int); CallsF P G 19 [encV k] (int (chkI (rightB k))) ∧ (chkI (rightB k) != 0) = false ∧ E true ∧ E true ∧ CallsF P G 20 [M] (FV.ptr tc 0) ∧ CallsF P G 22 [M, encV k] (FV.sc z1) ∧ CallsF P G 21 [FV.ptr tc 0, FV.sc z1, encV k, int 0] (FV.tup [FV.agg (FV.sc (Value.int IntKind.u32 h9) :: int (V.kind (Prod.fst e)) :: int (V.num (Prod.fst e)) :: str (V.text (Prod.fst e)) :: encI (V.items (Prod.fst e)) :: cellsP (Prod.snd e)), bool true]) ∧ E (AV.f (bool true)) ∧ E false ∧ CallsF P G 31 [encV (Prod.snd e)] (encV (Prod.snd e)) ∧ E (FV.tup [encV (Prod.snd e), bool true, int 0])) get16 ent16 (by kernel_rfl) ?_
  refine ⟨?_, ?_, rfl, rfl, ?_, ?_, ?_, rfl, rfl, ?_, rfl⟩
  all_goals first | exact ht | exact hh | exact hcheck | exact hf | exact hok | (rw [hr]; rfl)
theorem mget_out (M : FV) (k : V) (h : Nat) (tc : List FV) (h9 : Int) (e : V × V) (hr : rightB k = true) (hcheck : CallsF P G 19 [encV k] (int (chkI (rightB k)))) (ht : CallsF P G 20 [M] (.ptr tc 0)) (hh : CallsF P G 22 [M, encV k] (.sc (.int .u32 (h : Int)))) (hf : CallsF P G 21 [.ptr tc 0, .sc (.int .u32 (h : Int)), encV k, int 0] (.tup [.agg [.sc (.int .u32 h9), int e.1.kind, int e.1.num, str e.1.text, encI e.1.items, int e.2.kind, int e.2.num, str e.2.text, encI e.2.items], bool false])) : CallsF P G 16 [M, encV k] (.tup [.agg [int 0, int 0, str [], .nils], bool false, int 0]) := by
  refine sx_fn (hs := [.call (int (chkI (rightB k))), .dec false, .nae 11 10 9, .call (.ptr tc 0), .call (.sc (.int .u32 (h : Int))), .call (.tup [.agg [.sc (.int .u32 h9), int e.1.kind, int e.1.num, str e.1.text, encI e.1.items, int e.2.kind, int e.2.num, str e.2.text, encI e.2.items], bool false]), .dec true]) (let z1 := Value.int IntKind.u32 (h : Int); CallsF P G 19 [encV k] (int (chkI (rightB k))) ∧ (chkI (rightB k) != 0) = false ∧ E true ∧ E true ∧ CallsF P G 20 [M] (FV.ptr tc 0) ∧ CallsF P G 22 [M, encV k] (FV.sc z1) ∧ CallsF P G 21 [FV.ptr tc 0, FV.sc z1, encV k, int 0] (FV.tup [FV.agg (FV.sc (Value.int IntKind.u32 h9) :: int (V.kind (Prod.fst e)) :: int (V.num (Prod.fst e)) :: str (V.text (Prod.fst e)) :: encI (V.items (Prod.fst e)) :: cellsP (Prod.snd e)), bool false]) ∧ E (AV.f (bool false)) ∧ E true ∧ E (FV.tup [FV.agg [int 0, int 0, str [], FV.nils], bool false, int 0])) get16 ent16 (by kernel_rfl) ?_
  refine ⟨?_, ?_, rfl, rfl, ?_, ?_, ?_, rfl, rfl, rfl⟩
  all_goals first | exact ht | exact hh | exact hcheck | exact hf | (rw [hr]; rfl)
end Go.Sx
set_option maxRecDepth 100000
set_option maxHeartbeats 4000000
set_option linter.unusedSimpArgs false
set_option linter.unusedVariables false
namespace Go.Sx
open Go.Proofs Sp
theorem get17 : P.funcs[17]? = some Tryd.f17 := by kernel_rfl
theorem ent17 : entersP P 17 = true := by kernel_rfl
theorem mdis_run (M : FV) (k : V) (kd h : Nat) (tc tc2 : List FV) (h9 : Int) (e : V × V) (q : Bool) (hr : rightB k = true) (hcheck : CallsF P G 19 [encV k] (int (chkI (rightB k)))) (hk : CallsF P G 8 [M] (int (kd : Int))) (ht : CallsF P G 20 [M] (.ptr tc 0)) (hh : CallsF P G 22 [M, encV k] (.sc (.int .u32 (h : Int)))) (hf : CallsF P G 21 [.ptr tc 0, .sc (.int .u32 (h : Int)), encV k, int 0] (.tup [.agg [.sc (.int .u32 h9), int e.1.kind, int e.1.num, str e.1.text, encI e.1.items, int e.2.kind, int e.2.num, str e.2.text, encI e.2.items], bool q])) (hq1 : q = true → CallsF P G 32 [.ptr tc 0, .sc (.int .u32 (h : Int)), encV k, int 0] (.ptr tc2 0)) (hq2 : q = false → tc2 = tc) : CallsF P G 17 [M, encV k] (.tup [.ptr [int (kd : Int), .ptr tc2 0] 0, int 0]) := by
  refine sx_fn (hs := [.call (int (chkI (rightB k))), .dec false, .call (.sc (.int .u32 (h : Int))), .nae 9 8 7, .call (.ptr tc 0), .call (.tup [.agg [.sc (.int .u32 h9), int e.1.kind, int e.1.num, str e.1.text, encI e.1.items, int e.2.kind, int e.2.num, str e.2.text, encI e.2.items], bool q]), .br [.call (int (kd : Int)), .call (.ptr tc 0), .lfz [2]] [.nat 11, .call (int (kd : Int)), .call (.ptr tc 0), .call (.ptr tc2 0)]]) (let z1 := Value.int IntKind.u32 (h : Int); CallsF P G 19 [encV k] (int (chkI (rightB k))) ∧ (chkI (rightB k) != 0) = false ∧ CallsF P G 22 [M, encV k] (FV.sc z1) ∧ E true ∧ E true ∧ CallsF P G 20 [M] (FV.ptr tc 0) ∧ CallsF P G 21 [FV.ptr tc 0, FV.sc z1, encV k, int 0] (FV.tup [FV.agg (FV.sc (Value.int IntKind.u32 h9) :: int (V.kind (Prod.fst e)) :: int (V.num (Prod.fst e)) :: str (V.text (Prod.fst e)) :: encI (V.items (Prod.fst e)) :: cellsP (Prod.snd e)), bool q]) ∧ E (AV.f (bool q)) ∧ Br (!q) (CallsF P G 8 [M] (int (kd : Int)) ∧ CallsF P G 20 [M] (FV.ptr tc 0) ∧ FV.tup [FV.ptr [int (kd : Int), FV.ptr tc 0] 0, int 0] = FV.tup [FV.ptr [int (kd : Int), FV.ptr tc2 0] 0, int 0]) (E true ∧ CallsF P G 8 [M] (int (kd : Int)) ∧ CallsF P G 20 [M] (FV.ptr tc 0) ∧ CallsF P G 32 [FV.ptr tc 0, FV.sc z1, encV k, int 0] (FV.ptr tc2 0) ∧ E (FV.tup [FV.ptr [int (kd : Int), FV.ptr tc2 0] 0, int 0]))) get17 ent17 (by kernel_rfl) ?_
  refine ⟨?_, ?_, ?_, rfl, rfl, ?_, ?_, rfl, fun hi => ⟨?_, ?_, ?_⟩, fun hi => ⟨rfl, ?_, ?_, ?_, rfl⟩⟩
  all_goals first | exact hk | exact ht | exact hh | exact hcheck | exact hf | (rw [hr]; rfl) | (rw [hr] at *; simp_all [chkI]; done)
end Go.Sx

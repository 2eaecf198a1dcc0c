/-
  Proved: what some functions of the program answer, or a law of the evaluator that shows it, one theorem each; its conditions are the hypotheses that stand ahead of it.
-/
import Derived.Test.YtdgodofdnaligaaDoorInp4
import Derived.Test.YtdgodofdnaligaaDoorSxL
import Derived.Test.YtdgodofdnaligaaDoorIns1
import Derived.KernelRfl
set_option linter.unusedVariables false
set_option linter.unusedSimpArgs false
set_option maxRecDepth 100000
set_option maxHeartbeats 4000000
namespace Go.Proofs
open Go.Shelf Go.RowKit Go.Lib Go.Sx
theorem flat_len9P : ∀ (es : List (List FV)), (∀ x ∈ es, x.length = 1) → es.flatten.length = es.length
  | [], _ => rfl
  | x :: es, h => by
    rw [List.flatten_cons, List.length_append, h x (by simp), flat_len9P es fun y hy => h y (by simp [hy]), List.length_cons]; omega
/-- What a function that wrote into its row, or told a new one, leaves. -/
theorem row_postP {G : Gr} (hG : G.strict = false) {w w' : World} {ok : Nat → Prop} {v v' : Value} {es' : List (List FV)} {xs' : List Value} (hok : ∀ b, ok b → b < w.heap.size ∧ v.ownBlock ≠ some b) (hg : w.grownBy w' v.ownBlock) (hv' : v'.ownBlock = v.ownBlock ∨ v'.ownBlock = some w.heap.size)
    (hown : w'.ownsRow 0 53 1 v' es'.length xs') (hfr : FRelL w ok es'.flatten xs') (hl : ∀ x ∈ es', x.length = 1) :
    ∃ v'' xs'', w'.ownsRow 0 53 1 v'' es'.length xs'' ∧ (∀ b, v''.ownBlock = some b → v.ownBlock = some b ∨ w.heap.size ≤ b) ∧
      FRelL w' (fun b => (ok b ∨ v.ownBlock = some b ∨ (w.heap.size ≤ b ∧ b < w'.heap.size)) ∧ v''.ownBlock ≠ some b) es'.flatten xs'' ∧ (∀ x ∈ es', x.length = 1) ∧ v' = v'' ∧ ExtX G (opt v.ownBlock) w w' := by
  refine ⟨v', xs', hown, fun b hb => ?_, ?_, hl, rfl, ⟨hg.os, hg.tape, hg.output, hg.size, fun k hk hx => hg.block k hk fun e => hx ?_, fun h => by rw [hG] at h; cases h⟩⟩
  · rcases hv' with h | h
    · exact .inl (h ▸ hb)
    · rw [h] at hb; simp only [Option.some.injEq] at hb; exact .inr (by omega)
  · have hc : Carry w w' ok ok := ⟨fun _ h => h, fun b hb => hg.block b (hok b hb).1 fun e => (hok b hb).2 e.symm, hg.os, hg.tape, hg.output, hg.size⟩
    refine FRelL.mono (fun b hb => ⟨.inl hb, fun e => ?_⟩) _ _ (FRelL.carry hc _ _ hfr)
    rcases hv' with h | h
    · exact (hok b hb).2 (h ▸ e)
    · rw [h] at e; simp only [Option.some.injEq] at e; have := (hok b hb).1; omega
  · first | exact e.symm | (simp [opt]; exact e.symm) | (simpa [opt] using e.symm)
theorem insert_okEP {G : Gr} (hG : G.strict = false) (es : List (List FV)) (i : Nat) (c : List FV) (hi : i ≤ es.length) (hn : es.length ≤ 1000000) (h1 : oneF es) (h2 : oneF [c]) : CallsW Tryd.prog G 60 53 1 es [.sc (.int .i64 (i : Int)), .sl 1 [c]] (es.take i ++ [c] ++ es.drop i) none := by
  intro w ok v xs vs _ hok _ hown hfr hlens hvs
  simp only [FRelL, FRel] at hvs
  obtain ⟨u1, r1, rfl, rfl, u2, r2, rfl, hu2, rfl⟩ := hvs
  rcases hu2 with ⟨h, _⟩ | ⟨vb, vo, vc, rfl, hvc, hvk, hvE⟩
  · cases h
  obtain ⟨cv, c1, c2, c3⟩ := FRelE.cells _ _ _ hvE
  have hc9 : c.length = 1 := by simp only [FRelE] at hvE; exact hvE.1
  have hcv : cv.length = 1 := by rw [c1]; rfl
  have hone : ∀ u ∈ cv, u.oneCell' = true := FRelL.oneCell _ _ h2 c3
  have honx : ∀ u ∈ xs, u.oneCell' = true := FRelL.oneCell _ _ h1 hfr
  have hcs : ∀ j u, cv[j]? = some u → w.cell? ⟨vb, vo + j, none⟩ = some u := c2
  have c3' : FRelL w ok c cv := by simpa using c3
  have hxl : xs.length = es.length := by have h := hown.1; omega
  have hfl : ((es.take i).flatten).length = i := by rw [flat_len9P _ fun x hx => hlens x (List.mem_of_mem_take hx), List.length_take, Nat.min_eq_left hi]
  have hsp := FRelL.split (es.take i).flatten (es.drop i).flatten xs (by rw [← List.flatten_append, List.take_append_drop]; exact hfr)
  rw [hfl] at hsp
  have hnew : FRelL w ok (es.take i ++ [c] ++ es.drop i).flatten (xs.take (i) ++ cv ++ xs.drop (i)) := by
    rw [List.flatten_append, List.flatten_append]
    exact FRelL.append _ _ _ _ (FRelL.append _ _ _ _ hsp.1 (by simpa using c3')) hsp.2
  have hle : ∀ x ∈ es.take i ++ [c] ++ es.drop i, x.length = 1 := fun x hx => by
    simp only [List.mem_append, List.mem_singleton] at hx
    rcases hx with (hx | rfl) | hx
    · exact hlens x (List.mem_of_mem_take hx)
    · exact hc9
    · exact hlens x (List.mem_of_mem_drop hx)
  have hlen' : (es.take i ++ [c] ++ es.drop i).length = es.length + 1 := by simp only [List.length_append, List.length_take, List.length_drop, List.length_singleton]; omega
  unfold CallY
  rw [run_enter (show entersP Tryd.prog 60 = true by kernel_rfl)]
  simp only
  by_cases hin : i = es.length
  · subst hin
    refine (ins_endP es.length vb vo vc v xs cv w hn hown hcv hcs hone).mono ?_
    rintro e w' ⟨v', rfl, q1, q2, q3⟩
    refine ⟨v', rfl, ?_⟩
    have e1 : xs.take (es.length) ++ cv ++ xs.drop (es.length) = xs ++ cv := by rw [List.take_of_length_le (by omega), List.drop_eq_nil_of_le (by omega), List.append_nil]
    rw [e1] at hnew
    exact row_postP hG hok q2 q3 (by rw [hlen']; exact q1) hnew hle
  · rcases hown.2 with ⟨rfl, h0⟩ | ⟨g, cap, cur, rfl, hbg, hb, hnc, hcm, hcur, htake⟩
    · omega
    · have hvg : vb ≠ g := fun e => (hok vb hvk).2 (by simp [Value.ownBlock, e])
      have hc63 : cap ≤ 9223372036854775807 := by unfold maxLen at hcm; omega
      have hgl : g < w.heap.size := (Array.getElem?_eq_some_iff.1 hb).1
      by_cases hroom : es.length + 1 ≤ cap
      · refine (ins_shiftP g es.length cap i vb vo vc 53 cur xs cv w (by omega) hroom hc63 hb (by omega) (by simpa only [Nat.mul_one] using htake) hvg hcv hcs honx hone).mono ?_
        rintro e w' ⟨rfl, row, rfl, r1, r2⟩
        refine ⟨_, rfl, row_postP hG hok ⟨rfl, rfl, rfl, by simp only [World.setRow, Array.size_modify]; exact Nat.le_refl _, fun k hk hx => setRow_other w.drew g k row fun e => hx (by simp [Value.ownBlock, e])⟩ (.inl rfl) ⟨?_, .inr ⟨g, cap, row, by rw [hlen'], hbg, setRow_heap w.drew g cur row 53 _ hb, by rw [hlen']; exact hroom, hcm, by omega, by rw [hlen', Nat.mul_one]; exact r2⟩⟩ hnew hle⟩
        rw [hlen']; simp only [List.length_append, List.length_take, List.length_drop, hcv, hxl]; omega
      · refine (ins_growP g es.length cap i vb vo vc 53 cur xs cv w (by omega) hnc (by omega) hn hb (by omega) (by simpa only [Nat.mul_one] using htake) hvg hcv hcs honx hone).mono ?_
        rintro e w' ⟨G', ROW, row, rfl, g1, g2, rfl, r1, r2⟩
        have hnewb : ((w.alloc (.cells ROW 53)).drew.drew).heap[w.heap.size]? = some (.cells ROW 53 (0, 0)) := by
          show (w.heap.push (.cells ROW 53))[w.heap.size]? = _
          rw [Array.getElem?_push_size]
        refine ⟨_, rfl, row_postP hG hok ⟨rfl, rfl, rfl, by simp only [World.setRow, Array.size_modify]; show w.heap.size ≤ (w.heap.push _).size; rw [Array.size_push]; omega, fun k hk hx => ?_⟩ (.inr rfl) ⟨?_, .inr ⟨w.heap.size, G', row, by rw [hlen'], Nat.zero_le _, setRow_heap _ _ ROW row 53 _ hnewb, by rw [hlen']; exact g1, g2, by omega, by rw [hlen', Nat.mul_one]; exact r2⟩⟩ hnew hle⟩
        · rw [setRow_other _ _ _ _ (by omega)]
          show (w.heap.push (.cells ROW 53))[k]? = _
          rw [Array.getElem?_push_lt hk, Array.getElem?_eq_getElem hk]
        · rw [hlen']; simp only [List.length_append, List.length_take, List.length_drop, hcv, hxl]; omega
end Go.Proofs
set_option linter.unusedVariables false
set_option linter.unusedSimpArgs false
set_option maxRecDepth 100000
set_option maxHeartbeats 4000000
namespace Go.Proofs
open Go.Shelf Go.RowKit Go.Lib Go.Sx
end Go.Proofs
set_option maxRecDepth 100000
set_option maxHeartbeats 4000000
set_option linter.unusedSimpArgs false
set_option linter.unusedVariables false
namespace Go.Sx
open Go.Proofs Sp
theorem get47 : P.funcs[47]? = some Tryd.f47 := by kernel_rfl
theorem ent47 : entersP P 47 = true := by kernel_rfl
theorem cloneE_ok (es : List (List FV)) (hl : es.length ≤ 1000000) (ho : oneF es) (h9 : ∀ x ∈ es, x.length = 9) : CallsO P G 47 [.sl 9 es] 51 9 es := by
  refine sx_fnO (hs := [.br [] []]) (∀ (b : Bool), (es ≠ [] → b = false) → Br (b == true) (es = []) ((oneF (es) ∧ 0 + List.length es ≤ maxLen ∧ (0 + List.length es) * 120 ≤ 140737488355328 ∧ E false) ∧ E 51 ∧ E 9 ∧ (chunk (TypeInfo.size (Tables.types (Program.toTables P))[51]) 0 [] ++ es) = es)) get47 ent47 (by kernel_rfl) ?_
  refine fun b => fun hi => ⟨fun hi => ?_, fun hi => ⟨⟨?_, ?_, ?_, rfl⟩, rfl, rfl, ?_⟩⟩
  all_goals first | exact ho | (simp only [maxLen]; omega) | omega | exact rfl | (simp_all [V.kind, V.num, V.text, V.items]; done)
theorem get48 : P.funcs[48]? = some Tryd.f48 := by kernel_rfl
theorem ent48 : entersP P 48 = true := by kernel_rfl
theorem cloneN_ok (es : List (List FV)) (hl : es.length ≤ 1000000) (ho : oneF es) (h1 : ∀ x ∈ es, x.length = 1) : CallsO P G 48 [.sl 1 es] 53 1 es := by
  refine sx_fnO (hs := [.br [] []]) (∀ (b : Bool), (es ≠ [] → b = false) → Br (b == true) (es = []) ((oneF (es) ∧ 0 + List.length es ≤ maxLen ∧ (0 + List.length es) * 8 ≤ 140737488355328 ∧ E false) ∧ E 53 ∧ E 1 ∧ (chunk (TypeInfo.size (Tables.types (Program.toTables P))[53]) 0 [] ++ es) = es)) get48 ent48 (by kernel_rfl) ?_
  refine fun b => fun hi => ⟨fun hi => ?_, fun hi => ⟨⟨?_, ?_, ?_, rfl⟩, rfl, rfl, ?_⟩⟩
  all_goals first | exact ho | (simp only [maxLen]; omega) | omega | exact rfl | (simp_all [V.kind, V.num, V.text, V.items]; done)
end Go.Sx
set_option maxRecDepth 100000
set_option maxHeartbeats 4000000
set_option linter.unusedSimpArgs false
set_option linter.unusedVariables false
namespace Go.Sx
open Go.Proofs Sp
open Sp.Ch Sp.Sy
theorem b2_lt {p : Nat} (hp : p < 32) : b2 p < 4294967296 := Nat.pow_lt_pow_right (a := 2) (by omega) hp
theorem cellsEs_len9 (H : V → Nat) (L : List (V × V)) : ∀ x ∈ cellsEs H L, x.length = 9 := by
  intro x hx
  obtain ⟨e, _, rfl⟩ := List.mem_map.1 hx
  simp [cellsE, cellsP]
theorem oneF_cellsEs (H : V → Nat) (L : List (V × V)) : oneF (cellsEs H L) := by
  intro x hx
  obtain ⟨l, hl, hx⟩ := List.mem_flatten.1 hx
  obtain ⟨e, _, rfl⟩ := List.mem_map.1 hl
  simp [cellsE, cellsP] at hx
  rcases hx with rfl | rfl | rfl | rfl | rfl | rfl | rfl | rfl | rfl <;> rfl
theorem get39 : P.funcs[39]? = some Tryd.f39 := by kernel_rfl
theorem ent39 : entersP P 39 = true := by kernel_rfl
theorem with_bot_in (H : V → Nat) (S : List (V × V)) (e : V × V) (a1 a2 ct : Int) (Ks : List (List FV)) (i : Nat) (hl : S.length ≤ 1000000) (hi : i < S.length) (hp : CallsF P G 37 [.ptr [.sc (.int .u32 a1), .sc (.int .u32 a2), .sl 9 (cellsEs H S), .sl 1 Ks, int ct] 0, encV e.1] (.tup [int (i : Int), bool true])) : CallsF P G 39 [.ptr [.sc (.int .u32 a1), .sc (.int .u32 a2), .sl 9 (cellsEs H S), .sl 1 Ks, int ct] 0, .agg (cellsE H e), int 7] (.ptr [.sc (.int .u32 a1), .sc (.int .u32 a2), .sl 9 ((cellsEs H S).set i (cellsE H e)), .sl 1 Ks, int (ct)] 0) := by
  refine sx_fn (hs := [.dec true, .call (.tup [int (i : Int), bool true]), .callO 51 9 (cellsEs H S), .dec true, .lfz [2, 1]]) (let z1 := Value.int IntKind.u32 a1; let z2 := Value.int IntKind.u32 a2; E true ∧ CallsF P G 37 [FV.ptr [FV.sc z1, FV.sc z2, FV.sl 9 (cellsEs H S), FV.sl 1 Ks, int ct] 0, encV (Prod.fst e)] (FV.tup [int (i : Int), bool true]) ∧ CallsO P G 47 [FV.sl 9 (cellsEs H S)] (51) (9) (cellsEs H S) ∧ E true ∧ ((0 : Int) ≤ (i : Int) ∧ i < List.length (cellsEs H S)) ∧ i < List.length (cellsEs H S) ∧ FV.ptr [FV.sc z1, FV.sc z2, FV.sl 9 (List.set (cellsEs H S) i (FV.sc (Value.int IntKind.u32 (↑(H (Prod.fst e)) : Int)) :: int (V.kind (Prod.fst e)) :: int (V.num (Prod.fst e)) :: str (V.text (Prod.fst e)) :: encI (V.items (Prod.fst e)) :: cellsP (Prod.snd e))), FV.sl 1 Ks, int ct] 0 = FV.ptr [FV.sc z1, FV.sc z2, FV.sl 9 (List.set (cellsEs H S) i (cellsE H e)), FV.sl 1 Ks, int ct] 0) get39 ent39 (by kernel_rfl) ?_
  refine ⟨rfl, ?_, ?_, rfl, ⟨?_, ?_⟩, ?_, ?_⟩
  all_goals first | exact hp | exact cloneE_ok _ (by rw [cellsEs_length]; exact hl) (oneF_cellsEs H S) (cellsEs_len9 H S) | rfl | (simp only [cellsEs_length]; omega) | omega
theorem with_bot_new (H : V → Nat) (S : List (V × V)) (e : V × V) (a1 a2 ct : Int) (Ks : List (List FV)) (i : Nat) (hl : S.length ≤ 1000000) (hct : 0 ≤ ct ∧ ct ≤ 1000000) (hi : i ≤ S.length) (hp : CallsF P G 37 [.ptr [.sc (.int .u32 a1), .sc (.int .u32 a2), .sl 9 (cellsEs H S), .sl 1 Ks, int ct] 0, encV e.1] (.tup [int (i : Int), bool false])) : CallsF P G 39 [.ptr [.sc (.int .u32 a1), .sc (.int .u32 a2), .sl 9 (cellsEs H S), .sl 1 Ks, int ct] 0, .agg (cellsE H e), int 7] (.ptr [.sc (.int .u32 a1), .sc (.int .u32 a2), .sl 9 (((cellsEs H S).take i ++ [cellsE H e] ++ (cellsEs H S).drop i)), .sl 1 Ks, int (ct + 1)] 0) := by
  refine sx_fn (hs := [.dec true, .call (.tup [int (i : Int), bool false]), .callO 51 9 (cellsEs H S), .dec false, .lfz [3], .callW ((cellsEs H S).take i ++ [cellsE H e] ++ (cellsEs H S).drop i) none, .lfz [4, 1]]) (let z1 := List.take i (cellsEs H S) ++ [cellsE H e] ++ List.drop i (cellsEs H S); let z2 := Value.int IntKind.u32 a1; let z3 := Value.int IntKind.u32 a2; E true ∧ CallsF P G 37 [FV.ptr [FV.sc z2, FV.sc z3, FV.sl 9 (cellsEs H S), FV.sl 1 Ks, int ct] 0, encV (Prod.fst e)] (FV.tup [int (i : Int), bool false]) ∧ CallsO P G 47 [FV.sl 9 (cellsEs H S)] (51) (9) (cellsEs H S) ∧ E false ∧ CallsW P G 50 (51) (9) (cellsEs H S) ([int (i : Int), FV.sl 9 [FV.sc (Value.int IntKind.u32 (↑(H (Prod.fst e)) : Int)) :: int (V.kind (Prod.fst e)) :: int (V.num (Prod.fst e)) :: str (V.text (Prod.fst e)) :: encI (V.items (Prod.fst e)) :: cellsP (Prod.snd e)]]) z1 (none) ∧ FV.ptr [FV.sc z2, FV.sc z3, FV.sl 9 z1, FV.sl 1 Ks, int (IntKind.wrap IntKind.i64 (ct + 1))] 0 = FV.ptr [FV.sc z2, FV.sc z3, FV.sl 9 z1, FV.sl 1 Ks, int (ct + 1)] 0) get39 ent39 (by kernel_rfl) ?_
  refine ⟨rfl, ?_, ?_, rfl, ?_, ?_⟩
  all_goals first | exact hp | exact cloneE_ok _ (by rw [cellsEs_length]; exact hl) (oneF_cellsEs H S) (cellsEs_len9 H S) | exact insert_okE rfl _ i _ (by rw [cellsEs_length]; exact hi) (by rw [cellsEs_length]; exact hl) (oneF_cellsEs H S) (oneF_cellsEs H [e]) | (rw [wrapS _ (by omega) (by omega)])
end Go.Sx

/-
  Proved: what some functions of the program answer, or a law of the evaluator that shows it, one theorem each; its conditions are the hypotheses that stand ahead of it.
-/
import Derived.Test.YtdgodofdnaligaaDoorX4
import Derived.KernelRfl
import Derived.Laws.IdiomCopy
import Derived.Laws.CopyRow
import Derived.Laws.AppendOwn
import Derived.Laws.OwnMore
import Derived.Deep.AppendSrc
import Derived.Lib.Overlaps
import Derived.Lib.AppendZerosOnto
import Derived.Shelf.Spec.SlicesInsertGrow
import Derived.Test.YtdgodofdnaligaaDoorProg
import Derived.ProofKit
import Derived.Maps.AppendAt
set_option maxRecDepth 100000
set_option maxHeartbeats 4000000
set_option linter.unusedSimpArgs false
set_option linter.unusedVariables false
namespace Go.Sx
open Go.Proofs Sp
def sgb (H : V → Nat) (d : Nat) (L : List (V × V)) : Nat := Sp.Ch.bits (fun q => (Sp.Ch.cls H d q L).length == 1) 32
def kdb (H : V → Nat) (d : Nat) (L : List (V × V)) : Nat := Sp.Ch.bits (fun q => decide (2 ≤ (Sp.Ch.cls H d q L).length)) 32
/-- A node of the members L; f = 7 less its depth. -/
def encC (H : V → Nat) : Nat → List (V × V) → FV
  | 0, L => .ptr [.sc (.int .u32 0), .sc (.int .u32 0), .sl 9 (cellsEs H (Sp.Ch.srtL cmpV L)), .sl 1 [], int (L.length : Int)] 0
  | f + 1, L => .ptr [.sc (.int .u32 (sgb H (6 - f) L : Int)), .sc (.int .u32 (kdb H (6 - f) L : Int)), .sl 9 (cellsEs H (Sp.Ch.sgl H (6 - f) L)), .sl 1 ((Sp.Ch.kdl H (6 - f) L).map fun c => [encC H f c]), int (L.length : Int)] 0
open Sp.Ch Sp.Sy
theorem sgl_perm (H : V → Nat) (d : Nat) {L M : List (V × V)} (h : L.Perm M) : sgl H d L = sgl H d M := by
  unfold sgl
  exact fm_congr fun q _ => one1_perm (cls_perm H d q h)
theorem sgb_perm (H : V → Nat) (d : Nat) {L M : List (V × V)} (h : L.Perm M) : sgb H d L = sgb H d M := bits_congr 32 fun q _ => by rw [(cls_perm H d q h).length_eq]
theorem kdb_perm (H : V → Nat) (d : Nat) {L M : List (V × V)} (h : L.Perm M) : kdb H d L = kdb H d M := bits_congr 32 fun q _ => by rw [(cls_perm H d q h).length_eq]
theorem sgb_lt (H : V → Nat) (d : Nat) (L : List (V × V)) : sgb H d L < 4294967296 := bits_lt _ 32
theorem kdb_lt (H : V → Nat) (d : Nat) (L : List (V × V)) : kdb H d L < 4294967296 := bits_lt _ 32
/-- champ.index: how many stand ahead of a place. -/
theorem index_sgl (H : V → Nat) (d p : Nat) (L : List (V × V)) (hp : p < 32) : CallsF P G 35 [.sc (.int .u32 (sgb H d L : Int)), .sc (.int .u32 (b2 p : Int))] (int (sgn H d p L : Nat)) := by
  have h := ones_run (sgb H d L % 2 ^ p) (Nat.lt_of_le_of_lt (Nat.mod_le _ _) (sgb_lt H d L))
  have e : pop (sgb H d L % 2 ^ p) 32 = sgn H d p L := by
    unfold sgb
    rw [bits_mod _ p (by omega), pop_bits _ p 32 (by omega), cnt_sgn]
  rw [e] at h
  exact index_run _ p _ (sgb_lt H d L) hp h
theorem index_kdl (H : V → Nat) (d p : Nat) (L : List (V × V)) (hp : p < 32) : CallsF P G 35 [.sc (.int .u32 (kdb H d L : Int)), .sc (.int .u32 (b2 p : Int))] (int (kdn H d p L : Nat)) := by
  have h := ones_run (kdb H d L % 2 ^ p) (Nat.lt_of_le_of_lt (Nat.mod_le _ _) (kdb_lt H d L))
  have e : pop (kdb H d L % 2 ^ p) 32 = kdn H d p L := by
    unfold kdb
    rw [bits_mod _ p (by omega), pop_bits _ p 32 (by omega), cnt_kdn]
  rw [e] at h
  exact index_run _ p _ (kdb_lt H d L) hp h
end Go.Sx
set_option linter.unusedVariables false
set_option linter.unusedSimpArgs false
namespace Go.Sx
open Go
variable {P : Program}
/-- A row and a slice in another block do not overlap. -/
theorem run_overlaps_own (w : World) (tS tR e : TypeId) (ht : P.underlying tS = some (.slice e)) (size : Nat) (hz : ∀ w, (Go.sizeOf e).run P w = .ok size w)
    (a b : Addr) (la ca lb cb : Nat) (hne : a.block ≠ b.block) (v : Value) (ha : w.cell? ⟨a.block, a.off, none⟩ = some v) (c : Array Value) (t : TypeId) (hb : w.heap[b.block]? = some (.cells c t (0, 0))) :
    (Extern.SlicesOverlaps.overlaps #[tS, tS] #[tR] #[.slice (some a) la ca, .slice (some b) lb cb]).run P w = .ok (.bool false) w := by
  have hnb : (a.block != b.block) = true := by simpa using hne
  have hnb' : (a.block == b.block) = false := by simpa using hne
  obtain ⟨ca', ta, fa, hA⟩ : ∃ ca' ta fa, w.heap[a.block]? = some (.cells ca' ta fa) := by
    unfold World.cell? at ha
    split at ha
    · rename_i c t f h; exact ⟨c, t, f, h⟩
    · cases ha
  have hsa : w.shape? a.block = some (ta, ca'.size) := by simp [World.shape?, hA]
  have hk : ca'.size ≠ 0 := by
    intro h0
    simp [World.cell?, hA] at ha
    obtain ⟨h1, _⟩ := Array.getElem?_eq_some_iff.1 ha
    omega
  have hsb : w.shape? b.block = some (t, c.size) := by simp [World.shape?, hb]
  have hfb : w.frozen? b = false := by simp [World.frozen?, hb]
  have hfb2 : w.frozen? { block := b.block, off := c.size } = false := by simp [World.frozen?, hb]
  change Sem.run P (α := Value) (do
    let some t := (#[tS, tS] : Array TypeId)[0]? | stuck "slices.overlaps: no parameter types"
    let .slice elem ← underlying t | stuck "slices.overlaps: slice type expected"
    let size ← sizeOf elem
    match (some a : Option Addr), (some b : Option Addr) with
    | some a, some b =>
      if la = 0 ∨ lb = 0 ∨ size = 0 then pure (Value.bool false)
      else if a.block != b.block && (← frozen a) && (← frozen b) then unsupported .addressObserved
      else do
        if a.block != b.block then do
          noView a; noView b
          if ← mayBeOne a b then return Value.bool ((← choose (.extern "sameAddr.stringBytes" 2)) == 1)
        pure (Value.bool (a.block == b.block && a.off < b.off + lb * size && b.off < a.off + la * size))
    | _, _ => pure (Value.bool false)) w = _
  by_cases h0 : la = 0 ∨ lb = 0 ∨ size = 0
  · simp [run_underlying ht, hz, h0]
  · obtain ⟨k, hk'⟩ := Nat.exists_eq_succ_of_ne_zero hk
    rw [hk'] at hsa
    simp [run_underlying ht, hz, h0, hnb, hnb', frozen, noView, viewAt, mayBeOne, stringish, shape, Sem.run, hsa, hsb, hfb, hfb2]
/-- 'copy' into a row, whatever the elements' size. -/
theorem run_copyRowK (w : World) (dT sT ty elem : TypeId) (sz g o dLen dCap : Nat) (a : Addr) (sLen sCap : Nat) (cur : Array Value) (t : TypeId) (cs : List Value)
    (hu : P.underlying dT = some (.slice elem)) (hs : (P.info? elem).map (·.size) = some sz)
    (hg : w.heap[g]? = some (.cells cur t (0, 0))) (hn : cs.length = Nat.min sLen dLen * sz)
    (hsrc : ∀ j v, cs[j]? = some v → w.cell? (a.add j) = some v) (hfit : o + cs.length ≤ cur.size) (h1 : ∀ v ∈ cs, v.oneCell' = true) :
    (Builtin.copy_ #[dT, sT] ty #[.slice (some ⟨g, o, none⟩) dLen dCap, .slice (some a) sLen sCap]).run P w =
      .ok (goInt (Nat.min sLen dLen)) (w.setRow g (cur.toList.take o ++ cs ++ cur.toList.drop (o + cs.length)).toArray) := by
  have hl := run_loadCells_list (P := P) w a cs hsrc
  have hst := run_storeCells_at P g o t cs 0 cur w hg (by simpa using hfit) h1
  cases hq : P.info? elem with
  | none => simp [hq] at hs
  | some i =>
    have hi : i.size = sz := by simpa [hq] using hs
    rw [hn] at hl
    simp [Builtin.copy_, run_underlying hu, Builtin.lenOf, Builtin.firstCells, sizeOf, typeInfo, hq, hi, hl, hst]
/-- 'append' of what a slice holds to the head of a row that has room. -/
theorem run_appendRowK (w : World) (t ty e : TypeId) (i : TypeInfo) (ht : P.underlying t = some (.slice e)) (hi : P.info? e = some i) (g sLen sCap n c : Nat) (a : Addr) (cur : Array Value) (et : TypeId) (news : List Value)
    (hg : w.heap[g]? = some (.cells cur et (0, 0))) (hl : news.length = n * i.size) (hsrc : ∀ j v, news[j]? = some v → w.cell? (a.add j) = some v) (h1 : ∀ v ∈ news, v.oneCell' = true) (hroom : sLen + n ≤ sCap) (hfit : sLen * i.size + news.length ≤ cur.size) :
    (Builtin.append_ #[t, t] ty #[.slice (some ⟨g, 0, none⟩) sLen sCap, .slice (some a) n c]).run P w =
      .ok (.slice (some ⟨g, 0, none⟩) (sLen + n) sCap) (w.setRow g (cur.toList.take (sLen * i.size) ++ news ++ cur.toList.drop (sLen * i.size + news.length)).toArray) := by
  have hlo := run_loadCells_list (P := P) w a news hsrc
  have hst := run_storeCells_at P g (sLen * i.size) et news 0 cur w hg (by simpa using hfit) h1
  rw [hl] at hlo
  have hadd : (⟨g, 0, none⟩ : Addr).add (sLen * i.size) = ⟨g, sLen * i.size, none⟩ := by rw [Addr.add_lit, Nat.zero_add]
  simp [Builtin.append_, run_underlying ht, Builtin.lenOf, Builtin.firstCells, sizeOf, typeInfo, hi, hroom, hlo, hadd, hst]
end Go.Sx
set_option linter.unusedVariables false
set_option linter.unusedSimpArgs false
set_option maxRecDepth 100000
set_option maxHeartbeats 4000000
namespace Go.Proofs
open Go.Shelf Go.RowKit Go.Lib Go.Sx
theorem ins_shift (g n c i vb vo vc : Nat) (et : TypeId) (cur : Array Value) (cs vs : List Value) (w : World) (hi : i < n) (hroom : n + 1 ≤ c) (hc63 : c ≤ 9223372036854775807) (hb : w.heap[g]? = some (.cells cur et (0, 0))) (hcur : cur.size = c * 9) (hcs : cur.toList.take (n * 9) = cs)
    (hvb : vb ≠ g) (hvl : vs.length = 9) (hvs : ∀ j v, vs[j]? = some v → w.cell? ⟨vb, vo + j, none⟩ = some v) (h1c : ∀ v ∈ cs, v.oneCell' = true) (h1v : ∀ v ∈ vs, v.oneCell' = true) :
    Calls Tryd.prog 50 #[.slice (some ⟨g, 0, none⟩) n c, .int .i64 i, .slice (some ⟨vb, vo, none⟩) 1 vc] w fun e w' =>
      e = .returned (.slice (some ⟨g, 0, none⟩) (n + 1) c) ∧ ∃ row : Array Value, w' = w.drew.setRow g row ∧ row.size = c * 9 ∧ row.toList.take ((n + 1) * 9) = cs.take (i * 9) ++ vs ++ cs.drop (i * 9) := by
  have hcl : cs.length = n * 9 := by rw [← hcs, List.length_take, Array.length_toList]; omega
  have hsz : (Tryd.prog.info? 51).map (·.size) = some 9 := by kernel_rfl
  have hz2 : ¬ ((i : Int) = (n : Int)) := by omega
  have hw1 : IntKind.i64.wrap ((i : Int) + (1 : Int)) = (i : Int) + (1 : Int) := by rw [IntKind.wrap_i64]; omega
  have hw2 : IntKind.i64.wrap ((n : Int) + (1 : Int)) = (n : Int) + (1 : Int) := by rw [IntKind.wrap_i64]; omega
  have hb1 : (0 : Int) ≤ (i : Int) + (1 : Int) := by omega
  have hin : i ≤ n := by omega
  have htn : ((i : Int) + (1 : Int)).toNat = i + 1 := by omega
  have hb2 : ¬ (c = i + 1) := by omega
  have hb3 : (i : Int) ≤ (n : Int) + (1 : Int) := by omega
  have hb4 : ¬ (c = i) := by omega
  have hv0 : ∃ v, w.cell? ⟨vb, vo, none⟩ = some v := by
    obtain ⟨v, hv⟩ : ∃ v, vs[0]? = some v := ⟨vs[0], List.getElem?_eq_getElem (by omega)⟩
    exact ⟨v, by simpa using hvs 0 v hv⟩
  obtain ⟨v0, hv0⟩ := hv0
  have hov : ∀ lb cb, (callFunc 62 #[.slice (some ⟨vb, vo, none⟩) 1 vc, .slice (some ⟨g, (i + 1) * 9, none⟩) lb cb]).run Tryd.prog w = .ok (.value (.bool false)) w := fun lb cb => by
    rw [run_callFunc_extern Tryd.func62 (by kernel_rfl) (by kernel_rfl) (by kernel_rfl) (e := Extern.SlicesOverlaps.overlaps #[58, 58] #[4]) (by kernel_rfl),
      run_overlaps_own w 58 4 51 (by kernel_rfl) 9 Tryd.sizeOf51 ⟨vb, vo, none⟩ ⟨g, (i + 1) * 9, none⟩ 1 vc lb cb hvb v0 hv0 cur et hb]
    rfl
  have mixed : Tryd.prog.follows .mixedOrders = true := by kernel_rfl
  have hcl' : cur.toList.length = c * 9 := by rw [Array.length_toList]; exact hcur
  have hat : ∀ (W : World), W.heap[g]? = some (.cells cur et (0, 0)) → ∀ j v, cs[j]? = some v → W.cell? ⟨g, j, none⟩ = some v := fun W hW j v hj => by
    rw [← hcs, List.getElem?_take] at hj
    split at hj
    · simp only [World.cell?, hW, Option.isSome_none, Bool.false_eq_true, if_false]
      rw [← Array.getElem?_toList]; exact hj
    · cases hj
  have hdl : (cs.drop (i * 9)).length = (n - i) * 9 := by rw [List.length_drop, hcl, Nat.sub_mul]
  obtain ⟨row1, hr1⟩ : ∃ row1 : Array Value, row1 = (cur.toList.take ((i + 1) * 9) ++ cs.drop (i * 9) ++ cur.toList.drop ((i + 1) * 9 + (cs.drop (i * 9)).length)).toArray := ⟨_, rfl⟩
  have hbd : w.drew.heap[g]? = some (.cells cur et (0, 0)) := hb
  have hcp1 : ∀ ty dc sc, (Builtin.copy_ #[58, 58] ty #[.slice (some ⟨g, (i + 1) * 9, none⟩) (n - i) dc, .slice (some ⟨g, i * 9, none⟩) (n + 1 - i) sc]).run Tryd.prog w.drew = .ok (goInt (Nat.min (n + 1 - i) (n - i))) (w.drew.setRow g row1) := fun ty dc sc => by
    rw [hr1]
    exact run_copyRowK w.drew 58 58 ty 51 9 g ((i + 1) * 9) (n - i) dc ⟨g, i * 9, none⟩ (n + 1 - i) sc cur et (cs.drop (i * 9)) (by kernel_rfl) hsz hbd (by rw [hdl]; congr 1; simp only [Nat.min_def]; split <;> omega)
      (fun j v hj => by rw [Addr.add_lit]; exact hat _ hbd _ v (by rwa [List.getElem?_drop] at hj)) (by rw [hdl, hcur]; omega) (fun v hv => h1c v (List.mem_of_mem_drop hv))
  have hr1l : row1.size = c * 9 := by
    simp only [hr1, List.size_toArray, List.length_append, List.length_take, List.length_drop, hcl', hcl]; omega
  have hb1' : ∀ W : World, W = w.drew.setRow g row1 → W.heap[g]? = some (.cells row1 et (0, 0)) := fun W hW => by rw [hW]; exact setRow_heap w.drew g cur row1 et _ hbd
  have hvs1 : ∀ j v, vs[j]? = some v → (w.drew.setRow g row1).cell? ⟨vb, vo + j, none⟩ = some v := fun j v hj => by
    rw [cell_setRow_other _ _ _ _ hvb]; exact hvs j v hj
  have hcp2 : ∀ ty dc, (Builtin.copy_ #[58, 58] ty #[.slice (some ⟨g, i * 9, none⟩) (n + 1 - i) dc, .slice (some ⟨vb, vo, none⟩) 1 vc]).run Tryd.prog (w.drew.setRow g row1) = .ok (goInt (Nat.min 1 (n + 1 - i))) ((w.drew.setRow g row1).setRow g (row1.toList.take (i * 9) ++ vs ++ row1.toList.drop (i * 9 + vs.length)).toArray) := fun ty dc =>
    run_copyRowK _ 58 58 ty 51 9 g (i * 9) (n + 1 - i) dc ⟨vb, vo, none⟩ 1 vc row1 et vs (by kernel_rfl) hsz (hb1' _ rfl) (by rw [hvl]; simp only [Nat.min_def]; split <;> omega)
      (fun j v hj => by rw [Addr.add_lit]; exact hvs1 j v hj) (by rw [hvl, hr1l]; omega) h1v
  have hfin : (row1.toList.take (i * 9) ++ vs ++ row1.toList.drop (i * 9 + vs.length)).take ((n + 1) * 9) = cs.take (i * 9) ++ vs ++ cs.drop (i * 9) := by
    have a1 : row1.toList.take (i * 9) = cs.take (i * 9) := by
      rw [hr1, List.append_assoc, List.take_append_of_le_length (by rw [List.length_take, hcl']; omega), List.take_take, ← hcs, List.take_take]
      congr 1; omega
    have a2 : row1.toList.drop (i * 9 + vs.length) = cs.drop (i * 9) ++ cur.toList.drop ((i + 1) * 9 + (cs.drop (i * 9)).length) := by
      rw [hr1, List.append_assoc, hvl, List.drop_append_of_le_length (by rw [List.length_take, hcl']; omega), List.drop_eq_nil_of_le (by rw [List.length_take, hcl']; omega), List.nil_append]
    rw [a1, a2, ← List.append_assoc, List.take_append_of_le_length (by simp only [List.length_append, List.length_take, List.length_drop, hcl, hvl]; omega), List.take_of_length_le (by simp only [List.length_append, List.length_take, List.length_drop, hcl, hvl]; omega)]
  clear hr1
  go_enter Tryd.func50, Tryd.ntmps50
  go_wp2_with (simp only [hov])
  go_region_law_o (refine step_copy_runI rfl _ _ 58 58 rfl _ _ (by simp [Act.eval, Act.put]) (by simp [Act.eval, Act.put]) (hcp1 _ _ _) ?_)
  go_wp2_with (at_builtin; refine wpList_copy_runI _ rfl _ _ 58 58 rfl _ _ rfl rfl (hcp2 _ _) ?_)
  go_ret
  refine ⟨rfl, _, setRow_setRow _ _ _ _, ?_, ?_⟩
  · simp only [List.size_toArray, List.length_append, List.length_take, List.length_drop, hvl, Array.length_toList, hr1l]; omega
  · have h := hfin
    rw [hvl] at h
    simpa only [List.append_assoc, List.toList_toArray] using h
end Go.Proofs
set_option linter.unusedVariables false
set_option linter.unusedSimpArgs false
set_option maxRecDepth 100000
set_option maxHeartbeats 4000000
namespace Go.Proofs
open Go.Shelf Go.RowKit Go.Lib Go.Sx
theorem ins_grow (g n c i vb vo vc : Nat) (et : TypeId) (cur : Array Value) (cs vs : List Value) (w : World) (hi : i < n) (hnc : n ≤ c) (hroom : c < n + 1) (hbig : n ≤ 1000000) (hb : w.heap[g]? = some (.cells cur et (0, 0))) (hcur : cur.size = c * 9) (hcs : cur.toList.take (n * 9) = cs)
    (hvb : vb ≠ g) (hvl : vs.length = 9) (hvs : ∀ j v, vs[j]? = some v → w.cell? ⟨vb, vo + j, none⟩ = some v) (h1c : ∀ v ∈ cs, v.oneCell' = true) (h1v : ∀ v ∈ vs, v.oneCell' = true) :
    Calls Tryd.prog 50 #[.slice (some ⟨g, 0, none⟩) n c, .int .i64 i, .slice (some ⟨vb, vo, none⟩) 1 vc] w fun e w' =>
      ∃ G : Nat, ∃ ROW row : Array Value, e = .returned (.slice (some ⟨w.heap.size, 0, none⟩) (n + 1) G) ∧ n + 1 ≤ G ∧ G ≤ maxLen ∧ w' = ((w.alloc (.cells ROW 51)).drew.drew).setRow w.heap.size row ∧ row.size = G * 9 ∧ row.toList.take ((n + 1) * 9) = cs.take (i * 9) ++ vs ++ cs.drop (i * 9) := by
  have hcl : cs.length = n * 9 := by rw [← hcs, List.length_take, Array.length_toList]; omega
  have hsz : (Tryd.prog.info? 51).map (·.size) = some 9 := by kernel_rfl
  obtain ⟨i0, hi0, hzs, hzb⟩ : ∃ i0, Tryd.prog.info? 51 = some i0 ∧ i0.size = 9 ∧ i0.bytes = 120 := by
    have h : (Tryd.prog.info? 51).map (fun i => (i.size, i.bytes)) = some (9, 120) := by kernel_rfl
    obtain ⟨i0, h1, h2⟩ := Option.map_eq_some_iff.1 h
    simp only [Prod.mk.injEq] at h2
    exact ⟨i0, h1, h2.1, h2.2⟩
  obtain ⟨z, hz0, hzc⟩ : ∃ z, i0.zero = some z ∧ z.cells.size = 9 := by
    have h : (Tryd.prog.info? 51).map (fun i => i.zero.map fun z => z.cells.size) = some (some 9) := by kernel_rfl
    rw [hi0] at h
    simp only [Option.map_some, Option.some.injEq] at h
    obtain ⟨z, h1, h2⟩ := Option.map_eq_some_iff.1 h
    exact ⟨z, h1, h2⟩
  have mixed : Tryd.prog.follows .mixedOrders = true := by kernel_rfl
  have hz2 : ¬ ((i : Int) = (n : Int)) := by omega
  have hz3 : (c : Int) < (n : Int) + (1 : Int) := by omega
  have hgw : g < w.heap.size := (Array.getElem?_eq_some_iff.1 hb).1
  have hvw : vb < w.heap.size := by
    have h := hvs 0 vs[0] (List.getElem?_eq_getElem (by omega))
    exact block_lt_of_cell h
  have hcl' : cur.toList.length = c * 9 := by rw [Array.length_toList]; exact hcur
  have hat : ∀ (W : World), W.heap[g]? = some (.cells cur et (0, 0)) → ∀ j v, cs[j]? = some v → W.cell? ⟨g, j, none⟩ = some v := fun W hW j v hj => by
    rw [← hcs, List.getElem?_take] at hj
    split at hj
    · simp only [World.cell?, hW, Option.isSome_none, Bool.false_eq_true, if_false]
      rw [← Array.getElem?_toList]; exact hj
    · cases hj
  have hkk : (n : Int) + (1 : Int) - (i : Int) = ((n + 1 - i : Nat) : Int) := by omega
  have hik : i + (n + 1 - i) = n + 1 := by omega
  have hold : (Builtin.firstCells i0.size i (.slice (some ⟨g, 0, none⟩) i c)).run Tryd.prog w.drew = .ok (cs.take (i * 9)).toArray w.drew := by
    rw [hzs]
    exact run_firstCells_some w.drew 9 i ⟨g, 0, none⟩ i c (cs.take (i * 9)) (by rw [List.length_take]; omega) (fun j v hj => by
      rw [Addr.add_lit, Nat.zero_add]
      rw [List.getElem?_take] at hj
      split at hj
      · exact hat _ hb j v hj
      · cases hj)
  have hrz : ∀ ty, (Builtin.append_ #[58, 3] ty #[.slice (some ⟨g, 0, none⟩) i c, .int .i64 ((n : Int) + (1 : Int) - (i : Int))]).run Tryd.prog w =
      .ok (.slice (some ⟨w.heap.size, 0, none⟩) (n + 1) (grownCap w (n + 1) c 51)) (w.drew.alloc (.cells ((cs.take (i * 9)).toArray ++ Builtin.zeroCells z.cells (n + 1 - i) ++ Builtin.zeroCells z.cells (grownCap w (n + 1) c 51 - (n + 1))) 51)) := fun ty => by
    have h := Lib.run_append_grow_zeros w 58 3 ty 51 i0 z .i64 .i64 (by kernel_rfl) (by kernel_rfl) hi0 hz0 (some ⟨g, 0, none⟩) i c (cs.take (i * 9)) hold (n + 1 - i) (by omega) (by omega) (by omega) (by omega) (by rw [hzb]; omega) (by rw [hzb, hik]; exact growslice_fits hroom (by omega))
    rw [hik] at h
    rw [hkk]
    exact h
  obtain ⟨G, hG⟩ : ∃ G, G = grownCap w (n + 1) c 51 := ⟨_, rfl⟩
  obtain ⟨ROW, hROW⟩ : ∃ ROW : Array Value, ROW = (cs.take (i * 9)).toArray ++ Builtin.zeroCells z.cells (n + 1 - i) ++ Builtin.zeroCells z.cells (G - (n + 1)) := ⟨_, rfl⟩
  rw [← hG] at hrz
  rw [← hROW] at hrz
  have hGn : n + 1 ≤ G := by rw [hG]; exact grownCap_ge w _ _ _
  have hGm : G ≤ maxLen := by
    rw [hG]; exact grownCap_le_maxLen w (n + 1) c 51 (by unfold maxLen; omega)
  have hG63 : G ≤ 9223372036854775807 := by unfold maxLen at hGm; omega
  have hRl : ROW.size = G * 9 := by
    rw [hROW]
    simp only [Array.size_append, List.size_toArray, List.length_take, size_zeroCells, hzc, hcl]
    omega
  have hRt : ROW.toList.take (i * 9) = cs.take (i * 9) := by
    rw [hROW]
    simp only [Array.toList_append, List.append_assoc, List.toList_toArray]
    rw [List.take_append_of_le_length (by rw [List.length_take]; omega), List.take_take, Nat.min_self]
  obtain ⟨N, hN⟩ : ∃ N, N = w.heap.size := ⟨_, rfl⟩
  obtain ⟨W1, hW1⟩ : ∃ W1, W1 = w.drew.alloc (.cells ROW 51) := ⟨_, rfl⟩
  have hb1 : W1.heap[w.heap.size]? = some (.cells ROW 51 (0, 0)) := by
    rw [hW1, show (w.drew.alloc (.cells ROW 51)).heap = w.heap.push (.cells ROW 51) from rfl, Array.getElem?_push_size]
  have hOc : ∀ j v, cs[j]? = some v → W1.cell? ⟨g, j, none⟩ = some v := fun j v h => by rw [hW1, World.cell?_alloc_past (w := w.drew) _ g j hgw]; exact hat _ hb j v h
  have hOv : ∀ j v, vs[j]? = some v → W1.cell? ⟨vb, vo + j, none⟩ = some v := fun j v h => by rw [hW1, World.cell?_alloc_past (w := w.drew) _ vb _ hvw]; exact hvs j v h
  obtain ⟨r1, hr1⟩ : ∃ r1 : Array Value, r1 = (ROW.toList.take (i * 9) ++ vs ++ ROW.toList.drop (i * 9 + vs.length)).toArray := ⟨_, rfl⟩
  have hRL : ROW.toList.length = G * 9 := by rw [Array.length_toList]; exact hRl
  have hr1l : r1.size = G * 9 := by
    simp only [hr1, List.size_toArray, List.length_append, List.length_take, List.length_drop, hRL, hvl]; omega
  have hcpA : ∀ ty dc, (Builtin.copy_ #[58, 58] ty #[.slice (some ⟨w.heap.size, i * 9, none⟩) (n + 1 - i) dc, .slice (some ⟨vb, vo, none⟩) 1 vc]).run Tryd.prog W1 = .ok (goInt (Nat.min 1 (n + 1 - i))) (W1.setRow w.heap.size r1) := fun ty dc => by
    rw [hr1]
    exact run_copyRowK W1 58 58 ty 51 9 w.heap.size (i * 9) (n + 1 - i) dc ⟨vb, vo, none⟩ 1 vc ROW 51 vs (by kernel_rfl) hsz hb1 (by rw [hvl]; simp only [Nat.min_def]; split <;> omega)
      (fun j v hj => by rw [Addr.add_lit]; exact hOv j v hj) (by rw [hvl, hRl]; omega) h1v
  have hdl : (cs.drop (i * 9)).length = (n - i) * 9 := by rw [List.length_drop, hcl, Nat.sub_mul]
  obtain ⟨r2, hr2⟩ : ∃ r2 : Array Value, r2 = (r1.toList.take ((i + 1) * 9) ++ cs.drop (i * 9) ++ r1.toList.drop ((i + 1) * 9 + (cs.drop (i * 9)).length)).toArray := ⟨_, rfl⟩
  have hr1L : r1.toList.length = G * 9 := by rw [Array.length_toList]; exact hr1l
  have hr2l : r2.size = G * 9 := by
    simp only [hr2, List.size_toArray, List.length_append, List.length_take, List.length_drop, hr1L, hcl]; omega
  have hgN : g ≠ w.heap.size := by omega
  have hcpB : ∀ ty dc sc, (Builtin.copy_ #[58, 58] ty #[.slice (some ⟨w.heap.size, (i + 1) * 9, none⟩) (n - i) dc, .slice (some ⟨g, i * 9, none⟩) (n - i) sc]).run Tryd.prog (W1.setRow w.heap.size r1).drew = .ok (goInt (Nat.min (n - i) (n - i))) ((W1.setRow w.heap.size r1).drew.setRow w.heap.size r2) := fun ty dc sc => by
    rw [hr2]
    exact run_copyRowK _ 58 58 ty 51 9 w.heap.size ((i + 1) * 9) (n - i) dc ⟨g, i * 9, none⟩ (n - i) sc r1 51 (cs.drop (i * 9)) (by kernel_rfl) hsz (setRow_heap W1 w.heap.size ROW r1 51 _ hb1) (by rw [hdl]; congr 1; simp only [Nat.min_def]; split <;> omega)
      (fun j v hj => by
        rw [Addr.add_lit]
        show (W1.setRow w.heap.size r1).cell? _ = some v
        rw [cell_setRow_other _ _ _ _ hgN]; exact hOc _ v (by rwa [List.getElem?_drop] at hj)) (by rw [hdl, hr1l]; omega) (fun v hv => h1c v (List.mem_of_mem_drop hv))
  have hfin : r2.toList.take ((n + 1) * 9) = cs.take (i * 9) ++ vs ++ cs.drop (i * 9) := by
    have a1 : r1.toList.take ((i + 1) * 9) = cs.take (i * 9) ++ vs := by
      rw [hr1, hRt]
      simp only [List.toList_toArray]
      rw [List.take_append_of_le_length (by simp only [List.length_append, List.length_take, hcl, hvl]; omega), List.take_of_length_le (by simp only [List.length_append, List.length_take, hcl, hvl]; omega)]
    rw [hr2, a1]
    simp only [List.toList_toArray]
    rw [List.take_append_of_le_length (by simp only [List.length_append, List.length_take, List.length_drop, hcl, hvl]; omega), List.take_of_length_le (by simp only [List.length_append, List.length_take, List.length_drop, hcl, hvl]; omega)]
  rw [← hW1] at hrz
  have hend : (W1.setRow w.heap.size r1).drew.setRow w.heap.size r2 = ((w.alloc (.cells ROW 51)).drew.drew).setRow w.heap.size r2 := by
    rw [hW1]; exact setRow_setRow ((w.alloc (.cells ROW 51)).drew.drew) w.heap.size r1 r2
  have hGi : ¬ (G = i) := by omega
  have hGim : ¬ (G = i + 1) := by omega
  have hci : ¬ (c = i) := by omega
  have hw1 : IntKind.i64.wrap ((i : Int) + (1 : Int)) = (i : Int) + (1 : Int) := by rw [IntKind.wrap_i64]; omega
  have hb1' : (0 : Int) ≤ (i : Int) + (1 : Int) := by omega
  have hin : i ≤ n := by omega
  have htn : ((i : Int) + (1 : Int)).toNat = i + 1 := by omega
  have hb3 : (i : Int) ≤ (n : Int) := by omega
  clear hkk hik hold hROW hG hRl hr1 hr2 hRt hW1 hN
  go_enter Tryd.func50, Tryd.ntmps50
  go_wp2_with (first
    | (at_builtin; refine Lib.wpList_append_run _ rfl _ _ _ _ rfl _ _ rfl rfl _ _ (hrz _) ?_)
    | (at_builtin; refine wpList_copy_runI _ rfl _ _ 58 58 rfl _ _ rfl rfl (hcpA _ _) ?_))
  go_region_law_o (refine step_copy_runI rfl _ _ 58 58 rfl _ _ (by simp [Act.eval, Act.put]) (by simp [Act.eval, Act.put]) (hcpB _ _ _) ?_)
  go_wp2
  go_ret
  first | exact ⟨G, ROW, r2, rfl, hGn, hGm, rfl, hr2l, hfin⟩ | exact ⟨G, ROW, r2, rfl, hGn, hGm, hend, hr2l, hfin⟩
end Go.Proofs
set_option linter.unusedVariables false
set_option linter.unusedSimpArgs false
set_option maxRecDepth 100000
set_option maxHeartbeats 4000000
namespace Go.Proofs
open Go.Shelf Go.RowKit Go.Lib Go.Sx
theorem infoE : ∃ i0 z, Tryd.prog.info? 51 = some i0 ∧ i0.size = 9 ∧ i0.bytes = 120 ∧ i0.zero = some z ∧ z.cells.size = 9 := by
  have h : (Tryd.prog.info? 51).map (fun i => (i.size, i.bytes)) = some (9, 120) := by kernel_rfl
  obtain ⟨i0, h1, h2⟩ := Option.map_eq_some_iff.1 h
  simp only [Prod.mk.injEq] at h2
  have h3 : (Tryd.prog.info? 51).map (fun i => i.zero.map fun z => z.cells.size) = some (some 9) := by kernel_rfl
  rw [h1] at h3
  simp only [Option.map_some, Option.some.injEq] at h3
  obtain ⟨z, h4, h5⟩ := Option.map_eq_some_iff.1 h3
  exact ⟨i0, z, h1, h2.1, h2.2, h4, h5⟩
theorem ins_end (n vb vo vc : Nat) (v : Value) (xs vs : List Value) (w : World) (hn : n ≤ 1000000) (hown : w.ownsRow 0 51 9 v n xs) (hvl : vs.length = 9) (hvs : ∀ j u, vs[j]? = some u → w.cell? ⟨vb, vo + j, none⟩ = some u) (h1v : ∀ u ∈ vs, u.oneCell' = true) :
    Calls Tryd.prog 50 #[v, .int .i64 n, .slice (some ⟨vb, vo, none⟩) 1 vc] w fun e w' =>
      ∃ v', e = .returned v' ∧ w'.ownsRow 0 51 9 v' (n + 1) (xs ++ vs) ∧ w.grownBy w' v.ownBlock ∧ (v'.ownBlock = v.ownBlock ∨ v'.ownBlock = some w.heap.size) := by
  obtain ⟨i0, z, hi0, hzs, hzb, hz0, hzc⟩ := infoE
  obtain ⟨v', w', hr, h1, h2, h3, h4⟩ := run_append_own_at (P := Tryd.prog) w 0 58 58 51 i0 z 9 120 (by kernel_rfl) hi0 hz0 hzs hzb hzc (by omega) v n xs hown ⟨vb, vo, none⟩ 1 vc vs hvl (fun j u hj => by rw [Addr.add_lit]; exact hvs j u hj) h1v (by unfold maxLen; omega) (by omega) (Nat.zero_le _)
  rcases hown.2 with ⟨rfl, rfl⟩ | ⟨g, cap, cur, rfl, hbg, hg, hnc, hcm, hcs, htake⟩
  · go_enter Tryd.func50, Tryd.ntmps50
    go_wp2_with (at_builtin; refine Lib.wpList_append_run _ rfl _ _ _ _ rfl _ _ rfl rfl _ _ hr ?_)
    go_ret
    exact ⟨v', rfl, h1, h2, h4⟩
  · have hb4 : (n : Int) ≤ (n : Int) := Int.le_refl _
    go_enter Tryd.func50, Tryd.ntmps50
    go_wp2_with (at_builtin; refine Lib.wpList_append_run _ rfl _ _ _ _ rfl _ _ rfl rfl _ _ hr ?_)
    all_goals (go_ret; exact ⟨v', rfl, h1, h2, h4⟩)
end Go.Proofs

/-
  Proved: what some functions of the program answer, or a law of the evaluator that shows it, one theorem each; its conditions are the hypotheses that stand ahead of it.
-/
import Derived.Test.YtdgodofdnaligaaDoorPSv
import Derived.Test.YtdgodofdnaligaaDoorPSt
import Derived.KernelRfl
import Derived.Laws.IdiomCopy
import Derived.Laws.CopyRow
import Derived.Laws.AppendOwn
import Derived.Laws.OwnMore
import Derived.Deep.AppendSrc
import Derived.Lib.Overlaps
import Derived.Lib.AppendZerosOnto
import Derived.Shelf.Spec.SlicesInsertGrow
import Derived.Test.YtdgodofdnaligaaDoorProg
import Derived.ProofKit
set_option maxRecDepth 100000
set_option maxHeartbeats 4000000
set_option linter.unusedSimpArgs false
set_option linter.unusedVariables false
namespace Go.Sx
open Go.Proofs Sp
theorem get37 : P.funcs[37]? = some Tryd.f37 := by kernel_rfl
theorem ent37 : entersP P 37 = true := by kernel_rfl
theorem plc_run (H : V → Nat) (L : List (V × V)) (k : V) (a1 a2 : Int) (a4 a5 : FV) (i : Int) (b : Bool) (h : CallsF P G 55 [.sl 9 (cellsEs H L), encV k, .fn 56 [] []] (.tup [int i, bool b])) : CallsF P G 37 [.ptr [.sc (.int .u32 a1), .sc (.int .u32 a2), .sl 9 (cellsEs H L), a4, a5] 0, encV k] (.tup [int i, bool b]) := by
  refine sx_fn (hs := [.nat 10, .call (.tup [int i, bool b])]) ((E (true)) ∧ (CallsF P G 55 [FV.sl 9 (cellsEs H L), encV k, FV.fn 56 [] []] (FV.tup [int i, bool b])) ∧ E (FV.tup [int i, bool b])) get37 ent37 (by kernel_rfl) ?_
  refine ⟨rfl, ⟨?_, rfl⟩⟩
  all_goals exact h
open Sp.Ch Sp.Sy
theorem rising_sd {c : V → V → Int} (h : Line c (fun _ => True)) {L : List (V × V)} (hR : Rising c L) : Sd (fun p q : V × V => c p.1 q.1) L := by
  refine List.Pairwise.imp ?_ (show L.Pairwise (fun p q : V × V => c p.1 q.1 < 0) from hR)
  intro x y hxy
  have := h.turn x.1 y.1 trivial trivial; show 0 ≤ c y.1 x.1; omega
/-- What a search by halves finds in a rising list. -/
theorem bs_ahead {c : V → V → Int} (h : Line c (fun _ => True)) (k : V) {L : List (V × V)} (hR : Rising c L) (i : Nat) (hi : i ≤ L.length) (h1 : 0 < i → c (L.getD (i - 1) default).1 k < 0) (h2 : i < L.length → ¬ c (L.getD i default).1 k < 0) : i = aheadN c k L := by
  have hP := line_pre h
  have sd := rising_sd h hR
  have e := ahead_len (c := c) (k := k) (a := L.take i) (b := L.drop i) (fun q hq => ?_) (fun q hq => ?_)
  · rw [List.take_append_drop, List.length_take, Nat.min_eq_left hi] at e; exact e.symm
  · have p1 : 0 < i := by
      rcases Nat.eq_zero_or_pos i with rfl | h
      · simp at hq
      · exact h
    have h3 : 0 ≤ c (L.getD (i - 1) default).1 q.1 := sd_take hP sd (i - 1) (by omega) q (by rw [show i - 1 + 1 = i by omega]; exact hq)
    have h4 := h1 p1
    have t1 := h.turn (L.getD (i - 1) default).1 q.1 trivial trivial
    rcases Int.lt_or_le (c q.1 k) 0 with h5 | h5
    · exact h5
    · have t2 := h.turn q.1 k trivial trivial
      have t3 := h.turn (L.getD (i - 1) default).1 k trivial trivial
      have := h.le_trans k q.1 (L.getD (i - 1) default).1 trivial trivial trivial (by omega) (by omega)
      omega
  · have p2 : i < L.length := by
      rcases Nat.lt_or_ge i L.length with h | h
      · exact h
      · rw [List.drop_eq_nil_of_le h] at hq; simp at hq
    have h3 : 0 ≤ c q.1 (L.getD i default).1 := sd_drop hP sd i p2 q hq
    have h4 := h2 p2
    have t1 := h.turn (L.getD i default).1 q.1 trivial trivial
    have t2 := h.turn q.1 k trivial trivial
    have t3 := h.turn (L.getD i default).1 k trivial trivial
    rcases Int.lt_or_le (c q.1 k) 0 with h5 | h5
    · have := h.le_trans k (L.getD i default).1 q.1 trivial trivial trivial (by omega) (by omega)
      omega
    · exact h5
/-- Is a key there? -/
def thereK (k : V) (L : List (V × V)) : Bool := L.any (sameK k)
theorem there_at {k : V} {L : List (V × V)} (hR : Rising cmpV L) (i : Nat) (hi : i ≤ L.length) (h1 : 0 < i → cmpV (L.getD (i - 1) default).1 k < 0) (h2 : i < L.length → ¬ cmpV (L.getD i default).1 k < 0) : thereK k L = (decide (i < L.length) && (cmpV (L.getD i default).1 k == 0)) := by
  obtain ⟨a, m, b, e, e1, e2, l1, l2, l3⟩ := split_at cmpV_line k L hR
  have ei := bs_ahead cmpV_line k hR i hi h1 h2
  rw [← ei] at e1
  have hla : a.length = i := by rw [← e1, List.length_take, Nat.min_eq_left hi]
  have hb' : ∀ q, q ∈ b → cmpV q.1 k ≠ 0 := fun q hq => by have := l3 q hq; have := cmpV_line.turn q.1 k trivial trivial; omega
  cases m with
  | nil =>
    have h3 : thereK k L = false := by
      unfold thereK; rw [e, List.any_eq_false]
      intro q hq
      simp only [List.append_nil, List.mem_append] at hq
      rcases hq with hq | hq
      · have := l1 q hq; simp [sameK]; omega
      · have := hb' q hq; simp [sameK, this]
    rw [h3]
    cases b with
    | nil => have : L.length = i := by rw [e]; simp [hla]
             simp [this]
    | cons q b =>
      have hg : L.getD i default = q := by rw [e, List.append_nil]; exact getD_mid _ _ _ _ hla.symm
      have := hb' q (by simp)
      rw [hg]; simp [this]
  | cons q m =>
    have hg : L.getD i default = q := by rw [e, List.append_assoc]; exact getD_mid _ _ _ _ hla.symm
    have hq := l2 q (by simp)
    have hlt : i < L.length := by rw [e]; simp [hla]
    have h3 : thereK k L = true := by
      unfold thereK; rw [e, List.any_eq_true]
      exact ⟨q, by simp, by simp [sameK, hq]⟩
    rw [h3, hg]; simp [hlt, hq]
theorem plc_ok (H : V → Nat) (L : List (V × V)) (k : V) (a1 a2 : Int) (a4 a5 : FV) (hl : L.length ≤ 1000000) (hf : ∀ q, q ∈ L → Fine q.1) (hR : Rising cmpV L) :
    CallsF P G 37 [.ptr [.sc (.int .u32 a1), .sc (.int .u32 a2), .sl 9 (cellsEs H L), a4, a5] 0, encV k] (.tup [int (aheadN cmpV k L : Nat), bool (thereK k L)]) := by
  refine plc_run H L k a1 a2 a4 a5 _ _ ?_
  obtain ⟨N, b1, b2, b3, b4, b5⟩ := bs_ends (fun h => decide (cmpV (L.getD h default).1 k < 0)) 0 L.length (Nat.zero_le _)
  have bst := bs_step (fun h => decide (cmpV (L.getD h default).1 k < 0)) 0 L.length
  have hA0 : (bs (fun h => decide (cmpV (L.getD h default).1 k < 0)) 0 L.length 0).1 = 0 := rfl
  have hB0 : (bs (fun h => decide (cmpV (L.getD h default).1 k < 0)) 0 L.length 0).2 = L.length := rfl
  generalize bs (fun h => decide (cmpV (L.getD h default).1 k < 0)) 0 L.length = AB at *
  have h1 : 0 < (AB N).1 → cmpV (L.getD ((AB N).1 - 1) default).1 k < 0 := fun h => of_decide_eq_true (b4 h)
  have h2 : (AB N).1 < L.length → ¬ cmpV (L.getD (AB N).1 default).1 k < 0 := fun h => of_decide_eq_false (b5 h)
  have tN := b3 N (Nat.le_refl _)
  have e1 := bs_ahead cmpV_line k hR (AB N).1 (by omega) h1 h2
  have e2 := there_at hR (AB N).1 (by omega) h1 h2
  rw [← e1, e2]
  have hc : ∀ i, i < N → CallsF P G 56 [.agg (cellsE H (L.getD (((AB i).1 + (AB i).2) / 2) default)), encV k] (int (cmpV (L.getD (((AB i).1 + (AB i).2) / 2) default).1 k)) := fun i hi => by
    have q1 := b1 i hi; have q2 := b3 i (by omega)
    exact plc1_ok H _ k (hf _ (getD_mem (by omega)))
  have hs : ∀ i, i < N → (cmpV (L.getD (((AB i).1 + (AB i).2) / 2) default).1 k < 0 → (AB (i + 1)).1 = ((AB i).1 + (AB i).2) / 2 + 1 ∧ (AB (i + 1)).2 = (AB i).2) ∧ (¬ cmpV (L.getD (((AB i).1 + (AB i).2) / 2) default).1 k < 0 → (AB (i + 1)).1 = (AB i).1 ∧ (AB (i + 1)).2 = ((AB i).1 + (AB i).2) / 2) := fun i hi => ⟨fun h => (bst i).1 (decide_eq_true h), fun h => (bst i).2 (decide_eq_false h)⟩
  by_cases hlt : (AB N).1 < L.length
  · have h := bsf_in H L k 56 N (fun i => (AB i).1) (fun i => (AB i).2) _ _ hl hA0 hB0 (fun i hi => (b3 i hi).2) b1 (by rw [b2]; omega) hc hs hlt (plc1_ok H _ k (hf _ (getD_mem hlt)))
    simpa [hlt] using h
  · have h := bsf_end H L k 56 N (fun i => (AB i).1) (fun i => (AB i).2) _ hl hA0 hB0 (fun i hi => (b3 i hi).2) b1 (by rw [b2]; omega) hc hs (show (AB N).1 = L.length by omega)
    simpa [hlt] using h
end Go.Sx
set_option maxRecDepth 100000
set_option maxHeartbeats 4000000
set_option linter.unusedSimpArgs false
set_option linter.unusedVariables false
namespace Go.Sx
open Go.Proofs Sp
def sgb (H : V → Nat) (d : Nat) (L : List (V × V)) : Nat := Sp.Ch.bits (fun q => (Sp.Ch.cls H d q L).length == 1) 32
def kdb (H : V → Nat) (d : Nat) (L : List (V × V)) : Nat := Sp.Ch.bits (fun q => decide (2 ≤ (Sp.Ch.cls H d q L).length)) 32
/-- A node of the members L; f = 7 less its depth. -/
def encC (H : V → Nat) : Nat → List (V × V) → FV
  | 0, L => .ptr [.sc (.int .u32 0), .sc (.int .u32 0), .sl 9 (cellsEs H (Sp.Ch.srtL cmpV L)), .sl 1 [], int (L.length : Int)] 0
  | f + 1, L => .ptr [.sc (.int .u32 (sgb H (6 - f) L : Int)), .sc (.int .u32 (kdb H (6 - f) L : Int)), .sl 9 (cellsEs H (Sp.Ch.sgl H (6 - f) L)), .sl 1 ((Sp.Ch.kdl H (6 - f) L).map fun c => [encC H f c]), int (L.length : Int)] 0
open Sp.Ch Sp.Sy
theorem sgb_lt (H : V → Nat) (d : Nat) (L : List (V × V)) : sgb H d L < 4294967296 := bits_lt _ 32
theorem kdb_lt (H : V → Nat) (d : Nat) (L : List (V × V)) : kdb H d L < 4294967296 := bits_lt _ 32
/-- champ.index: how many stand ahead of a place. -/
theorem index_sgl (H : V → Nat) (d p : Nat) (L : List (V × V)) (hp : p < 32) : CallsF P G 35 [.sc (.int .u32 (sgb H d L : Int)), .sc (.int .u32 (b2 p : Int))] (int (sgn H d p L : Nat)) := by
  have h := ones_run (sgb H d L % 2 ^ p) (Nat.lt_of_le_of_lt (Nat.mod_le _ _) (sgb_lt H d L))
  have e : pop (sgb H d L % 2 ^ p) 32 = sgn H d p L := by
    unfold sgb
    rw [bits_mod _ p (by omega), pop_bits _ p 32 (by omega), cnt_sgn]
  rw [e] at h
  exact index_run _ p _ (sgb_lt H d L) hp h
theorem index_kdl (H : V → Nat) (d p : Nat) (L : List (V × V)) (hp : p < 32) : CallsF P G 35 [.sc (.int .u32 (kdb H d L : Int)), .sc (.int .u32 (b2 p : Int))] (int (kdn H d p L : Nat)) := by
  have h := ones_run (kdb H d L % 2 ^ p) (Nat.lt_of_le_of_lt (Nat.mod_le _ _) (kdb_lt H d L))
  have e : pop (kdb H d L % 2 ^ p) 32 = kdn H d p L := by
    unfold kdb
    rw [bits_mod _ p (by omega), pop_bits _ p 32 (by omega), cnt_kdn]
  rw [e] at h
  exact index_run _ p _ (kdb_lt H d L) hp h
end Go.Sx
set_option linter.unusedVariables false
set_option linter.unusedSimpArgs false
namespace Go.Sx
open Go
variable {P : Program}
/-- A row and a slice in another block do not overlap. -/
theorem run_overlaps_own (w : World) (tS tR e : TypeId) (ht : P.underlying tS = some (.slice e)) (size : Nat) (hz : ∀ w, (Go.sizeOf e).run P w = .ok size w)
    (a b : Addr) (la ca lb cb : Nat) (hne : a.block ≠ b.block) (v : Value) (ha : w.cell? ⟨a.block, a.off, none⟩ = some v) (c : Array Value) (t : TypeId) (hb : w.heap[b.block]? = some (.cells c t (0, 0))) :
    (Extern.SlicesOverlaps.overlaps #[tS, tS] #[tR] #[.slice (some a) la ca, .slice (some b) lb cb]).run P w = .ok (.bool false) w := by
  have hnb : (a.block != b.block) = true := by simpa using hne
  have hnb' : (a.block == b.block) = false := by simpa using hne
  obtain ⟨ca', ta, fa, hA⟩ : ∃ ca' ta fa, w.heap[a.block]? = some (.cells ca' ta fa) := by
    unfold World.cell? at ha
    split at ha
    · rename_i c t f h; exact ⟨c, t, f, h⟩
    · cases ha
  have hsa : w.shape? a.block = some (ta, ca'.size) := by simp [World.shape?, hA]
  have hk : ca'.size ≠ 0 := by
    intro h0
    simp [World.cell?, hA] at ha
    obtain ⟨h1, _⟩ := Array.getElem?_eq_some_iff.1 ha
    omega
  have hsb : w.shape? b.block = some (t, c.size) := by simp [World.shape?, hb]
  have hfb : w.frozen? b = false := by simp [World.frozen?, hb]
  have hfb2 : w.frozen? { block := b.block, off := c.size } = false := by simp [World.frozen?, hb]
  change Sem.run P (α := Value) (do
    let some t := (#[tS, tS] : Array TypeId)[0]? | stuck "slices.overlaps: no parameter types"
    let .slice elem ← underlying t | stuck "slices.overlaps: slice type expected"
    let size ← sizeOf elem
    match (some a : Option Addr), (some b : Option Addr) with
    | some a, some b =>
      if la = 0 ∨ lb = 0 ∨ size = 0 then pure (Value.bool false)
      else if a.block != b.block && (← frozen a) && (← frozen b) then unsupported .addressObserved
      else do
        if a.block != b.block then do
          noView a; noView b
          if ← mayBeOne a b then return Value.bool ((← choose (.extern "sameAddr.stringBytes" 2)) == 1)
        pure (Value.bool (a.block == b.block && a.off < b.off + lb * size && b.off < a.off + la * size))
    | _, _ => pure (Value.bool false)) w = _
  by_cases h0 : la = 0 ∨ lb = 0 ∨ size = 0
  · simp [run_underlying ht, hz, h0]
  · obtain ⟨k, hk'⟩ := Nat.exists_eq_succ_of_ne_zero hk
    rw [hk'] at hsa
    simp [run_underlying ht, hz, h0, hnb, hnb', frozen, noView, viewAt, mayBeOne, stringish, shape, Sem.run, hsa, hsb, hfb, hfb2]
/-- 'copy' into a row, whatever the elements' size. -/
theorem run_copyRowK (w : World) (dT sT ty elem : TypeId) (sz g o dLen dCap : Nat) (a : Addr) (sLen sCap : Nat) (cur : Array Value) (t : TypeId) (cs : List Value)
    (hu : P.underlying dT = some (.slice elem)) (hs : (P.info? elem).map (·.size) = some sz)
    (hg : w.heap[g]? = some (.cells cur t (0, 0))) (hn : cs.length = Nat.min sLen dLen * sz)
    (hsrc : ∀ j v, cs[j]? = some v → w.cell? (a.add j) = some v) (hfit : o + cs.length ≤ cur.size) (h1 : ∀ v ∈ cs, v.oneCell' = true) :
    (Builtin.copy_ #[dT, sT] ty #[.slice (some ⟨g, o, none⟩) dLen dCap, .slice (some a) sLen sCap]).run P w =
      .ok (goInt (Nat.min sLen dLen)) (w.setRow g (cur.toList.take o ++ cs ++ cur.toList.drop (o + cs.length)).toArray) := by
  have hl := run_loadCells_list (P := P) w a cs hsrc
  have hst := run_storeCells_at P g o t cs 0 cur w hg (by simpa using hfit) h1
  cases hq : P.info? elem with
  | none => simp [hq] at hs
  | some i =>
    have hi : i.size = sz := by simpa [hq] using hs
    rw [hn] at hl
    simp [Builtin.copy_, run_underlying hu, Builtin.lenOf, Builtin.firstCells, sizeOf, typeInfo, hq, hi, hl, hst]
/-- 'append' of what a slice holds to the head of a row that has room. -/
theorem run_appendRowK (w : World) (t ty e : TypeId) (i : TypeInfo) (ht : P.underlying t = some (.slice e)) (hi : P.info? e = some i) (g sLen sCap n c : Nat) (a : Addr) (cur : Array Value) (et : TypeId) (news : List Value)
    (hg : w.heap[g]? = some (.cells cur et (0, 0))) (hl : news.length = n * i.size) (hsrc : ∀ j v, news[j]? = some v → w.cell? (a.add j) = some v) (h1 : ∀ v ∈ news, v.oneCell' = true) (hroom : sLen + n ≤ sCap) (hfit : sLen * i.size + news.length ≤ cur.size) :
    (Builtin.append_ #[t, t] ty #[.slice (some ⟨g, 0, none⟩) sLen sCap, .slice (some a) n c]).run P w =
      .ok (.slice (some ⟨g, 0, none⟩) (sLen + n) sCap) (w.setRow g (cur.toList.take (sLen * i.size) ++ news ++ cur.toList.drop (sLen * i.size + news.length)).toArray) := by
  have hlo := run_loadCells_list (P := P) w a news hsrc
  have hst := run_storeCells_at P g (sLen * i.size) et news 0 cur w hg (by simpa using hfit) h1
  rw [hl] at hlo
  have hadd : (⟨g, 0, none⟩ : Addr).add (sLen * i.size) = ⟨g, sLen * i.size, none⟩ := by rw [Addr.add_lit, Nat.zero_add]
  simp [Builtin.append_, run_underlying ht, Builtin.lenOf, Builtin.firstCells, sizeOf, typeInfo, hi, hroom, hlo, hadd, hst]
end Go.Sx
set_option linter.unusedVariables false
set_option linter.unusedSimpArgs false
set_option maxRecDepth 100000
set_option maxHeartbeats 4000000
namespace Go.Proofs
open Go.Shelf Go.RowKit Go.Lib Go.Sx
theorem ins_shift (g n c i vb vo vc : Nat) (et : TypeId) (cur : Array Value) (cs vs : List Value) (w : World) (hi : i < n) (hroom : n + 1 ≤ c) (hc63 : c ≤ 9223372036854775807) (hb : w.heap[g]? = some (.cells cur et (0, 0))) (hcur : cur.size = c * 9) (hcs : cur.toList.take (n * 9) = cs)
    (hvb : vb ≠ g) (hvl : vs.length = 9) (hvs : ∀ j v, vs[j]? = some v → w.cell? ⟨vb, vo + j, none⟩ = some v) (h1c : ∀ v ∈ cs, v.oneCell' = true) (h1v : ∀ v ∈ vs, v.oneCell' = true) :
    Calls Tryd.prog 50 #[.slice (some ⟨g, 0, none⟩) n c, .int .i64 i, .slice (some ⟨vb, vo, none⟩) 1 vc] w fun e w' =>
      e = .returned (.slice (some ⟨g, 0, none⟩) (n + 1) c) ∧ ∃ row : Array Value, w' = w.drew.setRow g row ∧ row.size = c * 9 ∧ row.toList.take ((n + 1) * 9) = cs.take (i * 9) ++ vs ++ cs.drop (i * 9) := by
  have hcl : cs.length = n * 9 := by rw [← hcs, List.length_take, Array.length_toList]; omega
  have hsz : (Tryd.prog.info? 51).map (·.size) = some 9 := by kernel_rfl
  have hz2 : ¬ ((i : Int) = (n : Int)) := by omega
  have hw1 : IntKind.i64.wrap ((i : Int) + (1 : Int)) = (i : Int) + (1 : Int) := by rw [IntKind.wrap_i64]; omega
  have hw2 : IntKind.i64.wrap ((n : Int) + (1 : Int)) = (n : Int) + (1 : Int) := by rw [IntKind.wrap_i64]; omega
  have hb1 : (0 : Int) ≤ (i : Int) + (1 : Int) := by omega
  have hin : i ≤ n := by omega
  have htn : ((i : Int) + (1 : Int)).toNat = i + 1 := by omega
  have hb2 : ¬ (c = i + 1) := by omega
  have hb3 : (i : Int) ≤ (n : Int) + (1 : Int) := by omega
  have hb4 : ¬ (c = i) := by omega
  have hv0 : ∃ v, w.cell? ⟨vb, vo, none⟩ = some v := by
    obtain ⟨v, hv⟩ : ∃ v, vs[0]? = some v := ⟨vs[0], List.getElem?_eq_getElem (by omega)⟩
    exact ⟨v, by simpa using hvs 0 v hv⟩
  obtain ⟨v0, hv0⟩ := hv0
  have hov : ∀ lb cb, (callFunc 62 #[.slice (some ⟨vb, vo, none⟩) 1 vc, .slice (some ⟨g, (i + 1) * 9, none⟩) lb cb]).run Tryd.prog w = .ok (.value (.bool false)) w := fun lb cb => by
    rw [run_callFunc_extern Tryd.func62 (by kernel_rfl) (by kernel_rfl) (by kernel_rfl) (e := Extern.SlicesOverlaps.overlaps #[58, 58] #[4]) (by kernel_rfl),
      run_overlaps_own w 58 4 51 (by kernel_rfl) 9 Tryd.sizeOf51 ⟨vb, vo, none⟩ ⟨g, (i + 1) * 9, none⟩ 1 vc lb cb hvb v0 hv0 cur et hb]
    rfl
  have mixed : Tryd.prog.follows .mixedOrders = true := by kernel_rfl
  have hcl' : cur.toList.length = c * 9 := by rw [Array.length_toList]; exact hcur
  have hat : ∀ (W : World), W.heap[g]? = some (.cells cur et (0, 0)) → ∀ j v, cs[j]? = some v → W.cell? ⟨g, j, none⟩ = some v := fun W hW j v hj => by
    rw [← hcs, List.getElem?_take] at hj
    split at hj
    · simp only [World.cell?, hW, Option.isSome_none, Bool.false_eq_true, if_false]
      rw [← Array.getElem?_toList]; exact hj
    · cases hj
  have hdl : (cs.drop (i * 9)).length = (n - i) * 9 := by rw [List.length_drop, hcl, Nat.sub_mul]
  obtain ⟨row1, hr1⟩ : ∃ row1 : Array Value, row1 = (cur.toList.take ((i + 1) * 9) ++ cs.drop (i * 9) ++ cur.toList.drop ((i + 1) * 9 + (cs.drop (i * 9)).length)).toArray := ⟨_, rfl⟩
  have hbd : w.drew.heap[g]? = some (.cells cur et (0, 0)) := hb
  have hcp1 : ∀ ty dc sc, (Builtin.copy_ #[58, 58] ty #[.slice (some ⟨g, (i + 1) * 9, none⟩) (n - i) dc, .slice (some ⟨g, i * 9, none⟩) (n + 1 - i) sc]).run Tryd.prog w.drew = .ok (goInt (Nat.min (n + 1 - i) (n - i))) (w.drew.setRow g row1) := fun ty dc sc => by
    rw [hr1]
    exact run_copyRowK w.drew 58 58 ty 51 9 g ((i + 1) * 9) (n - i) dc ⟨g, i * 9, none⟩ (n + 1 - i) sc cur et (cs.drop (i * 9)) (by kernel_rfl) hsz hbd (by rw [hdl]; congr 1; simp only [Nat.min_def]; split <;> omega)
      (fun j v hj => by rw [Addr.add_lit]; exact hat _ hbd _ v (by rwa [List.getElem?_drop] at hj)) (by rw [hdl, hcur]; omega) (fun v hv => h1c v (List.mem_of_mem_drop hv))
  have hr1l : row1.size = c * 9 := by
    simp only [hr1, List.size_toArray, List.length_append, List.length_take, List.length_drop, hcl', hcl]; omega
  have hb1' : ∀ W : World, W = w.drew.setRow g row1 → W.heap[g]? = some (.cells row1 et (0, 0)) := fun W hW => by rw [hW]; exact setRow_heap w.drew g cur row1 et _ hbd
  have hvs1 : ∀ j v, vs[j]? = some v → (w.drew.setRow g row1).cell? ⟨vb, vo + j, none⟩ = some v := fun j v hj => by
    rw [cell_setRow_other _ _ _ _ hvb]; exact hvs j v hj
  have hcp2 : ∀ ty dc, (Builtin.copy_ #[58, 58] ty #[.slice (some ⟨g, i * 9, none⟩) (n + 1 - i) dc, .slice (some ⟨vb, vo, none⟩) 1 vc]).run Tryd.prog (w.drew.setRow g row1) = .ok (goInt (Nat.min 1 (n + 1 - i))) ((w.drew.setRow g row1).setRow g (row1.toList.take (i * 9) ++ vs ++ row1.toList.drop (i * 9 + vs.length)).toArray) := fun ty dc =>
    run_copyRowK _ 58 58 ty 51 9 g (i * 9) (n + 1 - i) dc ⟨vb, vo, none⟩ 1 vc row1 et vs (by kernel_rfl) hsz (hb1' _ rfl) (by rw [hvl]; simp only [Nat.min_def]; split <;> omega)
      (fun j v hj => by rw [Addr.add_lit]; exact hvs1 j v hj) (by rw [hvl, hr1l]; omega) h1v
  have hfin : (row1.toList.take (i * 9) ++ vs ++ row1.toList.drop (i * 9 + vs.length)).take ((n + 1) * 9) = cs.take (i * 9) ++ vs ++ cs.drop (i * 9) := by
    have a1 : row1.toList.take (i * 9) = cs.take (i * 9) := by
      rw [hr1, List.append_assoc, List.take_append_of_le_length (by rw [List.length_take, hcl']; omega), List.take_take, ← hcs, List.take_take]
      congr 1; omega
    have a2 : row1.toList.drop (i * 9 + vs.length) = cs.drop (i * 9) ++ cur.toList.drop ((i + 1) * 9 + (cs.drop (i * 9)).length) := by
      rw [hr1, List.append_assoc, hvl, List.drop_append_of_le_length (by rw [List.length_take, hcl']; omega), List.drop_eq_nil_of_le (by rw [List.length_take, hcl']; omega), List.nil_append]
    rw [a1, a2, ← List.append_assoc, List.take_append_of_le_length (by simp only [List.length_append, List.length_take, List.length_drop, hcl, hvl]; omega), List.take_of_length_le (by simp only [List.length_append, List.length_take, List.length_drop, hcl, hvl]; omega)]
  clear hr1
  go_enter Tryd.func50, Tryd.ntmps50
  go_wp2_with (simp only [hov])
  go_region_law_o (refine step_copy_runI rfl _ _ 58 58 rfl _ _ (by simp [Act.eval, Act.put]) (by simp [Act.eval, Act.put]) (hcp1 _ _ _) ?_)
  go_wp2_with (at_builtin; refine wpList_copy_runI _ rfl _ _ 58 58 rfl _ _ rfl rfl (hcp2 _ _) ?_)
  go_ret
  refine ⟨rfl, _, setRow_setRow _ _ _ _, ?_, ?_⟩
  · simp only [List.size_toArray, List.length_append, List.length_take, List.length_drop, hvl, Array.length_toList, hr1l]; omega
  · have h := hfin
    rw [hvl] at h
    simpa only [List.append_assoc, List.toList_toArray] using h
end Go.Proofs

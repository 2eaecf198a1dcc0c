/-
  Proved: what some functions of the program answer, or a law of the evaluator that shows it, one theorem each; its conditions are the hypotheses that stand ahead of it.
-/
import Derived.Test.YtdgodofdnaligaaDoorPHa
import Derived.Test.YtdgodofdnaligaaDoorK4
import Derived.ProofKit
import Derived.KernelRfl
import Derived.Test.YtdgodofdnaligaaDoorW0
import Derived.Test.YtdgodofdnaligaaDoorPRL
set_option maxRecDepth 100000
set_option maxHeartbeats 4000000
set_option linter.unusedSimpArgs false
set_option linter.unusedVariables false
namespace Go.Sx
open Go.Proofs Sp
def cutLo (h k : Nat) : Nat := h % 2 ^ k
def cutHi (h n : Nat) : Nat := h / 2 ^ n * 2 ^ n
/-- What a kind leaves of a hash. -/
def cutK (k h : Nat) : Nat := if k = 0 then h else if k < 32 then cutLo h k else if k = 32 then 0 else cutHi h (64 - k)
/-- A value's hash of a kind. -/
noncomputable def kHash (k : Nat) (v : V) : Nat := cutK k (fullH v).toNat
open Go.Shelf Go.RowKit Go.Lib
theorem cut_hi_raw (h k n : Nat) (r : Int) (w : World) (hk : 33 ≤ k ∧ k < 64) (hn : n + k = 64) (hr : Go.bits BinOp.andNot IntKind.u32 (h : Int) ((2 ^ n - 1) % 4294967296) = r) : Calls Tryd.prog 59 #[.int .i64 (k : Int), .int .u32 (h : Int)] w fun e w' => e = .returned (.int .u32 r) ∧ w' = w := by
  have h1 : ¬ ((k : Int) = 0) := by omega
  have h2 : ¬ ((k : Int) < 32) := by omega
  have h3 : ¬ ((k : Int) = 32) := by omega
  have h4 : IntKind.i64.wrap (64 - (k : Int)) = (n : Int) := by rw [IntKind.wrap_i64]; omega
  have h5 : ¬ ((n : Int) < 0) := by omega
  go_enter Tryd.func59, Tryd.ntmps59
  go_wp2
  go_ret
  exact ⟨by rw [← hr]; rfl, rfl⟩
/-- A leaf that asks nothing of memory, walked by hand. -/
theorem callsF_leaf {f : Nat} {a b u : Value} (he : entersP P f = true) (h : ∀ w, Calls P f #[a, b] w fun e w' => e = .returned u ∧ w' = w) : CallsF P G f [.sc a, .sc b] (.sc u) := by
  intro w ok vs hg hok hv
  simp only [FRelL, FRel] at hv
  obtain ⟨v1, r1, rfl, rfl, v2, r2, rfl, rfl, rfl⟩ := hv
  unfold CallY
  rw [run_enter he]
  refine (h w).mono fun e w' ⟨h1, h2⟩ => ⟨u, h1, by simp [FRel], ?_⟩
  subst h2; exact Ext.refl _
theorem pow_int (n : Nat) : ((2 : Int) ^ n) = ((2 ^ n : Nat) : Int) := by exact_mod_cast rfl
theorem pow_lt32 {n : Nat} (h : n < 32) : 2 ^ n < 4294967296 := Nat.pow_lt_pow_right (a := 2) (by omega) h
theorem not_low (h n : Nat) (hh : h < 4294967296) (hn : n < 32) : notN h (2 ^ n - 1) = cutHi h n := by
  unfold notN cutHi
  have h1 := pow_lt32 hn
  have h0 : 0 < 2 ^ n := Nat.two_pow_pos n
  refine Nat.eq_of_testBit_eq fun i => ?_
  rw [show 2 ^ 32 - 1 - (2 ^ n - 1) = 2 ^ 32 - ((2 ^ n - 1) + 1) by omega, Nat.testBit_and, Nat.testBit_two_pow_sub_succ (by omega), Nat.testBit_two_pow_sub_one, Nat.mul_comm, Nat.testBit_two_pow_mul, Nat.testBit_div_two_pow]
  by_cases hi : n ≤ i
  · have e : i - n + n = i := by omega
    rw [e]
    by_cases h32 : i < 32
    · simp [hi, h32]
    · have : h.testBit i = false := Nat.testBit_lt_two_pow (Nat.lt_of_lt_of_le hh (Nat.pow_le_pow_right (n := 2) (by omega) (by omega : 32 ≤ i)))
      simp [this]
  · simp [hi]; omega
theorem cutHi_le (h n : Nat) : cutHi h n ≤ h := by unfold cutHi; exact Nat.div_mul_le_self _ _
theorem cutK_lt (k h : Nat) (hh : h < 4294967296) : cutK k h < 4294967296 := by
  unfold cutK
  split
  · exact hh
  · split
    · have := Nat.mod_le h (2 ^ k); unfold cutLo; omega
    · split
      · omega
      · have := cutHi_le h (64 - k); omega
theorem get59 : P.funcs[59]? = some Tryd.f59 := by kernel_rfl
theorem ent59 : entersP P 59 = true := by kernel_rfl
theorem hcut_0 (h : Nat)  : CallsF P G 59 [int 0, .sc (.int .u32 (h : Int))] (.sc (.int .u32 (h : Int))) := by
  refine sx_fn (hs := [.dec true]) ((E (true)) ∧ E (FV.sc (Value.int IntKind.u32 (h : Int)))) get59 ent59 (by kernel_rfl) ?_
  exact ⟨rfl, rfl⟩
theorem lo_eq2 (h k : Nat) (hh : h < 4294967296) (hk : k < 32) : IntKind.wrap IntKind.u32 (((BitVec.ofInt (IntKind.bits IntKind.u32) (h : Int) &&& BitVec.ofInt (IntKind.bits IntKind.u32) (IntKind.wrap IntKind.u32 (IntKind.wrap IntKind.u32 (1 * 2 ^ min k (IntKind.bits IntKind.u32)) - 1))).toNat : Nat) : Int) = (cutLo h k : Int) := by
  have h1 := pow_lt32 hk
  have h0 : 0 < 2 ^ k := Nat.two_pow_pos k
  have e1 : min k (IntKind.bits IntKind.u32) = k := Nat.min_eq_left (by show k ≤ 32; omega)
  have e2 : IntKind.wrap IntKind.u32 ((2 ^ k : Nat) : Int) = ((2 ^ k : Nat) : Int) := u32_id (by omega) (by omega)
  have e3 : (((2 ^ k : Nat) : Int) - 1) = ((2 ^ k - 1 : Nat) : Int) := by omega
  have e4 : IntKind.wrap IntKind.u32 ((2 ^ k - 1 : Nat) : Int) = ((2 ^ k - 1 : Nat) : Int) := u32_id (by omega) (by omega)
  rw [e1, Int.one_mul, pow_int, e2, e3, e4, u32_andB h _ hh (by omega), Nat.and_two_pow_sub_one_eq_mod]
  rfl
theorem hcut_lo (h k : Nat) (hh : h < 4294967296) (hk : 1 ≤ k ∧ k < 32) : CallsF P G 59 [int (k : Int), .sc (.int .u32 (h : Int))] (.sc (.int .u32 (cutLo h k : Int))) := by
  refine sx_fn (hs := [.dec false, .dec true]) (let z1 := IntKind.bits IntKind.u32; ((k : Int) == 0) = false ∧ decide ((k : Int) < 32) = true ∧ FV.sc (Value.int IntKind.u32 (IntKind.wrap IntKind.u32 (↑(BitVec.toNat (BitVec.ofInt z1 (h : Int) &&& BitVec.ofInt z1 (IntKind.wrap IntKind.u32 (IntKind.wrap IntKind.u32 (1 * 2 ^ min k z1) - 1)))) : Int))) = FV.sc (Value.int IntKind.u32 (↑(cutLo h k) : Int))) get59 ent59 (by kernel_rfl) ?_
  refine ⟨?_, ?_, ?_⟩
  all_goals first | (rw [beq_eq_false_iff_ne]; omega) | (exact congrArg (fun x => FV.sc (.int .u32 x)) (lo_eq2 h k hh hk.2)) | (simp only [decide_eq_true_eq, decide_eq_false_iff_not]; omega)
theorem hcut_32 (h : Nat)  : CallsF P G 59 [int 32, .sc (.int .u32 (h : Int))] (.sc (.int .u32 0)) := by
  refine sx_fn (hs := [.dec false, .dec false, .dec true]) ((E (false)) ∧ (E (false)) ∧ (E (true)) ∧ E (FV.sc (Value.int IntKind.u32 (Int.ofNat 0)))) get59 ent59 (by kernel_rfl) ?_
  exact ⟨rfl, ⟨rfl, ⟨rfl, rfl⟩⟩⟩
theorem wrap_u32 (n : Int) : 0 ≤ IntKind.u32.wrap n ∧ IntKind.u32.wrap n < 4294967296 := by
  simp only [IntKind.wrap, IntKind.signed, IntKind.bits]; simp; omega
theorem finH_range (h n : Int) : 0 ≤ finH h n ∧ finH h n < 4294967296 := by
  unfold finH fin3 xo32; exact wrap_u32 _
theorem fullH_range (v : V) : 0 ≤ fullH v ∧ fullH v < 4294967296 := by
  cases v with
  | mk k n s l =>
    rw [fullH]
    unfold hashK
    split
    · split <;> omega
    · split
      · unfold longH; split
        · omega
        · exact finH_range _ _
      · split
        · unfold intH; split
          · omega
          · exact finH_range _ _
        · split
          · unfold ordH collH; exact finH_range _ _
          · split
            · unfold unordH collH; exact finH_range _ _
            · split
              · unfold unordH collH; exact finH_range _ _
              · omega
theorem full_ok : ∀ v, Fine v → ∀ d m, m ≤ 1024 → 0 < countV v d m → CallsF P G 70 [encV v] (.sc (.int .u32 (fullH v))) := by
  intro v
  induction v using V.ind with
  | h k n s l ih =>
    intro hv d m hm hc
    obtain ⟨h1, h2, h3, h4⟩ := count_parts hc
    have hl : l.length ≤ 1000000 := by omega
    have ha := hall_ok l hl fun x hx => by
      obtain ⟨m', h5, h6⟩ := h4 x hx
      exact ih x hx (hv.items.2 x hx) _ m' (by omega) h6
    rw [fullH]
    by_cases h6 : k = 6
    · subst h6
      simp only [formB] at h2
      have h7 : l.length % 2 = 0 := by
        rw [if_neg (by omega), if_neg (by omega), if_pos trivial, Bool.and_eq_true, decide_eq_true_eq] at h2
        exact h2.1
      have h8 := full_map n s l (fullHs l) (l.length / 2) rfl (by rw [fullHs_len]; exact hl) (by rw [fullHs_len]; omega) ha
      rw [List.take_of_length_le (by rw [fullHs_len]; omega)] at h8
      simpa [hashK] using h8
    · refine full_leaf k n s l h6 (fun h3 => ?_) hl ha
      subst h3
      simp only [plainB] at h1
      split at h1
      · cases h1
      · rw [if_neg (by omega), if_pos trivial, Bool.and_eq_true, decide_eq_true_eq] at h1
        omega
theorem cut_ok (k h : Nat) (hh : h < 4294967296) (hk : k ≤ 63) : CallsF P G 59 [int (k : Int), .sc (.int .u32 (h : Int))] (.sc (.int .u32 (cutK k h : Int))) := by
  unfold cutK
  by_cases h0 : k = 0
  · rw [if_pos h0]; subst h0; exact hcut_0 h
  · rw [if_neg h0]
    by_cases h1 : k < 32
    · rw [if_pos h1]; exact hcut_lo h k hh ⟨by omega, h1⟩
    · rw [if_neg h1]
      by_cases h2 : k = 32
      · rw [if_pos h2]; subst h2; exact hcut_32 h
      · rw [if_neg h2]
        refine callsF_leaf (by kernel_rfl) fun w => cut_hi_raw h k (64 - k) _ w ⟨by omega, by omega⟩ (by omega) ?_
        have h3 := pow_lt32 (show 64 - k < 32 by omega)
        have h4 : 0 < 2 ^ (64 - k) := Nat.two_pow_pos _
        rw [pow_int, show ((((2 ^ (64 - k) : Nat) : Int) - 1) % 4294967296) = ((2 ^ (64 - k) - 1 : Nat) : Int) by omega, ← not_low h (64 - k) hh (by omega)]
        exact u32_notB h _ hh (by omega)
theorem kHash_lt (k : Nat) (v : V) : kHash k v < 4294967296 := by
  unfold kHash
  have := fullH_range v
  exact cutK_lt k _ (by omega)
theorem get57 : P.funcs[57]? = some Tryd.f57 := by kernel_rfl
theorem ent57 : entersP P 57 = true := by kernel_rfl
theorem hkn_ok (k : Nat) (hk : k ≤ 63) : CallsF P G 57 [int (k : Int)] (bool true) := by
  refine sx_fn (hs := [.dec true]) ((E (true)) ∧ (bool (decide ((k : Int) ≤ 63))) = (bool true)) get57 ent57 (by kernel_rfl) ?_
  refine ⟨rfl, ?_⟩
  all_goals (exact congrArg bool (by simp only [decide_eq_true_eq]; omega))
theorem get58 : P.funcs[58]? = some Tryd.f58 := by kernel_rfl
theorem ent58 : entersP P 58 = true := by kernel_rfl
theorem hFull_ok (v : V) (hv : Fine v) (hr : rightB v = true) : CallsF P G 58 [encV v] (.tup [.sc (.int .u32 (fullH v)), int 0]) := by
  refine sx_fn (hs := [.call (int (chkI (rightB v))), .dec false, .call (.sc (.int .u32 (fullH v)))]) (let z1 := Value.int IntKind.u32 (fullH v); CallsF P G 19 [encV v] (int (chkI (rightB v))) ∧ (chkI (rightB v) != 0) = false ∧ CallsF P G 70 [encV v] (FV.sc z1) ∧ E (FV.tup [FV.sc z1, int 0])) get58 ent58 (by kernel_rfl) ?_
  refine ⟨?_, ?_, ?_, rfl⟩
  all_goals first | exact check_ok _ hv | exact full_ok _ hv _ _ (Int.le_refl _) (by simpa [rightB] using hr) | (rw [hr]; rfl)
theorem get38 : P.funcs[38]? = some Tryd.f38 := by kernel_rfl
theorem ent38 : entersP P 38 = true := by kernel_rfl
theorem hOf_run (v : V) (k : Nat) (f r : Nat) (hv : Fine v) (hr : rightB v = true) (hk : k ≤ 63) (hf : CallsF P G 58 [encV v] (.tup [.sc (.int .u32 (f : Int)), int 0])) (hc : CallsF P G 59 [int (k : Int), .sc (.int .u32 (f : Int))] (.sc (.int .u32 (r : Int)))) : CallsF P G 38 [int (k : Int), encV v] (.tup [.sc (.int .u32 (r : Int)), int 0]) := by
  refine sx_fn (hs := [.call (bool true), .dec false, .call (.tup [.sc (.int .u32 (f : Int)), int 0]), .dec false, .call (.sc (.int .u32 (r : Int)))]) (let z1 := Value.int IntKind.u32 (f : Int); let z2 := Value.int IntKind.u32 (r : Int); CallsF P G 57 [int (k : Int)] (bool true) ∧ E false ∧ CallsF P G 58 [encV v] (FV.tup [FV.sc z1, int 0]) ∧ E false ∧ CallsF P G 59 [int (k : Int), FV.sc z1] (FV.sc z2) ∧ E (FV.tup [FV.sc z2, int 0])) get38 ent38 (by kernel_rfl) ?_
  refine ⟨?_, rfl, ?_, rfl, ?_, rfl⟩
  all_goals first | exact hkn_ok k hk | exact hf | exact hc
theorem full_nat (v : V) : ((fullH v).toNat : Int) = fullH v := Int.toNat_of_nonneg (fullH_range v).1
theorem hOf_ok (k : Nat) (v : V) (hk : k ≤ 63) (hv : Fine v) (hr : rightB v = true) : CallsF P G 38 [int (k : Int), encV v] (.tup [.sc (.int .u32 (kHash k v : Int)), int 0]) := by
  have h1 := fullH_range v
  refine hOf_run v k (fullH v).toNat (kHash k v) hv hr hk ?_ (cut_ok k _ (by omega) hk)
  rw [full_nat]; exact hFull_ok v hv hr
end Go.Sx
set_option maxRecDepth 100000
set_option maxHeartbeats 4000000
set_option linter.unusedSimpArgs false
set_option linter.unusedVariables false
namespace Go.Sx
open Go.Proofs Sp
def Sown (l : List V) (i : Nat) : St := { sl := slots 26 [(0, .f (encI l)), (2, .f .nils), (3, .lsl 0), (12, .f (encI l)), (13, .f (int (cellsVs l).length)), (14, .f (int (i : Int)))], ob := [(0, .row 4 24 (ownE l i))], nx := 1 }
theorem get45 : P.funcs[45]? = some Tryd.f45 := by kernel_rfl
theorem ent45 : entersP P 45 = true := by kernel_rfl
theorem owns_nil   : CallsF P G 45 [encI []] (.nils) := by
  refine sx_fn (hs := [.dec true]) ((E (true)) ∧ E (FV.nils)) get45 ent45 (by kernel_rfl) ?_
  exact ⟨rfl, rfl⟩
theorem owns_some (l : List V) (N : Nat) (hl : l.length ≤ 2513169434844) (h0 : 0 < l.length) (hN : N = l.length) (ih : ∀ i, i < l.length → CallsF P G 31 [encV (l.getD i default)] (encV (l.getD i default))) : CallsF P G 45 [encI l] (.sl 4 (ownE l N)) := by
  refine sx_fn (hs := [.br [] [.loop [(0, 0)] [(0, 0)] (Sown l) (N) (fun i => [.br [.el (cellsP (List.getD l i default)), .call (encV (List.getD l i default))] []]), .br [.el (cellsP (List.getD l N default)), .call (encV (List.getD l N default))] [.lfz [0]]]]) (let z1 := (↑(List.length (cellsVs l)) : Int); let z2 := List.getD l N default; Br (z1 == 0) (FV.nils = FV.sl 4 (ownE l N)) ((E (z1) ∧ (0 : Int) ≤ z1 ∧ 56 * List.length (cellsVs l) ≤ 281474976710656 ∧ List.length (cellsVs l) ≤ maxLen) ∧ (E true ∧ (E (AV.f (encI l)) ∧ E (AV.f FV.nils) ∧ E (AV.lsl 0) ∧ E (AV.f (encI l)) ∧ E (AV.f (int z1)) ∧ AV.f (int 0) = AV.f (int (Int.ofNat 0)) ∧ True) ∧ (Ob.row 4 24 (List.replicate (List.length (cellsVs l)) (List.map fV1 (Array.toList (Value.cells (Value.agg #[Value.int IntKind.i64 0, Value.int IntKind.i64 0, Value.string { data := #[] }, Value.slice none 0 0]))))) = Ob.row 4 24 (ownE l 0) ∧ True) ∧ E true ∧ (false = true → false = true)) ∧ (∀ (i : Nat), (let z3 := List.getD l i default; i < N → Br (decide ((i : Int) < z1)) ((E 4 ∧ (0 : Int) ≤ (i : Int) ∧ (cellsVs l)[i]? = some (cellsP z3)) ∧ CallsF P G 31 [encV z3] (encV z3) ∧ ((0 : Int) ≤ (i : Int) ∧ i < List.length (ownE l i)) ∧ i < List.length (ownE l i) ∧ E true ∧ (E (AV.f (encI l)) ∧ E (AV.f FV.nils) ∧ E (AV.lsl 0) ∧ E (AV.f (encI l)) ∧ E (AV.f (int z1)) ∧ AV.f (int (IntKind.wrap IntKind.i64 ((i : Int) + 1))) = AV.f (int (↑(i + 1) : Int)) ∧ True) ∧ (Ob.row 4 24 (List.set (ownE l i) i (cellsP z3)) = Ob.row 4 24 (ownE l (i + 1)) ∧ True) ∧ E true ∧ (St.nd (Sown l (i + 1)) = true → false = true)) False)) ∧ Br (decide ((N : Int) < z1)) ((E 4 ∧ (0 : Int) ≤ (N : Int) ∧ (cellsVs l)[N]? = some (cellsP z2)) ∧ CallsF P G 31 [encV z2] (encV z2) ∧ ((0 : Int) ≤ (N : Int) ∧ N < List.length (ownE l N)) ∧ N < List.length (ownE l N) ∧ False) (E (FV.sl 4 (ownE l N))))) get45 ent45 (by kernel_rfl) ?_
  refine ⟨fun hi => ?_, fun hi => ⟨⟨rfl, ?_, ?_, ?_⟩, ⟨rfl, ⟨rfl, rfl, rfl, rfl, rfl, ?_, trivial⟩, ⟨?_, trivial⟩, rfl, fun hi => ?_⟩, fun i => fun hlt => ⟨fun hi => ⟨⟨rfl, ?_, ?_⟩, ?_, ⟨?_, ?_⟩, ?_, rfl, ⟨rfl, rfl, rfl, rfl, rfl, ?_, trivial⟩, ⟨?_, trivial⟩, rfl, fun hi => ?_⟩, fun hi => ?_⟩, fun hi => ⟨⟨rfl, ?_, ?_⟩, ?_, ⟨?_, ?_⟩, ?_, ?_⟩, fun hi => rfl⟩⟩
  all_goals first | rfl | (simp only [cellsVs_length, decide_eq_true_eq, decide_eq_false_iff_not, ownE_length l i (by omega), Int.toNat_natCast] at *; omega) | (simp only [cellsVs_length, decide_eq_true_eq, decide_eq_false_iff_not, Int.toNat_natCast] at *; omega) | exact cellsVs_get l _ (by omega) | exact ih i (by omega) | (exact congrArg (fun x => AV.f (int x)) (wrapS ((i : Int) + 1) (by omega) (by omega))) | ((try rw [Int.toNat_natCast]); exact congrArg (Ob.row 4 24) (ownE_set l i (by omega))) | (simp [maxLen, cellsVs_length]; omega) | (exfalso; simp only [cellsVs_length, beq_iff_eq] at hi; omega) | (simp [ownE, cellsVs_length, cellsVs, zeroC, int, str, Value.cells, fV1]; done) | assumption
theorem get31 : P.funcs[31]? = some Tryd.f31 := by kernel_rfl
theorem ent31 : entersP P 31 = true := by kernel_rfl
theorem own_step (k n : Int) (s : List UInt8) (l : List V) (h : CallsF P G 45 [encI l] (encI l)) : CallsF P G 31 [encV (.mk k n s l)] (encV (.mk k n s l)) := by
  refine sx_fn (hs := [.call (encI l)]) ((CallsF P G 45 [encI l] (encI l)) ∧ E (FV.agg [int k, int n, str s, encI l])) get31 ent31 (by kernel_rfl) ?_
  refine ⟨?_, rfl⟩
  all_goals exact h
theorem owns_ok (l : List V) (hl : l.length ≤ 2513169434844) (ih : ∀ x, x ∈ l → CallsF P G 31 [encV x] (encV x)) : CallsF P G 45 [encI l] (encI l) := by
  rcases Nat.eq_zero_or_pos l.length with h | h
  · have : l = [] := List.eq_nil_of_length_eq_zero h
    subst this
    exact owns_nil.weak (nils_sl 4)
  · have := owns_some l l.length hl h rfl (fun i hi => by
      have hmem : l.getD i default ∈ l := by rw [List.getD_eq_getElem?_getD, List.getElem?_eq_getElem hi]; exact List.getElem_mem hi
      exact ih _ hmem)
    have e : ownE l l.length = cellsVs l := by simp [ownE]
    rw [e] at this
    exact this
theorem own_ok : ∀ v, Fine v → CallsF P G 31 [encV v] (encV v) := by
  intro v
  induction v using V.ind with
  | h k n s l ih =>
    intro hv
    exact own_step k n s l (owns_ok l hv.len.1 fun x hx => ih x hx (hv.items.2 x hx))
theorem get26 : P.funcs[26]? = some Tryd.f26 := by kernel_rfl
theorem ent26 : entersP P 26 = true := by kernel_rfl
theorem plainInt_ok (n : Int)  : CallsF P G 26 [int n] (.agg [int 2, int n, str [], .nils]) := by
  refine sx_fn (hs := []) (E (FV.agg [int 2, int n, str [], FV.nils])) get26 ent26 (by kernel_rfl) ?_
  rfl
theorem int_ok (n : Int) : CallsF P G 26 [int n] (encV (.mk 2 n [] [])) := (plainInt_ok n).weak (nilV 2 n [])
end Go.Sx
set_option maxRecDepth 100000
set_option maxHeartbeats 4000000
set_option linter.unusedSimpArgs false
set_option linter.unusedVariables false
namespace Go.Sx
open Go.Proofs Sp
/-- What is wrong with a list of values. -/
noncomputable def listE (l : List V) : Int := if 65536 < l.length then 2 else if l.all rightB then 0 else 3
end Go.Sx
set_option maxRecDepth 100000
set_option maxHeartbeats 4000000
set_option linter.unusedSimpArgs false
set_option linter.unusedVariables false
namespace Go.Sx
open Go.Proofs Sp
def nilM : FV := .sc (.pointer none)
/-- A map of a kind with the members L. -/
noncomputable def encMC (kd : Nat) (L : List (V × V)) : FV := .ptr [int (kd : Int), encC (kHash kd) 7 L] 0
theorem get8 : P.funcs[8]? = some Tryd.f8 := by kernel_rfl
theorem ent8 : entersP P 8 = true := by kernel_rfl
theorem kind_some (n : Int) (x : FV)  : CallsF P G 8 [.ptr [int n, x] 0] (int n) := by
  refine sx_fn (hs := [.dec false]) ((E (false)) ∧ E (int n)) get8 ent8 (by kernel_rfl) ?_
  exact ⟨rfl, rfl⟩
theorem get20 : P.funcs[20]? = some Tryd.f20 := by kernel_rfl
theorem ent20 : entersP P 20 = true := by kernel_rfl
theorem top_some (n : Int) (c : List FV)  : CallsF P G 20 [.ptr [int n, .ptr c 0] 0] (.ptr c 0) := by
  refine sx_fn (hs := [.dec false]) ((E (false)) ∧ E (FV.ptr c 0)) get20 ent20 (by kernel_rfl) ?_
  exact ⟨rfl, rfl⟩
theorem get7 : P.funcs[7]? = some Tryd.f7 := by kernel_rfl
theorem ent7 : entersP P 7 = true := by kernel_rfl
theorem mlen_run (M k1 k2 k3 k4 : FV) (n : Int) (ht : CallsF P G 20 [M] (.ptr [k1, k2, k3, k4, int n] 0)) : CallsF P G 7 [M] (int n) := by
  refine sx_fn (hs := [.call (.ptr [k1, k2, k3, k4, int n] 0)]) ((CallsF P G 20 [M] (FV.ptr [k1, k2, k3, k4, int n] 0)) ∧ E (int n)) get7 ent7 (by kernel_rfl) ?_
  refine ⟨?_, rfl⟩
  all_goals exact ht
theorem get22 : P.funcs[22]? = some Tryd.f22 := by kernel_rfl
theorem ent22 : entersP P 22 = true := by kernel_rfl
theorem mhash_run (M : FV) (k : V) (kd h : Nat) (hk : CallsF P G 8 [M] (int (kd : Int))) (ho : CallsF P G 38 [int (kd : Int), encV k] (.tup [.sc (.int .u32 (h : Int)), int 0])) : CallsF P G 22 [M, encV k] (.sc (.int .u32 (h : Int))) := by
  refine sx_fn (hs := [.nat 9, .call (int (kd : Int)), .call (.tup [.sc (.int .u32 (h : Int)), int 0])]) (let z1 := Value.int IntKind.u32 (h : Int); E true ∧ CallsF P G 8 [M] (int (kd : Int)) ∧ CallsF P G 38 [int (kd : Int), encV k] (FV.tup [FV.sc z1, int 0]) ∧ E (FV.sc z1)) get22 ent22 (by kernel_rfl) ?_
  refine ⟨rfl, ?_, ?_, rfl⟩
  all_goals first | exact hk | exact ho
theorem get23 : P.funcs[23]? = some Tryd.f23 := by kernel_rfl
theorem ent23 : entersP P 23 = true := by kernel_rfl
theorem mput_run (M : FV) (tc tc2 : List FV) (k v : V) (kd h : Nat) (hk : CallsF P G 8 [M] (int (kd : Int))) (ht : CallsF P G 20 [M] (.ptr tc 0)) (hh : CallsF P G 22 [M, encV k] (.sc (.int .u32 (h : Int)))) (hok : CallsF P G 31 [encV k] (encV k)) (hov : CallsF P G 31 [encV v] (encV v)) (hw : CallsF P G 39 [.ptr tc 0, .agg (.sc (.int .u32 (h : Int)) :: (cellsP k ++ cellsP v)), int 0] (.ptr tc2 0)) : CallsF P G 23 [M, encV k, encV v] (.ptr [int (kd : Int), .ptr tc2 0] 0) := by
  refine sx_fn (hs := [.nat 16, .call (int (kd : Int)), .call (.ptr tc 0), .call (.sc (.int .u32 (h : Int))), .call (encV k), .call (encV v), .call (.ptr tc2 0)]) (let z1 := Value.int IntKind.u32 (h : Int); E true ∧ CallsF P G 8 [M] (int (kd : Int)) ∧ CallsF P G 20 [M] (FV.ptr tc 0) ∧ CallsF P G 22 [M, encV k] (FV.sc z1) ∧ CallsF P G 31 [encV k] (encV k) ∧ CallsF P G 31 [encV v] (encV v) ∧ CallsF P G 39 [FV.ptr tc 0, FV.agg (FV.sc z1 :: int (V.kind k) :: int (V.num k) :: str (V.text k) :: encI (V.items k) :: cellsP v), int 0] (FV.ptr tc2 0) ∧ E (FV.ptr [int (kd : Int), FV.ptr tc2 0] 0)) get23 ent23 (by kernel_rfl) ?_
  refine ⟨rfl, ?_, ?_, ?_, ?_, ?_, ?_, rfl⟩
  all_goals first | exact hk | exact ht | exact hh | exact hok | exact hov | exact hw
theorem get16 : P.funcs[16]? = some Tryd.f16 := by kernel_rfl
theorem ent16 : entersP P 16 = true := by kernel_rfl
end Go.Sx
set_option maxRecDepth 100000
set_option maxHeartbeats 4000000
set_option linter.unusedSimpArgs false
set_option linter.unusedVariables false
namespace Go.Sx
open Go.Proofs Sp
theorem get29 : P.funcs[29]? = some Tryd.f29 := by kernel_rfl
theorem ent29 : entersP P 29 = true := by kernel_rfl
theorem vpaired_long (l : List (V × V)) (h : 65536 < l.length) : CallsF P G 29 [encPs l] (int 2) := by
  refine sx_fn (hs := [.br [] []]) ((((decide ((↑(List.length (cellsPs l)) : Int) > 65536)) = (true)) → (E (int 2))) ∧ (((decide ((↑(List.length (cellsPs l)) : Int) > 65536)) = (false)) → (False))) get29 ent29 (by kernel_rfl) ?_
  refine ⟨fun hi => rfl, fun hi => ?_⟩
  all_goals (exfalso; simp only [cellsPs_length, decide_eq_true_eq, decide_eq_false_iff_not] at *; omega)
theorem vpaired_all (l : List (V × V)) (N : Nat) (hl : l.length ≤ 65536) (hN : N ≤ l.length) (hf : ∀ p, p ∈ l → Fine p.1 ∧ Fine p.2) (hk : ∀ i, i < N → rightB (l.getD i default).1 = true ∧ rightB (l.getD i default).2 = true) (h3 : N = l.length) : CallsF P G 29 [encPs l] (int 0) := by
  refine sx_fn (hs := let z1 := List.getD l N default; [.br [] [.loop [] [] (Spd l) (N) (fun i => [.br [.el (cellsP (Prod.fst (List.getD l i default)) ++ cellsP (Prod.snd (List.getD l i default))), .call (bool (rightB (Prod.fst (List.getD l i default)))), .br [.dec true] [.call (bool (rightB (Prod.snd (List.getD l i default)))), .br [] []]] []]), .br [.el (cellsP (Prod.fst z1) ++ cellsP (Prod.snd z1)), .call (bool (rightB (Prod.fst z1))), .br [.dec true] [.call (bool (rightB (Prod.snd z1))), .br [] []]] []]]) (let z1 := List.getD l N default; let z2 := (↑(List.length (cellsPs l)) : Int); Br (decide (z2 > 65536)) (int 2 = int 0) ((E true ∧ (E (AV.f (FV.sl 8 (cellsPs l))) ∧ E (AV.f (int z2)) ∧ AV.f (int 0) = AV.f (int (Int.ofNat 0)) ∧ True) ∧ True ∧ E true ∧ (false = true → false = true)) ∧ (∀ (i : Nat), (let z3 := List.getD l i default; i < N → Br (decide ((i : Int) < z2)) ((E 8 ∧ (0 : Int) ≤ (i : Int) ∧ (cellsPs l)[i]? = some (int (V.kind (Prod.fst z3)) :: int (V.num (Prod.fst z3)) :: str (V.text (Prod.fst z3)) :: encI (V.items (Prod.fst z3)) :: cellsP (Prod.snd z3))) ∧ CallsF P G 33 [encV (Prod.fst z3)] (bool (rightB (Prod.fst z3))) ∧ Br (!rightB (Prod.fst z3)) (E true ∧ False) (CallsF P G 33 [encV (Prod.snd z3)] (bool (rightB (Prod.snd z3))) ∧ Br (!rightB (Prod.snd z3)) False (E true ∧ (E (AV.f (FV.sl 8 (cellsPs l))) ∧ E (AV.f (int z2)) ∧ AV.f (int (IntKind.wrap IntKind.i64 ((i : Int) + 1))) = AV.f (int (↑(i + 1) : Int)) ∧ True) ∧ True ∧ E true ∧ (St.nd (Spd l (i + 1)) = true → false = true)))) False)) ∧ Br (decide ((N : Int) < z2)) ((E 8 ∧ (0 : Int) ≤ (N : Int) ∧ (cellsPs l)[N]? = some (int (V.kind (Prod.fst z1)) :: int (V.num (Prod.fst z1)) :: str (V.text (Prod.fst z1)) :: encI (V.items (Prod.fst z1)) :: cellsP (Prod.snd z1))) ∧ CallsF P G 33 [encV (Prod.fst z1)] (bool (rightB (Prod.fst z1))) ∧ Br (!rightB (Prod.fst z1)) (E true ∧ int 3 = int 0) (CallsF P G 33 [encV (Prod.snd z1)] (bool (rightB (Prod.snd z1))) ∧ Br (!rightB (Prod.snd z1)) (int 3 = int 0) False)) (E (int 0)))) get29 ent29 (by kernel_rfl) ?_
  refine ⟨fun hi => ?_, fun hi => ⟨⟨rfl, ⟨rfl, rfl, ?_, trivial⟩, trivial, rfl, fun hi => ?_⟩, fun i => fun hlt => ⟨fun hi => ⟨⟨rfl, ?_, ?_⟩, ?_, fun hi => ⟨rfl, ?_⟩, fun hi => ⟨?_, fun hi => ?_, fun hi => ⟨rfl, ⟨rfl, rfl, ?_, trivial⟩, trivial, rfl, fun hi => ?_⟩⟩⟩, fun hi => ?_⟩, fun hi => ⟨⟨rfl, ?_, ?_⟩, ?_, fun hi => ⟨rfl, ?_⟩, fun hi => ⟨?_, fun hi => ?_, fun hi => ?_⟩⟩, fun hi => rfl⟩⟩
  all_goals first | (simp only [cellsPs_length, decide_eq_true_eq, decide_eq_false_iff_not] at *; omega) | exact cellsPs_get l _ (by omega) | exact right_ok _ (fineP hf (by omega)).1 | exact right_ok _ (fineP hf (by omega)).2 | (exact congrArg (fun x => AV.f (int x)) (wrapS ((i : Int) + 1) (by omega) (by omega))) | (exfalso; have h8 := hk i hlt; simp_all; done) | (simp_all; done) | assumption
theorem vpaired_not (l : List (V × V)) (N : Nat) (hl : l.length ≤ 65536) (hN : N ≤ l.length) (hf : ∀ p, p ∈ l → Fine p.1 ∧ Fine p.2) (hk : ∀ i, i < N → rightB (l.getD i default).1 = true ∧ rightB (l.getD i default).2 = true) (h3 : N < l.length) (h4 : ¬ (rightB (l.getD N default).1 = true ∧ rightB (l.getD N default).2 = true)) : CallsF P G 29 [encPs l] (int 3) := by
  refine sx_fn (hs := let z1 := List.getD l N default; [.br [] [.loop [] [] (Spd l) (N) (fun i => [.br [.el (cellsP (Prod.fst (List.getD l i default)) ++ cellsP (Prod.snd (List.getD l i default))), .call (bool (rightB (Prod.fst (List.getD l i default)))), .br [.dec true] [.call (bool (rightB (Prod.snd (List.getD l i default)))), .br [] []]] []]), .br [.el (cellsP (Prod.fst z1) ++ cellsP (Prod.snd z1)), .call (bool (rightB (Prod.fst z1))), .br [.dec true] [.call (bool (rightB (Prod.snd z1))), .br [] []]] []]]) (let z1 := List.getD l N default; let z2 := (↑(List.length (cellsPs l)) : Int); Br (decide (z2 > 65536)) (int 2 = int 3) ((E true ∧ (E (AV.f (FV.sl 8 (cellsPs l))) ∧ E (AV.f (int z2)) ∧ AV.f (int 0) = AV.f (int (Int.ofNat 0)) ∧ True) ∧ True ∧ E true ∧ (false = true → false = true)) ∧ (∀ (i : Nat), (let z3 := List.getD l i default; i < N → Br (decide ((i : Int) < z2)) ((E 8 ∧ (0 : Int) ≤ (i : Int) ∧ (cellsPs l)[i]? = some (int (V.kind (Prod.fst z3)) :: int (V.num (Prod.fst z3)) :: str (V.text (Prod.fst z3)) :: encI (V.items (Prod.fst z3)) :: cellsP (Prod.snd z3))) ∧ CallsF P G 33 [encV (Prod.fst z3)] (bool (rightB (Prod.fst z3))) ∧ Br (!rightB (Prod.fst z3)) (E true ∧ False) (CallsF P G 33 [encV (Prod.snd z3)] (bool (rightB (Prod.snd z3))) ∧ Br (!rightB (Prod.snd z3)) False (E true ∧ (E (AV.f (FV.sl 8 (cellsPs l))) ∧ E (AV.f (int z2)) ∧ AV.f (int (IntKind.wrap IntKind.i64 ((i : Int) + 1))) = AV.f (int (↑(i + 1) : Int)) ∧ True) ∧ True ∧ E true ∧ (St.nd (Spd l (i + 1)) = true → false = true)))) False)) ∧ Br (decide ((N : Int) < z2)) ((E 8 ∧ (0 : Int) ≤ (N : Int) ∧ (cellsPs l)[N]? = some (int (V.kind (Prod.fst z1)) :: int (V.num (Prod.fst z1)) :: str (V.text (Prod.fst z1)) :: encI (V.items (Prod.fst z1)) :: cellsP (Prod.snd z1))) ∧ CallsF P G 33 [encV (Prod.fst z1)] (bool (rightB (Prod.fst z1))) ∧ Br (!rightB (Prod.fst z1)) (E true ∧ E (int 3)) (CallsF P G 33 [encV (Prod.snd z1)] (bool (rightB (Prod.snd z1))) ∧ Br (!rightB (Prod.snd z1)) (E (int 3)) False)) (int 0 = int 3))) get29 ent29 (by kernel_rfl) ?_
  refine ⟨fun hi => ?_, fun hi => ⟨⟨rfl, ⟨rfl, rfl, ?_, trivial⟩, trivial, rfl, fun hi => ?_⟩, fun i => fun hlt => ⟨fun hi => ⟨⟨rfl, ?_, ?_⟩, ?_, fun hi => ⟨rfl, ?_⟩, fun hi => ⟨?_, fun hi => ?_, fun hi => ⟨rfl, ⟨rfl, rfl, ?_, trivial⟩, trivial, rfl, fun hi => ?_⟩⟩⟩, fun hi => ?_⟩, fun hi => ⟨⟨rfl, ?_, ?_⟩, ?_, fun hi => ⟨rfl, rfl⟩, fun hi => ⟨?_, fun hi => rfl, fun hi => ?_⟩⟩, fun hi => ?_⟩⟩
  all_goals first | (simp only [cellsPs_length, decide_eq_true_eq, decide_eq_false_iff_not] at *; omega) | exact cellsPs_get l _ (by omega) | exact right_ok _ (fineP hf (by omega)).1 | exact right_ok _ (fineP hf (by omega)).2 | (exact congrArg (fun x => AV.f (int x)) (wrapS ((i : Int) + 1) (by omega) (by omega))) | (exfalso; have h8 := hk i hlt; simp_all; done) | (exfalso; simp_all; done) | (simp_all; done) | assumption
/-- What is wrong with a list of pairs. -/
noncomputable def pairL (l : List (V × V)) : Int := if 65536 < l.length then 2 else if l.all (fun p => rightB p.1 && rightB p.2) then 0 else 3
open Sp.Sy
theorem pairL_zero {l : List (V × V)} (h : pairL l = 0) : l.length ≤ 65536 ∧ ∀ p, p ∈ l → rightB p.1 = true ∧ rightB p.2 = true := by
  unfold pairL at h
  split at h
  · omega
  · split at h
    · rename_i h1 h2
      exact ⟨by omega, fun p hp => by simpa using List.all_eq_true.1 h2 p hp⟩
    · omega
theorem pairL_gen {g : Nat} (l : List (V × V)) (h1 : 65536 < l.length → CallsF P G g [encPs l] (int 2)) (h2 : ∀ N, l.length ≤ 65536 → N = l.length → (∀ i, i < N → rightB (l.getD i default).1 = true ∧ rightB (l.getD i default).2 = true) → CallsF P G g [encPs l] (int 0))
    (h3 : ∀ N, l.length ≤ 65536 → N < l.length → (∀ i, i < N → rightB (l.getD i default).1 = true ∧ rightB (l.getD i default).2 = true) → ¬ (rightB (l.getD N default).1 = true ∧ rightB (l.getD N default).2 = true) → CallsF P G g [encPs l] (int 3)) : CallsF P G g [encPs l] (int (pairL l)) := by
  unfold pairL
  split
  · exact h1 (by assumption)
  · rename_i hl
    obtain ⟨N, q1, q2⟩ := exists_least (fun i => i = l.length ∨ (i < l.length ∧ ¬ (rightB (l.getD i default).1 = true ∧ rightB (l.getD i default).2 = true))) ⟨l.length, .inl rfl⟩
    have hN : N ≤ l.length := by rcases q1 with h | h <;> omega
    have hk : ∀ i, i < N → rightB (l.getD i default).1 = true ∧ rightB (l.getD i default).2 = true := fun i hi => Classical.byContradiction fun h => by have := q2 i (.inr ⟨by omega, h⟩); omega
    rcases q1 with q1 | ⟨q1, q3⟩
    · rw [if_pos]
      · exact h2 N (by omega) q1 hk
      · rw [List.all_eq_true]
        intro x hx
        obtain ⟨i, hi, rfl⟩ := List.getElem_of_mem hx
        have := hk i (by omega)
        rw [List.getD_eq_getElem?_getD, List.getElem?_eq_getElem hi] at this
        simpa using this
    · rw [if_neg]
      · exact h3 N (by omega) q1 hk q3
      · intro h
        rw [List.all_eq_true] at h
        exact q3 (by simpa using h _ (getD_mem q1))
theorem vpaired_ok (l : List (V × V)) (hf : ∀ p, p ∈ l → Fine p.1 ∧ Fine p.2) : CallsF P G 29 [encPs l] (int (pairL l)) :=
  pairL_gen l (vpaired_long l) (fun N hl hN hk => vpaired_all l N hl (by omega) hf hk hN) (fun N hl hN hk h => vpaired_not l N hl (by omega) hf hk hN h)
end Go.Sx

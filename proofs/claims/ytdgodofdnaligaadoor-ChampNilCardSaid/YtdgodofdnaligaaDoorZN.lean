/-
  Proved: what some functions of the program answer, or a law of the evaluator that shows it, one theorem each; its conditions are the hypotheses that stand ahead of it.
-/
import Derived.Test.YtdgodofdnaligaaDoorZ7
import Derived.KernelRfl
set_option maxRecDepth 100000
set_option maxHeartbeats 4000000
set_option linter.unusedSimpArgs false
set_option linter.unusedVariables false
namespace Go.Sx
open Go.Proofs Sp
def mkI (n : Int) : V := .mk 2 n [] []
def mkT (s : List UInt8) : V := .mk 3 0 s []
theorem get27 : P.funcs[27]? = some Tryd.f27 := by kernel_rfl
theorem ent27 : entersP P 27 = true := by kernel_rfl
theorem plainText_run (s : List UInt8)  : CallsF P G 27 [str s] (.agg [int 3, int 0, str s, .nils]) := by
  refine sx_fn (hs := []) (E (FV.agg [int 3, int 0, str s, FV.nils])) get27 ent27 (by kernel_rfl) ?_
  rfl
theorem text_ok (s : List UInt8) : CallsF P G 27 [str s] (encV (mkT s)) := (plainText_run s).weak (nilV 3 0 s)
theorem get12 : P.funcs[12]? = some Tryd.f12 := by kernel_rfl
theorem ent12 : entersP P 12 = true := by kernel_rfl
theorem speaks_run (c0 c1 c2 : List FV) (R : List (List FV)) (y0 y1 y2 : FV) (h0 : CallsF P G 6 [int 32] (.tup [.ptr c0 0, int 0])) (h1 : CallsF P G 5 [.ptr c0 0, encV (mkI 1), encV (mkT [97])] (.tup [.ptr c1 0, int 0])) (h2 : CallsF P G 5 [.ptr c1 0, encV (mkI 2), encV (mkT [98])] (.tup [.ptr c2 0, int 0])) (h3 : CallsF P G 16 [.ptr c2 0, encV (mkI 2)] (.tup [encV (mkT [98]), bool true, int 0])) (h4 : CallsF P G 10 [.ptr c2 0] (.sl 4 R)) (h5 : CallsF P G 7 [.ptr c2 0] (int 2)) (hl : R.length = 8) (he : R[7]? = some [y0, y1, y2, int 2]) : CallsF P G 12 [] (bool true) := by
  refine sx_fn (hs := [.call (.tup [.ptr c0 0, int 0]), .dec false, .dec false, .call (encV (mkI 1)), .call (encV (mkT [97])), .call (.tup [.ptr c1 0, int 0]), .dec false, .dec false, .call (encV (mkI 2)), .call (encV (mkT [98])), .call (.tup [.ptr c2 0, int 0]), .dec false, .dec false, .call (encV (mkI 2)), .call (.tup [encV (mkT [98]), bool true, int 0]), .call (.sl 4 R), .dec true, .dec true, .dec true, .call (int 2), .dec true, .dec true, .el [y0, y1, y2, int 2]]) (let z1 := FV.agg [int 2, int 2, str (V.text (mkI 2)), FV.sl 4 []]; CallsF P G 6 [int 32] (FV.tup [FV.ptr c0 0, int 0]) ∧ E false ∧ E false ∧ CallsF P G 26 [int 1] (FV.agg [int 2, int 1, str (V.text (mkI 1)), FV.sl 4 []]) ∧ CallsF P G 27 [str [97]] (FV.agg [int 3, int 0, str (V.text (mkT [97])), FV.sl 4 []]) ∧ CallsF P G 5 [FV.ptr c0 0, FV.agg [int 2, int 1, str (V.text (mkI 1)), FV.sl 4 []], FV.agg [int 3, int 0, str (V.text (mkT [97])), FV.sl 4 []]] (FV.tup [FV.ptr c1 0, int 0]) ∧ E false ∧ E false ∧ CallsF P G 26 [int 2] z1 ∧ CallsF P G 27 [str [98]] (FV.agg [int 3, int 0, str (V.text (mkT [98])), FV.sl 4 []]) ∧ CallsF P G 5 [FV.ptr c1 0, FV.agg [int 2, int 2, str (V.text (mkI 2)), FV.sl 4 []], FV.agg [int 3, int 0, str (V.text (mkT [98])), FV.sl 4 []]] (FV.tup [FV.ptr c2 0, int 0]) ∧ E false ∧ E false ∧ CallsF P G 26 [int 2] z1 ∧ CallsF P G 16 [FV.ptr c2 0, FV.agg [int 2, int 2, str (V.text (mkI 2)), FV.sl 4 []]] (FV.tup [FV.agg [int 3, int 0, str (V.text (mkT [98])), FV.sl 4 []], bool true, int 0]) ∧ CallsF P G 10 [FV.ptr c2 0] (FV.sl 4 R) ∧ E true ∧ E true ∧ E true ∧ CallsF P G 7 [FV.ptr c2 0] (int 2) ∧ E true ∧ ((↑(List.length R) : Int) == 8) = true ∧ (E 4 ∧ (0 : Int) ≤ 7 ∧ R[Int.toNat 7]? = some [y0, y1, y2, int 2]) ∧ E (bool true)) get12 ent12 (by kernel_rfl) ?_
  refine ⟨?_, rfl, rfl, ?_, ?_, ?_, rfl, rfl, ?_, ?_, ?_, rfl, rfl, ?_, ?_, ?_, rfl, rfl, rfl, ?_, rfl, ?_, ⟨rfl, ?_, ?_⟩, rfl⟩
  all_goals first | exact h0 | exact h1 | exact h2 | exact h3 | exact h4 | exact h5 | exact int_ok 1 | exact int_ok 2 | exact text_ok [97] | exact text_ok [98] | exact he | (rw [hl]; rfl) | omega
open Sp.Ch Sp.Sy
theorem count_one (k n : Int) (s : List UInt8) (d m : Int) (hp : plainB (.mk k n s []) = true) (h5 : k ≠ 5) (h6 : k ≠ 6) (hm : 1 ≤ m) : countV (.mk k n s []) d m = 1 := by
  simp [countV, badV, hp, formB, countL, h5, h6]
  omega
theorem right_mkI (n : Int) : rightB (mkI n) = true := by simp [rightB, mkI, count_one 2 n [] 16 1024 (by simp [plainB]) (by omega) (by omega) (by omega)]
theorem cmp_mkI (a b : Int) : cmpV (mkI a) (mkI b) = cmpI a b := by simp [mkI, cmpV_mk]
theorem fine_mkI (n : Int) (h : -9223372036854775808 ≤ n ∧ n ≤ 9223372036854775807) : Fine (mkI n) := Fine.mk 2 n [] [] (by omega) h (by simp) (by simp) (by simp)
theorem fine_mkT (s : List UInt8) (h : s.length ≤ 1000) : Fine (mkT s) := Fine.mk 3 0 s [] (by omega) (by omega) (by omega) (by simp) (by simp)
theorem right_mkT (s : List UInt8) (h0 : s.length ≤ 256) (h : utfB ⟨s.toArray⟩ = true) : rightB (mkT s) = true := by simp [rightB, mkT, count_one 3 0 s 16 1024 (by simp [plainB, h, h0]) (by omega) (by omega) (by omega)]
open Classical in
theorem utf_one (b : UInt8) (h : (Utf8.decode ⟨#[b]⟩ 0).1 ≠ 65533) : utfB ⟨#[b]⟩ = true := by
  unfold utfB
  rw [decide_eq_true_iff]
  intro i hi h2
  have h3 := posAt_ge ⟨#[b]⟩ i
  have h4 : (⟨#[b]⟩ : ByteArray).size = 1 := rfl
  obtain rfl : i = 0 := by omega
  exact h h2.1
theorem utf_a : utfB ⟨#[97]⟩ = true := utf_one 97 (by decide +kernel)
theorem utf_b : utfB ⟨#[98]⟩ = true := utf_one 98 (by decide +kernel)
theorem kHash32 (v : V) : kHash 32 v = 0 := by unfold kHash cutK; simp
theorem kdl_const (H : V → Nat) (hH : ∀ v, H v = 0) (d : Nat) (L : List (V × V)) (h2 : 2 ≤ L.length) : kdl H d L = [L] := by
  have h0 : ∀ x, pl H d x = 0 := fun x => by unfold pl plh; rw [hH]; simp
  have e0 : cls H d 0 L = L := by unfold cls; exact List.filter_eq_self.2 fun x _ => by simp [h0]
  have e1 : ∀ q, q ≠ 0 → cls H d q L = [] := fun q hq => by unfold cls; exact List.filter_eq_nil_iff.2 fun x _ => by simp [h0]; omega
  have hn : kdl H d [] = [] := by unfold kdl; exact List.flatMap_eq_nil_iff.2 fun q _ => by simp [cls, more]
  obtain ⟨C, D, c1, c2, c3⟩ := kdl_turn H d 0 [] L (by omega) (fun q hq => by rw [e1 q hq]; rfl)
  rw [hn] at c2
  have h5 := List.append_eq_nil_iff.1 c2.symm
  have h6 := List.append_eq_nil_iff.1 h5.2
  rw [c3, h5.1, h6.2, e0, more_some h2]; rfl
theorem shC_const (H : V → Nat) (hH : ∀ v, H v = 0) (L : List (V × V)) (h2 : 2 ≤ L.length) : ∀ f, (shC H f L).length = f + 1 ∧ (shC H f L)[f]? = some [int 7, .sc (.int .u32 0), .sc (.int .u32 0), int (L.length : Int)]
  | 0 => ⟨rfl, rfl⟩
  | f + 1 => by
    obtain ⟨h3, h4⟩ := shC_const H hH L h2 f
    rw [shC, kdl_const H hH _ L h2]
    refine ⟨by simp [h3], ?_⟩
    rw [List.getElem?_cons_succ, List.flatMap_cons, List.flatMap_nil, List.append_nil]
    exact h4
theorem speaks_ok : CallsF P G 12 [] (bool true) := by
  have f1 := fine_mkI 1 (by omega)
  have f2 := fine_mkI 2 (by omega)
  have fa := fine_mkT [97] (by simp)
  have fb := fine_mkT [98] (by simp)
  have ra := right_mkT [97] (by simp) utf_a
  have rb := right_mkT [98] (by simp) utf_b
  have h0 := newM_ok 32 (by omega)
  have m0 := isM_some 32 (by omega) []
  have h1 := mAss m0 OkM.nil (mkI 1) (mkT [97]) ⟨f1, fa⟩ ⟨right_mkI 1, ra⟩ (fun h => by simp at h)
  have e1 : put (mkI 1, mkT [97]) [] = [(mkI 1, mkT [97])] := rfl
  have o1 : OkM (put (mkI 1, mkT [97]) []) := OkM.nil.put ⟨f1, fa⟩ ⟨right_mkI 1, ra⟩ (by rw [e1]; simp)
  have m1 := isM_some 32 (by omega) (put (mkI 1, mkT [97]) [])
  have h2 := mAss m1 o1 (mkI 2) (mkT [98]) ⟨f2, fb⟩ ⟨right_mkI 2, rb⟩ (fun h => by rw [e1] at h; simp at h)
  have e2 : put (mkI 2, mkT [98]) (put (mkI 1, mkT [97]) []) = [(mkI 2, mkT [98]), (mkI 1, mkT [97])] := by
    have : cmpV (mkI 1) (mkI 2) = -1 := by rw [cmp_mkI]; simp [cmpI]
    rw [e1]; simp [put, sameK, this]
  have o2 : OkM (put (mkI 2, mkT [98]) (put (mkI 1, mkT [97]) [])) := o1.put ⟨f2, fb⟩ ⟨right_mkI 2, rb⟩ (by rw [e2]; simp)
  have m2 := isM_some 32 (by omega) (put (mkI 2, mkT [98]) (put (mkI 1, mkT [97]) []))
  have h3 := mGet_in m2 o2 (mkI 2) f2 (right_mkI 2) (mkI 2, mkT [98]) (by rw [e2]; simp) (by simp [sameK, cmp_mkI, cmpI])
  have h4 := mShape m2 o2
  have h5 := mLen m2
  have hs := shC_const (kHash 32) kHash32 (put (mkI 2, mkT [98]) (put (mkI 1, mkT [97]) [])) (by rw [e2]; simp) 7
  have hl : (put (mkI 2, mkT [98]) (put (mkI 1, mkT [97]) [])).length = 2 := by rw [e2]; rfl
  rw [hl] at h5 hs
  exact speaks_run _ _ _ _ _ _ _ h0 h1 h2 h3 h4 h5 hs.1 hs.2
end Go.Sx
set_option maxRecDepth 100000
set_option maxHeartbeats 4000000
set_option linter.unusedSimpArgs false
set_option linter.unusedVariables false
namespace Go.Sx
open Go.Proofs Sp
theorem get3 : P.funcs[3]? = some Tryd.f3 := by kernel_rfl
theorem ent3 : entersP P 3 = true := by kernel_rfl
theorem nil_bad (k v : V) (n : Int) (b0 : List FV) (s0 : List FV) (h0 : CallsF P G 6 [int 0] (.tup [.ptr b0 0, int 0])) (hl : CallsF P G 7 [.sc (.pointer none)] (int 0)) (hk : CallsF P G 8 [.sc (.pointer none)] (int 0)) (hp : CallsF P G 9 [.sc (.pointer none)] (encPs [])) (hs : CallsF P G 10 [.sc (.pointer none)] (.sl 4 [s0])) (hg : CallsF P G 11 [.sc (.pointer none), int 3] (encPs [])) (hsp : CallsF P G 12 [] (bool true)) (ha : CallsF P G 5 [.sc (.pointer none), encV k, encV v] (.tup [.sc (.pointer none), int 3])) (hc : CallsF P G 5 [.ptr b0 0, encV k, encV v] (.tup [.sc (.pointer none), int 3])) : CallsF P G 3 [encV k, encV v, int n] (bool true) := by
  refine sx_fn (hs := [.call (.tup [.sc (.pointer none), int 3]), .call (.tup [.ptr b0 0, int 0]), .dec false, .dec false, .call (.tup [.sc (.pointer none), int 3]), .dec false, .dec false, .dec false, .call (int 0), .dec false, .call (int 0), .dec false, .call (encPs []), .dec false, .call (.sl 4 [s0]), .dec false, .call (encPs []), .dec false, .dec true, .call (bool true)]) (let z1 := FV.tup [FV.sc (Value.pointer none), int 3]; CallsF P G 5 [FV.sc (Value.pointer none), encV k, encV v] z1 ∧ CallsF P G 6 [int 0] (FV.tup [FV.ptr b0 0, int 0]) ∧ E false ∧ E false ∧ CallsF P G 5 [FV.ptr b0 0, encV k, encV v] z1 ∧ E false ∧ E false ∧ E false ∧ CallsF P G 7 [FV.sc (Value.pointer none)] (int 0) ∧ E false ∧ CallsF P G 8 [FV.sc (Value.pointer none)] (int 0) ∧ E false ∧ CallsF P G 9 [FV.sc (Value.pointer none)] (FV.sl 8 []) ∧ E false ∧ CallsF P G 10 [FV.sc (Value.pointer none)] (FV.sl 4 [s0]) ∧ E false ∧ CallsF P G 11 [FV.sc (Value.pointer none), int 3] (FV.sl 8 []) ∧ E false ∧ E true ∧ CallsF P G 12 [] (bool true) ∧ E (bool true)) get3 ent3 (by kernel_rfl) ?_
  refine ⟨?_, ?_, rfl, rfl, ?_, rfl, rfl, rfl, ?_, rfl, ?_, rfl, ?_, rfl, ?_, rfl, ?_, rfl, rfl, ?_, rfl⟩
  all_goals first | exact h0 | exact hl | exact hk | exact hp | exact hs | exact hg | exact hsp | exact ha | exact hc
theorem nil_ok (k v : V) (n : Int) (b0 s0 a0 c0 : List FV) (h0 : CallsF P G 6 [int 0] (.tup [.ptr b0 0, int 0])) (hl : CallsF P G 7 [.sc (.pointer none)] (int 0)) (hk : CallsF P G 8 [.sc (.pointer none)] (int 0)) (hp : CallsF P G 9 [.sc (.pointer none)] (encPs [])) (hs : CallsF P G 10 [.sc (.pointer none)] (.sl 4 [s0])) (hg : CallsF P G 11 [.sc (.pointer none), int 3] (encPs [])) (hsp : CallsF P G 12 [] (bool true)) (ha : CallsF P G 5 [.sc (.pointer none), encV k, encV v] (.tup [.ptr a0 0, int 0])) (hc : CallsF P G 5 [.ptr b0 0, encV k, encV v] (.tup [.ptr c0 0, int 0])) (hpa : CallsF P G 9 [.ptr a0 0] (encPs [(k, v)])) (hpc : CallsF P G 9 [.ptr c0 0] (encPs [(k, v)])) (heq : CallsF P G 13 [encPs [(k, v)], encPs [(k, v)]] (bool true)) (hg1 : CallsF P G 11 [.ptr a0 0, int 1] (encPs [(k, v)])) (hgn : 1 ≤ n → CallsF P G 11 [.ptr a0 0, int n] (encPs [(k, v)])) : CallsF P G 3 [encV k, encV v, int n] (bool true) := by
  refine sx_fn (hs := [.call (.tup [.ptr a0 0, int 0]), .call (.tup [.ptr b0 0, int 0]), .dec false, .dec false, .call (.tup [.ptr c0 0, int 0]), .dec false, .dec false, .dec false, .call (int 0), .dec false, .call (int 0), .dec false, .call (encPs []), .dec false, .call (.sl 4 [s0]), .dec false, .call (encPs []), .dec false, .dec false, .call (encPs [(k, v)]), .call (encPs [(k, v)]), .call (bool true), .dec true, .call (encPs [(k, v)]), .dec true, .call (encPs [(k, v)]), .dec true, .br [.dec true, .call (bool true)] [.call (encPs [(k, v)]), .dec true, .call (bool true)]]) (let z2 := V.items (Prod.fst (k, v)); let z3 := V.kind (Prod.fst (k, v)); let z4 := V.text (Prod.fst (k, v)); let z5 := V.num (Prod.fst (k, v)); let z1 := FV.sl 8 [int z3 :: int z5 :: str z4 :: encI z2 :: cellsP (Prod.snd (k, v))]; CallsF P G 5 [FV.sc (Value.pointer none), encV k, encV v] (FV.tup [FV.ptr a0 0, int 0]) ∧ CallsF P G 6 [int 0] (FV.tup [FV.ptr b0 0, int 0]) ∧ E false ∧ E false ∧ CallsF P G 5 [FV.ptr b0 0, encV k, encV v] (FV.tup [FV.ptr c0 0, int 0]) ∧ E false ∧ E false ∧ E false ∧ CallsF P G 7 [FV.sc (Value.pointer none)] (int 0) ∧ E false ∧ CallsF P G 8 [FV.sc (Value.pointer none)] (int 0) ∧ E false ∧ CallsF P G 9 [FV.sc (Value.pointer none)] (FV.sl 8 []) ∧ E false ∧ CallsF P G 10 [FV.sc (Value.pointer none)] (FV.sl 4 [s0]) ∧ E false ∧ CallsF P G 11 [FV.sc (Value.pointer none), int 3] (FV.sl 8 []) ∧ E false ∧ E false ∧ CallsF P G 9 [FV.ptr a0 0] z1 ∧ CallsF P G 9 [FV.ptr c0 0] z1 ∧ CallsF P G 13 [FV.sl 8 [int z3 :: int z5 :: str z4 :: encI z2 :: cellsP (Prod.snd (k, v))], FV.sl 8 [int z3 :: int z5 :: str z4 :: encI z2 :: cellsP (Prod.snd (k, v))]] (bool true) ∧ E true ∧ CallsF P G 11 [FV.ptr a0 0, int 1] z1 ∧ E true ∧ CallsF P G 11 [FV.ptr a0 0, int 1] z1 ∧ E true ∧ Br (decide (n < 1)) (E true ∧ CallsF P G 12 [] (bool true) ∧ E (bool true)) (CallsF P G 11 [FV.ptr a0 0, int n] z1 ∧ E true ∧ CallsF P G 12 [] (bool true) ∧ E (bool true))) get3 ent3 (by kernel_rfl) ?_
  refine ⟨?_, ?_, rfl, rfl, ?_, rfl, rfl, rfl, ?_, rfl, ?_, rfl, ?_, rfl, ?_, rfl, ?_, rfl, rfl, ?_, ?_, ?_, rfl, ?_, rfl, ?_, rfl, fun hi => ⟨rfl, ?_, rfl⟩, fun hi => ⟨?_, rfl, ?_, rfl⟩⟩
  all_goals first | exact h0 | exact hl | exact hk | exact hp | exact hs | exact hg | exact hsp | exact ha | exact hc | exact hpa | exact hpc | exact heq | exact hg1 | exact hgn (by simpa using hi)
open Sp.Ch Sp.Sy
theorem tor_len (H : V → Nat) (L : List (V × V)) : (tor H 7 L).length = L.length := (tor_perm H 7 L).length_eq
theorem mGone_all {M : FV} {kd : Nat} {L : List (V × V)} (h : IsM M kd L) (hL : OkM L) (most : Int) (hm : (L.length : Int) < most) : CallsF P G 11 [M, int most] (encPs (tor (kHash kd) 7 L)) := by
  have hlen := tor_len (kHash kd) L
  have h1 := gone_all M most (tor (kHash kd) 7 L) (mAll h) (by have := hL.len; omega) (by omega) (fun Y h1 h2 h3 h4 => by
    have h5 := mAll1 h hL Y h4 (by omega) (fun j hj _ => by omega) h1
    have e : goR Y.b L.length 0 = (true, L.length) := by have := goR_all (b := Y.b) (m := L.length) (i := 0) (fun j _ => by rw [h2]); rwa [Nat.zero_add] at this
    rw [e, ← hlen] at h5
    exact h5)
  rw [List.take_length] at h1
  exact h1
theorem mGone_cut {M : FV} {kd : Nat} {L : List (V × V)} (h : IsM M kd L) (hL : OkM L) (n : Nat) (hm : 1 ≤ n ∧ n ≤ L.length) : CallsF P G 11 [M, int (n : Int)] (encPs ((tor (kHash kd) 7 L).take n)) := by
  have hlen := tor_len (kHash kd) L
  exact gone_cut M n (tor (kHash kd) 7 L) (mAll h) (by have := hL.len; omega) (by omega) (fun Y h1 h2 h3 h4 => by
    have h5 := mAll1 h hL Y h4 (by omega) (fun j hj hb => by
      rcases Nat.lt_or_ge j n with h6 | h6
      · omega
      · have h7 := hb (n - 1) (by omega)
        rw [h2] at h7; simp at h7; omega) h1
    have e : goR Y.b L.length 0 = (false, n) := by
      rcases goR_cases Y.b L.length 0 with ⟨q1, q2⟩ | ⟨N, q1, q2, q3, q4⟩
      · have := q1 (n - 1) (by omega); rw [h2] at this; simp at this; omega
      · rw [q4]
        have h8 : ¬ (0 + N + 1 < n) := by rw [h2] at q3; simpa using q3
        have h9 : ¬ (n ≤ N) := fun h9 => by have := q2 (n - 1) (by omega); rw [h2] at this; simp at this; omega
        have : 0 + N + 1 = n := by omega
        rw [this]
    rw [e] at h5
    exact h5)
theorem shC_nil (H : V → Nat) : ∃ s0, shC H 7 [] = [s0] := by
  have h4 : kdl H (6 - 6) [] = [] := by unfold kdl; exact List.flatMap_eq_nil_iff.2 fun q _ => by simp [cls, more]
  have h5 : ∀ (a : List FV) (l : List (List (V × V))), l = [] → a :: l.flatMap (shC H 6) = [a] := fun a l h => by rw [h]; rfl
  exact ⟨_, h5 _ _ h4⟩
theorem tor_nil (H : V → Nat) : tor H 7 [] = [] := List.length_eq_zero_iff.1 (tor_len H [])
theorem tor_one (H : V → Nat) (m : V × V) : tor H 7 [m] = [m] := List.perm_singleton.1 (tor_perm H 7 [m])
/-- CHAMPNIL: a nil map is an empty one of kind 0. -/
theorem nil_law (k v : V) (n : Int) (hk : Fine k ∧ Fine v) : CallsF P G 3 [encV k, encV v, int n] (bool true) := by
  have i0 := isM_nil
  have b0 := isM_some 0 (by omega) []
  obtain ⟨s0, hs0⟩ := shC_nil (kHash 0)
  have hp := mPairs i0 OkM.nil
  rw [tor_nil] at hp
  have hs := mShape i0 OkM.nil
  rw [hs0] at hs
  have hg := mGone_all i0 OkM.nil 3 (by simp)
  rw [tor_nil] at hg
  by_cases hr : rightB k = true ∧ rightB v = true
  · have e1 : put (k, v) [] = [(k, v)] := rfl
    have o1 : OkM (put (k, v) []) := OkM.nil.put hk hr (by rw [e1]; simp)
    have m1 := isM_some 0 (by omega) (put (k, v) [])
    have hpa := mPairs m1 o1
    rw [e1, tor_one] at hpa
    have hfp : ∀ p, p ∈ [(k, v)] → Fine p.1 ∧ Fine p.2 := fun p hp => by simp at hp; subst hp; exact hk
    have heq := pairs_same [(k, v)] (by simp) (fun p hp => pairEq_ok p (hfp p hp))
    have hg1 := mGone_cut m1 o1 1 (by rw [e1]; simp)
    rw [e1, tor_one] at hg1
    refine nil_ok k v n _ _ _ _ (newM_ok 0 (by omega)) (mLen i0) i0.kind hp hs hg speaks_ok (mAss i0 OkM.nil k v hk hr (fun h => by simp at h)) (mAss b0 OkM.nil k v hk hr (fun h => by simp at h)) hpa hpa heq hg1 (fun hn => ?_)
    rcases Int.lt_or_le 1 n with h1 | h1
    · have hg2 := mGone_all m1 o1 n (by rw [e1]; simpa using h1)
      rw [e1, tor_one] at hg2; exact hg2
    · obtain rfl : n = 1 := by omega
      exact hg1
  · exact nil_bad k v n _ _ (newM_ok 0 (by omega)) (mLen i0) i0.kind hp hs hg speaks_ok (mAss_bad nilM k v hk hr) (mAss_bad (encMC 0 []) k v hk hr)
end Go.Sx

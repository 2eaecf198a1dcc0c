/-
  Proved: what some functions of the program answer, or a law of the evaluator that shows it, one theorem each; its conditions are the hypotheses that stand ahead of it.
-/
import Derived.Test.YtdgodofdnaligaaDoorC2
import Derived.Lib.Bytealg
import Derived.KernelRfl
import Derived.Shelf.Small.Strs
import Derived.Shelf.Unicode.Decode
import Derived.Shelf.Unicode.DecodeSlow
import Derived.Shelf.Unicode.DecodeAny
import Derived.Ground.Names2Prog
import Derived.Shelf.Slices.SearchI
import Derived.Test.YtdgodofdnaligaaDoorProg
import Derived.Lib.TrimU
set_option maxRecDepth 100000
set_option maxHeartbeats 4000000
set_option linter.unusedSimpArgs false
set_option linter.unusedVariables false
namespace Go.Sx
open Go.Proofs Sp
theorem cmpB_lib : ∀ a b : List UInt8, Lib.compareBytes a b = cmpB a b
  | [], [] => rfl
  | [], _ :: _ => rfl
  | _ :: _, [] => rfl
  | a :: l, b :: m => by simp only [Lib.compareBytes, cmpB, cmpB_lib l m]
theorem get94 : P.funcs[94]? = some Tryd.f94 := by kernel_rfl
theorem cmpstr_ok {g : Gr} (a b : List UInt8) : CallsF P g 94 [str a, str b] (int (cmpB a b)) := by
  intro w ok vs hg hok hv
  simp only [FRelL, str, FRel] at hv
  obtain ⟨v, r, rfl, rfl, u, r', rfl, rfl, rfl⟩ := hv
  unfold CallY
  rw [show [Value.string ⟨a.toArray⟩, Value.string ⟨b.toArray⟩].toArray = #[Value.string ⟨a.toArray⟩, Value.string ⟨b.toArray⟩] from rfl,
    run_callFunc_extern get94 (by kernel_rfl) (by kernel_rfl) (by kernel_rfl) (e := Extern.BytealgCompare.compare) (by kernel_rfl), Lib.run_compareString]
  simp only [Result.andThen]
  refine ⟨?_, Ext.refl w⟩
  simp [FRel, int, cmpB_lib]
theorem get80 : P.funcs[80]? = some Tryd.f80 := by kernel_rfl
theorem ent80 : entersP P 80 = true := by kernel_rfl
theorem cmpString_ok {g : Gr} (a b : List UInt8)  : CallsF P g 80 [str a, str b] (int (cmpB a b)) := by
  refine sx_fn (hs := [.call (int (cmpB a b))]) ((CallsF P g 94 [str a, str b] (int (cmpB a b))) ∧ E (int (cmpB a b))) get80 ent80 (by kernel_rfl) ?_
  refine ⟨?_, rfl⟩
  all_goals exact cmpstr_ok a b
theorem get68 : P.funcs[68]? = some Tryd.f68 := by kernel_rfl
theorem ent68 : entersP P 68 = true := by kernel_rfl
theorem stringsCompare_ok {g : Gr} (a b : List UInt8)  : CallsF P g 68 [str a, str b] (int (cmpB a b)) := by
  refine sx_fn (hs := [.call (int (cmpB a b))]) ((CallsF P g 80 [str a, str b] (int (cmpB a b))) ∧ E (int (cmpB a b))) get68 ent68 (by kernel_rfl) ?_
  refine ⟨?_, rfl⟩
  all_goals exact cmpString_ok a b
theorem get54 : P.funcs[54]? = some Tryd.f54 := by kernel_rfl
theorem ent54 : entersP P 54 = true := by kernel_rfl
theorem cmpV_kind {g : Gr} (k n k2 n2 : Int) (s s2 : List UInt8) (l l2 : List V) (h : k ≠ k2) : CallsF P g 54 [encV (.mk k n s l), encV (.mk k2 n2 s2 l2)] (int (cmpI k k2)) := by
  refine sx_fn (hs := [.dec true, .call (int (cmpI k k2))]) (((k != k2) = (true)) ∧ (CallsF P g 66 [int k, int k2] (int (cmpI k k2))) ∧ E (int (cmpI k k2))) get54 ent54 (by kernel_rfl) ?_
  refine ⟨?_, ⟨?_, rfl⟩⟩
  all_goals first | exact cmpInt_ok _ _ | (simp [h]; done)
theorem cmpV_num1 {g : Gr} (n n2 : Int) (s s2 : List UInt8) (l l2 : List V)  : CallsF P g 54 [encV (.mk 1 n s l), encV (.mk 1 n2 s2 l2)] (int (cmpI n n2)) := by
  refine sx_fn (hs := [.dec false, .dec true, .dec true, .call (int (cmpI n n2))]) ((E (false)) ∧ (E (true)) ∧ (E (true)) ∧ (CallsF P g 67 [int n, int n2] (int (cmpI n n2))) ∧ E (int (cmpI n n2))) get54 ent54 (by kernel_rfl) ?_
  refine ⟨rfl, ⟨rfl, ⟨rfl, ⟨?_, rfl⟩⟩⟩⟩
  all_goals exact cmpInt64_ok _ _
theorem cmpV_num2 {g : Gr} (n n2 : Int) (s s2 : List UInt8) (l l2 : List V)  : CallsF P g 54 [encV (.mk 2 n s l), encV (.mk 2 n2 s2 l2)] (int (cmpI n n2)) := by
  refine sx_fn (hs := [.dec false, .dec false, .dec true, .call (int (cmpI n n2))]) ((E (false)) ∧ (E (false)) ∧ (E (true)) ∧ (CallsF P g 67 [int n, int n2] (int (cmpI n n2))) ∧ E (int (cmpI n n2))) get54 ent54 (by kernel_rfl) ?_
  refine ⟨rfl, ⟨rfl, ⟨rfl, ⟨?_, rfl⟩⟩⟩⟩
  all_goals exact cmpInt64_ok _ _
theorem cmpV_text {g : Gr} (n n2 : Int) (s s2 : List UInt8) (l l2 : List V)  : CallsF P g 54 [encV (.mk 3 n s l), encV (.mk 3 n2 s2 l2)] (int (cmpB s s2)) := by
  refine sx_fn (hs := [.dec false, .dec false, .dec false, .dec true, .call (int (cmpB s s2))]) ((E (false)) ∧ (E (false)) ∧ (E (false)) ∧ (E (true)) ∧ (CallsF P g 68 [str s, str s2] (int (cmpB s s2))) ∧ E (int (cmpB s s2))) get54 ent54 (by kernel_rfl) ?_
  refine ⟨rfl, ⟨rfl, ⟨rfl, ⟨rfl, ⟨?_, rfl⟩⟩⟩⟩⟩
  all_goals exact stringsCompare_ok _ _
theorem cmpV_items4 {g : Gr} (n n2 : Int) (s s2 : List UInt8) (l l2 : List V) (x : Int) (h : CallsF P g 69 [encI l, encI l2, .fn 54 [] []] (int x)) : CallsF P g 54 [encV (.mk 4 n s l), encV (.mk 4 n2 s2 l2)] (int x) := by
  refine sx_fn (hs := [.dec false, .dec false, .dec false, .dec false, .dec true, .dec true, .call (int x)]) ((E (false)) ∧ (E (false)) ∧ (E (false)) ∧ (E (false)) ∧ (E (true)) ∧ (E (true)) ∧ (CallsF P g 69 [encI l, encI l2, FV.fn 54 [] []] (int x)) ∧ E (int x)) get54 ent54 (by kernel_rfl) ?_
  refine ⟨rfl, ⟨rfl, ⟨rfl, ⟨rfl, ⟨rfl, ⟨rfl, ⟨?_, rfl⟩⟩⟩⟩⟩⟩⟩
  all_goals assumption
theorem cmpV_items5 {g : Gr} (n n2 : Int) (s s2 : List UInt8) (l l2 : List V) (x : Int) (h : CallsF P g 69 [encI l, encI l2, .fn 54 [] []] (int x)) : CallsF P g 54 [encV (.mk 5 n s l), encV (.mk 5 n2 s2 l2)] (int x) := by
  refine sx_fn (hs := [.dec false, .dec false, .dec false, .dec false, .dec false, .dec true, .dec true, .call (int x)]) (E false ∧ E false ∧ E false ∧ E false ∧ E false ∧ E true ∧ E true ∧ CallsF P g 69 [encI l, encI l2, FV.fn 54 [] []] (int x) ∧ E (int x)) get54 ent54 (by kernel_rfl) ?_
  refine ⟨rfl, rfl, rfl, rfl, rfl, rfl, rfl, ?_, rfl⟩
  all_goals assumption
theorem cmpV_items6 {g : Gr} (n n2 : Int) (s s2 : List UInt8) (l l2 : List V) (x : Int) (h : CallsF P g 69 [encI l, encI l2, .fn 54 [] []] (int x)) : CallsF P g 54 [encV (.mk 6 n s l), encV (.mk 6 n2 s2 l2)] (int x) := by
  refine sx_fn (hs := [.dec false, .dec false, .dec false, .dec false, .dec false, .dec false, .dec true, .call (int x)]) (E false ∧ E false ∧ E false ∧ E false ∧ E false ∧ E false ∧ E true ∧ CallsF P g 69 [encI l, encI l2, FV.fn 54 [] []] (int x) ∧ E (int x)) get54 ent54 (by kernel_rfl) ?_
  refine ⟨rfl, rfl, rfl, rfl, rfl, rfl, rfl, ?_, rfl⟩
  all_goals assumption
theorem cmpV_else {g : Gr} (k n n2 : Int) (s s2 : List UInt8) (l l2 : List V) (h1 : k ≠ 1) (h2 : k ≠ 2) (h3 : k ≠ 3) (h4 : k ≠ 4) (h5 : k ≠ 5) (h6 : k ≠ 6) : CallsF P g 54 [encV (.mk k n s l), encV (.mk k n2 s2 l2)] (int 0) := by
  refine sx_fn (hs := [.dec false, .dec false, .dec false, .dec false, .dec false, .dec false, .dec false]) ((k != k) = false ∧ (k == 1) = false ∧ (k == 2) = false ∧ (k == 3) = false ∧ (k == 4) = false ∧ (k == 5) = false ∧ (k == 6) = false ∧ E (int 0)) get54 ent54 (by kernel_rfl) ?_
  refine ⟨?_, ?_, ?_, ?_, ?_, ?_, ?_, rfl⟩
  all_goals (simp [h1, h2, h3, h4, h5, h6]; done)
end Go.Sx
set_option maxRecDepth 100000
set_option maxHeartbeats 4000000
set_option linter.unusedSimpArgs false
set_option linter.unusedVariables false
namespace Go.Sx
open Go.Proofs Sp
/-- A value whose numbers and lengths are a machine's. -/
inductive Fine : V → Prop where
  | mk (k n : Int) (s : List UInt8) (l : List V) (hk : -9223372036854775808 ≤ k ∧ k ≤ 9223372036854775807) (hn : -9223372036854775808 ≤ n ∧ n ≤ 9223372036854775807)
    (hs : s.length ≤ 140737488351232) (hl : l.length ≤ 2513169434844) (hi : ∀ x, x ∈ l → Fine x) : Fine (.mk k n s l)
theorem Fine.items {k n : Int} {s : List UInt8} {l : List V} (h : Fine (.mk k n s l)) : l.length ≤ 1152921504606846976 ∧ ∀ x, x ∈ l → Fine x := by
  cases h; exact ⟨by omega, by assumption⟩
theorem Fine.len {k n : Int} {s : List UInt8} {l : List V} (h : Fine (.mk k n s l)) : l.length ≤ 2513169434844 ∧ s.length ≤ 140737488351232 := by
  cases h; exact ⟨by assumption, by assumption⟩
theorem compare_ok {g : Gr} : ∀ a b, Fine a → CallsF P g 54 [encV a, encV b] (int (cmpV a b)) := by
  intro a
  induction a using V.ind with
  | h k n s l ih =>
    intro b ha
    cases b with
    | mk k2 n2 s2 l2 =>
      obtain ⟨hl, hi⟩ := ha.items
      have hitems : CallsF P g 69 [encI l, encI l2, .fn 54 [] []] (int (lexC cmpV l l2)) :=
        cmpF_ok _ cmpV l l2 (by omega) fun x y hx _ => ih x hx y (hi x hx)
      rw [cmpV_mk]
      by_cases hk : k = k2
      · subst hk
        rw [if_neg (by simp)]
        by_cases h1 : k = 1
        · subst h1; exact cmpV_num1 _ _ _ _ _ _
        · by_cases h2 : k = 2
          · subst h2; exact cmpV_num2 _ _ _ _ _ _
          · rw [if_neg (by omega)]
            by_cases h3 : k = 3
            · subst h3; exact cmpV_text _ _ _ _ _ _
            · rw [if_neg h3]
              by_cases h4 : k = 4
              · subst h4; exact cmpV_items4 _ _ _ _ _ _ _ hitems
              · by_cases h5 : k = 5
                · subst h5; exact cmpV_items5 _ _ _ _ _ _ _ hitems
                · by_cases h6 : k = 6
                  · subst h6; exact cmpV_items6 _ _ _ _ _ _ _ hitems
                  · rw [if_neg (by omega)]
                    exact cmpV_else _ _ _ _ _ _ _ h1 h2 h3 h4 h5 h6
      · rw [if_pos hk]
        exact cmpV_kind _ _ _ _ _ _ _ _ hk
theorem get36 : P.funcs[36]? = some Tryd.f36 := by kernel_rfl
theorem ent36 : entersP P 36 = true := by kernel_rfl
theorem equal_ok {g : Gr} (a b : V) (ha : Fine a) : CallsF P g 36 [encV a, encV b] (bool (cmpV a b == 0)) := by
  refine sx_fn (hs := [.call (int (cmpV a b))]) ((CallsF P g 54 [encV a, encV b] (int (cmpV a b))) ∧ E (bool (cmpV a b == 0))) get36 ent36 (by kernel_rfl) ?_
  refine ⟨?_, rfl⟩
  all_goals exact compare_ok a b ha
end Go.Sx
namespace Go.Proofs
open Go.Shelf
def Tryd.lays197_ren : Go.Shelf.Ren := ⟨fun | 197 => 93 | 260 => 100 | n => n, fun | 9 => 9 | 21 => 21 | 3 => 3 | 4 => 4 | 5 => 5 | 105 => 127 | 119 => 133 | 0 => 0 | 46 => 105 | 139 => 136 | 138 => 135 | n => n, fun | 3 => 1 | 4 => 2 | n => n⟩
theorem Tryd.lays197 : Go.Proofs.Lays.n197 Tryd.prog Tryd.lays197_ren := {
  mixed := by kernel_rfl
  f197 := Tryd.func93.trans (congrArg some (by kernel_rfl))
  f260 := Tryd.func100.trans (congrArg some (by kernel_rfl))
  t0 := Tryd.underlying0
  a0 := Tryd.isAgg0
  z0 := Tryd.sizeOf0
  v0 := Tryd.zeroValue0
  t3 := Tryd.underlying3
  a3 := Tryd.isAgg3
  z3 := Tryd.sizeOf3
  v3 := Tryd.zeroValue3
  t4 := Tryd.underlying4
  a4 := Tryd.isAgg4
  z4 := Tryd.sizeOf4
  v4 := Tryd.zeroValue4
  t5 := Tryd.underlying5
  a5 := Tryd.isAgg5
  z5 := Tryd.sizeOf5
  v5 := Tryd.zeroValue5
  t9 := Tryd.underlying9
  a9 := Tryd.isAgg9
  z9 := Tryd.sizeOf9
  v9 := Tryd.zeroValue9
  t21 := Tryd.underlying21
  a21 := Tryd.isAgg21
  z21 := Tryd.sizeOf21
  v21 := Tryd.zeroValue21
  t46 := Tryd.underlying105
  a46 := Tryd.isAgg105
  z46 := Tryd.sizeOf105
  v46 := Tryd.zeroValue105
  t105 := Tryd.underlying127
  a105 := Tryd.isAgg127
  z105 := Tryd.sizeOf127
  v105 := Tryd.zeroValue127
  t119 := Tryd.underlying133
  a119 := Tryd.isAgg133
  z119 := Tryd.sizeOf133
  t138 := Tryd.underlying135
  a138 := Tryd.isAgg135
  z138 := Tryd.sizeOf135
  v138 := Tryd.zeroValue135
  t139 := Tryd.underlying136
  a139 := Tryd.isAgg136
  z139 := Tryd.sizeOf136
  v139 := Tryd.zeroValue136
  g3 := by kernel_rfl
  g4 := by kernel_rfl }
open Go.RowKit Go.Lib in
theorem Tryd.utf8_DecodeRuneInString (s : ByteArray) (w : World) (hT : Lib.Utf8Tabs 1 2 w) :
    Calls Tryd.prog 93 #[.string s] w fun e w' => e = .returned (.tuple #[.int .i32 (Lib.decodeGo s).1, .int .i64 (Lib.decodeGo s).2]) ∧ Below w.heap.size w w' := Any.utf8_DecodeRuneInString Tryd.lays197 s w hT
end Go.Proofs
set_option maxRecDepth 100000
set_option maxHeartbeats 4000000
set_option linter.unusedSimpArgs false
set_option linter.unusedVariables false
namespace Go.Sx
open Go.Proofs Sp
theorem ent93 : entersP P 93 = true := by kernel_rfl
theorem decode_ok (s : ByteArray) : CallsF P G 93 [.sc (.string s)] (.tup [.sc (.int .i32 (Lib.decodeGo s).1), int (Lib.decodeGo s).2]) := by
  intro w ok vs hg hok hv
  simp only [FRelL, FRel] at hv
  obtain ⟨v, r, rfl, rfl, rfl⟩ := hv
  unfold CallY
  rw [run_enter ent93]
  simp only
  refine (Tryd.utf8_DecodeRuneInString s w hg).mono ?_
  rintro e w' ⟨rfl, hb⟩
  exact ⟨_, rfl, by simp only [FRel, FRelL, int]; exact ⟨_, rfl, _, _, rfl, rfl, _, _, rfl, rfl, rfl⟩, ⟨hb, fun h => by cases h⟩⟩
/-- Where the letters of a text begin, one by one. -/
def posAt (s : ByteArray) : Nat → Nat
  | 0 => 0
  | i + 1 => posAt s i + (Utf8.decode s (posAt s i)).2
def Sutf (s : ByteArray) (i : Nat) : St := { sl := slots 24 [(0, .f (.sc (.string s))), (2, .f (bool false)), (8, .loc 0 0)], ob := [(0, .iter s (posAt s i))], nx := 1 }
def restD (s : ByteArray) (p : Nat) : FV := .tup [.sc (.int .i32 (Lib.decodeGo (s.extract ((p : Int).toNat) (s.size : Int).toNat)).1), int (Lib.decodeGo (s.extract ((p : Int).toNat) (s.size : Int).toNat)).2]
def badAt (s : ByteArray) (p : Nat) : Prop := (Utf8.decode s p).1 = 65533 ∧ (Lib.decodeGo (s.extract p s.size)).2 = 1
def Hutf (s : ByteArray) (i : Nat) : List Hint := [.dec true, .dec true, .br [.call (restD s (posAt s i)), .dec false] []]
theorem get77 : P.funcs[77]? = some Tryd.f77 := by kernel_rfl
theorem ent77 : entersP P 77 = true := by kernel_rfl
theorem utf_good (s : ByteArray) (N : Nat) (h : ∀ i, i < N → posAt s i < s.size ∧ ¬ badAt s (posAt s i)) (hN : ¬ posAt s N < s.size) : CallsF P G 77 [.sc (.string s)] (bool true) := by
  refine sx_fn (hs := [.loop [(0, 0)] [(0, 0)] (Sutf s) N (Hutf s), .dec false, .dec false]) (let z1 := E (AV.f (FV.sc (Value.string s))) ∧ E (AV.f (bool false)) ∧ E (AV.loc 0 0) ∧ True; let z2 := (↑(ByteArray.size s) : Int); (E true ∧ z1 ∧ (Ob.iter s 0 = Ob.iter s (posAt s 0) ∧ True) ∧ E true ∧ (false = true → false = true)) ∧ (∀ (i : Nat), (let z3 := Lib.decodeGo (ByteArray.extract s (posAt s i) (ByteArray.size s)); let z4 := Ob.iter s (posAt s i + Prod.snd (Utf8.decode s (posAt s i))) = Ob.iter s (posAt s (i + 1)) ∧ True; i < N → posAt s i < ByteArray.size s ∧ E true ∧ Br ((↑(Prod.fst (Utf8.decode s (posAt s i))) : Int) == 65533) (((0 : Int) ≤ (↑(posAt s i) : Int) ∧ (↑(posAt s i) : Int) ≤ Option.getD none z2 ∧ Option.getD none z2 ≤ z2) ∧ CallsF P G 93 [FV.sc (Value.string (ByteArray.extract s (posAt s i) (Int.toNat (Option.getD none z2))))] (FV.tup [FV.sc (Value.int IntKind.i32 (↑(Prod.fst z3) : Int)), int (↑(Prod.snd z3) : Int)]) ∧ ((↑(Prod.snd z3) : Int) == 1) = false ∧ E true ∧ z1 ∧ z4 ∧ E true ∧ (false = true → false = true)) (E true ∧ z1 ∧ z4 ∧ E true ∧ (false = true → false = true)))) ∧ ¬ (posAt s N < ByteArray.size s) ∧ E false ∧ E (bool true)) get77 ent77 (by kernel_rfl) ?_
  refine ⟨⟨rfl, ⟨rfl, rfl, rfl, trivial⟩, ⟨?_, trivial⟩, rfl, fun hi => ?_⟩, fun i => fun hi => ⟨?_, rfl, fun hi => ⟨⟨?_, ?_, ?_⟩, ?_, ?_, rfl, ⟨rfl, rfl, rfl, trivial⟩, ⟨?_, trivial⟩, rfl, fun hi => ?_⟩, fun hi => ⟨rfl, ⟨rfl, rfl, rfl, trivial⟩, ⟨?_, trivial⟩, rfl, fun hi => ?_⟩⟩, ?_, rfl, rfl⟩
  all_goals first | exact (h i (by assumption)).1 | exact hN | rfl | omega | (simp; done) | exact decode_ok _ | (have h1 := (h i (by assumption)).1; simp; omega) | (have h1 := (h i (by assumption)).2; simp [badAt] at h1 hi ⊢; exact fun h5 => h1 (by omega) (by omega))
theorem utf_bad (s : ByteArray) (N : Nat) (h : ∀ i, i < N → posAt s i < s.size ∧ ¬ badAt s (posAt s i)) (hN : posAt s N < s.size) (hb : badAt s (posAt s N)) : CallsF P G 77 [.sc (.string s)] (bool false) := by
  refine sx_fn (hs := [.loop [(0, 0)] [(0, 0)] (Sutf s) N (Hutf s), .dec true, .dec true, .dec true, .call (restD s (posAt s N)), .dec true]) (let z1 := (↑(ByteArray.size s) : Int); let z2 := E (AV.f (FV.sc (Value.string s))) ∧ E (AV.f (bool false)) ∧ E (AV.loc 0 0) ∧ True; let z3 := Lib.decodeGo (ByteArray.extract s (posAt s N) (ByteArray.size s)); let z4 := Int.toNat (Option.getD none z1); (E true ∧ z2 ∧ (Ob.iter s 0 = Ob.iter s (posAt s 0) ∧ True) ∧ E true ∧ (false = true → false = true)) ∧ (∀ (i : Nat), (let z5 := Lib.decodeGo (ByteArray.extract s (posAt s i) (ByteArray.size s)); let z6 := Ob.iter s (posAt s i + Prod.snd (Utf8.decode s (posAt s i))) = Ob.iter s (posAt s (i + 1)) ∧ True; i < N → posAt s i < ByteArray.size s ∧ E true ∧ Br ((↑(Prod.fst (Utf8.decode s (posAt s i))) : Int) == 65533) (((0 : Int) ≤ (↑(posAt s i) : Int) ∧ (↑(posAt s i) : Int) ≤ Option.getD none z1 ∧ Option.getD none z1 ≤ z1) ∧ CallsF P G 93 [FV.sc (Value.string (ByteArray.extract s (posAt s i) z4))] (FV.tup [FV.sc (Value.int IntKind.i32 (↑(Prod.fst z5) : Int)), int (↑(Prod.snd z5) : Int)]) ∧ ((↑(Prod.snd z5) : Int) == 1) = false ∧ E true ∧ z2 ∧ z6 ∧ E true ∧ (false = true → false = true)) (E true ∧ z2 ∧ z6 ∧ E true ∧ (false = true → false = true)))) ∧ posAt s N < ByteArray.size s ∧ E true ∧ ((↑(Prod.fst (Utf8.decode s (posAt s N))) : Int) == 65533) = true ∧ ((0 : Int) ≤ (↑(posAt s N) : Int) ∧ (↑(posAt s N) : Int) ≤ Option.getD none z1 ∧ Option.getD none z1 ≤ z1) ∧ CallsF P G 93 [FV.sc (Value.string (ByteArray.extract s (posAt s N) z4))] (FV.tup [FV.sc (Value.int IntKind.i32 (↑(Prod.fst z3) : Int)), int (↑(Prod.snd z3) : Int)]) ∧ ((↑(Prod.snd z3) : Int) == 1) = true ∧ E (bool false)) get77 ent77 (by kernel_rfl) ?_
  refine ⟨⟨rfl, ⟨rfl, rfl, rfl, trivial⟩, ⟨?_, trivial⟩, rfl, fun hi => ?_⟩, fun i => fun hi => ⟨?_, rfl, fun hi => ⟨⟨?_, ?_, ?_⟩, ?_, ?_, rfl, ⟨rfl, rfl, rfl, trivial⟩, ⟨?_, trivial⟩, rfl, fun hi => ?_⟩, fun hi => ⟨rfl, ⟨rfl, rfl, rfl, trivial⟩, ⟨?_, trivial⟩, rfl, fun hi => ?_⟩⟩, ?_, rfl, ?_, ⟨?_, ?_, ?_⟩, ?_, ?_, rfl⟩
  all_goals first | exact (h i (by assumption)).1 | exact hN | rfl | omega | (simp; done) | exact decode_ok _ | (have h1 := (h i (by assumption)).1; simp; omega) | (have h1 := (h i (by assumption)).2; simp [badAt] at h1 hi ⊢; exact fun h5 => h1 (by omega) (by omega)) | (simp [badAt] at hb ⊢; omega)
theorem posAt_ge (s : ByteArray) : ∀ i, i ≤ posAt s i
  | 0 => Nat.le_refl 0
  | i + 1 => by have := posAt_ge s i; have := Lib.width_pos s (posAt s i); simp only [posAt]; omega
open Classical in
/-- A text is UTF-8, in the words of the program's own decoder. -/
noncomputable def utfB (s : ByteArray) : Bool := decide (∀ i, posAt s i < s.size → ¬ badAt s (posAt s i))
open Classical in
theorem utf_ok (s : ByteArray) : CallsF P G 77 [.sc (.string s)] (bool (utfB s)) := by
  obtain ⟨N, h1, h2⟩ := exists_least (fun i => ¬ posAt s i < s.size ∨ badAt s (posAt s i)) ⟨s.size, .inl (by have := posAt_ge s s.size; omega)⟩
  have hb : ∀ i, i < N → posAt s i < s.size ∧ ¬ badAt s (posAt s i) := fun i hi => by
    constructor
    · apply Classical.byContradiction; intro h; have := h2 i (.inl h); omega
    · intro h; have := h2 i (.inr h); omega
  by_cases hN : posAt s N < s.size
  · have hbad := h1.resolve_left (fun h => h hN)
    have : utfB s = false := by
      unfold utfB
      rw [decide_eq_false_iff_not]
      exact fun h => h N hN hbad
    rw [this]; exact utf_bad s N hb hN hbad
  · have mono : ∀ i, N ≤ i → posAt s N ≤ posAt s i := by
      intro i hi
      induction i with
      | zero => have : N = 0 := by omega
                subst this; exact Nat.le_refl _
      | succ i ih =>
        rcases Nat.lt_or_ge N (i + 1) with h | h
        · have := ih (by omega); simp only [posAt]; omega
        · have : N = i + 1 := by omega
          subst this; exact Nat.le_refl _
    have : utfB s = true := by
      unfold utfB
      rw [decide_eq_true_iff]
      intro i hi
      rcases Nat.lt_or_ge i N with h | h
      · exact (hb i h).2
      · have := mono i h; omega
    rw [this]; exact utf_good s N hb hN
end Go.Sx
set_option maxRecDepth 100000
set_option maxHeartbeats 4000000
set_option linter.unusedSimpArgs false
set_option linter.unusedVariables false
namespace Go.Sx
open Go.Proofs Sp
theorem size_mk (s : List UInt8) : (ByteArray.mk s.toArray).size = s.length := by simp [ByteArray.size]
noncomputable def plainB : V → Bool
  | .mk k n s l => if (k ≠ 3 ∧ s ≠ []) ∨ (k ≠ 2 ∧ k ≠ 1 ∧ n ≠ 0) then false else if k = 1 then decide (n = 0 ∨ n = 1) else if k = 3 then decide (s.length ≤ 256) && utfB ⟨s.toArray⟩ else decide (0 ≤ k ∧ k ≤ 6)
theorem get64 : P.funcs[64]? = some Tryd.f64 := by kernel_rfl
theorem ent64 : entersP P 64 = true := by kernel_rfl
theorem plain_ok (k n : Int) (s : List UInt8) (l : List V)  : CallsF P G 64 [encV (.mk k n s l)] (bool (plainB (.mk k n s l))) := by
  refine sx_fn (hs := [.br [.br [.dec true] [.br [.br [.br [] [.br [.br [] []] [.br [.br [.call (bool (utfB { data := List.toArray s }))] []] [.br [] []]]]] [.dec false, .br [.br [] []] [.br [.br [.call (bool (utfB { data := List.toArray s }))] []] [.br [] []]]]] [.dec false, .dec false, .br [.br [] []] [.br [.br [.call (bool (utfB { data := List.toArray s }))] []] [.br [] []]]]]] [.dec false, .br [.br [.br [] [.br [.br [] []] [.br [.br [.call (bool (utfB { data := List.toArray s }))] []] [.br [] []]]]] [.dec false, .br [.br [] []] [.br [.br [.call (bool (utfB { data := List.toArray s }))] []] [.br [] []]]]] [.dec false, .dec false, .br [.br [] []] [.br [.br [.call (bool (utfB { data := List.toArray s }))] []] [.br [] []]]]]]) (let z1 := plainB (V.mk k n s l); let z3 := Br (n == 0) (bool true = bool z1) (bool (n == 1) = bool z1); let z4 := bool false = bool z1; let z2 := Br (decide (k ≥ 0)) (bool (decide (k ≤ 6)) = bool z1) z4; Br (k != 3) (Br (!ByteArray.toList { data := List.toArray s } == ByteArray.toList { data := #[] }) (E true ∧ bool false = bool z1) (Br (k != 2) (Br (k != 1) (Br (n != 0) z4 (Br (k == 1) z3 (Br (k == 3) (Br (decide ((↑(ByteArray.size { data := List.toArray s }) : Int) ≤ 256)) (CallsF P G 77 [str s] (bool (utfB { data := List.toArray s })) ∧ bool (utfB { data := List.toArray s }) = bool z1) z4) z2))) (E false ∧ Br (k == 1) z3 (Br (k == 3) (Br (decide ((↑(ByteArray.size { data := List.toArray s }) : Int) ≤ 256)) (CallsF P G 77 [str s] (bool (utfB { data := List.toArray s })) ∧ bool (utfB { data := List.toArray s }) = bool z1) z4) z2))) (E false ∧ E false ∧ Br (k == 1) z3 (Br (k == 3) (Br (decide ((↑(ByteArray.size { data := List.toArray s }) : Int) ≤ 256)) (CallsF P G 77 [str s] (bool (utfB { data := List.toArray s })) ∧ bool (utfB { data := List.toArray s }) = bool z1) z4) z2)))) (E false ∧ Br (k != 2) (Br (k != 1) (Br (n != 0) z4 (Br (k == 1) z3 (Br (k == 3) (Br (decide ((↑(ByteArray.size { data := List.toArray s }) : Int) ≤ 256)) (CallsF P G 77 [str s] (bool (utfB { data := List.toArray s })) ∧ bool (utfB { data := List.toArray s }) = bool z1) z4) z2))) (E false ∧ Br (k == 1) z3 (Br (k == 3) (Br (decide ((↑(ByteArray.size { data := List.toArray s }) : Int) ≤ 256)) (CallsF P G 77 [str s] (bool (utfB { data := List.toArray s })) ∧ bool (utfB { data := List.toArray s }) = bool z1) z4) z2))) (E false ∧ E false ∧ Br (k == 1) z3 (Br (k == 3) (Br (decide ((↑(ByteArray.size { data := List.toArray s }) : Int) ≤ 256)) (CallsF P G 77 [str s] (bool (utfB { data := List.toArray s })) ∧ bool (utfB { data := List.toArray s }) = bool z1) z4) z2)))) get64 ent64 (by kernel_rfl) ?_
  refine ⟨fun hi => ⟨fun hi => ⟨rfl, ?_⟩, fun hi => ⟨fun hi => ⟨fun hi => ⟨fun hi => ?_, fun hi => ⟨fun hi => ⟨fun hi => ?_, fun hi => ?_⟩, fun hi => ⟨fun hi => ⟨fun hi => ⟨?_, ?_⟩, fun hi => ?_⟩, fun hi => ⟨fun hi => ?_, fun hi => ?_⟩⟩⟩⟩, fun hi => ⟨rfl, fun hi => ⟨fun hi => ?_, fun hi => ?_⟩, fun hi => ⟨fun hi => ⟨fun hi => ⟨?_, ?_⟩, fun hi => ?_⟩, fun hi => ⟨fun hi => ?_, fun hi => ?_⟩⟩⟩⟩, fun hi => ⟨rfl, rfl, fun hi => ⟨fun hi => ?_, fun hi => ?_⟩, fun hi => ⟨fun hi => ⟨fun hi => ⟨?_, ?_⟩, fun hi => ?_⟩, fun hi => ⟨fun hi => ?_, fun hi => ?_⟩⟩⟩⟩⟩, fun hi => ⟨rfl, fun hi => ⟨fun hi => ⟨fun hi => ?_, fun hi => ⟨fun hi => ⟨fun hi => ?_, fun hi => ?_⟩, fun hi => ⟨fun hi => ⟨fun hi => ⟨?_, ?_⟩, fun hi => ?_⟩, fun hi => ⟨fun hi => ?_, fun hi => ?_⟩⟩⟩⟩, fun hi => ⟨rfl, fun hi => ⟨fun hi => ?_, fun hi => ?_⟩, fun hi => ⟨fun hi => ⟨fun hi => ⟨?_, ?_⟩, fun hi => ?_⟩, fun hi => ⟨fun hi => ?_, fun hi => ?_⟩⟩⟩⟩, fun hi => ⟨rfl, rfl, fun hi => ⟨fun hi => ?_, fun hi => ?_⟩, fun hi => ⟨fun hi => ⟨fun hi => ⟨?_, ?_⟩, fun hi => ?_⟩, fun hi => ⟨fun hi => ?_, fun hi => ?_⟩⟩⟩⟩⟩
  all_goals first | exact utf_ok _ | (simp_all [V.kind, V.num, V.text, V.items, plainB, size_mk, bool]; done) | (simp_all [V.kind, V.num, V.text, V.items, bool]; simp_all [plainB, size_mk]; grind)
end Go.Sx

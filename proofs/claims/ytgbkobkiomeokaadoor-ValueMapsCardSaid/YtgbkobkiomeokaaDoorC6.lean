/-
  Proved: what some functions of the program answer, or a law of the evaluator that shows it, one theorem each; its conditions are the hypotheses that stand ahead of it.
-/
import Derived.Test.YtgbkobkiomeokaaDoorC4
import Derived.Test.YtgbkobkiomeokaaDoorCSh
import Derived.Lib.TrimU
import Derived.KernelRfl
set_option maxRecDepth 100000
set_option maxHeartbeats 4000000
set_option linter.unusedSimpArgs false
set_option linter.unusedVariables false
namespace Go.Sx
open Go.Proofs Sp
theorem ent76 : entersP P 76 = true := by kernel_rfl
theorem decode_ok (s : ByteArray) : CallsF P G 76 [.sc (.string s)] (.tup [.sc (.int .i32 (Lib.decodeGo s).1), int (Lib.decodeGo s).2]) := by
  intro w ok vs hg hok hv
  simp only [FRelL, FRel] at hv
  obtain ⟨v, r, rfl, rfl, rfl⟩ := hv
  unfold CallY
  rw [run_enter ent76]
  simp only
  refine (Tryd.utf8_DecodeRuneInString s w hg).mono ?_
  rintro e w' ⟨rfl, hb⟩
  exact ⟨_, rfl, by simp only [FRel, FRelL, int]; exact ⟨_, rfl, _, _, rfl, rfl, _, _, rfl, rfl, rfl⟩, ⟨hb, fun h => by cases h⟩⟩
/-- Where the letters of a text begin, one by one. -/
def posAt (s : ByteArray) : Nat → Nat
  | 0 => 0
  | i + 1 => posAt s i + (Utf8.decode s (posAt s i)).2
def Sutf (s : ByteArray) (i : Nat) : St := { sl := slots 24 [(0, .f (.sc (.string s))), (2, .f (bool false)), (8, .loc 0 0)], ob := [(0, .iter s (posAt s i))], nx := 1 }
def restD (s : ByteArray) (p : Nat) : FV := .tup [.sc (.int .i32 (Lib.decodeGo (s.extract ((p : Int).toNat) (s.size : Int).toNat)).1), int (Lib.decodeGo (s.extract ((p : Int).toNat) (s.size : Int).toNat)).2]
def badAt (s : ByteArray) (p : Nat) : Prop := (Utf8.decode s p).1 = 65533 ∧ (Lib.decodeGo (s.extract p s.size)).2 = 1
def Hutf (s : ByteArray) (i : Nat) : List Hint := [.dec true, .dec true, .br [.call (restD s (posAt s i)), .dec false] []]
theorem get62 : P.funcs[62]? = some Tryd.f62 := by kernel_rfl
theorem ent62 : entersP P 62 = true := by kernel_rfl
theorem utf_good (s : ByteArray) (N : Nat) (h : ∀ i, i < N → posAt s i < s.size ∧ ¬ badAt s (posAt s i)) (hN : ¬ posAt s N < s.size) : CallsF P G 62 [.sc (.string s)] (bool true) := by
  refine sx_fn (hs := [.loop [(0, 0)] [(0, 0)] (Sutf s) N (Hutf s), .dec false, .dec false]) (let z1 := E (AV.f (FV.sc (Value.string s))) ∧ E (AV.f (bool false)) ∧ E (AV.loc 0 0) ∧ True; let z2 := (↑(ByteArray.size s) : Int); (E true ∧ z1 ∧ (Ob.iter s 0 = Ob.iter s (posAt s 0) ∧ True) ∧ E true ∧ (false = true → false = true)) ∧ (∀ (i : Nat), (let z3 := Lib.decodeGo (ByteArray.extract s (posAt s i) (ByteArray.size s)); let z4 := Ob.iter s (posAt s i + Prod.snd (Utf8.decode s (posAt s i))) = Ob.iter s (posAt s (i + 1)) ∧ True; i < N → posAt s i < ByteArray.size s ∧ E true ∧ Br ((↑(Prod.fst (Utf8.decode s (posAt s i))) : Int) == 65533) (((0 : Int) ≤ (↑(posAt s i) : Int) ∧ (↑(posAt s i) : Int) ≤ Option.getD none z2 ∧ Option.getD none z2 ≤ z2) ∧ CallsF P G 76 [FV.sc (Value.string (ByteArray.extract s (posAt s i) (Int.toNat (Option.getD none z2))))] (FV.tup [FV.sc (Value.int IntKind.i32 (↑(Prod.fst z3) : Int)), int (↑(Prod.snd z3) : Int)]) ∧ ((↑(Prod.snd z3) : Int) == 1) = false ∧ E true ∧ z1 ∧ z4 ∧ E true ∧ (false = true → false = true)) (E true ∧ z1 ∧ z4 ∧ E true ∧ (false = true → false = true)))) ∧ ¬ (posAt s N < ByteArray.size s) ∧ E false ∧ E (bool true)) get62 ent62 (by kernel_rfl) ?_
  refine ⟨⟨rfl, ⟨rfl, rfl, rfl, trivial⟩, ⟨?_, trivial⟩, rfl, fun hi => ?_⟩, fun i => fun hi => ⟨?_, rfl, fun hi => ⟨⟨?_, ?_, ?_⟩, ?_, ?_, rfl, ⟨rfl, rfl, rfl, trivial⟩, ⟨?_, trivial⟩, rfl, fun hi => ?_⟩, fun hi => ⟨rfl, ⟨rfl, rfl, rfl, trivial⟩, ⟨?_, trivial⟩, rfl, fun hi => ?_⟩⟩, ?_, rfl, rfl⟩
  all_goals first | exact (h i (by assumption)).1 | exact hN | rfl | omega | (simp; done) | exact decode_ok _ | (have h1 := (h i (by assumption)).1; simp; omega) | (have h1 := (h i (by assumption)).2; simp [badAt] at h1 hi ⊢; exact fun h5 => h1 (by omega) (by omega))
theorem utf_bad (s : ByteArray) (N : Nat) (h : ∀ i, i < N → posAt s i < s.size ∧ ¬ badAt s (posAt s i)) (hN : posAt s N < s.size) (hb : badAt s (posAt s N)) : CallsF P G 62 [.sc (.string s)] (bool false) := by
  refine sx_fn (hs := [.loop [(0, 0)] [(0, 0)] (Sutf s) N (Hutf s), .dec true, .dec true, .dec true, .call (restD s (posAt s N)), .dec true]) (let z1 := (↑(ByteArray.size s) : Int); let z2 := E (AV.f (FV.sc (Value.string s))) ∧ E (AV.f (bool false)) ∧ E (AV.loc 0 0) ∧ True; let z3 := Lib.decodeGo (ByteArray.extract s (posAt s N) (ByteArray.size s)); let z4 := Int.toNat (Option.getD none z1); (E true ∧ z2 ∧ (Ob.iter s 0 = Ob.iter s (posAt s 0) ∧ True) ∧ E true ∧ (false = true → false = true)) ∧ (∀ (i : Nat), (let z5 := Lib.decodeGo (ByteArray.extract s (posAt s i) (ByteArray.size s)); let z6 := Ob.iter s (posAt s i + Prod.snd (Utf8.decode s (posAt s i))) = Ob.iter s (posAt s (i + 1)) ∧ True; i < N → posAt s i < ByteArray.size s ∧ E true ∧ Br ((↑(Prod.fst (Utf8.decode s (posAt s i))) : Int) == 65533) (((0 : Int) ≤ (↑(posAt s i) : Int) ∧ (↑(posAt s i) : Int) ≤ Option.getD none z1 ∧ Option.getD none z1 ≤ z1) ∧ CallsF P G 76 [FV.sc (Value.string (ByteArray.extract s (posAt s i) z4))] (FV.tup [FV.sc (Value.int IntKind.i32 (↑(Prod.fst z5) : Int)), int (↑(Prod.snd z5) : Int)]) ∧ ((↑(Prod.snd z5) : Int) == 1) = false ∧ E true ∧ z2 ∧ z6 ∧ E true ∧ (false = true → false = true)) (E true ∧ z2 ∧ z6 ∧ E true ∧ (false = true → false = true)))) ∧ posAt s N < ByteArray.size s ∧ E true ∧ ((↑(Prod.fst (Utf8.decode s (posAt s N))) : Int) == 65533) = true ∧ ((0 : Int) ≤ (↑(posAt s N) : Int) ∧ (↑(posAt s N) : Int) ≤ Option.getD none z1 ∧ Option.getD none z1 ≤ z1) ∧ CallsF P G 76 [FV.sc (Value.string (ByteArray.extract s (posAt s N) z4))] (FV.tup [FV.sc (Value.int IntKind.i32 (↑(Prod.fst z3) : Int)), int (↑(Prod.snd z3) : Int)]) ∧ ((↑(Prod.snd z3) : Int) == 1) = true ∧ E (bool false)) get62 ent62 (by kernel_rfl) ?_
  refine ⟨⟨rfl, ⟨rfl, rfl, rfl, trivial⟩, ⟨?_, trivial⟩, rfl, fun hi => ?_⟩, fun i => fun hi => ⟨?_, rfl, fun hi => ⟨⟨?_, ?_, ?_⟩, ?_, ?_, rfl, ⟨rfl, rfl, rfl, trivial⟩, ⟨?_, trivial⟩, rfl, fun hi => ?_⟩, fun hi => ⟨rfl, ⟨rfl, rfl, rfl, trivial⟩, ⟨?_, trivial⟩, rfl, fun hi => ?_⟩⟩, ?_, rfl, ?_, ⟨?_, ?_, ?_⟩, ?_, ?_, rfl⟩
  all_goals first | exact (h i (by assumption)).1 | exact hN | rfl | omega | (simp; done) | exact decode_ok _ | (have h1 := (h i (by assumption)).1; simp; omega) | (have h1 := (h i (by assumption)).2; simp [badAt] at h1 hi ⊢; exact fun h5 => h1 (by omega) (by omega)) | (simp [badAt] at hb ⊢; omega)
theorem posAt_ge (s : ByteArray) : ∀ i, i ≤ posAt s i
  | 0 => Nat.le_refl 0
  | i + 1 => by have := posAt_ge s i; have := Lib.width_pos s (posAt s i); simp only [posAt]; omega
open Classical in
/-- A text is UTF-8, in the words of the program's own decoder. -/
noncomputable def utfB (s : ByteArray) : Bool := decide (∀ i, posAt s i < s.size → ¬ badAt s (posAt s i))
open Classical in
theorem utf_ok (s : ByteArray) : CallsF P G 62 [.sc (.string s)] (bool (utfB s)) := by
  obtain ⟨N, h1, h2⟩ := exists_least (fun i => ¬ posAt s i < s.size ∨ badAt s (posAt s i)) ⟨s.size, .inl (by have := posAt_ge s s.size; omega)⟩
  have hb : ∀ i, i < N → posAt s i < s.size ∧ ¬ badAt s (posAt s i) := fun i hi => by
    constructor
    · apply Classical.byContradiction; intro h; have := h2 i (.inl h); omega
    · intro h; have := h2 i (.inr h); omega
  by_cases hN : posAt s N < s.size
  · have hbad := h1.resolve_left (fun h => h hN)
    have : utfB s = false := by
      unfold utfB
      rw [decide_eq_false_iff_not]
      exact fun h => h N hN hbad
    rw [this]; exact utf_bad s N hb hN hbad
  · have mono : ∀ i, N ≤ i → posAt s N ≤ posAt s i := by
      intro i hi
      induction i with
      | zero => have : N = 0 := by omega
                subst this; exact Nat.le_refl _
      | succ i ih =>
        rcases Nat.lt_or_ge N (i + 1) with h | h
        · have := ih (by omega); simp only [posAt]; omega
        · have : N = i + 1 := by omega
          subst this; exact Nat.le_refl _
    have : utfB s = true := by
      unfold utfB
      rw [decide_eq_true_iff]
      intro i hi
      rcases Nat.lt_or_ge i N with h | h
      · exact (hb i h).2
      · have := mono i h; omega
    rw [this]; exact utf_good s N hb hN
end Go.Sx
set_option maxRecDepth 100000
set_option maxHeartbeats 4000000
set_option linter.unusedSimpArgs false
set_option linter.unusedVariables false
namespace Go.Sx
open Go.Proofs Sp
theorem size_mk (s : List UInt8) : (ByteArray.mk s.toArray).size = s.length := by simp [ByteArray.size]
noncomputable def plainB : V → Bool
  | .mk k n s l => if (k ≠ 3 ∧ s ≠ []) ∨ (k ≠ 2 ∧ k ≠ 1 ∧ n ≠ 0) then false else if k = 1 then decide (n = 0 ∨ n = 1) else if k = 3 then decide (s.length ≤ 256) && utfB ⟨s.toArray⟩ else decide (0 ≤ k ∧ k ≤ 6)
theorem get55 : P.funcs[55]? = some Tryd.f55 := by kernel_rfl
theorem ent55 : entersP P 55 = true := by kernel_rfl
theorem plain_ok (k n : Int) (s : List UInt8) (l : List V)  : CallsF P G 55 [encV (.mk k n s l)] (bool (plainB (.mk k n s l))) := by
  refine sx_fn (hs := [.br [.br [.dec true] [.br [.br [.br [] [.br [.br [] []] [.br [.br [.call (bool (utfB { data := List.toArray s }))] []] [.br [] []]]]] [.dec false, .br [.br [] []] [.br [.br [.call (bool (utfB { data := List.toArray s }))] []] [.br [] []]]]] [.dec false, .dec false, .br [.br [] []] [.br [.br [.call (bool (utfB { data := List.toArray s }))] []] [.br [] []]]]]] [.dec false, .br [.br [.br [] [.br [.br [] []] [.br [.br [.call (bool (utfB { data := List.toArray s }))] []] [.br [] []]]]] [.dec false, .br [.br [] []] [.br [.br [.call (bool (utfB { data := List.toArray s }))] []] [.br [] []]]]] [.dec false, .dec false, .br [.br [] []] [.br [.br [.call (bool (utfB { data := List.toArray s }))] []] [.br [] []]]]]]) (let z1 := plainB (V.mk k n s l); let z3 := Br (n == 0) (bool true = bool z1) (bool (n == 1) = bool z1); let z4 := bool false = bool z1; let z2 := Br (decide (k ≥ 0)) (bool (decide (k ≤ 6)) = bool z1) z4; Br (k != 3) (Br (!ByteArray.toList { data := List.toArray s } == ByteArray.toList { data := #[] }) (E true ∧ bool false = bool z1) (Br (k != 2) (Br (k != 1) (Br (n != 0) z4 (Br (k == 1) z3 (Br (k == 3) (Br (decide ((↑(ByteArray.size { data := List.toArray s }) : Int) ≤ 256)) (CallsF P G 62 [str s] (bool (utfB { data := List.toArray s })) ∧ bool (utfB { data := List.toArray s }) = bool z1) z4) z2))) (E false ∧ Br (k == 1) z3 (Br (k == 3) (Br (decide ((↑(ByteArray.size { data := List.toArray s }) : Int) ≤ 256)) (CallsF P G 62 [str s] (bool (utfB { data := List.toArray s })) ∧ bool (utfB { data := List.toArray s }) = bool z1) z4) z2))) (E false ∧ E false ∧ Br (k == 1) z3 (Br (k == 3) (Br (decide ((↑(ByteArray.size { data := List.toArray s }) : Int) ≤ 256)) (CallsF P G 62 [str s] (bool (utfB { data := List.toArray s })) ∧ bool (utfB { data := List.toArray s }) = bool z1) z4) z2)))) (E false ∧ Br (k != 2) (Br (k != 1) (Br (n != 0) z4 (Br (k == 1) z3 (Br (k == 3) (Br (decide ((↑(ByteArray.size { data := List.toArray s }) : Int) ≤ 256)) (CallsF P G 62 [str s] (bool (utfB { data := List.toArray s })) ∧ bool (utfB { data := List.toArray s }) = bool z1) z4) z2))) (E false ∧ Br (k == 1) z3 (Br (k == 3) (Br (decide ((↑(ByteArray.size { data := List.toArray s }) : Int) ≤ 256)) (CallsF P G 62 [str s] (bool (utfB { data := List.toArray s })) ∧ bool (utfB { data := List.toArray s }) = bool z1) z4) z2))) (E false ∧ E false ∧ Br (k == 1) z3 (Br (k == 3) (Br (decide ((↑(ByteArray.size { data := List.toArray s }) : Int) ≤ 256)) (CallsF P G 62 [str s] (bool (utfB { data := List.toArray s })) ∧ bool (utfB { data := List.toArray s }) = bool z1) z4) z2)))) get55 ent55 (by kernel_rfl) ?_
  refine ⟨fun hi => ⟨fun hi => ⟨rfl, ?_⟩, fun hi => ⟨fun hi => ⟨fun hi => ⟨fun hi => ?_, fun hi => ⟨fun hi => ⟨fun hi => ?_, fun hi => ?_⟩, fun hi => ⟨fun hi => ⟨fun hi => ⟨?_, ?_⟩, fun hi => ?_⟩, fun hi => ⟨fun hi => ?_, fun hi => ?_⟩⟩⟩⟩, fun hi => ⟨rfl, fun hi => ⟨fun hi => ?_, fun hi => ?_⟩, fun hi => ⟨fun hi => ⟨fun hi => ⟨?_, ?_⟩, fun hi => ?_⟩, fun hi => ⟨fun hi => ?_, fun hi => ?_⟩⟩⟩⟩, fun hi => ⟨rfl, rfl, fun hi => ⟨fun hi => ?_, fun hi => ?_⟩, fun hi => ⟨fun hi => ⟨fun hi => ⟨?_, ?_⟩, fun hi => ?_⟩, fun hi => ⟨fun hi => ?_, fun hi => ?_⟩⟩⟩⟩⟩, fun hi => ⟨rfl, fun hi => ⟨fun hi => ⟨fun hi => ?_, fun hi => ⟨fun hi => ⟨fun hi => ?_, fun hi => ?_⟩, fun hi => ⟨fun hi => ⟨fun hi => ⟨?_, ?_⟩, fun hi => ?_⟩, fun hi => ⟨fun hi => ?_, fun hi => ?_⟩⟩⟩⟩, fun hi => ⟨rfl, fun hi => ⟨fun hi => ?_, fun hi => ?_⟩, fun hi => ⟨fun hi => ⟨fun hi => ⟨?_, ?_⟩, fun hi => ?_⟩, fun hi => ⟨fun hi => ?_, fun hi => ?_⟩⟩⟩⟩, fun hi => ⟨rfl, rfl, fun hi => ⟨fun hi => ?_, fun hi => ?_⟩, fun hi => ⟨fun hi => ⟨fun hi => ⟨?_, ?_⟩, fun hi => ?_⟩, fun hi => ⟨fun hi => ?_, fun hi => ?_⟩⟩⟩⟩⟩
  all_goals first | exact utf_ok _ | (simp_all [V.kind, V.num, V.text, V.items, plainB, size_mk, bool]; done) | (simp_all [V.kind, V.num, V.text, V.items, bool]; simp_all [plainB, size_mk]; grind)
end Go.Sx

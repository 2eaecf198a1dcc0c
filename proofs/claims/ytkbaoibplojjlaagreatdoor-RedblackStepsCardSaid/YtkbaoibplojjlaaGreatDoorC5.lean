/-
  Proved: what some functions of the program answer, or a law of the evaluator that shows it, one theorem each; its conditions are the hypotheses that stand ahead of it.
-/
import Derived.Test.YtkbaoibplojjlaaGreatDoorC4
import Derived.Test.YtkbaoibplojjlaaGreatDoorCSh
import Derived.Lib.TrimU
import Derived.KernelRfl
set_option maxRecDepth 100000
set_option maxHeartbeats 4000000
set_option linter.unusedSimpArgs false
set_option linter.unusedVariables false
namespace Go.Sx
open Go.Proofs Sp
theorem get171 : P.funcs[171]? = some Tryz.f171 := by kernel_rfl
theorem ent171 : entersP P 171 = true := by kernel_rfl
theorem decode_ok (s : ByteArray) : CallsF P G 171 [.sc (.string s)] (.tup [.sc (.int .i32 (Lib.decodeGo s).1), int (Lib.decodeGo s).2]) := by
  intro w ok vs hg hok hv
  simp only [FRelL, FRel] at hv
  obtain ⟨v, r, rfl, rfl, rfl⟩ := hv
  unfold CallY
  rw [run_enter ent171]
  simp only
  refine (Tryz.utf8_DecodeRuneInString s w hg).mono ?_
  rintro e w' ⟨rfl, hb⟩
  exact ⟨_, rfl, by simp only [FRel, FRelL, int]; exact ⟨_, rfl, _, _, rfl, rfl, _, _, rfl, rfl, rfl⟩, ⟨hb, fun h => by cases h⟩⟩
/-- Where the letters of a text begin, one by one. -/

def posAt (s : ByteArray) : Nat → Nat
  | 0 => 0
  | i + 1 => posAt s i + (Utf8.decode s (posAt s i)).2
def Sutf (s : ByteArray) (i : Nat) : St := { sl := slots 24 [(0, .f (.sc (.string s))), (2, .f (bool false)), (8, .loc 0 0)], ob := [(0, .iter s (posAt s i))], nx := 1 }
def restD (s : ByteArray) (p : Nat) : FV := .tup [.sc (.int .i32 (Lib.decodeGo (s.extract ((p : Int).toNat) (s.size : Int).toNat)).1), int (Lib.decodeGo (s.extract ((p : Int).toNat) (s.size : Int).toNat)).2]
def badAt (s : ByteArray) (p : Nat) : Prop := (Utf8.decode s p).1 = 65533 ∧ (Lib.decodeGo (s.extract p s.size)).2 = 1
def Hutf (s : ByteArray) (i : Nat) : List Hint := [.dec true, .dec true, .br [.call (restD s (posAt s i)), .dec false] []]
theorem get163 : P.funcs[163]? = some Tryz.f163 := by kernel_rfl
theorem ent163 : entersP P 163 = true := by kernel_rfl
theorem utf_good (s : ByteArray) (N : Nat) (h : ∀ i, i < N → posAt s i < s.size ∧ ¬ badAt s (posAt s i)) (hN : ¬ posAt s N < s.size) : CallsF P G 163 [.sc (.string s)] (bool true) := by
  refine sx_fn (hs := [.loop [(0, 0)] [(0, 0)] (Sutf s) N (Hutf s), .dec false, .dec false]) (((E (true)) ∧ ((E (AV.f (FV.sc (Value.string s)))) ∧ (E (AV.f (bool false))) ∧ (E (AV.loc 0 0)) ∧ True) ∧ (((Ob.iter s 0) = (Ob.iter s (posAt s 0))) ∧ True) ∧ (E (true)) ∧ (((false) = (true)) → ((false) = (true)))) ∧ ((∀ (i : Nat), ((i < N) → ((posAt s i < ByteArray.size s) ∧ (E (true)) ∧ (((((↑(Prod.fst (Utf8.decode s (posAt s i))) : Int) == 65533) = (true)) → ((((0 : Int) ≤ (↑(posAt s i) : Int)) ∧ ((↑(posAt s i) : Int) ≤ Option.getD none (↑(ByteArray.size s) : Int)) ∧ Option.getD none (↑(ByteArray.size s) : Int) ≤ (↑(ByteArray.size s) : Int)) ∧ (CallsF P G 171 [FV.sc (Value.string (ByteArray.extract s (posAt s i) (Int.toNat (Option.getD none (↑(ByteArray.size s) : Int)))))] (FV.tup [FV.sc (Value.int IntKind.i32 (↑(Prod.fst (Lib.decodeGo (ByteArray.extract s (posAt s i) (ByteArray.size s)))) : Int)), int (↑(Prod.snd (Lib.decodeGo (ByteArray.extract s (posAt s i) (ByteArray.size s)))) : Int)])) ∧ (((↑(Prod.snd (Lib.decodeGo (ByteArray.extract s (posAt s i) (ByteArray.size s)))) : Int) == 1) = (false)) ∧ (E (true)) ∧ ((E (AV.f (FV.sc (Value.string s)))) ∧ (E (AV.f (bool false))) ∧ (E (AV.loc 0 0)) ∧ True) ∧ (((Ob.iter s (posAt s i + Prod.snd (Utf8.decode s (posAt s i)))) = (Ob.iter s (posAt s (i + 1)))) ∧ True) ∧ (E (true)) ∧ (((false) = (true)) → ((false) = (true)))))) ∧ ((((↑(Prod.fst (Utf8.decode s (posAt s i))) : Int) == 65533) = (false)) → ((E (true)) ∧ ((E (AV.f (FV.sc (Value.string s)))) ∧ (E (AV.f (bool false))) ∧ (E (AV.loc 0 0)) ∧ True) ∧ (((Ob.iter s (posAt s i + Prod.snd (Utf8.decode s (posAt s i)))) = (Ob.iter s (posAt s (i + 1)))) ∧ True) ∧ (E (true)) ∧ (((false) = (true)) → ((false) = (true))))))))) ∧ (¬ (posAt s N < ByteArray.size s)) ∧ (E (false)) ∧ E (bool true)) get163 ent163 (by kernel_rfl) ?_
  refine ⟨⟨rfl, ⟨⟨rfl, ⟨rfl, ⟨rfl, trivial⟩⟩⟩, ⟨⟨?_, trivial⟩, ⟨rfl, fun hi => ?_⟩⟩⟩⟩, ⟨fun i => fun hi => ⟨?_, ⟨rfl, ⟨fun hi => ⟨⟨?_, ⟨?_, ?_⟩⟩, ⟨?_, ⟨?_, ⟨rfl, ⟨⟨rfl, ⟨rfl, ⟨rfl, trivial⟩⟩⟩, ⟨⟨?_, trivial⟩, ⟨rfl, fun hi => ?_⟩⟩⟩⟩⟩⟩⟩, fun hi => ⟨rfl, ⟨⟨rfl, ⟨rfl, ⟨rfl, trivial⟩⟩⟩, ⟨⟨?_, trivial⟩, ⟨rfl, fun hi => ?_⟩⟩⟩⟩⟩⟩⟩, ⟨?_, ⟨rfl, rfl⟩⟩⟩⟩
  all_goals first | exact (h i (by assumption)).1 | exact hN | rfl | omega | (simp; done) | exact decode_ok _ | (have h1 := (h i (by assumption)).1; simp; omega) | (have h1 := (h i (by assumption)).2; simp [badAt] at h1 hi ⊢; exact fun h5 => h1 (by omega) (by omega))
theorem utf_bad (s : ByteArray) (N : Nat) (h : ∀ i, i < N → posAt s i < s.size ∧ ¬ badAt s (posAt s i)) (hN : posAt s N < s.size) (hb : badAt s (posAt s N)) : CallsF P G 163 [.sc (.string s)] (bool false) := by
  refine sx_fn (hs := [.loop [(0, 0)] [(0, 0)] (Sutf s) N (Hutf s), .dec true, .dec true, .dec true, .call (restD s (posAt s N)), .dec true]) (((E (true)) ∧ ((E (AV.f (FV.sc (Value.string s)))) ∧ (E (AV.f (bool false))) ∧ (E (AV.loc 0 0)) ∧ True) ∧ (((Ob.iter s 0) = (Ob.iter s (posAt s 0))) ∧ True) ∧ (E (true)) ∧ (((false) = (true)) → ((false) = (true)))) ∧ ((∀ (i : Nat), ((i < N) → ((posAt s i < ByteArray.size s) ∧ (E (true)) ∧ (((((↑(Prod.fst (Utf8.decode s (posAt s i))) : Int) == 65533) = (true)) → ((((0 : Int) ≤ (↑(posAt s i) : Int)) ∧ ((↑(posAt s i) : Int) ≤ Option.getD none (↑(ByteArray.size s) : Int)) ∧ Option.getD none (↑(ByteArray.size s) : Int) ≤ (↑(ByteArray.size s) : Int)) ∧ (CallsF P G 171 [FV.sc (Value.string (ByteArray.extract s (posAt s i) (Int.toNat (Option.getD none (↑(ByteArray.size s) : Int)))))] (FV.tup [FV.sc (Value.int IntKind.i32 (↑(Prod.fst (Lib.decodeGo (ByteArray.extract s (posAt s i) (ByteArray.size s)))) : Int)), int (↑(Prod.snd (Lib.decodeGo (ByteArray.extract s (posAt s i) (ByteArray.size s)))) : Int)])) ∧ (((↑(Prod.snd (Lib.decodeGo (ByteArray.extract s (posAt s i) (ByteArray.size s)))) : Int) == 1) = (false)) ∧ (E (true)) ∧ ((E (AV.f (FV.sc (Value.string s)))) ∧ (E (AV.f (bool false))) ∧ (E (AV.loc 0 0)) ∧ True) ∧ (((Ob.iter s (posAt s i + Prod.snd (Utf8.decode s (posAt s i)))) = (Ob.iter s (posAt s (i + 1)))) ∧ True) ∧ (E (true)) ∧ (((false) = (true)) → ((false) = (true)))))) ∧ ((((↑(Prod.fst (Utf8.decode s (posAt s i))) : Int) == 65533) = (false)) → ((E (true)) ∧ ((E (AV.f (FV.sc (Value.string s)))) ∧ (E (AV.f (bool false))) ∧ (E (AV.loc 0 0)) ∧ True) ∧ (((Ob.iter s (posAt s i + Prod.snd (Utf8.decode s (posAt s i)))) = (Ob.iter s (posAt s (i + 1)))) ∧ True) ∧ (E (true)) ∧ (((false) = (true)) → ((false) = (true))))))))) ∧ (posAt s N < ByteArray.size s) ∧ (E (true)) ∧ (((↑(Prod.fst (Utf8.decode s (posAt s N))) : Int) == 65533) = (true)) ∧ (((0 : Int) ≤ (↑(posAt s N) : Int)) ∧ ((↑(posAt s N) : Int) ≤ Option.getD none (↑(ByteArray.size s) : Int)) ∧ Option.getD none (↑(ByteArray.size s) : Int) ≤ (↑(ByteArray.size s) : Int)) ∧ (CallsF P G 171 [FV.sc (Value.string (ByteArray.extract s (posAt s N) (Int.toNat (Option.getD none (↑(ByteArray.size s) : Int)))))] (FV.tup [FV.sc (Value.int IntKind.i32 (↑(Prod.fst (Lib.decodeGo (ByteArray.extract s (posAt s N) (ByteArray.size s)))) : Int)), int (↑(Prod.snd (Lib.decodeGo (ByteArray.extract s (posAt s N) (ByteArray.size s)))) : Int)])) ∧ (((↑(Prod.snd (Lib.decodeGo (ByteArray.extract s (posAt s N) (ByteArray.size s)))) : Int) == 1) = (true)) ∧ E (bool false)) get163 ent163 (by kernel_rfl) ?_
  refine ⟨⟨rfl, ⟨⟨rfl, ⟨rfl, ⟨rfl, trivial⟩⟩⟩, ⟨⟨?_, trivial⟩, ⟨rfl, fun hi => ?_⟩⟩⟩⟩, ⟨fun i => fun hi => ⟨?_, ⟨rfl, ⟨fun hi => ⟨⟨?_, ⟨?_, ?_⟩⟩, ⟨?_, ⟨?_, ⟨rfl, ⟨⟨rfl, ⟨rfl, ⟨rfl, trivial⟩⟩⟩, ⟨⟨?_, trivial⟩, ⟨rfl, fun hi => ?_⟩⟩⟩⟩⟩⟩⟩, fun hi => ⟨rfl, ⟨⟨rfl, ⟨rfl, ⟨rfl, trivial⟩⟩⟩, ⟨⟨?_, trivial⟩, ⟨rfl, fun hi => ?_⟩⟩⟩⟩⟩⟩⟩, ⟨?_, ⟨rfl, ⟨?_, ⟨⟨?_, ⟨?_, ?_⟩⟩, ⟨?_, ⟨?_, rfl⟩⟩⟩⟩⟩⟩⟩⟩
  all_goals first | exact (h i (by assumption)).1 | exact hN | rfl | omega | (simp; done) | exact decode_ok _ | (have h1 := (h i (by assumption)).1; simp; omega) | (have h1 := (h i (by assumption)).2; simp [badAt] at h1 hi ⊢; exact fun h5 => h1 (by omega) (by omega)) | (simp [badAt] at hb ⊢; omega)
theorem posAt_ge (s : ByteArray) : ∀ i, i ≤ posAt s i
  | 0 => Nat.le_refl 0
  | i + 1 => by have := posAt_ge s i; have := Lib.width_pos s (posAt s i); simp only [posAt]; omega
open Classical in
/-- A text is UTF-8, in the words of the program's own decoder. -/
noncomputable def utfB (s : ByteArray) : Bool := decide (∀ i, posAt s i < s.size → ¬ badAt s (posAt s i))
open Classical in
theorem utf_ok (s : ByteArray) : CallsF P G 163 [.sc (.string s)] (bool (utfB s)) := by
  obtain ⟨N, h1, h2⟩ := exists_least (fun i => ¬ posAt s i < s.size ∨ badAt s (posAt s i)) ⟨s.size, .inl (by have := posAt_ge s s.size; omega)⟩
  have hb : ∀ i, i < N → posAt s i < s.size ∧ ¬ badAt s (posAt s i) := fun i hi => by
    constructor
    · apply Classical.byContradiction; intro h; have := h2 i (.inl h); omega
    · intro h; have := h2 i (.inr h); omega
  by_cases hN : posAt s N < s.size
  · have hbad := h1.resolve_left (fun h => h hN)
    have : utfB s = false := by
      unfold utfB
      rw [decide_eq_false_iff_not]
      exact fun h => h N hN hbad
    rw [this]; exact utf_bad s N hb hN hbad
  · have mono : ∀ i, N ≤ i → posAt s N ≤ posAt s i := by
      intro i hi
      induction i with
      | zero => have : N = 0 := by omega
                subst this; exact Nat.le_refl _
      | succ i ih =>
        rcases Nat.lt_or_ge N (i + 1) with h | h
        · have := ih (by omega); simp only [posAt]; omega
        · have : N = i + 1 := by omega
          subst this; exact Nat.le_refl _
    have : utfB s = true := by
      unfold utfB
      rw [decide_eq_true_iff]
      intro i hi
      rcases Nat.lt_or_ge i N with h | h
      · exact (hb i h).2
      · have := mono i h; omega
    rw [this]; exact utf_good s N hb hN
end Go.Sx

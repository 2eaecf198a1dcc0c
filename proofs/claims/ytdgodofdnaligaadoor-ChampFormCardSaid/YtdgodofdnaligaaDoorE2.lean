/-
  Proved: what some functions of the program answer, or a law of the evaluator that shows it, one theorem each; its conditions are the hypotheses that stand ahead of it.
-/
import Derived.Test.YtdgodofdnaligaaDoorE1
import Derived.KernelRfl
set_option maxRecDepth 100000
set_option maxHeartbeats 4000000
set_option linter.unusedSimpArgs false
set_option linter.unusedVariables false
namespace Go.Sx
open Go.Proofs Sp
theorem refU_run {g : Gr} (s : ByteArray) (p : Nat) (hp : p < s.size) (hs : s.size ≤ 140737488351232) : CallsF P g 90 [.sc (.string s), int (p : Int)] (int (refU s p : Int)) := by
  unfold refU refN
  by_cases a : strAt s p < 128
  · rw [if_pos a]; exact refU_one s p hp hs a
  · rw [if_neg a]
    by_cases z : strAt s p < 194
    · rw [if_pos (by simp only [refW]; rw [if_neg (by omega), if_neg (by omega), if_neg (by omega), if_neg (by omega)])]; exact refU_low s p hp hs ⟨by omega, z⟩
    · by_cases y : 244 < strAt s p
      · rw [if_pos (by simp only [refW]; rw [if_neg (by omega), if_neg (by omega), if_neg (by omega), if_neg (by omega)])]; exact refU_high s p hp hs y
      · by_cases c2 : strAt s p ≤ 223
        · have e : refW (strAt s p) = 2 := by simp only [refW]; rw [if_neg (by omega), if_pos (by omega)]
          have l1 : refLo (strAt s p) = 128 := by simp only [refLo]; repeat (first | rw [if_pos (by omega)] | rw [if_neg (by omega)])
          have l2 : refHi (strAt s p) = 191 := by simp only [refHi]; repeat (first | rw [if_pos (by omega)] | rw [if_neg (by omega)])
          rw [e, l1, l2, if_neg (by omega)]
          by_cases hc : s.size - p < 2 ∨ strAt s (p + 1) < 128 ∨ 191 < strAt s (p + 1)
          · rw [if_pos hc]; exact refU_cut2d s p hp hs ⟨by omega, by omega⟩ (by omega) (by omega)
          · rw [if_neg hc]
            rw [if_neg (by omega)]; exact refU_ok2d s p hp hs ⟨by omega, by omega⟩ (by omega) (by omega) (by omega) (fun i hi => by omega)
        · by_cases c3 : strAt s p ≤ 239
          · have e : refW (strAt s p) = 3 := by simp only [refW]; rw [if_neg (by omega), if_neg (by omega), if_pos (by omega)]
            by_cases ka : strAt s p = 224
            · have l1 : refLo (strAt s p) = 160 := by simp only [refLo]; repeat (first | rw [if_pos (by omega)] | rw [if_neg (by omega)])
              have l2 : refHi (strAt s p) = 191 := by simp only [refHi]; repeat (first | rw [if_pos (by omega)] | rw [if_neg (by omega)])
              rw [e, l1, l2, if_neg (by omega)]
              by_cases hc : s.size - p < 3 ∨ strAt s (p + 1) < 160 ∨ 191 < strAt s (p + 1)
              · rw [if_pos hc]; exact refU_cut3a s p hp hs ⟨by omega, by omega⟩ (by omega) (by omega)
              · rw [if_neg hc]
                by_cases hb : strAt s (p + 2) < 128 ∨ 191 < strAt s (p + 2)
                · rw [if_pos (by omega)]; exact refU_stop3a s p 0 hp hs ⟨by omega, by omega⟩ (by omega) (by omega) (by omega) (fun i hi => by omega) (by omega) hb
                · rw [if_neg (by omega)]; exact refU_ok3a s p hp hs ⟨by omega, by omega⟩ (by omega) (by omega) (by omega) (fun i hi => by obtain rfl : i = 0 := (by omega); exact (show 128 ≤ strAt s (p + 2) ∧ strAt s (p + 2) ≤ 191 from ⟨by omega, by omega⟩))
            · skip
              by_cases kb : strAt s p = 237
              · have l1 : refLo (strAt s p) = 128 := by simp only [refLo]; repeat (first | rw [if_pos (by omega)] | rw [if_neg (by omega)])
                have l2 : refHi (strAt s p) = 159 := by simp only [refHi]; repeat (first | rw [if_pos (by omega)] | rw [if_neg (by omega)])
                rw [e, l1, l2, if_neg (by omega)]
                by_cases hc : s.size - p < 3 ∨ strAt s (p + 1) < 128 ∨ 159 < strAt s (p + 1)
                · rw [if_pos hc]; exact refU_cut3b s p hp hs ⟨by omega, by omega⟩ (by omega) (by omega)
                · rw [if_neg hc]
                  by_cases hb : strAt s (p + 2) < 128 ∨ 191 < strAt s (p + 2)
                  · rw [if_pos (by omega)]; exact refU_stop3b s p 0 hp hs ⟨by omega, by omega⟩ (by omega) (by omega) (by omega) (fun i hi => by omega) (by omega) hb
                  · rw [if_neg (by omega)]; exact refU_ok3b s p hp hs ⟨by omega, by omega⟩ (by omega) (by omega) (by omega) (fun i hi => by obtain rfl : i = 0 := (by omega); exact (show 128 ≤ strAt s (p + 2) ∧ strAt s (p + 2) ≤ 191 from ⟨by omega, by omega⟩))
              · skip
                have l1 : refLo (strAt s p) = 128 := by simp only [refLo]; repeat (first | rw [if_pos (by omega)] | rw [if_neg (by omega)])
                have l2 : refHi (strAt s p) = 191 := by simp only [refHi]; repeat (first | rw [if_pos (by omega)] | rw [if_neg (by omega)])
                rw [e, l1, l2, if_neg (by omega)]
                by_cases hc : s.size - p < 3 ∨ strAt s (p + 1) < 128 ∨ 191 < strAt s (p + 1)
                · rw [if_pos hc]; exact refU_cut3d s p hp hs ⟨by omega, by omega⟩ (by omega) (by omega)
                · rw [if_neg hc]
                  by_cases hb : strAt s (p + 2) < 128 ∨ 191 < strAt s (p + 2)
                  · rw [if_pos (by omega)]; exact refU_stop3d s p 0 hp hs ⟨by omega, by omega⟩ (by omega) (by omega) (by omega) (fun i hi => by omega) (by omega) hb
                  · rw [if_neg (by omega)]; exact refU_ok3d s p hp hs ⟨by omega, by omega⟩ (by omega) (by omega) (by omega) (fun i hi => by obtain rfl : i = 0 := (by omega); exact (show 128 ≤ strAt s (p + 2) ∧ strAt s (p + 2) ≤ 191 from ⟨by omega, by omega⟩))
          · have e : refW (strAt s p) = 4 := by simp only [refW]; rw [if_neg (by omega), if_neg (by omega), if_neg (by omega), if_pos (by omega)]
            by_cases kc : strAt s p = 240
            · have l1 : refLo (strAt s p) = 144 := by simp only [refLo]; repeat (first | rw [if_pos (by omega)] | rw [if_neg (by omega)])
              have l2 : refHi (strAt s p) = 191 := by simp only [refHi]; repeat (first | rw [if_pos (by omega)] | rw [if_neg (by omega)])
              rw [e, l1, l2, if_neg (by omega)]
              by_cases hc : s.size - p < 4 ∨ strAt s (p + 1) < 144 ∨ 191 < strAt s (p + 1)
              · rw [if_pos hc]; exact refU_cut4c s p hp hs ⟨by omega, by omega⟩ (by omega) (by omega)
              · rw [if_neg hc]
                by_cases hb : strAt s (p + 2) < 128 ∨ 191 < strAt s (p + 2)
                · rw [if_pos (by omega)]; exact refU_stop4c s p 0 hp hs ⟨by omega, by omega⟩ (by omega) (by omega) (by omega) (fun i hi => by omega) (by omega) hb
                · by_cases hd : strAt s (p + 3) < 128 ∨ 191 < strAt s (p + 3)
                  · rw [if_pos (by omega)]; exact refU_stop4c s p 1 hp hs ⟨by omega, by omega⟩ (by omega) (by omega) (by omega) (fun i hi => by obtain rfl : i = 0 := (by omega); exact (show 128 ≤ strAt s (p + 2) ∧ strAt s (p + 2) ≤ 191 from ⟨by omega, by omega⟩)) (by omega) hd
                  · rw [if_neg (by omega)]; exact refU_ok4c s p hp hs ⟨by omega, by omega⟩ (by omega) (by omega) (by omega) (fun i hi => by rcases (by omega : i = 0 ∨ i = 1) with rfl | rfl; exact (show 128 ≤ strAt s (p + 2) ∧ strAt s (p + 2) ≤ 191 from ⟨by omega, by omega⟩); exact (show 128 ≤ strAt s (p + 3) ∧ strAt s (p + 3) ≤ 191 from ⟨by omega, by omega⟩))
            · skip
              by_cases ke : strAt s p = 244
              · have l1 : refLo (strAt s p) = 128 := by simp only [refLo]; repeat (first | rw [if_pos (by omega)] | rw [if_neg (by omega)])
                have l2 : refHi (strAt s p) = 143 := by simp only [refHi]; repeat (first | rw [if_pos (by omega)] | rw [if_neg (by omega)])
                rw [e, l1, l2, if_neg (by omega)]
                by_cases hc : s.size - p < 4 ∨ strAt s (p + 1) < 128 ∨ 143 < strAt s (p + 1)
                · rw [if_pos hc]; exact refU_cut4e s p hp hs ⟨by omega, by omega⟩ (by omega) (by omega)
                · rw [if_neg hc]
                  by_cases hb : strAt s (p + 2) < 128 ∨ 191 < strAt s (p + 2)
                  · rw [if_pos (by omega)]; exact refU_stop4e s p 0 hp hs ⟨by omega, by omega⟩ (by omega) (by omega) (by omega) (fun i hi => by omega) (by omega) hb
                  · by_cases hd : strAt s (p + 3) < 128 ∨ 191 < strAt s (p + 3)
                    · rw [if_pos (by omega)]; exact refU_stop4e s p 1 hp hs ⟨by omega, by omega⟩ (by omega) (by omega) (by omega) (fun i hi => by obtain rfl : i = 0 := (by omega); exact (show 128 ≤ strAt s (p + 2) ∧ strAt s (p + 2) ≤ 191 from ⟨by omega, by omega⟩)) (by omega) hd
                    · rw [if_neg (by omega)]; exact refU_ok4e s p hp hs ⟨by omega, by omega⟩ (by omega) (by omega) (by omega) (fun i hi => by rcases (by omega : i = 0 ∨ i = 1) with rfl | rfl; exact (show 128 ≤ strAt s (p + 2) ∧ strAt s (p + 2) ≤ 191 from ⟨by omega, by omega⟩); exact (show 128 ≤ strAt s (p + 3) ∧ strAt s (p + 3) ≤ 191 from ⟨by omega, by omega⟩))
              · skip
                have l1 : refLo (strAt s p) = 128 := by simp only [refLo]; repeat (first | rw [if_pos (by omega)] | rw [if_neg (by omega)])
                have l2 : refHi (strAt s p) = 191 := by simp only [refHi]; repeat (first | rw [if_pos (by omega)] | rw [if_neg (by omega)])
                rw [e, l1, l2, if_neg (by omega)]
                by_cases hc : s.size - p < 4 ∨ strAt s (p + 1) < 128 ∨ 191 < strAt s (p + 1)
                · rw [if_pos hc]; exact refU_cut4d s p hp hs ⟨by omega, by omega⟩ (by omega) (by omega)
                · rw [if_neg hc]
                  by_cases hb : strAt s (p + 2) < 128 ∨ 191 < strAt s (p + 2)
                  · rw [if_pos (by omega)]; exact refU_stop4d s p 0 hp hs ⟨by omega, by omega⟩ (by omega) (by omega) (by omega) (fun i hi => by omega) (by omega) hb
                  · by_cases hd : strAt s (p + 3) < 128 ∨ 191 < strAt s (p + 3)
                    · rw [if_pos (by omega)]; exact refU_stop4d s p 1 hp hs ⟨by omega, by omega⟩ (by omega) (by omega) (by omega) (fun i hi => by obtain rfl : i = 0 := (by omega); exact (show 128 ≤ strAt s (p + 2) ∧ strAt s (p + 2) ≤ 191 from ⟨by omega, by omega⟩)) (by omega) hd
                    · rw [if_neg (by omega)]; exact refU_ok4d s p hp hs ⟨by omega, by omega⟩ (by omega) (by omega) (by omega) (fun i hi => by rcases (by omega : i = 0 ∨ i = 1) with rfl | rfl; exact (show 128 ≤ strAt s (p + 2) ∧ strAt s (p + 2) ≤ 191 from ⟨by omega, by omega⟩); exact (show 128 ≤ strAt s (p + 3) ∧ strAt s (p + 3) ≤ 191 from ⟨by omega, by omega⟩))
theorem get_extract (s : ByteArray) (p k : Nat) : (s.extract p s.size).get! k = s.get! (p + k) := by
  cases s with
  | mk d =>
    show (ByteArray.extract ⟨d⟩ p d.size).data[k]! = d[p + k]!
    have e : (d.extract p d.size)[k]? = d[p + k]? := by
      rw [Array.getElem?_extract]
      split
      · rfl
      · rename_i h
        rw [Array.getElem?_eq_none (by omega)]
    have e2 : (ByteArray.extract ⟨d⟩ p d.size).data = d.extract p d.size := ByteArray.data_extract
    rw [getElem!_def, getElem!_def]
    first | rw [e] | (rw [e2] at *; rw [e]) | simp only [e]
theorem decode_rest (s : ByteArray) (p : Nat) (hp : p < s.size) : Lib.decodeGo (s.extract p s.size) = Utf8.decode s p := by
  have hs : (s.extract p s.size).size = s.size - p := by rw [ByteArray.size_extract]; omega
  unfold Lib.decodeGo
  rw [if_neg (by rw [hs]; omega), Lib.decode_at, Lib.decode_at s p, hs]
  simp only [get_extract, Nat.sub_zero, Nat.add_zero, Nat.zero_add]
theorem bad_refU (s : ByteArray) (p : Nat) (hp : p < s.size) : badAt s p ↔ refU s p = 0 := by
  have hw := Lib.width_pos s p
  rw [refU_eq]
  unfold badAt wid
  rw [decode_rest s p hp]
  split
  · rename_i h; exact ⟨fun _ => rfl, fun _ => h⟩
  · rename_i h; exact ⟨fun h' => absurd h' h, fun h' => by omega⟩
theorem refU_width (s : ByteArray) (p : Nat) (h : refU s p ≠ 0) : refU s p = (Utf8.decode s p).2 := by
  rw [refU_eq] at h ⊢
  unfold wid at *
  split
  · rename_i h'; rw [if_pos h'] at h; exact absurd rfl h
  · rfl
theorem refU_bd (s : ByteArray) (p : Nat) (h : refU s p ≠ 0) (hp : p < s.size) : p + refU s p ≤ s.size ∧ refU s p ≤ 4 := by
  unfold refU refN at *
  split
  · omega
  · rename_i h1
    rw [if_neg h1] at h
    split
    · omega
    · rename_i h2
      rw [if_neg h2] at h
      split
      · omega
      · rename_i h3
        rw [if_neg h3] at h
        have hW : refW (strAt s p) ≤ 4 := by unfold refW; repeat' split
                                             all_goals omega
        split <;> omega
def SLet (s : ByteArray) (i : Nat) : St := { sl := slots 21 [(0, .f (.sc (.string s))), (3, .f (int (i : Int))), (4, .f (int (posAt s i : Int)))], ob := [], nx := 0 }
theorem get73 : P.funcs[73]? = some Tryd.f73 := by kernel_rfl
theorem ent73 : entersP P 73 = true := by kernel_rfl
theorem let_good {g : Gr} (s : ByteArray) (N : Nat) (hs : s.size ≤ 140737488351232) (h : ∀ i, i < N → posAt s i < s.size ∧ refU s (posAt s i) ≠ 0) (hN : ¬ posAt s N < s.size) : CallsF P g 73 [.sc (.string s)] (int (N : Int)) := by
  refine sx_fn (hs := [.loop [] [] (SLet s) N (fun i => [.dec true, .call (int (refU s (posAt s i) : Int)), .dec false]), .dec false]) (let z1 := AV.f (FV.sc (Value.string s)); (E true ∧ (E z1 ∧ AV.f (int 0) = AV.f (int (Int.ofNat 0)) ∧ AV.f (int 0) = AV.f (int (↑(posAt s 0) : Int)) ∧ True) ∧ True ∧ E true ∧ (false = true → false = true)) ∧ (∀ (i : Nat), (let z2 := (↑(refU s (posAt s i)) : Int); i < N → decide ((↑(posAt s i) : Int) < (↑(ByteArray.size s) : Int)) = true ∧ CallsF P g 90 [FV.sc (Value.string s), int (↑(posAt s i) : Int)] (int z2) ∧ (z2 == 0) = false ∧ E true ∧ (E z1 ∧ AV.f (int (IntKind.wrap IntKind.i64 ((i : Int) + 1))) = AV.f (int (↑(i + 1) : Int)) ∧ AV.f (int (IntKind.wrap IntKind.i64 ((↑(posAt s i) : Int) + z2))) = AV.f (int (↑(posAt s (i + 1)) : Int)) ∧ True) ∧ True ∧ E true ∧ (false = true → false = true))) ∧ decide ((↑(posAt s N) : Int) < (↑(ByteArray.size s) : Int)) = false ∧ E (int (N : Int))) get73 ent73 (by kernel_rfl) ?_
  refine ⟨⟨rfl, ⟨rfl, ?_, ?_, trivial⟩, trivial, rfl, fun hi => ?_⟩, fun i => fun hi => ⟨?_, ?_, ?_, rfl, ⟨rfl, ?_, ?_, trivial⟩, trivial, rfl, fun hi => ?_⟩, ?_, rfl⟩
  all_goals first | rfl | omega | exact refU_run s _ (h i (by omega)).1 hs | (have h1 := (h i (by omega)).1; simp only [decide_eq_true_eq]; omega) | (have h1 := (h i (by omega)).2; simp only [beq_eq_false_iff_ne]; omega) | (have h1 := h i (by omega); have h2 := refU_bd s _ h1.2 h1.1; exact congrArg (fun x => AV.f (int x)) (by rw [Wad _ _ (by omega)]; simp only [posAt]; rw [refU_width s _ h1.2])) | (have h1 := h i (by omega); have h2 := posAt_ge s i; exact congrArg (fun x => AV.f (int x)) (by rw [wrapS _ (by omega) (by omega)]; omega)) | (simp only [decide_eq_true_eq, decide_eq_false_iff_not]; omega)
theorem let_bad {g : Gr} (s : ByteArray) (N : Nat) (hs : s.size ≤ 140737488351232) (h : ∀ i, i < N → posAt s i < s.size ∧ refU s (posAt s i) ≠ 0) (hN : posAt s N < s.size) (hb : refU s (posAt s N) = 0) : CallsF P g 73 [.sc (.string s)] (int (-1)) := by
  refine sx_fn (hs := [.loop [] [] (SLet s) N (fun i => [.dec true, .call (int (refU s (posAt s i) : Int)), .dec false]), .dec true, .call (int (refU s (posAt s N) : Int)), .dec true]) (let z1 := AV.f (FV.sc (Value.string s)); let z2 := (↑(refU s (posAt s N)) : Int); (E true ∧ (E z1 ∧ AV.f (int 0) = AV.f (int (Int.ofNat 0)) ∧ AV.f (int 0) = AV.f (int (↑(posAt s 0) : Int)) ∧ True) ∧ True ∧ E true ∧ (false = true → false = true)) ∧ (∀ (i : Nat), (let z3 := (↑(refU s (posAt s i)) : Int); i < N → decide ((↑(posAt s i) : Int) < (↑(ByteArray.size s) : Int)) = true ∧ CallsF P g 90 [FV.sc (Value.string s), int (↑(posAt s i) : Int)] (int z3) ∧ (z3 == 0) = false ∧ E true ∧ (E z1 ∧ AV.f (int (IntKind.wrap IntKind.i64 ((i : Int) + 1))) = AV.f (int (↑(i + 1) : Int)) ∧ AV.f (int (IntKind.wrap IntKind.i64 ((↑(posAt s i) : Int) + z3))) = AV.f (int (↑(posAt s (i + 1)) : Int)) ∧ True) ∧ True ∧ E true ∧ (false = true → false = true))) ∧ decide ((↑(posAt s N) : Int) < (↑(ByteArray.size s) : Int)) = true ∧ CallsF P g 90 [FV.sc (Value.string s), int (↑(posAt s N) : Int)] (int z2) ∧ (z2 == 0) = true ∧ E (int (-1))) get73 ent73 (by kernel_rfl) ?_
  refine ⟨⟨rfl, ⟨rfl, ?_, ?_, trivial⟩, trivial, rfl, fun hi => ?_⟩, fun i => fun hi => ⟨?_, ?_, ?_, rfl, ⟨rfl, ?_, ?_, trivial⟩, trivial, rfl, fun hi => ?_⟩, ?_, ?_, ?_, rfl⟩
  all_goals first | rfl | omega | exact refU_run s _ (h i (by omega)).1 hs | (have h1 := (h i (by omega)).1; simp only [decide_eq_true_eq]; omega) | (have h1 := (h i (by omega)).2; simp only [beq_eq_false_iff_ne]; omega) | (have h1 := h i (by omega); have h2 := refU_bd s _ h1.2 h1.1; exact congrArg (fun x => AV.f (int x)) (by rw [Wad _ _ (by omega)]; simp only [posAt]; rw [refU_width s _ h1.2])) | (have h1 := h i (by omega); have h2 := posAt_ge s i; exact congrArg (fun x => AV.f (int x)) (by rw [wrapS _ (by omega) (by omega)]; omega)) | (simp only [decide_eq_true_eq, decide_eq_false_iff_not]; omega) | exact refU_run s _ (by omega) hs | (simp only [beq_iff_eq]; omega)
open Classical in
theorem utfB_iff {s : ByteArray} : utfB s = true ↔ ∀ i, posAt s i < s.size → ¬ badAt s (posAt s i) := by unfold utfB; exact decide_eq_true_iff
theorem letters_ok {g : Gr} (s : ByteArray) (hs : s.size ≤ 140737488351232) : ∃ n : Int, (0 ≤ n ↔ utfB s = true) ∧ CallsF P g 73 [.sc (.string s)] (int n) := by
  obtain ⟨N, h1, h2⟩ := exists_least (fun i => ¬ posAt s i < s.size ∨ badAt s (posAt s i)) ⟨s.size, .inl (by have := posAt_ge s s.size; omega)⟩
  have hb : ∀ i, i < N → posAt s i < s.size ∧ refU s (posAt s i) ≠ 0 := fun i hi => by
    have h3 : posAt s i < s.size := by
      apply Classical.byContradiction; intro h; have := h2 i (.inl h); omega
    exact ⟨h3, fun h => by have := h2 i (.inr ((bad_refU s _ h3).2 h)); omega⟩
  by_cases hN : posAt s N < s.size
  · have hbad := h1.resolve_left (fun h => h hN)
    refine ⟨-1, ⟨fun h => by omega, fun h => ?_⟩, let_bad s N hs hb hN ((bad_refU s _ hN).1 hbad)⟩
    have h := utfB_iff.1 h
    exact absurd hbad (h N hN)
  · refine ⟨N, ⟨fun _ => ?_, fun _ => by omega⟩, let_good s N hs hb hN⟩
    have mono : ∀ i, N ≤ i → posAt s N ≤ posAt s i := by
      intro i hi
      induction i with
      | zero => have : N = 0 := by omega
                subst this; exact Nat.le_refl _
      | succ i ih =>
        rcases Nat.lt_or_ge N (i + 1) with h | h
        · have := ih (by omega); simp only [posAt]; omega
        · have : N = i + 1 := by omega
          subst this; exact Nat.le_refl _
    rw [utfB_iff]
    intro i hi
    rcases Nat.lt_or_ge i N with h | h
    · intro hbad; exact (hb i h).2 ((bad_refU s _ (hb i h).1).1 hbad)
    · have := mono i h; omega
end Go.Sx

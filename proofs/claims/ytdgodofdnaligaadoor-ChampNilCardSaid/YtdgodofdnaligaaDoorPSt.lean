/-
  Proved: what some functions of the program answer, or a law of the evaluator that shows it, one theorem each; its conditions are the hypotheses that stand ahead of it.
-/
import Derived.Test.YtdgodofdnaligaaDoorPCi
import Derived.Test.YtdgodofdnaligaaDoorPSo
set_option linter.unusedVariables false
set_option linter.unusedSimpArgs false
namespace Sp
namespace Ch
/-- A list sorted. -/
def srtL (c : V → V → Int) (L : List (V × V)) : List (V × V) := Sy.srt (fun p q => c p.1 q.1) L
theorem line_pre {c : V → V → Int} (h : Line c (fun _ => True)) : Sy.Pre (fun p q : V × V => c p.1 q.1) where
  asym x y hx := by have := h.turn x.1 y.1 trivial trivial; omega
  trans x y z h1 h2 := by
    have t1 := h.turn x.1 y.1 trivial trivial
    have t2 := h.turn y.1 z.1 trivial trivial
    have t3 := h.turn x.1 z.1 trivial trivial
    have := h.le_trans x.1 y.1 z.1 trivial trivial trivial (by omega) (by omega)
    omega
theorem srtL_perm (c : V → V → Int) (L : List (V × V)) : (srtL c L).Perm L := Sy.srt_perm _ L
theorem srtL_rising {c : V → V → Int} (h : Line c (fun _ => True)) (hz : ∀ a b, c a b = 0 → cmpV a b = 0) {L : List (V × V)} (hd : Dk L) : Rising c (srtL c L) := by
  have h1 := Sy.srt_sd (line_pre h) L
  have hd' : Dk (srtL c L) := by
    refine List.Perm.pairwise (srtL_perm c L).symm hd fun {x y} hxy => ?_
    have := cmpV_line.turn x.1 y.1 trivial trivial; omega
  refine List.Pairwise.imp₂ (fun x y a b => ?_) h1 hd'
  have t := h.turn x.1 y.1 trivial trivial
  have : c x.1 y.1 ≠ 0 := fun e => b (hz _ _ e)
  have a' : 0 ≤ c y.1 x.1 := a
  omega
/-- Rising lists of the same members are one. -/
theorem rising_perm {c : V → V → Int} (h : Line c (fun _ => True)) {L M : List (V × V)} (hp : L.Perm M) (h1 : Rising c L) (h2 : Rising c M) : L = M := by
  refine List.Perm.eq_of_pairwise (le := fun p q : V × V => c p.1 q.1 < 0) (fun a b _ _ q1 q2 => ?_) h1 h2 hp
  have := h.turn a.1 b.1 trivial trivial; omega
/-- All members in trie order. -/
def tor (H : V → Nat) : Nat → List (V × V) → List (V × V)
  | 0, L => srtL cmpV L
  | f + 1, L => (List.range 32).flatMap fun p => let c := cls H (6 - f) p L; if c.length ≤ 1 then c else tor H f c
theorem classes_perm (H : V → Nat) (d : Nat) (L : List (V × V)) : ((List.range 32).flatMap fun p => cls H d p L).Perm L := by
  have main : ∀ n, ((List.range n).flatMap fun p => cls H d p L).Perm (L.filter fun x => decide (pl H d x < n)) := by
    intro n
    induction n with
    | zero => simp
    | succ n ih =>
      rw [List.range_succ, List.flatMap_append]
      simp only [List.flatMap_cons, List.flatMap_nil, List.append_nil]
      have e : (L.filter fun x => decide (pl H d x < n + 1)).Perm ((L.filter fun x => decide (pl H d x < n)) ++ cls H d n L) := by
        clear ih
        induction L with
        | nil => simp [cls]
        | cons x L ihL =>
          unfold cls at ihL ⊢
          rw [List.filter_cons, List.filter_cons, List.filter_cons]
          rcases Nat.lt_trichotomy (pl H d x) n with h | h | h
          · rw [if_pos (by simp; omega), if_pos (by simp [h]), if_neg (by simp; omega)]
            exact ihL.cons x
          · rw [if_pos (by simp; omega), if_neg (by simp; omega), if_pos (by simp [h])]
            exact (ihL.cons x).trans List.perm_middle.symm
          · rw [if_neg (by simp; omega), if_neg (by simp; omega), if_neg (by simp; omega)]
            exact ihL
      exact (ih.append_right _).trans e.symm
  refine (main 32).trans ?_
  rw [List.filter_eq_self.2 fun x _ => by simpa using pl_lt H d x]
theorem flatMap_perm {α β : Type} {f g : α → List β} : ∀ (l : List α), (∀ x, x ∈ l → (f x).Perm (g x)) → (l.flatMap f).Perm (l.flatMap g)
  | [], _ => by simp
  | x :: l, h => by
    rw [List.flatMap_cons, List.flatMap_cons]
    exact (h x (by simp)).append (flatMap_perm l fun y hy => h y (by simp [hy]))
theorem tor_perm (H : V → Nat) : ∀ f L, (tor H f L).Perm L
  | 0, L => srtL_perm _ L
  | f + 1, L => by
    refine (flatMap_perm _ fun p _ => ?_).trans (classes_perm H (6 - f) L)
    simp only
    split
    · exact List.Perm.refl _
    · exact tor_perm H f _
theorem Dk.cls {H : V → Nat} {d p : Nat} {L : List (V × V)} (h : Dk L) : Dk (cls H d p L) := h.filter _
end Ch
end Sp
set_option linter.unusedVariables false
set_option linter.unusedSimpArgs false
namespace Sp
namespace Ch
theorem len_filter_split {α : Type} (p : α → Bool) : ∀ (l : List α), l.length = (l.filter p).length + (l.filter fun x => !p x).length
  | [] => rfl
  | x :: l => by
    have := len_filter_split p l
    cases h : p x <;> simp [h] <;> omega
/-- Keys alike have one hash. -/
def Hc (H : V → Nat) (k : V) (L : List (V × V)) : Prop := ∀ x, x ∈ L → sameK k x = true → H x.1 = H k
theorem Hc.cls {H : V → Nat} {k : V} {L : List (V × V)} (h : Hc H k L) (d p : Nat) : Hc H k (cls H d p L) := fun x hx => h x ((mem_cls H).1 hx).1
theorem same_cls {H : V → Nat} {k v : V} {L : List (V × V)} (h : Hc H k L) (d : Nat) : (L.filter (sameK k)).length = ((cls H d (pl H d (k, v)) L).filter (sameK k)).length := by
  unfold cls
  rw [List.filter_filter]
  congr 1
  refine List.filter_congr fun x hx => ?_
  cases hs : sameK k x with
  | false => simp
  | true => have := h x hx hs; simp [pl, this]
theorem put_len (e : V × V) (L : List (V × V)) : (put e L).length + (L.filter (sameK e.1)).length = L.length + 1 := by
  have := len_filter_split (sameK e.1) L
  simp only [put, List.length_cons]; omega
/-- How a class's growth is the whole's. -/
theorem put_grow {H : V → Nat} {e : V × V} {L : List (V × V)} (h : Hc H e.1 L) (d : Nat) : (put e L).length + (cls H d (pl H d e) L).length = L.length + (put e (cls H d (pl H d e) L)).length := by
  have h1 := put_len e L
  have h2 := put_len e (cls H d (pl H d e) L)
  have h3 := same_cls (v := e.2) h d
  have : (e.1, e.2) = e := rfl
  rw [this] at h3
  omega
theorem same_le {k : V} {L : List (V × V)} (h : Dk L) : (L.filter (sameK k)).length ≤ 1 := by
  have h' : Dk (L.filter (sameK k)) := h.filter _
  have hm : ∀ x, x ∈ L.filter (sameK k) → cmpV x.1 k = 0 := fun x hx => by have := (List.mem_filter.1 hx).2; simpa [sameK] using this
  match hc : L.filter (sameK k), h', hm with
  | [], _, _ => simp
  | [x], _, _ => simp
  | x :: y :: l, h', hm =>
    exfalso
    have h1 := (List.pairwise_cons.1 h').1 y (by simp)
    have a := hm x (by simp); have b := hm y (by simp)
    have t1 := cmpV_line.turn x.1 k trivial trivial
    have t2 := cmpV_line.turn y.1 k trivial trivial
    have t3 := cmpV_line.turn x.1 y.1 trivial trivial
    have l1 := cmpV_line.le_trans x.1 k y.1 trivial trivial trivial (by omega) (by omega)
    have l2 := cmpV_line.le_trans y.1 k x.1 trivial trivial trivial (by omega) (by omega)
    omega
theorem Dk.put {e : V × V} {L : List (V × V)} (h : Dk L) : Dk (put e L) := by
  refine List.pairwise_cons.2 ⟨fun x hx => ?_, h.filter _⟩
  have := (List.mem_filter.1 hx).2
  have t := cmpV_line.turn x.1 e.1 trivial trivial
  simp [sameK] at this
  omega
theorem Dk.cut {k : V} {L : List (V × V)} (h : Dk L) : Dk (cut k L) := h.filter _
/-- A class of one member. -/
theorem one_cls {c : List (V × V)} (h : c.length = 1) : ∃ m, c = [m] := List.length_eq_one_iff.1 h
theorem put_one_same {e m : V × V} (h : sameK e.1 m = true) : put e [m] = [e] := by simp [put, h]
theorem put_one_other {e m : V × V} (h : sameK e.1 m = false) : put e [m] = [e, m] := by simp [put, h]
theorem put_none (e : V × V) : put e [] = [e] := by simp [put]
end Ch
end Sp
set_option linter.unusedVariables false
set_option linter.unusedSimpArgs false
namespace Sp
theorem ahead_len {c : V → V → Int} {k : V} {a b : List (V × V)} (ha : ∀ q, q ∈ a → c q.1 k < 0) (hb : ∀ q, q ∈ b → 0 ≤ c q.1 k) : aheadN c k (a ++ b) = a.length := by
  unfold aheadN
  rw [List.takeWhile_append_of_pos (by intro q hq; simpa using ha q hq)]
  cases b with
  | nil => simp
  | cons q b =>
    rw [List.takeWhile_cons, if_neg (by have := hb q (by simp); simp; omega)]
    simp
namespace T
end T
end Sp

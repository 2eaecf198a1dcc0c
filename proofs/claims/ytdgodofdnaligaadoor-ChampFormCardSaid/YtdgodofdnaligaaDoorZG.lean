/-
  Proved: what some functions of the program answer, or a law of the evaluator that shows it, one theorem each; its conditions are the hypotheses that stand ahead of it.
-/
import Derived.Test.YtdgodofdnaligaaDoorPCn
import Derived.Test.YtdgodofdnaligaaDoorZF
import Derived.KernelRfl
set_option linter.unusedVariables false
set_option linter.unusedSimpArgs false
namespace Sp
namespace Ch
theorem mem_put {e q : V × V} {L : List (V × V)} : q ∈ put e L ↔ q = e ∨ (q ∈ L ∧ sameK e.1 q = false) := by
  simp [put]
theorem mem_cut {k : V} {q : V × V} {L : List (V × V)} : q ∈ cut k L ↔ q ∈ L ∧ sameK k q = false := by simp [cut]
theorem sameK_self (q : V × V) : sameK q.1 q = true := by
  have := cmpV_line.refl q.1 trivial
  simp [sameK, this]
theorem Dk.nodup {L : List (V × V)} (h : Dk L) : L.Nodup := by
  refine List.Pairwise.imp (fun {a b} hab e => ?_) h
  subst e
  exact hab (cmpV_line.refl a.1 trivial)
theorem dk_perm {L M : List (V × V)} (h1 : Dk L) (h2 : Dk M) (h : ∀ q, q ∈ L ↔ q ∈ M) : L.Perm M := (List.perm_ext_iff_of_nodup h1.nodup h2.nodup).2 h
def putV (val : V → V) (L : List (V × V)) (k : V) : List (V × V) := put (k, val k) L
def cutU (A : List (V × V)) (L : List (V × V)) (x : V) : List (V × V) := if A.any (sameK x) = true then L else cut x L
theorem putV_dk {val : V → V} : ∀ (ks : List V) (L : List (V × V)), Dk L → Dk (ks.foldl (putV val) L)
  | [], _, h => h
  | k :: ks, L, h => putV_dk ks _ h.put
theorem cutU_dk {A : List (V × V)} : ∀ (xs : List V) (L : List (V × V)), Dk L → Dk (xs.foldl (cutU A) L)
  | [], _, h => h
  | x :: xs, L, h => by
    refine cutU_dk xs _ ?_
    unfold cutU; split
    · exact h
    · exact h.cut
theorem putV_len {val : V → V} : ∀ (ks : List V) (L : List (V × V)), (ks.foldl (putV val) L).length ≤ L.length + ks.length
  | [], L => by simp
  | k :: ks, L => by
    have h1 := putV_len (val := val) ks (putV val L k)
    have h2 := put_len (k, val k) L
    simp only [List.foldl_cons, List.length_cons]
    unfold putV at h1 ⊢; omega
theorem mem_putV {R : V → Prop} (hR : ∀ a b, R a → R b → cmpV a b = 0 → a = b) {val : V → V} : ∀ (ks : List V) (L : List (V × V)) (q : V × V), (∀ k, k ∈ ks → R k) →
    (q ∈ ks.foldl (putV val) L ↔ (∃ k, k ∈ ks ∧ q = (k, val k)) ∨ (q ∈ L ∧ ∀ k, k ∈ ks → sameK k q = false))
  | [], L, q, _ => by simp
  | k :: ks, L, q, h => by
    have ih := mem_putV hR (val := val) ks (putV val L k) q fun x hx => h x (by simp [hx])
    rw [List.foldl_cons, ih]
    unfold putV
    rw [mem_put]
    constructor
    · rintro (⟨x, hx, e⟩ | ⟨rfl | ⟨h1, h2⟩, h3⟩)
      · exact .inl ⟨x, by simp [hx], e⟩
      · exact .inl ⟨k, by simp, rfl⟩
      · refine .inr ⟨h1, fun x hx => ?_⟩
        rcases List.mem_cons.1 hx with rfl | hx
        · exact h2
        · exact h3 x hx
    · rintro (⟨x, hx, rfl⟩ | ⟨h1, h2⟩)
      · rcases List.mem_cons.1 hx with rfl | hx
        · by_cases hex : ∃ y, y ∈ ks ∧ sameK y (x, val x) = true
          · obtain ⟨y, hy, hs⟩ := hex
            have : x = y := hR x y (h x (by simp)) (h y (by simp [hy])) (by simpa [sameK] using hs)
            subst this
            exact .inl ⟨x, hy, rfl⟩
          · refine .inr ⟨.inl rfl, fun y hy => ?_⟩
            cases hs : sameK y (x, val x) with
            | false => rfl
            | true => exact absurd ⟨y, hy, hs⟩ hex
        · exact .inl ⟨x, hx, rfl⟩
      · exact .inr ⟨.inr ⟨h1, h2 k (by simp)⟩, fun x hx => h2 x (by simp [hx])⟩
theorem mem_cutU {A : List (V × V)} : ∀ (xs : List V) (L : List (V × V)) (q : V × V), q ∈ xs.foldl (cutU A) L ↔ q ∈ L ∧ ∀ x, x ∈ xs → A.any (sameK x) = false → sameK x q = false
  | [], L, q => by simp
  | x :: xs, L, q => by
    rw [List.foldl_cons, mem_cutU xs]
    unfold cutU
    by_cases hA : A.any (sameK x) = true
    · rw [if_pos hA]
      constructor
      · rintro ⟨h1, h2⟩
        refine ⟨h1, fun y hy hyA => ?_⟩
        rcases List.mem_cons.1 hy with rfl | hy
        · rw [hA] at hyA; cases hyA
        · exact h2 y hy hyA
      · rintro ⟨h1, h2⟩
        exact ⟨h1, fun y hy => h2 y (by simp [hy])⟩
    · rw [if_neg hA, mem_cut]
      have hA : A.any (sameK x) = false := by simpa using hA
      constructor
      · rintro ⟨⟨h1, h3⟩, h2⟩
        refine ⟨h1, fun y hy hyA => ?_⟩
        rcases List.mem_cons.1 hy with rfl | hy
        · exact h3
        · exact h2 y hy hyA
      · rintro ⟨h1, h2⟩
        exact ⟨⟨h1, h2 x (by simp) hA⟩, fun y hy => h2 y (by simp [hy])⟩
/-- ONE FORM's list: extras put in, the pairs put in backwards, extras taken out: the same members. -/
theorem form_same {R : V → Prop} (hR : ∀ a b, R a → R b → cmpV a b = 0 → a = b) {A : List (V × V)} (hda : Dk A) (hRa : ∀ q, q ∈ A → R q.1) {ks : List V} (hk : ∀ k, k ∈ ks → ∃ q, q ∈ A ∧ q.1 = k) (hk2 : ∀ q, q ∈ A → q.1 ∈ ks) {val : V → V} (hv : ∀ q, q ∈ A → val q.1 = q.2) {ex : List V} (hRe : ∀ x, x ∈ ex → R x) :
    (ex.foldl (cutU A) (ks.foldl (putV val) (ex.foldl (putV id) []))).Perm A := by
  have hks : ∀ k, k ∈ ks → R k := fun k hk1 => by obtain ⟨q, hq, rfl⟩ := hk k hk1; exact hRa q hq
  refine dk_perm (cutU_dk _ _ (putV_dk _ _ (putV_dk _ _ List.Pairwise.nil))) hda fun q => ?_
  rw [mem_cutU, mem_putV hR _ _ _ hks, mem_putV hR _ _ _ hRe]
  constructor
  · rintro ⟨⟨k, hk1, rfl⟩ | ⟨⟨x, hx, rfl⟩ | ⟨hx, _⟩, h2⟩, h3⟩
    · obtain ⟨m, hm, rfl⟩ := hk k hk1
      rw [hv m hm]; exact hm
    · exfalso
      have h4 := h3 x hx
      have h5 : sameK x (x, id x) = true := sameK_self (x, id x)
      cases hA : A.any (sameK x) with
      | false => rw [h4 hA] at h5; cases h5
      | true =>
        obtain ⟨m, hm, hs⟩ := List.any_eq_true.1 hA
        have h6 : m.1 = x := hR _ _ (hRa m hm) (hRe x hx) (by simpa [sameK] using hs)
        have h7 := h2 m.1 (hk2 m hm)
        rw [h6] at h7
        rw [h7] at h5; cases h5
    · cases hx
  · intro hq
    refine ⟨.inl ⟨q.1, hk2 q hq, by rw [hv q hq]⟩, fun x hx hA => ?_⟩
    have := List.any_eq_false.1 hA q hq
    simpa using this
end Ch
end Sp
set_option maxRecDepth 100000
set_option maxHeartbeats 4000000
set_option linter.unusedSimpArgs false
set_option linter.unusedVariables false
namespace Go.Sx
open Go.Proofs Sp
open Sp.Ch Sp.Sy
theorem listE_zeroF {l : List V} (h : listE l = 0) : l.length ≤ 65536 ∧ ∀ x, x ∈ l → rightB x = true := by
  unfold listE at h
  split at h
  · cases h
  · split at h
    · rename_i h1 h2; exact ⟨by omega, List.all_eq_true.1 h2⟩
    · cases h
theorem shC_perm (H : V → Nat) : ∀ (f : Nat) (L M : List (V × V)), L.Perm M → shC H f L = shC H f M
  | 0, L, M, h => by
    unfold shC
    rw [h.length_eq]
  | f + 1, L, M, h => by
    have e : (kdl H (6 - f) L).flatMap (shC H f) = (kdl H (6 - f) M).flatMap (shC H f) := by
      unfold kdl
      rw [List.flatMap_assoc, List.flatMap_assoc]
      refine fm_congr fun q _ => ?_
      have hp := cls_perm H (6 - f) q h
      unfold more
      rw [hp.length_eq]
      split
      · simp only [List.flatMap_cons, List.flatMap_nil, List.append_nil]
        exact shC_perm H f _ _ hp
      · rfl
    rw [shC, shC, sgb_perm H _ h, kdb_perm H _ h, sgl_perm H _ h, e]
theorem shC_row (H : V → Nat) : ∀ (f : Nat) (L : List (V × V)) (r : List FV), r ∈ shC H f L → ∃ t : Int × Int × Int × Int, r = [int t.1, .sc (.int .u32 t.2.1), .sc (.int .u32 t.2.2.1), int t.2.2.2]
  | 0, L, r, h => by
    simp only [shC, List.mem_singleton] at h
    exact ⟨(7, 0, 0, (L.length : Int)), h⟩
  | f + 1, L, r, h => by
    simp only [shC, List.mem_cons] at h
    rcases h with h | h
    · exact ⟨(_, _, _, _), h⟩
    · obtain ⟨c, _, h2⟩ := List.mem_flatMap.1 h
      exact shC_row H f c r h2
theorem shapes_ok (H : V → Nat) (L : List (V × V)) (hl : L.length ≤ 65536) : CallsF P G 18 [.sl 4 (shC H 7 L), .sl 4 (shC H 7 L)] (bool true) := by
  have h1 : ∀ i, ∃ t : Int × Int × Int × Int, i < (shC H 7 L).length → (shC H 7 L)[i]? = some [int t.1, .sc (.int .u32 t.2.1), .sc (.int .u32 t.2.2.1), int t.2.2.2] := fun i => by
    by_cases hi : i < (shC H 7 L).length
    · obtain ⟨t, ht⟩ := shC_row H 7 L _ (List.getElem_mem hi)
      exact ⟨t, fun _ => by rw [List.getElem?_eq_getElem hi, ht]⟩
    · exact ⟨(0, 0, 0, 0), fun h => absurd h hi⟩
  obtain ⟨g, hg⟩ := Classical.skolem.1 h1
  have h2 := shC_len H 7 L
  exact shapes_run (shC H 7 L) (fun i => (g i).1) (fun i => (g i).2.1) (fun i => (g i).2.2.1) (fun i => (g i).2.2.2) _ rfl (by omega) hg
theorem puts_sub (q : V × V) : ∀ (l L : List (V × V)), q ∈ l.foldl (fun L p => put p L) L → q ∈ L ∨ q ∈ l
  | [], L, h => .inl h
  | p :: l, L, h => by
    rw [List.foldl_cons] at h
    rcases puts_sub q l _ h with h1 | h1
    · rcases mem_put.1 h1 with rfl | h2
      · exact .inr (by simp)
      · exact .inl h2.1
    · exact .inr (by simp [h1])
theorem puts_key (k : V) : ∀ (l L : List (V × V)), (∀ q, q ∈ L → rightB q.1 = true) → (∀ q, q ∈ l → rightB q.1 = true) → ((∃ q, q ∈ L ∧ q.1 = k) ∨ ∃ q, q ∈ l ∧ q.1 = k) → ∃ q, q ∈ l.foldl (fun L p => put p L) L ∧ q.1 = k
  | [], L, _, _, h => by
    rcases h with h | ⟨q, h, _⟩
    · exact h
    · cases h
  | p :: l, L, h1, h2, h => by
    rw [List.foldl_cons]
    refine puts_key k l _ (fun q hq => ?_) (fun q hq => h2 q (by simp [hq])) ?_
    · rcases mem_put.1 hq with rfl | h3
      · exact h2 _ (by simp)
      · exact h1 q h3.1
    · rcases h with ⟨q, hq, e⟩ | ⟨q, hq, e⟩
      · cases hs : sameK p.1 q with
        | false => exact .inl ⟨q, mem_put.2 (.inr ⟨hq, hs⟩), e⟩
        | true =>
          have := rightB_same (h1 q hq) (h2 p (by simp)) (by simpa [sameK] using hs)
          exact .inl ⟨p, mem_put.2 (.inl rfl), by rw [← this, e]⟩
      · rcases List.mem_cons.1 hq with rfl | hq
        · exact .inl ⟨q, mem_put.2 (.inl rfl), e⟩
        · exact .inr ⟨q, hq, e⟩
/-- What a list tells of a key. -/
def valOf (A : List (V × V)) (k : V) : V := match A.find? (sameK k) with
  | some m => m.2
  | none => .mk 0 0 [] []
theorem valOf_in {A : List (V × V)} (hd : Dk A) {q : V × V} (hq : q ∈ A) : valOf A q.1 = q.2 := by
  unfold valOf
  cases h : A.find? (sameK q.1) with
  | none => have := List.find?_eq_none.1 h q hq; rw [sameK_self q] at this; exact absurd rfl this
  | some m =>
    have h1 := List.find?_some h
    have h2 := List.mem_of_find?_eq_some h
    rw [same_uniq hd hq h2 (sameK_self q) h1]
theorem valOf_out {A : List (V × V)} {k : V} (h : A.any (sameK k) = false) : valOf A k = .mk 0 0 [] [] := by
  unfold valOf
  have : A.find? (sameK k) = none := List.find?_eq_none.2 fun x hx => by have := List.any_eq_false.1 h x hx; simpa using this
  rw [this]
theorem encV_zero : Le (.agg [int 0, int 0, str [], .nils]) (encV (.mk 0 0 [] [])) := le_agg (LeL.cons Le.rfl (LeL.cons Le.rfl (LeL.cons Le.rfl (LeL.cons (le_nils 4) LeL.nil))))
theorem foldT {α β : Type} (g : β → α → β) (b : β) (l : List α) (i : Nat) (d : α) (hi : i < l.length) : (l.take (i + 1)).foldl g b = g ((l.take i).foldl g b) (l.getD i d) := by
  rw [List.take_succ_eq_append_getElem hi, List.foldl_append]
  simp [List.getD_eq_getElem?_getD, List.getElem?_eq_getElem hi]
theorem putV_ok {val : V → V} {L : List (V × V)} (hL : OkM L) : ∀ (ks : List V), (∀ k, k ∈ ks → Fine k ∧ Fine (val k) ∧ rightB k = true ∧ rightB (val k) = true) → L.length + ks.length ≤ 65536 → OkM (ks.foldl (putV val) L)
  | [], _, _ => hL
  | k :: ks, h, hl => by
    have h1 := h k (by simp)
    have h2 := put_len (k, val k) L
    have h3 : (k :: ks).length = ks.length + 1 := rfl
    exact putV_ok (hL.put (e := (k, val k)) ⟨h1.1, h1.2.1⟩ ⟨h1.2.2.1, h1.2.2.2⟩ (by omega)) ks (fun x hx => h x (by simp [hx])) (by show (put (k, val k) L).length + ks.length ≤ 65536; omega)
theorem cutU_ok {A L : List (V × V)} (hL : OkM L) : ∀ (xs : List V), OkM (xs.foldl (cutU A) L)
  | [] => hL
  | x :: xs => by
    rw [List.foldl_cons]
    unfold cutU
    split
    · exact cutU_ok hL xs
    · exact cutU_ok (hL.cut x) xs
noncomputable def bmF (kd : Nat) (L : List (V × V)) : List FV := [int (kd : Int), encC (kHash kd) 7 L]
theorem getBkk (l : List (V × V)) (i : Nat) (h : i < l.length) : (l.reverse.map (·.1)).getD i default = (l.getD (l.length - 1 - i) default).1 := by
  rw [List.getD_eq_getElem?_getD, List.getD_eq_getElem?_getD, List.getElem?_map, List.getElem?_reverse h, List.getElem?_eq_getElem (by omega)]
  rfl
/-- CHAMPFORM: a map hangs on its members alone. -/
theorem form_law (kd : Int) (l : List (V × V)) (ex : List V) (hl : ∀ p, p ∈ l → Fine p.1 ∧ Fine p.2) (he : ∀ x, x ∈ ex → Fine x) : CallsF P G 4 [int kd, encPs l, encI ex] (bool true) := by
  by_cases hk : 0 ≤ kd ∧ kd ≤ 63
  case neg => exact form_err kd l ex 4 (ofM_bad kd hk l) (by omega) speaks_ok
  obtain ⟨n, rfl⟩ : ∃ n : Nat, kd = (n : Int) := ⟨kd.toNat, by omega⟩
  have hn : n ≤ 63 := by omega
  by_cases hp : pairL l = 0
  case neg => exact form_err n l ex _ (ofM_not n hn l hl hp) hp speaks_ok
  have ha := ofM_ok n hn l hl hp
  by_cases h1 : l.length ≤ 300
  case neg => exact form_a n l ex (bmF n (putsL l)) ha speaks_ok (by omega)
  by_cases h2 : ex.length ≤ 300
  case neg => exact form_b n l ex (bmF n (putsL l)) ha speaks_ok h1 (by omega)
  have hli := listed_ok ex he
  by_cases h3 : listE ex = 0
  case neg => exact form_c n l ex (bmF n (putsL l)) (listE ex) ha speaks_ok h1 h2 hli h3
  rw [h3] at hli
  obtain ⟨_, hex⟩ := listE_zeroF h3
  obtain ⟨hl6, hr⟩ := pairL_zero hp
  have hA : OkM (putsL l) := by have := puts_ok l hl hr hl6 l.length (Nat.le_refl _); rwa [List.take_length] at this
  generalize hAe : putsL l = A at *
  have hsub : ∀ q, q ∈ A → q ∈ l := fun q hq => by
    rw [← hAe] at hq
    rcases puts_sub q l [] hq with h | h
    · cases h
    · exact h
  have hkey : ∀ p, p ∈ l → ∃ q, q ∈ A ∧ q.1 = p.1 := fun p hp => by
    rw [← hAe]
    exact puts_key p.1 l [] (fun q hq => by cases hq) (fun q hq => (hr q hq).1) (.inr ⟨p, hp, rfl⟩)
  have hAl : A.length ≤ l.length := by rw [← hAe]; exact puts_le l
  have iA := isM_some n hn A
  -- the keys, backwards
  generalize hks : l.reverse.map (·.1) = ks
  have hkl : ks.length = l.length := by rw [← hks]; simp
  have hkd : ∀ i, i < l.length → ks.getD i default = (l.getD (l.length - 1 - i) default).1 := fun i hi => by rw [← hks]; exact getBkk l i hi
  have hkm : ∀ k, k ∈ ks → ∃ q, q ∈ A ∧ q.1 = k := fun k hk => by
    rw [← hks] at hk
    obtain ⟨p, hp, rfl⟩ := List.mem_map.1 hk
    exact hkey p (List.mem_reverse.1 hp)
  have hkA : ∀ q, q ∈ A → q.1 ∈ ks := fun q hq => by
    rw [← hks]
    exact List.mem_map.2 ⟨q, List.mem_reverse.2 (hsub q hq), rfl⟩
  have hval : ∀ q, q ∈ A → valOf A q.1 = q.2 := fun q hq => valOf_in hA.dk hq
  have hkok : ∀ k, k ∈ ks → Fine k ∧ Fine (valOf A k) ∧ rightB k = true ∧ rightB (valOf A k) = true := fun k hk => by
    obtain ⟨q, hq, rfl⟩ := hkm k hk
    rw [hval q hq]
    exact ⟨(hA.fine q hq).1, (hA.fine q hq).2, (hA.right q hq).1, (hA.right q hq).2⟩
  have hxok : ∀ x, x ∈ ex → Fine x ∧ Fine (id x) ∧ rightB x = true ∧ rightB (id x) = true := fun x hx => ⟨he x hx, he x hx, hex x hx, hex x hx⟩
  have okE : ∀ i, OkM ((ex.take i).foldl (putV id) []) := fun i => putV_ok OkM.nil _ (fun x hx => hxok x (List.mem_of_mem_take hx)) (by rw [List.length_nil, List.length_take]; omega)
  have lenE : ∀ i, ((ex.take i).foldl (putV id) []).length ≤ 300 := fun i => by
    have := putV_len (val := id) (ex.take i) []
    rw [List.length_take, List.length_nil] at this; omega
  generalize hE : (ex.take ex.length).foldl (putV id) [] = LE at *
  have okLE : OkM LE := by rw [← hE]; exact okE _
  have lenLE : LE.length ≤ 300 := by rw [← hE]; exact lenE _
  have okC : ∀ i, OkM ((ks.take i).foldl (putV (valOf A)) LE) := fun i => putV_ok okLE _ (fun x hx => hkok x (List.mem_of_mem_take hx)) (by rw [List.length_take]; omega)
  have lenC : ∀ i, ((ks.take i).foldl (putV (valOf A)) LE).length ≤ 600 := fun i => by
    have := putV_len (val := valOf A) (ks.take i) LE
    rw [List.length_take] at this; omega
  generalize hC : (ks.take l.length).foldl (putV (valOf A)) LE = LC at *
  have okLC : OkM LC := by rw [← hC]; exact okC _
  have okD : ∀ i, OkM ((ex.take i).foldl (cutU A) LC) := fun i => cutU_ok okLC _
  have hD : ((ex.take ex.length).foldl (cutU A) LC).Perm A := by
    rw [← hC, ← hE, List.take_length, ← hkl, List.take_length]
    exact form_same (R := fun v => rightB v = true) (fun a b h1 h2 h3 => rightB_same h1 h2 h3) hA.dk (fun q hq => (hA.right q hq).1) hkm hkA hval hex
  have okDD := okD ex.length
  have hfp : ∀ p, p ∈ tor (kHash n) 7 A → Fine p.1 ∧ Fine p.2 := fun p hp => hA.fine p ((tor_perm _ 7 A).mem_iff.1 hp)
  have hT : tor (kHash n) 7 ((ex.take ex.length).foldl (cutU A) LC) = tor (kHash n) 7 A := tor_self (hD.trans (tor_perm _ 7 A).symm) (tor_rising _ 7 A hA.dk) okDD.dk
  have hX : ∀ i, i < ex.length → ex.getD i default ∈ ex := fun i hi => getD_mem hi
  have hQ : ∀ i, i < l.length → l.getD (l.length - 1 - i) default ∈ l := fun i hi => getD_memP _ _ (by omega)
  have hpd := mPairs (isM_some n hn _) okDD
  rw [hT] at hpd
  have hsd := mShape (isM_some n hn _) okDD
  rw [shC_perm _ 7 _ _ hD] at hsd
  refine form_run n l ex (bmF n A) (fun i => bmF n ((ex.take i).foldl (putV id) [])) (fun i => bmF n ((ks.take i).foldl (putV (valOf A)) LE)) (fun i => bmF n ((ex.take i).foldl (cutU A) LC)) (fun i => valOf A (l.getD (l.length - 1 - i) default).1) (fun i => valOf A (ex.getD i default)) (fun i => A.any (sameK (ex.getD i default))) (tor (kHash n) 7 A) (shC (kHash n) 7 A) ex.length l.length ha speaks_ok h1 h2 hli rfl rfl (newM_ok n hn) (by show bmF n LE = _; rw [hE]) (by show bmF n LC = _; rw [hC]) (fun i hi => ?_) (fun i hi => ?_) (fun i hi => ?_) (fun i hi => ?_) (fun i hi hq => ?_) (fun i hi hq => ?_) (mPairs iA hA) hpd ?_ (mShape iA hA) hsd (shapes_ok _ A hA.len)
  · show CallsF P G _ [encMC n _, _, _] (.tup [encMC n ((ex.take (i + 1)).foldl (putV id) []), _])
    rw [foldT _ _ _ _ default hi]
    have hx := hxok _ (hX i hi)
    exact mAss (isM_some n hn _) (okE i) _ _ ⟨hx.1, hx.1⟩ ⟨hx.2.2.1, hx.2.2.1⟩ (fun h => by have := lenE i; omega)
  · obtain ⟨m, hm, e⟩ := hkey _ (hQ i hi)
    have h5 : valOf A (l.getD (l.length - 1 - i) default).1 = m.2 := by rw [← e]; exact hval m hm
    show CallsF P G _ [encMC n A, _] _
    rw [h5]
    exact mGet_in iA hA _ (hl _ (hQ i hi)).1 (hr _ (hQ i hi)).1 m hm (by rw [← e]; exact sameK_self m)
  · show CallsF P G _ [encMC n _, _, _] (.tup [encMC n ((ks.take (i + 1)).foldl (putV (valOf A)) LE), _])
    rw [foldT _ _ _ _ default (by omega), hkd i hi]
    have hk := hkok (l.getD (l.length - 1 - i) default).1 (by rw [← hkd i hi]; exact getD_mem (by omega))
    exact mAss (isM_some n hn _) (okC i) _ _ ⟨hk.1, hk.2.1⟩ ⟨hk.2.2.1, hk.2.2.2⟩ (fun h => by have := lenC i; omega)
  · show CallsF P G _ [encMC n A, _] _
    have hx := hxok _ (hX i hi)
    cases hany : A.any (sameK (ex.getD i default)) with
    | false =>
      rw [valOf_out hany]
      exact (mGet_out iA hA _ hx.1 hx.2.2.1 hany).le (le_tup (LeL.cons encV_zero (LeL.cons Le.rfl (LeL.cons Le.rfl LeL.nil))))
    | true =>
      obtain ⟨m, hm, hs⟩ := List.any_eq_true.1 hany
      have e : ex.getD i default = m.1 := (rightB_same (hA.right m hm).1 hx.2.2.1 (by simpa [sameK] using hs)).symm
      rw [e, hval m hm]
      rw [e] at hx
      exact mGet_in iA hA _ hx.1 hx.2.2.1 m hm (sameK_self m)
  · show bmF n ((ex.take (i + 1)).foldl (cutU A) LC) = _
    rw [foldT _ _ _ _ default hi]
    unfold cutU
    rw [if_pos hq]
  · show CallsF P G _ [encMC n _, _] (.tup [encMC n ((ex.take (i + 1)).foldl (cutU A) LC), _])
    rw [foldT _ _ _ _ default hi]
    have hx := hxok _ (hX i hi)
    have e : cutU A ((ex.take i).foldl (cutU A) LC) (ex.getD i default) = cut (ex.getD i default) ((ex.take i).foldl (cutU A) LC) := by
      show (if A.any (sameK (ex.getD i default)) = true then _ else _) = _
      rw [if_neg (by rw [hq]; simp)]
    rw [e]
    exact mDis (isM_some n hn _) (okD i) _ hx.1 hx.2.2.1
  · exact pairs_same _ (by rw [tor_len]; omega) (fun p hp => pairEq_ok p (hfp p hp))
end Go.Sx

/-
  Proved: what some functions of the program answer, or a law of the evaluator that shows it, one theorem each; its conditions are the hypotheses that stand ahead of it.
-/
import Derived.Test.YtgbkobkiomeokaaDoorSxL
set_option maxRecDepth 100000
namespace Go.Sx
section
variable {P : Program} {G : Gr}
/-- As fnStW; that the first argument's slot is never written is kept in mind. -/
def fnStV (fn : Func) (e sz : Nat) (es : List (List FV)) (rest : List FV) : St := { fnStW fn e sz es rest with kp := [0] }
def endV (P : Program) (fn : Func) (e sz : Nat) (es' : List (List FV)) (r : FV) (st : St) : Prop :=
  st.kp.contains 0 = true ∧ (match st.sl with | .lsl 0 :: _ => True | _ => False) ∧ (match getOb 0 st.ob, resultsF P st fn with
    | some (.row sz2 e2 es2), some r2 => e2 = e ∧ sz2 = sz ∧ es2 = es' ∧ r2 = r
    | _, _ => False)
def evalFnV (P : Program) (G : Gr) (fn : Func) (e sz : Nat) (es : List (List FV)) (rest : List FV) (hs : List Hint) (es' : List (List FV)) (r : FV) : Prop :=
  match fn.body with
  | none => False
  | some c => evalCode P G c (fnStV fn e sz es rest) hs fun ex st hs =>
    match ex with
    | .exit _ => False
    | _ => match st.frzs (frzOf hs) with
      | none => False
      | some st => endV P fn e sz es' r st
theorem CallsW_of_evalFnV {f : Nat} {fn : Func} {rest : List FV} {hs : List Hint} {e sz : Nat} {es es' : List (List FV)} {r : FV} (hf : P.funcs[f]? = some fn) (he : entersP P f = true) (h : evalFnV P G fn e sz es rest hs es' r) :
    CallsW P G f e sz es rest es' (some r) := by
  intro w ok v xs vs hg hok hhas hown hes hlens hv
  unfold CallY
  rw [run_enter he]
  simp only
  unfold evalFnV at h
  split at h
  · exact h.elim
  · rename_i c hb
    let en0 : Env := { ds := fun _ => False, blk := fun k => if k = 0 then opt v.ownBlock else opt none, val := fun k => if k = 0 then v else undef }
    have hinit : Inv G (opt v.ownBlock) (fun b => ok b ∨ v.ownBlock = some b) w (fun _ => v) (fnStV fn e sz es rest) { tmps := (v :: vs).toArray ++ Array.replicate (fn.ntmps - (v :: vs).toArray.size) undef, defers := [] } w en0 := by
      have hob : ∀ k o, getOb k (fnStV fn e sz es rest).ob = some o → k = 0 ∧ o = .row sz e es := by
        intro k o hk
        simp only [fnStV, fnStW, getOb] at hk
        split at hk
        · rename_i e0; simp only [Option.some.injEq] at hk; exact ⟨e0.symm, hk.symm⟩
        · cases hk
      have hc : Carry w w ok (okS (fun b => ok b ∨ v.ownBlock = some b) w w (fnStV fn e sz es rest).ob en0) := Carry.same w fun b hb => ⟨.inl (.inl hb), (hok b hb).1, fun k o hk => by
        obtain ⟨rfl, _⟩ := hob k o hk
        exact (hok b hb).2, id⟩
      have h1 := FRelL.toA (en := en0) _ _ (FRelL.carry hc _ _ hv)
      have h2 := undefs_rel (w := w) (ok := okS (fun b => ok b ∨ v.ownBlock = some b) w w (fnStV fn e sz es rest).ob en0) (en := en0) (fn.ntmps - (rest.length + 1))
      refine ⟨⟨hg, ?_, ?_, (Ext.refl w).toX, ?_, ?_, fun D hD => hD.elim⟩, ⟨List.nodup_nil, by simp⟩, ?_, ?_, fun t ht => ?_, fun hn => (by cases hn)⟩
      · rintro b (hb | hb)
        · exact (hok b hb).1
        · exact (hown.lt b hb).2
      · intro b hb; exact ⟨.inr hb, hhas b hb⟩
      · intro k o hk
        obtain ⟨rfl, rfl⟩ := hob k o hk
        exact ⟨by simp [fnStV, fnStW], fun b hb => .inr (by simpa [en0] using hb), trivial, xs, by simpa [en0] using hown, by simp [en0], FRelL.carry hc _ _ hes, hlens⟩
      · intro j k o p hj hk hne
        obtain ⟨rfl, _⟩ := hob j o hj
        obtain ⟨rfl, _⟩ := hob k p hk
        exact absurd rfl hne
      · obtain ⟨A, m, cc, hsl⟩ := ownsRow_slice hown
        simp only [fnStV, fnStW, Array.toList_append, Array.toList_replicate, List.size_toArray, List.length_cons, List.cons_append, ARelL, ARel]
        refine ⟨v, _, rfl, ⟨by simp [en0], A, m, cc, hsl⟩, ?_⟩
        rw [FRelL.length _ _ hv]
        exact ARelL.append _ _ _ _ h1.1 h2.1
      · simp only [fnStV, fnStW, bdL, AV.bd]
        exact ⟨by omega, bdL.append _ _ (h1.2 _) (h2.2 _)⟩
      · simp only [fnStV, List.mem_cons, List.not_mem_nil, or_false] at ht
        subst ht
        rw [Array.getD_eq_getD_getElem?, Array.getElem?_append_left (by simp)]
        simp
    refine calls_of_inv hf hb (evalCode_sound c (.inl rfl) hinit h ?_)
    intro ex st' hs' a' w' en' h' hk
    have fin : (match st'.frzs (frzOf hs') with
      | none => False
      | some st => endV P fn e sz es' r st) → LeavesInM (FW none) 0 P fn a'.tmps (fun e2 w'' => ∃ u', e2 = .returned u' ∧ ∃ v' xs', w''.ownsRow 0 e sz v' es'.length xs' ∧ (∀ b, v'.ownBlock = some b → v.ownBlock = some b ∨ w.heap.size ≤ b) ∧
      FRelL w'' (fun b => (ok b ∨ v.ownBlock = some b ∨ (w.heap.size ≤ b ∧ b < w''.heap.size)) ∧ v'.ownBlock ≠ some b) es'.flatten xs' ∧ (∀ x ∈ es', x.length = sz) ∧ (v' = v ∧ FRel w'' (fun b => (ok b ∨ (w.heap.size ≤ b ∧ b < w''.heap.size)) ∧ v.ownBlock ≠ some b) r u') ∧ ExtX G (opt v.ownBlock) w w'') a'.defers .returning w' := by
      intro hk
      split at hk
      · exact hk.elim
      · rename_i st2 hfz
        have h2 := St.frzs_inv _ h' hfz
        obtain ⟨hkp, hsl, hk⟩ := hk
        split at hk
        · rename_i sz2 e2' es2 r2 hob hres
          obtain ⟨rfl, rfl, rfl, rfl⟩ := hk
          refine leaves_of_inv a'.tmps (fun a2 w2 ht h2 => ?_) a'.defers a' w' rfl rfl h2
          obtain ⟨u, h3, h4⟩ := results_sound h2 hres
          rw [ht] at h3
          obtain ⟨g1, g2, g3, ys, r1, r2, r3, r4⟩ := h2.mem.obs _ _ hob
          have hv0 : en'.val 0 = v := by
            have hkeep := h2.keep 0 (by simpa using hkp)
            have hs2 := h2.slots
            split at hsl
            · rename_i l hl
              rw [hl] at hs2
              simp only [ARelL, ARel] at hs2
              obtain ⟨u0, r0, e0, ⟨hu, _⟩, _⟩ := hs2
              rw [← hu]
              have : a2.tmps.getD 0 undef = u0 := by
                rw [Array.getD_eq_getD_getElem?, ← Array.getElem?_toList, e0]; rfl
              rw [← this]; exact hkeep
            · exact hsl.elim
          rw [hv0] at r1 r2
          refine ⟨u, h3, u, rfl, v, ys, r1, fun b hb => .inl hb, FRelL.mono (fun b hb => ?_) _ _ r3, r4, ⟨rfl, FRel.carry (Carry.same _ fun b hb => ?_) _ _ h4⟩, h2.mem.ext⟩
          · refine ⟨?_, fun e => hb.2.2.1 0 _ hob (by rw [r2]; exact e)⟩
            rcases hb.1 with (h9 | h9) | h9
            · exact .inl h9
            · exact .inr (.inl h9)
            · exact .inr (.inr ⟨h9, hb.2.1⟩)
          · have hne : v.ownBlock ≠ some b := fun e => hb.2.2.1 0 _ hob (by rw [r2]; exact e)
            refine ⟨?_, hne⟩
            rcases hb.1 with (h9 | h9) | h9
            · exact .inl h9
            · exact absurd h9 hne
            · exact .inr ⟨h9, hb.2.1⟩
        · exact hk.elim
    cases ex with
    | normal => exact fin hk
    | exit _ => exact hk.elim
    | ret => exact fin hk
theorem sx_fnV {f : Nat} {fn : Func} {rest : List FV} {hs : List Hint} {e sz : Nat} {es es' : List (List FV)} {r : FV} (OB : Prop) (hf : P.funcs[f]? = some fn) (he : entersP P f = true) (ev : evalFnV P G fn e sz es rest hs es' r = OB) (h : OB) : CallsW P G f e sz es rest es' (some r) :=
  CallsW_of_evalFnV hf he (by rw [ev]; exact h)
end
end Go.Sx

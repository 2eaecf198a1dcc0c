/-
  Proved: what some functions of the program answer, or a law of the evaluator that shows it, one theorem each; its conditions are the hypotheses that stand ahead of it.
-/
import Derived.Test.YtdgodofdnaligaaDoorSxL
set_option maxRecDepth 100000
namespace Go.Sx
section
variable {P : Program} {G : Gr}
/-- The second argument is a row that may be written. -/
def fnStU (fn : Func) (e sz : Nat) (es : List (List FV)) (x : FV) (rest : List FV) : St := { sl := .f x :: .lsl 0 :: (rest.map .f ++ List.replicate (fn.ntmps - (rest.length + 2)) (.f (.sc undef))), ob := [(0, .row sz e es)], nx := 1 }
def evalFnU (P : Program) (G : Gr) (fn : Func) (e sz : Nat) (es : List (List FV)) (x : FV) (rest : List FV) (hs : List Hint) (es' : List (List FV)) : Prop :=
  match fn.body with
  | none => False
  | some c => evalCode P G c (fnStU fn e sz es x rest) hs fun ex st hs =>
    match ex with
    | .exit _ => False
    | _ => match st.frzs (frzOf hs) with
      | none => False
      | some st => (match rowOf P st fn with
          | some (_, e2, sz2, es2) => e2 = e ∧ sz2 = sz ∧ es2 = es'
          | none => False)
theorem CallsU_of_evalFnU {f : Nat} {fn : Func} {x : FV} {rest : List FV} {hs : List Hint} {e sz : Nat} {es es' : List (List FV)} (hf : P.funcs[f]? = some fn) (he : entersP P f = true) (h : evalFnU P G fn e sz es x rest hs es') :
    CallsU P G f e sz es x rest es' := by
  intro w ok v xs y vs hg hok hhas hown hes hlens hx hv
  unfold CallY
  rw [run_enter he]
  simp only
  unfold evalFnU at h
  split at h
  · exact h.elim
  · rename_i c hb
    let en0 : Env := { ds := fun _ => False, blk := fun k => if k = 0 then opt v.ownBlock else opt none, val := fun k => if k = 0 then v else undef }
    have hinit : Inv G (opt v.ownBlock) (fun b => ok b ∨ v.ownBlock = some b) w (fun _ => undef) (fnStU fn e sz es x rest) { tmps := (y :: v :: vs).toArray ++ Array.replicate (fn.ntmps - (y :: v :: vs).toArray.size) undef, defers := [] } w en0 := by
      have hob : ∀ k o, getOb k (fnStU fn e sz es x rest).ob = some o → k = 0 ∧ o = .row sz e es := by
        intro k o hk
        simp only [fnStU, getOb] at hk
        split at hk
        · rename_i e0; simp only [Option.some.injEq] at hk; exact ⟨e0.symm, hk.symm⟩
        · cases hk
      have hc : Carry w w ok (okS (fun b => ok b ∨ v.ownBlock = some b) w w (fnStU fn e sz es x rest).ob en0) := Carry.same w fun b hb => ⟨.inl (.inl hb), (hok b hb).1, fun k o hk => by
        obtain ⟨rfl, _⟩ := hob k o hk
        exact (hok b hb).2, id⟩
      have h1 := FRelL.toA (en := en0) _ _ (FRelL.carry hc _ _ hv)
      have h2 := undefs_rel (w := w) (ok := okS (fun b => ok b ∨ v.ownBlock = some b) w w (fnStU fn e sz es x rest).ob en0) (en := en0) (fn.ntmps - (rest.length + 2))
      refine ⟨⟨hg, ?_, ?_, (Ext.refl w).toX, ?_, ?_, fun D hD => hD.elim⟩, ⟨List.nodup_nil, by simp⟩, ?_, ?_, fun t ht => (by cases ht), fun hn => (by cases hn)⟩
      · rintro b (hb | hb)
        · exact (hok b hb).1
        · exact (hown.lt b hb).2
      · intro b hb; exact ⟨.inr hb, hhas b hb⟩
      · intro k o hk
        obtain ⟨rfl, rfl⟩ := hob k o hk
        exact ⟨by simp [fnStU], fun b hb => .inr (by simpa [en0] using hb), trivial, xs, by simpa [en0] using hown, by simp [en0], FRelL.carry hc _ _ hes, hlens⟩
      · intro j k o p hj hk hne
        obtain ⟨rfl, _⟩ := hob j o hj
        obtain ⟨rfl, _⟩ := hob k p hk
        exact absurd rfl hne
      · obtain ⟨A, m, cc, hsl⟩ := ownsRow_slice hown
        simp only [fnStU, Array.toList_append, Array.toList_replicate, List.size_toArray, List.length_cons, List.cons_append, ARelL, ARel]
        refine ⟨y, _, rfl, FRel.carry hc _ _ hx, v, _, rfl, ⟨by simp [en0], A, m, cc, hsl⟩, ?_⟩
        rw [FRelL.length _ _ hv]
        exact ARelL.append _ _ _ _ h1.1 h2.1
      · simp only [fnStU, bdL, AV.bd]
        exact ⟨trivial, by omega, bdL.append _ _ (h1.2 _) (h2.2 _)⟩
    refine calls_of_inv hf hb (evalCode_sound c (.inl rfl) hinit h ?_)
    intro ex st' hs' a' w' en' h' hk
    have fin : (match st'.frzs (frzOf hs') with
      | none => False
      | some st => (match rowOf P st fn with
          | some (_, e2, sz2, es2) => e2 = e ∧ sz2 = sz ∧ es2 = es'
          | none => False)) → LeavesInM (FW none) 0 P fn a'.tmps (fun e2 w'' => ∃ u', e2 = .returned u' ∧ ∃ xs', w''.ownsRow 0 e sz u' es'.length xs' ∧ (∀ b, u'.ownBlock = some b → v.ownBlock = some b ∨ w.heap.size ≤ b) ∧
      FRelL w'' (fun b => (ok b ∨ v.ownBlock = some b ∨ (w.heap.size ≤ b ∧ b < w''.heap.size)) ∧ u'.ownBlock ≠ some b) es'.flatten xs' ∧ (∀ x ∈ es', x.length = sz) ∧ ExtX G (opt v.ownBlock) w w'') a'.defers .returning w' := by
      intro hk
      split at hk
      · exact hk.elim
      · rename_i st2 hfz
        have h2 := St.frzs_inv _ h' hfz
        split at hk
        · rename_i k e' sz' es2 hr
          obtain ⟨rfl, rfl, rfl⟩ := hk
          refine leaves_of_inv a'.tmps (fun a2 w2 ht h2 => ?_) a'.defers a' w' rfl rfl h2
          obtain ⟨u, ys, h3, h4, h5, h6, h7, h8⟩ := row_result h2 hr
          rw [ht] at h3
          refine ⟨u, h3, u, rfl, ys, h4, fun b hb => ?_, FRelL.mono (fun b hb => ?_) _ _ h5, h6, h2.mem.ext⟩
          · exact ((h2.mem.obs k _ h8).2.1 b (by rw [h7]; exact hb)).symm
          · refine ⟨?_, fun e => hb.2.2.1 k _ h8 (by rw [h7]; exact e)⟩
            rcases hb.1 with (h9 | h9) | h9
            · exact .inl h9
            · exact .inr (.inl h9)
            · exact .inr (.inr ⟨h9, hb.2.1⟩)
        · exact hk.elim
    cases ex with
    | normal => exact fin hk
    | exit _ => exact hk.elim
    | ret => exact fin hk
theorem sx_fnU {f : Nat} {fn : Func} {x : FV} {rest : List FV} {hs : List Hint} {e sz : Nat} {es es' : List (List FV)} (OB : Prop) (hf : P.funcs[f]? = some fn) (he : entersP P f = true) (ev : evalFnU P G fn e sz es x rest hs es' = OB) (h : OB) : CallsU P G f e sz es x rest es' :=
  CallsU_of_evalFnU hf he (by rw [ev]; exact h)
end
end Go.Sx

/-
  Proved: what some functions of the program answer, or a law of the evaluator that shows it, one theorem each; its conditions are the hypotheses that stand ahead of it.
-/
import Derived.Test.YtkbaoibplojjlaaDoorR3
import Derived.KernelRfl
set_option maxRecDepth 100000
set_option maxHeartbeats 4000000
set_option linter.unusedSimpArgs false
set_option linter.unusedVariables false
namespace Go.Sx
open Go.Proofs Sp
theorem insert_ok {g : Gr} (c : V → V → Int) (cf : Nat) (mp : FV) (k v : V) : ∀ (x : T), (∀ y, y ∈ x.toList.map (·.1) → CallsF P g cf [mp, encV k, encV y] (int (c k y))) → CallsF P g 53 [encT x, encV k, encV v, .fn cf [mp] []] (encT (T.insert c k v x))
  | .nil, _ => insert_nil c cf mp k v
  | .node b l r xk xv, hc => insert_step c cf mp k v _ rfl (hc _ (keys_key (t := .node b l r xk xv) rfl))
      (fun _ => insert_ok c cf mp k v l fun y hy => hc y (keys_left (t := .node b l r xk xv) hy)) (fun _ => insert_ok c cf mp k v r fun y hy => hc y (keys_right (t := .node b l r xk xv) hy))
theorem joined_ok {g : Gr} : ∀ (s : Nat) (l r : T) (n : Nat), SizeOf.sizeOf l + SizeOf.sizeOf r ≤ s → l.rb n → r.rb n → CallsF P g 65 [encT l, encT r] (encT (T.joined l r)) := by
  intro s
  induction s with
  | zero => intro l r n hs; cases l <;> simp at hs
  | succ s ih =>
    intro l r n hs hl hr
    cases l with
    | nil => exact joined_nilL r
    | node cl ll lr lk lv =>
      cases r with
      | nil => exact joined_nilR _ rfl
      | node cr rl rr rk rv =>
        simp only [T.node.sizeOf_spec] at hs
        have key : cl = false → cr = false → (T.joined lr rl).red = false → ∃ q, ll.rb q ∧ (T.node false (T.joined lr rl) rr rk rv).rb (q + 1) := by
          rintro rfl rfl hm
          obtain ⟨m, rfl, h1, h2⟩ := hl
          obtain ⟨m', e, h3, h4⟩ := hr
          obtain rfl : m = m' := by omega
          exact ⟨m, h1, m, rfl, T.ir_rb (T.joined_rb _ lr rl m (Nat.le_refl _) h2 h3).1 hm, h4⟩
        have fin : ∀ (_ : cl = false) (_ : cr = false) (_ : (T.joined lr rl).red = false), CallsF P g 67 [encT (.node cl ll lr lk lv), encT ll, encT (T.node false (T.joined lr rl) rr rk rv)] (encT (T.leftShort (.node cl ll lr lk lv) ll (T.node false (T.joined lr rl) rr rk rv))) := by
          intro h1 h2 h3
          obtain ⟨q, h4, h5⟩ := key h1 h2 h3
          exact leftShort_ok _ _ _ rfl (T.leftShort_ok (.node cl ll lr lk lv) (T.rb_ir h4) h5).2.2
        refine joined_step _ _ rfl rfl ?_ ?_ ?_ (fun a b d _ => fin a b d) (fun a b d _ => fin a b d)
        · intro h
          simp only [T.red_mk] at h
          subst h
          cases cl with
          | true => exact ih lr rl n (by omega) hl.2.1 hr.1
          | false =>
            obtain ⟨m, rfl, h1, h2⟩ := hl
            obtain ⟨m', e, h3, h4⟩ := hr
            obtain rfl : m = m' := by omega
            exact ih lr rl m (by omega) h2 h3
        · intro h1 h2
          simp only [T.red_mk] at h1 h2
          subst h1; subst h2
          exact ih (.node false ll lr lk lv) rl n (by simp only [T.node.sizeOf_spec]; omega) hl hr.1
        · intro h1 h2
          simp only [T.red_mk] at h1 h2
          subst h1; subst h2
          exact ih lr (.node false rl rr rk rv) n (by simp only [T.node.sizeOf_spec]; omega) hl.2.1 hr
theorem rb_black_pos {t : T} {m : Nat} (h : t.rb m) (hb : t.black = true) : t.red = false ∧ ∃ q, m = q + 1 := by
  cases t with
  | nil => simp at hb
  | node c a b p q =>
    cases c with
    | true => simp at hb
    | false => obtain ⟨q, e, _⟩ := h; exact ⟨rfl, q, e⟩
theorem rb_kids {b : Bool} {l r : T} {k v : V} {n : Nat} (h : (T.node b l r k v).rb n) : ∃ m, l.rb m ∧ r.rb m := by
  cases b with
  | true => exact ⟨n, h.1, h.2.1⟩
  | false => obtain ⟨m, _, h1, h2⟩ := h; exact ⟨m, h1, h2⟩
theorem remove_ok {g : Gr} (c : V → V → Int) (cf : Nat) (mp : FV) (k : V) : ∀ (x : T) (n : Nat), x.rb n → x.has c k → (∀ y, y ∈ x.toList.map (·.1) → CallsF P g cf [mp, encV k, encV y] (int (c k y))) → CallsF P g 50 [encT x, encV k, .fn cf [mp] []] (encT (T.remove c k x))
  | .nil, _, _, h, _ => h.elim
  | .node b l r xk xv, n, hb, hh, hc => by
    obtain ⟨m, hl, hr⟩ := rb_kids hb
    simp only [T.has] at hh
    refine remove_step c cf mp k _ rfl (hc _ (keys_key (t := .node b l r xk xv) rfl)) (fun h => ?_) (fun h => ?_) (fun h => ?_) (fun h h2 => ?_) (fun h h2 => ?_)
    · simp only [T.key_mk] at h
      rw [if_neg (by omega), if_pos h] at hh
      exact remove_ok c cf mp k l m hl hh fun y hy => hc y (keys_left (t := .node b l r xk xv) hy)
    · simp only [T.key_mk] at h
      rw [if_neg (by omega), if_neg (by omega)] at hh
      exact remove_ok c cf mp k r m hr hh fun y hy => hc y (keys_right (t := .node b l r xk xv) hy)
    · exact joined_ok _ l r m (Nat.le_refl _) hl hr
    · simp only [T.key_mk] at h
      rw [if_neg (by omega), if_pos h] at hh
      obtain ⟨h3, q, rfl⟩ := rb_black_pos hl h2
      exact leftShort_ok _ _ _ rfl (T.leftShort_ok (.node b l r xk xv) ((T.remove_rb c k l q hh).2 hl h3) hr).2.2
    · simp only [T.key_mk] at h
      rw [if_neg (by omega), if_neg (by omega)] at hh
      obtain ⟨h3, q, rfl⟩ := rb_black_pos hr h2
      exact rightShort_ok _ _ _ rfl (T.rightShort_ok (.node b l r xk xv) ((T.remove_rb c k r q hh).2 hr h3) hl).2.2
theorem height_ok {g : Gr} : ∀ (x : T), x.height ≤ 1152921504606846976 → CallsF P g 52 [encT x] (int (x.height : Nat))
  | .nil, _ => height_nil
  | .node b l r k v, h => by
    have h1 : l.height < (T.node b l r k v).height ∧ r.height < (T.node b l r k v).height := by simp only [T.height]; omega
    exact height_step _ rfl h (height_ok l (by omega)) (height_ok r (by omega))

end Go.Sx

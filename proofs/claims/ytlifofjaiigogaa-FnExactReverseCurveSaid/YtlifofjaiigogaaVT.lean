/-
  Code: the interpreter's conditions suffice. No condition beyond those named.
-/
import Derived.Test.YtlifofjaiigogaaVS
namespace GV
open Go
set_option linter.unusedSimpArgs false
set_option linter.unusedVariables false

section
variable {c : Ctx} {E : Env} {w : World}

theorem putK_ok {T : Tmps} {d : Option Nat} {v : AV} {k : Tmps → Prop} (h : putK E T d v k) : (∀ n, d = some n → n < E.nt) ∧ k (setD T d v) := by
  unfold putK at h
  split at h
  · split at h
    · rename_i hd
      rw [setTK_eq] at h
      exact ⟨fun n e => by cases e; exact Nat.le_of_ble_eq_true hd, h⟩
    · exact h.elim
  · exact ⟨fun n e => (by cases e), h⟩

theorem im_short {A : Nat → Prop} {g : GT} {xs : List g.den} {v : Value} (h : PR w A (.im g xs) v) : xs.length ≤ 9223372036854775807 := by
  rcases im_inv h with ⟨rfl, _⟩ | ⟨b, q, cap, f, rfl, ⟨h1, h2⟩, _⟩
  · exact Nat.zero_le _
  · exact Nat.le_trans h1 h2

theorem fact_ok {S : St} {a : Act} (hS : SRel c S a w) {op : Op} : ∀ q, factF op (evO S.tmps) (getO S.objs) = some q → q := by
  obtain ⟨⟨ρ, H, hT⟩, _, _⟩ := hS
  intro q h
  unfold factF at h
  split at h
  · rename_i x _
    have hx := evO_rel hT x
    split at h
    · rename_i g xs e
      cases h
      rw [e] at hx
      exact im_short (w := w) (A := Av c.X S.objs ρ) hx
    · rename_i o v e
      have hob := H.obj o
      split at h
      · rename_i g xs hc
        cases h
        rw [cur_eq hc (by simp)] at hob
        rcases hob with ⟨rfl, _⟩ | ⟨b, cap, ccs, t, _, h1, h2, _⟩
        · exact Nat.zero_le _
        · exact Nat.le_trans h1 h2
      · rename_i g xs hc
        cases h
        rw [cur_eq hc (by simp)] at hob
        exact im_short (w := w) (A := Av c.X S.objs ρ) hob
      · cases h
    · cases h
  · cases h

theorem fact_use {p : Option Prop} {k : Prop} (hp : ∀ q, p = some q → q) (h : fact p k) : k := by
  cases p with
  | none => exact h
  | some q => exact h (hp q rfl)

theorem doK_ok {o : Oper} {S : St} {k : St → Prop} (hfact : ∀ q, factF o.op (evO S.tmps) (getO S.objs) = some q → q) (h : doK E o S k) : ∃ p v us, stepF E o.dst o.op (evO S.tmps) (getO S.objs) = some (p, v, us) ∧ pOk p ∧ (∀ n, o.dst = some n → n < E.nt) ∧
    k ⟨setD S.tmps o.dst v, setOs S.objs us⟩ := by
  obtain ⟨T0, O0⟩ := S
  rw [doK] at h
  split at h
  · exact h.elim
  · rename_i p v us hs
    have h := fact_use hfact h
    simp only [fAV_eq, fUs_eq] at h
    have h' : pOk p ∧ putK E T0 o.dst v fun T => k ⟨T, setOs O0 us⟩ := by
      cases p with
      | none => exact ⟨trivial, h⟩
      | some p => exact ⟨h.1.out, h.2 h.1.out⟩
    obtain ⟨h1, h2⟩ := putK_ok h'.2
    exact ⟨p, v, us, hs, h'.1, h1, h2⟩

theorem skip_rel (hE : EOk c E) {S : St} {a : Act} (hS : SRel c S a w) {d : Option Nat} : SRel c ⟨setD S.tmps d (.tup []), S.objs⟩ (a.put d undef) w := by
  obtain ⟨⟨ρ, H, hT⟩, h1, h2⟩ := hS
  refine ⟨⟨ρ, H, fun t => ?_⟩, ?_, ?_⟩
  · cases d with
    | none => exact hT t
    | some d =>
      by_cases e : t = d
      · subst e
        simp only [setD]
        rw [getT_setT_same]
        refine ⟨#[], ?_, rfl, fun k t u hk => by simp at hk⟩
        simp only [Act.put]
        rw [Array.getD_eq_getD_getElem?, Array.getElem?_setIfInBounds]
        simp only [if_true]
        split <;> rfl
      · simp only [setD]
        rw [getT_setT_other _ _ e]
        simp only [Act.put]
        rw [Array.getD_eq_getD_getElem?, Array.getElem?_setIfInBounds_ne (fun h => e h.symm), ← Array.getD_eq_getD_getElem?]
        exact hT t
  · cases d <;> exact h1
  · cases d <;> simp [Act.put, h2]

theorem yielded_of {S : St} {a : Act} (hS : SRel c S a w) {ops : Array Oper} {j s : Nat} (hs : gslot ops.toList j = some s) {l b : Bool} (hg : getT S.tmps s = .c (.bool l b)) : yielded ops a.tmps j = some b := by
  obtain ⟨⟨ρ, H, hT⟩, _, _⟩ := hS
  have h := hT s
  rw [hg] at h
  have h : a.tmps.getD s undef = .bool b := h
  have hin : a.tmps[s]? = some (.bool b) := by
    rw [Array.getD_eq_getD_getElem?] at h
    cases e : a.tmps[s]? with
    | none => rw [e] at h; cases h
    | some v => rw [e] at h; rw [← h]; rfl
  unfold gslot at hs
  unfold yielded
  have e : ops[j]? = ops.toList[j]? := by simp
  rw [e]
  cases hj : ops.toList[j]? with
  | none => rw [hj] at hs; cases hs
  | some o => rw [hj] at hs; simp only at hs; simp [hs, hin]

theorem yielded_non {S : St} {a : Act} (hS : SRel c S a w) {ops : Array Oper} {j s : Nat} (hs : gslot ops.toList j = some s) (hg : getT S.tmps s = .tup []) : yielded ops a.tmps j = none := by
  obtain ⟨⟨ρ, H, hT⟩, _, _⟩ := hS
  have h := hT s
  rw [hg] at h
  obtain ⟨vs, hv, _⟩ := h
  unfold gslot at hs
  unfold yielded
  have e : ops[j]? = ops.toList[j]? := by simp
  rw [e]
  cases hj : ops.toList[j]? with
  | none => rw [hj] at hs; cases hs
  | some o =>
    rw [hj] at hs
    simp only at hs
    simp only [Option.bind_some, hs]
    rw [Array.getD_eq_getD_getElem?] at hv
    cases e : a.tmps[s]? with
    | none => rfl
    | some v =>
      rw [e] at hv
      have hv : v = .tuple vs := hv
      subst hv
      rfl

theorem set_same {S : St} {a : Act} (hS : SRel c S a w) {s : Nat} {l l' b : Bool} (hg : getT S.tmps s = .c (.bool l b)) : SRel c ⟨setT S.tmps s (.c (.bool l' b)), S.objs⟩ a w := by
  obtain ⟨⟨ρ, H, hT⟩, h1, h2⟩ := hS
  refine ⟨⟨ρ, H, fun t => ?_⟩, h1, h2⟩
  by_cases e : t = s
  · subst e
    rw [getT_setT_same]
    have := hT t
    rw [hg] at this
    exact this
  · rw [getT_setT_other _ _ e]; exact hT t

/-- One operation of a region, with its guard. -/
theorem stepK_ok (hE : EOk c E) {S : St} {a : Act} (hS : SRel c S a w) {ops : Array Oper} {o : Oper} {k : St → Prop} (h : stepK E ops.toList o S k) {next : Act → World → Prop} {Q : Exit → Act → World → Prop}
    (hn : ∀ S' a' w', SRel c S' a' w' → k S' → next a' w') :
    if Region.wanted o (yielded ops a.tmps) then o.wp c.P a w next Q else next (a.put o.dst undef) w := by
  have doIt : ∀ {S : St}, SRel c S a w → doK E o S k → o.wp c.P a w next Q := by
    intro S hS h
    obtain ⟨p, v, us, h1, h2, h3, h4⟩ := doK_ok (fact_ok hS) h
    exact op_wp hE hS h1 h2 h3 fun a' w' hS' => hn _ a' w' hS' h4
  have skipIt : ∀ {S : St}, SRel c S a w → skipK E S.tmps S.objs o k → next (a.put o.dst undef) w := by
    intro S hS h
    obtain ⟨h1, h2⟩ := putK_ok h
    exact hn _ _ _ (skip_rel hE hS) h2
  obtain ⟨T0, O0⟩ := S
  rw [stepK] at h
  split at h
  · rename_i hg
    simp only [Region.wanted, hg, if_true]
    exact doIt hS h
  · rename_i j want hg
    split at h
    · exact h.elim
    · rename_i s hs
      split at h
      · rename_i b hb
        have hy := yielded_of hS hs hb
        simp only [Region.wanted, hg, hy]
        split at h
        · simp only [beq_self_eq_true, if_true]; exact doIt hS h
        · simp only [beq_self_eq_true, if_true]; exact doIt hS h
        · exact skipIt hS h
        · exact skipIt hS h
      · rename_i b hb
        have hy := yielded_of hS hs hb
        simp only [Region.wanted, hg, hy]
        split at h
        · cases b
          · have h2 := h.2 rfl
            rw [setTK_eq] at h2
            exact skipIt (set_same hS hb) h2
          · have h2 := h.1 rfl
            rw [setTK_eq] at h2
            simp only [beq_self_eq_true, if_true]
            exact doIt (set_same hS hb) h2
        · cases b
          · have h2 := h.1 rfl
            rw [setTK_eq] at h2
            simp only [beq_self_eq_true, if_true]
            exact doIt (set_same hS hb) h2
          · have h2 := h.2 rfl
            rw [setTK_eq] at h2
            exact skipIt (set_same hS hb) h2
      · rename_i hb
        have hy := yielded_non hS hs hb
        simp only [Region.wanted, hg, hy]
        exact skipIt hS h
      · exact h.elim

theorem runK_ok (hE : EOk c E) {ops : Array Oper} {Q : Exit → Act → World → Prop} : ∀ (rest : List Oper) (i : Nat) {S : St} {a : Act} {w : World} {k : St → Prop}, rest = ops.toList.drop i → SRel c S a w → runK E ops.toList rest S k →
    (∀ S' a' w', SRel c S' a' w' → k S' → Q .normal a' w') → wpOps c.P ops Q (List.range' i rest.length) a w := by
  intro rest
  induction rest with
  | nil => intro i S a w k _ hS h hQ; exact hQ S a w hS h
  | cons o r ih =>
    intro i S a w k hr hS h hQ
    have hi : ops[i]? = some o := by
      have : (ops.toList.drop i)[0]? = some o := by rw [← hr]; rfl
      rw [List.getElem?_drop] at this
      simpa using this
    have hr' : r = ops.toList.drop (i + 1) := by
      have : (ops.toList.drop i).drop 1 = r := by rw [← hr]; rfl
      rw [List.drop_drop] at this
      exact this.symm
    simp only [List.length_cons, List.range'_succ, wpOps, hi]
    rw [runK_cons] at h
    have := stepK_ok hE hS h (next := wpOps c.P ops Q (List.range' (i + 1) r.length)) (Q := Q) (fun S' a' w' hS' hk => ih (i + 1) hr' hS' hk hQ)
    split
    · rename_i hw
      rw [if_pos hw] at this
      exact .inl this
    · rename_i hw
      rw [if_neg hw] at this
      exact this

end

end GV

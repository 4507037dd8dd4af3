/-
  Loops whose state is the state before, but for some slots and objects. No condition.
-/
import Derived.Test.YtlifofjaiigogaaWD
namespace GV
open Go
set_option linter.unusedSimpArgs false
set_option linter.unusedVariables false

def setTs : Tmps → Tmps → Tmps
  | T, [] => T
  | T, (n, v) :: r => setTs (setT T n v) r

def setTsK {β : Sort _} : Tmps → Tmps → (Tmps → β) → β
  | T, [], k => k T
  | T, (n, v) :: r, k => fNat n fun n => fAV v fun v => setTK T n v fun T => setTsK T r k

theorem setTsK_eq {β : Sort _} (T us : Tmps) (k : Tmps → β) : setTsK T us k = k (setTs T us) := by
  induction us generalizing T with
  | nil => rfl
  | cons a r ih => obtain ⟨n, v⟩ := a; simp only [setTsK, setTs, fNat_eq, fAV_eq, setTK_eq, ih]

/-- the state with some slots and objects in place of others -/
def stK {β : Sort _} (T : Tmps) (O : Objs) (ut : Tmps) (uo : Ups) (k : St → β) : β := setTsK T ut fun T => fUs uo O fun O => k ⟨T, O⟩

theorem stK_eq {β : Sort _} (T : Tmps) (O : Objs) (ut : Tmps) (uo : Ups) (k : St → β) : stK T O ut uo k = k ⟨setTs T ut, setOs O uo⟩ := by
  simp only [stK, setTsK_eq, fUs_eq]

/-- A loop: which slots and objects turn, and into what; an invariant, a measure. -/
theorem aw_loopT {E : Env} {τ : Type} (ut : τ → Tmps) (uo : τ → Ups) (Inv : τ → Prop) (μ : τ → Nat) {x : Code} {T : Tmps} {O : Objs} {Q : Ex → St → Prop} (x0 : τ) (hI : Inv x0) (h0 : stK T O (ut x0) (uo x0) fun S' => Wk E.nm ⟨T, O⟩ S')
    (h : ∀ t, Inv t → stK T O (ut t) (uo t) fun S => awp E x S fun e S' => match e with
      | .normal => ∃ t', Pre (μ t' < μ t) ∧ Pre (Inv t') ∧ stK T O (ut t') (uo t') fun S'' => Wk E.nm S' S''
      | .exit id => Q (.exit id) S'
      | .ret => Q .ret S') : AW E (.loop x) ⟨T, O⟩ Q := by
  refine aw_loopA (fun t => ⟨setTs T (ut t), setOs O (uo t)⟩) Inv μ x0 (by rw [stK_eq] at h0; exact h0) hI ?_
  intro t ht
  have := h t ht
  rw [stK_eq] at this
  refine (aw_of this).mono ?_
  intro e S' hq
  cases e with
  | normal =>
    obtain ⟨t', ⟨h1⟩, ⟨h2⟩, h3⟩ := hq
    rw [stK_eq] at h3
    exact ⟨t', h1, h2, h3⟩
  | exit id => exact hq
  | ret => exact hq

/-- Ways that meet again, in a state that is the one before but for some slots and objects. -/
theorem aw_cutT {E : Env} {τ : Type} (ut : τ → Tmps) (uo : τ → Ups) (Inv : τ → Prop) {x y : Code} {T : Tmps} {O : Objs} {Q : Ex → St → Prop} (h : awp E x ⟨T, O⟩ fun e S' => match e with
      | .normal => ∃ t, Pre (Inv t) ∧ stK T O (ut t) (uo t) fun S'' => Wk E.nm S' S''
      | .exit id => Q (.exit id) S'
      | .ret => Q .ret S') (h' : ∀ t, Inv t → stK T O (ut t) (uo t) fun S => awp E y S Q) : AW E (.seq x y) ⟨T, O⟩ Q := by
  refine aw_cutA (fun t => ⟨setTs T (ut t), setOs O (uo t)⟩) Inv ((aw_of h).mono ?_) fun t ht => ?_
  · intro e S' hq
    cases e with
    | normal =>
      obtain ⟨t', ⟨h2⟩, h3⟩ := hq
      rw [stK_eq] at h3
      exact ⟨t', h2, h3⟩
    | exit id => exact hq
    | ret => exact hq
  · have := h' t ht
    rw [stK_eq] at this
    exact aw_of this

end GV

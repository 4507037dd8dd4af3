/-
  How arguments that may be changed reach a call. No condition beyond those named.
-/
import Derived.Test.YtlifofjaiigogaaVN
namespace GV
open Go
set_option linter.unusedSimpArgs false
set_option linter.unusedVariables false

abbrev MT := List (Nat × Nat × AObj)

theorem objsOfM_get : ∀ (M : MT) (j : Nat), (objsOfM M).getD j .gone = match M[j]? with | some (_, _, x) => x | none => .gone := by
  intro M
  induction M with
  | nil => intro j; simp [objsOfM]
  | cons a r ih =>
    obtain ⟨o, v, x⟩ := a
    intro j
    cases j with
    | zero => simp [objsOfM]
    | succ j => simp only [objsOfM, List.getD_cons_succ, List.getElem?_cons_succ]; exact ih j

theorem objsOfM_length (M : MT) : (objsOfM M).length = M.length := by
  induction M with
  | nil => rfl
  | cons a r ih => obtain ⟨o, v, x⟩ := a; simp [objsOfM, ih]

theorem freeOf_mem {o : Nat} {M : MT} (h : freeOf o M = true) : ∀ v x, (o, v, x) ∉ M := by
  induction M with
  | nil => intro v x h; cases h
  | cons a r ih =>
    obtain ⟨k, u⟩ := a
    unfold freeOf at h
    split at h
    · cases h
    · rename_i hk
      intro v x hm
      rcases List.mem_cons.1 hm with e | hm
      · injection e with e1 e2; subst e1; simp at hk
      · exact ih h v x hm

theorem distinct_inj {M : MT} (h : distinct M = true) : ∀ (i j o v v' : Nat) (x x' : AObj), M[i]? = some (o, v, x) → M[j]? = some (o, v', x') → i = j := by
  induction M with
  | nil => intro i j o v v' x x' h; simp at h
  | cons a r ih =>
    obtain ⟨k, u⟩ := a
    unfold distinct at h
    split at h
    · rename_i hf
      have hf := freeOf_mem hf
      intro i j o v v' x x' hi hj
      cases i with
      | zero =>
        cases j with
        | zero => rfl
        | succ j =>
          simp at hi hj
          obtain ⟨rfl, rfl⟩ := hi
          exact absurd (List.mem_of_getElem? hj) (hf _ _)
      | succ i =>
        cases j with
        | zero =>
          simp at hi hj
          obtain ⟨rfl, rfl⟩ := hj
          exact absurd (List.mem_of_getElem? hi) (hf _ _)
        | succ j => simp at hi hj; rw [ih h i j o v v' x x' hi hj]
    · cases h

section
variable {c : Ctx} {E : Env} {w w' : World} {O : Objs} {ρ : Nat → Value}

def goodObj : AObj → Prop
  | .box _ cs => pureCs cs = true
  | .seq _ _ => True
  | _ => False

def MOk (O : Objs) (M : MT) : Prop := ∀ o v x, (o, v, x) ∈ M → getO O o = (v, x) ∧ goodObj x

def HsOk (ρ : Nat → Value) (M : MT) (hs : Nat → Value) : Prop := ∀ (j o v : Nat) (x : AObj), M[j]? = some (o, v, x) → hs j = ρ o

theorem pureCs_mem {cs : List Cell} (h : pureCs cs = true) : ∀ x ∈ cs, pureC x = true := by
  induction cs with
  | nil => simp
  | cons a r ih =>
    unfold pureCs at h
    split at h
    · rename_i ha
      intro x hx
      rcases List.mem_cons.1 hx with rfl | hx
      · exact ha
      · exact ih h x hx
    · cases h

theorem pure_cell {X : Nat → Prop} {O' : Objs} {ρ' : Nat → Value} (hA : ∀ b, b < w.heap.size → Av X O' ρ' b → Av c.X O ρ b) {x : Cell} (hx : pureC x = true) {v : Value} (h : CellR w c.X O ρ x v) : CellR w X O' ρ' x v := by
  cases x <;> first | exact h | (cases hx; done) | exact PR.mono (fun _ _ _ => rfl) hA h

theorem mutC_ok {M M' : MT} {x y : Cell} (h : mutC (getO O) M x = some (y, M')) : ∃ M1, M' = M ++ M1 ∧ MOk O M1 ∧
    ∀ {v : Value}, CellR w c.X O ρ x v → ∀ {Mf : MT} {hs : Nat → Value} {X : Nat → Prop}, (∃ M2, Mf = M' ++ M2) → HsOk ρ Mf hs → (∀ b, b < w.heap.size → Av X (ix 0 (objsOfM Mf)) hs b → Av c.X O ρ b) →
      CellR w X (ix 0 (objsOfM Mf)) hs y v := by
  have same : ∀ z, pureC z = true → mutC (getO O) M x = some (z, M) → (∀ v, CellR w c.X O ρ x v → CellR w c.X O ρ z v) → y = z ∧ M' = M → ∃ M1, M' = M ++ M1 ∧ MOk O M1 ∧
      ∀ {v : Value}, CellR w c.X O ρ x v → ∀ {Mf : MT} {hs : Nat → Value} {X : Nat → Prop}, (∃ M2, Mf = M' ++ M2) → HsOk ρ Mf hs → (∀ b, b < w.heap.size → Av X (ix 0 (objsOfM Mf)) hs b → Av c.X O ρ b) →
      CellR w X (ix 0 (objsOfM Mf)) hs y v := by
    intro z hz _ hc ⟨e1, e2⟩
    subst e1; subst e2
    exact ⟨[], by simp, fun _ _ _ h => (by cases h), fun hx _ _ _ _ _ hA => pure_cell hA hz (hc _ hx)⟩
  have hM : ∀ {Mf : MT} {o v : Nat} {z : AObj}, (∃ M2, Mf = (M ++ [(o, v, z)]) ++ M2) → Mf[M.length]? = some (o, v, z) := by
    rintro Mf o v z ⟨M2, rfl⟩
    simp
  cases x with
  | sl o ver =>
    simp only [mutC] at h
    split at h
    · rename_i g xs hcur
      simp only [Option.some.injEq, Prod.mk.injEq] at h
      obtain ⟨rfl, rfl⟩ := h
      have ho := cur_eq hcur (by simp)
      refine ⟨[(o, ver, .seq g xs)], rfl, fun o' v' x' hm => ?_, fun {v} hx {Mf hs X} hMf hh hA => ?_⟩
      · simp only [List.mem_singleton, Prod.mk.injEq] at hm
        obtain ⟨rfl, rfl, rfl⟩ := hm
        exact ⟨ho, trivial⟩
      · have hget := hM hMf
        obtain ⟨⟨_, h1⟩, hx⟩ := hx
        have hx := hx (by rw [ho])
        rw [ho] at hx
        have hx : v = ρ o := hx
        refine ⟨⟨by rw [getO_ix0]; exact Nat.le_refl _, h1⟩, fun _ => ?_⟩
        rw [getO_ix0, objsOfM_get, hget]
        show v = hs M.length
        rw [hh _ _ _ _ hget, hx]
    · cases h
  | ptr o ver off =>
    simp only [mutC] at h
    split at h
    · rename_i bt cs hcur
      split at h
      · rename_i hpure
        simp only [Option.some.injEq, Prod.mk.injEq] at h
        obtain ⟨rfl, rfl⟩ := h
        have ho := cur_eq hcur (by simp)
        refine ⟨[(o, ver, .box bt cs)], rfl, fun o' v' x' hm => ?_, fun {v} hx {Mf hs X} hMf hh hA => ?_⟩
        · simp only [List.mem_singleton, Prod.mk.injEq] at hm
          obtain ⟨rfl, rfl, rfl⟩ := hm
          exact ⟨ho, hpure⟩
        · have hget := hM hMf
          obtain ⟨⟨_, h1⟩, hx⟩ := hx
          have hx := hx (by rw [ho])
          rw [ho] at hx
          refine ⟨⟨by rw [getO_ix0]; exact Nat.le_refl _, h1⟩, fun _ => ?_⟩
          rw [getO_ix0, objsOfM_get, hget]
          show ∃ b, hs M.length = _ ∧ _
          rw [hh _ _ _ _ hget]
          exact hx
      · cases h
    · cases h
  | int k n => have h' := h; simp only [mutC, Option.some.injEq, Prod.mk.injEq] at h; exact same _ rfl (by simp [mutC]) (fun _ h => h) ⟨h.1.symm, h.2.symm⟩
  | bool l b => have h' := h; simp only [mutC, Option.some.injEq, Prod.mk.injEq] at h; exact same (.bool false b) rfl (by simp [mutC]) (fun _ h => h) ⟨h.1.symm, h.2.symm⟩
  | str s => simp only [mutC, Option.some.injEq, Prod.mk.injEq] at h; exact same _ rfl (by simp [mutC]) (fun _ h => h) ⟨h.1.symm, h.2.symm⟩
  | im g xs => simp only [mutC, Option.some.injEq, Prod.mk.injEq] at h; exact same _ rfl (by simp [mutC]) (fun _ h => h) ⟨h.1.symm, h.2.symm⟩
  | nil => simp only [mutC, Option.some.injEq, Prod.mk.injEq] at h; exact same _ rfl (by simp [mutC]) (fun _ h => h) ⟨h.1.symm, h.2.symm⟩
  | fn f => simp only [mutC, Option.some.injEq, Prod.mk.injEq] at h; exact same _ rfl (by simp [mutC]) (fun _ h => h) ⟨h.1.symm, h.2.symm⟩
  | _ => simp [mutC] at h

theorem MOk.append {M M' : MT} (h : MOk O M) (h' : MOk O M') : MOk O (M ++ M') := fun o v x hm => (List.mem_append.1 hm).elim (h o v x) (h' o v x)

theorem mutCs_ok : ∀ {cs ds : List Cell} {M M' : MT}, mutCs (getO O) M cs = some (ds, M') → ∃ M1, M' = M ++ M1 ∧ MOk O M1 ∧
    ∀ {vs : List Value}, CsR (CellR w c.X O ρ) cs vs → ∀ {Mf : MT} {hs : Nat → Value} {X : Nat → Prop}, (∃ M2, Mf = M' ++ M2) → HsOk ρ Mf hs → (∀ b, b < w.heap.size → Av X (ix 0 (objsOfM Mf)) hs b → Av c.X O ρ b) →
      CsR (CellR w X (ix 0 (objsOfM Mf)) hs) ds vs := by
  intro cs
  induction cs with
  | nil =>
    intro ds M M' h
    simp only [mutCs, Option.some.injEq, Prod.mk.injEq] at h
    obtain ⟨rfl, rfl⟩ := h
    exact ⟨[], by simp, fun _ _ _ h => (by cases h), fun hx _ _ _ _ _ _ => ⟨hx.1, fun k c v h => by simp at h⟩⟩
  | cons a r ih =>
    intro ds M M' h
    unfold mutCs at h
    split at h
    · rename_i y Ma hy
      split at h
      · rename_i r' Mb hr
        simp only [Option.some.injEq, Prod.mk.injEq] at h
        obtain ⟨rfl, rfl⟩ := h
        obtain ⟨M1, rfl, ok1, rel1⟩ := mutC_ok (w := w) (c := c) (ρ := ρ) hy
        obtain ⟨M2, rfl, ok2, rel2⟩ := ih hr
        refine ⟨M1 ++ M2, by simp, ok1.append ok2, fun {vs} hx {Mf hs X} hMf hh hA => ?_⟩
        cases vs with
        | nil => have := hx.1; simp at this
        | cons v vs =>
          have i := rel2 (vs := vs) ⟨by have := hx.1; simpa using this, fun k cc u h1 h2 => hx.2 (k + 1) cc u (by simpa using h1) (by simpa using h2)⟩ hMf hh hA
          have j := rel1 (hx.2 0 a v rfl rfl) (Mf := Mf) (by obtain ⟨M3, rfl⟩ := hMf; exact ⟨M2 ++ M3, by simp⟩) hh hA
          refine ⟨by simp [i.1], fun k cc u hc hu => ?_⟩
          cases k with
          | zero => simp at hc hu; subst hc; subst hu; exact j
          | succ k => simp at hc hu; exact i.2 k cc u hc hu
      · cases h
    · cases h

theorem mutA_ok {M M' : MT} {x y : AV} (h : mutA (getO O) M x = some (y, M')) : ∃ M1, M' = M ++ M1 ∧ MOk O M1 ∧
    ∀ {v : Value}, AR (CellR w c.X O ρ) x v → ∀ {Mf : MT} {hs : Nat → Value} {X : Nat → Prop}, (∃ M2, Mf = M' ++ M2) → HsOk ρ Mf hs → (∀ b, b < w.heap.size → Av X (ix 0 (objsOfM Mf)) hs b → Av c.X O ρ b) →
      AR (CellR w X (ix 0 (objsOfM Mf)) hs) y v := by
  unfold mutA at h
  split at h
  · split at h
    · rename_i hz
      simp only [Option.some.injEq, Prod.mk.injEq] at h
      obtain ⟨rfl, rfl⟩ := h
      exact mutC_ok hz
    · cases h
  · split at h
    · rename_i hz
      simp only [Option.some.injEq, Prod.mk.injEq] at h
      obtain ⟨rfl, rfl⟩ := h
      obtain ⟨M1, e, ok, rel⟩ := mutCs_ok (w := w) (c := c) (ρ := ρ) hz
      refine ⟨M1, e, ok, fun {v} hx {Mf hs X} a b hA => ?_⟩
      obtain ⟨vs, rfl, hr⟩ := hx
      exact ⟨vs, rfl, rel hr a b hA⟩
    · cases h
  · cases h

/-- the arguments that are only read -/
def readArgs : List Bool → List AV → List AV
  | true :: ms, _ :: r => readArgs ms r
  | false :: ms, v :: r => v :: readArgs ms r
  | [], v :: r => v :: readArgs [] r
  | _, [] => []

theorem argsF_ok (H : HRel c w O ρ) : ∀ {vs vs' : List AV} {ms : List Bool} {ts : List Nat} {M M' : MT}, argsF E (getO O) M ms ts vs = some (vs', M') → ∃ M1, M' = M ++ M1 ∧ MOk O M1 ∧ vs.length = vs'.length ∧
    (∀ v ∈ readArgs ms vs, ∃ t y, readA E (getO O) t v = some y) ∧
    ∀ {us : List Value}, vs.length = us.length → (∀ (k : Nat) (x : AV) (u : Value), vs[k]? = some x → us[k]? = some u → AR (CellR w c.X O ρ) x u) →
      ∀ {Mf : MT} {hs : Nat → Value} {X : Nat → Prop}, (∃ M2, Mf = M' ++ M2) → HsOk ρ Mf hs → (∀ b, b < w.heap.size → Av X (ix 0 (objsOfM Mf)) hs b → Av c.X O ρ b) →
        (∀ b, b < w.heap.size → Owned (ix 0 (objsOfM Mf)) hs b → Owned O ρ b) →
        (∀ v ∈ readArgs ms vs, (∀ o ∈ srefA (getO O) v, ∀ b, own O ρ o = some b → ¬ Av X (ix 0 (objsOfM Mf)) hs b) ∧ (∀ o ∈ prefA v, ∀ b, own O ρ o = some b → ¬ Owned (ix 0 (objsOfM Mf)) hs b)) →
        ∀ (k : Nat) (x : AV) (u : Value), vs'[k]? = some x → us[k]? = some u → AR (CellR w X (ix 0 (objsOfM Mf)) hs) x u := by
  intro vs
  induction vs with
  | nil =>
    intro vs' ms ts M M' h
    have h : some (([] : List AV), M) = some (vs', M') := by
      cases ms with
      | nil => simpa [argsF] using h
      | cons m ms => cases m <;> simpa [argsF] using h
    simp only [Option.some.injEq, Prod.mk.injEq] at h
    obtain ⟨rfl, rfl⟩ := h
    exact ⟨[], by simp, fun _ _ _ h => (by cases h), rfl, fun v hv => (by cases ms with | nil => cases hv | cons m ms => cases m <;> cases hv), fun _ _ _ _ _ _ _ _ _ _ k x u h => by simp at h⟩
  | cons a r ih =>
    intro vs' ms ts M M' h
    have read : ∀ (ms' : List Bool) (t : Nat) (ts' : List Nat), readArgs ms (a :: r) = a :: readArgs ms' r →
        (∃ y r', readA E (getO O) t a = some y ∧ argsF E (getO O) M ms' ts' r = some (r', M') ∧ vs' = y :: r') →
        ∃ M1, M' = M ++ M1 ∧ MOk O M1 ∧ (a :: r).length = vs'.length ∧ (∀ v ∈ readArgs ms (a :: r), ∃ t y, readA E (getO O) t v = some y) ∧
        ∀ {us : List Value}, (a :: r).length = us.length → (∀ (k : Nat) (x : AV) (u : Value), (a :: r)[k]? = some x → us[k]? = some u → AR (CellR w c.X O ρ) x u) →
        ∀ {Mf : MT} {hs : Nat → Value} {X : Nat → Prop}, (∃ M2, Mf = M' ++ M2) → HsOk ρ Mf hs → (∀ b, b < w.heap.size → Av X (ix 0 (objsOfM Mf)) hs b → Av c.X O ρ b) →
        (∀ b, b < w.heap.size → Owned (ix 0 (objsOfM Mf)) hs b → Owned O ρ b) →
        (∀ v ∈ readArgs ms (a :: r), (∀ o ∈ srefA (getO O) v, ∀ b, own O ρ o = some b → ¬ Av X (ix 0 (objsOfM Mf)) hs b) ∧ (∀ o ∈ prefA v, ∀ b, own O ρ o = some b → ¬ Owned (ix 0 (objsOfM Mf)) hs b)) →
        ∀ (k : Nat) (x : AV) (u : Value), vs'[k]? = some x → us[k]? = some u → AR (CellR w X (ix 0 (objsOfM Mf)) hs) x u := by
      rintro ms' t ts' hra ⟨y, r', hy, hr, rfl⟩
      · · · obtain ⟨M1, e, ok, hl, hrd, rel⟩ := ih hr
            refine ⟨M1, e, ok, by simp [hl], fun v hv => ?_, fun {us} hlu hx {Mf hs X} hMf hh hA hO hR k x u h1 h2 => ?_⟩
            · rw [hra] at hv
              rcases List.mem_cons.1 hv with rfl | hv
              · exact ⟨_, _, hy⟩
              · exact hrd v hv
            · cases us with
              | nil => simp at hlu
              | cons u0 us =>
                cases k with
                | zero =>
                  simp at h1 h2; subst h1; subst h2
                  obtain ⟨q1, q2⟩ := hR a (by rw [hra]; exact List.mem_cons_self ..)
                  exact readA_ok H hA hO hy (hx 0 a u0 rfl rfl) q1 q2
                | succ k =>
                  simp at h1 h2
                  exact rel (us := us) (by simpa using hlu) (fun k x u a b => hx (k + 1) x u (by simpa using a) (by simpa using b)) hMf hh hA hO
                    (fun v hv => hR v (by rw [hra]; exact List.mem_cons_of_mem _ hv)) k x u h1 h2
    cases ms with
    | nil =>
      cases ts with
      | nil => simp [argsF] at h
      | cons t ts =>
        refine read [] t ts rfl ?_
        simp only [argsF] at h
        split at h
        · rename_i y hy
          split at h
          · rename_i r' Mb hr
            simp only [Option.some.injEq, Prod.mk.injEq] at h
            obtain ⟨rfl, rfl⟩ := h
            exact ⟨_, _, hy, hr, rfl⟩
          · cases h
        · cases h
    | cons m ms =>
      cases ts with
      | nil => cases m <;> simp [argsF] at h
      | cons t ts =>
        cases m with
        | false =>
          refine read ms t ts rfl ?_
          simp only [argsF] at h
          split at h
          · rename_i y hy
            split at h
            · rename_i r' Mb hr
              simp only [Option.some.injEq, Prod.mk.injEq] at h
              obtain ⟨rfl, rfl⟩ := h
              exact ⟨_, _, hy, hr, rfl⟩
            · cases h
          · cases h
        | true =>
          simp only [argsF] at h
          split at h
          · rename_i y Ma hy
            split at h
            · rename_i r' Mb hr
              simp only [Option.some.injEq, Prod.mk.injEq] at h
              obtain ⟨rfl, rfl⟩ := h
              obtain ⟨M1, rfl, ok1, rel1⟩ := mutA_ok (w := w) (c := c) (ρ := ρ) hy
              obtain ⟨M2, rfl, ok2, hl, hrd, rel2⟩ := ih hr
              refine ⟨M1 ++ M2, by simp, ok1.append ok2, by simp [hl], fun v hv => hrd v hv, fun {us} hlu hx {Mf hs X} hMf hh hA hO hR k x u h1 h2 => ?_⟩
              cases us with
              | nil => simp at hlu
              | cons u0 us =>
                cases k with
                | zero =>
                  simp at h1 h2; subst h1; subst h2
                  exact rel1 (hx 0 a u0 rfl rfl) (by obtain ⟨M3, rfl⟩ := hMf; exact ⟨M2 ++ M3, by simp⟩) hh hA
                | succ k =>
                  simp at h1 h2
                  exact rel2 (us := us) (by simpa using hlu) (fun k x u a b => hx (k + 1) x u (by simpa using a) (by simpa using b)) hMf hh hA hO (fun v hv => hR v hv) k x u h1 h2
            · cases h
          · cases h

end
end GV

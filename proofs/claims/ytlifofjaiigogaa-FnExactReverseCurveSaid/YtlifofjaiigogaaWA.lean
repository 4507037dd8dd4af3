/-
  Functions whose arguments are values and lists: a contract from a function of Lean. No condition beyond those named.
-/
import Derived.Test.YtlifofjaiigogaaVZ
namespace GV
open Go
set_option linter.unusedSimpArgs false
set_option linter.unusedVariables false

/-- an argument: a value, or a list of values -/
inductive AT where
  | a (g : GT)
  | s (g : GT)
  | p (g : GT)
  | f (n : Nat)

abbrev AT.den : AT → Type
  | .a g => g.den
  | .s g => List g.den
  | .p g => g.den
  | .f _ => Unit

def isAggG : GT → Bool
  | .int | .u8 | .str | .bool | .ints => false
  | _ => true

def decA : (t : AT) → AV → Option t.den
  | .a g, v => match v with
    | .c x => match isAggG g with
      | false => match dec g [x] with
        | some (y, none) => some y
        | _ => none
      | true => none
    | .agg cs => match isAggG g with
      | true => match dec g cs with
        | some (y, none) => some y
        | _ => none
      | false => none
    | .tup _ => none
  | .s g, v => match v with
    | .c (.im g' xs) => if h : g' = g then some (h ▸ xs) else none
    | .c .nil => some []
    | _ => none
  | .p g, v => match v with
    | .c (.vptr g' x 0) => if h : g' = g then some (h ▸ x) else none
    | _ => none
  | .f n, v => match v with
    | .c (.fn m) => match Nat.beq m n with
      | true => some ()
      | false => none
    | _ => none

def encA : (t : AT) → t.den → AV
  | .a g, x => asV (isAggG g) (enc g x)
  | .s g, xs => .c (.im g xs)
  | .p g, x => .c (.vptr g x 0)
  | .f n, _ => .c (.fn n)

abbrev Args : List AT → Type
  | [] => Unit
  | t :: r => t.den × Args r

def decAs : (ts : List AT) → List AV → Option (Args ts)
  | [], [] => some ()
  | t :: ts, v :: vs => match decA t v with
    | some x => match decAs ts vs with
      | some y => some (x, y)
      | none => none
    | none => none
  | _, _ => none

def encAs : (ts : List AT) → Args ts → List AV
  | [], _ => []
  | t :: ts, (x, y) => encA t x :: encAs ts y

/-- the contract of a function of Lean -/
def conOf (im : Bool) (ts : List AT) (f : Args ts → Option Prop × List AObj × AV) : Con := ⟨[], im, fun M xs => match M with
  | [] => match decAs ts xs with
    | some a => some (f a)
    | none => none
  | _ :: _ => none⟩

section
variable {w : World} {X : Nat → Prop} {O : Objs} {ρ : Nat → Value}

theorem dec_cellR {g : GT} {cs : List Cell} {x : g.den} (h : dec g cs = some (x, none)) {vs : List Value} (hr : CsR (CellR w X O ρ) cs vs) : CsR (CellR w X O ρ) (enc g x) vs := by
  obtain ⟨h1, h2⟩ := (dec_le h trivial).get
  refine ⟨by rw [← hr.1, h1], fun k cc v hc hv => ?_⟩
  have hk : k < cs.length := by rw [h1]; exact (List.getElem?_eq_some_iff.1 hc).1
  exact (h2 k _ _ (List.getElem?_eq_getElem hk) hc).cell (hr.2 k _ _ (List.getElem?_eq_getElem hk) hv)

theorem one_cell {g : GT} (hg : isAggG g = false) (x : g.den) : ∃ y, enc g x = [y] := by
  cases g <;> first | exact ⟨_, rfl⟩ | cases hg

theorem decA_ok {t : AT} {v : AV} {x : t.den} (h : decA t v = some x) {u : Value} (hr : AR (CellR w X O ρ) v u) : AR (CellR w X O ρ) (encA t x) u := by
  cases t with
  | a g =>
    unfold decA at h
    rcases v with y | cs | _
    · cases hg : isAggG g with
      | true => simp only [hg] at h; cases h
      | false =>
        simp only [hg] at h
        split at h
        · rename_i z hd
          cases h
          simp only [encA, hg]
          obtain ⟨q, hq⟩ := one_cell hg x
          have := dec_cellR (w := w) (X := X) (O := O) (ρ := ρ) hd (vs := [u]) ⟨rfl, fun k cc v h1 h2 => by
            cases k with
            | zero => simp at h1 h2; subst h1; subst h2; exact hr
            | succ k => simp at h1⟩
          rw [hq] at this ⊢
          exact this.2 0 q u rfl rfl
        · cases h
    · cases hg : isAggG g with
      | false => simp only [hg] at h; cases h
      | true =>
        simp only [hg] at h
        split at h
        · rename_i z hd
          cases h
          simp only [encA, hg]
          obtain ⟨vs, e, hvs⟩ := hr
          exact ⟨vs, e, dec_cellR hd hvs⟩
        · cases h
    · cases h
  | s g =>
    unfold decA at h
    simp only at h
    split at h
    · split at h
      · rename_i hg
        subst hg
        cases h
        exact hr
      · cases h
    · cases h
      have hr : u = .slice none 0 0 := hr
      subst hr
      exact PR.none g none
    · cases h
  | p g =>
    unfold decA at h
    simp only at h
    split at h
    · split at h
      · rename_i hg
        subst hg
        cases h
        exact hr
      · cases h
    · cases h
  | f n =>
    unfold decA at h
    simp only at h
    split at h
    · split at h
      · rename_i e
        have := Nat.eq_of_beq_eq_true e
        subst this
        exact hr
      · cases h
    · cases h

theorem decAs_ok : ∀ {ts : List AT} {xs : List AV} {a : Args ts}, decAs ts xs = some a → xs.length = (encAs ts a).length ∧ ∀ {vs : List Value}, xs.length = vs.length →
    (∀ (k : Nat) (x : AV) (v : Value), xs[k]? = some x → vs[k]? = some v → AR (CellR w X O ρ) x v) → ∀ (k : Nat) (x : AV) (v : Value), (encAs ts a)[k]? = some x → vs[k]? = some v → AR (CellR w X O ρ) x v := by
  intro ts
  induction ts with
  | nil =>
    intro xs a h
    cases xs with
    | nil => exact ⟨rfl, fun _ _ k x v h => by simp [encAs] at h⟩
    | cons _ _ => cases h
  | cons t ts ih =>
    intro xs a h
    cases xs with
    | nil => cases h
    | cons x xs =>
      simp only [decAs] at h
      split at h
      · rename_i y hy
        split at h
        · rename_i b hb
          cases h
          obtain ⟨h1, h2⟩ := ih hb
          refine ⟨by simp [encAs, h1], fun {vs} hl hr k z v hz hv => ?_⟩
          cases vs with
          | nil => simp at hl
          | cons u us =>
            cases k with
            | zero =>
              simp [encAs] at hz hv
              subst hz; subst hv
              exact decA_ok hy (hr 0 x u rfl rfl)
            | succ k =>
              simp [encAs] at hz hv
              exact h2 (by simpa using hl) (fun k x v a b => hr (k + 1) x v (by simpa using a) (by simpa using b)) k z v hz hv
        · cases h
      · cases h

end

theorem encAs_length : ∀ (ts : List AT) (a : Args ts), (encAs ts a).length = ts.length := by
  intro ts
  induction ts with
  | nil => intro a; rfl
  | cons t ts ih => intro a; obtain ⟨x, y⟩ := a; simp [encAs, ih]

/-- **A contract of values and lists, from the body.** -/
theorem cok_fun {P : Program} {f : Nat} {fn : Func} {code : Code} {rs : List ResultVar} {E : Env} {im : Bool} {ts : List AT} {F : Args ts → Option Prop × List AObj × AV} (hf : P.funcs[f]? = some fn) (hb : fn.body = some code) (hrs : fn.results = ⟨rs⟩) (hnm : (fn.name == "runtime.NumGoroutine") = false)
    (hmix : P.follows .mixedOrders = true) (htab : TabOk P E.tab) (heqs : EqsOk P E) (hcon : ∀ g D, E.con g = some D → COk P g D) (hnt : E.nt = fn.ntmps) (h0 : E.nm = 0) (hts : ts.length ≤ fn.ntmps)
    (h : ∀ a, pOk (F a).1 → awp E code ⟨slots 0 (encAs ts a), []⟩ fun e S => match e with
      | .exit _ => False
      | _ => RetQ E rs [] (F a).2.1 (F a).2.2 S) : COk P f (conOf im ts F) := by
  refine ⟨⟨fn, hf, by rw [hb]; rfl, hnm⟩, ?_⟩
  intro w X M hs xs vs p Ms r hX H hlen hrel hrun hok
  have hM : M = [] := by
    cases M with
    | nil => rfl
    | cons _ _ => simp [conOf] at hrun
  subst hM
  simp only [conOf] at hrun
  split at hrun
  · rename_i a ha
    simp only [Option.some.injEq] at hrun
    obtain ⟨hl, hcv⟩ := decAs_ok (w := w) (X := X) (O := ix 0 []) (ρ := hs) ha
    have hlen' := encAs_length ts a
    let C' : Con := ⟨[], im, fun M ys => match M with | [] => (open Classical in if ys = encAs ts a then some (F a) else none) | _ :: _ => none⟩
    have hc : COk P f C' := by
      refine cok_of hf hb hrs hnm hmix htab heqs hcon hnt ?_
      intro M ys p' Ms' r' hrun' hok'
      cases M with
      | nil =>
        simp only [C'] at hrun'
        split at hrun'
        · rename_i e
          subst e
          simp only [Option.some.injEq] at hrun'
          have e1 : (F a).1 = p' := by rw [hrun']
          have e2 : (F a).2.1 = Ms' := by rw [hrun']
          have e3 : (F a).2.2 = r' := by rw [hrun']
          subst e1; subst e2; subst e3
          exact ⟨h0.symm, by omega, h a hok'⟩
        · cases hrun'
      | cons _ _ => cases hrun'
    exact hc.2 w X [] hs (encAs ts a) vs p Ms r hX H (by omega) (hcv hlen hrel) (by simp [C', hrun]) hok
  · cases hrun

end GV

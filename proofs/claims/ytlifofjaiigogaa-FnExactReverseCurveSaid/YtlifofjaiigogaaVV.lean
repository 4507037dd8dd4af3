/-
  Regions that ask for their order: one walk in the text's order, and a look at who touches what. No condition beyond those named.
-/
import Derived.Test.YtlifofjaiigogaaVU
import Derived.Orders
namespace GV
open Go
set_option linter.unusedSimpArgs false
set_option linter.unusedVariables false

structure Rec where
  fp : List Nat
  ui : List Nat
  d : Nat

def isIn (x : Nat) : List Nat → Bool
  | [] => false
  | y :: r => match Nat.beq x y with | true => true | false => isIn x r

def meets : List Nat → List Nat → Bool
  | [], _ => false
  | x :: r, ys => match isIn x ys with | true => true | false => meets r ys

def ownNo (d : Nat) : List Nat → Bool
  | [] => false
  | x :: r => match Nat.beq (x % 1000) (d % 1000) with | true => true | false => ownNo d r

def clashR (x y : Rec) : Bool := meets x.ui y.fp || meets x.ui y.ui || ownNo y.d x.ui || meets y.ui x.fp || ownNo x.d y.ui

def maskOf (acc : List Nat) : List Edge → Nat
  | [] => 0
  | e :: r => match Region.binds .any e with
    | true => 2 ^ e.on ||| (acc.getD e.on 0 ||| maskOf acc r)
    | false => maskOf acc r

def masks : List Oper → List Nat → List Nat
  | [], acc => acc
  | o :: r, acc => masks r (acc ++ [maskOf acc o.after.toList])

def prec {α : Type} (cl : α → α → Bool) (m : Nat) (y : α) : Nat → List α → Bool
  | _, [] => true
  | i, x :: r => (match cl x y with | true => m.testBit i | false => true) && prec cl m y (i + 1) r

def pairs {α : Type} (cl : α → α → Bool) : List Nat → List α → List α → Bool
  | m :: ms, bs, y :: r => match prec cl m y 0 bs with | true => pairs cl ms (bs ++ [y]) r | false => false
  | _, _, [] => true
  | [], _, _ :: _ => false

def edgesOk : Nat → List Oper → Bool
  | _, [] => true
  | i, o :: r => (o.after.toList.all fun e => match Region.binds .any e with | true => Nat.blt e.on i | false => true) && edgesOk (i + 1) r

def noGuardless (ops : List Oper) : Bool := ops.all fun o => match o.guard with | none => true | some (j, _) => (gslot ops j).isSome

/-- what is asked of a region's own text -/
def statOk (ops : List Oper) : Bool := edgesOk 0 ops && pairs (fun x y => !x.apart ⟨ops⟩ y) (masks ops []) [] ops

/-- what is asked of the objects -/
def dynOk (ops : List Oper) (rs : List Rec) : Bool := pairs clashR (masks ops []) [] rs

def quietR : List Rec → Bool
  | [] => true
  | ⟨_, [], _⟩ :: r => quietR r
  | _ => false

def fNats {β : Sort _} : List Nat → (List Nat → β) → β
  | [], k => k []
  | x :: r, k => fNat x fun x => fNats r fun r => k (x :: r)

def upIds : Ups → List Nat
  | [] => []
  | (o, _) :: r => o :: upIds r

def fpOps (ho : HO) (T : Tmps) : List Operand → List Nat
  | [] => []
  | x :: r => fpA ho (evO T x) ++ fpOps ho T r

def opsL (o : Op) : List Operand := match o.operands with | ⟨l⟩ => l

/-- the operands whose objects it looks at: a move looks at none -/
def lookL (o : Op) : List Operand := match o with
  | .move _ => []
  | .assign _ => []
  | o => opsL o

def dropN (d : Nat) : List (Nat × Bool) → List (Nat × Bool)
  | [] => []
  | (s, b) :: r => match Nat.beq s d with | true => dropN d r | false => (s, b) :: dropN d r

def dropK (d : Option Nat) (K : List (Nat × Bool)) : List (Nat × Bool) := match d with | none => K | some d => dropN d K

def lookK : List (Nat × Bool) → Nat → Option Bool
  | [], _ => none
  | (s, b) :: r, n => match Nat.beq s n with | true => some b | false => lookK r n

def doD (E : Env) (o : Oper) : St → (St → Rec → Prop) → Prop
  | ⟨T, O⟩, k => match stepF E o.dst o.op (evO T) (getO O) with
    | none => False
    | some (p, v, us) => obl p <| fAV v fun v => fNats (fpOps (getO O) T (lookL o.op)) fun fp => fNats (upIds us) fun ui => fNat (dnat o.dst) fun d => fUs us O fun O => putK E T o.dst v fun T => k ⟨T, O⟩ ⟨fp, ui, d⟩

def skipD (E : Env) (o : Oper) : St → (St → Rec → Prop) → Prop
  | ⟨T, O⟩, k => putK E T o.dst (.tup []) fun T => k ⟨T, O⟩ ⟨[], [], dnat o.dst⟩

def goD (E : Env) (all : List Oper) (o : Oper) (K : List (Nat × Bool)) : St → (List (Nat × Bool) → St → Rec → Prop) → Prop
  | ⟨T, O⟩, k => match o.guard with
  | none => doD E o ⟨T, O⟩ (k K)
  | some (j, want) => match gslot all j with
    | none => False
    | some s => match getT T s with
      | .c (.bool true b) => match b, want with
        | true, true => doD E o ⟨T, O⟩ (k K)
        | false, false => doD E o ⟨T, O⟩ (k K)
        | true, false => skipD E o ⟨T, O⟩ (k K)
        | false, true => skipD E o ⟨T, O⟩ (k K)
      | .c (.bool false b) => match lookK K s with
        | some b' => match b', want with
          | true, true => doD E o ⟨T, O⟩ (k K)
          | false, false => doD E o ⟨T, O⟩ (k K)
          | true, false => skipD E o ⟨T, O⟩ (k K)
          | false, true => skipD E o ⟨T, O⟩ (k K)
        | none => match want with
          | true => (b = true → doD E o ⟨T, O⟩ (k ((s, true) :: K))) ∧ (b = false → skipD E o ⟨T, O⟩ (k ((s, false) :: K)))
          | false => (b = false → doD E o ⟨T, O⟩ (k ((s, false) :: K))) ∧ (b = true → skipD E o ⟨T, O⟩ (k ((s, true) :: K)))
      | .tup [] => skipD E o ⟨T, O⟩ (k K)
      | _ => False

def endD (all : List Oper) (rs : List Rec) (S : St) (k : St → Prop) : Prop := match quietR rs with
  | true => k S
  | false => dynOk all rs.reverse = true ∧ k S

noncomputable def runD (E : Env) (all : List Oper) (ops : List Oper) : List (Nat × Bool) → List Rec → St → (St → Prop) → Prop :=
  @List.rec Oper (fun _ => List (Nat × Bool) → List Rec → St → (St → Prop) → Prop) (fun _ rs S k => endD all rs S k)
    (fun o _ ih K rs S k => goD E all o K S fun K S rc => ih (dropK o.dst K) (rc :: rs) S k) ops

theorem runD_nil (E : Env) (all : List Oper) (K : List (Nat × Bool)) (rs : List Rec) (S : St) (k : St → Prop) : runD E all [] K rs S k = endD all rs S k := rfl
theorem runD_cons (E : Env) (all : List Oper) (o : Oper) (r : List Oper) (K : List (Nat × Bool)) (rs : List Rec) (S : St) (k : St → Prop) :
    runD E all (o :: r) K rs S k = goD E all o K S fun K S rc => runD E all r (dropK o.dst K) (rc :: rs) S k := rfl

/-! ### the walk's record -/

structure Eff where
  dst : Option Nat
  v : AV
  us : Ups

def applyE (S : St) (e : Eff) : St := ⟨setD S.tmps e.dst e.v, setOs S.objs e.us⟩

def guardOk (all : List Oper) (o : Oper) (S : St) (run : Bool) : Prop := match o.guard with
  | none => run = true
  | some (j, want) => ∃ s, gslot all j = some s ∧ ((∃ l b, getT S.tmps s = .c (.bool l b) ∧ run = (b == want)) ∨ (getT S.tmps s = .tup [] ∧ run = false))

def StepT (E : Env) (all : List Oper) (o : Oper) (S : St) (e : Eff) (rc : Rec) : Prop :=
  e.dst = o.dst ∧ (∀ n, o.dst = some n → n < E.nt) ∧ rc.d = dnat o.dst ∧ rc.ui = upIds e.us ∧
  ((guardOk all o S true ∧ rc.fp = fpOps (getO S.objs) S.tmps (lookL o.op) ∧ ∃ p, stepF E o.dst o.op (evO S.tmps) (getO S.objs) = some (p, e.v, e.us) ∧ pOk p) ∨
   (guardOk all o S false ∧ e.v = .tup [] ∧ e.us = []))

inductive Tr (E : Env) (all : List Oper) : List Oper → St → List Eff → List Rec → St → Prop
  | nil (S : St) : Tr E all [] S [] [] S
  | cons {o : Oper} {r : List Oper} {S S' : St} {e : Eff} {es : List Eff} {rc : Rec} {rs : List Rec} (h : StepT E all o S e rc) (t : Tr E all r (applyE S e) es rs S') : Tr E all (o :: r) S (e :: es) (rc :: rs) S'

section
variable {c : Ctx} {E : Env} {w : World}

theorem fNats_eq {β : Sort _} (xs : List Nat) (k : List Nat → β) : fNats xs k = k xs := by
  induction xs generalizing k with
  | nil => rfl
  | cons x r ih => simp only [fNats, fNat_eq, ih]

theorem doD_ok {all : List Oper} {o : Oper} {S : St} {k : St → Rec → Prop} (hg : guardOk all o S true) (h : doD E o S k) : ∃ e rc, StepT E all o S e rc ∧ k (applyE S e) rc := by
  obtain ⟨T0, O0⟩ := S
  rw [doD] at h
  split at h
  · exact h.elim
  · rename_i p v us hs
    simp only [fAV_eq, fUs_eq, fNats_eq, fNat_eq] at h
    have h' : pOk p ∧ putK E T0 o.dst v fun T => k ⟨T, setOs O0 us⟩ ⟨fpOps (getO O0) T0 (lookL o.op), upIds us, dnat o.dst⟩ := by
      cases p with
      | none => exact ⟨trivial, h⟩
      | some p => exact ⟨h.1.out, h.2 h.1.out⟩
    obtain ⟨h1, h2⟩ := putK_ok h'.2
    exact ⟨⟨o.dst, v, us⟩, _, ⟨rfl, h1, rfl, rfl, .inl ⟨hg, rfl, p, hs, h'.1⟩⟩, h2⟩

theorem skipD_ok {all : List Oper} {o : Oper} {S : St} {k : St → Rec → Prop} (hg : guardOk all o S false) (h : skipD E o S k) : ∃ e rc, StepT E all o S e rc ∧ k (applyE S e) rc := by
  obtain ⟨T0, O0⟩ := S
  obtain ⟨h1, h2⟩ := putK_ok h
  exact ⟨⟨o.dst, .tup [], []⟩, _, ⟨rfl, h1, rfl, rfl, .inr ⟨hg, rfl, rfl⟩⟩, h2⟩

def KOk (K : List (Nat × Bool)) (S : St) : Prop := ∀ s b, lookK K s = some b → ∃ l, getT S.tmps s = .c (.bool l b)

theorem KOk.cons {K : List (Nat × Bool)} {S : St} (h : KOk K S) {s : Nat} {l b : Bool} (hg : getT S.tmps s = .c (.bool l b)) : KOk ((s, b) :: K) S := by
  intro n b' hl
  simp only [lookK] at hl
  split at hl
  · rename_i e
    have e := Nat.eq_of_beq_eq_true e
    subst e
    cases hl
    exact ⟨l, hg⟩
  · exact h n b' hl

theorem lookK_drop {K : List (Nat × Bool)} {d s : Nat} {b : Bool} (h : lookK (dropN d K) s = some b) : s ≠ d ∧ lookK K s = some b := by
  induction K with
  | nil => cases h
  | cons x r ih =>
    obtain ⟨n, b'⟩ := x
    simp only [dropN] at h
    split at h
    · rename_i e
      have e := Nat.eq_of_beq_eq_true e
      subst e
      obtain ⟨h1, h2⟩ := ih h
      refine ⟨h1, ?_⟩
      simp only [lookK]
      split
      · rename_i e; exact absurd (Nat.eq_of_beq_eq_true e).symm h1
      · exact h2
    · rename_i e
      simp only [lookK] at h ⊢
      split at h
      · rename_i e'
        have e' := Nat.eq_of_beq_eq_true e'
        subst e'
        exact ⟨fun h' => (by rw [h', Nat.beq_refl] at e; cases e), h⟩
      · exact ih h

theorem KOk.put {K : List (Nat × Bool)} {S : St} (h : KOk K S) (e : Eff) : KOk (dropK e.dst K) (applyE S e) := by
  intro s b hl
  unfold applyE
  cases hd : e.dst with
  | none =>
    rw [hd] at hl
    simp only [setD]
    exact h s b hl
  | some d =>
    rw [hd] at hl
    simp only [setD]
    obtain ⟨h1, h2⟩ := lookK_drop hl
    rw [getT_setT_other _ _ h1]
    exact h s b h2

theorem goD_ok {all : List Oper} {o : Oper} {K : List (Nat × Bool)} {S : St} {k : List (Nat × Bool) → St → Rec → Prop} (hK : KOk K S) (h : goD E all o K S k) :
    ∃ e rc K', StepT E all o S e rc ∧ KOk K' S ∧ k K' (applyE S e) rc := by
  have go : ∀ K', KOk K' S → guardOk all o S true → doD E o S (k K') → ∃ e rc K', StepT E all o S e rc ∧ KOk K' S ∧ k K' (applyE S e) rc := by
    intro K' hK' hg h
    obtain ⟨e, rc, h1, h2⟩ := doD_ok hg h
    exact ⟨e, rc, K', h1, hK', h2⟩
  have no : ∀ K', KOk K' S → guardOk all o S false → skipD E o S (k K') → ∃ e rc K', StepT E all o S e rc ∧ KOk K' S ∧ k K' (applyE S e) rc := by
    intro K' hK' hg h
    obtain ⟨e, rc, h1, h2⟩ := skipD_ok hg h
    exact ⟨e, rc, K', h1, hK', h2⟩
  obtain ⟨T0, O0⟩ := S
  rw [goD] at h
  split at h
  · rename_i hg
    exact go K hK (by unfold guardOk; rw [hg]) h
  · rename_i j want hg
    split at h
    · exact h.elim
    · rename_i s hs
      have hgd : ∀ (l b run : Bool), getT T0 s = .c (.bool l b) → run = (b == want) → guardOk all o ⟨T0, O0⟩ run := by
        intro l b run h1 h2
        unfold guardOk
        rw [hg]
        exact ⟨s, hs, .inl ⟨l, b, h1, h2⟩⟩
      split at h
      · rename_i b hb
        split at h
        · exact go K hK (hgd _ _ _ hb rfl) h
        · exact go K hK (hgd _ _ _ hb rfl) h
        · exact no K hK (hgd _ _ _ hb rfl) h
        · exact no K hK (hgd _ _ _ hb rfl) h
      · rename_i b hb
        split at h
        · rename_i b' hl
          obtain ⟨l, hb'⟩ := hK _ _ hl
          split at h
          · exact go K hK (hgd _ _ _ hb' rfl) h
          · exact go K hK (hgd _ _ _ hb' rfl) h
          · exact no K hK (hgd _ _ _ hb' rfl) h
          · exact no K hK (hgd _ _ _ hb' rfl) h
        · split at h
          · cases b with
            | true => exact go _ (hK.cons hb) (hgd _ _ _ hb rfl) (h.1 rfl)
            | false => exact no _ (hK.cons hb) (hgd _ _ _ hb rfl) (h.2 rfl)
          · cases b with
            | true => exact no _ (hK.cons hb) (hgd _ _ _ hb rfl) (h.2 rfl)
            | false => exact go _ (hK.cons hb) (hgd _ _ _ hb rfl) (h.1 rfl)
      · rename_i hb
        exact no K hK (by unfold guardOk; rw [hg]; exact ⟨s, hs, .inr ⟨hb, rfl⟩⟩) h
      · exact h.elim

theorem runD_ok {all : List Oper} : ∀ (rest : List Oper) {K : List (Nat × Bool)} {acc : List Rec} {S : St} {k : St → Prop}, KOk K S → runD E all rest K acc S k →
    ∃ es rs S', Tr E all rest S es rs S' ∧ (quietR (rs.reverse ++ acc) = true ∨ dynOk all (acc.reverse ++ rs) = true) ∧ k S' := by
  intro rest
  induction rest with
  | nil =>
    intro K acc S k _ h
    rw [runD_nil] at h
    unfold endD at h
    split at h
    · rename_i hq; exact ⟨[], [], S, .nil S, .inl hq, h⟩
    · exact ⟨[], [], S, .nil S, .inr (by simpa using h.1), h.2⟩
  | cons o r ih =>
    intro K acc S k hK h
    rw [runD_cons] at h
    obtain ⟨e, rc, K', h1, h2, h3⟩ := goD_ok hK h
    have hK' : KOk (dropK o.dst K') (applyE S e) := by rw [← h1.1]; exact h2.put e
    obtain ⟨es, rs, S', t, h4, h5⟩ := ih hK' h3
    refine ⟨e :: es, rc :: rs, S', .cons h1 t, ?_, h5⟩
    simpa using h4

end
end GV

/-
  Code: the interpreter's conditions, and that they suffice. No condition beyond those named.
-/
import Derived.Test.YtlifofjaiigogaaVR
namespace GV
open Go
set_option linter.unusedSimpArgs false
set_option linter.unusedVariables false

/-! ### weaker states -/

/-- the object that a target object is: its own number if none is named -/
def srcOf : List (Nat × Nat) → Nat → Nat
  | [], j => j
  | (k, o) :: r, j => match Nat.beq k j with | true => o | false => srcOf r j

def isCur (O : Objs) (o v : Nat) : Bool := match getO O o with | (k, _) => Nat.beq k v

def isList : AObj → Bool
  | .seq _ _ => true
  | .fro _ _ => true
  | _ => false

def isBox : AObj → Bool
  | .box _ _ => true
  | _ => false

def isGone : AObj → Bool
  | .gone => true
  | _ => false

/-- no target object is this one -/
def imgFree (R : List (Nat × Nat)) (o : Nat) : Objs → Bool
  | [] => true
  | (j, _, x) :: r => match ownsB x with
    | true => match Nat.beq (srcOf R j) o with | true => false | false => imgFree R o r
    | false => imgFree R o r
  where ownsB : AObj → Bool
  | .box _ _ => true
  | .seq _ _ => true
  | _ => false

def eqL (g g' : GT) (xs : List g.den) (ys : List g'.den) : Prop := if h : g = g' then (h ▸ xs : List g'.den) = ys else False
def eqX (g g' : GT) (x : g.den) (y : g'.den) : Prop := if h : g = g' then (h ▸ x : g'.den) = y else False

def boolP (b : Bool) (k : Prop) : Prop := match b with | true => k | false => False

/-- a cell that says no more than another one -/
def wkC (R : List (Nat × Nat)) (O O' : Objs) : Cell → Cell → Prop
  | _, .und => True
  | .int k n, .int k' n' => boolP (kindEq k k') (n = n')
  | .bool _ b, .bool _ b' => b = b'
  | .str s, .str s' => s = s'
  | .nil, .nil => True
  | .nil, .im _ xs => xs = []
  | .nil, .sl j v => boolP (isCur O' j v) (boolP (isGone (getO O (srcOf R j)).2) (match (getO O' j).2 with | .seq _ xs => xs = [] | _ => False))
  | .im g xs, .im g' ys => eqL g g' xs ys
  | .sl o v, .im g' ys => boolP (isCur O o v) (boolP (imgFree R o O') (match (getO O o).2 with | .seq g xs => eqL g g' xs ys | .fro g xs => eqL g g' xs ys | _ => False))
  | .sl o v, .sl j v' => boolP (isCur O o v) (boolP (isCur O' j v') (boolP (Nat.beq (srcOf R j) o) (boolP (isList (getO O o).2) (boolP (isList (getO O' j).2) True))))
  | .ptr o v off, .ptr j v' off' => boolP (isCur O o v) (boolP (isCur O' j v') (boolP (Nat.beq (srcOf R j) o) (boolP (isBox (getO O o).2) (boolP (isBox (getO O' j).2) (boolP (Nat.beq off off') True)))))
  | .aptr o v, .aptr j v' => boolP (isCur O o v) (boolP (isCur O' j v') (boolP (Nat.beq (srcOf R j) o) (match (getO O o).2, (getO O' j).2 with | .seq _ xs, .seq _ ys => xs.length = ys.length | _, _ => False)))
  | .vptr g x off, .vptr g' y off' => boolP (Nat.beq off off') (eqX g g' x y)
  | .fn f, .fn f' => boolP (Nat.beq f f') True
  | _, _ => False

def wkCs (R : List (Nat × Nat)) (O O' : Objs) : List Cell → List Cell → Prop
  | [], [] => True
  | [a], [b] => wkC R O O' a b
  | a :: r, b :: s => wkC R O O' a b ∧ wkCs R O O' r s
  | _, _ => False

def wkTs (R : List (Nat × Nat)) (O O' : Objs) : List (Bool × List Cell) → List (Bool × List Cell) → Prop
  | [], [] => True
  | (true, a) :: r, (true, b) :: s => wkCs R O O' a b ∧ wkTs R O O' r s
  | (false, a) :: r, (false, b) :: s => wkCs R O O' a b ∧ wkTs R O O' r s
  | _, _ => False

def wkA (R : List (Nat × Nat)) (O O' : Objs) : AV → AV → Prop
  | _, .c .und => True
  | .c x, .c y => wkC R O O' x y
  | .agg cs, .agg ds => wkCs R O O' cs ds
  | .tup vs, .tup us => wkTs R O O' vs us
  | _, _ => False

def wkOb (R : List (Nat × Nat)) (O O' : Objs) : AObj → AObj → Prop
  | _, .gone => True
  | .gone, .seq _ ys => ys = []
  | .box _ cs, .box _ ds => wkCs R O O' cs ds
  | .seq g xs, .seq g' ys => eqL g g' xs ys
  | .seq g xs, .fro g' ys => eqL g g' xs ys
  | .fro g xs, .fro g' ys => eqL g g' xs ys
  | _, _ => False

def wkOs (R : List (Nat × Nat)) (O O' : Objs) : Objs → Prop
  | [] => True
  | [(j, _, x)] => wkOb R O O' (getO O (srcOf R j)).2 x
  | (j, _, x) :: r => wkOb R O O' (getO O (srcOf R j)).2 x ∧ wkOs R O O' r

def wkTmps (R : List (Nat × Nat)) (O O' : Objs) (T : Tmps) : Tmps → Prop
  | [] => True
  | [(t, v)] => wkA R O O' (getT T t) v
  | (t, v) :: r => wkA R O O' (getT T t) v ∧ wkTmps R O O' T r

/-- different target objects are different objects, or none -/
def srcDist (R : List (Nat × Nat)) (O : Objs) : Objs → Bool
  | [] => true
  | (j, _, _) :: r => match isGone (getO O (srcOf R j)).2 with
    | true => srcDist R O r
    | false => match srcDist.freeS R (srcOf R j) r with | true => srcDist R O r | false => false
  where freeS (R : List (Nat × Nat)) (o : Nat) : Objs → Bool
  | [] => true
  | (j, _, _) :: r => match Nat.beq (srcOf R j) o with | true => false | false => freeS R o r

/-- the parameters' objects keep their numbers, and no other gets one of theirs -/
def parOk (R : List (Nat × Nat)) (nm : Nat) : Objs → Bool
  | [] => true
  | (j, _, _) :: r => match Nat.blt j nm with
    | true => match Nat.beq (srcOf R j) j with
      | true => parOk R nm r
      | false => false
    | false => match Nat.blt (srcOf R j) nm with
      | true => false
      | false => parOk R nm r

/-- the parameters' objects are still there -/
def parKept (R : List (Nat × Nat)) (nm : Nat) (O : Objs) : Objs → Bool
  | [] => true
  | (j, _, x) :: r => match Nat.blt j nm with
    | true => match isGone (getO O (srcOf R j)).2 with
      | true => match isGone x with | true => parKept R nm O r | false => false
      | false => parKept R nm O r
    | false => parKept R nm O r

def Wk (nm : Nat) (S S' : St) : Prop := boolP (srcDist [] S.objs S'.objs) (boolP (parOk [] nm S'.objs) (boolP (parKept [] nm S.objs S'.objs) <| wkTmps [] S.objs S'.objs S.tmps S'.tmps ∧ wkOs [] S.objs S'.objs S'.objs))

theorem boolP_iff {b : Bool} {k : Prop} : boolP b k ↔ b = true ∧ k := by cases b <;> simp [boolP]

theorem getO_mem : ∀ (O : Objs) (j : Nat), getO O j = (0, .gone) ∨ (j, getO O j) ∈ O := by
  intro O
  induction O with
  | nil => intro j; exact .inl rfl
  | cons a r ih =>
    obtain ⟨k, u⟩ := a
    intro j
    simp only [getO]
    cases h : Nat.beq k j with
    | true =>
      have := Nat.eq_of_beq_eq_true h
      subst this
      exact .inr (List.mem_cons_self ..)
    | false =>
      rcases ih j with h | h
      · exact .inl h
      · exact .inr (List.mem_cons_of_mem _ h)

theorem freeS_ok {R : List (Nat × Nat)} {o : Nat} {O : Objs} (h : srcDist.freeS R o O = true) : ∀ j u, (j, u) ∈ O → srcOf R j ≠ o := by
  induction O with
  | nil => intro j u hm; cases hm
  | cons a r ih =>
    obtain ⟨k, v, x⟩ := a
    unfold srcDist.freeS at h
    split at h
    · cases h
    · rename_i hk
      intro j u hm e
      rcases List.mem_cons.1 hm with e' | hm
      · injection e' with e1 e2
        subst e1
        rw [e] at hk
        simp at hk
      · exact ih h j u hm e

theorem srcDist_ok {R : List (Nat × Nat)} {O O' : Objs} (h : srcDist R O O' = true) : ∀ j j' u u', (j, u) ∈ O' → (j', u') ∈ O' → j ≠ j' → isGone (getO O (srcOf R j)).2 = false → isGone (getO O (srcOf R j')).2 = false → srcOf R j ≠ srcOf R j' := by
  induction O' with
  | nil => intro j j' u u' hm; cases hm
  | cons a r ih =>
    obtain ⟨k, v, x⟩ := a
    unfold srcDist at h
    have hr : srcDist R O r = true := by
      split at h
      · exact h
      · split at h
        · exact h
        · cases h
    intro j j' u u' hm hm' hne hg hg' e
    rcases List.mem_cons.1 hm with e1 | hm1
    · injection e1 with e1 _
      subst e1
      rw [hg] at h
      simp only at h
      split at h
      · rename_i hf
        rcases List.mem_cons.1 hm' with e2 | hm2
        · injection e2 with e2 _; exact hne e2.symm
        · exact freeS_ok hf j' u' hm2 e.symm
      · cases h
    · rcases List.mem_cons.1 hm' with e2 | hm2
      · injection e2 with e2 _
        subst e2
        rw [hg'] at h
        simp only at h
        split at h
        · rename_i hf
          exact freeS_ok hf j u hm1 e
        · cases h
      · exact ih hr j j' u u' hm1 hm2 hne hg hg' e

theorem imgFree_ok {R : List (Nat × Nat)} {o : Nat} {O' : Objs} (h : imgFree R o O' = true) : ∀ j v x, (j, v, x) ∈ O' → (∀ h, ownOf x h = none) ∨ srcOf R j ≠ o := by
  induction O' with
  | nil => intro j v x hm; cases hm
  | cons a r ih =>
    obtain ⟨k, v, y⟩ := a
    unfold imgFree at h
    split at h
    · rename_i hb
      split at h
      · cases h
      · rename_i hk
        intro j v' x hm
        rcases List.mem_cons.1 hm with e | hm
        · injection e with e1 e2
          subst e1
          exact .inr (fun e => by rw [e] at hk; simp at hk)
        · exact ih h j v' x hm
    · rename_i hb
      intro j v' x hm
      rcases List.mem_cons.1 hm with e | hm
      · injection e with e1 e2
        injection e2 with e2 e3
        subst e3
        exact .inl (fun h => by cases x <;> first | rfl | cases hb)
      · exact ih h j v' x hm

theorem wkOs_mem {R : List (Nat × Nat)} {O O' : Objs} : ∀ {L : Objs}, wkOs R O O' L → ∀ j v x, (j, v, x) ∈ L → wkOb R O O' (getO O (srcOf R j)).2 x := by
  intro L
  induction L with
  | nil => intro _ j v x hm; cases hm
  | cons a r ih =>
    obtain ⟨k, v, y⟩ := a
    intro h j v' x hm
    have h' : wkOb R O O' (getO O (srcOf R k)).2 y ∧ (r = [] ∨ wkOs R O O' r) := by
      cases r with
      | nil => exact ⟨h, .inl rfl⟩
      | cons b s => exact ⟨h.1, .inr h.2⟩
    rcases List.mem_cons.1 hm with e | hm
    · injection e with e1 e2
      injection e2 with e2 e3
      subst e1; subst e3
      exact h'.1
    · rcases h'.2 with e | h2
      · subst e; cases hm
      · exact ih h2 j v' x hm

theorem eqL_ok {g g' : GT} {xs : List g.den} {ys : List g'.den} (h : eqL g g' xs ys) : ∃ e : g = g', (e ▸ xs : List g'.den) = ys := by
  unfold eqL at h; split at h
  · rename_i e; exact ⟨e, h⟩
  · exact h.elim

theorem parOk_mem {R : List (Nat × Nat)} {nm : Nat} {L : Objs} (h : parOk R nm L = true) : ∀ j u, (j, u) ∈ L → (j < nm → srcOf R j = j) ∧ (¬ j < nm → ¬ srcOf R j < nm) := by
  induction L with
  | nil => intro j u hm; cases hm
  | cons a r ih =>
    obtain ⟨k, v, y⟩ := a
    have key : (k < nm → srcOf R k = k) ∧ (¬ k < nm → ¬ srcOf R k < nm) ∧ parOk R nm r = true := by
      unfold parOk at h
      split at h
      · rename_i hlt
        have hlt : k < nm := Nat.le_of_ble_eq_true hlt
        split at h
        · rename_i he
          exact ⟨fun _ => Nat.eq_of_beq_eq_true he, fun hn => absurd hlt hn, h⟩
        · cases h
      · rename_i hlt
        have hlt : ¬ k < nm := fun hh => by
          have : Nat.blt k nm = true := Nat.ble_eq_true_of_le hh
          rw [this] at hlt; cases hlt
        split at h
        · cases h
        · rename_i hs
          refine ⟨fun hh => absurd hh hlt, fun _ hh => ?_, h⟩
          have : Nat.blt (srcOf R k) nm = true := Nat.ble_eq_true_of_le hh
          rw [this] at hs; cases hs
    intro j u hm
    rcases List.mem_cons.1 hm with e | hm
    · injection e with e1 e2
      subst e1
      exact ⟨key.1, key.2.1⟩
    · exact ih key.2.2 j u hm

section
variable {c : Ctx} {E : Env} {w w' : World} {O O' : Objs} {ρ : Nat → Value}

/-- where the target's objects lie -/
def rho' (R : List (Nat × Nat)) (O : Objs) (ρ : Nat → Value) (j : Nat) : Value := match isGone (getO O (srcOf R j)).2 with
  | true => .slice none 0 0
  | false => ρ (srcOf R j)

theorem rho_gone {R : List (Nat × Nat)} {j : Nat} (h : isGone (getO O (srcOf R j)).2 = true) : rho' R O ρ j = .slice none 0 0 := by unfold rho'; rw [h]
theorem rho_kept {R : List (Nat × Nat)} {j : Nat} (h : isGone (getO O (srcOf R j)).2 = false) : rho' R O ρ j = ρ (srcOf R j) := by unfold rho'; rw [h]

theorem wk_own {R : List (Nat × Nat)} (hO : wkOs R O O' O') {j b : Nat} (h : own O' (rho' R O ρ) j = some b) : own O ρ (srcOf R j) = some b ∧ isGone (getO O (srcOf R j)).2 = false ∧ (j, getO O' j) ∈ O' := by
  rcases getO_mem O' j with hg | hm
  · unfold own at h; rw [hg] at h; cases h
  · have hob := wkOs_mem hO j _ _ hm
    cases hgn : isGone (getO O (srcOf R j)).2 with
    | true => unfold own at h; rw [rho_gone hgn] at h; cases hx : (getO O' j).2 <;> rw [hx] at h <;> cases h
    | false =>
      refine ⟨?_, rfl, hm⟩
      unfold own at h ⊢
      rw [rho_kept hgn] at h
      revert h hob hgn
      cases (getO O' j).2 <;> cases (getO O (srcOf R j)).2 <;> intro q1 q2 q3 <;> first | exact q1 | exact q2 | exact q3 | exact q1.elim | exact q2.elim | exact q3.elim | (simp [ownOf] at q1; done) | (simp [isGone] at q3; done)

theorem wk_ok {R : List (Nat × Nat)} (H : HRel c w O ρ) (hd : srcDist R O O' = true) (hO : wkOs R O O' O') :
    (∀ x y v, CellR w c.X O ρ x v → wkC R O O' x y → CellR w c.X O' (rho' R O ρ) y v) ∧ HR w c.X O' (rho' R O ρ) := by
  have hown := fun {j b : Nat} => wk_own (ρ := ρ) hO (j := j) (b := b)
  have hA : ∀ b, b < w.heap.size → Av c.X O' (rho' R O ρ) b → Av c.X O ρ b := by
    intro b _ hb
    rcases hb with hb | ⟨j, hj⟩
    · exact .inl hb
    · exact .inr ⟨_, (hown hj).1⟩
  have hm : ∀ {c' : Cell} {v' : Value}, PR w (Av c.X O ρ) c' v' → PR w (Av c.X O' (rho' R O ρ)) c' v' := fun h => h.mono (fun _ _ _ => rfl) hA
  have hfree : ∀ o g xs, (getO O o).2 = .seq g xs → (∀ j b, own O' (rho' R O ρ) j = some b → srcOf R j ≠ o) → PR w (Av c.X O' (rho' R O ρ)) (.im g xs) (ρ o) := by
    intro o g xs ho hne
    have hob := H.obj o
    rw [ho] at hob
    refine pr_of_seq hob hA fun b hb hAv => ?_
    have hob' : own O ρ o = some b := by unfold own; rw [ho]; exact hb
    rcases hAv with hX | ⟨j, hj⟩
    · exact H.notX _ _ hob' hX
    · exact hne j b hj (H.inj _ _ _ (hown hj).1 hob')
  have cur : ∀ {o v : Nat}, isCur O o v = true → v = (getO O o).1 := by
    intro o v h
    unfold isCur at h
    exact (Nat.eq_of_beq_eq_true h).symm
  have cur' : ∀ {o v : Nat}, isCur O' o v = true → v = (getO O' o).1 := by
    intro o v h
    unfold isCur at h
    exact (Nat.eq_of_beq_eq_true h).symm
  have hcell : ∀ x y v, CellR w c.X O ρ x v → wkC R O O' x y → CellR w c.X O' (rho' R O ρ) y v := by
    intro x y v hx hw
    unfold wkC at hw
    split at hw
    · trivial
    · simp only [boolP_iff] at hw
      obtain ⟨hk, rfl⟩ := hw
      obtain rfl := kindEq_true hk
      exact hx
    · subst hw; exact hx
    · subst hw; exact hx
    · exact hx
    · rename_i g xs
      subst hw
      obtain rfl : v = .slice none 0 0 := hx
      exact .none g none
    · rename_i j ver
      simp only [boolP_iff] at hw
      obtain ⟨h1, h2, h3⟩ := hw
      obtain rfl : v = .slice none 0 0 := hx
      have h1 := cur' h1
      refine ⟨⟨by omega, rfl⟩, fun _ => ?_⟩
      split at h3
      · rename_i e; rw [e]; exact (rho_gone h2).symm
      · exact h3.elim
    · rename_i g xs g' ys
      obtain ⟨e, h⟩ := eqL_ok hw
      subst e; subst h
      exact hm hx
    · rename_i o ver g' ys
      simp only [boolP_iff] at hw
      obtain ⟨h1, h2, h3⟩ := hw
      have h1 := cur h1
      obtain ⟨_, hx⟩ := hx
      have hx := hx h1
      split at h3
      · rename_i g xs e
        rw [e] at hx
        have hx : v = ρ o := hx
        obtain ⟨e2, h⟩ := eqL_ok h3
        subst e2; subst h
        rw [hx]
        refine hfree o g xs e fun j b hj => ?_
        rcases imgFree_ok h2 j _ _ (hown hj).2.2 with h | h
        · unfold own at hj; rw [h] at hj; cases hj
        · exact h
      · rename_i g xs e
        rw [e] at hx
        have hx : v = ρ o := hx
        obtain ⟨e2, h⟩ := eqL_ok h3
        subst e2; subst h
        rw [hx]
        have := H.obj o
        rw [e] at this
        exact hm this
      · exact h3.elim
    · rename_i o ver j ver'
      simp only [boolP_iff] at hw
      obtain ⟨h1, h2, h3, h4, h5, _⟩ := hw
      have h1 := cur h1
      have h2 := cur' h2
      have h3 := Nat.eq_of_beq_eq_true h3
      subst h3
      obtain ⟨⟨_, q⟩, hx⟩ := hx
      have hx := hx h1
      have hgn : isGone (getO O (srcOf R j)).2 = false := by revert h4; cases (getO O (srcOf R j)).2 <;> simp [isList, isGone]
      have hv : v = ρ (srcOf R j) := by
        cases hy : (getO O (srcOf R j)).2 with
        | seq _ _ => rw [hy] at hx; exact hx
        | fro _ _ => rw [hy] at hx; exact hx
        | _ => rw [hy] at h4; cases h4
      refine ⟨⟨by omega, q⟩, fun _ => ?_⟩
      rw [rho_kept hgn, hv]
      cases (getO O' j).2 with
      | seq _ _ => rfl
      | fro _ _ => rfl
      | _ => trivial
    · rename_i o ver off j ver' off'
      simp only [boolP_iff] at hw
      obtain ⟨h1, h2, h3, h4, h5, h6, _⟩ := hw
      have h1 := cur h1
      have h2 := cur' h2
      have h3 := Nat.eq_of_beq_eq_true h3
      have h6 := Nat.eq_of_beq_eq_true h6
      subst h3; subst h6
      obtain ⟨⟨_, q⟩, hx⟩ := hx
      have hx := hx h1
      refine ⟨⟨by omega, q⟩, fun _ => ?_⟩
      cases hy : (getO O (srcOf R j)).2 with
      | box t cs =>
        have hgn : isGone (getO O (srcOf R j)).2 = false := by rw [hy]; rfl
        rw [rho_kept hgn]
        rw [hy] at hx
        cases (getO O' j).2 with
        | box _ _ => exact hx
        | _ => trivial
      | _ => rw [hy] at h4; cases h4
    · rename_i o ver j ver'
      simp only [boolP_iff] at hw
      obtain ⟨h1, h2, h3, h4⟩ := hw
      have h1 := cur h1
      have h2 := cur' h2
      have h3 := Nat.eq_of_beq_eq_true h3
      subst h3
      obtain ⟨⟨_, q⟩, hx⟩ := hx
      have hx := hx h1
      split at h4
      · rename_i g xs g' ys e1 e2
        have hgn : isGone (getO O (srcOf R j)).2 = false := by rw [e1]; rfl
        refine ⟨⟨by omega, q⟩, fun _ => ?_⟩
        rw [rho_kept hgn, e2]
        rw [e1] at hx
        show ∃ b, _
        rw [← h4]
        exact hx
      · exact h4.elim
    · rename_i g z off g' z' off'
      simp only [boolP_iff] at hw
      obtain ⟨h1, h2⟩ := hw
      have h1 := Nat.eq_of_beq_eq_true h1
      subst h1
      unfold eqX at h2
      split at h2
      · rename_i e
        subst e; subst h2
        obtain ⟨b, p, f, hv, ho, hc, hr⟩ := hx
        exact ⟨b, p, f, hv, fun ⟨j, hj⟩ => ho ⟨_, (hown hj).1⟩, hc, fun k cc hk => hm (hr k cc hk)⟩
      · exact h2.elim
    · simp only [boolP_iff] at hw
      have := Nat.eq_of_beq_eq_true hw.1
      subst this
      exact hx
    · exact hw.elim
  have hcells : ∀ cs ds vs, CsR (CellR w c.X O ρ) cs vs → wkCs R O O' cs ds → CsR (CellR w c.X O' (rho' R O ρ)) ds vs := by
    intro cs
    induction cs with
    | nil =>
      intro ds vs h hw
      cases ds with
      | nil => exact ⟨h.1, fun k cc v h => by simp at h⟩
      | cons _ _ => exact hw.elim
    | cons a r ih =>
      intro ds vs h hw
      cases ds with
      | nil => cases r <;> exact hw.elim
      | cons b s =>
        have hw' : wkC R O O' a b ∧ wkCs R O O' r s := by
          cases r with
          | nil => cases s with
            | nil => exact ⟨hw, trivial⟩
            | cons _ _ => exact ⟨hw.1, hw.2⟩
          | cons _ _ => cases s with
            | nil => exact ⟨hw.1, hw.2⟩
            | cons _ _ => exact hw
        cases vs with
        | nil => have := h.1; simp at this
        | cons v vs =>
          have i := ih s vs ⟨by have := h.1; simpa using this, fun k cc u h1 h2 => h.2 (k + 1) cc u (by simpa using h1) (by simpa using h2)⟩ hw'.2
          refine ⟨by simp [i.1], fun k cc u hc hu => ?_⟩
          cases k with
          | zero => simp at hc hu; subst hc; subst hu; exact hcell a b v (h.2 0 a v rfl rfl) hw'.1
          | succ k => simp at hc hu; exact i.2 k cc u hc hu
  refine ⟨hcell, fun j => ?_, fun j j' b hj hj' => ?_, fun j b hj hX => H.notX _ _ (hown hj).1 hX⟩
  · rcases getO_mem O' j with hg | hmem
    · rw [hg]; trivial
    · have hob := wkOs_mem hO j _ _ hmem
      have hsrc := H.obj (srcOf R j)
      cases hgn : isGone (getO O (srcOf R j)).2 with
      | true =>
        rw [rho_gone hgn]
        cases hy : (getO O (srcOf R j)).2 with
        | gone =>
          rw [hy] at hob
          cases hx : (getO O' j).2 with
          | seq g ys => rw [hx] at hob; exact .inl ⟨hob, rfl⟩
          | gone => trivial
          | _ => rw [hx] at hob; exact hob.elim
        | _ => rw [hy] at hgn; cases hgn
      | false =>
        rw [rho_kept hgn]
        cases hy : (getO O (srcOf R j)).2 with
        | gone => rw [hy] at hgn; cases hgn
        | box t cs =>
          rw [hy] at hsrc hob
          cases hx : (getO O' j).2 with
          | box t' ds =>
            rw [hx] at hob
            obtain ⟨b, ccs, t2, e, hh, hr⟩ := hsrc
            exact ⟨b, ccs, t2, e, hh, hcells _ _ _ hr hob⟩
          | gone => trivial
          | _ => rw [hx] at hob; exact hob.elim
        | seq g xs =>
          rw [hy] at hsrc hob
          cases hx : (getO O' j).2 with
          | seq g' ys =>
            rw [hx] at hob
            obtain ⟨e, h⟩ := eqL_ok hob
            subst e; subst h
            rcases hsrc with h | ⟨b, cap, ccs, t', e, q1, q2, q3, q4, hr⟩
            · exact .inl h
            · exact .inr ⟨b, cap, ccs, t', e, q1, q2, q3, q4, fun k cc u h1 h2 => hm (hr k cc u h1 h2)⟩
          | fro g' ys =>
            rw [hx] at hob
            obtain ⟨e, h⟩ := eqL_ok hob
            subst e; subst h
            refine hfree _ g xs hy fun j' b hj' => ?_
            obtain ⟨_, g2, m2⟩ := hown hj'
            have hne : j' ≠ j := by
              intro e; subst e
              unfold own at hj'; rw [hx] at hj'; cases hj'
            exact srcDist_ok hd j' j _ _ m2 hmem hne g2 hgn
          | gone => trivial
          | _ => rw [hx] at hob; exact hob.elim
        | fro g xs =>
          rw [hy] at hsrc hob
          cases hx : (getO O' j).2 with
          | fro g' ys =>
            rw [hx] at hob
            obtain ⟨e, h⟩ := eqL_ok hob
            subst e; subst h
            exact hm hsrc
          | gone => trivial
          | _ => rw [hx] at hob; exact hob.elim
  · obtain ⟨a1, a2, a3⟩ := hown hj
    obtain ⟨b1, b2, b3⟩ := hown hj'
    by_cases e : j = j'
    · exact e
    · exact absurd (H.inj _ _ _ a1 b1) (srcDist_ok hd j j' _ _ a3 b3 e a2 b2)

theorem wkA_ok {R : List (Nat × Nat)} {R1 R2 : Cell → Value → Prop} (hc : ∀ x y v, R1 x v → wkC R O O' x y → R2 y v) (hu : ∀ v, R2 .und v) {x y : AV} {v : Value} (hx : AR R1 x v) (hw : wkA R O O' x y) : AR R2 y v := by
  have hcells : ∀ cs ds vs, CsR R1 cs vs → wkCs R O O' cs ds → CsR R2 ds vs := by
    intro cs
    induction cs with
    | nil =>
      intro ds vs h hw
      cases ds with
      | nil => exact ⟨h.1, fun k cc v h => by simp at h⟩
      | cons _ _ => exact hw.elim
    | cons a r ih =>
      intro ds vs h hw
      cases ds with
      | nil => cases r <;> exact hw.elim
      | cons b s =>
        have hw' : wkC R O O' a b ∧ wkCs R O O' r s := by
          cases r with
          | nil => cases s with
            | nil => exact ⟨hw, trivial⟩
            | cons _ _ => exact ⟨hw.1, hw.2⟩
          | cons _ _ => cases s with
            | nil => exact ⟨hw.1, hw.2⟩
            | cons _ _ => exact hw
        cases vs with
        | nil => have := h.1; simp at this
        | cons v vs =>
          have i := ih s vs ⟨by have := h.1; simpa using this, fun k cc u h1 h2 => h.2 (k + 1) cc u (by simpa using h1) (by simpa using h2)⟩ hw'.2
          refine ⟨by simp [i.1], fun k cc u hc' hu => ?_⟩
          cases k with
          | zero => simp at hc' hu; subst hc'; subst hu; exact hc a b v (h.2 0 a v rfl rfl) hw'.1
          | succ k => simp at hc' hu; exact i.2 k cc u hc' hu
  unfold wkA at hw
  split at hw
  · exact hu v
  · exact hc _ _ _ hx hw
  · obtain ⟨vs, e, h⟩ := hx
    exact ⟨vs, e, hcells _ _ _ h hw⟩
  · rename_i ts us
    obtain ⟨vs, e, hl, h⟩ := hx
    have key : ∀ (ts us : List (Bool × List Cell)) (vs : List Value), ts.length = vs.length → (∀ (k : Nat) (t : Bool × List Cell) (u : Value), ts[k]? = some t → vs[k]? = some u → TR R1 t u) → wkTs R O O' ts us →
        us.length = vs.length ∧ ∀ (k : Nat) (t : Bool × List Cell) (u : Value), us[k]? = some t → vs[k]? = some u → TR R2 t u := by
      intro ts
      induction ts with
      | nil =>
        intro us vs hl _ hw
        cases us with
        | nil => exact ⟨hl, fun k t u h => by simp at h⟩
        | cons _ _ => exact hw.elim
      | cons a r ih =>
        intro us vs hl h hw
        cases vs with
        | nil => simp at hl
        | cons v vs =>
          cases us with
          | nil => obtain ⟨_ | _, _⟩ := a <;> exact hw.elim
          | cons b s =>
            have hw' : TR R2 b v ∧ wkTs R O O' r s := by
              obtain ⟨qa, ca⟩ := a
              obtain ⟨qb, cb⟩ := b
              have h0 := h 0 _ v rfl rfl
              cases qa <;> cases qb
              · obtain ⟨w1, w2⟩ := hw
                refine ⟨?_, w2⟩
                match ca, h0, w1 with
                | [x], h0, w1 =>
                  match cb, w1 with
                  | [y], w1 => exact hc x y v h0 w1
                  | _ :: _ :: _, w1 => exact w1.2.elim
              · exact hw.elim
              · exact hw.elim
              · obtain ⟨w1, w2⟩ := hw
                obtain ⟨zs, e, hz⟩ := h0
                exact ⟨⟨zs, e, hcells _ _ _ hz w1⟩, w2⟩
            obtain ⟨i1, i2⟩ := ih s vs (by simpa using hl) (fun k t u a b => h (k + 1) t u (by simpa using a) (by simpa using b)) hw'.2
            refine ⟨by simp [i1], fun k t u ht hu => ?_⟩
            cases k with
            | zero => simp at ht hu; subst ht; subst hu; exact hw'.1
            | succ k => simp at ht hu; exact i2 k t u ht hu
    obtain ⟨k1, k2⟩ := key ts us vs.toList (by simpa using hl) (fun k t u a b => h k t u a (by rwa [Array.getElem?_toList] at b)) hw
    exact ⟨vs, e, by simpa using k1, fun k t u a b => k2 k t u a (by rwa [Array.getElem?_toList])⟩
  · exact hw.elim

theorem wkTmps_ok {R : List (Nat × Nat)} {T : Tmps} : ∀ {L : Tmps}, wkTmps R O O' T L → ∀ t, getT L t = .c .und ∨ wkA R O O' (getT T t) (getT L t) := by
  intro L
  induction L with
  | nil => intro _ t; exact .inl rfl
  | cons a r ih =>
    obtain ⟨k, v⟩ := a
    intro h t
    have h' : wkA R O O' (getT T k) v ∧ (r = [] ∨ wkTmps R O O' T r) := by
      cases r with
      | nil => exact ⟨h, .inl rfl⟩
      | cons b s => exact ⟨h.1, .inr h.2⟩
    simp only [getT]
    cases hk : Nat.beq k t with
    | true =>
      have := Nat.eq_of_beq_eq_true hk
      subst this
      exact .inr h'.1
    | false =>
      rcases h'.2 with e | h2
      · subst e; exact .inl rfl
      · exact ih h2 t

theorem parKept_mem {R : List (Nat × Nat)} {nm : Nat} {O : Objs} : ∀ {L : Objs}, parKept R nm O L = true → ∀ j v x, (j, v, x) ∈ L → j < nm → isGone x = false → isGone (getO O (srcOf R j)).2 = false := by
  intro L
  induction L with
  | nil => intro _ j v x hm; cases hm
  | cons a r ih =>
    intro h j v x hm hlt hx
    obtain ⟨k, v', y⟩ := a
    unfold parKept at h
    rcases List.mem_cons.1 hm with e | hm
    · injection e with e1 e2
      injection e2 with e2 e3
      subst e1; subst e3
      have : Nat.blt j nm = true := Nat.ble_eq_true_of_le hlt
      rw [this, hx] at h
      cases hg : isGone (getO O (srcOf R j)).2 with
      | false => rfl
      | true => rw [hg] at h; cases h
    · refine ih ?_ j v x hm hlt hx
      split at h
      · split at h
        · split at h
          · exact h
          · cases h
        · exact h
      · exact h

theorem wk_owny {R : List (Nat × Nat)} {nm : Nat} (hO : wkOs R O O' O') (hk : parKept R nm O O' = true) {j : Nat} (hj : j < nm) (h : owny (getO O' j).2) : owny (getO O (srcOf R j)).2 ∧ isGone (getO O (srcOf R j)).2 = false := by
  rcases getO_mem O' j with hg | hm
  · rw [hg] at h; exact h.elim
  · have hob := wkOs_mem hO j _ _ hm
    have hgn := parKept_mem hk j _ _ hm hj (by cases hx : (getO O' j).2 <;> rw [hx] at h <;> first | rfl | exact h.elim)
    refine ⟨?_, hgn⟩
    revert h hob hgn
    cases (getO O' j).2 <;> cases (getO O (srcOf R j)).2 <;> intro q1 q2 q3 <;> first | trivial | exact q1.elim | exact q2.elim | exact q3.elim | (simp [isGone] at q3; done)

/-- A weaker state holds where a stronger one does. -/
theorem Wk.rel {S S' : St} (h : Wk c.nm S S') {a : Act} (hS : SRel c S a w) : SRel c S' a w := by
  unfold Wk at h
  simp only [boolP_iff] at h
  obtain ⟨hd, hp, hkp, hT, hO⟩ := h
  obtain ⟨⟨ρ, H, ht⟩, h1, h2⟩ := hS
  obtain ⟨hc, HR'⟩ := wk_ok H hd hO
  have hp := parOk_mem hp
  refine ⟨⟨rho' [] S.objs ρ, ⟨HR'.obj, HR'.inj, H.xlt, HR'.notX, fun j b hj => ?_, fun j hj hn => ?_, H.frame, H.size, H.os, H.tape, H.output⟩, fun t => ?_⟩, h1, h2⟩
  · obtain ⟨a1, a2, a3⟩ := wk_own hO hj
    exact H.fresh _ b a1
  · obtain ⟨a1, a2⟩ := wk_owny hO hkp hj hn
    rw [rho_kept a2]
    exact H.par j hj a1
  · rcases wkTmps_ok hT t with e | hw
    · rw [e]; trivial
    · exact wkA_ok hc (fun _ => trivial) (ht t) hw

end

end GV

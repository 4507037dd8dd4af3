/-
  Structs compared: a look at the types by the kernel. No condition beyond those named.
-/
import Derived.Test.YtlifofjaiigogaaWB
namespace GV
open Go
set_option linter.unusedSimpArgs false
set_option linter.unusedVariables false

def planFs (g : Nat → Option (List LK)) : List Field → Nat → Option (List LK)
  | [], _ => some []
  | f :: r, off => match f.name == "_" with
    | true => none
    | false => match Nat.beq f.offset off with
      | false => none
      | true => match g f.type with
        | none => none
        | some ks => match Nat.beq ks.length 0 with
          | true => none
          | false => match planFs g r (off + ks.length) with
            | none => none
            | some ls => some (ks ++ ls)

def eqPlan (P : Program) (T : Tree) : Nat → Nat → Option (List LK)
  | 0, _ => none
  | d + 1, t => match T.get t with
    | none => none
    | some ti => match ti.kd with
      | .int _ => some [.int]
      | .bool => some [.bool]
      | .str => some [.str]
      | .struct _ => match P.stoodInHeld t with
        | true => none
        | false => match planFs (eqPlan P T d) (P.fieldsOf t).toList 0 with
          | some ks => match Nat.beq ks.length ti.size with | true => some ks | false => none
          | none => none
      | _ => none

def eqB (P : Program) (T : Tree) : List (Nat × List LK) → Bool
  | [] => true
  | (t, ks) :: r => decide (eqPlan P T 8 t = some ks) && (match T.get t with | some ti => ti.agg | none => false) && !P.eqGuardType P.depth t && eqB P T r

def eq1 : Cell → Cell → Option Bool
  | .int k a, .int k' b => match kindEq k k' with | true => some (decide (a = b)) | false => none
  | .bool _ a, .bool _ b => some (decide (a = b))
  | .str a, .str b => some (decide (a = b))
  | _, _ => none

def eqN : List Cell → List Cell → Option Bool
  | [], [] => some true
  | a :: r, b :: s => match eq1 a b with
    | some p => match eqN r s with
      | some q => some (p && q)
      | none => none
    | none => none
  | _, _ => none

theorem eqN_cons (a b : Cell) (r s : List Cell) : eqN (a :: r) (b :: s) = (match eq1 a b with | some p => (match eqN r s with | some q => some (p && q) | none => none) | none => none) := rfl

theorem eqCs_eqN : ∀ {cs ds : List Cell} {q : Bool}, eqCs cs ds = some q → eqN cs ds = some q := by
  intro cs
  induction cs with
  | nil => intro ds q h; cases ds with
    | nil => exact h
    | cons d s => cases d <;> simp [eqCs] at h
  | cons a r ih =>
    intro ds q h
    cases ds with
    | nil => cases a <;> cases r <;> simp [eqCs] at h
    | cons d s =>
      cases a <;> cases d <;> first
        | (cases r <;> cases s <;> simp [eqCs] at h; done)
        | skip
      all_goals
        cases r with
        | nil => cases s with
          | nil =>
            simp only [eqCs] at h
            first
            | (split at h
               · rename_i hk; simp only [eqN, eq1, hk]; simpa using h
               · cases h)
            | (simp only [eqN, eq1]; simpa using h)
          | cons _ _ => simp [eqCs] at h <;> (split at h <;> cases h)
        | cons x r => cases s with
          | nil => simp [eqCs] at h <;> (split at h <;> cases h)
          | cons y s =>
            simp only [eqCs] at h
            first
            | (split at h
               · rename_i hk
                 split at h
                 · rename_i t ht
                   have := ih ht
                   cases h
                   rw [eqN_cons, this]
                   simp [eq1, hk]
                 · cases h
               · cases h)
            | (split at h
               · rename_i t ht
                 have := ih ht
                 cases h
                 rw [eqN_cons, this]
                 simp [eq1]
               · cases h)

def mkV (agg : Bool) (vs : List Value) : Value := if agg then .agg vs.toArray else vs.headD undef

theorem kOk_split : ∀ {k1 k2 : List LK} {cs : List Cell}, kOk (k1 ++ k2) cs = true → k1.length ≤ cs.length ∧ kOk k1 (cs.take k1.length) = true ∧ kOk k2 (cs.drop k1.length) = true := by
  intro k1
  induction k1 with
  | nil => intro k2 cs h; exact ⟨Nat.zero_le _, by simp [kOk], by simpa using h⟩
  | cons k r ih =>
    intro k2 cs h
    cases cs with
    | nil => cases k <;> simp [kOk] at h
    | cons c s =>
      have h' : kOk (r ++ k2) s = true ∧ ∀ z, kOk r z = true → kOk (k :: r) (c :: z) = true := by
        cases k <;> cases c <;> simp [kOk] at h ⊢ <;> exact h
      obtain ⟨a1, a2, a3⟩ := ih h'.1
      exact ⟨by simpa using a1, by simpa using h'.2 _ a2, by simpa using a3⟩

theorem kOk_length : ∀ {ks : List LK} {cs : List Cell}, kOk ks cs = true → ks.length = cs.length := by
  intro ks
  induction ks with
  | nil => intro cs h; cases cs with
    | nil => rfl
    | cons c s => simp [kOk] at h
  | cons k r ih =>
    intro cs h
    cases cs with
    | nil => cases k <;> simp [kOk] at h
    | cons c s =>
      have : kOk r s = true := by cases k <;> cases c <;> simp [kOk] at h <;> exact h
      simp [ih this]

theorem eqN_split : ∀ {m : Nat} {cs ds : List Cell} {q : Bool}, m ≤ cs.length → eqN cs ds = some q → ∃ q1 q2, eqN (cs.take m) (ds.take m) = some q1 ∧ eqN (cs.drop m) (ds.drop m) = some q2 ∧ q = (q1 && q2) := by
  intro m
  induction m with
  | zero => intro cs ds q _ h; exact ⟨true, q, by simp [eqN], by simpa using h, by simp⟩
  | succ m ih =>
    intro cs ds q hm h
    cases cs with
    | nil => simp at hm
    | cons a r =>
      cases ds with
      | nil => simp [eqN] at h
      | cons b s =>
        rw [eqN_cons] at h
        split at h
        · rename_i p hp
          split at h
          · rename_i q' hq
            cases h
            obtain ⟨q1, q2, h1, h2, h3⟩ := ih (by simpa using hm) hq
            refine ⟨p && q1, q2, ?_, by simpa using h2, by rw [h3, Bool.and_assoc]⟩
            simp only [List.take_succ_cons]
            rw [eqN_cons, hp, h1]
          · cases h
        · cases h

theorem csr_take {R : Cell → Value → Prop} {cs : List Cell} {vs : List Value} (h : CsR R cs vs) (m : Nat) : CsR R (cs.take m) (vs.take m) := by
  refine ⟨by simp [h.1], fun k c v h1 h2 => ?_⟩
  rw [List.getElem?_take] at h1 h2
  split at h1
  · rename_i hk; rw [if_pos hk] at h2; exact h.2 k c v h1 h2
  · cases h1

theorem csr_drop {R : Cell → Value → Prop} {cs : List Cell} {vs : List Value} (h : CsR R cs vs) (m : Nat) : CsR R (cs.drop m) (vs.drop m) := by
  refine ⟨by simp [h.1], fun k c v h1 h2 => ?_⟩
  rw [List.getElem?_drop] at h1 h2
  exact h.2 _ c v h1 h2

/-- what holds of a type that may be compared -/
def EqT (P : Program) (T : Tree) (n t : Nat) (ks : List LK) : Prop := ∃ ti, T.get t = some ti ∧ ti.size = ks.length ∧
  ∀ (w : World) (vs us : List Value) (cs ds : List Cell) (q : Bool), CsR SimpleR cs vs → CsR SimpleR ds us → kOk ks cs = true → eqN cs ds = some q →
    (Op.equalIn n t (mkV ti.agg vs) (mkV ti.agg us)).run P w = .ok q w

theorem eqN_length : ∀ {cs ds : List Cell} {q : Bool}, eqN cs ds = some q → cs.length = ds.length := by
  intro cs
  induction cs with
  | nil => intro ds q h; cases ds with
    | nil => rfl
    | cons _ _ => simp [eqN] at h
  | cons a r ih =>
    intro ds q h
    cases ds with
    | nil => simp [eqN] at h
    | cons b s =>
      rw [eqN_cons] at h
      split at h
      · split at h
        · rename_i q' hq
          simp [ih hq]
        · cases h
      · cases h

theorem run_part {P : Program} {T : Tree} (hT : TabOk P T) {t : Nat} {ti : TI} (ht : T.get t = some ti) (w : World) {xs : Array Value} {off : Nat} (hl : off + ti.size ≤ xs.size) :
    (part t xs off).run P w = .ok (mkV ti.agg ((xs.toList.drop off).take ti.size)) w := by
  have hk := hT t ti ht
  unfold part
  simp only [Sem.run_bind, hk.isAgg, Result.andThen_ok]
  cases ha : ti.agg with
  | true =>
    simp only [if_true, Sem.run_bind, hk.sizeOf, Result.andThen_ok, Sem.run_pure, mkV]
    congr 2
    apply Array.ext'
    simp [List.take_drop]
  | false =>
    have h1 := hk.one ha
    have hlt : off < xs.size := by omega
    simp only [Bool.false_eq_true, if_false, mkV, h1]
    rw [Array.getElem?_eq_getElem hlt]
    simp only [Sem.run_pure]
    congr 1
    rw [List.drop_eq_getElem_cons (by simpa using hlt)]
    simp

theorem planFs_ok {P : Program} {T : Tree} (hT : TabOk P T) {n : Nat} {g : Nat → Option (List LK)} (hg : ∀ t ks, g t = some ks → EqT P T n t ks) (w : World) (xs ys : Array Value) : ∀ (fs : List Field) (off : Nat) (ks : List LK), planFs g fs off = some ks →
    ∀ (cs ds : List Cell) (q : Bool), CsR SimpleR cs (xs.toList.drop off) → CsR SimpleR ds (ys.toList.drop off) → kOk ks cs = true → eqN cs ds = some q → (Op.eqFields n xs ys fs).run P w = .ok q w := by
  intro fs
  induction fs with
  | nil =>
    intro off ks h cs ds q _ _ hk hq
    cases h
    have : cs = [] := by
      cases cs with
      | nil => rfl
      | cons _ _ => simp [kOk] at hk
    subst this
    cases ds with
    | nil => cases hq; simp [Op.eqFields]
    | cons _ _ => simp [eqN] at hq
  | cons f r ih =>
    intro off ks h cs ds q hx hy hk hq
    simp only [planFs] at h
    split at h
    · cases h
    · rename_i hnm
      split at h
      · cases h
      · rename_i hoff
        have hoff := Nat.eq_of_beq_eq_true hoff
        split at h
        · cases h
        · rename_i k1 hk1
          split at h
          · cases h
          rename_i hz
          have hz : 0 < k1.length := Nat.pos_of_ne_zero fun e => by rw [e] at hz; cases hz
          split at h
          · cases h
          · rename_i k2 hk2
            cases h
            obtain ⟨ti, hti, hsz, hrun⟩ := hg _ _ hk1
            obtain ⟨a1, a2, a3⟩ := kOk_split hk
            obtain ⟨q1, q2, b1, b2, b3⟩ := eqN_split a1 hq
            have hxl := hx.1
            have hyl := hy.1
            have hcd := eqN_length hq
            have hfx : off + ti.size ≤ xs.size := by simp at hxl; omega
            have hfy : off + ti.size ≤ ys.size := by simp at hyl; omega
            have hr := ih _ _ hk2 (cs.drop k1.length) (ds.drop k1.length) q2 (by have := csr_drop hx k1.length; rwa [List.drop_drop] at this) (by have := csr_drop hy k1.length; rwa [List.drop_drop] at this) a3 b2
            have h1 := hrun w _ _ _ _ q1 (csr_take hx k1.length) (csr_take hy k1.length) a2 b1
            simp only [Op.eqFields]
            have hne : f.name ≠ "_" := by simpa using hnm
            rw [if_pos hne]
            simp only [Sem.run_bind, hoff, run_part hT hti w hfx, run_part hT hti w hfy, Result.andThen_ok]
            rw [hsz, h1]
            simp only [Result.andThen_ok]
            cases q1 with
            | true => simp only [Bool.not_true, Bool.false_eq_true, if_false]; rw [hr, b3]; rfl
            | false => simp [b3]

theorem one_of {α : Type} {n : Nat} {xs : List α} (h : n = xs.length) (hn : n = 1 := by rfl) : ∃ x, xs = [x] := by
  subst hn
  cases xs with
  | nil => cases h
  | cons x r => cases r with
    | nil => exact ⟨x, rfl⟩
    | cons _ _ => simp at h

theorem eqPlan_ok {P : Program} {T : Tree} (hT : TabOk P T) : ∀ (d t : Nat) (ks : List LK), eqPlan P T d t = some ks → ∀ n, d ≤ n → EqT P T n t ks := by
  intro d
  induction d with
  | zero => intro t ks h; cases h
  | succ d ih =>
    intro t ks h n hn
    simp only [eqPlan] at h
    split at h
    · cases h
    · rename_i ti hti
      have hk := hT t ti hti
      obtain ⟨n, rfl⟩ : ∃ m, n = m + 1 := ⟨n - 1, by omega⟩
      have hkd := hk.kd
      split at h
      · rename_i k hkk
        cases h
        rw [hkk] at hkd
        have ha : ti.agg = false := by simp [TI.agg, hkk]
        refine ⟨ti, hti, hk.one ha, fun w vs us cs ds q h1 h2 h3 h4 => ?_⟩
        rw [ha]
        obtain ⟨x, rfl⟩ : ∃ x, cs = [x] := one_of (kOk_length h3)
        obtain ⟨y, rfl⟩ : ∃ y, ds = [y] := one_of (eqN_length h4)
        obtain ⟨v, rfl⟩ : ∃ v, vs = [v] := one_of h1.1
        obtain ⟨u, rfl⟩ : ∃ u, us = [u] := one_of h2.1
        have hv := h1.2 0 x v rfl rfl
        have hu := h2.2 0 y u rfl rfl
        cases x <;> first | (simp [kOk] at h3; done) | skip
        cases y <;> first | (simp [eqN, eq1] at h4; done) | skip
        rename_i k1 a k2 b
        cases hv; cases hu
        simp only [eqN, eq1] at h4
        split at h4
        · rename_i p hp
          split at hp
          · rename_i hkk
            have := kindEq_true hkk
            subst this
            cases hp
            simp only [Bool.and_true, Option.some.injEq] at h4
            subst h4
            simp only [mkV, Bool.false_eq_true, if_false, List.headD]
            rw [run_equalIn_int (k' := k) w n t _ a b hkd]
            rfl
          · cases hp
        · cases h4
      · rename_i hkk
        cases h
        rw [hkk] at hkd
        have ha : ti.agg = false := by simp [TI.agg, hkk]
        refine ⟨ti, hti, hk.one ha, fun w vs us cs ds q h1 h2 h3 h4 => ?_⟩
        rw [ha]
        obtain ⟨x, rfl⟩ : ∃ x, cs = [x] := one_of (kOk_length h3)
        obtain ⟨y, rfl⟩ : ∃ y, ds = [y] := one_of (eqN_length h4)
        obtain ⟨v, rfl⟩ : ∃ v, vs = [v] := one_of h1.1
        obtain ⟨u, rfl⟩ : ∃ u, us = [u] := one_of h2.1
        have hv := h1.2 0 x v rfl rfl
        have hu := h2.2 0 y u rfl rfl
        cases x <;> first | (simp [kOk] at h3; done) | skip
        cases y <;> first | (simp [eqN, eq1] at h4; done) | skip
        rename_i k1 a k2 b
        cases hv; cases hu
        simp only [eqN, eq1, Bool.and_true, Option.some.injEq] at h4
        subst h4
        simp only [mkV, Bool.false_eq_true, if_false, List.headD]
        rw [run_equalIn_bool' w n t a b hkd]
        cases a <;> cases b <;> rfl
      · rename_i hkk
        cases h
        rw [hkk] at hkd
        have ha : ti.agg = false := by simp [TI.agg, hkk]
        refine ⟨ti, hti, hk.one ha, fun w vs us cs ds q h1 h2 h3 h4 => ?_⟩
        rw [ha]
        obtain ⟨x, rfl⟩ : ∃ x, cs = [x] := one_of (kOk_length h3)
        obtain ⟨y, rfl⟩ : ∃ y, ds = [y] := one_of (eqN_length h4)
        obtain ⟨v, rfl⟩ : ∃ v, vs = [v] := one_of h1.1
        obtain ⟨u, rfl⟩ : ∃ u, us = [u] := one_of h2.1
        have hv := h1.2 0 x v rfl rfl
        have hu := h2.2 0 y u rfl rfl
        cases x <;> first | (simp [kOk] at h3; done) | skip
        cases y <;> first | (simp [eqN, eq1] at h4; done) | skip
        rename_i a b
        cases hv; cases hu
        simp only [eqN, eq1, Bool.and_true, Option.some.injEq] at h4
        subst h4
        simp only [mkV, Bool.false_eq_true, if_false, List.headD]
        rw [run_equalIn_string w n t _ _ hkd, bytes_toList, bytes_toList]
        congr 1
        by_cases e : a = b
        · subst e; simp
        · simp [e]
      · rename_i fs hkk
        split at h
        · cases h
        · rename_i hst
          split at h
          · rename_i ks' hpl
            split at h
            · rename_i hln
              cases h
              have hln := Nat.eq_of_beq_eq_true hln
              rw [hkk] at hkd
              obtain ⟨F, hF, _⟩ := hkd
              have ha : ti.agg = true := by simp [TI.agg, hkk]
              have hfo : P.fieldsOf t = F := by unfold Program.fieldsOf; rw [hF]
              refine ⟨ti, hti, hln.symm, fun w vs us cs ds q h1 h2 h3 h4 => ?_⟩
              rw [ha]
              simp only [mkV, if_true]
              rw [run_equalIn_struct w n t vs.toArray us.toArray (by rw [hfo]; exact hF) hst]
              exact planFs_ok hT (fun t ks h => ih t ks h n (by omega)) w _ _ _ 0 ks hpl cs ds q (by simpa using h1) (by simpa using h2) h3 h4
            · cases h
          · cases h
      · cases h

theorem eqB_ok {P : Program} {T : Tree} (hT : TabOk P T) {E : Env} : ∀ {L : List (Nat × List LK)}, eqB P T L = true → ∀ t ks, eqtOf L t = some ks → EqOk P t ks := by
  intro L
  induction L with
  | nil => intro _ t ks h; cases h
  | cons a r ih =>
    intro h t ks ht
    obtain ⟨t', ks'⟩ := a
    simp only [eqB, Bool.and_eq_true] at h
    obtain ⟨⟨⟨h1, h2⟩, h3⟩, h4⟩ := h
    simp only [eqtOf] at ht
    split at ht
    · rename_i e
      have := Nat.eq_of_beq_eq_true e
      subst this
      cases ht
      intro w xs ys cs ds q hx hy hk hq
      obtain ⟨ti, hti, hsz, hrun⟩ := eqPlan_ok hT 8 _ _ (of_decide_eq_true h1) 10000 (by omega)
      rw [hti] at h2
      simp only at h2
      have := hrun w xs.toList ys.toList cs ds q hx hy hk (eqCs_eqN hq)
      rw [h2] at this
      simp only [mkV, if_true, Array.toArray_toList] at this
      refine ⟨by simpa [Op.equal, Op.maxDepth] using this, by simpa using h3⟩
    · exact ih h4 t ks ht

end GV

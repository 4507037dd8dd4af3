/-
  From a body to a contract. No condition beyond those named.
-/
import Derived.Test.YtlifofjaiigogaaVW
namespace GV
open Go
set_option linter.unusedSimpArgs false
set_option linter.unusedVariables false

def resA : AV → Option (Bool × List Cell)
  | .c .und => none
  | .c x => some (false, [x])
  | .agg cs => some (true, cs)
  | .tup _ => none

def resV (E : Env) (S : St) : ResultVar → Option (Bool × List Cell)
  | .tmp t => resA (getT S.tmps t)
  | .cell a t => match loadF E (getO S.objs) t (getT S.tmps a) with
    | some (none, v, []) => resA v
    | _ => none

def resF (E : Env) (S : St) : List ResultVar → Option AV
  | [] => some (.tup [])
  | [x] => match resV E S x with
    | some (a, cs) => some (asV a cs)
    | none => none
  | [x, y] => match resV E S x, resV E S y with
    | some a, some b => some (.tup [a, b])
    | _, _ => none
  | [x, y, z] => match resV E S x, resV E S y, resV E S z with
    | some a, some b, some d => some (.tup [a, b, d])
    | _, _, _ => none
  | [x, y, z, u] => match resV E S x, resV E S y, resV E S z, resV E S u with
    | some a, some b, some d, some e => some (.tup [a, b, d, e])
    | _, _, _, _ => none
  | _ => none

def mtC : Cell → Cell → List (Nat × Nat)
  | .sl o _, .sl j _ => [(j, o)]
  | .ptr o _ _, .ptr j _ _ => [(j, o)]
  | .nil, .sl j _ => [(j, 900000 + j)]
  | _, _ => []

def mtCs : List Cell → List Cell → List (Nat × Nat)
  | a :: r, b :: s => mtC a b ++ mtCs r s
  | _, _ => []

def mtTs : List (Bool × List Cell) → List (Bool × List Cell) → List (Nat × Nat)
  | (_, a) :: r, (_, b) :: s => mtCs a b ++ mtTs r s
  | _, _ => []

/-- which object of ours is which of the contract's -/
def mtA : AV → AV → List (Nat × Nat)
  | .c x, .c y => mtC x y
  | .agg cs, .agg ds => mtCs cs ds
  | .tup vs, .tup us => mtTs vs us
  | _, _ => []

def eqG (g g' : GT) : Bool := decide (g = g')

/-- the parameters' objects, as the contract leaves them -/
def cmpOk : List AObj → List AObj → Prop
  | [], _ => True
  | .box _ _ :: r, .box _ _ :: s => cmpOk r s
  | .seq g xs :: r, .seq g' ys :: s => boolP (eqG g' g) (ys.length = xs.length ∧ cmpOk r s)
  | _, _ => False

def RetR (R : List (Nat × Nat)) (E : Env) (M Ms : List AObj) (r' r : AV) (S : St) : Prop :=
  boolP (srcDist R S.objs (ix 0 Ms)) <| boolP (parOk R E.nm (ix 0 Ms)) <| boolP (parKept R E.nm S.objs (ix 0 Ms)) <|
    cmpOk M Ms ∧ wkA R S.objs (ix 0 Ms) r' r ∧ wkOs R S.objs (ix 0 Ms) (ix 0 Ms)

def RetQ (E : Env) (rs : List ResultVar) (M Ms : List AObj) (r : AV) (S : St) : Prop :=
  match resF E S rs with
  | none => False
  | some r' => RetR (mtA r' r) E M Ms r' r S

def slots : Nat → List AV → Tmps
  | _, [] => []
  | n, x :: r => (n, x) :: slots (n + 1) r

theorem getT_slots : ∀ (xs : List AV) (n j : Nat), getT (slots n xs) (n + j) = xs.getD j (.c .und) := by
  intro xs
  induction xs with
  | nil => intro n j; simp [slots, getT]
  | cons x r ih =>
    intro n j
    cases j with
    | zero => simp [slots, getT]
    | succ j =>
      have hb : Nat.beq n (n + (j + 1)) = false := by
        cases e : Nat.beq n (n + (j + 1)) with
        | true => have := Nat.eq_of_beq_eq_true e; omega
        | false => rfl
      simp only [slots, getT, hb]
      rw [show n + (j + 1) = (n + 1) + j by omega, ih]
      simp

theorem mem_ix : ∀ (M : List AObj) (n j : Nat) (u : Nat × AObj), (j, u) ∈ ix n M → n ≤ j ∧ j < n + M.length := by
  intro M
  induction M with
  | nil => intro n j u h; cases h
  | cons x r ih =>
    intro n j u h
    simp only [ix] at h
    rcases List.mem_cons.1 h with h | h
    · injection h with h1 _; subst h1; simp
    · have := ih _ _ _ h; simp; omega

theorem ix_mem {M : List AObj} {j : Nat} (h : j < M.length) : (j, getO (ix 0 M) j) ∈ ix 0 M := by
  rcases getO_mem (ix 0 M) j with hg | hm
  · have key : ∀ (M : List AObj) (n j : Nat), j < M.length → ∃ x, (n + j, 0, x) ∈ ix n M := by
      intro M
      induction M with
      | nil => intro n j h; simp at h
      | cons x r ih =>
        intro n j h
        cases j with
        | zero => exact ⟨x, List.mem_cons_self⟩
        | succ j =>
          obtain ⟨y, hy⟩ := ih (n + 1) j (by simpa using h)
          exact ⟨y, List.mem_cons_of_mem _ (by rwa [show n + (j + 1) = n + 1 + j by omega])⟩
    have get : ∀ (M : List AObj) (n j : Nat), j < M.length → (n + j, getO (ix n M) (n + j)) ∈ ix n M := by
      intro M
      induction M with
      | nil => intro n j h; simp at h
      | cons x r ih =>
        intro n j h
        rw [getO_ix]
        cases j with
        | zero => exact List.mem_cons_self
        | succ j =>
          have := ih (n + 1) j (by simpa using h)
          rw [getO_ix] at this
          simp only [ix]
          refine List.mem_cons_of_mem _ ?_
          rw [show n + (j + 1) = n + 1 + j by omega]
          simpa using this
    have := get M 0 j h
    rwa [Nat.zero_add] at this
  · exact hm

theorem cmpOk_get : ∀ {M Ms : List AObj}, cmpOk M Ms → M.length ≤ Ms.length ∧ ∀ j, j < M.length → Cmp (M.getD j .gone) (Ms.getD j .gone) ∧ owny (M.getD j .gone) ∧ owny (Ms.getD j .gone) := by
  intro M
  induction M with
  | nil => intro Ms _; exact ⟨Nat.zero_le _, fun j h => by simp at h⟩
  | cons x r ih =>
    intro Ms h
    cases Ms with
    | nil => cases x <;> exact h.elim
    | cons y s =>
      have key : (Cmp x y ∧ owny x ∧ owny y) ∧ cmpOk r s := by
        cases x <;> cases y <;> first | exact h.elim | skip
        · exact ⟨⟨.inr trivial, trivial, trivial⟩, h⟩
        · rename_i g xs g' ys
          obtain ⟨h1, h2, h3⟩ := boolP_iff.1 h
          exact ⟨⟨.inr ⟨of_decide_eq_true h1, h2⟩, trivial, trivial⟩, h3⟩
      obtain ⟨h1, h2⟩ := ih key.2
      refine ⟨by simpa using h1, fun j hj => ?_⟩
      cases j with
      | zero => exact key.1
      | succ j => exact h2 j (by simpa using hj)

section
variable {c : Ctx} {E : Env} {w : World}

theorem resA_ok {R : Cell → Value → Prop} {x : AV} {v : Value} {a : Bool} {cs : List Cell} (hx : AR R x v) (h : resA x = some (a, cs)) : TR R (a, cs) v ∧ AR R (asV a cs) v := by
  rcases x with x | ds | _
  · have : a = false ∧ cs = [x] := by cases x <;> simp [resA] at h <;> exact ⟨h.1, h.2.symm⟩
    obtain ⟨rfl, rfl⟩ := this
    exact ⟨hx, hx⟩
  · simp only [resA, Option.some.injEq, Prod.mk.injEq] at h
    obtain ⟨rfl, rfl⟩ := h
    exact ⟨hx, hx⟩
  · cases h

def rv (tmps : Array Value) : ResultVar → Sem Value
  | .tmp t => pure (tmps.getD t undef)
  | .cell a t => do loadVar t (← asAddr (tmps.getD a undef))

theorem loadAt_asAddr {t : TypeId} {v cv : Value} {P : Program} {w : World} (h : (Instr.loadAt t v).run P w = .ok cv w) : (do loadVar t (← asAddr v) : Sem Value).run P w = .ok cv w := by
  cases v <;> try (simp [Instr.loadAt, Instr.sureAddr, stuck] at h; done)
  rename_i a
  cases a with
  | none => simp [Instr.loadAt, Instr.sureAddr, stuck] at h
  | some a => simpa [Instr.loadAt, Instr.sureAddr, asAddr] using h

theorem resV_ok (hE : EOk c E) {S : St} {a : Act} (hS : SRel c S a w) {ρ : Nat → Value} (H : HRel c w S.objs ρ) (hT : ∀ t, AR (CellR w c.X S.objs ρ) (getT S.tmps t) (a.tmps.getD t undef)) {x : ResultVar} {q : Bool × List Cell} (h : resV E S x = some q) :
    ∃ v, (rv a.tmps x).run c.P w = .ok v w ∧ TR (CellR w c.X S.objs ρ) q v ∧ AR (CellR w c.X S.objs ρ) (asV q.1 q.2) v := by
  obtain ⟨ag, cs⟩ := q
  cases x with
  | tmp t =>
    simp only [resV] at h
    exact ⟨_, rfl, resA_ok (hT t) h⟩
  | cell ad t =>
    simp only [resV] at h
    split at h
    · rename_i v hl
      obtain ⟨_, cv, h1, h2⟩ := loadF_ok hE.tab H (hT ad) hl
      exact ⟨cv, loadAt_asAddr h1, resA_ok h2 h⟩
    · cases h

theorem resF_ok (hE : EOk c E) {S : St} {a : Act} (hS : SRel c S a w) {ρ : Nat → Value} (H : HRel c w S.objs ρ) (hT : ∀ t, AR (CellR w c.X S.objs ρ) (getT S.tmps t) (a.tmps.getD t undef)) {fn : Func} {rs : List ResultVar} (hrs : fn.results = ⟨rs⟩)
    {r : AV} (h : resF E S rs = some r) : ∃ v, (results fn a.tmps).run c.P w = .ok v w ∧ AR (CellR w c.X S.objs ρ) r v := by
  have hres : ∀ P w, (results fn a.tmps).run P w = ((⟨rs⟩ : Array ResultVar).mapM (rv a.tmps) >>= fun vs => pure (if h : vs.size = 1 then vs[0] else .tuple vs) : Sem Value).run P w := by
    intro P w
    unfold results
    rw [hrs]
    congr 2
  rw [hres]
  have rv_ok := fun {x : ResultVar} {q : Bool × List Cell} => @resV_ok c E w hE S a hS ρ H hT x q
  unfold resF at h
  split at h
  · cases h
    exact ⟨.tuple #[], by simp, #[], rfl, rfl, fun k t u h => by simp at h⟩
  · rename_i x
    split at h
    · rename_i ag cs hx
      cases h
      obtain ⟨v, h1, h2, h3⟩ := rv_ok hx
      exact ⟨v, by simp [h1], h3⟩
    · cases h
  · rename_i x y
    split at h
    · rename_i p q hx hy
      cases h
      obtain ⟨v1, a1, b1, _⟩ := rv_ok hx
      obtain ⟨v2, a2, b2, _⟩ := rv_ok hy
      refine ⟨.tuple #[v1, v2], by simp [a1, a2], #[v1, v2], rfl, rfl, fun k t u h1 h2 => ?_⟩
      rcases k with _ | _ | k <;> simp at h1 h2
      · subst h1; subst h2; exact b1
      · subst h1; subst h2; exact b2
    · cases h
  · rename_i x y z
    split at h
    · rename_i p q r hx hy hz
      cases h
      obtain ⟨v1, a1, b1, _⟩ := rv_ok hx
      obtain ⟨v2, a2, b2, _⟩ := rv_ok hy
      obtain ⟨v3, a3, b3, _⟩ := rv_ok hz
      refine ⟨.tuple #[v1, v2, v3], by simp [a1, a2, a3], #[v1, v2, v3], rfl, rfl, fun k t u h1 h2 => ?_⟩
      rcases k with _ | _ | _ | k <;> simp at h1 h2
      · subst h1; subst h2; exact b1
      · subst h1; subst h2; exact b2
      · subst h1; subst h2; exact b3
    · cases h
  · rename_i x y z u
    split at h
    · rename_i p q r s hx hy hz hu
      cases h
      obtain ⟨v1, a1, b1, _⟩ := rv_ok hx
      obtain ⟨v2, a2, b2, _⟩ := rv_ok hy
      obtain ⟨v3, a3, b3, _⟩ := rv_ok hz
      obtain ⟨v4, a4, b4, _⟩ := rv_ok hu
      refine ⟨.tuple #[v1, v2, v3, v4], by simp [a1, a2, a3, a4], #[v1, v2, v3, v4], rfl, rfl, fun k t u h1 h2 => ?_⟩
      rcases k with _ | _ | _ | _ | k <;> simp at h1 h2
      · subst h1; subst h2; exact b1
      · subst h1; subst h2; exact b2
      · subst h1; subst h2; exact b3
      · subst h1; subst h2; exact b4
    · cases h
  · cases h

/-- **A contract, from the body.** -/
theorem cok_of {P : Program} {f : Nat} {fn : Func} {code : Code} {rs : List ResultVar} {C : Con} {E : Env} (hf : P.funcs[f]? = some fn) (hb : fn.body = some code) (hrs : fn.results = ⟨rs⟩) (hnm : (fn.name == "runtime.NumGoroutine") = false)
    (hmix : P.follows .mixedOrders = true) (htab : TabOk P E.tab) (heqs : EqsOk P E) (hcon : ∀ g D, E.con g = some D → COk P g D) (hnt : E.nt = fn.ntmps)
    (h : ∀ M xs p Ms r, C.run M xs = some (p, Ms, r) → pOk p → M.length = E.nm ∧ xs.length ≤ E.nt ∧ awp E code ⟨slots 0 xs, ix 0 M⟩ fun e S => match e with
      | .exit _ => False
      | _ => RetQ E rs M Ms r S) : COk P f C := by
  refine ⟨⟨fn, hf, by rw [hb]; rfl, hnm⟩, ?_⟩
  intro w X M hs xs vs p Ms r hX H hlen hrel hrun hok
  obtain ⟨hM, hxs, hw⟩ := h M xs p Ms r hrun hok
  refine calls_of_wp hf hb ?_
  have hE : EOk ⟨P, w, M.length, hs, X, fn.ntmps⟩ E := ⟨htab, heqs, hcon, hM.symm, hnt, hmix⟩
  have HS : SRel ⟨P, w, M.length, hs, X, fn.ntmps⟩ ⟨slots 0 xs, ix 0 M⟩ { tmps := vs.toArray ++ Array.replicate (fn.ntmps - vs.toArray.size) undef, defers := [] } w := by
    refine ⟨⟨hs, ⟨H.obj, H.inj, hX, H.notX, fun o b ho => .inr ?_, fun o _ _ => rfl, fun _ _ _ => rfl, Nat.le_refl _, rfl, rfl, rfl⟩, fun t => ?_⟩, rfl, ?_⟩
    · rcases Nat.lt_or_ge o M.length with h' | h'
      · exact h'
      · unfold own at ho
        rw [getO_ix0, List.getD_eq_getElem?_getD, List.getElem?_eq_none h'] at ho
        cases ho
    · have := getT_slots xs 0 t
      rw [Nat.zero_add] at this
      show AR _ (getT (slots 0 xs) t) _
      rw [this]
      rcases Nat.lt_or_ge t xs.length with h' | h'
      · have hv : t < vs.length := by omega
        have h1 : xs[t]? = some (xs.getD t (.c .und)) := by rw [List.getD_eq_getElem?_getD, List.getElem?_eq_getElem h']; rfl
        have h2 : (vs.toArray ++ Array.replicate (fn.ntmps - vs.toArray.size) undef).getD t undef = vs[t] := by
          rw [Array.getD_eq_getD_getElem?, Array.getElem?_append_left (by simpa using hv)]
          simp [hv]
        rw [h2]
        exact hrel t _ _ h1 (List.getElem?_eq_getElem hv)
      · rw [List.getD_eq_getElem?_getD, List.getElem?_eq_none h']
        trivial
    · simp
      omega
  refine wp_mono ((aw_of hw).out _ hE _ _ HS) ?_
  intro e a w' hg
  have fin : ∀ S, SRel ⟨P, w, M.length, hs, X, fn.ntmps⟩ S a w' → RetQ E rs M Ms r S → a.defers = [] ∧ ∃ v, (results fn a.tmps).run P w' = .ok v w' ∧ (∃ (cv : Value) (ρ' : Nat → Value), Ending.returned v = .returned cv ∧ M.length ≤ Ms.length ∧
      (∀ j, j < M.length → ρ' j = hs j ∧ Cmp (M.getD j .gone) (Ms.getD j .gone)) ∧ HR w' X (ix 0 Ms) ρ' ∧
      (∀ j b, M.length ≤ j → own (ix 0 Ms) ρ' j = some b → w.heap.size ≤ b) ∧
      (∀ b, b < w.heap.size → (∀ j, own (ix 0 M) hs j ≠ some b) → w'.heap[b]? = w.heap[b]?) ∧
      w.heap.size ≤ w'.heap.size ∧ w'.os = w.os ∧ w'.tape = w.tape ∧ w'.output = w.output ∧ AR (CellR w' X (ix 0 Ms) ρ') r cv) := by
    intro S hS hq
    unfold RetQ at hq
    split at hq
    · exact hq.elim
    · rename_i r' hr'
      unfold RetR at hq
      simp only [boolP_iff] at hq
      obtain ⟨hd, hp, hkp, hcmp, hwa, hwo⟩ := hq
      obtain ⟨hml, hcm⟩ := cmpOk_get hcmp
      have hSr := hS
      obtain ⟨⟨ρ, HH, hT⟩, h1, h2⟩ := hS
      obtain ⟨v, hv, hr⟩ := resF_ok hE hSr HH hT hrs hr'
      obtain ⟨hc, HR'⟩ := wk_ok HH hd hwo
      have hp := parOk_mem hp
      refine ⟨h1, v, hv, v, rho' _ S.objs ρ, rfl, hml, fun j hj => ⟨?_, (hcm j hj).1⟩, HR', fun j b hj hob => ?_, fun b hb hn => ?_, HH.size, HH.os, HH.tape, HH.output, wkA_ok hc (fun _ => trivial) hr hwa⟩
      · have how : owny (getO (ix 0 Ms) j).2 := by rw [getO_ix0]; exact (hcm j hj).2.2
        obtain ⟨a1, a2⟩ := wk_owny hwo hkp (j := j) (by omega) how
        rw [rho_kept a2]
        have hid := (hp j _ (ix_mem (by omega : j < Ms.length))).1 (by omega)
        rw [hid] at a1 ⊢
        exact HH.par j hj a1
      · obtain ⟨a1, a2, a3⟩ := wk_own hwo hob
        rcases HH.fresh _ b a1 with h | h
        · exact h
        · exact absurd (by rw [← hM]; exact h) ((hp j _ a3).2 (by omega))
      · refine HH.frame b hb fun j hj e => hn j ?_
        have how := (hcm j hj).2.1
        unfold own
        rw [getO_ix0]
        revert how
        cases M.getD j .gone <;> intro how <;> first | exact e | exact how.elim
  cases e with
  | normal => obtain ⟨S, hS, hq⟩ := hg; obtain ⟨h1, v, h2, h3⟩ := fin S hS hq; exact ⟨h1, v, h2, h3⟩
  | ret => obtain ⟨S, hS, hq⟩ := hg; obtain ⟨h1, v, h2, h3⟩ := fin S hS hq; exact ⟨h1, v, h2, h3⟩
  | exit id => obtain ⟨S, hS, hq⟩ := hg; exact hq.elim
  | goto l => exact hg.elim
  | panic ch => exact hg.elim
  | outgrown => exact hg.elim

end
end GV

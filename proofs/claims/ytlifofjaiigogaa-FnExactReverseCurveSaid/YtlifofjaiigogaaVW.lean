/-
  Code: regions, ways, loops. No condition beyond those named.
-/
import Derived.Test.YtlifofjaiigogaaVX
namespace GV
open Go
set_option linter.unusedSimpArgs false
set_option linter.unusedVariables false

theorem leastOf {p : Nat → Prop} (h : ∃ n, p n) : ∃ n, p n ∧ ∀ m, p m → n ≤ m := by
  obtain ⟨n, hn⟩ := h
  induction n using Nat.strongRecOn with
  | _ n ih =>
    by_cases hx : ∃ m, m < n ∧ p m
    · obtain ⟨m, h1, h2⟩ := hx; exact ih m h1 h2
    · exact ⟨n, hn, fun m hm => Nat.le_of_not_lt fun h => hx ⟨m, h, hm⟩⟩

/-- the least number of a kind -/
noncomputable def sInf' (p : Nat → Prop) : Nat := by
  classical exact if h : ∃ n, p n then Classical.choose (leastOf h) else 0

theorem sInf'_mem {p : Nat → Prop} (h : ∃ n, p n) : p (sInf' p) := by
  unfold sInf'; rw [dif_pos h]; exact (Classical.choose_spec (leastOf h)).1

theorem sInf'_le {p : Nat → Prop} {n : Nat} (h : p n) : sInf' p ≤ n := by
  unfold sInf'; rw [dif_pos ⟨n, h⟩]; exact (Classical.choose_spec (leastOf ⟨n, h⟩)).2 n h

/-! ### code -/

def Good (c : Ctx) (Q : Ex → St → Prop) : Exit → Act → World → Prop
  | .normal, a, w => ∃ S, SRel c S a w ∧ Q .normal S
  | .exit id, a, w => ∃ S, SRel c S a w ∧ Q (.exit id) S
  | .ret, a, w => ∃ S, SRel c S a w ∧ Q .ret S
  | _, _, _ => False

/-- What the code comes to in the model. -/
structure AW (E : Env) (code : Code) (S : St) (Q : Ex → St → Prop) : Prop where
  out : ∀ c, EOk c E → ∀ a w, SRel c S a w → code.wp c.P (Good c Q) a w

def isCut (E : Env) : Code → Bool
  | .cond (.tmp t) _ _ => E.cuts.contains t
  | .block id _ => E.cuts.contains (1000 + id)
  | _ => false

abbrev WP := St → (Ex → St → Prop) → Prop

def awpRegion (E : Env) (ops : List Oper) (S : St) (Q : Ex → St → Prop) : Bool → Prop
  | false => runK E ops ops S (Q .normal)
  | true => statOk ops = true ∧ runD E ops ops [] [] S (Q .normal)

def awpSeq (E : Env) (a b : Code) (ia ib : WP) (S : St) (Q : Ex → St → Prop) : Prop := match isCut E a with
  | true => AW E (.seq a b) S Q
  | false => ia S fun e S' => match e with
    | .normal => ib S' Q
    | .exit id => Q (.exit id) S'
    | .ret => Q .ret S'

def awpBlock (id : Nat) (ix : WP) (S : St) (Q : Ex → St → Prop) : Prop := ix S fun e S' => match e with
  | .exit id' => match Nat.beq id' id with | true => Q .normal S' | false => Q (.exit id') S'
  | .normal => Q .normal S'
  | .ret => Q .ret S'

def awpCond (c : Operand) (ix iy : WP) : WP
  | ⟨T, O⟩, Q => match evO T c with
    | .c (.bool true b) => match b with
      | true => ix ⟨T, O⟩ Q
      | false => iy ⟨T, O⟩ Q
    | .c (.bool false b) => match c with
      | .tmp t => (b = true → setTK T t (.c (.bool true true)) fun T => ix ⟨T, O⟩ Q) ∧ (b = false → setTK T t (.c (.bool true false)) fun T => iy ⟨T, O⟩ Q)
      | _ => (b = true → ix ⟨T, O⟩ Q) ∧ (b = false → iy ⟨T, O⟩ Q)
    | _ => False

/-- (by the recursor itself: the kernel and whnf then come to one and the same form) -/
noncomputable def awp (E : Env) (code : Code) : WP :=
  @Code.rec (fun _ => WP) (fun S Q => Q .normal S) (fun _ ops d S Q => awpRegion E ops.toList S Q d) (fun a b ia ib S Q => awpSeq E a b ia ib S Q) (fun c _ _ ix iy S Q => awpCond c ix iy S Q)
    (fun id _ ix S Q => awpBlock id ix S Q) (fun x _ S Q => AW E (.loop x) S Q) (fun _ _ _ _ _ _ _ _ => False) (fun id S Q => Q (.exit id) S) (fun _ _ _ _ => False) (fun _ S Q => Q .normal S) (fun _ _ _ => False)
    (fun S Q => Q .ret S) (fun _ _ _ => False) code

section
variable {E : Env}

theorem AW.mono {code : Code} {S : St} {Q Q' : Ex → St → Prop} (h : AW E code S Q) (hq : ∀ e S', Q e S' → Q' e S') : AW E code S Q' := by
  refine ⟨fun c hE a w hS => ?_⟩
  refine wp_mono (h.out c hE a w hS) ?_
  intro e a' w' hg
  cases e <;> simp only [Good] at hg ⊢ <;> first | exact hg | (obtain ⟨S', h1, h2⟩ := hg; exact ⟨S', h1, hq _ _ h2⟩)

theorem aw_seq {a b : Code} {S : St} {Q : Ex → St → Prop} (h : AW E a S fun e S' => match e with
      | .normal => AW E b S' Q
      | .exit id => Q (.exit id) S'
      | .ret => Q .ret S') : AW E (.seq a b) S Q := by
  refine ⟨fun c hE act w hS => ?_⟩
  refine wp_seq (wp_mono (h.out c hE act w hS) ?_)
  intro e a' w' hg
  cases e with
  | normal => obtain ⟨S', h1, h2⟩ := hg; exact h2.out c hE a' w' h1
  | exit id => exact hg
  | ret => exact hg
  | goto l => exact hg
  | panic ch => exact hg
  | outgrown => exact hg

theorem aw_of : ∀ {code : Code} {S : St} {Q : Ex → St → Prop}, awp E code S Q → AW E code S Q := by
  intro code
  induction code with
  | skip => intro S Q h; refine ⟨fun c hE a w hS => ?_⟩; exact wp_skip ⟨S, hS, h⟩
  | label l => intro S Q h; refine ⟨fun c hE a w hS => ?_⟩; exact wp_label ⟨S, hS, h⟩
  | ret => intro S Q h; refine ⟨fun c hE a w hS => ?_⟩; exact wp_ret ⟨S, hS, h⟩
  | exit id => intro S Q h; refine ⟨fun c hE a w hS => ?_⟩; exact wp_exit ⟨S, hS, h⟩
  | region id ops d =>
    intro S Q h
    refine ⟨fun c hE a w hS => ?_⟩
    obtain ⟨l⟩ := ops
    cases d with
    | false =>
      refine wp_region ?_
      have := runK_ok (Q := Good c Q) hE l 0 (ops := ⟨l⟩) (by simp) hS (show runK E l l S (Q .normal) from h) (fun S' a' w' h1 h2 => ⟨S', h1, h2⟩)
      rw [List.range_eq_range']
      exact this
    | true => exact drawn_ok hE hE.mix hS (show statOk l = true ∧ runD E l l [] [] S (Q .normal) from h).1 (show statOk l = true ∧ runD E l l [] [] S (Q .normal) from h).2 fun S' a' w' h1 h2 => ⟨S', h1, h2⟩
  | seq x y ihx ihy =>
    intro S Q h
    replace h : awpSeq E x y (awp E x) (awp E y) S Q := h
    unfold awpSeq at h
    split at h
    · exact h
    · refine aw_seq ((ihx h).mono ?_)
      intro e S' h'
      cases e with
      | normal => exact ihy h'
      | exit id => exact h'
      | ret => exact h'
  | cond cc x y ihx ihy =>
    intro S Q h
    refine ⟨fun c hE a w hS => ?_⟩
    obtain ⟨T0, O0⟩ := S
    have hev : ∀ {l b : Bool}, evO T0 cc = .c (.bool l b) → a.eval cc = .bool b := by
      intro l b e
      obtain ⟨⟨ρ, H, hT⟩, _, _⟩ := hS
      have := evO_rel (c := c) hT cc
      rw [e] at this
      exact this
    replace h : awpCond cc (awp E x) (awp E y) ⟨T0, O0⟩ Q := h
    unfold awpCond at h
    simp only at h
    split at h
    · rename_i b e
      split at h
      · exact wp_cond (t := true) (hev e) ((ihx h).out c hE a w hS)
      · exact wp_cond (t := false) (hev e) ((ihy h).out c hE a w hS)
    · rename_i b e
      split at h
      · rename_i t
        have hset : ∀ l', SRel c ⟨setT T0 t (.c (.bool l' b)), O0⟩ a w := fun l' => set_same hS e
        simp only [setTK_eq] at h
        cases b with
        | true => exact wp_cond (t := true) (hev e) ((ihx (h.1 rfl)).out c hE a w (hset true))
        | false => exact wp_cond (t := false) (hev e) ((ihy (h.2 rfl)).out c hE a w (hset true))
      · cases b with
        | true => exact wp_cond (t := true) (hev e) ((ihx (h.1 rfl)).out c hE a w hS)
        | false => exact wp_cond (t := false) (hev e) ((ihy (h.2 rfl)).out c hE a w hS)
    · exact h.elim
  | block id x ih =>
    intro S Q h
    replace h : awpBlock id (awp E x) S Q := h
    unfold awpBlock at h
    refine ⟨fun c hE a w hS => ?_⟩
    refine wp_block (wp_mono ((ih h).out c hE a w hS) ?_)
    intro e a' w' hg
    cases e with
    | normal => exact hg
    | exit id' =>
      obtain ⟨S', h1, h2⟩ := hg
      simp only [Exit.inBlock]
      simp only at h2
      split at h2
      · rename_i hb
        rw [if_pos (Nat.eq_of_beq_eq_true hb)]
        exact ⟨S', h1, h2⟩
      · rename_i hb
        rw [if_neg (fun e => by subst e; simp at hb)]
        exact ⟨S', h1, h2⟩
    | ret => exact hg
    | goto l => exact hg
    | panic ch => exact hg
    | outgrown => exact hg
  | loop x ih => intro S Q h; exact h
  | rangeFunc => intro S Q h; exact h.elim
  | scope x ih => intro S Q h; exact h.elim
  | goto l => intro S Q h; exact h.elim
  | refuse s => intro S Q h; exact h.elim

/-- A loop, by a shape of its state, an invariant and a measure. -/
theorem aw_loopA {τ : Type} (mk : τ → St) (Inv : τ → Prop) (μ : τ → Nat) {x : Code} {S : St} {Q : Ex → St → Prop} (x0 : τ) (h0 : Wk E.nm S (mk x0)) (hI : Inv x0)
    (h : ∀ t, Inv t → AW E x (mk t) fun e S' => match e with
      | .normal => ∃ t', μ t' < μ t ∧ Inv t' ∧ Wk E.nm S' (mk t')
      | .exit id => Q (.exit id) S'
      | .ret => Q .ret S') : AW E (.loop x) S Q := by
  refine ⟨fun c hE a w hS => ?_⟩
  rw [hE.nm] at h0
  refine wp_loop (fun a w => ∃ t, Inv t ∧ SRel c (mk t) a w) (fun a w => sInf' (fun n => ∃ t, Inv t ∧ SRel c (mk t) a w ∧ μ t = n)) ⟨x0, hI, h0.rel hS⟩ ?_
  intro a w hex
  obtain ⟨t, ht, hr, hn⟩ := sInf'_mem (p := fun n => ∃ t, Inv t ∧ SRel c (mk t) a w ∧ μ t = n) (by obtain ⟨t, h1, h2⟩ := hex; exact ⟨μ t, t, h1, h2, rfl⟩)
  refine wp_mono ((h t ht).out c hE a w hr) ?_
  intro e a' w' hg
  cases e with
  | normal =>
    obtain ⟨S', h1, t', h2, h3, h4⟩ := hg
    rw [hE.nm] at h4
    refine ⟨⟨t', h3, h4.rel h1⟩, ?_⟩
    have := sInf'_le (p := fun n => ∃ t, Inv t ∧ SRel c (mk t) a' w' ∧ μ t = n) ⟨t', h3, h4.rel h1, rfl⟩
    show sInf' _ < sInf' _
    omega
  | exit id => exact hg
  | ret => exact hg
  | goto l => exact hg
  | panic ch => exact hg
  | outgrown => exact hg

/-- A loop, by a shape of its state, an invariant and a measure. -/
theorem aw_loop {τ : Type} (mk : τ → St) (Inv : τ → Prop) (μ : τ → Nat) {x : Code} {S : St} {Q : Ex → St → Prop} (x0 : τ) (h0 : Wk E.nm S (mk x0)) (hI : Inv x0)
    (h : ∀ t, Inv t → awp E x (mk t) fun e S' => match e with
      | .normal => ∃ t', μ t' < μ t ∧ Inv t' ∧ Wk E.nm S' (mk t')
      | .exit id => Q (.exit id) S'
      | .ret => Q .ret S') : AW E (.loop x) S Q :=
  aw_loopA mk Inv μ x0 h0 hI fun t ht => aw_of (h t ht)

/-- Ways that meet again. -/
theorem aw_cutA {τ : Type} (mk : τ → St) (Inv : τ → Prop) {x y : Code} {S : St} {Q : Ex → St → Prop} (h : AW E x S fun e S' => match e with
      | .normal => ∃ t, Inv t ∧ Wk E.nm S' (mk t)
      | .exit id => Q (.exit id) S'
      | .ret => Q .ret S') (h' : ∀ t, Inv t → AW E y (mk t) Q) : AW E (.seq x y) S Q := by
  refine aw_seq (h.mono ?_)
  intro e S' hS'
  cases e with
  | normal =>
    obtain ⟨t, h1, h2⟩ := hS'
    refine ⟨fun c hE a w hr => ?_⟩
    rw [hE.nm] at h2
    exact (h' t h1).out c hE a w (h2.rel hr)
  | exit id => exact hS'
  | ret => exact hS'

/-- Ways that meet again. -/
theorem aw_cut {τ : Type} (mk : τ → St) (Inv : τ → Prop) {x y : Code} {S : St} {Q : Ex → St → Prop} (h : awp E x S fun e S' => match e with
      | .normal => ∃ t, Inv t ∧ Wk E.nm S' (mk t)
      | .exit id => Q (.exit id) S'
      | .ret => Q .ret S') (h' : ∀ t, Inv t → awp E y (mk t) Q) : AW E (.seq x y) S Q :=
  aw_cutA mk Inv (aw_of h) fun t ht => aw_of (h' t ht)

end
end GV

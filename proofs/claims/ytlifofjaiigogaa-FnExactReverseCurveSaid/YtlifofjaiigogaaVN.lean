/-
  What a function's contract says, and how arguments reach a call. No condition beyond those named.
-/
import Derived.Test.YtlifofjaiigogaaVM
namespace GV
open Go
set_option linter.unusedSimpArgs false
set_option linter.unusedVariables false

structure HR (w : World) (X : Nat → Prop) (O : Objs) (ρ : Nat → Value) : Prop where
  obj : ∀ o, ObR w X O ρ (getO O o).2 (ρ o)
  inj : ∀ o o' b, own O ρ o = some b → own O ρ o' = some b → o = o'
  notX : ∀ o b, own O ρ o = some b → ¬ X b

theorem HRel.hr {c : Ctx} {w : World} {O : Objs} {ρ : Nat → Value} (H : HRel c w O ρ) : HR w c.X O ρ := ⟨H.obj, H.inj, H.notX⟩

def ix : Nat → List AObj → Objs
  | _, [] => []
  | n, x :: r => (n, 0, x) :: ix (n + 1) r

theorem getO_ix : ∀ (M : List AObj) (n j : Nat), getO (ix n M) (n + j) = (0, M.getD j .gone) := by
  intro M
  induction M with
  | nil => intro n j; simp [ix, getO]
  | cons x r ih =>
    intro n j
    cases j with
    | zero => simp [ix, getO]
    | succ j =>
      have hb : Nat.beq n (n + (j + 1)) = false := by
        cases e : Nat.beq n (n + (j + 1)) with
        | true => have := Nat.eq_of_beq_eq_true e; omega
        | false => rfl
      simp only [ix, getO, hb]
      rw [show n + (j + 1) = (n + 1) + j by omega, ih]
      simp

theorem getO_ix0 (M : List AObj) (j : Nat) : getO (ix 0 M) j = (0, M.getD j .gone) := by
  have := getO_ix M 0 j
  rwa [Nat.zero_add] at this

/-- The contract of a function. -/
def COk (P : Program) (f : Nat) (C : Con) : Prop :=
  (∃ fn, P.funcs[f]? = some fn ∧ fn.body.isNone = false ∧ (fn.name == "runtime.NumGoroutine") = false) ∧
  ∀ (w : World) (X : Nat → Prop) (M : List AObj) (hs : Nat → Value) (xs : List AV) (vs : List Value) (p : Option Prop) (Ms : List AObj) (r : AV),
    (∀ b, X b → b < w.heap.size) → HR w X (ix 0 M) hs → xs.length = vs.length →
    (∀ (k : Nat) (x : AV) (v : Value), xs[k]? = some x → vs[k]? = some v → AR (CellR w X (ix 0 M) hs) x v) →
    C.run M xs = some (p, Ms, r) → pOk p →
    Calls P f vs.toArray w fun e w' => ∃ (cv : Value) (ρ' : Nat → Value), e = .returned cv ∧ M.length ≤ Ms.length ∧
      (∀ j, j < M.length → ρ' j = hs j ∧ Cmp (M.getD j .gone) (Ms.getD j .gone)) ∧ HR w' X (ix 0 Ms) ρ' ∧
      (∀ j b, M.length ≤ j → own (ix 0 Ms) ρ' j = some b → w.heap.size ≤ b) ∧
      (∀ b, b < w.heap.size → (∀ j, own (ix 0 M) hs j ≠ some b) → w'.heap[b]? = w.heap[b]?) ∧
      w.heap.size ≤ w'.heap.size ∧ w'.os = w.os ∧ w'.tape = w.tape ∧ w'.output = w.output ∧ AR (CellR w' X (ix 0 Ms) ρ') r cv

section
variable {c : Ctx} {E : Env} {w w' : World} {O : Objs} {ρ : Nat → Value}

theorem pr_of_seq {w : World} {X : Nat → Prop} {O : Objs} {ρ : Nat → Value} {A : Nat → Prop} {g : GT} {xs : List g.den} {h : Value} (ho : ObR w X O ρ (.seq g xs) h)
    (hA : ∀ b, b < w.heap.size → A b → Av X O ρ b) (hn : ∀ b, blk h = some b → ¬ A b) : PR w A (.im g xs) h := by
  rcases ho with ⟨rfl, rfl⟩ | ⟨b, cap, ccs, t, rfl, hcap, hmx, hg, hsz, hr⟩
  · exact .none g none
  · have hlen : (flat g xs).length ≤ ccs.size := by rw [flat_length, hsz]; exact Nat.mul_le_mul_right _ hcap
    have := PR.im (w := w) (A := A) g xs b 0 cap (fun k => ccs.getD k undef) ⟨hcap, hmx⟩ (fun k hk => ⟨hn b rfl, by rw [Nat.zero_add, cell_row hg]; simp [Array.getD, (by omega : k < ccs.size)]⟩)
      (fun k cc hcc => by
        have hk : k < (flat g xs).length := (List.getElem?_eq_some_iff.1 hcc).1
        exact (hr k cc _ hcc (by simp [Array.getD, (by omega : k < ccs.size)])).mono (fun _ _ _ => rfl) hA)
    exact this

/-- the lists that are read through a cell, and the blocks that it points into -/
def srefC : Cell → List Nat
  | .sl o _ => [o]
  | _ => []

def srefCs : List Cell → List Nat
  | [] => []
  | c :: r => srefC c ++ srefCs r

def sref (ho : HO) : Cell → List Nat
  | .sl o _ => [o]
  | .ptr o v _ => match cur ho o v with
    | .box _ cs => srefCs cs
    | _ => []
  | _ => []

def pref : Cell → List Nat
  | .ptr o _ _ => [o]
  | .eptr o _ _ _ => [o]
  | _ => []

theorem mem_srefCs {cs : List Cell} {x : Cell} (hx : x ∈ cs) : ∀ o ∈ srefC x, o ∈ srefCs cs := by
  induction cs with
  | nil => cases hx
  | cons a r ih =>
    intro o ho
    simp only [srefCs, List.mem_append]
    rcases List.mem_cons.1 hx with rfl | hx
    · exact .inl ho
    · exact .inr (ih hx o ho)

theorem snapC_pr (H : HRel c w O ρ) {A : Nat → Prop} (hA : ∀ b, b < w.heap.size → A b → Av c.X O ρ b) {x y : Cell} {us : Ups} (h : snapC (getO O) x = some (y, us)) {u : Value} (hx : CellR w c.X O ρ x u)
    (hs : ∀ o ∈ srefC x, ∀ b, own O ρ o = some b → ¬ A b) : SnR w A y u := by
  have hm : ∀ {c' : Cell} {v' : Value}, PR w (Av c.X O ρ) c' v' → PR w A c' v' := fun h => h.mono (fun _ _ _ => rfl) hA
  cases x with
  | sl o v =>
    simp only [snapC] at h
    split at h
    · rename_i g xs hcur
      simp only [Option.some.injEq, Prod.mk.injEq] at h
      obtain ⟨rfl, rfl⟩ := h
      have ho := cur_eq hcur (by simp)
      obtain rfl : u = ρ o := sl_val H hx ho
      have hob := H.obj o
      rw [ho] at hob
      exact .inr (pr_of_seq hob hA fun b hb => hs o (by simp [srefC]) b (by unfold own; rw [ho]; exact hb))
    · rename_i g xs hcur
      simp only [Option.some.injEq, Prod.mk.injEq] at h
      obtain ⟨rfl, rfl⟩ := h
      have ho := cur_eq hcur (by simp)
      obtain ⟨_, hx⟩ := hx
      have hx := hx (by rw [ho])
      rw [ho] at hx
      have hx : u = ρ o := hx
      subst hx
      have := H.obj o
      rw [ho] at this
      exact .inr (hm this)
    · cases h
  | int k n => simp only [snapC, Option.some.injEq, Prod.mk.injEq] at h; obtain ⟨rfl, rfl⟩ := h; obtain rfl : u = .int k n := hx; exact .inr (.int _ _)
  | bool l b => simp only [snapC, Option.some.injEq, Prod.mk.injEq] at h; obtain ⟨rfl, rfl⟩ := h; obtain rfl : u = .bool b := hx; exact .inr (.bool _ _)
  | str s => simp only [snapC, Option.some.injEq, Prod.mk.injEq] at h; obtain ⟨rfl, rfl⟩ := h; obtain rfl : u = .string ⟨⟨s⟩⟩ := hx; exact .inr (.str _)
  | nil => simp only [snapC, Option.some.injEq, Prod.mk.injEq] at h; obtain ⟨rfl, rfl⟩ := h; exact .inl ⟨rfl, hx⟩
  | im g xs => simp only [snapC, Option.some.injEq, Prod.mk.injEq] at h; obtain ⟨rfl, rfl⟩ := h; exact .inr (hm hx)
  | _ => simp [snapC] at h

theorem snapCs_pr (H : HRel c w O ρ) {A : Nat → Prop} (hA : ∀ b, b < w.heap.size → A b → Av c.X O ρ b) {cs ds : List Cell} {us : Ups} (h : snapCs (getO O) cs = some (ds, us)) {vs : List Value} (hx : CsR (CellR w c.X O ρ) cs vs)
    (hs : ∀ o ∈ srefCs cs, ∀ b, own O ρ o = some b → ¬ A b) : CsR (SnR w A) ds vs := by
  induction cs generalizing ds us vs with
  | nil => simp only [snapCs, Option.some.injEq, Prod.mk.injEq] at h; obtain ⟨rfl, rfl⟩ := h; exact ⟨hx.1, fun k c v h => by simp at h⟩
  | cons a r ih =>
    unfold snapCs at h
    split at h
    · rename_i y us1 h1
      split at h
      · rename_i r' us2 h2
        simp only [Option.some.injEq, Prod.mk.injEq] at h
        obtain ⟨rfl, rfl⟩ := h
        cases vs with
        | nil => have := hx.1; simp at this
        | cons v vs =>
          have i := ih h2 (vs := vs) ⟨by have := hx.1; simpa using this, fun k cc u h1 h2 => hx.2 (k + 1) cc u (by simpa using h1) (by simpa using h2)⟩
            (fun o ho => hs o (by simp only [srefCs, List.mem_append]; exact .inr ho))
          refine ⟨by simp [i.1], fun k cc u hc hu => ?_⟩
          cases k with
          | zero =>
            simp at hc hu
            subst hc; subst hu
            exact snapC_pr H hA h1 (hx.2 0 a v rfl rfl) (fun o ho => hs o (by simp only [srefCs, List.mem_append]; exact .inl ho))
          | succ k => simp at hc hu; exact i.2 k cc u hc hu
      · cases h
    · cases h

/-- An argument's cell as the callee sees it. -/
theorem readC_ok (H : HRel c w O ρ) {X : Nat → Prop} {O' : Objs} {ρ' : Nat → Value} (hA : ∀ b, b < w.heap.size → Av X O' ρ' b → Av c.X O ρ b) (hO : ∀ b, b < w.heap.size → Owned O' ρ' b → Owned O ρ b)
    {x y : Cell} (h : readC E (getO O) x = some y) {v : Value} (hx : CellR w c.X O ρ x v) (hs : ∀ o ∈ sref (getO O) x, ∀ b, own O ρ o = some b → ¬ Av X O' ρ' b)
    (hp : ∀ o ∈ pref x, ∀ b, own O ρ o = some b → ¬ Owned O' ρ' b) : CellR w X O' ρ' y v := by
  have hm : ∀ {c' : Cell} {v' : Value}, PR w (Av c.X O ρ) c' v' → PR w (Av X O' ρ') c' v' := fun h => h.mono (fun _ _ _ => rfl) hA
  cases x with
  | int k n => simp only [readC, Option.some.injEq] at h; subst h; exact hx
  | bool l b => simp only [readC, Option.some.injEq] at h; subst h; exact hx
  | str s => simp only [readC, Option.some.injEq] at h; subst h; exact hx
  | nil => simp only [readC, Option.some.injEq] at h; subst h; exact hx
  | im g xs => simp only [readC, Option.some.injEq] at h; subst h; exact hm hx
  | fn f => simp only [readC, Option.some.injEq] at h; subst h; exact hx
  | vptr g x off =>
    simp only [readC, Option.some.injEq] at h; subst h
    obtain ⟨b, p, f, hv, ho, hc, hr⟩ := hx
    have hlt : b < w.heap.size := World.block_lt_of_cell? _ _ (hc 0 (gsize_pos g))
    exact ⟨b, p, f, hv, fun h => ho (hO b hlt h), hc, fun k cc hk => hm (hr k cc hk)⟩
  | sl o ver =>
    simp only [readC] at h
    split at h
    · rename_i g xs hcur
      simp only [Option.some.injEq] at h; subst h
      have ho := cur_eq hcur (by simp)
      obtain rfl : v = ρ o := sl_val H hx ho
      have hob := H.obj o
      rw [ho] at hob
      exact pr_of_seq hob hA fun b hb => hs o (by simp [sref]) b (by unfold own; rw [ho]; exact hb)
    · rename_i g xs hcur
      simp only [Option.some.injEq] at h; subst h
      have ho := cur_eq hcur (by simp)
      obtain ⟨_, hx⟩ := hx
      have hx := hx (by rw [ho])
      rw [ho] at hx
      have hx : v = ρ o := hx
      subst hx
      have := H.obj o
      rw [ho] at this
      exact hm this
    · cases h
  | ptr o ver off =>
    simp only [readC] at h
    split at h
    · rename_i bt cs hcur
      split at h
      · rename_i g hg
        split at h
        · rename_i ds us hsn
          split at h
          · rename_i z hdec
            simp only [Option.some.injEq] at h; subst h
            have ho := cur_eq hcur (by simp)
            obtain ⟨_, hx⟩ := hx
            have hx := hx (by rw [ho])
            rw [ho] at hx
            obtain ⟨b, hρ, rfl⟩ := hx
            have hob := H.obj o
            rw [ho] at hob
            obtain ⟨b', ccs, t', e, hgb, hr⟩ := hob
            rw [hρ] at e
            cases e
            have hown : own O ρ o = some b := by unfold own; rw [ho, hρ]; rfl
            have hsr : srefCs cs = sref (getO O) (.ptr o ver off) := by simp only [sref, hcur]
            have hsn' := snapCs_pr H hA hsn hr (by rw [hsr]; exact hs)
            obtain ⟨d1, d2⟩ := dec_pr hdec trivial hsn'
            have hsz : ccs.size = gsize g := by rw [← Array.length_toList]; exact d1
            refine ⟨b, 0, fun k => ccs.getD k undef, by simp, hp o (by simp [pref]) b hown, fun k hk => ?_, fun k cc hk => ?_⟩
            · rw [Nat.zero_add, cell_row hgb]; simp [Array.getD, (by omega : k < ccs.size)]
            · have hk' : k < gsize g := by rw [← enc_length g z]; exact (List.getElem?_eq_some_iff.1 hk).1
              exact d2 k cc _ hk (by rw [Array.getElem?_toList]; simp [Array.getD, (by omega : k < ccs.size)])
          · cases h
        · cases h
      · cases h
    · cases h
  | eptr o ver i off =>
    simp only [readC] at h
    split at h
    · rename_i g xs hcur
      simp only [Option.some.injEq] at h; subst h
      have ho := cur_eq hcur (by simp)
      obtain ⟨_, hx⟩ := hx
      have hx := hx (by rw [ho])
      rw [ho] at hx
      obtain ⟨b, n, cap, hρ, h0, h1, rfl⟩ := hx
      have hob := H.obj o
      rw [ho] at hob
      have hown : own O ρ o = some b := by unfold own; rw [ho, hρ]; rfl
      obtain ⟨f, hc, hr⟩ := seq_elem hob hρ h0 h1
      exact ⟨b, i.toNat * gsize g, f, rfl, hp o (by simp [pref]) b hown, hc, fun k cc hk => hm (hr k cc hk)⟩
    · cases h
  | _ => simp [readC] at h

theorem nrm_ok {t : Nat} {cs ds : List Cell} (h : nrm E t cs = some ds) : cs.length = ds.length ∧ ∀ (k : Nat) (x y : Cell), cs[k]? = some x → ds[k]? = some y → Le x y := by
  have hrefl : ∀ (cs : List Cell), cs.length = cs.length ∧ ∀ (k : Nat) (x y : Cell), cs[k]? = some x → cs[k]? = some y → Le x y := fun cs =>
    ⟨rfl, fun k x y h1 h2 => by rw [h1] at h2; cases h2; exact .refl _⟩
  unfold nrm at h
  split at h
  · split at h
    · split at h
      · cases h
        refine ⟨rfl, fun k x y h1 h2 => ?_⟩
        cases k with
        | zero => simp at h1 h2; subst h1; subst h2; exact .nil _
        | succ k => simp at h1
      · cases h
    · cases h; exact hrefl _
  · split at h
    · rename_i hdec
      cases h
      exact (dec_le hdec trivial).get
    · cases h
  · cases h; exact hrefl _

theorem readCs_length {ho : HO} {cs ds : List Cell} (h : readCs E ho cs = some ds) : cs.length = ds.length ∧ ∀ (k : Nat) (x y : Cell), cs[k]? = some x → ds[k]? = some y → readC E ho x = some y := by
  induction cs generalizing ds with
  | nil => simp only [readCs, Option.some.injEq] at h; subst h; exact ⟨rfl, fun k x y h => by simp at h⟩
  | cons a r ih =>
    unfold readCs at h
    split at h
    · rename_i y hy
      split at h
      · rename_i r' hr
        cases h
        obtain ⟨i1, i2⟩ := ih hr
        refine ⟨by simp [i1], fun k x z h1 h2 => ?_⟩
        cases k with
        | zero => simp at h1 h2; subst h1; subst h2; exact hy
        | succ k => simp at h1 h2; exact i2 k x z h1 h2
      · cases h
    · cases h

def srefA (ho : HO) : AV → List Nat
  | .c x => sref ho x
  | .agg cs => cs.flatMap (sref ho)
  | .tup _ => []

def prefA : AV → List Nat
  | .c x => pref x
  | .agg cs => cs.flatMap pref
  | .tup _ => []

theorem readA_ok (H : HRel c w O ρ) {X : Nat → Prop} {O' : Objs} {ρ' : Nat → Value} (hA : ∀ b, b < w.heap.size → Av X O' ρ' b → Av c.X O ρ b) (hO : ∀ b, b < w.heap.size → Owned O' ρ' b → Owned O ρ b)
    {t : Nat} {x y : AV} (h : readA E (getO O) t x = some y) {v : Value} (hx : AR (CellR w c.X O ρ) x v) (hs : ∀ o ∈ srefA (getO O) x, ∀ b, own O ρ o = some b → ¬ Av X O' ρ' b)
    (hp : ∀ o ∈ prefA x, ∀ b, own O ρ o = some b → ¬ Owned O' ρ' b) : AR (CellR w X O' ρ') y v := by
  unfold readA at h
  split at h
  · rename_i z
    split at h
    · rename_i z' hz
      split at h
      · rename_i z'' hn
        cases h
        exact ((nrm_ok hn).2 0 _ _ rfl rfl).cell (readC_ok H hA hO hz hx hs hp)
      · cases h
    · cases h
  · rename_i cs
    split at h
    · rename_i ds hds
      split at h
      · rename_i es hn
        cases h
        obtain ⟨vs, rfl, hr⟩ := hx
        obtain ⟨r1, r2⟩ := readCs_length hds
        obtain ⟨n1, n2⟩ := nrm_ok hn
        refine ⟨vs, rfl, by rw [← n1, ← r1, hr.1], fun k cc u hc hu => ?_⟩
        have hk1 : k < ds.length := by rw [n1]; exact (List.getElem?_eq_some_iff.1 hc).1
        have hk2 : k < cs.length := by rw [r1]; exact hk1
        have hmem : cs[k] ∈ cs := List.getElem_mem ..
        exact (n2 k _ _ (List.getElem?_eq_getElem hk1) hc).cell (readC_ok H hA hO (r2 k _ _ (List.getElem?_eq_getElem hk2) (List.getElem?_eq_getElem hk1)) (hr.2 k _ u (List.getElem?_eq_getElem hk2) hu)
          (fun o ho => hs o (List.mem_flatMap.2 ⟨_, hmem, ho⟩)) (fun o ho => hp o (List.mem_flatMap.2 ⟨_, hmem, ho⟩)))
      · cases h
    · cases h
  · cases h

end
end GV

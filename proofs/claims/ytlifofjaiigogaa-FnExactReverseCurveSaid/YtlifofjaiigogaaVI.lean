/-
  The other operations on values and memory in the model. No condition beyond those named.
-/
import Derived.Test.YtlifofjaiigogaaVH
import Derived.Laws.MakeOwn
import Derived.Laws.BytesString
import Derived.IntWalk
namespace GV
open Go
set_option linter.unusedSimpArgs false
set_option linter.unusedVariables false

section
variable {c : Ctx} {E : Env} {w w' : World} {O : Objs} {ρ : Nat → Value}

/-! ### filling -/

theorem foldl_put (v : List Value) : ∀ (cs : Array Value) (off : Nat), off + v.length ≤ cs.size →
    (v.zipIdx.foldl (fun (cs : Array Value) (x : Value × Nat) => cs.setIfInBounds (off + x.2) x.1) cs) = put cs off v := by
  have key : ∀ (v : List Value) (n : Nat) (cs : Array Value) (off : Nat), off + n + v.length ≤ cs.size →
      ((v.zipIdx n).foldl (fun (cs : Array Value) (x : Value × Nat) => cs.setIfInBounds (off + x.2) x.1) cs) = put cs (off + n) v := by
    intro v
    induction v with
    | nil =>
      intro n cs off h
      apply Array.ext'
      simp [put]
    | cons a r ih =>
      intro n cs off h
      simp only [List.zipIdx_cons, List.foldl_cons]
      rw [ih (n + 1) _ off (by simp at h ⊢; omega)]
      apply Array.ext_getElem?
      intro k
      rw [put_get (by simp at h ⊢; omega), put_get (by simp at h ⊢; omega)]
      simp only [List.length_cons, Array.getElem?_setIfInBounds]
      by_cases h1 : off + n = k
      · subst h1
        rw [if_neg (by omega), if_pos rfl, if_pos (by simp at h; omega), if_pos (by omega)]
        simp
      · by_cases h2 : off + n ≤ k ∧ k < off + n + (r.length + 1)
        · rw [if_pos (by omega), if_pos h2, show k - (off + n) = (k - (off + (n + 1))) + 1 by omega, List.getElem?_cons_succ]
        · rw [if_neg (by omega), if_neg h2, if_neg h1]
  intro cs off h
  exact key v 0 cs off (by simpa using h)

/-- Parts that are laid one behind the other. -/
theorem fill_ok (place : Nat → Option (Nat × Nat)) : ∀ (parts : List (Nat × Value)) (cells : Array Value) (plan : List (Nat × List Value)),
    parts.length = plan.length → (∀ (k : Nat) (i : Nat) (v : Value) (o : Nat) (vs : List Value), parts[k]? = some (i, v) → plan[k]? = some (o, vs) → place i = some (o, vs.length) ∧ v.cells.toList = vs ∧ o + vs.length ≤ cells.size) →
    Instr.fill place cells parts = some (plan.foldl (fun cs p => put cs p.1 p.2) cells) := by
  intro parts
  induction parts with
  | nil => intro cells plan h _; cases plan with | nil => rfl | cons _ _ => simp at h
  | cons a r ih =>
    intro cells plan h hp
    cases plan with
    | nil => simp at h
    | cons b s =>
      obtain ⟨i, v⟩ := a
      obtain ⟨o, vs⟩ := b
      obtain ⟨h1, h2, h3⟩ := hp 0 i v o vs rfl rfl
      have h4 : v.cells.size = vs.length := by rw [← h2]; simp
      simp only [Instr.fill, h1, h4]
      rw [if_neg (by simp; omega)]
      have hz : v.cells.zipIdx.foldl (fun cs (x : Value × Nat) => cs.setIfInBounds (o + x.2) x.1) cells = put cells o vs := by
        rw [← foldl_put vs cells o h3, ← h2]
        rw [← Array.foldl_toList]
        simp
      rw [hz]
      simp only [List.foldl_cons]
      refine ih _ _ (by simpa using h) (fun k i' v' o' vs' ha hb => ?_)
      obtain ⟨g1, g2, g3⟩ := hp (k + 1) i' v' o' vs' (by simpa using ha) (by simpa using hb)
      exact ⟨g1, g2, by rw [put_size h3]; exact g3⟩

/-! ### plain parts of values -/

theorem part_ok {P : Program} {w : World} {t : Nat} {ti : TI} (ht : TIok P t ti) {R : Cell → Value → Prop} {cs : List Cell} {vs : Array Value} (hr : CsR R cs vs.toList) {off : Nat} (hb : off + ti.size ≤ cs.length) :
    ∃ cv, (part t vs off).run P w = .ok cv w ∧ AR R (asV ti.agg (subC cs off ti.size)) cv := by
  have hl : cs.length = vs.size := by simpa using hr.1
  cases ha : ti.agg with
  | true =>
    refine ⟨.agg (vs.extract off (off + ti.size)), by simp [part, ht.isAgg, ha, ht.sizeOf], vs.extract off (off + ti.size), rfl, ?_⟩
    refine ⟨by rw [subC_length _ _ _ hb]; simp; omega, fun k cc u h1 h2 => ?_⟩
    have hk : k < ti.size := by
      have := (List.getElem?_eq_some_iff.1 h1).1
      rwa [subC_length _ _ _ hb] at this
    rw [subC_get _ _ _ _ hk] at h1
    refine hr.2 (off + k) cc u h1 ?_
    rw [Array.getElem?_toList] at h2 ⊢
    rw [Array.getElem?_extract] at h2
    split at h2
    · exact h2
    · cases h2
  | false =>
    have h1 := ht.one ha
    rw [h1] at hb ⊢
    obtain ⟨x, hx⟩ : ∃ x, subC cs off 1 = [x] := by
      have := subC_length cs off 1 hb
      match h : subC cs off 1, this with
      | [x], _ => exact ⟨x, rfl⟩
    rw [hx]
    have hget := subC_get cs off 1 0 (by omega)
    rw [hx] at hget
    simp only [List.getElem?_cons_zero, Nat.add_zero] at hget
    have hlt : off < vs.size := by omega
    refine ⟨vs[off], by simp [part, ht.isAgg, ha, hlt], ?_⟩
    exact hr.2 off x _ hget.symm (by rw [Array.getElem?_toList]; simp [hlt])

/-! ### indices and cuts -/

theorem fits_ok {te : TI} {g : GT} (h : fits te g = true) : te.size = gsize g := Nat.eq_of_beq_eq_true h

theorem pr_slice {w : World} {A : Nat → Prop} {g : GT} {xs : List g.den} {v : Value} (h : PR w A (.im g xs) v) : ∃ a n m, v = .slice a n m := by
  generalize hc : Cell.im g xs = cc at h
  cases h <;> first | exact ⟨_, _, _, rfl⟩ | cases hc

theorem im_inv {w : World} {A : Nat → Prop} {g : GT} {xs : List g.den} {v : Value} (h : PR w A (.im g xs) v) : (xs = [] ∧ ∃ a, v = .slice a 0 0) ∨
    ∃ (b p cap : Nat) (f : Nat → Value), v = .slice (some ⟨b, p, none⟩) xs.length cap ∧ (xs.length ≤ cap ∧ cap ≤ maxLen) ∧ (∀ k, k < (flat g xs).length → ¬ A b ∧ w.cell? ⟨b, p + k, none⟩ = some (f k)) ∧
      (∀ (k : Nat) (c : Cell), (flat g xs)[k]? = some c → PR w A c (f k)) := by
  cases h with
  | none g a => exact .inl ⟨rfl, a, rfl⟩
  | im g xs b q cap f hcap hc hr => exact .inr ⟨b, q, cap, f, rfl, hcap, hc, hr⟩

/-- Reading an element of a list that lies still. -/
theorem im_index {P : Program} {t e : Nat} {te : TI} (ht : P.underlying t = some (.slice e)) (he : TIok P e te) {g : GT} {xs : List g.den} {u : Value} (hu : PR w (Av c.X O ρ) (.im g xs) u)
    (hsz : te.size = gsize g) {k : IntKind} {n : Int} (hin : 0 ≤ n ∧ n < xs.length) :
    ∃ cv, (Instr.indexAt t u (.int k n)).run P w = .ok cv w ∧ CellR w c.X O ρ (.vptr g (el xs n) 0) cv := by
  rcases im_inv hu with ⟨rfl, _⟩ | ⟨b, q, cap, f, rfl, ⟨hcap, _⟩, hc, hr⟩
  · simp at hin; omega
  · have hget := el_get hin.1 hin.2
    have hlt : n.toNat < xs.length := by omega
    have hin' : ∀ j, j < gsize g → n.toNat * gsize g + j < (flat g xs).length := by
      intro j hj
      rw [flat_length]
      have : (n.toNat + 1) * gsize g ≤ xs.length * gsize g := Nat.mul_le_mul_right _ (by omega)
      rw [Nat.succ_mul] at this; omega
    refine ⟨.pointer (some ⟨b, q + n.toNat * gsize g, none⟩), ?_, b, q + n.toNat * gsize g, fun j => f (n.toNat * gsize g + j), by simp, fun ho => (hc 0 (by have := hin' 0 (gsize_pos g); omega)).1 (.inr ho), fun j hj => ?_, fun j cc hj => ?_⟩
    · simp [Instr.indexAt, asIntOf, run_underlying ht, hin.1, hin.2, he.sizeOf, hsz, Addr.add_lit]
    · rw [Nat.add_assoc]; exact (hc _ (hin' j hj)).2
    · have hj' : j < gsize g := by rw [← enc_length g (el xs n)]; exact (List.getElem?_eq_some_iff.1 hj).1
      exact hr _ cc ((flat_get g xs n.toNat j _ hget hj').trans hj)

theorem indexF_ok (hT : TabOk c.P E.tab) (H : HRel c w O ρ) {t : Nat} {x i : AV} {vx vi : Value} (hx : AR (CellR w c.X O ρ) x vx) (hi : AR (CellR w c.X O ρ) i vi) {p : Option Prop} {v : AV} {us : Ups}
    (h : indexF E (getO O) t x i = some (p, v, us)) (hok : pOk p) : us = [] ∧ ∃ cv, (Instr.indexAt t vx vi).run c.P w = .ok cv w ∧ AR (CellR w c.X O ρ) v cv := by
  unfold indexF at h
  split at h
  case h_2 => cases h
  rename_i k n
  obtain rfl : vi = .int k n := hi
  split at h
  · rename_i e _ _ hti
    have ht : c.P.underlying t = some (.slice e) := (hT t _ hti).kd
    split at h
    · cases h
    rename_i te hte
    have he := hT e te hte
    split at h
    · rename_i g xs
      split at h
      · rename_i hf
        simp only [Option.some.injEq, Prod.mk.injEq] at h
        obtain ⟨rfl, rfl, rfl⟩ := h
        exact ⟨rfl, im_index ht he hx (fits_ok hf) hok⟩
      · cases h
    · rename_i o ver
      split at h
      · rename_i g xs hcur
        split at h
        · rename_i hf
          have hsz := fits_ok hf
          simp only [Option.some.injEq, Prod.mk.injEq] at h
          obtain ⟨rfl, rfl, rfl⟩ := h
          have ho := cur_eq hcur (by simp)
          obtain rfl : vx = ρ o := sl_val H hx ho
          have hob := H.obj o
          rw [ho] at hob
          have hok : 0 ≤ n ∧ n < xs.length := hok
          rcases hob with ⟨rfl, _⟩ | ⟨b, cap, ccs, t', hρ, hcap, _⟩
          · simp at hok; omega
          · refine ⟨rfl, .pointer (some ⟨b, n.toNat * gsize g, none⟩), ?_, ?_⟩
            · rw [hρ]; simp [Instr.indexAt, asIntOf, run_underlying ht, hok.1, hok.2, he.sizeOf, hsz, Addr.add_lit]
            · refine ⟨⟨by rw [ho]; exact Nat.le_refl _, rfl⟩, fun _ => ?_⟩
              rw [ho]
              exact ⟨b, xs.length, cap, hρ, hok.1, hok.2, rfl⟩
        · cases h
      · rename_i g xs hcur
        split at h
        · rename_i hf
          simp only [Option.some.injEq, Prod.mk.injEq] at h
          obtain ⟨rfl, rfl, rfl⟩ := h
          have ho := cur_eq hcur (by simp)
          obtain ⟨_, hx⟩ := hx
          have hx := hx (by rw [ho])
          rw [ho] at hx
          have hx : vx = ρ o := hx
          subst hx
          have hob := H.obj o
          rw [ho] at hob
          exact ⟨rfl, im_index ht he hob (fits_ok hf) hok⟩
        · cases h
      · cases h
    · cases h
  · rename_i m e _ _ hti
    have ht : c.P.underlying t = some (.array m e) := (hT t _ hti).kd
    split at h
    · cases h
    rename_i te hte
    have he := hT e te hte
    split at h
    · rename_i o ver
      split at h
      · rename_i g xs hcur
        split at h
        · rename_i hf
          have hsz := fits_ok hf
          simp only [Option.some.injEq, Prod.mk.injEq] at h
          obtain ⟨rfl, rfl, rfl⟩ := h
          have ho := cur_eq hcur (by simp)
          obtain ⟨_, hx⟩ := hx
          have hx := hx (by rw [ho])
          rw [ho] at hx
          obtain ⟨b, hρ, rfl⟩ := hx
          have hok : 0 ≤ n ∧ n < xs.length ∧ xs.length = m := hok
          obtain ⟨h0, h1, rfl⟩ := hok
          refine ⟨rfl, .pointer (some ⟨b, n.toNat * gsize g, none⟩), ?_, ?_⟩
          · simp [Instr.indexAt, Instr.sureAddr, asIntOf, run_underlying ht, h0, h1, he.sizeOf, hsz, Addr.add_lit]
          · refine ⟨⟨by rw [ho]; exact Nat.le_refl _, rfl⟩, fun _ => ?_⟩
            rw [ho]
            exact ⟨b, xs.length, xs.length, hρ, h0, h1, rfl⟩
        · cases h
      · cases h
    · cases h
  · cases h

end
end GV

/-
  Memory: what is made, held fast, stored, appended. No condition beyond those named.
-/
import Derived.Test.YtlifofjaiigogaaVD
import Derived.Laws.CopyRow
namespace GV
open Go
set_option linter.unusedSimpArgs false
set_option linter.unusedVariables false

def Post (c : Ctx) (w : World) (O : Objs) (ρ : Nat → Value) (us : Ups) (v : AV) (cv : Value) (w' : World) : Prop :=
  ∃ ρ', HRel c w' (setOs O us) ρ' ∧ (∀ y u, CellR w c.X O ρ y u → CellR w' c.X (setOs O us) ρ' y u) ∧ AR (CellR w' c.X (setOs O us) ρ') v cv

theorem setOs_append (O : Objs) (us vs : Ups) : setOs O (us ++ vs) = setOs (setOs O us) vs := by
  induction us generalizing O with
  | nil => rfl
  | cons a r ih => obtain ⟨o, v, x⟩ := a; simp only [List.cons_append, setOs, ih]

theorem upd_self (ρ : Nat → Value) (d : Nat) : upd ρ d (ρ d) = ρ := by
  funext o; unfold upd; split
  · rename_i h; rw [h]
  · rfl

/-- An update that holds an object fast. -/
def Frz (O : Objs) (us : Ups) : Prop := ∀ o v x, (o, v, x) ∈ us → ∃ (g : GT) (xs : List g.den), x = .fro g xs ∧ (getO O o = (v, .seq g xs) ∨ getO O o = (v, .fro g xs))

section
variable {c : Ctx} {E : Env} {w : World} {O : Objs} {ρ : Nat → Value}

theorem fro_of_seq {w : World} {X : Nat → Prop} {O O' : Objs} {ρ ρ' : Nat → Value} {g : GT} {xs : List g.den} {h : Value} (ho : ObR w X O ρ (.seq g xs) h)
    (hA : ∀ b, Av X O' ρ' b → Av X O ρ b) (hn : ∀ b, blk h = some b → ¬ Av X O' ρ' b) : PR w (Av X O' ρ') (.im g xs) h := by
  rcases ho with ⟨rfl, rfl⟩ | ⟨b, cap, ccs, t, rfl, hcap, hmx, hg, hsz, hr⟩
  · exact .none g none
  · have hlen : (flat g xs).length ≤ ccs.size := by rw [flat_length, hsz]; exact Nat.mul_le_mul_right _ hcap
    have := PR.im (w := w) (A := Av X O' ρ') g xs b 0 cap (fun k => ccs.getD k undef) ⟨hcap, hmx⟩ (fun k hk => ⟨hn b rfl, by rw [Nat.zero_add, cell_row hg]; simp [Array.getD, (by omega : k < ccs.size)]⟩)
      (fun k cc hcc => by
        have hk : k < (flat g xs).length := (List.getElem?_eq_some_iff.1 hcc).1
        exact (hr k cc _ hcc (by simp [Array.getD, (by omega : k < ccs.size)])).mono (fun _ _ _ => rfl) (fun b _ h => hA b h))
    exact this

theorem freeze1 (H : HRel c w O ρ) {o v : Nat} {g : GT} {xs : List g.den} (ho : getO O o = (v, .seq g xs) ∨ getO O o = (v, .fro g xs)) :
    HRel c w (setO O o v (.fro g xs)) ρ ∧ ∀ y u, CellR w c.X O ρ y u → CellR w c.X (setO O o v (.fro g xs)) ρ y u := by
  have := hrel_set (w' := w) H o v (.fro g xs) (ρ o) (by
      rcases ho with h | h <;> rw [h]
      · exact .inr ⟨rfl, rfl, .inr trivial⟩
      · exact .inr ⟨rfl, rfl, .inl rfl⟩) (fun _ _ _ => rfl) (fun b h => by simp [ownOf] at h) (fun _ h => h.elim) (fun hk => ?_) (Nat.le_refl _) rfl rfl rfl
  · rw [upd_self] at this; exact this
  · rw [upd_self]
    have hown : ∀ b, Av c.X (setO O o v (.fro g xs)) ρ b → Av c.X O ρ b ∧ own O ρ o ≠ some b := by
      intro b hb
      rcases hb with hb | ⟨o', hb⟩
      · exact ⟨.inl hb, fun h => H.notX _ _ h hb⟩
      · by_cases e : o' = o
        · subst e
          simp only [own, getO_setO_same, ownOf] at hb
          cases hb
        · have hb' : own O ρ o' = some b := by unfold own at hb ⊢; rw [getO_setO_other O v _ e] at hb; exact hb
          exact ⟨.inr ⟨o', hb'⟩, fun h => e (H.inj _ _ _ hb' h)⟩
    have hob := H.obj o
    rcases ho with h | h
    · rw [h] at hob
      refine fro_of_seq hob (fun b hb => (hown b hb).1) (fun b hb ha => (hown b ha).2 ?_)
      unfold own; rw [h]; exact hb
    · rw [h] at hob
      exact PR.mono (fun _ _ _ => rfl) (fun b _ hb => (hown b hb).1) hob

theorem freezes (us : Ups) : ∀ {O : Objs} (H : HRel c w O ρ) (hf : Frz O us), HRel c w (setOs O us) ρ ∧ ∀ y u, CellR w c.X O ρ y u → CellR w c.X (setOs O us) ρ y u := by
  induction us with
  | nil => intro O H _; exact ⟨H, fun _ _ h => h⟩
  | cons a r ih =>
    intro O H hf
    obtain ⟨o, v, x⟩ := a
    obtain ⟨g, xs, rfl, ho⟩ := hf o v x (List.mem_cons_self ..)
    obtain ⟨H1, k1⟩ := freeze1 H ho
    obtain ⟨H2, k2⟩ := ih H1 (fun o' v' x' hm => by
      obtain ⟨g', xs', rfl, ho'⟩ := hf o' v' x' (List.mem_cons_of_mem _ hm)
      by_cases e : o' = o
      · subst e
        rw [getO_setO_same]
        refine ⟨g', xs', rfl, .inr ?_⟩
        rcases ho with h | h <;> rcases ho' with h' | h' <;> rw [h] at h' <;> injection h' with e1 e2 <;> first | (injection e2 with e2 e3; subst e1; subst e2; rw [eq_of_heq e3]) | cases e2
      · rw [getO_setO_other O v _ e]; exact ⟨g', xs', rfl, ho'⟩)
    exact ⟨H2, fun y u h => k2 y u (k1 y u h)⟩

theorem Frz.append {us vs : Ups} (h : Frz O us) (h' : Frz O vs) : Frz O (us ++ vs) := fun o v x hm =>
  (List.mem_append.1 hm).elim (h o v x) (h' o v x)

theorem frz_nil : Frz O [] := fun _ _ _ h => by cases h


/-! ### typed values and their cells -/

inductive Le : Cell → Cell → Prop
  | refl (c : Cell) : Le c c
  | bool (l l' b : Bool) : Le (.bool l b) (.bool l' b)
  | nil (g : GT) : Le .nil (.im g [])

def LeL : List Cell → List Cell → Prop
  | [], [] => True
  | a :: r, b :: s => Le a b ∧ LeL r s
  | _, _ => False

theorem LeL.get : ∀ {cs ds : List Cell}, LeL cs ds → cs.length = ds.length ∧ ∀ (k : Nat) (c d : Cell), cs[k]? = some c → ds[k]? = some d → Le c d := by
  intro cs
  induction cs with
  | nil => intro ds h; cases ds with | nil => exact ⟨rfl, fun k c d h => by simp at h⟩ | cons _ _ => exact h.elim
  | cons a r ih =>
    intro ds h
    cases ds with
    | nil => exact h.elim
    | cons b s =>
      obtain ⟨h1, h2⟩ := ih h.2
      refine ⟨by simp [h1], fun k c d hc hd => ?_⟩
      cases k with
      | zero => simp at hc hd; subst hc; subst hd; exact h.1
      | succ k => simp at hc hd; exact h2 k c d hc hd

theorem imTerm_le {c : Cell} {xs : List Term} (h : imTerm c = some xs) : Le c (.im .term xs) := by
  unfold imTerm at h; split at h <;> first | (cases h; exact .refl _) | (cases h; exact .nil _) | (cases h; done)
theorem imRow_le {c : Cell} {xs : List Row} (h : imRow c = some xs) : Le c (.im .row xs) := by
  unfold imRow at h; split at h <;> first | (cases h; exact .refl _) | (cases h; exact .nil _) | (cases h; done)
theorem imKnot_le {c : Cell} {xs : List Knot} (h : imKnot c = some xs) : Le c (.im .knot xs) := by
  unfold imKnot at h; split at h <;> first | (cases h; exact .refl _) | (cases h; exact .nil _) | (cases h; done)
theorem imLoop_le {c : Cell} {xs : List LoopT} (h : imLoop c = some xs) : Le c (.im .loop xs) := by
  unfold imLoop at h; split at h <;> first | (cases h; exact .refl _) | (cases h; exact .nil _) | (cases h; done)
theorem imStr_le {c : Cell} {xs : List Bytes} (h : imStr c = some xs) : Le c (.im .str xs) := by
  unfold imStr at h; split at h <;> first | (cases h; exact .refl _) | (cases h; exact .nil _) | (cases h; done)
theorem imInt_le {c : Cell} {xs : List Int} (h : imInt c = some xs) : Le c (.im .int xs) := by
  unfold imInt at h; split at h <;> first | (cases h; exact .refl _) | (cases h; exact .nil _) | (cases h; done)
theorem imPt_le {c : Cell} {xs : List Pt} (h : imPt c = some xs) : Le c (.im .pt xs) := by
  unfold imPt at h; split at h <;> first | (cases h; exact .refl _) | (cases h; exact .nil _) | (cases h; done)
theorem imU8_le {c : Cell} {xs : List UInt8} (h : imU8 c = some xs) : Le c (.im .u8 xs) := by
  unfold imU8 at h; split at h <;> first | (cases h; exact .refl _) | (cases h; exact .nil _) | (cases h; done)

theorem dec_le {g : GT} {cs : List Cell} {x : g.den} {p : Option Prop} (h : dec g cs = some (x, p)) (hp : pOk p) : LeL cs (enc g x) := by
  unfold dec at h
  split at h
  case h_2 =>
    rename_i n
    simp only [Option.some.injEq, Prod.mk.injEq] at h
    obtain ⟨rfl, rfl⟩ := h
    simp only [pOk] at hp
    refine ⟨?_, trivial⟩
    have : ((UInt8.ofNat n.toNat).toNat : Int) = n := by
      rw [UInt8.toNat_ofNat']; omega
    rw [this]; exact .refl _
  all_goals first
    | (cases h; done)
    | (simp only [Option.some.injEq, Prod.mk.injEq] at h
       obtain ⟨rfl, rfl⟩ := h
       simp only [enc, LeL]
       repeat (first | exact .refl _ | exact .bool _ _ _ | exact trivial | refine ⟨?_, ?_⟩))
    | (split at h
       · first
         | (simp only [Option.some.injEq, Prod.mk.injEq] at h
            obtain ⟨rfl, rfl⟩ := h
            simp only [enc, LeL]
            repeat (first | exact .refl _ | exact .bool _ _ _ | exact trivial | exact imTerm_le (by assumption) | exact imRow_le (by assumption) | exact imKnot_le (by assumption) | exact imLoop_le (by assumption) | exact imStr_le (by assumption) | exact imInt_le (by assumption) | exact imPt_le (by assumption) | exact imU8_le (by assumption) | refine ⟨?_, ?_⟩))
         | (cases h; done)
       · cases h)

/-- A reading of an element's cells: as PR, or a nil slice. -/
def SnR (w : World) (A : Nat → Prop) (c : Cell) (v : Value) : Prop := (c = .nil ∧ v = .slice none 0 0) ∨ PR w A c v

theorem Le.pr {w : World} {A : Nat → Prop} {c d : Cell} {v : Value} (h : Le c d) (hs : SnR w A c v) (hd : d ≠ .nil) : PR w A d v := by
  cases h with
  | refl => rcases hs with ⟨e, _⟩ | h
            · exact absurd e hd
            · exact h
  | bool l l' b =>
    rcases hs with ⟨e, _⟩ | h
    · cases e
    · cases h; exact .bool _ _
  | nil g =>
    rcases hs with ⟨_, rfl⟩ | h
    · exact .none g none
    · cases h

theorem Le.cell {w : World} {X : Nat → Prop} {O : Objs} {ρ : Nat → Value} {c d : Cell} {v : Value} (h : Le c d) (hs : CellR w X O ρ c v) : CellR w X O ρ d v := by
  cases h with
  | refl => exact hs
  | bool l l' b => exact hs
  | nil g => obtain rfl : v = .slice none 0 0 := hs; exact .none g none

theorem enc_ne_nil {g : GT} {x : g.den} {k : Nat} {c : Cell} (h : (enc g x)[k]? = some c) : c ≠ .nil := by
  have := List.mem_of_getElem? h
  revert this
  cases g <;> simp only [enc, List.mem_cons, List.not_mem_nil, or_false] <;> intro h e <;> subst e <;> simp at h

theorem dec_pr {w : World} {A : Nat → Prop} {g : GT} {cs : List Cell} {x : g.den} {p : Option Prop} (h : dec g cs = some (x, p)) (hp : pOk p) {vs : List Value} (hr : CsR (SnR w A) cs vs) :
    vs.length = gsize g ∧ ∀ (k : Nat) (c : Cell) (v : Value), (enc g x)[k]? = some c → vs[k]? = some v → PR w A c v := by
  obtain ⟨h1, h2⟩ := (dec_le h hp).get
  refine ⟨by rw [← hr.1, h1, enc_length], fun k cc v hc hv => ?_⟩
  have hk : k < cs.length := by rw [h1]; exact (List.getElem?_eq_some_iff.1 hc).1
  exact (h2 k _ _ (List.getElem?_eq_getElem hk) hc).pr (hr.2 k _ _ (List.getElem?_eq_getElem hk) hv) (enc_ne_nil hc)

theorem snapC_frz {x y : Cell} {us : Ups} (h : snapC (getO O) x = some (y, us)) : Frz O us := by
  unfold snapC at h
  split at h
  · rename_i o v
    split at h
    · rename_i g xs hcur
      simp only [Option.some.injEq, Prod.mk.injEq] at h
      obtain ⟨rfl, rfl⟩ := h
      have ho := cur_eq hcur (by simp)
      intro o' v' x' hm
      simp only [List.mem_singleton, Prod.mk.injEq] at hm
      obtain ⟨rfl, rfl, rfl⟩ := hm
      exact ⟨g, xs, rfl, .inl ho⟩
    · simp only [Option.some.injEq, Prod.mk.injEq] at h
      obtain ⟨rfl, rfl⟩ := h
      exact frz_nil
    · cases h
  all_goals first
    | (cases h; done)
    | (simp only [Option.some.injEq, Prod.mk.injEq] at h; obtain ⟨rfl, rfl⟩ := h; exact frz_nil)

theorem snapC_rel (H : HRel c w O ρ) {x y : Cell} {us : Ups} (h : snapC (getO O) x = some (y, us)) {O' : Objs} (H' : HRel c w O' ρ)
    (hsub : ∀ b, Owned O' ρ b → Owned O ρ b) (hus : ∀ o v z, (o, v, z) ∈ us → getO O' o = (v, z)) {u : Value} (hx : CellR w c.X O ρ x u) : SnR w (Av c.X O' ρ) y u := by
  have hm : ∀ {c' : Cell} {v' : Value}, PR w (Av c.X O ρ) c' v' → PR w (Av c.X O' ρ) c' v' := fun h =>
    h.mono (fun _ _ _ => rfl) (fun b _ hb => hb.elim .inl fun h => .inr (hsub b h))
  cases x with
  | sl o v =>
    simp only [snapC] at h
    split at h
    · rename_i g xs hcur
      simp only [Option.some.injEq, Prod.mk.injEq] at h
      obtain ⟨rfl, rfl⟩ := h
      have ho := cur_eq hcur (by simp)
      obtain ⟨_, hx⟩ := hx
      have hx := hx (by rw [ho])
      rw [ho] at hx
      have hx : u = ρ o := hx
      subst hx
      have h2 := hus o v _ (List.mem_singleton.2 rfl)
      have := H'.obj o
      rw [h2] at this
      exact .inr this
    · rename_i g xs hcur
      simp only [Option.some.injEq, Prod.mk.injEq] at h
      obtain ⟨rfl, rfl⟩ := h
      have ho := cur_eq hcur (by simp)
      obtain ⟨_, hx⟩ := hx
      have hx := hx (by rw [ho])
      rw [ho] at hx
      have hx : u = ρ o := hx
      subst hx
      have := H.obj o
      rw [ho] at this
      exact .inr (hm this)
    · cases h
  | int k n => simp only [snapC, Option.some.injEq, Prod.mk.injEq] at h; obtain ⟨rfl, rfl⟩ := h; obtain rfl : u = .int k n := hx; exact .inr (.int _ _)
  | bool l b => simp only [snapC, Option.some.injEq, Prod.mk.injEq] at h; obtain ⟨rfl, rfl⟩ := h; obtain rfl : u = .bool b := hx; exact .inr (.bool _ _)
  | str s => simp only [snapC, Option.some.injEq, Prod.mk.injEq] at h; obtain ⟨rfl, rfl⟩ := h; obtain rfl : u = .string ⟨⟨s⟩⟩ := hx; exact .inr (.str _)
  | nil => simp only [snapC, Option.some.injEq, Prod.mk.injEq] at h; obtain ⟨rfl, rfl⟩ := h; exact .inl ⟨rfl, hx⟩
  | im g xs => simp only [snapC, Option.some.injEq, Prod.mk.injEq] at h; obtain ⟨rfl, rfl⟩ := h; exact .inr (hm hx)
  | _ => simp [snapC] at h

theorem snapCs_frz {cs ds : List Cell} {us : Ups} (h : snapCs (getO O) cs = some (ds, us)) : Frz O us := by
  induction cs generalizing ds us with
  | nil => simp only [snapCs, Option.some.injEq, Prod.mk.injEq] at h; obtain ⟨rfl, rfl⟩ := h; exact frz_nil
  | cons a r ih =>
    unfold snapCs at h
    split at h
    · rename_i y us1 h1
      split at h
      · rename_i r' us2 h2
        simp only [Option.some.injEq, Prod.mk.injEq] at h
        obtain ⟨rfl, rfl⟩ := h
        exact (snapC_frz h1).append (ih h2)
      · cases h
    · cases h

theorem snapCs_rel (H : HRel c w O ρ) {cs ds : List Cell} {us : Ups} (h : snapCs (getO O) cs = some (ds, us)) {O' : Objs} (H' : HRel c w O' ρ)
    (hsub : ∀ b, Owned O' ρ b → Owned O ρ b) (hus : ∀ o v z, (o, v, z) ∈ us → getO O' o = (v, z)) {vs : List Value} (hx : CsR (CellR w c.X O ρ) cs vs) : CsR (SnR w (Av c.X O' ρ)) ds vs := by
  induction cs generalizing ds us vs with
  | nil => simp only [snapCs, Option.some.injEq, Prod.mk.injEq] at h; obtain ⟨rfl, rfl⟩ := h; exact ⟨hx.1, fun k c v h => by simp at h⟩
  | cons a r ih =>
    unfold snapCs at h
    split at h
    · rename_i y us1 h1
      split at h
      · rename_i r' us2 h2
        simp only [Option.some.injEq, Prod.mk.injEq] at h
        obtain ⟨rfl, rfl⟩ := h
        cases vs with
        | nil => have := hx.1; simp at this
        | cons v vs =>
          have i := ih h2 (fun o v z hm => hus o v z (List.mem_append_right _ hm)) (vs := vs) ⟨by have := hx.1; simpa using this, fun k cc u h1 h2 => hx.2 (k + 1) cc u (by simpa using h1) (by simpa using h2)⟩
          refine ⟨by simp [i.1], fun k cc u hc hu => ?_⟩
          cases k with
          | zero =>
            simp at hc hu
            subst hc; subst hu
            exact snapC_rel H h1 H' hsub (fun o v z hm => hus o v z (List.mem_append_left _ hm)) (hx.2 0 a v rfl rfl)
          | succ k => simp at hc hu; exact i.2 k cc u hc hu
      · cases h
    · cases h

/-- The objects behind updates that hold fast. -/
theorem frz_get (us : Ups) : ∀ {O : Objs} (_ : Frz O us), (∀ o v z, (o, v, z) ∈ us → getO (setOs O us) o = (v, z)) ∧ (∀ o, (∀ v z, (o, v, z) ∉ us) → getO (setOs O us) o = getO O o) := by
  induction us with
  | nil => intro O _; exact ⟨fun o v z h => (by cases h), fun o _ => rfl⟩
  | cons a r ih =>
    intro O hf
    obtain ⟨o, v, x⟩ := a
    obtain ⟨g, xs, rfl, ho⟩ := hf o v x (List.mem_cons_self ..)
    have hf' : Frz (setO O o v (.fro g xs)) r := fun o' v' x' hm => by
      obtain ⟨g', xs', rfl, ho'⟩ := hf o' v' x' (List.mem_cons_of_mem _ hm)
      by_cases e : o' = o
      · subst e
        rw [getO_setO_same]
        refine ⟨g', xs', rfl, .inr ?_⟩
        rcases ho with h | h <;> rcases ho' with h' | h' <;> rw [h] at h' <;> injection h' with e1 e2 <;> first | (injection e2 with e2 e3; subst e1; subst e2; rw [eq_of_heq e3]) | cases e2
      · rw [getO_setO_other O v _ e]; exact ⟨g', xs', rfl, ho'⟩
    obtain ⟨i1, i2⟩ := ih hf'
    refine ⟨fun o' v' z' hm => ?_, fun o' hn => ?_⟩
    · simp only [setOs]
      rcases List.mem_cons.1 hm with e | hm
      · simp only [Prod.mk.injEq] at e
        obtain ⟨rfl, rfl, rfl⟩ := e
        by_cases hmem : ∃ v2 z2, (o', v2, z2) ∈ r
        · obtain ⟨v2, z2, hm2⟩ := hmem
          rw [i1 o' v2 z2 hm2]
          obtain ⟨g2, xs2, rfl, ho2⟩ := hf' o' v2 z2 hm2
          rw [getO_setO_same] at ho2
          rcases ho2 with h | h <;> injection h with e1 e2 <;> first | (injection e2 with e2 e3; subst e1; subst e2; rw [eq_of_heq e3]) | cases e2
        · rw [i2 o' (fun v2 z2 hm2 => hmem ⟨v2, z2, hm2⟩), getO_setO_same]
      · exact i1 o' v' z' hm
    · simp only [setOs]
      rw [i2 o' (fun v2 z2 hm2 => hn v2 z2 (List.mem_cons_of_mem _ hm2)), getO_setO_other]
      intro e; subst e; exact hn v _ (List.mem_cons_self ..)

theorem frz_owned {us : Ups} (hf : Frz O us) : ∀ b, Owned (setOs O us) ρ b → Owned O ρ b := by
  intro b ⟨o, ho⟩
  by_cases h : ∃ v z, (o, v, z) ∈ us
  · obtain ⟨v, z, hm⟩ := h
    obtain ⟨g, xs, rfl, _⟩ := hf o v z hm
    unfold own at ho
    rw [(frz_get us hf).1 o v _ hm] at ho
    simp [ownOf] at ho
  · refine ⟨o, ?_⟩
    unfold own at ho ⊢
    rwa [(frz_get us hf).2 o (fun v z hm => h ⟨v, z, hm⟩)] at ho

end
end GV

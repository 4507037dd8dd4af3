/-
  How the interpreter's values lie in the model's memory, and what keeps them. No condition.
-/
import Derived.Test.YtlifofjaiigogaaVA
import Derived.Laws.World
import Derived.Laws.Cells
import Derived.Laws.AppendOwn
namespace GV
open Go

def blk : Value → Option Nat
  | .pointer (some a) => some a.block
  | .slice (some a) _ _ => some a.block
  | _ => none

def ownOf : AObj → Value → Option Nat
  | .box _ _, h => blk h
  | .seq _ _, h => blk h
  | _, _ => none

def own (O : Objs) (ρ : Nat → Value) (o : Nat) : Option Nat := ownOf (getO O o).2 (ρ o)

def Owned (O : Objs) (ρ : Nat → Value) (b : Nat) : Prop := ∃ o, own O ρ o = some b

inductive PR (w : World) (A : Nat → Prop) : Cell → Value → Prop
  | int (k : IntKind) (n : Int) : PR w A (.int k n) (.int k n)
  | bool (l b : Bool) : PR w A (.bool l b) (.bool b)
  | str (s : Bytes) : PR w A (.str s) (.string ⟨⟨s⟩⟩)
  | none (g : GT) (a : Option Addr) : PR w A (.im g []) (.slice a 0 0)
  | im (g : GT) (xs : List g.den) (b p cap : Nat) (f : Nat → Value) (hcap : xs.length ≤ cap ∧ cap ≤ maxLen)
      (hc : ∀ k, k < (flat g xs).length → ¬ A b ∧ w.cell? ⟨b, p + k, none⟩ = some (f k))
      (hr : ∀ (k : Nat) (c : Cell), (flat g xs)[k]? = some c → PR w A c (f k)) :
      PR w A (.im g xs) (.slice (some ⟨b, p, none⟩) xs.length cap)

def Av (X : Nat → Prop) (O : Objs) (ρ : Nat → Value) : Nat → Prop := fun b => X b ∨ Owned O ρ b

def CellR (w : World) (X : Nat → Prop) (O : Objs) (ρ : Nat → Value) : Cell → Value → Prop
  | .int k n, v => v = .int k n
  | .bool _ b, v => v = .bool b
  | .str s, v => v = .string ⟨⟨s⟩⟩
  | .nil, v => v = .slice none 0 0
  | .im g xs, v => PR w (Av X O ρ) (.im g xs) v
  | .sl o k, v => (k ≤ (getO O o).1 ∧ v.oneCell' = true) ∧ (k = (getO O o).1 → match (getO O o).2 with
      | .seq _ _ => v = ρ o
      | .fro _ _ => v = ρ o
      | _ => True)
  | .ptr o k off, v => (k ≤ (getO O o).1 ∧ v.oneCell' = true) ∧ (k = (getO O o).1 → match (getO O o).2 with
      | .box _ _ => ∃ b, ρ o = .pointer (some ⟨b, 0, none⟩) ∧ v = .pointer (some ⟨b, off, none⟩)
      | _ => True)
  | .aptr o k, v => (k ≤ (getO O o).1 ∧ v.oneCell' = true) ∧ (k = (getO O o).1 → match (getO O o).2 with
      | .seq _ xs => ∃ b, ρ o = .slice (some ⟨b, 0, none⟩) xs.length xs.length ∧ v = .pointer (some ⟨b, 0, none⟩)
      | _ => True)
  | .eptr o k i off, v => (k ≤ (getO O o).1 ∧ v.oneCell' = true) ∧ (k = (getO O o).1 → match (getO O o).2 with
      | .seq g xs => ∃ b n cap, ρ o = .slice (some ⟨b, 0, none⟩) n cap ∧ 0 ≤ i ∧ i < xs.length ∧ v = .pointer (some ⟨b, i.toNat * gsize g + off, none⟩)
      | _ => True)
  | .vptr g x off, v => ∃ (b p : Nat) (f : Nat → Value), v = .pointer (some ⟨b, p + off, none⟩) ∧ ¬ Owned O ρ b ∧ (∀ k, k < gsize g → w.cell? ⟨b, p + k, none⟩ = some (f k)) ∧
      (∀ (k : Nat) (c : Cell), (enc g x)[k]? = some c → PR w (Av X O ρ) c (f k))
  | .fn f, v => v = .func (.func f) #[] #[]
  | .und, _ => True

/-- cells against values, one by one -/
def CsR (R : Cell → Value → Prop) (cs : List Cell) (vs : List Value) : Prop :=
  cs.length = vs.length ∧ ∀ (k : Nat) (c : Cell) (v : Value), cs[k]? = some c → vs[k]? = some v → R c v

def TR (R : Cell → Value → Prop) : Bool × List Cell → Value → Prop
  | (true, cs), v => ∃ vs : Array Value, v = .agg vs ∧ CsR R cs vs.toList
  | (false, [c]), v => R c v
  | (false, _), _ => False

def AR (R : Cell → Value → Prop) : AV → Value → Prop
  | .c x, v => R x v
  | .agg cs, v => ∃ vs : Array Value, v = .agg vs ∧ CsR R cs vs.toList
  | .tup ts, v => ∃ vs : Array Value, v = .tuple vs ∧ ts.length = vs.size ∧ ∀ (k : Nat) (t : Bool × List Cell) (u : Value), ts[k]? = some t → vs[k]? = some u → TR R t u

def ObR (w : World) (X : Nat → Prop) (O : Objs) (ρ : Nat → Value) : AObj → Value → Prop
  | .box _ cs, h => ∃ b ccs t, h = .pointer (some ⟨b, 0, none⟩) ∧ w.heap[b]? = some (.cells ccs t (0, 0)) ∧ CsR (CellR w X O ρ) cs ccs.toList
  | .seq g xs, h => (xs = [] ∧ h = .slice none 0 0) ∨ ∃ b cap ccs t, h = .slice (some ⟨b, 0, none⟩) xs.length cap ∧ xs.length ≤ cap ∧ cap ≤ maxLen ∧
      w.heap[b]? = some (.cells ccs t (0, 0)) ∧ ccs.size = cap * gsize g ∧ ∀ (k : Nat) (c : Cell) (v : Value), (flat g xs)[k]? = some c → ccs[k]? = some v → PR w (Av X O ρ) c v
  | .fro g xs, h => PR w (Av X O ρ) (.im g xs) h
  | .gone, _ => True

def owny : AObj → Prop
  | .box _ _ => True
  | .seq _ _ => True
  | _ => False

structure Ctx where
  P : Program
  w0 : World
  nm : Nat
  hs : Nat → Value
  X : Nat → Prop
  nt : Nat

structure HRel (c : Ctx) (w : World) (O : Objs) (ρ : Nat → Value) : Prop where
  obj : ∀ o, ObR w c.X O ρ (getO O o).2 (ρ o)
  inj : ∀ o o' b, own O ρ o = some b → own O ρ o' = some b → o = o'
  xlt : ∀ b, c.X b → b < c.w0.heap.size
  notX : ∀ o b, own O ρ o = some b → ¬ c.X b
  fresh : ∀ o b, own O ρ o = some b → c.w0.heap.size ≤ b ∨ o < c.nm
  par : ∀ o, o < c.nm → owny (getO O o).2 → ρ o = c.hs o
  frame : ∀ b, b < c.w0.heap.size → (∀ j, j < c.nm → blk (c.hs j) ≠ some b) → w.heap[b]? = c.w0.heap[b]?
  size : c.w0.heap.size ≤ w.heap.size
  os : w.os = c.w0.os
  tape : w.tape = c.w0.tape
  output : w.output = c.w0.output

structure SRel (c : Ctx) (S : St) (a : Act) (w : World) : Prop where
  rel : ∃ ρ, HRel c w S.objs ρ ∧ ∀ t, AR (CellR w c.X S.objs ρ) (getT S.tmps t) (a.tmps.getD t undef)
  defers : a.defers = []
  nt : a.tmps.size = c.nt

/-! ### lists of cells -/

theorem CsR.mono {R R' : Cell → Value → Prop} {cs : List Cell} {vs : List Value} (h : CsR R cs vs) (hr : ∀ c v, R c v → R' c v) : CsR R' cs vs :=
  ⟨h.1, fun k c v hc hv => hr _ _ (h.2 k c v hc hv)⟩

theorem TR.mono {R R' : Cell → Value → Prop} {t : Bool × List Cell} {v : Value} (h : TR R t v) (hr : ∀ c v, R c v → R' c v) : TR R' t v := by
  obtain ⟨a, cs⟩ := t
  cases a with
  | true => obtain ⟨vs, e, h⟩ := h; exact ⟨vs, e, h.mono hr⟩
  | false =>
    match cs, h with
    | [c], h => exact hr _ _ h

theorem AR.mono {R R' : Cell → Value → Prop} {x : AV} {v : Value} (h : AR R x v) (hr : ∀ c v, R c v → R' c v) : AR R' x v := by
  cases x with
  | c x => exact hr _ _ h
  | agg cs => obtain ⟨vs, e, h⟩ := h; exact ⟨vs, e, h.mono hr⟩
  | tup ts => obtain ⟨vs, e, l, h⟩ := h; exact ⟨vs, e, l, fun k t u ht hu => (h k t u ht hu).mono hr⟩

theorem flat_length (g : GT) (xs : List g.den) : (flat g xs).length = xs.length * gsize g := by
  induction xs with
  | nil => simp [flat]
  | cons x r ih => simp only [flat, List.length_append, enc_length, ih, List.length_cons, Nat.succ_mul]; omega

theorem flat_append (g : GT) (xs ys : List g.den) : flat g (xs ++ ys) = flat g xs ++ flat g ys := by
  induction xs with
  | nil => rfl
  | cons x r ih => simp only [List.cons_append, flat, ih, List.append_assoc]

theorem gsize_pos (g : GT) : 0 < gsize g := by cases g <;> decide

theorem flat_get (g : GT) : ∀ (xs : List g.den) (i j : Nat) (x : g.den), xs[i]? = some x → j < gsize g → (flat g xs)[i * gsize g + j]? = (enc g x)[j]? := by
  intro xs
  induction xs with
  | nil => intro i j x h; simp at h
  | cons y r ih =>
    intro i j x h hj
    cases i with
    | zero =>
      simp only [List.getElem?_cons_zero, Option.some.injEq] at h
      subst h
      simp only [flat, Nat.zero_mul, Nat.zero_add]
      rw [List.getElem?_append_left (by rw [enc_length]; exact hj)]
    | succ i =>
      simp only [List.getElem?_cons_succ] at h
      have := ih i j x h hj
      simp only [flat]
      rw [List.getElem?_append_right (by rw [enc_length, Nat.succ_mul]; omega), enc_length, ← this]
      congr 1
      rw [Nat.succ_mul]; omega

theorem flat_drop (g : GT) : ∀ (xs : List g.den) (n : Nat), flat g (xs.drop n) = (flat g xs).drop (n * gsize g) := by
  intro xs
  induction xs with
  | nil => intro n; simp [flat]
  | cons x r ih =>
    intro n
    cases n with
    | zero => simp
    | succ n =>
      simp only [List.drop_succ_cons, flat, ih, Nat.succ_mul]
      rw [List.drop_append, enc_length, List.drop_eq_nil_of_le (as := enc g x) (by rw [enc_length]; omega), List.nil_append]
      congr 1; omega

theorem flat_take (g : GT) : ∀ (xs : List g.den) (n : Nat), flat g (xs.take n) = (flat g xs).take (n * gsize g) := by
  intro xs
  induction xs with
  | nil => intro n; simp [flat]
  | cons x r ih =>
    intro n
    cases n with
    | zero => simp [flat]
    | succ n =>
      simp only [List.take_succ_cons, flat, ih, Nat.succ_mul]
      rw [List.take_append, enc_length, List.take_of_length_le (l := enc g x) (by rw [enc_length]; omega)]
      congr 2; omega

/-! ### what keeps a reading -/

theorem PR.mono {w w' : World} {A A' : Nat → Prop} (hw : ∀ b, b < w.heap.size → ¬ A b → w'.heap[b]? = w.heap[b]?) (hA : ∀ b, b < w.heap.size → A' b → A b)
    {c : Cell} {v : Value} (h : PR w A c v) : PR w' A' c v := by
  induction h with
  | int k n => exact .int k n
  | bool l b => exact .bool l b
  | str s => exact .str s
  | none g a => exact .none g a
  | im g xs b p cap f hcap hc hr ih =>
    refine .im g xs b p cap f hcap (fun k hk => ?_) ih
    obtain ⟨ha, hcell⟩ := hc k hk
    have hlt : b < w.heap.size := World.block_lt_of_cell? _ _ hcell
    exact ⟨fun h => ha (hA b hlt h), (World.cell?_of_block (hw b hlt ha)).trans hcell⟩

theorem PR.cell {w : World} {X : Nat → Prop} {O : Objs} {ρ : Nat → Value} {c : Cell} {v : Value} (h : PR w (Av X O ρ) c v) : CellR w X O ρ c v := by
  cases h with
  | int k n => exact rfl
  | bool l b => exact rfl
  | str s => exact rfl
  | none g a => exact .none g a
  | im g xs b p cap f hcap hc hr => exact .im g xs b p cap f hcap hc hr

def Cmp (x y : AObj) : Prop := y = x ∨ match x, y with
  | _, .gone => True
  | .box _ _, .box _ _ => True
  | .seq g xs, .seq g' xs' => g' = g ∧ xs'.length = xs.length
  | .seq _ _, .fro _ _ => True
  | _, _ => False

theorem Cmp.ofSeq {x : AObj} {g : GT} {xs : List g.den} (h : Cmp x (.seq g xs)) : ∃ ys : List g.den, x = .seq g ys ∧ xs.length = ys.length := by
  rcases h with h | h
  · exact ⟨xs, h.symm, rfl⟩
  · cases x with
    | seq g' ys => obtain ⟨e, h⟩ := h; subst e; exact ⟨ys, rfl, h⟩
    | _ => exact h.elim

theorem Cmp.ofBox {x : AObj} {t : Nat} {cs : List Cell} (h : Cmp x (.box t cs)) : ∃ t' ds, x = .box t' ds := by
  rcases h with h | h
  · exact ⟨t, cs, h.symm⟩
  · cases x with
    | box t' ds => exact ⟨t', ds, rfl⟩
    | _ => exact h.elim

def Stp (x : Nat × AObj) (h : Value) (y : Nat × AObj) (h' : Value) : Prop := x.1 < y.1 ∨ (x.1 = y.1 ∧ h' = h ∧ Cmp x.2 y.2)

theorem keepC {w w' : World} {X : Nat → Prop} {O O' : Objs} {ρ ρ' : Nat → Value} (h1 : ∀ b, b < w.heap.size → ¬ Owned O ρ b → w'.heap[b]? = w.heap[b]?)
    (h2 : ∀ b, b < w.heap.size → Owned O' ρ' b → Owned O ρ b) (h3 : ∀ o, Stp (getO O o) (ρ o) (getO O' o) (ρ' o)) :
    ∀ x v, CellR w X O ρ x v → CellR w' X O' ρ' x v := by
  have hp : ∀ c v, PR w (Av X O ρ) c v → PR w' (Av X O' ρ') c v := fun c v h =>
    h.mono (fun b hb ha => h1 b hb fun h => ha (.inr h)) (fun b hb ha => ha.elim .inl fun h => .inr (h2 b hb h))
  intro x v h
  cases x with
  | int k n => exact h
  | bool l b => exact h
  | str s => exact h
  | nil => exact h
  | im g xs => exact hp _ _ h
  | sl o k =>
    obtain ⟨ha, hb⟩ := h
    rcases h3 o with h | ⟨e, eh, hc⟩
    · exact ⟨⟨by have := ha.1; omega, ha.2⟩, fun hk => by have := ha.1; omega⟩
    · refine ⟨⟨by have := ha.1; omega, ha.2⟩, fun hk => ?_⟩
      have := hb (by omega)
      rw [eh]
      revert this hc
      cases (getO O o).2 <;> cases (getO O' o).2 <;> simp [Cmp]
  | ptr o k off =>
    obtain ⟨ha, hb⟩ := h
    rcases h3 o with h | ⟨e, eh, hc⟩
    · exact ⟨⟨by have := ha.1; omega, ha.2⟩, fun hk => by have := ha.1; omega⟩
    · refine ⟨⟨by have := ha.1; omega, ha.2⟩, fun hk => ?_⟩
      have := hb (by omega)
      rw [eh]
      revert this hc
      cases (getO O o).2 <;> cases (getO O' o).2 <;> simp [Cmp]
  | aptr o k =>
    obtain ⟨ha, hb⟩ := h
    rcases h3 o with h | ⟨e, eh, hc⟩
    · exact ⟨⟨by have := ha.1; omega, ha.2⟩, fun hk => by have := ha.1; omega⟩
    · refine ⟨⟨by have := ha.1; omega, ha.2⟩, fun hk => ?_⟩
      have hb := hb (by omega)
      rw [eh]
      cases e' : (getO O' o).2 with
      | seq g xs =>
        rw [e'] at hc
        obtain ⟨ys, e1, e2⟩ := hc.ofSeq
        rw [e1] at hb
        show ∃ b, _
        rw [e2]; exact hb
      | _ => trivial
  | eptr o k i off =>
    obtain ⟨ha, hb⟩ := h
    rcases h3 o with h | ⟨e, eh, hc⟩
    · exact ⟨⟨by have := ha.1; omega, ha.2⟩, fun hk => by have := ha.1; omega⟩
    · refine ⟨⟨by have := ha.1; omega, ha.2⟩, fun hk => ?_⟩
      have hb := hb (by omega)
      rw [eh]
      cases e' : (getO O' o).2 with
      | seq g xs =>
        rw [e'] at hc
        obtain ⟨ys, e1, e2⟩ := hc.ofSeq
        rw [e1] at hb
        show ∃ b n cap, _
        rw [e2]; exact hb
      | _ => trivial
  | vptr g x off =>
    obtain ⟨b, p, f, hv, ho, hc, hr⟩ := h
    have hlt : b < w.heap.size := World.block_lt_of_cell? _ _ (hc 0 (gsize_pos g))
    exact ⟨b, p, f, hv, fun h => ho (h2 b hlt h), fun k hk => (World.cell?_of_block (h1 b hlt ho)).trans (hc k hk), fun k c hk => hp _ _ (hr k c hk)⟩
  | fn f => exact h
  | und => trivial

theorem ownOf_lt {w : World} {X : Nat → Prop} {O : Objs} {ρ : Nat → Value} {x : AObj} {h : Value} {b : Nat} (ho : ObR w X O ρ x h) (hb : ownOf x h = some b) : b < w.heap.size := by
  cases x with
  | box t cs =>
    obtain ⟨b', ccs, t', e, hh, _⟩ := ho
    subst e
    simp only [ownOf, blk, Option.some.injEq] at hb
    subst hb
    exact (Array.getElem?_eq_some_iff.1 hh).1
  | seq g xs =>
    rcases ho with ⟨_, e⟩ | ⟨b', cap, ccs, t', e, _, _, hh, _⟩
    · subst e; simp [ownOf, blk] at hb
    · subst e
      simp only [ownOf, blk, Option.some.injEq] at hb
      subst hb
      exact (Array.getElem?_eq_some_iff.1 hh).1
  | fro g xs => simp [ownOf] at hb
  | gone => simp [ownOf] at hb

theorem HRel.lt {c : Ctx} {w : World} {O : Objs} {ρ : Nat → Value} (H : HRel c w O ρ) {o b : Nat} (h : own O ρ o = some b) : b < w.heap.size := ownOf_lt (H.obj o) h

/-- An object that stays, in a block that stays. -/
theorem ObR.stay {w w' : World} {X : Nat → Prop} {O O' : Objs} {ρ ρ' : Nat → Value} {x : AObj} {h : Value} (ho : ObR w X O ρ x h)
    (h1 : ∀ b, b < w.heap.size → ¬ Owned O ρ b → w'.heap[b]? = w.heap[b]?) (h2 : ∀ b, b < w.heap.size → Owned O' ρ' b → Owned O ρ b)
    (hk : ∀ x v, CellR w X O ρ x v → CellR w' X O' ρ' x v) (hb : ∀ b, ownOf x h = some b → w'.heap[b]? = w.heap[b]?) : ObR w' X O' ρ' x h := by
  have hp : ∀ c v, PR w (Av X O ρ) c v → PR w' (Av X O' ρ') c v := fun c v h =>
    h.mono (fun b hb ha => h1 b hb fun h => ha (.inr h)) (fun b hb ha => ha.elim .inl fun h => .inr (h2 b hb h))
  cases x with
  | box t cs =>
    obtain ⟨b, ccs, t', e, hh, hr⟩ := ho
    exact ⟨b, ccs, t', e, (hb b (by rw [e]; rfl)).trans hh, hr.mono hk⟩
  | seq g xs =>
    rcases ho with ⟨e1, e⟩ | ⟨b, cap, ccs, t', e, hcap, hmax, hh, hsz, hr⟩
    · exact .inl ⟨e1, e⟩
    · exact .inr ⟨b, cap, ccs, t', e, hcap, hmax, (hb b (by rw [e]; rfl)).trans hh, hsz, fun k c v hc hv => hp _ _ (hr k c v hc hv)⟩
  | fro g xs => exact hp _ _ ho
  | gone => trivial

theorem owny_of_own {O : Objs} {ρ : Nat → Value} {o b : Nat} (h : own O ρ o = some b) : owny (getO O o).2 := by
  unfold own ownOf at h
  split at h
  · rename_i e; rw [e]; trivial
  · rename_i e; rw [e]; trivial
  · cases h

/-- Several objects turn, and the world with them. -/
theorem hrel_step {c : Ctx} {w w' : World} {O O' : Objs} {ρ ρ' : Nat → Value} (H : HRel c w O ρ)
    (h1 : ∀ b, b < w.heap.size → ¬ Owned O ρ b → w'.heap[b]? = w.heap[b]?)
    (h2 : ∀ b, b < w.heap.size → Owned O' ρ' b → Owned O ρ b)
    (h3 : ∀ o, Stp (getO O o) (ρ o) (getO O' o) (ρ' o))
    (hob : (∀ x v, CellR w c.X O ρ x v → CellR w' c.X O' ρ' x v) → ∀ o, ((getO O' o).2 = (getO O o).2 ∧ ρ' o = ρ o ∧ ∀ b, own O ρ o = some b → w'.heap[b]? = w.heap[b]?) ∨
      ObR w' c.X O' ρ' (getO O' o).2 (ρ' o))
    (hinj : ∀ o o' b, own O' ρ' o = some b → own O' ρ' o' = some b → o = o')
    (hfresh : ∀ o b, own O' ρ' o = some b → own O ρ o = some b ∨ (w.heap.size ≤ b ∧ c.nm ≤ o))
    (hpar : ∀ o, o < c.nm → owny (getO O' o).2 → owny (getO O o).2 ∧ ρ' o = ρ o)
    (hs : w.heap.size ≤ w'.heap.size) (hos : w'.os = w.os) (ht : w'.tape = w.tape) (hout : w'.output = w.output) :
    HRel c w' O' ρ' ∧ ∀ x v, CellR w c.X O ρ x v → CellR w' c.X O' ρ' x v := by
  have hk := keepC (X := c.X) h1 h2 h3
  refine ⟨⟨fun o => ?_, hinj, H.xlt, fun o b h hx => ?_, fun o b h => ?_, fun o ho h => ?_, fun b hb hj => ?_, Nat.le_trans H.size hs, hos.trans H.os, ht.trans H.tape, hout.trans H.output⟩, hk⟩
  · rcases hob hk o with ⟨e, eρ, hb⟩ | h
    · rw [e, eρ]; exact (H.obj o).stay h1 h2 hk hb
    · exact h
  · rcases hfresh o b h with h | ⟨h, _⟩
    · exact H.notX o b h hx
    · have := H.xlt b hx; have := H.size; omega
  · rcases hfresh o b h with h | ⟨h, _⟩
    · exact H.fresh o b h
    · exact .inl (Nat.le_trans H.size h)
  · obtain ⟨a, b⟩ := hpar o ho h; rw [b]; exact H.par o ho a
  · refine (h1 b (Nat.lt_of_lt_of_le hb H.size) fun ⟨o, ho⟩ => ?_).trans (H.frame b hb hj)
    rcases H.fresh o b ho with h | h
    · omega
    · exact hj o h (by
        rw [← H.par o h (owny_of_own ho)]
        unfold own ownOf at ho
        split at ho <;> first | exact ho | (cases ho))

def upd (ρ : Nat → Value) (d : Nat) (h : Value) : Nat → Value := fun o => if o = d then h else ρ o

theorem upd_same (ρ : Nat → Value) (d : Nat) (h : Value) : upd ρ d h d = h := if_pos rfl
theorem upd_other (ρ : Nat → Value) {d o : Nat} (h : Value) (ho : o ≠ d) : upd ρ d h o = ρ o := if_neg ho

theorem getO_setO_same (O : Objs) (d v : Nat) (x : AObj) : getO (setO O d v x) d = (v, x) := by
  induction O with
  | nil => simp [setO, getO]
  | cons a r ih =>
    obtain ⟨k, u⟩ := a
    simp only [setO]
    cases h : Nat.beq k d <;> simp only [getO, h, ih]

theorem getO_setO_other (O : Objs) {d o : Nat} (v : Nat) (x : AObj) (h : o ≠ d) : getO (setO O d v x) o = getO O o := by
  induction O with
  | nil =>
    have : Nat.beq d o = false := by cases e : Nat.beq d o with | true => exact absurd (Nat.eq_of_beq_eq_true e).symm h | false => rfl
    simp [setO, getO, this]
  | cons a r ih =>
    obtain ⟨k, u⟩ := a
    simp only [setO]
    cases hk : Nat.beq k d with
    | true =>
      have : Nat.beq k o = false := by
        cases e : Nat.beq k o with
        | true => exact absurd ((Nat.eq_of_beq_eq_true e).symm.trans (Nat.eq_of_beq_eq_true hk)) h
        | false => rfl
      simp only [getO, this]
    | false => simp only [getO, ih]

theorem getT_setT_same (T : Tmps) (d : Nat) (v : AV) : getT (setT T d v) d = v := by
  induction T with
  | nil => simp [setT, getT]
  | cons a r ih =>
    obtain ⟨k, u⟩ := a
    simp only [setT]
    cases h : Nat.beq k d <;> simp only [getT, h, ih]

theorem getT_setT_other (T : Tmps) {d o : Nat} (v : AV) (h : o ≠ d) : getT (setT T d v) o = getT T o := by
  induction T with
  | nil =>
    have : Nat.beq d o = false := by cases e : Nat.beq d o with | true => exact absurd (Nat.eq_of_beq_eq_true e).symm h | false => rfl
    simp [setT, getT, this]
  | cons a r ih =>
    obtain ⟨k, u⟩ := a
    simp only [setT]
    cases hk : Nat.beq k d with
    | true =>
      have : Nat.beq k o = false := by
        cases e : Nat.beq k o with
        | true => exact absurd ((Nat.eq_of_beq_eq_true e).symm.trans (Nat.eq_of_beq_eq_true hk)) h
        | false => rfl
      simp only [getT, this]
    | false => simp only [getT, ih]

theorem own_set_other {O : Objs} {ρ : Nat → Value} {d o : Nat} (v : Nat) (x : AObj) (h : Value) (ho : o ≠ d) : own (setO O d v x) (upd ρ d h) o = own O ρ o := by
  unfold own; rw [getO_setO_other O v x ho, upd_other ρ h ho]

theorem own_set_same {O : Objs} {ρ : Nat → Value} {d : Nat} (v : Nat) (x : AObj) (h : Value) : own (setO O d v x) (upd ρ d h) d = ownOf x h := by
  unfold own; rw [getO_setO_same, upd_same]

/-- One object turns. -/
theorem hrel_set {c : Ctx} {w w' : World} {O : Objs} {ρ : Nat → Value} (H : HRel c w O ρ) (d v : Nat) (x : AObj) (h : Value)
    (hv : (getO O d).1 < v ∨ ((getO O d).1 = v ∧ h = ρ d ∧ Cmp (getO O d).2 x))
    (h1 : ∀ b, b < w.heap.size → own O ρ d ≠ some b → w'.heap[b]? = w.heap[b]?)
    (hown : ∀ b, ownOf x h = some b → own O ρ d = some b ∨ (w.heap.size ≤ b ∧ c.nm ≤ d))
    (hpar : d < c.nm → owny x → owny (getO O d).2 ∧ h = ρ d)
    (hob : (∀ y u, CellR w c.X O ρ y u → CellR w' c.X (setO O d v x) (upd ρ d h) y u) → ObR w' c.X (setO O d v x) (upd ρ d h) x h)
    (hs : w.heap.size ≤ w'.heap.size) (hos : w'.os = w.os) (ht : w'.tape = w.tape) (hout : w'.output = w.output) :
    HRel c w' (setO O d v x) (upd ρ d h) ∧ ∀ y u, CellR w c.X O ρ y u → CellR w' c.X (setO O d v x) (upd ρ d h) y u := by
  refine hrel_step H (fun b hb hn => h1 b hb fun e => hn ⟨d, e⟩) (fun b hb ⟨o, ho⟩ => ?_) (fun o => ?_) (fun hk o => ?_) (fun o o' b ha hb => ?_) (fun o b hb => ?_) (fun o ho hn => ?_) hs hos ht hout
  · by_cases e : o = d
    · subst e
      rw [own_set_same] at ho
      rcases hown b ho with h | ⟨h, _⟩
      · exact ⟨o, h⟩
      · omega
    · rw [own_set_other v x h e] at ho; exact ⟨o, ho⟩
  · by_cases e : o = d
    · subst e
      rw [getO_setO_same, upd_same]
      exact hv
    · rw [getO_setO_other O v x e, upd_other ρ h e]
      exact .inr ⟨rfl, rfl, .inl rfl⟩
  · by_cases e : o = d
    · subst e
      rw [getO_setO_same, upd_same]
      exact .inr (hob hk)
    · rw [getO_setO_other O v x e, upd_other ρ h e]
      refine .inl ⟨rfl, rfl, fun b hb => h1 b (H.lt hb) fun h => e (H.inj _ _ _ hb h)⟩
  · by_cases e : o = d
    · by_cases e' : o' = d
      · rw [e, e']
      · subst e
        rw [own_set_same] at ha
        rw [own_set_other v x h e'] at hb
        rcases hown b ha with h | ⟨h, _⟩
        · exact H.inj _ _ _ h hb
        · have := H.lt hb; omega
    · by_cases e' : o' = d
      · subst e'
        rw [own_set_same] at hb
        rw [own_set_other v x h e] at ha
        rcases hown b hb with h | ⟨h, _⟩
        · exact H.inj _ _ _ ha h
        · have := H.lt ha; omega
      · rw [own_set_other v x h e] at ha
        rw [own_set_other v x h e'] at hb
        exact H.inj _ _ _ ha hb
  · by_cases e : o = d
    · subst e
      rw [own_set_same] at hb
      rcases hown b hb with h | h
      · exact .inl h
      · exact .inr h
    · rw [own_set_other v x h e] at hb; exact .inl hb
  · by_cases e : o = d
    · subst e
      rw [getO_setO_same] at hn
      rw [upd_same]
      exact hpar ho hn
    · rw [getO_setO_other O v x e] at hn
      exact ⟨hn, upd_other ρ h e⟩

end GV

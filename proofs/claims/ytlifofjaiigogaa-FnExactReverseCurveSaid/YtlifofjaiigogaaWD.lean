/-
  A law's row: its arguments, read as data, are values and lists; its contract gives the row. No condition beyond those named.
-/
import Derived.Test.YtlifofjaiigogaaWC
import Derived.ChangeShapes
import Derived.ChangeArms
import Derived.Below
import Derived.WideShapes
import Derived.ChangeOld
import Derived.Carry
namespace GV
open Go Go.RowKit Go.ChangeShapes Go.WideShapes
set_option linter.unusedSimpArgs false
set_option linter.unusedVariables false

/-- numbers in their kinds' bounds, strings and lists no longer than memory -/
inductive WfC : Cell → Prop
  | int (k : IntKind) (n : Int) (h : k.min ≤ n ∧ n ≤ k.max) : WfC (.int k n)
  | bool (l b : Bool) : WfC (.bool l b)
  | str (s : Bytes) (h : s.length ≤ 9223372036854775807) : WfC (.str s)
  | im (g : GT) (xs : List g.den) (h : xs.length ≤ 9223372036854775807) (hs : ∀ x ∈ xs, ∀ c ∈ enc g x, WfC c) : WfC (.im g xs)

def WfG (g : GT) (x : g.den) : Prop := ∀ c ∈ enc g x, WfC c

theorem WfC.i64 {n : Int} (h : WfC (.int .i64 n)) : -9223372036854775808 ≤ n ∧ n ≤ 9223372036854775807 := by
  cases h with
  | int k n h => simpa [IntKind.min, IntKind.max, IntKind.signed, IntKind.bits] using h

theorem WfC.len {s : Bytes} (h : WfC (.str s)) : s.length ≤ 9223372036854775807 := by
  cases h with
  | str s h => exact h

theorem WfC.list {g : GT} {xs : List g.den} (h : WfC (.im g xs)) : xs.length ≤ 9223372036854775807 ∧ ∀ x ∈ xs, WfG g x := by
  cases h with
  | im g xs h hs => exact ⟨h, hs⟩

inductive LT where
  | int (k : IntKind) | bool | str | sl (g : GT)

def pat : GT → List LT
  | .int => [.int .i64]
  | .u8 => [.int .u8]
  | .str => [.str]
  | .bool => [.bool]
  | .pt => [.int .i64, .int .i64]
  | .frac => [.int .i64, .int .i64]
  | .term => [.str, .int .i64, .int .i64]
  | .linear => [.int .i64, .int .i64, .sl .term]
  | .row => [.str, .int .i64, .int .i64, .sl .term]
  | .system => [.sl .row]
  | .cubic => [.int .i64, .int .i64, .int .i64, .int .i64, .int .i64, .int .i64, .int .i64, .int .i64]
  | .quad => [.int .i64, .int .i64, .int .i64, .int .i64, .int .i64, .int .i64]
  | .knot => [.int .i64, .int .i64, .bool]
  | .loop => [.sl .knot]
  | .outline => [.sl .loop]
  | .segm => [.int .i64, .int .i64, .int .i64, .int .i64, .int .i64, .int .i64, .bool]
  | .token => [.int .i64, .str, .int .i64]
  | .stmt => [.int .i64, .str, .str, .int .i64, .int .i64, .sl .term, .int .i64, .int .i64, .sl .term, .sl .str, .sl .int, .bool, .bool]
  | .curve => [.sl .pt, .bool, .int .i64, .bool, .bool, .int .i64, .int .i64, .int .i64, .int .i64]
  | .ints => [.sl .int]
  | .src => [.sl .u8, .int .i64, .int .u64]

theorem pat_length (g : GT) : (pat g).length = gsize g := by cases g <;> rfl

def LR (w : World) (A : Nat → Prop) : LT → Value → Prop
  | .int k, v => ∃ n, v = .int k n ∧ k.min ≤ n ∧ n ≤ k.max
  | .bool, v => ∃ b, v = .bool b
  | .str, v => ∃ s : Bytes, v = .string ⟨⟨s⟩⟩ ∧ s.length ≤ 9223372036854775807
  | .sl g, v => ∃ xs : List g.den, PR w A (.im g xs) v ∧ WfC (.im g xs)

def LRs (w : World) (A : Nat → Prop) : List LT → List Value → Prop
  | [], [] => True
  | p :: ps, v :: vs => LR w A p v ∧ LRs w A ps vs
  | _, _ => False

def PRs (w : World) (A : Nat → Prop) : List Cell → List Value → Prop
  | [], [] => True
  | c :: cs, v :: vs => (PR w A c v ∧ WfC c) ∧ PRs w A cs vs
  | _, _ => False

section
variable {w : World} {A : Nat → Prop}

theorem LRs.int {k : IntKind} {ps : List LT} {vs : List Value} (h : LRs w A (.int k :: ps) vs) : ∃ n r, vs = .int k n :: r ∧ (k.min ≤ n ∧ n ≤ k.max) ∧ LRs w A ps r := by
  cases vs with
  | nil => exact h.elim
  | cons v r => obtain ⟨⟨n, rfl, h1⟩, h⟩ := h; exact ⟨n, r, rfl, h1, h⟩

theorem LRs.bool {ps : List LT} {vs : List Value} (h : LRs w A (.bool :: ps) vs) : ∃ b r, vs = .bool b :: r ∧ True ∧ LRs w A ps r := by
  cases vs with
  | nil => exact h.elim
  | cons v r => obtain ⟨⟨n, rfl⟩, h⟩ := h; exact ⟨n, r, rfl, trivial, h⟩

theorem LRs.str {ps : List LT} {vs : List Value} (h : LRs w A (.str :: ps) vs) : ∃ (s : Bytes) (r : List Value), vs = .string ⟨⟨s⟩⟩ :: r ∧ s.length ≤ 9223372036854775807 ∧ LRs w A ps r := by
  cases vs with
  | nil => exact h.elim
  | cons v r => obtain ⟨⟨n, rfl, h1⟩, h⟩ := h; exact ⟨n, r, rfl, h1, h⟩

theorem LRs.sl {g : GT} {ps : List LT} {vs : List Value} (h : LRs w A (.sl g :: ps) vs) : ∃ (xs : List g.den) (v : Value) (r : List Value), vs = v :: r ∧ (PR w A (.im g xs) v ∧ WfC (.im g xs)) ∧ LRs w A ps r := by
  cases vs with
  | nil => exact h.elim
  | cons v r => obtain ⟨⟨n, h1⟩, h⟩ := h; exact ⟨n, v, r, rfl, h1, h⟩

theorem LRs.nil {vs : List Value} (h : LRs w A [] vs) : vs = [] := by
  cases vs with
  | nil => rfl
  | cons v r => exact h.elim

theorem pi {k : IntKind} {n : Int} (h : k.min ≤ n ∧ n ≤ k.max) : PR w A (.int k n) (.int k n) ∧ WfC (.int k n) := ⟨.int _ _, .int _ _ h⟩
theorem pb {b : Bool} : PR w A (.bool false b) (.bool b) ∧ WfC (.bool false b) := ⟨.bool _ _, .bool _ _⟩
theorem ps {s : Bytes} (h : s.length ≤ 9223372036854775807) : PR w A (.str s) (.string ⟨⟨s⟩⟩) ∧ WfC (.str s) := ⟨.str _, .str _ h⟩

/-- Values of the right kinds are a value of the kind. -/
theorem mk_of (g : GT) {vs : List Value} (h : LRs w A (pat g) vs) : ∃ x : g.den, PRs w A (enc g x) vs := by
  cases g with
  | int => obtain ⟨a, r, rfl, ha, h⟩ := h.int; obtain rfl := h.nil; exact ⟨a, pi ha, trivial⟩
  | u8 =>
    obtain ⟨a, r, rfl, ha, h⟩ := h.int; obtain rfl := h.nil
    have ha' : 0 ≤ a ∧ a ≤ 255 := by simpa [IntKind.min, IntKind.max, IntKind.signed, IntKind.bits] using ha
    have e : ((UInt8.ofNat a.toNat).toNat : Int) = a := by
      have : a.toNat < 256 := by omega
      rw [UInt8.toNat_ofNat', Nat.mod_eq_of_lt (by omega)]; omega
    refine ⟨(UInt8.ofNat a.toNat : UInt8), ?_⟩
    simp only [enc, e]
    exact ⟨pi ha, trivial⟩
  | str => obtain ⟨a, r, rfl, ha, h⟩ := h.str; obtain rfl := h.nil; exact ⟨a, ps ha, trivial⟩
  | bool => obtain ⟨a, r, rfl, _, h⟩ := h.bool; obtain rfl := h.nil; exact ⟨a, pb, trivial⟩
  | pt => obtain ⟨a, r, rfl, ha, h⟩ := h.int; obtain ⟨b, r, rfl, hb, h⟩ := h.int; obtain rfl := h.nil; exact ⟨⟨a, b⟩, pi ha, pi hb, trivial⟩
  | frac => obtain ⟨a, r, rfl, ha, h⟩ := h.int; obtain ⟨b, r, rfl, hb, h⟩ := h.int; obtain rfl := h.nil; exact ⟨⟨a, b⟩, pi ha, pi hb, trivial⟩
  | term => obtain ⟨s, r, rfl, hs, h⟩ := h.str; obtain ⟨a, r, rfl, ha, h⟩ := h.int; obtain ⟨b, r, rfl, hb, h⟩ := h.int; obtain rfl := h.nil; exact ⟨⟨s, ⟨a, b⟩⟩, ps hs, pi ha, pi hb, trivial⟩
  | linear => obtain ⟨a, r, rfl, ha, h⟩ := h.int; obtain ⟨b, r, rfl, hb, h⟩ := h.int; obtain ⟨xs, v, r, rfl, hx, h⟩ := h.sl; obtain rfl := h.nil; exact ⟨⟨⟨a, b⟩, xs⟩, pi ha, pi hb, hx, trivial⟩
  | row => obtain ⟨s, r, rfl, hs, h⟩ := h.str; obtain ⟨a, r, rfl, ha, h⟩ := h.int; obtain ⟨b, r, rfl, hb, h⟩ := h.int; obtain ⟨xs, v, r, rfl, hx, h⟩ := h.sl; obtain rfl := h.nil; exact ⟨⟨s, ⟨⟨a, b⟩, xs⟩⟩, ps hs, pi ha, pi hb, hx, trivial⟩
  | system => obtain ⟨xs, v, r, rfl, hx, h⟩ := h.sl; obtain rfl := h.nil; exact ⟨⟨xs⟩, hx, trivial⟩
  | cubic =>
    obtain ⟨a, r, rfl, ha, h⟩ := h.int; obtain ⟨b, r, rfl, hb, h⟩ := h.int; obtain ⟨c, r, rfl, hc, h⟩ := h.int; obtain ⟨d, r, rfl, hd, h⟩ := h.int
    obtain ⟨a', r, rfl, ha', h⟩ := h.int; obtain ⟨b', r, rfl, hb', h⟩ := h.int; obtain ⟨c', r, rfl, hc', h⟩ := h.int; obtain ⟨d', r, rfl, hd', h⟩ := h.int
    obtain rfl := h.nil; exact ⟨⟨⟨a, b⟩, ⟨c, d⟩, ⟨a', b'⟩, ⟨c', d'⟩⟩, pi ha, pi hb, pi hc, pi hd, pi ha', pi hb', pi hc', pi hd', trivial⟩
  | quad =>
    obtain ⟨a, r, rfl, ha, h⟩ := h.int; obtain ⟨b, r, rfl, hb, h⟩ := h.int; obtain ⟨c, r, rfl, hc, h⟩ := h.int; obtain ⟨d, r, rfl, hd, h⟩ := h.int
    obtain ⟨a', r, rfl, ha', h⟩ := h.int; obtain ⟨b', r, rfl, hb', h⟩ := h.int
    obtain rfl := h.nil; exact ⟨⟨⟨a, b⟩, ⟨c, d⟩, ⟨a', b'⟩⟩, pi ha, pi hb, pi hc, pi hd, pi ha', pi hb', trivial⟩
  | knot => obtain ⟨a, r, rfl, ha, h⟩ := h.int; obtain ⟨b, r, rfl, hb, h⟩ := h.int; obtain ⟨q, r, rfl, _, h⟩ := h.bool; obtain rfl := h.nil; exact ⟨⟨⟨a, b⟩, q⟩, pi ha, pi hb, pb, trivial⟩
  | loop => obtain ⟨xs, v, r, rfl, hx, h⟩ := h.sl; obtain rfl := h.nil; exact ⟨⟨xs⟩, hx, trivial⟩
  | outline => obtain ⟨xs, v, r, rfl, hx, h⟩ := h.sl; obtain rfl := h.nil; exact ⟨⟨xs⟩, hx, trivial⟩
  | segm =>
    obtain ⟨a, r, rfl, ha, h⟩ := h.int; obtain ⟨b, r, rfl, hb, h⟩ := h.int; obtain ⟨c, r, rfl, hc, h⟩ := h.int; obtain ⟨d, r, rfl, hd, h⟩ := h.int
    obtain ⟨a', r, rfl, ha', h⟩ := h.int; obtain ⟨b', r, rfl, hb', h⟩ := h.int; obtain ⟨q, r, rfl, _, h⟩ := h.bool
    obtain rfl := h.nil; exact ⟨⟨⟨⟨a, b⟩, ⟨c, d⟩, ⟨a', b'⟩⟩, q⟩, pi ha, pi hb, pi hc, pi hd, pi ha', pi hb', pb, trivial⟩
  | token => obtain ⟨a, r, rfl, ha, h⟩ := h.int; obtain ⟨s, r, rfl, hs, h⟩ := h.str; obtain ⟨b, r, rfl, hb, h⟩ := h.int; obtain rfl := h.nil; exact ⟨⟨a, s, b⟩, pi ha, ps hs, pi hb, trivial⟩
  | stmt =>
    obtain ⟨k, r, rfl, hk, h⟩ := h.int; obtain ⟨s, r, rfl, hs, h⟩ := h.str; obtain ⟨s', r, rfl, hs', h⟩ := h.str
    obtain ⟨a, r, rfl, ha, h⟩ := h.int; obtain ⟨b, r, rfl, hb, h⟩ := h.int; obtain ⟨xs, v, r, rfl, hx, h⟩ := h.sl
    obtain ⟨a', r, rfl, ha', h⟩ := h.int; obtain ⟨b', r, rfl, hb', h⟩ := h.int; obtain ⟨xs', v', r, rfl, hx', h⟩ := h.sl
    obtain ⟨ys, v1, r, rfl, hy, h⟩ := h.sl; obtain ⟨zs, v2, r, rfl, hz, h⟩ := h.sl; obtain ⟨p, r, rfl, _, h⟩ := h.bool; obtain ⟨q, r, rfl, _, h⟩ := h.bool
    obtain rfl := h.nil
    exact ⟨⟨k, s, s', ⟨⟨a, b⟩, xs⟩, ⟨⟨a', b'⟩, xs'⟩, ys, zs, p, q⟩, pi hk, ps hs, ps hs', pi ha, pi hb, hx, pi ha', pi hb', hx', hy, hz, pb, pb, trivial⟩
  | curve =>
    obtain ⟨xs, v, r, rfl, hx, h⟩ := h.sl; obtain ⟨p, r, rfl, _, h⟩ := h.bool; obtain ⟨t, r, rfl, ht, h⟩ := h.int; obtain ⟨p', r, rfl, _, h⟩ := h.bool; obtain ⟨p'', r, rfl, _, h⟩ := h.bool
    obtain ⟨a, r, rfl, ha, h⟩ := h.int; obtain ⟨b, r, rfl, hb, h⟩ := h.int; obtain ⟨c, r, rfl, hc, h⟩ := h.int; obtain ⟨d, r, rfl, hd, h⟩ := h.int
    obtain rfl := h.nil
    exact ⟨⟨xs, p, t, p', p'', ⟨a, b⟩, ⟨c, d⟩⟩, hx, pb, pi ht, pb, pb, pi ha, pi hb, pi hc, pi hd, trivial⟩
  | ints => obtain ⟨xs, v, r, rfl, hx, h⟩ := h.sl; obtain rfl := h.nil; exact ⟨xs, hx, trivial⟩
  | src => obtain ⟨xs, v, r, rfl, hx, h⟩ := h.sl; obtain ⟨a, r, rfl, ha, h⟩ := h.int; obtain ⟨b, r, rfl, hb, h⟩ := h.int; obtain rfl := h.nil; exact ⟨⟨xs, a, b⟩, hx, pi ha, pi hb, trivial⟩

theorem PRs.get {cs : List Cell} {vs : List Value} (h : PRs w A cs vs) : cs.length = vs.length ∧ (∀ (k : Nat) (c : Cell) (v : Value), cs[k]? = some c → vs[k]? = some v → PR w A c v) ∧ ∀ c ∈ cs, WfC c := by
  induction cs generalizing vs with
  | nil => cases vs with
    | nil => exact ⟨rfl, fun k c v h => by simp at h, fun c h => by cases h⟩
    | cons _ _ => exact h.elim
  | cons c r ih =>
    cases vs with
    | nil => exact h.elim
    | cons v s =>
      obtain ⟨⟨h1, h2⟩, h3⟩ := h
      obtain ⟨a1, a2, a3⟩ := ih h3
      refine ⟨by simp [a1], fun k y u hy hu => ?_, fun y hy => ?_⟩
      · cases k with
        | zero => simp at hy hu; subst hy; subst hu; exact h1
        | succ k => exact a2 k y u (by simpa using hy) (by simpa using hu)
      · rcases List.mem_cons.1 hy with rfl | hy
        · exact h2
        · exact a3 y hy

end

/-! ### types' leaves -/

def leavesF (rec : TypeId → Option (List TypeId)) : List Field → Nat → Option (List TypeId)
  | [], _ => some []
  | f :: fs, o => match Nat.beq f.offset o with
    | true => match rec f.type with
      | some ls => match leavesF rec fs (o + ls.length) with
        | some r => some (ls ++ r)
        | none => none
      | none => none
    | false => none

def leaves (P : Program) : Nat → TypeId → Option (List TypeId)
  | 0, _ => none
  | n + 1, t => match P.underlying t with
    | some (.struct fs) => match leavesF (leaves P n) fs.toList 0 with
      | some ls => match Nat.beq ls.length (P.cellsOf t) with | true => some ls | false => none
      | none => none
    | some .bool => match Nat.beq 1 (P.cellsOf t) with | true => some [t] | false => none
    | some (.int _) => match Nat.beq 1 (P.cellsOf t) with | true => some [t] | false => none
    | some .string => match Nat.beq 1 (P.cellsOf t) with | true => some [t] | false => none
    | some (.slice _) => match Nat.beq 1 (P.cellsOf t) with | true => some [t] | false => none
    | _ => none

def leavesB (sh : GT → TypeId → Bool) (P : Program) : List LT → List TypeId → Bool
  | [], [] => true
  | p :: ps, t :: ts => (match p, P.underlying t with
    | .int k, some (.int k') => decide (k = k')
    | .bool, some .bool => true
    | .str, some .string => true
    | .sl g, some (.slice e) => sh g e
    | _, _ => false) && leavesB sh P ps ts
  | _, _ => false

def shapeB (P : Program) : Nat → GT → TypeId → Bool
  | 0, _, _ => false
  | n + 1, g, t => match leaves P 6 t with
    | some ls => leavesB (shapeB P n) P (pat g) ls
    | none => false

section
variable {H : Type} {ec : TypeId × Value → H} {P : Program} {w : World}

abbrev TrodAny (ec : TypeId × Value → H) (P : Program) (w : World) (t : TypeId) (cs : List Value) : Prop :=
  ∃ m x, DataW.trod ec P w 0 (fun _ => true) true m t cs = some x

def LeafsOk (ec : TypeId × Value → H) (P : Program) (w : World) (t : TypeId) (ls : List TypeId) : Prop :=
  ls.length = P.cellsOf t ∧ ∀ (m : Nat) (cs : List Value) (x : DataW H × List MemPlace), DataW.trod ec P w 0 (fun _ => true) true m t cs = some x → cs.length = ls.length ∧
    ∀ (k : Nat) (lt : TypeId) (v : Value), ls[k]? = some lt → cs[k]? = some v → TrodAny ec P w lt [v]

theorem leavesF_trod {rec : TypeId → Option (List TypeId)} (hrec : ∀ t ls, rec t = some ls → LeafsOk ec P w t ls) : ∀ (fs : List Field) (o : Nat) (ls : List TypeId), leavesF rec fs o = some ls →
    ∀ (m : Nat) (cs : List Value), (∀ f ∈ fs, ∃ x, DataW.trod ec P w 0 (fun _ => true) true m f.type ((cs.drop f.offset).take (P.cellsOf f.type)) = some x) →
    ∀ (k : Nat) (lt : TypeId) (v : Value), ls[k]? = some lt → cs[o + k]? = some v → TrodAny ec P w lt [v] := by
  intro fs
  induction fs with
  | nil => intro o ls h m cs _ k lt v hl _; simp only [leavesF, Option.some.injEq] at h; subst h; simp at hl
  | cons f fs ih =>
    intro o ls h m cs hf k lt v hl hv
    simp only [leavesF] at h
    split at h
    · rename_i ho
      have ho := Nat.eq_of_beq_eq_true ho
      split at h
      · rename_i l1 h1
        split at h
        · rename_i r hr
          simp only [Option.some.injEq] at h
          subst h
          obtain ⟨hsz, hall⟩ := hrec _ _ h1
          rcases Nat.lt_or_ge k l1.length with hk | hk
          · obtain ⟨x, hx⟩ := hf f List.mem_cons_self
            obtain ⟨_, hg⟩ := hall _ _ _ hx
            refine hg k lt v (by rwa [List.getElem?_append_left hk] at hl) ?_
            rw [List.getElem?_take, if_pos (by omega), List.getElem?_drop, ho]
            exact hv
          · refine ih _ _ hr m cs (fun g hg => hf g (List.mem_cons_of_mem _ hg)) (k - l1.length) lt v ?_ ?_
            · rwa [List.getElem?_append_right hk] at hl
            · rw [show o + l1.length + (k - l1.length) = o + k by omega]; exact hv
        · cases h
      · cases h
    · cases h

theorem leaves_trod : ∀ (n : Nat) (t : TypeId) (ls : List TypeId), leaves P n t = some ls → LeafsOk ec P w t ls := by
  intro n
  induction n with
  | zero => intro t ls h; cases h
  | succ n ih =>
    intro t ls h
    have one : (match Nat.beq 1 (P.cellsOf t) with | true => some [t] | false => none) = some ls → (∀ m cs x, DataW.trod ec P w 0 (fun _ => true) true m t cs = some x → ∃ v, cs = [v]) → LeafsOk ec P w t ls := by
      intro h hs
      split at h
      · rename_i hb
        simp only [Option.some.injEq] at h
        subst h
        refine ⟨Nat.eq_of_beq_eq_true hb, fun m cs x hx => ?_⟩
        obtain ⟨v, rfl⟩ := hs m cs x hx
        refine ⟨rfl, fun k lt u hl hu => ?_⟩
        cases k with
        | zero => simp at hl hu; subst hl; subst hu; exact ⟨m, x, hx⟩
        | succ k => simp at hl
      · cases h
    simp only [leaves] at h
    split at h
    · rename_i fs hu
      split at h
      · rename_i l1 h1
        split at h
        · rename_i hb
          simp only [Option.some.injEq] at h
          subst h
          have hb := Nat.eq_of_beq_eq_true hb
          refine ⟨hb, fun m cs x hx => ?_⟩
          obtain ⟨xs, m', rfl, rfl, hl, hlx, hf⟩ := DataW.trod_struct hu hx
          refine ⟨by omega, fun k lt v hk hv => ?_⟩
          refine leavesF_trod ih _ _ _ h1 m' cs (fun f hfm => ?_) k lt v hk (by rwa [Nat.zero_add])
          obtain ⟨i, hi, e⟩ := List.mem_iff_getElem.1 hfm
          have hi' : i < fs.size := by simpa using hi
          have := hf i f (by rw [← e]; simp [hi'])
          rw [List.getElem?_eq_getElem (by omega)] at this
          exact ⟨_, this⟩
        · cases h
      · cases h
    · rename_i hu
      exact one h fun m cs x hx => by obtain ⟨b, e, _⟩ := DataW.trod_bool hu hx; exact ⟨_, e⟩
    · rename_i hu
      exact one h fun m cs x hx => by obtain ⟨b, e, _⟩ := DataW.trod_int hu hx; exact ⟨_, e⟩
    · rename_i hu
      exact one h fun m cs x hx => by obtain ⟨b, e, _⟩ := DataW.trod_string hu hx; exact ⟨_, e⟩
    · rename_i hu
      exact one h fun m cs x hx => by
        rcases DataW.trod_slice hu hx with ⟨e, _⟩ | ⟨a, len, cap, _, _, _, _, e, _⟩
        · exact ⟨_, e⟩
        · exact ⟨_, e⟩
    · cases h

theorem spot_none {a : Addr} {v : Value} (h : w.cell? a = some v) : a.spot = none := by
  unfold World.cell? at h
  split at h
  · split at h
    · cases h
    · rename_i hs
      cases e : a.spot with
      | none => rfl
      | some _ => rw [e] at hs; simp at hs
  · cases h

theorem leavesB_ok {sh : GT → TypeId → Bool} (hsh : ∀ g t, sh g t = true → P.cellsOf t = gsize g ∧ ∀ cs, TrodAny ec P w t cs → ∃ y : g.den, PRs w (fun _ => False) (enc g y) cs) :
    ∀ (ps : List LT) (ts : List TypeId) (vs : List Value), leavesB sh P ps ts = true → vs.length = ts.length → (∀ (k : Nat) (lt : TypeId) (v : Value), ts[k]? = some lt → vs[k]? = some v → TrodAny ec P w lt [v]) → LRs w (fun _ => False) ps vs := by
  intro ps
  induction ps with
  | nil =>
    intro ts vs h hl _
    cases ts with
    | nil => cases vs with
      | nil => trivial
      | cons _ _ => simp at hl
    | cons _ _ => simp [leavesB] at h
  | cons p ps ih =>
    intro ts vs h hl hv
    cases ts with
    | nil => simp [leavesB] at h
    | cons t ts =>
      cases vs with
      | nil => simp at hl
      | cons v vs =>
        simp only [leavesB, Bool.and_eq_true] at h
        refine ⟨?_, ih ts vs h.2 (by simpa using hl) fun k lt u h1 h2 => hv (k + 1) lt u (by simpa using h1) (by simpa using h2)⟩
        obtain ⟨m, x, hx⟩ := hv 0 t v rfl rfl
        have h1 := h.1
        split at h1
        · rename_i k k' hu
          have := of_decide_eq_true h1
          subst this
          obtain ⟨n, e, _, hw⟩ := DataW.trod_int hu hx
          cases e
          simp only [Lit.wf, Bool.and_eq_true, decide_eq_true_eq] at hw
          exact ⟨n, rfl, hw.1, hw.2⟩
        · rename_i hu
          obtain ⟨b, e, _⟩ := DataW.trod_bool hu hx
          cases e
          exact ⟨b, rfl⟩
        · rename_i hu
          obtain ⟨s, e, _, hs⟩ := DataW.trod_string hu hx
          cases e
          obtain ⟨⟨l⟩⟩ := s
          refine ⟨l, rfl, ?_⟩
          have : (⟨⟨l⟩⟩ : ByteArray).size = l.length := rfl
          rw [this] at hs
          exact hs
        · rename_i g e hu
          obtain ⟨hsz, hel⟩ := hsh g e h1
          rcases DataW.trod_slice hu hx with ⟨e1, _⟩ | ⟨a, len, cap, elems, rest, m', rfl, e1, _, _, hlc, hcm, hlen, hget, hsp, _⟩
          · cases e1
            exact ⟨[], .none g none, .im g [] (by simp) (fun x hx => by cases hx)⟩
          · cases e1
            have hmx : cap ≤ 9223372036854775807 := hcm
            have key : ∀ (q : Nat) (z : DataW H × List MemPlace), (w.cells? 0 (a.add (q * P.cellsOf e)) (P.cellsOf e)).bind (DataW.trod ec P w 0 (fun _ => true) true m' e) = some z →
                ∃ (cs : List Value) (y : g.den), cs.length = gsize g ∧ (∀ j, j < gsize g → w.cell? ((a.add (q * gsize g)).add j) = cs[j]?) ∧ PRs w (fun _ => False) (enc g y) cs := by
              intro q z hz
              cases hc : w.cells? 0 (a.add (q * P.cellsOf e)) (P.cellsOf e) with
              | none => rw [hc] at hz; cases hz
              | some cs =>
                rw [hc] at hz
                obtain ⟨y, hy⟩ := hel cs ⟨m', z, hz⟩
                obtain ⟨_, b2, b3⟩ := World.cells?_some hc
                rw [hsz] at b2 b3
                exact ⟨cs, y, b2, b3, hy⟩
            by_cases hcap : cap = 0
            · subst hcap
              obtain rfl : len = 0 := by omega
              exact ⟨[], .none g (some a), .im g [] (by simp) (fun x hx => by cases hx)⟩
            · have hspot : a.spot = none := by
                have : ∃ (cs : List Value) (y : g.den), cs.length = gsize g ∧ (∀ j, j < gsize g → w.cell? ((a.add (0 * gsize g)).add j) = cs[j]?) ∧ PRs w (fun _ => False) (enc g y) cs := by
                  by_cases hl0 : 0 < len
                  · have := hget 0 hl0
                    rw [List.getElem?_eq_getElem (by omega)] at this
                    exact key 0 _ this
                  · obtain rfl : len = 0 := by omega
                    obtain ⟨h2, h3⟩ := hsp rfl
                    have := h3 0 (by omega)
                    rw [List.getElem?_eq_getElem (by omega)] at this
                    exact key 0 _ this
                obtain ⟨cs, y, c1, c2, _⟩ := this
                have := c2 0 (gsize_pos g)
                rw [List.getElem?_eq_getElem (by have := gsize_pos g; omega)] at this
                simp only [Nat.zero_mul, Addr.add, if_true] at this
                exact spot_none this
              obtain ⟨b, p, sp⟩ := a
              simp only at hspot
              subst hspot
              have key2 : ∀ q : Nat, ∃ (cs : List Value) (y : g.den), q < len → cs.length = gsize g ∧ (∀ j, j < gsize g → w.cell? ⟨b, p + q * gsize g + j, none⟩ = cs[j]?) ∧ PRs w (fun _ => False) (enc g y) cs := by
                intro q
                by_cases hq : q < len
                · have := hget q hq
                  rw [List.getElem?_eq_getElem (by omega)] at this
                  obtain ⟨cs, y, c1, c2, c3⟩ := key q _ this
                  exact ⟨cs, y, fun _ => ⟨c1, fun j hj => by have := c2 j hj; rwa [Addr.add_lit, Addr.add_lit] at this, c3⟩⟩
                · exact ⟨[], default, fun h => absurd h hq⟩
              let CS : Nat → List Value := fun q => Classical.choose (key2 q)
              let Y : Nat → g.den := fun q => Classical.choose (Classical.choose_spec (key2 q))
              have hCS : ∀ q, q < len → (CS q).length = gsize g ∧ (∀ j, j < gsize g → w.cell? ⟨b, p + q * gsize g + j, none⟩ = (CS q)[j]?) ∧ PRs w (fun _ => False) (enc g (Y q)) (CS q) :=
                fun q hq => Classical.choose_spec (Classical.choose_spec (key2 q)) hq
              have hlx : ((List.range len).map Y).length = len := by simp
              have hYx : ∀ q, q < len → ((List.range len).map Y)[q]? = some (Y q) := fun q hq => by rw [List.getElem?_map, List.getElem?_range hq]; rfl
              have hdm : ∀ k, k < len * gsize g → k / gsize g < len ∧ k % gsize g < gsize g ∧ k / gsize g * gsize g + k % gsize g = k := fun k hk =>
                ⟨Nat.div_lt_of_lt_mul (by rwa [Nat.mul_comm] at hk), Nat.mod_lt _ (gsize_pos g), by rw [Nat.mul_comm]; exact Nat.div_add_mod k (gsize g)⟩
              refine ⟨(List.range len).map Y, ?_, .im g _ (by rw [hlx]; omega) fun x hx => ?_⟩
              · have := PR.im (w := w) (A := fun _ => False) g ((List.range len).map Y) b p cap (fun k => (CS (k / gsize g)).getD (k % gsize g) undef) ⟨by rw [hlx]; exact hlc, hcm⟩ (fun k hk => ?_) (fun k cc hk => ?_)
                · rw [hlx] at this; exact this
                · rw [flat_length, hlx] at hk
                  obtain ⟨d1, d2, d3⟩ := hdm k hk
                  obtain ⟨c1, c2, _⟩ := hCS _ d1
                  have := c2 _ d2
                  rw [Nat.add_assoc, d3] at this
                  refine ⟨id, this.trans ?_⟩
                  rw [List.getD_eq_getElem?_getD, List.getElem?_eq_getElem (by omega)]
                  rfl
                · have hk' : k < (flat g ((List.range len).map Y)).length := (List.getElem?_eq_some_iff.1 hk).1
                  rw [flat_length, hlx] at hk'
                  obtain ⟨d1, d2, d3⟩ := hdm k hk'
                  obtain ⟨c1, _, c3⟩ := hCS _ d1
                  have hfg := flat_get g _ _ _ _ (hYx _ d1) d2
                  rw [d3, hk] at hfg
                  refine c3.get.2.1 (k % gsize g) cc _ hfg.symm ?_
                  rw [List.getD_eq_getElem?_getD, List.getElem?_eq_getElem (by omega)]
                  rfl
              · obtain ⟨q, hq, rfl⟩ := List.mem_map.1 hx
                have hq := List.mem_range.1 hq
                exact (hCS q hq).2.2.get.2.2
        · cases h1

/-- Data of a type of the right shape is a value of the kind. -/
theorem shape_trod : ∀ (n : Nat) (g : GT) (t : TypeId), shapeB P n g t = true → P.cellsOf t = gsize g ∧ ∀ cs, TrodAny ec P w t cs → ∃ y : g.den, PRs w (fun _ => False) (enc g y) cs := by
  intro n
  induction n with
  | zero => intro g t h; cases h
  | succ n ih =>
    intro g t h
    simp only [shapeB] at h
    split at h
    · rename_i ls hls
      have hL := leaves_trod (ec := ec) (P := P) (w := w) _ _ _ hls
      have hlen : ∀ (ps : List LT) (ts : List TypeId), leavesB (shapeB P n) P ps ts = true → ts.length = ps.length := by
        intro ps
        induction ps with
        | nil => intro ts h; cases ts <;> simp [leavesB] at h ⊢
        | cons p ps ih => intro ts h; cases ts with
          | nil => simp [leavesB] at h
          | cons t ts => simp only [leavesB, Bool.and_eq_true] at h; simp [ih ts h.2]
      refine ⟨by rw [← hL.1, hlen _ _ h, pat_length], fun cs ⟨m, x, hx⟩ => ?_⟩
      obtain ⟨h1, h2⟩ := hL.2 m cs x hx
      exact mk_of g (leavesB_ok ih _ _ _ h h1 h2)
    · cases h

/-! ### a law's arguments -/

def notU8 : GT → Bool
  | .u8 => false
  | _ => true

def isStructB (P : Program) (t : TypeId) : Bool := match P.underlying t with
  | some (.struct _) => true
  | _ => false

def argsB (P : Program) : List AT → List TypeId → Bool
  | [], [] => true
  | .a g :: r, t :: ts => shapeB P 6 g t && (match isAggG g, isStructB P t with | true, true => true | false, false => true | _, _ => false) && notU8 g && argsB P r ts
  | .s g :: r, t :: ts => (match P.underlying t with | some (.slice e) => leavesB (shapeB P 6) P [.sl g] [t] | _ => false) && argsB P r ts
  | _, _ => false

def WfA : (t : AT) → t.den → Prop
  | .a g, x => WfG g x
  | .s g, xs => WfC (.im g xs)
  | .p g, x => WfG g x
  | .f _, _ => True

def WfAs : (ts : List AT) → Args ts → Prop
  | [], _ => True
  | t :: ts, (x, y) => WfA t x ∧ WfAs ts y

theorem dec_enc (g : GT) (x : g.den) (h : notU8 g = true) : dec g (enc g x) = some (x, none) := by
  cases g <;> first | rfl | cases h

theorem decA_enc {t : AT} {x : t.den} (h : ∀ g, t = .a g → notU8 g = true) : decA t (encA t x) = some x := by
  cases t with
  | a g =>
    have hg := h g rfl
    simp only [encA]
    cases hi : isAggG g with
    | true =>
      simp only [asV, decA, hi, dec_enc g x hg]
    | false =>
      obtain ⟨q, hq⟩ := one_cell hi x
      have := dec_enc g x hg
      rw [hq] at this ⊢
      simp only [asV, decA, hi, this]
  | s g => simp [encA, decA]
  | p g => simp [encA, decA]
  | f n =>
    have : Nat.beq n n = true := by simp
    simp [encA, decA, this]

theorem okWide_cells {r : Reach} {base : Nat} {t : TypeId} {v : Value} (h : Value.okWide P w r base t v) (hs : isStructB P t = false) (ha : ∀ n e, P.underlying t ≠ some (.array n e)) : v.cells = #[v] ∧ ∀ cs, v ≠ .agg cs := by
  unfold isStructB at hs
  unfold Value.okWide at h
  split at h
  · rename_i fs hu
    rw [hu] at hs; cases hs
  · rename_i n e hu
    exact absurd hu (ha n e)
  · have : ∀ cs, v ≠ .agg cs := by
      intro cs e
      subst e
      unfold Cell.okWide at h
      split at h <;> first | (rename_i h1 _; cases h1; done) | (simp_all; done) | skip
      all_goals (unfold Cell.ok at h; split at h <;> simp_all)
    refine ⟨?_, this⟩
    cases v <;> first | rfl | exact absurd rfl (this _)

theorem arg_read {base : Nat} {ρ : Nat → Value} (t : AT) (ty : TypeId) {v : Value} {d : DataW H} {ps : List MemPlace} (h : argsB P [t] [ty] = true) (ht : DataW.Trod ec P w 0 (fun _ => true) true ty v d ps) (ho : Value.okWide P w .any base ty v) :
    ∃ x : t.den, WfA t x ∧ AR (CellR w (fun _ => False) [] ρ) (encA t x) v := by
  have hav : ∀ b, ¬ Av (fun _ => False) [] ρ b := by
    rintro b (h | ⟨o, h⟩)
    · exact h
    · simp [own, getO, ownOf] at h
  have hp : ∀ {c : Cell} {u : Value}, PR w (fun _ => False) c u → CellR w (fun _ => False) [] ρ c u := fun h => (h.mono (fun _ _ _ => rfl) (fun b _ hb => hav b hb)).cell
  obtain ⟨m, ht⟩ := ht
  cases t with
  | a g =>
    simp only [argsB, Bool.and_eq_true] at h
    obtain ⟨⟨⟨h1, h2⟩, h3⟩, _⟩ := h
    obtain ⟨_, hx⟩ := shape_trod (ec := ec) (w := w) _ g ty h1
    obtain ⟨y, hy⟩ := hx _ ⟨m, _, ht⟩
    obtain ⟨g1, g2, g3⟩ := hy.get
    refine ⟨y, g3, ?_⟩
    simp only [encA]
    split at h2
    · rename_i ha hs
      rw [ha]
      unfold isStructB at hs
      split at hs
      · rename_i fs hu
        simp only [Value.okWide, hu] at ho
        obtain ⟨cs, rfl, _⟩ := ho
        exact ⟨cs, rfl, g1, fun k c u hc hu => hp (g2 k c u hc hu)⟩
      · cases hs
    · rename_i ha hs
      rw [ha]
      obtain ⟨q, hq⟩ := one_cell ha y
      have hna : ∀ n e, P.underlying ty ≠ some (.array n e) := by
        intro n e hu
        simp [shapeB, leaves, hu] at h1
      obtain ⟨hc, _⟩ := okWide_cells ho hs hna
      rw [hc] at g2
      rw [hq] at g2 ⊢
      exact hp (g2 0 q v rfl rfl)
    · cases h2
  | s g =>
    simp only [argsB, Bool.and_eq_true] at h
    obtain ⟨h1, _⟩ := h
    split at h1
    · rename_i e hu
      obtain ⟨a, len, cap, rfl⟩ := okWide_slice hu ho
      have := leavesB_ok (ec := ec) (P := P) (w := w) (sh := shapeB P 6) (shape_trod 6) [.sl g] [ty] [.slice a len cap] h1 rfl fun k lt v hl hv => by
        cases k with
        | zero => simp at hl hv; subst hl; subst hv; exact ⟨m, _, ht⟩
        | succ k => simp at hl
      obtain ⟨⟨xs, h1, h2⟩, _⟩ := this
      exact ⟨xs, h2, hp h1⟩
    · cases h1
  | p g => simp [argsB] at h
  | f n => simp [argsB] at h

theorem argsB_cons {t : AT} {r : List AT} {ty : TypeId} {tys : List TypeId} (h : argsB P (t :: r) (ty :: tys) = true) : argsB P [t] [ty] = true ∧ argsB P r tys = true := by
  cases t <;> simp_all [argsB]

theorem args_read {base : Nat} {ρ : Nat → Value} : ∀ (ts : List AT) (tys : List TypeId) (vs : List Value) (ds : List (DataW H)) (ps : List MemPlace), argsB P ts tys = true → DataW.TrodAll ec P w 0 (fun _ => true) true tys vs ds ps →
    (∀ (j : Nat) t v, tys[j]? = some t → vs[j]? = some v → Value.okWide P w .any base t v) → ∃ a : Args ts, WfAs ts a ∧ vs.length = ts.length ∧ ∀ (k : Nat) (x : AV) (v : Value), (encAs ts a)[k]? = some x → vs[k]? = some v → AR (CellR w (fun _ => False) [] ρ) x v := by
  intro ts
  induction ts with
  | nil =>
    intro tys vs ds ps h hA _
    cases tys with
    | nil => obtain ⟨rfl, _⟩ := trodAll_nil hA; exact ⟨(), trivial, rfl, fun k x v h => by simp [encAs] at h⟩
    | cons _ _ => simp [argsB] at h
  | cons t r ih =>
    intro tys vs ds ps h hA ho
    cases tys with
    | nil => cases t <;> simp [argsB] at h
    | cons ty tys =>
      obtain ⟨v, vs, d, ds, p, q, rfl, rfl, rfl, h1, h2⟩ := trodAll_cons hA
      obtain ⟨b1, b2⟩ := argsB_cons h
      obtain ⟨x, x1, x2⟩ := arg_read (ρ := ρ) t ty b1 h1 (ho 0 ty v rfl rfl)
      obtain ⟨a, a1, a2, a3⟩ := ih tys vs ds q b2 h2 fun j t v hj hv => ho (j + 1) t v (by simpa using hj) (by simpa using hv)
      refine ⟨(x, a), ⟨x1, a1⟩, by simp [a2], fun k z u hz hu => ?_⟩
      cases k with
      | zero => simp [encAs] at hz hu; subst hz; subst hu; exact x2
      | succ k => exact a3 k z u (by simpa [encAs] using hz) (by simpa using hu)

theorem argsB_enc : ∀ (ts : List AT) (tys : List TypeId) (a : Args ts), argsB P ts tys = true → decAs ts (encAs ts a) = some a := by
  intro ts
  induction ts with
  | nil => intro tys a _; rfl
  | cons t r ih =>
    intro tys a h
    cases tys with
    | nil => cases t <;> simp [argsB] at h
    | cons ty tys =>
      obtain ⟨b1, b2⟩ := argsB_cons h
      obtain ⟨x, y⟩ := a
      simp only [encAs, decAs]
      rw [decA_enc fun g e => by subst e; simp only [argsB, Bool.and_eq_true] at b1; exact b1.1.2]
      simp only [ih tys y b2]

theorem trodAll_lt : ∀ {tys : List TypeId} {vs : List Value} {ds : List (DataW H)} {ps : List MemPlace}, DataW.TrodAll ec P w 0 (fun _ => true) true tys vs ds ps → ∀ x ∈ ps, x.block < w.heap.size := by
  intro tys
  induction tys with
  | nil => intro vs ds ps h x hx; obtain ⟨_, _, rfl⟩ := trodAll_nil h; cases hx
  | cons t ts ih =>
    intro vs ds ps h x hx
    obtain ⟨v, vs, d, ds, p, q, rfl, rfl, rfl, ⟨m, h1⟩, h2⟩ := trodAll_cons h
    rcases List.mem_append.1 hx with hx | hx
    · exact DataW.trod_lt m _ _ _ h1 x hx
    · exact ih h2 x hx

/-- Arguments read as they did where nothing old has turned. -/
theorem trodAll_below (hl : laidOutB P = true) {W W' : World} (hb : Below W.heap.size W W') : ∀ {tys : List TypeId} {vs : List Value} {ds : List (DataW H)} {ps : List MemPlace}, (tys.all fun t => P.readableRec t && decide (t < P.types.size)) = true →
    DataW.TrodAll ec P W 0 (fun _ => true) true tys vs ds ps → DataW.TrodAll ec P W' 0 (fun b => decide (b < W.heap.size)) true tys vs ds ps := by
  intro tys
  induction tys with
  | nil => intro vs ds ps _ h; obtain ⟨rfl, rfl, rfl⟩ := trodAll_nil h; exact trodAll_mk0
  | cons t ts ih =>
    intro vs ds ps hall h
    simp only [List.all_cons, Bool.and_eq_true, decide_eq_true_eq] at hall
    have hlt := trodAll_lt h
    obtain ⟨v, vs, d, ds, p, q, rfl, rfl, rfl, h1, h2⟩ := trodAll_cons h
    exact ⟨p, q, Below.trod hl hall.1.1 hall.1.2 h1 hb fun x hx => hlt x (List.mem_append.2 (.inl hx)), ih hall.2 h2, rfl⟩

/-- **A law's row, from its contract.** -/
theorem law_calls {f : FuncId} {ts : List AT} {im : Bool} {F : Args ts → Option Prop × List AObj × AV} (hc : COk P f (conOf im ts F)) (hF : ∀ a, WfAs ts a → pOk (F a).1 ∧ ∃ l, (F a).2 = ([], .c (.bool l true)))
    {tys : List TypeId} (hts : argsB P ts tys = true) {W : World} {base : Nat} {args : Array Value} {ds : List (DataW H)} {ps : List MemPlace} (hA : DataW.TrodAll ec P W 0 (fun _ => true) true tys args.toList ds ps)
    (hval : ∀ (j : Nat) t v, tys[j]? = some t → args.toList[j]? = some v → Value.okWide P W .any base t v) : Calls P f args W fun e W' => e = .returned (.bool true) ∧ Below W.heap.size W W' := by
  obtain ⟨a, a1, a2, a3⟩ := args_read (ρ := fun _ => undef) ts tys args.toList ds ps hts hA hval
  obtain ⟨h1, l, h2⟩ := hF a a1
  have hown : ∀ o, own (ix 0 []) (fun _ => undef) o = none := fun o => by simp [own, ix, getO, ownOf]
  have hr : HR W (fun _ => False) (ix 0 []) (fun _ => undef) := ⟨fun o => by simp [ix, getO, ObR], fun o o' b h => by rw [hown] at h; (cases h), fun o b h => by rw [hown] at h; (cases h)⟩
  have := hc.2 W (fun _ => False) [] (fun _ => undef) (encAs ts a) args.toList (F a).1 (F a).2.1 (F a).2.2 (fun b h => h.elim) hr
    (by rw [encAs_length, a2]) a3 (by simp only [conOf, argsB_enc ts tys a hts]) h1
  rw [h2] at this
  have ea : args.toList.toArray = args := by simp
  rw [ea] at this
  refine this.mono ?_
  rintro e W' ⟨cv, ρ', rfl, _, _, _, _, hfr, hsz, hos, htp, hout, hcv⟩
  have hcv : cv = .bool true := hcv
  exact ⟨by rw [hcv], hos, htp, hout, hsz, fun k hk => hfr k hk fun j => by rw [hown]; simp⟩

end
end GV

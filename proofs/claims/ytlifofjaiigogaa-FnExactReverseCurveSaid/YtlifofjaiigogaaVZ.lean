/-
  The program's types, looked through by the kernel; structs compared. No condition beyond those named.
-/
import Derived.Test.YtlifofjaiigogaaVY
import Derived.Laws.StructEq
namespace GV
open Go
set_option linter.unusedSimpArgs false
set_option linter.unusedVariables false

def zrB : Z → Value → Bool
  | .int k n, .int k' n' => decide (k = k') && decide (n = n')
  | .bool b, .bool b' => b == b'
  | .str, .string ⟨⟨[]⟩⟩ => true
  | .nil, .slice none 0 0 => true
  | .other, _ => true
  | _, _ => false

def zrsB : List Z → List Value → Bool
  | [], [] => true
  | z :: r, v :: s => zrB z v && zrsB r s
  | _, _ => false

def kdB (P : Program) (t : Nat) (k : Kd) : Bool := match k, P.underlying t with
  | .int k, some (.int k') => decide (k = k')
  | .bool, some .bool => true
  | .str, some .string => true
  | .ptr e, some (.pointer e') => Nat.beq e e'
  | .slice e, some (.slice e') => Nat.beq e e'
  | .struct fs, some (.struct F) => decide (F.toList.map (fun f => (f.offset, f.type)) = fs)
  | .array n e, some (.array n' e') => Nat.beq n n' && Nat.beq e e'
  | .other, some d => match d with
    | .struct _ => false
    | .array _ _ => false
    | _ => true
  | _, _ => false

def tiB (P : Program) (t : Nat) (ti : TI) : Bool :=
  kdB P t ti.kd && (match P.info? t with
    | some i => Nat.beq i.size ti.size && Nat.beq i.bytes ti.bytes && (match i.zero with
      | some z => Nat.beq z.cells.size ti.size && zrsB ti.zero z.cells.toList
      | none => false)
    | none => false) && (ti.agg || Nat.beq ti.size 1) && (match ti.g with | some g => Nat.beq ti.size (gsize g) && zles ti.zero (enc g (dflt g)) | none => true) && Nat.ble ti.bytes 4096

def treeB (P : Program) : Tree → Bool
  | .leaf => true
  | .node k v l r => tiB P k v && treeB P l && treeB P r

theorem zrB_ok {z : Z} {v : Value} (h : zrB z v = true) : ZR z v := by
  unfold zrB at h
  split at h
  · simp at h; obtain ⟨rfl, rfl⟩ := h; rfl
  · simp at h; subst h; rfl
  · rfl
  · rfl
  · trivial
  · cases h

theorem zrsB_ok : ∀ {zs : List Z} {vs : List Value}, zrsB zs vs = true → zs.length = vs.length ∧ ∀ (k : Nat) (y : Z) (v : Value), zs[k]? = some y → vs[k]? = some v → ZR y v := by
  intro zs
  induction zs with
  | nil => intro vs h; cases vs with
    | nil => exact ⟨rfl, fun k y v h => by simp at h⟩
    | cons _ _ => cases h
  | cons z r ih =>
    intro vs h
    cases vs with
    | nil => cases h
    | cons v s =>
      simp only [zrsB, Bool.and_eq_true] at h
      obtain ⟨h1, h2⟩ := ih h.2
      refine ⟨by simp [h1], fun k y u hy hu => ?_⟩
      cases k with
      | zero => simp at hy hu; subst hy; subst hu; exact zrB_ok h.1
      | succ k => exact h2 k y u (by simpa using hy) (by simpa using hu)

theorem kdB_ok {P : Program} {t : Nat} {k : Kd} (h : kdB P t k = true) : KdOk P t k := by
  unfold kdB at h
  split at h
  · rename_i e; have := of_decide_eq_true h; subst this; exact e
  · rename_i e; exact e
  · rename_i e; exact e
  · rename_i e; have := Nat.eq_of_beq_eq_true h; subst this; exact e
  · rename_i e; have := Nat.eq_of_beq_eq_true h; subst this; exact e
  · rename_i e; exact ⟨_, e, of_decide_eq_true h⟩
  · rename_i e
    simp only [Bool.and_eq_true] at h
    have h1 := Nat.eq_of_beq_eq_true h.1
    have h2 := Nat.eq_of_beq_eq_true h.2
    subst h1; subst h2; exact e
  · rename_i d e
    refine ⟨d, e, fun F hF => ?_, fun n e' hF => ?_⟩ <;> subst hF <;> cases h
  · cases h

theorem tiB_ok {P : Program} {t : Nat} {ti : TI} (h : tiB P t ti = true) : TIok P t ti := by
  simp only [tiB, Bool.and_eq_true, Bool.or_eq_true] at h
  obtain ⟨⟨⟨⟨h1, h2⟩, h3⟩, h4⟩, h5⟩ := h
  have hg : ∀ g, ti.g = some g → ti.size = gsize g ∧ zles ti.zero (enc g (dflt g)) = true := by
    intro g hg
    rw [hg] at h4
    simp only [Bool.and_eq_true] at h4
    exact ⟨Nat.eq_of_beq_eq_true h4.1, h4.2⟩
  refine ⟨kdB_ok h1, ?_, fun ha => ?_, fun g e => (hg g e).1, Nat.le_of_ble_eq_true h5, fun g e => (hg g e).2⟩
  · split at h2
    · rename_i i hi
      simp only [Bool.and_eq_true] at h2
      obtain ⟨⟨a1, a2⟩, a3⟩ := h2
      split at a3
      · rename_i z hz
        simp only [Bool.and_eq_true] at a3
        obtain ⟨b1, b2⟩ := a3
        obtain ⟨c1, c2⟩ := zrsB_ok b2
        have b1 := Nat.eq_of_beq_eq_true b1
        refine ⟨i, z, hi, Nat.eq_of_beq_eq_true a1, Nat.eq_of_beq_eq_true a2, hz, b1, by rw [c1]; simpa using b1, fun k y v hy hv => c2 k y v hy (by simpa using hv)⟩
      · cases a3
    · cases h2
  · rcases h3 with h3 | h3
    · rw [ha] at h3; cases h3
    · exact Nat.eq_of_beq_eq_true h3

theorem treeB_ok {P : Program} : ∀ {T : Tree}, treeB P T = true → TabOk P T := by
  intro T
  induction T with
  | leaf => intro _ t ti h; cases h
  | node k v l r ihl ihr =>
    intro h t ti ht
    simp only [treeB, Bool.and_eq_true] at h
    simp only [Tree.get] at ht
    split at ht
    · rename_i e
      have := Nat.eq_of_beq_eq_true e
      subst this
      cases ht
      exact tiB_ok h.1.1
    · split at ht
      · exact ihl h.1.2 t ti ht
      · exact ihr h.2 t ti ht

end GV

/-
  One operation that leaves memory alone does in the model what the interpreter says. No condition beyond those named.
-/
import Derived.Test.YtlifofjaiigogaaVB
import Derived.Laws.AppendOwn
import Derived.Laws.Slices
import Derived.Laws.Rows
namespace GV
open Go

def ZR : Z → Value → Prop
  | .int k n, v => v = .int k n
  | .bool b, v => v = .bool b
  | .str, v => v = .string ⟨⟨[]⟩⟩
  | .nil, v => v = .slice none 0 0
  | .other, _ => True

def KdOk (P : Program) (t : Nat) : Kd → Prop
  | .int k => P.underlying t = some (.int k)
  | .bool => P.underlying t = some .bool
  | .str => P.underlying t = some .string
  | .ptr e => P.underlying t = some (.pointer e)
  | .slice e => P.underlying t = some (.slice e)
  | .struct fs => ∃ F : Array Field, P.underlying t = some (.struct F) ∧ F.toList.map (fun f => (f.offset, f.type)) = fs
  | .array n e => P.underlying t = some (.array n e)
  | .other => ∃ d, P.underlying t = some d ∧ (∀ F, d ≠ .struct F) ∧ (∀ n e, d ≠ .array n e)

structure TIok (P : Program) (t : Nat) (ti : TI) : Prop where
  kd : KdOk P t ti.kd
  info : ∃ i z, P.info? t = some i ∧ i.size = ti.size ∧ i.bytes = ti.bytes ∧ i.zero = some z ∧ z.cells.size = ti.size ∧ ti.zero.length = ti.size ∧
    ∀ (k : Nat) (y : Z) (v : Value), ti.zero[k]? = some y → z.cells[k]? = some v → ZR y v
  one : ti.agg = false → ti.size = 1
  g : ∀ g, ti.g = some g → ti.size = gsize g
  bytes : ti.bytes ≤ 4096
  zg : ∀ g, ti.g = some g → zles ti.zero (enc g (dflt g)) = true

def TabOk (P : Program) (T : Tree) : Prop := ∀ t ti, T.get t = some ti → TIok P t ti

section
variable {P : Program} {w : World} {t : Nat} {ti : TI}

theorem TIok.isAgg (h : TIok P t ti) : (isAgg t).run P w = .ok ti.agg w := by
  obtain ⟨hk, _⟩ := h
  unfold TI.agg
  cases e : ti.kd <;> rw [e] at hk <;> simp only [KdOk] at hk
  case struct fs => obtain ⟨F, hF, _⟩ := hk; simp [Go.isAgg, run_underlying hF]
  case array n e => simp [Go.isAgg, run_underlying hk]
  case other =>
    obtain ⟨d, hd, h1, h2⟩ := hk
    simp only [Go.isAgg, Sem.run_bind, run_underlying hd, Result.andThen_ok]
    cases d <;> first | rfl | (exact absurd rfl (h1 _)) | (exact absurd rfl (h2 _ _))
  all_goals simp [Go.isAgg, run_underlying hk]

theorem TIok.sizeOf (h : TIok P t ti) : (Go.sizeOf t).run P w = .ok ti.size w := by
  obtain ⟨i, z, hi, hs, _⟩ := h.info
  simp [Go.sizeOf, typeInfo, hi, hs]

theorem TIok.elemSlice (h : TIok P t ti) {e : Nat} (he : ti.kd = .slice e) : P.underlying t = some (.slice e) := by
  have := h.kd; rw [he] at this; exact this

end

theorem subC_get : ∀ (cs : List Cell) (i n k : Nat), k < n → (subC cs i n)[k]? = cs[i + k]? := by
  intro cs
  induction cs with
  | nil => intro i n k hk; cases n with | zero => omega | succ n => simp [subC]
  | cons c r ih =>
    intro i n k hk
    cases n with
    | zero => omega
    | succ n =>
      cases i with
      | zero =>
        cases k with
        | zero => simp [subC]
        | succ k => simp only [subC, List.getElem?_cons_succ, Nat.zero_add]; have := ih 0 n k (by omega); rwa [Nat.zero_add] at this
      | succ i =>
        simp only [subC]
        rw [ih i (n + 1) k hk, show i + 1 + k = (i + k) + 1 by omega, List.getElem?_cons_succ]

theorem subC_length : ∀ (cs : List Cell) (i n : Nat), i + n ≤ cs.length → (subC cs i n).length = n := by
  intro cs
  induction cs with
  | nil => intro i n h; cases n with | zero => simp [subC] | succ n => simp at h
  | cons c r ih =>
    intro i n h
    cases n with
    | zero => simp [subC]
    | succ n =>
      cases i with
      | zero => simp only [subC, List.length_cons]; rw [ih 0 n (by simp at h ⊢; omega)]
      | succ i => simp only [subC]; exact ih i (n + 1) (by simp at h; omega)

/-- What a load gives, cells being known. -/
theorem load_of {P : Program} {w : World} {t : Nat} {ti : TI} (ht : TIok P t ti) (R : Cell → Value → Prop) (b p : Nat) (cs : List Cell) (hl : cs.length = ti.size)
    (f : Nat → Value) (hc : ∀ k, k < ti.size → w.cell? ⟨b, p + k, none⟩ = some (f k)) (hr : ∀ (k : Nat) (c : Cell), cs[k]? = some c → R c (f k)) :
    ∃ cv, (loadVar t ⟨b, p, none⟩).run P w = .ok cv w ∧ AR R (asV ti.agg cs) cv := by
  cases ha : ti.agg with
  | true =>
    refine ⟨.agg ((List.range ti.size).map f).toArray, ?_, ((List.range ti.size).map f).toArray, rfl, ?_⟩
    · have hld := run_loadCells (P := P) w ⟨b, p, none⟩ ti.size f (fun j hj => by rw [Addr.add_lit]; exact hc j hj)
      simp [loadVar, ht.isAgg, ha, ht.sizeOf, hld]
    · refine ⟨by simp [hl], fun k c v h1 h2 => ?_⟩
      have hk : k < ti.size := by rw [← hl]; exact (List.getElem?_eq_some_iff.1 h1).1
      simp only [List.getElem?_map, List.getElem?_range hk, Option.map_some, Option.some.injEq] at h2
      subst h2; exact hr k c h1
  | false =>
    have h1 := ht.one ha
    rw [h1] at hl
    obtain ⟨c, rfl⟩ : ∃ c, cs = [c] := by
      match cs, hl with
      | [c], _ => exact ⟨c, rfl⟩
    have hc0 := hc 0 (by omega)
    rw [Nat.add_zero] at hc0
    exact ⟨f 0, by simp [loadVar, ht.isAgg, ha, hc0], hr 0 c rfl⟩

theorem cell_row {w : World} {b : Nat} {cs : Array Value} {t : TypeId} {fr : Nat × Nat} (hg : w.heap[b]? = some (.cells cs t fr)) (j : Nat) : w.cell? ⟨b, j, none⟩ = cs[j]? :=
  cell_of_row w b j cs t fr hg

theorem cur_eq {ho : HO} {o v : Nat} {x : AObj} (h : cur ho o v = x) (hx : x ≠ .gone) : ho o = (v, x) := by
  unfold cur at h
  split at h
  rename_i v' y e
  split at h
  · rename_i hb; rw [e, h, Nat.eq_of_beq_eq_true hb]
  · exact absurd h.symm hx

theorem el_get {α : Type} [Inhabited α] {xs : List α} {i : Int} (h0 : 0 ≤ i) (h1 : i < xs.length) : xs[i.toNat]? = some (el xs i) := by
  unfold el
  rw [List.getD_eq_getElem?_getD, List.getElem?_eq_getElem (by omega)]
  rfl

/-- The element that a pointer into a list leads to. -/
theorem seq_elem {w : World} {X : Nat → Prop} {O : Objs} {ρ : Nat → Value} {g : GT} {xs : List g.den} {h : Value} (ho : ObR w X O ρ (.seq g xs) h) {b n cap : Nat}
    (hh : h = .slice (some ⟨b, 0, none⟩) n cap) {i : Int} (h0 : 0 ≤ i) (h1 : i < xs.length) :
    ∃ f : Nat → Value, (∀ k, k < gsize g → w.cell? ⟨b, i.toNat * gsize g + k, none⟩ = some (f k)) ∧
      ∀ (k : Nat) (c : Cell), (enc g (el xs i))[k]? = some c → PR w (Av X O ρ) c (f k) := by
  rcases ho with ⟨rfl, _⟩ | ⟨b', cap', ccs, t, e, hcap, _, hg, hsz, hr⟩
  · simp at h1; omega
  · rw [hh] at e
    cases e
    have hx := el_get h0 h1
    have hlt : i.toNat < xs.length := by omega
    have hin : ∀ k, k < gsize g → i.toNat * gsize g + k < ccs.size := by
      intro k hk
      rw [hsz]
      have : (i.toNat + 1) * gsize g ≤ cap * gsize g := Nat.mul_le_mul_right _ (by omega)
      rw [Nat.succ_mul] at this; omega
    refine ⟨fun k => ccs.getD (i.toNat * gsize g + k) undef, fun k hk => ?_, fun k c hc => ?_⟩
    · rw [cell_row hg]; simp [Array.getD, hin k hk]
    · have hk : k < gsize g := by rw [← enc_length g (el xs i)]; exact (List.getElem?_eq_some_iff.1 hc).1
      refine hr _ c _ ((flat_get g xs i.toNat k _ hx hk).trans hc) ?_
      simp [Array.getD, hin k hk]

section
variable {c : Ctx} {E : Env} {w : World} {O : Objs} {ρ : Nat → Value}

theorem loadF_ok (hT : TabOk c.P E.tab) (H : HRel c w O ρ) {t : Nat} {ap : AV} {vp : Value} (hp : AR (CellR w c.X O ρ) ap vp) {p : Option Prop} {v : AV} {us : Ups}
    (h : loadF E (getO O) t ap = some (p, v, us)) : us = [] ∧ ∃ cv, (Instr.loadAt t vp).run c.P w = .ok cv w ∧ AR (CellR w c.X O ρ) v cv := by
  unfold loadF at h
  split at h
  · cases h
  rename_i ti hti
  have ht := hT t ti hti
  split at h
  · rename_i g x off
    split at h
    · rename_i hb
      simp only [Option.some.injEq, Prod.mk.injEq] at h
      obtain ⟨_, rfl, rfl⟩ := h
      refine ⟨rfl, ?_⟩
      have hb := Nat.le_of_ble_eq_true hb
      obtain ⟨b, q, f, rfl, _, hc, hr⟩ := hp
      obtain ⟨cv, h1, h2⟩ := load_of ht (CellR w c.X O ρ) b (q + off) (subC (enc g x) off ti.size) (subC_length _ _ _ (by rw [enc_length]; exact hb))
        (fun k => f (off + k)) (fun k hk => by rw [Nat.add_assoc]; exact hc _ (by omega))
        (fun k cc hcc => by
          have hk : k < ti.size := by
            have := (List.getElem?_eq_some_iff.1 hcc).1
            rwa [subC_length _ _ _ (by rw [enc_length]; exact hb)] at this
          rw [subC_get _ _ _ _ hk] at hcc
          exact (hr _ _ hcc).cell)
      exact ⟨cv, by simpa [Instr.loadAt, Instr.sureAddr] using h1, h2⟩
    · cases h
  · rename_i o v' off
    split at h
    · rename_i bt cs hcur
      split at h
      · rename_i hb
        simp only [Option.some.injEq, Prod.mk.injEq] at h
        obtain ⟨_, rfl, rfl⟩ := h
        refine ⟨rfl, ?_⟩
        have hb := Nat.le_of_ble_eq_true hb
        have ho := cur_eq hcur (by simp)
        obtain ⟨_, hp⟩ := hp
        have hp := hp (by rw [ho])
        rw [ho] at hp
        obtain ⟨b, hρ, rfl⟩ := hp
        have hob := H.obj o
        rw [ho] at hob
        obtain ⟨b', ccs, t', e, hg, hl, hr⟩ := hob
        rw [hρ] at e
        cases e
        have hl : cs.length = ccs.size := by simpa using hl
        obtain ⟨cv, h1, h2⟩ := load_of ht (CellR w c.X O ρ) b off (subC cs off ti.size) (subC_length _ _ _ hb)
          (fun k => ccs.getD (off + k) undef) (fun k hk => by rw [cell_row hg]; simp [Array.getD, (by omega : off + k < ccs.size)])
          (fun k cc hcc => by
            have hk : k < ti.size := by
              have := (List.getElem?_eq_some_iff.1 hcc).1
              rwa [subC_length _ _ _ hb] at this
            rw [subC_get _ _ _ _ hk] at hcc
            refine hr _ _ _ hcc ?_
            simp [Array.getD, (by omega : off + k < ccs.size)])
        exact ⟨cv, by simpa [Instr.loadAt, Instr.sureAddr] using h1, h2⟩
      · cases h
    · cases h
  · rename_i o v' i off
    split at h
    · rename_i g xs hcur
      split at h
      · rename_i hb
        simp only [Option.some.injEq, Prod.mk.injEq] at h
        obtain ⟨_, rfl, rfl⟩ := h
        refine ⟨rfl, ?_⟩
        have hb := Nat.le_of_ble_eq_true hb
        have ho := cur_eq hcur (by simp)
        obtain ⟨_, hp⟩ := hp
        have hp := hp (by rw [ho])
        rw [ho] at hp
        obtain ⟨b, n, cap, hρ, h0, h1, rfl⟩ := hp
        have hob := H.obj o
        rw [ho] at hob
        obtain ⟨f, hc, hr⟩ := seq_elem hob hρ h0 h1
        obtain ⟨cv, h1, h2⟩ := load_of ht (CellR w c.X O ρ) b (i.toNat * gsize g + off) (subC (enc g (el xs i)) off ti.size) (subC_length _ _ _ (by rw [enc_length]; exact hb))
          (fun k => f (off + k)) (fun k hk => by rw [Nat.add_assoc]; exact hc _ (by omega))
          (fun k cc hcc => by
            have hk : k < ti.size := by
              have := (List.getElem?_eq_some_iff.1 hcc).1
              rwa [subC_length _ _ _ (by rw [enc_length]; exact hb)] at this
            rw [subC_get _ _ _ _ hk] at hcc
            exact (hr _ _ hcc).cell)
        exact ⟨cv, by simpa [Instr.loadAt, Instr.sureAddr] using h1, h2⟩
      · cases h
    · cases h
  · cases h

end
end GV

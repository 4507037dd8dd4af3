/-
  Fields, lengths, conversions in the model. No condition beyond those named.
-/
import Derived.Test.YtlifofjaiigogaaVL
namespace GV
open Go
set_option linter.unusedSimpArgs false
set_option linter.unusedVariables false

section
variable {c : Ctx} {E : Env} {w w' : World} {O : Objs} {ρ : Nat → Value}

theorem field_ok (hT : TabOk c.P E.tab) {s f : Nat} {size bytes : Nat} {fs : List (Nat × Nat)} {zs : List Z} {g : Option GT} (hti : E.tab.get s = some ⟨size, bytes, .struct fs, zs, g⟩) {fo ft : Nat} (hf : fs[f]? = some (fo, ft))
    {fi : TI} (hfi : E.tab.get ft = some fi) {cs : List Cell} {v : Value} (hx : AR (CellR w c.X O ρ) (.agg cs) v) (hb : fo + fi.size ≤ cs.length) :
    ∃ cv, (Instr.field s v f).run c.P w = .ok cv w ∧ AR (CellR w c.X O ρ) (asV fi.agg (subC cs fo fi.size)) cv := by
  obtain ⟨F, hF, hfs⟩ := (hT s _ hti).kd
  obtain ⟨vs, rfl, hr⟩ := hx
  rw [← hfs] at hf
  obtain ⟨x, hx, e⟩ := List.getElem?_map .. ▸ hf |> Option.map_eq_some_iff.1
  simp only [Prod.mk.injEq] at e
  obtain ⟨rfl, rfl⟩ := e
  have hx' : F[f]? = some x := by rw [← Array.getElem?_toList]; exact hx
  obtain ⟨cv, h1, h2⟩ := part_ok (P := c.P) (w := w) (hT _ _ hfi) hr hb
  exact ⟨cv, by simp [Instr.field, run_underlying hF, hx', asAgg, h1], h2⟩

theorem fieldAddr_ok (hT : TabOk c.P E.tab) {s f : Nat} {size bytes : Nat} {fs : List (Nat × Nat)} {zs : List Z} {g : Option GT} (hti : E.tab.get s = some ⟨size, bytes, .struct fs, zs, g⟩) {fo ft : Nat} (hf : fs[f]? = some (fo, ft))
    {fi : TI} (hfi : E.tab.get ft = some fi) (h0 : fi.size ≠ 0) (b p : Nat) : (Instr.fieldAt s (.pointer (some ⟨b, p, none⟩)) f).run c.P w = .ok (.pointer (some ⟨b, p + fo, none⟩)) w := by
  obtain ⟨F, hF, hfs⟩ := (hT s _ hti).kd
  rw [← hfs] at hf
  obtain ⟨x, hx, e⟩ := List.getElem?_map .. ▸ hf |> Option.map_eq_some_iff.1
  simp only [Prod.mk.injEq] at e
  obtain ⟨rfl, rfl⟩ := e
  have hx' : F[f]? = some x := by rw [← Array.getElem?_toList]; exact hx
  simp [Instr.fieldAt, run_underlying hF, hx', Instr.sureAddr, fieldPlace, (hT _ _ hfi).sizeOf, h0, Addr.add_lit]

theorem len_ok (hT : TabOk c.P E.tab) (H : HRel c w O ρ) {t ty : Nat} (hs : isSl E t = true) {x : AV} {n : Int} (h : lenOf (getO O) (isStr E t) x = some n) {v : Value} (hx : AR (CellR w c.X O ρ) x v) :
    (Builtin.len_ #[t] ty #[v]).run c.P w = .ok (.int .i64 n) w := by
  have key : (∃ e, c.P.underlying t = some (.slice e) ∧ isStr E t = false) ∨ (c.P.underlying t = some .string ∧ isStr E t = true) := by
    unfold isSl at hs
    split at hs
    · rename_i hti
      exact .inl ⟨_, (hT t _ hti).kd, by unfold isStr; rw [hti]⟩
    · rename_i hti
      exact .inr ⟨(hT t _ hti).kd, by unfold isStr; rw [hti]⟩
    · cases hs
  rcases key with ⟨e, ht, hst⟩ | ⟨ht, hst⟩
  · rw [hst] at h
    have hsl : ∀ (g : GT) (xs : List g.den) (u : Value), PR w (Av c.X O ρ) (.im g xs) u → (Builtin.len_ #[t] ty #[u]).run c.P w = .ok (.int .i64 xs.length) w := by
      intro g xs u hu
      rcases im_inv hu with ⟨rfl, _, rfl⟩ | ⟨b, p, cap, f, rfl, _⟩ <;> simp [Builtin.len_, run_underlying ht, goInt]
    unfold lenOf at h
    split at h
    · cases h; exact hsl _ _ _ hx
    · cases h
      obtain rfl : v = .slice none 0 0 := hx
      simp [Builtin.len_, run_underlying ht, goInt]
    · rename_i hh; cases hh
    · rename_i o k _
      split at h
      · rename_i g xs hcur
        cases h
        have ho := cur_eq hcur (by simp)
        obtain rfl : v = ρ o := sl_val H hx ho
        have hob := H.obj o
        rw [ho] at hob
        rcases hob with ⟨rfl, e⟩ | ⟨b, cap, ccs, t', e, _⟩ <;> rw [e] <;> simp [Builtin.len_, run_underlying ht, goInt]
      · rename_i g xs hcur
        cases h
        have ho := cur_eq hcur (by simp)
        obtain ⟨_, hx⟩ := hx
        have hx := hx (by rw [ho])
        rw [ho] at hx
        have hx : v = ρ o := hx
        subst hx
        have hob := H.obj o
        rw [ho] at hob
        exact hsl _ _ _ hob
      · cases h
    · cases h
  · rw [hst] at h
    unfold lenOf at h
    split at h
    · rename_i hh; cases hh
    · rename_i hh; cases hh
    · rename_i s _
      cases h
      obtain rfl : v = .string ⟨⟨s⟩⟩ := hx
      have hsz : (⟨⟨s⟩⟩ : ByteArray).size = s.length := rfl
      simp [Builtin.len_, run_underlying ht, goInt, hsz]
    · rename_i hh; cases hh
    · cases h

theorem foldl_push (xs : List UInt8) : ∀ (b : List UInt8), ((xs.map fun x => (x.toNat : Int)).foldl (fun r n => r.push (UInt8.ofNat n.toNat)) (⟨⟨b⟩⟩ : ByteArray)) = ⟨⟨b ++ xs⟩⟩ := by
  induction xs with
  | nil => intro b; simp
  | cons a r ih =>
    intro b
    simp only [List.map_cons, List.foldl_cons, Int.toNat_natCast, UInt8.ofNat_toNat]
    have e : ByteArray.push (⟨⟨b⟩⟩ : ByteArray) a = ⟨⟨b ++ [a]⟩⟩ := by apply ByteArray.ext; simp [ByteArray.push]
    rw [e, ih (b ++ [a])]
    simp

theorem convF_ok (hT : TabOk c.P E.tab) (H : HRel c w O ρ) {s t : Nat} {x : AV} {vx : Value} (hx : AR (CellR w c.X O ρ) x vx) {p : Option Prop} {v : AV} {us : Ups} (h : convF E (getO O) s t x = some (p, v, us)) :
    us = [] ∧ ∃ cv, (convert s t vx).run c.P w = .ok cv w ∧ AR (CellR w c.X O ρ) v cv := by
  unfold convF at h
  split at h
  · cases h
  rename_i si hsi
  split at h
  · cases h
  rename_i ti hti
  have hs := (hT s _ hsi).kd
  have ht := (hT t _ hti).kd
  split at h
  · rename_i k hk
    rw [hk] at ht
    have ht : c.P.underlying t = some (.int k) := ht
    split at h
    · rename_i k2 k3 n hk2
      rw [hk2] at hs
      have hs : c.P.underlying s = some (.int k2) := hs
      simp only [Option.some.injEq, Prod.mk.injEq] at h
      obtain ⟨rfl, rfl, rfl⟩ := h
      obtain rfl : vx = .int k3 n := hx
      exact ⟨rfl, .int k (k.wrap n), by simp [convert, run_underlying hs, run_underlying ht, Conv.intToInt], rfl⟩
    · cases h
  · rename_i hk
    rw [hk] at ht
    have ht : c.P.underlying t = some .string := ht
    split at h
    · rename_i hk2
      rw [hk2] at hs
      have hs : c.P.underlying s = some .string := hs
      split at h
      · rename_i b
        simp only [Option.some.injEq, Prod.mk.injEq] at h
        obtain ⟨rfl, rfl, rfl⟩ := h
        obtain rfl : vx = .string ⟨⟨b⟩⟩ := hx
        exact ⟨rfl, .string ⟨⟨b⟩⟩, by simp [convert, run_underlying hs, run_underlying ht], rfl⟩
      · cases h
    · rename_i e hk2
      rw [hk2] at hs
      have hs : c.P.underlying s = some (.slice e) := hs
      split at h
      · rename_i hte
        have he : c.P.underlying e = some (.int .u8) := (hT e _ hte).kd
        split at h
        · rename_i xs hxs
          simp only [Option.some.injEq, Prod.mk.injEq] at h
          obtain ⟨rfl, rfl, rfl⟩ := h
          refine ⟨rfl, .string ⟨⟨xs⟩⟩, ?_, rfl⟩
          rcases listOf_ok H hxs hx with ⟨rfl, a, rfl⟩ | ⟨b, q, cap, f, rfl, hcap, hc, hr⟩
          · cases a with
            | none => simp [convert, run_underlying hs, run_underlying ht, run_underlying he, Conv.bytesToString]; rfl
            | some a =>
              have hld := run_loadCells (P := c.P) w a 0 (fun _ => undef) (fun j hj => absurd hj (Nat.not_lt_zero j))
              have := run_bytesToString w a 0 0 [] (by simpa using hld)
              simp only [convert, Sem.run_bind, run_underlying hs, run_underlying ht, Result.andThen_ok, run_underlying he]
              rw [this]
              rfl
          · have hfl : (flat .u8 xs).length = xs.length := by rw [flat_u8]; simp
            have hf : ∀ k (hk : k < xs.length), f k = .int .u8 ((xs[k]).toNat : Int) := by
              intro k hk
              have := hr k (.int .u8 ((xs[k]).toNat : Int)) (by rw [flat_u8]; simp [hk])
              generalize f k = u at this
              generalize ((xs[k]).toNat : Int) = m at this
              cases this; rfl
            have hld := run_loadCells (P := c.P) w ⟨b, q, none⟩ xs.length f (fun j hj => by rw [Addr.add_lit]; exact hc j (by rw [hfl]; exact hj))
            have hmap : (List.range xs.length).map f = (xs.map fun x => (x.toNat : Int)).map (Value.int .u8) := by
              apply List.ext_getElem
              · simp
              · intro k h1 h2
                simp at h1
                simp [hf k h1]
            rw [hmap] at hld
            have := run_bytesToString w ⟨b, q, none⟩ xs.length cap _ hld
            simp only [ByteArray.empty, ByteArray.emptyWithCapacity] at this
            have hp := foldl_push xs []
            simp only [List.nil_append] at hp
            simp only [convert, Sem.run_bind, run_underlying hs, run_underlying ht, Result.andThen_ok, run_underlying he]
            rw [this]
            congr 2
        · cases h
      · cases h
    · cases h
  · cases h

theorem min_ok {a b : Int} {ats : Array TypeId} {ty : TypeId} : (Builtin.min_ ats ty #[.int .i64 a, .int .i64 b]).run c.P w = .ok (.int .i64 (min a b)) w := by
  have : (if b < a then b else a) = min a b := by rw [Int.min_def]; split <;> split <;> omega
  simp [Builtin.min_, Builtin.min2, this]

theorem max_ok {a b : Int} {ats : Array TypeId} {ty : TypeId} : (Builtin.max_ ats ty #[.int .i64 a, .int .i64 b]).run c.P w = .ok (.int .i64 (max a b)) w := by
  have : (if b > a then b else a) = max a b := by rw [Int.max_def]; split <;> split <;> omega
  simp [Builtin.max_, Builtin.max2, ← this]

theorem extract_ok {ts : List (Bool × List Cell)} {v : Value} (hx : AR (CellR w c.X O ρ) (.tup ts) v) {i : Nat} {a : Bool} {cs : List Cell} (h : ts[i]? = some (a, cs)) :
    ∃ cv, (Instr.extract v i).run c.P w = .ok cv w ∧ AR (CellR w c.X O ρ) (asV a cs) cv := by
  obtain ⟨vs, rfl, hl, hr⟩ := hx
  have hi : i < vs.size := by rw [← hl]; exact (List.getElem?_eq_some_iff.1 h).1
  refine ⟨vs[i], by simp [Instr.extract, hi], ?_⟩
  have := hr i _ vs[i] h (by simp [hi])
  cases a with
  | true => exact this
  | false =>
    match cs, this with
    | [x], this => exact this

theorem strIndex_ok (hT : TabOk c.P E.tab) {t : Nat} (hs : isStr E t = true) {s : Bytes} {k : IntKind} {n : Int} (h : 0 ≤ n ∧ n < s.length) :
    (Instr.index t (.string ⟨⟨s⟩⟩) (.int k n)).run c.P w = .ok (.int .u8 (byteAt s n)) w := by
  unfold isStr at hs
  split at hs
  · rename_i hti
    have ht : c.P.underlying t = some .string := (hT t _ hti).kd
    have hg := el_get h.1 h.2
    have hb : (⟨⟨s⟩⟩ : ByteArray)[n.toNat]? = some (el s n) := by
      have hlt : n.toNat < s.length := by omega
      have hsz : (⟨⟨s⟩⟩ : ByteArray).size = s.length := rfl
      rw [getElem?_pos (c := (⟨⟨s⟩⟩ : ByteArray)) (i := n.toNat) (h := by rw [hsz]; exact hlt)]
      rw [List.getElem?_eq_getElem hlt] at hg
      rw [← hg]
      rfl
    simp [Instr.index, asIntOf, run_underlying ht, h.1, hb, byteAt]
  · cases hs

end
end GV

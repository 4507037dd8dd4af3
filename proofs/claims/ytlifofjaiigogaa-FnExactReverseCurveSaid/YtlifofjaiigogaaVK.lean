/-
  Makes, literals, conversions in the model. No condition beyond those named.
-/
import Derived.Test.YtlifofjaiigogaaVJ
namespace GV
open Go
set_option linter.unusedSimpArgs false
set_option linter.unusedVariables false

theorem put_put_get {cs : Array Value} {plan : List (Nat × List Value)} (hp : ∀ o vs, (o, vs) ∈ plan → o + vs.length ≤ cs.size) : (plan.foldl (fun cs p => put cs p.1 p.2) cs).size = cs.size := by
  induction plan generalizing cs with
  | nil => rfl
  | cons a r ih =>
    obtain ⟨o, vs⟩ := a
    have h0 := hp o vs (List.mem_cons_self ..)
    simp only [List.foldl_cons]
    rw [ih (fun o' vs' hm => by rw [put_size h0]; exact hp o' vs' (List.mem_cons_of_mem _ hm)), put_size h0]

section
variable {c : Ctx} {E : Env} {w w' : World} {O : Objs} {ρ : Nat → Value}

/-! ### a struct's literal -/

theorem put_CsR {R : Cell → Value → Prop} {cs : List Cell} {vs : Array Value} (h : CsR R cs vs.toList) {o : Nat} {ns : List Cell} {us : List Value} (hn : CsR R ns us) (hb : o + ns.length ≤ cs.length) :
    CsR R (updC cs o ns) (put vs o us).toList := by
  have hl : cs.length = vs.size := by simpa using h.1
  have hnl := hn.1
  refine ⟨by rw [updC_length _ _ _ hb, hl, Array.length_toList, put_size (by omega)], fun k c v h1 h2 => ?_⟩
  rw [updC_get _ _ _ _ hb] at h1
  rw [Array.getElem?_toList, put_get (by omega), ← hnl] at h2
  split at h1
  · rename_i hin
    rw [if_pos hin] at h2
    exact hn.2 _ c v h1 h2
  · rename_i hin
    rw [if_neg hin] at h2
    exact h.2 k c v h1 (by rwa [Array.getElem?_toList])

theorem fillF_ok (hT : TabOk c.P E.tab) {fs : List (Nat × Nat)} {places : Array (Nat × Nat)} (hpl : ∀ (i o t : Nat) (ti : TI), fs[i]? = some (o, t) → E.tab.get t = some ti → places[i]? = some (o, ti.size)) :
    ∀ {parts : List (Nat × AV)} {vparts : List (Nat × Value)} {cs : List Cell} {vs : Array Value} {ds : List Cell}, CsR (CellR w c.X O ρ) cs vs.toList → fillF E fs cs parts = some ds →
      parts.length = vparts.length → (∀ (k i : Nat) (x : AV) (j : Nat) (v : Value), parts[k]? = some (i, x) → vparts[k]? = some (j, v) → i = j ∧ AR (CellR w c.X O ρ) x v) →
      ∃ us, Instr.fill (places[·]?) vs vparts = some us ∧ CsR (CellR w c.X O ρ) ds us.toList := by
  intro parts
  induction parts with
  | nil =>
    intro vparts cs vs ds hr h hl _
    cases vparts with
    | nil => simp only [fillF, Option.some.injEq] at h; subst h; exact ⟨vs, rfl, hr⟩
    | cons _ _ => simp at hl
  | cons a r ih =>
    intro vparts cs vs ds hr h hl hp
    cases vparts with
    | nil => simp at hl
    | cons b s =>
      obtain ⟨i, x⟩ := a
      obtain ⟨j, v⟩ := b
      obtain ⟨rfl, hx⟩ := hp 0 i x j v rfl rfl
      unfold fillF at h
      split at h
      · cases h
      rename_i off t hfs
      split at h
      · cases h
      rename_i ti hti
      split at h
      · cases h
      rename_i ns hns
      split at h
      · cases h
      rename_i hlen
      split at h
      · cases h
      rename_i hfit
      have hlen := Nat.eq_of_beq_eq_true hlen
      have hfit := Nat.le_of_ble_eq_true hfit
      obtain ⟨hcs, h1⟩ := cellsOf_ok hns hx
      have hl1 : cs.length = vs.size := by simpa using hr.1
      have hl2 : ns.length = v.cells.size := by simpa using hcs.1
      have hplace := hpl i off t ti hfs hti
      obtain ⟨us, h2, h3⟩ := ih (vparts := s) (put_CsR hr hcs hfit) h (by simpa using hl) (fun k i' x' j' v' a b => hp (k + 1) i' x' j' v' (by simpa using a) (by simpa using b))
      refine ⟨us, ?_, h3⟩
      rw [← h2]
      have hz : v.cells.zipIdx.foldl (fun cs (x : Value × Nat) => cs.setIfInBounds (off + x.2) x.1) vs = put vs off v.cells.toList := by
        rw [← foldl_put v.cells.toList vs off (by simp; omega), ← Array.foldl_toList]
        simp
      have e1 : ¬ (v.cells.size ≠ ti.size) := by omega
      have e2 : ¬ (off + v.cells.size > vs.size) := by omega
      simp only [Instr.fill, hplace]
      rw [if_neg (by simp [hl2 ▸ hlen]; omega), hz]

theorem evParts_get {ev : Operand → AV} : ∀ (ps : List (Nat × Operand)) (k : Nat), (evParts ev ps)[k]? = (ps[k]?).map fun p => (p.1, ev p.2) := by
  intro ps
  induction ps with
  | nil => intro k; simp [evParts]
  | cons a r ih => obtain ⟨i, x⟩ := a; intro k; cases k with | zero => simp [evParts] | succ k => simp [evParts, ih]

theorem evParts_length {ev : Operand → AV} (ps : List (Nat × Operand)) : (evParts ev ps).length = ps.length := by
  induction ps with
  | nil => rfl
  | cons a r ih => obtain ⟨i, x⟩ := a; simp [evParts, ih]

theorem zero_CsR {t : Nat} {ti : TI} (ht : TIok c.P t ti) {z : Value} (hz : ∃ i, c.P.info? t = some i ∧ i.zero = some z) : CsR (CellR w c.X O ρ) (zcells ti.zero) z.cells.toList := by
  obtain ⟨i, z', hi, _, _, hiz, hs, hl, hr⟩ := ht.info
  obtain ⟨i2, hi2, hz2⟩ := hz
  rw [hi] at hi2; cases hi2
  rw [hiz] at hz2; cases hz2
  refine ⟨by rw [zcells_length, hl, Array.length_toList, hs], fun k cc v h1 h2 => ?_⟩
  rw [zcells_get] at h1
  obtain ⟨y, hy, rfl⟩ := Option.map_eq_some_iff.1 h1
  rw [Array.getElem?_toList] at h2
  exact (hr k y v hy h2).cell (fun _ _ => rfl) (fun _ _ => rfl) (fun _ => rfl) rfl (fun _ => trivial)

theorem run_zero {P : Program} {t : Nat} {i : TypeInfo} {z : Value} (hi : P.info? t = some i) (hz : i.zero = some z) : (zeroValue t).run P w = .ok z w := by
  simp [zeroValue, typeInfo, hi, hz]

theorem mapM_places {P : Program} {w : World} (f : Field → Nat) : ∀ (F : List Field), (∀ x ∈ F, (Go.sizeOf x.type).run P w = .ok (f x) w) →
    (F.mapM (fun f => do pure (f.offset, ← Go.sizeOf f.type) : Field → Sem (Nat × Nat))).run P w = .ok (F.map fun x => (x.offset, f x)) w := by
  simp only [bind_pure_comp]
  intro F
  induction F with
  | nil => intro _; simp
  | cons a r ih =>
    intro h
    simp [List.mapM_cons, h a (List.mem_cons_self ..), ih (fun x hx => h x (List.mem_cons_of_mem _ hx))]

theorem build_ok (hT : TabOk c.P E.tab) {t : Nat} {size bytes : Nat} {fs : List (Nat × Nat)} {zs : List Z} {g : Option GT} (hti : E.tab.get t = some ⟨size, bytes, .struct fs, zs, g⟩)
    (hall : ∀ (i o t' : Nat), fs[i]? = some (o, t') → ∃ ti, E.tab.get t' = some ti) {ps : List (Nat × Operand)} {ev : Operand → AV} {ρv : Operand → Value} (hev : ∀ x, AR (CellR w c.X O ρ) (ev x) (ρv x)) {ds : List Cell}
    (h : fillF E fs (zcells zs) (evParts ev ps) = some ds) : ∃ cv, (Instr.build t ((⟨ps⟩ : Array (Nat × Operand)).map fun (i, x) => (i, ρv x))).run c.P w = .ok cv w ∧ AR (CellR w c.X O ρ) (.agg ds) cv := by
  have ht := hT t _ hti
  obtain ⟨i, z, hi, _, _, hz, _⟩ := ht.info
  obtain ⟨F, hF, hfs⟩ := ht.kd
  have hsz : ∀ x ∈ F.toList, (Go.sizeOf x.type).run c.P w = .ok ((E.tab.get x.type).elim 0 TI.size) w := by
    intro x hx
    obtain ⟨k, hk⟩ := List.mem_iff_getElem?.1 hx
    obtain ⟨ti, hti⟩ := hall k x.offset x.type (by rw [← hfs]; simp [hk])
    rw [(hT _ _ hti).sizeOf, hti]; rfl
  have hpl : (F.mapM (fun f => do pure (f.offset, ← Go.sizeOf f.type) : Field → Sem (Nat × Nat))).run c.P w = .ok (F.toList.map fun x => (x.offset, (E.tab.get x.type).elim 0 TI.size)).toArray w := by
    have e : F = F.toList.toArray := by simp
    rw [e, List.mapM_toArray]
    simp only [Sem.run_map, List.toList_toArray]
    rw [mapM_places _ F.toList hsz]
    rfl
  obtain ⟨us, h1, h2⟩ := fillF_ok (w := w) (O := O) (ρ := ρ) hT (places := (F.toList.map fun x => (x.offset, (E.tab.get x.type).elim 0 TI.size)).toArray)
    (fun k o t' ti a b => by
      rw [← hfs] at a
      obtain ⟨x, hx, e⟩ := List.getElem?_map .. ▸ a |> Option.map_eq_some_iff.1
      simp only [Prod.mk.injEq] at e
      obtain ⟨rfl, rfl⟩ := e
      simp [hx, b])
    (zero_CsR ht ⟨i, hi, hz⟩) h (vparts := ps.map fun (i, x) => (i, ρv x)) (by rw [evParts_length]; simp) (fun k i' x j v a b => by
      rw [evParts_get] at a
      obtain ⟨q, hq, e⟩ := Option.map_eq_some_iff.1 a
      rw [List.getElem?_map, hq] at b
      cases e
      cases b
      exact ⟨rfl, hev _⟩)
  refine ⟨.agg us, ?_, us, rfl, h2⟩
  have hps : ((⟨ps⟩ : Array (Nat × Operand)).map fun (i, x) => (i, ρv x)).toList = ps.map fun (i, x) => (i, ρv x) := by simp
  simp only [Instr.build, Sem.run_bind, run_zero hi hz, Result.andThen_ok, run_underlying hF, hpl, hps, h1, Sem.run_pure]

end
end GV

/-
  Slices that are made, fields, lengths, conversions in the model. No condition beyond those named.
-/
import Derived.Test.YtlifofjaiigogaaVK
namespace GV
open Go
set_option linter.unusedSimpArgs false
set_option linter.unusedVariables false

section
variable {c : Ctx} {E : Env} {w w' : World} {O : Objs} {ρ : Nat → Value}

theorem allT_ok {fs : List (Nat × Nat)} (h : allT E fs = true) : ∀ (i o t : Nat), fs[i]? = some (o, t) → ∃ ti, E.tab.get t = some ti := by
  induction fs with
  | nil => intro i o t h; simp at h
  | cons a r ih =>
    obtain ⟨x, y⟩ := a
    unfold allT at h
    split at h
    · rename_i ti hti
      intro i o t hi
      cases i with
      | zero => simp at hi; obtain ⟨_, rfl⟩ := hi; exact ⟨_, hti⟩
      | succ i => exact ih h i o t (by simpa using hi)
    · cases h

/-! ### make -/

theorem flat_replicate (g : GT) (x : g.den) : ∀ (n k : Nat), k < n * gsize g → (flat g (List.replicate n x))[k]? = (enc g x)[k % gsize g]? := by
  intro n
  induction n with
  | zero => intro k h; simp at h
  | succ n ih =>
    intro k hk
    rw [Nat.succ_mul] at hk
    simp only [List.replicate_succ, flat]
    by_cases h : k < gsize g
    · rw [List.getElem?_append_left (by rw [enc_length]; exact h), Nat.mod_eq_of_lt h]
    · rw [List.getElem?_append_right (by rw [enc_length]; omega), enc_length, ih (k - gsize g) (by omega)]
      congr 1
      exact (Nat.mod_eq_sub_mod (by omega)).symm

theorem zero_pr {P : Program} {w : World} {A : Nat → Prop} {t : Nat} {ti : TI} (ht : TIok P t ti) {g : GT} (hg : ti.g = some g) {i : TypeInfo} {z : Value} (hi : P.info? t = some i) (hz : i.zero = some z)
    {k : Nat} {cc : Cell} {v : Value} (h1 : (enc g (dflt g))[k]? = some cc) (h2 : z.cells[k]? = some v) : PR w A cc v := by
  obtain ⟨i', z', hi', _, _, hz', hs, hl, hr⟩ := ht.info
  rw [hi] at hi'; cases hi'
  rw [hz] at hz'; cases hz'
  obtain ⟨l1, l2⟩ := zles_get (ht.zg g hg)
  have hk : k < ti.zero.length := by rw [l1]; exact (List.getElem?_eq_some_iff.1 h1).1
  exact zle_pr (l2 k _ cc (List.getElem?_eq_getElem hk) h1) (hr k _ v (List.getElem?_eq_getElem hk) h2)

theorem make_ok (hT : TabOk c.P E.tab) (hnm : E.nm = c.nm) (H : HRel c w O ρ) {d : Option Nat} {t : Nat} {g : GT} (hg : E.eg t = some g) {kl kc : IntKind} {l m : Int} {p : Option Prop} {v : AV} {us : Ups}
    (h : mk E d (getO O) (some (0 ≤ l ∧ l ≤ m ∧ m < 4294967296)) (.seq g (List.replicate l.toNat (dflt g))) Cell.sl = some (p, v, us)) (hok : pOk p) :
    ∃ cv w', (Instr.makeSlice t (.int kl l) (.int kc m)).run c.P w = .ok cv w' ∧ Post c w O ρ us v cv w' := by
  obtain ⟨e, te, ht, hte', hte, hsz, hgt⟩ := eg_ok hT hg
  obtain ⟨i, z, hi, his, hib, hiz, hzs, hzl, hzr⟩ := hte.info
  unfold mk at h
  split at h
  case h_2 => cases h
  rename_i hd
  have hd := Nat.le_of_ble_eq_true hd
  simp only [Option.some.injEq, Prod.mk.injEq] at h
  obtain ⟨rfl, rfl, rfl⟩ := h
  have hok : 0 ≤ l ∧ l ≤ m ∧ m < 4294967296 := hok
  obtain ⟨h0, h1, h2⟩ := hok
  have hb := hte.bytes
  have hrun := run_make (P := c.P) w t e i z ht hi hiz kl kc l m h0 h1 (by
    rw [hib]
    have : (te.bytes : Int) * m ≤ 4096 * 4294967296 := Int.mul_le_mul (by omega) (by omega) (by omega) (by omega)
    omega) (by omega)
  refine ⟨_, _, hrun, ?_⟩
  have hms : (madeCells z.cells (m.toNat * i.size)).size = m.toNat * gsize g := by rw [size_madeCells, his, hsz]
  have hlen : (List.replicate l.toNat (dflt g)).length = l.toNat := by simp
  have := new_seq H (d := dnat d) (by rw [← hnm]; exact hd) (grew_alloc w (madeCells z.cells (m.toNat * i.size)) e) g (List.replicate l.toNat (dflt g)) m.toNat (by rw [hlen]; omega) (by unfold maxLen; omega) hms
    (fun k cc u h1 h2 => by
      have hk : k < l.toNat * gsize g := by have := (List.getElem?_eq_some_iff.1 h1).1; rwa [flat_length, hlen] at this
      rw [flat_replicate g _ _ _ hk] at h1
      have hks : k < m.toNat * i.size := by
        rw [his, hsz]
        exact Nat.lt_of_lt_of_le hk (Nat.mul_le_mul_right _ (by omega))
      have hzc : z.cells.size = gsize g := by rw [hzs, hsz]
      have hmod : k % gsize g < z.cells.size := by rw [hzc]; exact Nat.mod_lt _ (gsize_pos g)
      simp only [madeCells, Array.getElem?_map, Array.getElem?_range, hks, if_true, Option.map_some, Option.some.injEq] at h2
      rw [hzc] at h2
      refine zero_pr hte hgt hi hiz h1 ?_
      rw [← h2, getElem!_pos z.cells _ hmod]
      simp [hmod])
  rw [hlen] at this
  exact this

theorem run_alloc {P : Program} {t : Nat} {i : TypeInfo} {z : Value} (hi : P.info? t = some i) (hz : i.zero = some z) :
    (Instr.alloc t true (.tuple #[])).run P w = .ok (.pointer (some ⟨w.heap.size, 0, none⟩)) (w.alloc (.cells z.cells t)) := by
  simp [Instr.alloc, run_zero hi hz, newVar, newRow]

theorem alloc_ok (hT : TabOk c.P E.tab) (hnm : E.nm = c.nm) (H : HRel c w O ρ) {d : Option Nat} {t : Nat} {ti : TI} (hti : E.tab.get t = some ti) {p : Option Prop} {v : AV} {us : Ups}
    (h : (mk E d (getO O) none (.box t (zcells ti.zero)) fun o v => Cell.ptr o v 0) = some (p, v, us)) :
    ∃ cv w', (Instr.alloc t true (.tuple #[])).run c.P w = .ok cv w' ∧ Post c w O ρ us v cv w' := by
  obtain ⟨i, z, hi, his, hib, hiz, hzs, hzl, hzr⟩ := (hT t ti hti).info
  unfold mk at h
  split at h
  case h_2 => cases h
  rename_i hd
  simp only [Option.some.injEq, Prod.mk.injEq] at h
  obtain ⟨rfl, rfl, rfl⟩ := h
  exact ⟨_, _, run_alloc hi hiz, new_box H (by rw [← hnm]; exact Nat.le_of_ble_eq_true hd) (grew_alloc w _ _) t _ (zero_CsR (hT t ti hti) ⟨i, hi, hiz⟩)⟩

theorem allocArr_ok (hT : TabOk c.P E.tab) (hnm : E.nm = c.nm) (H : HRel c w O ρ) {d : Option Nat} {t : Nat} {ti : TI} (hti : E.tab.get t = some ti) {n : Nat} {g : GT}
    (hz : zles ti.zero (flat g (List.replicate n (dflt g))) = true) {p : Option Prop} {v : AV} {us : Ups}
    (h : mk E d (getO O) (some (n < 4294967296)) (.seq g (List.replicate n (dflt g))) Cell.aptr = some (p, v, us)) (hok : pOk p) :
    ∃ cv w', (Instr.alloc t true (.tuple #[])).run c.P w = .ok cv w' ∧ Post c w O ρ us v cv w' := by
  obtain ⟨i, z, hi, his, hib, hiz, hzs, hzl, hzr⟩ := (hT t ti hti).info
  unfold mk at h
  split at h
  case h_2 => cases h
  rename_i hd
  simp only [Option.some.injEq, Prod.mk.injEq] at h
  obtain ⟨rfl, rfl, rfl⟩ := h
  have hok : n < 4294967296 := hok
  obtain ⟨l1, l2⟩ := zles_get hz
  have hlen : (List.replicate n (dflt g)).length = n := by simp
  refine ⟨_, _, run_alloc hi hiz, ?_⟩
  refine new_arr H (by rw [← hnm]; exact Nat.le_of_ble_eq_true hd) (grew_alloc w _ _) g _ (by rw [hlen]; unfold maxLen; omega) (by rw [hzs, ← hzl, l1, flat_length]) (fun k cc u h1 h2 => ?_)
  have hk : k < ti.zero.length := by rw [l1]; exact (List.getElem?_eq_some_iff.1 h1).1
  exact zle_pr (l2 k _ cc (List.getElem?_eq_getElem hk) h1) (hzr k _ u (List.getElem?_eq_getElem hk) h2)

theorem box_ok (hnm : E.nm = c.nm) (H : HRel c w O ρ) {d : Option Nat} {t : Nat} {x : AV} {vx : Value} (hx : AR (CellR w c.X O ρ) x vx) {cs : List Cell} (hcs : cellsOf x = some cs) {p : Option Prop} {v : AV} {us : Ups}
    (h : (mk E d (getO O) none (.box t cs) fun o v => Cell.ptr o v 0) = some (p, v, us)) :
    ∃ cv w', (Instr.box t vx).run c.P w = .ok cv w' ∧ Post c w O ρ us v cv w' := by
  unfold mk at h
  split at h
  case h_2 => cases h
  rename_i hd
  simp only [Option.some.injEq, Prod.mk.injEq] at h
  obtain ⟨rfl, rfl, rfl⟩ := h
  exact ⟨_, _, by simp [Instr.box, newVar, newRow], new_box H (by rw [← hnm]; exact Nat.le_of_ble_eq_true hd) (grew_alloc w _ t) t _ (cellsOf_ok hcs hx).1⟩

/-! ### a slice's literal -/

theorem elemsF_ok (H : HRel c w O ρ) {g : GT} : ∀ {parts : List (Nat × AV)} {n : Nat} {xs : List g.den} {p : Option Prop} {us : Ups}, elemsF (getO O) g n parts = some (xs, p, us) → pOk p →
    ∀ {vparts : List (Nat × Value)}, parts.length = vparts.length → (∀ (k i : Nat) (x : AV) (j : Nat) (v : Value), parts[k]? = some (i, x) → vparts[k]? = some (j, v) → i = j ∧ AR (CellR w c.X O ρ) x v) →
    Frz O us ∧ xs.length = parts.length ∧ (∀ (k j : Nat) (v : Value), vparts[k]? = some (j, v) → j = n + k ∧ v.cells.size = gsize g ∧ ∀ u ∈ v.cells.toList, u.oneCell' = true) ∧
      ∀ {O' : Objs}, HRel c w O' ρ → (∀ b, Owned O' ρ b → Owned O ρ b) → (∀ o v z, (o, v, z) ∈ us → getO O' o = (v, z)) →
        ∀ (k j : Nat) (v : Value) (x : g.den), vparts[k]? = some (j, v) → xs[k]? = some x → ∀ (q : Nat) (cc : Cell) (u : Value), (enc g x)[q]? = some cc → v.cells.toList[q]? = some u → PR w (Av c.X O' ρ) cc u := by
  intro parts
  induction parts with
  | nil =>
    intro n xs p us h _ vparts hl _
    simp only [elemsF, Option.some.injEq, Prod.mk.injEq] at h
    obtain ⟨rfl, rfl, rfl⟩ := h
    cases vparts with
    | nil => exact ⟨frz_nil, rfl, fun k j v h => by simp at h, fun _ _ _ k j v x h => by simp at h⟩
    | cons _ _ => simp at hl
  | cons a r ih =>
    intro n xs p us h hok vparts hl hp
    cases vparts with
    | nil => simp at hl
    | cons b s =>
      obtain ⟨i, x⟩ := a
      obtain ⟨j, v⟩ := b
      obtain ⟨rfl, hx⟩ := hp 0 i x j v rfl rfl
      unfold elemsF at h
      split at h
      · cases h
      rename_i hin
      obtain rfl := Nat.eq_of_beq_eq_true hin
      split at h
      · cases h
      rename_i cs hcs
      split at h
      · cases h
      rename_i cs' us1 hsn
      split at h
      · cases h
      rename_i y p1 hdec
      split at h
      · cases h
      rename_i xs' p2 us2 hrest
      simp only [Option.some.injEq, Prod.mk.injEq] at h
      obtain ⟨rfl, rfl, rfl⟩ := h
      have hpp : pOk p1 ∧ pOk p2 := by
        cases p1 <;> cases p2 <;> simp only [andP, pOk] at hok ⊢ <;> first | exact ⟨trivial, trivial⟩ | exact ⟨trivial, hok⟩ | exact ⟨hok, trivial⟩ | exact hok
      obtain ⟨hcr, h1⟩ := cellsOf_ok hcs hx
      obtain ⟨i1, i2, i3, i4⟩ := ih hrest hpp.2 (vparts := s) (by simpa using hl) (fun k i' x' j' v' a b => hp (k + 1) i' x' j' v' (by simpa using a) (by simpa using b))
      have hsz : cs'.length = v.cells.toList.length := by
        have : CsR (SnR w (Av c.X (setOs O us1) ρ)) cs' v.cells.toList := by
          have hf := snapCs_frz hsn
          obtain ⟨H1, _⟩ := freezes us1 H hf
          exact snapCs_rel H hsn H1 (frz_owned hf) (frz_get us1 hf).1 hcr
        exact this.1
      have hle := (dec_le hdec hpp.1).get.1
      refine ⟨(snapCs_frz hsn).append i1, by simp [i2], fun k j' v' hk => ?_, fun {O'} H' hsub hus k j' v' x' hk hx' q cc u hq hu => ?_⟩
      · cases k with
        | zero => simp at hk; obtain ⟨rfl, rfl⟩ := hk; exact ⟨rfl, by rw [← Array.length_toList, ← hsz, hle, enc_length], h1⟩
        | succ k =>
          obtain ⟨a1, a2⟩ := i3 k j' v' (by simpa using hk)
          exact ⟨by omega, a2⟩
      · cases k with
        | zero =>
          simp at hk hx'
          obtain ⟨rfl, rfl⟩ := hk
          subst hx'
          exact (dec_pr hdec hpp.1 (snapCs_rel H hsn H' hsub (fun o v z hm => hus o v z (List.mem_append_left _ hm)) hcr)).2 q cc u hq hu
        | succ k => exact i4 H' hsub (fun o v z hm => hus o v z (List.mem_append_right _ hm)) k j' v' x' (by simpa using hk) (by simpa using hx') q cc u hq hu

theorem fillSlice_ok {size : Nat} : ∀ (vparts : List (Nat × Value)) (n : Nat) (cs : Array Value), (∀ (k j : Nat) (v : Value), vparts[k]? = some (j, v) → j = n + k ∧ v.cells.size = size) → (n + vparts.length) * size ≤ cs.size →
    ∃ us, Instr.fill (fun i => some (i * size, size)) cs vparts = some us ∧ us.size = cs.size ∧ (∀ k, k < n * size → us[k]? = cs[k]?) ∧
      ∀ (k j : Nat) (v : Value) (q : Nat), vparts[k]? = some (j, v) → q < size → us[(n + k) * size + q]? = v.cells[q]? := by
  intro vparts
  induction vparts with
  | nil => intro n cs _ _; exact ⟨cs, rfl, rfl, fun _ _ => rfl, fun k j v q h => by simp at h⟩
  | cons a r ih =>
    intro n cs hp hb
    obtain ⟨j, v⟩ := a
    obtain ⟨e, hv⟩ := hp 0 j v rfl
    simp only [Nat.add_zero] at e
    subst e
    have hfit : j * size + v.cells.toList.length ≤ cs.size := by
      rw [Array.length_toList, hv]
      have : (j + 1) * size ≤ (j + (r.length + 1)) * size := Nat.mul_le_mul_right _ (by omega)
      rw [Nat.succ_mul] at this
      simp only [List.length_cons] at hb
      omega
    have hz : v.cells.zipIdx.foldl (fun cs (x : Value × Nat) => cs.setIfInBounds (j * size + x.2) x.1) cs = put cs (j * size) v.cells.toList := by
      rw [← foldl_put v.cells.toList cs (j * size) hfit, ← Array.foldl_toList]
      simp
    obtain ⟨us, h1, h2, h3, h4⟩ := ih (j + 1) (put cs (j * size) v.cells.toList) (fun k i u hk => by
      obtain ⟨a1, a2⟩ := hp (k + 1) i u (by simpa using hk)
      exact ⟨by omega, a2⟩) (by rw [put_size hfit]; simp only [List.length_cons] at hb; rw [show j + 1 + r.length = j + (r.length + 1) by omega]; exact hb)
    refine ⟨us, ?_, by rw [h2, put_size hfit], fun k hk => ?_, fun k i u q hk hq => ?_⟩
    · simp only [Instr.fill]
      rw [if_neg (by rw [Array.length_toList] at hfit; simp [hv]; omega), hz]
      exact h1
    · rw [h3 k (by rw [Nat.succ_mul]; omega), put_get hfit, if_neg (by omega)]
    · cases k with
      | zero =>
        simp at hk
        obtain ⟨rfl, rfl⟩ := hk
        rw [Nat.add_zero, h3 _ (by rw [Nat.succ_mul]; omega), put_get hfit, if_pos (by rw [Array.length_toList, hv]; omega), Nat.add_sub_cancel_left, Array.getElem?_toList]
      | succ k =>
        have := h4 k i u q (by simpa using hk) hq
        rwa [show j + 1 + k = j + (k + 1) by omega] at this

theorem buildSlice_ok (hT : TabOk c.P E.tab) (hnm : E.nm = c.nm) (H : HRel c w O ρ) {d : Option Nat} {t : Nat} {g : GT} (hg : E.eg t = some g) {ps : List (Nat × Operand)} {n : Nat} (hn : n = ps.length) {ev : Operand → AV} {ρv : Operand → Value}
    (hev : ∀ x, AR (CellR w c.X O ρ) (ev x) (ρv x)) {xs : List g.den} {p : Option Prop} {us : Ups} (h : elemsF (getO O) g 0 (evParts ev ps) = some (xs, p, us)) (hok : pOk p) (hd : c.nm ≤ dnat d)
    (hsmall : n * 13 ≤ 16777216) (hdu : ∀ v x, (dnat d, v, x) ∉ us) :
    ∃ cv w', (Instr.buildSlice t n ((⟨ps⟩ : Array (Nat × Operand)).map fun (i, x) => (i, ρv x))).run c.P w = .ok cv w' ∧
      Post c w O ρ (us ++ [(dnat d, verOf (getO O) (dnat d) + 1, .seq g xs)]) (.c (.sl (dnat d) (verOf (getO O) (dnat d) + 1))) cv w' := by
  obtain ⟨e, te, ht, hte', hte, hsz, hgt⟩ := eg_ok hT hg
  obtain ⟨i, z, hi, his, hib, hiz, hzs, hzl, hzr⟩ := hte.info
  have his' : i.size = gsize g := by rw [his, hsz]
  have hsum : (Go.sizeOf e).run c.P w = .ok (gsize g) w := by rw [hte.sizeOf, hsz]
  have hvp : ((⟨ps⟩ : Array (Nat × Operand)).map fun (i, x) => (i, ρv x)).toList = ps.map fun (i, x) => (i, ρv x) := by simp
  obtain ⟨f1, f2, f3, f4⟩ := elemsF_ok H h hok (vparts := ps.map fun (i, x) => (i, ρv x)) (by rw [evParts_length]; simp) (fun k i' x' j' v' a b => by
    rw [evParts_get] at a
    obtain ⟨q, hq, e⟩ := Option.map_eq_some_iff.1 a
    rw [List.getElem?_map, hq] at b
    cases e
    cases b
    exact ⟨rfl, hev _⟩)
  rw [evParts_length] at f2
  obtain ⟨H1, k1⟩ := freezes us H f1
  have hgm : gsize g ≤ 13 := by cases g <;> decide
  have hbig : ¬ (n * gsize g > 2 ^ 24) := by
    have : n * gsize g ≤ n * 13 := Nat.mul_le_mul_left _ hgm
    omega
  obtain ⟨cells, g1, g2, _, g4⟩ := fillSlice_ok (size := gsize g) (ps.map fun (i, x) => (i, ρv x)) 0 ((Array.range (n * gsize g)).map (z.cells[· % z.cells.size]!)) (fun k j v hk => by
    obtain ⟨a1, a2, _⟩ := f3 k j v hk; exact ⟨a1, a2⟩) (by simp [hn])
  have hcs : cells.size = n * gsize g := by rw [g2]; simp
  have hrun : (Instr.buildSlice t n ((⟨ps⟩ : Array (Nat × Operand)).map fun (i, x) => (i, ρv x))).run c.P w = .ok (.slice (some ⟨w.heap.size, 0, none⟩) n n) (w.alloc (.cells cells e)) := by
    have hzero : ∀ n', (if n' = 0 then (pure #[] : Sem (Array Value)) else do pure (← zeroValue e).cells).run c.P w = .ok (if n' = 0 then #[] else z.cells) w := by
      intro n'; split
      · rfl
      · simp [run_zero hi hiz]
    simp only [Instr.buildSlice, Sem.run_bind, run_underlying ht, Result.andThen_ok, hsum, hvp]
    rw [if_neg hbig]
    by_cases h0 : n * gsize g = 0
    · have hn0 : n = 0 := by
        rcases Nat.mul_eq_zero.1 h0 with h | h
        · exact h
        · have := gsize_pos g; omega
      have hps : ps = [] := List.eq_nil_of_length_eq_zero (by omega)
      subst hps
      simp only [List.map_nil, Instr.fill, Option.some.injEq] at g1
      subst g1
      simp [h0, Instr.fill, newRow, Array.range_zero', hn0]
    · simp [h0, run_zero hi hiz, g1, newRow]
  refine ⟨_, _, hrun, ?_⟩
  have hver : (getO (setOs O us) (dnat d)).1 = verOf (getO O) (dnat d) := by
    rw [(frz_get us f1).2 _ hdu]; rfl
  have hns := new_seq H1 hd (grew_alloc w cells e) g xs n (by rw [f2]; omega) (by unfold maxLen; omega) hcs (fun k cc u h1 h2 => by
    have hk : k < ps.length * gsize g := by rw [← f2, ← flat_length]; exact (List.getElem?_eq_some_iff.1 h1).1
    have hm := gsize_pos g
    have hdm : k = k / gsize g * gsize g + k % gsize g := by rw [Nat.mul_comm]; exact (Nat.div_add_mod k (gsize g)).symm
    have hq : k % gsize g < gsize g := Nat.mod_lt _ hm
    have hj : k / gsize g < ps.length := Nat.div_lt_of_lt_mul (by rw [Nat.mul_comm]; exact hk)
    have hxj : xs[k / gsize g]? = some (xs[k / gsize g]'(by omega)) := List.getElem?_eq_getElem (by omega)
    have hvj : (ps.map fun (i, x) => (i, ρv x))[k / gsize g]? = some ((ps[k / gsize g]).1, ρv (ps[k / gsize g]).2) := by simp [hj]
    rw [hdm, flat_get g xs _ _ _ hxj hq] at h1
    rw [hdm] at h2
    have hg4 := g4 _ _ _ _ hvj hq
    rw [Nat.zero_add] at hg4
    rw [hg4] at h2
    exact f4 H1 (frz_owned f1) (frz_get us f1).1 _ _ _ _ hvj hxj _ cc u h1 (by rwa [Array.getElem?_toList]))
  rw [hver, f2, ← hn] at hns
  obtain ⟨ρ', a1, a2, a3⟩ := hns
  exact ⟨ρ', by rw [setOs_append]; exact a1, fun y u hy => by rw [setOs_append]; exact a2 y u (k1 y u hy), by rw [setOs_append]; exact a3⟩

end
end GV

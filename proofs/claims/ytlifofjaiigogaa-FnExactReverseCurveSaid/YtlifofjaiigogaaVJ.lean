/-
  Cuts, makes and literals in the model. No condition beyond those named.
-/
import Derived.Test.YtlifofjaiigogaaVI
namespace GV
open Go
set_option linter.unusedSimpArgs false
set_option linter.unusedVariables false

section
variable {c : Ctx} {E : Env} {w w' : World} {O : Objs} {ρ : Nat → Value}

def optV : Option Int → IntKind → Option Value
  | none, _ => none
  | some n, k => some (.int k n)

theorem optI_ok {R : Cell → Value → Prop} (hR : ∀ k n v, R (.int k n) v → v = .int k n) {ox : Option AV} {r : Option Int} (h : optI ox = some r) {ov : Option Value}
    (hv : ∀ x, ox = some x → ∃ v, ov = some v ∧ AR R x v) (hn : ox = none → ov = none) : (r = none ∧ ov = none) ∨ ∃ k n, r = some n ∧ ov = some (.int k n) := by
  unfold optI at h
  split at h
  · cases h; exact .inl ⟨rfl, hn rfl⟩
  · rename_i k n
    cases h
    obtain ⟨v, e, hr⟩ := hv _ rfl
    exact .inr ⟨k, n, rfl, by rw [e, hR _ _ _ hr]⟩
  · cases h

theorem bounds_ok {P : Program} {w : World} {sl : Bool} {len cap : Nat} (hcap : len ≤ cap) {lo hi : Option Int} {olo ohi : Option Value} (h1 : (lo = none ∧ olo = none) ∨ ∃ k n, lo = some n ∧ olo = some (.int k n))
    (h2 : (hi = none ∧ ohi = none) ∨ ∃ k n, hi = some n ∧ ohi = some (.int k n)) (hok : pOk (cutP len lo hi)) :
    ∃ l h : Nat, (Instr.sliceBounds sl len cap olo ohi none).run P w = .ok (l, h, cap) w ∧ l ≤ h ∧ h ≤ len ∧ (lo = none → l = 0) ∧ (∀ n, lo = some n → l = n.toNat) ∧ (hi = none → h = len) ∧ (∀ n, hi = some n → h = n.toNat) := by
  rcases h1 with ⟨rfl, rfl⟩ | ⟨k1, n1, rfl, rfl⟩ <;> rcases h2 with ⟨rfl, rfl⟩ | ⟨k2, n2, rfl, rfl⟩ <;> simp only [cutP, pOk] at hok
  · exact ⟨0, len, by simp [Instr.sliceBounds], Nat.zero_le _, Nat.le_refl _, fun _ => rfl, fun _ h => (by cases h), fun _ => rfl, fun _ h => (by cases h)⟩
  · refine ⟨0, n2.toNat, ?_, Nat.zero_le _, by omega, fun _ => rfl, fun _ h => (by cases h), fun h => (by cases h), fun _ h => (by cases h; rfl)⟩
    have e2 : (0 : Int) ≤ n2 ∧ n2 ≤ (cap : Int) := by omega
    simp [Instr.sliceBounds, Instr.sliceBound, asIntOf, e2]
  · refine ⟨n1.toNat, len, ?_, by omega, Nat.le_refl _, fun h => (by cases h), fun _ h => (by cases h; rfl), fun _ => rfl, fun _ h => (by cases h)⟩
    simp [Instr.sliceBounds, Instr.sliceBound, asIntOf, hok]
  · refine ⟨n1.toNat, n2.toNat, ?_, by omega, by omega, fun h => (by cases h), fun _ h => (by cases h; rfl), fun h => (by cases h), fun _ h => (by cases h; rfl)⟩
    have e2 : (0 : Int) ≤ n2 ∧ n2 ≤ (cap : Int) := by omega
    have e1 : (0 : Int) ≤ n1 ∧ n1 ≤ ((n2.toNat : Nat) : Int) := by omega
    have e3 : n1 ≤ max n2 0 := by omega
    simp [Instr.sliceBounds, Instr.sliceBound, asIntOf, e2, e1, e3]

theorem cutL_eq {α : Type} {xs : List α} {lo hi : Option Int} {l h : Nat} (hh : h ≤ xs.length) (a1 : lo = none → l = 0) (a2 : ∀ n, lo = some n → l = n.toNat) (b1 : hi = none → h = xs.length) (b2 : ∀ n, hi = some n → h = n.toNat) :
    cutL xs lo hi = (xs.take h).drop l := by
  cases lo with
  | none =>
    obtain rfl := a1 rfl
    cases hi with
    | none => obtain rfl := b1 rfl; simp [cutL]
    | some n => obtain rfl := b2 n rfl; simp [cutL]
  | some m =>
    obtain rfl := a2 m rfl
    cases hi with
    | none => obtain rfl := b1 rfl; simp [cutL]
    | some n => obtain rfl := b2 n rfl; simp [cutL]

/-- A part of a list that lies still lies still. -/
theorem im_cut {w : World} {A : Nat → Prop} {g : GT} {xs : List g.den} {a : Option Addr} {n cap : Nat} (hu : PR w A (.im g xs) (.slice a n cap)) {l h : Nat} (hl : l ≤ h) (hh : h ≤ xs.length) :
    n = xs.length ∧ xs.length ≤ cap ∧ PR w A (.im g ((xs.take h).drop l)) (.slice (if cap = l then a else a.map (·.add (l * gsize g))) (h - l) (cap - l)) := by
  rcases im_inv hu with ⟨rfl, a', e⟩ | ⟨b, q, cap', f, e, ⟨hcap, hmx⟩, hc, hr⟩
  · cases e
    simp at hh
    subst hh
    have : l = 0 := by omega
    subst this
    exact ⟨rfl, Nat.le_refl _, by simpa using PR.none g a⟩
  · cases e
    refine ⟨rfl, hcap, ?_⟩
    have hlen : ((xs.take h).drop l).length = h - l := by simp; omega
    have hfl : flat g ((xs.take h).drop l) = ((flat g xs).take (h * gsize g)).drop (l * gsize g) := by rw [flat_drop, flat_take]
    have hsub : ∀ k cc, (flat g ((xs.take h).drop l))[k]? = some cc → (flat g xs)[l * gsize g + k]? = some cc := by
      intro k cc hk
      rw [hfl, List.getElem?_drop, List.getElem?_take] at hk
      split at hk
      · exact hk
      · cases hk
    by_cases hc0 : cap = l
    · have : h = l := by omega
      subst this
      have h0 : (xs.take h).drop h = [] := by apply List.drop_eq_nil_of_le; simp; omega
      rw [if_pos hc0, h0, Nat.sub_self]
      exact PR.im (w := w) (A := A) g [] b q (cap - h) f ⟨by simp, by omega⟩ (fun k hk => by simp [flat] at hk) (fun k cc hk => by simp [flat] at hk)
    · rw [if_neg hc0]
      simp only [Option.map_some, Addr.add_lit]
      have := PR.im (w := w) (A := A) g ((xs.take h).drop l) b (q + l * gsize g) (cap - l) (fun k => f (l * gsize g + k)) ⟨by rw [hlen]; omega, by omega⟩
        (fun k hk => by
          obtain ⟨cc, hcc⟩ : ∃ cc, (flat g ((xs.take h).drop l))[k]? = some cc := ⟨_, List.getElem?_eq_getElem hk⟩
          have := hsub k cc hcc
          rw [Nat.add_assoc]
          exact hc _ (List.getElem?_eq_some_iff.1 this).1)
        (fun k cc hk => hr _ cc (hsub k cc hk))
      rw [hlen] at this
      exact this

theorem run_slice_bounds {P : Program} {w : World} {t e : Nat} {te : TI} (ht : P.underlying t = some (.slice e)) (he : TIok P e te) {a : Option Addr} {n cap : Nat} {lo hi : Option Value} {l h : Nat}
    (hb : (Instr.sliceBounds true n cap lo hi none).run P w = .ok (l, h, cap) w) :
    (Instr.sliceAt t (.slice a n cap) lo hi none).run P w = .ok (.slice (if cap = l then a else a.map (·.add (l * te.size))) (h - l) (cap - l)) w := by
  simp [Instr.sliceAt, Instr.slice, run_underlying ht, hb, he.sizeOf]

theorem R_int {w : World} {X : Nat → Prop} {O : Objs} {ρ : Nat → Value} : ∀ k n v, CellR w X O ρ (.int k n) v → v = .int k n := fun _ _ _ h => h

theorem sliceF_ok (hT : TabOk c.P E.tab) (hnm : E.nm = c.nm) (H : HRel c w O ρ) {d : Option Nat} {t : Nat} {x : AV} {olo ohi : Option AV} {vx : Value} {vlo vhi : Option Value} (hx : AR (CellR w c.X O ρ) x vx)
    (hlo : (∀ y, olo = some y → ∃ v, vlo = some v ∧ AR (CellR w c.X O ρ) y v) ∧ (olo = none → vlo = none)) (hhi : (∀ y, ohi = some y → ∃ v, vhi = some v ∧ AR (CellR w c.X O ρ) y v) ∧ (ohi = none → vhi = none))
    {p : Option Prop} {v : AV} {us : Ups} (h : sliceF E d (getO O) t x olo ohi = some (p, v, us)) (hok : pOk p) :
    ∃ cv, (Instr.sliceAt t vx vlo vhi none).run c.P w = .ok cv w ∧ Post c w O ρ us v cv w := by
  unfold sliceF at h
  split at h
  · cases h
  rename_i lo hlo'
  split at h
  · cases h
  rename_i hi hhi'
  have b1 := optI_ok R_int hlo' hlo.1 hlo.2
  have b2 := optI_ok R_int hhi' hhi.1 hhi.2
  split at h
  · -- strings
    rename_i hti
    have ht : c.P.underlying t = some .string := (hT t _ hti).kd
    split at h
    · rename_i s
      simp only [Option.some.injEq, Prod.mk.injEq] at h
      obtain ⟨rfl, rfl, rfl⟩ := h
      obtain rfl : vx = .string ⟨⟨s⟩⟩ := hx
      obtain ⟨l, hh, hrun, h1, h2, a1, a2, c1, c2⟩ := bounds_ok (P := c.P) (w := w) (sl := false) (Nat.le_refl s.length) b1 b2 hok
      refine ⟨.string ⟨⟨cutL s lo hi⟩⟩, ?_, _, H, fun _ _ h => h, rfl⟩
      rw [cutL_eq h2 a1 a2 c1 c2]
      have hsz : (⟨⟨s⟩⟩ : ByteArray).size = s.length := rfl
      have hex : ByteArray.extract ⟨⟨s⟩⟩ l hh = ⟨⟨(s.take hh).drop l⟩⟩ := by
        apply ByteArray.ext
        simp [ByteArray.data_extract]
        rw [List.drop_take]
      simp [Instr.sliceAt, Instr.slice, run_underlying ht, hsz, hrun, hex]
    · cases h
  · rename_i e _ _ hti
    have ht : c.P.underlying t = some (.slice e) := (hT t _ hti).kd
    split at h
    · cases h
    rename_i te hte
    have he := hT e te hte
    have im : ∀ (g : GT) (xs : List g.den) (u : Value), PR w (Av c.X O ρ) (.im g xs) u → te.size = gsize g → pOk (cutP xs.length lo hi) →
        ∃ cv, (Instr.sliceAt t u vlo vhi none).run c.P w = .ok cv w ∧ PR w (Av c.X O ρ) (.im g (cutL xs lo hi)) cv := by
      intro g xs u hu hsz hok
      obtain ⟨a, n, cap, rfl⟩ := pr_slice hu
      obtain ⟨rfl, hcap, _⟩ := im_cut hu (Nat.le_refl 0) (Nat.zero_le _)
      obtain ⟨l, hh, hrun, h1, h2, a1, a2, c1, c2⟩ := bounds_ok (P := c.P) (w := w) (sl := true) hcap b1 b2 hok
      obtain ⟨_, _, hcut⟩ := im_cut hu h1 h2
      exact ⟨_, run_slice_bounds ht he hrun, by rw [cutL_eq h2 a1 a2 c1 c2, hsz]; exact hcut⟩
    split at h
    · rename_i g xs
      split at h
      · rename_i hf
        simp only [Option.some.injEq, Prod.mk.injEq] at h
        obtain ⟨rfl, rfl, rfl⟩ := h
        obtain ⟨cv, h1, h2⟩ := im g xs vx hx (fits_ok hf) hok
        exact ⟨cv, h1, _, H, fun _ _ h => h, h2⟩
      · cases h
    · rename_i o ver
      split at h
      · rename_i g xs hcur
        split at h
        · rename_i hf
          simp only [Option.some.injEq, Prod.mk.injEq] at h
          obtain ⟨rfl, rfl, rfl⟩ := h
          have ho := cur_eq hcur (by simp)
          obtain ⟨_, hx⟩ := hx
          have hx := hx (by rw [ho])
          rw [ho] at hx
          have hx : vx = ρ o := hx
          subst hx
          have hob := H.obj o
          rw [ho] at hob
          obtain ⟨cv, h1, h2⟩ := im g xs _ hob (fits_ok hf) hok
          exact ⟨cv, h1, _, H, fun _ _ h => h, h2⟩
        · cases h
      · rename_i g xs hcur
        split at h
        · cases h
        rename_i hf
        have hsz := fits_ok hf
        have ho := cur_eq hcur (by simp)
        obtain rfl : vx = ρ o := sl_val H hx ho
        split at h
        · -- a shorter row of the same object
          rename_i n hfz
          simp only [Option.some.injEq, Prod.mk.injEq] at h
          obtain ⟨rfl, rfl, rfl⟩ := h
          have hok : 0 ≤ n ∧ n ≤ xs.length := hok
          have hnm' : ¬ o < c.nm := by
            split at hfz
            · cases hfz
            · intro hlt
              rw [hnm] at hfz
              have : Nat.blt o c.nm = true := by unfold Nat.blt; exact Nat.ble_eq_true_of_le hlt
              rw [this] at hfz; cases hfz
          have hob := H.obj o
          rw [ho] at hob
          have b1' := b1
          rcases hob with ⟨rfl, hρ⟩ | ⟨b, cap, ccs, t', hρ, hcap, hmax, hgb, hcs, hr⟩
          · have : n = 0 := by simp at hok; omega
            subst this
            obtain ⟨l, hh, hrun, h1, h2, a1, a2, c1, c2⟩ := bounds_ok (P := c.P) (w := w) (sl := true) (Nat.le_refl 0) (lo := none) (hi := some 0) b1' b2 (by simp [cutP, pOk])
            have e1 := a1 rfl
            have e2 := c2 0 rfl
            subst e1
            subst e2
            refine ⟨.slice none 0 0, by rw [hρ, run_slice_bounds ht he hrun]; rfl, ?_⟩
            obtain ⟨H', hk⟩ := hrel_set (w' := w) H o (ver + 1) (.seq g []) (.slice none 0 0) (.inl (by rw [ho]; exact Nat.lt_succ_self _)) (fun _ _ _ => rfl)
              (fun b hb => by simp [ownOf, blk] at hb) (fun hlt _ => absurd hlt hnm') (fun _ => .inl ⟨rfl, rfl⟩) (Nat.le_refl _) rfl rfl rfl
            refine ⟨_, by simpa [setOs] using H', by simpa [setOs] using hk, ?_⟩
            simp only [AR, CellR, setOs, getO_setO_same, upd_same]
            exact ⟨⟨Nat.le_refl _, rfl⟩, fun _ => trivial⟩
          · have hown : own O ρ o = some b := by unfold own; rw [ho, hρ]; rfl
            obtain ⟨l, hh, hrun, h1, h2, a1, a2, c1, c2⟩ := bounds_ok (P := c.P) (w := w) (sl := true) hcap (lo := none) (hi := some n) b1' b2 (by simpa [cutP, pOk] using hok)
            have e1 := a1 rfl
            have e2 := c2 n rfl
            subst e1
            subst e2
            refine ⟨.slice (some ⟨b, 0, none⟩) n.toNat cap, by rw [hρ, run_slice_bounds ht he hrun]; simp [Addr.add_lit], ?_⟩
            have hlen : (xs.take n.toNat).length = n.toNat := by simp; omega
            obtain ⟨H', hk⟩ := hrel_set (w' := w) H o (ver + 1) (.seq g (xs.take n.toNat)) (.slice (some ⟨b, 0, none⟩) n.toNat cap) (.inl (by rw [ho]; exact Nat.lt_succ_self _)) (fun _ _ _ => rfl)
              (fun b' hb' => .inl (by rw [hown]; simpa [ownOf, blk] using hb')) (fun hlt _ => absurd hlt hnm')
              (fun hk => .inr ⟨b, cap, ccs, t', by rw [hlen], by rw [hlen]; omega, hmax, hgb, hcs, fun k cc u h1 h2 => by
                rw [flat_take, List.getElem?_take] at h1
                split at h1
                · refine (hr k cc u h1 h2).mono (fun _ _ _ => rfl) (fun b' _ hA => ?_)
                  rcases hA with hA | ⟨o', ho'⟩
                  · exact .inl hA
                  · by_cases e : o' = o
                    · subst e; rw [own_set_same] at ho'; exact .inr ⟨o', by rw [hown]; simpa [ownOf, blk] using ho'⟩
                    · rw [own_set_other _ _ _ e] at ho'; exact .inr ⟨o', ho'⟩
                · cases h1⟩) (Nat.le_refl _) rfl rfl rfl
            refine ⟨_, H', hk, ?_⟩
            simp only [AR, CellR, setOs, getO_setO_same, upd_same]
            exact ⟨⟨Nat.le_refl _, rfl⟩, fun _ => trivial⟩
        · -- a part, the row being held fast
          simp only [Option.some.injEq, Prod.mk.injEq] at h
          obtain ⟨rfl, rfl, rfl⟩ := h
          obtain ⟨H', hk⟩ := freeze1 H (.inl ho)
          have hob := H'.obj o
          rw [getO_setO_same] at hob
          have hob : PR w (Av c.X (setO O o ver (.fro g xs)) ρ) (.im g xs) (ρ o) := hob
          obtain ⟨a, n, cap, hρ⟩ := pr_slice hob
          rw [hρ] at hob ⊢
          obtain ⟨rfl, hcap, _⟩ := im_cut hob (Nat.le_refl 0) (Nat.zero_le _)
          obtain ⟨l, hh, hrun, h1, h2, a1, a2, c1, c2⟩ := bounds_ok (P := c.P) (w := w) (sl := true) hcap b1 b2 hok
          obtain ⟨_, _, hcut⟩ := im_cut hob h1 h2
          refine ⟨_, run_slice_bounds ht he hrun, _, H', hk, ?_⟩
          rw [cutL_eq h2 a1 a2 c1 c2, hsz]; exact hcut
      · cases h
    · cases h
  · rename_i m e _ _ hti
    have ht : c.P.underlying t = some (.array m e) := (hT t _ hti).kd
    split at h
    · cases h
    rename_i te hte
    have he := hT e te hte
    split at h
    · rename_i o ver
      split at h
      · rename_i g xs hcur
        split at h
        · rename_i hf
          have hsz := fits_ok hf
          simp only [Option.some.injEq, Prod.mk.injEq] at h
          obtain ⟨rfl, rfl, rfl⟩ := h
          have ho := cur_eq hcur (by simp)
          obtain ⟨_, hx⟩ := hx
          have hx := hx (by rw [ho])
          rw [ho] at hx
          obtain ⟨b, hρ, rfl⟩ := hx
          have hok' : xs.length = m ∧ pOk (cutP xs.length lo hi) := by
            cases hcp : cutP xs.length lo hi with
            | none => rw [hcp] at hok; exact ⟨hok, trivial⟩
            | some q => rw [hcp] at hok; exact hok
          obtain ⟨rfl, hok2⟩ := hok'
          obtain ⟨H', hk⟩ := freeze1 H (.inl ho)
          have hob := H'.obj o
          rw [getO_setO_same] at hob
          have hob : PR w (Av c.X (setO O o ver (.fro g xs)) ρ) (.im g xs) (ρ o) := hob
          rw [hρ] at hob
          obtain ⟨l, hh, hrun, h1, h2, a1, a2, c1, c2⟩ := bounds_ok (P := c.P) (w := w) (sl := false) (Nat.le_refl xs.length) b1 b2 hok2
          obtain ⟨_, _, hcut⟩ := im_cut hob h1 h2
          refine ⟨.slice (some (if xs.length = l then ⟨b, 0, none⟩ else (⟨b, 0, none⟩ : Addr).add (l * te.size))) (hh - l) (xs.length - l), ?_, _, H', hk, ?_⟩
          · simp only [Instr.sliceAt, run_underlying ht, Sem.run_bind, Result.andThen_ok, Instr.sureAddr, Sem.run_pure, hrun, he.sizeOf]
          · rw [cutL_eq h2 a1 a2 c1 c2]
            have : (if xs.length = l then (some ⟨b, 0, none⟩ : Option Addr) else (some ⟨b, 0, none⟩ : Option Addr).map (·.add (l * gsize g))) = some (if xs.length = l then ⟨b, 0, none⟩ else (⟨b, 0, none⟩ : Addr).add (l * te.size)) := by
              split
              · rfl
              · rw [hsz]; rfl
            rw [this] at hcut
            exact hcut
        · cases h
      · cases h
    · cases h
  · cases h

end
end GV

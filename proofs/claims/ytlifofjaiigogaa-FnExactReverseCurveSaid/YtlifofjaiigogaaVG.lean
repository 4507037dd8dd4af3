/-
  Memory: stores and appends in the model. No condition beyond those named.
-/
import Derived.Test.YtlifofjaiigogaaVF
namespace GV
open Go
set_option linter.unusedSimpArgs false
set_option linter.unusedVariables false

theorem flat_set (g : GT) (xs : List g.den) (i : Nat) (y : g.den) (h : i < xs.length) : flat g (xs.set i y) = (flat g xs).take (i * gsize g) ++ enc g y ++ (flat g xs).drop ((i + 1) * gsize g) := by
  rw [List.set_eq_take_append_cons_drop, if_pos h, flat_append]
  simp only [flat, flat_take, flat_drop, List.append_assoc]

section
variable {c : Ctx} {E : Env} {w w' : World} {O : Objs} {ρ : Nat → Value}

theorem storeF_ok (hT : TabOk c.P E.tab) (H : HRel c w O ρ) {t : Nat} {ap av : AV} {vp vv : Value} (hp : AR (CellR w c.X O ρ) ap vp) (hv : AR (CellR w c.X O ρ) av vv) {p : Option Prop} {v : AV} {us : Ups}
    (h : storeF E (getO O) t ap av = some (p, v, us)) (hok : pOk p) : ∃ w', (Instr.storeAt t vp vv).run c.P w = .ok () w' ∧ ∀ cv, Post c w O ρ us v cv w' := by
  unfold storeF at h
  split at h
  · cases h
  rename_i ti hti
  have ht := hT t ti hti
  split at h
  · cases h
  rename_i ns hns
  obtain ⟨hcs, h1⟩ := cellsOf_ok hns hv
  split at h
  · cases h
  rename_i hlen
  have hlen := Nat.eq_of_beq_eq_true hlen
  have hsz : vv.cells.size = ti.size := by rw [← hlen, hcs.1, Array.length_toList]
  split at h
  · rename_i o ver off
    split at h
    · rename_i bt cs hcur
      split at h
      · rename_i hb
        simp only [Option.some.injEq, Prod.mk.injEq] at h
        obtain ⟨rfl, rfl, rfl⟩ := h
        have hb := Nat.le_of_ble_eq_true hb
        have ho := cur_eq hcur (by simp)
        obtain ⟨_, hp⟩ := hp
        have hp := hp (by rw [ho])
        rw [ho] at hp
        obtain ⟨b, hρ, rfl⟩ := hp
        have hob := H.obj o
        rw [ho] at hob
        obtain ⟨b', ccs, t', e, hg, hr⟩ := hob
        rw [hρ] at e
        cases e
        have hl : cs.length = ccs.size := by simpa using hr.1
        have hrun := run_storeVar (P := c.P) ht hsz h1 hg (o := off) (by omega)
        obtain ⟨f1, f2, f3⟩ := setRow_frame (new := put ccs off vv.cells.toList) hg
        have hvl : vv.cells.toList.length = ti.size := by simpa using hsz
        have hown : own O ρ o = some b := by unfold own; rw [ho, hρ]; rfl
        obtain ⟨H', hk⟩ := hrel_set (w' := w.setRow b (put ccs off vv.cells.toList)) H o ver (.box bt (updC cs off ns)) (ρ o) (.inr ⟨by rw [ho], rfl, by rw [ho]; exact .inr trivial⟩)
          (fun b' _ hn => f2 b' (fun e => hn (by rw [hown, e]))) (fun b' hb' => .inl (by rw [hown]; rw [hρ] at hb'; exact hb')) (fun _ _ => ⟨by rw [ho]; trivial, rfl⟩)
          (fun hk => ⟨b, _, t', hρ, f1, by rw [updC_length _ _ _ (by omega), hl, Array.length_toList, put_size (by omega)], fun k cc u hc hu => by
            rw [updC_get _ _ _ _ (by omega)] at hc
            rw [Array.getElem?_toList, put_get (by omega)] at hu
            have hnn : ns.length = vv.cells.toList.length := hcs.1
            rw [hnn] at hc
            split at hc
            · rename_i hin
              rw [if_pos hin] at hu
              exact hk _ _ (hcs.2 _ cc u hc hu)
            · rename_i hin
              rw [if_neg hin] at hu
              exact hk _ _ (hr.2 k cc u hc (by rwa [Array.getElem?_toList]))⟩)
          (Nat.le_of_eq f3.symm) rfl rfl rfl
        exact ⟨_, by simpa [Instr.storeAt, Instr.sureAddr] using hrun, fun cv => ⟨_, H', hk, trivial⟩⟩
      · cases h
    · cases h
  · rename_i o ver i off
    split at h
    · rename_i g xs hcur
      split at h
      · cases h
      rename_i hb
      have hb := Nat.le_of_ble_eq_true hb
      split at h
      · cases h
      rename_i ns' us' hsn
      split at h
      · cases h
      rename_i y q hdec
      split at hdec
      case h_2 => cases hdec
      rename_i hfree
      simp only [Option.some.injEq, Prod.mk.injEq] at h
      obtain ⟨rfl, rfl, rfl⟩ := h
      have ho := cur_eq hcur (by simp)
      obtain ⟨_, hp⟩ := hp
      have hp := hp (by rw [ho])
      rw [ho] at hp
      obtain ⟨b, n, cap0, hρ, hi0, hi1, rfl⟩ := hp
      have hfrz := snapCs_frz hsn
      obtain ⟨H1, k1⟩ := freezes us' H hfrz
      have hnot : ∀ v z, (o, v, z) ∉ us' := by
        clear hsn hfrz H1 k1
        intro v z hm
        induction us' with
        | nil => cases hm
        | cons a r ih =>
          obtain ⟨k, u⟩ := a
          unfold freeOf at hfree
          split at hfree
          · cases hfree
          · rename_i hk
            rcases List.mem_cons.1 hm with e | hm
            · injection e with e1 e2; subst e1; simp at hk
            · exact ih hfree hm
      have ho1 : getO (setOs O us') o = (ver, .seq g xs) := by rw [(frz_get us' hfrz).2 o hnot, ho]
      have hsnap := snapCs_rel H hsn H1 (frz_owned hfrz) (frz_get us' hfrz).1 hcs
      have hob := H1.obj o
      rw [ho1] at hob
      rcases hob with ⟨rfl, _⟩ | ⟨b', cap, ccs, t', e, hcap, hmax, hg, hcsz, hr⟩
      · simp at hi1; omega
      rw [hρ] at e
      cases e
      have hx := el_get hi0 hi1
      have hlt : i.toNat < xs.length := by omega
      have hend : i.toNat * gsize g + gsize g ≤ ccs.size := by
        rw [hcsz]
        have : (i.toNat + 1) * gsize g ≤ cap0 * gsize g := Nat.mul_le_mul_right _ (by omega)
        rw [Nat.succ_mul] at this; exact this
      have hrun := run_storeVar (P := c.P) ht hsz h1 hg (o := i.toNat * gsize g + off) (by omega)
      obtain ⟨f1, f2, f3⟩ := setRow_frame (new := put ccs (i.toNat * gsize g + off) vv.cells.toList) hg
      have hvl : vv.cells.toList.length = ti.size := by simpa using hsz
      have hown : own (setOs O us') ρ o = some b := by unfold own; rw [ho1, hρ]; rfl
      have hns' : ns'.length = ti.size := by rw [hsnap.1, hvl]
      -- the element's cells behind the store
      have hel := dec_pr (w := w) (A := Av c.X (setOs O us') ρ) hdec hok (vs := (List.range (gsize g)).map fun j => (put ccs (i.toNat * gsize g + off) vv.cells.toList).getD (i.toNat * gsize g + j) undef) ⟨by
          rw [updC_length _ _ _ (by rw [enc_length]; omega), enc_length]; simp, fun k cc u hc hu => by
          rw [updC_get _ _ _ _ (by rw [enc_length]; omega)] at hc
          have hk : k < gsize g := by
            have := (List.getElem?_eq_some_iff.1 hu).1
            simpa using this
          simp only [List.getElem?_map, List.getElem?_range hk, Option.map_some, Option.some.injEq] at hu
          have hpg := put_get (ccs := ccs) (o := i.toNat * gsize g + off) (vs := vv.cells.toList) (by omega) (i.toNat * gsize g + k)
          have hps := put_size (ccs := ccs) (o := i.toNat * gsize g + off) (vs := vv.cells.toList) (by omega)
          have hpu : (put ccs (i.toNat * gsize g + off) vv.cells.toList)[i.toNat * gsize g + k]? = some u := by
            rw [← hu]; simp [Array.getD, hps, (by omega : i.toNat * gsize g + k < ccs.size)]
          rw [hpg] at hpu
          by_cases hin : off ≤ k ∧ k < off + ns'.length
          · rw [if_pos hin] at hc
            rw [if_pos (by omega)] at hpu
            exact hsnap.2 (k - off) cc u hc (by rw [← hpu]; congr 1; omega)
          · rw [if_neg hin] at hc
            rw [if_neg (by omega)] at hpu
            exact .inr (hr _ cc u ((flat_get g xs i.toNat k _ hx hk).trans hc) hpu)⟩
      have hset : HRel c (w.setRow b (put ccs (i.toNat * gsize g + off) vv.cells.toList)) (setO (setOs O us') o ver (.seq g (xs.set i.toNat y))) (upd ρ o (ρ o)) ∧
          ∀ z u, CellR w c.X (setOs O us') ρ z u → CellR (w.setRow b (put ccs (i.toNat * gsize g + off) vv.cells.toList)) c.X (setO (setOs O us') o ver (.seq g (xs.set i.toNat y))) (upd ρ o (ρ o)) z u := by
        refine hrel_set H1 o ver (.seq g (xs.set i.toNat y)) (ρ o) (.inr ⟨by rw [ho1], rfl, by rw [ho1]; exact .inr ⟨rfl, by simp⟩⟩)
          (fun b' _ hn => f2 b' (fun e => hn (by rw [hown, e]))) (fun b' hb' => .inl (by rw [hown]; rw [hρ] at hb'; exact hb')) (fun _ _ => ⟨by rw [ho1]; trivial, rfl⟩)
          (fun hk => .inr ⟨b, cap0, _, t', by rw [hρ]; simp, by simpa using hcap, hmax, f1, by rw [put_size (by omega), hcsz], fun k cc u hc hu => ?_⟩)
          (Nat.le_of_eq f3.symm) rfl rfl rfl
        have hmono : ∀ z u, PR w (Av c.X (setOs O us') ρ) z u → PR (w.setRow b (put ccs (i.toNat * gsize g + off) vv.cells.toList)) (Av c.X (setO (setOs O us') o ver (.seq g (xs.set i.toNat y))) (upd ρ o (ρ o))) z u := by
          intro z u hz
          refine hz.mono (fun b' _ hn => f2 b' (fun e => hn (.inr ⟨o, by rw [hown, e]⟩))) (fun b' _ hb' => hb'.elim .inl fun ⟨o', ho'⟩ => .inr ?_)
          by_cases e : o' = o
          · subst e
            rw [own_set_same, hρ] at ho'
            exact ⟨o', by rw [hown]; exact ho'⟩
          · rw [own_set_other _ _ _ e] at ho'; exact ⟨o', ho'⟩
        rw [flat_set g xs _ _ hlt] at hc
        have hfl : i.toNat * gsize g ≤ (flat g xs).length := by rw [flat_length]; exact Nat.mul_le_mul_right _ (by omega)
        have hmin : min (i.toNat * gsize g) (flat g xs).length = i.toNat * gsize g := by omega
        rw [put_get (by omega)] at hu
        simp only [List.append_assoc, List.getElem?_append, List.length_take, hmin, enc_length, List.getElem?_take, List.getElem?_drop] at hc
        by_cases hk1 : k < i.toNat * gsize g
        · simp only [hk1, if_true] at hc
          rw [if_neg (by omega)] at hu
          exact hmono _ _ (hr k cc u hc hu)
        · simp only [hk1, if_false] at hc
          by_cases hk2 : k - i.toNat * gsize g < gsize g
          · simp only [hk2, if_true] at hc
            refine hmono _ _ (hel.2 (k - i.toNat * gsize g) cc u hc ?_)
            simp only [List.getElem?_map, List.getElem?_range hk2, Option.map_some, Option.some.injEq]
            have hps := put_size (ccs := ccs) (o := i.toNat * gsize g + off) (vs := vv.cells.toList) (by omega)
            have hpg := put_get (ccs := ccs) (o := i.toNat * gsize g + off) (vs := vv.cells.toList) (by omega) k
            rw [hu] at hpg
            have : i.toNat * gsize g + (k - i.toNat * gsize g) = k := by omega
            rw [this]
            have hk3 : k < ccs.size := by omega
            simp only [Array.getD, hps, hk3, dite_true]
            have := (Array.getElem?_eq_some_iff.1 hpg).2
            exact this
          · simp only [hk2, if_false] at hc
            rw [if_neg (by omega)] at hu
            refine hmono _ _ (hr k cc u ?_ hu)
            rw [← hc]; congr 1
            rw [Nat.succ_mul]; omega
      obtain ⟨H2, hk⟩ := hset
      refine ⟨_, by simpa [Instr.storeAt, Instr.sureAddr] using hrun, fun cv => ⟨upd ρ o (ρ o), ?_, ?_, trivial⟩⟩
      · rw [setOs_append]; exact H2
      · rw [setOs_append]; exact fun z u hz => hk z u (k1 z u hz)
    · cases h
  · cases h

end
end GV

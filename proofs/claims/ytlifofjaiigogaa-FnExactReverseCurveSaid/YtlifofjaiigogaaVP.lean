/-
  A call does in the model what its contract says. No condition beyond those named.
-/
import Derived.Test.YtlifofjaiigogaaVO
namespace GV
open Go
set_option linter.unusedSimpArgs false
set_option linter.unusedVariables false

theorem lenN_eq {α : Type} (l : List α) : lenN l = l.length := by
  induction l with
  | nil => rfl
  | cons a r ih => simp [lenN, ih]

theorem nid_inj {d i j : Nat} (h : nid d i = nid d j) : i = j := by
  cases i <;> cases j <;> simp only [nid] at h <;> omega

theorem nid_ge (d j : Nat) : d ≤ nid d j := by cases j <;> simp only [nid] <;> omega

/-- Updates at different numbers. -/
theorem setOs_get : ∀ (L : Ups) (O : Objs), (∀ (i j o v v' : Nat) (x x' : AObj), L[i]? = some (o, v, x) → L[j]? = some (o, v', x') → i = j) →
    (∀ (i o v : Nat) (x : AObj), L[i]? = some (o, v, x) → getO (setOs O L) o = (v, x)) ∧ (∀ o, (∀ v x, (o, v, x) ∉ L) → getO (setOs O L) o = getO O o) := by
  intro L
  induction L with
  | nil => intro O _; exact ⟨fun i o v x h => by simp at h, fun o _ => rfl⟩
  | cons a r ih =>
    intro O hd
    obtain ⟨o, v, x⟩ := a
    obtain ⟨i1, i2⟩ := ih (setO O o v x) (fun i j o' v1 v2 x1 x2 a b => by
      have := hd (i + 1) (j + 1) o' v1 v2 x1 x2 (by simpa using a) (by simpa using b); omega)
    refine ⟨fun i o' v' x' hi => ?_, fun o' hn => ?_⟩
    · simp only [setOs]
      cases i with
      | zero =>
        simp at hi
        obtain ⟨rfl, rfl, rfl⟩ := hi
        rw [i2 o (fun v2 x2 hm => by
          obtain ⟨k, hk⟩ := List.mem_iff_getElem?.1 hm
          have := hd 0 (k + 1) o v v2 x x2 rfl (by simpa using hk); omega), getO_setO_same]
      | succ i => exact i1 i o' v' x' (by simpa using hi)
    · simp only [setOs]
      rw [i2 o' (fun v2 x2 hm => hn v2 x2 (List.mem_cons_of_mem _ hm)), getO_setO_other]
      intro e; subst e; exact hn v x (List.mem_cons_self ..)

theorem backM_ok {ho : HO} {d : Nat} {M0 : MT} : ∀ {M : MT} {xs news : List AObj} {us : Ups}, backM ho d M0 M xs = some (news, us) → M.length ≤ xs.length ∧ news = xs.drop M.length ∧ us.length = M.length ∧
    ∀ (j o v : Nat) (x : AObj), M[j]? = some (o, v, x) → us[j]? = some (o, v, renO ho d M0 (xs.getD j .gone)) := by
  intro M
  induction M with
  | nil =>
    intro xs news us h
    simp only [backM, Option.some.injEq, Prod.mk.injEq] at h
    obtain ⟨rfl, rfl⟩ := h
    exact ⟨by simp, by simp, rfl, fun j o v x h => by simp at h⟩
  | cons a r ih =>
    intro xs news us h
    obtain ⟨o, v, x0⟩ := a
    cases xs with
    | nil => simp [backM] at h
    | cons y ys =>
      simp only [backM] at h
      split at h
      · rename_i rest us' hr
        simp only [Option.some.injEq, Prod.mk.injEq] at h
        obtain ⟨rfl, rfl⟩ := h
        obtain ⟨i1, i2, i3, i4⟩ := ih hr
        refine ⟨by simpa using i1, by simpa using i2, by simp [i3], fun j o' v' x' hj => ?_⟩
        cases j with
        | zero => simp at hj; obtain ⟨rfl, rfl, rfl⟩ := hj; simp
        | succ j => simp at hj; simpa using i4 j o' v' x' hj
      · cases h

theorem newM_get {ho : HO} {d : Nat} {M0 : MT} : ∀ (xs : List AObj) (j0 k : Nat), (newM ho d M0 j0 xs)[k]? = (xs[k]?).map fun x => (nid d (j0 + k), verOf ho (nid d (j0 + k)) + 1, renO ho d M0 x) := by
  intro xs
  induction xs with
  | nil => intro j0 k; simp [newM]
  | cons a r ih =>
    intro j0 k
    cases k with
    | zero => simp [newM]
    | succ k => simp only [newM, List.getElem?_cons_succ, ih]; rw [show j0 + 1 + k = j0 + (k + 1) by omega]

theorem newChk_ok {d : Nat} {M : MT} : ∀ {xs : List AObj} {j0 : Nat}, newChk d M j0 xs = true → ∀ k, k < xs.length → ∀ v x, (nid d (j0 + k), v, x) ∉ M := by
  intro xs
  induction xs with
  | nil => intro j0 _ k hk; simp at hk
  | cons a r ih =>
    intro j0 h k hk
    unfold newChk at h
    split at h
    · rename_i hf
      cases k with
      | zero => exact freeOf_mem hf
      | succ k => rw [show j0 + (k + 1) = j0 + 1 + k by omega]; exact ih h k (by simpa using hk)
    · cases h

theorem gflat_pr {w w' : World} {A A' : Nat → Prop} {g : GT} (hg : gflat g = true) {x : g.den} {k : Nat} {cc : Cell} (hk : (enc g x)[k]? = some cc) {v : Value} (h : PR w A cc v) : PR w' A' cc v := by
  have hs : ∀ c ∈ enc g x, (match c with | .int _ _ => True | .bool _ _ => True | .str _ => True | _ => False) := by
    cases g <;> first | (cases hg; done) | (intro c hc; simp only [enc, List.mem_cons, List.not_mem_nil, or_false] at hc; rcases hc with h | h | h | h | h | h | h | h <;> subst h <;> trivial) | skip
    all_goals (intro c hc; simp only [enc, List.mem_cons, List.not_mem_nil, or_false] at hc; repeat (first | (rcases hc with h | hc; · (subst h; trivial)) | (subst hc; trivial)))
  have := hs cc (List.mem_of_getElem? hk)
  cases h with
  | int => exact .int _ _
  | bool => exact .bool _ _
  | str => exact .str _
  | none => exact this.elim
  | im => exact this.elim

theorem flat_mem {g : GT} : ∀ {xs : List g.den} {k : Nat} {cc : Cell}, (flat g xs)[k]? = some cc → ∃ (x : g.den) (j : Nat), (enc g x)[j]? = some cc := by
  intro xs
  induction xs with
  | nil => intro k cc h; simp [flat] at h
  | cons a r ih =>
    intro k cc h
    simp only [flat, List.getElem?_append] at h
    split at h
    · exact ⟨a, k, h⟩
    · exact ih h

section
variable {c : Ctx} {E : Env} {w w' : World} {O : Objs} {ρ : Nat → Value}

theorem freezeC_frz {x : Cell} : Frz O (freezeC (getO O) x) := by
  unfold freezeC
  split
  · split
    · rename_i hcur
      have ho := cur_eq hcur (by simp)
      intro o' v' x' hm
      simp only [List.mem_singleton, Prod.mk.injEq] at hm
      obtain ⟨rfl, rfl, rfl⟩ := hm
      exact ⟨_, _, rfl, .inl ho⟩
    · exact frz_nil
  · split
    · split
      · rename_i hsn; exact snapCs_frz hsn
      · exact frz_nil
    · exact frz_nil
  · split
    · rename_i hcur
      have ho := cur_eq hcur (by simp)
      intro o' v' x' hm
      simp only [List.mem_singleton, Prod.mk.injEq] at hm
      obtain ⟨rfl, rfl, rfl⟩ := hm
      exact ⟨_, _, rfl, .inl ho⟩
    · exact frz_nil
  · exact frz_nil

theorem freezeCs_frz {cs : List Cell} : Frz O (freezeCs (getO O) cs) := by
  induction cs with
  | nil => exact frz_nil
  | cons a r ih => exact freezeC_frz.append ih

theorem freezeA_frz {vs : List AV} : Frz O (freezeA (getO O) vs) := by
  induction vs with
  | nil => exact frz_nil
  | cons a r ih =>
    cases a with
    | c x => exact freezeC_frz.append ih
    | agg cs => exact freezeCs_frz.append ih
    | tup _ => exact ih

theorem snapCs_cover {cs ds : List Cell} {us : Ups} (h : snapCs (getO O) cs = some (ds, us)) {o : Nat} (ho : o ∈ srefCs cs) {b : Nat} (hb : own O ρ o = some b) : ∃ v z, (o, v, z) ∈ us := by
  induction cs generalizing ds us with
  | nil => simp [srefCs] at ho
  | cons a r ih =>
    unfold snapCs at h
    split at h
    · rename_i y us1 h1
      split at h
      · rename_i r' us2 h2
        simp only [Option.some.injEq, Prod.mk.injEq] at h
        obtain ⟨rfl, rfl⟩ := h
        simp only [srefCs, List.mem_append] at ho
        rcases ho with ho | ho
        · cases a with
          | sl o' v =>
            simp only [srefC, List.mem_singleton] at ho
            subst ho
            simp only [snapC] at h1
            split at h1
            · simp only [Option.some.injEq, Prod.mk.injEq] at h1
              obtain ⟨rfl, rfl⟩ := h1
              exact ⟨_, _, List.mem_append_left _ (List.mem_singleton.2 rfl)⟩
            · rename_i hcur
              have hoo := cur_eq hcur (by simp)
              unfold own at hb; rw [hoo] at hb; simp [ownOf] at hb
            · cases h1
          | _ => simp [srefC] at ho
        · obtain ⟨v, z, hm⟩ := ih h2 ho
          exact ⟨v, z, List.mem_append_right _ hm⟩
      · cases h
    · cases h

theorem freezeC_cover {x y : Cell} (h : readC E (getO O) x = some y) {o : Nat} (ho : o ∈ sref (getO O) x) {b : Nat} (hb : own O ρ o = some b) : ∃ v z, (o, v, z) ∈ freezeC (getO O) x := by
  cases x with
  | sl o' v =>
    simp only [sref, List.mem_singleton] at ho
    subst ho
    simp only [readC] at h
    split at h
    · rename_i hcur
      exact ⟨_, _, by simp only [freezeC, hcur]; exact List.mem_singleton.2 rfl⟩
    · rename_i hcur
      have hoo := cur_eq hcur (by simp)
      unfold own at hb; rw [hoo] at hb; simp [ownOf] at hb
    · cases h
  | ptr o' v off =>
    simp only [readC] at h
    split at h
    · rename_i bt cs hcur
      split at h
      · split at h
        · rename_i ds us hsn
          simp only [sref, hcur] at ho
          obtain ⟨v2, z, hm⟩ := snapCs_cover hsn ho hb
          exact ⟨v2, z, by simp only [freezeC, hcur, hsn]; exact hm⟩
        · cases h
      · cases h
    · cases h
  | _ => simp [sref] at ho

theorem freezeCs_cover {cs ds : List Cell} (h : readCs E (getO O) cs = some ds) {o : Nat} (ho : o ∈ cs.flatMap (sref (getO O))) {b : Nat} (hb : own O ρ o = some b) : ∃ v z, (o, v, z) ∈ freezeCs (getO O) cs := by
  induction cs generalizing ds with
  | nil => simp at ho
  | cons a r ih =>
    unfold readCs at h
    split at h
    · rename_i y hy
      split at h
      · rename_i r' hr
        simp only [List.flatMap_cons, List.mem_append] at ho
        rcases ho with ho | ho
        · obtain ⟨v, z, hm⟩ := freezeC_cover hy ho hb
          exact ⟨v, z, List.mem_append_left _ hm⟩
        · obtain ⟨v, z, hm⟩ := ih hr ho
          exact ⟨v, z, List.mem_append_right _ hm⟩
      · cases h
    · cases h

theorem freezeA_cover {vs : List AV} {t : Nat} {x y : AV} (hx : x ∈ vs) (h : readA E (getO O) t x = some y) {o : Nat} (ho : o ∈ srefA (getO O) x) {b : Nat} (hb : own O ρ o = some b) : ∃ v z, (o, v, z) ∈ freezeA (getO O) vs := by
  induction vs with
  | nil => cases hx
  | cons a r ih =>
    rcases List.mem_cons.1 hx with rfl | hx
    · cases x with
      | c z =>
        simp only [readA] at h
        split at h
        · rename_i z' hz
          obtain ⟨v, u, hm⟩ := freezeC_cover hz ho hb
          exact ⟨v, u, List.mem_append_left _ hm⟩
        · cases h
      | agg cs =>
        simp only [readA] at h
        split at h
        · rename_i ds hds
          obtain ⟨v, u, hm⟩ := freezeCs_cover hds ho hb
          exact ⟨v, u, List.mem_append_left _ hm⟩
        · cases h
      | tup _ => simp [readA] at h
    · obtain ⟨v, z, hm⟩ := ih hx
      cases a with
      | c x => exact ⟨v, z, List.mem_append_right _ hm⟩
      | agg cs => exact ⟨v, z, List.mem_append_right _ hm⟩
      | tup _ => exact ⟨v, z, hm⟩

theorem frz_ver {us : Ups} (hf : Frz O us) (o : Nat) : (getO (setOs O us) o).1 = (getO O o).1 := by
  by_cases h : ∃ v z, (o, v, z) ∈ us
  · obtain ⟨v, z, hm⟩ := h
    rw [(frz_get us hf).1 o v z hm]
    obtain ⟨g, xs, rfl, h | h⟩ := hf o v z hm <;> rw [h]
  · rw [(frz_get us hf).2 o (fun v z hm => h ⟨v, z, hm⟩)]

theorem apartCs_mem {M : MT} {cs : List Cell} (h : apartCs M cs = true) : ∀ x ∈ cs, apartC M x = true := by
  induction cs with
  | nil => simp
  | cons a r ih =>
    unfold apartCs at h
    split at h
    · rename_i ha
      intro x hx
      rcases List.mem_cons.1 hx with rfl | hx
      · exact ha
      · exact ih h x hx
    · cases h

theorem apartC_ok {M : MT} {ho : HO} {x : Cell} (h : apartC M x = true) : (∀ o ∈ sref ho x, ∀ v z, (o, v, z) ∉ M) ∧ pref x = [] := by
  cases x with
  | sl o v => exact ⟨fun o' ho' => by simp only [sref, List.mem_singleton] at ho'; subst ho'; exact freeOf_mem h, rfl⟩
  | ptr _ _ _ => cases h
  | aptr _ _ => cases h
  | eptr _ _ _ _ => cases h
  | vptr _ _ _ => cases h
  | _ => exact ⟨fun o ho => by simp [sref] at ho, rfl⟩

theorem apartA_ok {M : MT} {ho : HO} : ∀ {vs : List AV} {ms : List Bool}, apartA M ms vs = true → ∀ v ∈ readArgs ms vs, (∀ o ∈ srefA ho v, ∀ u z, (o, u, z) ∉ M) ∧ prefA v = [] := by
  intro vs
  induction vs with
  | nil => intro ms _ v hv; cases ms with | nil => cases hv | cons m ms => cases m <;> cases hv
  | cons a r ih =>
    intro ms h v hv
    have read : ∀ ms', (readArgs ms (a :: r) = a :: readArgs ms' r) → ((∃ x, a = .c x ∧ apartC M x = true) ∨ (∃ cs, a = .agg cs ∧ apartCs M cs = true)) → apartA M ms' r = true →
        (∀ o ∈ srefA ho v, ∀ u z, (o, u, z) ∉ M) ∧ prefA v = [] := by
      intro ms' e ha hr
      rw [e] at hv
      rcases List.mem_cons.1 hv with rfl | hv
      · rcases ha with ⟨x, rfl, hx⟩ | ⟨cs, rfl, hcs⟩
        · exact apartC_ok hx
        · have hcs := apartCs_mem hcs
          refine ⟨fun o ho => ?_, ?_⟩
          · obtain ⟨x, hx, ho⟩ := List.mem_flatMap.1 ho
            exact (apartC_ok (hcs x hx)).1 o ho
          · simp only [prefA]
            rw [List.flatMap_eq_nil_iff]
            exact fun x hx => (apartC_ok (ho := ho) (hcs x hx)).2
      · exact ih hr v hv
    cases ms with
    | nil =>
      cases a with
      | c x => simp only [apartA] at h; split at h <;> first | (rename_i hx; exact read [] rfl (.inl ⟨x, rfl, hx⟩) h) | cases h
      | agg cs => simp only [apartA] at h; split at h <;> first | (rename_i hx; exact read [] rfl (.inr ⟨cs, rfl, hx⟩) h) | cases h
      | tup _ => simp [apartA] at h
    | cons m ms =>
      cases m with
      | true => simp only [apartA] at h; exact ih h v hv
      | false =>
        cases a with
        | c x => simp only [apartA] at h; split at h <;> first | (rename_i hx; exact read ms rfl (.inl ⟨x, rfl, hx⟩) h) | cases h
        | agg cs => simp only [apartA] at h; split at h <;> first | (rename_i hx; exact read ms rfl (.inr ⟨cs, rfl, hx⟩) h) | cases h
        | tup _ => simp [apartA] at h

theorem readArgs_mem {vs : List AV} : ∀ {ms : List Bool} {v : AV}, v ∈ readArgs ms vs → v ∈ vs := by
  induction vs with
  | nil => intro ms v hv; cases ms with | nil => cases hv | cons m ms => cases m <;> cases hv
  | cons a r ih =>
    intro ms v hv
    cases ms with
    | nil => simp only [readArgs] at hv; exact (List.mem_cons.1 hv).elim (fun e => e ▸ List.mem_cons_self ..) (fun hv => List.mem_cons_of_mem _ (ih hv))
    | cons m ms =>
      cases m with
      | true => simp only [readArgs] at hv; exact List.mem_cons_of_mem _ (ih hv)
      | false => simp only [readArgs] at hv; exact (List.mem_cons.1 hv).elim (fun e => e ▸ List.mem_cons_self ..) (fun hv => List.mem_cons_of_mem _ (ih hv))

end
end GV

/-
  A call does in the model what its contract says. No condition beyond those named.
-/
import Derived.Test.YtlifofjaiigogaaVP
namespace GV
open Go
set_option linter.unusedSimpArgs false
set_option linter.unusedVariables false

section
variable {c : Ctx} {E : Env} {w w' : World} {O : Objs} {ρ : Nat → Value}

theorem wfCs_mem {im : Bool} {n : Nat} {cs : List Cell} (h : wfCs im n cs = true) : ∀ x ∈ cs, wfC im n x = true := by
  induction cs with
  | nil => simp
  | cons a r ih =>
    unfold wfCs at h
    split at h
    · rename_i ha
      intro x hx
      rcases List.mem_cons.1 hx with rfl | hx
      · exact ha
      · exact ih h x hx
    · cases h

theorem wfT_mem {im : Bool} {n : Nat} {ts : List (Bool × List Cell)} (h : wfT im n ts = true) : ∀ x ∈ ts, wfCs im n x.2 = true := by
  induction ts with
  | nil => simp
  | cons a r ih =>
    obtain ⟨a, b⟩ := a
    unfold wfT at h
    split at h
    · rename_i ha
      intro x hx
      rcases List.mem_cons.1 hx with rfl | hx
      · exact ha
      · exact ih h x hx
    · cases h

theorem wfOs_mem {im : Bool} {n : Nat} {xs : List AObj} (h : wfOs im n xs = true) : ∀ x ∈ xs, wfO im n x = true := by
  induction xs with
  | nil => simp
  | cons a r ih =>
    unfold wfOs at h
    split at h
    · rename_i ha
      intro x hx
      rcases List.mem_cons.1 hx with rfl | hx
      · exact ha
      · exact ih h x hx
    · cases h

theorem renCs_get (ho : HO) (d : Nat) (M : MT) : ∀ (cs : List Cell) (k : Nat), (renCs ho d M cs)[k]? = (cs[k]?).map (renC ho d M) := by
  intro cs
  induction cs with
  | nil => intro k; simp [renCs]
  | cons a r ih => intro k; cases k with | zero => simp [renCs] | succ k => simp [renCs, ih]

theorem renCs_length (ho : HO) (d : Nat) (M : MT) (cs : List Cell) : (renCs ho d M cs).length = cs.length := by
  induction cs with
  | nil => rfl
  | cons a r ih => simp [renCs, ih]

theorem renT_get (ho : HO) (d : Nat) (M : MT) : ∀ (ts : List (Bool × List Cell)) (k : Nat), (renT ho d M ts)[k]? = (ts[k]?).map fun t => (t.1, renCs ho d M t.2) := by
  intro ts
  induction ts with
  | nil => intro k; simp [renT]
  | cons a r ih => obtain ⟨a, b⟩ := a; intro k; cases k with | zero => simp [renT] | succ k => simp [renT, ih]

theorem renT_length (ho : HO) (d : Nat) (M : MT) (ts : List (Bool × List Cell)) : (renT ho d M ts).length = ts.length := by
  induction ts with
  | nil => rfl
  | cons a r ih => obtain ⟨a, b⟩ := a; simp [renT, ih]

theorem renCs_rel {R R' : Cell → Value → Prop} {ho : HO} {d : Nat} {M : MT} {im : Bool} {n : Nat} (hR : ∀ x v, wfC im n x = true → R x v → R' (renC ho d M x) v) {cs : List Cell} (hw : wfCs im n cs = true) {vs : List Value} (h : CsR R cs vs) :
    CsR R' (renCs ho d M cs) vs := by
  refine ⟨by rw [renCs_length, h.1], fun k cc u hc hu => ?_⟩
  rw [renCs_get] at hc
  obtain ⟨x, hx, rfl⟩ := Option.map_eq_some_iff.1 hc
  exact hR x u (wfCs_mem hw x (List.mem_of_getElem? hx)) (h.2 k x u hx hu)

theorem renA_rel {R R' : Cell → Value → Prop} {ho : HO} {d : Nat} {M : MT} {im : Bool} {n : Nat} (hR : ∀ x v, wfC im n x = true → R x v → R' (renC ho d M x) v) {x : AV} (hw : wfA im n x = true) {v : Value} (h : AR R x v) :
    AR R' (renA ho d M x) v := by
  cases x with
  | c x => exact hR x v hw h
  | agg cs => obtain ⟨vs, e, h⟩ := h; exact ⟨vs, e, renCs_rel hR hw h⟩
  | tup ts =>
    obtain ⟨vs, e, hl, h⟩ := h
    refine ⟨vs, e, by rw [renT_length, hl], fun k t u ht hu => ?_⟩
    rw [renT_get] at ht
    obtain ⟨⟨a, cs⟩, hx, rfl⟩ := Option.map_eq_some_iff.1 ht
    have hw' := wfT_mem hw _ (List.mem_of_getElem? hx)
    have h' := h k _ u hx hu
    cases a with
    | true => obtain ⟨us, e, h'⟩ := h'; exact ⟨us, e, renCs_rel hR hw' h'⟩
    | false =>
      match cs, h', hw' with
      | [y], h', hw' =>
        have : wfC im n y = true := wfCs_mem hw' y (List.mem_cons_self ..)
        exact hR y u this h'

theorem callF_ok (hC : ∀ f C, E.con f = some C → COk c.P f C) (hnm : E.nm = c.nm) (H : HRel c w O ρ) {d : Option Nat} {f : Nat} {ts : List Nat} {vs : List AV} {us : List Value} (hl : vs.length = us.length)
    (hx : ∀ (k : Nat) (x : AV) (u : Value), vs[k]? = some x → us[k]? = some u → AR (CellR w c.X O ρ) x u) {p : Option Prop} {v : AV} {ups : Ups} (h : callF E d (getO O) f ts vs = some (p, v, ups)) (hok : pOk p) :
    (∃ fn, c.P.funcs[f]? = some fn ∧ fn.body.isNone = false ∧ (fn.name == "runtime.NumGoroutine") = false) ∧
    Calls c.P f us.toArray w fun e w' => ∃ cv, e = .returned cv ∧ Post c w O ρ ups v cv w' := by
  unfold callF at h
  split at h
  · cases h
  rename_i C hCf
  split at h
  · cases h
  rename_i vs' M hargs
  split at h
  · cases h
  rename_i hchk
  split at h
  · cases h
  rename_i p' Ms r hrun
  split at h
  · cases h
  rename_i hout
  split at h
  · cases h
  rename_i news usM hback
  split at h
  case h_2 => cases h
  rename_i hnew
  simp only [Option.some.injEq, Prod.mk.injEq] at h
  obtain ⟨rfl, rfl, rfl⟩ := h
  split at hback
  case h_2 => cases hback
  rename_i hd
  have hd : c.nm ≤ dnat d := by rw [← hnm]; exact Nat.le_of_ble_eq_true hd
  obtain ⟨b1, b2, b3, b4⟩ := backM_ok hback
  have hnews : ∀ k, news[k]? = Ms[M.length + k]? := by intro k; rw [b2, List.getElem?_drop]
  have hnewl : news.length = Ms.length - M.length := by rw [b2, List.length_drop]
  obtain ⟨hwO, hwA⟩ : wfOs C.im Ms.length Ms = true ∧ wfA C.im Ms.length r = true := by
    unfold outChk at hout
    rw [lenN_eq] at hout
    split at hout
    · rename_i h1; exact ⟨h1, hout⟩
    · cases hout
  obtain ⟨hf0, hcon⟩ := hC f C hCf
  refine ⟨hf0, ?_⟩
  obtain ⟨M1, eM, okM, hl', hrd, harg⟩ := argsF_ok H hargs
  simp only [List.nil_append] at eM
  subst eM
  -- what is held fast
  let fz : Ups := match C.im with | true => freezeA (getO O) vs | false => []
  have hfz : Frz O fz := by
    show Frz O (match C.im with | true => freezeA (getO O) vs | false => [])
    cases C.im
    · exact frz_nil
    · exact freezeA_frz
  obtain ⟨H1, k1⟩ := freezes fz H hfz
  let X : Nat → Prop := match C.im with | true => Av c.X (setOs O fz) ρ | false => fun _ => False
  let hs : Nat → Value := fun j => match M[j]? with | some (o, _, _) => ρ o | none => .slice none 0 0
  have hsok : HsOk ρ M hs := by intro j o v x hj; show (match M[j]? with | some (o, _, _) => ρ o | none => _) = _; rw [hj]
  have hM0 : C.im = true → M = [] := by
    intro him
    unfold callChk at hchk
    split at hchk
    · rfl
    · rw [him] at hchk; cases hchk
  have hdist : M ≠ [] → distinct M = true ∧ apartA M C.muts vs = true ∧ C.im = false := by
    intro hne
    unfold callChk at hchk
    split at hchk
    · exact absurd rfl hne
    · split at hchk
      · cases hchk
      · rename_i him
        split at hchk
        · rename_i hdd; exact ⟨hdd, hchk, him⟩
        · cases hchk
  have hMinj : ∀ (i j o v v' : Nat) (x x' : AObj), M[i]? = some (o, v, x) → M[j]? = some (o, v', x') → i = j := by
    intro i j o v v' x x' a b
    by_cases hne : M = []
    · rw [hne] at a; simp at a
    · exact distinct_inj (hdist hne).1 i j o v v' x x' a b
  -- who owns what, seen from the callee
  have hownM : ∀ j, own (ix 0 (objsOfM M)) hs j = match M[j]? with | some (o, _, _) => own O ρ o | none => none := by
    intro j
    unfold own
    rw [getO_ix0, objsOfM_get]
    cases hj : M[j]? with
    | none => rfl
    | some t =>
      obtain ⟨o, v, x⟩ := t
      have := (okM o v x (List.mem_of_getElem? hj)).1
      simp only [hsok j o v x hj, this]
  have hOwnM : ∀ b, Owned (ix 0 (objsOfM M)) hs b → ∃ (j o v : Nat) (x : AObj), M[j]? = some (o, v, x) ∧ own O ρ o = some b := by
    intro b ⟨j, hj⟩
    rw [hownM] at hj
    cases hm : M[j]? with
    | none => rw [hm] at hj; cases hj
    | some t => obtain ⟨o, v, x⟩ := t; rw [hm] at hj; exact ⟨j, o, v, x, hm, hj⟩
  have hXsub : ∀ b, X b → Av c.X (setOs O fz) ρ b := by
    intro b hb
    revert hb
    show (match C.im with | true => Av c.X (setOs O fz) ρ | false => fun _ => False) b → _
    cases C.im <;> simp
  have hXno : C.im = false → ∀ b, ¬ X b := by
    intro him b hb
    revert hb
    show (match C.im with | true => Av c.X (setOs O fz) ρ | false => fun _ => False) b → _
    rw [him]; exact id
  have hXyes : C.im = true → ∀ b, Av c.X (setOs O fz) ρ b → X b := by
    intro him b hb
    show (match C.im with | true => Av c.X (setOs O fz) ρ | false => fun _ => False) b
    rw [him]; exact hb
  have hA : ∀ b, b < w.heap.size → Av X (ix 0 (objsOfM M)) hs b → Av c.X O ρ b := by
    intro b _ hb
    rcases hb with hb | hb
    · rcases hXsub b hb with hb | hb
      · exact .inl hb
      · exact .inr (frz_owned hfz b hb)
    · obtain ⟨j, o, v, x, _, ho⟩ := hOwnM b hb
      exact .inr ⟨o, ho⟩
  have hO : ∀ b, b < w.heap.size → Owned (ix 0 (objsOfM M)) hs b → Owned O ρ b := by
    intro b _ hb
    obtain ⟨j, o, v, x, _, ho⟩ := hOwnM b hb
    exact ⟨o, ho⟩
  have hread : ∀ y ∈ readArgs C.muts vs, (∀ o ∈ srefA (getO O) y, ∀ b, own O ρ o = some b → ¬ Av X (ix 0 (objsOfM M)) hs b) ∧ (∀ o ∈ prefA y, ∀ b, own O ρ o = some b → ¬ Owned (ix 0 (objsOfM M)) hs b) := by
    intro y hy
    by_cases hne : M = []
    · have hno : ∀ b, ¬ Owned (ix 0 (objsOfM M)) hs b := by
        intro b hb
        obtain ⟨j, o, v, x, hj, _⟩ := hOwnM b hb
        rw [hne] at hj; simp at hj
      refine ⟨fun o ho b hb hAv => ?_, fun o _ b _ => hno b⟩
      rcases hAv with hX | hX
      · cases him : C.im with
        | false => exact hXno him b hX
        | true =>
          obtain ⟨t, z, hz⟩ := hrd y hy
          obtain ⟨u, q, hm⟩ := freezeA_cover (readArgs_mem hy) hz ho hb
          have hfzm : (o, u, q) ∈ fz := by
            show (o, u, q) ∈ (match C.im with | true => freezeA (getO O) vs | false => [])
            rw [him]; exact hm
          rcases hXsub b hX with hX | ⟨o', ho'⟩
          · exact H.notX o b hb hX
          · by_cases e : o' = o
            · subst e
              obtain ⟨g, xs, rfl, _⟩ := hfz o' u q hfzm
              unfold own at ho'
              rw [(frz_get fz hfz).1 o' u _ hfzm] at ho'
              simp [ownOf] at ho'
            · have hoo : own O ρ o' = some b := by
                by_cases hmem : ∃ v z, (o', v, z) ∈ fz
                · obtain ⟨v2, z2, hm2⟩ := hmem
                  obtain ⟨g, xs, rfl, _⟩ := hfz o' v2 z2 hm2
                  unfold own at ho'
                  rw [(frz_get fz hfz).1 o' v2 _ hm2] at ho'
                  simp [ownOf] at ho'
                · unfold own at ho' ⊢
                  rwa [(frz_get fz hfz).2 o' (fun v z hm => hmem ⟨v, z, hm⟩)] at ho'
              exact e (H.inj _ _ _ hoo hb)
      · exact hno b hX
    · obtain ⟨_, hap, him⟩ := hdist hne
      obtain ⟨a1, a2⟩ := apartA_ok (ho := getO O) hap y hy
      refine ⟨fun o ho b hb hAv => ?_, fun o ho => by rw [a2] at ho; cases ho⟩
      rcases hAv with hX | hX
      · exact hXno him b hX
      · obtain ⟨j, o', v, x, hj, ho'⟩ := hOwnM b hX
        have := H.inj _ _ _ ho' hb
        subst this
        exact a1 o' ho v x (List.mem_of_getElem? hj)
  have hargs' := harg hl hx (Mf := M) (hs := hs) (X := X) ⟨[], by simp⟩ hsok hA hO hread
  have hHR : HR w X (ix 0 (objsOfM M)) hs := by
    refine ⟨fun j => ?_, fun i j b hi hj => ?_, fun j b hj hX => ?_⟩
    · rw [getO_ix0, objsOfM_get]
      cases hj : M[j]? with
      | none => trivial
      | some t =>
        obtain ⟨o, v, x⟩ := t
        obtain ⟨ho, hg⟩ := okM o v x (List.mem_of_getElem? hj)
        have hob := H.obj o
        rw [ho] at hob
        show ObR w X _ hs x (hs j)
        rw [hsok j o v x hj]
        cases x with
        | box t cs =>
          obtain ⟨b, ccs, t', e, hh, hr⟩ := hob
          exact ⟨b, ccs, t', e, hh, ⟨hr.1, fun k cc u h1 h2 => pure_cell hA (pureCs_mem hg cc (List.mem_of_getElem? h1)) (hr.2 k cc u h1 h2)⟩⟩
        | seq g xs =>
          rcases hob with hob | ⟨b, cap, ccs, t', e, q1, q2, q3, q4, hr⟩
          · exact .inl hob
          · exact .inr ⟨b, cap, ccs, t', e, q1, q2, q3, q4, fun k cc u h1 h2 => (hr k cc u h1 h2).mono (fun _ _ _ => rfl) hA⟩
        | fro _ _ => exact hg.elim
        | gone => trivial
    · rw [hownM] at hi hj
      cases hmi : M[i]? with
      | none => rw [hmi] at hi; cases hi
      | some t =>
        cases hmj : M[j]? with
        | none => rw [hmj] at hj; cases hj
        | some t' =>
          obtain ⟨o, v, x⟩ := t
          obtain ⟨o', v', x'⟩ := t'
          rw [hmi] at hi
          rw [hmj] at hj
          have := H.inj _ _ _ hi hj
          subst this
          exact hMinj i j o v v' x x' hmi hmj
    · have hne : M ≠ [] := by
        intro e
        rw [hownM, e] at hj
        simp at hj
      exact hXno (hdist hne).2.2 b hX
  have hXlt : ∀ b, X b → b < w.heap.size := by
    intro b hb
    rcases hXsub b hb with hb | ⟨o, ho⟩
    · have := H.xlt b hb; have := H.size; omega
    · exact H1.lt ho
  refine (hcon w X (objsOfM M) hs vs' us _ Ms r hXlt hHR (by rw [← hl', hl]) hargs' hrun hok).mono ?_
  rintro e w2 ⟨cv, ρc, rfl, hlen, hM, hHR2, hnewb, hfr, hsz, hos, htp, hop, hres⟩
  rw [objsOfM_length] at hlen hM hnewb
  refine ⟨cv, rfl, ?_⟩
  -- the objects behind the call
  let nw : Ups := newM (getO O) (dnat d) M 0 news
  let idx : Nat → Option Nat := fun o => (List.range news.length).find? fun k => Nat.beq (nid (dnat d) k) o
  have hidx1 : ∀ k, k < news.length → idx (nid (dnat d) k) = some k := by
    intro k hk
    show List.find? _ _ = _
    rw [List.find?_range_eq_some]
    refine ⟨by simp, by simpa using hk, fun j hj => ?_⟩
    simp only [Bool.not_eq_true']
    cases hb : Nat.beq (nid (dnat d) j) (nid (dnat d) k) with
    | false => rfl
    | true => have := nid_inj (Nat.eq_of_beq_eq_true hb); omega
  have hidx2 : ∀ o k, idx o = some k → k < news.length ∧ o = nid (dnat d) k := by
    intro o k hk
    have hk' : List.find? (fun k => Nat.beq (nid (dnat d) k) o) (List.range news.length) = some k := hk
    rw [List.find?_range_eq_some] at hk'
    exact ⟨by simpa using hk'.2.1, (Nat.eq_of_beq_eq_true hk'.1).symm⟩
  let ρ2 : Nat → Value := fun o => match idx o with | some k => ρc (M.length + k) | none => ρ o
  have hρnew : ∀ k, k < news.length → ρ2 (nid (dnat d) k) = ρc (M.length + k) := by
    intro k hk; show (match idx (nid (dnat d) k) with | some k => ρc (M.length + k) | none => _) = _; rw [hidx1 k hk]
  have hρold : ∀ o, (∀ k, k < news.length → o ≠ nid (dnat d) k) → ρ2 o = ρ o := by
    intro o ho
    show (match idx o with | some k => ρc (M.length + k) | none => ρ o) = _
    cases hi : idx o with
    | none => rfl
    | some k => obtain ⟨q1, q2⟩ := hidx2 o k hi; exact absurd q2 (ho k q1)
  have hnewM := newChk_ok hnew
  simp only [Nat.zero_add] at hnewM
  have hMnew : ∀ (j o v : Nat) (x : AObj), M[j]? = some (o, v, x) → ∀ k, k < news.length → o ≠ nid (dnat d) k := by
    intro j o v x hj k hk e
    subst e
    exact hnewM k hk v x (List.mem_of_getElem? hj)
  have hnwget : ∀ k, nw[k]? = (news[k]?).map fun x => (nid (dnat d) k, verOf (getO O) (nid (dnat d) k) + 1, renO (getO O) (dnat d) M x) := by
    intro k; have := newM_get (ho := getO O) (d := dnat d) (M0 := M) news 0 k; rwa [Nat.zero_add] at this
  have hLd : ∀ (i j o v v' : Nat) (x x' : AObj), (usM ++ nw)[i]? = some (o, v, x) → (usM ++ nw)[j]? = some (o, v', x') → i = j := by
    have husM : ∀ (i o v : Nat) (x : AObj), usM[i]? = some (o, v, x) → ∃ x0, M[i]? = some (o, v, x0) := by
      intro i o v x hi
      have hlt : i < M.length := by rw [← b3]; exact (List.getElem?_eq_some_iff.1 hi).1
      have := b4 i _ _ _ (List.getElem?_eq_getElem hlt : M[i]? = some (M[i].1, M[i].2.1, M[i].2.2))
      rw [hi] at this
      simp only [Option.some.injEq, Prod.mk.injEq] at this
      obtain ⟨rfl, rfl, _⟩ := this
      exact ⟨M[i].2.2, List.getElem?_eq_getElem hlt⟩
    have hnwi : ∀ (i o v : Nat) (x : AObj), nw[i]? = some (o, v, x) → i < news.length ∧ o = nid (dnat d) i := by
      intro i o v x hi
      rw [hnwget] at hi
      obtain ⟨y, hy, e⟩ := Option.map_eq_some_iff.1 hi
      cases e
      exact ⟨(List.getElem?_eq_some_iff.1 hy).1, rfl⟩
    intro i j o v v' x x' hi hj
    rw [List.getElem?_append] at hi hj
    split at hi
    · obtain ⟨x0, hi⟩ := husM _ _ _ _ hi
      split at hj
      · obtain ⟨x1, hj⟩ := husM _ _ _ _ hj
        exact hMinj i j o v v' x0 x1 hi hj
      · obtain ⟨q1, q2⟩ := hnwi _ _ _ _ hj
        exact absurd q2 (hMnew i o v x0 hi _ q1)
    · obtain ⟨q1, q2⟩ := hnwi _ _ _ _ hi
      split at hj
      · obtain ⟨x1, hj⟩ := husM _ _ _ _ hj
        exact absurd q2 (hMnew j o v' x1 hj _ q1)
      · obtain ⟨q3, q4⟩ := hnwi _ _ _ _ hj
        have := nid_inj (q2.symm.trans q4)
        omega
  obtain ⟨g1, g2⟩ := setOs_get (usM ++ nw) (setOs O fz) hLd
  have hgetM : ∀ (j o v : Nat) (x : AObj), M[j]? = some (o, v, x) → getO (setOs (setOs O fz) (usM ++ nw)) o = (v, renO (getO O) (dnat d) M (Ms.getD j .gone)) := by
    intro j o v x hj
    have hlt : j < usM.length := by rw [b3]; exact (List.getElem?_eq_some_iff.1 hj).1
    exact g1 j o v _ (by rw [List.getElem?_append_left hlt]; exact b4 j o v x hj)
  have hgetN : ∀ k, k < news.length → getO (setOs (setOs O fz) (usM ++ nw)) (nid (dnat d) k) = (verOf (getO O) (nid (dnat d) k) + 1, renO (getO O) (dnat d) M (Ms.getD (M.length + k) .gone)) := by
    intro k hk
    refine g1 (usM.length + k) _ _ _ ?_
    rw [List.getElem?_append_right (by omega), Nat.add_sub_cancel_left, hnwget, hnews]
    rw [List.getD_eq_getElem?_getD, List.getElem?_eq_getElem (by omega : M.length + k < Ms.length)]
    rfl
  have hgetO : ∀ o, (∀ (j v : Nat) (x : AObj), M[j]? ≠ some (o, v, x)) → (∀ k, k < news.length → o ≠ nid (dnat d) k) → getO (setOs (setOs O fz) (usM ++ nw)) o = getO (setOs O fz) o := by
    intro o h1 h2
    refine g2 o fun v x hm => ?_
    rcases List.mem_append.1 hm with hm | hm
    · obtain ⟨i, hi⟩ := List.mem_iff_getElem?.1 hm
      have hlt : i < M.length := by rw [← b3]; exact (List.getElem?_eq_some_iff.1 hi).1
      have := b4 i _ _ _ (List.getElem?_eq_getElem hlt : M[i]? = some (M[i].1, M[i].2.1, M[i].2.2))
      rw [hi] at this
      simp only [Option.some.injEq, Prod.mk.injEq] at this
      obtain ⟨rfl, rfl, _⟩ := this
      exact h1 i _ _ (List.getElem?_eq_getElem hlt)
    · obtain ⟨i, hi⟩ := List.mem_iff_getElem?.1 hm
      rw [hnwget] at hi
      obtain ⟨y, hy, e⟩ := Option.map_eq_some_iff.1 hi
      cases e
      exact h2 i (List.getElem?_eq_some_iff.1 hy).1 rfl
  -- objects that were handed over are as they were held
  have hfzM : ∀ (j o v : Nat) (x : AObj), M[j]? = some (o, v, x) → getO (setOs O fz) o = (v, x) := by
    intro j o v x hj
    have hne : M ≠ [] := by intro e; rw [e] at hj; simp at hj
    have him := (hdist hne).2.2
    have : fz = [] := by show (match C.im with | true => freezeA (getO O) vs | false => []) = []; rw [him]
    rw [this]
    exact (okM o v x (List.mem_of_getElem? hj)).1
  have hclass : ∀ o, (∃ (j v : Nat) (x : AObj), M[j]? = some (o, v, x)) ∨ (∃ k, k < news.length ∧ o = nid (dnat d) k) ∨ ((∀ (j v : Nat) (x : AObj), M[j]? ≠ some (o, v, x)) ∧ (∀ k, k < news.length → o ≠ nid (dnat d) k)) := by
    intro o
    by_cases h1 : ∃ (j v : Nat) (x : AObj), M[j]? = some (o, v, x)
    · exact .inl h1
    · by_cases h2 : ∃ k, k < news.length ∧ o = nid (dnat d) k
      · exact .inr (.inl h2)
      · exact .inr (.inr ⟨fun j v x e => h1 ⟨j, v, x, e⟩, fun k hk e => h2 ⟨k, hk, e⟩⟩)
  have hMlt : ∀ (j o v : Nat) (x : AObj), M[j]? = some (o, v, x) → j < M.length := fun j o v x hj => (List.getElem?_eq_some_iff.1 hj).1
  -- who owns what, behind the call
  have hren : ∀ x h, ownOf (renO (getO O) (dnat d) M x) h = ownOf x h := by intro x h; cases x <;> rfl
  have hownM2 : ∀ (j o v : Nat) (x : AObj), M[j]? = some (o, v, x) → own (setOs (setOs O fz) (usM ++ nw)) ρ2 o = own (ix 0 Ms) ρc j ∧ ρ2 o = ρ o ∧ ρc j = ρ o := by
    intro j o v x hj
    have e1 := hρold o (hMnew j o v x hj)
    have e2 := (hM j (hMlt j o v x hj)).1
    rw [hsok j o v x hj] at e2
    refine ⟨?_, e1, e2⟩
    unfold own
    rw [hgetM j o v x hj, getO_ix0, e1, e2, hren]
  have hownN2 : ∀ k, k < news.length → own (setOs (setOs O fz) (usM ++ nw)) ρ2 (nid (dnat d) k) = own (ix 0 Ms) ρc (M.length + k) := by
    intro k hk
    unfold own
    rw [hgetN k hk, getO_ix0, hρnew k hk, hren]
  have hownO2 : ∀ o, (∀ (j v : Nat) (x : AObj), M[j]? ≠ some (o, v, x)) → (∀ k, k < news.length → o ≠ nid (dnat d) k) → own (setOs (setOs O fz) (usM ++ nw)) ρ2 o = own (setOs O fz) ρ o := by
    intro o h1 h2
    unfold own
    rw [hgetO o h1 h2, hρold o h2]
  have hownCmp : ∀ (j o v : Nat) (x : AObj) (b : Nat), M[j]? = some (o, v, x) → own (ix 0 Ms) ρc j = some b → own (setOs O fz) ρ o = some b := by
    intro j o v x b hj hb
    have hcmp := (hM j (hMlt j o v x hj)).2
    rw [objsOfM_get, hj] at hcmp
    have hcmp : Cmp x (Ms.getD j .gone) := hcmp
    have e2 := (hownM2 j o v x hj).2.2
    unfold own at hb ⊢
    rw [getO_ix0, e2] at hb
    rw [hfzM j o v x hj]
    cases hm : Ms.getD j .gone with
    | box t cs => rw [hm] at hb hcmp; obtain ⟨t', ds, rfl⟩ := hcmp.ofBox; exact hb
    | seq g xs => rw [hm] at hb hcmp; obtain ⟨ys, rfl, _⟩ := hcmp.ofSeq; exact hb
    | fro g xs => rw [hm] at hb; simp [ownOf] at hb
    | gone => rw [hm] at hb; simp [ownOf] at hb
  have hown1 : ∀ b, (∀ j, own (ix 0 (objsOfM M)) hs j ≠ some b) ↔ ∀ (j o v : Nat) (x : AObj), M[j]? = some (o, v, x) → own O ρ o ≠ some b := by
    intro b
    constructor
    · intro h j o v x hj e
      exact h j (by rw [hownM, hj]; exact e)
    · intro h j e
      rw [hownM] at e
      cases hj : M[j]? with
      | none => rw [hj] at e; cases e
      | some t => obtain ⟨o, v, x⟩ := t; rw [hj] at e; exact h j o v x hj e
  have hOM : ∀ (j o v : Nat) (x : AObj), M[j]? = some (o, v, x) → own O ρ o = own (setOs O fz) ρ o := by
    intro j o v x hj
    unfold own
    rw [hfzM j o v x hj, (okM o v x (List.mem_of_getElem? hj)).1]
  have hfr1 : ∀ b, b < w.heap.size → (∀ (j o v : Nat) (x : AObj), M[j]? = some (o, v, x) → own (setOs O fz) ρ o ≠ some b) → w2.heap[b]? = w.heap[b]? := by
    intro b hb hn
    exact hfr b hb ((hown1 b).2 fun j o v x hj e => hn j o v x hj (by rw [← hOM j o v x hj]; exact e))
  have hOwn2 : ∀ b, b < w2.heap.size → Owned (setOs (setOs O fz) (usM ++ nw)) ρ2 b → Owned (ix 0 Ms) ρc b ∨ Owned (setOs O fz) ρ b := by
    intro b _ ⟨o, ho⟩
    rcases hclass o with ⟨j, v, x, hj⟩ | ⟨k, hk, rfl⟩ | ⟨h1, h2⟩
    · rw [(hownM2 j o v x hj).1] at ho; exact .inl ⟨j, ho⟩
    · rw [hownN2 k hk] at ho; exact .inl ⟨_, ho⟩
    · rw [hownO2 o h1 h2] at ho; exact .inr ⟨o, ho⟩
  -- how a cell of the result reads for the caller
  have hcell : ∀ x u, wfC C.im Ms.length x = true → CellR w2 X (ix 0 Ms) ρc x u → CellR w2 c.X (setOs (setOs O fz) (usM ++ nw)) ρ2 (renC (getO O) (dnat d) M x) u := by
    intro x u hw hx
    cases x with
    | int k n => exact hx
    | bool l b => exact hx
    | str s => exact hx
    | nil => exact hx
    | fn f => exact hx
    | im g xs =>
      have him : C.im = true := hw
      refine PR.mono (fun _ _ _ => rfl) (fun b hb hAv => ?_) hx
      rcases hAv with h1 | h1
      · exact .inl (hXyes him b (.inl h1))
      · rcases hOwn2 b hb h1 with h1 | h1
        · exact .inr h1
        · exact .inl (hXyes him b (.inr h1))
    | sl j k =>
      have hj : j < Ms.length := Nat.le_of_ble_eq_true hw
      obtain ⟨⟨q1, q2⟩, q3⟩ := hx
      rw [getO_ix0] at q1 q3
      have hk0 : k = 0 := Nat.le_zero.1 q1
      have q3 := q3 hk0
      cases hm : M[j]? with
      | some t =>
        obtain ⟨o, v, x0⟩ := t
        obtain ⟨_, e1, e2⟩ := hownM2 j o v x0 hm
        show CellR _ _ _ _ (match M[j]? with | some (o, v, _) => Cell.sl o v | none => _) _
        rw [hm]
        refine ⟨⟨by rw [hgetM j o v x0 hm]; exact Nat.le_refl _, q2⟩, fun _ => ?_⟩
        rw [hgetM j o v x0 hm, e1, ← e2]
        revert q3
        cases Ms.getD j .gone <;> exact id
      | none =>
        have hjM : M.length ≤ j := List.getElem?_eq_none_iff.1 hm
        have hjn : j - M.length < news.length := by omega
        show CellR _ _ _ _ (match M[j]? with | some (o, v, _) => Cell.sl o v | none => _) _
        rw [hm]
        refine ⟨⟨by rw [hgetN _ hjn]; exact Nat.le_refl _, q2⟩, fun _ => ?_⟩
        rw [hgetN _ hjn, hρnew _ hjn, show M.length + (j - M.length) = j by omega]
        revert q3
        cases Ms.getD j .gone <;> exact id
    | ptr j k off =>
      have hj : j < Ms.length := Nat.le_of_ble_eq_true hw
      obtain ⟨⟨q1, q2⟩, q3⟩ := hx
      rw [getO_ix0] at q1 q3
      have hk0 : k = 0 := Nat.le_zero.1 q1
      have q3 := q3 hk0
      cases hm : M[j]? with
      | some t =>
        obtain ⟨o, v, x0⟩ := t
        obtain ⟨_, e1, e2⟩ := hownM2 j o v x0 hm
        show CellR _ _ _ _ (match M[j]? with | some (o, v, _) => Cell.ptr o v off | none => _) _
        rw [hm]
        refine ⟨⟨by rw [hgetM j o v x0 hm]; exact Nat.le_refl _, q2⟩, fun _ => ?_⟩
        rw [hgetM j o v x0 hm, e1, ← e2]
        revert q3
        cases Ms.getD j .gone <;> exact id
      | none =>
        have hjM : M.length ≤ j := List.getElem?_eq_none_iff.1 hm
        have hjn : j - M.length < news.length := by omega
        show CellR _ _ _ _ (match M[j]? with | some (o, v, _) => Cell.ptr o v off | none => _) _
        rw [hm]
        refine ⟨⟨by rw [hgetN _ hjn]; exact Nat.le_refl _, q2⟩, fun _ => ?_⟩
        rw [hgetN _ hjn, hρnew _ hjn, show M.length + (j - M.length) = j by omega]
        revert q3
        cases Ms.getD j .gone <;> exact id
    | aptr _ _ => cases hw
    | eptr _ _ _ _ => cases hw
    | vptr _ _ _ => cases hw
    | und => cases hw
  -- how an object reads for the caller
  have hobj : ∀ j, j < Ms.length → ObR w2 c.X (setOs (setOs O fz) (usM ++ nw)) ρ2 (renO (getO O) (dnat d) M (Ms.getD j .gone)) (ρc j) := by
    intro j hj
    have hob := hHR2.obj j
    rw [getO_ix0] at hob
    have hwf := wfOs_mem hwO (Ms.getD j .gone) (by rw [List.getD_eq_getElem?_getD, List.getElem?_eq_getElem hj]; exact List.getElem_mem ..)
    cases hm : Ms.getD j .gone with
    | box t cs =>
      rw [hm] at hob hwf
      obtain ⟨b, ccs, t', e, hh, hr⟩ := hob
      exact ⟨b, ccs, t', e, hh, renCs_rel hcell hwf hr⟩
    | seq g xs =>
      rw [hm] at hob hwf
      rcases hob with hob | ⟨b, cap, ccs, t', e, q1, q2, q3, q4, hr⟩
      · exact .inl hob
      · refine .inr ⟨b, cap, ccs, t', e, q1, q2, q3, q4, fun k cc u h1 h2 => ?_⟩
        have hpr := hr k cc u h1 h2
        cases him : C.im with
        | false =>
          have hg : gflat g = true := by simpa [wfO, him] using hwf
          obtain ⟨x, i, hxi⟩ := flat_mem h1
          exact gflat_pr hg hxi hpr
        | true =>
          refine hpr.mono (fun _ _ _ => rfl) (fun b hb hAv => ?_)
          rcases hAv with h1 | h1
          · exact .inl (hXyes him b (.inl h1))
          · rcases hOwn2 b hb h1 with h1 | h1
            · exact .inr h1
            · exact .inl (hXyes him b (.inr h1))
    | fro g xs => rw [hm] at hwf; cases hwf
    | gone => rw [hm] at hwf; cases hwf
  obtain ⟨H2, k2⟩ := hrel_step (w' := w2) (O' := setOs (setOs O fz) (usM ++ nw)) (ρ' := ρ2) H1
    (fun b hb hn => hfr1 b hb fun j o v x hj e => hn ⟨o, e⟩)
    (fun b hb ⟨o, ho⟩ => by
      rcases hclass o with ⟨j, v, x, hj⟩ | ⟨k, hk, rfl⟩ | ⟨h1, h2⟩
      · rw [(hownM2 j o v x hj).1] at ho; exact ⟨o, hownCmp j o v x b hj ho⟩
      · rw [hownN2 k hk] at ho
        have := hnewb _ b (Nat.le_add_right ..) ho
        omega
      · rw [hownO2 o h1 h2] at ho; exact ⟨o, ho⟩)
    (fun o => by
      rcases hclass o with ⟨j, v, x, hj⟩ | ⟨k, hk, rfl⟩ | ⟨h1, h2⟩
      · refine .inr ⟨?_, (hownM2 j o v x hj).2.1, ?_⟩
        · rw [hfzM j o v x hj, hgetM j o v x hj]
        · rw [hfzM j o v x hj, hgetM j o v x hj]
          have hcmp := (hM j (hMlt j o v x hj)).2
          rw [objsOfM_get, hj] at hcmp
          have hcmp : Cmp x (Ms.getD j .gone) := hcmp
          show Cmp x (renO (getO O) (dnat d) M (Ms.getD j .gone))
          cases hm : Ms.getD j .gone with
          | box t cs => rw [hm] at hcmp; obtain ⟨t', ds, rfl⟩ := hcmp.ofBox; exact .inr trivial
          | _ => rw [hm] at hcmp; exact hcmp
      · refine .inl ?_
        rw [hgetN k hk, frz_ver hfz]
        exact Nat.lt_succ_self _
      · rw [hgetO o h1 h2, hρold o h2]
        exact .inr ⟨rfl, rfl, .inl rfl⟩)
    (fun hk o => by
      rcases hclass o with ⟨j, v, x, hj⟩ | ⟨k, hk, rfl⟩ | ⟨h1, h2⟩
      · refine .inr ?_
        rw [hgetM j o v x hj]
        have := hobj j (by have := hMlt j o v x hj; omega)
        rw [(hownM2 j o v x hj).2.2] at this
        rw [(hownM2 j o v x hj).2.1]
        exact this
      · refine .inr ?_
        rw [hgetN k hk, hρnew k hk]
        exact hobj (M.length + k) (by omega)
      · rw [hgetO o h1 h2, hρold o h2]
        refine .inl ⟨rfl, rfl, fun b hb => hfr1 b (H1.lt hb) fun j o' v x hj e => ?_⟩
        have := H1.inj _ _ _ hb e
        subst this
        exact h1 j v x hj)
    (fun o o' b ha hb => by
      rcases hclass o with ⟨j, v, x, hj⟩ | ⟨k, hk, rfl⟩ | ⟨h1, h2⟩
      · rcases hclass o' with ⟨j', v', x', hj'⟩ | ⟨k', hk', rfl⟩ | ⟨h1', h2'⟩
        · rw [(hownM2 j o v x hj).1] at ha
          rw [(hownM2 j' o' v' x' hj').1] at hb
          have := hHR2.inj _ _ _ ha hb
          subst this
          rw [hj] at hj'
          cases hj'; rfl
        · rw [(hownM2 j o v x hj).1] at ha
          rw [hownN2 k' hk'] at hb
          have := hHR2.inj _ _ _ ha hb
          have := hMlt j o v x hj
          omega
        · rw [(hownM2 j o v x hj).1] at ha
          have ha := hownCmp j o v x b hj ha
          rw [hownO2 o' h1' h2'] at hb
          exact H1.inj _ _ _ ha hb
      · rcases hclass o' with ⟨j', v', x', hj'⟩ | ⟨k', hk', rfl⟩ | ⟨h1', h2'⟩
        · rw [hownN2 k hk] at ha
          rw [(hownM2 j' o' v' x' hj').1] at hb
          have := hHR2.inj _ _ _ ha hb
          have := hMlt j' o' v' x' hj'
          omega
        · rw [hownN2 k hk] at ha
          rw [hownN2 k' hk'] at hb
          have := hHR2.inj _ _ _ ha hb
          rw [show k = k' by omega]
        · rw [hownN2 k hk] at ha
          have h3 := hnewb _ b (Nat.le_add_right ..) ha
          rw [hownO2 o' h1' h2'] at hb
          have := H1.lt hb
          omega
      · rcases hclass o' with ⟨j', v', x', hj'⟩ | ⟨k', hk', rfl⟩ | ⟨h1', h2'⟩
        · rw [(hownM2 j' o' v' x' hj').1] at hb
          have hb := hownCmp j' o' v' x' b hj' hb
          rw [hownO2 o h1 h2] at ha
          exact H1.inj _ _ _ ha hb
        · rw [hownN2 k' hk'] at hb
          have h3 := hnewb _ b (Nat.le_add_right ..) hb
          rw [hownO2 o h1 h2] at ha
          have := H1.lt ha
          omega
        · rw [hownO2 o h1 h2] at ha
          rw [hownO2 o' h1' h2'] at hb
          exact H1.inj _ _ _ ha hb)
    (fun o b hb => by
      rcases hclass o with ⟨j, v, x, hj⟩ | ⟨k, hk, rfl⟩ | ⟨h1, h2⟩
      · rw [(hownM2 j o v x hj).1] at hb; exact .inl (hownCmp j o v x b hj hb)
      · rw [hownN2 k hk] at hb
        exact .inr ⟨hnewb _ b (Nat.le_add_right ..) hb, Nat.le_trans hd (nid_ge _ _)⟩
      · rw [hownO2 o h1 h2] at hb; exact .inl hb)
    (fun o ho hn => by
      rcases hclass o with ⟨j, v, x, hj⟩ | ⟨k, hk, rfl⟩ | ⟨h1, h2⟩
      · refine ⟨?_, (hownM2 j o v x hj).2.1⟩
        rw [hgetM j o v x hj] at hn
        rw [hfzM j o v x hj]
        have hcmp := (hM j (hMlt j o v x hj)).2
        rw [objsOfM_get, hj] at hcmp
        have hcmp : Cmp x (Ms.getD j .gone) := hcmp
        cases hm : Ms.getD j .gone with
        | box t cs => rw [hm] at hcmp; obtain ⟨t', ds, rfl⟩ := hcmp.ofBox; trivial
        | seq g xs => rw [hm] at hcmp; obtain ⟨ys, rfl, _⟩ := hcmp.ofSeq; trivial
        | fro g xs => rw [hm] at hn; exact hn.elim
        | gone => rw [hm] at hn; exact hn.elim
      · have := nid_ge (dnat d) k
        omega
      · rw [hgetO o h1 h2] at hn; exact ⟨hn, hρold o h2⟩)
    hsz hos htp hop
  refine ⟨ρ2, ?_, ?_, ?_⟩
  · rw [setOs_append]; exact H2
  · rw [setOs_append]; exact fun y u hy => k2 y u (k1 y u hy)
  · rw [setOs_append]; exact renA_rel hcell hwA hres

end
end GV

/-
  Regions that ask for their order: whatever order is drawn, the state at the end is the text's. No condition beyond those named.
-/
import Derived.Test.YtlifofjaiigogaaVV
namespace GV
open Go
set_option linter.unusedSimpArgs false
set_option linter.unusedVariables false

/-! ### who came before whom -/

theorem maskOf_bit {acc : List Nat} {k : Nat} : ∀ {es : List Edge}, (maskOf acc es).testBit k = true → ∃ e ∈ es, Region.binds .any e = true ∧ (e.on = k ∨ (acc.getD e.on 0).testBit k = true) := by
  intro es
  induction es with
  | nil => intro h; simp [maskOf] at h
  | cons e r ih =>
    intro h
    unfold maskOf at h
    split at h
    · rename_i hb
      rw [Nat.testBit_or, Nat.testBit_or, Nat.testBit_two_pow] at h
      simp only [Bool.or_eq_true, decide_eq_true_eq] at h
      rcases h with h | h | h
      · exact ⟨e, List.mem_cons_self, hb, .inl h⟩
      · exact ⟨e, List.mem_cons_self, hb, .inr h⟩
      · obtain ⟨e', h1, h2⟩ := ih h; exact ⟨e', List.mem_cons_of_mem _ h1, h2⟩
    · obtain ⟨e', h1, h2⟩ := ih h; exact ⟨e', List.mem_cons_of_mem _ h1, h2⟩

theorem masks_pre : ∀ (l : List Oper) (acc : List Nat) (i : Nat), i < acc.length → (masks l acc)[i]? = acc[i]? := by
  intro l
  induction l with
  | nil => intro acc i _; rfl
  | cons o r ih =>
    intro acc i h
    simp only [masks]
    rw [ih _ i (by simp; omega), List.getElem?_append_left h]

theorem masks_get : ∀ (l : List Oper) (acc : List Nat) (j : Nat) (o : Oper), l[j]? = some o → ∃ pre, (∀ i, i < acc.length + j → (masks l acc)[i]? = pre[i]?) ∧ pre.length = acc.length + j ∧ (masks l acc)[acc.length + j]? = some (maskOf pre o.after.toList) := by
  intro l
  induction l with
  | nil => intro acc j o h; cases h
  | cons x r ih =>
    intro acc j o h
    cases j with
    | zero =>
      cases h
      refine ⟨acc, fun i hi => masks_pre _ _ i hi, rfl, ?_⟩
      simp only [masks]
      rw [masks_pre _ _ _ (by simp)]
      simp
    | succ j =>
      obtain ⟨pre, h1, h2, h3⟩ := ih (acc ++ [maskOf acc x.after.toList]) j o h
      simp only [List.length_append, List.length_cons, List.length_nil, Nat.zero_add, Nat.add_assoc, Nat.add_comm 1] at h1 h2 h3
      exact ⟨pre, h1, h2, h3⟩

/-- closed under what binds -/
def Closed (all : List Oper) (D : Nat → Bool) : Prop := ∀ i o, all[i]? = some o → D i = true → ∀ e ∈ o.after, Region.binds .any e = true → D e.on = true

theorem edges_lt : ∀ {l : List Oper} {i : Nat}, edgesOk i l = true → ∀ j o, l[j]? = some o → ∀ e ∈ o.after, Region.binds .any e = true → e.on < i + j := by
  intro l
  induction l with
  | nil => intro i _ j o h; cases h
  | cons x r ih =>
    intro i h j o ho e he hb
    simp only [edgesOk, Bool.and_eq_true] at h
    cases j with
    | zero =>
      cases ho
      have := List.all_eq_true.1 h.1 e (Array.mem_toList_iff.2 he)
      rw [hb] at this
      exact Nat.le_of_ble_eq_true this
    | succ j =>
      have := ih h.2 j o ho e he hb
      omega

theorem mask_closed {all : List Oper} {D : Nat → Bool} (hD : Closed all D) (hE : edgesOk 0 all = true) {k m : Nat} : ∀ (i : Nat) (o : Oper), all[i]? = some o → (∀ e ∈ o.after, Region.binds .any e = true → D e.on = true) →
    (masks all [])[i]? = some m → m.testBit k = true → D k = true := by
  intro i
  induction i using Nat.strongRecOn generalizing m with
  | _ i ih =>
    intro o ho hp hm hk
    obtain ⟨pre, h1, h2, h3⟩ := masks_get all [] i o ho
    simp only [List.length_nil, Nat.zero_add] at h1 h2 h3
    rw [hm] at h3
    cases h3
    obtain ⟨e, he, hb, hor⟩ := maskOf_bit hk
    have he := Array.mem_toList_iff.1 he
    rcases hor with h | h
    · rw [← h]; exact hp e he hb
    · have hlt : e.on < i := by have := edges_lt hE i o ho e he hb; omega
      have hD' := hp e he hb
      have hin : e.on < all.length := by
        have := (List.getElem?_eq_some_iff.1 ho).1
        omega
      obtain ⟨o', ho'⟩ : ∃ o', all[e.on]? = some o' := ⟨all[e.on], List.getElem?_eq_some_iff.2 ⟨hin, rfl⟩⟩
      have hm' : (masks all [])[e.on]? = some (pre.getD e.on 0) := by
        rw [h1 e.on hlt, List.getElem?_eq_getElem (by omega), List.getD_eq_getElem?_getD, List.getElem?_eq_getElem (by omega)]
        rfl
      exact ih e.on hlt o' ho' (hD e.on o' ho' hD') hm' h

theorem prec_ok {α : Type} {cl : α → α → Bool} {m : Nat} {y : α} : ∀ {bs : List α} {i : Nat}, prec cl m y i bs = true → ∀ k x, bs[k]? = some x → cl x y = true → m.testBit (i + k) = true := by
  intro bs
  induction bs with
  | nil => intro i _ k x h; cases h
  | cons b r ih =>
    intro i h k x hx hc
    simp only [prec, Bool.and_eq_true] at h
    cases k with
    | zero =>
      cases hx
      have := h.1
      rw [hc] at this
      exact this
    | succ k =>
      have := ih h.2 k x hx hc
      rw [Nat.add_assoc, Nat.add_comm 1] at this
      exact this

theorem pairs_ok {α : Type} {cl : α → α → Bool} : ∀ {xs : List α} {ms : List Nat} {bs : List α}, pairs cl ms bs xs = true → ∀ i j x y, (bs ++ xs)[i]? = some x → xs[j]? = some y → i < bs.length + j → cl x y = true → ∃ m, ms[j]? = some m ∧ m.testBit i = true := by
  intro xs
  induction xs with
  | nil => intro ms bs _ i j x y _ h; cases h
  | cons a r ih =>
    intro ms bs h i j x y hx hy hlt hc
    cases ms with
    | nil => simp [pairs] at h
    | cons m ms =>
      simp only [pairs] at h
      split at h
      · rename_i hp
        cases j with
        | zero =>
          cases hy
          refine ⟨m, rfl, ?_⟩
          have hx' : bs[i]? = some x := by rw [← hx, List.getElem?_append_left (by omega)]
          have := prec_ok hp i x hx' hc
          rwa [Nat.zero_add] at this
        | succ j =>
          obtain ⟨m', h1, h2⟩ := ih h i j x y (by simpa using hx) hy (by simp; omega) hc
          exact ⟨m', h1, h2⟩
      · cases h

/-! ### overlays -/

def lastW {β : Type} (D : Nat → Bool) (touch : Eff → Bool) (val : Eff → β) : Nat → List Eff → β → β
  | _, [], b => b
  | i, e :: r, b => lastW D touch val (i + 1) r (if (D i && touch e) = true then val e else b)

theorem lastW_congr {β : Type} {D D' : Nat → Bool} {touch : Eff → Bool} {val : Eff → β} : ∀ {es : List Eff} {i : Nat} {b : β}, (∀ j e, es[j]? = some e → touch e = true → D (i + j) = D' (i + j)) → lastW D touch val i es b = lastW D' touch val i es b := by
  intro es
  induction es with
  | nil => intro i b _; rfl
  | cons e r ih =>
    intro i b h
    simp only [lastW]
    have h0 := h 0 e rfl
    have e1 : (D i && touch e) = (D' i && touch e) := by
      cases ht : touch e with
      | false => simp
      | true => rw [show D i = D' i from h0 ht]
    rw [e1]
    exact ih fun j e' hj ht => by have := h (j + 1) e' hj ht; rwa [← Nat.add_assoc, Nat.add_right_comm] at this

theorem lastW_none {β : Type} {D : Nat → Bool} {touch : Eff → Bool} {val : Eff → β} : ∀ {es : List Eff} {i : Nat} {b : β}, (∀ j e, es[j]? = some e → touch e = true → D (i + j) = false) → lastW D touch val i es b = b := by
  intro es
  induction es with
  | nil => intro i b _; rfl
  | cons e r ih =>
    intro i b h
    simp only [lastW]
    have e1 : (D i && touch e) = false := by
      cases ht : touch e with
      | false => simp
      | true => rw [show D i = false from h 0 e rfl ht]; rfl
    rw [e1]
    exact ih fun j e' hj ht => by have := h (j + 1) e' hj ht; rwa [← Nat.add_assoc, Nat.add_right_comm] at this

theorem lastW_put {β : Type} {D : Nat → Bool} {touch : Eff → Bool} {val : Eff → β} : ∀ {es : List Eff} {i k : Nat} {b : β} {e : Eff}, es[k]? = some e → touch e = true → D (i + k) = true → (∀ j e, es[j]? = some e → k < j → touch e = true → D (i + j) = false) →
    lastW D touch val i es b = val e := by
  intro es
  induction es with
  | nil => intro i k b e h; cases h
  | cons x r ih =>
    intro i k b e h ht hD hl
    simp only [lastW]
    cases k with
    | zero =>
      cases h
      rw [show D i = true from hD, ht]
      exact lastW_none fun j e' hj ht' => by have := hl (j + 1) e' hj (by omega) ht'; rwa [← Nat.add_assoc, Nat.add_right_comm] at this
    | succ k =>
      refine ih h ht (by rwa [← Nat.add_assoc, Nat.add_right_comm] at hD) fun j e' hj hlt ht' => ?_
      have := hl (j + 1) e' hj (by omega) ht'
      rwa [← Nat.add_assoc, Nat.add_right_comm] at this

def tT (t : Nat) (e : Eff) : Bool := e.dst == some t
def tO (o : Nat) (e : Eff) : Bool := (upIds e.us).contains o
def vO (o : Nat) (e : Eff) : Nat × AObj := getO (setOs [] e.us) o

/-- what a slot holds once these have come up -/
def ovT (S0 : St) (es : List Eff) (D : Nat → Bool) (t : Nat) : AV := lastW D (tT t) (·.v) 0 es (getT S0.tmps t)
def ovO (S0 : St) (es : List Eff) (D : Nat → Bool) (o : Nat) : Nat × AObj := lastW D (tO o) (vO o) 0 es (getO S0.objs o)

theorem getO_setOs_not : ∀ (us : Ups) (O : Objs) (o : Nat), (upIds us).contains o = false → getO (setOs O us) o = getO O o := by
  intro us
  induction us with
  | nil => intro O o _; rfl
  | cons u r ih =>
    intro O o h
    obtain ⟨k, v, x⟩ := u
    simp only [upIds, List.contains_cons, Bool.or_eq_false_iff, beq_eq_false_iff_ne] at h
    simp only [setOs]
    rw [ih _ _ h.2, getO_setO_other _ _ _ h.1]

theorem getO_setOs_in : ∀ (us : Ups) (O O' : Objs) (o : Nat), (upIds us).contains o = true → getO (setOs O us) o = getO (setOs O' us) o := by
  intro us
  induction us with
  | nil => intro O O' o h; simp [upIds] at h
  | cons u r ih =>
    intro O O' o h
    obtain ⟨k, v, x⟩ := u
    simp only [setOs]
    cases hr : (upIds r).contains o with
    | true => exact ih _ _ o hr
    | false =>
      simp only [upIds, List.contains_cons, hr, Bool.or_false, beq_iff_eq] at h
      subst h
      rw [getO_setOs_not _ _ _ hr, getO_setOs_not _ _ _ hr, getO_setO_same, getO_setO_same]

theorem getT_apply (S : St) (e : Eff) (t : Nat) : getT (applyE S e).tmps t = if tT t e = true then e.v else getT S.tmps t := by
  unfold applyE tT
  cases hd : e.dst with
  | none => simp [setD]
  | some d =>
    simp only [setD]
    by_cases h : t = d
    · subst h; rw [getT_setT_same]; simp
    · rw [getT_setT_other _ _ h, if_neg (by simp; exact fun h' => h h'.symm)]

theorem getO_apply (S : St) (e : Eff) (o : Nat) : getO (applyE S e).objs o = if tO o e = true then vO o e else getO S.objs o := by
  unfold applyE tO vO
  cases h : (upIds e.us).contains o with
  | true => rw [if_pos rfl]; exact getO_setOs_in _ _ _ _ h
  | false => rw [if_neg (by simp)]; exact getO_setOs_not _ _ _ h

def ltB (n i : Nat) : Bool := decide (i < n)

theorem take_last {β : Type} {touch : Eff → Bool} {val : Eff → β} (get : St → β) (hget : ∀ S e, get (applyE S e) = if touch e = true then val e else get S) : ∀ (es : List Eff) (S : St) (n i : Nat),
    get (List.foldl applyE S (es.take n)) = lastW (ltB (i + n)) touch val i es (get S) := by
  intro es
  induction es with
  | nil => intro S n i; simp [lastW]
  | cons e r ih =>
    intro S n i
    cases n with
    | zero =>
      simp only [List.take_zero, List.foldl_nil]
      rw [lastW_none fun j e' _ _ => ?_]
      simp [ltB]
    | succ n =>
      simp only [List.take_succ_cons, List.foldl_cons, lastW]
      rw [ih (applyE S e) n (i + 1), hget]
      have : (ltB (i + (n + 1)) i && touch e) = touch e := by simp [ltB]
      rw [this, Nat.add_assoc, Nat.add_comm 1 n]

section
variable {c : Ctx} {E : Env} {w w' : World}

theorem Tr.at {all l : List Oper} {S S' : St} {es : List Eff} {rs : List Rec} (t : Tr E all l S es rs S') :
    es.length = l.length ∧ rs.length = l.length ∧ S' = es.foldl applyE S ∧ ∀ i o, l[i]? = some o → ∃ e rc, es[i]? = some e ∧ rs[i]? = some rc ∧ StepT E all o (List.foldl applyE S (es.take i)) e rc := by
  induction t with
  | nil S => exact ⟨rfl, rfl, rfl, fun i o h => by cases h⟩
  | cons h t ih =>
    obtain ⟨h1, h2, h3, h4⟩ := ih
    refine ⟨by simp [h1], by simp [h2], by rw [h3]; rfl, fun i o ho => ?_⟩
    cases i with
    | zero => cases ho; exact ⟨_, _, rfl, rfl, h⟩
    | succ i =>
      obtain ⟨e, rc, a, b, d⟩ := h4 i o ho
      exact ⟨e, rc, a, b, d⟩

theorem SRel.same {S S' : St} {a : Act} (hS : SRel c S a w) (hT : ∀ t, getT S'.tmps t = getT S.tmps t) (hO : ∀ o, getO S'.objs o = getO S.objs o) (hh : w'.heap = w.heap) (hos : w'.os = w.os) (ht : w'.tape = w.tape) (ho : w'.output = w.output) : SRel c S' a w' := by
  obtain ⟨⟨ρ, H, h⟩, h1, h2⟩ := hS
  have hown : ∀ o, own S'.objs ρ o = own S.objs ρ o := fun o => by unfold own; rw [hO]
  have hst := hrel_step (w' := w') (O' := S'.objs) (ρ' := ρ) H (fun b _ _ => by rw [hh]) (fun b _ ⟨o, hb⟩ => ⟨o, by rw [← hown]; exact hb⟩) (fun o => .inr ⟨by rw [hO], rfl, by rw [hO]; exact .inl rfl⟩)
    (fun _ o => .inl ⟨by rw [hO], rfl, fun b _ => by rw [hh]⟩) (fun o o' b h h' => H.inj o o' b (by rw [← hown]; exact h) (by rw [← hown]; exact h'))
    (fun o b h => .inl (by rw [← hown]; exact h)) (fun o ho h => ⟨by rw [← hO]; exact h, rfl⟩) (by rw [hh]; exact Nat.le_refl _) hos ht ho
  exact ⟨⟨ρ, hst.1, fun t => by rw [hT]; exact (h t).mono hst.2⟩, h1, h2⟩

/-! ### any order -/

theorem mem_isIn {x : Nat} : ∀ {xs : List Nat}, x ∈ xs → isIn x xs = true := by
  intro xs
  induction xs with
  | nil => intro h; cases h
  | cons y r ih =>
    intro h
    simp only [isIn]
    split
    · rfl
    · rename_i hb
      rcases List.mem_cons.1 h with h | h
      · subst h; rw [Nat.beq_refl] at hb; cases hb
      · exact ih h

theorem mem_meets {x : Nat} {ys : List Nat} : ∀ {xs : List Nat}, x ∈ xs → x ∈ ys → meets xs ys = true := by
  intro xs
  induction xs with
  | nil => intro h; cases h
  | cons y r ih =>
    intro h hy
    simp only [meets]
    split
    · rfl
    · rename_i hb
      rcases List.mem_cons.1 h with h | h
      · subst h; rw [mem_isIn hy] at hb; cases hb
      · exact ih h hy

theorem mem_ownNo {d x : Nat} (he : x % 1000 = d % 1000) : ∀ {xs : List Nat}, x ∈ xs → ownNo d xs = true := by
  intro xs
  induction xs with
  | nil => intro h; cases h
  | cons y r ih =>
    intro h
    simp only [ownNo]
    split
    · rfl
    · rename_i hb
      rcases List.mem_cons.1 h with h | h
      · subst h; rw [he, Nat.beq_refl] at hb; cases hb
      · exact ih h

theorem nid_mod (d j : Nat) : nid d j % 1000 = d % 1000 := by
  cases j with
  | zero => rfl
  | succ j => simp only [nid]; rw [Nat.mul_add_mod]

theorem stepF_congrL {E : Env} {ho ho' : HO} {dd : Option Nat} {op : Op} {ev ev' : Operand → AV} (hev : ∀ x ∈ op.operands.toList, ev x = ev' x) (hag : ∀ x ∈ lookL op, Ag ho ho' (fpA ho (ev x)))
    (hn : ∀ j, ho (nid (dnat dd) j) = ho' (nid (dnat dd) j)) : stepF E dd op ev ho = stepF E dd op ev' ho' := by
  unfold lookL at hag
  split at hag
  · simp only [stepF]; rw [hev _ (by simp [Op.operands])]
  · simp only [stepF]; rw [hev _ (by simp [Op.operands])]
  · exact stepF_congr hev (fun x hx => hag x (by unfold opsL; simpa using hx)) hn

theorem fpOps_mem {ho : HO} {T : Tmps} {o : Nat} : ∀ {xs : List Operand} {x : Operand}, x ∈ xs → o ∈ fpA ho (evO T x) → o ∈ fpOps ho T xs := by
  intro xs
  induction xs with
  | nil => intro x h; cases h
  | cons y r ih =>
    intro x h ho
    simp only [fpOps]
    rcases List.mem_cons.1 h with h | h
    · subst h; exact List.mem_append_left _ ho
    · exact List.mem_append_right _ (ih h ho)

theorem quiet_ids : ∀ {rs : List Rec}, quietR rs = true → ∀ rc ∈ rs, rc.ui = [] := by
  intro rs
  induction rs with
  | nil => intro _ rc h; cases h
  | cons x r ih =>
    intro h rc hm
    obtain ⟨fp, ui, d⟩ := x
    cases ui with
    | nil =>
      rcases List.mem_cons.1 hm with hm | hm
      · subst hm; rfl
      · exact ih h rc hm
    | cons _ _ => cases h

theorem evO_const (T T' : Tmps) (v : Value) : evO T (.const v) = evO T' (.const v) := by
  cases v <;> rfl

/-- of those numbers that are not yet listed -/
def unl (n : Nat) (listed : Array Bool) : List Nat := (List.range n).filter fun j => !listed.getD j false

theorem filter_lt {p q : Nat → Bool} (hpq : ∀ j, p j = true → q j = true) {i : Nat} (hp : p i = false) (hq : q i = true) : ∀ {l : List Nat}, i ∈ l → (l.filter p).length < (l.filter q).length := by
  have le : ∀ l : List Nat, (l.filter p).length ≤ (l.filter q).length := by
    intro l
    induction l with
    | nil => exact Nat.le_refl _
    | cons x r ih =>
      rw [List.filter_cons, List.filter_cons]
      cases hx : p x with
      | true => rw [hpq x hx]; simp; exact ih
      | false => cases q x <;> simp <;> omega
  intro l
  induction l with
  | nil => intro h; cases h
  | cons x r ih =>
    intro h
    rw [List.filter_cons, List.filter_cons]
    rcases List.mem_cons.1 h with h | h
    · subst h
      rw [hp, hq]
      simp
      have := le r
      omega
    · have := ih h
      cases hx : p x with
      | true => rw [hpq x hx]; simp; exact this
      | false => cases q x <;> simp <;> omega

theorem getD_false_of_true {l : Array Bool} {i : Nat} (h : l.getD i true = false) : i < l.size ∧ l.getD i false = false := by
  rcases Nat.lt_or_ge i l.size with h' | h'
  · refine ⟨h', ?_⟩
    simp [h'] at h ⊢
    exact h
  · simp [Array.getElem?_eq_none h'] at h

theorem getD_set {l : Array Bool} {i : Nat} (hi : i < l.size) (j : Nat) : (l.setIfInBounds i true).getD j false = (l.getD j false || j == i) := by
  by_cases h : i = j
  · subst h; simp [hi]
  · rw [getD_set_ne false h]
    have : (j == i) = false := by simp; exact fun h' => h h'.symm
    rw [this, Bool.or_false]

def Bit (all : List Oper) (i j : Nat) : Prop := ∃ m, (masks all [])[j]? = some m ∧ m.testBit i = true

theorem ord_eq {all : List Oper} {es : List Eff} (hlen : es.length = all.length) {D : Nat → Bool} (hD : Closed all D) (hE : edgesOk 0 all = true) {i : Nat} {o : Oper} (ho : all[i]? = some o) (hi : D i = false)
    (hp : ∀ e ∈ o.after, Region.binds .any e = true → D e.on = true) {tc : Eff → Bool} (hcl : ∀ j e', j ≠ i → es[j]? = some e' → tc e' = true → (j < i → Bit all j i) ∧ (i < j → Bit all i j)) :
    ∀ j e', es[j]? = some e' → tc e' = true → D j = ltB i j := by
  intro j e' he' ht
  rcases Nat.lt_trichotomy j i with h | h | h
  · obtain ⟨m, h1, h2⟩ := (hcl j e' (by omega) he' ht).1 h
    rw [mask_closed hD hE i o ho hp h1 h2]
    simp [ltB, h]
  · subst h; rw [hi]; simp [ltB]
  · obtain ⟨m, h1, h2⟩ := (hcl j e' (by omega) he' ht).2 h
    have : ltB i j = false := by simp [ltB]; omega
    rw [this]
    cases hj : D j with
    | false => rfl
    | true =>
      have hin : j < all.length := by rw [← hlen]; exact (List.getElem?_eq_some_iff.1 he').1
      have hoj : all[j]? = some all[j] := List.getElem?_eq_some_iff.2 ⟨hin, rfl⟩
      have := mask_closed hD hE j _ hoj (hD j _ hoj hj) h1 h2
      rw [this] at hi; cases hi

theorem drawn_any (hE : EOk c E) {all : List Oper} {S0 S' : St} {es : List Eff} {rs : List Rec} (t : Tr E all all S0 es rs S') (hst : statOk all = true)
    (hdy : quietR rs.reverse = true ∨ dynOk all rs = true) {Q : Exit → Act → World → Prop} (hQ : ∀ a w, SRel c S' a w → Q .normal a w) :
    ∀ (fuel : Nat) (listed : Array Bool) (a : Act) (w : World), listed.size = all.length → Closed all (fun j => listed.getD j false) → (unl all.length listed).length ≤ fuel →
      (∃ S, SRel c S a w ∧ (∀ t, getT S.tmps t = ovT S0 es (fun j => listed.getD j false) t) ∧ (∀ o, getO S.objs o = ovO S0 es (fun j => listed.getD j false) o)) →
      wpAny c.P .any ⟨all⟩ Q fuel listed a w := by
  obtain ⟨hlen, hlrs, hS', hat⟩ := t.at
  simp only [statOk, Bool.and_eq_true] at hst
  obtain ⟨hed, hpr⟩ := hst
  have ordS : ∀ i j x y, i < j → all[i]? = some x → all[j]? = some y → x.apart ⟨all⟩ y = false → Bit all i j := by
    intro i j x y hlt hx hy hap
    exact pairs_ok hpr i j x y (by simpa using hx) hy (by simpa using hlt) (by simp [hap])
  have ordO : ∀ i j x y, i < j → rs[i]? = some x → rs[j]? = some y → clashR x y = true → Bit all i j := by
    intro i j x y hlt hx hy hc
    rcases hdy with hq | hd
    · have h1 := quiet_ids hq x (by simp; exact List.mem_of_getElem? hx)
      have h2 := quiet_ids hq y (by simp; exact List.mem_of_getElem? hy)
      simp [clashR, h1, h2, meets, ownNo] at hc
    · exact pairs_ok hd i j x y (by simpa using hx) hy (by simpa using hlt) hc
  have fin : ∀ (listed : Array Bool) (a : Act) (w : World), (∀ j, j < all.length → listed.getD j false = true) →
      (∃ S, SRel c S a w ∧ (∀ t, getT S.tmps t = ovT S0 es (fun j => listed.getD j false) t) ∧ (∀ o, getO S.objs o = ovO S0 es (fun j => listed.getD j false) o)) → Q .normal a w := by
    intro listed a w hall ⟨S, hS, hT, hO⟩
    have hD : ∀ j e', es[j]? = some e' → listed.getD (0 + j) false = ltB (0 + es.length) (0 + j) := by
      intro j e' hj
      have hlt := (List.getElem?_eq_some_iff.1 hj).1
      rw [Nat.zero_add, hall j (by omega)]
      simp [ltB, hlt]
    refine hQ a w (hS.same (fun t => ?_) (fun o => ?_) rfl rfl rfl rfl)
    · rw [hT, hS']
      have := take_last (touch := tT t) (val := (·.v)) (fun S => getT S.tmps t) (fun S e => getT_apply S e t) es S0 es.length 0
      rw [List.take_length] at this
      rw [this]
      exact (lastW_congr fun j e' hj _ => hD j e' hj).symm
    · rw [hO, hS']
      have := take_last (touch := tO o) (val := vO o) (fun S => getO S.objs o) (fun S e => getO_apply S e o) es S0 es.length 0
      rw [List.take_length] at this
      rw [this]
      exact (lastW_congr fun j e' hj _ => hD j e' hj).symm
  have stuck : ∀ listed : Array Bool, listed.size = all.length → Region.ready .any ⟨all⟩ listed = [] → ∀ j, j < all.length → listed.getD j false = true := by
    intro listed hsz hr j
    induction j using Nat.strongRecOn with
    | _ j ih =>
      intro hj
      cases hl : listed.getD j false with
      | true => rfl
      | false =>
        exfalso
        have hin : j ∈ Region.ready .any ⟨all⟩ listed := by
          refine mem_ready.2 ⟨?_, all[j], by simp [hj], fun e he hb => ?_⟩
          · have : j < listed.size := by omega
            simp [this] at hl ⊢
            exact hl
          · have := edges_lt hed j all[j] (by simp [hj]) e he hb
            exact ih e.on (by omega) (by omega)
        rw [hr] at hin; cases hin
  intro fuel
  induction fuel with
  | zero =>
    intro listed a w hsz hcl hcnt hst
    have hall : ∀ j, j < all.length → listed.getD j false = true := by
      intro j hj
      cases hl : listed.getD j false with
      | true => rfl
      | false =>
        exfalso
        have : j ∈ unl all.length listed := by unfold unl; rw [List.mem_filter, List.mem_range, hl]; exact ⟨hj, rfl⟩
        have := List.length_pos_of_mem this
        omega
    refine ⟨?_, fin listed a w hall hst⟩
    rw [List.eq_nil_iff_forall_not_mem]
    intro j hj
    obtain ⟨h1, o, h2, _⟩ := mem_ready.1 hj
    have h2 : all[j]? = some o := by simpa using h2
    have := (getD_false_of_true h1).2
    rw [hall j (List.getElem?_eq_some_iff.1 h2).1] at this
    cases this
  | succ fuel ih =>
    intro listed a w hsz hcl hcnt hst
    refine ⟨fun hr => fin listed a w (stuck listed hsz hr) hst, fun i hi => ?_⟩
    obtain ⟨S, hS, hT, hO⟩ := hst
    obtain ⟨hi1, o, ho, hpre⟩ := mem_ready.1 hi
    obtain ⟨hisz, hi0⟩ := getD_false_of_true hi1
    have ho' : all[i]? = some o := by simpa using ho
    obtain ⟨e, rc, he, hrc, hstep⟩ := hat i o ho'
    obtain ⟨hdst, hnt, hrd, hru, hrun⟩ := hstep
    have hdstj : ∀ (j : Nat) (e' : Eff), es[j]? = some e' → ∃ (oj : Oper) (rj : Rec), all[j]? = some oj ∧ rs[j]? = some rj ∧ e'.dst = oj.dst ∧ rj.ui = upIds e'.us ∧ rj.d = dnat oj.dst := by
      intro j e' hj
      have hin : j < all.length := by rw [← hlen]; exact (List.getElem?_eq_some_iff.1 hj).1
      have hoj : all[j]? = some all[j] := List.getElem?_eq_some_iff.2 ⟨hin, rfl⟩
      obtain ⟨e'', rj, h1, h2, h3⟩ := hat j _ hoj
      rw [hj] at h1; cases h1
      exact ⟨_, rj, hoj, h2, h3.1, h3.2.2.2.1, h3.2.2.1⟩
    have oeq := fun {tc : Eff → Bool} => @ord_eq all es hlen (fun j => listed.getD j false) hcl hed i o ho' hi0 hpre tc
    -- the slots that it looks at, and its own
    have slotT : ∀ t, (t ∈ o.looksAt ⟨all⟩ ∨ o.dst = some t) → ∀ j e', es[j]? = some e' → tT t e' = true → listed.getD j false = ltB i j := by
      intro t ht
      refine oeq fun j e' hne hj htc => ?_
      obtain ⟨oj, rj, hoj, _, hdj, _, _⟩ := hdstj j e' hj
      have hd' : oj.dst = some t := by rw [← hdj]; simpa [tT] using htc
      refine ⟨fun hlt => ordS j i oj o hlt hoj ho' ?_, fun hlt => ordS i j o oj hlt ho' hoj ?_⟩
      · cases hap : oj.apart ⟨all⟩ o with
        | false => rfl
        | true =>
          obtain ⟨h1, h2, h3⟩ := Oper.apart_spec hap
          rcases ht with ht | ht
          · exact absurd ht (h1 t hd')
          · exact absurd ht (h2 t hd')
      · cases hap : o.apart ⟨all⟩ oj with
        | false => rfl
        | true =>
          obtain ⟨h1, h2, h3⟩ := Oper.apart_spec hap
          rcases ht with ht | ht
          · exact absurd ht (h3 t hd')
          · exact absurd hd' (h2 t ht)
    -- the objects
    have objT : ∀ q, (q ∈ rc.fp ∨ q ∈ rc.ui ∨ q % 1000 = rc.d % 1000) → ∀ j e', es[j]? = some e' → tO q e' = true → listed.getD j false = ltB i j := by
      intro q hq
      refine oeq fun j e' hne hj htc => ?_
      obtain ⟨oj, rj, hoj, hrj, _, huj, _⟩ := hdstj j e' hj
      have hmem : q ∈ rj.ui := by rw [huj]; simpa [tO] using htc
      refine ⟨fun hlt => ordO j i rj rc hlt hrj hrc ?_, fun hlt => ordO i j rc rj hlt hrc hrj ?_⟩
      · unfold clashR
        rcases hq with h | h | h
        · simp [mem_meets hmem h]
        · simp [mem_meets hmem h]
        · simp [mem_ownNo h hmem]
      · unfold clashR
        rcases hq with h | h | h
        · simp [mem_meets hmem h]
        · simp [mem_meets h hmem]
        · simp [mem_ownNo h hmem]
    have tEq : ∀ t, (t ∈ o.looksAt ⟨all⟩ ∨ o.dst = some t) → getT (List.foldl applyE S0 (es.take i)).tmps t = getT S.tmps t := by
      intro t ht
      rw [hT, take_last (touch := tT t) (val := (·.v)) (fun S => getT S.tmps t) (fun S e => getT_apply S e t) es S0 i 0]
      exact (lastW_congr fun j e' hj h => by rw [Nat.zero_add, Nat.zero_add]; exact slotT t ht j e' hj h).symm
    have oEq : ∀ q, (q ∈ rc.fp ∨ q ∈ rc.ui ∨ q % 1000 = rc.d % 1000) → getO (List.foldl applyE S0 (es.take i)).objs q = getO S.objs q := by
      intro q hq
      rw [hO, take_last (touch := tO q) (val := vO q) (fun S => getO S.objs q) (fun S e => getO_apply S e q) es S0 i 0]
      exact (lastW_congr fun j e' hj h => by rw [Nat.zero_add, Nat.zero_add]; exact objT q hq j e' hj h).symm
    -- what follows
    have next : ∀ a' w', SRel c (applyE S e) a' w' → wpAny c.P .any ⟨all⟩ Q fuel (listed.setIfInBounds i true) a' w' := by
      intro a' w' hr
      refine ih _ a' w' (by simpa using hsz) ?_ ?_ ⟨applyE S e, hr, fun t => ?_, fun q => ?_⟩
      · intro j oj hj hDj e' he' hb
        simp only [getD_set hisz] at hDj ⊢
        simp only [Bool.or_eq_true, beq_iff_eq] at hDj ⊢
        rcases hDj with h | h
        · exact .inl (hcl j oj hj h e' he' hb)
        · subst h
          rw [ho'] at hj; cases hj
          exact .inl (hpre e' he' hb)
      · have := filter_lt (p := fun j => !(listed.setIfInBounds i true).getD j false) (q := fun j => !listed.getD j false) (i := i) (l := List.range all.length)
          (fun j hj => by rw [getD_set hisz] at hj; simp at hj ⊢; exact hj.1) (by rw [getD_set hisz]; simp) (by rw [hi0]; rfl) (by rw [List.mem_range]; omega)
        unfold unl at hcnt ⊢
        omega
      · rw [getT_apply]
        unfold ovT
        split
        · rename_i ht
          have hdt : o.dst = some t := by rw [← hdst]; simpa [tT] using ht
          refine (lastW_put (k := i) he ht (by rw [Nat.zero_add, getD_set hisz]; simp) fun j e' hj hlt htc => ?_).symm
          rw [Nat.zero_add, getD_set hisz, slotT t (.inr hdt) j e' hj htc]
          simp [ltB]; omega
        · rename_i ht
          rw [hT]
          refine lastW_congr fun j e' hj htc => ?_
          rw [Nat.zero_add, getD_set hisz]
          have : (j == i) = false := by
            simp only [beq_eq_false_iff_ne]
            intro h; subst h
            rw [he] at hj; cases hj
            exact ht htc
          rw [this, Bool.or_false]
      · rw [getO_apply]
        unfold ovO
        split
        · rename_i ht
          have hui : q ∈ rc.ui := by rw [hru]; simpa [tO] using ht
          refine (lastW_put (k := i) he ht (by rw [Nat.zero_add, getD_set hisz]; simp) fun j e' hj hlt htc => ?_).symm
          rw [Nat.zero_add, getD_set hisz, objT q (.inr (.inl hui)) j e' hj htc]
          simp [ltB]; omega
        · rename_i ht
          rw [hO]
          refine lastW_congr fun j e' hj htc => ?_
          rw [Nat.zero_add, getD_set hisz]
          have : (j == i) = false := by
            simp only [beq_eq_false_iff_ne]
            intro h; subst h
            rw [he] at hj; cases hj
            exact ht htc
          rw [this, Bool.or_false]
    have hw : ∀ run, guardOk all o (List.foldl applyE S0 (es.take i)) run → Region.wanted o (yielded ⟨all⟩ a.tmps) = run := by
      intro run hg
      unfold guardOk at hg
      unfold Region.wanted
      split at hg
      · rename_i hgd; simp [hgd, hg]
      · rename_i j want hgd
        obtain ⟨s, h1, hg⟩ := hg
        have hlook : s ∈ o.looksAt ⟨all⟩ := by
          unfold Oper.looksAt
          rw [hgd]
          refine List.mem_append_right _ ?_
          unfold gslot at h1
          have : (⟨all⟩ : Array Oper)[j]? = all[j]? := by simp
          simp only [this]
          cases hj : all[j]? with
          | none => rw [hj] at h1; cases h1
          | some oj => rw [hj] at h1; simp only at h1; simp [h1]
        rcases hg with ⟨l, b, h2, h3⟩ | ⟨h2, h3⟩
        · rw [tEq s (.inl hlook)] at h2
          have := yielded_of hS (ops := ⟨all⟩) h1 h2
          simp only [hgd, this, h3]
          cases b <;> cases want <;> rfl
        · rw [tEq s (.inl hlook)] at h2
          have := yielded_non hS (ops := ⟨all⟩) h1 h2
          simp only [hgd, this, h3]
          rfl
    unfold wpOp
    simp only [ho]
    rcases hrun with ⟨hg, hfp, p, hs, hok⟩ | ⟨hg, hv, hus⟩
    · rw [hw true hg]
      simp only [if_true]
      refine .inl (op_wp hE hS (p := p) (v := e.v) (us := e.us) ?_ hok hnt ?_)
      · rw [← hs]
        refine (stepF_congrL ?_ ?_ ?_).symm
        · intro x hx
          cases x with
          | tmp t =>
            exact tEq t (.inl (List.mem_append_left _ (List.mem_filterMap.2 ⟨.tmp t, hx, rfl⟩)))
          | const v => exact evO_const _ _ v
          | func f => rfl
          | global g => rfl
        · intro x hx q hq
          refine oEq q (.inl ?_)
          rw [hfp]
          exact fpOps_mem hx hq
        · intro j
          refine oEq _ (.inr (.inr ?_))
          rw [hrd]
          exact nid_mod _ j
      · intro a' w' hr
        refine next a' w' ?_
        unfold applyE
        rw [hdst]
        exact hr
    · rw [hw false hg]
      simp only [Bool.false_eq_true, if_false]
      refine next _ _ ?_
      unfold applyE
      rw [hdst, hv, hus]
      exact skip_rel hE hS

theorem rep (n j : Nat) : (Array.replicate n false).getD j false = false := by
  rw [Array.getD_eq_getD_getElem?, Array.getElem?_replicate]
  split <;> rfl

/-- **A region that asks for its order.** -/
theorem drawn_ok (hE : EOk c E) (hm : c.P.follows .mixedOrders = true) {id : Nat} {all : List Oper} {S : St} {a : Act} (hS : SRel c S a w) {k : St → Prop} (hst : statOk all = true) (h : runD E all all [] [] S k)
    {Q : Exit → Act → World → Prop} (hQ : ∀ S' a' w', SRel c S' a' w' → k S' → Q .normal a' w') : (Code.region id ⟨all⟩ true).wp c.P Q a w := by
  obtain ⟨es, rs, S', t, hd, hk⟩ := runD_ok all (fun s b h => by cases h) h
  refine wp_region_any hm (drawn_any hE t hst (by simpa using hd) (fun a w hr => hQ S' a w hr hk) _ _ _ _ (by simp) ?_ ?_ ⟨S, hS.same (fun _ => rfl) (fun _ => rfl) rfl rfl rfl rfl, fun t => ?_, fun o => ?_⟩)
  · intro i o ho hd
    have hd : (Array.replicate all.length false).getD i false = true := hd
    rw [rep] at hd; cases hd
  · unfold unl
    refine Nat.le_trans (List.length_filter_le _ _) (by simp)
  · unfold ovT; rw [lastW_none]; intro j e _ _; exact rep _ _
  · unfold ovO; rw [lastW_none]; intro j e _ _; exact rep _ _

end
end GV

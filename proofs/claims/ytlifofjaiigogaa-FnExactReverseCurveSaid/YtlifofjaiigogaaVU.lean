/-
  What an operation looks at: its operands' values, the objects that they name, and its own slot's numbers. No condition beyond those named.
-/
import Derived.Test.YtlifofjaiigogaaVT
namespace GV
open Go
set_option linter.unusedSimpArgs false
set_option linter.unusedVariables false

def idsC : Cell → List Nat
  | .sl o _ => [o]
  | .ptr o _ _ => [o]
  | .aptr o _ => [o]
  | .eptr o _ _ _ => [o]
  | _ => []

def idsCs : List Cell → List Nat
  | [] => []
  | c :: r => idsC c ++ idsCs r

def fpC (ho : HO) : Cell → List Nat
  | .ptr o v _ => o :: (match cur ho o v with | .box _ cs => idsCs cs | _ => [])
  | .sl o _ => [o]
  | .aptr o _ => [o]
  | .eptr o _ _ _ => [o]
  | _ => []

def fpCs (ho : HO) : List Cell → List Nat
  | [] => []
  | c :: r => fpC ho c ++ fpCs ho r

def fpA (ho : HO) : AV → List Nat
  | .c x => fpC ho x
  | .agg cs => fpCs ho cs
  | .tup _ => []

def Ag (ho ho' : HO) (xs : List Nat) : Prop := ∀ o, o ∈ xs → ho o = ho' o

section
variable {E : Env} {ho ho' : HO}

theorem Ag.left {xs ys : List Nat} (h : Ag ho ho' (xs ++ ys)) : Ag ho ho' xs := fun o hm => h o (List.mem_append_left _ hm)
theorem Ag.right {xs ys : List Nat} (h : Ag ho ho' (xs ++ ys)) : Ag ho ho' ys := fun o hm => h o (List.mem_append_right _ hm)
theorem Ag.one {o : Nat} (h : Ag ho ho' [o]) : ho o = ho' o := h o (List.mem_singleton.2 rfl)
theorem Ag.hd {o : Nat} {r : List Nat} (h : Ag ho ho' (o :: r)) : ho o = ho' o := h o List.mem_cons_self
theorem Ag.tl {o : Nat} {r : List Nat} (h : Ag ho ho' (o :: r)) : Ag ho ho' r := fun x hm => h x (List.mem_cons_of_mem _ hm)

theorem cur_ag {o v : Nat} (h : ho o = ho' o) : cur ho o v = cur ho' o v := by unfold cur; rw [h]

theorem Ag.cells {c : Cell} (h : Ag ho ho' (fpC ho c)) : Ag ho ho' (idsC c) := by
  cases c <;> simp only [fpC, idsC] at h ⊢ <;> first | exact h | exact fun x hm => by rw [List.mem_singleton] at hm; subst hm; exact h.hd

theorem Ag.cellss : ∀ {cs : List Cell}, Ag ho ho' (fpCs ho cs) → Ag ho ho' (idsCs cs) := by
  intro cs
  induction cs with
  | nil => intro h; exact h
  | cons c r ih =>
    intro h o hm
    rcases List.mem_append.1 hm with hm | hm
    · exact h.left.cells o hm
    · exact ih h.right o hm

theorem snapC_ag {c : Cell} (h : Ag ho ho' (idsC c)) : snapC ho c = snapC ho' c := by
  cases c <;> simp only [snapC]
  rename_i o v
  rw [cur_ag h.one]

theorem snapCs_ag : ∀ {cs : List Cell}, Ag ho ho' (idsCs cs) → snapCs ho cs = snapCs ho' cs := by
  intro cs
  induction cs with
  | nil => intro _; rfl
  | cons c r ih => intro h; simp only [snapCs]; rw [snapC_ag h.left, ih h.right]

theorem cellsOf_ag {x : AV} {ns : List Cell} (h : Ag ho ho' (fpA ho x)) (hx : cellsOf x = some ns) : Ag ho ho' (idsCs ns) := by
  cases x with
  | c x =>
    have : ns = [x] := by cases x <;> simp [cellsOf] at hx <;> exact hx.symm
    subst this
    intro o hm
    simp only [idsCs, List.append_nil] at hm
    exact Ag.cells h o hm
  | agg cs =>
    have : ns = cs := by
      simp only [cellsOf] at hx
      split at hx
      · exact (Option.some.inj hx).symm
      · cases hx
    subst this
    exact Ag.cellss h
  | tup _ => simp [cellsOf] at hx

theorem listOf_ag {g : GT} {x : AV} (h : Ag ho ho' (fpA ho x)) : listOf ho g x = listOf ho' g x := by
  rcases x with x | _ | _ <;> try rfl
  cases x <;> simp only [listOf]
  rw [cur_ag (Ag.one h)]

theorem lenOf_ag {b : Bool} {x : AV} (h : Ag ho ho' (fpA ho x)) : lenOf ho b x = lenOf ho' b x := by
  rcases x with x | _ | _ <;> try (cases b <;> rfl)
  cases b <;> cases x <;> simp only [lenOf]
  rw [cur_ag (Ag.one h)]

theorem mk_ag {d : Option Nat} {p : Option Prop} {x : AObj} {ref : Nat → Nat → Cell} (h : ho (dnat d) = ho' (dnat d)) : mk E d ho p x ref = mk E d ho' p x ref := by
  unfold mk verOf; rw [h]

theorem loadF_ag {t : Nat} {p : AV} (h : Ag ho ho' (fpA ho p)) : loadF E ho t p = loadF E ho' t p := by
  rcases p with x | _ | _ <;> try rfl
  unfold loadF
  split
  · rfl
  · cases x <;> simp only <;> first | rw [cur_ag (Ag.hd h)] | rfl

theorem storeF_ag {t : Nat} {p x : AV} (h : Ag ho ho' (fpA ho p)) (hx : Ag ho ho' (fpA ho x)) : storeF E ho t p x = storeF E ho' t p x := by
  unfold storeF
  split
  · rfl
  · split
    · rfl
    · rename_i ns hns
      have hs := snapCs_ag (cellsOf_ag hx hns)
      split
      · rfl
      · rcases p with y | _ | _ <;> try rfl
        cases y <;> simp only <;> first | rw [cur_ag (Ag.hd h)] | rw [cur_ag (Ag.hd h), hs] | rfl
        rw [hs]

theorem elemsF_ag {g : GT} : ∀ (ps : List (Nat × AV)) (n : Nat), (∀ q ∈ ps, Ag ho ho' (fpA ho q.2)) → elemsF ho g n ps = elemsF ho' g n ps := by
  intro ps
  induction ps with
  | nil => intro n _; rfl
  | cons q r ih =>
    intro n h
    obtain ⟨i, v⟩ := q
    simp only [elemsF]
    have h1 := h (i, v) List.mem_cons_self
    have h2 := ih (n + 1) fun q hq => h q (List.mem_cons_of_mem _ hq)
    split
    · rfl
    · split
      · rfl
      · rename_i cs hcs
        rw [snapCs_ag (cellsOf_ag h1 hcs), h2]

theorem indexF_ag {t : Nat} {x i : AV} (h : Ag ho ho' (fpA ho x)) : indexF E ho t x i = indexF E ho' t x i := by
  unfold indexF
  split
  · split
    · split
      · rfl
      · rcases x with y | _ | _ <;> try rfl
        cases y <;> simp only <;> first | rw [cur_ag (Ag.hd h)] | rfl
    · split
      · rfl
      · rcases x with y | _ | _ <;> try rfl
        cases y <;> simp only <;> first | rw [cur_ag (Ag.hd h)] | rfl
    · rfl
  · rfl

theorem sliceF_ag {d : Option Nat} {t : Nat} {x : AV} {lo hi : Option AV} (h : Ag ho ho' (fpA ho x)) : sliceF E d ho t x lo hi = sliceF E d ho' t x lo hi := by
  unfold sliceF
  split
  · rfl
  · split
    · rfl
    · split
      · rfl
      · split
        · rfl
        · rcases x with y | _ | _ <;> try rfl
          cases y <;> simp only <;> first | rw [cur_ag (Ag.hd h)] | rfl
      · split
        · rfl
        · rcases x with y | _ | _ <;> try rfl
          cases y <;> simp only <;> first | rw [cur_ag (Ag.hd h)] | rfl
      · rfl

def appT (E : Env) (d : Option Nat) (ho : HO) (g : GT) (s : AV) (q : Option (List g.den)) : Res := match q with
  | none => none
  | some ys => match s with
    | .c .nil => mk E d ho (some (ys.length < 4294967296)) (.seq g ys) Cell.sl
    | .c (.sl o v) => match cur ho o v with
      | .seq g' xs => match Nat.ble E.nm o with
        | false => none
        | true => if h : g' = g then some (some (xs.length + ys.length < 4294967296), AV.c (.sl o (v + 1)), [(o, v + 1, .seq g ((h ▸ xs) ++ ys))]) else none
      | _ => none
    | _ => none

theorem appT_ag {d : Option Nat} {g : GT} {s : AV} {q : Option (List g.den)} (h : Ag ho ho' (fpA ho s)) (hd : ho (dnat d) = ho' (dnat d)) : appT E d ho g s q = appT E d ho' g s q := by
  unfold appT
  split
  · rfl
  · rcases s with y | _ | _ <;> try rfl
    cases y <;> simp only <;> first | exact mk_ag hd | rw [cur_ag (Ag.hd h)] | rfl

theorem appendF_ag {d : Option Nat} {t t2 : Nat} {s x : AV} (h : Ag ho ho' (fpA ho s)) (hx : Ag ho ho' (fpA ho x)) (hd : ho (dnat d) = ho' (dnat d)) : appendF E d ho t t2 s x = appendF E d ho' t t2 s x := by
  unfold appendF
  split
  · rfl
  · rfl
  · rename_i g _ _
    have tail : ∀ q, appT E d ho g s q = appT E d ho' g s q := fun q => appT_ag h hd
    have hl := listOf_ag (g := g) hx
    rcases x with y | _ | _
    · cases y <;> simp only at hl ⊢ <;> first | (rw [hl]; generalize listOf ho' g _ = q; exact tail q) | (rename_i b; exact tail (if h : GT.u8 = g then some (h ▸ b) else none))
    · simp only at hl ⊢; rw [hl]; generalize listOf ho' g _ = q; exact tail q
    · simp only at hl ⊢; rw [hl]; generalize listOf ho' g _ = q; exact tail q

theorem convF_ag {s t : Nat} {x : AV} (h : Ag ho ho' (fpA ho x)) : convF E ho s t x = convF E ho' s t x := by
  unfold convF
  rw [listOf_ag (g := .u8) h]

theorem readC_ag {c : Cell} (h : Ag ho ho' (fpC ho c)) : readC E ho c = readC E ho' c := by
  cases c <;> simp only [readC] <;> try rw [cur_ag (Ag.hd h)]
  rename_i o v off
  rw [← cur_ag (Ag.hd h)]
  cases hc : cur ho o v with
  | box t cs =>
    have : Ag ho ho' (idsCs cs) := by
      have := Ag.tl h
      rw [hc] at this
      exact this
    simp only [snapCs_ag this]
  | seq g xs => rfl
  | fro g xs => rfl
  | gone => rfl

theorem readCs_ag : ∀ {cs : List Cell}, Ag ho ho' (fpCs ho cs) → readCs E ho cs = readCs E ho' cs := by
  intro cs
  induction cs with
  | nil => intro _; rfl
  | cons c r ih => intro h; simp only [readCs]; rw [readC_ag h.left, ih h.right]

theorem readA_ag {t : Nat} {v : AV} (h : Ag ho ho' (fpA ho v)) : readA E ho t v = readA E ho' t v := by
  rcases v with x | cs | _ <;> simp only [readA]
  · rw [readC_ag h]
  · rw [readCs_ag h]

theorem mutC_ag {M : List (Nat × Nat × AObj)} {c : Cell} (h : Ag ho ho' (fpC ho c)) : mutC ho M c = mutC ho' M c := by
  cases c <;> simp only [mutC] <;> rw [cur_ag (Ag.hd h)]

theorem mutCs_ag : ∀ {cs : List Cell} {M : List (Nat × Nat × AObj)}, Ag ho ho' (fpCs ho cs) → mutCs ho M cs = mutCs ho' M cs := by
  intro cs
  induction cs with
  | nil => intro M _; rfl
  | cons c r ih => intro M h; simp only [mutCs]; rw [mutC_ag h.left]; split; · rw [ih h.right]
                   · rfl

theorem mutA_ag {M : List (Nat × Nat × AObj)} {v : AV} (h : Ag ho ho' (fpA ho v)) : mutA ho M v = mutA ho' M v := by
  rcases v with x | cs | _ <;> simp only [mutA]
  · rw [mutC_ag h]
  · rw [mutCs_ag h]

theorem argsF_ag : ∀ {vs : List AV} {M : List (Nat × Nat × AObj)} {ms : List Bool} {ts : List Nat}, (∀ v ∈ vs, Ag ho ho' (fpA ho v)) → argsF E ho M ms ts vs = argsF E ho' M ms ts vs := by
  intro vs
  induction vs with
  | nil => intro M ms ts _; unfold argsF; rfl
  | cons v r ih =>
    intro M ms ts h
    have h1 := h v List.mem_cons_self
    have h2 : ∀ v ∈ r, Ag ho ho' (fpA ho v) := fun v hv => h v (List.mem_cons_of_mem _ hv)
    cases ts with
    | nil => cases ms <;> simp [argsF]
    | cons t ts =>
      cases ms with
      | nil => simp only [argsF]; rw [readA_ag h1]; split; · rw [ih h2]
               · rfl
      | cons m ms =>
        cases m with
        | true => simp only [argsF]; rw [mutA_ag h1]; split; · rw [ih h2]
                  · rfl
        | false => simp only [argsF]; rw [readA_ag h1]; split; · rw [ih h2]
                   · rfl

variable {d : Nat}

theorem renC_ag {M : List (Nat × Nat × AObj)} (hn : ∀ j, ho (nid d j) = ho' (nid d j)) {c : Cell} : renC ho d M c = renC ho' d M c := by
  cases c <;> simp only [renC, verOf] <;> rw [hn]

theorem renCs_ag {M : List (Nat × Nat × AObj)} (hn : ∀ j, ho (nid d j) = ho' (nid d j)) : ∀ {cs : List Cell}, renCs ho d M cs = renCs ho' d M cs := by
  intro cs
  induction cs with
  | nil => rfl
  | cons c r ih => simp only [renCs]; rw [renC_ag hn, ih]

theorem renT_ag {M : List (Nat × Nat × AObj)} (hn : ∀ j, ho (nid d j) = ho' (nid d j)) : ∀ {vs : List (Bool × List Cell)}, renT ho d M vs = renT ho' d M vs := by
  intro vs
  induction vs with
  | nil => rfl
  | cons c r ih => obtain ⟨a, c⟩ := c; simp only [renT]; rw [renCs_ag hn, ih]

theorem renA_ag {M : List (Nat × Nat × AObj)} (hn : ∀ j, ho (nid d j) = ho' (nid d j)) {v : AV} : renA ho d M v = renA ho' d M v := by
  cases v <;> simp only [renA]
  · rw [renC_ag hn]
  · rw [renCs_ag hn]
  · rw [renT_ag hn]

theorem renO_ag {M : List (Nat × Nat × AObj)} (hn : ∀ j, ho (nid d j) = ho' (nid d j)) {x : AObj} : renO ho d M x = renO ho' d M x := by
  cases x <;> simp only [renO]
  rw [renCs_ag hn]

theorem backM_ag {M0 : List (Nat × Nat × AObj)} (hn : ∀ j, ho (nid d j) = ho' (nid d j)) : ∀ {M : List (Nat × Nat × AObj)} {xs : List AObj}, backM ho d M0 M xs = backM ho' d M0 M xs := by
  intro M
  induction M with
  | nil => intro xs; rfl
  | cons m M ih =>
    intro xs
    obtain ⟨o, v, x⟩ := m
    cases xs with
    | nil => rfl
    | cons y ys => simp only [backM]; rw [ih]; simp only [renO_ag hn]

theorem newM_ag {M0 : List (Nat × Nat × AObj)} (hn : ∀ j, ho (nid d j) = ho' (nid d j)) : ∀ {xs : List AObj} {j : Nat}, newM ho d M0 j xs = newM ho' d M0 j xs := by
  intro xs
  induction xs with
  | nil => intro j; rfl
  | cons y ys ih => intro j; simp only [newM, verOf]; rw [hn, renO_ag hn, ih]

theorem freezeC_ag {c : Cell} (h : Ag ho ho' (fpC ho c)) : freezeC ho c = freezeC ho' c := by
  cases c <;> simp only [freezeC] <;> try rw [cur_ag (Ag.hd h)]
  rename_i o v off
  rw [← cur_ag (Ag.hd h)]
  cases hc : cur ho o v with
  | box t cs =>
    have : Ag ho ho' (idsCs cs) := by
      have := Ag.tl h
      rw [hc] at this
      exact this
    simp only [snapCs_ag this]
  | seq g xs => rfl
  | fro g xs => rfl
  | gone => rfl

theorem freezeCs_ag : ∀ {cs : List Cell}, Ag ho ho' (fpCs ho cs) → freezeCs ho cs = freezeCs ho' cs := by
  intro cs
  induction cs with
  | nil => intro _; rfl
  | cons c r ih => intro h; simp only [freezeCs]; rw [freezeC_ag h.left, ih h.right]

theorem freezeA_ag : ∀ {vs : List AV}, (∀ v ∈ vs, Ag ho ho' (fpA ho v)) → freezeA ho vs = freezeA ho' vs := by
  intro vs
  induction vs with
  | nil => intro _; rfl
  | cons v r ih =>
    intro h
    have h1 := h v List.mem_cons_self
    have h2 := ih fun v hv => h v (List.mem_cons_of_mem _ hv)
    cases v <;> simp only [freezeA] <;> rw [h2]
    · rw [freezeC_ag h1]
    · rw [freezeCs_ag h1]

theorem callF_ag {dd : Option Nat} {f : Nat} {ts : List Nat} {vs : List AV} (h : ∀ v ∈ vs, Ag ho ho' (fpA ho v)) (hn : ∀ j, ho (nid (dnat dd) j) = ho' (nid (dnat dd) j)) : callF E dd ho f ts vs = callF E dd ho' f ts vs := by
  unfold callF
  simp only [argsF_ag h, backM_ag hn, newM_ag hn, freezeA_ag h, renA_ag hn]

theorem mem_evs {ev : Operand → AV} : ∀ {xs : List Operand} {v : AV}, v ∈ evs ev xs → ∃ x ∈ xs, v = ev x := by
  intro xs
  induction xs with
  | nil => intro v h; cases h
  | cons x r ih =>
    intro v h
    rcases List.mem_cons.1 h with h | h
    · exact ⟨x, List.mem_cons_self, h⟩
    · obtain ⟨y, hy, e⟩ := ih h; exact ⟨y, List.mem_cons_of_mem _ hy, e⟩

theorem evs_congr {ev ev' : Operand → AV} : ∀ {xs : List Operand}, (∀ x ∈ xs, ev x = ev' x) → evs ev xs = evs ev' xs := by
  intro xs
  induction xs with
  | nil => intro _; rfl
  | cons x r ih => intro h; simp only [evs]; rw [h x List.mem_cons_self, ih fun y hy => h y (List.mem_cons_of_mem _ hy)]

theorem evParts_congr {ev ev' : Operand → AV} : ∀ {xs : List (Nat × Operand)}, (∀ x ∈ xs, ev x.2 = ev' x.2) → evParts ev xs = evParts ev' xs := by
  intro xs
  induction xs with
  | nil => intro _; rfl
  | cons x r ih => intro h; obtain ⟨i, x⟩ := x; simp only [evParts]; rw [h (i, x) List.mem_cons_self, ih fun y hy => h y (List.mem_cons_of_mem _ hy)]

theorem mem_evParts {ev : Operand → AV} : ∀ {xs : List (Nat × Operand)} {q : Nat × AV}, q ∈ evParts ev xs → ∃ x ∈ xs, q.2 = ev x.2 := by
  intro xs
  induction xs with
  | nil => intro v h; cases h
  | cons x r ih =>
    intro v h
    obtain ⟨i, x⟩ := x
    rcases List.mem_cons.1 h with h | h
    · exact ⟨(i, x), List.mem_cons_self, by rw [h]⟩
    · obtain ⟨y, hy, e⟩ := ih h; exact ⟨y, List.mem_cons_of_mem _ hy, e⟩

/-- Two places that agree upon what an operation looks at: it does the same. -/
theorem stepF_congr {dd : Option Nat} {op : Op} {ev ev' : Operand → AV} (hev : ∀ x ∈ op.operands.toList, ev x = ev' x) (hag : ∀ x ∈ op.operands.toList, Ag ho ho' (fpA ho (ev x)))
    (hn : ∀ j, ho (nid (dnat dd) j) = ho' (nid (dnat dd) j)) : stepF E dd op ev ho = stepF E dd op ev' ho' := by
  have hd : ho (dnat dd) = ho' (dnat dd) := hn 0
  unfold stepF
  split
  · rw [hev _ (by simp [Op.operands])]
  · rw [hev _ (by simp [Op.operands])]
  · rename_i c a b
    rw [hev c (by simp [Op.operands]), hev a (by simp [Op.operands]), hev b (by simp [Op.operands])]
  · split
    · rfl
    · split
      · split
        · exact mk_ag hd
        · rfl
      · exact mk_ag hd
  · rw [hev _ (by simp [Op.operands])]
    split
    · exact mk_ag hd
    · rfl
  · rename_i t ps
    rw [evParts_congr (ev := ev) (ev' := ev') (xs := ps) fun q hq => hev q.2 (by simp [Op.operands]; exact ⟨q.1, hq⟩)]
  · rename_i t n ps
    have he := evParts_congr (ev := ev) (ev' := ev') (xs := ps) fun q hq => hev q.2 (by simp [Op.operands]; exact ⟨q.1, hq⟩)
    split
    · rfl
    · rename_i g _
      rw [elemsF_ag (ho' := ho') (evParts ev ps) 0 (fun q hq => by
        obtain ⟨x, hx, e⟩ := mem_evParts hq
        rw [e]
        exact hag x.2 (by simp [Op.operands]; exact ⟨x.1, hx⟩)), he]
      simp only [verOf, hd]
  · rename_i t a
    rw [loadF_ag (ho' := ho') (hag a (by simp [Op.operands])), hev a (by simp [Op.operands])]
  · rename_i t a x
    rw [storeF_ag (ho' := ho') (hag a (by simp [Op.operands])) (hag x (by simp [Op.operands])), hev a (by simp [Op.operands]), hev x (by simp [Op.operands])]
  · rename_i x
    have h1 := hag x (by simp [Op.operands])
    rw [← hev x (by simp [Op.operands])]
    rcases hx : ev x with y | _ | _ <;> try rfl
    rw [hx] at h1
    cases y <;> simp only <;> first | rw [cur_ag (Ag.hd h1)] | rfl
  · rename_i b t x y _
    rw [hev x (by simp [Op.operands]), hev y (by simp [Op.operands])]
  · rename_i u t x
    rw [hev x (by simp [Op.operands])]
  · rename_i s t x
    rw [convF_ag (ho' := ho') (hag x (by simp [Op.operands])), hev x (by simp [Op.operands])]
  · rfl
  · rename_i t l c
    rw [hev l (by simp [Op.operands]), hev c (by simp [Op.operands])]
    split
    · rfl
    · split
      · exact mk_ag hd
      · rfl
  · rename_i t x lo hi
    have e1 : optE ev lo = optE ev' lo := by
      cases lo with
      | none => rfl
      | some y => simp only [optE]; rw [hev y (by simp [Op.operands])]
    have e2 : optE ev hi = optE ev' hi := by
      cases hi with
      | none => rfl
      | some y => simp only [optE]; rw [hev y (by simp [Op.operands])]
    rw [sliceF_ag (ho' := ho') (hag x (by simp [Op.operands])), hev x (by simp [Op.operands]), e1, e2]
  · rename_i s x f
    have h1 := hag x (by simp [Op.operands])
    rw [← hev x (by simp [Op.operands])]
    split
    · split
      · split
        · rfl
        · split
          · rfl
          · rcases hx : ev x with y | _ | _ <;> try rfl
            rw [hx] at h1
            cases y <;> simp only <;> first | rw [cur_ag (Ag.hd h1)] | rfl
      · rfl
    · rfl
  · rename_i s x f
    rw [hev x (by simp [Op.operands])]
  · rename_i t x i
    rw [indexF_ag (ho' := ho') (hag x (by simp [Op.operands])), hev x (by simp [Op.operands]), hev i (by simp [Op.operands])]
  · rename_i t x i
    rw [hev x (by simp [Op.operands]), hev i (by simp [Op.operands])]
  · rename_i t i
    rw [hev t (by simp [Op.operands])]
  · rename_i x t
    rw [lenOf_ag (ho' := ho') (hag x (by simp [Op.operands, Call.operands])), hev x (by simp [Op.operands, Call.operands])]
  · rename_i s x t t2
    rw [appendF_ag (ho' := ho') (hag s (by simp [Op.operands, Call.operands])) (hag x (by simp [Op.operands, Call.operands])) hd, hev s (by simp [Op.operands, Call.operands]), hev x (by simp [Op.operands, Call.operands])]
  · rename_i x y _
    rw [hev x (by simp [Op.operands, Call.operands]), hev y (by simp [Op.operands, Call.operands])]
  · rename_i x y _
    rw [hev x (by simp [Op.operands, Call.operands]), hev y (by simp [Op.operands, Call.operands])]
  · rename_i f xs ts
    rw [callF_ag (ho' := ho') (fun v hv => by
      obtain ⟨x, hx, e⟩ := mem_evs hv
      rw [e]
      exact hag x (by simp [Op.operands, Call.operands]; exact .inr hx)) hn, evs_congr fun x hx => hev x (by simp [Op.operands, Call.operands]; exact .inr hx)]
  · rename_i t xs ts
    rw [← hev (.tmp t) (by simp [Op.operands, Call.operands])]
    split
    · rw [callF_ag (ho' := ho') (fun v hv => by
        obtain ⟨x, hx, e⟩ := mem_evs hv
        rw [e]
        exact hag x (by simp [Op.operands, Call.operands]; exact .inr hx)) hn, evs_congr fun x hx => hev x (by simp [Op.operands, Call.operands]; exact .inr hx)]
    · rfl
  · rfl

end
end GV

/-
  Memory: new objects and stores. No condition beyond those named.
-/
import Derived.Test.YtlifofjaiigogaaVE
namespace GV
open Go
set_option linter.unusedSimpArgs false
set_option linter.unusedVariables false

theorem zles_get : ∀ {zs : List Z} {cs : List Cell}, zles zs cs = true → zs.length = cs.length ∧ ∀ (k : Nat) (z : Z) (c : Cell), zs[k]? = some z → cs[k]? = some c → zle z c = true := by
  intro zs
  induction zs with
  | nil => intro cs h; cases cs with | nil => exact ⟨rfl, fun k z c h => by simp at h⟩ | cons _ _ => simp [zles] at h
  | cons a r ih =>
    intro cs h
    cases cs with
    | nil => simp [zles] at h
    | cons b s =>
      simp only [zles] at h
      split at h
      · rename_i hab
        obtain ⟨h1, h2⟩ := ih h
        refine ⟨by simp [h1], fun k z c hz hc => ?_⟩
        cases k with
        | zero => simp at hz hc; subst hz; subst hc; exact hab
        | succ k => simp at hz hc; exact h2 k z c hz hc
      · cases h

theorem zle_pr {w : World} {A : Nat → Prop} {z : Z} {c : Cell} {v : Value} (h : zle z c = true) (hz : ZR z v) : PR w A c v := by
  unfold zle at h
  split at h
  · split at h
    · rename_i hk
      obtain rfl := kindEq_true hk
      have h := of_decide_eq_true h
      subst h
      obtain rfl : v = .int _ _ := hz
      exact .int _ _
    · cases h
  · split at h
    · obtain rfl : v = .bool _ := hz; exact .bool _ _
    · obtain rfl : v = .bool _ := hz; exact .bool _ _
    · cases h
  · obtain rfl : v = .string _ := hz; exact .str _
  · obtain rfl : v = .slice none 0 0 := hz; exact .none _ none
  · cases h

theorem ZR.cell {R : Cell → Value → Prop} (hb : ∀ l b, R (.bool l b) (.bool b)) (hi : ∀ k n, R (.int k n) (.int k n)) (hs : ∀ s, R (.str s) (.string ⟨⟨s⟩⟩)) (hn : R .nil (.slice none 0 0))
    (hu : ∀ v, R .und v) {z : Z} {v : Value} (h : ZR z v) : R z.cell v := by
  cases z with
  | int k n => obtain rfl : v = .int k n := h; exact hi _ _
  | bool b => obtain rfl : v = .bool b := h; exact hb _ _
  | str => obtain rfl : v = .string ⟨⟨[]⟩⟩ := h; exact hs _
  | nil => obtain rfl : v = .slice none 0 0 := h; exact hn
  | other => exact hu _

theorem zcells_get : ∀ (zs : List Z) (k : Nat), (zcells zs)[k]? = (zs[k]?).map Z.cell := by
  intro zs
  induction zs with
  | nil => intro k; simp [zcells]
  | cons a r ih => intro k; cases k with | zero => simp [zcells] | succ k => simp [zcells, ih]

theorem zcells_length (zs : List Z) : (zcells zs).length = zs.length := by
  induction zs with
  | nil => rfl
  | cons a r ih => simp [zcells, ih]

/-- A world with one more row of cells. -/
structure Grew (w w' : World) (ccs : Array Value) (t : TypeId) : Prop where
  size : w'.heap.size = w.heap.size + 1
  old : ∀ b, b < w.heap.size → w'.heap[b]? = w.heap[b]?
  new : w'.heap[w.heap.size]? = some (.cells ccs t (0, 0))
  os : w'.os = w.os
  tape : w'.tape = w.tape
  output : w'.output = w.output

theorem grew_alloc (w : World) (ccs : Array Value) (t : TypeId) : Grew w (w.alloc (.cells ccs t)) ccs t :=
  ⟨by simp, fun b hb => heap_alloc_old w _ b hb, heap_alloc_new w _, rfl, rfl, rfl⟩

theorem grew_drew (w : World) (ccs : Array Value) (t : TypeId) : Grew w (w.drew.alloc (.cells ccs t)) ccs t :=
  ⟨by simp, fun b hb => heap_alloc_old w.drew _ b hb, heap_alloc_new w.drew _, rfl, rfl, rfl⟩

section
variable {c : Ctx} {E : Env} {w w' : World} {O : Objs} {ρ : Nat → Value}

theorem notUnd_one {x : Cell} {v : Value} (h : CellR w c.X O ρ x v) (hx : notUnd x = true) : v.oneCell' = true := by
  cases x with
  | int k n => obtain rfl : v = .int k n := h; rfl
  | bool l b => obtain rfl : v = .bool b := h; rfl
  | str s => obtain rfl : v = .string ⟨⟨s⟩⟩ := h; rfl
  | nil => obtain rfl : v = .slice none 0 0 := h; rfl
  | im g xs => cases (show PR w _ (.im g xs) v from h) <;> rfl
  | sl o k => exact h.1.2
  | ptr o k off => exact h.1.2
  | aptr o k => exact h.1.2
  | eptr o k i off => exact h.1.2
  | vptr g x off => obtain ⟨b, p, f, rfl, _⟩ := h; rfl
  | fn f => obtain rfl : v = .func (.func f) #[] #[] := h; rfl
  | und => cases hx

theorem allC_mem {cs : List Cell} (h : allC cs = true) : ∀ c ∈ cs, notUnd c = true := by
  induction cs with
  | nil => simp
  | cons a r ih =>
    unfold allC at h
    split at h
    · rename_i ha
      intro c hc
      rcases List.mem_cons.1 hc with rfl | hc
      · exact ha
      · exact ih h c hc
    · cases h

theorem one_cells {v : Value} (h : v.oneCell' = true) : v.cells = #[v] := by cases v <;> first | rfl | (cases h)

/-- The cells of a value. -/
theorem cellsOf_ok {x : AV} {v : Value} {cs : List Cell} (h : cellsOf x = some cs) (hx : AR (CellR w c.X O ρ) x v) :
    CsR (CellR w c.X O ρ) cs v.cells.toList ∧ ∀ u ∈ v.cells.toList, u.oneCell' = true := by
  unfold cellsOf at h
  split at h
  · cases h
  · rename_i y hy
    simp only [Option.some.injEq] at h
    subst h
    have hn : notUnd y = true := by cases y <;> first | rfl | exact absurd rfl hy
    have h1 := notUnd_one hx hn
    rw [one_cells h1]
    refine ⟨⟨rfl, fun k cc u h1 h2 => ?_⟩, fun u hu => ?_⟩
    · cases k with
      | zero => simp at h1 h2; subst h1; subst h2; exact hx
      | succ k => simp at h1
    · simp at hu; subst hu; exact h1
  · rename_i ds
    split at h
    · rename_i ha
      simp only [Option.some.injEq] at h
      subst h
      obtain ⟨vs, rfl, hr⟩ := hx
      refine ⟨hr, fun u hu => ?_⟩
      obtain ⟨k, hk⟩ := List.mem_iff_getElem?.1 hu
      have hlt : k < ds.length := by rw [hr.1]; exact (List.getElem?_eq_some_iff.1 hk).1
      exact notUnd_one (hr.2 k _ u (List.getElem?_eq_getElem hlt) hk) (allC_mem ha _ (List.getElem_mem ..))
    · cases h
  · cases h

/-- A new object of the function's own. -/
theorem new_obj (H : HRel c w O ρ) {d : Nat} (hd : c.nm ≤ d) {ccs : Array Value} {t : TypeId} (hg : Grew w w' ccs t) (x : AObj) (h : Value) (hh : blk h = some w.heap.size)
    (hob : (∀ y u, CellR w c.X O ρ y u → CellR w' c.X (setO O d ((getO O d).1 + 1) x) (upd ρ d h) y u) →
      (∀ y u, PR w (Av c.X O ρ) y u → PR w' (Av c.X (setO O d ((getO O d).1 + 1) x) (upd ρ d h)) y u) →
      ObR w' c.X (setO O d ((getO O d).1 + 1) x) (upd ρ d h) x h) :
    HRel c w' (setO O d ((getO O d).1 + 1) x) (upd ρ d h) ∧ ∀ y u, CellR w c.X O ρ y u → CellR w' c.X (setO O d ((getO O d).1 + 1) x) (upd ρ d h) y u := by
  have hb : ∀ b, ownOf x h = some b → b = w.heap.size := by
    intro b hb
    cases x <;> simp only [ownOf] at hb <;> first | (rw [hh] at hb; exact (Option.some.inj hb).symm) | cases hb
  refine hrel_set H d _ x h (.inl (Nat.lt_succ_self _)) (fun b hb _ => hg.old b hb) (fun b h' => .inr ⟨Nat.le_of_eq (hb b h').symm, hd⟩) (fun h' _ => absurd h' (by omega)) (fun hk => hob hk ?_)
    (by rw [hg.size]; exact Nat.le_succ _) hg.os hg.tape hg.output
  intro y u hy
  refine hy.mono (fun b hb' _ => hg.old b hb') (fun b hlt hA => ?_)
  rcases hA with hA | ⟨o, ho⟩
  · exact .inl hA
  · by_cases e : o = d
    · subst e; rw [own_set_same] at ho; have := hb b ho; omega
    · rw [own_set_other _ _ _ e] at ho; exact .inr ⟨o, ho⟩

theorem new_box (H : HRel c w O ρ) {d : Nat} (hd : c.nm ≤ d) {ccs : Array Value} {t : TypeId} (hg : Grew w w' ccs t) (bt : Nat) (cs : List Cell) (hr : CsR (CellR w c.X O ρ) cs ccs.toList) :
    Post c w O ρ [(d, (getO O d).1 + 1, .box bt cs)] (.c (.ptr d ((getO O d).1 + 1) 0)) (.pointer (some ⟨w.heap.size, 0, none⟩)) w' := by
  obtain ⟨h1, h2⟩ := new_obj H hd hg (.box bt cs) (.pointer (some ⟨w.heap.size, 0, none⟩)) rfl (fun hk _ => ⟨w.heap.size, ccs, t, rfl, hg.new, hr.mono hk⟩)
  refine ⟨_, h1, h2, ?_⟩
  simp only [AR, CellR, setOs, getO_setO_same, upd_same]
  exact ⟨⟨Nat.le_refl _, rfl⟩, fun _ => ⟨_, rfl, rfl⟩⟩

theorem new_seq (H : HRel c w O ρ) {d : Nat} (hd : c.nm ≤ d) {ccs : Array Value} {t : TypeId} (hg : Grew w w' ccs t) (g : GT) (xs : List g.den) (cap : Nat) (hcap : xs.length ≤ cap) (hmax : cap ≤ maxLen)
    (hsz : ccs.size = cap * gsize g) (hr : ∀ (k : Nat) (cc : Cell) (v : Value), (flat g xs)[k]? = some cc → ccs[k]? = some v → PR w (Av c.X O ρ) cc v) :
    Post c w O ρ [(d, (getO O d).1 + 1, .seq g xs)] (.c (.sl d ((getO O d).1 + 1))) (.slice (some ⟨w.heap.size, 0, none⟩) xs.length cap) w' := by
  obtain ⟨h1, h2⟩ := new_obj H hd hg (.seq g xs) (.slice (some ⟨w.heap.size, 0, none⟩) xs.length cap) rfl
    (fun _ hp => .inr ⟨w.heap.size, cap, ccs, t, rfl, hcap, hmax, hg.new, hsz, fun k cc v a b => hp _ _ (hr k cc v a b)⟩)
  refine ⟨_, h1, h2, ?_⟩
  simp only [AR, CellR, setOs, getO_setO_same, upd_same]
  exact ⟨⟨Nat.le_refl _, rfl⟩, fun _ => trivial⟩

theorem new_arr (H : HRel c w O ρ) {d : Nat} (hd : c.nm ≤ d) {ccs : Array Value} {t : TypeId} (hg : Grew w w' ccs t) (g : GT) (xs : List g.den) (hmax : xs.length ≤ maxLen)
    (hsz : ccs.size = xs.length * gsize g) (hr : ∀ (k : Nat) (cc : Cell) (v : Value), (flat g xs)[k]? = some cc → ccs[k]? = some v → PR w (Av c.X O ρ) cc v) :
    Post c w O ρ [(d, (getO O d).1 + 1, .seq g xs)] (.c (.aptr d ((getO O d).1 + 1))) (.pointer (some ⟨w.heap.size, 0, none⟩)) w' := by
  obtain ⟨h1, h2⟩ := new_obj H hd hg (.seq g xs) (.slice (some ⟨w.heap.size, 0, none⟩) xs.length xs.length) rfl
    (fun _ hp => .inr ⟨w.heap.size, xs.length, ccs, t, rfl, Nat.le_refl _, hmax, hg.new, hsz, fun k cc v a b => hp _ _ (hr k cc v a b)⟩)
  refine ⟨_, h1, h2, ?_⟩
  simp only [AR, CellR, setOs, getO_setO_same, upd_same]
  exact ⟨⟨Nat.le_refl _, rfl⟩, fun _ => ⟨_, rfl, rfl⟩⟩

/-! ### stores -/

theorem updC_length : ∀ (cs : List Cell) (i : Nat) (ns : List Cell), i + ns.length ≤ cs.length → (updC cs i ns).length = cs.length := by
  intro cs
  induction cs with
  | nil => intro i ns h; cases ns with | nil => rfl | cons _ _ => simp at h
  | cons a r ih =>
    intro i ns h
    cases ns with
    | nil => simp [updC]
    | cons n ns =>
      cases i with
      | zero => simp only [updC, List.length_cons]; rw [ih 0 ns (by simp at h ⊢; omega)]
      | succ i => simp only [updC, List.length_cons]; rw [ih i (n :: ns) (by simp at h ⊢; omega)]

theorem updC_get : ∀ (cs : List Cell) (i : Nat) (ns : List Cell) (k : Nat), i + ns.length ≤ cs.length →
    (updC cs i ns)[k]? = if i ≤ k ∧ k < i + ns.length then ns[k - i]? else cs[k]? := by
  intro cs
  induction cs with
  | nil => intro i ns k h; cases ns with | nil => simp [updC] | cons _ _ => simp at h
  | cons a r ih =>
    intro i ns k h
    cases ns with
    | nil => simp [updC]; omega
    | cons n ns =>
      cases i with
      | zero =>
        cases k with
        | zero => simp [updC]
        | succ k =>
          simp only [updC, List.getElem?_cons_succ]
          rw [ih 0 ns k (by simp at h ⊢; omega)]
          simp
      | succ i =>
        cases k with
        | zero => simp [updC]
        | succ k =>
          simp only [updC, List.getElem?_cons_succ]
          rw [ih i (n :: ns) k (by simp at h ⊢; omega)]
          simp only [List.length_cons, Nat.add_le_add_iff_right, Nat.succ_sub_succ]
          congr 1
          apply propext; constructor <;> intro ⟨a, b⟩ <;> constructor <;> omega

/-- cells of a row with others in their place -/
def put (ccs : Array Value) (o : Nat) (vs : List Value) : Array Value := (ccs.toList.take o ++ vs ++ ccs.toList.drop (o + vs.length)).toArray

theorem put_size {ccs : Array Value} {o : Nat} {vs : List Value} (h : o + vs.length ≤ ccs.size) : (put ccs o vs).size = ccs.size := by
  simp [put]; omega

theorem put_get {ccs : Array Value} {o : Nat} {vs : List Value} (h : o + vs.length ≤ ccs.size) (k : Nat) :
    (put ccs o vs)[k]? = if o ≤ k ∧ k < o + vs.length then vs[k - o]? else ccs[k]? := by
  have hmin : min o ccs.size = o := by omega
  simp only [put, List.getElem?_toArray, List.append_assoc, List.getElem?_append, List.length_take, Array.length_toList, hmin, List.getElem?_take, List.getElem?_drop]
  by_cases h1 : k < o
  · have : ¬ (o ≤ k ∧ k < o + vs.length) := by omega
    simp [h1, this]
  · by_cases h2 : k - o < vs.length
    · have : o ≤ k ∧ k < o + vs.length := by omega
      simp [h1, h2, this]
    · have : ¬ (o ≤ k ∧ k < o + vs.length) := by omega
      simp only [h1, h2, this, if_false]
      rw [Array.getElem?_toList]
      congr 1; omega

theorem run_storeVar {P : Program} {t : Nat} {ti : TI} (ht : TIok P t ti) {v : Value} (hv : v.cells.size = ti.size) (h1 : ∀ u ∈ v.cells.toList, u.oneCell' = true) {b o : Nat} {ccs : Array Value} {bt : TypeId}
    (hg : w.heap[b]? = some (.cells ccs bt (0, 0))) (hfit : o + ti.size ≤ ccs.size) :
    (storeVar t ⟨b, o, none⟩ v).run P w = .ok () (w.setRow b (put ccs o v.cells.toList)) := by
  have := run_storeCells_at P b o bt v.cells.toList 0 ccs w hg (by simpa [hv] using hfit) h1
  simp only [Nat.add_zero] at this
  simp [storeVar, ht.sizeOf, hv, this, put]

theorem setRow_frame {b : Nat} {ccs new : Array Value} {t : TypeId} (hg : w.heap[b]? = some (.cells ccs t (0, 0))) :
    (w.setRow b new).heap[b]? = some (.cells new t (0, 0)) ∧ (∀ b', b' ≠ b → (w.setRow b new).heap[b']? = w.heap[b']?) ∧ (w.setRow b new).heap.size = w.heap.size :=
  ⟨setRow_heap w b ccs new t (0, 0) hg, fun b' h => setRow_other w b b' new h, by simp⟩

end
end GV

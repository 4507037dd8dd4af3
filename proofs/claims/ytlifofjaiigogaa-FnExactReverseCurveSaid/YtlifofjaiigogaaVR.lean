/-
  Every operation that the interpreter takes does in the model what it says. No condition beyond those named.
-/
import Derived.Test.YtlifofjaiigogaaVQ
namespace GV
open Go
set_option linter.unusedSimpArgs false
set_option linter.unusedVariables false

/-- What is known of a program: its types, its functions' contracts. -/
structure EOk (c : Ctx) (E : Env) : Prop where
  tab : TabOk c.P E.tab
  eqs : EqsOk c.P E
  con : ∀ f C, E.con f = some C → COk c.P f C
  nm : E.nm = c.nm
  nt : E.nt = c.nt
  mix : c.P.follows .mixedOrders = true

section
variable {c : Ctx} {E : Env} {w w' : World} {O : Objs} {ρ : Nat → Value}

theorem Post.pure (H : HRel c w O ρ) {v : AV} {cv : Value} (h : AR (CellR w c.X O ρ) v cv) : Post c w O ρ [] v cv w := ⟨ρ, H, fun _ _ h => h, h⟩

theorem evs_get {ev : Operand → AV} : ∀ (xs : List Operand) (k : Nat), (evs ev xs)[k]? = (xs[k]?).map ev := by
  intro xs
  induction xs with
  | nil => intro k; simp [evs]
  | cons a r ih => intro k; cases k with | zero => simp [evs] | succ k => simp [evs, ih]

theorem evs_length {ev : Operand → AV} (xs : List Operand) : (evs ev xs).length = xs.length := by
  induction xs with
  | nil => rfl
  | cons a r ih => simp [evs, ih]

def Does (c : Ctx) (w : World) (O : Objs) (ρ : Nat → Value) (us : Ups) (v : AV) (r : Result Next) : Prop :=
  (∃ cv w', r = .ok (.value cv) w' ∧ Post c w O ρ us v cv w') ∨ (∃ w', r = .ok .skip w' ∧ ∀ cv, Post c w O ρ us v cv w') ∨
  (∃ f xs, r = .ok (.enter f xs) w ∧ Calls c.P f xs w fun e w' => ∃ cv, e = .returned cv ∧ Post c w O ρ us v cv w')

theorem Does.val {us : Ups} {v : AV} {s : Sem Value} {cv : Value} (hr : s.run c.P w = .ok cv w') (hp : Post c w O ρ us v cv w') {r : Result Next} (he : r = (do pure (.value (← s)) : Sem Next).run c.P w) : Does c w O ρ us v r :=
  .inl ⟨cv, w', by rw [he]; simp [hr], hp⟩

theorem enter_run {P : Program} {f : Nat} {fn : Func} (h1 : P.funcs[f]? = some fn) (h2 : fn.body.isNone = false) (h3 : (fn.name == "runtime.NumGoroutine") = false) (xs : Array Value) :
    (callFunc f xs).run P w = .ok (.enter f xs) w := by
  have h4 : ¬ (fn.name = "runtime.NumGoroutine") := by simpa using h3
  have h5 : fn.body ≠ none := by intro e; rw [e] at h2; cases h2
  simp [callFunc, h1, h4, h5]

theorem execOp_ok (hE : EOk c E) (H : HRel c w O ρ) {T : Tmps} {a : Act} (hT : ∀ t, AR (CellR w c.X O ρ) (getT T t) (a.tmps.getD t undef)) {o : Oper} {p : Option Prop} {v : AV} {us : Ups}
    (h : stepF E o.dst o.op (evO T) (getO O) = some (p, v, us)) (hok : pOk p) : Does c w O ρ us v ((execOp a.eval o).run c.P w) := by
  have hev := fun x => evO_rel (c := c) hT x
  obtain ⟨dst, op, ty, pos, after, guard⟩ := o
  simp only at h
  unfold stepF at h
  split at h
  · -- move
    rename_i x
    simp only [Option.some.injEq, Prod.mk.injEq] at h
    obtain ⟨rfl, rfl, rfl⟩ := h
    exact .inl ⟨_, _, rfl, Post.pure H (hev x)⟩
  · -- assign
    rename_i x
    simp only [Option.some.injEq, Prod.mk.injEq] at h
    obtain ⟨rfl, rfl, rfl⟩ := h
    exact .inl ⟨_, _, rfl, Post.pure H (hev x)⟩
  · -- pick
    rename_i x y z
    have hx := hev x
    split at h
    · rename_i e
      simp only [Option.some.injEq, Prod.mk.injEq] at h
      obtain ⟨rfl, rfl, rfl⟩ := h
      rw [e] at hx
      have hx : a.eval x = .bool true := hx
      exact .inl ⟨a.eval y, w, by simp [execOp, hx, asBool], Post.pure H (hev y)⟩
    · rename_i e
      simp only [Option.some.injEq, Prod.mk.injEq] at h
      obtain ⟨rfl, rfl, rfl⟩ := h
      rw [e] at hx
      have hx : a.eval x = .bool false := hx
      exact .inl ⟨a.eval z, w, by simp [execOp, hx, asBool], Post.pure H (hev z)⟩
    · rename_i q e
      rw [e] at hx
      have hx : a.eval x = .bool q := hx
      have hy := hev y
      have hz := hev z
      split at h
      · rename_i l1 q1 l2 q2 e1 e2
        simp only [Option.some.injEq, Prod.mk.injEq] at h
        obtain ⟨rfl, rfl, rfl⟩ := h
        rw [e1] at hy
        rw [e2] at hz
        have hy : a.eval y = .bool q1 := hy
        have hz : a.eval z = .bool q2 := hz
        exact .inl ⟨.bool (if q then q1 else q2), w, by cases q <;> simp [execOp, hx, hy, hz, asBool], Post.pure H rfl⟩
      · simp only [Option.some.injEq, Prod.mk.injEq] at h
        obtain ⟨rfl, rfl, rfl⟩ := h
        have hq : q = true := hok
        subst hq
        exact .inl ⟨a.eval y, w, by simp [execOp, hx, asBool], Post.pure H hy⟩
      · simp only [Option.some.injEq, Prod.mk.injEq] at h
        obtain ⟨rfl, rfl, rfl⟩ := h
        have hq : q = true := hok
        subst hq
        exact .inl ⟨a.eval y, w, by simp [execOp, hx, asBool], Post.pure H hy⟩
      · simp only [Option.some.injEq, Prod.mk.injEq] at h
        obtain ⟨rfl, rfl, rfl⟩ := h
        have hq : q = false := hok
        subst hq
        exact .inl ⟨a.eval z, w, by simp [execOp, hx, asBool], Post.pure H hz⟩
      · simp only [Option.some.injEq, Prod.mk.injEq] at h
        obtain ⟨rfl, rfl, rfl⟩ := h
        have hq : q = false := hok
        subst hq
        exact .inl ⟨a.eval z, w, by simp [execOp, hx, asBool], Post.pure H hz⟩
      · cases h
    · cases h
  · -- alloc
    rename_i t
    split at h
    · cases h
    rename_i ti hti
    split at h
    · rename_i n e hk
      split at h
      · rename_i g hg
        have hz : zles ti.zero (flat g (List.replicate n (dflt g))) = true := by
          split at hg
          · split at hg
            · rename_i hz; cases hg; exact hz
            · cases hg
          · cases hg
        obtain ⟨cv, w', h1, h2⟩ := allocArr_ok hE.tab hE.nm H hti hz h hok
        exact .inl ⟨cv, w', by simp [execOp, h1], h2⟩
      · cases h
    · obtain ⟨cv, w', h1, h2⟩ := alloc_ok hE.tab hE.nm H hti h
      exact .inl ⟨cv, w', by simp [execOp, h1], h2⟩
  · -- box
    rename_i t x
    split at h
    · rename_i cs hcs
      obtain ⟨cv, w', h1, h2⟩ := box_ok hE.nm H (hev x) hcs h
      exact .inl ⟨cv, w', by simp [execOp, h1], h2⟩
    · cases h
  · -- build
    rename_i t ps
    split at h
    · rename_i hti
      split at h
      · rename_i hall
        split at h
        · rename_i cs hcs
          simp only [Option.some.injEq, Prod.mk.injEq] at h
          obtain ⟨rfl, rfl, rfl⟩ := h
          obtain ⟨cv, h1, h2⟩ := build_ok hE.tab hti (allT_ok hall) hev hcs
          exact .inl ⟨cv, w, by simp only [execOp, Sem.run_bind, h1, Result.andThen_ok, Sem.run_pure], Post.pure H h2⟩
        · cases h
      · cases h
    · cases h
  · -- buildSlice
    rename_i t n ps
    split at h
    · cases h
    rename_i g hg
    split at h
    · cases h
    rename_i hn
    split at h
    · cases h
    rename_i xs q us' hel
    split at h
    · rename_i hchk
      simp only [Option.some.injEq, Prod.mk.injEq] at h
      obtain ⟨rfl, rfl, rfl⟩ := h
      split at hchk
      · rename_i hd
        split at hchk
        · rename_i hs
          have hs := Nat.le_of_ble_eq_true hs
          obtain ⟨cv, w', h1, h2⟩ := buildSlice_ok hE.tab hE.nm H hg (Nat.eq_of_beq_eq_true hn) hev hel hok (by rw [← hE.nm]; exact Nat.le_of_ble_eq_true hd) (by omega) (freeOf_mem hchk)
          exact .inl ⟨cv, w', by simp only [execOp, Sem.run_bind, h1, Result.andThen_ok, Sem.run_pure], h2⟩
        · cases hchk
      · cases hchk
    · cases h
  · -- load
    rename_i t x
    obtain ⟨rfl, cv, h1, h2⟩ := loadF_ok hE.tab H (hev x) h
    exact .inl ⟨cv, w, by simp [execOp, h1], Post.pure H h2⟩
  · -- store
    rename_i t x y
    obtain ⟨w', h1, h2⟩ := storeF_ok hE.tab H (hev x) (hev y) h hok
    exact .inr (.inl ⟨w', by simp [execOp, h1], h2⟩)
  · -- nilCheck
    rename_i x
    have hx := hev x
    split at h
    · rename_i o ver off e
      split at h
      · rename_i bt cs hcur
        simp only [Option.some.injEq, Prod.mk.injEq] at h
        obtain ⟨rfl, rfl, rfl⟩ := h
        rw [e] at hx
        have ho := cur_eq hcur (by simp)
        obtain ⟨h1, h2⟩ := hx
        have h3 := h2 (by rw [ho])
        rw [ho] at h3
        obtain ⟨b, _, hv⟩ := h3
        exact .inl ⟨a.eval x, w, by simp [execOp, hv], Post.pure H ⟨h1, h2⟩⟩
      · cases h
    · rename_i o ver e
      split at h
      · rename_i g xs hcur
        simp only [Option.some.injEq, Prod.mk.injEq] at h
        obtain ⟨rfl, rfl, rfl⟩ := h
        rw [e] at hx
        have ho := cur_eq hcur (by simp)
        obtain ⟨h1, h2⟩ := hx
        have h3 := h2 (by rw [ho])
        rw [ho] at h3
        obtain ⟨b, _, hv⟩ := h3
        exact .inl ⟨a.eval x, w, by simp [execOp, hv], Post.pure H ⟨h1, h2⟩⟩
      · cases h
    · rename_i o ver i off e
      split at h
      · rename_i g xs hcur
        simp only [Option.some.injEq, Prod.mk.injEq] at h
        obtain ⟨rfl, rfl, rfl⟩ := h
        rw [e] at hx
        have ho := cur_eq hcur (by simp)
        obtain ⟨h1, h2⟩ := hx
        have h3 := h2 (by rw [ho])
        rw [ho] at h3
        obtain ⟨b, n, cap, _, _, _, hv⟩ := h3
        exact .inl ⟨a.eval x, w, by simp [execOp, hv], Post.pure H ⟨h1, h2⟩⟩
      · cases h
    · rename_i g y off e
      simp only [Option.some.injEq, Prod.mk.injEq] at h
      obtain ⟨rfl, rfl, rfl⟩ := h
      rw [e] at hx
      have hx' := hx
      obtain ⟨b, q, f, hv, _⟩ := hx'
      exact .inl ⟨a.eval x, w, by simp [execOp, hv], Post.pure H hx⟩
    · rename_i f e
      simp only [Option.some.injEq, Prod.mk.injEq] at h
      obtain ⟨rfl, rfl, rfl⟩ := h
      rw [e] at hx
      have hv : a.eval x = .func (.func f) #[] #[] := hx
      exact .inl ⟨a.eval x, w, by simp [execOp, hv], Post.pure H hx⟩
    · cases h
  · -- binOp
    rename_i b t x y yt
    split at h
    · rename_i q u hb
      simp only [Option.some.injEq, Prod.mk.injEq] at h
      obtain ⟨rfl, rfl, rfl⟩ := h
      obtain ⟨cv, h1, h2⟩ := binF_ok (ox := x) (oy := y) hE.tab hE.eqs (hev x) (hev y) hb hok
      refine .inl ⟨cv, w, ?_, Post.pure H h2⟩
      simp only [execOp]
      rw [Sem.run_bind, h1]
      rfl
    · cases h
  · -- unOp
    rename_i u t x
    split at h
    · rename_i y hy
      simp only [Option.some.injEq, Prod.mk.injEq] at h
      obtain ⟨rfl, rfl, rfl⟩ := h
      obtain ⟨cv, h1, h2⟩ := unF_ok (hev x) hy
      exact .inl ⟨cv, w, by simp [execOp, h1], Post.pure H h2⟩
    · cases h
  · -- convert
    rename_i s t x
    obtain ⟨rfl, cv, h1, h2⟩ := convF_ok hE.tab H (hev x) h
    exact .inl ⟨cv, w, by simp [execOp, h1], Post.pure H h2⟩
  · -- makeFunc
    rename_i f
    simp only [Option.some.injEq, Prod.mk.injEq] at h
    obtain ⟨rfl, rfl, rfl⟩ := h
    exact .inl ⟨.func (.func f) #[] #[], w, by simp [execOp, Instr.makeFunc], Post.pure H rfl⟩
  · -- makeSlice
    rename_i t l m
    split at h
    · cases h
    rename_i g hg
    have hl := hev l
    have hm := hev m
    split at h
    · rename_i kl nl km nm e1 e2
      rw [e1] at hl
      rw [e2] at hm
      have hl : a.eval l = .int kl nl := hl
      have hm : a.eval m = .int km nm := hm
      obtain ⟨cv, w', h1, h2⟩ := make_ok (kl := kl) (kc := km) hE.tab hE.nm H hg h hok
      exact .inl ⟨cv, w', by simp [execOp, hl, hm, h1], h2⟩
    · cases h
  · -- slice
    rename_i t x lo hi
    obtain ⟨cv, h1, h2⟩ := sliceF_ok (olo := optE (evO T) lo) (ohi := optE (evO T) hi) (vlo := lo.map a.eval) (vhi := hi.map a.eval) hE.tab hE.nm H (hev x)
      ⟨fun y hy => by cases lo with | none => cases hy | some z => cases hy; exact ⟨_, rfl, hev z⟩, fun hy => by cases lo with | none => rfl | some z => cases hy⟩
      ⟨fun y hy => by cases hi with | none => cases hy | some z => cases hy; exact ⟨_, rfl, hev z⟩, fun hy => by cases hi with | none => rfl | some z => cases hy⟩ h hok
    exact .inl ⟨cv, w, by simp [execOp, h1], h2⟩
  · -- fieldAddr
    rename_i s x f
    have hx := hev x
    split at h
    · rename_i hti
      split at h
      · rename_i fo ft hf
        split at h
        · cases h
        rename_i fi hfi
        split at h
        · cases h
        rename_i h0
        have h0 : fi.size ≠ 0 := by intro e; rw [e] at h0; cases h0
        have hfa := fieldAddr_ok (w := w) hE.tab hti hf hfi h0
        split at h
        · rename_i o ver off e
          split at h
          · rename_i bt cs hcur
            simp only [Option.some.injEq, Prod.mk.injEq] at h
            obtain ⟨rfl, rfl, rfl⟩ := h
            rw [e] at hx
            have ho := cur_eq hcur (by simp)
            obtain ⟨h1, h2⟩ := hx
            have h3 := h2 (by rw [ho])
            rw [ho] at h3
            obtain ⟨b, hρ, hv⟩ := h3
            refine .inl ⟨.pointer (some ⟨b, off + fo, none⟩), w, by simp [execOp, hv, hfa b off], Post.pure H ⟨⟨h1.1, rfl⟩, fun _ => ?_⟩⟩
            rw [ho]
            exact ⟨b, hρ, rfl⟩
          · cases h
        · rename_i o ver i off e
          split at h
          · rename_i g xs hcur
            simp only [Option.some.injEq, Prod.mk.injEq] at h
            obtain ⟨rfl, rfl, rfl⟩ := h
            rw [e] at hx
            have ho := cur_eq hcur (by simp)
            obtain ⟨h1, h2⟩ := hx
            have h3 := h2 (by rw [ho])
            rw [ho] at h3
            obtain ⟨b, n, cap, hρ, q1, q2, hv⟩ := h3
            refine .inl ⟨.pointer (some ⟨b, i.toNat * gsize g + off + fo, none⟩), w, by simp [execOp, hv, hfa b (i.toNat * gsize g + off)], Post.pure H ⟨⟨h1.1, rfl⟩, fun _ => ?_⟩⟩
            rw [ho]
            exact ⟨b, n, cap, hρ, q1, q2, by rw [Nat.add_assoc]⟩
          · cases h
        · rename_i g y off e
          simp only [Option.some.injEq, Prod.mk.injEq] at h
          obtain ⟨rfl, rfl, rfl⟩ := h
          rw [e] at hx
          obtain ⟨b, q, fv, hv, r1, r2, r3⟩ := hx
          exact .inl ⟨.pointer (some ⟨b, q + off + fo, none⟩), w, by simp [execOp, hv, hfa b (q + off)], Post.pure H ⟨b, q, fv, by rw [Nat.add_assoc], r1, r2, r3⟩⟩
        · cases h
      · cases h
    · cases h
  · -- field
    rename_i s x f
    have hx := hev x
    split at h
    · rename_i hti
      split at h
      · rename_i fo ft hf
        split at h
        · cases h
        rename_i fi hfi
        split at h
        · rename_i cs e
          split at h
          · rename_i hb
            simp only [Option.some.injEq, Prod.mk.injEq] at h
            obtain ⟨rfl, rfl, rfl⟩ := h
            rw [e] at hx
            obtain ⟨cv, h1, h2⟩ := field_ok (w := w) hE.tab hti hf hfi hx (Nat.le_of_ble_eq_true hb)
            exact .inl ⟨cv, w, by simp [execOp, h1], Post.pure H h2⟩
          · cases h
        · cases h
      · cases h
    · cases h
  · -- indexAddr
    rename_i t x i
    obtain ⟨rfl, cv, h1, h2⟩ := indexF_ok hE.tab H (hev x) (hev i) h hok
    exact .inl ⟨cv, w, by simp [execOp, h1], Post.pure H h2⟩
  · -- index
    rename_i t x i
    have hx := hev x
    have hi := hev i
    split at h
    · rename_i hti
      split at h
      · rename_i s k n e1 e2
        simp only [Option.some.injEq, Prod.mk.injEq] at h
        obtain ⟨rfl, rfl, rfl⟩ := h
        rw [e1] at hx
        rw [e2] at hi
        have hx : a.eval x = .string ⟨⟨s⟩⟩ := hx
        have hi : a.eval i = .int k n := hi
        have := strIndex_ok (c := c) (w := w) (k := k) hE.tab (t := t) (by unfold isStr; rw [hti]) hok
        exact .inl ⟨_, w, by simp [execOp, hx, hi, this], Post.pure H rfl⟩
      · cases h
    · cases h
  · -- extract
    rename_i t i
    have hx := hev t
    split at h
    · rename_i ts e
      split at h
      · rename_i q cs hi
        simp only [Option.some.injEq, Prod.mk.injEq] at h
        obtain ⟨rfl, rfl, rfl⟩ := h
        rw [e] at hx
        obtain ⟨cv, h1, h2⟩ := extract_ok hx hi
        exact .inl ⟨cv, w, by simp [execOp, h1], Post.pure H h2⟩
      · cases h
    · cases h
  · -- len
    rename_i x t
    split at h
    · rename_i hs
      split at h
      · rename_i n hn
        simp only [Option.some.injEq, Prod.mk.injEq] at h
        obtain ⟨rfl, rfl, rfl⟩ := h
        have h1 := len_ok (ty := ty) hE.tab H hs hn (hev x)
        exact .inl ⟨.int .i64 n, w, by simp [execOp, resolve, invoke, builtin, h1], Post.pure H rfl⟩
      · cases h
    · cases h
  · -- append
    rename_i s x t t2
    obtain ⟨cv, w', h1, h2⟩ := appendF_ok (ty := ty) hE.tab hE.nm H (hev s) (hev x) h hok
    exact .inl ⟨cv, w', by simp [execOp, resolve, invoke, builtin, h1], h2⟩
  · -- min
    rename_i x y ts
    have hx := hev x
    have hy := hev y
    split at h
    · rename_i m n e1 e2
      simp only [Option.some.injEq, Prod.mk.injEq] at h
      obtain ⟨rfl, rfl, rfl⟩ := h
      rw [e1] at hx
      rw [e2] at hy
      have hx : a.eval x = .int .i64 m := hx
      have hy : a.eval y = .int .i64 n := hy
      have h1 := min_ok (c := c) (w := w) (a := m) (b := n) (ats := ts) (ty := ty)
      exact .inl ⟨.int .i64 (min m n), w, by simp [execOp, resolve, invoke, builtin, hx, hy, h1], Post.pure H rfl⟩
    · cases h
  · -- max
    rename_i x y ts
    have hx := hev x
    have hy := hev y
    split at h
    · rename_i m n e1 e2
      simp only [Option.some.injEq, Prod.mk.injEq] at h
      obtain ⟨rfl, rfl, rfl⟩ := h
      rw [e1] at hx
      rw [e2] at hy
      have hx : a.eval x = .int .i64 m := hx
      have hy : a.eval y = .int .i64 n := hy
      have h1 := max_ok (c := c) (w := w) (a := m) (b := n) (ats := ts) (ty := ty)
      exact .inl ⟨.int .i64 (max m n), w, by simp [execOp, resolve, invoke, builtin, hx, hy, h1], Post.pure H rfl⟩
    · cases h
  · -- call
    rename_i f xs ts
    obtain ⟨⟨fn, f1, f2, f3⟩, h2⟩ := callF_ok hE.con hE.nm H (vs := evs (evO T) xs) (us := xs.map a.eval) (by rw [evs_length]; simp) (fun k x u h1 h2 => by
      rw [evs_get] at h1
      obtain ⟨y, hy, rfl⟩ := Option.map_eq_some_iff.1 h1
      rw [List.getElem?_map, hy] at h2
      cases h2
      exact hev y) h hok
    refine .inr (.inr ⟨f, _, ?_, h2⟩)
    have := enter_run (w := w) f1 f2 f3 (xs.map a.eval).toArray
    simp [execOp, resolve, invoke, Deferred.ofValue, Act.eval, this]
  · -- call of a value
    rename_i t xs ts
    have ht := hev (.tmp t)
    split at h
    · rename_i f e
      rw [e] at ht
      have ht : a.eval (.tmp t) = .func (.func f) #[] #[] := ht
      obtain ⟨⟨fn, f1, f2, f3⟩, h2⟩ := callF_ok hE.con hE.nm H (vs := evs (evO T) xs) (us := xs.map a.eval) (by rw [evs_length]; simp) (fun k x u h1 h2 => by
        rw [evs_get] at h1
        obtain ⟨y, hy, rfl⟩ := Option.map_eq_some_iff.1 h1
        rw [List.getElem?_map, hy] at h2
        cases h2
        exact hev y) h hok
      refine .inr (.inr ⟨f, _, ?_, h2⟩)
      have := enter_run (w := w) f1 f2 f3 (xs.map a.eval).toArray
      simp [execOp, resolve, invoke, Deferred.ofValue, ht, this]
    · cases h
  · cases h

/-- One operation, in its place. -/
def setD (T : Tmps) (d : Option Nat) (v : AV) : Tmps := match d with | some d => setT T d v | none => T

/-- Each operation does in the model what the interpreter says. -/
theorem op_wp (hE : EOk c E) {S : St} {a : Act} (hS : SRel c S a w) {o : Oper} {p : Option Prop} {v : AV} {us : Ups} (h : stepF E o.dst o.op (evO S.tmps) (getO S.objs) = some (p, v, us)) (hok : pOk p)
    (hd : ∀ d, o.dst = some d → d < E.nt) {next : Act → World → Prop} {Q : Exit → Act → World → Prop}
    (hn : ∀ a' w', SRel c ⟨setD S.tmps o.dst v, setOs S.objs us⟩ a' w' → next a' w') : o.wp c.P a w next Q := by
  obtain ⟨⟨ρ, H, hT⟩, hdf, hnt⟩ := hS
  have put : ∀ cv w', Post c w S.objs ρ us v cv w' → next (a.put o.dst cv) w' := by
    intro cv w' ⟨ρ', H', hk, hv⟩
    refine hn _ _ ⟨⟨ρ', H', fun t => ?_⟩, ?_, ?_⟩
    · cases hdst : o.dst with
      | none => exact (hT t).mono hk
      | some d =>
        have hlt : d < a.tmps.size := by rw [hnt, ← hE.nt]; exact hd d hdst
        by_cases e : t = d
        · subst e
          simp only [setD]
          rw [getT_setT_same]
          simp only [Act.put]
          rw [Array.getD_eq_getD_getElem?, Array.getElem?_setIfInBounds_self_of_lt hlt]
          exact hv
        · simp only [setD]
          rw [getT_setT_other _ _ e]
          simp only [Act.put]
          rw [Array.getD_eq_getD_getElem?, Array.getElem?_setIfInBounds_ne (fun h => e h.symm), ← Array.getD_eq_getD_getElem?]
          exact (hT t).mono hk
    · cases o.dst <;> exact hdf
    · cases o.dst <;> simp [Act.put, hnt]
  rcases execOp_ok hE H hT h hok with ⟨cv, w', hr, hp⟩ | ⟨w', hr, hp⟩ | ⟨f, xs, hr, hc⟩
  · simp only [Oper.wp, hr, Oper.upon_value]
    exact put cv w' hp
  · simp only [Oper.wp, hr, Oper.upon_skip]
    exact put undef w' (hp undef)
  · simp only [Oper.wp, hr, Oper.upon_enter]
    refine hc.mono ?_
    rintro e w' ⟨cv, rfl, hp⟩
    exact put cv w' hp

end
end GV

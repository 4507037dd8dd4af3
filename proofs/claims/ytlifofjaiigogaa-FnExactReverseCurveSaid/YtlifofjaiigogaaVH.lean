/-
  Memory: appends in the model. No condition beyond those named.
-/
import Derived.Test.YtlifofjaiigogaaVG
namespace GV
open Go
set_option linter.unusedSimpArgs false
set_option linter.unusedVariables false

section
variable {P : Program} {w : World}

theorem run_append_room' {t t2 ty e : TypeId} {i : TypeInfo} (ht : P.underlying t = some (.slice e)) {d2 : TypeDesc} (h2 : P.underlying t2 = some d2) (hd2 : ∀ k, d2 ≠ .int k) (hi : P.info? e = some i)
    {g n cap : Nat} {cur : Array Value} {t' : TypeId} (hg : w.heap[g]? = some (.cells cur t' (0, 0))) {x : Value} {m : Nat} {news : List Value} (hl : ∀ w', (Builtin.lenOf x).run P w' = .ok m w')
    (hfc : ∀ w', w'.heap = w.heap → (Builtin.firstCells i.size m x).run P w' = .ok news.toArray w') (h1 : ∀ u ∈ news, u.oneCell' = true) (hroom : n + m ≤ cap) (hfit : n * i.size + news.length ≤ cur.size) :
    (Builtin.append_ #[t, t2] ty #[.slice (some ⟨g, 0, none⟩) n cap, x]).run P w = .ok (.slice (some ⟨g, 0, none⟩) (n + m) cap) (w.setRow g (put cur (n * i.size) news)) := by
  have hst := run_storeCells_at P g (n * i.size) t' news 0 cur w hg (by simpa using hfit) h1
  simp only [Nat.add_zero] at hst
  have hz : (d2 matches .int _) = false := by cases d2 <;> first | rfl | exact absurd rfl (hd2 _)
  simp [Builtin.append_, run_underlying ht, run_underlying h2, Go.sizeOf, typeInfo, hi, hz, hl, hroom, hfc w rfl, Addr.add_lit, hst, put]

theorem run_append_none' {t t2 ty e : TypeId} {i : TypeInfo} (ht : P.underlying t = some (.slice e)) {d2 : TypeDesc} (h2 : P.underlying t2 = some d2) (hd2 : ∀ k, d2 ≠ .int k) (hi : P.info? e = some i)
    {x : Value} {news : List Value} (hl : ∀ w', (Builtin.lenOf x).run P w' = .ok 0 w')
    (hfc : ∀ w', w'.heap = w.heap → (Builtin.firstCells i.size 0 x).run P w' = .ok news.toArray w') :
    (Builtin.append_ #[t, t2] ty #[.slice none 0 0, x]).run P w = .ok (.slice none 0 0) w := by
  have hz : (d2 matches .int _) = false := by cases d2 <;> first | rfl | exact absurd rfl (hd2 _)
  simp [Builtin.append_, run_underlying ht, run_underlying h2, Go.sizeOf, typeInfo, hi, hz, hl, hfc w rfl]

theorem run_append_grow' {t t2 ty e : TypeId} {i : TypeInfo} {z : Value} (ht : P.underlying t = some (.slice e)) {d2 : TypeDesc} (h2 : P.underlying t2 = some d2) (hd2 : ∀ k, d2 ≠ .int k) (hi : P.info? e = some i)
    (hz : i.zero = some z) {base : Option Addr} {n cap : Nat} {olds : List Value} (hfo : ∀ w', w'.heap = w.heap → (Builtin.firstCells i.size n (.slice base n cap)).run P w' = .ok olds.toArray w')
    {x : Value} {m : Nat} {news : List Value} (hl : ∀ w', (Builtin.lenOf x).run P w' = .ok m w')
    (hfc : ∀ w', w'.heap = w.heap → (Builtin.firstCells i.size m x).run P w' = .ok news.toArray w') (hg : cap < n + m) (hb : i.bytes ≤ 4096) (hn : n + m < 4294967296) :
    (Builtin.append_ #[t, t2] ty #[.slice base n cap, x]).run P w =
      .ok (.slice (some ⟨w.heap.size, 0, none⟩) (n + m) (grownCap w (n + m) cap e)) (w.drew.alloc (.cells (olds.toArray ++ news.toArray ++ Builtin.zeroCells z.cells (grownCap w (n + m) cap e - (n + m))) e)) := by
  have hz' : (d2 matches .int _) = false := by cases d2 <;> first | rfl | exact absurd rfl (hd2 _)
  have hn' : ¬ (n + m ≤ cap) := by omega
  have h63' : ¬ (9223372036854775807 < ((n : Int) + (m : Int))) := by omega
  have hfit : Builtin.nextslicecap (n + m) cap * i.bytes ≤ 281474976710656 := growslice_fits hg (by
    calc (n + m) * i.bytes ≤ 4294967296 * 4096 := Nat.mul_le_mul (by omega) hb
      _ ≤ 140737488355328 := by decide)
  have h48' : ¬ (281474976710656 < Builtin.nextslicecap (n + m) cap * i.bytes) := by omega
  simp [Builtin.append_, run_underlying ht, run_underlying h2, Go.sizeOf, typeInfo, zeroValue, hi, hz, hz', hl, hn', h63', h48', Question.forced, hfc w.drew rfl, hfo w.drew rfl, newRow, grownCap]
  congr 2
  apply Array.ext'
  simp [List.append_assoc]

end

section
variable {c : Ctx} {E : Env} {w w' : World} {O : Objs} {ρ : Nat → Value}

theorem PR.one {w : World} {A : Nat → Prop} {x : Cell} {v : Value} (h : PR w A x v) : v.oneCell' = true := by cases h <;> rfl

/-- A list that can be read off a value. -/
def RdL (w : World) (X : Nat → Prop) (O : Objs) (ρ : Nat → Value) (g : GT) (ys : List g.den) (v : Value) : Prop :=
  (ys = [] ∧ ∃ a, v = .slice a 0 0) ∨ ∃ (b p cap : Nat) (f : Nat → Value), v = .slice (some ⟨b, p, none⟩) ys.length cap ∧ ys.length ≤ cap ∧ (∀ k, k < (flat g ys).length → w.cell? ⟨b, p + k, none⟩ = some (f k)) ∧
    ∀ (k : Nat) (cc : Cell), (flat g ys)[k]? = some cc → PR w (Av X O ρ) cc (f k)

theorem rdl_im {g : GT} {ys : List g.den} {v : Value} (h : PR w (Av c.X O ρ) (.im g ys) v) : RdL w c.X O ρ g ys v := by
  cases h with
  | none g a => exact .inl ⟨rfl, a, rfl⟩
  | im g xs b p cap f hcap hc hr => exact .inr ⟨b, p, cap, f, rfl, hcap.1, fun k hk => (hc k hk).2, hr⟩

theorem rdl_seq {g : GT} {ys : List g.den} {v : Value} (h : ObR w c.X O ρ (.seq g ys) v) : RdL w c.X O ρ g ys v := by
  rcases h with ⟨e, rfl⟩ | ⟨b, cap, ccs, t, rfl, hcap, _, hg, hsz, hr⟩
  · exact .inl ⟨e, none, rfl⟩
  · have hlen : (flat g ys).length ≤ ccs.size := by rw [flat_length, hsz]; exact Nat.mul_le_mul_right _ hcap
    exact .inr ⟨b, 0, cap, fun k => ccs.getD k undef, rfl, hcap, fun k hk => by rw [Nat.zero_add, cell_row hg]; simp [Array.getD, (by omega : k < ccs.size)], fun k cc hcc => by
      have hk : k < (flat g ys).length := (List.getElem?_eq_some_iff.1 hcc).1
      exact hr k cc _ hcc (by simp [Array.getD, (by omega : k < ccs.size)])⟩

theorem sl_val (H : HRel c w O ρ) {o v : Nat} {u : Value} (hx : CellR w c.X O ρ (.sl o v) u) {g : GT} {ys : List g.den} (ho : getO O o = (v, .seq g ys)) : u = ρ o := by
  obtain ⟨_, hx⟩ := hx
  have hx := hx (by rw [ho])
  rw [ho] at hx
  exact hx

theorem listOf_ok (H : HRel c w O ρ) {g : GT} {x : AV} {ys : List g.den} {v : Value} (h : listOf (getO O) g x = some ys) (hx : AR (CellR w c.X O ρ) x v) : RdL w c.X O ρ g ys v := by
  unfold listOf at h
  split at h
  · split at h
    · rename_i e; subst e; cases h; exact rdl_im hx
    · cases h
  · cases h; exact .inl ⟨rfl, none, hx⟩
  · rename_i o ver
    split at h
    · rename_i g' xs hcur
      split at h
      · rename_i e; subst e; cases h
        have ho := cur_eq hcur (by simp)
        rw [sl_val H hx ho]
        have := H.obj o
        rw [ho] at this
        exact rdl_seq this
      · cases h
    · rename_i g' xs hcur
      split at h
      · rename_i e; subst e; cases h
        have ho := cur_eq hcur (by simp)
        obtain ⟨_, hx⟩ := hx
        have hx := hx (by rw [ho])
        rw [ho] at hx
        have hx : v = ρ o := hx
        rw [hx]
        have := H.obj o
        rw [ho] at this
        exact rdl_im this
      · cases h
    · cases h
  · cases h

/-- What an append adds. -/
structure News (P : Program) (w : World) (A : Nat → Prop) (g : GT) (ys : List g.den) (v : Value) (news : List Value) : Prop where
  len : news.length = ys.length * gsize g
  rel : ∀ (k : Nat) (cc : Cell) (u : Value), (flat g ys)[k]? = some cc → news[k]? = some u → PR w A cc u
  one : ∀ u ∈ news, u.oneCell' = true
  lenOf : ∀ w', (Builtin.lenOf v).run P w' = .ok ys.length w'
  first : ∀ w', w'.heap = w.heap → (Builtin.firstCells (gsize g) ys.length v).run P w' = .ok news.toArray w'

theorem cell?_heap {w w' : World} (h : w'.heap = w.heap) (a : Addr) : w'.cell? a = w.cell? a := by unfold World.cell?; rw [h]

theorem news_of {P : Program} {g : GT} {ys : List g.den} {v : Value} (h : RdL w c.X O ρ g ys v) : ∃ news, News P w (Av c.X O ρ) g ys v news := by
  rcases h with ⟨rfl, a, rfl⟩ | ⟨b, p, cap, f, rfl, hcap, hc, hr⟩
  · refine ⟨[], by simp, fun k cc u h => by simp [flat] at h, by simp, fun w' => by simp [Builtin.lenOf], fun w' _ => ?_⟩
    cases a with
    | none => simp [Builtin.firstCells]
    | some a =>
      have := run_loadCells (P := P) w' a 0 (fun _ => undef) (fun j hj => absurd hj (Nat.not_lt_zero j))
      simpa [Builtin.firstCells] using this
  · have hfl := flat_length g ys
    refine ⟨(List.range (flat g ys).length).map f, by simp [hfl], fun k cc u h1 h2 => ?_, fun u hu => ?_, fun w' => by simp [Builtin.lenOf], fun w' hw => ?_⟩
    · have hk : k < (flat g ys).length := (List.getElem?_eq_some_iff.1 h1).1
      simp only [List.getElem?_map, List.getElem?_range hk, Option.map_some, Option.some.injEq] at h2
      subst h2; exact hr k cc h1
    · obtain ⟨k, hk, rfl⟩ := List.mem_map.1 hu
      have hk := List.mem_range.1 hk
      exact (hr k _ (List.getElem?_eq_getElem hk)).one
    · have := run_loadCells (P := P) w' ⟨b, p, none⟩ (flat g ys).length f (fun j hj => by rw [Addr.add_lit, cell?_heap hw]; exact hc j hj)
      rw [hfl] at this
      simp [Builtin.firstCells, this, hfl]

theorem flat_u8 (s : Bytes) : flat .u8 s = s.map fun b => Cell.int .u8 (b.toNat : Int) := by
  induction s with
  | nil => rfl
  | cons a r ih => simp only [flat, enc, List.map_cons, ih]; rfl

theorem news_str {P : Program} (s : Bytes) : News P w (Av c.X O ρ) .u8 s (.string ⟨⟨s⟩⟩) (s.map fun b => .int .u8 (b.toNat : Int)) := by
  refine ⟨by simp [gsize], fun k cc u h1 h2 => ?_, fun u hu => ?_, fun w' => by simp [Builtin.lenOf, ByteArray.size], fun w' _ => ?_⟩
  · rw [flat_u8] at h1
    simp only [List.getElem?_map, Option.map_eq_some_iff] at h1 h2
    obtain ⟨b, hb, rfl⟩ := h1
    obtain ⟨b', hb', rfl⟩ := h2
    rw [hb] at hb'; cases hb'
    exact .int _ _
  · obtain ⟨b, _, rfl⟩ := List.mem_map.1 hu; rfl
  · simp [Builtin.firstCells]

theorem isSl_ok (hT : TabOk c.P E.tab) {t : Nat} (h : isSl E t = true) : ∃ d, c.P.underlying t = some d ∧ ∀ k, d ≠ .int k := by
  unfold isSl at h
  split at h
  · rename_i hti
    have := (hT t _ hti).kd
    exact ⟨_, this, fun k h => by cases h⟩
  · rename_i hti
    have := (hT t _ hti).kd
    exact ⟨_, this, fun k h => by cases h⟩
  · cases h

theorem eg_ok (hT : TabOk c.P E.tab) {t : Nat} {g : GT} (h : E.eg t = some g) : ∃ e te, c.P.underlying t = some (.slice e) ∧ E.tab.get e = some te ∧ TIok c.P e te ∧ te.size = gsize g ∧ te.g = some g := by
  unfold Env.eg at h
  split at h
  · rename_i e _ _ hti
    have hk := (hT t _ hti).kd
    unfold Env.g at h
    split at h
    · rename_i te hte
      exact ⟨e, te, hk, hte, hT e te hte, (hT e te hte).g g h, h⟩
    · cases h
  · cases h

theorem zeroCells_size (z : Array Value) (n : Nat) : (Builtin.zeroCells z n).size = n * z.size := size_zeroCells z n

theorem appendF_ok (hT : TabOk c.P E.tab) (hnm : E.nm = c.nm) (H : HRel c w O ρ) {d : Option Nat} {t t2 ty : Nat} {s x : AV} {vs vx : Value} (hs : AR (CellR w c.X O ρ) s vs) (hx : AR (CellR w c.X O ρ) x vx)
    {p : Option Prop} {v : AV} {us : Ups} (h : appendF E d (getO O) t t2 s x = some (p, v, us)) (hok : pOk p) :
    ∃ cv w', (Builtin.append_ #[t, t2] ty #[vs, vx]).run c.P w = .ok cv w' ∧ Post c w O ρ us v cv w' := by
  unfold appendF at h
  split at h
  · cases h
  · cases h
  rename_i g hg hsl
  obtain ⟨d2, h2, hd2⟩ := isSl_ok hT hsl
  obtain ⟨e, te, ht, _, hte, hsz, _⟩ := eg_ok hT hg
  obtain ⟨i, z, hi, his, hib, hiz, hzs, _⟩ := hte.info
  have his : i.size = gsize g := by rw [his, hsz]
  have hib : i.bytes ≤ 4096 := by rw [hib]; exact hte.bytes
  have hzs : z.cells.size = gsize g := by rw [hzs, hsz]
  split at h
  · cases h
  rename_i ys hys
  have hnews : ∃ news, News c.P w (Av c.X O ρ) g ys vx news := by
    split at hys
    · rename_i b
      split at hys
      · rename_i eg; subst eg; cases hys
        obtain rfl : vx = .string ⟨⟨b⟩⟩ := hx
        exact ⟨_, news_str b⟩
      · cases hys
    · exact news_of (listOf_ok H hys hx)
  obtain ⟨news, N⟩ := hnews
  have hfc : ∀ w', w'.heap = w.heap → (Builtin.firstCells i.size ys.length vx).run c.P w' = .ok news.toArray w' := by rw [his]; exact N.first
  split at h
  · -- a nil slice
    obtain rfl : vs = .slice none 0 0 := hs
    unfold mk at h
    split at h
    · rename_i hd
      have hd := Nat.le_of_ble_eq_true hd
      simp only [Option.some.injEq, Prod.mk.injEq] at h
      obtain ⟨rfl, rfl, rfl⟩ := h
      simp only [pOk] at hok
      by_cases hz : ys = []
      · subst hz
        have hl := N.lenOf
        simp only [List.length_nil] at hl hfc
        refine ⟨_, _, run_append_none' ht h2 hd2 hi hl hfc, ?_⟩
        -- the list of no elements in no block
        obtain ⟨H', hk⟩ := hrel_set (w' := w) H (dnat d) ((getO O (dnat d)).1 + 1) (.seq g []) (.slice none 0 0) (.inl (Nat.lt_succ_self _)) (fun _ _ _ => rfl)
          (fun b hb => by simp [ownOf, blk] at hb) (fun hlt _ => absurd hlt (by omega)) (fun _ => .inl ⟨rfl, rfl⟩) (Nat.le_refl _) rfl rfl rfl
        refine ⟨_, H', hk, ?_⟩
        simp only [AR, CellR, setOs, verOf, getO_setO_same, upd_same]
        exact ⟨⟨Nat.le_refl _, rfl⟩, fun _ => trivial⟩
      · have hpos : 0 < ys.length := List.length_pos_iff.2 hz
        have hrun := run_append_grow' (w := w) (ty := ty) ht h2 hd2 hi hiz (base := none) (n := 0) (cap := 0) (olds := []) (fun w' _ => by simp [Builtin.firstCells]) N.lenOf hfc (by omega) hib (by omega)
        simp only [Nat.zero_add] at hrun
        refine ⟨_, _, hrun, ?_⟩
        have hge := grownCap_ge w ys.length 0 e
        refine new_seq H (by rw [← hnm]; exact hd) (grew_drew w _ _) g ys _ hge (grownCap_le_maxLen w _ _ _ (by unfold maxLen; omega)) ?_ ?_
        · simp only [Array.size_append, List.size_toArray, zeroCells_size, hzs, N.len, List.length_nil, Nat.zero_add, ← Nat.add_mul]
          congr 1; omega
        · intro k cc u h1 h2
          have hk : k < news.length := by rw [N.len, ← flat_length]; exact (List.getElem?_eq_some_iff.1 h1).1
          refine N.rel k cc u h1 ?_
          rw [← h2]
          simp [Array.getElem?_append, hk]
    · cases h
  · rename_i o ver
    split at h
    · rename_i g' xs hcur
      split at h
      · cases h
      rename_i hno
      have hno := Nat.le_of_ble_eq_true hno
      split at h
      · rename_i eg
        subst eg
        simp only [Option.some.injEq, Prod.mk.injEq] at h
        obtain ⟨rfl, rfl, rfl⟩ := h
        simp only [pOk] at hok
        have ho := cur_eq hcur (by simp)
        obtain rfl : vs = ρ o := sl_val H hs ho
        have hob := H.obj o
        rw [ho] at hob
        -- the object behind the append
        have fin : ∀ (cv : Value) (w' : World), (Builtin.append_ #[t, t2] ty #[ρ o, vx]).run c.P w = .ok cv w' →
            (∃ (b cap : Nat) (ccs : Array Value) (t' : TypeId), cv = .slice (some ⟨b, 0, none⟩) (xs.length + ys.length) cap ∧ xs.length + ys.length ≤ cap ∧ cap ≤ maxLen ∧ w'.heap[b]? = some (.cells ccs t' (0, 0)) ∧
              ccs.size = cap * gsize g' ∧ (∀ (k : Nat) (cc : Cell) (u : Value), (flat g' (xs ++ ys))[k]? = some cc → ccs[k]? = some u → PR w (Av c.X O ρ) cc u) ∧ (own O ρ o = some b ∨ b = w.heap.size)) →
            (∀ b, b < w.heap.size → own O ρ o ≠ some b → w'.heap[b]? = w.heap[b]?) → w.heap.size ≤ w'.heap.size → w'.os = w.os → w'.tape = w.tape → w'.output = w.output →
            ∃ cv w', (Builtin.append_ #[t, t2] ty #[ρ o, vx]).run c.P w = .ok cv w' ∧ Post c w O ρ [(o, ver + 1, .seq g' (xs ++ ys))] (.c (.sl o (ver + 1))) cv w' := by
          intro cv w' hrun ⟨b, cap, ccs, t', hcv, hcap, hmax, hgb, hsz', hrel, hb⟩ hfr hs' h4 h5 h6
          refine ⟨cv, w', hrun, ?_⟩
          have hblk : ∀ b', ownOf (.seq g' (xs ++ ys)) cv = some b' → b' = b := by
            intro b' hb'; rw [hcv] at hb'; simp only [ownOf, blk, Option.some.injEq] at hb'; exact hb'.symm
          obtain ⟨H', hk⟩ := hrel_set (w' := w') H o (ver + 1) (.seq g' (xs ++ ys)) cv (.inl (by rw [ho]; exact Nat.lt_succ_self _)) hfr
            (fun b' hb' => by
              rw [hblk b' hb']
              rcases hb with h | h
              · exact .inl h
              · exact .inr ⟨Nat.le_of_eq h.symm, by rw [← hnm]; exact hno⟩)
            (fun hlt _ => absurd hlt (by rw [hnm] at hno; omega))
            (fun hk => .inr ⟨b, cap, ccs, t', by rw [hcv]; simp, by simpa using hcap, hmax, hgb, hsz', fun k cc u h1 h2 => (hrel k cc u h1 h2).mono
              (fun b' hlt hn => hfr b' hlt (fun e => hn (.inr ⟨o, e⟩))) (fun b' hlt hA => by
                rcases hA with hA | ⟨o', ho'⟩
                · exact .inl hA
                · by_cases e : o' = o
                  · subst e
                    rw [own_set_same] at ho'
                    have := hblk b' ho'
                    rcases hb with h | h
                    · exact .inr ⟨o', by rw [this]; exact h⟩
                    · omega
                  · rw [own_set_other _ _ _ e] at ho'; exact .inr ⟨o', ho'⟩)⟩)
            hs' h4 h5 h6
          refine ⟨_, H', hk, ?_⟩
          simp only [AR, CellR, setOs, getO_setO_same, upd_same]
          exact ⟨⟨Nat.le_refl _, by rw [hcv]; rfl⟩, fun _ => trivial⟩
        rcases hob with ⟨rfl, hρ⟩ | ⟨b, cap, ccs, t', hρ, hcap, hmax, hgb, hcs, hr⟩
        · rw [hρ] at fin ⊢
          by_cases hz : ys = []
          · subst hz
            have hl := N.lenOf
            simp only [List.length_nil] at hl hfc
            refine ⟨_, _, run_append_none' ht h2 hd2 hi hl hfc, ?_⟩
            obtain ⟨H', hk⟩ := hrel_set (w' := w) H o (ver + 1) (.seq g' []) (.slice none 0 0) (.inl (by rw [ho]; exact Nat.lt_succ_self _)) (fun _ _ _ => rfl)
              (fun b hb => by simp [ownOf, blk] at hb) (fun hlt _ => absurd hlt (by omega)) (fun _ => .inl ⟨rfl, rfl⟩) (Nat.le_refl _) rfl rfl rfl
            refine ⟨_, H', hk, ?_⟩
            simp only [AR, CellR, setOs, getO_setO_same, upd_same]
            exact ⟨⟨Nat.le_refl _, rfl⟩, fun _ => trivial⟩
          · have hpos : 0 < ys.length := List.length_pos_iff.2 hz
            have hrun := run_append_grow' (w := w) (ty := ty) ht h2 hd2 hi hiz (base := none) (n := 0) (cap := 0) (olds := []) (fun w' _ => by simp [Builtin.firstCells]) N.lenOf hfc (by omega) hib (by omega)
            have hge := grownCap_ge w (0 + ys.length) 0 e
            have hG := grew_drew w ((([] : List Value).toArray ++ news.toArray ++ Builtin.zeroCells z.cells (grownCap w (0 + ys.length) 0 e - (0 + ys.length)))) e
            refine fin _ _ hrun ⟨w.heap.size, _, _, _, rfl, hge, grownCap_le_maxLen w _ _ _ (by unfold maxLen; omega), hG.new, ?_, ?_, .inr rfl⟩ (fun b hb _ => hG.old b hb) (by rw [hG.size]; exact Nat.le_succ _) rfl rfl rfl
            · simp only [Array.size_append, List.size_toArray, zeroCells_size, hzs, N.len, List.length_nil, Nat.zero_add, ← Nat.add_mul] at hge ⊢
              congr 1; omega
            · intro k cc u h1 h2
              simp only [List.nil_append] at h1
              have hk : k < news.length := by rw [N.len, ← flat_length]; exact (List.getElem?_eq_some_iff.1 h1).1
              refine N.rel k cc u h1 ?_
              rw [← h2]
              simp [Array.getElem?_append, hk]
        · have hown : own O ρ o = some b := by unfold own; rw [ho, hρ]; rfl
          have hfl := flat_length g' xs
          have hlen : (flat g' xs).length ≤ ccs.size := by rw [hfl, hcs]; exact Nat.mul_le_mul_right _ hcap
          by_cases hroom : xs.length + ys.length ≤ cap
          · have hfit : xs.length * i.size + news.length ≤ ccs.size := by rw [his, N.len, hcs, ← Nat.add_mul]; exact Nat.mul_le_mul_right _ hroom
            have hrun := run_append_room' (w := w) (ty := ty) ht h2 hd2 hi hgb N.lenOf hfc N.one hroom hfit
            obtain ⟨f1, f2, f3⟩ := setRow_frame (new := put ccs (xs.length * i.size) news) hgb
            refine fin _ _ (by rw [hρ]; exact hrun) ⟨b, cap, _, t', rfl, hroom, hmax, f1, by rw [put_size hfit, hcs], ?_, .inl hown⟩ (fun b' _ hn => f2 b' (fun e => hn (by rw [hown, e]))) (Nat.le_of_eq f3.symm) rfl rfl rfl
            intro k cc u h1 h2
            rw [flat_append, List.getElem?_append, hfl] at h1
            rw [put_get hfit, his] at h2
            split at h1
            · rename_i hk
              rw [if_neg (by omega)] at h2
              exact hr k cc u h1 h2
            · rename_i hk
              have hk2 : k - xs.length * gsize g' < news.length := by rw [N.len, ← flat_length g' ys]; exact (List.getElem?_eq_some_iff.1 h1).1
              rw [if_pos (by omega)] at h2
              exact N.rel _ cc u h1 h2
          · have holds : ∀ w', w'.heap = w.heap → (Builtin.firstCells i.size xs.length (.slice (some ⟨b, 0, none⟩) xs.length cap)).run c.P w' = .ok (ccs.toList.take (xs.length * gsize g')).toArray w' := by
              intro w' hw
              refine run_firstCells_some w' _ _ _ _ _ _ (by rw [his]; simp; omega) (fun j u hj => ?_)
              rw [Addr.add_lit, cell?_heap hw, Nat.zero_add, cell_row hgb]
              rw [List.getElem?_take] at hj
              split at hj
              · rwa [Array.getElem?_toList] at hj
              · cases hj
            have hrun := run_append_grow' (w := w) (ty := ty) ht h2 hd2 hi hiz holds N.lenOf hfc (by omega) hib (by omega)
            have hge := grownCap_ge w (xs.length + ys.length) cap e
            have hG := grew_drew w ((ccs.toList.take (xs.length * gsize g')).toArray ++ news.toArray ++ Builtin.zeroCells z.cells (grownCap w (xs.length + ys.length) cap e - (xs.length + ys.length))) e
            have hmin : min (xs.length * gsize g') ccs.size = xs.length * gsize g' := by omega
            refine fin _ _ (by rw [hρ]; exact hrun) ⟨w.heap.size, _, _, _, rfl, hge, grownCap_le_maxLen w _ _ _ (by unfold maxLen; omega), hG.new, ?_, ?_, .inr rfl⟩ (fun b hb _ => hG.old b hb) (by rw [hG.size]; exact Nat.le_succ _) rfl rfl rfl
            · simp only [Array.size_append, List.size_toArray, List.length_take, Array.length_toList, hmin, zeroCells_size, hzs, N.len, ← Nat.add_mul]
              congr 1; omega
            · intro k cc u h1 h2
              rw [flat_append, List.getElem?_append, hfl] at h1
              simp only [Array.append_assoc, Array.getElem?_append, List.size_toArray, List.length_take, Array.length_toList, hmin, List.getElem?_toArray, List.getElem?_take] at h2
              split at h1
              · rename_i hk
                simp only [hk, if_true] at h2
                exact hr k cc u h1 (by rwa [Array.getElem?_toList] at h2)
              · rename_i hk
                have hk2 : k - xs.length * gsize g' < news.length := by rw [N.len, ← flat_length g' ys]; exact (List.getElem?_eq_some_iff.1 h1).1
                simp only [hk, if_false, hk2, if_true] at h2
                exact N.rel _ cc u h1 h2
      · cases h
    · cases h
  · cases h

end
end GV

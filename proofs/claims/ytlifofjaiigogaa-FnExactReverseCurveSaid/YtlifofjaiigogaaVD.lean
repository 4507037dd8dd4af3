/-
  The operations on plain values do in the model what the interpreter says. No condition beyond those named.
-/
import Derived.Test.YtlifofjaiigogaaVC
import Derived.Laws.StructEq
import Derived.BigFrame
import Derived.Laws.Cover3
namespace GV
open Go
set_option linter.unusedSimpArgs false

/-- what must hold, if anything must -/
def pOk (p : Option Prop) : Prop := match p with | none => True | some p => p

/-- Two values of a struct type, taken as their cells. -/
def SimpleR : Cell → Value → Prop
  | .int k n, v => v = .int k n
  | .bool _ b, v => v = .bool b
  | .str s, v => v = .string ⟨⟨s⟩⟩
  | _, _ => False

def EqOk (P : Program) (t : Nat) (ks : List LK) : Prop := ∀ (w : World) (xs ys : Array Value) (cs ds : List Cell) (q : Bool), CsR SimpleR cs xs.toList → CsR SimpleR ds ys.toList → kOk ks cs = true → eqCs cs ds = some q →
  (Op.equal t (.agg xs) (.agg ys)).run P w = .ok q w ∧ P.eqGuardType P.depth t = false

def EqsOk (P : Program) (E : Env) : Prop := ∀ t ks, eqtOf E.eqt t = some ks → EqOk P t ks

theorem kindEq_true {a b : IntKind} (h : kindEq a b = true) : a = b := by simpa [kindEq] using h

theorem bytes_toList (s : Bytes) : (⟨⟨s⟩⟩ : ByteArray).toList = s := by rw [ByteArray.toList_eq]

theorem evO_ok {R : Cell → Value → Prop} (hb : ∀ l b, R (.bool l b) (.bool b)) (hi : ∀ k n, R (.int k n) (.int k n)) (hs : ∀ s, R (.str s) (.string ⟨⟨s⟩⟩)) (hn : R .nil (.slice none 0 0))
    (hf : ∀ f, R (.fn f) (.func (.func f) #[] #[])) (hu : ∀ v, R .und v) {T : Tmps} {a : Act} (hT : ∀ t, AR R (getT T t) (a.tmps.getD t undef)) (x : Operand) : AR R (evO T x) (a.eval x) := by
  have hc : ∀ v, R (constC v) v := by
    intro v
    unfold constC
    split
    · exact hi _ _
    · exact hb _ _
    · rename_i s; exact hs _
    · exact hn
    · exact hf _
    · exact hu _
  cases x with
  | tmp t => exact hT t
  | const v =>
    cases v with
    | agg cs =>
      obtain ⟨l⟩ := cs
      refine ⟨⟨l⟩, rfl, ?_⟩
      show CsR R (constCs l) l
      clear hT
      induction l with
      | nil => exact ⟨rfl, fun k c v h => by simp [constCs] at h⟩
      | cons v r ih =>
        refine ⟨by simp [constCs, ih.1], fun k c u h1 h2 => ?_⟩
        cases k with
        | zero => simp [constCs] at h1 h2; subst h1; subst h2; exact hc v
        | succ k => simp [constCs] at h1 h2; exact ih.2 k c u h1 h2
    | _ => exact hc _
  | global g => exact hu _
  | func f => exact hf _

section
variable {c : Ctx} {E : Env} {w : World} {O : Objs} {ρ : Nat → Value}

theorem evO_rel {T : Tmps} {a : Act} (hT : ∀ t, AR (CellR w c.X O ρ) (getT T t) (a.tmps.getD t undef)) (x : Operand) : AR (CellR w c.X O ρ) (evO T x) (a.eval x) :=
  evO_ok (fun _ _ => rfl) (fun _ _ => rfl) (fun _ => rfl) rfl (fun _ => rfl) (fun _ => trivial) hT x

theorem intBin_ok {b : BinOp} {k : IntKind} {x y : Int} {t : Nat} {ox oy : Operand} {p : Option Prop} {v : AV} (h : intBin b k x y = some (p, v)) (hp : pOk p) :
    ∃ cv, (do eqGuard b t ox oy (.int k x) (.int k y); binOp b t (.int k x) (.int k y) : Sem Value).run c.P w = .ok cv w ∧ AR (CellR w c.X O ρ) v cv := by
  unfold intBin at h
  split at h <;> first
    | (cases h; done)
    | (simp only [Option.some.injEq, Prod.mk.injEq] at h
       obtain ⟨rfl, rfl⟩ := h
       simp only [pOk] at hp
       refine ⟨_, ?_, rfl⟩
       first
       | (simp [eqGuard_at_int, binOp, Op.intArith]; done)
       | (simp [eqGuard_at_int, binOp, Op.intDiv, hp]; done)
       | (simp [eqGuard_at_int, binOp, Op.intBits, bits2]; done)
       | (simp [eqGuard_at_int, binOp, Op.intCmp]; done)
       | (simp [eqGuard_at_int, binOp, Op.intCmp]; rfl))

theorem strBin_ok {b : BinOp} {x y : Bytes} {t : Nat} {ox oy : Operand} {p : Option Prop} {v : AV} (h : strBin b x y = some (p, v)) (hp : pOk p) :
    ∃ cv, (do eqGuard b t ox oy (.string ⟨⟨x⟩⟩) (.string ⟨⟨y⟩⟩); binOp b t (.string ⟨⟨x⟩⟩) (.string ⟨⟨y⟩⟩) : Sem Value).run c.P w = .ok cv w ∧ AR (CellR w c.X O ρ) v cv := by
  have hbeq : (x == y) = decide (x = y) := by
    by_cases e : x = y
    · subst e; simp
    · simp [e]
  unfold strBin at h
  split at h <;> first
    | (cases h; done)
    | (simp only [Option.some.injEq, Prod.mk.injEq] at h
       obtain ⟨rfl, rfl⟩ := h
       simp only [pOk] at hp
       first
       | (refine ⟨.string ⟨⟨x ++ y⟩⟩, ?_, rfl⟩
          have h1 : ¬ (9223372036854775807 : Int) < (x.length : Int) + (y.length : Int) := by omega
          have h2 : (⟨⟨x⟩⟩ : ByteArray) ++ (⟨⟨y⟩⟩ : ByteArray) = ⟨⟨x ++ y⟩⟩ := by
            apply ByteArray.ext
            simp
          have e1 : (⟨⟨x⟩⟩ : ByteArray).size = x.length := rfl
          have e2 : (⟨⟨y⟩⟩ : ByteArray).size = y.length := rfl
          simp [eqGuard_at_string, binOp, Op.stringOp, h2, e1, e2, h1]
          done)
       | (refine ⟨_, ?_, rfl⟩
          simp [eqGuard_at_string, binOp, Op.stringOp, bytes_toList, hbeq]; done)
       | (refine ⟨_, ?_, rfl⟩
          simp [eqGuard_at_string, binOp, Op.stringOp, bytes_toList, hbeq, bne]; done))

theorem eqCs_simple {w : World} {X : Nat → Prop} {O : Objs} {ρ : Nat → Value} : ∀ {cs ds : List Cell} {q : Bool}, eqCs cs ds = some q → (∀ c ∈ cs, ∀ v, CellR w X O ρ c v → SimpleR c v) ∧ (∀ c ∈ ds, ∀ v, CellR w X O ρ c v → SimpleR c v) := by
  intro cs
  induction cs with
  | nil => intro ds q h; cases ds with
    | nil => simp
    | cons d s => cases d <;> simp [eqCs] at h
  | cons a r ih =>
    intro ds q h
    cases ds with
    | nil => cases a <;> cases r <;> simp [eqCs] at h
    | cons d s =>
      have key : (∃ t, eqCs r s = some t) ∨ (r = [] ∧ s = []) := by
        cases a <;> cases d <;> cases r <;> cases s <;> first
          | exact .inr ⟨rfl, rfl⟩
          | (simp [eqCs] at h; done)
          | (simp only [eqCs] at h; left; split at h <;> first | (split at h <;> first | exact ⟨_, by assumption⟩ | cases h) | exact ⟨_, by assumption⟩ | cases h)
          | (cases h)
      have ha : ∀ v, CellR w X O ρ a v → SimpleR a v := by
        intro v hv
        cases a <;> first | exact hv | (cases d <;> cases r <;> cases s <;> simp [eqCs] at h)
      have hd : ∀ v, CellR w X O ρ d v → SimpleR d v := by
        intro v hv
        cases d <;> first | exact hv | (cases a <;> cases r <;> cases s <;> simp [eqCs] at h)
      rcases key with ⟨t, ht⟩ | ⟨rfl, rfl⟩
      · obtain ⟨h1, h2⟩ := ih ht
        refine ⟨fun c hc v hv => ?_, fun c hc v hv => ?_⟩
        · rcases List.mem_cons.1 hc with rfl | hc
          · exact ha v hv
          · exact h1 c hc v hv
        · rcases List.mem_cons.1 hc with rfl | hc
          · exact hd v hv
          · exact h2 c hc v hv
      · refine ⟨fun c hc v hv => ?_, fun c hc v hv => ?_⟩
        · rcases List.mem_cons.1 hc with rfl | hc
          · exact ha v hv
          · cases hc
        · rcases List.mem_cons.1 hc with rfl | hc
          · exact hd v hv
          · cases hc

theorem binF_ok (hT : TabOk c.P E.tab) (hE : EqsOk c.P E) {b : BinOp} {t : Nat} {ox oy : Operand} {x y : AV} {vx vy : Value} (hx : AR (CellR w c.X O ρ) x vx) (hy : AR (CellR w c.X O ρ) y vy)
    {p : Option Prop} {v : AV} (h : binF E b t x y = some (p, v)) (hp : pOk p) :
    ∃ cv, (do eqGuard b t ox oy vx vy; binOp b t vx vy : Sem Value).run c.P w = .ok cv w ∧ AR (CellR w c.X O ρ) v cv := by
  unfold binF at h
  split at h
  · rename_i k m k' n
    obtain rfl : vx = .int k m := hx
    obtain rfl : vy = .int k' n := hy
    split at h
    · simp only [Option.some.injEq, Prod.mk.injEq] at h
      obtain ⟨rfl, rfl⟩ := h
      simp only [pOk] at hp
      refine ⟨.int k (shl k m n), ?_, rfl⟩
      have : ¬ n < 0 := by omega
      simp [eqGuard_at_int, binOp, Op.shift, this, shl]
    · simp only [Option.some.injEq, Prod.mk.injEq] at h
      obtain ⟨rfl, rfl⟩ := h
      simp only [pOk] at hp
      refine ⟨.int k (shr k m n), ?_, rfl⟩
      have : ¬ n < 0 := by omega
      simp [eqGuard_at_int, binOp, Op.shift, this, shr]
    · split at h
      · rename_i hk
        obtain rfl := kindEq_true hk
        exact intBin_ok h hp
      · cases h
  · rename_i s u
    obtain rfl : vx = .string ⟨⟨s⟩⟩ := hx
    obtain rfl : vy = .string ⟨⟨u⟩⟩ := hy
    exact strBin_ok h hp
  · rename_i l1 q1 l2 q2
    obtain rfl : vx = .bool q1 := hx
    obtain rfl : vy = .bool q2 := hy
    split at h
    · rename_i s1 s2 z gg hti
      have hk := (hT t _ hti).kd
      simp only [KdOk] at hk
      split at h
      · simp only [Option.some.injEq, Prod.mk.injEq] at h
        obtain ⟨rfl, rfl⟩ := h
        refine ⟨_, ?_, rfl⟩
        have := run_equalIn_bool' (P := c.P) w 9999 t q1 q2 hk
        simp [eqGuard_at_bool, binOp, Op.equal, Op.maxDepth, this]
        cases q1 <;> cases q2 <;> rfl
      · simp only [Option.some.injEq, Prod.mk.injEq] at h
        obtain ⟨rfl, rfl⟩ := h
        refine ⟨_, ?_, rfl⟩
        have := run_equalIn_bool' (P := c.P) w 9999 t q1 q2 hk
        simp [eqGuard_at_bool, binOp, Op.equal, Op.maxDepth, this]
        cases q1 <;> cases q2 <;> rfl
      · cases h
    · cases h
  · rename_i cs ds
    obtain ⟨xs, rfl, hxs⟩ := hx
    obtain ⟨ys, rfl, hys⟩ := hy
    split at h
    · rename_i ks ht
      split at h
      · rename_i hk
        split at h
        · rename_i q hq
          obtain ⟨s1, s2⟩ := eqCs_simple (w := w) (X := c.X) (O := O) (ρ := ρ) hq
          have hxs' : CsR SimpleR cs xs.toList := ⟨hxs.1, fun k cc v h1 h2 => s1 cc (List.mem_of_getElem? h1) v (hxs.2 k cc v h1 h2)⟩
          have hys' : CsR SimpleR ds ys.toList := ⟨hys.1, fun k cc v h1 h2 => s2 cc (List.mem_of_getElem? h1) v (hys.2 k cc v h1 h2)⟩
          obtain ⟨h1, h2⟩ := hE t ks ht w xs ys cs ds q hxs' hys' hk hq
          split at h
          · simp only [Option.some.injEq, Prod.mk.injEq] at h
            obtain ⟨rfl, rfl⟩ := h
            refine ⟨_, ?_, rfl⟩
            simp [eqGuard, h2, binOp, h1]
          · simp only [Option.some.injEq, Prod.mk.injEq] at h
            obtain ⟨rfl, rfl⟩ := h
            refine ⟨_, ?_, rfl⟩
            simp [eqGuard, h2, binOp, h1]
          · cases h
        · cases h
      · cases h
    · cases h
  · rename_i g xs
    have hx : PR w (Av c.X O ρ) (.im g xs) vx := hx
    obtain rfl : vy = .slice none 0 0 := hy
    split at h
    · rename_i s1 s2 e z gg hti
      have hk := (hT t _ hti).kd
      simp only [KdOk] at hk
      split at h
      · simp only [Option.some.injEq, Prod.mk.injEq] at h
        obtain ⟨rfl, rfl⟩ := h
        have hp : 0 < xs.length := hp
        refine ⟨.bool false, ?_, rfl⟩
        cases hx with
        | none => exact absurd hp (by simp)
        | im b p cap f hcap hc hr => simp [eqGuard_at_slice, binOp, run_equal_slice_nil _ _ _ _ _ _ hk]
      · simp only [Option.some.injEq, Prod.mk.injEq] at h
        obtain ⟨rfl, rfl⟩ := h
        have hp : 0 < xs.length := hp
        refine ⟨.bool true, ?_, rfl⟩
        cases hx with
        | none => exact absurd hp (by simp)
        | im b p cap f hcap hc hr => simp [eqGuard_at_slice, binOp, run_equal_slice_nil _ _ _ _ _ _ hk]
      · cases h
    · cases h
  · cases h

theorem unF_ok {u : UnOp} {x v : AV} {vx : Value} (hx : AR (CellR w c.X O ρ) x vx) (h : unF u x = some v) : ∃ cv, (Op.unary u vx).run c.P w = .ok cv w ∧ AR (CellR w c.X O ρ) v cv := by
  unfold unF at h
  split at h
  · rename_i k n
    obtain rfl : vx = .int k n := hx
    simp only [Option.some.injEq] at h
    subst h
    exact ⟨_, by simp [Op.unary, Op.intArith], rfl⟩
  · rename_i k n
    obtain rfl : vx = .int k n := hx
    simp only [Option.some.injEq] at h
    subst h
    exact ⟨_, by simp [Op.unary, Op.intBits, bits2], rfl⟩
  · obtain rfl : vx = .bool true := hx
    simp only [Option.some.injEq] at h
    subst h
    exact ⟨.bool false, by simp [Op.unary], rfl⟩
  · obtain rfl : vx = .bool false := hx
    simp only [Option.some.injEq] at h
    subst h
    exact ⟨.bool true, by simp [Op.unary], rfl⟩
  · rename_i b
    obtain rfl : vx = .bool b := hx
    simp only [Option.some.injEq] at h
    subst h
    exact ⟨.bool (!b), by simp [Op.unary], rfl⟩
  · cases h

end
end GV

/-
  Lists, read one element after the other. No condition beyond those named.
-/
import Derived.Test.YtlifofjaiigogaaXA
namespace GV
open Go
set_option linter.unusedSimpArgs false
set_option linter.unusedVariables false
set_option linter.unusedSectionVars false

section
variable {α : Type} [Inhabited α] {xs : List α} {p : α → Bool} {i : Nat}

theorem all_f (h : i < xs.length) (hp : p (el xs i) = false) : false = xs.all p := (all_of_el h hp).symm
theorem all_t (h : i < xs.length) (hp : p (el xs i) = true) (h' : (xs.take i).all p = true) : (xs.take (i + 1)).all p = true := by rw [all_take_succ _ h, hp, h']; rfl
theorem all_e (h : ¬ i < xs.length) (h' : (xs.take i).all p = true) : true = xs.all p := by rw [List.take_of_length_le (by omega)] at h'; exact h'.symm
theorem any_t (h : i < xs.length) (hp : p (el xs i) = true) : true = xs.any p := (any_of_el h hp).symm
theorem any_f (h : i < xs.length) (hp : p (el xs i) = false) (h' : (xs.take i).any p = false) : (xs.take (i + 1)).any p = false := by rw [any_take_succ _ h, hp, h']; rfl
theorem any_e (h : ¬ i < xs.length) (h' : (xs.take i).any p = false) : false = xs.any p := by rw [List.take_of_length_le (by omega)] at h'; exact h'.symm

theorem take_all (h : ¬ i < xs.length) : xs.take i = xs := List.take_of_length_le (by omega)
theorem take_len (h : i ≤ xs.length) : (xs.take i).length = i := by simp; omega

/-- two lists, compared one element after the other -/
theorem eq_f {ys : List α} (h : i < xs.length) (hp : el xs i ≠ el ys i) : ¬ xs = ys := fun e => hp (by rw [e])
theorem eq_t {ys : List α} (h : i < xs.length) (h2 : i < ys.length) (hp : el xs i = el ys i) (h' : xs.take i = ys.take i) : xs.take (i + 1) = ys.take (i + 1) := by
  rw [take_succ_el h, take_succ_el h2, hp, h']
theorem eq_e {ys : List α} (h : ¬ i < xs.length) (hl : xs.length = ys.length) (h' : xs.take i = ys.take i) : xs = ys := by
  rwa [List.take_of_length_le (by omega), List.take_of_length_le (by omega)] at h'

theorem el_append_left {ys : List α} (h : i < xs.length) : el (xs ++ ys) (i : Int) = el xs i := by unfold el; simp [List.getElem?_append_left h]
theorem set_mid {pre : List α} {y : α} (h : i < xs.length) (hp : pre.length = i) : (pre ++ xs.drop i).set i y = (pre ++ [y]) ++ xs.drop (i + 1) := by
  subst hp
  rw [List.drop_eq_getElem_cons h, List.set_append_right _ _ (Nat.le_refl _), Nat.sub_self, List.set_cons_zero, List.append_assoc]
  rfl
theorem el_set {y : α} (h : i < xs.length) : el (xs.set i y) (i : Int) = y := by unfold el; simp [h]
theorem el_mid {pre : List α} (h : i < xs.length) (hp : pre.length = i) : el (pre ++ xs.drop i) (i : Int) = el xs i := by
  subst hp
  rw [el_nat, el_nat, List.getD_eq_getElem?_getD, List.getElem?_append_right (Nat.le_refl _), Nat.sub_self, List.getElem?_drop, Nat.add_zero, ← List.getD_eq_getElem?_getD]
theorem el_append_len (y : α) : el (xs ++ [y]) (xs.length : Int) = y := by unfold el; simp
theorem mid_len {pre : List α} (h : i ≤ xs.length) (hp : pre.length = i) : (pre ++ xs.drop i).length = xs.length := by simp; omega
end

/-- what is left -/
def subF (l n : Int) : Int := if l - n < 0 then -1 else l - n
theorem subF_lt {l n : Int} : subF l n < 0 ↔ l < n := by unfold subF; split <;> omega
theorem subF_eq {l n : Int} (h : ¬ l < n) : subF l n = l - n := by unfold subF; rw [if_neg (by omega)]

theorem copy_step {α : Type} [Inhabited α] {xs ys : List α} {i : Nat} {y : α} (h : i < xs.length ∧ i < ys.length) (e : y = el xs (i : Int)) : (xs.take i ++ ys.drop i).set i y = xs.take (i + 1) ++ ys.drop (i + 1) := by
  rw [set_mid h.2 (by simp; omega), take_succ_el h.1, e]
theorem copy_end {α : Type} {xs ys : List α} {i : Nat} (h : ¬ i < xs.length ∧ ys.length = xs.length) : xs.take i ++ ys.drop i = xs := by
  rw [List.take_of_length_le (by omega), List.drop_eq_nil_of_le (by omega), List.append_nil]

/-- a list of consecutive marks -/
def mkL {α : Type} (s : Int) (g : Int → α) (n : Nat) (k : Int) : List α := (List.range n).map fun (i : Nat) => g (k + s * i)
theorem mkL_len {α : Type} (s : Int) (g : Int → α) (n : Nat) (k : Int) : (mkL s g n k).length = n := by simp [mkL]
theorem mkL_zero {α : Type} (s : Int) (g : Int → α) (k : Int) : mkL s g 0 k = [] := rfl
theorem mkL_succ {α : Type} (s : Int) (g : Int → α) (n : Nat) (k : Int) : mkL s g (n + 1) k = mkL s g n k ++ [g (k + s * n)] := by simp [mkL, List.range_succ]

theorem el_mkL {α : Type} [Inhabited α] (s : Int) (g : Int → α) {n i : Nat} (k : Int) (h : i < n) : el (mkL s g n k) (i : Int) = g (k + s * i) := by
  rw [el_nth (by rw [mkL_len]; exact h)]; simp [mkL]
theorem held_el {α : Type} [Inhabited α] {s : Int} {g : Int → α} {k : Int} {xs : List α} {i : Nat} (e : xs = mkL s g xs.length k) (h : i < xs.length) : el xs (i : Int) = g (k + s * i) := by
  have := el_mkL s g k h
  rwa [← e] at this
theorem held_t {α : Type} [Inhabited α] {s : Int} {g : Int → α} {k : Int} {xs : List α} {i : Nat} (h : i < xs.length) (h' : xs.take i = mkL s g i k) (e : el xs (i : Int) = g (k + s * i)) : xs.take (i + 1) = mkL s g (i + 1) k := by
  rw [take_succ_el h, mkL_succ, h', e]
theorem held_e {α : Type} {s : Int} {g : Int → α} {k : Int} {xs : List α} {i : Nat} (h : ¬ i < xs.length) (hi : i ≤ xs.length) (h' : xs.take i = mkL s g i k) : xs = mkL s g xs.length k := by
  have : i = xs.length := by omega
  subst this
  rwa [List.take_length] at h'
theorem held_mk {α : Type} (s : Int) (g : Int → α) (n : Nat) (k : Int) : mkL s g n k = mkL s g (mkL s g n k).length k := by rw [mkL_len]

/-- one argument is a list that is written, the other one a number -/
def conMark (g : GT) (F : List g.den → Int → Option Prop × List g.den × Int) : Con := ⟨[true, false], false, fun M xs => match M, xs with
  | [.seq g' ys], [.c (.sl 0 0), .c (.int .i64 k)] => if h : g' = g then (match F (h ▸ ys) k with | (p, zs, r) => some (p, [.seq g zs], .c (.int .i64 r))) else none
  | _, _ => none⟩

end GV

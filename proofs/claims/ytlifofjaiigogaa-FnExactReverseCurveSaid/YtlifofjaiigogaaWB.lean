/-
  Lists and numbers, for the laws. No condition beyond those named.
-/
import Derived.Test.YtlifofjaiigogaaWA
namespace GV
open Go
set_option linter.unusedSimpArgs false
set_option linter.unusedVariables false

instance : Inhabited Pt := ⟨dflt .pt⟩
instance : Inhabited Frac := ⟨dflt .frac⟩
instance : Inhabited Term := ⟨dflt .term⟩
instance : Inhabited Linear := ⟨dflt .linear⟩
instance : Inhabited Row := ⟨dflt .row⟩
instance : Inhabited System := ⟨dflt .system⟩
instance : Inhabited Cubic := ⟨dflt .cubic⟩
instance : Inhabited Quad := ⟨dflt .quad⟩
instance : Inhabited Knot := ⟨dflt .knot⟩
instance : Inhabited LoopT := ⟨dflt .loop⟩
instance : Inhabited Outline := ⟨dflt .outline⟩
instance : Inhabited Segm := ⟨dflt .segm⟩
instance : Inhabited Token := ⟨dflt .token⟩
instance : Inhabited Stmt := ⟨dflt .stmt⟩
instance : Inhabited Curve := ⟨dflt .curve⟩
instance : Inhabited Src := ⟨dflt .src⟩

theorem el_nat {α : Type} [Inhabited α] (xs : List α) (i : Nat) : el xs (i : Int) = xs.getD i default := by
  unfold el; simp

theorem el_nth {α : Type} [Inhabited α] {xs : List α} {i : Nat} (h : i < xs.length) : el xs (i : Int) = xs[i] := by
  rw [el_nat, List.getD_eq_getElem?_getD, List.getElem?_eq_getElem h]; rfl

theorem take_succ_el {α : Type} [Inhabited α] {xs : List α} {i : Nat} (h : i < xs.length) : xs.take (i + 1) = xs.take i ++ [el xs (i : Int)] := by
  rw [el_nth h, List.take_add_one, List.getElem?_eq_getElem h]; rfl

theorem all_take_succ {α : Type} [Inhabited α] {xs : List α} {i : Nat} (p : α → Bool) (h : i < xs.length) : (xs.take (i + 1)).all p = ((xs.take i).all p && p (el xs (i : Int))) := by
  rw [take_succ_el h, List.all_append]; simp

theorem all_of_el {α : Type} [Inhabited α] {xs : List α} {i : Nat} {p : α → Bool} (h : i < xs.length) (hp : p (el xs (i : Int)) = false) : xs.all p = false := by
  rw [el_nth h] at hp
  rw [List.all_eq_false]
  exact ⟨xs[i], List.getElem_mem h, by simp [hp]⟩

theorem any_take_succ {α : Type} [Inhabited α] {xs : List α} {i : Nat} (p : α → Bool) (h : i < xs.length) : (xs.take (i + 1)).any p = ((xs.take i).any p || p (el xs (i : Int))) := by
  rw [take_succ_el h, List.any_append]; simp

theorem any_of_el {α : Type} [Inhabited α] {xs : List α} {i : Nat} {p : α → Bool} (h : i < xs.length) (hp : p (el xs (i : Int)) = true) : xs.any p = true := by
  rw [el_nth h] at hp
  rw [List.any_eq_true]
  exact ⟨xs[i], List.getElem_mem h, hp⟩

theorem map_take_succ {α β : Type} [Inhabited α] {xs : List α} {i : Nat} (f : α → β) (h : i < xs.length) : (xs.take (i + 1)).map f = (xs.take i).map f ++ [f (el xs (i : Int))] := by
  rw [take_succ_el h, List.map_append]; rfl

theorem foldl_take_succ {α β : Type} [Inhabited α] {xs : List α} {i : Nat} (f : β → α → β) (b : β) (h : i < xs.length) : (xs.take (i + 1)).foldl f b = f ((xs.take i).foldl f b) (el xs (i : Int)) := by
  rw [take_succ_el h, List.foldl_append]; rfl

/-- a number that fits stays -/
theorem wrap_i64 {n : Int} (h : -9223372036854775808 ≤ n) (h' : n ≤ 9223372036854775807) : IntKind.i64.wrap n = n := by
  simp [IntKind.wrap, IntKind.bits, IntKind.signed]
  omega

end GV

/-
  The program's types, and how contracts stand together. No condition.
-/
import Derived.Test.YtdmgahhdjmjdiaaWD
import Derived.Test.YtdmgahhdjmjdiaaProg
import Derived.Test.YtdmgahhdjmjdiaaChecked
import Derived.KernelRfl
namespace GV
open Go Go.Proofs
set_option linter.unusedSimpArgs false
set_option linter.unusedVariables false

def tab : Tree := (.node 30 ⟨8, 64, (.struct [(0, 28), (2, 28), (4, 28), (6, 28)]), [.int .i64 0, .int .i64 0, .int .i64 0, .int .i64 0, .int .i64 0, .int .i64 0, .int .i64 0, .int .i64 0], (some .cubic)⟩ (.node 14 ⟨2, 24, (.struct [(0, 9), (1, 12)]), [.str, .int .u64 0], none⟩ (.node 8 ⟨4, 24, (.struct [(0, 2), (1, 3), (2, 4), (3, 6)]), [.int .i64 0, .int .i64 0, .bool false, .int .u8 0], none⟩ (.node 5 ⟨1, 1, (.int .u8), [.int .u8 0], (some .u8)⟩ (.node 3 ⟨1, 8, (.int .i64), [.int .i64 0], (some .int)⟩ (.node 2 ⟨1, 8, (.int .i64), [.int .i64 0], (some .int)⟩ .leaf .leaf) (.node 4 ⟨1, 1, .bool, [.bool false], (some .bool)⟩ .leaf .leaf)) (.node 7 ⟨4, 24, (.struct [(0, 2), (1, 3), (2, 4), (3, 6)]), [.int .i64 0, .int .i64 0, .bool false, .int .u8 0], none⟩ (.node 6 ⟨1, 1, (.int .u8), [.int .u8 0], none⟩ .leaf .leaf) .leaf)) (.node 11 ⟨1, 16, .str, [.str], none⟩ (.node 10 ⟨1, 16, .str, [.str], none⟩ (.node 9 ⟨1, 16, .str, [.str], (some .str)⟩ .leaf .leaf) .leaf) (.node 13 ⟨2, 24, (.struct [(0, 9), (1, 12)]), [.str, .int .u64 0], none⟩ (.node 12 ⟨1, 8, (.int .u64), [.int .u64 0], none⟩ .leaf .leaf) .leaf))) (.node 23 ⟨2, 16, (.struct [(0, 2), (1, 2)]), [.int .i64 0, .int .i64 0], none⟩ (.node 18 ⟨1, 8, (.struct [(0, 17)]), [.other], none⟩ (.node 16 ⟨1, 8, (.ptr 112), [.other], none⟩ (.node 15 ⟨1, 8, (.ptr 109), [.other], none⟩ .leaf .leaf) (.node 17 ⟨1, 8, (.ptr 122), [.other], none⟩ .leaf .leaf)) (.node 21 ⟨1, 4, (.int .i32), [.int .i32 0], none⟩ (.node 19 ⟨1, 8, (.struct [(0, 17)]), [.other], none⟩ .leaf .leaf) .leaf)) (.node 26 ⟨8, 64, (.struct [(0, 24), (2, 24), (4, 24), (6, 24)]), [.int .i64 0, .int .i64 0, .int .i64 0, .int .i64 0, .int .i64 0, .int .i64 0, .int .i64 0, .int .i64 0], (some .cubic)⟩ (.node 25 ⟨8, 64, (.struct [(0, 24), (2, 24), (4, 24), (6, 24)]), [.int .i64 0, .int .i64 0, .int .i64 0, .int .i64 0, .int .i64 0, .int .i64 0, .int .i64 0, .int .i64 0], none⟩ (.node 24 ⟨2, 16, (.struct [(0, 2), (1, 2)]), [.int .i64 0, .int .i64 0], (some .pt)⟩ .leaf .leaf) .leaf) (.node 29 ⟨8, 64, (.struct [(0, 28), (2, 28), (4, 28), (6, 28)]), [.int .i64 0, .int .i64 0, .int .i64 0, .int .i64 0, .int .i64 0, .int .i64 0, .int .i64 0, .int .i64 0], none⟩ (.node 28 ⟨2, 16, (.struct [(0, 2), (1, 2)]), [.int .i64 0, .int .i64 0], (some .pt)⟩ .leaf .leaf) .leaf)))) (.node 109 ⟨4, 40, (.struct [(0, 17), (1, 17), (2, 17), (3, 9)]), [.other, .other, .other, .str], none⟩ (.node 66 ⟨1, 24, (.slice 9), [.nil], none⟩ (.node 49 ⟨6, 48, (.struct [(0, 28), (2, 28), (4, 28)]), [.int .i64 0, .int .i64 0, .int .i64 0, .int .i64 0, .int .i64 0, .int .i64 0], (some .quad)⟩ (.node 45 ⟨6, 48, (.struct [(0, 24), (2, 24), (4, 24)]), [.int .i64 0, .int .i64 0, .int .i64 0, .int .i64 0, .int .i64 0, .int .i64 0], (some .quad)⟩ (.node 44 ⟨6, 48, (.struct [(0, 24), (2, 24), (4, 24)]), [.int .i64 0, .int .i64 0, .int .i64 0, .int .i64 0, .int .i64 0, .int .i64 0], none⟩ .leaf .leaf) (.node 48 ⟨6, 48, (.struct [(0, 28), (2, 28), (4, 28)]), [.int .i64 0, .int .i64 0, .int .i64 0, .int .i64 0, .int .i64 0, .int .i64 0], none⟩ .leaf .leaf)) (.node 61 ⟨1, 24, (.slice 49), [.nil], none⟩ (.node 54 ⟨1, 24, (.slice 28), [.nil], none⟩ .leaf .leaf) .leaf)) (.node 86 ⟨1, 8, (.int .u64), [.int .u64 0], none⟩ (.node 84 ⟨1, 8, (.ptr 49), [.other], none⟩ (.node 68 ⟨1, 8, (.ptr 30), [.other], none⟩ .leaf .leaf) .leaf) (.node 108 ⟨4, 40, (.struct [(0, 17), (1, 17), (2, 17), (3, 9)]), [.other, .other, .other, .str], none⟩ (.node 99 ⟨1, 24, (.slice 2), [.nil], (some .ints)⟩ .leaf .leaf) .leaf))) (.node 116 ⟨1, 1, (.int .u8), [.int .u8 0], none⟩ (.node 112 ⟨0, 0, (.struct [(0, 110)]), [], none⟩ (.node 111 ⟨0, 0, (.struct [(0, 110)]), [], none⟩ (.node 110 ⟨0, 0, (.array 0 16), [], none⟩ .leaf .leaf) .leaf) (.node 115 ⟨1, 1, (.int .u8), [.int .u8 0], none⟩ (.node 114 ⟨1, 4, (.int .u32), [.int .u32 0], none⟩ .leaf .leaf) .leaf)) (.node 120 ⟨1, 4, (.int .i32), [.int .i32 0], none⟩ (.node 119 ⟨1, 4, (.int .i32), [.int .i32 0], none⟩ (.node 118 ⟨1, 8, (.ptr 5), [.other], none⟩ .leaf .leaf) .leaf) (.node 122 ⟨11, 48, (.struct [(0, 12), (1, 12), (2, 114), (3, 115), (4, 5), (5, 5), (6, 116), (7, 117), (8, 118), (9, 119), (10, 120)]), [.int .u64 0, .int .u64 0, .int .u32 0, .int .u8 0, .int .u8 0, .int .u8 0, .int .u8 0, .other, .other, .int .i32 0, .int .i32 0], none⟩ (.node 121 ⟨11, 48, (.struct [(0, 12), (1, 12), (2, 114), (3, 115), (4, 5), (5, 5), (6, 116), (7, 117), (8, 118), (9, 119), (10, 120)]), [.int .u64 0, .int .u64 0, .int .u32 0, .int .u8 0, .int .u8 0, .int .u8 0, .int .u8 0, .other, .other, .int .i32 0, .int .i32 0], none⟩ .leaf .leaf) .leaf)))))
theorem tab_ok : TabOk Try.prog tab := treeB_ok (by kernel_rfl)
theorem mix_ok : Try.prog.follows .mixedOrders = true := by kernel_rfl
def eqt : List (Nat × List LK) := [(7, [.int, .int, .bool, .int]), (8, [.int, .int, .bool, .int]), (23, [.int, .int]), (24, [.int, .int]), (25, [.int, .int, .int, .int, .int, .int, .int, .int]), (26, [.int, .int, .int, .int, .int, .int, .int, .int]), (28, [.int, .int]), (29, [.int, .int, .int, .int, .int, .int, .int, .int]), (30, [.int, .int, .int, .int, .int, .int, .int, .int]), (44, [.int, .int, .int, .int, .int, .int]), (45, [.int, .int, .int, .int, .int, .int]), (48, [.int, .int, .int, .int, .int, .int]), (49, [.int, .int, .int, .int, .int, .int])]
theorem eqt_ok : eqB Try.prog tab eqt = true := by kernel_rfl
theorem eq_ok {E : Env} (h : E.eqt = eqt) : EqsOk Try.prog E := fun t ks e => eqB_ok (E := E) tab_ok eqt_ok t ks (by rwa [h] at e)

def con0 : Nat → Option Con := fun _ => none
def conCons (n : Nat) (K : Con) (r : Nat → Option Con) : Nat → Option Con := fun g => match Nat.beq g n with
  | true => some K
  | false => r g
theorem con0_ok : ∀ g D, con0 g = some D → COk Try.prog g D := fun g D h => by cases h
theorem con_cons {n : Nat} {K : Con} {r : Nat → Option Con} (h : COk Try.prog n K) (hr : ∀ g D, r g = some D → COk Try.prog g D) : ∀ g D, conCons n K r g = some D → COk Try.prog g D := by
  intro g D e
  unfold conCons at e
  split at e
  · rename_i hb
    have := Nat.eq_of_beq_eq_true hb
    subst this
    cases e
    exact h
  · exact hr g D e
end GV

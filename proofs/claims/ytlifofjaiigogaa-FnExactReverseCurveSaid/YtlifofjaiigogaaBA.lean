/-
  The program's types, and how contracts stand together. No condition.
-/
import Derived.Test.YtlifofjaiigogaaWD
import Derived.Test.YtlifofjaiigogaaProg
import Derived.Test.YtlifofjaiigogaaChecked
import Derived.KernelRfl
namespace GV
open Go Go.Proofs
set_option linter.unusedSimpArgs false
set_option linter.unusedVariables false

def tab : Tree := (.node 40 ⟨1, 24, (.slice 90), [.nil], none⟩ (.node 17 ⟨1, 8, (.ptr 150), [.other], none⟩ (.node 9 ⟨1, 16, .str, [.str], (some .str)⟩ (.node 5 ⟨1, 1, (.int .u8), [.int .u8 0], (some .u8)⟩ (.node 3 ⟨1, 8, (.int .i64), [.int .i64 0], (some .int)⟩ (.node 2 ⟨1, 8, (.int .i64), [.int .i64 0], (some .int)⟩ .leaf .leaf) (.node 4 ⟨1, 1, .bool, [.bool false], (some .bool)⟩ .leaf .leaf)) (.node 7 ⟨4, 24, (.struct [(0, 2), (1, 3), (2, 4), (3, 6)]), [.int .i64 0, .int .i64 0, .bool false, .int .u8 0], none⟩ (.node 6 ⟨1, 1, (.int .u8), [.int .u8 0], none⟩ .leaf .leaf) (.node 8 ⟨4, 24, (.struct [(0, 2), (1, 3), (2, 4), (3, 6)]), [.int .i64 0, .int .i64 0, .bool false, .int .u8 0], none⟩ .leaf .leaf))) (.node 13 ⟨2, 24, (.struct [(0, 9), (1, 12)]), [.str, .int .u64 0], none⟩ (.node 11 ⟨1, 16, .str, [.str], none⟩ (.node 10 ⟨1, 16, .str, [.str], none⟩ .leaf .leaf) (.node 12 ⟨1, 8, (.int .u64), [.int .u64 0], none⟩ .leaf .leaf)) (.node 15 ⟨1, 8, (.ptr 137), [.other], none⟩ (.node 14 ⟨2, 24, (.struct [(0, 9), (1, 12)]), [.str, .int .u64 0], none⟩ .leaf .leaf) (.node 16 ⟨1, 8, (.ptr 140), [.other], none⟩ .leaf .leaf)))) (.node 26 ⟨9, 80, (.struct [(0, 22), (1, 4), (2, 2), (3, 4), (4, 4), (5, 24), (7, 24)]), [.nil, .bool false, .int .i64 0, .bool false, .bool false, .int .i64 0, .int .i64 0, .int .i64 0, .int .i64 0], (some .curve)⟩ (.node 22 ⟨1, 24, (.slice 24), [.nil], none⟩ (.node 19 ⟨1, 8, (.struct [(0, 17)]), [.other], none⟩ (.node 18 ⟨1, 8, (.struct [(0, 17)]), [.other], none⟩ .leaf .leaf) (.node 21 ⟨1, 4, (.int .i32), [.int .i32 0], none⟩ .leaf .leaf)) (.node 24 ⟨2, 16, (.struct [(0, 2), (1, 2)]), [.int .i64 0, .int .i64 0], (some .pt)⟩ (.node 23 ⟨2, 16, (.struct [(0, 2), (1, 2)]), [.int .i64 0, .int .i64 0], none⟩ .leaf .leaf) (.node 25 ⟨9, 80, (.struct [(0, 22), (1, 4), (2, 2), (3, 4), (4, 4), (5, 24), (7, 24)]), [.nil, .bool false, .int .i64 0, .bool false, .bool false, .int .i64 0, .int .i64 0, .int .i64 0, .int .i64 0], none⟩ .leaf .leaf))) (.node 32 ⟨9, 80, (.struct [(0, 29), (1, 4), (2, 2), (3, 4), (4, 4), (5, 30), (7, 30)]), [.nil, .bool false, .int .i64 0, .bool false, .bool false, .int .i64 0, .int .i64 0, .int .i64 0, .int .i64 0], (some .curve)⟩ (.node 30 ⟨2, 16, (.struct [(0, 2), (1, 2)]), [.int .i64 0, .int .i64 0], (some .pt)⟩ (.node 29 ⟨1, 24, (.slice 30), [.nil], none⟩ .leaf .leaf) (.node 31 ⟨9, 80, (.struct [(0, 29), (1, 4), (2, 2), (3, 4), (4, 4), (5, 30), (7, 30)]), [.nil, .bool false, .int .i64 0, .bool false, .bool false, .int .i64 0, .int .i64 0, .int .i64 0, .int .i64 0], none⟩ .leaf .leaf)) (.node 36 ⟨1, 24, (.struct [(0, 35)]), [.nil], none⟩ (.node 35 ⟨1, 24, (.slice 124), [.nil], none⟩ .leaf .leaf) (.node 37 ⟨1, 24, (.struct [(0, 35)]), [.nil], (some .loop)⟩ .leaf .leaf))))) (.node 124 ⟨3, 24, (.struct [(0, 24), (2, 4)]), [.int .i64 0, .int .i64 0, .bool false], (some .knot)⟩ (.node 55 ⟨1, 24, (.struct [(0, 53)]), [.nil], (some .outline)⟩ (.node 49 ⟨1, 24, (.struct [(0, 48)]), [.nil], none⟩ (.node 42 ⟨1, 24, (.struct [(0, 40)]), [.nil], (some .loop)⟩ (.node 41 ⟨1, 24, (.struct [(0, 40)]), [.nil], none⟩ .leaf .leaf) (.node 48 ⟨1, 24, (.slice 37), [.nil], none⟩ .leaf .leaf)) (.node 53 ⟨1, 24, (.slice 42), [.nil], none⟩ (.node 50 ⟨1, 24, (.struct [(0, 48)]), [.nil], (some .outline)⟩ .leaf .leaf) (.node 54 ⟨1, 24, (.struct [(0, 53)]), [.nil], none⟩ .leaf .leaf))) (.node 90 ⟨3, 24, (.struct [(0, 30), (2, 4)]), [.int .i64 0, .int .i64 0, .bool false], (some .knot)⟩ (.node 87 ⟨1, 8, (.ptr 42), [.other], none⟩ (.node 70 ⟨1, 24, (.slice 2), [.nil], (some .ints)⟩ .leaf .leaf) (.node 89 ⟨3, 24, (.struct [(0, 30), (2, 4)]), [.int .i64 0, .int .i64 0, .bool false], none⟩ .leaf .leaf)) (.node 100 ⟨1, 8, (.ptr 55), [.other], none⟩ (.node 96 ⟨1, 8, (.ptr 32), [.other], none⟩ .leaf .leaf) (.node 123 ⟨3, 24, (.struct [(0, 24), (2, 4)]), [.int .i64 0, .int .i64 0, .bool false], none⟩ .leaf .leaf)))) (.node 143 ⟨1, 1, (.int .u8), [.int .u8 0], none⟩ (.node 138 ⟨0, 0, (.array 0 16), [], none⟩ (.node 136 ⟨4, 40, (.struct [(0, 17), (1, 17), (2, 17), (3, 9)]), [.other, .other, .other, .str], none⟩ (.node 129 ⟨1, 24, (.slice 70), [.nil], none⟩ .leaf .leaf) (.node 137 ⟨4, 40, (.struct [(0, 17), (1, 17), (2, 17), (3, 9)]), [.other, .other, .other, .str], none⟩ .leaf .leaf)) (.node 140 ⟨0, 0, (.struct [(0, 138)]), [], none⟩ (.node 139 ⟨0, 0, (.struct [(0, 138)]), [], none⟩ .leaf .leaf) (.node 142 ⟨1, 4, (.int .u32), [.int .u32 0], none⟩ .leaf .leaf))) (.node 148 ⟨1, 4, (.int .i32), [.int .i32 0], none⟩ (.node 146 ⟨1, 8, (.ptr 5), [.other], none⟩ (.node 144 ⟨1, 1, (.int .u8), [.int .u8 0], none⟩ .leaf .leaf) (.node 147 ⟨1, 4, (.int .i32), [.int .i32 0], none⟩ .leaf .leaf)) (.node 150 ⟨11, 48, (.struct [(0, 12), (1, 12), (2, 142), (3, 143), (4, 5), (5, 5), (6, 144), (7, 145), (8, 146), (9, 147), (10, 148)]), [.int .u64 0, .int .u64 0, .int .u32 0, .int .u8 0, .int .u8 0, .int .u8 0, .int .u8 0, .other, .other, .int .i32 0, .int .i32 0], none⟩ (.node 149 ⟨11, 48, (.struct [(0, 12), (1, 12), (2, 142), (3, 143), (4, 5), (5, 5), (6, 144), (7, 145), (8, 146), (9, 147), (10, 148)]), [.int .u64 0, .int .u64 0, .int .u32 0, .int .u8 0, .int .u8 0, .int .u8 0, .int .u8 0, .other, .other, .int .i32 0, .int .i32 0], none⟩ .leaf .leaf) .leaf)))))
theorem tab_ok : TabOk Try.prog tab := treeB_ok (by kernel_rfl)
theorem mix_ok : Try.prog.follows .mixedOrders = true := by kernel_rfl
def eqt : List (Nat × List LK) := [(7, [.int, .int, .bool, .int]), (8, [.int, .int, .bool, .int]), (23, [.int, .int]), (24, [.int, .int]), (30, [.int, .int]), (89, [.int, .int, .bool]), (90, [.int, .int, .bool]), (123, [.int, .int, .bool]), (124, [.int, .int, .bool])]
theorem eqt_ok : eqB Try.prog tab eqt = true := by kernel_rfl
theorem eq_ok {E : Env} (h : E.eqt = eqt) : EqsOk Try.prog E := fun t ks e => eqB_ok (E := E) tab_ok eqt_ok t ks (by rwa [h] at e)

def con0 : Nat → Option Con := fun _ => none
def conCons (n : Nat) (K : Con) (r : Nat → Option Con) : Nat → Option Con := fun g => match Nat.beq g n with
  | true => some K
  | false => r g
theorem con0_ok : ∀ g D, con0 g = some D → COk Try.prog g D := fun g D h => by cases h
theorem con_cons {n : Nat} {K : Con} {r : Nat → Option Con} (h : COk Try.prog n K) (hr : ∀ g D, r g = some D → COk Try.prog g D) : ∀ g D, conCons n K r g = some D → COk Try.prog g D := by
  intro g D e
  unfold conCons at e
  split at e
  · rename_i hb
    have := Nat.eq_of_beq_eq_true hb
    subst this
    cases e
    exact h
  · exact hr g D e
end GV

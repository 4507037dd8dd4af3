/-
  Contracts: keywords. No condition beyond those named.
-/
import Derived.Test.YtdmgahhdjmjdiaaCA
import Derived.Test.YtdmgahhdjmjdiaaXB
namespace GV
open Go Go.Proofs
set_option linter.unusedSimpArgs false
set_option linter.unusedVariables false

/-- the keywords, each as its bytes -/
def kws : List Bytes := [[97, 110, 99, 104, 111, 114], [98, 111, 120], [99, 121, 99, 108, 101], [101, 110, 100], [101, 114, 97, 115, 101], [102, 105, 108, 108], [103, 108, 121, 112, 104], [108, 101, 116], [112, 97, 114, 116], [112, 97, 116, 104], [112, 101, 110], [114, 111, 117, 110, 100], [115, 116, 114, 111, 107, 101], [119, 105, 116, 104]]
def isKw (s : Bytes) : Bool := kws.any fun k => decide (s = k)


def K_impl_IsKeyword : Con := conOf false [.a .str] fun ⟨s, _⟩ =>
  (fun (s : List UInt8) =>
  (none, [], .c (.bool false (isKw s)))) s

def E_impl_IsKeyword : Env := { nt := 19, nm := 0, tab := tab, con := con0, eqt := eqt, fz := [], cuts := [] }

set_option maxRecDepth 1000000 in
set_option maxHeartbeats 4000000 in
theorem c_impl_IsKeyword : COk Try.prog 16 K_impl_IsKeyword := by
  refine cok_fun (E := E_impl_IsKeyword) Try.func16 rfl rfl (by rfl) mix_ok tab_ok (eq_ok rfl) con0_ok rfl rfl (by decide) ?_
  rintro ⟨(s : List UInt8), u0⟩ h0
  repeat' ((conv => whnf); first | exact True.intro | (refine (?_ : statOk _ = true); kernel_rfl) | (refine (?_ : dynOk _ _ = true); kernel_rfl) | refine And.intro ?_ ?_ | intro _)
  all_goals (try (conv => whnf))
  all_goals (try simp only [pOk, wrap_w, pre_iff, cast_L, cast_X, cut_lo, cut_hi, cut_both, cut_none, toNat_0, toNat_1, toNat_2, Int.toNat_natCast, List.length_cons, List.length_nil, Nat.zero_add, eq_Pt, eq_Frac, eq_Term, eq_Linear, eq_Row, eq_System, eq_Cubic, eq_Quad, eq_Knot, eq_LoopT, eq_Outline, eq_Segm, eq_Token, eq_Stmt, eq_Curve, decide_eq_true_eq, decide_eq_false_iff_not, ge_iff_le, gt_iff_lt, eta_Pt, eta_Frac, eta_Term, eta_Linear, eta_Row, eta_System, eta_Cubic, eta_Quad, eta_Knot, eta_LoopT, eta_Outline, eta_Segm, eta_Token, eta_Stmt, eta_Curve, Int.ofNat_lt, Int.ofNat_le, Bool.not_eq_true', Bool.not_eq_false'] at *)
  all_goals first | (subst_vars; rfl) | (simp only [isKw, kws, List.any_cons, List.any_nil, *, decide_false, Bool.or_false])



def K_spec_IsKeyword : Con := conOf false [.a .str] fun ⟨s, _⟩ =>
  (fun (s : List UInt8) =>
  (none, [], .c (.bool false (isKw s)))) s

def E_spec_IsKeyword : Env := { nt := 18, nm := 0, tab := tab, con := con0, eqt := eqt, fz := [], cuts := [] }

set_option maxRecDepth 1000000 in
set_option maxHeartbeats 4000000 in
theorem c_spec_IsKeyword : COk Try.prog 15 K_spec_IsKeyword := by
  refine cok_fun (E := E_spec_IsKeyword) Try.func15 rfl rfl (by rfl) mix_ok tab_ok (eq_ok rfl) con0_ok rfl rfl (by decide) ?_
  rintro ⟨(s : List UInt8), u0⟩ h0
  repeat' ((conv => whnf); first | exact True.intro | (refine (?_ : statOk _ = true); kernel_rfl) | (refine (?_ : dynOk _ _ = true); kernel_rfl) | refine And.intro ?_ ?_ | intro _)
  all_goals (try (conv => whnf))
  all_goals (try with_reducible rfl)
  refine aw_loopT (fun i : Nat => [(4, .c (.int .i64 i))]) (fun _ => []) (fun i => i ≤ kws.length ∧ (kws.take i).any (fun k => decide (s = k)) = false) (fun i => kws.length - i) 0 ?_ ?_ ?_
  · simp
  · repeat' ((conv => whnf); first | exact True.intro | (refine (?_ : statOk _ = true); kernel_rfl) | (refine (?_ : dynOk _ _ = true); kernel_rfl) | refine And.intro ?_ ?_ | intro _)
    all_goals (try (conv => whnf))
    all_goals (try with_reducible rfl)
    all_goals simp
  · rintro i ⟨hi, hj⟩
    have hlen : kws.length = 14 := rfl
    repeat' ((conv => whnf); first | exact True.intro | (refine (?_ : statOk _ = true); kernel_rfl) | (refine (?_ : dynOk _ _ = true); kernel_rfl) | refine And.intro ?_ ?_ | intro _)
    all_goals (try (conv => whnf))
    all_goals (try with_reducible rfl)
    all_goals (try (refine (⟨i + 1, ?_⟩ : Exists _)))
    repeat' ((conv => whnf); first | exact True.intro | (refine (?_ : statOk _ = true); kernel_rfl) | (refine (?_ : dynOk _ _ = true); kernel_rfl) | refine And.intro ?_ ?_ | intro _)
    all_goals (try (conv => whnf))
    all_goals (try with_reducible rfl)
    all_goals (try simp only [pOk, wrap_w, pre_iff, cast_L, cast_X, cut_lo, cut_hi, cut_both, cut_none, toNat_0, toNat_1, toNat_2, Int.toNat_natCast, List.length_cons, List.length_nil, Nat.zero_add, eq_Pt, eq_Frac, eq_Term, eq_Linear, eq_Row, eq_System, eq_Cubic, eq_Quad, eq_Knot, eq_LoopT, eq_Outline, eq_Segm, eq_Token, eq_Stmt, eq_Curve, decide_eq_true_eq, decide_eq_false_iff_not, ge_iff_le, gt_iff_lt, eta_Pt, eta_Frac, eta_Term, eta_Linear, eta_Row, eta_System, eta_Cubic, eta_Quad, eta_Knot, eta_LoopT, eta_Outline, eta_Segm, eta_Token, eta_Stmt, eta_Curve, Int.ofNat_lt, Int.ofNat_le, Bool.not_eq_true', Bool.not_eq_false'] at *)
    all_goals first | omega | (rw [w_succ]; omega) | skip
    · rename_i h
      exact any_t (xs := kws) (by omega) (decide_eq_true h.symm)
    · rename_i h
      exact ⟨by omega, any_f (xs := kws) (by omega) (decide_eq_false fun e => h e.symm) hj⟩
    · exact any_e (xs := kws) (by omega) hj

end GV

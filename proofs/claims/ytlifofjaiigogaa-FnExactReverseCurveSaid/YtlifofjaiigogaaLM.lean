/-
  Contracts of the laws of curves: turned round. No condition beyond those named.
-/
import Derived.Test.YtlifofjaiigogaaCQ
namespace GV
open Go Go.Proofs
set_option linter.unusedSimpArgs false
set_option linter.unusedVariables false

theorem revC_len (c : Curve) : (revC c).Knots.length ≤ c.Knots.length := by
  unfold revC
  split
  · simp
  · simp


def K_laws_FnExactReverseCurve : Con := conOf false [.a .curve] fun ⟨c, _⟩ =>
  (fun (c : Curve) =>
  (none, [], .c (.bool false true))) c

def E_laws_FnExactReverseCurve : Env := { nt := 96, nm := 0, tab := tab, con := (conCons 15 K_laws_szCurve (conCons 17 K_laws_toCurve (conCons 39 K_spec_ReverseCurve (conCons 40 K_impl_ReverseCurve (conCons 19 K_laws_eqCurve (conCons 37 K_laws_markCurve (conCons 38 K_laws_heldCurve con0))))))), eqt := eqt, fz := [], cuts := [] }

set_option maxRecDepth 1000000 in
set_option maxHeartbeats 4000000 in
theorem c_laws_FnExactReverseCurve : COk Try.prog 9 K_laws_FnExactReverseCurve := by
  refine cok_fun (E := E_laws_FnExactReverseCurve) Try.func9 rfl rfl (by rfl) mix_ok tab_ok (eq_ok rfl) (con_cons c_laws_szCurve (con_cons c_laws_toCurve (con_cons c_spec_ReverseCurve (con_cons c_impl_ReverseCurve (con_cons c_laws_eqCurve (con_cons c_laws_markCurve (con_cons c_laws_heldCurve con0_ok))))))) rfl rfl (by decide) ?_
  rintro ⟨(c : Curve), u0⟩ h0
  repeat' ((conv => whnf); first | exact True.intro | (refine (?_ : statOk _ = true); kernel_rfl) | (refine (?_ : dynOk _ _ = true); kernel_rfl) | refine And.intro ?_ ?_ | intro _)
  all_goals (try (conv => whnf))
  all_goals (try simp only [pOk, wrap_w, pre_iff, cast_L, cast_X, cut_lo, cut_hi, cut_both, cut_none, toNat_0, toNat_1, toNat_2, Int.toNat_natCast, List.length_cons, List.length_nil, Nat.zero_add, eq_Pt, eq_Frac, eq_Term, eq_Linear, eq_Row, eq_System, eq_Cubic, eq_Quad, eq_Knot, eq_LoopT, eq_Outline, eq_Segm, eq_Token, eq_Stmt, eq_Curve, decide_eq_true_eq, decide_eq_false_iff_not, ge_iff_le, gt_iff_lt, eta_Pt, eta_Frac, eta_Term, eta_Linear, eta_Row, eta_System, eta_Cubic, eta_Quad, eta_Knot, eta_LoopT, eta_Outline, eta_Segm, eta_Token, eta_Stmt, eta_Curve, Int.ofNat_lt, Int.ofNat_le, Bool.not_eq_true', Bool.not_eq_false'] at *)
  all_goals (try dsimp only at *)
  all_goals (have hlen := revC_len c)
  all_goals (try simp only [subF_lt] at *)
  all_goals (try simp only [mkL_len, if_true, eq_self] at *)
  all_goals first | omega | (rw [subF_eq (by assumption)]; omega) | (simp_all [mkL_len]; done) | trace_state


end GV

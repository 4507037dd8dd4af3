/-
  Contracts of the laws of curves: rows. No condition beyond those named.
-/
import Derived.Test.YtlifofjaiigogaaCO
import Derived.Test.YtlifofjaiigogaaCP
namespace GV
open Go Go.Proofs
set_option linter.unusedSimpArgs false
set_option linter.unusedVariables false

theorem rowF_len (c : Curve) (k : Int) : (rowF c k).length = c.Knots.length := by
  unfold rowF zs
  repeat' split
  all_goals simp
theorem rowC_len (c : Curve) (k : Int) : (rowC c k).length ≤ c.Knots.length := by
  unfold rowC
  split
  · rw [rowF_len]; omega
  · simp


def K_laws_FnExactCurveRow : Con := conOf false [.a .curve, .a .int] fun ⟨c, k, _⟩ =>
  (fun (c : Curve) (k : Int) =>
  (none, [], .c (.bool false true))) c k

def E_laws_FnExactCurveRow : Env := { nt := 101, nm := 0, tab := tab, con := (conCons 15 K_laws_szCurve (conCons 17 K_laws_toCurve (conCons 44 K_spec_CurveRow (conCons 45 K_impl_CurveRow (conCons 46 K_laws_eqInt64S (conCons 19 K_laws_eqCurve (conCons 37 K_laws_markCurve (conCons 47 K_laws_markInt64S (conCons 48 K_laws_heldInt64S con0))))))))), eqt := eqt, fz := [], cuts := [] }

set_option maxRecDepth 1000000 in
set_option maxHeartbeats 4000000 in
theorem c_laws_FnExactCurveRow : COk Try.prog 11 K_laws_FnExactCurveRow := by
  refine cok_fun (E := E_laws_FnExactCurveRow) Try.func11 rfl rfl (by rfl) mix_ok tab_ok (eq_ok rfl) (con_cons c_laws_szCurve (con_cons c_laws_toCurve (con_cons c_spec_CurveRow (con_cons c_impl_CurveRow (con_cons c_laws_eqInt64S (con_cons c_laws_eqCurve (con_cons c_laws_markCurve (con_cons c_laws_markInt64S (con_cons c_laws_heldInt64S con0_ok))))))))) rfl rfl (by decide) ?_
  rintro ⟨(c : Curve), (k : Int), u0⟩ h0
  repeat' ((conv => whnf); first | exact True.intro | (refine (?_ : statOk _ = true); kernel_rfl) | (refine (?_ : dynOk _ _ = true); kernel_rfl) | refine And.intro ?_ ?_ | intro _)
  all_goals (try (conv => whnf))
  all_goals (try simp only [pOk, wrap_w, pre_iff, cast_L, cast_X, cut_lo, cut_hi, cut_both, cut_none, toNat_0, toNat_1, toNat_2, Int.toNat_natCast, List.length_cons, List.length_nil, Nat.zero_add, eq_Pt, eq_Frac, eq_Term, eq_Linear, eq_Row, eq_System, eq_Cubic, eq_Quad, eq_Knot, eq_LoopT, eq_Outline, eq_Segm, eq_Token, eq_Stmt, eq_Curve, decide_eq_true_eq, decide_eq_false_iff_not, ge_iff_le, gt_iff_lt, eta_Pt, eta_Frac, eta_Term, eta_Linear, eta_Row, eta_System, eta_Cubic, eta_Quad, eta_Knot, eta_LoopT, eta_Outline, eta_Segm, eta_Token, eta_Stmt, eta_Curve, Int.ofNat_lt, Int.ofNat_le, Bool.not_eq_true', Bool.not_eq_false'] at *)
  all_goals (try dsimp only at *)
  all_goals (have hlen := rowC_len c k)
  all_goals (try simp only [subF_lt] at *)
  all_goals (try simp only [mkL_len, if_true, eq_self] at *)
  all_goals first | omega | (rw [subF_eq (by assumption)]; omega) | (simp_all [mkL_len]; done) | trace_state


end GV

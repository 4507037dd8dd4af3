/-
  Contracts of the laws of outlines. No condition beyond those named.
-/
import Derived.Test.YtlifofjaiigogaaCK
namespace GV
open Go Go.Proofs
set_option linter.unusedSimpArgs false
set_option linter.unusedVariables false


def K_laws_FnExactValidOutline : Con := conOf false [.a .outline] fun ⟨o, _⟩ =>
  (fun (o : Outline) =>
  (none, [], .c (.bool false true))) o

def E_laws_FnExactValidOutline : Env := { nt := 27, nm := 0, tab := tab, con := (conCons 27 K_laws_szOutline (conCons 29 K_laws_toOutline (conCons 28 K_spec_ValidOutline (conCons 30 K_impl_ValidOutline (conCons 31 K_laws_eqOutline con0))))), eqt := eqt, fz := [], cuts := [] }

set_option maxRecDepth 1000000 in
set_option maxHeartbeats 4000000 in
theorem c_laws_FnExactValidOutline : COk Try.prog 6 K_laws_FnExactValidOutline := by
  refine cok_fun (E := E_laws_FnExactValidOutline) Try.func6 rfl rfl (by rfl) mix_ok tab_ok (eq_ok rfl) (con_cons c_laws_szOutline (con_cons c_laws_toOutline (con_cons c_spec_ValidOutline (con_cons c_impl_ValidOutline (con_cons c_laws_eqOutline con0_ok))))) rfl rfl (by decide) ?_
  rintro ⟨(o : Outline), u0⟩ h0
  repeat' ((conv => whnf); first | exact True.intro | (refine (?_ : statOk _ = true); kernel_rfl) | (refine (?_ : dynOk _ _ = true); kernel_rfl) | refine And.intro ?_ ?_ | intro _)
  all_goals (try (conv => whnf))
  all_goals (try simp only [pOk, wrap_w, pre_iff, cast_L, cast_X, cut_lo, cut_hi, cut_both, cut_none, toNat_0, toNat_1, toNat_2, Int.toNat_natCast, List.length_cons, List.length_nil, Nat.zero_add, eq_Pt, eq_Frac, eq_Term, eq_Linear, eq_Row, eq_System, eq_Cubic, eq_Quad, eq_Knot, eq_LoopT, eq_Outline, eq_Segm, eq_Token, eq_Stmt, eq_Curve, decide_eq_true_eq, decide_eq_false_iff_not, ge_iff_le, gt_iff_lt, eta_Pt, eta_Frac, eta_Term, eta_Linear, eta_Row, eta_System, eta_Cubic, eta_Quad, eta_Knot, eta_LoopT, eta_Outline, eta_Segm, eta_Token, eta_Stmt, eta_Curve, Int.ofNat_lt, Int.ofNat_le, Bool.not_eq_true', Bool.not_eq_false'] at *)
  all_goals (try simp only [subF_lt] at *)
  all_goals first | omega | (rw [subF_eq (by assumption)]; omega) | (simp_all; done) | trace_state



def K_laws_FnExactSameOutline : Con := conOf false [.a .outline, .a .outline] fun ⟨a, b, _⟩ =>
  (fun (a : Outline) (b : Outline) =>
  (none, [], .c (.bool false true))) a b

def E_laws_FnExactSameOutline : Env := { nt := 45, nm := 0, tab := tab, con := (conCons 27 K_laws_szOutline (conCons 29 K_laws_toOutline (conCons 32 K_spec_SameOutline (conCons 33 K_impl_SameOutline (conCons 31 K_laws_eqOutline con0))))), eqt := eqt, fz := [], cuts := [] }

set_option maxRecDepth 1000000 in
set_option maxHeartbeats 4000000 in
theorem c_laws_FnExactSameOutline : COk Try.prog 7 K_laws_FnExactSameOutline := by
  refine cok_fun (E := E_laws_FnExactSameOutline) Try.func7 rfl rfl (by rfl) mix_ok tab_ok (eq_ok rfl) (con_cons c_laws_szOutline (con_cons c_laws_toOutline (con_cons c_spec_SameOutline (con_cons c_impl_SameOutline (con_cons c_laws_eqOutline con0_ok))))) rfl rfl (by decide) ?_
  rintro ⟨(a : Outline), (b : Outline), u0⟩ h0
  repeat' ((conv => whnf); first | exact True.intro | (refine (?_ : statOk _ = true); kernel_rfl) | (refine (?_ : dynOk _ _ = true); kernel_rfl) | refine And.intro ?_ ?_ | intro _)
  all_goals (try (conv => whnf))
  all_goals (try simp only [pOk, wrap_w, pre_iff, cast_L, cast_X, cut_lo, cut_hi, cut_both, cut_none, toNat_0, toNat_1, toNat_2, Int.toNat_natCast, List.length_cons, List.length_nil, Nat.zero_add, eq_Pt, eq_Frac, eq_Term, eq_Linear, eq_Row, eq_System, eq_Cubic, eq_Quad, eq_Knot, eq_LoopT, eq_Outline, eq_Segm, eq_Token, eq_Stmt, eq_Curve, decide_eq_true_eq, decide_eq_false_iff_not, ge_iff_le, gt_iff_lt, eta_Pt, eta_Frac, eta_Term, eta_Linear, eta_Row, eta_System, eta_Cubic, eta_Quad, eta_Knot, eta_LoopT, eta_Outline, eta_Segm, eta_Token, eta_Stmt, eta_Curve, Int.ofNat_lt, Int.ofNat_le, Bool.not_eq_true', Bool.not_eq_false'] at *)
  all_goals (try simp only [subF_lt] at *)
  all_goals first | omega | (rw [subF_eq (by assumption)]; omega) | (simp_all; done) | (rename_i h1 h2; rw [subF_eq h1] at *; omega) | trace_state


end GV

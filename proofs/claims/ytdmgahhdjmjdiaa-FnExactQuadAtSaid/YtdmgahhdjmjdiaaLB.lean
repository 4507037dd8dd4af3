/-
  Contracts of the laws of bounds, levels and points of curves. No condition beyond those named.
-/
import Derived.Test.YtdmgahhdjmjdiaaCC
import Derived.Test.YtdmgahhdjmjdiaaCE
namespace GV
open Go Go.Proofs
set_option linter.unusedSimpArgs false
set_option linter.unusedVariables false


def K_laws_FnExactCubicBounds : Con := conOf false [.a .cubic] fun ⟨c, _⟩ =>
  (fun (c : Cubic) =>
  (none, [], .c (.bool false true))) c

def E_laws_FnExactCubicBounds : Env := { nt := 38, nm := 0, tab := tab, con := (conCons 18 K_laws_toCubic (conCons 25 K_spec_CubicBounds (conCons 26 K_impl_CubicBounds (conCons 27 K_laws_eqPt con0)))), eqt := eqt, fz := [], cuts := [] }

set_option maxRecDepth 1000000 in
set_option maxHeartbeats 4000000 in
theorem c_laws_FnExactCubicBounds : COk Try.prog 7 K_laws_FnExactCubicBounds := by
  refine cok_fun (E := E_laws_FnExactCubicBounds) Try.func7 rfl rfl (by rfl) mix_ok tab_ok (eq_ok rfl) (con_cons c_laws_toCubic (con_cons c_spec_CubicBounds (con_cons c_impl_CubicBounds (con_cons c_laws_eqPt con0_ok)))) rfl rfl (by decide) ?_
  rintro ⟨(c : Cubic), u0⟩ h0
  repeat' ((conv => whnf); first | exact True.intro | (refine (?_ : statOk _ = true); kernel_rfl) | (refine (?_ : dynOk _ _ = true); kernel_rfl) | refine And.intro ?_ ?_ | intro _)
  all_goals (try (conv => whnf))
  all_goals (try simp only [pOk, wrap_w, pre_iff, cast_L, cast_X, cut_lo, cut_hi, cut_both, cut_none, toNat_0, toNat_1, toNat_2, Int.toNat_natCast, List.length_cons, List.length_nil, Nat.zero_add, eq_Pt, eq_Frac, eq_Term, eq_Linear, eq_Row, eq_System, eq_Cubic, eq_Quad, eq_Knot, eq_LoopT, eq_Outline, eq_Segm, eq_Token, eq_Stmt, eq_Curve, decide_eq_true_eq, decide_eq_false_iff_not, ge_iff_le, gt_iff_lt, eta_Pt, eta_Frac, eta_Term, eta_Linear, eta_Row, eta_System, eta_Cubic, eta_Quad, eta_Knot, eta_LoopT, eta_Outline, eta_Segm, eta_Token, eta_Stmt, eta_Curve, Int.ofNat_lt, Int.ofNat_le, Bool.not_eq_true', Bool.not_eq_false'] at *)
  all_goals first | omega | (simp_all; done) | (simp_all; omega) | grind



def K_laws_FnExactLevelFor : Con := conOf false [.a .cubic, .a .int] fun ⟨c, t, _⟩ =>
  (fun (c : Cubic) (t : Int) =>
  (none, [], .c (.bool false true))) c t

def E_laws_FnExactLevelFor : Env := { nt := 31, nm := 0, tab := tab, con := (conCons 18 K_laws_toCubic (conCons 28 K_spec_LevelFor (conCons 29 K_impl_LevelFor con0))), eqt := eqt, fz := [], cuts := [] }

set_option maxRecDepth 1000000 in
set_option maxHeartbeats 4000000 in
theorem c_laws_FnExactLevelFor : COk Try.prog 8 K_laws_FnExactLevelFor := by
  refine cok_fun (E := E_laws_FnExactLevelFor) Try.func8 rfl rfl (by rfl) mix_ok tab_ok (eq_ok rfl) (con_cons c_laws_toCubic (con_cons c_spec_LevelFor (con_cons c_impl_LevelFor con0_ok))) rfl rfl (by decide) ?_
  rintro ⟨(c : Cubic), (t : Int), u0⟩ h0
  repeat' ((conv => whnf); first | exact True.intro | (refine (?_ : statOk _ = true); kernel_rfl) | (refine (?_ : dynOk _ _ = true); kernel_rfl) | refine And.intro ?_ ?_ | intro _)
  all_goals (try (conv => whnf))
  all_goals (try simp only [pOk, wrap_w, pre_iff, cast_L, cast_X, cut_lo, cut_hi, cut_both, cut_none, toNat_0, toNat_1, toNat_2, Int.toNat_natCast, List.length_cons, List.length_nil, Nat.zero_add, eq_Pt, eq_Frac, eq_Term, eq_Linear, eq_Row, eq_System, eq_Cubic, eq_Quad, eq_Knot, eq_LoopT, eq_Outline, eq_Segm, eq_Token, eq_Stmt, eq_Curve, decide_eq_true_eq, decide_eq_false_iff_not, ge_iff_le, gt_iff_lt, eta_Pt, eta_Frac, eta_Term, eta_Linear, eta_Row, eta_System, eta_Cubic, eta_Quad, eta_Knot, eta_LoopT, eta_Outline, eta_Segm, eta_Token, eta_Stmt, eta_Curve, Int.ofNat_lt, Int.ofNat_le, Bool.not_eq_true', Bool.not_eq_false'] at *)
  all_goals first | omega | (simp_all; done) | (simp_all; omega) | grind



def K_laws_FnExactCubicAt : Con := conOf false [.a .cubic, .a .int, .a .int] fun ⟨c, k, l, _⟩ =>
  (fun (c : Cubic) (k : Int) (l : Int) =>
  (none, [], .c (.bool false true))) c k l

def E_laws_FnExactCubicAt : Env := { nt := 36, nm := 0, tab := tab, con := (conCons 18 K_laws_toCubic (conCons 35 K_spec_CubicAt (conCons 36 K_impl_CubicAt (conCons 27 K_laws_eqPt con0)))), eqt := eqt, fz := [], cuts := [] }

set_option maxRecDepth 1000000 in
set_option maxHeartbeats 4000000 in
theorem c_laws_FnExactCubicAt : COk Try.prog 11 K_laws_FnExactCubicAt := by
  refine cok_fun (E := E_laws_FnExactCubicAt) Try.func11 rfl rfl (by rfl) mix_ok tab_ok (eq_ok rfl) (con_cons c_laws_toCubic (con_cons c_spec_CubicAt (con_cons c_impl_CubicAt (con_cons c_laws_eqPt con0_ok)))) rfl rfl (by decide) ?_
  rintro ⟨(c : Cubic), (k : Int), (l : Int), u0⟩ h0
  repeat' ((conv => whnf); first | exact True.intro | (refine (?_ : statOk _ = true); kernel_rfl) | (refine (?_ : dynOk _ _ = true); kernel_rfl) | refine And.intro ?_ ?_ | intro _)
  all_goals (try (conv => whnf))
  all_goals (try simp only [pOk, wrap_w, pre_iff, cast_L, cast_X, cut_lo, cut_hi, cut_both, cut_none, toNat_0, toNat_1, toNat_2, Int.toNat_natCast, List.length_cons, List.length_nil, Nat.zero_add, eq_Pt, eq_Frac, eq_Term, eq_Linear, eq_Row, eq_System, eq_Cubic, eq_Quad, eq_Knot, eq_LoopT, eq_Outline, eq_Segm, eq_Token, eq_Stmt, eq_Curve, decide_eq_true_eq, decide_eq_false_iff_not, ge_iff_le, gt_iff_lt, eta_Pt, eta_Frac, eta_Term, eta_Linear, eta_Row, eta_System, eta_Cubic, eta_Quad, eta_Knot, eta_LoopT, eta_Outline, eta_Segm, eta_Token, eta_Stmt, eta_Curve, Int.ofNat_lt, Int.ofNat_le, Bool.not_eq_true', Bool.not_eq_false'] at *)
  all_goals first | omega | (simp_all; done) | (simp_all; omega) | grind



def K_laws_FnExactQuadAt : Con := conOf false [.a .quad, .a .int, .a .int] fun ⟨c, k, l, _⟩ =>
  (fun (c : Quad) (k : Int) (l : Int) =>
  (none, [], .c (.bool false true))) c k l

def E_laws_FnExactQuadAt : Env := { nt := 36, nm := 0, tab := tab, con := (conCons 33 K_laws_toQuad (conCons 32 K_spec_QuadAt (conCons 34 K_impl_QuadAt (conCons 27 K_laws_eqPt con0)))), eqt := eqt, fz := [], cuts := [] }

set_option maxRecDepth 1000000 in
set_option maxHeartbeats 4000000 in
theorem c_laws_FnExactQuadAt : COk Try.prog 10 K_laws_FnExactQuadAt := by
  refine cok_fun (E := E_laws_FnExactQuadAt) Try.func10 rfl rfl (by rfl) mix_ok tab_ok (eq_ok rfl) (con_cons c_laws_toQuad (con_cons c_spec_QuadAt (con_cons c_impl_QuadAt (con_cons c_laws_eqPt con0_ok)))) rfl rfl (by decide) ?_
  rintro ⟨(c : Quad), (k : Int), (l : Int), u0⟩ h0
  repeat' ((conv => whnf); first | exact True.intro | (refine (?_ : statOk _ = true); kernel_rfl) | (refine (?_ : dynOk _ _ = true); kernel_rfl) | refine And.intro ?_ ?_ | intro _)
  all_goals (try (conv => whnf))
  all_goals (try simp only [pOk, wrap_w, pre_iff, cast_L, cast_X, cut_lo, cut_hi, cut_both, cut_none, toNat_0, toNat_1, toNat_2, Int.toNat_natCast, List.length_cons, List.length_nil, Nat.zero_add, eq_Pt, eq_Frac, eq_Term, eq_Linear, eq_Row, eq_System, eq_Cubic, eq_Quad, eq_Knot, eq_LoopT, eq_Outline, eq_Segm, eq_Token, eq_Stmt, eq_Curve, decide_eq_true_eq, decide_eq_false_iff_not, ge_iff_le, gt_iff_lt, eta_Pt, eta_Frac, eta_Term, eta_Linear, eta_Row, eta_System, eta_Cubic, eta_Quad, eta_Knot, eta_LoopT, eta_Outline, eta_Segm, eta_Token, eta_Stmt, eta_Curve, Int.ofNat_lt, Int.ofNat_le, Bool.not_eq_true', Bool.not_eq_false'] at *)
  all_goals first | omega | (simp_all; done) | (simp_all; omega) | grind


end GV

/-
  Contracts of the laws of flattening. No condition beyond those named.
-/
import Derived.Test.YtdmgahhdjmjdiaaCC
import Derived.Test.YtdmgahhdjmjdiaaCF
namespace GV
open Go Go.Proofs
set_option linter.unusedSimpArgs false
set_option linter.unusedVariables false


def K_laws_FnExactFlattenCubic : Con := conOf false [.a .cubic, .a .int] fun ⟨c, t, _⟩ =>
  (fun (c : Cubic) (t : Int) =>
  (none, [], .c (.bool false true))) c t

def E_laws_FnExactFlattenCubic : Env := { nt := 71, nm := 0, tab := tab, con := (conCons 18 K_laws_toCubic (conCons 42 K_spec_FlattenCubic (conCons 43 K_impl_FlattenCubic (conCons 39 K_laws_eqPtS (conCons 40 K_laws_markPtS (conCons 41 K_laws_heldPtS con0)))))), eqt := eqt, fz := [], cuts := [] }

set_option maxRecDepth 1000000 in
set_option maxHeartbeats 4000000 in
theorem c_laws_FnExactFlattenCubic : COk Try.prog 13 K_laws_FnExactFlattenCubic := by
  refine cok_fun (E := E_laws_FnExactFlattenCubic) Try.func13 rfl rfl (by rfl) mix_ok tab_ok (eq_ok rfl) (con_cons c_laws_toCubic (con_cons c_spec_FlattenCubic (con_cons c_impl_FlattenCubic (con_cons c_laws_eqPtS (con_cons c_laws_markPtS (con_cons c_laws_heldPtS con0_ok)))))) rfl rfl (by decide) ?_
  rintro ⟨(c : Cubic), (t : Int), u0⟩ h0
  repeat' ((conv => whnf); first | exact True.intro | (refine (?_ : statOk _ = true); kernel_rfl) | (refine (?_ : dynOk _ _ = true); kernel_rfl) | refine And.intro ?_ ?_ | intro _)
  all_goals (try (conv => whnf))
  all_goals (try simp only [pOk, wrap_w, pre_iff, cast_L, cast_X, cut_lo, cut_hi, cut_both, cut_none, toNat_0, toNat_1, toNat_2, Int.toNat_natCast, List.length_cons, List.length_nil, Nat.zero_add, eq_Pt, eq_Frac, eq_Term, eq_Linear, eq_Row, eq_System, eq_Cubic, eq_Quad, eq_Knot, eq_LoopT, eq_Outline, eq_Segm, eq_Token, eq_Stmt, eq_Curve, decide_eq_true_eq, decide_eq_false_iff_not, ge_iff_le, gt_iff_lt, eta_Pt, eta_Frac, eta_Term, eta_Linear, eta_Row, eta_System, eta_Cubic, eta_Quad, eta_Knot, eta_LoopT, eta_Outline, eta_Segm, eta_Token, eta_Stmt, eta_Curve, Int.ofNat_lt, Int.ofNat_le, Bool.not_eq_true', Bool.not_eq_false'] at *)
  all_goals (have hlen := flC_len c t)
  all_goals (try simp only [mkL_len, if_true, eq_self] at *)
  all_goals first | omega | (simp_all [mkL_len]; done) | trace_state



def K_laws_FnExactFlattenQuad : Con := conOf false [.a .quad, .a .int] fun ⟨c, t, _⟩ =>
  (fun (c : Quad) (t : Int) =>
  (none, [], .c (.bool false true))) c t

def E_laws_FnExactFlattenQuad : Env := { nt := 71, nm := 0, tab := tab, con := (conCons 33 K_laws_toQuad (conCons 37 K_spec_FlattenQuad (conCons 38 K_impl_FlattenQuad (conCons 39 K_laws_eqPtS (conCons 40 K_laws_markPtS (conCons 41 K_laws_heldPtS con0)))))), eqt := eqt, fz := [], cuts := [] }

set_option maxRecDepth 1000000 in
set_option maxHeartbeats 4000000 in
theorem c_laws_FnExactFlattenQuad : COk Try.prog 12 K_laws_FnExactFlattenQuad := by
  refine cok_fun (E := E_laws_FnExactFlattenQuad) Try.func12 rfl rfl (by rfl) mix_ok tab_ok (eq_ok rfl) (con_cons c_laws_toQuad (con_cons c_spec_FlattenQuad (con_cons c_impl_FlattenQuad (con_cons c_laws_eqPtS (con_cons c_laws_markPtS (con_cons c_laws_heldPtS con0_ok)))))) rfl rfl (by decide) ?_
  rintro ⟨(c : Quad), (t : Int), u0⟩ h0
  repeat' ((conv => whnf); first | exact True.intro | (refine (?_ : statOk _ = true); kernel_rfl) | (refine (?_ : dynOk _ _ = true); kernel_rfl) | refine And.intro ?_ ?_ | intro _)
  all_goals (try (conv => whnf))
  all_goals (try simp only [pOk, wrap_w, pre_iff, cast_L, cast_X, cut_lo, cut_hi, cut_both, cut_none, toNat_0, toNat_1, toNat_2, Int.toNat_natCast, List.length_cons, List.length_nil, Nat.zero_add, eq_Pt, eq_Frac, eq_Term, eq_Linear, eq_Row, eq_System, eq_Cubic, eq_Quad, eq_Knot, eq_LoopT, eq_Outline, eq_Segm, eq_Token, eq_Stmt, eq_Curve, decide_eq_true_eq, decide_eq_false_iff_not, ge_iff_le, gt_iff_lt, eta_Pt, eta_Frac, eta_Term, eta_Linear, eta_Row, eta_System, eta_Cubic, eta_Quad, eta_Knot, eta_LoopT, eta_Outline, eta_Segm, eta_Token, eta_Stmt, eta_Curve, Int.ofNat_lt, Int.ofNat_le, Bool.not_eq_true', Bool.not_eq_false'] at *)
  all_goals (have hlen := flQ_len c t)
  all_goals (try simp only [mkL_len, if_true, eq_self] at *)
  all_goals first | omega | (simp_all [mkL_len]; done) | trace_state


end GV

/-
  Contracts: halves of a cubic. No condition beyond those named.
-/
import Derived.Test.YtdmgahhdjmjdiaaCB
namespace GV
open Go Go.Proofs
set_option linter.unusedSimpArgs false
set_option linter.unusedVariables false

def p8 (p : Pt) : Bool := vPt ⟨w (p.X * 8), w (p.Y * 8)⟩
def okH (c : Cubic) : Bool := [c.A, c.B, c.C, c.D].all p8
def comb (a b c d k l m n : Int) : Int := w (k * a + l * b + m * c + n * d)
def combP (q : Cubic) (k l m n : Int) : Pt := ⟨comb q.A.X q.B.X q.C.X q.D.X k l m n, comb q.A.Y q.B.Y q.C.Y q.D.Y k l m n⟩
def z3 : Cubic := ⟨⟨0, 0⟩, ⟨0, 0⟩, ⟨0, 0⟩, ⟨0, 0⟩⟩
def half1 (q : Cubic) : Cubic := if vCub q then (if okH q then ⟨combP q 8 0 0 0, combP q 4 4 0 0, combP q 2 4 2 0, combP q 1 3 3 1⟩ else z3) else z3
def half2 (q : Cubic) : Cubic := if vCub q then (if okH q then ⟨combP q 1 3 3 1, combP q 0 2 4 2, combP q 0 0 4 4, combP q 0 0 0 8⟩ else z3) else z3
def halfC (q : Cubic) : Int := if vCub q then (if okH q then 0 else 2) else 1

theorem half_no {q : Cubic} (h : vCub q = false) : half1 q = z3 ∧ half2 q = z3 ∧ halfC q = 1 := by simp [half1, half2, halfC, h]
theorem half_out {q : Cubic} (h : vCub q = true) (h' : okH q = false) : half1 q = z3 ∧ half2 q = z3 ∧ halfC q = 2 := by simp [half1, half2, halfC, h, h']
theorem half_in {q : Cubic} (h : vCub q = true) (h' : okH q = true) : half1 q = ⟨combP q 8 0 0 0, combP q 4 4 0 0, combP q 2 4 2 0, combP q 1 3 3 1⟩ ∧
    half2 q = ⟨combP q 1 3 3 1, combP q 0 2 4 2, combP q 0 0 4 4, combP q 0 0 0 8⟩ ∧ halfC q = 0 := by simp [half1, half2, halfC, h, h']


def K_spec_HalvesOf : Con := conOf false [.a .cubic] fun ⟨c, _⟩ =>
  (fun (c : Cubic) =>
  (none, [], .tup [(true, enc .cubic (half1 c)), (true, enc .cubic (half2 c)), (false, [.int .i64 (halfC c)])])) c

def E_spec_HalvesOf : Env := { nt := 85, nm := 0, tab := tab, con := (conCons 49 K_spec_l09Ok (conCons 61 K_spec_l09Times (conCons 60 K_spec_l03Ok (conCons 62 K_spec_l09Sum con0)))), eqt := eqt, fz := [], cuts := [] }

set_option maxRecDepth 1000000 in
set_option maxHeartbeats 4000000 in
theorem c_spec_HalvesOf : COk Try.prog 30 K_spec_HalvesOf := by
  refine cok_fun (E := E_spec_HalvesOf) Try.func30 rfl rfl (by rfl) mix_ok tab_ok (eq_ok rfl) (con_cons c_spec_l09Ok (con_cons c_spec_l09Times (con_cons c_spec_l03Ok (con_cons c_spec_l09Sum con0_ok)))) rfl rfl (by decide) ?_
  rintro ⟨(c : Cubic), u0⟩ h0
  repeat' ((conv => whnf); first | exact True.intro | (refine (?_ : statOk _ = true); kernel_rfl) | (refine (?_ : dynOk _ _ = true); kernel_rfl) | refine And.intro ?_ ?_ | intro _)
  all_goals (try (conv => whnf))
  all_goals (try with_reducible rfl)
  rotate_right 1
  · skip
    refine aw_loopT (fun i : Nat => [(6, .c (.int .i64 i))]) (fun _ => []) (fun i => i ≤ 4 ∧ ([c.A, c.B, c.C, c.D].take i).all p8 = true) (fun i => 4 - i) 0 ?_ ?_ ?_
    · simp
    · repeat' ((conv => whnf); first | exact True.intro | (refine (?_ : statOk _ = true); kernel_rfl) | (refine (?_ : dynOk _ _ = true); kernel_rfl) | refine And.intro ?_ ?_ | intro _)
      all_goals (try (conv => whnf))
      all_goals (try with_reducible rfl)
      all_goals simp
    · rintro i ⟨hi, hj⟩
      repeat' ((conv => whnf); first | exact True.intro | (refine (?_ : statOk _ = true); kernel_rfl) | (refine (?_ : dynOk _ _ = true); kernel_rfl) | refine And.intro ?_ ?_ | intro _)
      all_goals (try (conv => whnf))
      all_goals (try with_reducible rfl)
      all_goals (try (refine (⟨i + 1, ?_⟩ : Exists _)))
      repeat' ((conv => whnf); first | exact True.intro | (refine (?_ : statOk _ = true); kernel_rfl) | (refine (?_ : dynOk _ _ = true); kernel_rfl) | refine And.intro ?_ ?_ | intro _)
      all_goals (try (conv => whnf))
      all_goals (try with_reducible rfl)
      all_goals (try dsimp only at *)
      all_goals (try simp only [pOk, wrap_w, pre_iff, cast_L, cast_X, cut_lo, cut_hi, cut_both, cut_none, toNat_0, toNat_1, toNat_2, Int.toNat_natCast, List.length_cons, List.length_nil, Nat.zero_add, eq_Pt, eq_Frac, eq_Term, eq_Linear, eq_Row, eq_System, eq_Cubic, eq_Quad, eq_Knot, eq_LoopT, eq_Outline, eq_Segm, eq_Token, eq_Stmt, eq_Curve, decide_eq_true_eq, decide_eq_false_iff_not, ge_iff_le, gt_iff_lt, eta_Pt, eta_Frac, eta_Term, eta_Linear, eta_Row, eta_System, eta_Cubic, eta_Quad, eta_Knot, eta_LoopT, eta_Outline, eta_Segm, eta_Token, eta_Stmt, eta_Curve, Int.ofNat_lt, Int.ofNat_le, Bool.not_eq_true', Bool.not_eq_false'] at *)
      all_goals first
        | omega
        | (rw [w_succ]; omega)
        | (simp only [List.length_cons, List.length_nil]; omega)
        | (refine ⟨by omega, all_t (xs := [c.A, c.B, c.C, c.D]) (by simp only [List.length_cons, List.length_nil]; omega) ?_ hj⟩; simp only [p8]; first | assumption | (simp only [Int.mul_comm _ 8]; assumption))
        | (have hp : p8 (el [c.A, c.B, c.C, c.D] (i : Int)) = false := by
             simp only [p8]
             first | assumption | (simp only [Int.mul_comm _ 8]; assumption)
           have ho : okH c = false := (all_f (xs := [c.A, c.B, c.C, c.D]) (by simp only [List.length_cons, List.length_nil]; omega) hp).symm
           simp only [(half_out (q := c) (by assumption) ho).1, (half_out (q := c) (by assumption) ho).2.1, (half_out (q := c) (by assumption) ho).2.2, z3]; done)
        | (have ho : okH c = true := (all_e (xs := [c.A, c.B, c.C, c.D]) (by simp only [List.length_cons, List.length_nil]; omega) hj).symm
           simp only [(half_in (q := c) (by assumption) ho).1, (half_in (q := c) (by assumption) ho).2.1, (half_in (q := c) (by assumption) ho).2.2, combP, comb]
           (refine w_ph ?_; simp only [cmb, ph_add, ph_mul, ph_sub, ph_neg, ph_w, ph_0, ph_1, ph_2, ph_3, ph_4, ph_8, ph_20, ph_n1, ph_n2, ph_n3] <;> grind))
        | (have ho : okH c = true := (all_e (xs := [c.A, c.B, c.C, c.D]) (by simp only [List.length_cons, List.length_nil]; omega) hj).symm
           simp only [(half_in (q := c) (by assumption) ho).1, (half_in (q := c) (by assumption) ho).2.1, (half_in (q := c) (by assumption) ho).2.2]; done)
        | trace_state
  all_goals (try dsimp only at *)
  all_goals (try simp only [pOk, wrap_w, pre_iff, cast_L, cast_X, cut_lo, cut_hi, cut_both, cut_none, toNat_0, toNat_1, toNat_2, Int.toNat_natCast, List.length_cons, List.length_nil, Nat.zero_add, eq_Pt, eq_Frac, eq_Term, eq_Linear, eq_Row, eq_System, eq_Cubic, eq_Quad, eq_Knot, eq_LoopT, eq_Outline, eq_Segm, eq_Token, eq_Stmt, eq_Curve, decide_eq_true_eq, decide_eq_false_iff_not, ge_iff_le, gt_iff_lt, eta_Pt, eta_Frac, eta_Term, eta_Linear, eta_Row, eta_System, eta_Cubic, eta_Quad, eta_Knot, eta_LoopT, eta_Outline, eta_Segm, eta_Token, eta_Stmt, eta_Curve, Int.ofNat_lt, Int.ofNat_le, Bool.not_eq_true', Bool.not_eq_false'] at *)
  all_goals first
    | (rename_i hv
       simp only [(half_no hv).1, (half_no hv).2.1, (half_no hv).2.2, z3]; done)
    | trace_state


def K_impl_HalvesOf : Con := conOf false [.a .cubic] fun ⟨c, _⟩ =>
  (fun (c : Cubic) =>
  (none, [], .tup [(true, enc .cubic (half1 c)), (true, enc .cubic (half2 c)), (false, [.int .i64 (halfC c)])])) c

def E_impl_HalvesOf : Env := { nt := 63, nm := 0, tab := tab, con := (conCons 19 K_impl_ValidCubic (conCons 56 K_impl_Cubic_points (conCons 63 K_impl_ValidPt (conCons 64 K_impl_combine con0)))), eqt := eqt, fz := [], cuts := [] }

set_option maxRecDepth 1000000 in
set_option maxHeartbeats 4000000 in
theorem c_impl_HalvesOf : COk Try.prog 31 K_impl_HalvesOf := by
  refine cok_fun (E := E_impl_HalvesOf) Try.func31 rfl rfl (by rfl) mix_ok tab_ok (eq_ok rfl) (con_cons c_impl_ValidCubic (con_cons c_impl_Cubic_points (con_cons c_impl_ValidPt (con_cons c_impl_combine con0_ok)))) rfl rfl (by decide) ?_
  rintro ⟨(c : Cubic), u0⟩ h0
  repeat' ((conv => whnf); first | exact True.intro | (refine (?_ : statOk _ = true); kernel_rfl) | (refine (?_ : dynOk _ _ = true); kernel_rfl) | refine And.intro ?_ ?_ | intro _)
  all_goals (try (conv => whnf))
  all_goals (try with_reducible rfl)
  rotate_right 1
  · skip
    refine aw_loopT (fun i : Nat => [(20, .c (.int .i64 i))]) (fun _ => []) (fun i => i ≤ 4 ∧ ([c.A, c.B, c.C, c.D].take i).all p8 = true) (fun i => 4 - i) 0 ?_ ?_ ?_
    · simp
    · repeat' ((conv => whnf); first | exact True.intro | (refine (?_ : statOk _ = true); kernel_rfl) | (refine (?_ : dynOk _ _ = true); kernel_rfl) | refine And.intro ?_ ?_ | intro _)
      all_goals (try (conv => whnf))
      all_goals (try with_reducible rfl)
      all_goals simp
    · rintro i ⟨hi, hj⟩
      repeat' ((conv => whnf); first | exact True.intro | (refine (?_ : statOk _ = true); kernel_rfl) | (refine (?_ : dynOk _ _ = true); kernel_rfl) | refine And.intro ?_ ?_ | intro _)
      all_goals (try (conv => whnf))
      all_goals (try with_reducible rfl)
      all_goals (try (refine (⟨i + 1, ?_⟩ : Exists _)))
      repeat' ((conv => whnf); first | exact True.intro | (refine (?_ : statOk _ = true); kernel_rfl) | (refine (?_ : dynOk _ _ = true); kernel_rfl) | refine And.intro ?_ ?_ | intro _)
      all_goals (try (conv => whnf))
      all_goals (try with_reducible rfl)
      all_goals (try dsimp only at *)
      all_goals (try simp only [pOk, wrap_w, pre_iff, cast_L, cast_X, cut_lo, cut_hi, cut_both, cut_none, toNat_0, toNat_1, toNat_2, Int.toNat_natCast, List.length_cons, List.length_nil, Nat.zero_add, eq_Pt, eq_Frac, eq_Term, eq_Linear, eq_Row, eq_System, eq_Cubic, eq_Quad, eq_Knot, eq_LoopT, eq_Outline, eq_Segm, eq_Token, eq_Stmt, eq_Curve, decide_eq_true_eq, decide_eq_false_iff_not, ge_iff_le, gt_iff_lt, eta_Pt, eta_Frac, eta_Term, eta_Linear, eta_Row, eta_System, eta_Cubic, eta_Quad, eta_Knot, eta_LoopT, eta_Outline, eta_Segm, eta_Token, eta_Stmt, eta_Curve, Int.ofNat_lt, Int.ofNat_le, Bool.not_eq_true', Bool.not_eq_false'] at *)
      all_goals first
        | omega
        | (rw [w_succ]; omega)
        | (simp only [List.length_cons, List.length_nil]; omega)
        | (refine ⟨by omega, all_t (xs := [c.A, c.B, c.C, c.D]) (by simp only [List.length_cons, List.length_nil]; omega) ?_ hj⟩; simp only [p8]; first | assumption | (simp only [Int.mul_comm _ 8]; assumption))
        | (have hp : p8 (el [c.A, c.B, c.C, c.D] (i : Int)) = false := by
             simp only [p8]
             first | assumption | (simp only [Int.mul_comm _ 8]; assumption)
           have ho : okH c = false := (all_f (xs := [c.A, c.B, c.C, c.D]) (by simp only [List.length_cons, List.length_nil]; omega) hp).symm
           simp only [(half_out (q := c) (by assumption) ho).1, (half_out (q := c) (by assumption) ho).2.1, (half_out (q := c) (by assumption) ho).2.2, z3]; done)
        | (have ho : okH c = true := (all_e (xs := [c.A, c.B, c.C, c.D]) (by simp only [List.length_cons, List.length_nil]; omega) hj).symm
           simp only [(half_in (q := c) (by assumption) ho).1, (half_in (q := c) (by assumption) ho).2.1, (half_in (q := c) (by assumption) ho).2.2, combP, comb]
           (refine w_ph ?_; simp only [cmb, ph_add, ph_mul, ph_sub, ph_neg, ph_w, ph_0, ph_1, ph_2, ph_3, ph_4, ph_8, ph_20, ph_n1, ph_n2, ph_n3] <;> grind))
        | (have ho : okH c = true := (all_e (xs := [c.A, c.B, c.C, c.D]) (by simp only [List.length_cons, List.length_nil]; omega) hj).symm
           simp only [(half_in (q := c) (by assumption) ho).1, (half_in (q := c) (by assumption) ho).2.1, (half_in (q := c) (by assumption) ho).2.2]; done)
        | trace_state
  all_goals (try dsimp only at *)
  all_goals (try simp only [pOk, wrap_w, pre_iff, cast_L, cast_X, cut_lo, cut_hi, cut_both, cut_none, toNat_0, toNat_1, toNat_2, Int.toNat_natCast, List.length_cons, List.length_nil, Nat.zero_add, eq_Pt, eq_Frac, eq_Term, eq_Linear, eq_Row, eq_System, eq_Cubic, eq_Quad, eq_Knot, eq_LoopT, eq_Outline, eq_Segm, eq_Token, eq_Stmt, eq_Curve, decide_eq_true_eq, decide_eq_false_iff_not, ge_iff_le, gt_iff_lt, eta_Pt, eta_Frac, eta_Term, eta_Linear, eta_Row, eta_System, eta_Cubic, eta_Quad, eta_Knot, eta_LoopT, eta_Outline, eta_Segm, eta_Token, eta_Stmt, eta_Curve, Int.ofNat_lt, Int.ofNat_le, Bool.not_eq_true', Bool.not_eq_false'] at *)
  all_goals first
    | (rename_i hv
       simp only [(half_no hv).1, (half_no hv).2.1, (half_no hv).2.2, z3]; done)
    | trace_state

end GV

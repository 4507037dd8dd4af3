/-
  Contracts: valid curves. No condition beyond those named.
-/
import Derived.Test.YtlifofjaiigogaaCI
namespace GV
open Go Go.Proofs
set_option linter.unusedSimpArgs false
set_option linter.unusedVariables false

theorem rng_t {p : Nat → Bool} {j : Nat} (h : p j = true) (h' : (List.range j).all p = true) : (List.range (j + 1)).all p = true := by rw [List.range_succ, List.all_append, h']; simp [h]
theorem rng_f {p : Nat → Bool} {j m : Nat} (hj : j < m) (h : p j = false) : (List.range m).all p = false := by
  rw [List.all_eq_false]
  exact ⟨j, List.mem_range.2 hj, by simp [h]⟩

def adjP (ks : List Pt) (i : Nat) : Bool := decide (¬ el ks ((i + 1 : Nat) : Int) = el ks (i : Int))
def adjB (ks : List Pt) : Bool := (List.range (ks.length - 1)).all (adjP ks)
def least (c : Curve) : Nat := if c.Closed then 3 else 2
def endB (c : Curve) : Bool := !(c.Closed && (decide (el c.Knots 0 = el c.Knots ((c.Knots.length - 1 : Nat) : Int)) || c.FixFirst || c.FixLast))
def slopeB (c : Curve) : Bool := decide (3 ≤ c.Tension) && decide (c.Tension ≤ 12) && vPt c.First && vPt c.Last
def zeroB (c : Curve) : Bool := (c.FixFirst || decide (c.First = ⟨0, 0⟩)) && (c.FixLast || decide (c.Last = ⟨0, 0⟩))
def vCrv (c : Curve) : Bool := decide (least c ≤ c.Knots.length) && decide (c.Knots.length ≤ 10) && c.Knots.all vPt && adjB c.Knots && endB c && slopeB c && zeroB c

theorem vCrv_len {c : Curve} (h : ¬ (least c ≤ c.Knots.length ∧ c.Knots.length ≤ 10)) : vCrv c = false := by
  unfold vCrv
  by_cases h1 : least c ≤ c.Knots.length
  · simp [show ¬ c.Knots.length ≤ 10 from fun h2 => h ⟨h1, h2⟩]
  · simp [h1]
theorem vCrv_pts {c : Curve} (h : c.Knots.all vPt = false) : vCrv c = false := by unfold vCrv; rw [h]; simp
theorem vCrv_adj {c : Curve} (h : adjB c.Knots = false) : vCrv c = false := by unfold vCrv; rw [h]; simp
theorem vCrv_end {c : Curve} (h : endB c = false) : vCrv c = false := by unfold vCrv; rw [h]; simp
theorem vCrv_slope {c : Curve} (h : slopeB c = false) : vCrv c = false := by unfold vCrv; rw [h]; simp
theorem vCrv_in {c : Curve} (h : least c ≤ c.Knots.length ∧ c.Knots.length ≤ 10) (h1 : c.Knots.all vPt = true) (h2 : adjB c.Knots = true) (h3 : endB c = true) (h4 : slopeB c = true) : vCrv c = zeroB c := by
  unfold vCrv; rw [h1, h2, h3, h4]; simp [h]

theorem vCrv_rest {c : Curve} (h : least c ≤ c.Knots.length ∧ c.Knots.length ≤ 10) (h1 : c.Knots.all vPt = true) (h2 : adjB c.Knots = true) : vCrv c = (endB c && slopeB c && zeroB c) := by
  unfold vCrv; rw [h1, h2]; simp [h]

theorem least_t {c : Curve} (h : c.Closed = true) : least c = 3 := by simp [least, h]
theorem least_f {c : Curve} (h : c.Closed = false) : least c = 2 := by simp [least, h]


def K_impl_ValidCurve : Con := conOf false [.a .curve] fun ⟨c, _⟩ =>
  (fun (c : Curve) =>
  (none, [], .c (.bool false (vCrv c)))) c

def E_impl_ValidCurve : Env := { nt := 103, nm := 0, tab := tab, con := (conCons 69 K_impl_validPts con0), eqt := eqt, fz := [], cuts := [] }

set_option maxRecDepth 1000000 in
set_option maxHeartbeats 4000000 in
theorem c_impl_ValidCurve : COk Try.prog 26 K_impl_ValidCurve := by
  refine cok_fun (E := E_impl_ValidCurve) Try.func26 rfl rfl (by rfl) mix_ok tab_ok (eq_ok rfl) (con_cons c_impl_validPts con0_ok) rfl rfl (by decide) ?_
  rintro ⟨(c : Curve), u0⟩ h0
  repeat' ((conv => whnf); first | exact True.intro | (refine (?_ : statOk _ = true); kernel_rfl) | (refine (?_ : dynOk _ _ = true); kernel_rfl) | refine And.intro ?_ ?_ | intro _)
  all_goals (try (conv => whnf))
  all_goals (try with_reducible rfl)
  all_goals first
    | (show AW _ _ _ _)
    | ((try simp only [pOk, wrap_w, pre_iff, cast_L, cast_X, cut_lo, cut_hi, cut_both, cut_none, toNat_0, toNat_1, toNat_2, Int.toNat_natCast, List.length_cons, List.length_nil, Nat.zero_add, eq_Pt, eq_Frac, eq_Term, eq_Linear, eq_Row, eq_System, eq_Cubic, eq_Quad, eq_Knot, eq_LoopT, eq_Outline, eq_Segm, eq_Token, eq_Stmt, eq_Curve, decide_eq_true_eq, decide_eq_false_iff_not, ge_iff_le, gt_iff_lt, eta_Pt, eta_Frac, eta_Term, eta_Linear, eta_Row, eta_System, eta_Cubic, eta_Quad, eta_Knot, eta_LoopT, eta_Outline, eta_Segm, eta_Token, eta_Stmt, eta_Curve, Int.ofNat_lt, Int.ofNat_le, Bool.not_eq_true', Bool.not_eq_false'] at *)
       first
         | (rw [vCrv_pts (by assumption)]; done)
         | (rw [vCrv_len (by rw [least_t (by assumption)]; omega)]; done)
         | (rw [vCrv_len (by rw [least_f (by assumption)]; omega)]; done)
         | trace_state)
  all_goals
    have hlen : least c ≤ c.Knots.length ∧ c.Knots.length ≤ 10 := by
      simp only [decide_eq_true_eq, decide_eq_false_iff_not] at *
      first | (rw [least_t (by assumption)]; omega) | (rw [least_f (by assumption)]; omega)
    have h2 : 2 ≤ least c := by unfold least; split <;> omega
    have hpts : c.Knots.all vPt = true := by
      simp only [Bool.not_eq_false'] at *
      assumption
    have hw1 : w ((c.Knots.length : Int) - 1) = ((c.Knots.length - 1 : Nat) : Int) := by rw [w_id] <;> omega
    refine aw_loopT (fun j : Nat => [(4, .c (.int .i64 (j + 1 : Nat)))]) (fun _ => []) (fun j => j + 1 ≤ c.Knots.length ∧ (List.range j).all (adjP c.Knots) = true) (fun j => c.Knots.length - j) 0 ?_ ?_ ?_
    · exact ⟨by omega, rfl⟩
    · repeat' ((conv => whnf); first | exact True.intro | (refine (?_ : statOk _ = true); kernel_rfl) | (refine (?_ : dynOk _ _ = true); kernel_rfl) | refine And.intro ?_ ?_ | intro _)
      all_goals (try (conv => whnf))
      all_goals (try with_reducible rfl)
      all_goals simp
    · rintro j ⟨hi, hj⟩
      have hw : w (((j + 1 : Nat) : Int) - 1) = (j : Int) := by rw [w_id] <;> omega
      repeat' ((conv => whnf); first | exact True.intro | (refine (?_ : statOk _ = true); kernel_rfl) | (refine (?_ : dynOk _ _ = true); kernel_rfl) | refine And.intro ?_ ?_ | intro _)
      all_goals (try (conv => whnf))
      all_goals (try with_reducible rfl)
      all_goals (try (refine (⟨j + 1, ?_⟩ : Exists _)))
      repeat' ((conv => whnf); first | exact True.intro | (refine (?_ : statOk _ = true); kernel_rfl) | (refine (?_ : dynOk _ _ = true); kernel_rfl) | refine And.intro ?_ ?_ | intro _)
      all_goals (try (conv => whnf))
      all_goals (try with_reducible rfl)
      all_goals (try simp only [pOk, wrap_w, pre_iff, cast_L, cast_X, cut_lo, cut_hi, cut_both, cut_none, toNat_0, toNat_1, toNat_2, Int.toNat_natCast, List.length_cons, List.length_nil, Nat.zero_add, eq_Pt, eq_Frac, eq_Term, eq_Linear, eq_Row, eq_System, eq_Cubic, eq_Quad, eq_Knot, eq_LoopT, eq_Outline, eq_Segm, eq_Token, eq_Stmt, eq_Curve, decide_eq_true_eq, decide_eq_false_iff_not, ge_iff_le, gt_iff_lt, eta_Pt, eta_Frac, eta_Term, eta_Linear, eta_Row, eta_System, eta_Cubic, eta_Quad, eta_Knot, eta_LoopT, eta_Outline, eta_Segm, eta_Token, eta_Stmt, eta_Curve, Int.ofNat_lt, Int.ofNat_le, Bool.not_eq_true', Bool.not_eq_false'] at *)
      all_goals (try simp only [hw, hw1] at *)
      all_goals first
        | omega
        | (rw [w_succ]; omega)
        | (rw [vCrv_adj (rng_f (j := j) (by omega) (by simp only [adjP, eq_Pt]; simp_all))]; done)
        | (refine ⟨by omega, rng_t (by simp only [adjP, eq_Pt]; simp_all) hj⟩)
        | (have hadj : adjB c.Knots = true := by
             unfold adjB
             rw [show c.Knots.length - 1 = j by omega]
             exact hj
           rw [vCrv_rest hlen hpts hadj]
           simp only [endB, slopeB, zeroB, eq_Pt, Bool.decide_and, List.all_cons, List.all_nil, Bool.and_true] at *
           first | (simp_all; done) | grind)
        | trace_state

end GV

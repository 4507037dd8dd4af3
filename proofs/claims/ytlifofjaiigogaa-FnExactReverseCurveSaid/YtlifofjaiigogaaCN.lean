/-
  Contracts: the right-hand sides of a curve's equations. No condition beyond those named.
-/
import Derived.Test.YtlifofjaiigogaaCM
namespace GV
open Go Go.Proofs
set_option linter.unusedSimpArgs false
set_option linter.unusedVariables false

theorem mod_in {x n : Int} (h : 0 ≤ x) (hn : 0 < n) : 0 ≤ x.tmod n ∧ x.tmod n < n := by
  rw [Int.tmod_eq_emod_of_nonneg h]
  exact ⟨Int.emod_nonneg _ (by omega), Int.emod_lt_of_pos _ hn⟩
theorem mod_lt {x n : Int} (h : 0 ≤ x) (hn : x < n) : x.tmod n = x := by
  rw [Int.tmod_eq_emod_of_nonneg h, Int.emod_eq_of_lt h hn]
theorem mod_wr {x n : Int} (h : n ≤ x) (h0 : 0 < n) (hn : x < n + n) : x.tmod n = x - n := by
  rw [Int.tmod_eq_emod_of_nonneg (by omega), show x = (x - n) + n by omega, Int.add_emod_right, Int.emod_eq_of_lt (by omega) (by omega)]
  omega

def kn (c : Curve) : Int := (c.Knots.length : Int)
def toI (c : Curve) (k : Int) : Int := if c.Closed = true then (k + 1).tmod (c.Knots.length : Int) else if k = (c.Knots.length : Int) - 1 then (c.Knots.length : Int) - 1 else k + 1
def frI (c : Curve) (k : Int) : Int := if c.Closed = true then (k + (c.Knots.length : Int) - 1).tmod (c.Knots.length : Int) else if k = 0 then 0 else k - 1
def sidX (c : Curve) (k : Int) : Int := if c.Closed = false ∧ k = 0 ∧ c.FixFirst = true then c.First.X else if c.Closed = false ∧ k = (c.Knots.length : Int) - 1 ∧ c.FixLast = true then c.Last.X else w (3 * w ((el c.Knots (toI c k)).X - (el c.Knots (frI c k)).X))
def sidY (c : Curve) (k : Int) : Int := if c.Closed = false ∧ k = 0 ∧ c.FixFirst = true then c.First.Y else if c.Closed = false ∧ k = (c.Knots.length : Int) - 1 ∧ c.FixLast = true then c.Last.Y else w (3 * w ((el c.Knots (toI c k)).Y - (el c.Knots (frI c k)).Y))
theorem sidX_cl {c : Curve} {k : Int} (h : c.Closed = true) : sidX c k = w (3 * w ((el c.Knots ((k + 1).tmod (c.Knots.length : Int))).X - (el c.Knots ((k + (c.Knots.length : Int) - 1).tmod (c.Knots.length : Int))).X)) := by simp [sidX, toI, frI, h]
theorem sidX_fi {c : Curve} {k : Int} (h : c.Closed = false) (h1 : k = 0) (h2 : c.FixFirst = true) : sidX c k = c.First.X := by simp [sidX, h, h1, h2]
theorem sidX_la {c : Curve} {k : Int} (h : c.Closed = false) (h1 : ¬ k = 0) (h3 : k = (c.Knots.length : Int) - 1) (h2 : c.FixLast = true) : sidX c k = c.Last.X := by
  unfold sidX; rw [if_neg (fun e => h1 e.2.1), if_pos ⟨h, h3, h2⟩]
theorem sidX_lo {c : Curve} {k : Int} (h : c.Closed = false) (h1 : k = 0) (h2 : c.FixFirst = false) (h3 : ¬ k = (c.Knots.length : Int) - 1) : sidX c k = w (3 * w ((el c.Knots (k + 1)).X - (el c.Knots 0).X)) := by
  unfold sidX toI frI; rw [if_neg (by simp [h2]), if_neg (fun e => h3 e.2.1), if_neg (by simp [h]), if_neg h3, if_neg (by simp [h]), if_pos h1]
theorem sidX_lp {c : Curve} {k : Int} (h : c.Closed = false) (h1 : k = 0) (h2 : c.FixFirst = false) (h3 : ¬ k = (c.Knots.length : Int) - 1) : sidX c k = w (3 * w ((el c.Knots 1).X - (el c.Knots 0).X)) := by
  rw [sidX_lo h h1 h2 h3, h1]; rfl
theorem sidX_hi {c : Curve} {k : Int} (h : c.Closed = false) (h1 : ¬ k = 0) (h3 : k = (c.Knots.length : Int) - 1) (h2 : c.FixLast = false) : sidX c k = w (3 * w ((el c.Knots ((c.Knots.length : Int) - 1)).X - (el c.Knots (k - 1)).X)) := by
  unfold sidX toI frI; rw [if_neg (fun e => h1 e.2.1), if_neg (by simp [h2]), if_neg (by simp [h]), if_pos h3, if_neg (by simp [h]), if_neg h1]
theorem sidX_hp {c : Curve} {k : Int} (h : c.Closed = false) (h1 : ¬ k = 0) (h3 : k = (c.Knots.length : Int) - 1) (h2 : c.FixLast = false) : sidX c k = w (3 * w ((el c.Knots k).X - (el c.Knots (k - 1)).X)) := by
  rw [sidX_hi h h1 h3 h2, ← h3]
theorem sidX_mi {c : Curve} {k : Int} (h : c.Closed = false) (h1 : ¬ k = 0) (h3 : ¬ k = (c.Knots.length : Int) - 1) : sidX c k = w (3 * w ((el c.Knots (k + 1)).X - (el c.Knots (k - 1)).X)) := by
  unfold sidX toI frI; rw [if_neg (fun e => h1 e.2.1), if_neg (fun e => h3 e.2.1), if_neg (by simp [h]), if_neg h3, if_neg (by simp [h]), if_neg h1]
theorem sidY_cl {c : Curve} {k : Int} (h : c.Closed = true) : sidY c k = w (3 * w ((el c.Knots ((k + 1).tmod (c.Knots.length : Int))).Y - (el c.Knots ((k + (c.Knots.length : Int) - 1).tmod (c.Knots.length : Int))).Y)) := by simp [sidY, toI, frI, h]
theorem sidY_fi {c : Curve} {k : Int} (h : c.Closed = false) (h1 : k = 0) (h2 : c.FixFirst = true) : sidY c k = c.First.Y := by simp [sidY, h, h1, h2]
theorem sidY_la {c : Curve} {k : Int} (h : c.Closed = false) (h1 : ¬ k = 0) (h3 : k = (c.Knots.length : Int) - 1) (h2 : c.FixLast = true) : sidY c k = c.Last.Y := by
  unfold sidY; rw [if_neg (fun e => h1 e.2.1), if_pos ⟨h, h3, h2⟩]
theorem sidY_lo {c : Curve} {k : Int} (h : c.Closed = false) (h1 : k = 0) (h2 : c.FixFirst = false) (h3 : ¬ k = (c.Knots.length : Int) - 1) : sidY c k = w (3 * w ((el c.Knots (k + 1)).Y - (el c.Knots 0).Y)) := by
  unfold sidY toI frI; rw [if_neg (by simp [h2]), if_neg (fun e => h3 e.2.1), if_neg (by simp [h]), if_neg h3, if_neg (by simp [h]), if_pos h1]
theorem sidY_lp {c : Curve} {k : Int} (h : c.Closed = false) (h1 : k = 0) (h2 : c.FixFirst = false) (h3 : ¬ k = (c.Knots.length : Int) - 1) : sidY c k = w (3 * w ((el c.Knots 1).Y - (el c.Knots 0).Y)) := by
  rw [sidY_lo h h1 h2 h3, h1]; rfl
theorem sidY_hi {c : Curve} {k : Int} (h : c.Closed = false) (h1 : ¬ k = 0) (h3 : k = (c.Knots.length : Int) - 1) (h2 : c.FixLast = false) : sidY c k = w (3 * w ((el c.Knots ((c.Knots.length : Int) - 1)).Y - (el c.Knots (k - 1)).Y)) := by
  unfold sidY toI frI; rw [if_neg (fun e => h1 e.2.1), if_neg (by simp [h2]), if_neg (by simp [h]), if_pos h3, if_neg (by simp [h]), if_neg h1]
theorem sidY_hp {c : Curve} {k : Int} (h : c.Closed = false) (h1 : ¬ k = 0) (h3 : k = (c.Knots.length : Int) - 1) (h2 : c.FixLast = false) : sidY c k = w (3 * w ((el c.Knots k).Y - (el c.Knots (k - 1)).Y)) := by
  rw [sidY_hi h h1 h3 h2, ← h3]
theorem sidY_mi {c : Curve} {k : Int} (h : c.Closed = false) (h1 : ¬ k = 0) (h3 : ¬ k = (c.Knots.length : Int) - 1) : sidY c k = w (3 * w ((el c.Knots (k + 1)).Y - (el c.Knots (k - 1)).Y)) := by
  unfold sidY toI frI; rw [if_neg (fun e => h1 e.2.1), if_neg (fun e => h3 e.2.1), if_neg (by simp [h]), if_neg h3, if_neg (by simp [h]), if_neg h1]
theorem vCrv_n {c : Curve} (h : vCrv c = true) : 2 ≤ c.Knots.length ∧ c.Knots.length ≤ 10 := by
  unfold vCrv at h
  simp only [Bool.and_eq_true, decide_eq_true_eq] at h
  have : 2 ≤ least c := by unfold least; split <;> omega
  omega
def crvC (c : Curve) (k : Int) : Int := if vCrv c = false then 1 else if 0 ≤ k ∧ k ≤ (c.Knots.length : Int) - 1 then 0 else 2
def sideX (c : Curve) (k : Int) : Int := if crvC c k = 0 then sidX c k else 0
def sideY (c : Curve) (k : Int) : Int := if crvC c k = 0 then sidY c k else 0

theorem crv_no {c : Curve} {k : Int} (h : vCrv c = false) : crvC c k = 1 := by simp [crvC, h]
theorem crv_out {c : Curve} {k : Int} (h : vCrv c = true) (h' : ¬ (0 ≤ k ∧ k ≤ (c.Knots.length : Int) - 1)) : crvC c k = 2 := by simp only [crvC, h]; rw [if_neg (by simp), if_neg h']
theorem crv_in {c : Curve} {k : Int} (h : vCrv c = true) (h' : 0 ≤ k ∧ k ≤ (c.Knots.length : Int) - 1) : crvC c k = 0 := by simp only [crvC, h]; rw [if_neg (by simp), if_pos h']

theorem crv_ok {c : Curve} {k : Int} (h : ¬ crvC c k ≠ 0) : 2 ≤ c.Knots.length ∧ c.Knots.length ≤ 10 ∧ 0 ≤ k ∧ k < (c.Knots.length : Int) := by
  by_cases h1 : vCrv c = true
  · have := vCrv_n h1
    by_cases h2 : 0 ≤ k ∧ k ≤ (c.Knots.length : Int) - 1
    · omega
    · rw [crv_out h1 h2] at h; omega
  · rw [crv_no (by simpa using h1)] at h; omega


def K_impl_curveSide : Con := conOf false [.a .curve, .a .int] fun ⟨c, k, _⟩ =>
  (fun (c : Curve) (k : Int) =>
  (some (2 ≤ c.Knots.length ∧ c.Knots.length ≤ 10 ∧ 0 ≤ k ∧ k < (c.Knots.length : Int)), [], .agg [.int .i64 (sidX c k), .int .i64 (sidY c k)])) c k

def E_impl_curveSide : Env := { nt := 87, nm := 0, tab := tab, con := con0, eqt := eqt, fz := [], cuts := [] }

set_option maxRecDepth 1000000 in
set_option maxHeartbeats 4000000 in
theorem c_impl_curveSide : COk Try.prog 88 K_impl_curveSide := by
  refine cok_fun (E := E_impl_curveSide) Try.func88 rfl rfl (by rfl) mix_ok tab_ok (eq_ok rfl) con0_ok rfl rfl (by decide) ?_
  rintro ⟨(c : Curve), (k : Int), u0⟩ h0
  obtain ⟨g1, g2, g3, g4⟩ := h0
  have e1 : w (k + (c.Knots.length : Int)) = k + (c.Knots.length : Int) := by rw [w_id] <;> omega
  have e2 : w (k + (c.Knots.length : Int) - 1) = k + (c.Knots.length : Int) - 1 := by rw [w_id] <;> omega
  have e3 : w (k + 1) = k + 1 := by rw [w_id] <;> omega
  have e4 : w (k - 1) = k - 1 := by rw [w_id] <;> omega
  have e5 : w ((c.Knots.length : Int) - 1) = (c.Knots.length : Int) - 1 := by rw [w_id] <;> omega
  have m1 := mod_in (x := k + 1) (n := (c.Knots.length : Int)) (by omega) (by omega)
  have m2 := mod_in (x := k + (c.Knots.length : Int) - 1) (n := (c.Knots.length : Int)) (by omega) (by omega)
  repeat' ((conv => whnf); first | exact True.intro | (refine (?_ : statOk _ = true); kernel_rfl) | (refine (?_ : dynOk _ _ = true); kernel_rfl) | refine And.intro ?_ ?_ | intro _)
  all_goals (try (conv => whnf))
  all_goals (try with_reducible rfl)
  all_goals (try simp only [pOk, wrap_w, pre_iff, cast_L, cast_X, cut_lo, cut_hi, cut_both, cut_none, toNat_0, toNat_1, toNat_2, Int.toNat_natCast, List.length_cons, List.length_nil, Nat.zero_add, eq_Pt, eq_Frac, eq_Term, eq_Linear, eq_Row, eq_System, eq_Cubic, eq_Quad, eq_Knot, eq_LoopT, eq_Outline, eq_Segm, eq_Token, eq_Stmt, eq_Curve, decide_eq_true_eq, decide_eq_false_iff_not, ge_iff_le, gt_iff_lt, eta_Pt, eta_Frac, eta_Term, eta_Linear, eta_Row, eta_System, eta_Cubic, eta_Quad, eta_Knot, eta_LoopT, eta_Outline, eta_Segm, eta_Token, eta_Stmt, eta_Curve, Int.ofNat_lt, Int.ofNat_le, Bool.not_eq_true', Bool.not_eq_false'] at *)
  all_goals (try simp only [e1, e2, e3, e4, e5] at *)
  all_goals first
    | omega
    | exact m1
    | exact m2
    | (rw [sidX_cl (c := c) (k := k) (by assumption)]; done)
    | (rw [sidX_fi (c := c) (k := k) (by assumption) (by omega) (by assumption)]; done)
    | (rw [sidX_la (c := c) (k := k) (by assumption) (by omega) (by omega) (by assumption)]; done)
    | (rw [sidX_lo (c := c) (k := k) (by assumption) (by omega) (by assumption) (by omega)]; done)
    | (rw [sidX_lp (c := c) (k := k) (by assumption) (by omega) (by assumption) (by omega)]; done)
    | (rw [sidX_hi (c := c) (k := k) (by assumption) (by omega) (by omega) (by assumption)]; done)
    | (rw [sidX_hp (c := c) (k := k) (by assumption) (by omega) (by omega) (by assumption)]; done)
    | (rw [sidX_mi (c := c) (k := k) (by assumption) (by omega) (by omega)]; done)
    | (rw [sidY_cl (c := c) (k := k) (by assumption)]; done)
    | (rw [sidY_fi (c := c) (k := k) (by assumption) (by omega) (by assumption)]; done)
    | (rw [sidY_la (c := c) (k := k) (by assumption) (by omega) (by omega) (by assumption)]; done)
    | (rw [sidY_lo (c := c) (k := k) (by assumption) (by omega) (by assumption) (by omega)]; done)
    | (rw [sidY_lp (c := c) (k := k) (by assumption) (by omega) (by assumption) (by omega)]; done)
    | (rw [sidY_hi (c := c) (k := k) (by assumption) (by omega) (by omega) (by assumption)]; done)
    | (rw [sidY_hp (c := c) (k := k) (by assumption) (by omega) (by omega) (by assumption)]; done)
    | (rw [sidY_mi (c := c) (k := k) (by assumption) (by omega) (by omega)]; done)
    | trace_state


def K_spec_l06Sub : Con := conOf false [.a .pt, .a .pt] fun ⟨a, b, _⟩ =>
  (fun (a : Pt) (b : Pt) =>
  (none, [], .agg [.int .i64 (w (a.X - b.X)), .int .i64 (w (a.Y - b.Y))])) a b

def E_spec_l06Sub : Env := { nt := 16, nm := 0, tab := tab, con := con0, eqt := eqt, fz := [], cuts := [] }

set_option maxRecDepth 1000000 in
set_option maxHeartbeats 4000000 in
theorem c_spec_l06Sub : COk Try.prog 104 K_spec_l06Sub := by
  refine cok_fun (E := E_spec_l06Sub) Try.func104 rfl rfl (by rfl) mix_ok tab_ok (eq_ok rfl) con0_ok rfl rfl (by decide) ?_
  rintro ⟨(a : Pt), (b : Pt), u0⟩ h0
  repeat' ((conv => whnf); first | exact True.intro | (refine (?_ : statOk _ = true); kernel_rfl) | (refine (?_ : dynOk _ _ = true); kernel_rfl) | refine And.intro ?_ ?_ | intro _)
  all_goals (try (conv => whnf))
  all_goals (try simp only [pOk, wrap_w, pre_iff, cast_L, cast_X, cut_lo, cut_hi, cut_both, cut_none, toNat_0, toNat_1, toNat_2, Int.toNat_natCast, List.length_cons, List.length_nil, Nat.zero_add, eq_Pt, eq_Frac, eq_Term, eq_Linear, eq_Row, eq_System, eq_Cubic, eq_Quad, eq_Knot, eq_LoopT, eq_Outline, eq_Segm, eq_Token, eq_Stmt, eq_Curve, decide_eq_true_eq, decide_eq_false_iff_not, ge_iff_le, gt_iff_lt, eta_Pt, eta_Frac, eta_Term, eta_Linear, eta_Row, eta_System, eta_Cubic, eta_Quad, eta_Knot, eta_LoopT, eta_Outline, eta_Segm, eta_Token, eta_Stmt, eta_Curve, Int.ofNat_lt, Int.ofNat_le, Bool.not_eq_true', Bool.not_eq_false'] at *)
  all_goals first | omega | (simp_all; done) | (simp_all; omega) | grind



def K_spec_l06Side : Con := conOf false [.p .curve, .a .int] fun ⟨c, k, _⟩ =>
  (fun (c : Curve) (k : Int) =>
  (some (2 ≤ c.Knots.length ∧ c.Knots.length ≤ 10 ∧ 0 ≤ k ∧ k < (c.Knots.length : Int)), [], .agg [.int .i64 (sidX c k), .int .i64 (sidY c k)])) c k

def E_spec_l06Side : Env := { nt := 112, nm := 0, tab := tab, con := (conCons 98 K_spec_l00In (conCons 104 K_spec_l06Sub con0)), eqt := eqt, fz := [], cuts := [] }

set_option maxRecDepth 1000000 in
set_option maxHeartbeats 4000000 in
theorem c_spec_l06Side : COk Try.prog 87 K_spec_l06Side := by
  refine cok_fun (E := E_spec_l06Side) Try.func87 rfl rfl (by rfl) mix_ok tab_ok (eq_ok rfl) (con_cons c_spec_l00In (con_cons c_spec_l06Sub con0_ok)) rfl rfl (by decide) ?_
  rintro ⟨(c : Curve), (k : Int), u0⟩ h0
  obtain ⟨g1, g2, g3, g4⟩ := h0
  have e1 : w (k + (c.Knots.length : Int)) = k + (c.Knots.length : Int) := by rw [w_id] <;> omega
  have e2 : w (k + (c.Knots.length : Int) - 1) = k + (c.Knots.length : Int) - 1 := by rw [w_id] <;> omega
  have e3 : w (k + 1) = k + 1 := by rw [w_id] <;> omega
  have e4 : w (k - 1) = k - 1 := by rw [w_id] <;> omega
  have e5 : w ((c.Knots.length : Int) - 2) = (c.Knots.length : Int) - 2 := by rw [w_id] <;> omega
  have m1 := mod_in (x := k + 1) (n := (c.Knots.length : Int)) (by omega) (by omega)
  have m2 := mod_in (x := k + (c.Knots.length : Int) - 1) (n := (c.Knots.length : Int)) (by omega) (by omega)
  repeat' ((conv => whnf); first | exact True.intro | (refine (?_ : statOk _ = true); kernel_rfl) | (refine (?_ : dynOk _ _ = true); kernel_rfl) | refine And.intro ?_ ?_ | intro _)
  all_goals (try (conv => whnf))
  all_goals (try with_reducible rfl)
  all_goals (try dsimp only at *)
  all_goals (try simp only [pOk, wrap_w, pre_iff, cast_L, cast_X, cut_lo, cut_hi, cut_both, cut_none, toNat_0, toNat_1, toNat_2, Int.toNat_natCast, List.length_cons, List.length_nil, Nat.zero_add, eq_Pt, eq_Frac, eq_Term, eq_Linear, eq_Row, eq_System, eq_Cubic, eq_Quad, eq_Knot, eq_LoopT, eq_Outline, eq_Segm, eq_Token, eq_Stmt, eq_Curve, decide_eq_true_eq, decide_eq_false_iff_not, ge_iff_le, gt_iff_lt, eta_Pt, eta_Frac, eta_Term, eta_Linear, eta_Row, eta_System, eta_Cubic, eta_Quad, eta_Knot, eta_LoopT, eta_Outline, eta_Segm, eta_Token, eta_Stmt, eta_Curve, Int.ofNat_lt, Int.ofNat_le, Bool.not_eq_true', Bool.not_eq_false'] at *)
  all_goals (try simp only [e1, e2, e3, e4, e5, Bool.and_eq_true, Bool.and_eq_false_iff, decide_eq_true_eq, decide_eq_false_iff_not] at *)
  all_goals first
    | omega
    | exact m1
    | exact m2
    | (rw [sidX_cl (c := c) (k := k) (by assumption)]; done)
    | (rw [sidX_fi (c := c) (k := k) (by assumption) (by omega) (by assumption)]; done)
    | (rw [sidX_la (c := c) (k := k) (by assumption) (by omega) (by omega) (by assumption)]; done)
    | (rw [sidX_lo (c := c) (k := k) (by assumption) (by omega) (by assumption) (by omega)]; done)
    | (rw [sidX_lp (c := c) (k := k) (by assumption) (by omega) (by assumption) (by omega)]; done)
    | (rw [sidX_hi (c := c) (k := k) (by assumption) (by omega) (by omega) (by assumption)]; done)
    | (rw [sidX_hp (c := c) (k := k) (by assumption) (by omega) (by omega) (by assumption)]; done)
    | (rw [sidX_mi (c := c) (k := k) (by assumption) (by omega) (by omega)]; done)
    | (rw [sidY_cl (c := c) (k := k) (by assumption)]; done)
    | (rw [sidY_fi (c := c) (k := k) (by assumption) (by omega) (by assumption)]; done)
    | (rw [sidY_la (c := c) (k := k) (by assumption) (by omega) (by omega) (by assumption)]; done)
    | (rw [sidY_lo (c := c) (k := k) (by assumption) (by omega) (by assumption) (by omega)]; done)
    | (rw [sidY_lp (c := c) (k := k) (by assumption) (by omega) (by assumption) (by omega)]; done)
    | (rw [sidY_hi (c := c) (k := k) (by assumption) (by omega) (by omega) (by assumption)]; done)
    | (rw [sidY_hp (c := c) (k := k) (by assumption) (by omega) (by omega) (by assumption)]; done)
    | (rw [sidY_mi (c := c) (k := k) (by assumption) (by omega) (by omega)]; done)
    | (rw [mod_lt (x := k + 1) (n := (c.Knots.length : Int)) (by omega) (by omega), mod_wr (x := k + (c.Knots.length : Int) - 1) (n := (c.Knots.length : Int)) (by omega) (by omega) (by omega), show k + (c.Knots.length : Int) - 1 - (c.Knots.length : Int) = k - 1 by omega, sidX_mi (c := c) (k := k) (by assumption) (by omega) (by omega)]; done)
    | (rw [mod_lt (x := k + 1) (n := (c.Knots.length : Int)) (by omega) (by omega), mod_wr (x := k + (c.Knots.length : Int) - 1) (n := (c.Knots.length : Int)) (by omega) (by omega) (by omega), show k + (c.Knots.length : Int) - 1 - (c.Knots.length : Int) = k - 1 by omega, sidY_mi (c := c) (k := k) (by assumption) (by omega) (by omega)]; done)
    | trace_state


def K_spec_l06Ask : Con := conOf false [.p .curve, .a .int] fun ⟨c, k, _⟩ =>
  (fun (c : Curve) (k : Int) =>
  (none, [], .c (.int .i64 (crvC c k)))) c k

def E_spec_l06Ask : Env := { nt := 17, nm := 0, tab := tab, con := (conCons 68 K_spec_l06Ok (conCons 98 K_spec_l00In con0)), eqt := eqt, fz := [], cuts := [] }

set_option maxRecDepth 1000000 in
set_option maxHeartbeats 4000000 in
theorem c_spec_l06Ask : COk Try.prog 86 K_spec_l06Ask := by
  refine cok_fun (E := E_spec_l06Ask) Try.func86 rfl rfl (by rfl) mix_ok tab_ok (eq_ok rfl) (con_cons c_spec_l06Ok (con_cons c_spec_l00In con0_ok)) rfl rfl (by decide) ?_
  rintro ⟨(c : Curve), (k : Int), u0⟩ h0
  repeat' ((conv => whnf); first | exact True.intro | (refine (?_ : statOk _ = true); kernel_rfl) | (refine (?_ : dynOk _ _ = true); kernel_rfl) | refine And.intro ?_ ?_ | intro _)
  all_goals (try (conv => whnf))
  all_goals (try simp only [pOk, wrap_w, pre_iff, cast_L, cast_X, cut_lo, cut_hi, cut_both, cut_none, toNat_0, toNat_1, toNat_2, Int.toNat_natCast, List.length_cons, List.length_nil, Nat.zero_add, eq_Pt, eq_Frac, eq_Term, eq_Linear, eq_Row, eq_System, eq_Cubic, eq_Quad, eq_Knot, eq_LoopT, eq_Outline, eq_Segm, eq_Token, eq_Stmt, eq_Curve, decide_eq_true_eq, decide_eq_false_iff_not, ge_iff_le, gt_iff_lt, eta_Pt, eta_Frac, eta_Term, eta_Linear, eta_Row, eta_System, eta_Cubic, eta_Quad, eta_Knot, eta_LoopT, eta_Outline, eta_Segm, eta_Token, eta_Stmt, eta_Curve, Int.ofNat_lt, Int.ofNat_le, Bool.not_eq_true', Bool.not_eq_false'] at *)
  all_goals (try simp only [Bool.and_eq_true, Bool.and_eq_false_iff, decide_eq_true_eq, decide_eq_false_iff_not] at *)
  all_goals first
    | (rw [crv_no (by assumption)]; done)
    | (have := vCrv_n (c := c) (by assumption)
       have e5 : w ((c.Knots.length : Int) - 1) = (c.Knots.length : Int) - 1 := by rw [w_id] <;> omega
       simp only [e5] at *
       first
         | (rw [crv_in (by assumption) (by omega)]; done)
         | (rw [crv_out (by assumption) (by omega)]; done))
    | trace_state



def K_impl_CurveSide : Con := conOf false [.a .curve, .a .int] fun ⟨c, k, _⟩ =>
  (fun (c : Curve) (k : Int) =>
  (none, [], .tup [(true, [.int .i64 (sideX c k), .int .i64 (sideY c k)]), (false, [.int .i64 (crvC c k)])])) c k

def E_impl_CurveSide : Env := { nt := 23, nm := 0, tab := tab, con := (conCons 26 K_impl_ValidCurve (conCons 88 K_impl_curveSide con0)), eqt := eqt, fz := [], cuts := [] }

set_option maxRecDepth 1000000 in
set_option maxHeartbeats 4000000 in
theorem c_impl_CurveSide : COk Try.prog 42 K_impl_CurveSide := by
  refine cok_fun (E := E_impl_CurveSide) Try.func42 rfl rfl (by rfl) mix_ok tab_ok (eq_ok rfl) (con_cons c_impl_ValidCurve (con_cons c_impl_curveSide con0_ok)) rfl rfl (by decide) ?_
  rintro ⟨(c : Curve), (k : Int), u0⟩ h0
  repeat' ((conv => whnf); first | exact True.intro | (refine (?_ : statOk _ = true); kernel_rfl) | (refine (?_ : dynOk _ _ = true); kernel_rfl) | refine And.intro ?_ ?_ | intro _)
  all_goals (try (conv => whnf))
  all_goals (try simp only [pOk, wrap_w, pre_iff, cast_L, cast_X, cut_lo, cut_hi, cut_both, cut_none, toNat_0, toNat_1, toNat_2, Int.toNat_natCast, List.length_cons, List.length_nil, Nat.zero_add, eq_Pt, eq_Frac, eq_Term, eq_Linear, eq_Row, eq_System, eq_Cubic, eq_Quad, eq_Knot, eq_LoopT, eq_Outline, eq_Segm, eq_Token, eq_Stmt, eq_Curve, decide_eq_true_eq, decide_eq_false_iff_not, ge_iff_le, gt_iff_lt, eta_Pt, eta_Frac, eta_Term, eta_Linear, eta_Row, eta_System, eta_Cubic, eta_Quad, eta_Knot, eta_LoopT, eta_Outline, eta_Segm, eta_Token, eta_Stmt, eta_Curve, Int.ofNat_lt, Int.ofNat_le, Bool.not_eq_true', Bool.not_eq_false'] at *)
  all_goals (try simp only [Bool.and_eq_true, Bool.and_eq_false_iff, decide_eq_true_eq, decide_eq_false_iff_not] at *)
  all_goals first
    | (rw [crv_no (by assumption)]; done)
    | (simp only [sideX, sideY, crv_no (c := c) (k := k) (by assumption)]; simp; done)
    | (have := vCrv_n (c := c) (by assumption)
       first
         | omega
         | (rw [crv_in (c := c) (k := k) (by assumption) (by omega)]; done)
         | (rw [crv_out (c := c) (k := k) (by assumption) (by omega)]; done)
         | (simp only [sideX, sideY, crv_in (c := c) (k := k) (by assumption) (by omega)]; simp; done)
         | (simp only [sideX, sideY, crv_out (c := c) (k := k) (by assumption) (by omega)]; simp; done))
    | trace_state



def K_spec_CurveSide : Con := conOf false [.a .curve, .a .int] fun ⟨c, k, _⟩ =>
  (fun (c : Curve) (k : Int) =>
  (none, [], .tup [(true, [.int .i64 (sideX c k), .int .i64 (sideY c k)]), (false, [.int .i64 (crvC c k)])])) c k

def E_spec_CurveSide : Env := { nt := 15, nm := 0, tab := tab, con := (conCons 86 K_spec_l06Ask (conCons 87 K_spec_l06Side con0)), eqt := eqt, fz := [], cuts := [] }

set_option maxRecDepth 1000000 in
set_option maxHeartbeats 4000000 in
theorem c_spec_CurveSide : COk Try.prog 41 K_spec_CurveSide := by
  refine cok_fun (E := E_spec_CurveSide) Try.func41 rfl rfl (by rfl) mix_ok tab_ok (eq_ok rfl) (con_cons c_spec_l06Ask (con_cons c_spec_l06Side con0_ok)) rfl rfl (by decide) ?_
  rintro ⟨(c : Curve), (k : Int), u0⟩ h0
  repeat' ((conv => whnf); first | exact True.intro | (refine (?_ : statOk _ = true); kernel_rfl) | (refine (?_ : dynOk _ _ = true); kernel_rfl) | refine And.intro ?_ ?_ | intro _)
  all_goals (try (conv => whnf))
  all_goals (try simp only [pOk, wrap_w, pre_iff, cast_L, cast_X, cut_lo, cut_hi, cut_both, cut_none, toNat_0, toNat_1, toNat_2, Int.toNat_natCast, List.length_cons, List.length_nil, Nat.zero_add, eq_Pt, eq_Frac, eq_Term, eq_Linear, eq_Row, eq_System, eq_Cubic, eq_Quad, eq_Knot, eq_LoopT, eq_Outline, eq_Segm, eq_Token, eq_Stmt, eq_Curve, decide_eq_true_eq, decide_eq_false_iff_not, ge_iff_le, gt_iff_lt, eta_Pt, eta_Frac, eta_Term, eta_Linear, eta_Row, eta_System, eta_Cubic, eta_Quad, eta_Knot, eta_LoopT, eta_Outline, eta_Segm, eta_Token, eta_Stmt, eta_Curve, Int.ofNat_lt, Int.ofNat_le, Bool.not_eq_true', Bool.not_eq_false'] at *)
  all_goals first
    | (exact crv_ok (by assumption))
    | (simp_all [sideX, sideY]; done)
    | trace_state


end GV

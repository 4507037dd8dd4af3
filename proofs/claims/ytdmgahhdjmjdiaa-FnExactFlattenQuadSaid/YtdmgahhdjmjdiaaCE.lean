/-
  Contracts: points on curves, flattening. No condition beyond those named.
-/
import Derived.Test.YtdmgahhdjmjdiaaCD
namespace GV
open Go Go.Proofs
set_option linter.unusedSimpArgs false
set_option linter.unusedVariables false

def mix3 (a b c d k n : Int) : Int := (n-k)*(n-k)*(n-k)*a + 3*(n-k)*(n-k)*k*b + 3*(n-k)*k*k*c + k*k*k*d
def mix2 (a b c k n : Int) : Int := (n-k)*(n-k)*a + 2*(n-k)*k*b + k*k*c
def cubAt (c : Cubic) (k n : Int) : Pt := ⟨dr (w (mix3 c.A.X c.B.X c.C.X c.D.X k n)) (w (n*n*n)), dr (w (mix3 c.A.Y c.B.Y c.C.Y c.D.Y k n)) (w (n*n*n))⟩
def quadAt (q : Quad) (k n : Int) : Pt := ⟨dr (w (mix2 q.A.X q.B.X q.C.X k n)) (w (n*n)), dr (w (mix2 q.A.Y q.B.Y q.C.Y k n)) (w (n*n))⟩


def K_spec_l09Mix : Con := conOf false [.a .int, .a .int, .a .int, .a .int, .a .int, .a .int] fun ⟨a, b, c, d, k, n, _⟩ =>
  (fun (a : Int) (b : Int) (c : Int) (d : Int) (k : Int) (n : Int) =>
  (some (0 < w (n*n*n)), [], .c (.int .i64 (dr (w (mix3 a b c d k n)) (w (n*n*n)))))) a b c d k n

def E_spec_l09Mix : Env := { nt := 56, nm := 0, tab := tab, con := (conCons 92 K_spec_l03Round con0), eqt := eqt, fz := [], cuts := [] }

set_option maxRecDepth 1000000 in
set_option maxHeartbeats 4000000 in
theorem c_spec_l09Mix : COk Try.prog 87 K_spec_l09Mix := by
  refine cok_fun (E := E_spec_l09Mix) Try.func87 rfl rfl (by rfl) mix_ok tab_ok (eq_ok rfl) (con_cons c_spec_l03Round con0_ok) rfl rfl (by decide) ?_
  rintro ⟨(a : Int), (b : Int), (c : Int), (d : Int), (k : Int), (n : Int), u0⟩ h0
  repeat' ((conv => whnf); first | exact True.intro | (refine (?_ : statOk _ = true); kernel_rfl) | (refine (?_ : dynOk _ _ = true); kernel_rfl) | refine And.intro ?_ ?_ | intro _)
  all_goals (try (conv => whnf))
  all_goals (try simp only [pOk, wrap_w, pre_iff, cast_L, cast_X, cut_lo, cut_hi, cut_both, cut_none, toNat_0, toNat_1, toNat_2, Int.toNat_natCast, List.length_cons, List.length_nil, Nat.zero_add, eq_Pt, eq_Frac, eq_Term, eq_Linear, eq_Row, eq_System, eq_Cubic, eq_Quad, eq_Knot, eq_LoopT, eq_Outline, eq_Segm, eq_Token, eq_Stmt, eq_Curve, decide_eq_true_eq, decide_eq_false_iff_not, ge_iff_le, gt_iff_lt, eta_Pt, eta_Frac, eta_Term, eta_Linear, eta_Row, eta_System, eta_Cubic, eta_Quad, eta_Knot, eta_LoopT, eta_Outline, eta_Segm, eta_Token, eta_Stmt, eta_Curve, Int.ofNat_lt, Int.ofNat_le, Bool.not_eq_true', Bool.not_eq_false'] at *)
  · exact ⟨w_in _, w_in _, by rw [w_mull]; exact h0⟩
  · congr 1 <;> (refine w_ph ?_; simp only [mix3, ph_add, ph_mul, ph_sub, ph_neg, ph_w, ph_0, ph_1, ph_2, ph_3, ph_4, ph_8, ph_20, ph_n1, ph_n2, ph_n3] <;> grind)



def K_spec_l10Mix : Con := conOf false [.a .int, .a .int, .a .int, .a .int, .a .int] fun ⟨a, b, c, k, n, _⟩ =>
  (fun (a : Int) (b : Int) (c : Int) (k : Int) (n : Int) =>
  (some (0 < w (n*n)), [], .c (.int .i64 (dr (w (mix2 a b c k n)) (w (n*n)))))) a b c k n

def E_spec_l10Mix : Env := { nt := 37, nm := 0, tab := tab, con := (conCons 92 K_spec_l03Round con0), eqt := eqt, fz := [], cuts := [] }

set_option maxRecDepth 1000000 in
set_option maxHeartbeats 4000000 in
theorem c_spec_l10Mix : COk Try.prog 84 K_spec_l10Mix := by
  refine cok_fun (E := E_spec_l10Mix) Try.func84 rfl rfl (by rfl) mix_ok tab_ok (eq_ok rfl) (con_cons c_spec_l03Round con0_ok) rfl rfl (by decide) ?_
  rintro ⟨(a : Int), (b : Int), (c : Int), (k : Int), (n : Int), u0⟩ h0
  repeat' ((conv => whnf); first | exact True.intro | (refine (?_ : statOk _ = true); kernel_rfl) | (refine (?_ : dynOk _ _ = true); kernel_rfl) | refine And.intro ?_ ?_ | intro _)
  all_goals (try (conv => whnf))
  all_goals (try simp only [pOk, wrap_w, pre_iff, cast_L, cast_X, cut_lo, cut_hi, cut_both, cut_none, toNat_0, toNat_1, toNat_2, Int.toNat_natCast, List.length_cons, List.length_nil, Nat.zero_add, eq_Pt, eq_Frac, eq_Term, eq_Linear, eq_Row, eq_System, eq_Cubic, eq_Quad, eq_Knot, eq_LoopT, eq_Outline, eq_Segm, eq_Token, eq_Stmt, eq_Curve, decide_eq_true_eq, decide_eq_false_iff_not, ge_iff_le, gt_iff_lt, eta_Pt, eta_Frac, eta_Term, eta_Linear, eta_Row, eta_System, eta_Cubic, eta_Quad, eta_Knot, eta_LoopT, eta_Outline, eta_Segm, eta_Token, eta_Stmt, eta_Curve, Int.ofNat_lt, Int.ofNat_le, Bool.not_eq_true', Bool.not_eq_false'] at *)
  · exact ⟨w_in _, w_in _, h0⟩
  · congr 1 <;> (refine w_ph ?_; simp only [mix2, ph_add, ph_mul, ph_sub, ph_neg, ph_w, ph_0, ph_1, ph_2, ph_3, ph_4, ph_8, ph_20, ph_n1, ph_n2, ph_n3] <;> grind)



def K_spec_l09At : Con := conOf false [.p .cubic, .a .int, .a .int] fun ⟨c, k, n, _⟩ =>
  (fun (c : Cubic) (k : Int) (n : Int) =>
  (some (0 < w (n*n*n)), [], encA (.a .pt) (cubAt c k n))) c k n

def E_spec_l09At : Env := { nt := 54, nm := 0, tab := tab, con := (conCons 87 K_spec_l09Mix con0), eqt := eqt, fz := [], cuts := [] }

set_option maxRecDepth 1000000 in
set_option maxHeartbeats 4000000 in
theorem c_spec_l09At : COk Try.prog 71 K_spec_l09At := by
  refine cok_fun (E := E_spec_l09At) Try.func71 rfl rfl (by rfl) mix_ok tab_ok (eq_ok rfl) (con_cons c_spec_l09Mix con0_ok) rfl rfl (by decide) ?_
  rintro ⟨(c : Cubic), (k : Int), (n : Int), u0⟩ h0
  repeat' ((conv => whnf); first | exact True.intro | (refine (?_ : statOk _ = true); kernel_rfl) | (refine (?_ : dynOk _ _ = true); kernel_rfl) | refine And.intro ?_ ?_ | intro _)
  all_goals (try (conv => whnf))
  all_goals (try simp only [pOk, wrap_w, pre_iff, cast_L, cast_X, cut_lo, cut_hi, cut_both, cut_none, toNat_0, toNat_1, toNat_2, Int.toNat_natCast, List.length_cons, List.length_nil, Nat.zero_add, eq_Pt, eq_Frac, eq_Term, eq_Linear, eq_Row, eq_System, eq_Cubic, eq_Quad, eq_Knot, eq_LoopT, eq_Outline, eq_Segm, eq_Token, eq_Stmt, eq_Curve, decide_eq_true_eq, decide_eq_false_iff_not, ge_iff_le, gt_iff_lt, eta_Pt, eta_Frac, eta_Term, eta_Linear, eta_Row, eta_System, eta_Cubic, eta_Quad, eta_Knot, eta_LoopT, eta_Outline, eta_Segm, eta_Token, eta_Stmt, eta_Curve, Int.ofNat_lt, Int.ofNat_le, Bool.not_eq_true', Bool.not_eq_false'] at *)
  all_goals first | omega | (simp_all [cubAt]; done) | (simp_all [cubAt]; omega) | grind [cubAt]



def K_spec_l10At : Con := conOf false [.p .quad, .a .int, .a .int] fun ⟨c, k, n, _⟩ =>
  (fun (c : Quad) (k : Int) (n : Int) =>
  (some (0 < w (n*n)), [], encA (.a .pt) (quadAt c k n))) c k n

def E_spec_l10At : Env := { nt := 44, nm := 0, tab := tab, con := (conCons 84 K_spec_l10Mix con0), eqt := eqt, fz := [], cuts := [] }

set_option maxRecDepth 1000000 in
set_option maxHeartbeats 4000000 in
theorem c_spec_l10At : COk Try.prog 68 K_spec_l10At := by
  refine cok_fun (E := E_spec_l10At) Try.func68 rfl rfl (by rfl) mix_ok tab_ok (eq_ok rfl) (con_cons c_spec_l10Mix con0_ok) rfl rfl (by decide) ?_
  rintro ⟨(c : Quad), (k : Int), (n : Int), u0⟩ h0
  repeat' ((conv => whnf); first | exact True.intro | (refine (?_ : statOk _ = true); kernel_rfl) | (refine (?_ : dynOk _ _ = true); kernel_rfl) | refine And.intro ?_ ?_ | intro _)
  all_goals (try (conv => whnf))
  all_goals (try simp only [pOk, wrap_w, pre_iff, cast_L, cast_X, cut_lo, cut_hi, cut_both, cut_none, toNat_0, toNat_1, toNat_2, Int.toNat_natCast, List.length_cons, List.length_nil, Nat.zero_add, eq_Pt, eq_Frac, eq_Term, eq_Linear, eq_Row, eq_System, eq_Cubic, eq_Quad, eq_Knot, eq_LoopT, eq_Outline, eq_Segm, eq_Token, eq_Stmt, eq_Curve, decide_eq_true_eq, decide_eq_false_iff_not, ge_iff_le, gt_iff_lt, eta_Pt, eta_Frac, eta_Term, eta_Linear, eta_Row, eta_System, eta_Cubic, eta_Quad, eta_Knot, eta_LoopT, eta_Outline, eta_Segm, eta_Token, eta_Stmt, eta_Curve, Int.ofNat_lt, Int.ofNat_le, Bool.not_eq_true', Bool.not_eq_false'] at *)
  all_goals first | omega | (simp_all [quadAt]; done) | (simp_all [quadAt]; omega) | grind [quadAt]



def K_impl_cubicAt : Con := conOf false [.a .cubic, .a .int, .a .int] fun ⟨c, k, n, _⟩ =>
  (fun (c : Cubic) (k : Int) (n : Int) =>
  (none, [], encA (.a .pt) (cubAt c k n))) c k n

def E_impl_cubicAt : Env := { nt := 43, nm := 0, tab := tab, con := (conCons 56 K_impl_Cubic_points (conCons 64 K_impl_combine (conCons 85 K_impl_divPt con0))), eqt := eqt, fz := [], cuts := [] }

set_option maxRecDepth 1000000 in
set_option maxHeartbeats 4000000 in
theorem c_impl_cubicAt : COk Try.prog 72 K_impl_cubicAt := by
  refine cok_fun (E := E_impl_cubicAt) Try.func72 rfl rfl (by rfl) mix_ok tab_ok (eq_ok rfl) (con_cons c_impl_Cubic_points (con_cons c_impl_combine (con_cons c_impl_divPt con0_ok))) rfl rfl (by decide) ?_
  rintro ⟨(c : Cubic), (k : Int), (n : Int), u0⟩ h0
  repeat' ((conv => whnf); first | exact True.intro | (refine (?_ : statOk _ = true); kernel_rfl) | (refine (?_ : dynOk _ _ = true); kernel_rfl) | refine And.intro ?_ ?_ | intro _)
  all_goals (try (conv => whnf))
  all_goals (try simp only [pOk, wrap_w, pre_iff, cast_L, cast_X, cut_lo, cut_hi, cut_both, cut_none, toNat_0, toNat_1, toNat_2, Int.toNat_natCast, List.length_cons, List.length_nil, Nat.zero_add, eq_Pt, eq_Frac, eq_Term, eq_Linear, eq_Row, eq_System, eq_Cubic, eq_Quad, eq_Knot, eq_LoopT, eq_Outline, eq_Segm, eq_Token, eq_Stmt, eq_Curve, decide_eq_true_eq, decide_eq_false_iff_not, ge_iff_le, gt_iff_lt, eta_Pt, eta_Frac, eta_Term, eta_Linear, eta_Row, eta_System, eta_Cubic, eta_Quad, eta_Knot, eta_LoopT, eta_Outline, eta_Segm, eta_Token, eta_Stmt, eta_Curve, Int.ofNat_lt, Int.ofNat_le, Bool.not_eq_true', Bool.not_eq_false'] at *)
  · simp
  · exact ⟨w_in _, w_in _, w_in _⟩
  · simp only [cubAt, cmb]; congr 1 <;> (refine w_ph ?_; simp only [mix3, ph_add, ph_mul, ph_sub, ph_neg, ph_w, ph_0, ph_1, ph_2, ph_3, ph_4, ph_8, ph_20, ph_n1, ph_n2, ph_n3] <;> grind)
  · simp only [cubAt, cmb]; congr 1 <;> (refine w_ph ?_; simp only [mix3, ph_add, ph_mul, ph_sub, ph_neg, ph_w, ph_0, ph_1, ph_2, ph_3, ph_4, ph_8, ph_20, ph_n1, ph_n2, ph_n3] <;> grind)



def K_impl_quadAt : Con := conOf false [.a .quad, .a .int, .a .int] fun ⟨c, k, n, _⟩ =>
  (fun (c : Quad) (k : Int) (n : Int) =>
  (none, [], encA (.a .pt) (quadAt c k n))) c k n

def E_impl_quadAt : Env := { nt := 29, nm := 0, tab := tab, con := (conCons 86 K_impl_Quad_points (conCons 64 K_impl_combine (conCons 85 K_impl_divPt con0))), eqt := eqt, fz := [], cuts := [] }

set_option maxRecDepth 1000000 in
set_option maxHeartbeats 4000000 in
theorem c_impl_quadAt : COk Try.prog 70 K_impl_quadAt := by
  refine cok_fun (E := E_impl_quadAt) Try.func70 rfl rfl (by rfl) mix_ok tab_ok (eq_ok rfl) (con_cons c_impl_Quad_points (con_cons c_impl_combine (con_cons c_impl_divPt con0_ok))) rfl rfl (by decide) ?_
  rintro ⟨(c : Quad), (k : Int), (n : Int), u0⟩ h0
  repeat' ((conv => whnf); first | exact True.intro | (refine (?_ : statOk _ = true); kernel_rfl) | (refine (?_ : dynOk _ _ = true); kernel_rfl) | refine And.intro ?_ ?_ | intro _)
  all_goals (try (conv => whnf))
  all_goals (try simp only [pOk, wrap_w, pre_iff, cast_L, cast_X, cut_lo, cut_hi, cut_both, cut_none, toNat_0, toNat_1, toNat_2, Int.toNat_natCast, List.length_cons, List.length_nil, Nat.zero_add, eq_Pt, eq_Frac, eq_Term, eq_Linear, eq_Row, eq_System, eq_Cubic, eq_Quad, eq_Knot, eq_LoopT, eq_Outline, eq_Segm, eq_Token, eq_Stmt, eq_Curve, decide_eq_true_eq, decide_eq_false_iff_not, ge_iff_le, gt_iff_lt, eta_Pt, eta_Frac, eta_Term, eta_Linear, eta_Row, eta_System, eta_Cubic, eta_Quad, eta_Knot, eta_LoopT, eta_Outline, eta_Segm, eta_Token, eta_Stmt, eta_Curve, Int.ofNat_lt, Int.ofNat_le, Bool.not_eq_true', Bool.not_eq_false'] at *)
  · simp
  · exact ⟨w_in _, w_in _, w_in _⟩
  · simp only [quadAt, cmb]; congr 1 <;> (refine w_ph ?_; simp only [mix2, ph_add, ph_mul, ph_sub, ph_neg, ph_w, ph_0, ph_1, ph_2, ph_3, ph_4, ph_8, ph_20, ph_n1, ph_n2, ph_n3] <;> grind)
  · simp only [quadAt, cmb]; congr 1 <;> (refine w_ph ?_; simp only [mix2, ph_add, ph_mul, ph_sub, ph_neg, ph_w, ph_0, ph_1, ph_2, ph_3, ph_4, ph_8, ph_20, ph_n1, ph_n2, ph_n3] <;> grind)



def K_spec_l09Level : Con := conOf false [.a .int] fun ⟨l, _⟩ =>
  (fun (l : Int) =>
  (none, [], .c (.bool false (decide (0 ≤ l) && decide (l ≤ 6))))) l

def E_spec_l09Level : Env := { nt := 5, nm := 0, tab := tab, con := (conCons 67 K_spec_l00In con0), eqt := eqt, fz := [], cuts := [] }

set_option maxRecDepth 1000000 in
set_option maxHeartbeats 4000000 in
theorem c_spec_l09Level : COk Try.prog 66 K_spec_l09Level := by
  refine cok_fun (E := E_spec_l09Level) Try.func66 rfl rfl (by rfl) mix_ok tab_ok (eq_ok rfl) (con_cons c_spec_l00In con0_ok) rfl rfl (by decide) ?_
  rintro ⟨(l : Int), u0⟩ h0
  repeat' ((conv => whnf); first | exact True.intro | (refine (?_ : statOk _ = true); kernel_rfl) | (refine (?_ : dynOk _ _ = true); kernel_rfl) | refine And.intro ?_ ?_ | intro _)
  all_goals (try (conv => whnf))
  all_goals (try simp only [pOk, wrap_w, pre_iff, cast_L, cast_X, cut_lo, cut_hi, cut_both, cut_none, toNat_0, toNat_1, toNat_2, Int.toNat_natCast, List.length_cons, List.length_nil, Nat.zero_add, eq_Pt, eq_Frac, eq_Term, eq_Linear, eq_Row, eq_System, eq_Cubic, eq_Quad, eq_Knot, eq_LoopT, eq_Outline, eq_Segm, eq_Token, eq_Stmt, eq_Curve, decide_eq_true_eq, decide_eq_false_iff_not, ge_iff_le, gt_iff_lt, eta_Pt, eta_Frac, eta_Term, eta_Linear, eta_Row, eta_System, eta_Cubic, eta_Quad, eta_Knot, eta_LoopT, eta_Outline, eta_Segm, eta_Token, eta_Stmt, eta_Curve, Int.ofNat_lt, Int.ofNat_le, Bool.not_eq_true', Bool.not_eq_false'] at *)
  all_goals first | omega | (simp_all; done) | (simp_all; omega) | grind


/-- 2 ^ l -/
def pw (l : Int) : Nat := 2 ^ l.toNat

theorem shl_one {l : Int} (h : 0 ≤ l ∧ l ≤ 6) : shl .i64 1 l = (pw l : Int) ∧ IntKind.u64.wrap l = l := by
  have : l = 0 ∨ l = 1 ∨ l = 2 ∨ l = 3 ∨ l = 4 ∨ l = 5 ∨ l = 6 := by omega
  rcases this with rfl | rfl | rfl | rfl | rfl | rfl | rfl <;> exact ⟨rfl, rfl⟩
theorem pow_range {l : Int} (h : 0 ≤ l ∧ l ≤ 6) : 1 ≤ pw l ∧ pw l ≤ 64 := by
  have : l = 0 ∨ l = 1 ∨ l = 2 ∨ l = 3 ∨ l = 4 ∨ l = 5 ∨ l = 6 := by omega
  rcases this with rfl | rfl | rfl | rfl | rfl | rfl | rfl <;> (unfold pw; decide)
theorem pow_pos {l : Int} (h : 0 ≤ l ∧ l ≤ 6) : 0 < w ((pw l : Int) * (pw l : Int) * (pw l : Int)) ∧ 0 < w ((pw l : Int) * (pw l : Int)) := by
  have : l = 0 ∨ l = 1 ∨ l = 2 ∨ l = 3 ∨ l = 4 ∨ l = 5 ∨ l = 6 := by omega
  rcases this with rfl | rfl | rfl | rfl | rfl | rfl | rfl <;> (unfold w pw; decide)

attribute [irreducible] pw

def inR (k l : Int) : Bool := decide (0 ≤ l) && decide (l ≤ 6) && decide (0 ≤ k) && decide (k ≤ (pw l : Int))
theorem inR_iff {k l : Int} : inR k l = true ↔ (0 ≤ l ∧ l ≤ 6) ∧ 0 ≤ k ∧ k ≤ (pw l : Int) := by
  simp [inR, and_assoc]
def atCode (v : Bool) (k l : Int) : Int := if v then (if inR k l then 0 else 2) else 1
def cubF (c : Cubic) (k l : Int) : Pt := if vCub c && inR k l then cubAt c k (pw l : Int) else ⟨0, 0⟩
def quadF (c : Quad) (k l : Int) : Pt := if vQuad c && inR k l then quadAt c k (pw l : Int) else ⟨0, 0⟩

theorem inR_no {k l : Int} (h : ¬ ((0 ≤ l ∧ l ≤ 6) ∧ 0 ≤ k ∧ k ≤ (pw l : Int))) : inR k l = false := by
  cases e : inR k l with
  | true => exact absurd (inR_iff.1 e) h
  | false => rfl

theorem atCode_no {v : Bool} {k l : Int} (h : v = false) : atCode v k l = 1 := by subst h; rfl
theorem atCode_in {v : Bool} {k l : Int} (h : v = true) (hr : inR k l = true) : atCode v k l = 0 := by subst h; simp [atCode, hr]
theorem atCode_out {v : Bool} {k l : Int} (h : v = true) (hr : inR k l = false) : atCode v k l = 2 := by subst h; simp [atCode, hr]
theorem cubF_no {c : Cubic} {k l : Int} (h : vCub c = false) : cubF c k l = ⟨0, 0⟩ := by simp [cubF, h]
theorem cubF_out {c : Cubic} {k l : Int} (h : inR k l = false) : cubF c k l = ⟨0, 0⟩ := by simp [cubF, h]
theorem cubF_in {c : Cubic} {k l : Int} (h : vCub c = true) (hr : inR k l = true) : cubF c k l = cubAt c k (pw l : Int) := by simp [cubF, h, hr]
theorem quadF_no {c : Quad} {k l : Int} (h : vQuad c = false) : quadF c k l = ⟨0, 0⟩ := by simp [quadF, h]
theorem quadF_out {c : Quad} {k l : Int} (h : inR k l = false) : quadF c k l = ⟨0, 0⟩ := by simp [quadF, h]
theorem quadF_in {c : Quad} {k l : Int} (h : vQuad c = true) (hr : inR k l = true) : quadF c k l = quadAt c k (pw l : Int) := by simp [quadF, h, hr]


def K_spec_CubicAt : Con := conOf false [.a .cubic, .a .int, .a .int] fun ⟨c, k, l, _⟩ =>
  (fun (c : Cubic) (k : Int) (l : Int) =>
  (none, [], .tup [(true, enc .pt (cubF c k l)), (false, [.int .i64 (atCode (vCub c) k l)])])) c k l

def E_spec_CubicAt : Env := { nt := 28, nm := 0, tab := tab, con := (conCons 49 K_spec_l09Ok (conCons 66 K_spec_l09Level (conCons 67 K_spec_l00In (conCons 71 K_spec_l09At con0)))), eqt := eqt, fz := [], cuts := [] }

set_option maxRecDepth 1000000 in
set_option maxHeartbeats 4000000 in
theorem c_spec_CubicAt : COk Try.prog 35 K_spec_CubicAt := by
  refine cok_fun (E := E_spec_CubicAt) Try.func35 rfl rfl (by rfl) mix_ok tab_ok (eq_ok rfl) (con_cons c_spec_l09Ok (con_cons c_spec_l09Level (con_cons c_spec_l00In (con_cons c_spec_l09At con0_ok)))) rfl rfl (by decide) ?_
  rintro ⟨(c : Cubic), (k : Int), (l : Int), u0⟩ h0
  repeat' ((conv => whnf); first | exact True.intro | (refine (?_ : statOk _ = true); kernel_rfl) | (refine (?_ : dynOk _ _ = true); kernel_rfl) | refine And.intro ?_ ?_ | intro _)
  all_goals (try (conv => whnf))
  all_goals (try simp only [pOk, wrap_w, pre_iff, cast_L, cast_X, cut_lo, cut_hi, cut_both, cut_none, toNat_0, toNat_1, toNat_2, Int.toNat_natCast, List.length_cons, List.length_nil, Nat.zero_add, eq_Pt, eq_Frac, eq_Term, eq_Linear, eq_Row, eq_System, eq_Cubic, eq_Quad, eq_Knot, eq_LoopT, eq_Outline, eq_Segm, eq_Token, eq_Stmt, eq_Curve, decide_eq_true_eq, decide_eq_false_iff_not, ge_iff_le, gt_iff_lt, eta_Pt, eta_Frac, eta_Term, eta_Linear, eta_Row, eta_System, eta_Cubic, eta_Quad, eta_Knot, eta_LoopT, eta_Outline, eta_Segm, eta_Token, eta_Stmt, eta_Curve, Int.ofNat_lt, Int.ofNat_le, Bool.not_eq_true', Bool.not_eq_false'] at *)
  all_goals (try simp only [Bool.and_eq_true, Bool.and_eq_false_iff, decide_eq_true_eq, decide_eq_false_iff_not] at *)
  all_goals first
    | (simp only [u64_nonneg]; done)
    | omega
    | (rw [cubF_no (by assumption)]; done)
    | (rw [atCode_no (by assumption)]; done)
    | (have hl : 0 ≤ l ∧ l ≤ 6 := by omega
       (try simp only [(shl_one hl).1, (shl_one hl).2] at *)
       first
         | (simp only [(pow_pos hl).1, (pow_pos hl).2]; done)
         | (rw [cubF_in (by assumption) (inR_iff.2 ⟨hl, by omega⟩)]; done)
         | (rw [cubF_out (inR_no (by omega))]; done)
         | (rw [atCode_in (by assumption) (inR_iff.2 ⟨hl, by omega⟩)]; done)
         | (rw [atCode_out (by assumption) (inR_no (by omega))]; done))
    | (have hr := inR_no (k := k) (l := l) (by omega)
       first
         | (rw [cubF_out hr]; done)
         | (rw [atCode_out (by assumption) hr]; done))
    | trace_state



def K_impl_CubicAt : Con := conOf false [.a .cubic, .a .int, .a .int] fun ⟨c, k, l, _⟩ =>
  (fun (c : Cubic) (k : Int) (l : Int) =>
  (none, [], .tup [(true, enc .pt (cubF c k l)), (false, [.int .i64 (atCode (vCub c) k l)])])) c k l

def E_impl_CubicAt : Env := { nt := 34, nm := 0, tab := tab, con := (conCons 19 K_impl_ValidCubic (conCons 72 K_impl_cubicAt con0)), eqt := eqt, fz := [], cuts := [] }

set_option maxRecDepth 1000000 in
set_option maxHeartbeats 4000000 in
theorem c_impl_CubicAt : COk Try.prog 36 K_impl_CubicAt := by
  refine cok_fun (E := E_impl_CubicAt) Try.func36 rfl rfl (by rfl) mix_ok tab_ok (eq_ok rfl) (con_cons c_impl_ValidCubic (con_cons c_impl_cubicAt con0_ok)) rfl rfl (by decide) ?_
  rintro ⟨(c : Cubic), (k : Int), (l : Int), u0⟩ h0
  repeat' ((conv => whnf); first | exact True.intro | (refine (?_ : statOk _ = true); kernel_rfl) | (refine (?_ : dynOk _ _ = true); kernel_rfl) | refine And.intro ?_ ?_ | intro _)
  all_goals (try (conv => whnf))
  all_goals (try simp only [pOk, wrap_w, pre_iff, cast_L, cast_X, cut_lo, cut_hi, cut_both, cut_none, toNat_0, toNat_1, toNat_2, Int.toNat_natCast, List.length_cons, List.length_nil, Nat.zero_add, eq_Pt, eq_Frac, eq_Term, eq_Linear, eq_Row, eq_System, eq_Cubic, eq_Quad, eq_Knot, eq_LoopT, eq_Outline, eq_Segm, eq_Token, eq_Stmt, eq_Curve, decide_eq_true_eq, decide_eq_false_iff_not, ge_iff_le, gt_iff_lt, eta_Pt, eta_Frac, eta_Term, eta_Linear, eta_Row, eta_System, eta_Cubic, eta_Quad, eta_Knot, eta_LoopT, eta_Outline, eta_Segm, eta_Token, eta_Stmt, eta_Curve, Int.ofNat_lt, Int.ofNat_le, Bool.not_eq_true', Bool.not_eq_false'] at *)
  all_goals (try simp only [Bool.and_eq_true, Bool.and_eq_false_iff, decide_eq_true_eq, decide_eq_false_iff_not] at *)
  all_goals first
    | (simp only [u64_nonneg]; done)
    | omega
    | (rw [cubF_no (by assumption)]; done)
    | (rw [atCode_no (by assumption)]; done)
    | (have hl : 0 ≤ l ∧ l ≤ 6 := by omega
       (try simp only [(shl_one hl).1, (shl_one hl).2] at *)
       first
         | (simp only [(pow_pos hl).1, (pow_pos hl).2]; done)
         | (rw [cubF_in (by assumption) (inR_iff.2 ⟨hl, by omega⟩)]; done)
         | (rw [cubF_out (inR_no (by omega))]; done)
         | (rw [atCode_in (by assumption) (inR_iff.2 ⟨hl, by omega⟩)]; done)
         | (rw [atCode_out (by assumption) (inR_no (by omega))]; done))
    | (have hr := inR_no (k := k) (l := l) (by omega)
       first
         | (rw [cubF_out hr]; done)
         | (rw [atCode_out (by assumption) hr]; done))
    | trace_state



def K_spec_QuadAt : Con := conOf false [.a .quad, .a .int, .a .int] fun ⟨c, k, l, _⟩ =>
  (fun (c : Quad) (k : Int) (l : Int) =>
  (none, [], .tup [(true, enc .pt (quadF c k l)), (false, [.int .i64 (atCode (vQuad c) k l)])])) c k l

def E_spec_QuadAt : Env := { nt := 28, nm := 0, tab := tab, con := (conCons 65 K_spec_l10Quad (conCons 66 K_spec_l09Level (conCons 67 K_spec_l00In (conCons 68 K_spec_l10At con0)))), eqt := eqt, fz := [], cuts := [] }

set_option maxRecDepth 1000000 in
set_option maxHeartbeats 4000000 in
theorem c_spec_QuadAt : COk Try.prog 32 K_spec_QuadAt := by
  refine cok_fun (E := E_spec_QuadAt) Try.func32 rfl rfl (by rfl) mix_ok tab_ok (eq_ok rfl) (con_cons c_spec_l10Quad (con_cons c_spec_l09Level (con_cons c_spec_l00In (con_cons c_spec_l10At con0_ok)))) rfl rfl (by decide) ?_
  rintro ⟨(c : Quad), (k : Int), (l : Int), u0⟩ h0
  repeat' ((conv => whnf); first | exact True.intro | (refine (?_ : statOk _ = true); kernel_rfl) | (refine (?_ : dynOk _ _ = true); kernel_rfl) | refine And.intro ?_ ?_ | intro _)
  all_goals (try (conv => whnf))
  all_goals (try simp only [pOk, wrap_w, pre_iff, cast_L, cast_X, cut_lo, cut_hi, cut_both, cut_none, toNat_0, toNat_1, toNat_2, Int.toNat_natCast, List.length_cons, List.length_nil, Nat.zero_add, eq_Pt, eq_Frac, eq_Term, eq_Linear, eq_Row, eq_System, eq_Cubic, eq_Quad, eq_Knot, eq_LoopT, eq_Outline, eq_Segm, eq_Token, eq_Stmt, eq_Curve, decide_eq_true_eq, decide_eq_false_iff_not, ge_iff_le, gt_iff_lt, eta_Pt, eta_Frac, eta_Term, eta_Linear, eta_Row, eta_System, eta_Cubic, eta_Quad, eta_Knot, eta_LoopT, eta_Outline, eta_Segm, eta_Token, eta_Stmt, eta_Curve, Int.ofNat_lt, Int.ofNat_le, Bool.not_eq_true', Bool.not_eq_false'] at *)
  all_goals (try simp only [Bool.and_eq_true, Bool.and_eq_false_iff, decide_eq_true_eq, decide_eq_false_iff_not] at *)
  all_goals first
    | (simp only [u64_nonneg]; done)
    | omega
    | (rw [quadF_no (by assumption)]; done)
    | (rw [atCode_no (by assumption)]; done)
    | (have hl : 0 ≤ l ∧ l ≤ 6 := by omega
       (try simp only [(shl_one hl).1, (shl_one hl).2] at *)
       first
         | (simp only [(pow_pos hl).1, (pow_pos hl).2]; done)
         | (rw [quadF_in (by assumption) (inR_iff.2 ⟨hl, by omega⟩)]; done)
         | (rw [quadF_out (inR_no (by omega))]; done)
         | (rw [atCode_in (by assumption) (inR_iff.2 ⟨hl, by omega⟩)]; done)
         | (rw [atCode_out (by assumption) (inR_no (by omega))]; done))
    | (have hr := inR_no (k := k) (l := l) (by omega)
       first
         | (rw [quadF_out hr]; done)
         | (rw [atCode_out (by assumption) hr]; done))
    | trace_state



def K_impl_QuadAt : Con := conOf false [.a .quad, .a .int, .a .int] fun ⟨c, k, l, _⟩ =>
  (fun (c : Quad) (k : Int) (l : Int) =>
  (none, [], .tup [(true, enc .pt (quadF c k l)), (false, [.int .i64 (atCode (vQuad c) k l)])])) c k l

def E_impl_QuadAt : Env := { nt := 34, nm := 0, tab := tab, con := (conCons 69 K_impl_validQuad (conCons 70 K_impl_quadAt con0)), eqt := eqt, fz := [], cuts := [] }

set_option maxRecDepth 1000000 in
set_option maxHeartbeats 4000000 in
theorem c_impl_QuadAt : COk Try.prog 34 K_impl_QuadAt := by
  refine cok_fun (E := E_impl_QuadAt) Try.func34 rfl rfl (by rfl) mix_ok tab_ok (eq_ok rfl) (con_cons c_impl_validQuad (con_cons c_impl_quadAt con0_ok)) rfl rfl (by decide) ?_
  rintro ⟨(c : Quad), (k : Int), (l : Int), u0⟩ h0
  repeat' ((conv => whnf); first | exact True.intro | (refine (?_ : statOk _ = true); kernel_rfl) | (refine (?_ : dynOk _ _ = true); kernel_rfl) | refine And.intro ?_ ?_ | intro _)
  all_goals (try (conv => whnf))
  all_goals (try simp only [pOk, wrap_w, pre_iff, cast_L, cast_X, cut_lo, cut_hi, cut_both, cut_none, toNat_0, toNat_1, toNat_2, Int.toNat_natCast, List.length_cons, List.length_nil, Nat.zero_add, eq_Pt, eq_Frac, eq_Term, eq_Linear, eq_Row, eq_System, eq_Cubic, eq_Quad, eq_Knot, eq_LoopT, eq_Outline, eq_Segm, eq_Token, eq_Stmt, eq_Curve, decide_eq_true_eq, decide_eq_false_iff_not, ge_iff_le, gt_iff_lt, eta_Pt, eta_Frac, eta_Term, eta_Linear, eta_Row, eta_System, eta_Cubic, eta_Quad, eta_Knot, eta_LoopT, eta_Outline, eta_Segm, eta_Token, eta_Stmt, eta_Curve, Int.ofNat_lt, Int.ofNat_le, Bool.not_eq_true', Bool.not_eq_false'] at *)
  all_goals (try simp only [Bool.and_eq_true, Bool.and_eq_false_iff, decide_eq_true_eq, decide_eq_false_iff_not] at *)
  all_goals first
    | (simp only [u64_nonneg]; done)
    | omega
    | (rw [quadF_no (by assumption)]; done)
    | (rw [atCode_no (by assumption)]; done)
    | (have hl : 0 ≤ l ∧ l ≤ 6 := by omega
       (try simp only [(shl_one hl).1, (shl_one hl).2] at *)
       first
         | (simp only [(pow_pos hl).1, (pow_pos hl).2]; done)
         | (rw [quadF_in (by assumption) (inR_iff.2 ⟨hl, by omega⟩)]; done)
         | (rw [quadF_out (inR_no (by omega))]; done)
         | (rw [atCode_in (by assumption) (inR_iff.2 ⟨hl, by omega⟩)]; done)
         | (rw [atCode_out (by assumption) (inR_no (by omega))]; done))
    | (have hr := inR_no (k := k) (l := l) (by omega)
       first
         | (rw [quadF_out hr]; done)
         | (rw [atCode_out (by assumption) hr]; done))
    | trace_state


end GV

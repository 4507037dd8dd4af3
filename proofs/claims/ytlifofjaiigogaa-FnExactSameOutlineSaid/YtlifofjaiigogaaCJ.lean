/-
  Contracts: knots and loops. No condition beyond those named.
-/
import Derived.Test.YtlifofjaiigogaaCI
namespace GV
open Go Go.Proofs
set_option linter.unusedSimpArgs false
set_option linter.unusedVariables false


def K_laws_toKnot : Con := conOf false [.a .knot] fun ⟨k, _⟩ =>
  (fun (k : Knot) =>
  (none, [], encA (.a .knot) k)) k

def E_laws_toKnot : Env := { nt := 12, nm := 0, tab := tab, con := (conCons 35 K_laws_toPt con0), eqt := eqt, fz := [], cuts := [] }

set_option maxRecDepth 1000000 in
set_option maxHeartbeats 4000000 in
theorem c_laws_toKnot : COk Try.prog 100 K_laws_toKnot := by
  refine cok_fun (E := E_laws_toKnot) Try.func100 rfl rfl (by rfl) mix_ok tab_ok (eq_ok rfl) (con_cons c_laws_toPt con0_ok) rfl rfl (by decide) ?_
  rintro ⟨(k : Knot), u0⟩ h0
  repeat' ((conv => whnf); first | exact True.intro | (refine (?_ : statOk _ = true); kernel_rfl) | (refine (?_ : dynOk _ _ = true); kernel_rfl) | refine And.intro ?_ ?_ | intro _)
  all_goals (try (conv => whnf))
  all_goals (try simp only [pOk, wrap_w, pre_iff, cast_L, cast_X, cut_lo, cut_hi, cut_both, cut_none, toNat_0, toNat_1, toNat_2, Int.toNat_natCast, List.length_cons, List.length_nil, Nat.zero_add, eq_Pt, eq_Frac, eq_Term, eq_Linear, eq_Row, eq_System, eq_Cubic, eq_Quad, eq_Knot, eq_LoopT, eq_Outline, eq_Segm, eq_Token, eq_Stmt, eq_Curve, decide_eq_true_eq, decide_eq_false_iff_not, ge_iff_le, gt_iff_lt, eta_Pt, eta_Frac, eta_Term, eta_Linear, eta_Row, eta_System, eta_Cubic, eta_Quad, eta_Knot, eta_LoopT, eta_Outline, eta_Segm, eta_Token, eta_Stmt, eta_Curve, Int.ofNat_lt, Int.ofNat_le, Bool.not_eq_true', Bool.not_eq_false'] at *)
  all_goals first | omega | (simp_all; done) | (simp_all; omega) | grind



def K_laws_eqKnot : Con := conOf false [.a .knot, .a .knot] fun ⟨p, q, _⟩ =>
  (fun (p : Knot) (q : Knot) =>
  (none, [], .c (.bool false (decide (p = q))))) p q

def E_laws_eqKnot : Env := { nt := 16, nm := 0, tab := tab, con := (conCons 43 K_laws_eqPt con0), eqt := eqt, fz := [], cuts := [] }

set_option maxRecDepth 1000000 in
set_option maxHeartbeats 4000000 in
theorem c_laws_eqKnot : COk Try.prog 102 K_laws_eqKnot := by
  refine cok_fun (E := E_laws_eqKnot) Try.func102 rfl rfl (by rfl) mix_ok tab_ok (eq_ok rfl) (con_cons c_laws_eqPt con0_ok) rfl rfl (by decide) ?_
  rintro ⟨(p : Knot), (q : Knot), u0⟩ h0
  repeat' ((conv => whnf); first | exact True.intro | (refine (?_ : statOk _ = true); kernel_rfl) | (refine (?_ : dynOk _ _ = true); kernel_rfl) | refine And.intro ?_ ?_ | intro _)
  all_goals (try (conv => whnf))
  all_goals (try simp only [pOk, wrap_w, pre_iff, cast_L, cast_X, cut_lo, cut_hi, cut_both, cut_none, toNat_0, toNat_1, toNat_2, Int.toNat_natCast, List.length_cons, List.length_nil, Nat.zero_add, eq_Pt, eq_Frac, eq_Term, eq_Linear, eq_Row, eq_System, eq_Cubic, eq_Quad, eq_Knot, eq_LoopT, eq_Outline, eq_Segm, eq_Token, eq_Stmt, eq_Curve, decide_eq_true_eq, decide_eq_false_iff_not, ge_iff_le, gt_iff_lt, eta_Pt, eta_Frac, eta_Term, eta_Linear, eta_Row, eta_System, eta_Cubic, eta_Quad, eta_Knot, eta_LoopT, eta_Outline, eta_Segm, eta_Token, eta_Stmt, eta_Curve, Int.ofNat_lt, Int.ofNat_le, Bool.not_eq_true', Bool.not_eq_false'] at *)
  all_goals first | omega | (simp_all; done) | (simp_all; omega) | grind



def K_laws_szKnotS : Con := conOf false [.s .knot, .a .int] fun ⟨xs, l, _⟩ =>
  (fun (xs : List Knot) (l : Int) =>
  (some (0 ≤ l ∧ l ≤ 1048576), [], .c (.int .i64 (subF l xs.length)))) xs l

def E_laws_szKnotS : Env := { nt := 12, nm := 0, tab := tab, con := con0, eqt := eqt, fz := [], cuts := [] }

set_option maxRecDepth 1000000 in
set_option maxHeartbeats 4000000 in
theorem c_laws_szKnotS : COk Try.prog 61 K_laws_szKnotS := by
  refine cok_fun (E := E_laws_szKnotS) Try.func61 rfl rfl (by rfl) mix_ok tab_ok (eq_ok rfl) con0_ok rfl rfl (by decide) ?_
  rintro ⟨(xs : List Knot), (l : Int), u0⟩ h0
  repeat' ((conv => whnf); first | exact True.intro | (refine (?_ : statOk _ = true); kernel_rfl) | (refine (?_ : dynOk _ _ = true); kernel_rfl) | refine And.intro ?_ ?_ | intro _)
  all_goals (try (conv => whnf))
  all_goals (try simp only [pOk, wrap_w, pre_iff, cast_L, cast_X, cut_lo, cut_hi, cut_both, cut_none, toNat_0, toNat_1, toNat_2, Int.toNat_natCast, List.length_cons, List.length_nil, Nat.zero_add, eq_Pt, eq_Frac, eq_Term, eq_Linear, eq_Row, eq_System, eq_Cubic, eq_Quad, eq_Knot, eq_LoopT, eq_Outline, eq_Segm, eq_Token, eq_Stmt, eq_Curve, decide_eq_true_eq, decide_eq_false_iff_not, ge_iff_le, gt_iff_lt, eta_Pt, eta_Frac, eta_Term, eta_Linear, eta_Row, eta_System, eta_Cubic, eta_Quad, eta_Knot, eta_LoopT, eta_Outline, eta_Segm, eta_Token, eta_Stmt, eta_Curve, Int.ofNat_lt, Int.ofNat_le, Bool.not_eq_true', Bool.not_eq_false'] at *)
  all_goals obtain ⟨h1, h2⟩ := h0
  all_goals (try simp only [Int.sub_eq_add_neg] at *)
  · rename_i hlen hneg
    rw [w_id (by omega)] at hneg
    unfold subF; rw [if_pos (by omega)]
  · rename_i hlen hneg
    rw [w_id (by omega)] at hneg ⊢
    unfold subF; rw [if_neg (by omega)]; omega




def K_laws_toKnotS : Con := conOf false [.s .knot] fun ⟨xs, _⟩ =>
  (fun (xs : List Knot) =>
  (some (xs.length ≤ 1048576), [.seq .knot xs], .c (.sl 0 0))) xs

def E_laws_toKnotS : Env := { nt := 23, nm := 0, tab := tab, con := (conCons 100 K_laws_toKnot con0), eqt := eqt, fz := [], cuts := [] }

set_option maxRecDepth 1000000 in
set_option maxHeartbeats 4000000 in
theorem c_laws_toKnotS : COk Try.prog 63 K_laws_toKnotS := by
  refine cok_fun (E := E_laws_toKnotS) Try.func63 rfl rfl (by rfl) mix_ok tab_ok (eq_ok rfl) (con_cons c_laws_toKnot con0_ok) rfl rfl (by decide) ?_
  rintro ⟨(xs : List Knot), u0⟩ h0
  have hx : xs.length ≤ 1048576 := h0
  repeat' ((conv => whnf); first | exact True.intro | (refine (?_ : statOk _ = true); kernel_rfl) | (refine (?_ : dynOk _ _ = true); kernel_rfl) | refine And.intro ?_ ?_ | intro _)
  all_goals (try (conv => whnf))
  all_goals (try with_reducible rfl)
  · exact ⟨by omega, by omega, by omega⟩
  · refine aw_loopT (fun i : Nat => [(4, .c (.int .i64 i))]) (fun i => [(7, 1, .seq .knot (xs.take i ++ (List.replicate xs.length (dflt .knot)).drop i))]) (fun i => i ≤ xs.length) (fun i => xs.length - i) 0 ?_ ?_ ?_
    · exact Nat.zero_le _
    · repeat' ((conv => whnf); first | exact True.intro | (refine (?_ : statOk _ = true); kernel_rfl) | (refine (?_ : dynOk _ _ = true); kernel_rfl) | refine And.intro ?_ ?_ | intro _)
      all_goals (try (conv => whnf))
      all_goals (try with_reducible rfl)
      all_goals simp
    · intro i hi
      repeat' ((conv => whnf); first | exact True.intro | (refine (?_ : statOk _ = true); kernel_rfl) | (refine (?_ : dynOk _ _ = true); kernel_rfl) | refine And.intro ?_ ?_ | intro _)
      all_goals (try (conv => whnf))
      all_goals (try with_reducible rfl)
      all_goals (try (refine (⟨i + 1, ?_⟩ : Exists _)))
      repeat' ((conv => whnf); first | exact True.intro | (refine (?_ : statOk _ = true); kernel_rfl) | (refine (?_ : dynOk _ _ = true); kernel_rfl) | refine And.intro ?_ ?_ | intro _)
      all_goals (try (conv => whnf))
      all_goals (try with_reducible rfl)
      all_goals (try simp only [pOk, wrap_w, pre_iff, cast_L, cast_X, decide_eq_true_eq, decide_eq_false_iff_not, Int.ofNat_lt, eta_Pt, eta_Frac, eta_Term, eta_Knot, eta_LoopT, eta_Linear, eta_Row, List.length_append, List.length_drop, List.length_replicate, List.length_take, Int.toNat_natCast] at *)
      all_goals first | omega | (rw [w_succ]; omega) | (refine ⟨by omega, ?_⟩; omega) | (exact copy_step ⟨by omega, by rw [List.length_replicate]; omega⟩ rfl) | (exact copy_end ⟨by omega, List.length_replicate⟩) | trace_state



def K_laws_eqKnotS : Con := conOf false [.s .knot, .s .knot] fun ⟨xs, ys, _⟩ =>
  (fun (xs : List Knot) (ys : List Knot) =>
  (none, [], .c (.bool false (decide (xs = ys))))) xs ys

def E_laws_eqKnotS : Env := { nt := 27, nm := 0, tab := tab, con := (conCons 102 K_laws_eqKnot con0), eqt := eqt, fz := [], cuts := [] }

set_option maxRecDepth 1000000 in
set_option maxHeartbeats 4000000 in
theorem c_laws_eqKnotS : COk Try.prog 67 K_laws_eqKnotS := by
  refine cok_fun (E := E_laws_eqKnotS) Try.func67 rfl rfl (by rfl) mix_ok tab_ok (eq_ok rfl) (con_cons c_laws_eqKnot con0_ok) rfl rfl (by decide) ?_
  rintro ⟨(xs : List Knot), (ys : List Knot), u0⟩ h0
  repeat' ((conv => whnf); first | exact True.intro | (refine (?_ : statOk _ = true); kernel_rfl) | (refine (?_ : dynOk _ _ = true); kernel_rfl) | refine And.intro ?_ ?_ | intro _)
  all_goals (try (conv => whnf))
  all_goals (try with_reducible rfl)
  · all_goals (try simp only [pOk, wrap_w, pre_iff, cast_L, cast_X, cut_lo, cut_hi, cut_both, cut_none, toNat_0, toNat_1, toNat_2, Int.toNat_natCast, List.length_cons, List.length_nil, Nat.zero_add, eq_Pt, eq_Frac, eq_Term, eq_Linear, eq_Row, eq_System, eq_Cubic, eq_Quad, eq_Knot, eq_LoopT, eq_Outline, eq_Segm, eq_Token, eq_Stmt, eq_Curve, decide_eq_true_eq, decide_eq_false_iff_not, ge_iff_le, gt_iff_lt, eta_Pt, eta_Frac, eta_Term, eta_Linear, eta_Row, eta_System, eta_Cubic, eta_Quad, eta_Knot, eta_LoopT, eta_Outline, eta_Segm, eta_Token, eta_Stmt, eta_Curve, Int.ofNat_lt, Int.ofNat_le, Bool.not_eq_true', Bool.not_eq_false'] at *)
    rename_i h
    exact (decide_eq_false fun e => h (by rw [e])).symm
  · rename_i hl0 hl1 hl2
    refine aw_loopT (fun i : Nat => [(5, .c (.int .i64 i))]) (fun _ => []) (fun i => i ≤ xs.length ∧ xs.take i = ys.take i) (fun i => xs.length - i) 0 ?_ ?_ ?_
    · exact ⟨Nat.zero_le _, rfl⟩
    · repeat' ((conv => whnf); first | exact True.intro | (refine (?_ : statOk _ = true); kernel_rfl) | (refine (?_ : dynOk _ _ = true); kernel_rfl) | refine And.intro ?_ ?_ | intro _)
      all_goals (try (conv => whnf))
      all_goals (try with_reducible rfl)
      all_goals simp
    · rintro i ⟨hi, hj⟩
      repeat' ((conv => whnf); first | exact True.intro | (refine (?_ : statOk _ = true); kernel_rfl) | (refine (?_ : dynOk _ _ = true); kernel_rfl) | refine And.intro ?_ ?_ | intro _)
      all_goals (try (conv => whnf))
      all_goals (try with_reducible rfl)
      all_goals (try (refine (⟨i + 1, ?_⟩ : Exists _)))
      repeat' ((conv => whnf); first | exact True.intro | (refine (?_ : statOk _ = true); kernel_rfl) | (refine (?_ : dynOk _ _ = true); kernel_rfl) | refine And.intro ?_ ?_ | intro _)
      all_goals (try (conv => whnf))
      all_goals (try with_reducible rfl)
      all_goals (try simp only [pOk, wrap_w, pre_iff, cast_L, cast_X, cut_lo, cut_hi, cut_both, cut_none, toNat_0, toNat_1, toNat_2, Int.toNat_natCast, List.length_cons, List.length_nil, Nat.zero_add, eq_Pt, eq_Frac, eq_Term, eq_Linear, eq_Row, eq_System, eq_Cubic, eq_Quad, eq_Knot, eq_LoopT, eq_Outline, eq_Segm, eq_Token, eq_Stmt, eq_Curve, decide_eq_true_eq, decide_eq_false_iff_not, ge_iff_le, gt_iff_lt, eta_Pt, eta_Frac, eta_Term, eta_Linear, eta_Row, eta_System, eta_Cubic, eta_Quad, eta_Knot, eta_LoopT, eta_Outline, eta_Segm, eta_Token, eta_Stmt, eta_Curve, Int.ofNat_lt, Int.ofNat_le, Bool.not_eq_true', Bool.not_eq_false'] at *)
      all_goals first | omega | (rw [w_succ]; omega) | (refine (decide_eq_false (eq_f (by assumption) ?_)).symm; simp only [ne_eq, eq_Pt, eq_Quad, eq_Cubic, eq_Knot, eq_Frac, eq_Term, eq_LoopT, eq_Linear, eq_Row]; assumption) | (refine ⟨by omega, eq_t (by omega) (by omega) ?_ hj⟩; simp only [eq_Pt, eq_Quad, eq_Cubic, eq_Knot, eq_Frac, eq_Term, eq_LoopT, eq_Linear, eq_Row]; assumption) | exact (decide_eq_true (eq_e (by assumption) (by omega) hj)).symm | trace_state



def K_laws_szLoop : Con := conOf false [.a .loop, .a .int] fun ⟨c, l, _⟩ =>
  (fun (c : LoopT) (l : Int) =>
  (some (0 ≤ l ∧ l ≤ 1048576), [], .c (.int .i64 (subF l c.Knots.length)))) c l

def E_laws_szLoop : Env := { nt := 12, nm := 0, tab := tab, con := (conCons 61 K_laws_szKnotS con0), eqt := eqt, fz := [], cuts := [] }

set_option maxRecDepth 1000000 in
set_option maxHeartbeats 4000000 in
theorem c_laws_szLoop : COk Try.prog 20 K_laws_szLoop := by
  refine cok_fun (E := E_laws_szLoop) Try.func20 rfl rfl (by rfl) mix_ok tab_ok (eq_ok rfl) (con_cons c_laws_szKnotS con0_ok) rfl rfl (by decide) ?_
  rintro ⟨(c : LoopT), (l : Int), u0⟩ h0
  repeat' ((conv => whnf); first | exact True.intro | (refine (?_ : statOk _ = true); kernel_rfl) | (refine (?_ : dynOk _ _ = true); kernel_rfl) | refine And.intro ?_ ?_ | intro _)
  all_goals (try (conv => whnf))
  all_goals (try simp only [pOk, wrap_w, pre_iff, cast_L, cast_X, cut_lo, cut_hi, cut_both, cut_none, toNat_0, toNat_1, toNat_2, Int.toNat_natCast, List.length_cons, List.length_nil, Nat.zero_add, eq_Pt, eq_Frac, eq_Term, eq_Linear, eq_Row, eq_System, eq_Cubic, eq_Quad, eq_Knot, eq_LoopT, eq_Outline, eq_Segm, eq_Token, eq_Stmt, eq_Curve, decide_eq_true_eq, decide_eq_false_iff_not, ge_iff_le, gt_iff_lt, eta_Pt, eta_Frac, eta_Term, eta_Linear, eta_Row, eta_System, eta_Cubic, eta_Quad, eta_Knot, eta_LoopT, eta_Outline, eta_Segm, eta_Token, eta_Stmt, eta_Curve, Int.ofNat_lt, Int.ofNat_le, Bool.not_eq_true', Bool.not_eq_false'] at *)
  · exact h0
  · rename_i h1 h2
    have := subF_lt.1 h2
    unfold subF; rw [if_pos (by omega)]



def K_laws_toLoop : Con := conOf false [.a .loop] fun ⟨c, _⟩ =>
  (fun (c : LoopT) =>
  (some (c.Knots.length ≤ 1048576), [.seq .knot c.Knots], .agg [.sl 0 0])) c

def E_laws_toLoop : Env := { nt := 9, nm := 0, tab := tab, con := (conCons 63 K_laws_toKnotS con0), eqt := eqt, fz := [], cuts := [] }

set_option maxRecDepth 1000000 in
set_option maxHeartbeats 4000000 in
theorem c_laws_toLoop : COk Try.prog 22 K_laws_toLoop := by
  refine cok_fun (E := E_laws_toLoop) Try.func22 rfl rfl (by rfl) mix_ok tab_ok (eq_ok rfl) (con_cons c_laws_toKnotS con0_ok) rfl rfl (by decide) ?_
  rintro ⟨(c : LoopT), u0⟩ h0
  repeat' ((conv => whnf); first | exact True.intro | (refine (?_ : statOk _ = true); kernel_rfl) | (refine (?_ : dynOk _ _ = true); kernel_rfl) | refine And.intro ?_ ?_ | intro _)
  all_goals (try (conv => whnf))
  all_goals (try simp only [pOk, wrap_w, pre_iff, cast_L, cast_X, cut_lo, cut_hi, cut_both, cut_none, toNat_0, toNat_1, toNat_2, Int.toNat_natCast, List.length_cons, List.length_nil, Nat.zero_add, eq_Pt, eq_Frac, eq_Term, eq_Linear, eq_Row, eq_System, eq_Cubic, eq_Quad, eq_Knot, eq_LoopT, eq_Outline, eq_Segm, eq_Token, eq_Stmt, eq_Curve, decide_eq_true_eq, decide_eq_false_iff_not, ge_iff_le, gt_iff_lt, eta_Pt, eta_Frac, eta_Term, eta_Linear, eta_Row, eta_System, eta_Cubic, eta_Quad, eta_Knot, eta_LoopT, eta_Outline, eta_Segm, eta_Token, eta_Stmt, eta_Curve, Int.ofNat_lt, Int.ofNat_le, Bool.not_eq_true', Bool.not_eq_false'] at *)
  all_goals first | omega | (simp_all; done) | (simp_all; omega) | grind



def K_laws_eqLoop : Con := conOf false [.a .loop, .a .loop] fun ⟨a, b, _⟩ =>
  (fun (a : LoopT) (b : LoopT) =>
  (none, [], .c (.bool false (decide (a = b))))) a b

def E_laws_eqLoop : Env := { nt := 11, nm := 0, tab := tab, con := (conCons 67 K_laws_eqKnotS con0), eqt := eqt, fz := [], cuts := [] }

set_option maxRecDepth 1000000 in
set_option maxHeartbeats 4000000 in
theorem c_laws_eqLoop : COk Try.prog 24 K_laws_eqLoop := by
  refine cok_fun (E := E_laws_eqLoop) Try.func24 rfl rfl (by rfl) mix_ok tab_ok (eq_ok rfl) (con_cons c_laws_eqKnotS con0_ok) rfl rfl (by decide) ?_
  rintro ⟨(a : LoopT), (b : LoopT), u0⟩ h0
  repeat' ((conv => whnf); first | exact True.intro | (refine (?_ : statOk _ = true); kernel_rfl) | (refine (?_ : dynOk _ _ = true); kernel_rfl) | refine And.intro ?_ ?_ | intro _)
  all_goals (try (conv => whnf))
  all_goals (try simp only [pOk, wrap_w, pre_iff, cast_L, cast_X, cut_lo, cut_hi, cut_both, cut_none, toNat_0, toNat_1, toNat_2, Int.toNat_natCast, List.length_cons, List.length_nil, Nat.zero_add, eq_Pt, eq_Frac, eq_Term, eq_Linear, eq_Row, eq_System, eq_Cubic, eq_Quad, eq_Knot, eq_LoopT, eq_Outline, eq_Segm, eq_Token, eq_Stmt, eq_Curve, decide_eq_true_eq, decide_eq_false_iff_not, ge_iff_le, gt_iff_lt, eta_Pt, eta_Frac, eta_Term, eta_Linear, eta_Row, eta_System, eta_Cubic, eta_Quad, eta_Knot, eta_LoopT, eta_Outline, eta_Segm, eta_Token, eta_Stmt, eta_Curve, Int.ofNat_lt, Int.ofNat_le, Bool.not_eq_true', Bool.not_eq_false'] at *)
  all_goals first | omega | (simp_all; done) | (simp_all; omega) | grind


def knOk (k : Knot) : Bool := vPt k.At
def vLoop (l : LoopT) : Bool := decide (1 ≤ l.Knots.length) && decide (l.Knots.length ≤ 60) && (el l.Knots 0).On && l.Knots.all knOk


def K_impl_ValidLoop_1 : Con := conOf false [.a .knot] fun ⟨k, _⟩ =>
  (fun (k : Knot) =>
  (none, [], .c (.bool false (!knOk k)))) k

def E_impl_ValidLoop_1 : Env := { nt := 7, nm := 0, tab := tab, con := (conCons 66 K_impl_ValidPt con0), eqt := eqt, fz := [], cuts := [] }

set_option maxRecDepth 1000000 in
set_option maxHeartbeats 4000000 in
theorem c_impl_ValidLoop_1 : COk Try.prog 65 K_impl_ValidLoop_1 := by
  refine cok_fun (E := E_impl_ValidLoop_1) Try.func65 rfl rfl (by rfl) mix_ok tab_ok (eq_ok rfl) (con_cons c_impl_ValidPt con0_ok) rfl rfl (by decide) ?_
  rintro ⟨(k : Knot), u0⟩ h0
  repeat' ((conv => whnf); first | exact True.intro | (refine (?_ : statOk _ = true); kernel_rfl) | (refine (?_ : dynOk _ _ = true); kernel_rfl) | refine And.intro ?_ ?_ | intro _)
  all_goals (try (conv => whnf))
  all_goals (try simp only [pOk, wrap_w, pre_iff, cast_L, cast_X, cut_lo, cut_hi, cut_both, cut_none, toNat_0, toNat_1, toNat_2, Int.toNat_natCast, List.length_cons, List.length_nil, Nat.zero_add, eq_Pt, eq_Frac, eq_Term, eq_Linear, eq_Row, eq_System, eq_Cubic, eq_Quad, eq_Knot, eq_LoopT, eq_Outline, eq_Segm, eq_Token, eq_Stmt, eq_Curve, decide_eq_true_eq, decide_eq_false_iff_not, ge_iff_le, gt_iff_lt, eta_Pt, eta_Frac, eta_Term, eta_Linear, eta_Row, eta_System, eta_Cubic, eta_Quad, eta_Knot, eta_LoopT, eta_Outline, eta_Segm, eta_Token, eta_Stmt, eta_Curve, Int.ofNat_lt, Int.ofNat_le, Bool.not_eq_true', Bool.not_eq_false'] at *)
  all_goals first | omega | (simp_all [knOk]; done) | (simp_all [knOk]; omega) | grind [knOk]


def idxF {α : Type} (p : α → Bool) (xs : List α) : Int := match xs.findIdx? p with | some i => i | none => -1
theorem idxF_in {α : Type} [Inhabited α] {p : α → Bool} {xs : List α} {i : Nat} (h : i < xs.length) (hp : p (el xs i) = true) (hj : (xs.take i).any p = false) : (i : Int) = idxF p xs := by
  have : xs.findIdx? p = some i := by
    rw [List.findIdx?_eq_some_iff_getElem]
    refine ⟨h, by rwa [el_nth h] at hp, fun j hlt => ?_⟩
    have := List.any_eq_false.1 hj (xs[j]'(by omega)) (List.mem_take_iff_getElem.2 ⟨j, by omega, rfl⟩)
    simpa using this
  unfold idxF
  rw [this]
theorem idxF_out {α : Type} {p : α → Bool} {xs : List α} (hj : xs.any p = false) : -1 = idxF p xs := by
  unfold idxF
  have : xs.findIdx? p = none := by
    rw [List.findIdx?_eq_none_iff]
    intro x hx
    have := List.any_eq_false.1 hj x hx
    simpa using this
  rw [this]
theorem idxF_nonneg {α : Type} {p : α → Bool} {xs : List α} : decide (0 ≤ idxF p xs) = xs.any p := by
  unfold idxF
  cases h : xs.findIdx? p with
  | none =>
    rw [List.findIdx?_eq_none_iff] at h
    simp only [show ¬ (0 : Int) ≤ -1 by omega, decide_false]
    symm
    rw [List.any_eq_false]
    intro x hx
    simp [h x hx]
  | some i =>
    rw [List.findIdx?_eq_some_iff_getElem] at h
    obtain ⟨h1, h2, _⟩ := h
    simp only [show (0 : Int) ≤ i by omega, decide_true]
    symm
    rw [List.any_eq_true]
    exact ⟨_, List.getElem_mem h1, h2⟩


def K_slices_IndexFunc_impl_Knot_impl_Knot : Con := conOf false [.s .knot, .f 65] fun ⟨xs, f, _⟩ =>
  (fun (xs : List Knot) (f : Unit) =>
  (none, [], .c (.int .i64 (idxF (fun k => !knOk k) xs)))) xs f

def E_slices_IndexFunc_impl_Knot_impl_Knot : Env := { nt := 19, nm := 0, tab := tab, con := (conCons 65 K_impl_ValidLoop_1 con0), eqt := eqt, fz := [], cuts := [] }

set_option maxRecDepth 1000000 in
set_option maxHeartbeats 4000000 in
theorem c_slices_IndexFunc_impl_Knot_impl_Knot : COk Try.prog 101 K_slices_IndexFunc_impl_Knot_impl_Knot := by
  refine cok_fun (E := E_slices_IndexFunc_impl_Knot_impl_Knot) Try.func101 rfl rfl (by rfl) mix_ok tab_ok (eq_ok rfl) (con_cons c_impl_ValidLoop_1 con0_ok) rfl rfl (by decide) ?_
  rintro ⟨(xs : List Knot), f, u0⟩ h0
  repeat' ((conv => whnf); first | exact True.intro | (refine (?_ : statOk _ = true); kernel_rfl) | (refine (?_ : dynOk _ _ = true); kernel_rfl) | refine And.intro ?_ ?_ | intro _)
  all_goals (try (conv => whnf))
  all_goals (try with_reducible rfl)
  refine aw_loopT (fun i : Nat => [(8, .c (.int .i64 i))]) (fun _ => []) (fun i => i ≤ xs.length ∧ (xs.take i).any (fun k => !knOk k) = false) (fun i => xs.length - i) 0 ?_ ?_ ?_
  · simp
  · repeat' ((conv => whnf); first | exact True.intro | (refine (?_ : statOk _ = true); kernel_rfl) | (refine (?_ : dynOk _ _ = true); kernel_rfl) | refine And.intro ?_ ?_ | intro _)
    all_goals (try (conv => whnf))
    all_goals (try with_reducible rfl)
    all_goals simp
  · rintro i ⟨hi, hj⟩
    repeat' ((conv => whnf); first | exact True.intro | (refine (?_ : statOk _ = true); kernel_rfl) | (refine (?_ : dynOk _ _ = true); kernel_rfl) | refine And.intro ?_ ?_ | intro _)
    all_goals (try (conv => whnf))
    all_goals (try with_reducible rfl)
    all_goals (try (refine (⟨i + 1, ?_⟩ : Exists _)))
    repeat' ((conv => whnf); first | exact True.intro | (refine (?_ : statOk _ = true); kernel_rfl) | (refine (?_ : dynOk _ _ = true); kernel_rfl) | refine And.intro ?_ ?_ | intro _)
    all_goals (try (conv => whnf))
    all_goals (try with_reducible rfl)
    all_goals (try simp only [pOk, wrap_w, pre_iff, cast_L, cast_X, cut_lo, cut_hi, cut_both, cut_none, toNat_0, toNat_1, toNat_2, Int.toNat_natCast, List.length_cons, List.length_nil, Nat.zero_add, eq_Pt, eq_Frac, eq_Term, eq_Linear, eq_Row, eq_System, eq_Cubic, eq_Quad, eq_Knot, eq_LoopT, eq_Outline, eq_Segm, eq_Token, eq_Stmt, eq_Curve, decide_eq_true_eq, decide_eq_false_iff_not, ge_iff_le, gt_iff_lt, eta_Pt, eta_Frac, eta_Term, eta_Linear, eta_Row, eta_System, eta_Cubic, eta_Quad, eta_Knot, eta_LoopT, eta_Outline, eta_Segm, eta_Token, eta_Stmt, eta_Curve, Int.ofNat_lt, Int.ofNat_le, Bool.not_eq_true', Bool.not_eq_false'] at *)
    all_goals first | omega | (rw [w_succ]; omega) | (refine idxF_in (by assumption) ?_ hj; simp_all; done) | (refine ⟨by omega, any_f (by assumption) ?_ hj⟩; simp_all; done) | (refine idxF_out (any_e (by assumption) hj).symm) | trace_state


def K_slices_ContainsFunc_impl_Knot_impl_Knot : Con := conOf false [.s .knot, .f 65] fun ⟨xs, f, _⟩ =>
  (fun (xs : List Knot) (f : Unit) =>
  (none, [], .c (.bool false (xs.any (fun k => !knOk k))))) xs f

def E_slices_ContainsFunc_impl_Knot_impl_Knot : Env := { nt := 9, nm := 0, tab := tab, con := (conCons 101 K_slices_IndexFunc_impl_Knot_impl_Knot con0), eqt := eqt, fz := [], cuts := [] }

set_option maxRecDepth 1000000 in
set_option maxHeartbeats 4000000 in
theorem c_slices_ContainsFunc_impl_Knot_impl_Knot : COk Try.prog 64 K_slices_ContainsFunc_impl_Knot_impl_Knot := by
  refine cok_fun (E := E_slices_ContainsFunc_impl_Knot_impl_Knot) Try.func64 rfl rfl (by rfl) mix_ok tab_ok (eq_ok rfl) (con_cons c_slices_IndexFunc_impl_Knot_impl_Knot con0_ok) rfl rfl (by decide) ?_
  rintro ⟨(xs : List Knot), f, u0⟩ h0
  repeat' ((conv => whnf); first | exact True.intro | (refine (?_ : statOk _ = true); kernel_rfl) | (refine (?_ : dynOk _ _ = true); kernel_rfl) | refine And.intro ?_ ?_ | intro _)
  all_goals (try (conv => whnf))
  all_goals (try simp only [pOk, wrap_w, pre_iff, cast_L, cast_X, cut_lo, cut_hi, cut_both, cut_none, toNat_0, toNat_1, toNat_2, Int.toNat_natCast, List.length_cons, List.length_nil, Nat.zero_add, eq_Pt, eq_Frac, eq_Term, eq_Linear, eq_Row, eq_System, eq_Cubic, eq_Quad, eq_Knot, eq_LoopT, eq_Outline, eq_Segm, eq_Token, eq_Stmt, eq_Curve, decide_eq_true_eq, decide_eq_false_iff_not, ge_iff_le, gt_iff_lt, eta_Pt, eta_Frac, eta_Term, eta_Linear, eta_Row, eta_System, eta_Cubic, eta_Quad, eta_Knot, eta_LoopT, eta_Outline, eta_Segm, eta_Token, eta_Stmt, eta_Curve, Int.ofNat_lt, Int.ofNat_le, Bool.not_eq_true', Bool.not_eq_false'] at *)
  all_goals exact idxF_nonneg


theorem not_any_not {α : Type} (p : α → Bool) (xs : List α) : (!(xs.any fun k => !p k)) = xs.all p := by
  induction xs with
  | nil => rfl
  | cons x r ih => simp only [List.any_cons, List.all_cons, ← ih]; cases p x <;> simp

theorem vLoop_len {l : LoopT} (h : ¬ (1 ≤ l.Knots.length ∧ l.Knots.length ≤ 60)) : vLoop l = false := by
  unfold vLoop
  by_cases h1 : 1 ≤ l.Knots.length
  · simp [show ¬ l.Knots.length ≤ 60 from fun h2 => h ⟨h1, h2⟩]
  · simp [h1]
theorem vLoop_on {l : LoopT} (h : (el l.Knots 0).On = false) : vLoop l = false := by simp [vLoop, h]
theorem vLoop_all {l : LoopT} (h : l.Knots.all knOk = false) : vLoop l = false := by simp [vLoop, h]
theorem vLoop_in {l : LoopT} (h : 1 ≤ l.Knots.length ∧ l.Knots.length ≤ 60) (h' : (el l.Knots 0).On = true) : vLoop l = l.Knots.all knOk := by simp [vLoop, h, h']


def K_impl_ValidLoop : Con := conOf false [.a .loop] fun ⟨l, _⟩ =>
  (fun (l : LoopT) =>
  (none, [], .c (.bool false (vLoop l)))) l

def E_impl_ValidLoop : Env := { nt := 25, nm := 0, tab := tab, con := (conCons 64 K_slices_ContainsFunc_impl_Knot_impl_Knot (conCons 65 K_impl_ValidLoop_1 con0)), eqt := eqt, fz := [], cuts := [] }

set_option maxRecDepth 1000000 in
set_option maxHeartbeats 4000000 in
theorem c_impl_ValidLoop : COk Try.prog 23 K_impl_ValidLoop := by
  refine cok_fun (E := E_impl_ValidLoop) Try.func23 rfl rfl (by rfl) mix_ok tab_ok (eq_ok rfl) (con_cons c_slices_ContainsFunc_impl_Knot_impl_Knot (con_cons c_impl_ValidLoop_1 con0_ok)) rfl rfl (by decide) ?_
  rintro ⟨(l : LoopT), u0⟩ h0
  repeat' ((conv => whnf); first | exact True.intro | (refine (?_ : statOk _ = true); kernel_rfl) | (refine (?_ : dynOk _ _ = true); kernel_rfl) | refine And.intro ?_ ?_ | intro _)
  all_goals (try (conv => whnf))
  all_goals (try simp only [pOk, wrap_w, pre_iff, cast_L, cast_X, cut_lo, cut_hi, cut_both, cut_none, toNat_0, toNat_1, toNat_2, Int.toNat_natCast, List.length_cons, List.length_nil, Nat.zero_add, eq_Pt, eq_Frac, eq_Term, eq_Linear, eq_Row, eq_System, eq_Cubic, eq_Quad, eq_Knot, eq_LoopT, eq_Outline, eq_Segm, eq_Token, eq_Stmt, eq_Curve, decide_eq_true_eq, decide_eq_false_iff_not, ge_iff_le, gt_iff_lt, eta_Pt, eta_Frac, eta_Term, eta_Linear, eta_Row, eta_System, eta_Cubic, eta_Quad, eta_Knot, eta_LoopT, eta_Outline, eta_Segm, eta_Token, eta_Stmt, eta_Curve, Int.ofNat_lt, Int.ofNat_le, Bool.not_eq_true', Bool.not_eq_false'] at *)
  all_goals first | omega | (rw [vLoop_on (by assumption)]; done) | (rw [vLoop_len (by omega)]; done) | (rw [vLoop_in (by omega) (by assumption), not_any_not]; done) | trace_state



def K_spec_l10Loop : Con := conOf false [.p .loop] fun ⟨l, _⟩ =>
  (fun (l : LoopT) =>
  (none, [], .c (.bool false (vLoop l)))) l

def E_spec_l10Loop : Env := { nt := 40, nm := 0, tab := tab, con := (conCons 98 K_spec_l00In (conCons 99 K_spec_l03Ok con0)), eqt := eqt, fz := [], cuts := [] }

set_option maxRecDepth 1000000 in
set_option maxHeartbeats 4000000 in
theorem c_spec_l10Loop : COk Try.prog 62 K_spec_l10Loop := by
  refine cok_fun (E := E_spec_l10Loop) Try.func62 rfl rfl (by rfl) mix_ok tab_ok (eq_ok rfl) (con_cons c_spec_l00In (con_cons c_spec_l03Ok con0_ok)) rfl rfl (by decide) ?_
  rintro ⟨(l : LoopT), u0⟩ h0
  repeat' ((conv => whnf); first | exact True.intro | (refine (?_ : statOk _ = true); kernel_rfl) | (refine (?_ : dynOk _ _ = true); kernel_rfl) | refine And.intro ?_ ?_ | intro _)
  all_goals (try (conv => whnf))
  all_goals (try with_reducible rfl)
  all_goals first
    | (show AW _ _ _ _)
    | ((try simp only [pOk, wrap_w, pre_iff, cast_L, cast_X, cut_lo, cut_hi, cut_both, cut_none, toNat_0, toNat_1, toNat_2, Int.toNat_natCast, List.length_cons, List.length_nil, Nat.zero_add, eq_Pt, eq_Frac, eq_Term, eq_Linear, eq_Row, eq_System, eq_Cubic, eq_Quad, eq_Knot, eq_LoopT, eq_Outline, eq_Segm, eq_Token, eq_Stmt, eq_Curve, decide_eq_true_eq, decide_eq_false_iff_not, ge_iff_le, gt_iff_lt, eta_Pt, eta_Frac, eta_Term, eta_Linear, eta_Row, eta_System, eta_Cubic, eta_Quad, eta_Knot, eta_LoopT, eta_Outline, eta_Segm, eta_Token, eta_Stmt, eta_Curve, Int.ofNat_lt, Int.ofNat_le, Bool.not_eq_true', Bool.not_eq_false'] at *)
       simp only [Bool.and_eq_true, Bool.and_eq_false_iff, decide_eq_true_eq, decide_eq_false_iff_not] at *
       first | omega | (rw [vLoop_on (by assumption)]; done) | (rw [vLoop_len (by omega)]; done))
    | trace_state
  rename_i hlen hn _ hon
  simp only [Bool.not_eq_false', Bool.and_eq_true, decide_eq_true_eq] at hn hon
  have hv := vLoop_in (l := l) (by omega) hon
  refine aw_loopT (fun i : Nat => [(3, .c (.int .i64 i))]) (fun _ => []) (fun i => i ≤ l.Knots.length ∧ (l.Knots.take i).all knOk = true) (fun i => l.Knots.length - i) 0 ?_ ?_ ?_
  · simp
  · repeat' ((conv => whnf); first | exact True.intro | (refine (?_ : statOk _ = true); kernel_rfl) | (refine (?_ : dynOk _ _ = true); kernel_rfl) | refine And.intro ?_ ?_ | intro _)
    all_goals (try (conv => whnf))
    all_goals (try with_reducible rfl)
    all_goals simp
  · rintro i ⟨hi, hj⟩
    repeat' ((conv => whnf); first | exact True.intro | (refine (?_ : statOk _ = true); kernel_rfl) | (refine (?_ : dynOk _ _ = true); kernel_rfl) | refine And.intro ?_ ?_ | intro _)
    all_goals (try (conv => whnf))
    all_goals (try with_reducible rfl)
    all_goals (try (refine (⟨i + 1, ?_⟩ : Exists _)))
    repeat' ((conv => whnf); first | exact True.intro | (refine (?_ : statOk _ = true); kernel_rfl) | (refine (?_ : dynOk _ _ = true); kernel_rfl) | refine And.intro ?_ ?_ | intro _)
    all_goals (try (conv => whnf))
    all_goals (try with_reducible rfl)
    all_goals (try simp only [pOk, wrap_w, pre_iff, cast_L, cast_X, cut_lo, cut_hi, cut_both, cut_none, toNat_0, toNat_1, toNat_2, Int.toNat_natCast, List.length_cons, List.length_nil, Nat.zero_add, eq_Pt, eq_Frac, eq_Term, eq_Linear, eq_Row, eq_System, eq_Cubic, eq_Quad, eq_Knot, eq_LoopT, eq_Outline, eq_Segm, eq_Token, eq_Stmt, eq_Curve, decide_eq_true_eq, decide_eq_false_iff_not, ge_iff_le, gt_iff_lt, eta_Pt, eta_Frac, eta_Term, eta_Linear, eta_Row, eta_System, eta_Cubic, eta_Quad, eta_Knot, eta_LoopT, eta_Outline, eta_Segm, eta_Token, eta_Stmt, eta_Curve, Int.ofNat_lt, Int.ofNat_le, Bool.not_eq_true', Bool.not_eq_false'] at *)
    all_goals first | omega | (rw [w_succ]; omega) | (rw [vLoop_all (all_f (by assumption) (by simp only [knOk]; assumption)).symm]; done) | (refine ⟨by omega, all_t (by omega) (by simp only [knOk]; assumption) hj⟩) | (rw [hv, ← all_e (by assumption) hj]; done) | trace_state


def K_spec_ValidLoop : Con := conOf false [.a .loop] fun ⟨l, _⟩ =>
  (fun (l : LoopT) =>
  (none, [], .c (.bool false (vLoop l)))) l

def E_spec_ValidLoop : Env := { nt := 4, nm := 0, tab := tab, con := (conCons 62 K_spec_l10Loop con0), eqt := eqt, fz := [], cuts := [] }

set_option maxRecDepth 1000000 in
set_option maxHeartbeats 4000000 in
theorem c_spec_ValidLoop : COk Try.prog 21 K_spec_ValidLoop := by
  refine cok_fun (E := E_spec_ValidLoop) Try.func21 rfl rfl (by rfl) mix_ok tab_ok (eq_ok rfl) (con_cons c_spec_l10Loop con0_ok) rfl rfl (by decide) ?_
  rintro ⟨(l : LoopT), u0⟩ h0
  repeat' ((conv => whnf); first | exact True.intro | (refine (?_ : statOk _ = true); kernel_rfl) | (refine (?_ : dynOk _ _ = true); kernel_rfl) | refine And.intro ?_ ?_ | intro _)
  all_goals (try (conv => whnf))
  all_goals (try simp only [pOk, wrap_w, pre_iff, cast_L, cast_X, cut_lo, cut_hi, cut_both, cut_none, toNat_0, toNat_1, toNat_2, Int.toNat_natCast, List.length_cons, List.length_nil, Nat.zero_add, eq_Pt, eq_Frac, eq_Term, eq_Linear, eq_Row, eq_System, eq_Cubic, eq_Quad, eq_Knot, eq_LoopT, eq_Outline, eq_Segm, eq_Token, eq_Stmt, eq_Curve, decide_eq_true_eq, decide_eq_false_iff_not, ge_iff_le, gt_iff_lt, eta_Pt, eta_Frac, eta_Term, eta_Linear, eta_Row, eta_System, eta_Cubic, eta_Quad, eta_Knot, eta_LoopT, eta_Outline, eta_Segm, eta_Token, eta_Stmt, eta_Curve, Int.ofNat_lt, Int.ofNat_le, Bool.not_eq_true', Bool.not_eq_false'] at *)
  all_goals first | omega | (simp_all; done) | (simp_all; omega) | grind


end GV

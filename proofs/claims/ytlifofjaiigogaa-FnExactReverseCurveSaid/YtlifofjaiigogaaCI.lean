/-
  Contracts: curves copied, measured, compared. No condition beyond those named.
-/
import Derived.Test.YtlifofjaiigogaaCC
import Derived.Test.YtlifofjaiigogaaCB
namespace GV
open Go Go.Proofs
set_option linter.unusedSimpArgs false
set_option linter.unusedVariables false


def K_laws_szPtS : Con := conOf false [.s .pt, .a .int] fun ⟨xs, l, _⟩ =>
  (fun (xs : List Pt) (l : Int) =>
  (some (0 ≤ l ∧ l ≤ 1048576), [], .c (.int .i64 (subF l xs.length)))) xs l

def E_laws_szPtS : Env := { nt := 12, nm := 0, tab := tab, con := con0, eqt := eqt, fz := [], cuts := [] }

set_option maxRecDepth 1000000 in
set_option maxHeartbeats 4000000 in
theorem c_laws_szPtS : COk Try.prog 57 K_laws_szPtS := by
  refine cok_fun (E := E_laws_szPtS) Try.func57 rfl rfl (by rfl) mix_ok tab_ok (eq_ok rfl) con0_ok rfl rfl (by decide) ?_
  rintro ⟨(xs : List Pt), (l : Int), u0⟩ h0
  repeat' ((conv => whnf); first | exact True.intro | (refine (?_ : statOk _ = true); kernel_rfl) | (refine (?_ : dynOk _ _ = true); kernel_rfl) | refine And.intro ?_ ?_ | intro _)
  all_goals (try (conv => whnf))
  all_goals (try simp only [pOk, wrap_w, pre_iff, cast_L, cast_X, cut_lo, cut_hi, cut_both, cut_none, toNat_0, toNat_1, toNat_2, Int.toNat_natCast, List.length_cons, List.length_nil, Nat.zero_add, eq_Pt, eq_Frac, eq_Term, eq_Linear, eq_Row, eq_System, eq_Cubic, eq_Quad, eq_Knot, eq_LoopT, eq_Outline, eq_Segm, eq_Token, eq_Stmt, eq_Curve, decide_eq_true_eq, decide_eq_false_iff_not, ge_iff_le, gt_iff_lt, eta_Pt, eta_Frac, eta_Term, eta_Linear, eta_Row, eta_System, eta_Cubic, eta_Quad, eta_Knot, eta_LoopT, eta_Outline, eta_Segm, eta_Token, eta_Stmt, eta_Curve, Int.ofNat_lt, Int.ofNat_le, Bool.not_eq_true', Bool.not_eq_false'] at *)
  all_goals obtain ⟨h1, h2⟩ := h0
  all_goals (try simp only [Int.sub_eq_add_neg] at *)
  · rename_i hlen hneg
    rw [w_id (by omega)] at hneg
    unfold subF; rw [if_pos (by omega)]
  · rename_i hlen hneg
    rw [w_id (by omega)] at hneg ⊢
    unfold subF; rw [if_neg (by omega)]; omega




def K_laws_toPtS : Con := conOf false [.s .pt] fun ⟨xs, _⟩ =>
  (fun (xs : List Pt) =>
  (some (xs.length ≤ 1048576), [.seq .pt xs], .c (.sl 0 0))) xs

def E_laws_toPtS : Env := { nt := 23, nm := 0, tab := tab, con := (conCons 35 K_laws_toPt con0), eqt := eqt, fz := [], cuts := [] }

set_option maxRecDepth 1000000 in
set_option maxHeartbeats 4000000 in
theorem c_laws_toPtS : COk Try.prog 58 K_laws_toPtS := by
  refine cok_fun (E := E_laws_toPtS) Try.func58 rfl rfl (by rfl) mix_ok tab_ok (eq_ok rfl) (con_cons c_laws_toPt con0_ok) rfl rfl (by decide) ?_
  rintro ⟨(xs : List Pt), u0⟩ h0
  have hx : xs.length ≤ 1048576 := h0
  repeat' ((conv => whnf); first | exact True.intro | (refine (?_ : statOk _ = true); kernel_rfl) | (refine (?_ : dynOk _ _ = true); kernel_rfl) | refine And.intro ?_ ?_ | intro _)
  all_goals (try (conv => whnf))
  all_goals (try with_reducible rfl)
  · exact ⟨by omega, by omega, by omega⟩
  · refine aw_loopT (fun i : Nat => [(4, .c (.int .i64 i))]) (fun i => [(7, 1, .seq .pt (xs.take i ++ (List.replicate xs.length (dflt .pt)).drop i))]) (fun i => i ≤ xs.length) (fun i => xs.length - i) 0 ?_ ?_ ?_
    · exact Nat.zero_le _
    · repeat' ((conv => whnf); first | exact True.intro | (refine (?_ : statOk _ = true); kernel_rfl) | (refine (?_ : dynOk _ _ = true); kernel_rfl) | refine And.intro ?_ ?_ | intro _)
      all_goals (try (conv => whnf))
      all_goals (try with_reducible rfl)
      all_goals simp
    · intro i hi
      repeat' ((conv => whnf); first | exact True.intro | (refine (?_ : statOk _ = true); kernel_rfl) | (refine (?_ : dynOk _ _ = true); kernel_rfl) | refine And.intro ?_ ?_ | intro _)
      all_goals (try (conv => whnf))
      all_goals (try with_reducible rfl)
      all_goals (try (refine (⟨i + 1, ?_⟩ : Exists _)))
      repeat' ((conv => whnf); first | exact True.intro | (refine (?_ : statOk _ = true); kernel_rfl) | (refine (?_ : dynOk _ _ = true); kernel_rfl) | refine And.intro ?_ ?_ | intro _)
      all_goals (try (conv => whnf))
      all_goals (try with_reducible rfl)
      all_goals (try simp only [pOk, wrap_w, pre_iff, cast_L, cast_X, decide_eq_true_eq, decide_eq_false_iff_not, Int.ofNat_lt, eta_Pt, eta_Frac, eta_Term, eta_Knot, eta_LoopT, eta_Linear, eta_Row, List.length_append, List.length_drop, List.length_replicate, List.length_take, Int.toNat_natCast] at *)
      all_goals first | omega | (rw [w_succ]; omega) | (refine ⟨by omega, ?_⟩; omega) | (exact copy_step ⟨by omega, by rw [List.length_replicate]; omega⟩ rfl) | (exact copy_end ⟨by omega, List.length_replicate⟩) | trace_state


/-- the cells of a curve whose knots are an object of ours -/
def crv (c : Curve) : List Cell := [.sl 0 0, .bool false c.Closed, .int .i64 c.Tension, .bool false c.FixFirst, .bool false c.FixLast, .int .i64 c.First.X, .int .i64 c.First.Y, .int .i64 c.Last.X, .int .i64 c.Last.Y]


def K_laws_szCurve : Con := conOf false [.a .curve, .a .int] fun ⟨c, l, _⟩ =>
  (fun (c : Curve) (l : Int) =>
  (some (0 ≤ l ∧ l ≤ 1048576), [], .c (.int .i64 (subF l c.Knots.length)))) c l

def E_laws_szCurve : Env := { nt := 12, nm := 0, tab := tab, con := (conCons 57 K_laws_szPtS con0), eqt := eqt, fz := [], cuts := [] }

set_option maxRecDepth 1000000 in
set_option maxHeartbeats 4000000 in
theorem c_laws_szCurve : COk Try.prog 15 K_laws_szCurve := by
  refine cok_fun (E := E_laws_szCurve) Try.func15 rfl rfl (by rfl) mix_ok tab_ok (eq_ok rfl) (con_cons c_laws_szPtS con0_ok) rfl rfl (by decide) ?_
  rintro ⟨(c : Curve), (l : Int), u0⟩ h0
  repeat' ((conv => whnf); first | exact True.intro | (refine (?_ : statOk _ = true); kernel_rfl) | (refine (?_ : dynOk _ _ = true); kernel_rfl) | refine And.intro ?_ ?_ | intro _)
  all_goals (try (conv => whnf))
  all_goals (try simp only [pOk, wrap_w, pre_iff, cast_L, cast_X, cut_lo, cut_hi, cut_both, cut_none, toNat_0, toNat_1, toNat_2, Int.toNat_natCast, List.length_cons, List.length_nil, Nat.zero_add, eq_Pt, eq_Frac, eq_Term, eq_Linear, eq_Row, eq_System, eq_Cubic, eq_Quad, eq_Knot, eq_LoopT, eq_Outline, eq_Segm, eq_Token, eq_Stmt, eq_Curve, decide_eq_true_eq, decide_eq_false_iff_not, ge_iff_le, gt_iff_lt, eta_Pt, eta_Frac, eta_Term, eta_Linear, eta_Row, eta_System, eta_Cubic, eta_Quad, eta_Knot, eta_LoopT, eta_Outline, eta_Segm, eta_Token, eta_Stmt, eta_Curve, Int.ofNat_lt, Int.ofNat_le, Bool.not_eq_true', Bool.not_eq_false'] at *)
  · exact h0
  · rename_i h1 h2
    have := subF_lt.1 h2
    unfold subF; rw [if_pos (by omega)]



def K_laws_toCurve : Con := conOf false [.a .curve] fun ⟨c, _⟩ =>
  (fun (c : Curve) =>
  (some (c.Knots.length ≤ 1048576), [.seq .pt c.Knots], .agg (crv c))) c

def E_laws_toCurve : Env := { nt := 29, nm := 0, tab := tab, con := (conCons 58 K_laws_toPtS (conCons 35 K_laws_toPt con0)), eqt := eqt, fz := [], cuts := [] }

set_option maxRecDepth 1000000 in
set_option maxHeartbeats 4000000 in
theorem c_laws_toCurve : COk Try.prog 17 K_laws_toCurve := by
  refine cok_fun (E := E_laws_toCurve) Try.func17 rfl rfl (by rfl) mix_ok tab_ok (eq_ok rfl) (con_cons c_laws_toPtS (con_cons c_laws_toPt con0_ok)) rfl rfl (by decide) ?_
  rintro ⟨(c : Curve), u0⟩ h0
  repeat' ((conv => whnf); first | exact True.intro | (refine (?_ : statOk _ = true); kernel_rfl) | (refine (?_ : dynOk _ _ = true); kernel_rfl) | refine And.intro ?_ ?_ | intro _)
  all_goals (try (conv => whnf))
  all_goals (try simp only [pOk, wrap_w, pre_iff, cast_L, cast_X, cut_lo, cut_hi, cut_both, cut_none, toNat_0, toNat_1, toNat_2, Int.toNat_natCast, List.length_cons, List.length_nil, Nat.zero_add, eq_Pt, eq_Frac, eq_Term, eq_Linear, eq_Row, eq_System, eq_Cubic, eq_Quad, eq_Knot, eq_LoopT, eq_Outline, eq_Segm, eq_Token, eq_Stmt, eq_Curve, decide_eq_true_eq, decide_eq_false_iff_not, ge_iff_le, gt_iff_lt, eta_Pt, eta_Frac, eta_Term, eta_Linear, eta_Row, eta_System, eta_Cubic, eta_Quad, eta_Knot, eta_LoopT, eta_Outline, eta_Segm, eta_Token, eta_Stmt, eta_Curve, Int.ofNat_lt, Int.ofNat_le, Bool.not_eq_true', Bool.not_eq_false'] at *)
  all_goals first | omega | (simp_all; done) | (simp_all; omega) | grind



def K_slices_Equal_impl_Pt_impl_Pt : Con := conOf false [.s .pt, .s .pt] fun ⟨xs, ys, _⟩ =>
  (fun (xs : List Pt) (ys : List Pt) =>
  (none, [], .c (.bool false (decide (xs = ys))))) xs ys

def E_slices_Equal_impl_Pt_impl_Pt : Env := { nt := 26, nm := 0, tab := tab, con := con0, eqt := eqt, fz := [], cuts := [] }

set_option maxRecDepth 1000000 in
set_option maxHeartbeats 4000000 in
theorem c_slices_Equal_impl_Pt_impl_Pt : COk Try.prog 59 K_slices_Equal_impl_Pt_impl_Pt := by
  refine cok_fun (E := E_slices_Equal_impl_Pt_impl_Pt) Try.func59 rfl rfl (by rfl) mix_ok tab_ok (eq_ok rfl) con0_ok rfl rfl (by decide) ?_
  rintro ⟨(xs : List Pt), (ys : List Pt), u0⟩ h0
  repeat' ((conv => whnf); first | exact True.intro | (refine (?_ : statOk _ = true); kernel_rfl) | (refine (?_ : dynOk _ _ = true); kernel_rfl) | refine And.intro ?_ ?_ | intro _)
  all_goals (try (conv => whnf))
  all_goals (try with_reducible rfl)
  · all_goals (try simp only [pOk, wrap_w, pre_iff, cast_L, cast_X, cut_lo, cut_hi, cut_both, cut_none, toNat_0, toNat_1, toNat_2, Int.toNat_natCast, List.length_cons, List.length_nil, Nat.zero_add, eq_Pt, eq_Frac, eq_Term, eq_Linear, eq_Row, eq_System, eq_Cubic, eq_Quad, eq_Knot, eq_LoopT, eq_Outline, eq_Segm, eq_Token, eq_Stmt, eq_Curve, decide_eq_true_eq, decide_eq_false_iff_not, ge_iff_le, gt_iff_lt, eta_Pt, eta_Frac, eta_Term, eta_Linear, eta_Row, eta_System, eta_Cubic, eta_Quad, eta_Knot, eta_LoopT, eta_Outline, eta_Segm, eta_Token, eta_Stmt, eta_Curve, Int.ofNat_lt, Int.ofNat_le, Bool.not_eq_true', Bool.not_eq_false'] at *)
    rename_i h
    exact (decide_eq_false fun e => h (by rw [e])).symm
  · rename_i hl0 hl1 hl2
    refine aw_loopT (fun i : Nat => [(13, .c (.int .i64 i))]) (fun _ => []) (fun i => i ≤ xs.length ∧ xs.take i = ys.take i) (fun i => xs.length - i) 0 ?_ ?_ ?_
    · exact ⟨Nat.zero_le _, rfl⟩
    · repeat' ((conv => whnf); first | exact True.intro | (refine (?_ : statOk _ = true); kernel_rfl) | (refine (?_ : dynOk _ _ = true); kernel_rfl) | refine And.intro ?_ ?_ | intro _)
      all_goals (try (conv => whnf))
      all_goals (try with_reducible rfl)
      all_goals simp
    · rintro i ⟨hi, hj⟩
      repeat' ((conv => whnf); first | exact True.intro | (refine (?_ : statOk _ = true); kernel_rfl) | (refine (?_ : dynOk _ _ = true); kernel_rfl) | refine And.intro ?_ ?_ | intro _)
      all_goals (try (conv => whnf))
      all_goals (try with_reducible rfl)
      all_goals (try (refine (⟨i + 1, ?_⟩ : Exists _)))
      repeat' ((conv => whnf); first | exact True.intro | (refine (?_ : statOk _ = true); kernel_rfl) | (refine (?_ : dynOk _ _ = true); kernel_rfl) | refine And.intro ?_ ?_ | intro _)
      all_goals (try (conv => whnf))
      all_goals (try with_reducible rfl)
      all_goals (try simp only [pOk, wrap_w, pre_iff, cast_L, cast_X, cut_lo, cut_hi, cut_both, cut_none, toNat_0, toNat_1, toNat_2, Int.toNat_natCast, List.length_cons, List.length_nil, Nat.zero_add, eq_Pt, eq_Frac, eq_Term, eq_Linear, eq_Row, eq_System, eq_Cubic, eq_Quad, eq_Knot, eq_LoopT, eq_Outline, eq_Segm, eq_Token, eq_Stmt, eq_Curve, decide_eq_true_eq, decide_eq_false_iff_not, ge_iff_le, gt_iff_lt, eta_Pt, eta_Frac, eta_Term, eta_Linear, eta_Row, eta_System, eta_Cubic, eta_Quad, eta_Knot, eta_LoopT, eta_Outline, eta_Segm, eta_Token, eta_Stmt, eta_Curve, Int.ofNat_lt, Int.ofNat_le, Bool.not_eq_true', Bool.not_eq_false'] at *)
      all_goals first | omega | (rw [w_succ]; omega) | (refine (decide_eq_false (eq_f (by assumption) ?_)).symm; simp only [ne_eq, eq_Pt]; simp_all; done) | (refine ⟨by omega, eq_t (by omega) (by omega) ?_ hj⟩; simp only [eq_Pt]; simp_all; done) | exact (decide_eq_true (eq_e (by assumption) (by omega) hj)).symm | trace_state


def K_laws_eqCurve : Con := conOf false [.a .curve, .a .curve] fun ⟨a, b, _⟩ =>
  (fun (a : Curve) (b : Curve) =>
  (none, [], .c (.bool false (decide (a = b))))) a b

def E_laws_eqCurve : Env := { nt := 43, nm := 0, tab := tab, con := (conCons 60 K_laws_eqPtS (conCons 43 K_laws_eqPt con0)), eqt := eqt, fz := [], cuts := [] }

set_option maxRecDepth 1000000 in
set_option maxHeartbeats 4000000 in
theorem c_laws_eqCurve : COk Try.prog 19 K_laws_eqCurve := by
  refine cok_fun (E := E_laws_eqCurve) Try.func19 rfl rfl (by rfl) mix_ok tab_ok (eq_ok rfl) (con_cons c_laws_eqPtS (con_cons c_laws_eqPt con0_ok)) rfl rfl (by decide) ?_
  rintro ⟨(a : Curve), (b : Curve), u0⟩ h0
  repeat' ((conv => whnf); first | exact True.intro | (refine (?_ : statOk _ = true); kernel_rfl) | (refine (?_ : dynOk _ _ = true); kernel_rfl) | refine And.intro ?_ ?_ | intro _)
  all_goals (try (conv => whnf))
  all_goals (try simp only [pOk, wrap_w, pre_iff, cast_L, cast_X, cut_lo, cut_hi, cut_both, cut_none, toNat_0, toNat_1, toNat_2, Int.toNat_natCast, List.length_cons, List.length_nil, Nat.zero_add, eq_Pt, eq_Frac, eq_Term, eq_Linear, eq_Row, eq_System, eq_Cubic, eq_Quad, eq_Knot, eq_LoopT, eq_Outline, eq_Segm, eq_Token, eq_Stmt, eq_Curve, decide_eq_true_eq, decide_eq_false_iff_not, ge_iff_le, gt_iff_lt, eta_Pt, eta_Frac, eta_Term, eta_Linear, eta_Row, eta_System, eta_Cubic, eta_Quad, eta_Knot, eta_LoopT, eta_Outline, eta_Segm, eta_Token, eta_Stmt, eta_Curve, Int.ofNat_lt, Int.ofNat_le, Bool.not_eq_true', Bool.not_eq_false'] at *)
  all_goals first | omega | (simp_all; done) | (simp_all; omega) | grind



def K_impl_SameCurve : Con := conOf false [.a .curve, .a .curve] fun ⟨a, b, _⟩ =>
  (fun (a : Curve) (b : Curve) =>
  (none, [], .c (.bool false (decide (a = b))))) a b

def E_impl_SameCurve : Env := { nt := 52, nm := 0, tab := tab, con := (conCons 59 K_slices_Equal_impl_Pt_impl_Pt con0), eqt := eqt, fz := [], cuts := [] }

set_option maxRecDepth 1000000 in
set_option maxHeartbeats 4000000 in
theorem c_impl_SameCurve : COk Try.prog 18 K_impl_SameCurve := by
  refine cok_fun (E := E_impl_SameCurve) Try.func18 rfl rfl (by rfl) mix_ok tab_ok (eq_ok rfl) (con_cons c_slices_Equal_impl_Pt_impl_Pt con0_ok) rfl rfl (by decide) ?_
  rintro ⟨(a : Curve), (b : Curve), u0⟩ h0
  repeat' ((conv => whnf); first | exact True.intro | (refine (?_ : statOk _ = true); kernel_rfl) | (refine (?_ : dynOk _ _ = true); kernel_rfl) | refine And.intro ?_ ?_ | intro _)
  all_goals (try (conv => whnf))
  all_goals (try simp only [pOk, wrap_w, pre_iff, cast_L, cast_X, cut_lo, cut_hi, cut_both, cut_none, toNat_0, toNat_1, toNat_2, Int.toNat_natCast, List.length_cons, List.length_nil, Nat.zero_add, eq_Pt, eq_Frac, eq_Term, eq_Linear, eq_Row, eq_System, eq_Cubic, eq_Quad, eq_Knot, eq_LoopT, eq_Outline, eq_Segm, eq_Token, eq_Stmt, eq_Curve, decide_eq_true_eq, decide_eq_false_iff_not, ge_iff_le, gt_iff_lt, eta_Pt, eta_Frac, eta_Term, eta_Linear, eta_Row, eta_System, eta_Cubic, eta_Quad, eta_Knot, eta_LoopT, eta_Outline, eta_Segm, eta_Token, eta_Stmt, eta_Curve, Int.ofNat_lt, Int.ofNat_le, Bool.not_eq_true', Bool.not_eq_false'] at *)
  all_goals first | omega | (simp_all; done) | (simp_all; omega) | grind



def K_spec_SameCurve : Con := conOf false [.a .curve, .a .curve] fun ⟨a, b, _⟩ =>
  (fun (a : Curve) (b : Curve) =>
  (none, [], .c (.bool false (decide (a = b))))) a b

def E_spec_SameCurve : Env := { nt := 73, nm := 0, tab := tab, con := con0, eqt := eqt, fz := [], cuts := [] }

set_option maxRecDepth 1000000 in
set_option maxHeartbeats 4000000 in
theorem c_spec_SameCurve : COk Try.prog 16 K_spec_SameCurve := by
  refine cok_fun (E := E_spec_SameCurve) Try.func16 rfl rfl (by rfl) mix_ok tab_ok (eq_ok rfl) con0_ok rfl rfl (by decide) ?_
  rintro ⟨(a : Curve), (b : Curve), u0⟩ h0
  repeat' ((conv => whnf); first | exact True.intro | (refine (?_ : statOk _ = true); kernel_rfl) | (refine (?_ : dynOk _ _ = true); kernel_rfl) | refine And.intro ?_ ?_ | intro _)
  all_goals (try (conv => whnf))
  all_goals (try with_reducible rfl)
  all_goals first | (show AW _ _ _ _) | (simp_all [eq_Curve, eq_Pt]; done) | (simp only [eq_Curve, eq_Pt]; grind) | trace_state
  rename_i hk hcl ht hf hl hfi hla
  refine aw_loopT (fun i : Nat => [(5, .c (.int .i64 i))]) (fun _ => []) (fun i => i ≤ a.Knots.length ∧ a.Knots.take i = b.Knots.take i) (fun i => a.Knots.length - i) 0 ?_ ?_ ?_
  · exact ⟨Nat.zero_le _, rfl⟩
  · repeat' ((conv => whnf); first | exact True.intro | (refine (?_ : statOk _ = true); kernel_rfl) | (refine (?_ : dynOk _ _ = true); kernel_rfl) | refine And.intro ?_ ?_ | intro _)
    all_goals (try (conv => whnf))
    all_goals (try with_reducible rfl)
    all_goals simp
  · rintro i ⟨hi, hj⟩
    repeat' ((conv => whnf); first | exact True.intro | (refine (?_ : statOk _ = true); kernel_rfl) | (refine (?_ : dynOk _ _ = true); kernel_rfl) | refine And.intro ?_ ?_ | intro _)
    all_goals (try (conv => whnf))
    all_goals (try with_reducible rfl)
    all_goals (try (refine (⟨i + 1, ?_⟩ : Exists _)))
    repeat' ((conv => whnf); first | exact True.intro | (refine (?_ : statOk _ = true); kernel_rfl) | (refine (?_ : dynOk _ _ = true); kernel_rfl) | refine And.intro ?_ ?_ | intro _)
    all_goals (try (conv => whnf))
    all_goals (try with_reducible rfl)
    all_goals (try simp only [pOk, wrap_w, pre_iff, decide_eq_true_eq, decide_eq_false_iff_not, Int.ofNat_lt, eta_Pt, Decidable.not_not, Int.ofNat_inj] at *)
    all_goals first | omega | (rw [w_succ]; omega) | (refine (decide_eq_false fun e => ?_).symm; subst e; simp_all; done) | (refine ⟨by omega, eq_t (by omega) (by omega) ?_ hj⟩; simp only [eq_Pt]; simp_all; done) | (have hkk := eq_e (by assumption) (by omega) hj; simp_all [eq_Curve, eq_Pt]; done) | trace_state

end GV

/-
  Contracts: lists copied and turned round; curves turned round. No condition beyond those named.
-/
import Derived.Test.YtlifofjaiigogaaCP
namespace GV
open Go Go.Proofs
set_option linter.unusedSimpArgs false
set_option linter.unusedVariables false


def K_slices_Clone_impl_Pt_impl_Pt : Con := conOf false [.s .pt] fun ⟨xs, _⟩ =>
  (fun (xs : List Pt) =>
  (some (0 < xs.length ∧ xs.length ≤ 1048576), [.seq .pt xs], .c (.sl 0 0))) xs

def E_slices_Clone_impl_Pt_impl_Pt : Env := { nt := 8, nm := 0, tab := tab, con := con0, eqt := eqt, fz := [], cuts := [] }

set_option maxRecDepth 1000000 in
set_option maxHeartbeats 4000000 in
theorem c_slices_Clone_impl_Pt_impl_Pt : COk Try.prog 84 K_slices_Clone_impl_Pt_impl_Pt := by
  refine cok_fun (E := E_slices_Clone_impl_Pt_impl_Pt) Try.func84 rfl rfl (by rfl) mix_ok tab_ok (eq_ok rfl) con0_ok rfl rfl (by decide) ?_
  rintro ⟨(xs : List Pt), u0⟩ h0
  repeat' ((conv => whnf); first | exact True.intro | (refine (?_ : statOk _ = true); kernel_rfl) | (refine (?_ : dynOk _ _ = true); kernel_rfl) | refine And.intro ?_ ?_ | intro _)
  all_goals (try (conv => whnf))
  all_goals (try simp only [pOk, wrap_w, pre_iff, cast_L, cast_X, cut_lo, cut_hi, cut_both, cut_none, toNat_0, toNat_1, toNat_2, Int.toNat_natCast, List.length_cons, List.length_nil, Nat.zero_add, eq_Pt, eq_Frac, eq_Term, eq_Linear, eq_Row, eq_System, eq_Cubic, eq_Quad, eq_Knot, eq_LoopT, eq_Outline, eq_Segm, eq_Token, eq_Stmt, eq_Curve, decide_eq_true_eq, decide_eq_false_iff_not, ge_iff_le, gt_iff_lt, eta_Pt, eta_Frac, eta_Term, eta_Linear, eta_Row, eta_System, eta_Cubic, eta_Quad, eta_Knot, eta_LoopT, eta_Outline, eta_Segm, eta_Token, eta_Stmt, eta_Curve, Int.ofNat_lt, Int.ofNat_le, Bool.not_eq_true', Bool.not_eq_false'] at *)
  all_goals first | omega | (simp_all; done) | (simp_all; omega) | grind


def sw (xs : List Pt) : Nat → List Pt
  | 0 => xs
  | i + 1 => ((sw xs i).set i (el (sw xs i) ((xs.length - 1 - i : Nat) : Int))).set (xs.length - 1 - i) (el (sw xs i) (i : Int))
theorem sw_len (xs : List Pt) : ∀ i, (sw xs i).length = xs.length
  | 0 => rfl
  | i + 1 => by rw [sw, List.length_set, List.length_set, sw_len xs i]
theorem sw_get (xs : List Pt) : ∀ i, 2 * i ≤ xs.length → ∀ k, k < xs.length → (sw xs i)[k]? = if k < i ∨ xs.length - 1 - i < k then xs[xs.length - 1 - k]? else xs[k]? := by
  intro i
  induction i with
  | zero =>
    intro h k hk
    rw [if_neg (by omega)]; rfl
  | succ i ih =>
    intro h k hk
    have hl := sw_len xs i
    have e1 : el (sw xs i) (i : Int) = el xs (i : Int) := by
      rw [el_nat, el_nat, List.getD_eq_getElem?_getD, List.getD_eq_getElem?_getD, ih (by omega) i (by omega), if_neg (by omega)]
    have e2 : el (sw xs i) ((xs.length - 1 - i : Nat) : Int) = el xs ((xs.length - 1 - i : Nat) : Int) := by
      rw [el_nat, el_nat, List.getD_eq_getElem?_getD, List.getD_eq_getElem?_getD, ih (by omega) _ (by omega), if_neg (by omega)]
    rw [sw, e1, e2, List.getElem?_set, List.length_set, hl]
    by_cases h1 : xs.length - 1 - i = k
    · rw [if_pos h1, if_pos (by omega), if_pos (by omega), el_nth (by omega), show xs.length - 1 - k = i by omega, List.getElem?_eq_getElem (by omega)]
    · rw [if_neg h1, List.getElem?_set, hl]
      by_cases h2 : i = k
      · subst h2
        rw [if_pos rfl, if_pos (by omega), if_pos (by omega), el_nth (by omega), List.getElem?_eq_getElem (by omega)]
      · rw [if_neg h2, ih (by omega) k hk]
        by_cases h3 : k < i ∨ xs.length - 1 - i < k
        · rw [if_pos h3, if_pos (by omega)]
        · rw [if_neg h3, if_neg (by omega)]
theorem sw_end {xs : List Pt} {i : Nat} (h : 2 * i ≤ xs.length) (h' : ¬ (i : Int) < (xs.length : Int) - 1 - i) : sw xs i = xs.reverse := by
  apply List.ext_getElem?
  intro k
  by_cases hk : k < xs.length
  · rw [sw_get xs i h k hk, List.getElem?_reverse hk]
    split
    · rfl
    · rw [show xs.length - 1 - k = k by omega]
  · rw [List.getElem?_eq_none (by rw [sw_len]; omega), List.getElem?_eq_none (by rw [List.length_reverse]; omega)]
theorem sw_step {xs : List Pt} {i : Nat} (h : (i : Int) < (xs.length : Int) - 1 - i) : ((sw xs i).set i (el (sw xs i) ((xs.length : Int) - 1 - i))).set ((xs.length : Int) - 1 - i).toNat (el (sw xs i) (i : Int)) = sw xs (i + 1) := by
  rw [sw, show ((xs.length : Int) - 1 - i) = ((xs.length - 1 - i : Nat) : Int) by omega, Int.toNat_natCast]

def conRev : Con := ⟨[true], false, fun M xs => match M, xs with
  | [.seq .pt ys], [.c (.sl 0 0)] => some (some (ys.length ≤ 1048576), [.seq .pt ys.reverse], .tup [])
  | _, _ => none⟩


def K_slices_Reverse_impl_Pt_impl_Pt : Con := conRev

def E_slices_Reverse_impl_Pt_impl_Pt : Env := { nt := 28, nm := 1, tab := tab, con := con0, eqt := eqt, fz := [], cuts := [] }

set_option maxRecDepth 1000000 in
set_option maxHeartbeats 4000000 in
theorem c_slices_Reverse_impl_Pt_impl_Pt : COk Try.prog 85 K_slices_Reverse_impl_Pt_impl_Pt := by
  refine cok_of (E := E_slices_Reverse_impl_Pt_impl_Pt) Try.func85 rfl rfl (by rfl) mix_ok tab_ok (eq_ok rfl) con0_ok rfl ?_
  intro M xs p Ms r hrun hok
  simp only [K_slices_Reverse_impl_Pt_impl_Pt, conRev] at hrun
  split at hrun
  · rename_i ys
    simp only [Option.some.injEq, Prod.mk.injEq] at hrun
    obtain ⟨rfl, rfl, rfl⟩ := hrun
    have hk : ys.length ≤ 1048576 := hok
    refine ⟨rfl, of_decide_eq_true rfl, ?_⟩
    revert ys
    intro (ys : List Pt) hok hk
    repeat' ((conv => whnf); first | exact True.intro | (refine (?_ : statOk _ = true); kernel_rfl) | (refine (?_ : dynOk _ _ = true); kernel_rfl) | refine And.intro ?_ ?_ | intro _)
    all_goals (try (conv => whnf))
    all_goals (try with_reducible rfl)
    all_goals first
      | (show AW _ _ _ _)
      | trace_state
    all_goals
      refine aw_loopT (fun i : Nat => [(2, .c (.int .i64 i)), (3, .c (.int .i64 ((ys.length : Int) - 1 - i)))]) (fun i => [(0, 0, .seq .pt (sw ys i))]) (fun i => 2 * i ≤ ys.length) (fun i => ys.length - 2 * i) 0 ?_ ?_ ?_
      · omega
      · repeat' ((conv => whnf); first | exact True.intro | (refine (?_ : statOk _ = true); kernel_rfl) | (refine (?_ : dynOk _ _ = true); kernel_rfl) | refine And.intro ?_ ?_ | intro _)
        all_goals (try (conv => whnf))
        all_goals (try with_reducible rfl)
        all_goals (try simp only [wrap_w] at *)
        all_goals first | rfl | (rw [w_id] <;> omega) | trace_state
      · intro i hi
        repeat' ((conv => whnf); first | exact True.intro | (refine (?_ : statOk _ = true); kernel_rfl) | (refine (?_ : dynOk _ _ = true); kernel_rfl) | refine And.intro ?_ ?_ | intro _)
        all_goals (try (conv => whnf))
        all_goals (try with_reducible rfl)
        all_goals (try (refine (⟨i + 1, ?_⟩ : Exists _)))
        repeat' ((conv => whnf); first | exact True.intro | (refine (?_ : statOk _ = true); kernel_rfl) | (refine (?_ : dynOk _ _ = true); kernel_rfl) | refine And.intro ?_ ?_ | intro _)
        all_goals (try (conv => whnf))
        all_goals (try with_reducible rfl)
        all_goals (try dsimp only at *)
        all_goals (try simp only [pOk, wrap_w, pre_iff, cast_L, cast_X, cut_lo, cut_hi, cut_both, cut_none, toNat_0, toNat_1, toNat_2, Int.toNat_natCast, List.length_cons, List.length_nil, Nat.zero_add, eq_Pt, eq_Frac, eq_Term, eq_Linear, eq_Row, eq_System, eq_Cubic, eq_Quad, eq_Knot, eq_LoopT, eq_Outline, eq_Segm, eq_Token, eq_Stmt, eq_Curve, decide_eq_true_eq, decide_eq_false_iff_not, ge_iff_le, gt_iff_lt, eta_Pt, eta_Frac, eta_Term, eta_Linear, eta_Row, eta_System, eta_Cubic, eta_Quad, eta_Knot, eta_LoopT, eta_Outline, eta_Segm, eta_Token, eta_Stmt, eta_Curve, Int.ofNat_lt, Int.ofNat_le, Bool.not_eq_true', Bool.not_eq_false'] at *)
        all_goals (try simp only [List.length_set, sw_len] at *)
        all_goals first
          | omega
          | (rw [w_id] <;> omega)
          | (rw [sw_step (by assumption)]; done)
          | (rw [sw_end (by omega) (by assumption)]; done)
          | exact List.length_reverse
          | trace_state
  · cases hrun

def crN (c : Curve) : Int := if vCrv c = true then 0 else 1
def revC (c : Curve) : Curve := if vCrv c = true then ⟨c.Knots.reverse, c.Closed, c.Tension, c.FixLast, c.FixFirst, ⟨w (0 - c.Last.X), w (0 - c.Last.Y)⟩, ⟨w (0 - c.First.X), w (0 - c.First.Y)⟩⟩ else ⟨[], false, 0, false, false, ⟨0, 0⟩, ⟨0, 0⟩⟩

theorem rev_no {c : Curve} (h : vCrv c = false) : revC c = ⟨[], false, 0, false, false, ⟨0, 0⟩, ⟨0, 0⟩⟩ ∧ crN c = 1 := by simp [revC, crN, h]
theorem rev_in {c : Curve} (h : vCrv c = true) : revC c = ⟨c.Knots.reverse, c.Closed, c.Tension, c.FixLast, c.FixFirst, ⟨w (0 - c.Last.X), w (0 - c.Last.Y)⟩, ⟨w (0 - c.First.X), w (0 - c.First.Y)⟩⟩ ∧ crN c = 0 := by simp [revC, crN, h]


def K_impl_ReverseCurve : Con := conOf false [.a .curve] fun ⟨c, _⟩ =>
  (fun (c : Curve) =>
  (none, [.seq .pt (revC c).Knots], .tup [(true, crv (revC c)), (false, [.int .i64 (crN c)])])) c

def E_impl_ReverseCurve : Env := { nt := 44, nm := 0, tab := tab, con := (conCons 26 K_impl_ValidCurve (conCons 84 K_slices_Clone_impl_Pt_impl_Pt (conCons 85 K_slices_Reverse_impl_Pt_impl_Pt con0))), eqt := eqt, fz := [], cuts := [] }

set_option maxRecDepth 1000000 in
set_option maxHeartbeats 4000000 in
theorem c_impl_ReverseCurve : COk Try.prog 40 K_impl_ReverseCurve := by
  refine cok_fun (E := E_impl_ReverseCurve) Try.func40 rfl rfl (by rfl) mix_ok tab_ok (eq_ok rfl) (con_cons c_impl_ValidCurve (con_cons c_slices_Clone_impl_Pt_impl_Pt (con_cons c_slices_Reverse_impl_Pt_impl_Pt con0_ok))) rfl rfl (by decide) ?_
  rintro ⟨(c : Curve), u0⟩ h0
  repeat' ((conv => whnf); first | exact True.intro | (refine (?_ : statOk _ = true); kernel_rfl) | (refine (?_ : dynOk _ _ = true); kernel_rfl) | refine And.intro ?_ ?_ | intro _)
  all_goals (try (conv => whnf))
  all_goals (try with_reducible rfl)
  all_goals (try dsimp only at *)
  all_goals (try simp only [pOk, wrap_w, pre_iff, cast_L, cast_X, cut_lo, cut_hi, cut_both, cut_none, toNat_0, toNat_1, toNat_2, Int.toNat_natCast, List.length_cons, List.length_nil, Nat.zero_add, eq_Pt, eq_Frac, eq_Term, eq_Linear, eq_Row, eq_System, eq_Cubic, eq_Quad, eq_Knot, eq_LoopT, eq_Outline, eq_Segm, eq_Token, eq_Stmt, eq_Curve, decide_eq_true_eq, decide_eq_false_iff_not, ge_iff_le, gt_iff_lt, eta_Pt, eta_Frac, eta_Term, eta_Linear, eta_Row, eta_System, eta_Cubic, eta_Quad, eta_Knot, eta_LoopT, eta_Outline, eta_Segm, eta_Token, eta_Stmt, eta_Curve, Int.ofNat_lt, Int.ofNat_le, Bool.not_eq_true', Bool.not_eq_false'] at *)
  all_goals first
    | (simp only [(rev_no (c := c) (by assumption)).1, (rev_no (c := c) (by assumption)).2]; done)
    | (have := vCrv_n (c := c) (by assumption); omega)
    | (simp only [(rev_in (c := c) (by assumption)).1, (rev_in (c := c) (by assumption)).2]; done)
    | trace_state

theorem tk_rev {xs : List Pt} {i : Nat} (h : i < xs.length) : xs.reverse.take (i + 1) = xs.reverse.take i ++ [el xs ((xs.length : Int) - 1 - i)] := by
  rw [List.take_add_one, List.getElem?_reverse h, show ((xs.length : Int) - 1 - i) = ((xs.length - 1 - i : Nat) : Int) by omega, el_nth (by omega), List.getElem?_eq_getElem (by omega)]
  rfl
def rvB (c : Curve) (j : Nat) : Tmps := match j with
  | 0 => []
  | i + 1 => [(5, .c (.int .i64 ((c.Knots.length : Int) - 1 - (i + 1 : Nat))))]
def rvO (c : Curve) (j : Nat) : Ups := match j with
  | 0 => []
  | i + 1 => [(4, 1, .box 32 [.sl 54 1, .bool false c.Closed, .int .i64 c.Tension, .bool false c.FixLast, .bool false c.FixFirst, .int .i64 (w (0 - c.Last.X)), .int .i64 (w (0 - c.Last.Y)), .int .i64 (w (0 - c.First.X)), .int .i64 (w (0 - c.First.Y))]), (54, 1, .seq .pt (c.Knots.reverse.take (i + 1)))]


def K_spec_ReverseCurve : Con := conOf false [.a .curve] fun ⟨c, _⟩ =>
  (fun (c : Curve) =>
  (none, [.seq .pt (revC c).Knots], .tup [(true, crv (revC c)), (false, [.int .i64 (crN c)])])) c

def E_spec_ReverseCurve : Env := { nt := 57, nm := 0, tab := tab, con := (conCons 68 K_spec_l06Ok con0), eqt := eqt, fz := [], cuts := [] }

set_option maxRecDepth 1000000 in
set_option maxHeartbeats 4000000 in
theorem c_spec_ReverseCurve : COk Try.prog 39 K_spec_ReverseCurve := by
  refine cok_fun (E := E_spec_ReverseCurve) Try.func39 rfl rfl (by rfl) mix_ok tab_ok (eq_ok rfl) (con_cons c_spec_l06Ok con0_ok) rfl rfl (by decide) ?_
  rintro ⟨(c : Curve), u0⟩ h0
  repeat' ((conv => whnf); first | exact True.intro | (refine (?_ : statOk _ = true); kernel_rfl) | (refine (?_ : dynOk _ _ = true); kernel_rfl) | refine And.intro ?_ ?_ | intro _)
  all_goals (try (conv => whnf))
  all_goals (try with_reducible rfl)
  all_goals (try dsimp only at *)
  all_goals first
    | (show AW _ _ _ _)
    | ((try simp only [pOk, wrap_w, pre_iff, cast_L, cast_X, cut_lo, cut_hi, cut_both, cut_none, toNat_0, toNat_1, toNat_2, Int.toNat_natCast, List.length_cons, List.length_nil, Nat.zero_add, eq_Pt, eq_Frac, eq_Term, eq_Linear, eq_Row, eq_System, eq_Cubic, eq_Quad, eq_Knot, eq_LoopT, eq_Outline, eq_Segm, eq_Token, eq_Stmt, eq_Curve, decide_eq_true_eq, decide_eq_false_iff_not, ge_iff_le, gt_iff_lt, eta_Pt, eta_Frac, eta_Term, eta_Linear, eta_Row, eta_System, eta_Cubic, eta_Quad, eta_Knot, eta_LoopT, eta_Outline, eta_Segm, eta_Token, eta_Stmt, eta_Curve, Int.ofNat_lt, Int.ofNat_le, Bool.not_eq_true', Bool.not_eq_false'] at *)
       first
         | (simp only [(rev_no (c := c) (by assumption)).1, (rev_no (c := c) (by assumption)).2]; done)
         | trace_state)
  all_goals
    have hv : vCrv c = true := by simp_all
    have hn := vCrv_n hv
    have hw1 : w ((c.Knots.length : Int) - 1) = (c.Knots.length : Int) - 1 := by rw [w_id] <;> omega
    refine aw_loopT (rvB c) (rvO c) (fun i => i ≤ c.Knots.length) (fun i => c.Knots.length - i) 0 ?_ ?_ ?_
    · exact Nat.zero_le _
    · repeat' ((conv => whnf); first | exact True.intro | (refine (?_ : statOk _ = true); kernel_rfl) | (refine (?_ : dynOk _ _ = true); kernel_rfl) | refine And.intro ?_ ?_ | intro _)
      all_goals (try (conv => whnf))
      all_goals (try with_reducible rfl)
      all_goals trace_state
    · rintro (_ | i) hi
      · repeat' ((conv => whnf); first | exact True.intro | (refine (?_ : statOk _ = true); kernel_rfl) | (refine (?_ : dynOk _ _ = true); kernel_rfl) | refine And.intro ?_ ?_ | intro _)
        all_goals (try (conv => whnf))
        all_goals (try with_reducible rfl)
        all_goals (try (refine (⟨0 + 1, ?_⟩ : Exists _)))
        repeat' ((conv => whnf); first | exact True.intro | (refine (?_ : statOk _ = true); kernel_rfl) | (refine (?_ : dynOk _ _ = true); kernel_rfl) | refine And.intro ?_ ?_ | intro _)
        all_goals (try (conv => whnf))
        all_goals (try with_reducible rfl)
        all_goals (try dsimp only at *)
        all_goals (try simp only [pOk, wrap_w, pre_iff, cast_L, cast_X, cut_lo, cut_hi, cut_both, cut_none, toNat_0, toNat_1, toNat_2, Int.toNat_natCast, List.length_cons, List.length_nil, Nat.zero_add, eq_Pt, eq_Frac, eq_Term, eq_Linear, eq_Row, eq_System, eq_Cubic, eq_Quad, eq_Knot, eq_LoopT, eq_Outline, eq_Segm, eq_Token, eq_Stmt, eq_Curve, decide_eq_true_eq, decide_eq_false_iff_not, ge_iff_le, gt_iff_lt, eta_Pt, eta_Frac, eta_Term, eta_Linear, eta_Row, eta_System, eta_Cubic, eta_Quad, eta_Knot, eta_LoopT, eta_Outline, eta_Segm, eta_Token, eta_Stmt, eta_Curve, Int.ofNat_lt, Int.ofNat_le, Bool.not_eq_true', Bool.not_eq_false'] at *)
        all_goals (try simp only [hw1] at *)
        all_goals first
          | omega
          | (rw [w_id] <;> omega)
          | (rw [show (1 : Nat) = 0 + 1 from rfl, tk_rev (i := 0) (by omega)]; simp; done)
          | (simp only [(rev_in (c := c) hv).1, (rev_in (c := c) hv).2]
             first | done | (rw [List.take_of_length_le (by rw [List.length_reverse]; omega)]))
          | trace_state
      · repeat' ((conv => whnf); first | exact True.intro | (refine (?_ : statOk _ = true); kernel_rfl) | (refine (?_ : dynOk _ _ = true); kernel_rfl) | refine And.intro ?_ ?_ | intro _)
        all_goals (try (conv => whnf))
        all_goals (try with_reducible rfl)
        all_goals (try (refine (⟨i + 1 + 1, ?_⟩ : Exists _)))
        repeat' ((conv => whnf); first | exact True.intro | (refine (?_ : statOk _ = true); kernel_rfl) | (refine (?_ : dynOk _ _ = true); kernel_rfl) | refine And.intro ?_ ?_ | intro _)
        all_goals (try (conv => whnf))
        all_goals (try with_reducible rfl)
        all_goals (try dsimp only at *)
        all_goals (try simp only [pOk, wrap_w, pre_iff, cast_L, cast_X, cut_lo, cut_hi, cut_both, cut_none, toNat_0, toNat_1, toNat_2, Int.toNat_natCast, List.length_cons, List.length_nil, Nat.zero_add, eq_Pt, eq_Frac, eq_Term, eq_Linear, eq_Row, eq_System, eq_Cubic, eq_Quad, eq_Knot, eq_LoopT, eq_Outline, eq_Segm, eq_Token, eq_Stmt, eq_Curve, decide_eq_true_eq, decide_eq_false_iff_not, ge_iff_le, gt_iff_lt, eta_Pt, eta_Frac, eta_Term, eta_Linear, eta_Row, eta_System, eta_Cubic, eta_Quad, eta_Knot, eta_LoopT, eta_Outline, eta_Segm, eta_Token, eta_Stmt, eta_Curve, Int.ofNat_lt, Int.ofNat_le, Bool.not_eq_true', Bool.not_eq_false'] at *)
        all_goals first
          | omega
          | (rw [w_id] <;> omega)
          | (rw [List.length_take, List.length_reverse]; omega)
          | (rw [tk_rev (i := i + 1) (by omega)]; done)
          | (simp only [(rev_in (c := c) hv).1, (rev_in (c := c) hv).2]
             first | done | (rw [List.take_of_length_le (by rw [List.length_reverse]; omega)]))
          | trace_state

end GV

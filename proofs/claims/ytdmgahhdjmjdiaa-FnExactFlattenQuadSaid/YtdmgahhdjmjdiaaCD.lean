/-
  Contracts: bounds, levels, points of curves. No condition beyond those named.
-/
import Derived.Test.YtdmgahhdjmjdiaaCB
namespace GV
open Go Go.Proofs
set_option linter.unusedSimpArgs false
set_option linter.unusedVariables false

/-! ### bounds -/
def pmin (l p : Pt) : Pt := ⟨min l.X p.X, min l.Y p.Y⟩
def pmax (l p : Pt) : Pt := ⟨max l.X p.X, max l.Y p.Y⟩
def lowP (ps : List Pt) : Pt := (ps.drop 1).foldl pmin (el ps 0)
def highP (ps : List Pt) : Pt := (ps.drop 1).foldl pmax (el ps 0)

theorem fold_next {α β : Type} [Inhabited α] (f : β → α → β) (b : β) (xs : List α) (j : Nat) (h : j + 1 < xs.length) : ((xs.drop 1).take (j + 1)).foldl f b = f (((xs.drop 1).take j).foldl f b) (el xs ((j + 1 : Nat) : Int)) := by
  rw [foldl_take_succ f b (by rw [List.length_drop]; omega)]
  congr 1
  rw [el_nat, el_nat, List.getD_eq_getElem?_getD, List.getD_eq_getElem?_getD, List.getElem?_drop, Nat.add_comm]

theorem fold_last {α β : Type} (f : β → α → β) (b : β) (xs : List α) (j : Nat) (h : ¬ j + 1 < xs.length) : ((xs.drop 1).take j).foldl f b = (xs.drop 1).foldl f b := by
  rw [List.take_of_length_le (by rw [List.length_drop]; omega)]


def K_spec_l09Corners : Con := conOf false [.s .pt] fun ⟨ps, _⟩ =>
  (fun (ps : List Pt) =>
  (some (0 < ps.length), [], .tup [(true, enc .pt (lowP ps)), (true, enc .pt (highP ps))])) ps

def E_spec_l09Corners : Env := { nt := 55, nm := 0, tab := tab, con := (conCons 83 K_spec_l00Min (conCons 79 K_spec_l00Max con0)), eqt := eqt, fz := [], cuts := [] }

set_option maxRecDepth 1000000 in
set_option maxHeartbeats 4000000 in
theorem c_spec_l09Corners : COk Try.prog 54 K_spec_l09Corners := by
  refine cok_fun (E := E_spec_l09Corners) Try.func54 rfl rfl (by rfl) mix_ok tab_ok (eq_ok rfl) (con_cons c_spec_l00Min (con_cons c_spec_l00Max con0_ok)) rfl rfl (by decide) ?_
  rintro ⟨(ps : List Pt), u0⟩ h0
  repeat' ((conv => whnf); first | exact True.intro | (refine (?_ : statOk _ = true); kernel_rfl) | (refine (?_ : dynOk _ _ = true); kernel_rfl) | refine And.intro ?_ ?_ | intro _)
  all_goals (try (conv => whnf))
  all_goals (try with_reducible rfl)
  · exact ⟨by omega, by have : 0 < ps.length := h0; omega⟩
  · exact ⟨by omega, by have : 0 < ps.length := h0; omega⟩
  · refine aw_loopT (fun j : Nat => [(6, .c (.int .i64 (j + 1 : Nat)))]) (fun j => [(4, 1, .box 0 (enc .pt (((ps.drop 1).take j).foldl pmin (el ps 0)))), (5, 1, .box 0 (enc .pt (((ps.drop 1).take j).foldl pmax (el ps 0))))]) (fun j => j + 1 ≤ ps.length) (fun j => ps.length - j) 0 ?_ ?_ ?_
    · exact h0
    · repeat' ((conv => whnf); first | exact True.intro | (refine (?_ : statOk _ = true); kernel_rfl) | (refine (?_ : dynOk _ _ = true); kernel_rfl) | refine And.intro ?_ ?_ | intro _)
      all_goals (try (conv => whnf))
      all_goals (try with_reducible rfl)
      all_goals simp
    · intro j hj
      repeat' ((conv => whnf); first | exact True.intro | (refine (?_ : statOk _ = true); kernel_rfl) | (refine (?_ : dynOk _ _ = true); kernel_rfl) | refine And.intro ?_ ?_ | intro _)
      all_goals (try (conv => whnf))
      all_goals (try with_reducible rfl)
      all_goals (try (refine (⟨j + 1, ?_⟩ : Exists _)))
      repeat' ((conv => whnf); first | exact True.intro | (refine (?_ : statOk _ = true); kernel_rfl) | (refine (?_ : dynOk _ _ = true); kernel_rfl) | refine And.intro ?_ ?_ | intro _)
      all_goals (try (conv => whnf))
      all_goals (try with_reducible rfl)
      all_goals (try simp only [pOk, wrap_w, pre_iff, cast_L, cast_X, cut_lo, cut_hi, cut_both, cut_none, toNat_0, toNat_1, toNat_2, Int.toNat_natCast, List.length_cons, List.length_nil, Nat.zero_add, eq_Pt, eq_Frac, eq_Term, eq_Linear, eq_Row, eq_System, eq_Cubic, eq_Quad, eq_Knot, eq_LoopT, eq_Outline, eq_Segm, eq_Token, eq_Stmt, eq_Curve, decide_eq_true_eq, decide_eq_false_iff_not, ge_iff_le, gt_iff_lt, eta_Pt, eta_Frac, eta_Term, eta_Linear, eta_Row, eta_System, eta_Cubic, eta_Quad, eta_Knot, eta_LoopT, eta_Outline, eta_Segm, eta_Token, eta_Stmt, eta_Curve, Int.ofNat_lt, Int.ofNat_le, Bool.not_eq_true', Bool.not_eq_false'] at *)
      all_goals first | omega | (rw [w_succ]; omega) | (rw [fold_next _ _ _ _ (by assumption)]; rfl) | (rw [fold_last _ _ _ _ (by assumption)]; rfl)


def K_impl_boundsOf : Con := conOf false [.s .pt] fun ⟨ps, _⟩ =>
  (fun (ps : List Pt) =>
  (some (0 < ps.length), [], .tup [(true, enc .pt (lowP ps)), (true, enc .pt (highP ps))])) ps

def E_impl_boundsOf : Env := { nt := 46, nm := 0, tab := tab, con := con0, eqt := eqt, fz := [], cuts := [] }

set_option maxRecDepth 1000000 in
set_option maxHeartbeats 4000000 in
theorem c_impl_boundsOf : COk Try.prog 55 K_impl_boundsOf := by
  refine cok_fun (E := E_impl_boundsOf) Try.func55 rfl rfl (by rfl) mix_ok tab_ok (eq_ok rfl) con0_ok rfl rfl (by decide) ?_
  rintro ⟨(ps : List Pt), u0⟩ h0
  repeat' ((conv => whnf); first | exact True.intro | (refine (?_ : statOk _ = true); kernel_rfl) | (refine (?_ : dynOk _ _ = true); kernel_rfl) | refine And.intro ?_ ?_ | intro _)
  all_goals (try (conv => whnf))
  all_goals (try with_reducible rfl)
  · exact ⟨by omega, by have : 0 < ps.length := h0; omega⟩
  · exact ⟨by omega, by have : 0 < ps.length := h0; omega⟩
  · exact ⟨by omega, by have : 0 < ps.length := h0; omega⟩
  · refine aw_loopT (fun j : Nat => [(17, .c (.int .i64 j))]) (fun j => [(4, 1, .box 0 (enc .pt (((ps.drop 1).take j).foldl pmin (el ps 0)))), (5, 1, .box 0 (enc .pt (((ps.drop 1).take j).foldl pmax (el ps 0))))]) (fun j => j ≤ (ps.drop 1).length) (fun j => ps.length - j) 0 ?_ ?_ ?_
    · simp
    · repeat' ((conv => whnf); first | exact True.intro | (refine (?_ : statOk _ = true); kernel_rfl) | (refine (?_ : dynOk _ _ = true); kernel_rfl) | refine And.intro ?_ ?_ | intro _)
      all_goals (try (conv => whnf))
      all_goals (try with_reducible rfl)
      all_goals simp
    · intro j hj
      repeat' ((conv => whnf); first | exact True.intro | (refine (?_ : statOk _ = true); kernel_rfl) | (refine (?_ : dynOk _ _ = true); kernel_rfl) | refine And.intro ?_ ?_ | intro _)
      all_goals (try (conv => whnf))
      all_goals (try with_reducible rfl)
      all_goals (try (refine (⟨j + 1, ?_⟩ : Exists _)))
      repeat' ((conv => whnf); first | exact True.intro | (refine (?_ : statOk _ = true); kernel_rfl) | (refine (?_ : dynOk _ _ = true); kernel_rfl) | refine And.intro ?_ ?_ | intro _)
      all_goals (try (conv => whnf))
      all_goals (try with_reducible rfl)
      all_goals (try simp only [pOk, wrap_w, pre_iff, cast_L, cast_X, cut_lo, cut_hi, cut_both, cut_none, toNat_0, toNat_1, toNat_2, Int.toNat_natCast, List.length_cons, List.length_nil, Nat.zero_add, eq_Pt, eq_Frac, eq_Term, eq_Linear, eq_Row, eq_System, eq_Cubic, eq_Quad, eq_Knot, eq_LoopT, eq_Outline, eq_Segm, eq_Token, eq_Stmt, eq_Curve, decide_eq_true_eq, decide_eq_false_iff_not, ge_iff_le, gt_iff_lt, eta_Pt, eta_Frac, eta_Term, eta_Linear, eta_Row, eta_System, eta_Cubic, eta_Quad, eta_Knot, eta_LoopT, eta_Outline, eta_Segm, eta_Token, eta_Stmt, eta_Curve, Int.ofNat_lt, Int.ofNat_le, Bool.not_eq_true', Bool.not_eq_false'] at *)
      all_goals (have hdl : (List.drop 1 ps).length = ps.length - 1 := List.length_drop)
      all_goals first | omega | (rw [w_succ]; omega) | (rw [foldl_take_succ _ _ (by omega)]; rfl) | (rw [fold_last _ _ _ _ (by omega)]; rfl)

def cLow (c : Cubic) : Pt := if vCub c then lowP [c.A, c.B, c.C, c.D] else ⟨0, 0⟩
def cHigh (c : Cubic) : Pt := if vCub c then highP [c.A, c.B, c.C, c.D] else ⟨0, 0⟩
def vCode (b : Bool) : Int := if b then 0 else 1


def K_spec_CubicBounds : Con := conOf false [.a .cubic] fun ⟨c, _⟩ =>
  (fun (c : Cubic) =>
  (none, [], .tup [(true, enc .pt (cLow c)), (true, enc .pt (cHigh c)), (false, [.int .i64 (vCode (vCub c))])])) c

def E_spec_CubicBounds : Env := { nt := 26, nm := 0, tab := tab, con := (conCons 49 K_spec_l09Ok (conCons 54 K_spec_l09Corners con0)), eqt := eqt, fz := [], cuts := [] }

set_option maxRecDepth 1000000 in
set_option maxHeartbeats 4000000 in
theorem c_spec_CubicBounds : COk Try.prog 25 K_spec_CubicBounds := by
  refine cok_fun (E := E_spec_CubicBounds) Try.func25 rfl rfl (by rfl) mix_ok tab_ok (eq_ok rfl) (con_cons c_spec_l09Ok (con_cons c_spec_l09Corners con0_ok)) rfl rfl (by decide) ?_
  rintro ⟨(c : Cubic), u0⟩ h0
  repeat' ((conv => whnf); first | exact True.intro | (refine (?_ : statOk _ = true); kernel_rfl) | (refine (?_ : dynOk _ _ = true); kernel_rfl) | refine And.intro ?_ ?_ | intro _)
  all_goals (try (conv => whnf))
  all_goals (try simp only [pOk, wrap_w, pre_iff, cast_L, cast_X, cut_lo, cut_hi, cut_both, cut_none, toNat_0, toNat_1, toNat_2, Int.toNat_natCast, List.length_cons, List.length_nil, Nat.zero_add, eq_Pt, eq_Frac, eq_Term, eq_Linear, eq_Row, eq_System, eq_Cubic, eq_Quad, eq_Knot, eq_LoopT, eq_Outline, eq_Segm, eq_Token, eq_Stmt, eq_Curve, decide_eq_true_eq, decide_eq_false_iff_not, ge_iff_le, gt_iff_lt, eta_Pt, eta_Frac, eta_Term, eta_Linear, eta_Row, eta_System, eta_Cubic, eta_Quad, eta_Knot, eta_LoopT, eta_Outline, eta_Segm, eta_Token, eta_Stmt, eta_Curve, Int.ofNat_lt, Int.ofNat_le, Bool.not_eq_true', Bool.not_eq_false'] at *)
  all_goals first | omega | (simp_all [cLow, cHigh, vCode]; done) | (simp_all [cLow, cHigh, vCode]; omega) | grind [cLow, cHigh, vCode]



def K_impl_CubicBounds : Con := conOf false [.a .cubic] fun ⟨c, _⟩ =>
  (fun (c : Cubic) =>
  (none, [], .tup [(true, enc .pt (cLow c)), (true, enc .pt (cHigh c)), (false, [.int .i64 (vCode (vCub c))])])) c

def E_impl_CubicBounds : Env := { nt := 20, nm := 0, tab := tab, con := (conCons 19 K_impl_ValidCubic (conCons 56 K_impl_Cubic_points (conCons 55 K_impl_boundsOf con0))), eqt := eqt, fz := [], cuts := [] }

set_option maxRecDepth 1000000 in
set_option maxHeartbeats 4000000 in
theorem c_impl_CubicBounds : COk Try.prog 26 K_impl_CubicBounds := by
  refine cok_fun (E := E_impl_CubicBounds) Try.func26 rfl rfl (by rfl) mix_ok tab_ok (eq_ok rfl) (con_cons c_impl_ValidCubic (con_cons c_impl_Cubic_points (con_cons c_impl_boundsOf con0_ok))) rfl rfl (by decide) ?_
  rintro ⟨(c : Cubic), u0⟩ h0
  repeat' ((conv => whnf); first | exact True.intro | (refine (?_ : statOk _ = true); kernel_rfl) | (refine (?_ : dynOk _ _ = true); kernel_rfl) | refine And.intro ?_ ?_ | intro _)
  all_goals (try (conv => whnf))
  all_goals (try simp only [pOk, wrap_w, pre_iff, cast_L, cast_X, cut_lo, cut_hi, cut_both, cut_none, toNat_0, toNat_1, toNat_2, Int.toNat_natCast, List.length_cons, List.length_nil, Nat.zero_add, eq_Pt, eq_Frac, eq_Term, eq_Linear, eq_Row, eq_System, eq_Cubic, eq_Quad, eq_Knot, eq_LoopT, eq_Outline, eq_Segm, eq_Token, eq_Stmt, eq_Curve, decide_eq_true_eq, decide_eq_false_iff_not, ge_iff_le, gt_iff_lt, eta_Pt, eta_Frac, eta_Term, eta_Linear, eta_Row, eta_System, eta_Cubic, eta_Quad, eta_Knot, eta_LoopT, eta_Outline, eta_Segm, eta_Token, eta_Stmt, eta_Curve, Int.ofNat_lt, Int.ofNat_le, Bool.not_eq_true', Bool.not_eq_false'] at *)
  all_goals first | omega | (simp_all [cLow, cHigh, vCode]; done) | (simp_all [cLow, cHigh, vCode]; omega) | grind [cLow, cHigh, vCode]


/-! ### levels -/
def lvlGo (s t : Int) : Nat → Nat → Int × Int
  | 0, _ => (0, 5)
  | n + 1, i => if s ≤ w (w (4 * t) * 2 ^ (2 * i)) then ((i : Int), 0) else lvlGo s t n (i + 1)
def lvl (s t : Int) : Int × Int := lvlGo s t 7 0

theorem lvl_step (s t : Int) {i : Nat} (h : i ≤ 6) : lvlGo s t (7 - i) i = if s ≤ w (w (4 * t) * 2 ^ (2 * i)) then ((i : Int), 0) else lvlGo s t (7 - (i + 1)) (i + 1) := by
  obtain ⟨n, hn⟩ : ∃ n, 7 - i = n + 1 := ⟨6 - i, by omega⟩
  rw [hn, show 7 - (i + 1) = n by omega]
  rfl

theorem lvlGo_range (s t : Int) : ∀ n i, n + i ≤ 7 → 0 ≤ (lvlGo s t n i).1 ∧ (lvlGo s t n i).1 ≤ 6 ∧ ((lvlGo s t n i).2 = 0 ∨ (lvlGo s t n i).2 = 5) := by
  intro n
  induction n with
  | zero => intro i _; simp [lvlGo]
  | succ n ih =>
    intro i h
    simp only [lvlGo]
    split
    · simp; omega
    · exact ih (i + 1) (by omega)
theorem lvl_range (s t : Int) : 0 ≤ (lvl s t).1 ∧ (lvl s t).1 ≤ 6 ∧ ((lvl s t).2 = 0 ∨ (lvl s t).2 = 5) := lvlGo_range s t 7 0 (by omega)

theorem w_two {i : Nat} (h : i ≤ 6) : w (2 * (i : Int)) = 2 * i ∧ IntKind.u64.wrap (2 * (i : Int)) = 2 * i := by
  constructor
  · exact w_id (by omega)
  · simp [IntKind.wrap, IntKind.bits, IntKind.signed]; omega
theorem shl_two (x : Int) {i : Nat} (h : i ≤ 6) : shl .i64 x (2 * (i : Int)) = w (x * 2 ^ (2 * i)) := by
  unfold shl
  rw [wrap_w, show min (2 * (i : Int)).toNat IntKind.i64.bits = 2 * i by simp [IntKind.bits]; omega]
theorem u64_nonneg (n : Int) : 0 ≤ IntKind.u64.wrap n := by simp [IntKind.wrap, IntKind.bits, IntKind.signed]; omega


def K_impl_levelFor : Con := conOf false [.a .int, .a .int] fun ⟨s, t, _⟩ =>
  (fun (s : Int) (t : Int) =>
  (none, [], .tup [(false, [.int .i64 (lvl s t).1]), (false, [.int .i64 (lvl s t).2])])) s t

def E_impl_levelFor : Env := { nt := 19, nm := 0, tab := tab, con := con0, eqt := eqt, fz := [], cuts := [] }

set_option maxRecDepth 1000000 in
set_option maxHeartbeats 4000000 in
theorem c_impl_levelFor : COk Try.prog 59 K_impl_levelFor := by
  refine cok_fun (E := E_impl_levelFor) Try.func59 rfl rfl (by rfl) mix_ok tab_ok (eq_ok rfl) con0_ok rfl rfl (by decide) ?_
  rintro ⟨(s : Int), (t : Int), u0⟩ h0
  repeat' ((conv => whnf); first | exact True.intro | (refine (?_ : statOk _ = true); kernel_rfl) | (refine (?_ : dynOk _ _ = true); kernel_rfl) | refine And.intro ?_ ?_ | intro _)
  all_goals (try (conv => whnf))
  all_goals (try with_reducible rfl)
  refine aw_loopT (fun i : Nat => [(6, .c (.int .i64 i))]) (fun _ => []) (fun i => i ≤ 7 ∧ lvl s t = lvlGo s t (7 - i) i) (fun i => 7 - i) 0 ?_ ?_ ?_
  · exact ⟨by omega, rfl⟩
  · repeat' ((conv => whnf); first | exact True.intro | (refine (?_ : statOk _ = true); kernel_rfl) | (refine (?_ : dynOk _ _ = true); kernel_rfl) | refine And.intro ?_ ?_ | intro _)
    all_goals (try (conv => whnf))
    all_goals (try with_reducible rfl)
    all_goals simp
  · rintro i ⟨hi, hj⟩
    repeat' ((conv => whnf); first | exact True.intro | (refine (?_ : statOk _ = true); kernel_rfl) | (refine (?_ : dynOk _ _ = true); kernel_rfl) | refine And.intro ?_ ?_ | intro _)
    all_goals (try (conv => whnf))
    all_goals (try with_reducible rfl)
    all_goals (try (refine (⟨i + 1, ?_⟩ : Exists _)))
    repeat' ((conv => whnf); first | exact True.intro | (refine (?_ : statOk _ = true); kernel_rfl) | (refine (?_ : dynOk _ _ = true); kernel_rfl) | refine And.intro ?_ ?_ | intro _)
    all_goals (try (conv => whnf))
    all_goals (try with_reducible rfl)
    all_goals (try simp only [pOk, wrap_w, pre_iff, cast_L, cast_X, cut_lo, cut_hi, cut_both, cut_none, toNat_0, toNat_1, toNat_2, Int.toNat_natCast, List.length_cons, List.length_nil, Nat.zero_add, eq_Pt, eq_Frac, eq_Term, eq_Linear, eq_Row, eq_System, eq_Cubic, eq_Quad, eq_Knot, eq_LoopT, eq_Outline, eq_Segm, eq_Token, eq_Stmt, eq_Curve, decide_eq_true_eq, decide_eq_false_iff_not, ge_iff_le, gt_iff_lt, eta_Pt, eta_Frac, eta_Term, eta_Linear, eta_Row, eta_System, eta_Cubic, eta_Quad, eta_Knot, eta_LoopT, eta_Outline, eta_Segm, eta_Token, eta_Stmt, eta_Curve, Int.ofNat_lt, Int.ofNat_le, Bool.not_eq_true', Bool.not_eq_false'] at *)
    all_goals first | omega | (rw [w_succ]; omega) | skip
    · rw [(w_two (by omega)).1]; omega
    · rename_i h1 _ h2
      rw [(w_two (by omega)).1, shl_two _ (by omega)] at h2
      rw [hj, lvl_step s t (by omega), if_pos h2]
    · rename_i h1 _ h2
      rw [(w_two (by omega)).1, shl_two _ (by omega)] at h2
      rw [hj, lvl_step s t (by omega), if_pos h2]
    · rename_i h1 _ h2
      rw [(w_two (by omega)).1, shl_two _ (by omega)] at h2
      exact ⟨by omega, by rw [hj, lvl_step s t (by omega), if_neg h2]⟩
    · rw [hj, show 7 - i = 0 by omega]; rfl
    · rw [hj, show 7 - i = 0 by omega]; rfl

def tol (t : Int) : Bool := decide (1 ≤ t) && decide (t ≤ 262144)


def K_impl_isTolerance : Con := conOf false [.a .int] fun ⟨t, _⟩ =>
  (fun (t : Int) =>
  (none, [], .c (.bool false (tol t)))) t

def E_impl_isTolerance : Env := { nt := 9, nm := 0, tab := tab, con := con0, eqt := eqt, fz := [], cuts := [] }

set_option maxRecDepth 1000000 in
set_option maxHeartbeats 4000000 in
theorem c_impl_isTolerance : COk Try.prog 58 K_impl_isTolerance := by
  refine cok_fun (E := E_impl_isTolerance) Try.func58 rfl rfl (by rfl) mix_ok tab_ok (eq_ok rfl) con0_ok rfl rfl (by decide) ?_
  rintro ⟨(t : Int), u0⟩ h0
  repeat' ((conv => whnf); first | exact True.intro | (refine (?_ : statOk _ = true); kernel_rfl) | (refine (?_ : dynOk _ _ = true); kernel_rfl) | refine And.intro ?_ ?_ | intro _)
  all_goals (try (conv => whnf))
  all_goals (try simp only [pOk, wrap_w, pre_iff, cast_L, cast_X, cut_lo, cut_hi, cut_both, cut_none, toNat_0, toNat_1, toNat_2, Int.toNat_natCast, List.length_cons, List.length_nil, Nat.zero_add, eq_Pt, eq_Frac, eq_Term, eq_Linear, eq_Row, eq_System, eq_Cubic, eq_Quad, eq_Knot, eq_LoopT, eq_Outline, eq_Segm, eq_Token, eq_Stmt, eq_Curve, decide_eq_true_eq, decide_eq_false_iff_not, ge_iff_le, gt_iff_lt, eta_Pt, eta_Frac, eta_Term, eta_Linear, eta_Row, eta_System, eta_Cubic, eta_Quad, eta_Knot, eta_LoopT, eta_Outline, eta_Segm, eta_Token, eta_Stmt, eta_Curve, Int.ofNat_lt, Int.ofNat_le, Bool.not_eq_true', Bool.not_eq_false'] at *)
  all_goals first | omega | (simp_all [tol]; done) | (simp_all [tol]; omega) | grind [tol]



def K_spec_l09Tolerance : Con := conOf false [.a .int] fun ⟨t, _⟩ =>
  (fun (t : Int) =>
  (none, [], .c (.bool false (tol t)))) t

def E_spec_l09Tolerance : Env := { nt := 5, nm := 0, tab := tab, con := (conCons 67 K_spec_l00In con0), eqt := eqt, fz := [], cuts := [] }

set_option maxRecDepth 1000000 in
set_option maxHeartbeats 4000000 in
theorem c_spec_l09Tolerance : COk Try.prog 73 K_spec_l09Tolerance := by
  refine cok_fun (E := E_spec_l09Tolerance) Try.func73 rfl rfl (by rfl) mix_ok tab_ok (eq_ok rfl) (con_cons c_spec_l00In con0_ok) rfl rfl (by decide) ?_
  rintro ⟨(t : Int), u0⟩ h0
  repeat' ((conv => whnf); first | exact True.intro | (refine (?_ : statOk _ = true); kernel_rfl) | (refine (?_ : dynOk _ _ = true); kernel_rfl) | refine And.intro ?_ ?_ | intro _)
  all_goals (try (conv => whnf))
  all_goals (try simp only [pOk, wrap_w, pre_iff, cast_L, cast_X, cut_lo, cut_hi, cut_both, cut_none, toNat_0, toNat_1, toNat_2, Int.toNat_natCast, List.length_cons, List.length_nil, Nat.zero_add, eq_Pt, eq_Frac, eq_Term, eq_Linear, eq_Row, eq_System, eq_Cubic, eq_Quad, eq_Knot, eq_LoopT, eq_Outline, eq_Segm, eq_Token, eq_Stmt, eq_Curve, decide_eq_true_eq, decide_eq_false_iff_not, ge_iff_le, gt_iff_lt, eta_Pt, eta_Frac, eta_Term, eta_Linear, eta_Row, eta_System, eta_Cubic, eta_Quad, eta_Knot, eta_LoopT, eta_Outline, eta_Segm, eta_Token, eta_Stmt, eta_Curve, Int.ofNat_lt, Int.ofNat_le, Bool.not_eq_true', Bool.not_eq_false'] at *)
  all_goals first | omega | (simp_all [tol]; done) | (simp_all [tol]; omega) | grind [tol]


def lvF (c : Cubic) (t : Int) : Int × Int := if vCub c then (if tol t then lvl (w (3 * bend c)) t else (0, 2)) else (0, 1)
theorem lvF_range (c : Cubic) (t : Int) : 0 ≤ (lvF c t).1 ∧ (lvF c t).1 ≤ 6 := by
  unfold lvF
  split
  · split
    · exact ⟨(lvl_range _ _).1, (lvl_range _ _).2.1⟩
    · simp
  · simp


def K_spec_l09For : Con := conOf false [.p .cubic, .a .int] fun ⟨c, t, _⟩ =>
  (fun (c : Cubic) (t : Int) =>
  (none, [], .tup [(false, [.int .i64 (lvF c t).1]), (false, [.int .i64 (lvF c t).2])])) c t

def E_spec_l09For : Env := { nt := 28, nm := 0, tab := tab, con := (conCons 49 K_spec_l09Ok (conCons 73 K_spec_l09Tolerance (conCons 52 K_spec_l09Bend con0))), eqt := eqt, fz := [], cuts := [] }

set_option maxRecDepth 1000000 in
set_option maxHeartbeats 4000000 in
theorem c_spec_l09For : COk Try.prog 57 K_spec_l09For := by
  refine cok_fun (E := E_spec_l09For) Try.func57 rfl rfl (by rfl) mix_ok tab_ok (eq_ok rfl) (con_cons c_spec_l09Ok (con_cons c_spec_l09Tolerance (con_cons c_spec_l09Bend con0_ok))) rfl rfl (by decide) ?_
  rintro ⟨(c : Cubic), (t : Int), u0⟩ h0
  repeat' ((conv => whnf); first | exact True.intro | (refine (?_ : statOk _ = true); kernel_rfl) | (refine (?_ : dynOk _ _ = true); kernel_rfl) | refine And.intro ?_ ?_ | intro _)
  all_goals (try (conv => whnf))
  all_goals (try with_reducible rfl)
  all_goals (try (unfold lvF; simp_all; done))
  rename_i hv ht
  refine aw_loopT (fun i : Nat => [(6, .c (.int .i64 i))]) (fun _ => []) (fun i => i ≤ 7 ∧ lvF c t = lvlGo (w (3 * bend c)) t (7 - i) i) (fun i => 7 - i) 0 ?_ ?_ ?_
  · refine ⟨by omega, ?_⟩
    unfold lvF; simp_all [lvl]
  · repeat' ((conv => whnf); first | exact True.intro | (refine (?_ : statOk _ = true); kernel_rfl) | (refine (?_ : dynOk _ _ = true); kernel_rfl) | refine And.intro ?_ ?_ | intro _)
    all_goals (try (conv => whnf))
    all_goals (try with_reducible rfl)
    all_goals simp
  · rintro i ⟨hi, hj⟩
    repeat' ((conv => whnf); first | exact True.intro | (refine (?_ : statOk _ = true); kernel_rfl) | (refine (?_ : dynOk _ _ = true); kernel_rfl) | refine And.intro ?_ ?_ | intro _)
    all_goals (try (conv => whnf))
    all_goals (try with_reducible rfl)
    all_goals (try (refine (⟨i + 1, ?_⟩ : Exists _)))
    repeat' ((conv => whnf); first | exact True.intro | (refine (?_ : statOk _ = true); kernel_rfl) | (refine (?_ : dynOk _ _ = true); kernel_rfl) | refine And.intro ?_ ?_ | intro _)
    all_goals (try (conv => whnf))
    all_goals (try with_reducible rfl)
    all_goals (try simp only [pOk, wrap_w, pre_iff, cast_L, cast_X, cut_lo, cut_hi, cut_both, cut_none, toNat_0, toNat_1, toNat_2, Int.toNat_natCast, List.length_cons, List.length_nil, Nat.zero_add, eq_Pt, eq_Frac, eq_Term, eq_Linear, eq_Row, eq_System, eq_Cubic, eq_Quad, eq_Knot, eq_LoopT, eq_Outline, eq_Segm, eq_Token, eq_Stmt, eq_Curve, decide_eq_true_eq, decide_eq_false_iff_not, ge_iff_le, gt_iff_lt, eta_Pt, eta_Frac, eta_Term, eta_Linear, eta_Row, eta_System, eta_Cubic, eta_Quad, eta_Knot, eta_LoopT, eta_Outline, eta_Segm, eta_Token, eta_Stmt, eta_Curve, Int.ofNat_lt, Int.ofNat_le, Bool.not_eq_true', Bool.not_eq_false'] at *)
    all_goals first | omega | (rw [w_succ]; omega) | exact u64_nonneg _ | skip
    · rename_i h1 _ h2
      rw [(w_two (by omega)).1, (w_two (by omega)).2, shl_two _ (by omega)] at h2
      rw [hj, lvl_step _ t (by omega), if_pos h2]
    · rename_i h1 _ h2
      rw [(w_two (by omega)).1, (w_two (by omega)).2, shl_two _ (by omega)] at h2
      rw [hj, lvl_step _ t (by omega), if_pos h2]
    · rename_i h1 _ h2
      rw [(w_two (by omega)).1, (w_two (by omega)).2, shl_two _ (by omega)] at h2
      exact ⟨by omega, by rw [hj, lvl_step _ t (by omega), if_neg h2]⟩
    · rw [hj, show 7 - i = 0 by omega]; rfl
    · rw [hj, show 7 - i = 0 by omega]; rfl


def K_spec_LevelFor : Con := conOf false [.a .cubic, .a .int] fun ⟨c, t, _⟩ =>
  (fun (c : Cubic) (t : Int) =>
  (none, [], .tup [(false, [.int .i64 (lvF c t).1]), (false, [.int .i64 (lvF c t).2])])) c t

def E_spec_LevelFor : Env := { nt := 10, nm := 0, tab := tab, con := (conCons 57 K_spec_l09For con0), eqt := eqt, fz := [], cuts := [] }

set_option maxRecDepth 1000000 in
set_option maxHeartbeats 4000000 in
theorem c_spec_LevelFor : COk Try.prog 28 K_spec_LevelFor := by
  refine cok_fun (E := E_spec_LevelFor) Try.func28 rfl rfl (by rfl) mix_ok tab_ok (eq_ok rfl) (con_cons c_spec_l09For con0_ok) rfl rfl (by decide) ?_
  rintro ⟨(c : Cubic), (t : Int), u0⟩ h0
  repeat' ((conv => whnf); first | exact True.intro | (refine (?_ : statOk _ = true); kernel_rfl) | (refine (?_ : dynOk _ _ = true); kernel_rfl) | refine And.intro ?_ ?_ | intro _)
  all_goals (try (conv => whnf))
  all_goals (try simp only [pOk, wrap_w, pre_iff, cast_L, cast_X, cut_lo, cut_hi, cut_both, cut_none, toNat_0, toNat_1, toNat_2, Int.toNat_natCast, List.length_cons, List.length_nil, Nat.zero_add, eq_Pt, eq_Frac, eq_Term, eq_Linear, eq_Row, eq_System, eq_Cubic, eq_Quad, eq_Knot, eq_LoopT, eq_Outline, eq_Segm, eq_Token, eq_Stmt, eq_Curve, decide_eq_true_eq, decide_eq_false_iff_not, ge_iff_le, gt_iff_lt, eta_Pt, eta_Frac, eta_Term, eta_Linear, eta_Row, eta_System, eta_Cubic, eta_Quad, eta_Knot, eta_LoopT, eta_Outline, eta_Segm, eta_Token, eta_Stmt, eta_Curve, Int.ofNat_lt, Int.ofNat_le, Bool.not_eq_true', Bool.not_eq_false'] at *)
  all_goals first | omega | (simp_all; done) | (simp_all; omega) | grind



def K_impl_LevelFor : Con := conOf false [.a .cubic, .a .int] fun ⟨c, t, _⟩ =>
  (fun (c : Cubic) (t : Int) =>
  (none, [], .tup [(false, [.int .i64 (lvF c t).1]), (false, [.int .i64 (lvF c t).2])])) c t

def E_impl_LevelFor : Env := { nt := 19, nm := 0, tab := tab, con := (conCons 19 K_impl_ValidCubic (conCons 58 K_impl_isTolerance (conCons 53 K_impl_bendOf (conCons 59 K_impl_levelFor con0)))), eqt := eqt, fz := [], cuts := [] }

set_option maxRecDepth 1000000 in
set_option maxHeartbeats 4000000 in
theorem c_impl_LevelFor : COk Try.prog 29 K_impl_LevelFor := by
  refine cok_fun (E := E_impl_LevelFor) Try.func29 rfl rfl (by rfl) mix_ok tab_ok (eq_ok rfl) (con_cons c_impl_ValidCubic (con_cons c_impl_isTolerance (con_cons c_impl_bendOf (con_cons c_impl_levelFor con0_ok)))) rfl rfl (by decide) ?_
  rintro ⟨(c : Cubic), (t : Int), u0⟩ h0
  repeat' ((conv => whnf); first | exact True.intro | (refine (?_ : statOk _ = true); kernel_rfl) | (refine (?_ : dynOk _ _ = true); kernel_rfl) | refine And.intro ?_ ?_ | intro _)
  all_goals (try (conv => whnf))
  all_goals (try simp only [pOk, wrap_w, pre_iff, cast_L, cast_X, cut_lo, cut_hi, cut_both, cut_none, toNat_0, toNat_1, toNat_2, Int.toNat_natCast, List.length_cons, List.length_nil, Nat.zero_add, eq_Pt, eq_Frac, eq_Term, eq_Linear, eq_Row, eq_System, eq_Cubic, eq_Quad, eq_Knot, eq_LoopT, eq_Outline, eq_Segm, eq_Token, eq_Stmt, eq_Curve, decide_eq_true_eq, decide_eq_false_iff_not, ge_iff_le, gt_iff_lt, eta_Pt, eta_Frac, eta_Term, eta_Linear, eta_Row, eta_System, eta_Cubic, eta_Quad, eta_Knot, eta_LoopT, eta_Outline, eta_Segm, eta_Token, eta_Stmt, eta_Curve, Int.ofNat_lt, Int.ofNat_le, Bool.not_eq_true', Bool.not_eq_false'] at *)
  all_goals first | omega | (simp_all [lvF]; done) | (simp_all [lvF]; omega) | grind [lvF]


end GV

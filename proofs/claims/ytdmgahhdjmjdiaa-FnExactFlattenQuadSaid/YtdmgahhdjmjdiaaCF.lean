/-
  Contracts: flattening, halves. No condition beyond those named.
-/
import Derived.Test.YtdmgahhdjmjdiaaCE
namespace GV
open Go Go.Proofs
set_option linter.unusedSimpArgs false
set_option linter.unusedVariables false

/-- f 0, f 1, .. -/
def tabF {α : Type} (f : Int → α) (n : Nat) : List α := (List.range n).map fun (i : Nat) => f i
theorem tabF_succ {α : Type} (f : Int → α) (n : Nat) : tabF f (n + 1) = tabF f n ++ [f n] := by simp [tabF, List.range_succ]
theorem tabF_len {α : Type} (f : Int → α) (n : Nat) : (tabF f n).length = n := by simp [tabF]
theorem tabF_zero {α : Type} (f : Int → α) : tabF f 0 = [] := rfl

def cPts (c : Cubic) (l : Int) : List Pt := tabF (fun k => cubAt c k (pw l : Int)) (pw l + 1)
def qPts (c : Quad) (l : Int) : List Pt := tabF (fun k => quadAt c k (pw l : Int)) (pw l + 1)
def flC (c : Cubic) (t : Int) : List Pt := if (lvF c t).2 = 0 then cPts c (lvF c t).1 else []
theorem flC_len (c : Cubic) (t : Int) : (flC c t).length ≤ 65 := by
  unfold flC
  split
  · rw [cPts, tabF_len]; have := pow_range (lvF_range c t); omega
  · simp


def K_impl_FlattenCubic : Con := conOf false [.a .cubic, .a .int] fun ⟨c, t, _⟩ =>
  (fun (c : Cubic) (t : Int) =>
  (none, [.seq .pt (flC c t)], .tup [(false, [.sl 0 0]), (false, [.int .i64 (lvF c t).2])])) c t

def E_impl_FlattenCubic : Env := { nt := 38, nm := 0, tab := tab, con := (conCons 29 K_impl_LevelFor (conCons 72 K_impl_cubicAt con0)), eqt := eqt, fz := [], cuts := [] }

set_option maxRecDepth 1000000 in
set_option maxHeartbeats 4000000 in
theorem c_impl_FlattenCubic : COk Try.prog 43 K_impl_FlattenCubic := by
  refine cok_fun (E := E_impl_FlattenCubic) Try.func43 rfl rfl (by rfl) mix_ok tab_ok (eq_ok rfl) (con_cons c_impl_LevelFor (con_cons c_impl_cubicAt con0_ok)) rfl rfl (by decide) ?_
  rintro ⟨(c : Cubic), (t : Int), u0⟩ h0
  have hl := lvF_range c t
  have hp := pow_range hl
  repeat' ((conv => whnf); first | exact True.intro | (refine (?_ : statOk _ = true); kernel_rfl) | (refine (?_ : dynOk _ _ = true); kernel_rfl) | refine And.intro ?_ ?_ | intro _)
  all_goals (try (conv => whnf))
  all_goals (try with_reducible rfl)
  rotate_right 1
  · rename_i hc
    refine aw_loopT (fun i : Nat => [(10, .c (.int .i64 i)), (9, .c (.sl 24 1)), (24, .c .und)]) (fun i => [(24, 1, .seq .pt (tabF (fun k => cubAt c k (pw (lvF c t).1 : Int)) i))]) (fun i => i ≤ pw (lvF c t).1 + 1) (fun i => pw (lvF c t).1 + 1 - i) 0 ?_ ?_ ?_
    · omega
    · repeat' ((conv => whnf); first | exact True.intro | (refine (?_ : statOk _ = true); kernel_rfl) | (refine (?_ : dynOk _ _ = true); kernel_rfl) | refine And.intro ?_ ?_ | intro _)
      all_goals (try (conv => whnf))
      all_goals (try with_reducible rfl)
      all_goals first | rfl | simp
    · intro i hi
      repeat' ((conv => whnf); first | exact True.intro | (refine (?_ : statOk _ = true); kernel_rfl) | (refine (?_ : dynOk _ _ = true); kernel_rfl) | refine And.intro ?_ ?_ | intro _)
      all_goals (try (conv => whnf))
      all_goals (try with_reducible rfl)
      all_goals (try (refine (⟨i + 1, ?_⟩ : Exists _)))
      repeat' ((conv => whnf); first | exact True.intro | (refine (?_ : statOk _ = true); kernel_rfl) | (refine (?_ : dynOk _ _ = true); kernel_rfl) | refine And.intro ?_ ?_ | intro _)
      all_goals (try (conv => whnf))
      all_goals (try with_reducible rfl)
      all_goals (try simp only [pOk, wrap_w, pre_iff, cast_L, cast_X, cut_lo, cut_hi, cut_both, cut_none, toNat_0, toNat_1, toNat_2, Int.toNat_natCast, List.length_cons, List.length_nil, Nat.zero_add, eq_Pt, eq_Frac, eq_Term, eq_Linear, eq_Row, eq_System, eq_Cubic, eq_Quad, eq_Knot, eq_LoopT, eq_Outline, eq_Segm, eq_Token, eq_Stmt, eq_Curve, decide_eq_true_eq, decide_eq_false_iff_not, ge_iff_le, gt_iff_lt, eta_Pt, eta_Frac, eta_Term, eta_Linear, eta_Row, eta_System, eta_Cubic, eta_Quad, eta_Knot, eta_LoopT, eta_Outline, eta_Segm, eta_Token, eta_Stmt, eta_Curve, Int.ofNat_lt, Int.ofNat_le, Bool.not_eq_true', Bool.not_eq_false'] at *)
      all_goals (try simp only [cmb_sec3] at *)
      all_goals (try simp only [(shl_one hl).1, (shl_one hl).2, tabF_len, Int.ofNat_le] at *)
      all_goals first | omega | (rw [w_succ]; omega) | (simp only [(pow_pos hl).1, (pow_pos hl).2]; done) | (rw [tabF_succ]) | (rw [show i = pw (lvF c t).1 + 1 by omega]; simp [flC, cPts, *]; done) | (simp [*]; done) | trace_state
  all_goals (try simp only [cmb_sec3] at *)
  all_goals (try simp only [wrap_w, pre_iff, decide_eq_true_eq, decide_eq_false_iff_not, Bool.not_eq_true', Bool.not_eq_false', eta_Pt, eta_Cubic, eta_Quad, (shl_one hl).1, (shl_one hl).2, u64_nonneg] at *)
  all_goals first | omega | (rw [w_id] <;> omega) | (simp [flC, cPts, *]; done) | (simp [*]; done) | trace_state


def K_spec_FlattenCubic : Con := conOf false [.a .cubic, .a .int] fun ⟨c, t, _⟩ =>
  (fun (c : Cubic) (t : Int) =>
  (none, [.seq .pt (flC c t)], .tup [(false, [.sl 0 0]), (false, [.int .i64 (lvF c t).2])])) c t

def E_spec_FlattenCubic : Env := { nt := 35, nm := 0, tab := tab, con := (conCons 57 K_spec_l09For (conCons 71 K_spec_l09At con0)), eqt := eqt, fz := [], cuts := [] }

set_option maxRecDepth 1000000 in
set_option maxHeartbeats 4000000 in
theorem c_spec_FlattenCubic : COk Try.prog 42 K_spec_FlattenCubic := by
  refine cok_fun (E := E_spec_FlattenCubic) Try.func42 rfl rfl (by rfl) mix_ok tab_ok (eq_ok rfl) (con_cons c_spec_l09For (con_cons c_spec_l09At con0_ok)) rfl rfl (by decide) ?_
  rintro ⟨(c : Cubic), (t : Int), u0⟩ h0
  have hl := lvF_range c t
  have hp := pow_range hl
  repeat' ((conv => whnf); first | exact True.intro | (refine (?_ : statOk _ = true); kernel_rfl) | (refine (?_ : dynOk _ _ = true); kernel_rfl) | refine And.intro ?_ ?_ | intro _)
  all_goals (try (conv => whnf))
  all_goals (try with_reducible rfl)
  rotate_right 1
  · rename_i hc
    refine aw_loopT (fun i : Nat => [(10, .c (.int .i64 i)), (8, .c (.sl 19 1)), (19, .c .und)]) (fun i => [(19, 1, .seq .pt (tabF (fun k => cubAt c k (pw (lvF c t).1 : Int)) i))]) (fun i => i ≤ pw (lvF c t).1 + 1) (fun i => pw (lvF c t).1 + 1 - i) 0 ?_ ?_ ?_
    · omega
    · repeat' ((conv => whnf); first | exact True.intro | (refine (?_ : statOk _ = true); kernel_rfl) | (refine (?_ : dynOk _ _ = true); kernel_rfl) | refine And.intro ?_ ?_ | intro _)
      all_goals (try (conv => whnf))
      all_goals (try with_reducible rfl)
      all_goals first | rfl | simp
    · intro i hi
      repeat' ((conv => whnf); first | exact True.intro | (refine (?_ : statOk _ = true); kernel_rfl) | (refine (?_ : dynOk _ _ = true); kernel_rfl) | refine And.intro ?_ ?_ | intro _)
      all_goals (try (conv => whnf))
      all_goals (try with_reducible rfl)
      all_goals (try (refine (⟨i + 1, ?_⟩ : Exists _)))
      repeat' ((conv => whnf); first | exact True.intro | (refine (?_ : statOk _ = true); kernel_rfl) | (refine (?_ : dynOk _ _ = true); kernel_rfl) | refine And.intro ?_ ?_ | intro _)
      all_goals (try (conv => whnf))
      all_goals (try with_reducible rfl)
      all_goals (try simp only [pOk, wrap_w, pre_iff, cast_L, cast_X, cut_lo, cut_hi, cut_both, cut_none, toNat_0, toNat_1, toNat_2, Int.toNat_natCast, List.length_cons, List.length_nil, Nat.zero_add, eq_Pt, eq_Frac, eq_Term, eq_Linear, eq_Row, eq_System, eq_Cubic, eq_Quad, eq_Knot, eq_LoopT, eq_Outline, eq_Segm, eq_Token, eq_Stmt, eq_Curve, decide_eq_true_eq, decide_eq_false_iff_not, ge_iff_le, gt_iff_lt, eta_Pt, eta_Frac, eta_Term, eta_Linear, eta_Row, eta_System, eta_Cubic, eta_Quad, eta_Knot, eta_LoopT, eta_Outline, eta_Segm, eta_Token, eta_Stmt, eta_Curve, Int.ofNat_lt, Int.ofNat_le, Bool.not_eq_true', Bool.not_eq_false'] at *)
      all_goals (try simp only [cmb_sec3] at *)
      all_goals (try simp only [(shl_one hl).1, (shl_one hl).2, tabF_len, Int.ofNat_le] at *)
      all_goals first | omega | (rw [w_succ]; omega) | (simp only [(pow_pos hl).1, (pow_pos hl).2]; done) | (rw [tabF_succ]) | (rw [show i = pw (lvF c t).1 + 1 by omega]; simp [flC, cPts, *]; done) | (simp [*]; done) | trace_state
  all_goals (try simp only [cmb_sec3] at *)
  all_goals (try simp only [wrap_w, pre_iff, decide_eq_true_eq, decide_eq_false_iff_not, Bool.not_eq_true', Bool.not_eq_false', eta_Pt, eta_Cubic, eta_Quad, (shl_one hl).1, (shl_one hl).2, u64_nonneg] at *)
  all_goals first | omega | (rw [w_id] <;> omega) | (simp [flC, cPts, *]; done) | (simp [*]; done) | trace_state


abbrev qb (q : Quad) : Int := sz (sec q.A q.B q.C)
def fq (q : Quad) (t : Int) : List Pt := if (lvl (qb q) t).2 = 0 then qPts q (lvl (qb q) t).1 else []
theorem fq_len (q : Quad) (t : Int) : (fq q t).length ≤ 65 := by
  unfold fq
  split
  · rw [qPts, tabF_len]; have := pow_range ⟨(lvl_range (qb q) t).1, (lvl_range (qb q) t).2.1⟩; omega
  · simp


def K_spec_l10Level : Con := conOf false [.p .quad, .a .int] fun ⟨q, t, _⟩ =>
  (fun (q : Quad) (t : Int) =>
  (none, [], .tup [(false, [.int .i64 (lvl (qb q) t).1]), (false, [.bool false (decide ((lvl (qb q) t).2 = 0))])])) q t

def E_spec_l10Level : Env := { nt := 35, nm := 0, tab := tab, con := (conCons 81 K_spec_l09Second (conCons 80 K_spec_l09Size con0)), eqt := eqt, fz := [], cuts := [] }

set_option maxRecDepth 1000000 in
set_option maxHeartbeats 4000000 in
theorem c_spec_l10Level : COk Try.prog 88 K_spec_l10Level := by
  refine cok_fun (E := E_spec_l10Level) Try.func88 rfl rfl (by rfl) mix_ok tab_ok (eq_ok rfl) (con_cons c_spec_l09Second (con_cons c_spec_l09Size con0_ok)) rfl rfl (by decide) ?_
  rintro ⟨(q : Quad), (t : Int), u0⟩ h0
  repeat' ((conv => whnf); first | exact True.intro | (refine (?_ : statOk _ = true); kernel_rfl) | (refine (?_ : dynOk _ _ = true); kernel_rfl) | refine And.intro ?_ ?_ | intro _)
  all_goals (try (conv => whnf))
  all_goals (try with_reducible rfl)
  refine aw_loopT (fun i : Nat => [(7, .c (.int .i64 i))]) (fun _ => []) (fun i => i ≤ 7 ∧ lvl (qb q) t = lvlGo (qb q) t (7 - i) i) (fun i => 7 - i) 0 ?_ ?_ ?_
  · exact ⟨by omega, rfl⟩
  · repeat' ((conv => whnf); first | exact True.intro | (refine (?_ : statOk _ = true); kernel_rfl) | (refine (?_ : dynOk _ _ = true); kernel_rfl) | refine And.intro ?_ ?_ | intro _)
    all_goals (try (conv => whnf))
    all_goals (try with_reducible rfl)
    all_goals simp
  · rintro i ⟨hi, hj⟩
    repeat' ((conv => whnf); first | exact True.intro | (refine (?_ : statOk _ = true); kernel_rfl) | (refine (?_ : dynOk _ _ = true); kernel_rfl) | refine And.intro ?_ ?_ | intro _)
    all_goals (try (conv => whnf))
    all_goals (try with_reducible rfl)
    all_goals (try (refine (⟨i + 1, ?_⟩ : Exists _)))
    repeat' ((conv => whnf); first | exact True.intro | (refine (?_ : statOk _ = true); kernel_rfl) | (refine (?_ : dynOk _ _ = true); kernel_rfl) | refine And.intro ?_ ?_ | intro _)
    all_goals (try (conv => whnf))
    all_goals (try with_reducible rfl)
    all_goals (try simp only [pOk, wrap_w, pre_iff, cast_L, cast_X, cut_lo, cut_hi, cut_both, cut_none, toNat_0, toNat_1, toNat_2, Int.toNat_natCast, List.length_cons, List.length_nil, Nat.zero_add, eq_Pt, eq_Frac, eq_Term, eq_Linear, eq_Row, eq_System, eq_Cubic, eq_Quad, eq_Knot, eq_LoopT, eq_Outline, eq_Segm, eq_Token, eq_Stmt, eq_Curve, decide_eq_true_eq, decide_eq_false_iff_not, ge_iff_le, gt_iff_lt, eta_Pt, eta_Frac, eta_Term, eta_Linear, eta_Row, eta_System, eta_Cubic, eta_Quad, eta_Knot, eta_LoopT, eta_Outline, eta_Segm, eta_Token, eta_Stmt, eta_Curve, Int.ofNat_lt, Int.ofNat_le, Bool.not_eq_true', Bool.not_eq_false'] at *)
    all_goals first | omega | (rw [w_succ]; omega) | (simp only [u64_nonneg]; done) | skip
    · rename_i h1 _ h2
      rw [(w_two (by omega)).1, (w_two (by omega)).2, shl_two _ (by omega)] at h2
      rw [hj, lvl_step _ t (by omega), if_pos h2]
    · rename_i h1 _ h2
      rw [(w_two (by omega)).1, (w_two (by omega)).2, shl_two _ (by omega)] at h2
      rw [hj, lvl_step _ t (by omega), if_pos h2]; rfl
    · rename_i h1 _ h2
      rw [(w_two (by omega)).1, (w_two (by omega)).2, shl_two _ (by omega)] at h2
      exact ⟨by omega, by rw [hj, lvl_step _ t (by omega), if_neg h2]⟩
    · rw [hj, show 7 - i = 0 by omega]; rfl
    · rw [hj, show 7 - i = 0 by omega]; rfl


def K_spec_l10Flat : Con := conOf false [.p .quad, .a .int] fun ⟨q, t, _⟩ =>
  (fun (q : Quad) (t : Int) =>
  (none, [.seq .pt (fq q t)], .tup [(false, [.sl 0 0]), (false, [.bool false (decide ((lvl (qb q) t).2 = 0))])])) q t

def E_spec_l10Flat : Env := { nt := 36, nm := 0, tab := tab, con := (conCons 88 K_spec_l10Level (conCons 68 K_spec_l10At con0)), eqt := eqt, fz := [], cuts := [] }

set_option maxRecDepth 1000000 in
set_option maxHeartbeats 4000000 in
theorem c_spec_l10Flat : COk Try.prog 74 K_spec_l10Flat := by
  refine cok_fun (E := E_spec_l10Flat) Try.func74 rfl rfl (by rfl) mix_ok tab_ok (eq_ok rfl) (con_cons c_spec_l10Level (con_cons c_spec_l10At con0_ok)) rfl rfl (by decide) ?_
  rintro ⟨(q : Quad), (t : Int), u0⟩ h0
  have hl := (show 0 ≤ (lvl (qb q) t).1 ∧ (lvl (qb q) t).1 ≤ 6 from ⟨(lvl_range _ _).1, (lvl_range _ _).2.1⟩)
  have hp := pow_range hl
  repeat' ((conv => whnf); first | exact True.intro | (refine (?_ : statOk _ = true); kernel_rfl) | (refine (?_ : dynOk _ _ = true); kernel_rfl) | refine And.intro ?_ ?_ | intro _)
  all_goals (try (conv => whnf))
  all_goals (try with_reducible rfl)
  rotate_right 1
  · rename_i hc
    refine aw_loopT (fun i : Nat => [(10, .c (.int .i64 i)), (8, .c (.sl 19 1)), (19, .c .und)]) (fun i => [(19, 1, .seq .pt (tabF (fun k => quadAt q k (pw (lvl (qb q) t).1 : Int)) i))]) (fun i => i ≤ pw (lvl (qb q) t).1 + 1) (fun i => pw (lvl (qb q) t).1 + 1 - i) 0 ?_ ?_ ?_
    · omega
    · repeat' ((conv => whnf); first | exact True.intro | (refine (?_ : statOk _ = true); kernel_rfl) | (refine (?_ : dynOk _ _ = true); kernel_rfl) | refine And.intro ?_ ?_ | intro _)
      all_goals (try (conv => whnf))
      all_goals (try with_reducible rfl)
      all_goals first | rfl | simp
    · intro i hi
      repeat' ((conv => whnf); first | exact True.intro | (refine (?_ : statOk _ = true); kernel_rfl) | (refine (?_ : dynOk _ _ = true); kernel_rfl) | refine And.intro ?_ ?_ | intro _)
      all_goals (try (conv => whnf))
      all_goals (try with_reducible rfl)
      all_goals (try (refine (⟨i + 1, ?_⟩ : Exists _)))
      repeat' ((conv => whnf); first | exact True.intro | (refine (?_ : statOk _ = true); kernel_rfl) | (refine (?_ : dynOk _ _ = true); kernel_rfl) | refine And.intro ?_ ?_ | intro _)
      all_goals (try (conv => whnf))
      all_goals (try with_reducible rfl)
      all_goals (try simp only [pOk, wrap_w, pre_iff, cast_L, cast_X, cut_lo, cut_hi, cut_both, cut_none, toNat_0, toNat_1, toNat_2, Int.toNat_natCast, List.length_cons, List.length_nil, Nat.zero_add, eq_Pt, eq_Frac, eq_Term, eq_Linear, eq_Row, eq_System, eq_Cubic, eq_Quad, eq_Knot, eq_LoopT, eq_Outline, eq_Segm, eq_Token, eq_Stmt, eq_Curve, decide_eq_true_eq, decide_eq_false_iff_not, ge_iff_le, gt_iff_lt, eta_Pt, eta_Frac, eta_Term, eta_Linear, eta_Row, eta_System, eta_Cubic, eta_Quad, eta_Knot, eta_LoopT, eta_Outline, eta_Segm, eta_Token, eta_Stmt, eta_Curve, Int.ofNat_lt, Int.ofNat_le, Bool.not_eq_true', Bool.not_eq_false'] at *)
      all_goals (try simp only [cmb_sec3] at *)
      all_goals (try simp only [(shl_one hl).1, (shl_one hl).2, tabF_len, Int.ofNat_le] at *)
      all_goals first | omega | (rw [w_succ]; omega) | (simp only [(pow_pos hl).1, (pow_pos hl).2]; done) | (rw [tabF_succ]) | (rw [show i = pw (lvl (qb q) t).1 + 1 by omega]; simp [fq, qPts, *]; done) | (simp [*]; done) | (simp_all; done) | trace_state
  all_goals (try simp only [cmb_sec3] at *)
  all_goals (try simp only [wrap_w, pre_iff, decide_eq_true_eq, decide_eq_false_iff_not, Bool.not_eq_true', Bool.not_eq_false', eta_Pt, eta_Cubic, eta_Quad, (shl_one hl).1, (shl_one hl).2, u64_nonneg] at *)
  all_goals first | omega | (rw [w_id] <;> omega) | (simp [fq, qPts, *]; done) | (simp [*]; done) | (simp_all; done) | trace_state



def K_impl_flattenQuad : Con := conOf false [.a .quad, .a .int] fun ⟨q, t, _⟩ =>
  (fun (q : Quad) (t : Int) =>
  (none, [.seq .pt (fq q t)], .tup [(false, [.sl 0 0]), (false, [.int .i64 (lvl (qb q) t).2])])) q t

def E_impl_flattenQuad : Env := { nt := 39, nm := 0, tab := tab, con := (conCons 86 K_impl_Quad_points (conCons 64 K_impl_combine (conCons 82 K_impl_sizeOf (conCons 59 K_impl_levelFor (conCons 70 K_impl_quadAt con0))))), eqt := eqt, fz := [], cuts := [] }

set_option maxRecDepth 1000000 in
set_option maxHeartbeats 4000000 in
theorem c_impl_flattenQuad : COk Try.prog 75 K_impl_flattenQuad := by
  refine cok_fun (E := E_impl_flattenQuad) Try.func75 rfl rfl (by rfl) mix_ok tab_ok (eq_ok rfl) (con_cons c_impl_Quad_points (con_cons c_impl_combine (con_cons c_impl_sizeOf (con_cons c_impl_levelFor (con_cons c_impl_quadAt con0_ok))))) rfl rfl (by decide) ?_
  rintro ⟨(q : Quad), (t : Int), u0⟩ h0
  have hl := (show 0 ≤ (lvl (qb q) t).1 ∧ (lvl (qb q) t).1 ≤ 6 from ⟨(lvl_range _ _).1, (lvl_range _ _).2.1⟩)
  have hp := pow_range hl
  repeat' ((conv => whnf); first | exact True.intro | (refine (?_ : statOk _ = true); kernel_rfl) | (refine (?_ : dynOk _ _ = true); kernel_rfl) | refine And.intro ?_ ?_ | intro _)
  all_goals (try (conv => whnf))
  all_goals (try with_reducible rfl)
  rotate_right 1
  · rename_i hc
    refine aw_loopT (fun i : Nat => [(10, .c (.int .i64 i)), (9, .c (.sl 37 1)), (37, .c .und)]) (fun i => [(37, 1, .seq .pt (tabF (fun k => quadAt q k (pw (lvl (qb q) t).1 : Int)) i))]) (fun i => i ≤ pw (lvl (qb q) t).1 + 1) (fun i => pw (lvl (qb q) t).1 + 1 - i) 0 ?_ ?_ ?_
    · omega
    · repeat' ((conv => whnf); first | exact True.intro | (refine (?_ : statOk _ = true); kernel_rfl) | (refine (?_ : dynOk _ _ = true); kernel_rfl) | refine And.intro ?_ ?_ | intro _)
      all_goals (try (conv => whnf))
      all_goals (try with_reducible rfl)
      all_goals first | rfl | simp
    · intro i hi
      repeat' ((conv => whnf); first | exact True.intro | (refine (?_ : statOk _ = true); kernel_rfl) | (refine (?_ : dynOk _ _ = true); kernel_rfl) | refine And.intro ?_ ?_ | intro _)
      all_goals (try (conv => whnf))
      all_goals (try with_reducible rfl)
      all_goals (try (refine (⟨i + 1, ?_⟩ : Exists _)))
      repeat' ((conv => whnf); first | exact True.intro | (refine (?_ : statOk _ = true); kernel_rfl) | (refine (?_ : dynOk _ _ = true); kernel_rfl) | refine And.intro ?_ ?_ | intro _)
      all_goals (try (conv => whnf))
      all_goals (try with_reducible rfl)
      all_goals (try simp only [pOk, wrap_w, pre_iff, cast_L, cast_X, cut_lo, cut_hi, cut_both, cut_none, toNat_0, toNat_1, toNat_2, Int.toNat_natCast, List.length_cons, List.length_nil, Nat.zero_add, eq_Pt, eq_Frac, eq_Term, eq_Linear, eq_Row, eq_System, eq_Cubic, eq_Quad, eq_Knot, eq_LoopT, eq_Outline, eq_Segm, eq_Token, eq_Stmt, eq_Curve, decide_eq_true_eq, decide_eq_false_iff_not, ge_iff_le, gt_iff_lt, eta_Pt, eta_Frac, eta_Term, eta_Linear, eta_Row, eta_System, eta_Cubic, eta_Quad, eta_Knot, eta_LoopT, eta_Outline, eta_Segm, eta_Token, eta_Stmt, eta_Curve, Int.ofNat_lt, Int.ofNat_le, Bool.not_eq_true', Bool.not_eq_false'] at *)
      all_goals (try simp only [cmb_sec3] at *)
      all_goals (try simp only [(shl_one hl).1, (shl_one hl).2, tabF_len, Int.ofNat_le] at *)
      all_goals first | omega | (rw [w_succ]; omega) | (simp only [(pow_pos hl).1, (pow_pos hl).2]; done) | (rw [tabF_succ]) | (rw [show i = pw (lvl (qb q) t).1 + 1 by omega]; simp [fq, qPts, *]; done) | (simp [*]; done) | (simp_all; done) | trace_state
  all_goals (try simp only [cmb_sec3] at *)
  all_goals (try simp only [wrap_w, pre_iff, decide_eq_true_eq, decide_eq_false_iff_not, Bool.not_eq_true', Bool.not_eq_false', eta_Pt, eta_Cubic, eta_Quad, (shl_one hl).1, (shl_one hl).2, u64_nonneg] at *)
  all_goals first | omega | (rw [w_id] <;> omega) | (simp [fq, qPts, *]; done) | (simp [*]; done) | (simp_all; done) | trace_state


def flQ (q : Quad) (t : Int) : List Pt := if vQuad q then (if tol t then fq q t else []) else []
def flQc (q : Quad) (t : Int) : Int := if vQuad q then (if tol t then (lvl (qb q) t).2 else 2) else 1
theorem flQ_len (q : Quad) (t : Int) : (flQ q t).length ≤ 65 := by
  unfold flQ
  split
  · split
    · exact fq_len q t
    · simp
  · simp


def K_impl_FlattenQuad : Con := conOf false [.a .quad, .a .int] fun ⟨q, t, _⟩ =>
  (fun (q : Quad) (t : Int) =>
  (none, [.seq .pt (flQ q t)], .tup [(false, [.sl 0 0]), (false, [.int .i64 (flQc q t)])])) q t

def E_impl_FlattenQuad : Env := { nt := 17, nm := 0, tab := tab, con := (conCons 69 K_impl_validQuad (conCons 58 K_impl_isTolerance (conCons 75 K_impl_flattenQuad con0))), eqt := eqt, fz := [], cuts := [] }

set_option maxRecDepth 1000000 in
set_option maxHeartbeats 4000000 in
theorem c_impl_FlattenQuad : COk Try.prog 38 K_impl_FlattenQuad := by
  refine cok_fun (E := E_impl_FlattenQuad) Try.func38 rfl rfl (by rfl) mix_ok tab_ok (eq_ok rfl) (con_cons c_impl_validQuad (con_cons c_impl_isTolerance (con_cons c_impl_flattenQuad con0_ok))) rfl rfl (by decide) ?_
  rintro ⟨(q : Quad), (t : Int), u0⟩ h0
  repeat' ((conv => whnf); first | exact True.intro | (refine (?_ : statOk _ = true); kernel_rfl) | (refine (?_ : dynOk _ _ = true); kernel_rfl) | refine And.intro ?_ ?_ | intro _)
  all_goals (try (conv => whnf))
  all_goals (try simp only [pOk, wrap_w, pre_iff, cast_L, cast_X, cut_lo, cut_hi, cut_both, cut_none, toNat_0, toNat_1, toNat_2, Int.toNat_natCast, List.length_cons, List.length_nil, Nat.zero_add, eq_Pt, eq_Frac, eq_Term, eq_Linear, eq_Row, eq_System, eq_Cubic, eq_Quad, eq_Knot, eq_LoopT, eq_Outline, eq_Segm, eq_Token, eq_Stmt, eq_Curve, decide_eq_true_eq, decide_eq_false_iff_not, ge_iff_le, gt_iff_lt, eta_Pt, eta_Frac, eta_Term, eta_Linear, eta_Row, eta_System, eta_Cubic, eta_Quad, eta_Knot, eta_LoopT, eta_Outline, eta_Segm, eta_Token, eta_Stmt, eta_Curve, Int.ofNat_lt, Int.ofNat_le, Bool.not_eq_true', Bool.not_eq_false'] at *)
  all_goals first | omega | (simp_all [flQ, flQc]; done) | (simp_all [flQ, flQc]; omega) | grind [flQ, flQc]



def K_spec_FlattenQuad : Con := conOf false [.a .quad, .a .int] fun ⟨q, t, _⟩ =>
  (fun (q : Quad) (t : Int) =>
  (none, [.seq .pt (flQ q t)], .tup [(false, [.sl 0 0]), (false, [.int .i64 (flQc q t)])])) q t

def E_spec_FlattenQuad : Env := { nt := 21, nm := 0, tab := tab, con := (conCons 65 K_spec_l10Quad (conCons 73 K_spec_l09Tolerance (conCons 74 K_spec_l10Flat con0))), eqt := eqt, fz := [], cuts := [] }

set_option maxRecDepth 1000000 in
set_option maxHeartbeats 4000000 in
theorem c_spec_FlattenQuad : COk Try.prog 37 K_spec_FlattenQuad := by
  refine cok_fun (E := E_spec_FlattenQuad) Try.func37 rfl rfl (by rfl) mix_ok tab_ok (eq_ok rfl) (con_cons c_spec_l10Quad (con_cons c_spec_l09Tolerance (con_cons c_spec_l10Flat con0_ok))) rfl rfl (by decide) ?_
  rintro ⟨(q : Quad), (t : Int), u0⟩ h0
  repeat' ((conv => whnf); first | exact True.intro | (refine (?_ : statOk _ = true); kernel_rfl) | (refine (?_ : dynOk _ _ = true); kernel_rfl) | refine And.intro ?_ ?_ | intro _)
  all_goals (try (conv => whnf))
  all_goals (try simp only [pOk, wrap_w, pre_iff, cast_L, cast_X, cut_lo, cut_hi, cut_both, cut_none, toNat_0, toNat_1, toNat_2, Int.toNat_natCast, List.length_cons, List.length_nil, Nat.zero_add, eq_Pt, eq_Frac, eq_Term, eq_Linear, eq_Row, eq_System, eq_Cubic, eq_Quad, eq_Knot, eq_LoopT, eq_Outline, eq_Segm, eq_Token, eq_Stmt, eq_Curve, decide_eq_true_eq, decide_eq_false_iff_not, ge_iff_le, gt_iff_lt, eta_Pt, eta_Frac, eta_Term, eta_Linear, eta_Row, eta_System, eta_Cubic, eta_Quad, eta_Knot, eta_LoopT, eta_Outline, eta_Segm, eta_Token, eta_Stmt, eta_Curve, Int.ofNat_lt, Int.ofNat_le, Bool.not_eq_true', Bool.not_eq_false'] at *)
  have hr := (lvl_range (qb q) t).2.2
  all_goals first | (simp_all [flQ, flQc, fq]; done) | (have hr := (lvl_range (qb q) t).2.2; rcases hr with hr | hr <;> simp_all [flQ, flQc, fq]) | trace_state


end GV

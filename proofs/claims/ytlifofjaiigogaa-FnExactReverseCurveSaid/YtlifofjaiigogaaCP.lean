/-
  Contracts: curves marked and moved. No condition beyond those named.
-/
import Derived.Test.YtlifofjaiigogaaCN
import Derived.Test.YtlifofjaiigogaaXB
namespace GV
open Go Go.Proofs
set_option linter.unusedSimpArgs false
set_option linter.unusedVariables false

def conMarkC : Con := ⟨[true, false], false, fun M xs => match M, xs with
  | [.seq .pt ys], [.agg [.sl 0 0, .bool false b0, .int .i64 n0, .bool false b1, .bool false b2, .int .i64 n1, .int .i64 n2, .int .i64 n3, .int .i64 n4], .c (.int .i64 k)] =>
      some (some (0 ≤ k ∧ k + 2 * ys.length ≤ 4611686018427387904), [.seq .pt (mkL 2 (fun k => (⟨k, k + 1⟩ : Pt)) ys.length k)], .c (.int .i64 (k + 2 * ys.length)))
  | _, _ => none⟩


def K_laws_markCurve : Con := conMarkC

def E_laws_markCurve : Env := { nt := 10, nm := 1, tab := tab, con := (conCons 82 K_laws_markPtS con0), eqt := eqt, fz := [], cuts := [] }

set_option maxRecDepth 1000000 in
set_option maxHeartbeats 4000000 in
theorem c_laws_markCurve : COk Try.prog 37 K_laws_markCurve := by
  refine cok_of (E := E_laws_markCurve) Try.func37 rfl rfl (by rfl) mix_ok tab_ok (eq_ok rfl) (con_cons c_laws_markPtS con0_ok) rfl ?_
  intro M xs p Ms r hrun hok
  simp only [K_laws_markCurve, conMarkC] at hrun
  split at hrun
  · rename_i ys b0 n0 b1 b2 n1 n2 n3 n4 k
    simp only [Option.some.injEq, Prod.mk.injEq] at hrun
    obtain ⟨rfl, rfl, rfl⟩ := hrun
    have hk : 0 ≤ k ∧ k + 2 * (ys.length : Int) ≤ 4611686018427387904 := hok
    refine ⟨rfl, of_decide_eq_true rfl, ?_⟩
    revert ys
    intro (ys : List Pt) hok hk
    repeat' ((conv => whnf); first | exact True.intro | (refine (?_ : statOk _ = true); kernel_rfl) | (refine (?_ : dynOk _ _ = true); kernel_rfl) | refine And.intro ?_ ?_ | intro _)
    all_goals (try (conv => whnf))
    all_goals (try with_reducible rfl)
    · exact ⟨hk⟩
    · exact mkL_len _ _ _ _
  · cases hrun



def K_laws_heldCurve : Con := conOf false [.a .curve, .a .int] fun ⟨c, k, _⟩ =>
  (fun (c : Curve) (k : Int) =>
  (some (0 ≤ k ∧ k + 2 * c.Knots.length ≤ 4611686018427387904), [], .c (.int .i64 (if c.Knots = mkL 2 (fun k => (⟨k, k + 1⟩ : Pt)) c.Knots.length k then k + 2 * c.Knots.length else -1)))) c k

def E_laws_heldCurve : Env := { nt := 12, nm := 0, tab := tab, con := (conCons 83 K_laws_heldPtS con0), eqt := eqt, fz := [], cuts := [] }

set_option maxRecDepth 1000000 in
set_option maxHeartbeats 4000000 in
theorem c_laws_heldCurve : COk Try.prog 38 K_laws_heldCurve := by
  refine cok_fun (E := E_laws_heldCurve) Try.func38 rfl rfl (by rfl) mix_ok tab_ok (eq_ok rfl) (con_cons c_laws_heldPtS con0_ok) rfl rfl (by decide) ?_
  rintro ⟨(c : Curve), (k : Int), u0⟩ h0
  repeat' ((conv => whnf); first | exact True.intro | (refine (?_ : statOk _ = true); kernel_rfl) | (refine (?_ : dynOk _ _ = true); kernel_rfl) | refine And.intro ?_ ?_ | intro _)
  all_goals (try (conv => whnf))
  all_goals (try simp only [pOk, wrap_w, pre_iff, cast_L, cast_X, cut_lo, cut_hi, cut_both, cut_none, toNat_0, toNat_1, toNat_2, Int.toNat_natCast, List.length_cons, List.length_nil, Nat.zero_add, eq_Pt, eq_Frac, eq_Term, eq_Linear, eq_Row, eq_System, eq_Cubic, eq_Quad, eq_Knot, eq_LoopT, eq_Outline, eq_Segm, eq_Token, eq_Stmt, eq_Curve, decide_eq_true_eq, decide_eq_false_iff_not, ge_iff_le, gt_iff_lt, eta_Pt, eta_Frac, eta_Term, eta_Linear, eta_Row, eta_System, eta_Cubic, eta_Quad, eta_Knot, eta_LoopT, eta_Outline, eta_Segm, eta_Token, eta_Stmt, eta_Curve, Int.ofNat_lt, Int.ofNat_le, Bool.not_eq_true', Bool.not_eq_false'] at *)
  all_goals first
    | omega
    | (split at *; first | omega | simp_all)
    | trace_state


def movP (b p : Pt) : Pt := ⟨w (p.X + b.X), w (p.Y + b.Y)⟩
def movOk (c : Curve) (b : Pt) : Bool := c.Knots.all fun p => vPt (movP b p)
def movC (c : Curve) (b : Pt) : Int := if vCrv c = false ∨ vPt b = false then 1 else if movOk c b = true then 0 else 2
def mvd (c : Curve) (b : Pt) : Curve := if movC c b = 0 then ⟨c.Knots.map (movP b), c.Closed, c.Tension, c.FixFirst, c.FixLast, c.First, c.Last⟩ else ⟨[], false, 0, false, false, ⟨0, 0⟩, ⟨0, 0⟩⟩

theorem mov_no {c : Curve} {b : Pt} (h : vCrv c = false ∨ vPt b = false) : movC c b = 1 := by unfold movC; rw [if_pos h]
theorem mov_out {c : Curve} {b : Pt} (h : vCrv c = true) (h' : vPt b = true) (h2 : movOk c b = false) : movC c b = 2 := by unfold movC; rw [if_neg (by simp [h, h']), if_neg (by simp [h2])]
theorem mov_in {c : Curve} {b : Pt} (h : vCrv c = true) (h' : vPt b = true) (h2 : movOk c b = true) : movC c b = 0 := by unfold movC; rw [if_neg (by simp [h, h']), if_pos h2]

theorem mv_no {c : Curve} {b : Pt} (h : movC c b = 1) : mvd c b = ⟨[], false, 0, false, false, ⟨0, 0⟩, ⟨0, 0⟩⟩ := by unfold mvd; rw [if_neg (by rw [h]; decide)]
theorem mv_out {c : Curve} {b : Pt} (h : movC c b = 2) : mvd c b = ⟨[], false, 0, false, false, ⟨0, 0⟩, ⟨0, 0⟩⟩ := by unfold mvd; rw [if_neg (by rw [h]; decide)]
theorem mv_in {c : Curve} {b : Pt} (h : movC c b = 0) : mvd c b = ⟨c.Knots.map (movP b), c.Closed, c.Tension, c.FixFirst, c.FixLast, c.First, c.Last⟩ := by unfold mvd; rw [if_pos h]
theorem tk_map {xs : List Pt} {f : Pt → Pt} {i : Nat} (h : i < xs.length) : (xs.take (i + 1)).map f = (xs.take i).map f ++ [f (el xs (i : Int))] := by
  rw [take_succ_el h, List.map_append]; rfl
theorem tk_all {xs : List Pt} {f : Pt → Pt} {i : Nat} (h : i ≤ xs.length) (h' : ¬ i < xs.length) : (xs.take i).map f = xs.map f := by
  rw [List.take_of_length_le (by omega)]

def movB (c : Curve) (j : Nat) : Tmps := match j with
  | 0 => []
  | i + 1 => [(23, .c (.int .i64 ((i + 1 : Nat) : Int)))]
def movO (c : Curve) (b : Pt) (j : Nat) : Ups := match j with
  | 0 => []
  | i + 1 => [(6, 1, .box 32 [.sl 46 1, .bool false c.Closed, .int .i64 c.Tension, .bool false c.FixFirst, .bool false c.FixLast, .int .i64 c.First.X, .int .i64 c.First.Y, .int .i64 c.Last.X, .int .i64 c.Last.Y]), (46, 1, .seq .pt ((c.Knots.take (i + 1)).map (movP b)))]


def K_impl_MoveCurve : Con := conOf false [.a .curve, .a .pt] fun ⟨c, b, _⟩ =>
  (fun (c : Curve) (b : Pt) =>
  (none, [.seq .pt (mvd c b).Knots], .tup [(true, crv (mvd c b)), (false, [.int .i64 (movC c b)])])) c b

def E_impl_MoveCurve : Env := { nt := 50, nm := 0, tab := tab, con := (conCons 26 K_impl_ValidCurve (conCons 66 K_impl_ValidPt con0)), eqt := eqt, fz := [], cuts := [] }

set_option maxRecDepth 1000000 in
set_option maxHeartbeats 4000000 in
theorem c_impl_MoveCurve : COk Try.prog 36 K_impl_MoveCurve := by
  refine cok_fun (E := E_impl_MoveCurve) Try.func36 rfl rfl (by rfl) mix_ok tab_ok (eq_ok rfl) (con_cons c_impl_ValidCurve (con_cons c_impl_ValidPt con0_ok)) rfl rfl (by decide) ?_
  rintro ⟨(c : Curve), (b : Pt), u0⟩ h0
  repeat' ((conv => whnf); first | exact True.intro | (refine (?_ : statOk _ = true); kernel_rfl) | (refine (?_ : dynOk _ _ = true); kernel_rfl) | refine And.intro ?_ ?_ | intro _)
  all_goals (try (conv => whnf))
  all_goals (try with_reducible rfl)
  all_goals (try dsimp only at *)
  all_goals first
    | (show AW _ _ _ _)
    | ((try simp only [pOk, wrap_w, pre_iff, cast_L, cast_X, cut_lo, cut_hi, cut_both, cut_none, toNat_0, toNat_1, toNat_2, Int.toNat_natCast, List.length_cons, List.length_nil, Nat.zero_add, eq_Pt, eq_Frac, eq_Term, eq_Linear, eq_Row, eq_System, eq_Cubic, eq_Quad, eq_Knot, eq_LoopT, eq_Outline, eq_Segm, eq_Token, eq_Stmt, eq_Curve, decide_eq_true_eq, decide_eq_false_iff_not, ge_iff_le, gt_iff_lt, eta_Pt, eta_Frac, eta_Term, eta_Linear, eta_Row, eta_System, eta_Cubic, eta_Quad, eta_Knot, eta_LoopT, eta_Outline, eta_Segm, eta_Token, eta_Stmt, eta_Curve, Int.ofNat_lt, Int.ofNat_le, Bool.not_eq_true', Bool.not_eq_false'] at *)
       first
         | (have hc := mov_no (c := c) (b := b) (.inl (by assumption))
            simp only [mv_no hc, hc]; done)
         | (have hc := mov_no (c := c) (b := b) (.inr (by assumption))
            simp only [mv_no hc, hc]; done)
         | trace_state)
  all_goals
    have hv : vCrv c = true := by simp_all
    have hb : vPt b = true := by simp_all
    have hn := vCrv_n hv
    refine aw_loopT (movB c) (movO c b) (fun i => i ≤ c.Knots.length ∧ (c.Knots.take i).all (fun p => vPt (movP b p)) = true) (fun i => c.Knots.length - i) 0 ?_ ?_ ?_
    · exact ⟨Nat.zero_le _, rfl⟩
    · repeat' ((conv => whnf); first | exact True.intro | (refine (?_ : statOk _ = true); kernel_rfl) | (refine (?_ : dynOk _ _ = true); kernel_rfl) | refine And.intro ?_ ?_ | intro _)
      all_goals (try (conv => whnf))
      all_goals (try with_reducible rfl)
      all_goals trace_state
    · rintro (_ | i) ⟨hi, hj⟩
      · repeat' ((conv => whnf); first | exact True.intro | (refine (?_ : statOk _ = true); kernel_rfl) | (refine (?_ : dynOk _ _ = true); kernel_rfl) | refine And.intro ?_ ?_ | intro _)
        all_goals (try (conv => whnf))
        all_goals (try with_reducible rfl)
        all_goals (try (refine (⟨0 + 1, ?_⟩ : Exists _)))
        repeat' ((conv => whnf); first | exact True.intro | (refine (?_ : statOk _ = true); kernel_rfl) | (refine (?_ : dynOk _ _ = true); kernel_rfl) | refine And.intro ?_ ?_ | intro _)
        all_goals (try (conv => whnf))
        all_goals (try with_reducible rfl)
        all_goals (try dsimp only at *)
        all_goals (try simp only [pOk, wrap_w, pre_iff, cast_L, cast_X, cut_lo, cut_hi, cut_both, cut_none, toNat_0, toNat_1, toNat_2, Int.toNat_natCast, List.length_cons, List.length_nil, Nat.zero_add, eq_Pt, eq_Frac, eq_Term, eq_Linear, eq_Row, eq_System, eq_Cubic, eq_Quad, eq_Knot, eq_LoopT, eq_Outline, eq_Segm, eq_Token, eq_Stmt, eq_Curve, decide_eq_true_eq, decide_eq_false_iff_not, ge_iff_le, gt_iff_lt, eta_Pt, eta_Frac, eta_Term, eta_Linear, eta_Row, eta_System, eta_Cubic, eta_Quad, eta_Knot, eta_LoopT, eta_Outline, eta_Segm, eta_Token, eta_Stmt, eta_Curve, Int.ofNat_lt, Int.ofNat_le, Bool.not_eq_true', Bool.not_eq_false'] at *)
        all_goals first
          | omega
          | (rw [w_id] <;> omega)
          | (rw [List.length_map, List.length_take]; omega)
          | (have hm : movOk c b = false := (all_f (xs := c.Knots) (p := fun p => vPt (movP b p)) (i := 0) (by omega) (by assumption)).symm
             have hc := mov_out hv hb hm
             simp only [mv_out hc, hc]; done)
          | (refine ⟨by omega, all_t (p := fun p => vPt (movP b p)) (i := 0) (by omega) ?_ hj⟩; assumption)
          | (rw [tk_map (i := 0) (by omega)]; rfl)
          | (have hm : movOk c b = true := (all_e (xs := c.Knots) (p := fun p => vPt (movP b p)) (i := 0) (by omega) hj).symm
             have hc := mov_in hv hb hm
             simp only [mv_in hc, hc]
             first | done | exact tk_all (by omega) (by omega))
          | trace_state
      · repeat' ((conv => whnf); first | exact True.intro | (refine (?_ : statOk _ = true); kernel_rfl) | (refine (?_ : dynOk _ _ = true); kernel_rfl) | refine And.intro ?_ ?_ | intro _)
        all_goals (try (conv => whnf))
        all_goals (try with_reducible rfl)
        all_goals (try (refine (⟨i + 1 + 1, ?_⟩ : Exists _)))
        repeat' ((conv => whnf); first | exact True.intro | (refine (?_ : statOk _ = true); kernel_rfl) | (refine (?_ : dynOk _ _ = true); kernel_rfl) | refine And.intro ?_ ?_ | intro _)
        all_goals (try (conv => whnf))
        all_goals (try with_reducible rfl)
        all_goals (try dsimp only at *)
        all_goals (try simp only [pOk, wrap_w, pre_iff, cast_L, cast_X, cut_lo, cut_hi, cut_both, cut_none, toNat_0, toNat_1, toNat_2, Int.toNat_natCast, List.length_cons, List.length_nil, Nat.zero_add, eq_Pt, eq_Frac, eq_Term, eq_Linear, eq_Row, eq_System, eq_Cubic, eq_Quad, eq_Knot, eq_LoopT, eq_Outline, eq_Segm, eq_Token, eq_Stmt, eq_Curve, decide_eq_true_eq, decide_eq_false_iff_not, ge_iff_le, gt_iff_lt, eta_Pt, eta_Frac, eta_Term, eta_Linear, eta_Row, eta_System, eta_Cubic, eta_Quad, eta_Knot, eta_LoopT, eta_Outline, eta_Segm, eta_Token, eta_Stmt, eta_Curve, Int.ofNat_lt, Int.ofNat_le, Bool.not_eq_true', Bool.not_eq_false'] at *)
        all_goals first
          | omega
          | (rw [w_id] <;> omega)
          | (rw [List.length_map, List.length_take]; omega)
          | (have hm : movOk c b = false := (all_f (xs := c.Knots) (p := fun p => vPt (movP b p)) (i := i + 1) (by omega) (by assumption)).symm
             have hc := mov_out hv hb hm
             simp only [mv_out hc, hc]; done)
          | (refine ⟨by omega, all_t (p := fun p => vPt (movP b p)) (i := i + 1) (by omega) ?_ hj⟩; assumption)
          | (rw [tk_map (i := i + 1) (by omega)]; rfl)
          | (have hm : movOk c b = true := (all_e (xs := c.Knots) (p := fun p => vPt (movP b p)) (i := i + 1) (by omega) hj).symm
             have hc := mov_in hv hb hm
             simp only [mv_in hc, hc]
             first | done | exact tk_all (by omega) (by omega))
          | trace_state


def K_spec_l06Own : Con := conOf false [.p .curve] fun ⟨c, _⟩ =>
  (fun (c : Curve) =>
  (some (c.Knots.length ≤ 1048576), [.seq .pt c.Knots], .agg (crv c))) c

def E_spec_l06Own : Env := { nt := 15, nm := 0, tab := tab, con := con0, eqt := eqt, fz := [], cuts := [] }

set_option maxRecDepth 1000000 in
set_option maxHeartbeats 4000000 in
theorem c_spec_l06Own : COk Try.prog 81 K_spec_l06Own := by
  refine cok_fun (E := E_spec_l06Own) Try.func81 rfl rfl (by rfl) mix_ok tab_ok (eq_ok rfl) con0_ok rfl rfl (by decide) ?_
  rintro ⟨(c : Curve), u0⟩ h0
  repeat' ((conv => whnf); first | exact True.intro | (refine (?_ : statOk _ = true); kernel_rfl) | (refine (?_ : dynOk _ _ = true); kernel_rfl) | refine And.intro ?_ ?_ | intro _)
  all_goals (try (conv => whnf))
  all_goals (try simp only [pOk, wrap_w, pre_iff, cast_L, cast_X, cut_lo, cut_hi, cut_both, cut_none, toNat_0, toNat_1, toNat_2, Int.toNat_natCast, List.length_cons, List.length_nil, Nat.zero_add, eq_Pt, eq_Frac, eq_Term, eq_Linear, eq_Row, eq_System, eq_Cubic, eq_Quad, eq_Knot, eq_LoopT, eq_Outline, eq_Segm, eq_Token, eq_Stmt, eq_Curve, decide_eq_true_eq, decide_eq_false_iff_not, ge_iff_le, gt_iff_lt, eta_Pt, eta_Frac, eta_Term, eta_Linear, eta_Row, eta_System, eta_Cubic, eta_Quad, eta_Knot, eta_LoopT, eta_Outline, eta_Segm, eta_Token, eta_Stmt, eta_Curve, Int.ofNat_lt, Int.ofNat_le, Bool.not_eq_true', Bool.not_eq_false'] at *)
  all_goals first | omega | (simp_all; done) | (simp_all; omega) | grind



def K_spec_MoveCurve : Con := conOf false [.a .curve, .a .pt] fun ⟨c, b, _⟩ =>
  (fun (c : Curve) (b : Pt) =>
  (none, [.seq .pt (mvd c b).Knots], .tup [(true, crv (mvd c b)), (false, [.int .i64 (movC c b)])])) c b

def E_spec_MoveCurve : Env := { nt := 56, nm := 0, tab := tab, con := (conCons 68 K_spec_l06Ok (conCons 80 K_spec_ValidPt (conCons 81 K_spec_l06Own con0))), eqt := eqt, fz := [], cuts := [] }

set_option maxRecDepth 1000000 in
set_option maxHeartbeats 4000000 in
theorem c_spec_MoveCurve : COk Try.prog 34 K_spec_MoveCurve := by
  refine cok_fun (E := E_spec_MoveCurve) Try.func34 rfl rfl (by rfl) mix_ok tab_ok (eq_ok rfl) (con_cons c_spec_l06Ok (con_cons c_spec_ValidPt (con_cons c_spec_l06Own con0_ok))) rfl rfl (by decide) ?_
  rintro ⟨(c : Curve), (b : Pt), u0⟩ h0
  repeat' ((conv => whnf); first | exact True.intro | (refine (?_ : statOk _ = true); kernel_rfl) | (refine (?_ : dynOk _ _ = true); kernel_rfl) | refine And.intro ?_ ?_ | intro _)
  all_goals (try (conv => whnf))
  all_goals (try with_reducible rfl)
  all_goals (try dsimp only at *)
  all_goals first
    | (show AW _ _ _ _)
    | ((try simp only [pOk, wrap_w, pre_iff, cast_L, cast_X, cut_lo, cut_hi, cut_both, cut_none, toNat_0, toNat_1, toNat_2, Int.toNat_natCast, List.length_cons, List.length_nil, Nat.zero_add, eq_Pt, eq_Frac, eq_Term, eq_Linear, eq_Row, eq_System, eq_Cubic, eq_Quad, eq_Knot, eq_LoopT, eq_Outline, eq_Segm, eq_Token, eq_Stmt, eq_Curve, decide_eq_true_eq, decide_eq_false_iff_not, ge_iff_le, gt_iff_lt, eta_Pt, eta_Frac, eta_Term, eta_Linear, eta_Row, eta_System, eta_Cubic, eta_Quad, eta_Knot, eta_LoopT, eta_Outline, eta_Segm, eta_Token, eta_Stmt, eta_Curve, Int.ofNat_lt, Int.ofNat_le, Bool.not_eq_true', Bool.not_eq_false'] at *)
       first
         | (have hc := mov_no (c := c) (b := b) (.inl (by assumption))
            simp only [mv_no hc, hc]; done)
         | (have hc := mov_no (c := c) (b := b) (.inr (by assumption))
            simp only [mv_no hc, hc]; done)
         | (have := vCrv_n (c := c) (by simp_all); omega)
         | trace_state)
  all_goals
    have hv : vCrv c = true := by simp_all
    have hb : vPt b = true := by simp_all
    have hn := vCrv_n hv
    refine aw_loopT (fun i : Nat => [(7, .c (.int .i64 i))]) (fun i => [(16, 1, .seq .pt ((c.Knots.take i).map (movP b) ++ c.Knots.drop i))]) (fun i => i ≤ c.Knots.length ∧ (c.Knots.take i).all (fun p => vPt (movP b p)) = true) (fun i => c.Knots.length - i) 0 ?_ ?_ ?_
    · exact ⟨Nat.zero_le _, rfl⟩
    · repeat' ((conv => whnf); first | exact True.intro | (refine (?_ : statOk _ = true); kernel_rfl) | (refine (?_ : dynOk _ _ = true); kernel_rfl) | refine And.intro ?_ ?_ | intro _)
      all_goals (try (conv => whnf))
      all_goals (try with_reducible rfl)
      all_goals first | rfl | trace_state
    · rintro i ⟨hi, hj⟩
      have hp : ((c.Knots.take i).map (movP b)).length = i := by rw [List.length_map, List.length_take]; omega
      have hX : ((c.Knots.take i).map (movP b) ++ c.Knots.drop i).length = c.Knots.length := mid_len hi hp
      repeat' ((conv => whnf); first | exact True.intro | (refine (?_ : statOk _ = true); kernel_rfl) | (refine (?_ : dynOk _ _ = true); kernel_rfl) | refine And.intro ?_ ?_ | intro _)
      all_goals (try (conv => whnf))
      all_goals (try with_reducible rfl)
      all_goals (try (refine (⟨i + 1, ?_⟩ : Exists _)))
      repeat' ((conv => whnf); first | exact True.intro | (refine (?_ : statOk _ = true); kernel_rfl) | (refine (?_ : dynOk _ _ = true); kernel_rfl) | refine And.intro ?_ ?_ | intro _)
      all_goals (try (conv => whnf))
      all_goals (try with_reducible rfl)
      all_goals (try dsimp only at *)
      all_goals (try simp only [pOk, wrap_w, pre_iff, cast_L, cast_X, cut_lo, cut_hi, cut_both, cut_none, toNat_0, toNat_1, toNat_2, Int.toNat_natCast, List.length_cons, List.length_nil, Nat.zero_add, eq_Pt, eq_Frac, eq_Term, eq_Linear, eq_Row, eq_System, eq_Cubic, eq_Quad, eq_Knot, eq_LoopT, eq_Outline, eq_Segm, eq_Token, eq_Stmt, eq_Curve, decide_eq_true_eq, decide_eq_false_iff_not, ge_iff_le, gt_iff_lt, eta_Pt, eta_Frac, eta_Term, eta_Linear, eta_Row, eta_System, eta_Cubic, eta_Quad, eta_Knot, eta_LoopT, eta_Outline, eta_Segm, eta_Token, eta_Stmt, eta_Curve, Int.ofNat_lt, Int.ofNat_le, Bool.not_eq_true', Bool.not_eq_false'] at *)
      all_goals (try simp only [hX, List.length_set, Int.toNat_natCast, Int.ofNat_lt] at *)
      all_goals try (have hlt : i < c.Knots.length := by omega
                     have hs : ∀ y, el (((c.Knots.take i).map (movP b) ++ c.Knots.drop i).set i y) (i : Int) = y := fun y => el_set (by rw [mid_len hi hp]; exact hlt)
                     simp only [hs] at *)
      all_goals first
        | omega
        | (rw [w_id] <;> omega)
        | (have hm : movOk c b = false := (all_f (xs := c.Knots) (p := fun p => vPt (movP b p)) (i := i) (by omega) (by assumption)).symm
           have hc := mov_out hv hb hm
           simp only [mv_out hc, hc]; done)
        | (refine ⟨by omega, all_t (p := fun p => vPt (movP b p)) (i := i) (by omega) ?_ hj⟩; assumption)
        | (rw [set_mid (by omega) hp, tk_map (i := i) (by omega)]; rfl)
        | (have hm : movOk c b = true := (all_e (xs := c.Knots) (p := fun p => vPt (movP b p)) (i := i) (by omega) hj).symm
           have hc := mov_in hv hb hm
           simp only [mv_in hc, hc]
           first | done | (rw [List.drop_eq_nil_of_le (by omega), List.append_nil]; exact tk_all (by omega) (by omega)))
        | trace_state

end GV

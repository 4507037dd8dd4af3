/-
  Contracts: the rows of a curve's equations. No condition beyond those named.
-/
import Derived.Test.YtlifofjaiigogaaCN
import Derived.Test.YtlifofjaiigogaaXB
namespace GV
open Go Go.Proofs
set_option linter.unusedSimpArgs false
set_option linter.unusedVariables false


def K_laws_eqInt64S : Con := conOf false [.s .int, .s .int] fun ⟨xs, ys, _⟩ =>
  (fun (xs : List Int) (ys : List Int) =>
  (none, [], .c (.bool false (decide (xs = ys))))) xs ys

def E_laws_eqInt64S : Env := { nt := 26, nm := 0, tab := tab, con := con0, eqt := eqt, fz := [], cuts := [] }

set_option maxRecDepth 1000000 in
set_option maxHeartbeats 4000000 in
theorem c_laws_eqInt64S : COk Try.prog 46 K_laws_eqInt64S := by
  refine cok_fun (E := E_laws_eqInt64S) Try.func46 rfl rfl (by rfl) mix_ok tab_ok (eq_ok rfl) con0_ok rfl rfl (by decide) ?_
  rintro ⟨(xs : List Int), (ys : List Int), u0⟩ h0
  repeat' ((conv => whnf); first | exact True.intro | (refine (?_ : statOk _ = true); kernel_rfl) | (refine (?_ : dynOk _ _ = true); kernel_rfl) | refine And.intro ?_ ?_ | intro _)
  all_goals (try (conv => whnf))
  all_goals (try with_reducible rfl)
  · all_goals (try simp only [pOk, wrap_w, pre_iff, cast_L, cast_X, cut_lo, cut_hi, cut_both, cut_none, toNat_0, toNat_1, toNat_2, Int.toNat_natCast, List.length_cons, List.length_nil, Nat.zero_add, eq_Pt, eq_Frac, eq_Term, eq_Linear, eq_Row, eq_System, eq_Cubic, eq_Quad, eq_Knot, eq_LoopT, eq_Outline, eq_Segm, eq_Token, eq_Stmt, eq_Curve, decide_eq_true_eq, decide_eq_false_iff_not, ge_iff_le, gt_iff_lt, eta_Pt, eta_Frac, eta_Term, eta_Linear, eta_Row, eta_System, eta_Cubic, eta_Quad, eta_Knot, eta_LoopT, eta_Outline, eta_Segm, eta_Token, eta_Stmt, eta_Curve, Int.ofNat_lt, Int.ofNat_le, Bool.not_eq_true', Bool.not_eq_false'] at *)
    rename_i h
    exact (decide_eq_false fun e => h (by rw [e])).symm
  · rename_i hl0 hl1 hl2
    refine aw_loopT (fun i : Nat => [(5, .c (.int .i64 i))]) (fun _ => []) (fun i => i ≤ xs.length ∧ xs.take i = ys.take i) (fun i => xs.length - i) 0 ?_ ?_ ?_
    · exact ⟨Nat.zero_le _, rfl⟩
    · repeat' ((conv => whnf); first | exact True.intro | (refine (?_ : statOk _ = true); kernel_rfl) | (refine (?_ : dynOk _ _ = true); kernel_rfl) | refine And.intro ?_ ?_ | intro _)
      all_goals (try (conv => whnf))
      all_goals (try with_reducible rfl)
      all_goals simp
    · rintro i ⟨hi, hj⟩
      repeat' ((conv => whnf); first | exact True.intro | (refine (?_ : statOk _ = true); kernel_rfl) | (refine (?_ : dynOk _ _ = true); kernel_rfl) | refine And.intro ?_ ?_ | intro _)
      all_goals (try (conv => whnf))
      all_goals (try with_reducible rfl)
      all_goals (try (refine (⟨i + 1, ?_⟩ : Exists _)))
      repeat' ((conv => whnf); first | exact True.intro | (refine (?_ : statOk _ = true); kernel_rfl) | (refine (?_ : dynOk _ _ = true); kernel_rfl) | refine And.intro ?_ ?_ | intro _)
      all_goals (try (conv => whnf))
      all_goals (try with_reducible rfl)
      all_goals (try simp only [pOk, wrap_w, pre_iff, cast_L, cast_X, cut_lo, cut_hi, cut_both, cut_none, toNat_0, toNat_1, toNat_2, Int.toNat_natCast, List.length_cons, List.length_nil, Nat.zero_add, eq_Pt, eq_Frac, eq_Term, eq_Linear, eq_Row, eq_System, eq_Cubic, eq_Quad, eq_Knot, eq_LoopT, eq_Outline, eq_Segm, eq_Token, eq_Stmt, eq_Curve, decide_eq_true_eq, decide_eq_false_iff_not, ge_iff_le, gt_iff_lt, eta_Pt, eta_Frac, eta_Term, eta_Linear, eta_Row, eta_System, eta_Cubic, eta_Quad, eta_Knot, eta_LoopT, eta_Outline, eta_Segm, eta_Token, eta_Stmt, eta_Curve, Int.ofNat_lt, Int.ofNat_le, Bool.not_eq_true', Bool.not_eq_false'] at *)
      all_goals first | omega | (rw [w_succ]; omega) | (refine (decide_eq_false (eq_f (by assumption) ?_)).symm; assumption) | (refine ⟨by omega, eq_t (by omega) (by omega) ?_ hj⟩; exact Classical.not_not.1 (by assumption)) | exact (decide_eq_true (eq_e (by assumption) (by omega) hj)).symm | trace_state



def K_laws_markInt64S : Con := conMark .int fun (xs : List Int) k => (some (0 ≤ k ∧ k + 1 * xs.length ≤ 4611686018427387904), mkL 1 (fun k => (k : Int)) xs.length k, k + 1 * xs.length)

def E_laws_markInt64S : Env := { nt := 19, nm := 1, tab := tab, con := con0, eqt := eqt, fz := [], cuts := [] }

set_option maxRecDepth 1000000 in
set_option maxHeartbeats 4000000 in
theorem c_laws_markInt64S : COk Try.prog 47 K_laws_markInt64S := by
  refine cok_of (E := E_laws_markInt64S) Try.func47 rfl rfl (by rfl) mix_ok tab_ok (eq_ok rfl) con0_ok rfl ?_
  intro M xs p Ms r hrun hok
  simp only [K_laws_markInt64S, conMark] at hrun
  split at hrun
  · rename_i g' ys k
    split at hrun
    · rename_i hg
      subst hg
      simp only [Option.some.injEq, Prod.mk.injEq] at hrun
      obtain ⟨rfl, rfl, rfl⟩ := hrun
      have hk : 0 ≤ k ∧ k + 1 * (ys.length : Int) ≤ 4611686018427387904 := hok
      refine ⟨rfl, of_decide_eq_true rfl, ?_⟩
      revert ys
      intro (ys : List Int) hok hk
      repeat' ((conv => whnf); first | exact True.intro | (refine (?_ : statOk _ = true); kernel_rfl) | (refine (?_ : dynOk _ _ = true); kernel_rfl) | refine And.intro ?_ ?_ | intro _)
      all_goals (try (conv => whnf))
      all_goals (try with_reducible rfl)
      refine aw_loopT (fun i : Nat => [(5, .c (.int .i64 i)), (1, .c (.int .i64 (k + 1 * i)))]) (fun i => [(0, 0, .seq .int (mkL 1 (fun k => (k : Int)) i k ++ ys.drop i))]) (fun i => i ≤ ys.length) (fun i => ys.length - i) 0 ?_ ?_ ?_
      · exact Nat.zero_le _
      · repeat' ((conv => whnf); first | exact True.intro | (refine (?_ : statOk _ = true); kernel_rfl) | (refine (?_ : dynOk _ _ = true); kernel_rfl) | refine And.intro ?_ ?_ | intro _)
        all_goals (try (conv => whnf))
        all_goals (try with_reducible rfl)
        all_goals (try simp [mkL_zero])
      · intro i hi
        have hml := mkL_len 1 (fun k => (k : Int)) i k
        have hm := mid_len hi hml
        repeat' ((conv => whnf); first | exact True.intro | (refine (?_ : statOk _ = true); kernel_rfl) | (refine (?_ : dynOk _ _ = true); kernel_rfl) | ((conv in List.set _ _ _ => skip); generalize hz : List.set _ _ _ = Z) | refine And.intro ?_ ?_ | intro _)
        all_goals (try (conv => whnf))
        all_goals (try with_reducible rfl)
        all_goals (try (refine (⟨i + 1, ?_⟩ : Exists _)))
        repeat' ((conv => whnf); first | exact True.intro | (refine (?_ : statOk _ = true); kernel_rfl) | (refine (?_ : dynOk _ _ = true); kernel_rfl) | refine And.intro ?_ ?_ | intro _)
        all_goals (try (conv => whnf))
        all_goals (try with_reducible rfl)
        all_goals (try simp only [pOk, wrap_w, pre_iff, cast_L, decide_eq_true_eq, decide_eq_false_iff_not, hm, Int.ofNat_lt] at *)
        all_goals (try rw [mkL_len])
        all_goals first | omega | (have hz2 := congrArg List.length hz; simp only [List.length_set, mid_len hi hml] at hz2; omega) | (rw [w_succ]; omega) | (rw [w_id] <;> omega) | skip
        · have hlt : i < ys.length := by omega
          have hm2 := mid_len hi hml
          repeat (rw [← hz]; clear hz; (try simp (disch := omega) only [Int.toNat_natCast, List.set_set, el_set]))
          (try simp only [Int.toNat_natCast])
          rw [set_mid hlt hml, mkL_succ]
        · rw [show i = ys.length by omega, List.drop_length, List.append_nil]
    · cases hrun
  · cases hrun



def K_laws_heldInt64S : Con := conOf false [.s .int, .a .int] fun ⟨xs, k, _⟩ =>
  (fun (xs : List Int) (k : Int) =>
  (some (0 ≤ k ∧ k + 1 * xs.length ≤ 4611686018427387904), [], .c (.int .i64 (if xs = mkL 1 (fun k => (k : Int)) xs.length k then k + 1 * xs.length else -1)))) xs k

def E_laws_heldInt64S : Env := { nt := 21, nm := 0, tab := tab, con := con0, eqt := eqt, fz := [], cuts := [] }

set_option maxRecDepth 1000000 in
set_option maxHeartbeats 4000000 in
theorem c_laws_heldInt64S : COk Try.prog 48 K_laws_heldInt64S := by
  refine cok_fun (E := E_laws_heldInt64S) Try.func48 rfl rfl (by rfl) mix_ok tab_ok (eq_ok rfl) con0_ok rfl rfl (by decide) ?_
  rintro ⟨(xs : List Int), (k : Int), u0⟩ h0
  have hk : 0 ≤ k ∧ k + 1 * (xs.length : Int) ≤ 4611686018427387904 := h0
  repeat' ((conv => whnf); first | exact True.intro | (refine (?_ : statOk _ = true); kernel_rfl) | (refine (?_ : dynOk _ _ = true); kernel_rfl) | refine And.intro ?_ ?_ | intro _)
  all_goals (try (conv => whnf))
  all_goals (try with_reducible rfl)
  refine aw_loopT (fun i : Nat => [(5, .c (.int .i64 i)), (1, .c (.int .i64 (k + 1 * i)))]) (fun _ => []) (fun i => i ≤ xs.length ∧ xs.take i = mkL 1 (fun k => (k : Int)) i k) (fun i => xs.length - i) 0 ?_ ?_ ?_
  · exact ⟨Nat.zero_le _, rfl⟩
  · repeat' ((conv => whnf); first | exact True.intro | (refine (?_ : statOk _ = true); kernel_rfl) | (refine (?_ : dynOk _ _ = true); kernel_rfl) | refine And.intro ?_ ?_ | intro _)
    all_goals (try (conv => whnf))
    all_goals (try with_reducible rfl)
    all_goals simp
  · rintro i ⟨hi, hj⟩
    have hw1 : i < xs.length → w (k + 1 * (i : Int) + 1) = k + 1 * (i : Int) + 1 := fun h => w_id (by omega)
    repeat' ((conv => whnf); first | exact True.intro | (refine (?_ : statOk _ = true); kernel_rfl) | (refine (?_ : dynOk _ _ = true); kernel_rfl) | refine And.intro ?_ ?_ | intro _)
    all_goals (try (conv => whnf))
    all_goals (try with_reducible rfl)
    all_goals (try (refine (⟨i + 1, ?_⟩ : Exists _)))
    repeat' ((conv => whnf); first | exact True.intro | (refine (?_ : statOk _ = true); kernel_rfl) | (refine (?_ : dynOk _ _ = true); kernel_rfl) | refine And.intro ?_ ?_ | intro _)
    all_goals (try (conv => whnf))
    all_goals (try with_reducible rfl)
    all_goals (try simp only [pOk, wrap_w, pre_iff, cast_L, cast_X, cut_lo, cut_hi, cut_both, cut_none, toNat_0, toNat_1, toNat_2, Int.toNat_natCast, List.length_cons, List.length_nil, Nat.zero_add, eq_Pt, eq_Frac, eq_Term, eq_Linear, eq_Row, eq_System, eq_Cubic, eq_Quad, eq_Knot, eq_LoopT, eq_Outline, eq_Segm, eq_Token, eq_Stmt, eq_Curve, decide_eq_true_eq, decide_eq_false_iff_not, ge_iff_le, gt_iff_lt, eta_Pt, eta_Frac, eta_Term, eta_Linear, eta_Row, eta_System, eta_Cubic, eta_Quad, eta_Knot, eta_LoopT, eta_Outline, eta_Segm, eta_Token, eta_Stmt, eta_Curve, Int.ofNat_lt, Int.ofNat_le, Bool.not_eq_true', Bool.not_eq_false'] at *)
    all_goals (try simp only [w_addl] at *)
    all_goals try (have hlt : i < xs.length := by omega
                   simp only [hw1 hlt] at *)
    all_goals first | omega | (rw [w_succ]; omega) | (rw [if_pos (held_e (by assumption) hi hj)]; omega) | (rw [if_neg]; intro e; have e2 := held_el e (by assumption); exact absurd e2 (by assumption)) | (refine ⟨by omega, held_t (by omega) hj ?_⟩; exact Classical.not_not.1 (by assumption)) | trace_state


theorem el_set_ne {α : Type} [Inhabited α] {xs : List α} {m : Nat} {j : Int} {v : α} (h : m ≠ j.toNat) : el (xs.set m v) j = el xs j := by
  unfold el; simp [List.getD_eq_getElem?_getD, List.getElem?_set_ne h]
theorem el_rep {α : Type} [Inhabited α] {n : Nat} {x : α} {j : Int} (h : 0 ≤ j ∧ j < (n : Int)) : el (List.replicate n x) j = x := by
  unfold el; simp [List.getD_eq_getElem?_getD, List.getElem?_replicate, show j.toNat < n by omega]
theorem d1 : w ((dflt GT.int : Int) + 1) = 1 := by show w (0 + 1) = 1; rw [w_id] <;> decide
theorem d4 : w ((dflt GT.int : Int) + 4) = 4 := by show w (0 + 4) = 4; rw [w_id] <;> decide
theorem inc3 {n : Nat} {a k b : Int} (ha : 0 ≤ a ∧ a < (n : Int)) (hk : 0 ≤ k ∧ k < (n : Int)) (hb : 0 ≤ b ∧ b < (n : Int)) (h1 : a ≠ k) (h2 : a ≠ b) (h3 : k ≠ b) :
    (((List.replicate n (dflt GT.int)).set a.toNat (w ((el (List.replicate n (dflt GT.int)) a : Int) + 1))).set k.toNat (w ((el ((List.replicate n (dflt GT.int)).set a.toNat (w ((el (List.replicate n (dflt GT.int)) a : Int) + 1))) k : Int) + 4))).set b.toNat (w ((el (((List.replicate n (dflt GT.int)).set a.toNat (w ((el (List.replicate n (dflt GT.int)) a : Int) + 1))).set k.toNat (w ((el ((List.replicate n (dflt GT.int)).set a.toNat (w ((el (List.replicate n (dflt GT.int)) a : Int) + 1))) k : Int) + 4))) b : Int) + 1))
    = (((List.replicate n (0 : Int)).set a.toNat 1).set k.toNat 4).set b.toNat 1 := by
  rw [el_rep ha, d1]
  rw [el_set_ne (j := k) (by omega), el_rep hk, d4]
  rw [el_set_ne (j := b) (by omega), el_set_ne (j := b) (by omega), el_rep hb, d1]
  rfl
theorem apart {k n : Int} (h3 : 3 ≤ n) (h : 0 ≤ k) (h' : k < n) : (k + n - 1).tmod n ≠ k ∧ (k + n - 1).tmod n ≠ (k + 1).tmod n ∧ k ≠ (k + 1).tmod n := by
  by_cases h0 : k = 0
  · subst h0
    rw [mod_lt (x := 0 + n - 1) (n := n) (by omega) (by omega), mod_lt (x := 0 + 1) (n := n) (by omega) (by omega)]; omega
  · rw [mod_wr (x := k + n - 1) (n := n) (by omega) (by omega) (by omega)]
    by_cases h1 : k = n - 1
    · rw [mod_wr (x := k + 1) (n := n) (by omega) (by omega) (by omega)]; omega
    · rw [mod_lt (x := k + 1) (n := n) (by omega) (by omega)]; omega

def zs (n : Nat) : List Int := List.replicate n 0
def rowF (c : Curve) (k : Int) : List Int :=
  if c.Closed = true then (((zs c.Knots.length).set ((k + (c.Knots.length : Int) - 1).tmod (c.Knots.length : Int)).toNat 1).set k.toNat 4).set ((k + 1).tmod (c.Knots.length : Int)).toNat 1
  else if 0 < k ∧ k < (c.Knots.length : Int) - 1 then (((zs c.Knots.length).set (k - 1).toNat 1).set k.toNat 4).set (k + 1).toNat 1
  else if k = 0 ∧ c.FixFirst = true ∨ 0 < k ∧ c.FixLast = true then (zs c.Knots.length).set k.toNat 1
  else if k = 0 then ((zs c.Knots.length).set 0 2).set 1 1
  else ((zs c.Knots.length).set ((c.Knots.length : Int) - 2).toNat 1).set ((c.Knots.length : Int) - 1).toNat 2

theorem row_cl {c : Curve} {k : Int} (h : c.Closed = true) : rowF c k = (((zs c.Knots.length).set ((k + (c.Knots.length : Int) - 1).tmod (c.Knots.length : Int)).toNat 1).set k.toNat 4).set ((k + 1).tmod (c.Knots.length : Int)).toNat 1 := by
  unfold rowF; rw [if_pos h]
theorem row_mi {c : Curve} {k : Int} (h : c.Closed = false) (h1 : 0 < k) (h2 : k < (c.Knots.length : Int) - 1) : rowF c k = (((zs c.Knots.length).set (k - 1).toNat 1).set k.toNat 4).set (k + 1).toNat 1 := by
  unfold rowF; rw [if_neg (by simp [h]), if_pos ⟨h1, h2⟩]
theorem row_fi {c : Curve} {k : Int} (h : c.Closed = false) (h1 : k = 0) (h2 : c.FixFirst = true) : rowF c k = (zs c.Knots.length).set k.toNat 1 := by
  unfold rowF; rw [if_neg (by simp [h]), if_neg (by omega), if_pos (.inl ⟨h1, h2⟩)]
theorem row_la {c : Curve} {k : Int} (h : c.Closed = false) (h1 : 0 < k) (h3 : ¬ k < (c.Knots.length : Int) - 1) (h2 : c.FixLast = true) : rowF c k = (zs c.Knots.length).set k.toNat 1 := by
  unfold rowF; rw [if_neg (by simp [h]), if_neg (by omega), if_pos (.inr ⟨h1, h2⟩)]
theorem row_lo {c : Curve} {k : Int} (h : c.Closed = false) (h1 : k = 0) (h2 : c.FixFirst = false) : rowF c k = ((zs c.Knots.length).set 0 2).set 1 1 := by
  unfold rowF
  rw [if_neg (by simp [h]), if_neg (by omega), if_neg, if_pos h1]
  rintro (e | e)
  · simp [h2] at e
  · omega
theorem row_hi {c : Curve} {k : Int} (h : c.Closed = false) (h1 : 0 < k) (h3 : ¬ k < (c.Knots.length : Int) - 1) (h2 : c.FixLast = false) : rowF c k = ((zs c.Knots.length).set ((c.Knots.length : Int) - 2).toNat 1).set ((c.Knots.length : Int) - 1).toNat 2 := by
  unfold rowF
  rw [if_neg (by simp [h]), if_neg (by omega), if_neg, if_neg (by omega)]
  rintro (e | e)
  · omega
  · simp [h2] at e


def K_impl_curveRow : Con := conOf false [.a .curve, .a .int] fun ⟨c, k, _⟩ =>
  (fun (c : Curve) (k : Int) =>
  (some (2 ≤ c.Knots.length ∧ c.Knots.length ≤ 10 ∧ 0 ≤ k ∧ k < (c.Knots.length : Int)), [.seq .int (rowF c k)], .c (.sl 0 0))) c k

def E_impl_curveRow : Env := { nt := 84, nm := 0, tab := tab, con := con0, eqt := eqt, fz := [], cuts := [] }

set_option maxRecDepth 1000000 in
set_option maxHeartbeats 4000000 in
theorem c_impl_curveRow : COk Try.prog 90 K_impl_curveRow := by
  refine cok_fun (E := E_impl_curveRow) Try.func90 rfl rfl (by rfl) mix_ok tab_ok (eq_ok rfl) con0_ok rfl rfl (by decide) ?_
  rintro ⟨(c : Curve), (k : Int), u0⟩ h0
  obtain ⟨g1, g2, g3, g4⟩ := h0
  have e1 : w (k + (c.Knots.length : Int)) = k + (c.Knots.length : Int) := by rw [w_id] <;> omega
  have e2 : w (k + (c.Knots.length : Int) - 1) = k + (c.Knots.length : Int) - 1 := by rw [w_id] <;> omega
  have e3 : w (k + 1) = k + 1 := by rw [w_id] <;> omega
  have e4 : w (k - 1) = k - 1 := by rw [w_id] <;> omega
  have e5 : w ((c.Knots.length : Int) - 1) = (c.Knots.length : Int) - 1 := by rw [w_id] <;> omega
  have e6 : w ((c.Knots.length : Int) - 2) = (c.Knots.length : Int) - 2 := by rw [w_id] <;> omega
  have m1 := mod_in (x := k + 1) (n := (c.Knots.length : Int)) (by omega) (by omega)
  have m2 := mod_in (x := k + (c.Knots.length : Int) - 1) (n := (c.Knots.length : Int)) (by omega) (by omega)
  repeat' ((conv => whnf); first | exact True.intro | (refine (?_ : statOk _ = true); kernel_rfl) | (refine (?_ : dynOk _ _ = true); kernel_rfl) | refine And.intro ?_ ?_ | intro _)
  all_goals (try (conv => whnf))
  all_goals (try with_reducible rfl)
  all_goals (try simp only [pOk, wrap_w, pre_iff, cast_L, cast_X, cut_lo, cut_hi, cut_both, cut_none, toNat_0, toNat_1, toNat_2, Int.toNat_natCast, List.length_cons, List.length_nil, Nat.zero_add, eq_Pt, eq_Frac, eq_Term, eq_Linear, eq_Row, eq_System, eq_Cubic, eq_Quad, eq_Knot, eq_LoopT, eq_Outline, eq_Segm, eq_Token, eq_Stmt, eq_Curve, decide_eq_true_eq, decide_eq_false_iff_not, ge_iff_le, gt_iff_lt, eta_Pt, eta_Frac, eta_Term, eta_Linear, eta_Row, eta_System, eta_Cubic, eta_Quad, eta_Knot, eta_LoopT, eta_Outline, eta_Segm, eta_Token, eta_Stmt, eta_Curve, Int.ofNat_lt, Int.ofNat_le, Bool.not_eq_true', Bool.not_eq_false'] at *)
  all_goals (try simp only [e1, e2, e3, e4, e5, e6, List.length_set, List.length_replicate] at *)
  all_goals first
    | omega
    | exact m1
    | exact m2
    | (rw [row_cl (c := c) (k := k) (by assumption)]; rfl)
    | (rw [row_mi (c := c) (k := k) (by assumption) (by omega) (by omega)]; rfl)
    | (rw [row_fi (c := c) (k := k) (by assumption) (by omega) (by assumption)]; rfl)
    | (rw [row_la (c := c) (k := k) (by assumption) (by omega) (by omega) (by assumption)]; rfl)
    | (rw [row_lo (c := c) (k := k) (by assumption) (by omega) (by assumption)]; rfl)
    | (rw [row_hi (c := c) (k := k) (by assumption) (by omega) (by omega) (by assumption)]; rfl)
    | trace_state


def K_spec_l06Row : Con := conOf false [.p .curve, .a .int] fun ⟨c, k, _⟩ =>
  (fun (c : Curve) (k : Int) =>
  (some (2 ≤ c.Knots.length ∧ c.Knots.length ≤ 10 ∧ 0 ≤ k ∧ k < (c.Knots.length : Int) ∧ (c.Closed = true → 3 ≤ c.Knots.length)), [.seq .int (rowF c k)], .c (.sl 0 0))) c k

def E_spec_l06Row : Env := { nt := 88, nm := 0, tab := tab, con := (conCons 98 K_spec_l00In con0), eqt := eqt, fz := [], cuts := [] }

set_option maxRecDepth 1000000 in
set_option maxHeartbeats 4000000 in
theorem c_spec_l06Row : COk Try.prog 89 K_spec_l06Row := by
  refine cok_fun (E := E_spec_l06Row) Try.func89 rfl rfl (by rfl) mix_ok tab_ok (eq_ok rfl) (con_cons c_spec_l00In con0_ok) rfl rfl (by decide) ?_
  rintro ⟨(c : Curve), (k : Int), u0⟩ h0
  obtain ⟨g1, g2, g3, g4, g5⟩ := h0
  have e1 : w (k + (c.Knots.length : Int)) = k + (c.Knots.length : Int) := by rw [w_id] <;> omega
  have e2 : w (k + (c.Knots.length : Int) - 1) = k + (c.Knots.length : Int) - 1 := by rw [w_id] <;> omega
  have e3 : w (k + 1) = k + 1 := by rw [w_id] <;> omega
  have e4 : w (k - 1) = k - 1 := by rw [w_id] <;> omega
  have e6 : w ((c.Knots.length : Int) - 2) = (c.Knots.length : Int) - 2 := by rw [w_id] <;> omega
  have m1 := mod_in (x := k + 1) (n := (c.Knots.length : Int)) (by omega) (by omega)
  have m2 := mod_in (x := k + (c.Knots.length : Int) - 1) (n := (c.Knots.length : Int)) (by omega) (by omega)
  repeat' ((conv => whnf); first | exact True.intro | (refine (?_ : statOk _ = true); kernel_rfl) | (refine (?_ : dynOk _ _ = true); kernel_rfl) | refine And.intro ?_ ?_ | intro _)
  all_goals (try (conv => whnf))
  all_goals (try with_reducible rfl)
  all_goals (try simp only [pOk, wrap_w, pre_iff, cast_L, cast_X, cut_lo, cut_hi, cut_both, cut_none, toNat_0, toNat_1, toNat_2, Int.toNat_natCast, List.length_cons, List.length_nil, Nat.zero_add, eq_Pt, eq_Frac, eq_Term, eq_Linear, eq_Row, eq_System, eq_Cubic, eq_Quad, eq_Knot, eq_LoopT, eq_Outline, eq_Segm, eq_Token, eq_Stmt, eq_Curve, decide_eq_true_eq, decide_eq_false_iff_not, ge_iff_le, gt_iff_lt, eta_Pt, eta_Frac, eta_Term, eta_Linear, eta_Row, eta_System, eta_Cubic, eta_Quad, eta_Knot, eta_LoopT, eta_Outline, eta_Segm, eta_Token, eta_Stmt, eta_Curve, Int.ofNat_lt, Int.ofNat_le, Bool.not_eq_true', Bool.not_eq_false'] at *)
  all_goals (try simp only [e1, e2, e3, e4, e6, List.length_set, List.length_replicate, Bool.and_eq_true, Bool.and_eq_false_iff, decide_eq_true_eq, decide_eq_false_iff_not] at *)
  all_goals first
    | omega
    | exact m1
    | exact m2
    | (rw [row_cl (c := c) (k := k) (by assumption)]; rfl)
    | (rw [row_mi (c := c) (k := k) (by assumption) (by omega) (by omega)]; rfl)
    | (rw [row_fi (c := c) (k := k) (by assumption) (by omega) (by assumption)]; rfl)
    | (rw [row_la (c := c) (k := k) (by assumption) (by omega) (by omega) (by assumption)]; rfl)
    | (rw [row_lo (c := c) (k := k) (by assumption) (by omega) (by assumption)]; rfl)
    | (rw [row_hi (c := c) (k := k) (by assumption) (by omega) (by omega) (by assumption)]; rfl)
    | (obtain ⟨p1, p2, p3⟩ := apart (k := k) (n := (c.Knots.length : Int)) (by have := g5 (by assumption); omega) g3 g4
       rw [row_cl (c := c) (k := k) (by assumption)]
       exact inc3 m2 ⟨g3, g4⟩ m1 p1 p2 p3)
    | (rw [row_mi (c := c) (k := k) (by assumption) (by omega) (by omega), mod_lt (x := k + 1) (n := (c.Knots.length : Int)) (by omega) (by omega), mod_wr (x := k + (c.Knots.length : Int) - 1) (n := (c.Knots.length : Int)) (by omega) (by omega) (by omega), show k + (c.Knots.length : Int) - 1 - (c.Knots.length : Int) = k - 1 by omega]
       exact inc3 ⟨by omega, by omega⟩ ⟨g3, g4⟩ ⟨by omega, by omega⟩ (by omega) (by omega) (by omega))
    | (rw [row_hi (c := c) (k := k) (by assumption) (by omega) (by omega) (by assumption), show k - 1 = (c.Knots.length : Int) - 2 by omega, show k = (c.Knots.length : Int) - 1 by omega]; rfl)
    | trace_state

def rowC (c : Curve) (k : Int) : List Int := if crvC c k = 0 then rowF c k else []
theorem crv_three {c : Curve} (h : vCrv c = true) (h' : c.Closed = true) : 3 ≤ c.Knots.length := by
  unfold vCrv at h
  simp only [Bool.and_eq_true, decide_eq_true_eq] at h
  have : least c = 3 := least_t h'
  omega
theorem crv_ok3 {c : Curve} {k : Int} (h : ¬ crvC c k ≠ 0) : 2 ≤ c.Knots.length ∧ c.Knots.length ≤ 10 ∧ 0 ≤ k ∧ k < (c.Knots.length : Int) ∧ (c.Closed = true → 3 ≤ c.Knots.length) := by
  obtain ⟨h1, h2, h3, h4⟩ := crv_ok h
  refine ⟨h1, h2, h3, h4, fun hc => ?_⟩
  by_cases hv : vCrv c = true
  · exact crv_three hv hc
  · rw [crv_no (by simpa using hv)] at h; omega


def K_impl_CurveRow : Con := conOf false [.a .curve, .a .int] fun ⟨c, k, _⟩ =>
  (fun (c : Curve) (k : Int) =>
  (none, [.seq .int (rowC c k)], .tup [(false, [.sl 0 0]), (false, [.int .i64 (crvC c k)])])) c k

def E_impl_CurveRow : Env := { nt := 21, nm := 0, tab := tab, con := (conCons 26 K_impl_ValidCurve (conCons 90 K_impl_curveRow con0)), eqt := eqt, fz := [], cuts := [] }

set_option maxRecDepth 1000000 in
set_option maxHeartbeats 4000000 in
theorem c_impl_CurveRow : COk Try.prog 45 K_impl_CurveRow := by
  refine cok_fun (E := E_impl_CurveRow) Try.func45 rfl rfl (by rfl) mix_ok tab_ok (eq_ok rfl) (con_cons c_impl_ValidCurve (con_cons c_impl_curveRow con0_ok)) rfl rfl (by decide) ?_
  rintro ⟨(c : Curve), (k : Int), u0⟩ h0
  repeat' ((conv => whnf); first | exact True.intro | (refine (?_ : statOk _ = true); kernel_rfl) | (refine (?_ : dynOk _ _ = true); kernel_rfl) | refine And.intro ?_ ?_ | intro _)
  all_goals (try (conv => whnf))
  all_goals (try simp only [pOk, wrap_w, pre_iff, cast_L, cast_X, cut_lo, cut_hi, cut_both, cut_none, toNat_0, toNat_1, toNat_2, Int.toNat_natCast, List.length_cons, List.length_nil, Nat.zero_add, eq_Pt, eq_Frac, eq_Term, eq_Linear, eq_Row, eq_System, eq_Cubic, eq_Quad, eq_Knot, eq_LoopT, eq_Outline, eq_Segm, eq_Token, eq_Stmt, eq_Curve, decide_eq_true_eq, decide_eq_false_iff_not, ge_iff_le, gt_iff_lt, eta_Pt, eta_Frac, eta_Term, eta_Linear, eta_Row, eta_System, eta_Cubic, eta_Quad, eta_Knot, eta_LoopT, eta_Outline, eta_Segm, eta_Token, eta_Stmt, eta_Curve, Int.ofNat_lt, Int.ofNat_le, Bool.not_eq_true', Bool.not_eq_false'] at *)
  all_goals (try simp only [Bool.and_eq_true, Bool.and_eq_false_iff, decide_eq_true_eq, decide_eq_false_iff_not] at *)
  all_goals first
    | (rw [crv_no (by assumption)]; done)
    | (simp only [rowC, crv_no (c := c) (k := k) (by assumption)]; simp; done)
    | (have := vCrv_n (c := c) (by assumption)
       first
         | omega
         | (rw [crv_in (c := c) (k := k) (by assumption) (by omega)]; done)
         | (rw [crv_out (c := c) (k := k) (by assumption) (by omega)]; done)
         | (simp only [rowC, crv_in (c := c) (k := k) (by assumption) (by omega)]; simp; done)
         | (simp only [rowC, crv_out (c := c) (k := k) (by assumption) (by omega)]; simp; done))
    | trace_state



def K_spec_CurveRow : Con := conOf false [.a .curve, .a .int] fun ⟨c, k, _⟩ =>
  (fun (c : Curve) (k : Int) =>
  (none, [.seq .int (rowC c k)], .tup [(false, [.sl 0 0]), (false, [.int .i64 (crvC c k)])])) c k

def E_spec_CurveRow : Env := { nt := 14, nm := 0, tab := tab, con := (conCons 86 K_spec_l06Ask (conCons 89 K_spec_l06Row con0)), eqt := eqt, fz := [], cuts := [] }

set_option maxRecDepth 1000000 in
set_option maxHeartbeats 4000000 in
theorem c_spec_CurveRow : COk Try.prog 44 K_spec_CurveRow := by
  refine cok_fun (E := E_spec_CurveRow) Try.func44 rfl rfl (by rfl) mix_ok tab_ok (eq_ok rfl) (con_cons c_spec_l06Ask (con_cons c_spec_l06Row con0_ok)) rfl rfl (by decide) ?_
  rintro ⟨(c : Curve), (k : Int), u0⟩ h0
  repeat' ((conv => whnf); first | exact True.intro | (refine (?_ : statOk _ = true); kernel_rfl) | (refine (?_ : dynOk _ _ = true); kernel_rfl) | refine And.intro ?_ ?_ | intro _)
  all_goals (try (conv => whnf))
  all_goals (try simp only [pOk, wrap_w, pre_iff, cast_L, cast_X, cut_lo, cut_hi, cut_both, cut_none, toNat_0, toNat_1, toNat_2, Int.toNat_natCast, List.length_cons, List.length_nil, Nat.zero_add, eq_Pt, eq_Frac, eq_Term, eq_Linear, eq_Row, eq_System, eq_Cubic, eq_Quad, eq_Knot, eq_LoopT, eq_Outline, eq_Segm, eq_Token, eq_Stmt, eq_Curve, decide_eq_true_eq, decide_eq_false_iff_not, ge_iff_le, gt_iff_lt, eta_Pt, eta_Frac, eta_Term, eta_Linear, eta_Row, eta_System, eta_Cubic, eta_Quad, eta_Knot, eta_LoopT, eta_Outline, eta_Segm, eta_Token, eta_Stmt, eta_Curve, Int.ofNat_lt, Int.ofNat_le, Bool.not_eq_true', Bool.not_eq_false'] at *)
  all_goals first
    | (exact crv_ok3 (by assumption))
    | (simp_all [rowC]; done)
    | trace_state


end GV

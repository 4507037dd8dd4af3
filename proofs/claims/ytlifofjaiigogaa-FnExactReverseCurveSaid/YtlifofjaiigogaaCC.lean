/-
  Contracts: what the laws do with lists of points. No condition beyond those named.
-/
import Derived.Test.YtlifofjaiigogaaCA
import Derived.Test.YtlifofjaiigogaaXB
namespace GV
open Go Go.Proofs
set_option linter.unusedSimpArgs false
set_option linter.unusedVariables false


def K_laws_eqPtS : Con := conOf false [.s .pt, .s .pt] fun ⟨xs, ys, _⟩ =>
  (fun (xs : List Pt) (ys : List Pt) =>
  (none, [], .c (.bool false (decide (xs = ys))))) xs ys

def E_laws_eqPtS : Env := { nt := 27, nm := 0, tab := tab, con := (conCons 43 K_laws_eqPt con0), eqt := eqt, fz := [], cuts := [] }

set_option maxRecDepth 1000000 in
set_option maxHeartbeats 4000000 in
theorem c_laws_eqPtS : COk Try.prog 60 K_laws_eqPtS := by
  refine cok_fun (E := E_laws_eqPtS) Try.func60 rfl rfl (by rfl) mix_ok tab_ok (eq_ok rfl) (con_cons c_laws_eqPt con0_ok) rfl rfl (by decide) ?_
  rintro ⟨(xs : List Pt), (ys : List Pt), u0⟩ h0
  repeat' ((conv => whnf); first | exact True.intro | (refine (?_ : statOk _ = true); kernel_rfl) | (refine (?_ : dynOk _ _ = true); kernel_rfl) | refine And.intro ?_ ?_ | intro _)
  all_goals (try (conv => whnf))
  all_goals (try with_reducible rfl)
  · all_goals (try simp only [pOk, wrap_w, pre_iff, cast_L, cast_X, cut_lo, cut_hi, cut_both, cut_none, toNat_0, toNat_1, toNat_2, Int.toNat_natCast, List.length_cons, List.length_nil, Nat.zero_add, eq_Pt, eq_Frac, eq_Term, eq_Linear, eq_Row, eq_System, eq_Cubic, eq_Quad, eq_Knot, eq_LoopT, eq_Outline, eq_Segm, eq_Token, eq_Stmt, eq_Curve, decide_eq_true_eq, decide_eq_false_iff_not, ge_iff_le, gt_iff_lt, eta_Pt, eta_Frac, eta_Term, eta_Linear, eta_Row, eta_System, eta_Cubic, eta_Quad, eta_Knot, eta_LoopT, eta_Outline, eta_Segm, eta_Token, eta_Stmt, eta_Curve, Int.ofNat_lt, Int.ofNat_le, Bool.not_eq_true', Bool.not_eq_false'] at *)
    rename_i h
    exact (decide_eq_false fun e => h (by rw [e])).symm
  · rename_i hl0 hl1 hl2
    refine aw_loopT (fun i : Nat => [(5, .c (.int .i64 i))]) (fun _ => []) (fun i => i ≤ xs.length ∧ xs.take i = ys.take i) (fun i => xs.length - i) 0 ?_ ?_ ?_
    · exact ⟨Nat.zero_le _, rfl⟩
    · repeat' ((conv => whnf); first | exact True.intro | (refine (?_ : statOk _ = true); kernel_rfl) | (refine (?_ : dynOk _ _ = true); kernel_rfl) | refine And.intro ?_ ?_ | intro _)
      all_goals (try (conv => whnf))
      all_goals (try with_reducible rfl)
      all_goals simp
    · rintro i ⟨hi, hj⟩
      repeat' ((conv => whnf); first | exact True.intro | (refine (?_ : statOk _ = true); kernel_rfl) | (refine (?_ : dynOk _ _ = true); kernel_rfl) | refine And.intro ?_ ?_ | intro _)
      all_goals (try (conv => whnf))
      all_goals (try with_reducible rfl)
      all_goals (try (refine (⟨i + 1, ?_⟩ : Exists _)))
      repeat' ((conv => whnf); first | exact True.intro | (refine (?_ : statOk _ = true); kernel_rfl) | (refine (?_ : dynOk _ _ = true); kernel_rfl) | refine And.intro ?_ ?_ | intro _)
      all_goals (try (conv => whnf))
      all_goals (try with_reducible rfl)
      all_goals (try simp only [pOk, wrap_w, pre_iff, cast_L, cast_X, cut_lo, cut_hi, cut_both, cut_none, toNat_0, toNat_1, toNat_2, Int.toNat_natCast, List.length_cons, List.length_nil, Nat.zero_add, eq_Pt, eq_Frac, eq_Term, eq_Linear, eq_Row, eq_System, eq_Cubic, eq_Quad, eq_Knot, eq_LoopT, eq_Outline, eq_Segm, eq_Token, eq_Stmt, eq_Curve, decide_eq_true_eq, decide_eq_false_iff_not, ge_iff_le, gt_iff_lt, eta_Pt, eta_Frac, eta_Term, eta_Linear, eta_Row, eta_System, eta_Cubic, eta_Quad, eta_Knot, eta_LoopT, eta_Outline, eta_Segm, eta_Token, eta_Stmt, eta_Curve, Int.ofNat_lt, Int.ofNat_le, Bool.not_eq_true', Bool.not_eq_false'] at *)
      all_goals first | omega | (rw [w_succ]; omega) | (refine (decide_eq_false (eq_f (by assumption) ?_)).symm; simp only [ne_eq, eq_Pt, eq_Quad, eq_Cubic, eq_Knot, eq_Frac, eq_Term, eq_LoopT, eq_Linear, eq_Row]; assumption) | (refine ⟨by omega, eq_t (by omega) (by omega) ?_ hj⟩; simp only [eq_Pt, eq_Quad, eq_Cubic, eq_Knot, eq_Frac, eq_Term, eq_LoopT, eq_Linear, eq_Row]; assumption) | exact (decide_eq_true (eq_e (by assumption) (by omega) hj)).symm | trace_state



def K_laws_markPtS : Con := conMark .pt fun (xs : List Pt) k => (some (0 ≤ k ∧ k + 2 * xs.length ≤ 4611686018427387904), mkL 2 (fun k => (⟨k, k + 1⟩ : Pt)) xs.length k, k + 2 * xs.length)

def E_laws_markPtS : Env := { nt := 27, nm := 1, tab := tab, con := con0, eqt := eqt, fz := [], cuts := [] }

set_option maxRecDepth 1000000 in
set_option maxHeartbeats 4000000 in
theorem c_laws_markPtS : COk Try.prog 82 K_laws_markPtS := by
  refine cok_of (E := E_laws_markPtS) Try.func82 rfl rfl (by rfl) mix_ok tab_ok (eq_ok rfl) con0_ok rfl ?_
  intro M xs p Ms r hrun hok
  simp only [K_laws_markPtS, conMark] at hrun
  split at hrun
  · rename_i g' ys k
    split at hrun
    · rename_i hg
      subst hg
      simp only [Option.some.injEq, Prod.mk.injEq] at hrun
      obtain ⟨rfl, rfl, rfl⟩ := hrun
      have hk : 0 ≤ k ∧ k + 2 * (ys.length : Int) ≤ 4611686018427387904 := hok
      refine ⟨rfl, of_decide_eq_true rfl, ?_⟩
      revert ys
      intro (ys : List Pt) hok hk
      repeat' ((conv => whnf); first | exact True.intro | (refine (?_ : statOk _ = true); kernel_rfl) | (refine (?_ : dynOk _ _ = true); kernel_rfl) | refine And.intro ?_ ?_ | intro _)
      all_goals (try (conv => whnf))
      all_goals (try with_reducible rfl)
      refine aw_loopT (fun i : Nat => [(5, .c (.int .i64 i)), (1, .c (.int .i64 (k + 2 * i)))]) (fun i => [(0, 0, .seq .pt (mkL 2 (fun k => (⟨k, k + 1⟩ : Pt)) i k ++ ys.drop i))]) (fun i => i ≤ ys.length) (fun i => ys.length - i) 0 ?_ ?_ ?_
      · exact Nat.zero_le _
      · repeat' ((conv => whnf); first | exact True.intro | (refine (?_ : statOk _ = true); kernel_rfl) | (refine (?_ : dynOk _ _ = true); kernel_rfl) | refine And.intro ?_ ?_ | intro _)
        all_goals (try (conv => whnf))
        all_goals (try with_reducible rfl)
        all_goals (try simp [mkL_zero])
      · intro i hi
        have hml := mkL_len 2 (fun k => (⟨k, k + 1⟩ : Pt)) i k
        have hm := mid_len hi hml
        repeat' ((conv => whnf); first | exact True.intro | (refine (?_ : statOk _ = true); kernel_rfl) | (refine (?_ : dynOk _ _ = true); kernel_rfl) | ((conv in List.set _ _ _ => skip); generalize hz : List.set _ _ _ = Z) | refine And.intro ?_ ?_ | intro _)
        all_goals (try (conv => whnf))
        all_goals (try with_reducible rfl)
        all_goals (try (refine (⟨i + 1, ?_⟩ : Exists _)))
        repeat' ((conv => whnf); first | exact True.intro | (refine (?_ : statOk _ = true); kernel_rfl) | (refine (?_ : dynOk _ _ = true); kernel_rfl) | refine And.intro ?_ ?_ | intro _)
        all_goals (try (conv => whnf))
        all_goals (try with_reducible rfl)
        all_goals (try simp only [pOk, wrap_w, pre_iff, cast_L, decide_eq_true_eq, decide_eq_false_iff_not, hm, Int.ofNat_lt] at *)
        all_goals (try rw [mkL_len])
        all_goals first | omega | (have hz2 := congrArg List.length hz; simp only [List.length_set, mid_len hi hml] at hz2; omega) | (rw [w_succ]; omega) | (simp only [w_addl]; (rw [w_id] <;> omega)) | skip
        · have hlt : i < ys.length := by omega
          have hm2 := mid_len hi hml
          repeat (rw [← hz]; clear hz; (try simp (disch := omega) only [Int.toNat_natCast, List.set_set, el_set]))
          (try simp only [Int.toNat_natCast])
          rw [set_mid hlt hml, mkL_succ]
          congr 2
          simp only [List.cons.injEq, and_true, eq_Pt, eq_Quad, eq_Cubic, eq_Knot, eq_Frac, eq_Term, eq_Token]
          (try simp only [w_addl])
          (repeat' refine And.intro ?_ ?_) <;> (first | omega | (rw [w_id] <;> omega))
        · rw [show i = ys.length by omega, List.drop_length, List.append_nil]
    · cases hrun
  · cases hrun



def K_laws_heldPtS : Con := conOf false [.s .pt, .a .int] fun ⟨xs, k, _⟩ =>
  (fun (xs : List Pt) (k : Int) =>
  (some (0 ≤ k ∧ k + 2 * xs.length ≤ 4611686018427387904), [], .c (.int .i64 (if xs = mkL 2 (fun k => (⟨k, k + 1⟩ : Pt)) xs.length k then k + 2 * xs.length else -1)))) xs k

def E_laws_heldPtS : Env := { nt := 31, nm := 0, tab := tab, con := con0, eqt := eqt, fz := [], cuts := [] }

set_option maxRecDepth 1000000 in
set_option maxHeartbeats 4000000 in
theorem c_laws_heldPtS : COk Try.prog 83 K_laws_heldPtS := by
  refine cok_fun (E := E_laws_heldPtS) Try.func83 rfl rfl (by rfl) mix_ok tab_ok (eq_ok rfl) con0_ok rfl rfl (by decide) ?_
  rintro ⟨(xs : List Pt), (k : Int), u0⟩ h0
  have hk : 0 ≤ k ∧ k + 2 * (xs.length : Int) ≤ 4611686018427387904 := h0
  repeat' ((conv => whnf); first | exact True.intro | (refine (?_ : statOk _ = true); kernel_rfl) | (refine (?_ : dynOk _ _ = true); kernel_rfl) | refine And.intro ?_ ?_ | intro _)
  all_goals (try (conv => whnf))
  all_goals (try with_reducible rfl)
  refine aw_loopT (fun i : Nat => [(5, .c (.int .i64 i)), (1, .c (.int .i64 (k + 2 * i)))]) (fun _ => []) (fun i => i ≤ xs.length ∧ xs.take i = mkL 2 (fun k => (⟨k, k + 1⟩ : Pt)) i k) (fun i => xs.length - i) 0 ?_ ?_ ?_
  · exact ⟨Nat.zero_le _, rfl⟩
  · repeat' ((conv => whnf); first | exact True.intro | (refine (?_ : statOk _ = true); kernel_rfl) | (refine (?_ : dynOk _ _ = true); kernel_rfl) | refine And.intro ?_ ?_ | intro _)
    all_goals (try (conv => whnf))
    all_goals (try with_reducible rfl)
    all_goals simp
  · rintro i ⟨hi, hj⟩
    have hw1 : i < xs.length → w (k + 2 * (i : Int) + 1) = k + 2 * (i : Int) + 1 := fun h => w_id (by omega)
    have hw2 : i < xs.length → w (k + 2 * (i : Int) + 1 + 1) = k + 2 * (i : Int) + 1 + 1 := fun h => w_id (by omega)
    repeat' ((conv => whnf); first | exact True.intro | (refine (?_ : statOk _ = true); kernel_rfl) | (refine (?_ : dynOk _ _ = true); kernel_rfl) | refine And.intro ?_ ?_ | intro _)
    all_goals (try (conv => whnf))
    all_goals (try with_reducible rfl)
    all_goals (try (refine (⟨i + 1, ?_⟩ : Exists _)))
    repeat' ((conv => whnf); first | exact True.intro | (refine (?_ : statOk _ = true); kernel_rfl) | (refine (?_ : dynOk _ _ = true); kernel_rfl) | refine And.intro ?_ ?_ | intro _)
    all_goals (try (conv => whnf))
    all_goals (try with_reducible rfl)
    all_goals (try simp only [pOk, wrap_w, pre_iff, cast_L, cast_X, cut_lo, cut_hi, cut_both, cut_none, toNat_0, toNat_1, toNat_2, Int.toNat_natCast, List.length_cons, List.length_nil, Nat.zero_add, eq_Pt, eq_Frac, eq_Term, eq_Linear, eq_Row, eq_System, eq_Cubic, eq_Quad, eq_Knot, eq_LoopT, eq_Outline, eq_Segm, eq_Token, eq_Stmt, eq_Curve, decide_eq_true_eq, decide_eq_false_iff_not, ge_iff_le, gt_iff_lt, eta_Pt, eta_Frac, eta_Term, eta_Linear, eta_Row, eta_System, eta_Cubic, eta_Quad, eta_Knot, eta_LoopT, eta_Outline, eta_Segm, eta_Token, eta_Stmt, eta_Curve, Int.ofNat_lt, Int.ofNat_le, Bool.not_eq_true', Bool.not_eq_false'] at *)
    all_goals (try simp only [w_addl] at *)
    all_goals try (have hlt : i < xs.length := by omega
                   simp only [hw1 hlt, hw2 hlt] at *)
    all_goals first | omega | (rw [w_succ]; omega) | (rw [if_pos (held_e (by assumption) hi hj)]; omega) | (rw [if_neg]; intro e; have e2 := held_el e (by assumption); simp only [e2] at *; omega) | (refine ⟨by omega, held_t (by omega) hj ?_⟩; simp only [eq_Pt, eq_Quad, eq_Cubic, eq_Knot, eq_Frac, eq_Term, eq_LoopT, eq_Linear, eq_Row]; omega) | trace_state















end GV

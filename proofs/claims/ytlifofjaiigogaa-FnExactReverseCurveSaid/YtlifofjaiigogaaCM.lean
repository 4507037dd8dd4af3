/-
  Contracts: valid curves, the reference's side. No condition beyond those named.
-/
import Derived.Test.YtlifofjaiigogaaCL
namespace GV
open Go Go.Proofs
set_option linter.unusedSimpArgs false
set_option linter.unusedVariables false

def sB (c : Curve) (i : Nat) : Bool := vPt (el c.Knots (i : Int)) && !((decide ((i : Int) < (c.Knots.length : Int) - 1) || c.Closed) && decide (el c.Knots (i : Int) = el c.Knots (((i + 1) % c.Knots.length : Nat) : Int)))

theorem vPt_f {ks : List Pt} {i : Nat} (hi : i < ks.length) (h : vPt (el ks (i : Int)) = false) : ks.all vPt = false := by
  rw [el_nth hi] at h
  rw [List.all_eq_false]
  exact ⟨ks[i], List.getElem_mem hi, by simp [h]⟩

theorem vCrv_s {c : Curve} {i : Nat} (hi : i < c.Knots.length) (h : sB c i = false) : vCrv c = false := by
  unfold sB at h
  by_cases hv : vPt (el c.Knots (i : Int)) = true
  · rw [hv] at h
    simp only [Bool.true_and, Bool.not_eq_false', Bool.and_eq_true, Bool.or_eq_true, decide_eq_true_eq] at h
    obtain ⟨h1, h2⟩ := h
    by_cases hj : i + 1 < c.Knots.length
    · rw [Nat.mod_eq_of_lt hj] at h2
      exact vCrv_adj (rng_f (j := i) (by omega) (by unfold adjP; simp [h2]))
    · have hc : c.Closed = true := by
        rcases h1 with h1 | h1
        · exact absurd h1 (by omega)
        · exact h1
      have e : i + 1 = c.Knots.length := by omega
      rw [e, Nat.mod_self] at h2
      refine vCrv_end ?_
      unfold endB
      rw [hc, show c.Knots.length - 1 = i by omega, h2]
      simp
  · exact vCrv_pts (vPt_f hi (by simpa using hv))

theorem vCrv_all {c : Curve} (h : (List.range c.Knots.length).all (sB c) = true) (h2 : 2 ≤ c.Knots.length) :
    c.Knots.all vPt = true ∧ adjB c.Knots = true ∧ (c.Closed = true → ¬ el c.Knots 0 = el c.Knots ((c.Knots.length - 1 : Nat) : Int)) := by
  rw [List.all_eq_true] at h
  have h' : ∀ i, i < c.Knots.length → sB c i = true := fun i hi => h i (List.mem_range.2 hi)
  unfold sB at h'
  refine ⟨?_, ?_, ?_⟩
  · rw [List.all_eq_true]
    intro x hx
    obtain ⟨i, hi, rfl⟩ := List.getElem_of_mem hx
    have := h' i hi
    rw [el_nth hi] at this
    simp only [Bool.and_eq_true] at this
    exact this.1
  · unfold adjB
    rw [List.all_eq_true]
    intro i hi
    have hi := List.mem_range.1 hi
    have := h' i (by omega)
    rw [Nat.mod_eq_of_lt (by omega : i + 1 < c.Knots.length)] at this
    simp only [Bool.and_eq_true, Bool.not_eq_true', Bool.and_eq_false_iff, decide_eq_false_iff_not, Bool.or_eq_false_iff] at this
    unfold adjP
    simp only [decide_eq_true_eq]
    intro e
    rcases this.2 with h3 | h3
    · exact absurd (by omega : (i : Int) < (c.Knots.length : Int) - 1) h3.1
    · exact h3 e.symm
  · intro hc e
    have := h' (c.Knots.length - 1) (by omega)
    rw [show c.Knots.length - 1 + 1 = c.Knots.length by omega, Nat.mod_self, hc] at this
    simp only [Bool.and_eq_true, Bool.not_eq_true', Bool.and_eq_false_iff, decide_eq_false_iff_not, Bool.or_eq_false_iff] at this
    rcases this.2 with h3 | h3
    · exact absurd h3.2 (by simp)
    · exact h3 e.symm

theorem vCrv_end2 {c : Curve} (h : c.Closed = true) (h2 : c.FixFirst = true ∨ c.FixLast = true) : vCrv c = false := by
  refine vCrv_end ?_
  unfold endB
  rcases h2 with h2 | h2 <;> simp [h, h2]
theorem vCrv_ten {c : Curve} (h : ¬ (3 ≤ c.Tension ∧ c.Tension ≤ 12)) : vCrv c = false := by
  refine vCrv_slope ?_
  unfold slopeB
  by_cases h1 : 3 ≤ c.Tension
  · simp [show ¬ c.Tension ≤ 12 from fun h2 => h ⟨h1, h2⟩]
  · simp [h1]


def K_spec_ValidPt : Con := conOf false [.a .pt] fun ⟨p, _⟩ =>
  (fun (p : Pt) =>
  (none, [], .c (.bool false (vPt p)))) p

def E_spec_ValidPt : Env := { nt := 5, nm := 0, tab := tab, con := (conCons 99 K_spec_l03Ok con0), eqt := eqt, fz := [], cuts := [] }

set_option maxRecDepth 1000000 in
set_option maxHeartbeats 4000000 in
theorem c_spec_ValidPt : COk Try.prog 80 K_spec_ValidPt := by
  refine cok_fun (E := E_spec_ValidPt) Try.func80 rfl rfl (by rfl) mix_ok tab_ok (eq_ok rfl) (con_cons c_spec_l03Ok con0_ok) rfl rfl (by decide) ?_
  rintro ⟨(p : Pt), u0⟩ h0
  repeat' ((conv => whnf); first | exact True.intro | (refine (?_ : statOk _ = true); kernel_rfl) | (refine (?_ : dynOk _ _ = true); kernel_rfl) | refine And.intro ?_ ?_ | intro _)
  all_goals (try (conv => whnf))
  all_goals (try simp only [pOk, wrap_w, pre_iff, cast_L, cast_X, cut_lo, cut_hi, cut_both, cut_none, toNat_0, toNat_1, toNat_2, Int.toNat_natCast, List.length_cons, List.length_nil, Nat.zero_add, eq_Pt, eq_Frac, eq_Term, eq_Linear, eq_Row, eq_System, eq_Cubic, eq_Quad, eq_Knot, eq_LoopT, eq_Outline, eq_Segm, eq_Token, eq_Stmt, eq_Curve, decide_eq_true_eq, decide_eq_false_iff_not, ge_iff_le, gt_iff_lt, eta_Pt, eta_Frac, eta_Term, eta_Linear, eta_Row, eta_System, eta_Cubic, eta_Quad, eta_Knot, eta_LoopT, eta_Outline, eta_Segm, eta_Token, eta_Stmt, eta_Curve, Int.ofNat_lt, Int.ofNat_le, Bool.not_eq_true', Bool.not_eq_false'] at *)
  all_goals first | omega | (simp_all; done) | (simp_all; omega) | grind



def K_spec_l06Ok : Con := conOf false [.p .curve] fun ⟨c, _⟩ =>
  (fun (c : Curve) =>
  (none, [], .c (.bool false (vCrv c)))) c

def E_spec_l06Ok : Env := { nt := 133, nm := 0, tab := tab, con := (conCons 98 K_spec_l00In (conCons 80 K_spec_ValidPt con0)), eqt := eqt, fz := [], cuts := [] }

set_option maxRecDepth 1000000 in
set_option maxHeartbeats 4000000 in
theorem c_spec_l06Ok : COk Try.prog 68 K_spec_l06Ok := by
  refine cok_fun (E := E_spec_l06Ok) Try.func68 rfl rfl (by rfl) mix_ok tab_ok (eq_ok rfl) (con_cons c_spec_l00In (con_cons c_spec_ValidPt con0_ok)) rfl rfl (by decide) ?_
  rintro ⟨(c : Curve), u0⟩ h0
  repeat' ((conv => whnf); first | exact True.intro | (refine (?_ : statOk _ = true); kernel_rfl) | (refine (?_ : dynOk _ _ = true); kernel_rfl) | refine And.intro ?_ ?_ | intro _)
  all_goals (try (conv => whnf))
  all_goals (try with_reducible rfl)
  all_goals first
    | (show AW _ _ _ _)
    | ((try simp only [pOk, wrap_w, pre_iff, cast_L, cast_X, cut_lo, cut_hi, cut_both, cut_none, toNat_0, toNat_1, toNat_2, Int.toNat_natCast, List.length_cons, List.length_nil, Nat.zero_add, eq_Pt, eq_Frac, eq_Term, eq_Linear, eq_Row, eq_System, eq_Cubic, eq_Quad, eq_Knot, eq_LoopT, eq_Outline, eq_Segm, eq_Token, eq_Stmt, eq_Curve, decide_eq_true_eq, decide_eq_false_iff_not, ge_iff_le, gt_iff_lt, eta_Pt, eta_Frac, eta_Term, eta_Linear, eta_Row, eta_System, eta_Cubic, eta_Quad, eta_Knot, eta_LoopT, eta_Outline, eta_Segm, eta_Token, eta_Stmt, eta_Curve, Int.ofNat_lt, Int.ofNat_le, Bool.not_eq_true', Bool.not_eq_false'] at *)
       (try simp only [Bool.and_eq_false_iff, decide_eq_false_iff_not, Bool.and_eq_true, decide_eq_true_eq] at *)
       first
         | (rw [vCrv_ten (c := c) (by omega)]; done)
         | (rw [vCrv_end2 (by assumption) (.inl (by assumption))]; done)
         | (rw [vCrv_end2 (by assumption) (.inr (by assumption))]; done)
         | (rw [vCrv_len (by rw [least_t (by assumption)]; omega)]; done)
         | (rw [vCrv_len (by rw [least_f (by assumption)]; omega)]; done)
         | trace_state)
  all_goals
    have hlen : least c ≤ c.Knots.length ∧ c.Knots.length ≤ 10 := by
      (try simp only [Bool.not_eq_false', Bool.and_eq_true, decide_eq_true_eq] at *)
      first | (rw [least_t (by assumption)]; omega) | (rw [least_f (by assumption)]; omega)
    have h2 : 2 ≤ least c := by unfold least; split <;> omega
    refine aw_loopT (fun j : Nat => [(5, .c (.int .i64 j))]) (fun _ => []) (fun j => j ≤ c.Knots.length ∧ (List.range j).all (sB c) = true) (fun j => c.Knots.length - j) 0 ?_ ?_ ?_
    · exact ⟨by omega, rfl⟩
    · repeat' ((conv => whnf); first | exact True.intro | (refine (?_ : statOk _ = true); kernel_rfl) | (refine (?_ : dynOk _ _ = true); kernel_rfl) | refine And.intro ?_ ?_ | intro _)
      all_goals (try (conv => whnf))
      all_goals (try with_reducible rfl)
      all_goals simp
    · rintro j ⟨hi, hj⟩
      have hn : w ((c.Knots.length : Int) - 1) = (c.Knots.length : Int) - 1 := by rw [w_id] <;> omega
      have hw : w ((j : Int) + 1) = (j : Int) + 1 := by rw [w_id] <;> omega
      have ht : ((j : Int) + 1).tmod (c.Knots.length : Int) = (((j + 1) % c.Knots.length : Nat) : Int) := by
        rw [Int.ofNat_tmod]; rfl
      have hm : (((j + 1) % c.Knots.length : Nat) : Int) < (c.Knots.length : Int) := by
        have := Nat.mod_lt (j + 1) (show 0 < c.Knots.length by omega)
        omega
      have hp : (0 : Int) ≤ (((j + 1) % c.Knots.length : Nat) : Int) := Int.natCast_nonneg _
      repeat' ((conv => whnf); first | exact True.intro | (refine (?_ : statOk _ = true); kernel_rfl) | (refine (?_ : dynOk _ _ = true); kernel_rfl) | refine And.intro ?_ ?_ | intro _)
      all_goals (try (conv => whnf))
      all_goals (try with_reducible rfl)
      all_goals (try (refine (⟨j + 1, ?_⟩ : Exists _)))
      repeat' ((conv => whnf); first | exact True.intro | (refine (?_ : statOk _ = true); kernel_rfl) | (refine (?_ : dynOk _ _ = true); kernel_rfl) | refine And.intro ?_ ?_ | intro _)
      all_goals (try (conv => whnf))
      all_goals (try with_reducible rfl)
      all_goals (try simp only [pOk, wrap_w, pre_iff, cast_L, cast_X, cut_lo, cut_hi, cut_both, cut_none, toNat_0, toNat_1, toNat_2, Int.toNat_natCast, List.length_cons, List.length_nil, Nat.zero_add, eq_Pt, eq_Frac, eq_Term, eq_Linear, eq_Row, eq_System, eq_Cubic, eq_Quad, eq_Knot, eq_LoopT, eq_Outline, eq_Segm, eq_Token, eq_Stmt, eq_Curve, decide_eq_true_eq, decide_eq_false_iff_not, ge_iff_le, gt_iff_lt, eta_Pt, eta_Frac, eta_Term, eta_Linear, eta_Row, eta_System, eta_Cubic, eta_Quad, eta_Knot, eta_LoopT, eta_Outline, eta_Segm, eta_Token, eta_Stmt, eta_Curve, Int.ofNat_lt, Int.ofNat_le, Bool.not_eq_true', Bool.not_eq_false'] at *)
      all_goals (try simp only [hn, hw, ht] at *)
      all_goals first
        | omega
        | exact ⟨hp, hm⟩
        | (simp_all; done)
        | (rw [vCrv_s (c := c) (i := j) (by omega) (by simp only [sB, eq_Pt]; simp_all)]; done)
        | (refine ⟨by omega, rng_t (by simp only [sB, eq_Pt]; clear ht hm hp hj; generalize (((j + 1) % c.Knots.length : Nat) : Int) = k at *; (try simp_all); all_goals grind) hj⟩)
        | (have hjl : j = c.Knots.length := by omega
           obtain ⟨ha, hb, hc⟩ := vCrv_all (hjl ▸ hj) (by omega)
           rw [vCrv_rest hlen ha hb]
           simp only [endB, slopeB, zeroB, eq_Pt] at *
           first | (simp_all; done) | grind | trace_state)
        | trace_state


def K_spec_ValidCurve : Con := conOf false [.a .curve] fun ⟨c, _⟩ =>
  (fun (c : Curve) =>
  (none, [], .c (.bool false (vCrv c)))) c

def E_spec_ValidCurve : Env := { nt := 4, nm := 0, tab := tab, con := (conCons 68 K_spec_l06Ok con0), eqt := eqt, fz := [], cuts := [] }

set_option maxRecDepth 1000000 in
set_option maxHeartbeats 4000000 in
theorem c_spec_ValidCurve : COk Try.prog 25 K_spec_ValidCurve := by
  refine cok_fun (E := E_spec_ValidCurve) Try.func25 rfl rfl (by rfl) mix_ok tab_ok (eq_ok rfl) (con_cons c_spec_l06Ok con0_ok) rfl rfl (by decide) ?_
  rintro ⟨(c : Curve), u0⟩ h0
  repeat' ((conv => whnf); first | exact True.intro | (refine (?_ : statOk _ = true); kernel_rfl) | (refine (?_ : dynOk _ _ = true); kernel_rfl) | refine And.intro ?_ ?_ | intro _)
  all_goals (try (conv => whnf))
  all_goals (try simp only [pOk, wrap_w, pre_iff, cast_L, cast_X, cut_lo, cut_hi, cut_both, cut_none, toNat_0, toNat_1, toNat_2, Int.toNat_natCast, List.length_cons, List.length_nil, Nat.zero_add, eq_Pt, eq_Frac, eq_Term, eq_Linear, eq_Row, eq_System, eq_Cubic, eq_Quad, eq_Knot, eq_LoopT, eq_Outline, eq_Segm, eq_Token, eq_Stmt, eq_Curve, decide_eq_true_eq, decide_eq_false_iff_not, ge_iff_le, gt_iff_lt, eta_Pt, eta_Frac, eta_Term, eta_Linear, eta_Row, eta_System, eta_Cubic, eta_Quad, eta_Knot, eta_LoopT, eta_Outline, eta_Segm, eta_Token, eta_Stmt, eta_Curve, Int.ofNat_lt, Int.ofNat_le, Bool.not_eq_true', Bool.not_eq_false'] at *)
  all_goals first | omega | (simp_all; done) | (simp_all; omega) | grind


end GV

/-
  Contracts: outlines. No condition beyond those named.
-/
import Derived.Test.YtlifofjaiigogaaCJ
namespace GV
open Go Go.Proofs
set_option linter.unusedSimpArgs false
set_option linter.unusedVariables false

/-- the sizes of all elements -/
def sumL {α : Type} (f : α → Nat) (xs : List α) : Nat := (xs.map f).sum
theorem sumL_succ {α : Type} [Inhabited α] (f : α → Nat) {xs : List α} {i : Nat} (h : i < xs.length) : sumL f (xs.take (i + 1)) = sumL f (xs.take i) + f (el xs i) := by
  unfold sumL; rw [take_succ_el h, List.map_append, List.sum_append]; simp
theorem sumL_le {α : Type} (f : α → Nat) (xs : List α) (i : Nat) : sumL f (xs.take i) ≤ sumL f xs := by
  have : sumL f xs = sumL f (xs.take i) + sumL f (xs.drop i) := by
    unfold sumL; rw [← List.sum_append, ← List.map_append, List.take_append_drop]
  omega
theorem sumL_mem {α : Type} [Inhabited α] (f : α → Nat) {xs : List α} {i : Nat} (h : i < xs.length) : f (el xs i) ≤ sumL f xs := by
  have := sumL_succ f h
  have := sumL_le f xs (i + 1)
  omega
theorem sumL_all {α : Type} (f : α → Nat) {xs : List α} {i : Nat} (h : ¬ i < xs.length) : sumL f (xs.take i) = sumL f xs := by rw [List.take_of_length_le (by omega)]

def szL (l : LoopT) : Nat := l.Knots.length


def K_laws_szLoopS : Con := conOf false [.s .loop, .a .int] fun ⟨xs, l, _⟩ =>
  (fun (xs : List LoopT) (l : Int) =>
  (some (0 ≤ l ∧ l ≤ 1048576), [], .c (.int .i64 (subF l (xs.length + sumL szL xs : Nat))))) xs l

def E_laws_szLoopS : Env := { nt := 27, nm := 0, tab := tab, con := (conCons 20 K_laws_szLoop con0), eqt := eqt, fz := [], cuts := [] }

set_option maxRecDepth 1000000 in
set_option maxHeartbeats 4000000 in
theorem c_laws_szLoopS : COk Try.prog 70 K_laws_szLoopS := by
  refine cok_fun (E := E_laws_szLoopS) Try.func70 rfl rfl (by rfl) mix_ok tab_ok (eq_ok rfl) (con_cons c_laws_szLoop con0_ok) rfl rfl (by decide) ?_
  rintro ⟨(xs : List LoopT), (l : Int), u0⟩ h0
  have hl : 0 ≤ l ∧ l ≤ 1048576 := h0
  repeat' ((conv => whnf); first | exact True.intro | (refine (?_ : statOk _ = true); kernel_rfl) | (refine (?_ : dynOk _ _ = true); kernel_rfl) | refine And.intro ?_ ?_ | intro _)
  all_goals (try (conv => whnf))
  all_goals (try with_reducible rfl)
  · all_goals (try simp only [pOk, wrap_w, pre_iff, cast_L, cast_X, cut_lo, cut_hi, cut_both, cut_none, toNat_0, toNat_1, toNat_2, Int.toNat_natCast, List.length_cons, List.length_nil, Nat.zero_add, eq_Pt, eq_Frac, eq_Term, eq_Linear, eq_Row, eq_System, eq_Cubic, eq_Quad, eq_Knot, eq_LoopT, eq_Outline, eq_Segm, eq_Token, eq_Stmt, eq_Curve, decide_eq_true_eq, decide_eq_false_iff_not, ge_iff_le, gt_iff_lt, eta_Pt, eta_Frac, eta_Term, eta_Linear, eta_Row, eta_System, eta_Cubic, eta_Quad, eta_Knot, eta_LoopT, eta_Outline, eta_Segm, eta_Token, eta_Stmt, eta_Curve, Int.ofNat_lt, Int.ofNat_le, Bool.not_eq_true', Bool.not_eq_false'] at *)
    rename_i h1 h2
    rw [w_id (by omega)] at h2
    unfold subF; rw [if_pos (by omega)]
  · rename_i h1 h2
    simp only [wrap_w, decide_eq_false_iff_not] at h2
    rw [w_id (by omega)] at h2
    refine aw_loopT (fun i : Nat => [(5, .c (.int .i64 i)), (1, .c (.int .i64 (l - xs.length - sumL szL (xs.take i))))]) (fun _ => []) (fun i => i ≤ xs.length ∧ 0 ≤ l - xs.length - sumL szL (xs.take i)) (fun i => xs.length - i) 0 ?_ ?_ ?_
    · exact ⟨Nat.zero_le _, by simp [sumL]; omega⟩
    · repeat' ((conv => whnf); first | exact True.intro | (refine (?_ : statOk _ = true); kernel_rfl) | (refine (?_ : dynOk _ _ = true); kernel_rfl) | refine And.intro ?_ ?_ | intro _)
      all_goals (try (conv => whnf))
      all_goals (try with_reducible rfl)
      all_goals (try simp only [wrap_w])
      all_goals first | (rw [w_id (by omega)]; simp [sumL]; done) | simp
    · rintro i ⟨hi, hj⟩
      have hle := sumL_le szL xs (i + 1)
      have hs := sumL_succ (xs := xs) (i := i) szL
      have hsz : (el xs (i : Int)).Knots.length = szL (el xs (i : Int)) := rfl
      repeat' ((conv => whnf); first | exact True.intro | (refine (?_ : statOk _ = true); kernel_rfl) | (refine (?_ : dynOk _ _ = true); kernel_rfl) | refine And.intro ?_ ?_ | intro _)
      all_goals (try (conv => whnf))
      all_goals (try with_reducible rfl)
      all_goals (try (refine (⟨i + 1, ?_⟩ : Exists _)))
      repeat' ((conv => whnf); first | exact True.intro | (refine (?_ : statOk _ = true); kernel_rfl) | (refine (?_ : dynOk _ _ = true); kernel_rfl) | refine And.intro ?_ ?_ | intro _)
      all_goals (try (conv => whnf))
      all_goals (try with_reducible rfl)
      all_goals (try simp only [pOk, wrap_w, pre_iff, cast_L, cast_X, cut_lo, cut_hi, cut_both, cut_none, toNat_0, toNat_1, toNat_2, Int.toNat_natCast, List.length_cons, List.length_nil, Nat.zero_add, eq_Pt, eq_Frac, eq_Term, eq_Linear, eq_Row, eq_System, eq_Cubic, eq_Quad, eq_Knot, eq_LoopT, eq_Outline, eq_Segm, eq_Token, eq_Stmt, eq_Curve, decide_eq_true_eq, decide_eq_false_iff_not, ge_iff_le, gt_iff_lt, eta_Pt, eta_Frac, eta_Term, eta_Linear, eta_Row, eta_System, eta_Cubic, eta_Quad, eta_Knot, eta_LoopT, eta_Outline, eta_Segm, eta_Token, eta_Stmt, eta_Curve, Int.ofNat_lt, Int.ofNat_le, Bool.not_eq_true', Bool.not_eq_false'] at *)
      all_goals (try simp only [subF_lt, hsz] at *)
      all_goals first
        | omega
        | (rw [w_succ]; omega)
        | (have hs := hs (by assumption); first | omega | (rw [subF_eq (by assumption)]; omega) | (unfold subF; rw [if_pos (by omega)]; done) | (refine ⟨by omega, ?_⟩; omega))
        | (rw [sumL_all szL (by assumption), subF_eq (by rw [sumL_all szL (by assumption)] at hj; omega)]; omega)
        | trace_state


def K_laws_szOutline : Con := conOf false [.a .outline, .a .int] fun ⟨c, l, _⟩ =>
  (fun (c : Outline) (l : Int) =>
  (some (0 ≤ l ∧ l ≤ 1048576), [], .c (.int .i64 (subF l (c.Loops.length + sumL szL c.Loops : Nat))))) c l

def E_laws_szOutline : Env := { nt := 12, nm := 0, tab := tab, con := (conCons 70 K_laws_szLoopS con0), eqt := eqt, fz := [], cuts := [] }

set_option maxRecDepth 1000000 in
set_option maxHeartbeats 4000000 in
theorem c_laws_szOutline : COk Try.prog 27 K_laws_szOutline := by
  refine cok_fun (E := E_laws_szOutline) Try.func27 rfl rfl (by rfl) mix_ok tab_ok (eq_ok rfl) (con_cons c_laws_szLoopS con0_ok) rfl rfl (by decide) ?_
  rintro ⟨(c : Outline), (l : Int), u0⟩ h0
  repeat' ((conv => whnf); first | exact True.intro | (refine (?_ : statOk _ = true); kernel_rfl) | (refine (?_ : dynOk _ _ = true); kernel_rfl) | refine And.intro ?_ ?_ | intro _)
  all_goals (try (conv => whnf))
  all_goals (try simp only [pOk, wrap_w, pre_iff, cast_L, cast_X, cut_lo, cut_hi, cut_both, cut_none, toNat_0, toNat_1, toNat_2, Int.toNat_natCast, List.length_cons, List.length_nil, Nat.zero_add, eq_Pt, eq_Frac, eq_Term, eq_Linear, eq_Row, eq_System, eq_Cubic, eq_Quad, eq_Knot, eq_LoopT, eq_Outline, eq_Segm, eq_Token, eq_Stmt, eq_Curve, decide_eq_true_eq, decide_eq_false_iff_not, ge_iff_le, gt_iff_lt, eta_Pt, eta_Frac, eta_Term, eta_Linear, eta_Row, eta_System, eta_Cubic, eta_Quad, eta_Knot, eta_LoopT, eta_Outline, eta_Segm, eta_Token, eta_Stmt, eta_Curve, Int.ofNat_lt, Int.ofNat_le, Bool.not_eq_true', Bool.not_eq_false'] at *)
  · exact h0
  · rename_i h1 h2
    have := subF_lt.1 h2
    unfold subF; rw [if_pos (by omega)]



def K_laws_toLoopS : Con := conOf true [.s .loop] fun ⟨xs, _⟩ =>
  (fun (xs : List LoopT) =>
  (some (xs.length + sumL szL xs ≤ 1048576), [.seq .loop xs], .c (.sl 0 0))) xs

def E_laws_toLoopS : Env := { nt := 23, nm := 0, tab := tab, con := (conCons 22 K_laws_toLoop con0), eqt := eqt, fz := [], cuts := [] }

set_option maxRecDepth 1000000 in
set_option maxHeartbeats 4000000 in
theorem c_laws_toLoopS : COk Try.prog 72 K_laws_toLoopS := by
  refine cok_fun (E := E_laws_toLoopS) Try.func72 rfl rfl (by rfl) mix_ok tab_ok (eq_ok rfl) (con_cons c_laws_toLoop con0_ok) rfl rfl (by decide) ?_
  rintro ⟨(xs : List LoopT), u0⟩ h0
  have hx : xs.length + sumL szL xs ≤ 1048576 := h0
  repeat' ((conv => whnf); first | exact True.intro | (refine (?_ : statOk _ = true); kernel_rfl) | (refine (?_ : dynOk _ _ = true); kernel_rfl) | refine And.intro ?_ ?_ | intro _)
  all_goals (try (conv => whnf))
  all_goals (try with_reducible rfl)
  · exact ⟨by omega, by omega, by omega⟩
  · refine aw_loopT (fun i : Nat => [(4, .c (.int .i64 i))]) (fun i => [(7, 1, .seq .loop (xs.take i ++ (List.replicate xs.length (dflt .loop)).drop i))]) (fun i => i ≤ xs.length) (fun i => xs.length - i) 0 ?_ ?_ ?_
    · exact Nat.zero_le _
    · repeat' ((conv => whnf); first | exact True.intro | (refine (?_ : statOk _ = true); kernel_rfl) | (refine (?_ : dynOk _ _ = true); kernel_rfl) | refine And.intro ?_ ?_ | intro _)
      all_goals (try (conv => whnf))
      all_goals (try with_reducible rfl)
      all_goals simp
    · intro i hi
      have hm := sumL_mem (xs := xs) (i := i) szL
      have hsz : (el xs (i : Int)).Knots.length = szL (el xs (i : Int)) := rfl
      repeat' ((conv => whnf); first | exact True.intro | (refine (?_ : statOk _ = true); kernel_rfl) | (refine (?_ : dynOk _ _ = true); kernel_rfl) | refine And.intro ?_ ?_ | intro _)
      all_goals (try (conv => whnf))
      all_goals (try with_reducible rfl)
      all_goals (try (refine (⟨i + 1, ?_⟩ : Exists _)))
      repeat' ((conv => whnf); first | exact True.intro | (refine (?_ : statOk _ = true); kernel_rfl) | (refine (?_ : dynOk _ _ = true); kernel_rfl) | refine And.intro ?_ ?_ | intro _)
      all_goals (try (conv => whnf))
      all_goals (try with_reducible rfl)
      all_goals (try simp only [pOk, wrap_w, pre_iff, cast_L, cast_X, decide_eq_true_eq, decide_eq_false_iff_not, Int.ofNat_lt, eta_LoopT, List.length_append, List.length_drop, List.length_replicate, List.length_take, Int.toNat_natCast, hsz] at *)
      all_goals first | omega | (rw [w_succ]; omega) | (refine ⟨by omega, ?_⟩; omega) | (have := hm (by assumption); omega) | (exact copy_step ⟨by omega, by rw [List.length_replicate]; omega⟩ rfl) | (exact copy_end ⟨by omega, List.length_replicate⟩) | trace_state


def K_laws_toOutline : Con := conOf true [.a .outline] fun ⟨c, _⟩ =>
  (fun (c : Outline) =>
  (some (c.Loops.length + sumL szL c.Loops ≤ 1048576), [.seq .loop c.Loops], .agg [.sl 0 0])) c

def E_laws_toOutline : Env := { nt := 9, nm := 0, tab := tab, con := (conCons 72 K_laws_toLoopS con0), eqt := eqt, fz := [], cuts := [] }

set_option maxRecDepth 1000000 in
set_option maxHeartbeats 4000000 in
theorem c_laws_toOutline : COk Try.prog 29 K_laws_toOutline := by
  refine cok_fun (E := E_laws_toOutline) Try.func29 rfl rfl (by rfl) mix_ok tab_ok (eq_ok rfl) (con_cons c_laws_toLoopS con0_ok) rfl rfl (by decide) ?_
  rintro ⟨(c : Outline), u0⟩ h0
  repeat' ((conv => whnf); first | exact True.intro | (refine (?_ : statOk _ = true); kernel_rfl) | (refine (?_ : dynOk _ _ = true); kernel_rfl) | refine And.intro ?_ ?_ | intro _)
  all_goals (try (conv => whnf))
  all_goals (try simp only [pOk, wrap_w, pre_iff, cast_L, cast_X, cut_lo, cut_hi, cut_both, cut_none, toNat_0, toNat_1, toNat_2, Int.toNat_natCast, List.length_cons, List.length_nil, Nat.zero_add, eq_Pt, eq_Frac, eq_Term, eq_Linear, eq_Row, eq_System, eq_Cubic, eq_Quad, eq_Knot, eq_LoopT, eq_Outline, eq_Segm, eq_Token, eq_Stmt, eq_Curve, decide_eq_true_eq, decide_eq_false_iff_not, ge_iff_le, gt_iff_lt, eta_Pt, eta_Frac, eta_Term, eta_Linear, eta_Row, eta_System, eta_Cubic, eta_Quad, eta_Knot, eta_LoopT, eta_Outline, eta_Segm, eta_Token, eta_Stmt, eta_Curve, Int.ofNat_lt, Int.ofNat_le, Bool.not_eq_true', Bool.not_eq_false'] at *)
  all_goals first | omega | (simp_all; done) | (simp_all; omega) | grind



def K_laws_eqLoopS : Con := conOf false [.s .loop, .s .loop] fun ⟨xs, ys, _⟩ =>
  (fun (xs : List LoopT) (ys : List LoopT) =>
  (none, [], .c (.bool false (decide (xs = ys))))) xs ys

def E_laws_eqLoopS : Env := { nt := 27, nm := 0, tab := tab, con := (conCons 24 K_laws_eqLoop con0), eqt := eqt, fz := [], cuts := [] }

set_option maxRecDepth 1000000 in
set_option maxHeartbeats 4000000 in
theorem c_laws_eqLoopS : COk Try.prog 75 K_laws_eqLoopS := by
  refine cok_fun (E := E_laws_eqLoopS) Try.func75 rfl rfl (by rfl) mix_ok tab_ok (eq_ok rfl) (con_cons c_laws_eqLoop con0_ok) rfl rfl (by decide) ?_
  rintro ⟨(xs : List LoopT), (ys : List LoopT), u0⟩ h0
  repeat' ((conv => whnf); first | exact True.intro | (refine (?_ : statOk _ = true); kernel_rfl) | (refine (?_ : dynOk _ _ = true); kernel_rfl) | refine And.intro ?_ ?_ | intro _)
  all_goals (try (conv => whnf))
  all_goals (try with_reducible rfl)
  · all_goals (try simp only [pOk, wrap_w, pre_iff, cast_L, cast_X, cut_lo, cut_hi, cut_both, cut_none, toNat_0, toNat_1, toNat_2, Int.toNat_natCast, List.length_cons, List.length_nil, Nat.zero_add, eq_Pt, eq_Frac, eq_Term, eq_Linear, eq_Row, eq_System, eq_Cubic, eq_Quad, eq_Knot, eq_LoopT, eq_Outline, eq_Segm, eq_Token, eq_Stmt, eq_Curve, decide_eq_true_eq, decide_eq_false_iff_not, ge_iff_le, gt_iff_lt, eta_Pt, eta_Frac, eta_Term, eta_Linear, eta_Row, eta_System, eta_Cubic, eta_Quad, eta_Knot, eta_LoopT, eta_Outline, eta_Segm, eta_Token, eta_Stmt, eta_Curve, Int.ofNat_lt, Int.ofNat_le, Bool.not_eq_true', Bool.not_eq_false'] at *)
    rename_i h
    exact (decide_eq_false fun e => h (by rw [e])).symm
  · rename_i hl0 hl1 hl2
    refine aw_loopT (fun i : Nat => [(5, .c (.int .i64 i))]) (fun _ => []) (fun i => i ≤ xs.length ∧ xs.take i = ys.take i) (fun i => xs.length - i) 0 ?_ ?_ ?_
    · exact ⟨Nat.zero_le _, rfl⟩
    · repeat' ((conv => whnf); first | exact True.intro | (refine (?_ : statOk _ = true); kernel_rfl) | (refine (?_ : dynOk _ _ = true); kernel_rfl) | refine And.intro ?_ ?_ | intro _)
      all_goals (try (conv => whnf))
      all_goals (try with_reducible rfl)
      all_goals simp
    · rintro i ⟨hi, hj⟩
      repeat' ((conv => whnf); first | exact True.intro | (refine (?_ : statOk _ = true); kernel_rfl) | (refine (?_ : dynOk _ _ = true); kernel_rfl) | refine And.intro ?_ ?_ | intro _)
      all_goals (try (conv => whnf))
      all_goals (try with_reducible rfl)
      all_goals (try (refine (⟨i + 1, ?_⟩ : Exists _)))
      repeat' ((conv => whnf); first | exact True.intro | (refine (?_ : statOk _ = true); kernel_rfl) | (refine (?_ : dynOk _ _ = true); kernel_rfl) | refine And.intro ?_ ?_ | intro _)
      all_goals (try (conv => whnf))
      all_goals (try with_reducible rfl)
      all_goals (try simp only [pOk, wrap_w, pre_iff, cast_L, cast_X, cut_lo, cut_hi, cut_both, cut_none, toNat_0, toNat_1, toNat_2, Int.toNat_natCast, List.length_cons, List.length_nil, Nat.zero_add, eq_Pt, eq_Frac, eq_Term, eq_Linear, eq_Row, eq_System, eq_Cubic, eq_Quad, eq_Knot, eq_LoopT, eq_Outline, eq_Segm, eq_Token, eq_Stmt, eq_Curve, decide_eq_true_eq, decide_eq_false_iff_not, ge_iff_le, gt_iff_lt, eta_Pt, eta_Frac, eta_Term, eta_Linear, eta_Row, eta_System, eta_Cubic, eta_Quad, eta_Knot, eta_LoopT, eta_Outline, eta_Segm, eta_Token, eta_Stmt, eta_Curve, Int.ofNat_lt, Int.ofNat_le, Bool.not_eq_true', Bool.not_eq_false'] at *)
      all_goals first | omega | (rw [w_succ]; omega) | (refine (decide_eq_false (eq_f (by assumption) ?_)).symm; simp only [ne_eq, eq_Pt, eq_Quad, eq_Cubic, eq_Knot, eq_Frac, eq_Term, eq_LoopT, eq_Linear, eq_Row]; assumption) | (refine ⟨by omega, eq_t (by omega) (by omega) ?_ hj⟩; simp only [eq_Pt, eq_Quad, eq_Cubic, eq_Knot, eq_Frac, eq_Term, eq_LoopT, eq_Linear, eq_Row]; assumption) | exact (decide_eq_true (eq_e (by assumption) (by omega) hj)).symm | trace_state



def K_laws_eqOutline : Con := conOf false [.a .outline, .a .outline] fun ⟨a, b, _⟩ =>
  (fun (a : Outline) (b : Outline) =>
  (none, [], .c (.bool false (decide (a = b))))) a b

def E_laws_eqOutline : Env := { nt := 11, nm := 0, tab := tab, con := (conCons 75 K_laws_eqLoopS con0), eqt := eqt, fz := [], cuts := [] }

set_option maxRecDepth 1000000 in
set_option maxHeartbeats 4000000 in
theorem c_laws_eqOutline : COk Try.prog 31 K_laws_eqOutline := by
  refine cok_fun (E := E_laws_eqOutline) Try.func31 rfl rfl (by rfl) mix_ok tab_ok (eq_ok rfl) (con_cons c_laws_eqLoopS con0_ok) rfl rfl (by decide) ?_
  rintro ⟨(a : Outline), (b : Outline), u0⟩ h0
  repeat' ((conv => whnf); first | exact True.intro | (refine (?_ : statOk _ = true); kernel_rfl) | (refine (?_ : dynOk _ _ = true); kernel_rfl) | refine And.intro ?_ ?_ | intro _)
  all_goals (try (conv => whnf))
  all_goals (try simp only [pOk, wrap_w, pre_iff, cast_L, cast_X, cut_lo, cut_hi, cut_both, cut_none, toNat_0, toNat_1, toNat_2, Int.toNat_natCast, List.length_cons, List.length_nil, Nat.zero_add, eq_Pt, eq_Frac, eq_Term, eq_Linear, eq_Row, eq_System, eq_Cubic, eq_Quad, eq_Knot, eq_LoopT, eq_Outline, eq_Segm, eq_Token, eq_Stmt, eq_Curve, decide_eq_true_eq, decide_eq_false_iff_not, ge_iff_le, gt_iff_lt, eta_Pt, eta_Frac, eta_Term, eta_Linear, eta_Row, eta_System, eta_Cubic, eta_Quad, eta_Knot, eta_LoopT, eta_Outline, eta_Segm, eta_Token, eta_Stmt, eta_Curve, Int.ofNat_lt, Int.ofNat_le, Bool.not_eq_true', Bool.not_eq_false'] at *)
  all_goals first | omega | (simp_all; done) | (simp_all; omega) | grind


def vOut (o : Outline) : Bool := decide (o.Loops.length ≤ 12) && o.Loops.all vLoop


def K_impl_ValidOutline_1 : Con := conOf false [.a .loop] fun ⟨l, _⟩ =>
  (fun (l : LoopT) =>
  (none, [], .c (.bool false (!vLoop l)))) l

def E_impl_ValidOutline_1 : Env := { nt := 6, nm := 0, tab := tab, con := (conCons 23 K_impl_ValidLoop con0), eqt := eqt, fz := [], cuts := [] }

set_option maxRecDepth 1000000 in
set_option maxHeartbeats 4000000 in
theorem c_impl_ValidOutline_1 : COk Try.prog 74 K_impl_ValidOutline_1 := by
  refine cok_fun (E := E_impl_ValidOutline_1) Try.func74 rfl rfl (by rfl) mix_ok tab_ok (eq_ok rfl) (con_cons c_impl_ValidLoop con0_ok) rfl rfl (by decide) ?_
  rintro ⟨(l : LoopT), u0⟩ h0
  repeat' ((conv => whnf); first | exact True.intro | (refine (?_ : statOk _ = true); kernel_rfl) | (refine (?_ : dynOk _ _ = true); kernel_rfl) | refine And.intro ?_ ?_ | intro _)
  all_goals (try (conv => whnf))
  all_goals (try simp only [pOk, wrap_w, pre_iff, cast_L, cast_X, cut_lo, cut_hi, cut_both, cut_none, toNat_0, toNat_1, toNat_2, Int.toNat_natCast, List.length_cons, List.length_nil, Nat.zero_add, eq_Pt, eq_Frac, eq_Term, eq_Linear, eq_Row, eq_System, eq_Cubic, eq_Quad, eq_Knot, eq_LoopT, eq_Outline, eq_Segm, eq_Token, eq_Stmt, eq_Curve, decide_eq_true_eq, decide_eq_false_iff_not, ge_iff_le, gt_iff_lt, eta_Pt, eta_Frac, eta_Term, eta_Linear, eta_Row, eta_System, eta_Cubic, eta_Quad, eta_Knot, eta_LoopT, eta_Outline, eta_Segm, eta_Token, eta_Stmt, eta_Curve, Int.ofNat_lt, Int.ofNat_le, Bool.not_eq_true', Bool.not_eq_false'] at *)
  all_goals first | omega | (simp_all; done) | (simp_all; omega) | grind



def K_slices_IndexFunc_impl_Loop_impl_Loop : Con := conOf false [.s .loop, .f 74] fun ⟨xs, f, _⟩ =>
  (fun (xs : List LoopT) (f : Unit) =>
  (none, [], .c (.int .i64 (idxF (fun k => !vLoop k) xs)))) xs f

def E_slices_IndexFunc_impl_Loop_impl_Loop : Env := { nt := 19, nm := 0, tab := tab, con := (conCons 74 K_impl_ValidOutline_1 con0), eqt := eqt, fz := [], cuts := [] }

set_option maxRecDepth 1000000 in
set_option maxHeartbeats 4000000 in
theorem c_slices_IndexFunc_impl_Loop_impl_Loop : COk Try.prog 103 K_slices_IndexFunc_impl_Loop_impl_Loop := by
  refine cok_fun (E := E_slices_IndexFunc_impl_Loop_impl_Loop) Try.func103 rfl rfl (by rfl) mix_ok tab_ok (eq_ok rfl) (con_cons c_impl_ValidOutline_1 con0_ok) rfl rfl (by decide) ?_
  rintro ⟨(xs : List LoopT), f, u0⟩ h0
  repeat' ((conv => whnf); first | exact True.intro | (refine (?_ : statOk _ = true); kernel_rfl) | (refine (?_ : dynOk _ _ = true); kernel_rfl) | refine And.intro ?_ ?_ | intro _)
  all_goals (try (conv => whnf))
  all_goals (try with_reducible rfl)
  refine aw_loopT (fun i : Nat => [(8, .c (.int .i64 i))]) (fun _ => []) (fun i => i ≤ xs.length ∧ (xs.take i).any (fun k => !vLoop k) = false) (fun i => xs.length - i) 0 ?_ ?_ ?_
  · simp
  · repeat' ((conv => whnf); first | exact True.intro | (refine (?_ : statOk _ = true); kernel_rfl) | (refine (?_ : dynOk _ _ = true); kernel_rfl) | refine And.intro ?_ ?_ | intro _)
    all_goals (try (conv => whnf))
    all_goals (try with_reducible rfl)
    all_goals simp
  · rintro i ⟨hi, hj⟩
    repeat' ((conv => whnf); first | exact True.intro | (refine (?_ : statOk _ = true); kernel_rfl) | (refine (?_ : dynOk _ _ = true); kernel_rfl) | refine And.intro ?_ ?_ | intro _)
    all_goals (try (conv => whnf))
    all_goals (try with_reducible rfl)
    all_goals (try (refine (⟨i + 1, ?_⟩ : Exists _)))
    repeat' ((conv => whnf); first | exact True.intro | (refine (?_ : statOk _ = true); kernel_rfl) | (refine (?_ : dynOk _ _ = true); kernel_rfl) | refine And.intro ?_ ?_ | intro _)
    all_goals (try (conv => whnf))
    all_goals (try with_reducible rfl)
    all_goals (try simp only [pOk, wrap_w, pre_iff, cast_L, cast_X, cut_lo, cut_hi, cut_both, cut_none, toNat_0, toNat_1, toNat_2, Int.toNat_natCast, List.length_cons, List.length_nil, Nat.zero_add, eq_Pt, eq_Frac, eq_Term, eq_Linear, eq_Row, eq_System, eq_Cubic, eq_Quad, eq_Knot, eq_LoopT, eq_Outline, eq_Segm, eq_Token, eq_Stmt, eq_Curve, decide_eq_true_eq, decide_eq_false_iff_not, ge_iff_le, gt_iff_lt, eta_Pt, eta_Frac, eta_Term, eta_Linear, eta_Row, eta_System, eta_Cubic, eta_Quad, eta_Knot, eta_LoopT, eta_Outline, eta_Segm, eta_Token, eta_Stmt, eta_Curve, Int.ofNat_lt, Int.ofNat_le, Bool.not_eq_true', Bool.not_eq_false'] at *)
    all_goals first | omega | (rw [w_succ]; omega) | (refine idxF_in (by assumption) ?_ hj; simp_all; done) | (refine ⟨by omega, any_f (by assumption) ?_ hj⟩; simp_all; done) | (refine idxF_out (any_e (by assumption) hj).symm) | trace_state


def K_slices_ContainsFunc_impl_Loop_impl_Loop : Con := conOf false [.s .loop, .f 74] fun ⟨xs, f, _⟩ =>
  (fun (xs : List LoopT) (f : Unit) =>
  (none, [], .c (.bool false (xs.any (fun k => !vLoop k))))) xs f

def E_slices_ContainsFunc_impl_Loop_impl_Loop : Env := { nt := 9, nm := 0, tab := tab, con := (conCons 103 K_slices_IndexFunc_impl_Loop_impl_Loop con0), eqt := eqt, fz := [], cuts := [] }

set_option maxRecDepth 1000000 in
set_option maxHeartbeats 4000000 in
theorem c_slices_ContainsFunc_impl_Loop_impl_Loop : COk Try.prog 73 K_slices_ContainsFunc_impl_Loop_impl_Loop := by
  refine cok_fun (E := E_slices_ContainsFunc_impl_Loop_impl_Loop) Try.func73 rfl rfl (by rfl) mix_ok tab_ok (eq_ok rfl) (con_cons c_slices_IndexFunc_impl_Loop_impl_Loop con0_ok) rfl rfl (by decide) ?_
  rintro ⟨(xs : List LoopT), f, u0⟩ h0
  repeat' ((conv => whnf); first | exact True.intro | (refine (?_ : statOk _ = true); kernel_rfl) | (refine (?_ : dynOk _ _ = true); kernel_rfl) | refine And.intro ?_ ?_ | intro _)
  all_goals (try (conv => whnf))
  all_goals (try simp only [pOk, wrap_w, pre_iff, cast_L, cast_X, cut_lo, cut_hi, cut_both, cut_none, toNat_0, toNat_1, toNat_2, Int.toNat_natCast, List.length_cons, List.length_nil, Nat.zero_add, eq_Pt, eq_Frac, eq_Term, eq_Linear, eq_Row, eq_System, eq_Cubic, eq_Quad, eq_Knot, eq_LoopT, eq_Outline, eq_Segm, eq_Token, eq_Stmt, eq_Curve, decide_eq_true_eq, decide_eq_false_iff_not, ge_iff_le, gt_iff_lt, eta_Pt, eta_Frac, eta_Term, eta_Linear, eta_Row, eta_System, eta_Cubic, eta_Quad, eta_Knot, eta_LoopT, eta_Outline, eta_Segm, eta_Token, eta_Stmt, eta_Curve, Int.ofNat_lt, Int.ofNat_le, Bool.not_eq_true', Bool.not_eq_false'] at *)
  all_goals exact idxF_nonneg



def K_impl_ValidOutline : Con := conOf false [.a .outline] fun ⟨o, _⟩ =>
  (fun (o : Outline) =>
  (none, [], .c (.bool false (vOut o)))) o

def E_impl_ValidOutline : Env := { nt := 13, nm := 0, tab := tab, con := (conCons 73 K_slices_ContainsFunc_impl_Loop_impl_Loop (conCons 74 K_impl_ValidOutline_1 con0)), eqt := eqt, fz := [], cuts := [] }

set_option maxRecDepth 1000000 in
set_option maxHeartbeats 4000000 in
theorem c_impl_ValidOutline : COk Try.prog 30 K_impl_ValidOutline := by
  refine cok_fun (E := E_impl_ValidOutline) Try.func30 rfl rfl (by rfl) mix_ok tab_ok (eq_ok rfl) (con_cons c_slices_ContainsFunc_impl_Loop_impl_Loop (con_cons c_impl_ValidOutline_1 con0_ok)) rfl rfl (by decide) ?_
  rintro ⟨(o : Outline), u0⟩ h0
  repeat' ((conv => whnf); first | exact True.intro | (refine (?_ : statOk _ = true); kernel_rfl) | (refine (?_ : dynOk _ _ = true); kernel_rfl) | refine And.intro ?_ ?_ | intro _)
  all_goals (try (conv => whnf))
  all_goals (try simp only [pOk, wrap_w, pre_iff, cast_L, cast_X, cut_lo, cut_hi, cut_both, cut_none, toNat_0, toNat_1, toNat_2, Int.toNat_natCast, List.length_cons, List.length_nil, Nat.zero_add, eq_Pt, eq_Frac, eq_Term, eq_Linear, eq_Row, eq_System, eq_Cubic, eq_Quad, eq_Knot, eq_LoopT, eq_Outline, eq_Segm, eq_Token, eq_Stmt, eq_Curve, decide_eq_true_eq, decide_eq_false_iff_not, ge_iff_le, gt_iff_lt, eta_Pt, eta_Frac, eta_Term, eta_Linear, eta_Row, eta_System, eta_Cubic, eta_Quad, eta_Knot, eta_LoopT, eta_Outline, eta_Segm, eta_Token, eta_Stmt, eta_Curve, Int.ofNat_lt, Int.ofNat_le, Bool.not_eq_true', Bool.not_eq_false'] at *)
  all_goals first
    | (have h' : o.Loops.length ≤ 12 := by omega
       rw [not_any_not]
       simp [vOut, h']; done)
    | (have h' : ¬ o.Loops.length ≤ 12 := by omega
       simp [vOut, h']; done)
    | trace_state



def K_spec_l10Ok : Con := conOf false [.p .outline] fun ⟨o, _⟩ =>
  (fun (o : Outline) =>
  (none, [], .c (.bool false (vOut o)))) o

def E_spec_l10Ok : Env := { nt := 27, nm := 0, tab := tab, con := (conCons 62 K_spec_l10Loop con0), eqt := eqt, fz := [], cuts := [] }

set_option maxRecDepth 1000000 in
set_option maxHeartbeats 4000000 in
theorem c_spec_l10Ok : COk Try.prog 71 K_spec_l10Ok := by
  refine cok_fun (E := E_spec_l10Ok) Try.func71 rfl rfl (by rfl) mix_ok tab_ok (eq_ok rfl) (con_cons c_spec_l10Loop con0_ok) rfl rfl (by decide) ?_
  rintro ⟨(o : Outline), u0⟩ h0
  repeat' ((conv => whnf); first | exact True.intro | (refine (?_ : statOk _ = true); kernel_rfl) | (refine (?_ : dynOk _ _ = true); kernel_rfl) | refine And.intro ?_ ?_ | intro _)
  all_goals (try (conv => whnf))
  all_goals (try with_reducible rfl)
  refine aw_loopT (fun i : Nat => [(3, .c (.int .i64 i))]) (fun _ => []) (fun i => i ≤ o.Loops.length ∧ (o.Loops.take i).all vLoop = true) (fun i => o.Loops.length - i) 0 ?_ ?_ ?_
  · simp
  · repeat' ((conv => whnf); first | exact True.intro | (refine (?_ : statOk _ = true); kernel_rfl) | (refine (?_ : dynOk _ _ = true); kernel_rfl) | refine And.intro ?_ ?_ | intro _)
    all_goals (try (conv => whnf))
    all_goals (try with_reducible rfl)
    all_goals simp
  · rintro i ⟨hi, hj⟩
    repeat' ((conv => whnf); first | exact True.intro | (refine (?_ : statOk _ = true); kernel_rfl) | (refine (?_ : dynOk _ _ = true); kernel_rfl) | refine And.intro ?_ ?_ | intro _)
    all_goals (try (conv => whnf))
    all_goals (try with_reducible rfl)
    all_goals (try (refine (⟨i + 1, ?_⟩ : Exists _)))
    repeat' ((conv => whnf); first | exact True.intro | (refine (?_ : statOk _ = true); kernel_rfl) | (refine (?_ : dynOk _ _ = true); kernel_rfl) | refine And.intro ?_ ?_ | intro _)
    all_goals (try (conv => whnf))
    all_goals (try with_reducible rfl)
    all_goals (try simp only [pOk, wrap_w, pre_iff, cast_L, cast_X, cut_lo, cut_hi, cut_both, cut_none, toNat_0, toNat_1, toNat_2, Int.toNat_natCast, List.length_cons, List.length_nil, Nat.zero_add, eq_Pt, eq_Frac, eq_Term, eq_Linear, eq_Row, eq_System, eq_Cubic, eq_Quad, eq_Knot, eq_LoopT, eq_Outline, eq_Segm, eq_Token, eq_Stmt, eq_Curve, decide_eq_true_eq, decide_eq_false_iff_not, ge_iff_le, gt_iff_lt, eta_Pt, eta_Frac, eta_Term, eta_Linear, eta_Row, eta_System, eta_Cubic, eta_Quad, eta_Knot, eta_LoopT, eta_Outline, eta_Segm, eta_Token, eta_Stmt, eta_Curve, Int.ofNat_lt, Int.ofNat_le, Bool.not_eq_true', Bool.not_eq_false'] at *)
    all_goals first | omega | (rw [w_succ]; omega) | (refine ⟨by omega, all_t (by omega) (by assumption) hj⟩) | (simp only [vOut, ← all_f (by assumption) (by assumption)]; simp; done) | (simp only [vOut, ← all_e (by assumption) hj]; simp; omega) | (simp only [vOut, ← all_e (by assumption) hj]; simp; done) | trace_state


def K_spec_ValidOutline : Con := conOf false [.a .outline] fun ⟨o, _⟩ =>
  (fun (o : Outline) =>
  (none, [], .c (.bool false (vOut o)))) o

def E_spec_ValidOutline : Env := { nt := 4, nm := 0, tab := tab, con := (conCons 71 K_spec_l10Ok con0), eqt := eqt, fz := [], cuts := [] }

set_option maxRecDepth 1000000 in
set_option maxHeartbeats 4000000 in
theorem c_spec_ValidOutline : COk Try.prog 28 K_spec_ValidOutline := by
  refine cok_fun (E := E_spec_ValidOutline) Try.func28 rfl rfl (by rfl) mix_ok tab_ok (eq_ok rfl) (con_cons c_spec_l10Ok con0_ok) rfl rfl (by decide) ?_
  rintro ⟨(o : Outline), u0⟩ h0
  repeat' ((conv => whnf); first | exact True.intro | (refine (?_ : statOk _ = true); kernel_rfl) | (refine (?_ : dynOk _ _ = true); kernel_rfl) | refine And.intro ?_ ?_ | intro _)
  all_goals (try (conv => whnf))
  all_goals (try simp only [pOk, wrap_w, pre_iff, cast_L, cast_X, cut_lo, cut_hi, cut_both, cut_none, toNat_0, toNat_1, toNat_2, Int.toNat_natCast, List.length_cons, List.length_nil, Nat.zero_add, eq_Pt, eq_Frac, eq_Term, eq_Linear, eq_Row, eq_System, eq_Cubic, eq_Quad, eq_Knot, eq_LoopT, eq_Outline, eq_Segm, eq_Token, eq_Stmt, eq_Curve, decide_eq_true_eq, decide_eq_false_iff_not, ge_iff_le, gt_iff_lt, eta_Pt, eta_Frac, eta_Term, eta_Linear, eta_Row, eta_System, eta_Cubic, eta_Quad, eta_Knot, eta_LoopT, eta_Outline, eta_Segm, eta_Token, eta_Stmt, eta_Curve, Int.ofNat_lt, Int.ofNat_le, Bool.not_eq_true', Bool.not_eq_false'] at *)
  all_goals first | omega | (simp_all; done) | (simp_all; omega) | grind



def K_slices_Equal_impl_Knot_impl_Knot : Con := conOf false [.s .knot, .s .knot] fun ⟨xs, ys, _⟩ =>
  (fun (xs : List Knot) (ys : List Knot) =>
  (none, [], .c (.bool false (decide (xs = ys))))) xs ys

def E_slices_Equal_impl_Knot_impl_Knot : Env := { nt := 26, nm := 0, tab := tab, con := con0, eqt := eqt, fz := [], cuts := [] }

set_option maxRecDepth 1000000 in
set_option maxHeartbeats 4000000 in
theorem c_slices_Equal_impl_Knot_impl_Knot : COk Try.prog 79 K_slices_Equal_impl_Knot_impl_Knot := by
  refine cok_fun (E := E_slices_Equal_impl_Knot_impl_Knot) Try.func79 rfl rfl (by rfl) mix_ok tab_ok (eq_ok rfl) con0_ok rfl rfl (by decide) ?_
  rintro ⟨(xs : List Knot), (ys : List Knot), u0⟩ h0
  repeat' ((conv => whnf); first | exact True.intro | (refine (?_ : statOk _ = true); kernel_rfl) | (refine (?_ : dynOk _ _ = true); kernel_rfl) | refine And.intro ?_ ?_ | intro _)
  all_goals (try (conv => whnf))
  all_goals (try with_reducible rfl)
  · all_goals (try simp only [pOk, wrap_w, pre_iff, cast_L, cast_X, cut_lo, cut_hi, cut_both, cut_none, toNat_0, toNat_1, toNat_2, Int.toNat_natCast, List.length_cons, List.length_nil, Nat.zero_add, eq_Pt, eq_Frac, eq_Term, eq_Linear, eq_Row, eq_System, eq_Cubic, eq_Quad, eq_Knot, eq_LoopT, eq_Outline, eq_Segm, eq_Token, eq_Stmt, eq_Curve, decide_eq_true_eq, decide_eq_false_iff_not, ge_iff_le, gt_iff_lt, eta_Pt, eta_Frac, eta_Term, eta_Linear, eta_Row, eta_System, eta_Cubic, eta_Quad, eta_Knot, eta_LoopT, eta_Outline, eta_Segm, eta_Token, eta_Stmt, eta_Curve, Int.ofNat_lt, Int.ofNat_le, Bool.not_eq_true', Bool.not_eq_false'] at *)
    rename_i h
    exact (decide_eq_false fun e => h (by rw [e])).symm
  · rename_i hl0 hl1 hl2
    refine aw_loopT (fun i : Nat => [(13, .c (.int .i64 i))]) (fun _ => []) (fun i => i ≤ xs.length ∧ xs.take i = ys.take i) (fun i => xs.length - i) 0 ?_ ?_ ?_
    · exact ⟨Nat.zero_le _, rfl⟩
    · repeat' ((conv => whnf); first | exact True.intro | (refine (?_ : statOk _ = true); kernel_rfl) | (refine (?_ : dynOk _ _ = true); kernel_rfl) | refine And.intro ?_ ?_ | intro _)
      all_goals (try (conv => whnf))
      all_goals (try with_reducible rfl)
      all_goals simp
    · rintro i ⟨hi, hj⟩
      repeat' ((conv => whnf); first | exact True.intro | (refine (?_ : statOk _ = true); kernel_rfl) | (refine (?_ : dynOk _ _ = true); kernel_rfl) | refine And.intro ?_ ?_ | intro _)
      all_goals (try (conv => whnf))
      all_goals (try with_reducible rfl)
      all_goals (try (refine (⟨i + 1, ?_⟩ : Exists _)))
      repeat' ((conv => whnf); first | exact True.intro | (refine (?_ : statOk _ = true); kernel_rfl) | (refine (?_ : dynOk _ _ = true); kernel_rfl) | refine And.intro ?_ ?_ | intro _)
      all_goals (try (conv => whnf))
      all_goals (try with_reducible rfl)
      all_goals (try simp only [pOk, wrap_w, pre_iff, cast_L, cast_X, cut_lo, cut_hi, cut_both, cut_none, toNat_0, toNat_1, toNat_2, Int.toNat_natCast, List.length_cons, List.length_nil, Nat.zero_add, eq_Pt, eq_Frac, eq_Term, eq_Linear, eq_Row, eq_System, eq_Cubic, eq_Quad, eq_Knot, eq_LoopT, eq_Outline, eq_Segm, eq_Token, eq_Stmt, eq_Curve, decide_eq_true_eq, decide_eq_false_iff_not, ge_iff_le, gt_iff_lt, eta_Pt, eta_Frac, eta_Term, eta_Linear, eta_Row, eta_System, eta_Cubic, eta_Quad, eta_Knot, eta_LoopT, eta_Outline, eta_Segm, eta_Token, eta_Stmt, eta_Curve, Int.ofNat_lt, Int.ofNat_le, Bool.not_eq_true', Bool.not_eq_false'] at *)
      all_goals first | omega | (rw [w_succ]; omega) | (refine (decide_eq_false (eq_f (by assumption) ?_)).symm; simp only [ne_eq, eq_Knot, eq_Pt]; simp_all; done) | (refine ⟨by omega, eq_t (by omega) (by omega) ?_ hj⟩; simp only [eq_Knot, eq_Pt]; simp_all; done) | exact (decide_eq_true (eq_e (by assumption) (by omega) hj)).symm | trace_state


def K_impl_SameOutline_1 : Con := conOf false [.a .loop, .a .loop] fun ⟨a, b, _⟩ =>
  (fun (a : LoopT) (b : LoopT) =>
  (none, [], .c (.bool false (decide (a = b))))) a b

def E_impl_SameOutline_1 : Env := { nt := 10, nm := 0, tab := tab, con := (conCons 79 K_slices_Equal_impl_Knot_impl_Knot con0), eqt := eqt, fz := [], cuts := [] }

set_option maxRecDepth 1000000 in
set_option maxHeartbeats 4000000 in
theorem c_impl_SameOutline_1 : COk Try.prog 78 K_impl_SameOutline_1 := by
  refine cok_fun (E := E_impl_SameOutline_1) Try.func78 rfl rfl (by rfl) mix_ok tab_ok (eq_ok rfl) (con_cons c_slices_Equal_impl_Knot_impl_Knot con0_ok) rfl rfl (by decide) ?_
  rintro ⟨(a : LoopT), (b : LoopT), u0⟩ h0
  repeat' ((conv => whnf); first | exact True.intro | (refine (?_ : statOk _ = true); kernel_rfl) | (refine (?_ : dynOk _ _ = true); kernel_rfl) | refine And.intro ?_ ?_ | intro _)
  all_goals (try (conv => whnf))
  all_goals (try simp only [pOk, wrap_w, pre_iff, cast_L, cast_X, cut_lo, cut_hi, cut_both, cut_none, toNat_0, toNat_1, toNat_2, Int.toNat_natCast, List.length_cons, List.length_nil, Nat.zero_add, eq_Pt, eq_Frac, eq_Term, eq_Linear, eq_Row, eq_System, eq_Cubic, eq_Quad, eq_Knot, eq_LoopT, eq_Outline, eq_Segm, eq_Token, eq_Stmt, eq_Curve, decide_eq_true_eq, decide_eq_false_iff_not, ge_iff_le, gt_iff_lt, eta_Pt, eta_Frac, eta_Term, eta_Linear, eta_Row, eta_System, eta_Cubic, eta_Quad, eta_Knot, eta_LoopT, eta_Outline, eta_Segm, eta_Token, eta_Stmt, eta_Curve, Int.ofNat_lt, Int.ofNat_le, Bool.not_eq_true', Bool.not_eq_false'] at *)
  all_goals first | omega | (simp_all; done) | (simp_all; omega) | grind



def K_slices_EqualFunc_impl_Loop_impl_Loop_impl_Loop_impl_Loop : Con := conOf false [.s .loop, .s .loop, .f 78] fun ⟨xs, ys, f, _⟩ =>
  (fun (xs : List LoopT) (ys : List LoopT) (f : Unit) =>
  (none, [], .c (.bool false (decide (xs = ys))))) xs ys f

def E_slices_EqualFunc_impl_Loop_impl_Loop_impl_Loop_impl_Loop : Env := { nt := 32, nm := 0, tab := tab, con := (conCons 78 K_impl_SameOutline_1 con0), eqt := eqt, fz := [], cuts := [] }

set_option maxRecDepth 1000000 in
set_option maxHeartbeats 4000000 in
theorem c_slices_EqualFunc_impl_Loop_impl_Loop_impl_Loop_impl_Loop : COk Try.prog 77 K_slices_EqualFunc_impl_Loop_impl_Loop_impl_Loop_impl_Loop := by
  refine cok_fun (E := E_slices_EqualFunc_impl_Loop_impl_Loop_impl_Loop_impl_Loop) Try.func77 rfl rfl (by rfl) mix_ok tab_ok (eq_ok rfl) (con_cons c_impl_SameOutline_1 con0_ok) rfl rfl (by decide) ?_
  rintro ⟨(xs : List LoopT), (ys : List LoopT), f, u0⟩ h0
  repeat' ((conv => whnf); first | exact True.intro | (refine (?_ : statOk _ = true); kernel_rfl) | (refine (?_ : dynOk _ _ = true); kernel_rfl) | refine And.intro ?_ ?_ | intro _)
  all_goals (try (conv => whnf))
  all_goals (try with_reducible rfl)
  · all_goals (try simp only [pOk, wrap_w, pre_iff, cast_L, cast_X, cut_lo, cut_hi, cut_both, cut_none, toNat_0, toNat_1, toNat_2, Int.toNat_natCast, List.length_cons, List.length_nil, Nat.zero_add, eq_Pt, eq_Frac, eq_Term, eq_Linear, eq_Row, eq_System, eq_Cubic, eq_Quad, eq_Knot, eq_LoopT, eq_Outline, eq_Segm, eq_Token, eq_Stmt, eq_Curve, decide_eq_true_eq, decide_eq_false_iff_not, ge_iff_le, gt_iff_lt, eta_Pt, eta_Frac, eta_Term, eta_Linear, eta_Row, eta_System, eta_Cubic, eta_Quad, eta_Knot, eta_LoopT, eta_Outline, eta_Segm, eta_Token, eta_Stmt, eta_Curve, Int.ofNat_lt, Int.ofNat_le, Bool.not_eq_true', Bool.not_eq_false'] at *)
    rename_i h
    exact (decide_eq_false fun e => h (by rw [e])).symm
  · rename_i hl0 hl1 hl2
    refine aw_loopT (fun i : Nat => [(17, .c (.int .i64 i))]) (fun _ => []) (fun i => i ≤ xs.length ∧ xs.take i = ys.take i) (fun i => xs.length - i) 0 ?_ ?_ ?_
    · exact ⟨Nat.zero_le _, rfl⟩
    · repeat' ((conv => whnf); first | exact True.intro | (refine (?_ : statOk _ = true); kernel_rfl) | (refine (?_ : dynOk _ _ = true); kernel_rfl) | refine And.intro ?_ ?_ | intro _)
      all_goals (try (conv => whnf))
      all_goals (try with_reducible rfl)
      all_goals simp
    · rintro i ⟨hi, hj⟩
      repeat' ((conv => whnf); first | exact True.intro | (refine (?_ : statOk _ = true); kernel_rfl) | (refine (?_ : dynOk _ _ = true); kernel_rfl) | refine And.intro ?_ ?_ | intro _)
      all_goals (try (conv => whnf))
      all_goals (try with_reducible rfl)
      all_goals (try (refine (⟨i + 1, ?_⟩ : Exists _)))
      repeat' ((conv => whnf); first | exact True.intro | (refine (?_ : statOk _ = true); kernel_rfl) | (refine (?_ : dynOk _ _ = true); kernel_rfl) | refine And.intro ?_ ?_ | intro _)
      all_goals (try (conv => whnf))
      all_goals (try with_reducible rfl)
      all_goals (try simp only [pOk, wrap_w, pre_iff, cast_L, cast_X, cut_lo, cut_hi, cut_both, cut_none, toNat_0, toNat_1, toNat_2, Int.toNat_natCast, List.length_cons, List.length_nil, Nat.zero_add, eq_Pt, eq_Frac, eq_Term, eq_Linear, eq_Row, eq_System, eq_Cubic, eq_Quad, eq_Knot, eq_LoopT, eq_Outline, eq_Segm, eq_Token, eq_Stmt, eq_Curve, decide_eq_true_eq, decide_eq_false_iff_not, ge_iff_le, gt_iff_lt, eta_Pt, eta_Frac, eta_Term, eta_Linear, eta_Row, eta_System, eta_Cubic, eta_Quad, eta_Knot, eta_LoopT, eta_Outline, eta_Segm, eta_Token, eta_Stmt, eta_Curve, Int.ofNat_lt, Int.ofNat_le, Bool.not_eq_true', Bool.not_eq_false'] at *)
      all_goals first | omega | (rw [w_succ]; omega) | (refine (decide_eq_false (eq_f (by assumption) ?_)).symm; simp only [ne_eq, eq_LoopT]; simp_all; done) | (refine ⟨by omega, eq_t (by omega) (by omega) ?_ hj⟩; simp only [eq_LoopT]; simp_all; done) | exact (decide_eq_true (eq_e (by assumption) (by omega) hj)).symm | trace_state


def K_impl_SameOutline : Con := conOf false [.a .outline, .a .outline] fun ⟨a, b, _⟩ =>
  (fun (a : Outline) (b : Outline) =>
  (none, [], .c (.bool false (decide (a = b))))) a b

def E_impl_SameOutline : Env := { nt := 10, nm := 0, tab := tab, con := (conCons 77 K_slices_EqualFunc_impl_Loop_impl_Loop_impl_Loop_impl_Loop (conCons 78 K_impl_SameOutline_1 con0)), eqt := eqt, fz := [], cuts := [] }

set_option maxRecDepth 1000000 in
set_option maxHeartbeats 4000000 in
theorem c_impl_SameOutline : COk Try.prog 33 K_impl_SameOutline := by
  refine cok_fun (E := E_impl_SameOutline) Try.func33 rfl rfl (by rfl) mix_ok tab_ok (eq_ok rfl) (con_cons c_slices_EqualFunc_impl_Loop_impl_Loop_impl_Loop_impl_Loop (con_cons c_impl_SameOutline_1 con0_ok)) rfl rfl (by decide) ?_
  rintro ⟨(a : Outline), (b : Outline), u0⟩ h0
  repeat' ((conv => whnf); first | exact True.intro | (refine (?_ : statOk _ = true); kernel_rfl) | (refine (?_ : dynOk _ _ = true); kernel_rfl) | refine And.intro ?_ ?_ | intro _)
  all_goals (try (conv => whnf))
  all_goals (try simp only [pOk, wrap_w, pre_iff, cast_L, cast_X, cut_lo, cut_hi, cut_both, cut_none, toNat_0, toNat_1, toNat_2, Int.toNat_natCast, List.length_cons, List.length_nil, Nat.zero_add, eq_Pt, eq_Frac, eq_Term, eq_Linear, eq_Row, eq_System, eq_Cubic, eq_Quad, eq_Knot, eq_LoopT, eq_Outline, eq_Segm, eq_Token, eq_Stmt, eq_Curve, decide_eq_true_eq, decide_eq_false_iff_not, ge_iff_le, gt_iff_lt, eta_Pt, eta_Frac, eta_Term, eta_Linear, eta_Row, eta_System, eta_Cubic, eta_Quad, eta_Knot, eta_LoopT, eta_Outline, eta_Segm, eta_Token, eta_Stmt, eta_Curve, Int.ofNat_lt, Int.ofNat_le, Bool.not_eq_true', Bool.not_eq_false'] at *)
  all_goals first | omega | (simp_all; done) | (simp_all; omega) | grind



def K_spec_l10Same : Con := conOf false [.p .loop, .p .loop] fun ⟨a, b, _⟩ =>
  (fun (a : LoopT) (b : LoopT) =>
  (none, [], .c (.bool false (decide (a = b))))) a b

def E_spec_l10Same : Env := { nt := 41, nm := 0, tab := tab, con := con0, eqt := eqt, fz := [], cuts := [] }

set_option maxRecDepth 1000000 in
set_option maxHeartbeats 4000000 in
theorem c_spec_l10Same : COk Try.prog 76 K_spec_l10Same := by
  refine cok_fun (E := E_spec_l10Same) Try.func76 rfl rfl (by rfl) mix_ok tab_ok (eq_ok rfl) con0_ok rfl rfl (by decide) ?_
  rintro ⟨(a : LoopT), (b : LoopT), u0⟩ h0
  repeat' ((conv => whnf); first | exact True.intro | (refine (?_ : statOk _ = true); kernel_rfl) | (refine (?_ : dynOk _ _ = true); kernel_rfl) | refine And.intro ?_ ?_ | intro _)
  all_goals (try (conv => whnf))
  all_goals (try with_reducible rfl)
  all_goals first | (show AW _ _ _ _) | ((try simp only [pOk, wrap_w, pre_iff, cast_L, cast_X, cut_lo, cut_hi, cut_both, cut_none, toNat_0, toNat_1, toNat_2, Int.toNat_natCast, List.length_cons, List.length_nil, Nat.zero_add, eq_Pt, eq_Frac, eq_Term, eq_Linear, eq_Row, eq_System, eq_Cubic, eq_Quad, eq_Knot, eq_LoopT, eq_Outline, eq_Segm, eq_Token, eq_Stmt, eq_Curve, decide_eq_true_eq, decide_eq_false_iff_not, ge_iff_le, gt_iff_lt, eta_Pt, eta_Frac, eta_Term, eta_Linear, eta_Row, eta_System, eta_Cubic, eta_Quad, eta_Knot, eta_LoopT, eta_Outline, eta_Segm, eta_Token, eta_Stmt, eta_Curve, Int.ofNat_lt, Int.ofNat_le, Bool.not_eq_true', Bool.not_eq_false'] at *); grind) | trace_state
  rename_i hl2
  simp only [decide_eq_false_iff_not] at hl2
  refine aw_loopT (fun i : Nat => [(5, .c (.int .i64 i))]) (fun _ => []) (fun i => i ≤ a.Knots.length ∧ a.Knots.take i = b.Knots.take i) (fun i => a.Knots.length - i) 0 ?_ ?_ ?_
  · exact ⟨Nat.zero_le _, rfl⟩
  · repeat' ((conv => whnf); first | exact True.intro | (refine (?_ : statOk _ = true); kernel_rfl) | (refine (?_ : dynOk _ _ = true); kernel_rfl) | refine And.intro ?_ ?_ | intro _)
    all_goals (try (conv => whnf))
    all_goals (try with_reducible rfl)
    all_goals simp
  · rintro i ⟨hi, hj⟩
    repeat' ((conv => whnf); first | exact True.intro | (refine (?_ : statOk _ = true); kernel_rfl) | (refine (?_ : dynOk _ _ = true); kernel_rfl) | refine And.intro ?_ ?_ | intro _)
    all_goals (try (conv => whnf))
    all_goals (try with_reducible rfl)
    all_goals (try (refine (⟨i + 1, ?_⟩ : Exists _)))
    repeat' ((conv => whnf); first | exact True.intro | (refine (?_ : statOk _ = true); kernel_rfl) | (refine (?_ : dynOk _ _ = true); kernel_rfl) | refine And.intro ?_ ?_ | intro _)
    all_goals (try (conv => whnf))
    all_goals (try with_reducible rfl)
    all_goals (try simp only [pOk, wrap_w, pre_iff, cast_L, cast_X, cut_lo, cut_hi, cut_both, cut_none, toNat_0, toNat_1, toNat_2, Int.toNat_natCast, List.length_cons, List.length_nil, Nat.zero_add, eq_Pt, eq_Frac, eq_Term, eq_Linear, eq_Row, eq_System, eq_Cubic, eq_Quad, eq_Knot, eq_LoopT, eq_Outline, eq_Segm, eq_Token, eq_Stmt, eq_Curve, decide_eq_true_eq, decide_eq_false_iff_not, ge_iff_le, gt_iff_lt, eta_Pt, eta_Frac, eta_Term, eta_Linear, eta_Row, eta_System, eta_Cubic, eta_Quad, eta_Knot, eta_LoopT, eta_Outline, eta_Segm, eta_Token, eta_Stmt, eta_Curve, Int.ofNat_lt, Int.ofNat_le, Bool.not_eq_true', Bool.not_eq_false'] at *)
    all_goals first | omega | (rw [w_succ]; omega) | (refine (decide_eq_false (eq_f (by assumption) ?_)).symm; simp only [ne_eq, eq_Knot, eq_Pt]; simp_all; done) | (refine ⟨by omega, eq_t (by omega) (by omega) ?_ hj⟩; simp only [eq_Knot, eq_Pt]; simp_all; done) | exact (decide_eq_true (eq_e (by assumption) (by omega) hj)).symm | trace_state


def K_spec_SameOutline : Con := conOf false [.a .outline, .a .outline] fun ⟨a, b, _⟩ =>
  (fun (a : Outline) (b : Outline) =>
  (none, [], .c (.bool false (decide (a = b))))) a b

def E_spec_SameOutline : Env := { nt := 30, nm := 0, tab := tab, con := (conCons 76 K_spec_l10Same con0), eqt := eqt, fz := [], cuts := [] }

set_option maxRecDepth 1000000 in
set_option maxHeartbeats 4000000 in
theorem c_spec_SameOutline : COk Try.prog 32 K_spec_SameOutline := by
  refine cok_fun (E := E_spec_SameOutline) Try.func32 rfl rfl (by rfl) mix_ok tab_ok (eq_ok rfl) (con_cons c_spec_l10Same con0_ok) rfl rfl (by decide) ?_
  rintro ⟨(a : Outline), (b : Outline), u0⟩ h0
  repeat' ((conv => whnf); first | exact True.intro | (refine (?_ : statOk _ = true); kernel_rfl) | (refine (?_ : dynOk _ _ = true); kernel_rfl) | refine And.intro ?_ ?_ | intro _)
  all_goals (try (conv => whnf))
  all_goals (try with_reducible rfl)
  all_goals first | (show AW _ _ _ _) | ((try simp only [pOk, wrap_w, pre_iff, cast_L, cast_X, cut_lo, cut_hi, cut_both, cut_none, toNat_0, toNat_1, toNat_2, Int.toNat_natCast, List.length_cons, List.length_nil, Nat.zero_add, eq_Pt, eq_Frac, eq_Term, eq_Linear, eq_Row, eq_System, eq_Cubic, eq_Quad, eq_Knot, eq_LoopT, eq_Outline, eq_Segm, eq_Token, eq_Stmt, eq_Curve, decide_eq_true_eq, decide_eq_false_iff_not, ge_iff_le, gt_iff_lt, eta_Pt, eta_Frac, eta_Term, eta_Linear, eta_Row, eta_System, eta_Cubic, eta_Quad, eta_Knot, eta_LoopT, eta_Outline, eta_Segm, eta_Token, eta_Stmt, eta_Curve, Int.ofNat_lt, Int.ofNat_le, Bool.not_eq_true', Bool.not_eq_false'] at *); grind) | trace_state
  rename_i hl2
  simp only [decide_eq_false_iff_not] at hl2
  refine aw_loopT (fun i : Nat => [(5, .c (.int .i64 i))]) (fun _ => []) (fun i => i ≤ a.Loops.length ∧ a.Loops.take i = b.Loops.take i) (fun i => a.Loops.length - i) 0 ?_ ?_ ?_
  · exact ⟨Nat.zero_le _, rfl⟩
  · repeat' ((conv => whnf); first | exact True.intro | (refine (?_ : statOk _ = true); kernel_rfl) | (refine (?_ : dynOk _ _ = true); kernel_rfl) | refine And.intro ?_ ?_ | intro _)
    all_goals (try (conv => whnf))
    all_goals (try with_reducible rfl)
    all_goals simp
  · rintro i ⟨hi, hj⟩
    repeat' ((conv => whnf); first | exact True.intro | (refine (?_ : statOk _ = true); kernel_rfl) | (refine (?_ : dynOk _ _ = true); kernel_rfl) | refine And.intro ?_ ?_ | intro _)
    all_goals (try (conv => whnf))
    all_goals (try with_reducible rfl)
    all_goals (try (refine (⟨i + 1, ?_⟩ : Exists _)))
    repeat' ((conv => whnf); first | exact True.intro | (refine (?_ : statOk _ = true); kernel_rfl) | (refine (?_ : dynOk _ _ = true); kernel_rfl) | refine And.intro ?_ ?_ | intro _)
    all_goals (try (conv => whnf))
    all_goals (try with_reducible rfl)
    all_goals (try simp only [pOk, wrap_w, pre_iff, cast_L, cast_X, cut_lo, cut_hi, cut_both, cut_none, toNat_0, toNat_1, toNat_2, Int.toNat_natCast, List.length_cons, List.length_nil, Nat.zero_add, eq_Pt, eq_Frac, eq_Term, eq_Linear, eq_Row, eq_System, eq_Cubic, eq_Quad, eq_Knot, eq_LoopT, eq_Outline, eq_Segm, eq_Token, eq_Stmt, eq_Curve, decide_eq_true_eq, decide_eq_false_iff_not, ge_iff_le, gt_iff_lt, eta_Pt, eta_Frac, eta_Term, eta_Linear, eta_Row, eta_System, eta_Cubic, eta_Quad, eta_Knot, eta_LoopT, eta_Outline, eta_Segm, eta_Token, eta_Stmt, eta_Curve, Int.ofNat_lt, Int.ofNat_le, Bool.not_eq_true', Bool.not_eq_false'] at *)
    all_goals first | omega | (rw [w_succ]; omega) | (refine (decide_eq_false (eq_f (by assumption) ?_)).symm; simp only [ne_eq, eq_LoopT]; simp_all; done) | (refine ⟨by omega, eq_t (by omega) (by omega) ?_ hj⟩; simp only [eq_LoopT]; simp_all; done) | exact (decide_eq_true (eq_e (by assumption) (by omega) hj)).symm | trace_state

end GV

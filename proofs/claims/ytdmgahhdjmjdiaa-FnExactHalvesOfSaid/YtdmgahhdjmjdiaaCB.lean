/-
  Contracts: cubics and quadratics. No condition beyond those named.
-/
import Derived.Test.YtdmgahhdjmjdiaaCA
import Derived.Test.YtdmgahhdjmjdiaaXB
namespace GV
open Go Go.Proofs
set_option linter.unusedSimpArgs false
set_option linter.unusedVariables false


def K_impl_validPts : Con := conOf false [.s .pt] fun ⟨ps, _⟩ =>
  (fun (ps : List Pt) =>
  (none, [], .c (.bool false (ps.all vPt)))) ps

def E_impl_validPts : Env := { nt := 15, nm := 0, tab := tab, con := (conCons 63 K_impl_ValidPt con0), eqt := eqt, fz := [], cuts := [] }

set_option maxRecDepth 1000000 in
set_option maxHeartbeats 4000000 in
theorem c_impl_validPts : COk Try.prog 51 K_impl_validPts := by
  refine cok_fun (E := E_impl_validPts) Try.func51 rfl rfl (by rfl) mix_ok tab_ok (eq_ok rfl) (con_cons c_impl_ValidPt con0_ok) rfl rfl (by decide) ?_
  rintro ⟨(ps : List Pt), u0⟩ h0
  repeat' ((conv => whnf); first | exact True.intro | (refine (?_ : statOk _ = true); kernel_rfl) | (refine (?_ : dynOk _ _ = true); kernel_rfl) | refine And.intro ?_ ?_ | intro _)
  all_goals (try (conv => whnf))
  all_goals (try with_reducible rfl)
  refine aw_loopT (fun i : Nat => [(7, .c (.int .i64 i))]) (fun _ => []) (fun i => i ≤ ps.length ∧ (ps.take i).all vPt = true) (fun i => ps.length - i) 0 ?_ ?_ ?_
  · simp
  · repeat' ((conv => whnf); first | exact True.intro | (refine (?_ : statOk _ = true); kernel_rfl) | (refine (?_ : dynOk _ _ = true); kernel_rfl) | refine And.intro ?_ ?_ | intro _)
    all_goals (try (conv => whnf))
    all_goals (try with_reducible rfl)
    all_goals simp
  · rintro i ⟨hi, hj⟩
    repeat' ((conv => whnf); first | exact True.intro | (refine (?_ : statOk _ = true); kernel_rfl) | (refine (?_ : dynOk _ _ = true); kernel_rfl) | refine And.intro ?_ ?_ | intro _)
    all_goals (try (conv => whnf))
    all_goals (try with_reducible rfl)
    all_goals (try (refine (⟨i + 1, ?_⟩ : Exists _)))
    repeat' ((conv => whnf); first | exact True.intro | (refine (?_ : statOk _ = true); kernel_rfl) | (refine (?_ : dynOk _ _ = true); kernel_rfl) | refine And.intro ?_ ?_ | intro _)
    all_goals (try (conv => whnf))
    all_goals (try with_reducible rfl)
    all_goals (try simp only [pOk, wrap_w, pre_iff, cast_L, cast_X, cut_lo, cut_hi, cut_both, cut_none, toNat_0, toNat_1, toNat_2, Int.toNat_natCast, List.length_cons, List.length_nil, Nat.zero_add, eq_Pt, eq_Frac, eq_Term, eq_Linear, eq_Row, eq_System, eq_Cubic, eq_Quad, eq_Knot, eq_LoopT, eq_Outline, eq_Segm, eq_Token, eq_Stmt, eq_Curve, decide_eq_true_eq, decide_eq_false_iff_not, ge_iff_le, gt_iff_lt, eta_Pt, eta_Frac, eta_Term, eta_Linear, eta_Row, eta_System, eta_Cubic, eta_Quad, eta_Knot, eta_LoopT, eta_Outline, eta_Segm, eta_Token, eta_Stmt, eta_Curve, Int.ofNat_lt, Int.ofNat_le, Bool.not_eq_true', Bool.not_eq_false'] at *)
    all_goals first | omega | (rw [w_succ]; omega) | (rw [← all_f (by assumption) (by assumption)]) | exact ⟨by omega, all_t (by omega) (by assumption) hj⟩ | rw [← all_e (by assumption) hj]

def cmb (f : Pt → Int) : List Pt → List Int → Int
  | p :: ps, k :: ks => f p * k + cmb f ps ks
  | _, _ => 0

theorem cmb_succ (f : Pt → Int) : ∀ (ps : List Pt) (ks : List Int) (i : Nat), i < ps.length → i < ks.length → cmb f (ps.take (i + 1)) (ks.take (i + 1)) = cmb f (ps.take i) (ks.take i) + f (el ps i) * el ks i := by
  intro ps
  induction ps with
  | nil => intro ks i h; simp at h
  | cons p ps ih =>
    intro ks i h1 h2
    cases ks with
    | nil => simp at h2
    | cons k ks =>
      cases i with
      | zero => simp [cmb, el]
      | succ i =>
        have := ih ks i (by simpa using h1) (by simpa using h2)
        simp only [List.take_succ_cons, cmb, this, el_cons_succ]
        omega

theorem cmb_all (f : Pt → Int) : ∀ (ps : List Pt) (ks : List Int) (i : Nat), i = ps.length → ps.length ≤ ks.length → cmb f (ps.take i) (ks.take i) = cmb f ps ks := by
  intro ps
  induction ps with
  | nil => intro ks i h1 h2; subst h1; simp [cmb]
  | cons p ps ih =>
    intro ks i h1 h2
    subst h1
    cases ks with
    | nil => simp at h2
    | cons k ks => simpa [cmb] using ih ks _ rfl (by simpa using h2)


def K_impl_combine : Con := conOf false [.s .pt, .s .int] fun ⟨ps, ks, _⟩ =>
  (fun (ps : List Pt) (ks : List Int) =>
  (some (ps.length ≤ ks.length), [], encA (.a .pt) ⟨w (cmb Pt.X ps ks), w (cmb Pt.Y ps ks)⟩)) ps ks

def E_impl_combine : Env := { nt := 39, nm := 0, tab := tab, con := con0, eqt := eqt, fz := [], cuts := [] }

set_option maxRecDepth 1000000 in
set_option maxHeartbeats 4000000 in
theorem c_impl_combine : COk Try.prog 64 K_impl_combine := by
  refine cok_fun (E := E_impl_combine) Try.func64 rfl rfl (by rfl) mix_ok tab_ok (eq_ok rfl) con0_ok rfl rfl (by decide) ?_
  rintro ⟨(ps : List Pt), (ks : List Int), u0⟩ h0
  repeat' ((conv => whnf); first | exact True.intro | (refine (?_ : statOk _ = true); kernel_rfl) | (refine (?_ : dynOk _ _ = true); kernel_rfl) | refine And.intro ?_ ?_ | intro _)
  all_goals (try (conv => whnf))
  all_goals (try with_reducible rfl)
  refine aw_loopT (fun i : Nat => [(10, .c (.int .i64 i))]) (fun i => [(5, 1, .box 0 [.int .i64 (w (cmb Pt.X (ps.take i) (ks.take i))), .int .i64 (w (cmb Pt.Y (ps.take i) (ks.take i)))])]) (fun i => i ≤ ps.length) (fun i => ps.length - i) 0 ?_ ?_ ?_
  · simp
  · repeat' ((conv => whnf); first | exact True.intro | (refine (?_ : statOk _ = true); kernel_rfl) | (refine (?_ : dynOk _ _ = true); kernel_rfl) | refine And.intro ?_ ?_ | intro _)
    all_goals (try (conv => whnf))
    all_goals (try with_reducible rfl)
    all_goals simp [cmb, w]
  · intro i hi
    repeat' ((conv => whnf); first | exact True.intro | (refine (?_ : statOk _ = true); kernel_rfl) | (refine (?_ : dynOk _ _ = true); kernel_rfl) | refine And.intro ?_ ?_ | intro _)
    all_goals (try (conv => whnf))
    all_goals (try with_reducible rfl)
    all_goals (try (refine (⟨i + 1, ?_⟩ : Exists _)))
    repeat' ((conv => whnf); first | exact True.intro | (refine (?_ : statOk _ = true); kernel_rfl) | (refine (?_ : dynOk _ _ = true); kernel_rfl) | refine And.intro ?_ ?_ | intro _)
    all_goals (try (conv => whnf))
    all_goals (try with_reducible rfl)
    all_goals (try simp only [pOk, wrap_w, pre_iff, cast_L, cast_X, cut_lo, cut_hi, cut_both, cut_none, toNat_0, toNat_1, toNat_2, Int.toNat_natCast, List.length_cons, List.length_nil, Nat.zero_add, eq_Pt, eq_Frac, eq_Term, eq_Linear, eq_Row, eq_System, eq_Cubic, eq_Quad, eq_Knot, eq_LoopT, eq_Outline, eq_Segm, eq_Token, eq_Stmt, eq_Curve, decide_eq_true_eq, decide_eq_false_iff_not, ge_iff_le, gt_iff_lt, eta_Pt, eta_Frac, eta_Term, eta_Linear, eta_Row, eta_System, eta_Cubic, eta_Quad, eta_Knot, eta_LoopT, eta_Outline, eta_Segm, eta_Token, eta_Stmt, eta_Curve, Int.ofNat_lt, Int.ofNat_le, Bool.not_eq_true', Bool.not_eq_false'] at *)
    all_goals first | omega | (rw [w_succ]; omega) | (rw [cmb_succ _ _ _ _ (by omega) (by omega)]; simp only [w_addl, w_addr]; rfl) | (rw [cmb_all _ _ _ _ (by omega) h0])

def vCub (c : Cubic) : Bool := vPt c.A && vPt c.B && vPt c.C && vPt c.D
def vQuad (c : Quad) : Bool := vPt c.A && vPt c.B && vPt c.C


def K_impl_Cubic_points : Con := conOf false [.a .cubic] fun ⟨c, _⟩ =>
  (fun (c : Cubic) =>
  (none, [.seq .pt [c.A, c.B, c.C, c.D]], .c (.sl 0 0))) c

def E_impl_Cubic_points : Env := { nt := 12, nm := 0, tab := tab, con := con0, eqt := eqt, fz := [], cuts := [] }

set_option maxRecDepth 1000000 in
set_option maxHeartbeats 4000000 in
theorem c_impl_Cubic_points : COk Try.prog 56 K_impl_Cubic_points := by
  refine cok_fun (E := E_impl_Cubic_points) Try.func56 rfl rfl (by rfl) mix_ok tab_ok (eq_ok rfl) con0_ok rfl rfl (by decide) ?_
  rintro ⟨(c : Cubic), u0⟩ h0
  repeat' ((conv => whnf); first | exact True.intro | (refine (?_ : statOk _ = true); kernel_rfl) | (refine (?_ : dynOk _ _ = true); kernel_rfl) | refine And.intro ?_ ?_ | intro _)
  all_goals (try (conv => whnf))
  all_goals (try simp only [pOk, wrap_w, pre_iff, cast_L, cast_X, cut_lo, cut_hi, cut_both, cut_none, toNat_0, toNat_1, toNat_2, Int.toNat_natCast, List.length_cons, List.length_nil, Nat.zero_add, eq_Pt, eq_Frac, eq_Term, eq_Linear, eq_Row, eq_System, eq_Cubic, eq_Quad, eq_Knot, eq_LoopT, eq_Outline, eq_Segm, eq_Token, eq_Stmt, eq_Curve, decide_eq_true_eq, decide_eq_false_iff_not, ge_iff_le, gt_iff_lt, eta_Pt, eta_Frac, eta_Term, eta_Linear, eta_Row, eta_System, eta_Cubic, eta_Quad, eta_Knot, eta_LoopT, eta_Outline, eta_Segm, eta_Token, eta_Stmt, eta_Curve, Int.ofNat_lt, Int.ofNat_le, Bool.not_eq_true', Bool.not_eq_false'] at *)
  all_goals first | omega | (simp_all; done) | (simp_all; omega) | grind



def K_impl_Quad_points : Con := conOf false [.a .quad] fun ⟨c, _⟩ =>
  (fun (c : Quad) =>
  (none, [.seq .pt [c.A, c.B, c.C]], .c (.sl 0 0))) c

def E_impl_Quad_points : Env := { nt := 10, nm := 0, tab := tab, con := con0, eqt := eqt, fz := [], cuts := [] }

set_option maxRecDepth 1000000 in
set_option maxHeartbeats 4000000 in
theorem c_impl_Quad_points : COk Try.prog 86 K_impl_Quad_points := by
  refine cok_fun (E := E_impl_Quad_points) Try.func86 rfl rfl (by rfl) mix_ok tab_ok (eq_ok rfl) con0_ok rfl rfl (by decide) ?_
  rintro ⟨(c : Quad), u0⟩ h0
  repeat' ((conv => whnf); first | exact True.intro | (refine (?_ : statOk _ = true); kernel_rfl) | (refine (?_ : dynOk _ _ = true); kernel_rfl) | refine And.intro ?_ ?_ | intro _)
  all_goals (try (conv => whnf))
  all_goals (try simp only [pOk, wrap_w, pre_iff, cast_L, cast_X, cut_lo, cut_hi, cut_both, cut_none, toNat_0, toNat_1, toNat_2, Int.toNat_natCast, List.length_cons, List.length_nil, Nat.zero_add, eq_Pt, eq_Frac, eq_Term, eq_Linear, eq_Row, eq_System, eq_Cubic, eq_Quad, eq_Knot, eq_LoopT, eq_Outline, eq_Segm, eq_Token, eq_Stmt, eq_Curve, decide_eq_true_eq, decide_eq_false_iff_not, ge_iff_le, gt_iff_lt, eta_Pt, eta_Frac, eta_Term, eta_Linear, eta_Row, eta_System, eta_Cubic, eta_Quad, eta_Knot, eta_LoopT, eta_Outline, eta_Segm, eta_Token, eta_Stmt, eta_Curve, Int.ofNat_lt, Int.ofNat_le, Bool.not_eq_true', Bool.not_eq_false'] at *)
  all_goals first | omega | (simp_all; done) | (simp_all; omega) | grind



def K_spec_l09Ok : Con := conOf false [.p .cubic] fun ⟨c, _⟩ =>
  (fun (c : Cubic) =>
  (none, [], .c (.bool false (vCub c)))) c

def E_spec_l09Ok : Env := { nt := 29, nm := 0, tab := tab, con := (conCons 60 K_spec_l03Ok con0), eqt := eqt, fz := [], cuts := [] }

set_option maxRecDepth 1000000 in
set_option maxHeartbeats 4000000 in
theorem c_spec_l09Ok : COk Try.prog 49 K_spec_l09Ok := by
  refine cok_fun (E := E_spec_l09Ok) Try.func49 rfl rfl (by rfl) mix_ok tab_ok (eq_ok rfl) (con_cons c_spec_l03Ok con0_ok) rfl rfl (by decide) ?_
  rintro ⟨(c : Cubic), u0⟩ h0
  repeat' ((conv => whnf); first | exact True.intro | (refine (?_ : statOk _ = true); kernel_rfl) | (refine (?_ : dynOk _ _ = true); kernel_rfl) | refine And.intro ?_ ?_ | intro _)
  all_goals (try (conv => whnf))
  all_goals (try simp only [pOk, wrap_w, pre_iff, cast_L, cast_X, cut_lo, cut_hi, cut_both, cut_none, toNat_0, toNat_1, toNat_2, Int.toNat_natCast, List.length_cons, List.length_nil, Nat.zero_add, eq_Pt, eq_Frac, eq_Term, eq_Linear, eq_Row, eq_System, eq_Cubic, eq_Quad, eq_Knot, eq_LoopT, eq_Outline, eq_Segm, eq_Token, eq_Stmt, eq_Curve, decide_eq_true_eq, decide_eq_false_iff_not, ge_iff_le, gt_iff_lt, eta_Pt, eta_Frac, eta_Term, eta_Linear, eta_Row, eta_System, eta_Cubic, eta_Quad, eta_Knot, eta_LoopT, eta_Outline, eta_Segm, eta_Token, eta_Stmt, eta_Curve, Int.ofNat_lt, Int.ofNat_le, Bool.not_eq_true', Bool.not_eq_false'] at *)
  all_goals first | omega | (simp_all [vCub]; done) | (simp_all [vCub]; omega) | grind [vCub]



def K_spec_l10Quad : Con := conOf false [.p .quad] fun ⟨c, _⟩ =>
  (fun (c : Quad) =>
  (none, [], .c (.bool false (vQuad c)))) c

def E_spec_l10Quad : Env := { nt := 22, nm := 0, tab := tab, con := (conCons 60 K_spec_l03Ok con0), eqt := eqt, fz := [], cuts := [] }

set_option maxRecDepth 1000000 in
set_option maxHeartbeats 4000000 in
theorem c_spec_l10Quad : COk Try.prog 65 K_spec_l10Quad := by
  refine cok_fun (E := E_spec_l10Quad) Try.func65 rfl rfl (by rfl) mix_ok tab_ok (eq_ok rfl) (con_cons c_spec_l03Ok con0_ok) rfl rfl (by decide) ?_
  rintro ⟨(c : Quad), u0⟩ h0
  repeat' ((conv => whnf); first | exact True.intro | (refine (?_ : statOk _ = true); kernel_rfl) | (refine (?_ : dynOk _ _ = true); kernel_rfl) | refine And.intro ?_ ?_ | intro _)
  all_goals (try (conv => whnf))
  all_goals (try simp only [pOk, wrap_w, pre_iff, cast_L, cast_X, cut_lo, cut_hi, cut_both, cut_none, toNat_0, toNat_1, toNat_2, Int.toNat_natCast, List.length_cons, List.length_nil, Nat.zero_add, eq_Pt, eq_Frac, eq_Term, eq_Linear, eq_Row, eq_System, eq_Cubic, eq_Quad, eq_Knot, eq_LoopT, eq_Outline, eq_Segm, eq_Token, eq_Stmt, eq_Curve, decide_eq_true_eq, decide_eq_false_iff_not, ge_iff_le, gt_iff_lt, eta_Pt, eta_Frac, eta_Term, eta_Linear, eta_Row, eta_System, eta_Cubic, eta_Quad, eta_Knot, eta_LoopT, eta_Outline, eta_Segm, eta_Token, eta_Stmt, eta_Curve, Int.ofNat_lt, Int.ofNat_le, Bool.not_eq_true', Bool.not_eq_false'] at *)
  all_goals first | omega | (simp_all [vQuad]; done) | (simp_all [vQuad]; omega) | grind [vQuad]



def K_spec_ValidCubic : Con := conOf false [.a .cubic] fun ⟨c, _⟩ =>
  (fun (c : Cubic) =>
  (none, [], .c (.bool false (vCub c)))) c

def E_spec_ValidCubic : Env := { nt := 4, nm := 0, tab := tab, con := (conCons 49 K_spec_l09Ok con0), eqt := eqt, fz := [], cuts := [] }

set_option maxRecDepth 1000000 in
set_option maxHeartbeats 4000000 in
theorem c_spec_ValidCubic : COk Try.prog 17 K_spec_ValidCubic := by
  refine cok_fun (E := E_spec_ValidCubic) Try.func17 rfl rfl (by rfl) mix_ok tab_ok (eq_ok rfl) (con_cons c_spec_l09Ok con0_ok) rfl rfl (by decide) ?_
  rintro ⟨(c : Cubic), u0⟩ h0
  repeat' ((conv => whnf); first | exact True.intro | (refine (?_ : statOk _ = true); kernel_rfl) | (refine (?_ : dynOk _ _ = true); kernel_rfl) | refine And.intro ?_ ?_ | intro _)
  all_goals (try (conv => whnf))
  all_goals (try simp only [pOk, wrap_w, pre_iff, cast_L, cast_X, cut_lo, cut_hi, cut_both, cut_none, toNat_0, toNat_1, toNat_2, Int.toNat_natCast, List.length_cons, List.length_nil, Nat.zero_add, eq_Pt, eq_Frac, eq_Term, eq_Linear, eq_Row, eq_System, eq_Cubic, eq_Quad, eq_Knot, eq_LoopT, eq_Outline, eq_Segm, eq_Token, eq_Stmt, eq_Curve, decide_eq_true_eq, decide_eq_false_iff_not, ge_iff_le, gt_iff_lt, eta_Pt, eta_Frac, eta_Term, eta_Linear, eta_Row, eta_System, eta_Cubic, eta_Quad, eta_Knot, eta_LoopT, eta_Outline, eta_Segm, eta_Token, eta_Stmt, eta_Curve, Int.ofNat_lt, Int.ofNat_le, Bool.not_eq_true', Bool.not_eq_false'] at *)
  all_goals first | omega | (simp_all; done) | (simp_all; omega) | grind



def K_impl_ValidCubic : Con := conOf false [.a .cubic] fun ⟨c, _⟩ =>
  (fun (c : Cubic) =>
  (none, [], .c (.bool false (vCub c)))) c

def E_impl_ValidCubic : Env := { nt := 13, nm := 0, tab := tab, con := (conCons 51 K_impl_validPts con0), eqt := eqt, fz := [], cuts := [] }

set_option maxRecDepth 1000000 in
set_option maxHeartbeats 4000000 in
theorem c_impl_ValidCubic : COk Try.prog 19 K_impl_ValidCubic := by
  refine cok_fun (E := E_impl_ValidCubic) Try.func19 rfl rfl (by rfl) mix_ok tab_ok (eq_ok rfl) (con_cons c_impl_validPts con0_ok) rfl rfl (by decide) ?_
  rintro ⟨(c : Cubic), u0⟩ h0
  repeat' ((conv => whnf); first | exact True.intro | (refine (?_ : statOk _ = true); kernel_rfl) | (refine (?_ : dynOk _ _ = true); kernel_rfl) | refine And.intro ?_ ?_ | intro _)
  all_goals (try (conv => whnf))
  all_goals (try simp only [pOk, wrap_w, pre_iff, cast_L, cast_X, cut_lo, cut_hi, cut_both, cut_none, toNat_0, toNat_1, toNat_2, Int.toNat_natCast, List.length_cons, List.length_nil, Nat.zero_add, eq_Pt, eq_Frac, eq_Term, eq_Linear, eq_Row, eq_System, eq_Cubic, eq_Quad, eq_Knot, eq_LoopT, eq_Outline, eq_Segm, eq_Token, eq_Stmt, eq_Curve, decide_eq_true_eq, decide_eq_false_iff_not, ge_iff_le, gt_iff_lt, eta_Pt, eta_Frac, eta_Term, eta_Linear, eta_Row, eta_System, eta_Cubic, eta_Quad, eta_Knot, eta_LoopT, eta_Outline, eta_Segm, eta_Token, eta_Stmt, eta_Curve, Int.ofNat_lt, Int.ofNat_le, Bool.not_eq_true', Bool.not_eq_false'] at *)
  all_goals first | omega | (simp_all [vCub]; done) | (simp_all [vCub]; omega) | grind [vCub]



def K_impl_validQuad : Con := conOf false [.a .quad] fun ⟨c, _⟩ =>
  (fun (c : Quad) =>
  (none, [], .c (.bool false (vQuad c)))) c

def E_impl_validQuad : Env := { nt := 11, nm := 0, tab := tab, con := (conCons 51 K_impl_validPts con0), eqt := eqt, fz := [], cuts := [] }

set_option maxRecDepth 1000000 in
set_option maxHeartbeats 4000000 in
theorem c_impl_validQuad : COk Try.prog 69 K_impl_validQuad := by
  refine cok_fun (E := E_impl_validQuad) Try.func69 rfl rfl (by rfl) mix_ok tab_ok (eq_ok rfl) (con_cons c_impl_validPts con0_ok) rfl rfl (by decide) ?_
  rintro ⟨(c : Quad), u0⟩ h0
  repeat' ((conv => whnf); first | exact True.intro | (refine (?_ : statOk _ = true); kernel_rfl) | (refine (?_ : dynOk _ _ = true); kernel_rfl) | refine And.intro ?_ ?_ | intro _)
  all_goals (try (conv => whnf))
  all_goals (try simp only [pOk, wrap_w, pre_iff, cast_L, cast_X, cut_lo, cut_hi, cut_both, cut_none, toNat_0, toNat_1, toNat_2, Int.toNat_natCast, List.length_cons, List.length_nil, Nat.zero_add, eq_Pt, eq_Frac, eq_Term, eq_Linear, eq_Row, eq_System, eq_Cubic, eq_Quad, eq_Knot, eq_LoopT, eq_Outline, eq_Segm, eq_Token, eq_Stmt, eq_Curve, decide_eq_true_eq, decide_eq_false_iff_not, ge_iff_le, gt_iff_lt, eta_Pt, eta_Frac, eta_Term, eta_Linear, eta_Row, eta_System, eta_Cubic, eta_Quad, eta_Knot, eta_LoopT, eta_Outline, eta_Segm, eta_Token, eta_Stmt, eta_Curve, Int.ofNat_lt, Int.ofNat_le, Bool.not_eq_true', Bool.not_eq_false'] at *)
  all_goals first | omega | (simp_all [vQuad]; done) | (simp_all [vQuad]; omega) | grind [vQuad]



def K_spec_ReverseCubic : Con := conOf false [.a .cubic] fun ⟨c, _⟩ =>
  (fun (c : Cubic) =>
  (none, [], encA (.a .cubic) ⟨c.D, c.C, c.B, c.A⟩)) c

def E_spec_ReverseCubic : Env := { nt := 12, nm := 0, tab := tab, con := con0, eqt := eqt, fz := [], cuts := [] }

set_option maxRecDepth 1000000 in
set_option maxHeartbeats 4000000 in
theorem c_spec_ReverseCubic : COk Try.prog 20 K_spec_ReverseCubic := by
  refine cok_fun (E := E_spec_ReverseCubic) Try.func20 rfl rfl (by rfl) mix_ok tab_ok (eq_ok rfl) con0_ok rfl rfl (by decide) ?_
  rintro ⟨(c : Cubic), u0⟩ h0
  repeat' ((conv => whnf); first | exact True.intro | (refine (?_ : statOk _ = true); kernel_rfl) | (refine (?_ : dynOk _ _ = true); kernel_rfl) | refine And.intro ?_ ?_ | intro _)
  all_goals (try (conv => whnf))
  all_goals (try simp only [pOk, wrap_w, pre_iff, cast_L, cast_X, cut_lo, cut_hi, cut_both, cut_none, toNat_0, toNat_1, toNat_2, Int.toNat_natCast, List.length_cons, List.length_nil, Nat.zero_add, eq_Pt, eq_Frac, eq_Term, eq_Linear, eq_Row, eq_System, eq_Cubic, eq_Quad, eq_Knot, eq_LoopT, eq_Outline, eq_Segm, eq_Token, eq_Stmt, eq_Curve, decide_eq_true_eq, decide_eq_false_iff_not, ge_iff_le, gt_iff_lt, eta_Pt, eta_Frac, eta_Term, eta_Linear, eta_Row, eta_System, eta_Cubic, eta_Quad, eta_Knot, eta_LoopT, eta_Outline, eta_Segm, eta_Token, eta_Stmt, eta_Curve, Int.ofNat_lt, Int.ofNat_le, Bool.not_eq_true', Bool.not_eq_false'] at *)
  all_goals first | omega | (simp_all; done) | (simp_all; omega) | grind



def K_impl_ReverseCubic : Con := conOf false [.a .cubic] fun ⟨c, _⟩ =>
  (fun (c : Cubic) =>
  (none, [], encA (.a .cubic) ⟨c.D, c.C, c.B, c.A⟩)) c

def E_impl_ReverseCubic : Env := { nt := 12, nm := 0, tab := tab, con := con0, eqt := eqt, fz := [], cuts := [] }

set_option maxRecDepth 1000000 in
set_option maxHeartbeats 4000000 in
theorem c_impl_ReverseCubic : COk Try.prog 21 K_impl_ReverseCubic := by
  refine cok_fun (E := E_impl_ReverseCubic) Try.func21 rfl rfl (by rfl) mix_ok tab_ok (eq_ok rfl) con0_ok rfl rfl (by decide) ?_
  rintro ⟨(c : Cubic), u0⟩ h0
  repeat' ((conv => whnf); first | exact True.intro | (refine (?_ : statOk _ = true); kernel_rfl) | (refine (?_ : dynOk _ _ = true); kernel_rfl) | refine And.intro ?_ ?_ | intro _)
  all_goals (try (conv => whnf))
  all_goals (try simp only [pOk, wrap_w, pre_iff, cast_L, cast_X, cut_lo, cut_hi, cut_both, cut_none, toNat_0, toNat_1, toNat_2, Int.toNat_natCast, List.length_cons, List.length_nil, Nat.zero_add, eq_Pt, eq_Frac, eq_Term, eq_Linear, eq_Row, eq_System, eq_Cubic, eq_Quad, eq_Knot, eq_LoopT, eq_Outline, eq_Segm, eq_Token, eq_Stmt, eq_Curve, decide_eq_true_eq, decide_eq_false_iff_not, ge_iff_le, gt_iff_lt, eta_Pt, eta_Frac, eta_Term, eta_Linear, eta_Row, eta_System, eta_Cubic, eta_Quad, eta_Knot, eta_LoopT, eta_Outline, eta_Segm, eta_Token, eta_Stmt, eta_Curve, Int.ofNat_lt, Int.ofNat_le, Bool.not_eq_true', Bool.not_eq_false'] at *)
  all_goals first | omega | (simp_all; done) | (simp_all; omega) | grind


def sz (p : Pt) : Int := w (max p.X (w (0 - p.X)) + max p.Y (w (0 - p.Y)))
def sec (a b c : Pt) : Pt := ⟨w (a.X - 2 * b.X + c.X), w (a.Y - 2 * b.Y + c.Y)⟩
def bend (c : Cubic) : Int := max (sz (sec c.A c.B c.C)) (sz (sec c.B c.C c.D))


def K_spec_l09Size : Con := conOf false [.a .pt] fun ⟨p, _⟩ =>
  (fun (p : Pt) =>
  (none, [], .c (.int .i64 (sz p)))) p

def E_spec_l09Size : Env := { nt := 16, nm := 0, tab := tab, con := (conCons 79 K_spec_l00Max con0), eqt := eqt, fz := [], cuts := [] }

set_option maxRecDepth 1000000 in
set_option maxHeartbeats 4000000 in
theorem c_spec_l09Size : COk Try.prog 80 K_spec_l09Size := by
  refine cok_fun (E := E_spec_l09Size) Try.func80 rfl rfl (by rfl) mix_ok tab_ok (eq_ok rfl) (con_cons c_spec_l00Max con0_ok) rfl rfl (by decide) ?_
  rintro ⟨(p : Pt), u0⟩ h0
  repeat' ((conv => whnf); first | exact True.intro | (refine (?_ : statOk _ = true); kernel_rfl) | (refine (?_ : dynOk _ _ = true); kernel_rfl) | refine And.intro ?_ ?_ | intro _)
  all_goals (try (conv => whnf))
  all_goals (try simp only [pOk, wrap_w, pre_iff, cast_L, cast_X, cut_lo, cut_hi, cut_both, cut_none, toNat_0, toNat_1, toNat_2, Int.toNat_natCast, List.length_cons, List.length_nil, Nat.zero_add, eq_Pt, eq_Frac, eq_Term, eq_Linear, eq_Row, eq_System, eq_Cubic, eq_Quad, eq_Knot, eq_LoopT, eq_Outline, eq_Segm, eq_Token, eq_Stmt, eq_Curve, decide_eq_true_eq, decide_eq_false_iff_not, ge_iff_le, gt_iff_lt, eta_Pt, eta_Frac, eta_Term, eta_Linear, eta_Row, eta_System, eta_Cubic, eta_Quad, eta_Knot, eta_LoopT, eta_Outline, eta_Segm, eta_Token, eta_Stmt, eta_Curve, Int.ofNat_lt, Int.ofNat_le, Bool.not_eq_true', Bool.not_eq_false'] at *)
  all_goals first | omega | (simp_all [sz]; done) | (simp_all [sz]; omega) | grind [sz]



def K_impl_sizeOf : Con := conOf false [.a .pt] fun ⟨p, _⟩ =>
  (fun (p : Pt) =>
  (none, [], .c (.int .i64 (sz p)))) p

def E_impl_sizeOf : Env := { nt := 16, nm := 0, tab := tab, con := con0, eqt := eqt, fz := [], cuts := [] }

set_option maxRecDepth 1000000 in
set_option maxHeartbeats 4000000 in
theorem c_impl_sizeOf : COk Try.prog 82 K_impl_sizeOf := by
  refine cok_fun (E := E_impl_sizeOf) Try.func82 rfl rfl (by rfl) mix_ok tab_ok (eq_ok rfl) con0_ok rfl rfl (by decide) ?_
  rintro ⟨(p : Pt), u0⟩ h0
  repeat' ((conv => whnf); first | exact True.intro | (refine (?_ : statOk _ = true); kernel_rfl) | (refine (?_ : dynOk _ _ = true); kernel_rfl) | refine And.intro ?_ ?_ | intro _)
  all_goals (try (conv => whnf))
  all_goals (try simp only [pOk, wrap_w, pre_iff, cast_L, cast_X, cut_lo, cut_hi, cut_both, cut_none, toNat_0, toNat_1, toNat_2, Int.toNat_natCast, List.length_cons, List.length_nil, Nat.zero_add, eq_Pt, eq_Frac, eq_Term, eq_Linear, eq_Row, eq_System, eq_Cubic, eq_Quad, eq_Knot, eq_LoopT, eq_Outline, eq_Segm, eq_Token, eq_Stmt, eq_Curve, decide_eq_true_eq, decide_eq_false_iff_not, ge_iff_le, gt_iff_lt, eta_Pt, eta_Frac, eta_Term, eta_Linear, eta_Row, eta_System, eta_Cubic, eta_Quad, eta_Knot, eta_LoopT, eta_Outline, eta_Segm, eta_Token, eta_Stmt, eta_Curve, Int.ofNat_lt, Int.ofNat_le, Bool.not_eq_true', Bool.not_eq_false'] at *)
  all_goals first | omega | (simp_all [sz]; done) | (simp_all [sz]; omega) | grind [sz]



def K_spec_l09Second : Con := conOf false [.a .pt, .a .pt, .a .pt] fun ⟨a, b, c, _⟩ =>
  (fun (a : Pt) (b : Pt) (c : Pt) =>
  (none, [], encA (.a .pt) (sec a b c))) a b c

def E_spec_l09Second : Env := { nt := 26, nm := 0, tab := tab, con := con0, eqt := eqt, fz := [], cuts := [] }

set_option maxRecDepth 1000000 in
set_option maxHeartbeats 4000000 in
theorem c_spec_l09Second : COk Try.prog 81 K_spec_l09Second := by
  refine cok_fun (E := E_spec_l09Second) Try.func81 rfl rfl (by rfl) mix_ok tab_ok (eq_ok rfl) con0_ok rfl rfl (by decide) ?_
  rintro ⟨(a : Pt), (b : Pt), (c : Pt), u0⟩ h0
  repeat' ((conv => whnf); first | exact True.intro | (refine (?_ : statOk _ = true); kernel_rfl) | (refine (?_ : dynOk _ _ = true); kernel_rfl) | refine And.intro ?_ ?_ | intro _)
  all_goals (try (conv => whnf))
  all_goals (try simp only [pOk, wrap_w, pre_iff, cast_L, cast_X, cut_lo, cut_hi, cut_both, cut_none, toNat_0, toNat_1, toNat_2, Int.toNat_natCast, List.length_cons, List.length_nil, Nat.zero_add, eq_Pt, eq_Frac, eq_Term, eq_Linear, eq_Row, eq_System, eq_Cubic, eq_Quad, eq_Knot, eq_LoopT, eq_Outline, eq_Segm, eq_Token, eq_Stmt, eq_Curve, decide_eq_true_eq, decide_eq_false_iff_not, ge_iff_le, gt_iff_lt, eta_Pt, eta_Frac, eta_Term, eta_Linear, eta_Row, eta_System, eta_Cubic, eta_Quad, eta_Knot, eta_LoopT, eta_Outline, eta_Segm, eta_Token, eta_Stmt, eta_Curve, Int.ofNat_lt, Int.ofNat_le, Bool.not_eq_true', Bool.not_eq_false'] at *)
  all_goals (refine w_ph ?_; simp only [sec, ph_add, ph_mul, ph_sub, ph_neg, ph_w, ph_0, ph_1, ph_2, ph_3, ph_4, ph_8, ph_20, ph_n1, ph_n2, ph_n3] <;> grind)



def K_spec_l09Bend : Con := conOf false [.p .cubic] fun ⟨c, _⟩ =>
  (fun (c : Cubic) =>
  (none, [], .c (.int .i64 (bend c)))) c

def E_spec_l09Bend : Env := { nt := 32, nm := 0, tab := tab, con := (conCons 81 K_spec_l09Second (conCons 80 K_spec_l09Size (conCons 79 K_spec_l00Max con0))), eqt := eqt, fz := [], cuts := [] }

set_option maxRecDepth 1000000 in
set_option maxHeartbeats 4000000 in
theorem c_spec_l09Bend : COk Try.prog 52 K_spec_l09Bend := by
  refine cok_fun (E := E_spec_l09Bend) Try.func52 rfl rfl (by rfl) mix_ok tab_ok (eq_ok rfl) (con_cons c_spec_l09Second (con_cons c_spec_l09Size (con_cons c_spec_l00Max con0_ok))) rfl rfl (by decide) ?_
  rintro ⟨(c : Cubic), u0⟩ h0
  repeat' ((conv => whnf); first | exact True.intro | (refine (?_ : statOk _ = true); kernel_rfl) | (refine (?_ : dynOk _ _ = true); kernel_rfl) | refine And.intro ?_ ?_ | intro _)
  all_goals (try (conv => whnf))
  all_goals (try simp only [pOk, wrap_w, pre_iff, cast_L, cast_X, cut_lo, cut_hi, cut_both, cut_none, toNat_0, toNat_1, toNat_2, Int.toNat_natCast, List.length_cons, List.length_nil, Nat.zero_add, eq_Pt, eq_Frac, eq_Term, eq_Linear, eq_Row, eq_System, eq_Cubic, eq_Quad, eq_Knot, eq_LoopT, eq_Outline, eq_Segm, eq_Token, eq_Stmt, eq_Curve, decide_eq_true_eq, decide_eq_false_iff_not, ge_iff_le, gt_iff_lt, eta_Pt, eta_Frac, eta_Term, eta_Linear, eta_Row, eta_System, eta_Cubic, eta_Quad, eta_Knot, eta_LoopT, eta_Outline, eta_Segm, eta_Token, eta_Stmt, eta_Curve, Int.ofNat_lt, Int.ofNat_le, Bool.not_eq_true', Bool.not_eq_false'] at *)
  all_goals first | omega | (simp_all [bend]; done) | (simp_all [bend]; omega) | grind [bend]


theorem cmb_sec1 (a b c d : Pt) : (⟨w (cmb Pt.X [a, b, c, d] [1, -2, 1, 0]), w (cmb Pt.Y [a, b, c, d] [1, -2, 1, 0])⟩ : Pt) = sec a b c := by
  simp only [cmb, sec, eq_Pt]
  constructor <;> (refine w_ph ?_; simp only [ph_add, ph_mul, ph_sub, ph_neg, ph_w, ph_0, ph_1, ph_2, ph_3, ph_4, ph_8, ph_20, ph_n1, ph_n2, ph_n3] <;> grind)
theorem cmb_sec2 (a b c d : Pt) : (⟨w (cmb Pt.X [a, b, c, d] [0, 1, -2, 1]), w (cmb Pt.Y [a, b, c, d] [0, 1, -2, 1])⟩ : Pt) = sec b c d := by
  simp only [cmb, sec, eq_Pt]
  constructor <;> (refine w_ph ?_; simp only [ph_add, ph_mul, ph_sub, ph_neg, ph_w, ph_0, ph_1, ph_2, ph_3, ph_4, ph_8, ph_20, ph_n1, ph_n2, ph_n3] <;> grind)
theorem cmb_sec3 (a b c : Pt) : (⟨w (cmb Pt.X [a, b, c] [1, -2, 1]), w (cmb Pt.Y [a, b, c] [1, -2, 1])⟩ : Pt) = sec a b c := by
  simp only [cmb, sec, eq_Pt]
  constructor <;> (refine w_ph ?_; simp only [ph_add, ph_mul, ph_sub, ph_neg, ph_w, ph_0, ph_1, ph_2, ph_3, ph_4, ph_8, ph_20, ph_n1, ph_n2, ph_n3] <;> grind)


def K_impl_bendOf : Con := conOf false [.a .cubic] fun ⟨c, _⟩ =>
  (fun (c : Cubic) =>
  (none, [], .c (.int .i64 (bend c)))) c

def E_impl_bendOf : Env := { nt := 15, nm := 0, tab := tab, con := (conCons 56 K_impl_Cubic_points (conCons 64 K_impl_combine (conCons 82 K_impl_sizeOf con0))), eqt := eqt, fz := [], cuts := [] }

set_option maxRecDepth 1000000 in
set_option maxHeartbeats 4000000 in
theorem c_impl_bendOf : COk Try.prog 53 K_impl_bendOf := by
  refine cok_fun (E := E_impl_bendOf) Try.func53 rfl rfl (by rfl) mix_ok tab_ok (eq_ok rfl) (con_cons c_impl_Cubic_points (con_cons c_impl_combine (con_cons c_impl_sizeOf con0_ok))) rfl rfl (by decide) ?_
  rintro ⟨(c : Cubic), u0⟩ h0
  repeat' ((conv => whnf); first | exact True.intro | (refine (?_ : statOk _ = true); kernel_rfl) | (refine (?_ : dynOk _ _ = true); kernel_rfl) | refine And.intro ?_ ?_ | intro _)
  all_goals (try (conv => whnf))
  all_goals (try simp only [pOk, wrap_w, pre_iff, cast_L, cast_X, cut_lo, cut_hi, cut_both, cut_none, toNat_0, toNat_1, toNat_2, Int.toNat_natCast, List.length_cons, List.length_nil, Nat.zero_add, eq_Pt, eq_Frac, eq_Term, eq_Linear, eq_Row, eq_System, eq_Cubic, eq_Quad, eq_Knot, eq_LoopT, eq_Outline, eq_Segm, eq_Token, eq_Stmt, eq_Curve, decide_eq_true_eq, decide_eq_false_iff_not, ge_iff_le, gt_iff_lt, eta_Pt, eta_Frac, eta_Term, eta_Linear, eta_Row, eta_System, eta_Cubic, eta_Quad, eta_Knot, eta_LoopT, eta_Outline, eta_Segm, eta_Token, eta_Stmt, eta_Curve, Int.ofNat_lt, Int.ofNat_le, Bool.not_eq_true', Bool.not_eq_false'] at *)
  all_goals first | (simp; done) | (rw [cmb_sec1, cmb_sec2]; rfl)



def K_spec_BendOf : Con := conOf false [.a .cubic] fun ⟨c, _⟩ =>
  (fun (c : Cubic) =>
  (none, [], .tup [(false, [.int .i64 (if vCub c then bend c else 0)]), (false, [.int .i64 (if vCub c then 0 else 1)])])) c

def E_spec_BendOf : Env := { nt := 7, nm := 0, tab := tab, con := (conCons 49 K_spec_l09Ok (conCons 52 K_spec_l09Bend con0)), eqt := eqt, fz := [], cuts := [] }

set_option maxRecDepth 1000000 in
set_option maxHeartbeats 4000000 in
theorem c_spec_BendOf : COk Try.prog 23 K_spec_BendOf := by
  refine cok_fun (E := E_spec_BendOf) Try.func23 rfl rfl (by rfl) mix_ok tab_ok (eq_ok rfl) (con_cons c_spec_l09Ok (con_cons c_spec_l09Bend con0_ok)) rfl rfl (by decide) ?_
  rintro ⟨(c : Cubic), u0⟩ h0
  repeat' ((conv => whnf); first | exact True.intro | (refine (?_ : statOk _ = true); kernel_rfl) | (refine (?_ : dynOk _ _ = true); kernel_rfl) | refine And.intro ?_ ?_ | intro _)
  all_goals (try (conv => whnf))
  all_goals (try simp only [pOk, wrap_w, pre_iff, cast_L, cast_X, cut_lo, cut_hi, cut_both, cut_none, toNat_0, toNat_1, toNat_2, Int.toNat_natCast, List.length_cons, List.length_nil, Nat.zero_add, eq_Pt, eq_Frac, eq_Term, eq_Linear, eq_Row, eq_System, eq_Cubic, eq_Quad, eq_Knot, eq_LoopT, eq_Outline, eq_Segm, eq_Token, eq_Stmt, eq_Curve, decide_eq_true_eq, decide_eq_false_iff_not, ge_iff_le, gt_iff_lt, eta_Pt, eta_Frac, eta_Term, eta_Linear, eta_Row, eta_System, eta_Cubic, eta_Quad, eta_Knot, eta_LoopT, eta_Outline, eta_Segm, eta_Token, eta_Stmt, eta_Curve, Int.ofNat_lt, Int.ofNat_le, Bool.not_eq_true', Bool.not_eq_false'] at *)
  all_goals first | omega | (simp_all; done) | (simp_all; omega) | grind



def K_impl_BendOf : Con := conOf false [.a .cubic] fun ⟨c, _⟩ =>
  (fun (c : Cubic) =>
  (none, [], .tup [(false, [.int .i64 (if vCub c then bend c else 0)]), (false, [.int .i64 (if vCub c then 0 else 1)])])) c

def E_impl_BendOf : Env := { nt := 9, nm := 0, tab := tab, con := (conCons 19 K_impl_ValidCubic (conCons 53 K_impl_bendOf con0)), eqt := eqt, fz := [], cuts := [] }

set_option maxRecDepth 1000000 in
set_option maxHeartbeats 4000000 in
theorem c_impl_BendOf : COk Try.prog 24 K_impl_BendOf := by
  refine cok_fun (E := E_impl_BendOf) Try.func24 rfl rfl (by rfl) mix_ok tab_ok (eq_ok rfl) (con_cons c_impl_ValidCubic (con_cons c_impl_bendOf con0_ok)) rfl rfl (by decide) ?_
  rintro ⟨(c : Cubic), u0⟩ h0
  repeat' ((conv => whnf); first | exact True.intro | (refine (?_ : statOk _ = true); kernel_rfl) | (refine (?_ : dynOk _ _ = true); kernel_rfl) | refine And.intro ?_ ?_ | intro _)
  all_goals (try (conv => whnf))
  all_goals (try simp only [pOk, wrap_w, pre_iff, cast_L, cast_X, cut_lo, cut_hi, cut_both, cut_none, toNat_0, toNat_1, toNat_2, Int.toNat_natCast, List.length_cons, List.length_nil, Nat.zero_add, eq_Pt, eq_Frac, eq_Term, eq_Linear, eq_Row, eq_System, eq_Cubic, eq_Quad, eq_Knot, eq_LoopT, eq_Outline, eq_Segm, eq_Token, eq_Stmt, eq_Curve, decide_eq_true_eq, decide_eq_false_iff_not, ge_iff_le, gt_iff_lt, eta_Pt, eta_Frac, eta_Term, eta_Linear, eta_Row, eta_System, eta_Cubic, eta_Quad, eta_Knot, eta_LoopT, eta_Outline, eta_Segm, eta_Token, eta_Stmt, eta_Curve, Int.ofNat_lt, Int.ofNat_le, Bool.not_eq_true', Bool.not_eq_false'] at *)
  all_goals first | omega | (simp_all; done) | (simp_all; omega) | grind


end GV

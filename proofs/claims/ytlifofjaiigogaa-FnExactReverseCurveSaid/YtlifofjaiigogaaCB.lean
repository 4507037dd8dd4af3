/-
  Contracts: cubics and quadratics. No condition beyond those named.
-/
import Derived.Test.YtlifofjaiigogaaCA
import Derived.Test.YtlifofjaiigogaaXB
namespace GV
open Go Go.Proofs
set_option linter.unusedSimpArgs false
set_option linter.unusedVariables false


def K_impl_validPts : Con := conOf false [.s .pt] fun ⟨ps, _⟩ =>
  (fun (ps : List Pt) =>
  (none, [], .c (.bool false (ps.all vPt)))) ps

def E_impl_validPts : Env := { nt := 15, nm := 0, tab := tab, con := (conCons 66 K_impl_ValidPt con0), eqt := eqt, fz := [], cuts := [] }

set_option maxRecDepth 1000000 in
set_option maxHeartbeats 4000000 in
theorem c_impl_validPts : COk Try.prog 69 K_impl_validPts := by
  refine cok_fun (E := E_impl_validPts) Try.func69 rfl rfl (by rfl) mix_ok tab_ok (eq_ok rfl) (con_cons c_impl_ValidPt con0_ok) rfl rfl (by decide) ?_
  rintro ⟨(ps : List Pt), u0⟩ h0
  repeat' ((conv => whnf); first | exact True.intro | (refine (?_ : statOk _ = true); kernel_rfl) | (refine (?_ : dynOk _ _ = true); kernel_rfl) | refine And.intro ?_ ?_ | intro _)
  all_goals (try (conv => whnf))
  all_goals (try with_reducible rfl)
  refine aw_loopT (fun i : Nat => [(7, .c (.int .i64 i))]) (fun _ => []) (fun i => i ≤ ps.length ∧ (ps.take i).all vPt = true) (fun i => ps.length - i) 0 ?_ ?_ ?_
  · simp
  · repeat' ((conv => whnf); first | exact True.intro | (refine (?_ : statOk _ = true); kernel_rfl) | (refine (?_ : dynOk _ _ = true); kernel_rfl) | refine And.intro ?_ ?_ | intro _)
    all_goals (try (conv => whnf))
    all_goals (try with_reducible rfl)
    all_goals simp
  · rintro i ⟨hi, hj⟩
    repeat' ((conv => whnf); first | exact True.intro | (refine (?_ : statOk _ = true); kernel_rfl) | (refine (?_ : dynOk _ _ = true); kernel_rfl) | refine And.intro ?_ ?_ | intro _)
    all_goals (try (conv => whnf))
    all_goals (try with_reducible rfl)
    all_goals (try (refine (⟨i + 1, ?_⟩ : Exists _)))
    repeat' ((conv => whnf); first | exact True.intro | (refine (?_ : statOk _ = true); kernel_rfl) | (refine (?_ : dynOk _ _ = true); kernel_rfl) | refine And.intro ?_ ?_ | intro _)
    all_goals (try (conv => whnf))
    all_goals (try with_reducible rfl)
    all_goals (try simp only [pOk, wrap_w, pre_iff, cast_L, cast_X, cut_lo, cut_hi, cut_both, cut_none, toNat_0, toNat_1, toNat_2, Int.toNat_natCast, List.length_cons, List.length_nil, Nat.zero_add, eq_Pt, eq_Frac, eq_Term, eq_Linear, eq_Row, eq_System, eq_Cubic, eq_Quad, eq_Knot, eq_LoopT, eq_Outline, eq_Segm, eq_Token, eq_Stmt, eq_Curve, decide_eq_true_eq, decide_eq_false_iff_not, ge_iff_le, gt_iff_lt, eta_Pt, eta_Frac, eta_Term, eta_Linear, eta_Row, eta_System, eta_Cubic, eta_Quad, eta_Knot, eta_LoopT, eta_Outline, eta_Segm, eta_Token, eta_Stmt, eta_Curve, Int.ofNat_lt, Int.ofNat_le, Bool.not_eq_true', Bool.not_eq_false'] at *)
    all_goals first | omega | (rw [w_succ]; omega) | (rw [← all_f (by assumption) (by assumption)]) | exact ⟨by omega, all_t (by omega) (by assumption) hj⟩ | rw [← all_e (by assumption) hj]

def cmb (f : Pt → Int) : List Pt → List Int → Int
  | p :: ps, k :: ks => f p * k + cmb f ps ks
  | _, _ => 0

theorem cmb_succ (f : Pt → Int) : ∀ (ps : List Pt) (ks : List Int) (i : Nat), i < ps.length → i < ks.length → cmb f (ps.take (i + 1)) (ks.take (i + 1)) = cmb f (ps.take i) (ks.take i) + f (el ps i) * el ks i := by
  intro ps
  induction ps with
  | nil => intro ks i h; simp at h
  | cons p ps ih =>
    intro ks i h1 h2
    cases ks with
    | nil => simp at h2
    | cons k ks =>
      cases i with
      | zero => simp [cmb, el]
      | succ i =>
        have := ih ks i (by simpa using h1) (by simpa using h2)
        simp only [List.take_succ_cons, cmb, this, el_cons_succ]
        omega

theorem cmb_all (f : Pt → Int) : ∀ (ps : List Pt) (ks : List Int) (i : Nat), i = ps.length → ps.length ≤ ks.length → cmb f (ps.take i) (ks.take i) = cmb f ps ks := by
  intro ps
  induction ps with
  | nil => intro ks i h1 h2; subst h1; simp [cmb]
  | cons p ps ih =>
    intro ks i h1 h2
    subst h1
    cases ks with
    | nil => simp at h2
    | cons k ks => simpa [cmb] using ih ks _ rfl (by simpa using h2)



def vCub (c : Cubic) : Bool := vPt c.A && vPt c.B && vPt c.C && vPt c.D
def vQuad (c : Quad) : Bool := vPt c.A && vPt c.B && vPt c.C



















def sz (p : Pt) : Int := w (max p.X (w (0 - p.X)) + max p.Y (w (0 - p.Y)))
def sec (a b c : Pt) : Pt := ⟨w (a.X - 2 * b.X + c.X), w (a.Y - 2 * b.Y + c.Y)⟩
def bend (c : Cubic) : Int := max (sz (sec c.A c.B c.C)) (sz (sec c.B c.C c.D))









theorem cmb_sec1 (a b c d : Pt) : (⟨w (cmb Pt.X [a, b, c, d] [1, -2, 1, 0]), w (cmb Pt.Y [a, b, c, d] [1, -2, 1, 0])⟩ : Pt) = sec a b c := by
  simp only [cmb, sec, eq_Pt]
  constructor <;> (refine w_ph ?_; simp only [ph_add, ph_mul, ph_sub, ph_neg, ph_w, ph_0, ph_1, ph_2, ph_3, ph_4, ph_8, ph_20, ph_n1, ph_n2, ph_n3] <;> grind)
theorem cmb_sec2 (a b c d : Pt) : (⟨w (cmb Pt.X [a, b, c, d] [0, 1, -2, 1]), w (cmb Pt.Y [a, b, c, d] [0, 1, -2, 1])⟩ : Pt) = sec b c d := by
  simp only [cmb, sec, eq_Pt]
  constructor <;> (refine w_ph ?_; simp only [ph_add, ph_mul, ph_sub, ph_neg, ph_w, ph_0, ph_1, ph_2, ph_3, ph_4, ph_8, ph_20, ph_n1, ph_n2, ph_n3] <;> grind)
theorem cmb_sec3 (a b c : Pt) : (⟨w (cmb Pt.X [a, b, c] [1, -2, 1]), w (cmb Pt.Y [a, b, c] [1, -2, 1])⟩ : Pt) = sec a b c := by
  simp only [cmb, sec, eq_Pt]
  constructor <;> (refine w_ph ?_; simp only [ph_add, ph_mul, ph_sub, ph_neg, ph_w, ph_0, ph_1, ph_2, ph_3, ph_4, ph_8, ph_20, ph_n1, ph_n2, ph_n3] <;> grind)







end GV

/-
  Arithmetic modulo 2^64, and rounding. No condition beyond those named.
-/
import Derived.Test.YtlifofjaiigogaaWE
namespace GV
open Go
set_option linter.unusedSimpArgs false
set_option linter.unusedVariables false

theorem pre_iff {p : Prop} : Pre p ↔ p := ⟨fun h => h.out, fun h => ⟨h⟩⟩

abbrev I64 (n : Int) : Prop := -9223372036854775808 ≤ n ∧ n ≤ 9223372036854775807

/-- the number that stays of a number in 64 bits -/
def w (n : Int) : Int := (n + 9223372036854775808) % 18446744073709551616 - 9223372036854775808

theorem wrap_w (n : Int) : IntKind.i64.wrap n = w n := by
  simp [IntKind.wrap, IntKind.bits, IntKind.signed, w]
  omega

theorem w_in (n : Int) : I64 (w n) := by unfold w I64; omega
theorem w_id {n : Int} (h : I64 n) : w n = n := by unfold w; unfold I64 at h; omega
theorem w_w (n : Int) : w (w n) = w n := w_id (w_in n)

theorem w_cong {a b : Int} (h : a % 18446744073709551616 = b % 18446744073709551616) : w a = w b := by unfold w; omega
theorem w_mod (a : Int) : w a % 18446744073709551616 = a % 18446744073709551616 := by unfold w; omega

theorem w_addl (a b : Int) : w (w a + b) = w (a + b) := by unfold w; omega
theorem w_addr (a b : Int) : w (a + w b) = w (a + b) := by unfold w; omega
theorem w_subl (a b : Int) : w (w a - b) = w (a - b) := by unfold w; omega
theorem w_subr (a b : Int) : w (a - w b) = w (a - b) := by unfold w; omega
theorem w_mull (a b : Int) : w (w a * b) = w (a * b) := by
  apply w_cong
  rw [Int.mul_emod, w_mod, ← Int.mul_emod]
theorem w_mulr (a b : Int) : w (a * w b) = w (a * b) := by rw [Int.mul_comm, w_mull, Int.mul_comm]
theorem w_neg (a : Int) : w (- w a) = w (- a) := by unfold w; omega

/-! ### numbers modulo 2^64 are a ring -/
def ph (x : Int) : BitVec 64 := BitVec.ofInt 64 x
theorem ph_add (x y : Int) : ph (x + y) = ph x + ph y := BitVec.ofInt_add x y
theorem ph_mul (x y : Int) : ph (x * y) = ph x * ph y := BitVec.ofInt_mul x y
theorem ph_neg (x : Int) : ph (-x) = - ph x := BitVec.ofInt_neg
theorem ph_sub (x y : Int) : ph (x - y) = ph x - ph y := by rw [Int.sub_eq_add_neg, ph_add, ph_neg]; exact (BitVec.sub_eq_add_neg _ _).symm
theorem ph_eq {x y : Int} : ph x = ph y ↔ x % 18446744073709551616 = y % 18446744073709551616 := by
  constructor
  · intro h
    have := congrArg BitVec.toNat h
    simp only [ph, BitVec.toNat_ofInt] at this
    omega
  · intro h
    apply BitVec.eq_of_toNat_eq
    simp only [ph, BitVec.toNat_ofInt]
    have : ((2 ^ 64 : Nat) : Int) = 18446744073709551616 := rfl
    rw [this, h]
theorem ph_w (x : Int) : ph (w x) = ph x := ph_eq.2 (w_mod x)
theorem w_ph {x y : Int} (h : ph x = ph y) : w x = w y := w_cong (ph_eq.1 h)
theorem ph_0 : ph 0 = 0 := rfl
theorem ph_1 : ph 1 = 1 := rfl
theorem ph_2 : ph 2 = 2 := rfl
theorem ph_3 : ph 3 = 3 := rfl
theorem ph_4 : ph 4 = 4 := rfl
theorem ph_8 : ph 8 = 8 := rfl
theorem ph_20 : ph 20 = 20 := rfl
theorem ph_n1 : ph (-1) = -1 := rfl
theorem ph_n2 : ph (-2) = -2 := rfl
theorem ph_n3 : ph (-3) = -3 := rfl

/-! ### structs, part by part -/
theorem eq_Pt {p q : Pt} : p = q ↔ p.X = q.X ∧ p.Y = q.Y := by cases p; cases q; simp
theorem eq_Frac {p q : Frac} : p = q ↔ p.Num = q.Num ∧ p.Den = q.Den := by cases p; cases q; simp
theorem eq_Term {p q : Term} : p = q ↔ p.Name = q.Name ∧ p.Coef = q.Coef := by cases p; cases q; simp
theorem eq_Linear {p q : Linear} : p = q ↔ p.Const = q.Const ∧ p.Terms = q.Terms := by cases p; cases q; simp
theorem eq_Row {p q : Row} : p = q ↔ p.Name = q.Name ∧ p.Value = q.Value := by cases p; cases q; simp
theorem eq_System {p q : System} : p = q ↔ p.Rows = q.Rows := by cases p; cases q; simp
theorem eq_Cubic {p q : Cubic} : p = q ↔ p.A = q.A ∧ p.B = q.B ∧ p.C = q.C ∧ p.D = q.D := by cases p; cases q; simp
theorem eq_Quad {p q : Quad} : p = q ↔ p.A = q.A ∧ p.B = q.B ∧ p.C = q.C := by cases p; cases q; simp
theorem eq_Knot {p q : Knot} : p = q ↔ p.At = q.At ∧ p.On = q.On := by cases p; cases q; simp
theorem eq_LoopT {p q : LoopT} : p = q ↔ p.Knots = q.Knots := by cases p; cases q; simp
theorem eq_Outline {p q : Outline} : p = q ↔ p.Loops = q.Loops := by cases p; cases q; simp
theorem eq_Segm {p q : Segm} : p = q ↔ p.Q = q.Q ∧ p.Straight = q.Straight := by cases p; cases q; simp
theorem eq_Token {p q : Token} : p = q ↔ p.Kind = q.Kind ∧ p.Text = q.Text ∧ p.At = q.At := by cases p; cases q; simp
theorem eq_Stmt {p q : Stmt} : p = q ↔ p.Kind = q.Kind ∧ p.Name = q.Name ∧ p.Other = q.Other ∧ p.Left = q.Left ∧ p.Right = q.Right ∧ p.Points = q.Points ∧ p.Numbers = q.Numbers ∧ p.Curved = q.Curved ∧ p.Closed = q.Closed := by cases p; cases q; simp
theorem eq_Curve {p q : Curve} : p = q ↔ p.Knots = q.Knots ∧ p.Closed = q.Closed ∧ p.Tension = q.Tension ∧ p.FixFirst = q.FixFirst ∧ p.FixLast = q.FixLast ∧ p.First = q.First ∧ p.Last = q.Last := by cases p; cases q; simp
theorem eta_Pt (p : Pt) : (⟨p.X, p.Y⟩ : Pt) = p := rfl
theorem eta_Frac (p : Frac) : (⟨p.Num, p.Den⟩ : Frac) = p := rfl
theorem eta_Term (p : Term) : (⟨p.Name, p.Coef⟩ : Term) = p := rfl
theorem eta_Linear (p : Linear) : (⟨p.Const, p.Terms⟩ : Linear) = p := rfl
theorem eta_Row (p : Row) : (⟨p.Name, p.Value⟩ : Row) = p := rfl
theorem eta_System (p : System) : (⟨p.Rows⟩ : System) = p := rfl
theorem eta_Cubic (p : Cubic) : (⟨p.A, p.B, p.C, p.D⟩ : Cubic) = p := rfl
theorem eta_Quad (p : Quad) : (⟨p.A, p.B, p.C⟩ : Quad) = p := rfl
theorem eta_Knot (p : Knot) : (⟨p.At, p.On⟩ : Knot) = p := rfl
theorem eta_LoopT (p : LoopT) : (⟨p.Knots⟩ : LoopT) = p := rfl
theorem eta_Outline (p : Outline) : (⟨p.Loops⟩ : Outline) = p := rfl
theorem eta_Segm (p : Segm) : (⟨p.Q, p.Straight⟩ : Segm) = p := rfl
theorem eta_Token (p : Token) : (⟨p.Kind, p.Text, p.At⟩ : Token) = p := rfl
theorem eta_Stmt (p : Stmt) : (⟨p.Kind, p.Name, p.Other, p.Left, p.Right, p.Points, p.Numbers, p.Curved, p.Closed⟩ : Stmt) = p := rfl
theorem eta_Curve (p : Curve) : (⟨p.Knots, p.Closed, p.Tension, p.FixFirst, p.FixLast, p.First, p.Last⟩ : Curve) = p := rfl

/-- n / d, rounded down -/
theorem fdiv_pos {n d : Int} (hd : 0 < d) (h : n.tmod d < 0) : n.tdiv d - 1 = n / d ∧ n.tmod d + d = n % d := by
  have h1 := Int.mul_tdiv_add_tmod n d
  have h2 := Int.mul_ediv_add_emod n d
  have h3 := Int.emod_nonneg n (show d ≠ 0 by omega)
  have h4 := Int.emod_lt_of_pos n hd
  have h5 : -d < n.tmod d := Int.lt_tmod_of_pos n hd
  have key : n.tdiv d - 1 = n / d := by
    have e : d * (n.tdiv d - 1 - n / d) = n % d - (n.tmod d + d) := by rw [Int.mul_sub, Int.mul_sub]; omega
    have : n.tdiv d - 1 - n / d = 0 := by
      rcases Int.lt_trichotomy (n.tdiv d - 1 - n / d) 0 with h | h | h
      · have : d * (n.tdiv d - 1 - n / d) ≤ d * (-1) := Int.mul_le_mul_of_nonneg_left (by omega) (by omega)
        omega
      · exact h
      · have : d * 1 ≤ d * (n.tdiv d - 1 - n / d) := Int.mul_le_mul_of_nonneg_left (by omega) (by omega)
        omega
    omega
  refine ⟨key, ?_⟩
  rw [← key] at h2
  rw [Int.mul_sub] at h2
  omega

theorem fdiv_zero {n d : Int} (hd : 0 < d) (h : ¬ n.tmod d < 0) : n.tdiv d = n / d ∧ n.tmod d = n % d := by
  have h1 := Int.mul_tdiv_add_tmod n d
  have h2 := Int.mul_ediv_add_emod n d
  have h3 := Int.emod_nonneg n (show d ≠ 0 by omega)
  have h4 := Int.emod_lt_of_pos n hd
  have h5 : n.tmod d < d := Int.tmod_lt_of_pos n hd
  have key : n.tdiv d = n / d := by
    have e : d * (n.tdiv d - n / d) = n % d - n.tmod d := by rw [Int.mul_sub]; omega
    have : n.tdiv d - n / d = 0 := by
      rcases Int.lt_trichotomy (n.tdiv d - n / d) 0 with h | h | h
      · have : d * (n.tdiv d - n / d) ≤ d * (-1) := Int.mul_le_mul_of_nonneg_left (by omega) (by omega)
        omega
      · exact h
      · have : d * 1 ≤ d * (n.tdiv d - n / d) := Int.mul_le_mul_of_nonneg_left (by omega) (by omega)
        omega
    omega
  refine ⟨key, ?_⟩
  rw [← key] at h2
  omega

theorem ediv_in {n d : Int} (hd : 0 < d) (h : I64 n) : I64 (n / d) ∧ (d ≠ 1 → -4611686018427387904 ≤ n / d ∧ n / d ≤ 4611686018427387903) := by
  have h2 := Int.mul_ediv_add_emod n d
  have h3 := Int.emod_nonneg n (show d ≠ 0 by omega)
  have h4 := Int.emod_lt_of_pos n hd
  unfold I64 at h ⊢
  have a1 : n / d ≤ 9223372036854775807 := by
    have := Int.ediv_le_ediv hd h.2
    have : (9223372036854775807 : Int) / d ≤ 9223372036854775807 := Int.ediv_le_self _ (by omega)
    omega
  have a2 : -9223372036854775808 ≤ n / d := by
    rcases Int.lt_or_le (n / d) (-9223372036854775808) with h' | h'
    · exfalso
      have : d * (n / d + 1) ≤ 1 * (n / d + 1) := Int.mul_le_mul_of_nonpos_right (by omega) (by omega)
      rw [Int.mul_add] at this
      omega
    · exact h'
  refine ⟨⟨a2, a1⟩, fun hd1 => ⟨?_, ?_⟩⟩
  · rcases Int.lt_or_le (n / d) (-4611686018427387904) with h' | h'
    · exfalso
      have : d * (n / d + 1) ≤ 2 * (n / d + 1) := Int.mul_le_mul_of_nonpos_right (by omega) (by omega)
      rw [Int.mul_add] at this
      omega
    · exact h'
  · rcases Int.lt_or_le 4611686018427387903 (n / d) with h' | h'
    · exfalso
      have : 2 * (n / d) ≤ d * (n / d) := Int.mul_le_mul_of_nonneg_right (by omega) (by omega)
      omega
    · exact h'

/-- n / d, rounded -/
def dr (n d : Int) : Int := if d ≤ 0 then 0 else if d - n % d ≤ n % d then n / d + 1 else n / d

theorem dr_in {n d : Int} (h : I64 n) : I64 (dr n d) := by
  unfold dr
  split
  · unfold I64; omega
  · rename_i hd
    have hd : 0 < d := by omega
    obtain ⟨h1, h2⟩ := ediv_in hd h
    have h3 := Int.emod_nonneg n (show d ≠ 0 by omega)
    have h4 := Int.emod_lt_of_pos n hd
    unfold I64 at *
    split
    · have := h2 (by omega); omega
    · exact h1

theorem dr_up {n d : Int} (hd : 0 < d) (h : d - n % d ≤ n % d) : n / d + 1 = dr n d := by unfold dr; rw [if_neg (by omega), if_pos h]
theorem dr_down {n d : Int} (hd : 0 < d) (h : ¬ d - n % d ≤ n % d) : n / d = dr n d := by unfold dr; rw [if_neg (by omega), if_neg h]
theorem dr_zero {n d : Int} (hd : d ≤ 0) : 0 = dr n d := by unfold dr; rw [if_pos hd]
theorem emod_in {n d : Int} (hd : 0 < d) (h : I64 d) : w (n % d) = n % d ∧ w (d - n % d) = d - n % d := by
  have h3 := Int.emod_nonneg n (show d ≠ 0 by omega)
  have h4 := Int.emod_lt_of_pos n hd
  exact ⟨w_id ⟨by omega, by omega⟩, w_id ⟨by omega, by omega⟩⟩
theorem mul_div_sub {n d : Int} (hd : 0 < d) (h : I64 d) : w (n - w (n / d * d)) = n % d := by
  rw [w_subr, Int.mul_comm, show n - d * (n / d) = n % d by have := Int.mul_ediv_add_emod n d; omega]
  exact (emod_in hd h).1

theorem cast_L {g : GT} (h : g = g) (xs : List g.den) : @Eq.rec GT g (fun x _ => List x.den) xs g h = xs := rfl
theorem cast_X {g : GT} (h : g = g) (x : g.den) : @Eq.rec GT g (fun x _ => x.den) x g h = x := rfl

theorem cut_lo {α : Type} (xs : List α) (l : Int) : cutL xs (some l) none = xs.drop l.toNat := rfl
theorem cut_hi {α : Type} (xs : List α) (h : Int) : cutL xs none (some h) = xs.take h.toNat := rfl
theorem cut_both {α : Type} (xs : List α) (l h : Int) : cutL xs (some l) (some h) = (xs.take h.toNat).drop l.toNat := rfl
theorem cut_none {α : Type} (xs : List α) : cutL xs none none = xs := rfl
theorem toNat_0 : (0 : Int).toNat = 0 := rfl
theorem toNat_1 : (1 : Int).toNat = 1 := rfl
theorem toNat_2 : (2 : Int).toNat = 2 := rfl

theorem bound_lt {i n : Nat} (h : i < n) : (0 : Int) ≤ i ∧ (i : Int) < n := ⟨by omega, by omega⟩
theorem el_cons_succ {α : Type} [Inhabited α] (x : α) (xs : List α) (i : Nat) : el (x :: xs) ((i + 1 : Nat) : Int) = el xs (i : Int) := by unfold el; simp
theorem w_ok {n m : Int} (h : I64 m) (e : n = m) : w n = m := by rw [e, w_id h]
theorem w_succ {i : Nat} (h : i < 9223372036854775807) : w ((i : Int) + 1) = ((i + 1 : Nat) : Int) := by unfold w; omega

attribute [irreducible] w dr

end GV

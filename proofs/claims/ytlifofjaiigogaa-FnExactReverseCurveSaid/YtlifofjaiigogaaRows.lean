/-
  No cell of these rows narrows 'for every input' (looked for: loops, veiled, ifaces, maps, wideKeys, modest, calm, conditions, laid).
  DERIVED. THE GIVEN ROWS OF THIS SEAT. 12 by the template 'for every input the law returns true; each argument reads behind the call as it read before'; 0 by the template 'total and deterministic' (their statements: YtlifofjaiigogaaTotals.lean).
  GIVEN WITH THE SEED: the statements are not yours to turn. If you find one false, say at which input.
  Laid BY PROGRAM, IN A SANDBOX (cutbox-rows.mjs): the forced cells as the released guide's own fill.sh prints them over the translation bf84f7e5032bb26e… (all of the seat's roots in one cut). By AI agents, Wed Nov 11 2026. No macro, syntax, notation, axiom, sorry.
-/
import Derived.Test.YtlifofjaiigogaaChecked
import GoSem.Claim
import GoSem.ClaimJoined
import GoSem.ClaimMapViews
import Derived.JoinedTies
import Derived.KernelRfl
namespace Go.Proofs.Ytlifofjaiigogaa
/- THE CELL 'sum', in the pinned program and in every row, IS THE sha256 OF THE DUMP (.gsa) THAT YtlifofjaiigogaaProg.lean LOADS. Nothing in Lean hashes anything: it is a label: what it is worth is what the hold of that sum in a sandbox is worth. -/
noncomputable def Try.pinned : Pinned := { name := "ytlifofjaiigogaa", sum := "bf84f7e5032bb26edad40293003a8e114a432fdfecbdd8952e6c9171156aae20", checked := Try.checked }
namespace Rows
def none {H : Type} : Left H := { results := [], args := [] }

/-- 'laws.FnExactSameCurve': WHATEVER THE INPUT: true; the input reads as it did. -/
def fnExactSameCurveSpec : ChangeSpec := { name := "fnExactSameCurve", fn := fun _ => fun
  | [d1, d2] => { results := [.lit (.bool true)], args := [d1, d2] }
  | _ => none }
def fnExactSameCurveRow : OpenClaim := { program := "ytlifofjaiigogaa", sum := "bf84f7e5032bb26edad40293003a8e114a432fdfecbdd8952e6c9171156aae20", func := "loop.example/g00883/laws.FnExactSameCurve", spec := "fnExactSameCurve", apart := false }
def FnExactSameCurveSaid : Prop := fnExactSameCurveRow.holds Try.pinned (OpenSpec.ofChange fnExactSameCurveSpec)

/-- ITS FALSE NEIGHBOUR: 'it returns false'. Refute it at one input. -/
def fnExactSameCurveWrong : ChangeSpec := { name := "fnExactSameCurve", fn := fun _ => fun
  | [d1, d2] => { results := [.lit (.bool false)], args := [d1, d2] }
  | _ => none }
def FnExactSameCurveWrongFalsely : Prop := fnExactSameCurveRow.holds Try.pinned (OpenSpec.ofChange fnExactSameCurveWrong)

/-- 'laws.FnExactValidLoop': WHATEVER THE INPUT: true; the input reads as it did. -/
def fnExactValidLoopSpec : ChangeSpec := { name := "fnExactValidLoop", fn := fun _ => fun
  | [d] => { results := [.lit (.bool true)], args := [d] }
  | _ => none }
def fnExactValidLoopRow : OpenClaim := { program := "ytlifofjaiigogaa", sum := "bf84f7e5032bb26edad40293003a8e114a432fdfecbdd8952e6c9171156aae20", func := "loop.example/g00883/laws.FnExactValidLoop", spec := "fnExactValidLoop", unfollowed := true, recurses := true, apart := false }
def FnExactValidLoopSaid : Prop := fnExactValidLoopRow.holds Try.pinned (OpenSpec.ofChange fnExactValidLoopSpec)

/-- ITS FALSE NEIGHBOUR: 'it returns false'. Refute it at one input. -/
def fnExactValidLoopWrong : ChangeSpec := { name := "fnExactValidLoop", fn := fun _ => fun
  | [d] => { results := [.lit (.bool false)], args := [d] }
  | _ => none }
def FnExactValidLoopWrongFalsely : Prop := fnExactValidLoopRow.holds Try.pinned (OpenSpec.ofChange fnExactValidLoopWrong)

/-- 'laws.FnExactValidCurve': WHATEVER THE INPUT: true; the input reads as it did. -/
def fnExactValidCurveSpec : ChangeSpec := { name := "fnExactValidCurve", fn := fun _ => fun
  | [d] => { results := [.lit (.bool true)], args := [d] }
  | _ => none }
def fnExactValidCurveRow : OpenClaim := { program := "ytlifofjaiigogaa", sum := "bf84f7e5032bb26edad40293003a8e114a432fdfecbdd8952e6c9171156aae20", func := "loop.example/g00883/laws.FnExactValidCurve", spec := "fnExactValidCurve", apart := false }
def FnExactValidCurveSaid : Prop := fnExactValidCurveRow.holds Try.pinned (OpenSpec.ofChange fnExactValidCurveSpec)

/-- ITS FALSE NEIGHBOUR: 'it returns false'. Refute it at one input. -/
def fnExactValidCurveWrong : ChangeSpec := { name := "fnExactValidCurve", fn := fun _ => fun
  | [d] => { results := [.lit (.bool false)], args := [d] }
  | _ => none }
def FnExactValidCurveWrongFalsely : Prop := fnExactValidCurveRow.holds Try.pinned (OpenSpec.ofChange fnExactValidCurveWrong)

/-- 'laws.FnExactValidOutline': WHATEVER THE INPUT: true; the input reads as it did. -/
def fnExactValidOutlineSpec : ChangeSpec := { name := "fnExactValidOutline", fn := fun _ => fun
  | [d] => { results := [.lit (.bool true)], args := [d] }
  | _ => none }
def fnExactValidOutlineRow : OpenClaim := { program := "ytlifofjaiigogaa", sum := "bf84f7e5032bb26edad40293003a8e114a432fdfecbdd8952e6c9171156aae20", func := "loop.example/g00883/laws.FnExactValidOutline", spec := "fnExactValidOutline", unfollowed := true, recurses := true, apart := false }
def FnExactValidOutlineSaid : Prop := fnExactValidOutlineRow.holds Try.pinned (OpenSpec.ofChange fnExactValidOutlineSpec)

/-- ITS FALSE NEIGHBOUR: 'it returns false'. Refute it at one input. -/
def fnExactValidOutlineWrong : ChangeSpec := { name := "fnExactValidOutline", fn := fun _ => fun
  | [d] => { results := [.lit (.bool false)], args := [d] }
  | _ => none }
def FnExactValidOutlineWrongFalsely : Prop := fnExactValidOutlineRow.holds Try.pinned (OpenSpec.ofChange fnExactValidOutlineWrong)

/-- 'laws.FnExactSameOutline': WHATEVER THE INPUT: true; the input reads as it did. -/
def fnExactSameOutlineSpec : ChangeSpec := { name := "fnExactSameOutline", fn := fun _ => fun
  | [d1, d2] => { results := [.lit (.bool true)], args := [d1, d2] }
  | _ => none }
def fnExactSameOutlineRow : OpenClaim := { program := "ytlifofjaiigogaa", sum := "bf84f7e5032bb26edad40293003a8e114a432fdfecbdd8952e6c9171156aae20", func := "loop.example/g00883/laws.FnExactSameOutline", spec := "fnExactSameOutline", unfollowed := true, recurses := true, apart := false }
def FnExactSameOutlineSaid : Prop := fnExactSameOutlineRow.holds Try.pinned (OpenSpec.ofChange fnExactSameOutlineSpec)

/-- ITS FALSE NEIGHBOUR: 'it returns false'. Refute it at one input. -/
def fnExactSameOutlineWrong : ChangeSpec := { name := "fnExactSameOutline", fn := fun _ => fun
  | [d1, d2] => { results := [.lit (.bool false)], args := [d1, d2] }
  | _ => none }
def FnExactSameOutlineWrongFalsely : Prop := fnExactSameOutlineRow.holds Try.pinned (OpenSpec.ofChange fnExactSameOutlineWrong)

/-- 'laws.FnExactMoveCurve': WHATEVER THE INPUT: true; the input reads as it did. -/
def fnExactMoveCurveSpec : ChangeSpec := { name := "fnExactMoveCurve", fn := fun _ => fun
  | [d1, d2] => { results := [.lit (.bool true)], args := [d1, d2] }
  | _ => none }
def fnExactMoveCurveRow : OpenClaim := { program := "ytlifofjaiigogaa", sum := "bf84f7e5032bb26edad40293003a8e114a432fdfecbdd8952e6c9171156aae20", func := "loop.example/g00883/laws.FnExactMoveCurve", spec := "fnExactMoveCurve", apart := false }
def FnExactMoveCurveSaid : Prop := fnExactMoveCurveRow.holds Try.pinned (OpenSpec.ofChange fnExactMoveCurveSpec)

/-- ITS FALSE NEIGHBOUR: 'it returns false'. Refute it at one input. -/
def fnExactMoveCurveWrong : ChangeSpec := { name := "fnExactMoveCurve", fn := fun _ => fun
  | [d1, d2] => { results := [.lit (.bool false)], args := [d1, d2] }
  | _ => none }
def FnExactMoveCurveWrongFalsely : Prop := fnExactMoveCurveRow.holds Try.pinned (OpenSpec.ofChange fnExactMoveCurveWrong)

/-- 'laws.FnExactReverseCurve': WHATEVER THE INPUT: true; the input reads as it did. -/
def fnExactReverseCurveSpec : ChangeSpec := { name := "fnExactReverseCurve", fn := fun _ => fun
  | [d] => { results := [.lit (.bool true)], args := [d] }
  | _ => none }
def fnExactReverseCurveRow : OpenClaim := { program := "ytlifofjaiigogaa", sum := "bf84f7e5032bb26edad40293003a8e114a432fdfecbdd8952e6c9171156aae20", func := "loop.example/g00883/laws.FnExactReverseCurve", spec := "fnExactReverseCurve", apart := false }
def FnExactReverseCurveSaid : Prop := fnExactReverseCurveRow.holds Try.pinned (OpenSpec.ofChange fnExactReverseCurveSpec)

/-- ITS FALSE NEIGHBOUR: 'it returns false'. Refute it at one input. -/
def fnExactReverseCurveWrong : ChangeSpec := { name := "fnExactReverseCurve", fn := fun _ => fun
  | [d] => { results := [.lit (.bool false)], args := [d] }
  | _ => none }
def FnExactReverseCurveWrongFalsely : Prop := fnExactReverseCurveRow.holds Try.pinned (OpenSpec.ofChange fnExactReverseCurveWrong)

/-- 'laws.FnExactCurveSide': WHATEVER THE INPUT: true; the input reads as it did. -/
def fnExactCurveSideSpec : ChangeSpec := { name := "fnExactCurveSide", fn := fun _ => fun
  | [d1, d2] => { results := [.lit (.bool true)], args := [d1, d2] }
  | _ => none }
def fnExactCurveSideRow : OpenClaim := { program := "ytlifofjaiigogaa", sum := "bf84f7e5032bb26edad40293003a8e114a432fdfecbdd8952e6c9171156aae20", func := "loop.example/g00883/laws.FnExactCurveSide", spec := "fnExactCurveSide", apart := false }
def FnExactCurveSideSaid : Prop := fnExactCurveSideRow.holds Try.pinned (OpenSpec.ofChange fnExactCurveSideSpec)

/-- ITS FALSE NEIGHBOUR: 'it returns false'. Refute it at one input. -/
def fnExactCurveSideWrong : ChangeSpec := { name := "fnExactCurveSide", fn := fun _ => fun
  | [d1, d2] => { results := [.lit (.bool false)], args := [d1, d2] }
  | _ => none }
def FnExactCurveSideWrongFalsely : Prop := fnExactCurveSideRow.holds Try.pinned (OpenSpec.ofChange fnExactCurveSideWrong)

/-- 'laws.FnExactCurveRow': WHATEVER THE INPUT: true; the input reads as it did. -/
def fnExactCurveRowSpec : ChangeSpec := { name := "fnExactCurveRow", fn := fun _ => fun
  | [d1, d2] => { results := [.lit (.bool true)], args := [d1, d2] }
  | _ => none }
def fnExactCurveRowRow : OpenClaim := { program := "ytlifofjaiigogaa", sum := "bf84f7e5032bb26edad40293003a8e114a432fdfecbdd8952e6c9171156aae20", func := "loop.example/g00883/laws.FnExactCurveRow", spec := "fnExactCurveRow", apart := false }
def FnExactCurveRowSaid : Prop := fnExactCurveRowRow.holds Try.pinned (OpenSpec.ofChange fnExactCurveRowSpec)

/-- ITS FALSE NEIGHBOUR: 'it returns false'. Refute it at one input. -/
def fnExactCurveRowWrong : ChangeSpec := { name := "fnExactCurveRow", fn := fun _ => fun
  | [d1, d2] => { results := [.lit (.bool false)], args := [d1, d2] }
  | _ => none }
def FnExactCurveRowWrongFalsely : Prop := fnExactCurveRowRow.holds Try.pinned (OpenSpec.ofChange fnExactCurveRowWrong)

/-- 'laws.FnExactCurveScale': WHATEVER THE INPUT: true; the input reads as it did. -/
def fnExactCurveScaleSpec : ChangeSpec := { name := "fnExactCurveScale", fn := fun _ => fun
  | [d] => { results := [.lit (.bool true)], args := [d] }
  | _ => none }
def fnExactCurveScaleRow : OpenClaim := { program := "ytlifofjaiigogaa", sum := "bf84f7e5032bb26edad40293003a8e114a432fdfecbdd8952e6c9171156aae20", func := "loop.example/g00883/laws.FnExactCurveScale", spec := "fnExactCurveScale", apart := false }
def FnExactCurveScaleSaid : Prop := fnExactCurveScaleRow.holds Try.pinned (OpenSpec.ofChange fnExactCurveScaleSpec)

/-- ITS FALSE NEIGHBOUR: 'it returns false'. Refute it at one input. -/
def fnExactCurveScaleWrong : ChangeSpec := { name := "fnExactCurveScale", fn := fun _ => fun
  | [d] => { results := [.lit (.bool false)], args := [d] }
  | _ => none }
def FnExactCurveScaleWrongFalsely : Prop := fnExactCurveScaleRow.holds Try.pinned (OpenSpec.ofChange fnExactCurveScaleWrong)

/-- 'laws.FnExactCurveSlopes': WHATEVER THE INPUT: true; the input reads as it did. -/
def fnExactCurveSlopesSpec : ChangeSpec := { name := "fnExactCurveSlopes", fn := fun _ => fun
  | [d] => { results := [.lit (.bool true)], args := [d] }
  | _ => none }
def fnExactCurveSlopesRow : OpenClaim := { program := "ytlifofjaiigogaa", sum := "bf84f7e5032bb26edad40293003a8e114a432fdfecbdd8952e6c9171156aae20", func := "loop.example/g00883/laws.FnExactCurveSlopes", spec := "fnExactCurveSlopes", apart := false }
def FnExactCurveSlopesSaid : Prop := fnExactCurveSlopesRow.holds Try.pinned (OpenSpec.ofChange fnExactCurveSlopesSpec)

/-- ITS FALSE NEIGHBOUR: 'it returns false'. Refute it at one input. -/
def fnExactCurveSlopesWrong : ChangeSpec := { name := "fnExactCurveSlopes", fn := fun _ => fun
  | [d] => { results := [.lit (.bool false)], args := [d] }
  | _ => none }
def FnExactCurveSlopesWrongFalsely : Prop := fnExactCurveSlopesRow.holds Try.pinned (OpenSpec.ofChange fnExactCurveSlopesWrong)

/-- 'laws.FnExactReverseOutline': WHATEVER THE INPUT: true; the input reads as it did. -/
def fnExactReverseOutlineSpec : ChangeSpec := { name := "fnExactReverseOutline", fn := fun _ => fun
  | [d] => { results := [.lit (.bool true)], args := [d] }
  | _ => none }
def fnExactReverseOutlineRow : OpenClaim := { program := "ytlifofjaiigogaa", sum := "bf84f7e5032bb26edad40293003a8e114a432fdfecbdd8952e6c9171156aae20", func := "loop.example/g00883/laws.FnExactReverseOutline", spec := "fnExactReverseOutline", unfollowed := true, recurses := true, apart := false }
def FnExactReverseOutlineSaid : Prop := fnExactReverseOutlineRow.holds Try.pinned (OpenSpec.ofChange fnExactReverseOutlineSpec)

/-- ITS FALSE NEIGHBOUR: 'it returns false'. Refute it at one input. -/
def fnExactReverseOutlineWrong : ChangeSpec := { name := "fnExactReverseOutline", fn := fun _ => fun
  | [d] => { results := [.lit (.bool false)], args := [d] }
  | _ => none }
def FnExactReverseOutlineWrongFalsely : Prop := fnExactReverseOutlineRow.holds Try.pinned (OpenSpec.ofChange fnExactReverseOutlineWrong)

/- THE SECOND FORM. 'bulk': how many values and letters a reading holds, each counted each time it is reached (what is shared counts as often as it is met; a slice's spare places count too). A statement '..UptoSaid' is the law's where the arguments, and the package variables that the reading takes, are together of bulk at most 1048576: NARROWER than '..Said'. Prove '..Said' where nothing that the law and all that it calls make is longer than what came in: it says more and counts as full. Else prove '..UptoSaid'. A law counts once. -/
mutual
def uptoBulk {H : Type} : DataW H → Nat
  | .lit (.string bytes) => bytes.length + 1
  | .lit _ => 1
  | .nil => 1
  | .ptr d => uptoBulk d + 1
  | .slice elems spare => uptoBulkAll elems + uptoBulkAll spare + 1
  | .agg parts => uptoBulkAll parts + 1
  | .iface _ d => uptoBulk d + 1
  | .map entries => uptoBulkEntries entries + 1
  | .held _ => 1
def uptoBulkAll {H : Type} : List (DataW H) → Nat
  | [] => 0
  | d :: r => uptoBulk d + uptoBulkAll r
def uptoBulkEntries {H : Type} : List (Lit × DataW H) → Nat
  | [] => 0
  | x :: r => uptoBulkEntry x + uptoBulkEntries r
def uptoBulkEntry {H : Type} : Lit × DataW H → Nat
  | (.string bytes, d) => bytes.length + uptoBulk d + 1
  | (_, d) => uptoBulk d + 1
 end
def uptoSmall : (H : Type) → List (DataW H) → Bool := fun _ ds => decide (uptoBulkAll ds ≤ 1048576)
def OpenSpec.upto (s : _root_.Go.ChangeSpec) : _root_.Go.OpenSpec := { _root_.Go.OpenSpec.ofChange s with cond := some uptoSmall }

/-- 'laws.FnExactSameCurve', WHERE WHAT IT READS IS OF BULK AT MOST 1048576: true; the input reads as it did. -/
def fnExactSameCurveUptoRow : OpenClaim := { program := "ytlifofjaiigogaa", sum := "bf84f7e5032bb26edad40293003a8e114a432fdfecbdd8952e6c9171156aae20", func := "loop.example/g00883/laws.FnExactSameCurve", spec := "fnExactSameCurve", apart := false, narrowed := true }
def FnExactSameCurveUptoSaid : Prop := fnExactSameCurveUptoRow.holds Try.pinned (OpenSpec.upto fnExactSameCurveSpec)

/-- 'laws.FnExactValidLoop', WHERE WHAT IT READS IS OF BULK AT MOST 1048576: true; the input reads as it did. -/
def fnExactValidLoopUptoRow : OpenClaim := { program := "ytlifofjaiigogaa", sum := "bf84f7e5032bb26edad40293003a8e114a432fdfecbdd8952e6c9171156aae20", func := "loop.example/g00883/laws.FnExactValidLoop", spec := "fnExactValidLoop", unfollowed := true, recurses := true, apart := false, narrowed := true }
def FnExactValidLoopUptoSaid : Prop := fnExactValidLoopUptoRow.holds Try.pinned (OpenSpec.upto fnExactValidLoopSpec)

/-- 'laws.FnExactValidCurve', WHERE WHAT IT READS IS OF BULK AT MOST 1048576: true; the input reads as it did. -/
def fnExactValidCurveUptoRow : OpenClaim := { program := "ytlifofjaiigogaa", sum := "bf84f7e5032bb26edad40293003a8e114a432fdfecbdd8952e6c9171156aae20", func := "loop.example/g00883/laws.FnExactValidCurve", spec := "fnExactValidCurve", apart := false, narrowed := true }
def FnExactValidCurveUptoSaid : Prop := fnExactValidCurveUptoRow.holds Try.pinned (OpenSpec.upto fnExactValidCurveSpec)

/-- 'laws.FnExactValidOutline', WHERE WHAT IT READS IS OF BULK AT MOST 1048576: true; the input reads as it did. -/
def fnExactValidOutlineUptoRow : OpenClaim := { program := "ytlifofjaiigogaa", sum := "bf84f7e5032bb26edad40293003a8e114a432fdfecbdd8952e6c9171156aae20", func := "loop.example/g00883/laws.FnExactValidOutline", spec := "fnExactValidOutline", unfollowed := true, recurses := true, apart := false, narrowed := true }
def FnExactValidOutlineUptoSaid : Prop := fnExactValidOutlineUptoRow.holds Try.pinned (OpenSpec.upto fnExactValidOutlineSpec)

/-- 'laws.FnExactSameOutline', WHERE WHAT IT READS IS OF BULK AT MOST 1048576: true; the input reads as it did. -/
def fnExactSameOutlineUptoRow : OpenClaim := { program := "ytlifofjaiigogaa", sum := "bf84f7e5032bb26edad40293003a8e114a432fdfecbdd8952e6c9171156aae20", func := "loop.example/g00883/laws.FnExactSameOutline", spec := "fnExactSameOutline", unfollowed := true, recurses := true, apart := false, narrowed := true }
def FnExactSameOutlineUptoSaid : Prop := fnExactSameOutlineUptoRow.holds Try.pinned (OpenSpec.upto fnExactSameOutlineSpec)

/-- 'laws.FnExactMoveCurve', WHERE WHAT IT READS IS OF BULK AT MOST 1048576: true; the input reads as it did. -/
def fnExactMoveCurveUptoRow : OpenClaim := { program := "ytlifofjaiigogaa", sum := "bf84f7e5032bb26edad40293003a8e114a432fdfecbdd8952e6c9171156aae20", func := "loop.example/g00883/laws.FnExactMoveCurve", spec := "fnExactMoveCurve", apart := false, narrowed := true }
def FnExactMoveCurveUptoSaid : Prop := fnExactMoveCurveUptoRow.holds Try.pinned (OpenSpec.upto fnExactMoveCurveSpec)

/-- 'laws.FnExactReverseCurve', WHERE WHAT IT READS IS OF BULK AT MOST 1048576: true; the input reads as it did. -/
def fnExactReverseCurveUptoRow : OpenClaim := { program := "ytlifofjaiigogaa", sum := "bf84f7e5032bb26edad40293003a8e114a432fdfecbdd8952e6c9171156aae20", func := "loop.example/g00883/laws.FnExactReverseCurve", spec := "fnExactReverseCurve", apart := false, narrowed := true }
def FnExactReverseCurveUptoSaid : Prop := fnExactReverseCurveUptoRow.holds Try.pinned (OpenSpec.upto fnExactReverseCurveSpec)

/-- 'laws.FnExactCurveSide', WHERE WHAT IT READS IS OF BULK AT MOST 1048576: true; the input reads as it did. -/
def fnExactCurveSideUptoRow : OpenClaim := { program := "ytlifofjaiigogaa", sum := "bf84f7e5032bb26edad40293003a8e114a432fdfecbdd8952e6c9171156aae20", func := "loop.example/g00883/laws.FnExactCurveSide", spec := "fnExactCurveSide", apart := false, narrowed := true }
def FnExactCurveSideUptoSaid : Prop := fnExactCurveSideUptoRow.holds Try.pinned (OpenSpec.upto fnExactCurveSideSpec)

/-- 'laws.FnExactCurveRow', WHERE WHAT IT READS IS OF BULK AT MOST 1048576: true; the input reads as it did. -/
def fnExactCurveRowUptoRow : OpenClaim := { program := "ytlifofjaiigogaa", sum := "bf84f7e5032bb26edad40293003a8e114a432fdfecbdd8952e6c9171156aae20", func := "loop.example/g00883/laws.FnExactCurveRow", spec := "fnExactCurveRow", apart := false, narrowed := true }
def FnExactCurveRowUptoSaid : Prop := fnExactCurveRowUptoRow.holds Try.pinned (OpenSpec.upto fnExactCurveRowSpec)

/-- 'laws.FnExactCurveScale', WHERE WHAT IT READS IS OF BULK AT MOST 1048576: true; the input reads as it did. -/
def fnExactCurveScaleUptoRow : OpenClaim := { program := "ytlifofjaiigogaa", sum := "bf84f7e5032bb26edad40293003a8e114a432fdfecbdd8952e6c9171156aae20", func := "loop.example/g00883/laws.FnExactCurveScale", spec := "fnExactCurveScale", apart := false, narrowed := true }
def FnExactCurveScaleUptoSaid : Prop := fnExactCurveScaleUptoRow.holds Try.pinned (OpenSpec.upto fnExactCurveScaleSpec)

/-- 'laws.FnExactCurveSlopes', WHERE WHAT IT READS IS OF BULK AT MOST 1048576: true; the input reads as it did. -/
def fnExactCurveSlopesUptoRow : OpenClaim := { program := "ytlifofjaiigogaa", sum := "bf84f7e5032bb26edad40293003a8e114a432fdfecbdd8952e6c9171156aae20", func := "loop.example/g00883/laws.FnExactCurveSlopes", spec := "fnExactCurveSlopes", apart := false, narrowed := true }
def FnExactCurveSlopesUptoSaid : Prop := fnExactCurveSlopesUptoRow.holds Try.pinned (OpenSpec.upto fnExactCurveSlopesSpec)

/-- 'laws.FnExactReverseOutline', WHERE WHAT IT READS IS OF BULK AT MOST 1048576: true; the input reads as it did. -/
def fnExactReverseOutlineUptoRow : OpenClaim := { program := "ytlifofjaiigogaa", sum := "bf84f7e5032bb26edad40293003a8e114a432fdfecbdd8952e6c9171156aae20", func := "loop.example/g00883/laws.FnExactReverseOutline", spec := "fnExactReverseOutline", unfollowed := true, recurses := true, apart := false, narrowed := true }
def FnExactReverseOutlineUptoSaid : Prop := fnExactReverseOutlineUptoRow.holds Try.pinned (OpenSpec.upto fnExactReverseOutlineSpec)

end Rows
end Go.Proofs.Ytlifofjaiigogaa

/-
  No cell of these rows narrows 'for every input' (looked for: loops, veiled, ifaces, maps, wideKeys, modest, calm, conditions, laid).
  DERIVED. THE GIVEN ROWS OF THIS SEAT. 12 by the template 'for every input the law returns true; each argument reads behind the call as it read before'; 0 by the template 'total and deterministic' (their statements: YtdmgahhdjmjdiaaTotals.lean).
  GIVEN WITH THE SEED: the statements are not yours to turn. If you find one false, say at which input.
  Laid BY PROGRAM, IN A SANDBOX (cutbox-rows.mjs): the forced cells as the released guide's own fill.sh prints them over the translation 9ed962a47565980b… (all of the seat's roots in one cut). By AI agents, Wed Nov 11 2026. No macro, syntax, notation, axiom, sorry.
-/
import Derived.Test.YtdmgahhdjmjdiaaChecked
import GoSem.Claim
import GoSem.ClaimJoined
import GoSem.ClaimMapViews
import Derived.JoinedTies
import Derived.KernelRfl
namespace Go.Proofs.Ytdmgahhdjmjdiaa
/- THE CELL 'sum', in the pinned program and in every row, IS THE sha256 OF THE DUMP (.gsa) THAT YtdmgahhdjmjdiaaProg.lean LOADS. Nothing in Lean hashes anything: it is a label: what it is worth is what the hold of that sum in a sandbox is worth. -/
noncomputable def Try.pinned : Pinned := { name := "ytdmgahhdjmjdiaa", sum := "9ed962a47565980b33805f2adcfb0d9f098642b2eb5278eae5b361fdbbfdd814", checked := Try.checked }
namespace Rows
def none {H : Type} : Left H := { results := [], args := [] }

/-- 'laws.FnExactIsKeyword': WHATEVER THE INPUT: true; the input reads as it did. -/
def fnExactIsKeywordSpec : ChangeSpec := { name := "fnExactIsKeyword", fn := fun _ => fun
  | [d] => { results := [.lit (.bool true)], args := [d] }
  | _ => none }
def fnExactIsKeywordRow : OpenClaim := { program := "ytdmgahhdjmjdiaa", sum := "9ed962a47565980b33805f2adcfb0d9f098642b2eb5278eae5b361fdbbfdd814", func := "loop.example/g00883/laws.FnExactIsKeyword", spec := "fnExactIsKeyword", apart := false }
def FnExactIsKeywordSaid : Prop := fnExactIsKeywordRow.holds Try.pinned (OpenSpec.ofChange fnExactIsKeywordSpec)

/-- ITS FALSE NEIGHBOUR: 'it returns false'. Refute it at one input. -/
def fnExactIsKeywordWrong : ChangeSpec := { name := "fnExactIsKeyword", fn := fun _ => fun
  | [d] => { results := [.lit (.bool false)], args := [d] }
  | _ => none }
def FnExactIsKeywordWrongFalsely : Prop := fnExactIsKeywordRow.holds Try.pinned (OpenSpec.ofChange fnExactIsKeywordWrong)

/-- 'laws.FnExactValidCubic': WHATEVER THE INPUT: true; the input reads as it did. -/
def fnExactValidCubicSpec : ChangeSpec := { name := "fnExactValidCubic", fn := fun _ => fun
  | [d] => { results := [.lit (.bool true)], args := [d] }
  | _ => none }
def fnExactValidCubicRow : OpenClaim := { program := "ytdmgahhdjmjdiaa", sum := "9ed962a47565980b33805f2adcfb0d9f098642b2eb5278eae5b361fdbbfdd814", func := "loop.example/g00883/laws.FnExactValidCubic", spec := "fnExactValidCubic", apart := false }
def FnExactValidCubicSaid : Prop := fnExactValidCubicRow.holds Try.pinned (OpenSpec.ofChange fnExactValidCubicSpec)

/-- ITS FALSE NEIGHBOUR: 'it returns false'. Refute it at one input. -/
def fnExactValidCubicWrong : ChangeSpec := { name := "fnExactValidCubic", fn := fun _ => fun
  | [d] => { results := [.lit (.bool false)], args := [d] }
  | _ => none }
def FnExactValidCubicWrongFalsely : Prop := fnExactValidCubicRow.holds Try.pinned (OpenSpec.ofChange fnExactValidCubicWrong)

/-- 'laws.FnExactReverseCubic': WHATEVER THE INPUT: true; the input reads as it did. -/
def fnExactReverseCubicSpec : ChangeSpec := { name := "fnExactReverseCubic", fn := fun _ => fun
  | [d] => { results := [.lit (.bool true)], args := [d] }
  | _ => none }
def fnExactReverseCubicRow : OpenClaim := { program := "ytdmgahhdjmjdiaa", sum := "9ed962a47565980b33805f2adcfb0d9f098642b2eb5278eae5b361fdbbfdd814", func := "loop.example/g00883/laws.FnExactReverseCubic", spec := "fnExactReverseCubic", apart := false }
def FnExactReverseCubicSaid : Prop := fnExactReverseCubicRow.holds Try.pinned (OpenSpec.ofChange fnExactReverseCubicSpec)

/-- ITS FALSE NEIGHBOUR: 'it returns false'. Refute it at one input. -/
def fnExactReverseCubicWrong : ChangeSpec := { name := "fnExactReverseCubic", fn := fun _ => fun
  | [d] => { results := [.lit (.bool false)], args := [d] }
  | _ => none }
def FnExactReverseCubicWrongFalsely : Prop := fnExactReverseCubicRow.holds Try.pinned (OpenSpec.ofChange fnExactReverseCubicWrong)

/-- 'laws.FnExactBendOf': WHATEVER THE INPUT: true; the input reads as it did. -/
def fnExactBendOfSpec : ChangeSpec := { name := "fnExactBendOf", fn := fun _ => fun
  | [d] => { results := [.lit (.bool true)], args := [d] }
  | _ => none }
def fnExactBendOfRow : OpenClaim := { program := "ytdmgahhdjmjdiaa", sum := "9ed962a47565980b33805f2adcfb0d9f098642b2eb5278eae5b361fdbbfdd814", func := "loop.example/g00883/laws.FnExactBendOf", spec := "fnExactBendOf", apart := false }
def FnExactBendOfSaid : Prop := fnExactBendOfRow.holds Try.pinned (OpenSpec.ofChange fnExactBendOfSpec)

/-- ITS FALSE NEIGHBOUR: 'it returns false'. Refute it at one input. -/
def fnExactBendOfWrong : ChangeSpec := { name := "fnExactBendOf", fn := fun _ => fun
  | [d] => { results := [.lit (.bool false)], args := [d] }
  | _ => none }
def FnExactBendOfWrongFalsely : Prop := fnExactBendOfRow.holds Try.pinned (OpenSpec.ofChange fnExactBendOfWrong)

/-- 'laws.FnExactCubicBounds': WHATEVER THE INPUT: true; the input reads as it did. -/
def fnExactCubicBoundsSpec : ChangeSpec := { name := "fnExactCubicBounds", fn := fun _ => fun
  | [d] => { results := [.lit (.bool true)], args := [d] }
  | _ => none }
def fnExactCubicBoundsRow : OpenClaim := { program := "ytdmgahhdjmjdiaa", sum := "9ed962a47565980b33805f2adcfb0d9f098642b2eb5278eae5b361fdbbfdd814", func := "loop.example/g00883/laws.FnExactCubicBounds", spec := "fnExactCubicBounds", apart := false }
def FnExactCubicBoundsSaid : Prop := fnExactCubicBoundsRow.holds Try.pinned (OpenSpec.ofChange fnExactCubicBoundsSpec)

/-- ITS FALSE NEIGHBOUR: 'it returns false'. Refute it at one input. -/
def fnExactCubicBoundsWrong : ChangeSpec := { name := "fnExactCubicBounds", fn := fun _ => fun
  | [d] => { results := [.lit (.bool false)], args := [d] }
  | _ => none }
def FnExactCubicBoundsWrongFalsely : Prop := fnExactCubicBoundsRow.holds Try.pinned (OpenSpec.ofChange fnExactCubicBoundsWrong)

/-- 'laws.FnExactLevelFor': WHATEVER THE INPUT: true; the input reads as it did. -/
def fnExactLevelForSpec : ChangeSpec := { name := "fnExactLevelFor", fn := fun _ => fun
  | [d1, d2] => { results := [.lit (.bool true)], args := [d1, d2] }
  | _ => none }
def fnExactLevelForRow : OpenClaim := { program := "ytdmgahhdjmjdiaa", sum := "9ed962a47565980b33805f2adcfb0d9f098642b2eb5278eae5b361fdbbfdd814", func := "loop.example/g00883/laws.FnExactLevelFor", spec := "fnExactLevelFor", apart := false }
def FnExactLevelForSaid : Prop := fnExactLevelForRow.holds Try.pinned (OpenSpec.ofChange fnExactLevelForSpec)

/-- ITS FALSE NEIGHBOUR: 'it returns false'. Refute it at one input. -/
def fnExactLevelForWrong : ChangeSpec := { name := "fnExactLevelFor", fn := fun _ => fun
  | [d1, d2] => { results := [.lit (.bool false)], args := [d1, d2] }
  | _ => none }
def FnExactLevelForWrongFalsely : Prop := fnExactLevelForRow.holds Try.pinned (OpenSpec.ofChange fnExactLevelForWrong)

/-- 'laws.FnExactHalvesOf': WHATEVER THE INPUT: true; the input reads as it did. -/
def fnExactHalvesOfSpec : ChangeSpec := { name := "fnExactHalvesOf", fn := fun _ => fun
  | [d] => { results := [.lit (.bool true)], args := [d] }
  | _ => none }
def fnExactHalvesOfRow : OpenClaim := { program := "ytdmgahhdjmjdiaa", sum := "9ed962a47565980b33805f2adcfb0d9f098642b2eb5278eae5b361fdbbfdd814", func := "loop.example/g00883/laws.FnExactHalvesOf", spec := "fnExactHalvesOf", apart := false }
def FnExactHalvesOfSaid : Prop := fnExactHalvesOfRow.holds Try.pinned (OpenSpec.ofChange fnExactHalvesOfSpec)

/-- ITS FALSE NEIGHBOUR: 'it returns false'. Refute it at one input. -/
def fnExactHalvesOfWrong : ChangeSpec := { name := "fnExactHalvesOf", fn := fun _ => fun
  | [d] => { results := [.lit (.bool false)], args := [d] }
  | _ => none }
def FnExactHalvesOfWrongFalsely : Prop := fnExactHalvesOfRow.holds Try.pinned (OpenSpec.ofChange fnExactHalvesOfWrong)

/-- 'laws.FnExactQuadAt': WHATEVER THE INPUT: true; the input reads as it did. -/
def fnExactQuadAtSpec : ChangeSpec := { name := "fnExactQuadAt", fn := fun _ => fun
  | [d1, d2, d3] => { results := [.lit (.bool true)], args := [d1, d2, d3] }
  | _ => none }
def fnExactQuadAtRow : OpenClaim := { program := "ytdmgahhdjmjdiaa", sum := "9ed962a47565980b33805f2adcfb0d9f098642b2eb5278eae5b361fdbbfdd814", func := "loop.example/g00883/laws.FnExactQuadAt", spec := "fnExactQuadAt", apart := false }
def FnExactQuadAtSaid : Prop := fnExactQuadAtRow.holds Try.pinned (OpenSpec.ofChange fnExactQuadAtSpec)

/-- ITS FALSE NEIGHBOUR: 'it returns false'. Refute it at one input. -/
def fnExactQuadAtWrong : ChangeSpec := { name := "fnExactQuadAt", fn := fun _ => fun
  | [d1, d2, d3] => { results := [.lit (.bool false)], args := [d1, d2, d3] }
  | _ => none }
def FnExactQuadAtWrongFalsely : Prop := fnExactQuadAtRow.holds Try.pinned (OpenSpec.ofChange fnExactQuadAtWrong)

/-- 'laws.FnExactCubicAt': WHATEVER THE INPUT: true; the input reads as it did. -/
def fnExactCubicAtSpec : ChangeSpec := { name := "fnExactCubicAt", fn := fun _ => fun
  | [d1, d2, d3] => { results := [.lit (.bool true)], args := [d1, d2, d3] }
  | _ => none }
def fnExactCubicAtRow : OpenClaim := { program := "ytdmgahhdjmjdiaa", sum := "9ed962a47565980b33805f2adcfb0d9f098642b2eb5278eae5b361fdbbfdd814", func := "loop.example/g00883/laws.FnExactCubicAt", spec := "fnExactCubicAt", apart := false }
def FnExactCubicAtSaid : Prop := fnExactCubicAtRow.holds Try.pinned (OpenSpec.ofChange fnExactCubicAtSpec)

/-- ITS FALSE NEIGHBOUR: 'it returns false'. Refute it at one input. -/
def fnExactCubicAtWrong : ChangeSpec := { name := "fnExactCubicAt", fn := fun _ => fun
  | [d1, d2, d3] => { results := [.lit (.bool false)], args := [d1, d2, d3] }
  | _ => none }
def FnExactCubicAtWrongFalsely : Prop := fnExactCubicAtRow.holds Try.pinned (OpenSpec.ofChange fnExactCubicAtWrong)

/-- 'laws.FnExactFlattenQuad': WHATEVER THE INPUT: true; the input reads as it did. -/
def fnExactFlattenQuadSpec : ChangeSpec := { name := "fnExactFlattenQuad", fn := fun _ => fun
  | [d1, d2] => { results := [.lit (.bool true)], args := [d1, d2] }
  | _ => none }
def fnExactFlattenQuadRow : OpenClaim := { program := "ytdmgahhdjmjdiaa", sum := "9ed962a47565980b33805f2adcfb0d9f098642b2eb5278eae5b361fdbbfdd814", func := "loop.example/g00883/laws.FnExactFlattenQuad", spec := "fnExactFlattenQuad", apart := false }
def FnExactFlattenQuadSaid : Prop := fnExactFlattenQuadRow.holds Try.pinned (OpenSpec.ofChange fnExactFlattenQuadSpec)

/-- ITS FALSE NEIGHBOUR: 'it returns false'. Refute it at one input. -/
def fnExactFlattenQuadWrong : ChangeSpec := { name := "fnExactFlattenQuad", fn := fun _ => fun
  | [d1, d2] => { results := [.lit (.bool false)], args := [d1, d2] }
  | _ => none }
def FnExactFlattenQuadWrongFalsely : Prop := fnExactFlattenQuadRow.holds Try.pinned (OpenSpec.ofChange fnExactFlattenQuadWrong)

/-- 'laws.FnExactFlattenCubic': WHATEVER THE INPUT: true; the input reads as it did. -/
def fnExactFlattenCubicSpec : ChangeSpec := { name := "fnExactFlattenCubic", fn := fun _ => fun
  | [d1, d2] => { results := [.lit (.bool true)], args := [d1, d2] }
  | _ => none }
def fnExactFlattenCubicRow : OpenClaim := { program := "ytdmgahhdjmjdiaa", sum := "9ed962a47565980b33805f2adcfb0d9f098642b2eb5278eae5b361fdbbfdd814", func := "loop.example/g00883/laws.FnExactFlattenCubic", spec := "fnExactFlattenCubic", apart := false }
def FnExactFlattenCubicSaid : Prop := fnExactFlattenCubicRow.holds Try.pinned (OpenSpec.ofChange fnExactFlattenCubicSpec)

/-- ITS FALSE NEIGHBOUR: 'it returns false'. Refute it at one input. -/
def fnExactFlattenCubicWrong : ChangeSpec := { name := "fnExactFlattenCubic", fn := fun _ => fun
  | [d1, d2] => { results := [.lit (.bool false)], args := [d1, d2] }
  | _ => none }
def FnExactFlattenCubicWrongFalsely : Prop := fnExactFlattenCubicRow.holds Try.pinned (OpenSpec.ofChange fnExactFlattenCubicWrong)

/-- 'laws.FnExactQuadsOfCubic': WHATEVER THE INPUT: true; the input reads as it did. -/
def fnExactQuadsOfCubicSpec : ChangeSpec := { name := "fnExactQuadsOfCubic", fn := fun _ => fun
  | [d1, d2] => { results := [.lit (.bool true)], args := [d1, d2] }
  | _ => none }
def fnExactQuadsOfCubicRow : OpenClaim := { program := "ytdmgahhdjmjdiaa", sum := "9ed962a47565980b33805f2adcfb0d9f098642b2eb5278eae5b361fdbbfdd814", func := "loop.example/g00883/laws.FnExactQuadsOfCubic", spec := "fnExactQuadsOfCubic", apart := false }
def FnExactQuadsOfCubicSaid : Prop := fnExactQuadsOfCubicRow.holds Try.pinned (OpenSpec.ofChange fnExactQuadsOfCubicSpec)

/-- ITS FALSE NEIGHBOUR: 'it returns false'. Refute it at one input. -/
def fnExactQuadsOfCubicWrong : ChangeSpec := { name := "fnExactQuadsOfCubic", fn := fun _ => fun
  | [d1, d2] => { results := [.lit (.bool false)], args := [d1, d2] }
  | _ => none }
def FnExactQuadsOfCubicWrongFalsely : Prop := fnExactQuadsOfCubicRow.holds Try.pinned (OpenSpec.ofChange fnExactQuadsOfCubicWrong)

/- THE SECOND FORM. 'bulk': how many values and letters a reading holds, each counted each time it is reached (what is shared counts as often as it is met; a slice's spare places count too). A statement '..UptoSaid' is the law's where the arguments, and the package variables that the reading takes, are together of bulk at most 1048576: NARROWER than '..Said'. Prove '..Said' where nothing that the law and all that it calls make is longer than what came in: it says more and counts as full. Else prove '..UptoSaid'. A law counts once. -/
mutual
def uptoBulk {H : Type} : DataW H → Nat
  | .lit (.string bytes) => bytes.length + 1
  | .lit _ => 1
  | .nil => 1
  | .ptr d => uptoBulk d + 1
  | .slice elems spare => uptoBulkAll elems + uptoBulkAll spare + 1
  | .agg parts => uptoBulkAll parts + 1
  | .iface _ d => uptoBulk d + 1
  | .map entries => uptoBulkEntries entries + 1
  | .held _ => 1
def uptoBulkAll {H : Type} : List (DataW H) → Nat
  | [] => 0
  | d :: r => uptoBulk d + uptoBulkAll r
def uptoBulkEntries {H : Type} : List (Lit × DataW H) → Nat
  | [] => 0
  | x :: r => uptoBulkEntry x + uptoBulkEntries r
def uptoBulkEntry {H : Type} : Lit × DataW H → Nat
  | (.string bytes, d) => bytes.length + uptoBulk d + 1
  | (_, d) => uptoBulk d + 1
 end
def uptoSmall : (H : Type) → List (DataW H) → Bool := fun _ ds => decide (uptoBulkAll ds ≤ 1048576)
def OpenSpec.upto (s : _root_.Go.ChangeSpec) : _root_.Go.OpenSpec := { _root_.Go.OpenSpec.ofChange s with cond := some uptoSmall }

/-- 'laws.FnExactIsKeyword', WHERE WHAT IT READS IS OF BULK AT MOST 1048576: true; the input reads as it did. -/
def fnExactIsKeywordUptoRow : OpenClaim := { program := "ytdmgahhdjmjdiaa", sum := "9ed962a47565980b33805f2adcfb0d9f098642b2eb5278eae5b361fdbbfdd814", func := "loop.example/g00883/laws.FnExactIsKeyword", spec := "fnExactIsKeyword", apart := false, narrowed := true }
def FnExactIsKeywordUptoSaid : Prop := fnExactIsKeywordUptoRow.holds Try.pinned (OpenSpec.upto fnExactIsKeywordSpec)

/-- 'laws.FnExactValidCubic', WHERE WHAT IT READS IS OF BULK AT MOST 1048576: true; the input reads as it did. -/
def fnExactValidCubicUptoRow : OpenClaim := { program := "ytdmgahhdjmjdiaa", sum := "9ed962a47565980b33805f2adcfb0d9f098642b2eb5278eae5b361fdbbfdd814", func := "loop.example/g00883/laws.FnExactValidCubic", spec := "fnExactValidCubic", apart := false, narrowed := true }
def FnExactValidCubicUptoSaid : Prop := fnExactValidCubicUptoRow.holds Try.pinned (OpenSpec.upto fnExactValidCubicSpec)

/-- 'laws.FnExactReverseCubic', WHERE WHAT IT READS IS OF BULK AT MOST 1048576: true; the input reads as it did. -/
def fnExactReverseCubicUptoRow : OpenClaim := { program := "ytdmgahhdjmjdiaa", sum := "9ed962a47565980b33805f2adcfb0d9f098642b2eb5278eae5b361fdbbfdd814", func := "loop.example/g00883/laws.FnExactReverseCubic", spec := "fnExactReverseCubic", apart := false, narrowed := true }
def FnExactReverseCubicUptoSaid : Prop := fnExactReverseCubicUptoRow.holds Try.pinned (OpenSpec.upto fnExactReverseCubicSpec)

/-- 'laws.FnExactBendOf', WHERE WHAT IT READS IS OF BULK AT MOST 1048576: true; the input reads as it did. -/
def fnExactBendOfUptoRow : OpenClaim := { program := "ytdmgahhdjmjdiaa", sum := "9ed962a47565980b33805f2adcfb0d9f098642b2eb5278eae5b361fdbbfdd814", func := "loop.example/g00883/laws.FnExactBendOf", spec := "fnExactBendOf", apart := false, narrowed := true }
def FnExactBendOfUptoSaid : Prop := fnExactBendOfUptoRow.holds Try.pinned (OpenSpec.upto fnExactBendOfSpec)

/-- 'laws.FnExactCubicBounds', WHERE WHAT IT READS IS OF BULK AT MOST 1048576: true; the input reads as it did. -/
def fnExactCubicBoundsUptoRow : OpenClaim := { program := "ytdmgahhdjmjdiaa", sum := "9ed962a47565980b33805f2adcfb0d9f098642b2eb5278eae5b361fdbbfdd814", func := "loop.example/g00883/laws.FnExactCubicBounds", spec := "fnExactCubicBounds", apart := false, narrowed := true }
def FnExactCubicBoundsUptoSaid : Prop := fnExactCubicBoundsUptoRow.holds Try.pinned (OpenSpec.upto fnExactCubicBoundsSpec)

/-- 'laws.FnExactLevelFor', WHERE WHAT IT READS IS OF BULK AT MOST 1048576: true; the input reads as it did. -/
def fnExactLevelForUptoRow : OpenClaim := { program := "ytdmgahhdjmjdiaa", sum := "9ed962a47565980b33805f2adcfb0d9f098642b2eb5278eae5b361fdbbfdd814", func := "loop.example/g00883/laws.FnExactLevelFor", spec := "fnExactLevelFor", apart := false, narrowed := true }
def FnExactLevelForUptoSaid : Prop := fnExactLevelForUptoRow.holds Try.pinned (OpenSpec.upto fnExactLevelForSpec)

/-- 'laws.FnExactHalvesOf', WHERE WHAT IT READS IS OF BULK AT MOST 1048576: true; the input reads as it did. -/
def fnExactHalvesOfUptoRow : OpenClaim := { program := "ytdmgahhdjmjdiaa", sum := "9ed962a47565980b33805f2adcfb0d9f098642b2eb5278eae5b361fdbbfdd814", func := "loop.example/g00883/laws.FnExactHalvesOf", spec := "fnExactHalvesOf", apart := false, narrowed := true }
def FnExactHalvesOfUptoSaid : Prop := fnExactHalvesOfUptoRow.holds Try.pinned (OpenSpec.upto fnExactHalvesOfSpec)

/-- 'laws.FnExactQuadAt', WHERE WHAT IT READS IS OF BULK AT MOST 1048576: true; the input reads as it did. -/
def fnExactQuadAtUptoRow : OpenClaim := { program := "ytdmgahhdjmjdiaa", sum := "9ed962a47565980b33805f2adcfb0d9f098642b2eb5278eae5b361fdbbfdd814", func := "loop.example/g00883/laws.FnExactQuadAt", spec := "fnExactQuadAt", apart := false, narrowed := true }
def FnExactQuadAtUptoSaid : Prop := fnExactQuadAtUptoRow.holds Try.pinned (OpenSpec.upto fnExactQuadAtSpec)

/-- 'laws.FnExactCubicAt', WHERE WHAT IT READS IS OF BULK AT MOST 1048576: true; the input reads as it did. -/
def fnExactCubicAtUptoRow : OpenClaim := { program := "ytdmgahhdjmjdiaa", sum := "9ed962a47565980b33805f2adcfb0d9f098642b2eb5278eae5b361fdbbfdd814", func := "loop.example/g00883/laws.FnExactCubicAt", spec := "fnExactCubicAt", apart := false, narrowed := true }
def FnExactCubicAtUptoSaid : Prop := fnExactCubicAtUptoRow.holds Try.pinned (OpenSpec.upto fnExactCubicAtSpec)

/-- 'laws.FnExactFlattenQuad', WHERE WHAT IT READS IS OF BULK AT MOST 1048576: true; the input reads as it did. -/
def fnExactFlattenQuadUptoRow : OpenClaim := { program := "ytdmgahhdjmjdiaa", sum := "9ed962a47565980b33805f2adcfb0d9f098642b2eb5278eae5b361fdbbfdd814", func := "loop.example/g00883/laws.FnExactFlattenQuad", spec := "fnExactFlattenQuad", apart := false, narrowed := true }
def FnExactFlattenQuadUptoSaid : Prop := fnExactFlattenQuadUptoRow.holds Try.pinned (OpenSpec.upto fnExactFlattenQuadSpec)

/-- 'laws.FnExactFlattenCubic', WHERE WHAT IT READS IS OF BULK AT MOST 1048576: true; the input reads as it did. -/
def fnExactFlattenCubicUptoRow : OpenClaim := { program := "ytdmgahhdjmjdiaa", sum := "9ed962a47565980b33805f2adcfb0d9f098642b2eb5278eae5b361fdbbfdd814", func := "loop.example/g00883/laws.FnExactFlattenCubic", spec := "fnExactFlattenCubic", apart := false, narrowed := true }
def FnExactFlattenCubicUptoSaid : Prop := fnExactFlattenCubicUptoRow.holds Try.pinned (OpenSpec.upto fnExactFlattenCubicSpec)

/-- 'laws.FnExactQuadsOfCubic', WHERE WHAT IT READS IS OF BULK AT MOST 1048576: true; the input reads as it did. -/
def fnExactQuadsOfCubicUptoRow : OpenClaim := { program := "ytdmgahhdjmjdiaa", sum := "9ed962a47565980b33805f2adcfb0d9f098642b2eb5278eae5b361fdbbfdd814", func := "loop.example/g00883/laws.FnExactQuadsOfCubic", spec := "fnExactQuadsOfCubic", apart := false, narrowed := true }
def FnExactQuadsOfCubicUptoSaid : Prop := fnExactQuadsOfCubicUptoRow.holds Try.pinned (OpenSpec.upto fnExactQuadsOfCubicSpec)

end Rows
end Go.Proofs.Ytdmgahhdjmjdiaa

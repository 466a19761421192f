/-
  No cell of these rows narrows 'for every input' (looked for: loops, veiled, ifaces, maps, wideKeys, modest, calm, conditions, laid).
  DERIVED. THE GIVEN ROWS OF THIS SEAT. 12 by the template 'for every input the law returns true; each argument reads behind the call as it read before'; 0 by the template 'total and deterministic' (their statements: YtodhmoffnimdbaaTotals.lean).
  GIVEN WITH THE SEED: the statements are not yours to turn. If you find one false, say at which input.
  Laid BY PROGRAM, IN A SANDBOX (cutbox-rows.mjs): the forced cells as the released guide's own fill.sh prints them over the translation bee0c08b17a3b1c4… (all of the seat's roots in one cut). By AI agents, Wed Nov 11 2026. No macro, syntax, notation, axiom, sorry.
-/
import Derived.Test.YtodhmoffnimdbaaChecked
import GoSem.Claim
import GoSem.ClaimJoined
import GoSem.ClaimMapViews
import Derived.JoinedTies
import Derived.KernelRfl
namespace Go.Proofs.Ytodhmoffnimdbaa
/- THE CELL 'sum', in the pinned program and in every row, IS THE sha256 OF THE DUMP (.gsa) THAT YtodhmoffnimdbaaProg.lean LOADS. Nothing in Lean hashes anything: it is a label: what it is worth is what the hold of that sum in a sandbox is worth. -/
noncomputable def Try.pinned : Pinned := { name := "ytodhmoffnimdbaa", sum := "bee0c08b17a3b1c40927dd6903fb80a16e440ca3d05463f95a545511784f4a4f", checked := Try.checked }
namespace Rows
def none {H : Type} : Left H := { results := [], args := [] }

/-- 'laws.FnExactReadDecimal': WHATEVER THE INPUT: true; the input reads as it did. -/
def fnExactReadDecimalSpec : ChangeSpec := { name := "fnExactReadDecimal", fn := fun _ => fun
  | [d] => { results := [.lit (.bool true)], args := [d] }
  | _ => none }
def fnExactReadDecimalRow : OpenClaim := { program := "ytodhmoffnimdbaa", sum := "bee0c08b17a3b1c40927dd6903fb80a16e440ca3d05463f95a545511784f4a4f", func := "loop.example/g00931/laws.FnExactReadDecimal", spec := "fnExactReadDecimal", apart := false }
def FnExactReadDecimalSaid : Prop := fnExactReadDecimalRow.holds Try.pinned (OpenSpec.ofChange fnExactReadDecimalSpec)

/-- ITS FALSE NEIGHBOUR: 'it returns false'. Refute it at one input. -/
def fnExactReadDecimalWrong : ChangeSpec := { name := "fnExactReadDecimal", fn := fun _ => fun
  | [d] => { results := [.lit (.bool false)], args := [d] }
  | _ => none }
def FnExactReadDecimalWrongFalsely : Prop := fnExactReadDecimalRow.holds Try.pinned (OpenSpec.ofChange fnExactReadDecimalWrong)

/-- 'laws.FnExactValidPanel': WHATEVER THE INPUT: true; the input reads as it did. -/
def fnExactValidPanelSpec : ChangeSpec := { name := "fnExactValidPanel", fn := fun _ => fun
  | [d] => { results := [.lit (.bool true)], args := [d] }
  | _ => none }
def fnExactValidPanelRow : OpenClaim := { program := "ytodhmoffnimdbaa", sum := "bee0c08b17a3b1c40927dd6903fb80a16e440ca3d05463f95a545511784f4a4f", func := "loop.example/g00931/laws.FnExactValidPanel", spec := "fnExactValidPanel", apart := false }
def FnExactValidPanelSaid : Prop := fnExactValidPanelRow.holds Try.pinned (OpenSpec.ofChange fnExactValidPanelSpec)

/-- ITS FALSE NEIGHBOUR: 'it returns false'. Refute it at one input. -/
def fnExactValidPanelWrong : ChangeSpec := { name := "fnExactValidPanel", fn := fun _ => fun
  | [d] => { results := [.lit (.bool false)], args := [d] }
  | _ => none }
def FnExactValidPanelWrongFalsely : Prop := fnExactValidPanelRow.holds Try.pinned (OpenSpec.ofChange fnExactValidPanelWrong)

/-- 'laws.FnExactCountSegments': WHATEVER THE INPUT: true; the input reads as it did. -/
def fnExactCountSegmentsSpec : ChangeSpec := { name := "fnExactCountSegments", fn := fun _ => fun
  | [d] => { results := [.lit (.bool true)], args := [d] }
  | _ => none }
def fnExactCountSegmentsRow : OpenClaim := { program := "ytodhmoffnimdbaa", sum := "bee0c08b17a3b1c40927dd6903fb80a16e440ca3d05463f95a545511784f4a4f", func := "loop.example/g00931/laws.FnExactCountSegments", spec := "fnExactCountSegments", apart := false }
def FnExactCountSegmentsSaid : Prop := fnExactCountSegmentsRow.holds Try.pinned (OpenSpec.ofChange fnExactCountSegmentsSpec)

/-- ITS FALSE NEIGHBOUR: 'it returns false'. Refute it at one input. -/
def fnExactCountSegmentsWrong : ChangeSpec := { name := "fnExactCountSegments", fn := fun _ => fun
  | [d] => { results := [.lit (.bool false)], args := [d] }
  | _ => none }
def FnExactCountSegmentsWrongFalsely : Prop := fnExactCountSegmentsRow.holds Try.pinned (OpenSpec.ofChange fnExactCountSegmentsWrong)

/-- 'laws.FnExactIsPoint': WHATEVER THE INPUT: true; the input reads as it did. -/
def fnExactIsPointSpec : ChangeSpec := { name := "fnExactIsPoint", fn := fun _ => fun
  | [d1, d2] => { results := [.lit (.bool true)], args := [d1, d2] }
  | _ => none }
def fnExactIsPointRow : OpenClaim := { program := "ytodhmoffnimdbaa", sum := "bee0c08b17a3b1c40927dd6903fb80a16e440ca3d05463f95a545511784f4a4f", func := "loop.example/g00931/laws.FnExactIsPoint", spec := "fnExactIsPoint", apart := false }
def FnExactIsPointSaid : Prop := fnExactIsPointRow.holds Try.pinned (OpenSpec.ofChange fnExactIsPointSpec)

/-- ITS FALSE NEIGHBOUR: 'it returns false'. Refute it at one input. -/
def fnExactIsPointWrong : ChangeSpec := { name := "fnExactIsPoint", fn := fun _ => fun
  | [d1, d2] => { results := [.lit (.bool false)], args := [d1, d2] }
  | _ => none }
def FnExactIsPointWrongFalsely : Prop := fnExactIsPointRow.holds Try.pinned (OpenSpec.ofChange fnExactIsPointWrong)

/-- 'laws.FnExactIsBorder': WHATEVER THE INPUT: true; the input reads as it did. -/
def fnExactIsBorderSpec : ChangeSpec := { name := "fnExactIsBorder", fn := fun _ => fun
  | [d1, d2] => { results := [.lit (.bool true)], args := [d1, d2] }
  | _ => none }
def fnExactIsBorderRow : OpenClaim := { program := "ytodhmoffnimdbaa", sum := "bee0c08b17a3b1c40927dd6903fb80a16e440ca3d05463f95a545511784f4a4f", func := "loop.example/g00931/laws.FnExactIsBorder", spec := "fnExactIsBorder", apart := false }
def FnExactIsBorderSaid : Prop := fnExactIsBorderRow.holds Try.pinned (OpenSpec.ofChange fnExactIsBorderSpec)

/-- ITS FALSE NEIGHBOUR: 'it returns false'. Refute it at one input. -/
def fnExactIsBorderWrong : ChangeSpec := { name := "fnExactIsBorder", fn := fun _ => fun
  | [d1, d2] => { results := [.lit (.bool false)], args := [d1, d2] }
  | _ => none }
def FnExactIsBorderWrongFalsely : Prop := fnExactIsBorderRow.holds Try.pinned (OpenSpec.ofChange fnExactIsBorderWrong)

/-- 'laws.FnExactCountBreaks': WHATEVER THE INPUT: true; the input reads as it did. -/
def fnExactCountBreaksSpec : ChangeSpec := { name := "fnExactCountBreaks", fn := fun _ => fun
  | [d1, d2] => { results := [.lit (.bool true)], args := [d1, d2] }
  | _ => none }
def fnExactCountBreaksRow : OpenClaim := { program := "ytodhmoffnimdbaa", sum := "bee0c08b17a3b1c40927dd6903fb80a16e440ca3d05463f95a545511784f4a4f", func := "loop.example/g00931/laws.FnExactCountBreaks", spec := "fnExactCountBreaks", apart := false }
def FnExactCountBreaksSaid : Prop := fnExactCountBreaksRow.holds Try.pinned (OpenSpec.ofChange fnExactCountBreaksSpec)

/-- ITS FALSE NEIGHBOUR: 'it returns false'. Refute it at one input. -/
def fnExactCountBreaksWrong : ChangeSpec := { name := "fnExactCountBreaks", fn := fun _ => fun
  | [d1, d2] => { results := [.lit (.bool false)], args := [d1, d2] }
  | _ => none }
def FnExactCountBreaksWrongFalsely : Prop := fnExactCountBreaksRow.holds Try.pinned (OpenSpec.ofChange fnExactCountBreaksWrong)

/-- 'laws.FnExactValidWalker': WHATEVER THE INPUT: true; the input reads as it did. -/
def fnExactValidWalkerSpec : ChangeSpec := { name := "fnExactValidWalker", fn := fun _ => fun
  | [d1, d2] => { results := [.lit (.bool true)], args := [d1, d2] }
  | _ => none }
def fnExactValidWalkerRow : OpenClaim := { program := "ytodhmoffnimdbaa", sum := "bee0c08b17a3b1c40927dd6903fb80a16e440ca3d05463f95a545511784f4a4f", func := "loop.example/g00931/laws.FnExactValidWalker", spec := "fnExactValidWalker", apart := false }
def FnExactValidWalkerSaid : Prop := fnExactValidWalkerRow.holds Try.pinned (OpenSpec.ofChange fnExactValidWalkerSpec)

/-- ITS FALSE NEIGHBOUR: 'it returns false'. Refute it at one input. -/
def fnExactValidWalkerWrong : ChangeSpec := { name := "fnExactValidWalker", fn := fun _ => fun
  | [d1, d2] => { results := [.lit (.bool false)], args := [d1, d2] }
  | _ => none }
def FnExactValidWalkerWrongFalsely : Prop := fnExactValidWalkerRow.holds Try.pinned (OpenSpec.ofChange fnExactValidWalkerWrong)

/-- 'laws.FnExactPictureFault': WHATEVER THE INPUT: true; the input reads as it did. -/
def fnExactPictureFaultSpec : ChangeSpec := { name := "fnExactPictureFault", fn := fun _ => fun
  | [d] => { results := [.lit (.bool true)], args := [d] }
  | _ => none }
def fnExactPictureFaultRow : OpenClaim := { program := "ytodhmoffnimdbaa", sum := "bee0c08b17a3b1c40927dd6903fb80a16e440ca3d05463f95a545511784f4a4f", func := "loop.example/g00931/laws.FnExactPictureFault", spec := "fnExactPictureFault", unfollowed := true, recurses := true, apart := false }
def FnExactPictureFaultSaid : Prop := fnExactPictureFaultRow.holds Try.pinned (OpenSpec.ofChange fnExactPictureFaultSpec)

/-- ITS FALSE NEIGHBOUR: 'it returns false'. Refute it at one input. -/
def fnExactPictureFaultWrong : ChangeSpec := { name := "fnExactPictureFault", fn := fun _ => fun
  | [d] => { results := [.lit (.bool false)], args := [d] }
  | _ => none }
def FnExactPictureFaultWrongFalsely : Prop := fnExactPictureFaultRow.holds Try.pinned (OpenSpec.ofChange fnExactPictureFaultWrong)

/-- 'laws.FnExactPointAt': WHATEVER THE INPUT: true; the input reads as it did. -/
def fnExactPointAtSpec : ChangeSpec := { name := "fnExactPointAt", fn := fun _ => fun
  | [d1, d2] => { results := [.lit (.bool true)], args := [d1, d2] }
  | _ => none }
def fnExactPointAtRow : OpenClaim := { program := "ytodhmoffnimdbaa", sum := "bee0c08b17a3b1c40927dd6903fb80a16e440ca3d05463f95a545511784f4a4f", func := "loop.example/g00931/laws.FnExactPointAt", spec := "fnExactPointAt", apart := false }
def FnExactPointAtSaid : Prop := fnExactPointAtRow.holds Try.pinned (OpenSpec.ofChange fnExactPointAtSpec)

/-- ITS FALSE NEIGHBOUR: 'it returns false'. Refute it at one input. -/
def fnExactPointAtWrong : ChangeSpec := { name := "fnExactPointAt", fn := fun _ => fun
  | [d1, d2] => { results := [.lit (.bool false)], args := [d1, d2] }
  | _ => none }
def FnExactPointAtWrongFalsely : Prop := fnExactPointAtRow.holds Try.pinned (OpenSpec.ofChange fnExactPointAtWrong)

/-- 'laws.FnExactWalkerAt': WHATEVER THE INPUT: true; the input reads as it did. -/
def fnExactWalkerAtSpec : ChangeSpec := { name := "fnExactWalkerAt", fn := fun _ => fun
  | [d1, d2] => { results := [.lit (.bool true)], args := [d1, d2] }
  | _ => none }
def fnExactWalkerAtRow : OpenClaim := { program := "ytodhmoffnimdbaa", sum := "bee0c08b17a3b1c40927dd6903fb80a16e440ca3d05463f95a545511784f4a4f", func := "loop.example/g00931/laws.FnExactWalkerAt", spec := "fnExactWalkerAt", apart := false }
def FnExactWalkerAtSaid : Prop := fnExactWalkerAtRow.holds Try.pinned (OpenSpec.ofChange fnExactWalkerAtSpec)

/-- ITS FALSE NEIGHBOUR: 'it returns false'. Refute it at one input. -/
def fnExactWalkerAtWrong : ChangeSpec := { name := "fnExactWalkerAt", fn := fun _ => fun
  | [d1, d2] => { results := [.lit (.bool false)], args := [d1, d2] }
  | _ => none }
def FnExactWalkerAtWrongFalsely : Prop := fnExactWalkerAtRow.holds Try.pinned (OpenSpec.ofChange fnExactWalkerAtWrong)

/-- 'laws.FnExactSegmentOf': WHATEVER THE INPUT: true; the input reads as it did. -/
def fnExactSegmentOfSpec : ChangeSpec := { name := "fnExactSegmentOf", fn := fun _ => fun
  | [d1, d2] => { results := [.lit (.bool true)], args := [d1, d2] }
  | _ => none }
def fnExactSegmentOfRow : OpenClaim := { program := "ytodhmoffnimdbaa", sum := "bee0c08b17a3b1c40927dd6903fb80a16e440ca3d05463f95a545511784f4a4f", func := "loop.example/g00931/laws.FnExactSegmentOf", spec := "fnExactSegmentOf", apart := false }
def FnExactSegmentOfSaid : Prop := fnExactSegmentOfRow.holds Try.pinned (OpenSpec.ofChange fnExactSegmentOfSpec)

/-- ITS FALSE NEIGHBOUR: 'it returns false'. Refute it at one input. -/
def fnExactSegmentOfWrong : ChangeSpec := { name := "fnExactSegmentOf", fn := fun _ => fun
  | [d1, d2] => { results := [.lit (.bool false)], args := [d1, d2] }
  | _ => none }
def FnExactSegmentOfWrongFalsely : Prop := fnExactSegmentOfRow.holds Try.pinned (OpenSpec.ofChange fnExactSegmentOfWrong)

/-- 'laws.FnExactPanelText': WHATEVER THE INPUT: true; the input reads as it did. -/
def fnExactPanelTextSpec : ChangeSpec := { name := "fnExactPanelText", fn := fun _ => fun
  | [d] => { results := [.lit (.bool true)], args := [d] }
  | _ => none }
def fnExactPanelTextRow : OpenClaim := { program := "ytodhmoffnimdbaa", sum := "bee0c08b17a3b1c40927dd6903fb80a16e440ca3d05463f95a545511784f4a4f", func := "loop.example/g00931/laws.FnExactPanelText", spec := "fnExactPanelText", apart := false }
def FnExactPanelTextSaid : Prop := fnExactPanelTextRow.holds Try.pinned (OpenSpec.ofChange fnExactPanelTextSpec)

/-- ITS FALSE NEIGHBOUR: 'it returns false'. Refute it at one input. -/
def fnExactPanelTextWrong : ChangeSpec := { name := "fnExactPanelText", fn := fun _ => fun
  | [d] => { results := [.lit (.bool false)], args := [d] }
  | _ => none }
def FnExactPanelTextWrongFalsely : Prop := fnExactPanelTextRow.holds Try.pinned (OpenSpec.ofChange fnExactPanelTextWrong)

/- THE SECOND FORM. 'bulk': how many values and letters a reading holds, each counted each time it is reached (what is shared counts as often as it is met; a slice's spare places count too). A statement '..UptoSaid' is the law's where the arguments, and the package variables that the reading takes, are together of bulk at most 1048576: NARROWER than '..Said'. Prove '..Said' where nothing that the law and all that it calls make is longer than what came in: it says more and counts as full. Else prove '..UptoSaid'. A law counts once. -/
mutual
def uptoBulk {H : Type} : DataW H → Nat
  | .lit (.string bytes) => bytes.length + 1
  | .lit _ => 1
  | .nil => 1
  | .ptr d => uptoBulk d + 1
  | .slice elems spare => uptoBulkAll elems + uptoBulkAll spare + 1
  | .agg parts => uptoBulkAll parts + 1
  | .iface _ d => uptoBulk d + 1
  | .map entries => uptoBulkEntries entries + 1
  | .held _ => 1
def uptoBulkAll {H : Type} : List (DataW H) → Nat
  | [] => 0
  | d :: r => uptoBulk d + uptoBulkAll r
def uptoBulkEntries {H : Type} : List (Lit × DataW H) → Nat
  | [] => 0
  | x :: r => uptoBulkEntry x + uptoBulkEntries r
def uptoBulkEntry {H : Type} : Lit × DataW H → Nat
  | (.string bytes, d) => bytes.length + uptoBulk d + 1
  | (_, d) => uptoBulk d + 1
 end
def uptoSmall : (H : Type) → List (DataW H) → Bool := fun _ ds => decide (uptoBulkAll ds ≤ 1048576)
def OpenSpec.upto (s : _root_.Go.ChangeSpec) : _root_.Go.OpenSpec := { _root_.Go.OpenSpec.ofChange s with cond := some uptoSmall }

/-- 'laws.FnExactReadDecimal', WHERE WHAT IT READS IS OF BULK AT MOST 1048576: true; the input reads as it did. -/
def fnExactReadDecimalUptoRow : OpenClaim := { program := "ytodhmoffnimdbaa", sum := "bee0c08b17a3b1c40927dd6903fb80a16e440ca3d05463f95a545511784f4a4f", func := "loop.example/g00931/laws.FnExactReadDecimal", spec := "fnExactReadDecimal", apart := false, narrowed := true }
def FnExactReadDecimalUptoSaid : Prop := fnExactReadDecimalUptoRow.holds Try.pinned (OpenSpec.upto fnExactReadDecimalSpec)

/-- 'laws.FnExactValidPanel', WHERE WHAT IT READS IS OF BULK AT MOST 1048576: true; the input reads as it did. -/
def fnExactValidPanelUptoRow : OpenClaim := { program := "ytodhmoffnimdbaa", sum := "bee0c08b17a3b1c40927dd6903fb80a16e440ca3d05463f95a545511784f4a4f", func := "loop.example/g00931/laws.FnExactValidPanel", spec := "fnExactValidPanel", apart := false, narrowed := true }
def FnExactValidPanelUptoSaid : Prop := fnExactValidPanelUptoRow.holds Try.pinned (OpenSpec.upto fnExactValidPanelSpec)

/-- 'laws.FnExactCountSegments', WHERE WHAT IT READS IS OF BULK AT MOST 1048576: true; the input reads as it did. -/
def fnExactCountSegmentsUptoRow : OpenClaim := { program := "ytodhmoffnimdbaa", sum := "bee0c08b17a3b1c40927dd6903fb80a16e440ca3d05463f95a545511784f4a4f", func := "loop.example/g00931/laws.FnExactCountSegments", spec := "fnExactCountSegments", apart := false, narrowed := true }
def FnExactCountSegmentsUptoSaid : Prop := fnExactCountSegmentsUptoRow.holds Try.pinned (OpenSpec.upto fnExactCountSegmentsSpec)

/-- 'laws.FnExactIsPoint', WHERE WHAT IT READS IS OF BULK AT MOST 1048576: true; the input reads as it did. -/
def fnExactIsPointUptoRow : OpenClaim := { program := "ytodhmoffnimdbaa", sum := "bee0c08b17a3b1c40927dd6903fb80a16e440ca3d05463f95a545511784f4a4f", func := "loop.example/g00931/laws.FnExactIsPoint", spec := "fnExactIsPoint", apart := false, narrowed := true }
def FnExactIsPointUptoSaid : Prop := fnExactIsPointUptoRow.holds Try.pinned (OpenSpec.upto fnExactIsPointSpec)

/-- 'laws.FnExactIsBorder', WHERE WHAT IT READS IS OF BULK AT MOST 1048576: true; the input reads as it did. -/
def fnExactIsBorderUptoRow : OpenClaim := { program := "ytodhmoffnimdbaa", sum := "bee0c08b17a3b1c40927dd6903fb80a16e440ca3d05463f95a545511784f4a4f", func := "loop.example/g00931/laws.FnExactIsBorder", spec := "fnExactIsBorder", apart := false, narrowed := true }
def FnExactIsBorderUptoSaid : Prop := fnExactIsBorderUptoRow.holds Try.pinned (OpenSpec.upto fnExactIsBorderSpec)

/-- 'laws.FnExactCountBreaks', WHERE WHAT IT READS IS OF BULK AT MOST 1048576: true; the input reads as it did. -/
def fnExactCountBreaksUptoRow : OpenClaim := { program := "ytodhmoffnimdbaa", sum := "bee0c08b17a3b1c40927dd6903fb80a16e440ca3d05463f95a545511784f4a4f", func := "loop.example/g00931/laws.FnExactCountBreaks", spec := "fnExactCountBreaks", apart := false, narrowed := true }
def FnExactCountBreaksUptoSaid : Prop := fnExactCountBreaksUptoRow.holds Try.pinned (OpenSpec.upto fnExactCountBreaksSpec)

/-- 'laws.FnExactValidWalker', WHERE WHAT IT READS IS OF BULK AT MOST 1048576: true; the input reads as it did. -/
def fnExactValidWalkerUptoRow : OpenClaim := { program := "ytodhmoffnimdbaa", sum := "bee0c08b17a3b1c40927dd6903fb80a16e440ca3d05463f95a545511784f4a4f", func := "loop.example/g00931/laws.FnExactValidWalker", spec := "fnExactValidWalker", apart := false, narrowed := true }
def FnExactValidWalkerUptoSaid : Prop := fnExactValidWalkerUptoRow.holds Try.pinned (OpenSpec.upto fnExactValidWalkerSpec)

/-- 'laws.FnExactPictureFault', WHERE WHAT IT READS IS OF BULK AT MOST 1048576: true; the input reads as it did. -/
def fnExactPictureFaultUptoRow : OpenClaim := { program := "ytodhmoffnimdbaa", sum := "bee0c08b17a3b1c40927dd6903fb80a16e440ca3d05463f95a545511784f4a4f", func := "loop.example/g00931/laws.FnExactPictureFault", spec := "fnExactPictureFault", unfollowed := true, recurses := true, apart := false, narrowed := true }
def FnExactPictureFaultUptoSaid : Prop := fnExactPictureFaultUptoRow.holds Try.pinned (OpenSpec.upto fnExactPictureFaultSpec)

/-- 'laws.FnExactPointAt', WHERE WHAT IT READS IS OF BULK AT MOST 1048576: true; the input reads as it did. -/
def fnExactPointAtUptoRow : OpenClaim := { program := "ytodhmoffnimdbaa", sum := "bee0c08b17a3b1c40927dd6903fb80a16e440ca3d05463f95a545511784f4a4f", func := "loop.example/g00931/laws.FnExactPointAt", spec := "fnExactPointAt", apart := false, narrowed := true }
def FnExactPointAtUptoSaid : Prop := fnExactPointAtUptoRow.holds Try.pinned (OpenSpec.upto fnExactPointAtSpec)

/-- 'laws.FnExactWalkerAt', WHERE WHAT IT READS IS OF BULK AT MOST 1048576: true; the input reads as it did. -/
def fnExactWalkerAtUptoRow : OpenClaim := { program := "ytodhmoffnimdbaa", sum := "bee0c08b17a3b1c40927dd6903fb80a16e440ca3d05463f95a545511784f4a4f", func := "loop.example/g00931/laws.FnExactWalkerAt", spec := "fnExactWalkerAt", apart := false, narrowed := true }
def FnExactWalkerAtUptoSaid : Prop := fnExactWalkerAtUptoRow.holds Try.pinned (OpenSpec.upto fnExactWalkerAtSpec)

/-- 'laws.FnExactSegmentOf', WHERE WHAT IT READS IS OF BULK AT MOST 1048576: true; the input reads as it did. -/
def fnExactSegmentOfUptoRow : OpenClaim := { program := "ytodhmoffnimdbaa", sum := "bee0c08b17a3b1c40927dd6903fb80a16e440ca3d05463f95a545511784f4a4f", func := "loop.example/g00931/laws.FnExactSegmentOf", spec := "fnExactSegmentOf", apart := false, narrowed := true }
def FnExactSegmentOfUptoSaid : Prop := fnExactSegmentOfUptoRow.holds Try.pinned (OpenSpec.upto fnExactSegmentOfSpec)

/-- 'laws.FnExactPanelText', WHERE WHAT IT READS IS OF BULK AT MOST 1048576: true; the input reads as it did. -/
def fnExactPanelTextUptoRow : OpenClaim := { program := "ytodhmoffnimdbaa", sum := "bee0c08b17a3b1c40927dd6903fb80a16e440ca3d05463f95a545511784f4a4f", func := "loop.example/g00931/laws.FnExactPanelText", spec := "fnExactPanelText", apart := false, narrowed := true }
def FnExactPanelTextUptoSaid : Prop := fnExactPanelTextUptoRow.holds Try.pinned (OpenSpec.upto fnExactPanelTextSpec)

end Rows
end Go.Proofs.Ytodhmoffnimdbaa

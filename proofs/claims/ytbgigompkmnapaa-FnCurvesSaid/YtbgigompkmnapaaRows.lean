/-
  No cell of these rows narrows 'for every input' (looked for: loops, veiled, ifaces, maps, wideKeys, modest, calm, conditions, laid).
  DERIVED. THE GIVEN ROWS OF THIS SEAT. 8 by the template 'for every input the law returns true; each argument reads behind the call as it read before'; 0 by the template 'total and deterministic' (their statements: YtbgigompkmnapaaTotals.lean).
  GIVEN WITH THE SEED: the statements are not yours to turn. If you find one false, say at which input.
  Laid BY PROGRAM, IN A SANDBOX (cutbox-rows.mjs): the forced cells as the released guide's own fill.sh prints them over the translation 4b3fbcbaaac6ef08… (all of the seat's roots in one cut). By AI agents, Wed Nov 11 2026. No macro, syntax, notation, axiom, sorry.
-/
import Derived.Test.YtbgigompkmnapaaChecked
import GoSem.Claim
import GoSem.ClaimJoined
import GoSem.ClaimMapViews
import Derived.JoinedTies
import Derived.KernelRfl
namespace Go.Proofs.Ytbgigompkmnapaa
/- THE CELL 'sum', in the pinned program and in every row, IS THE sha256 OF THE DUMP (.gsa) THAT YtbgigompkmnapaaProg.lean LOADS. Nothing in Lean hashes anything: it is a label: what it is worth is what the hold of that sum in a sandbox is worth. -/
noncomputable def Try.pinned : Pinned := { name := "ytbgigompkmnapaa", sum := "4b3fbcbaaac6ef08d9b490ee9055382c3a896fa66d59f52172d84a919e4bebf1", checked := Try.checked }
namespace Rows
def none {H : Type} : Left H := { results := [], args := [] }

/-- 'laws.FnExactCurvesThrough': WHATEVER THE INPUT: true; the input reads as it did. -/
def fnExactCurvesThroughSpec : ChangeSpec := { name := "fnExactCurvesThrough", fn := fun _ => fun
  | [d1, d2] => { results := [.lit (.bool true)], args := [d1, d2] }
  | _ => none }
def fnExactCurvesThroughRow : OpenClaim := { program := "ytbgigompkmnapaa", sum := "4b3fbcbaaac6ef08d9b490ee9055382c3a896fa66d59f52172d84a919e4bebf1", func := "loop.example/g00931/laws.FnExactCurvesThrough", spec := "fnExactCurvesThrough", recurses := true, plainKeys := false, apart := false }
def FnExactCurvesThroughSaid : Prop := fnExactCurvesThroughRow.holds Try.pinned (OpenSpec.ofChange fnExactCurvesThroughSpec)

/-- ITS FALSE NEIGHBOUR: 'it returns false'. Refute it at one input. -/
def fnExactCurvesThroughWrong : ChangeSpec := { name := "fnExactCurvesThrough", fn := fun _ => fun
  | [d1, d2] => { results := [.lit (.bool false)], args := [d1, d2] }
  | _ => none }
def FnExactCurvesThroughWrongFalsely : Prop := fnExactCurvesThroughRow.holds Try.pinned (OpenSpec.ofChange fnExactCurvesThroughWrong)

/-- 'laws.FnExactSelfCrossings': WHATEVER THE INPUT: true; the input reads as it did. -/
def fnExactSelfCrossingsSpec : ChangeSpec := { name := "fnExactSelfCrossings", fn := fun _ => fun
  | [d1, d2] => { results := [.lit (.bool true)], args := [d1, d2] }
  | _ => none }
def fnExactSelfCrossingsRow : OpenClaim := { program := "ytbgigompkmnapaa", sum := "4b3fbcbaaac6ef08d9b490ee9055382c3a896fa66d59f52172d84a919e4bebf1", func := "loop.example/g00931/laws.FnExactSelfCrossings", spec := "fnExactSelfCrossings", recurses := true, plainKeys := false, apart := false }
def FnExactSelfCrossingsSaid : Prop := fnExactSelfCrossingsRow.holds Try.pinned (OpenSpec.ofChange fnExactSelfCrossingsSpec)

/-- ITS FALSE NEIGHBOUR: 'it returns false'. Refute it at one input. -/
def fnExactSelfCrossingsWrong : ChangeSpec := { name := "fnExactSelfCrossings", fn := fun _ => fun
  | [d1, d2] => { results := [.lit (.bool false)], args := [d1, d2] }
  | _ => none }
def FnExactSelfCrossingsWrongFalsely : Prop := fnExactSelfCrossingsRow.holds Try.pinned (OpenSpec.ofChange fnExactSelfCrossingsWrong)

/-- 'laws.FnExactCommonCrossings': WHATEVER THE INPUT: true; the input reads as it did. -/
def fnExactCommonCrossingsSpec : ChangeSpec := { name := "fnExactCommonCrossings", fn := fun _ => fun
  | [d1, d2, d3] => { results := [.lit (.bool true)], args := [d1, d2, d3] }
  | _ => none }
def fnExactCommonCrossingsRow : OpenClaim := { program := "ytbgigompkmnapaa", sum := "4b3fbcbaaac6ef08d9b490ee9055382c3a896fa66d59f52172d84a919e4bebf1", func := "loop.example/g00931/laws.FnExactCommonCrossings", spec := "fnExactCommonCrossings", recurses := true, plainKeys := false, apart := false }
def FnExactCommonCrossingsSaid : Prop := fnExactCommonCrossingsRow.holds Try.pinned (OpenSpec.ofChange fnExactCommonCrossingsSpec)

/-- ITS FALSE NEIGHBOUR: 'it returns false'. Refute it at one input. -/
def fnExactCommonCrossingsWrong : ChangeSpec := { name := "fnExactCommonCrossings", fn := fun _ => fun
  | [d1, d2, d3] => { results := [.lit (.bool false)], args := [d1, d2, d3] }
  | _ => none }
def FnExactCommonCrossingsWrongFalsely : Prop := fnExactCommonCrossingsRow.holds Try.pinned (OpenSpec.ofChange fnExactCommonCrossingsWrong)

/-- 'laws.FnSegments': WHATEVER THE INPUT: true; the input reads as it did. -/
def fnSegmentsSpec : ChangeSpec := { name := "fnSegments", fn := fun _ => fun
  | [d] => { results := [.lit (.bool true)], args := [d] }
  | _ => none }
def fnSegmentsRow : OpenClaim := { program := "ytbgigompkmnapaa", sum := "4b3fbcbaaac6ef08d9b490ee9055382c3a896fa66d59f52172d84a919e4bebf1", func := "loop.example/g00931/laws.FnSegments", spec := "fnSegments", plainKeys := false, apart := false }
def FnSegmentsSaid : Prop := fnSegmentsRow.holds Try.pinned (OpenSpec.ofChange fnSegmentsSpec)

/-- ITS FALSE NEIGHBOUR: 'it returns false'. Refute it at one input. -/
def fnSegmentsWrong : ChangeSpec := { name := "fnSegments", fn := fun _ => fun
  | [d] => { results := [.lit (.bool false)], args := [d] }
  | _ => none }
def FnSegmentsWrongFalsely : Prop := fnSegmentsRow.holds Try.pinned (OpenSpec.ofChange fnSegmentsWrong)

/-- 'laws.FnSteps': WHATEVER THE INPUT: true; the input reads as it did. -/
def fnStepsSpec : ChangeSpec := { name := "fnSteps", fn := fun _ => fun
  | [d1, d2] => { results := [.lit (.bool true)], args := [d1, d2] }
  | _ => none }
def fnStepsRow : OpenClaim := { program := "ytbgigompkmnapaa", sum := "4b3fbcbaaac6ef08d9b490ee9055382c3a896fa66d59f52172d84a919e4bebf1", func := "loop.example/g00931/laws.FnSteps", spec := "fnSteps", plainKeys := false, apart := false }
def FnStepsSaid : Prop := fnStepsRow.holds Try.pinned (OpenSpec.ofChange fnStepsSpec)

/-- ITS FALSE NEIGHBOUR: 'it returns false'. Refute it at one input. -/
def fnStepsWrong : ChangeSpec := { name := "fnSteps", fn := fun _ => fun
  | [d1, d2] => { results := [.lit (.bool false)], args := [d1, d2] }
  | _ => none }
def FnStepsWrongFalsely : Prop := fnStepsRow.holds Try.pinned (OpenSpec.ofChange fnStepsWrong)

/-- 'laws.FnPoints': WHATEVER THE INPUT: true; the input reads as it did. -/
def fnPointsSpec : ChangeSpec := { name := "fnPoints", fn := fun _ => fun
  | [d1, d2] => { results := [.lit (.bool true)], args := [d1, d2] }
  | _ => none }
def fnPointsRow : OpenClaim := { program := "ytbgigompkmnapaa", sum := "4b3fbcbaaac6ef08d9b490ee9055382c3a896fa66d59f52172d84a919e4bebf1", func := "loop.example/g00931/laws.FnPoints", spec := "fnPoints", plainKeys := false, apart := false }
def FnPointsSaid : Prop := fnPointsRow.holds Try.pinned (OpenSpec.ofChange fnPointsSpec)

/-- ITS FALSE NEIGHBOUR: 'it returns false'. Refute it at one input. -/
def fnPointsWrong : ChangeSpec := { name := "fnPoints", fn := fun _ => fun
  | [d1, d2] => { results := [.lit (.bool false)], args := [d1, d2] }
  | _ => none }
def FnPointsWrongFalsely : Prop := fnPointsRow.holds Try.pinned (OpenSpec.ofChange fnPointsWrong)

/-- 'laws.FnCurves': WHATEVER THE INPUT: true; the input reads as it did. -/
def fnCurvesSpec : ChangeSpec := { name := "fnCurves", fn := fun _ => fun
  | [d] => { results := [.lit (.bool true)], args := [d] }
  | _ => none }
def fnCurvesRow : OpenClaim := { program := "ytbgigompkmnapaa", sum := "4b3fbcbaaac6ef08d9b490ee9055382c3a896fa66d59f52172d84a919e4bebf1", func := "loop.example/g00931/laws.FnCurves", spec := "fnCurves", plainKeys := false, apart := false }
def FnCurvesSaid : Prop := fnCurvesRow.holds Try.pinned (OpenSpec.ofChange fnCurvesSpec)

/-- ITS FALSE NEIGHBOUR: 'it returns false'. Refute it at one input. -/
def fnCurvesWrong : ChangeSpec := { name := "fnCurves", fn := fun _ => fun
  | [d] => { results := [.lit (.bool false)], args := [d] }
  | _ => none }
def FnCurvesWrongFalsely : Prop := fnCurvesRow.holds Try.pinned (OpenSpec.ofChange fnCurvesWrong)

/-- 'laws.FnMeetings': WHATEVER THE INPUT: true; the input reads as it did. -/
def fnMeetingsSpec : ChangeSpec := { name := "fnMeetings", fn := fun _ => fun
  | [d1, d2] => { results := [.lit (.bool true)], args := [d1, d2] }
  | _ => none }
def fnMeetingsRow : OpenClaim := { program := "ytbgigompkmnapaa", sum := "4b3fbcbaaac6ef08d9b490ee9055382c3a896fa66d59f52172d84a919e4bebf1", func := "loop.example/g00931/laws.FnMeetings", spec := "fnMeetings", recurses := true, plainKeys := false, apart := false }
def FnMeetingsSaid : Prop := fnMeetingsRow.holds Try.pinned (OpenSpec.ofChange fnMeetingsSpec)

/-- ITS FALSE NEIGHBOUR: 'it returns false'. Refute it at one input. -/
def fnMeetingsWrong : ChangeSpec := { name := "fnMeetings", fn := fun _ => fun
  | [d1, d2] => { results := [.lit (.bool false)], args := [d1, d2] }
  | _ => none }
def FnMeetingsWrongFalsely : Prop := fnMeetingsRow.holds Try.pinned (OpenSpec.ofChange fnMeetingsWrong)

/- THE SECOND FORM. 'bulk': how many values and letters a reading holds, each counted each time it is reached (what is shared counts as often as it is met; a slice's spare places count too). A statement '..UptoSaid' is the law's where the arguments, and the package variables that the reading takes, are together of bulk at most 1048576: NARROWER than '..Said'. Prove '..Said' where nothing that the law and all that it calls make is longer than what came in: it says more and counts as full. Else prove '..UptoSaid'. A law counts once. -/
mutual
def uptoBulk {H : Type} : DataW H → Nat
  | .lit (.string bytes) => bytes.length + 1
  | .lit _ => 1
  | .nil => 1
  | .ptr d => uptoBulk d + 1
  | .slice elems spare => uptoBulkAll elems + uptoBulkAll spare + 1
  | .agg parts => uptoBulkAll parts + 1
  | .iface _ d => uptoBulk d + 1
  | .map entries => uptoBulkEntries entries + 1
  | .held _ => 1
def uptoBulkAll {H : Type} : List (DataW H) → Nat
  | [] => 0
  | d :: r => uptoBulk d + uptoBulkAll r
def uptoBulkEntries {H : Type} : List (Lit × DataW H) → Nat
  | [] => 0
  | x :: r => uptoBulkEntry x + uptoBulkEntries r
def uptoBulkEntry {H : Type} : Lit × DataW H → Nat
  | (.string bytes, d) => bytes.length + uptoBulk d + 1
  | (_, d) => uptoBulk d + 1
 end
def uptoSmall : (H : Type) → List (DataW H) → Bool := fun _ ds => decide (uptoBulkAll ds ≤ 1048576)
def OpenSpec.upto (s : _root_.Go.ChangeSpec) : _root_.Go.OpenSpec := { _root_.Go.OpenSpec.ofChange s with cond := some uptoSmall }

/-- 'laws.FnExactCurvesThrough', WHERE WHAT IT READS IS OF BULK AT MOST 1048576: true; the input reads as it did. -/
def fnExactCurvesThroughUptoRow : OpenClaim := { program := "ytbgigompkmnapaa", sum := "4b3fbcbaaac6ef08d9b490ee9055382c3a896fa66d59f52172d84a919e4bebf1", func := "loop.example/g00931/laws.FnExactCurvesThrough", spec := "fnExactCurvesThrough", recurses := true, plainKeys := false, apart := false, narrowed := true }
def FnExactCurvesThroughUptoSaid : Prop := fnExactCurvesThroughUptoRow.holds Try.pinned (OpenSpec.upto fnExactCurvesThroughSpec)

/-- 'laws.FnExactSelfCrossings', WHERE WHAT IT READS IS OF BULK AT MOST 1048576: true; the input reads as it did. -/
def fnExactSelfCrossingsUptoRow : OpenClaim := { program := "ytbgigompkmnapaa", sum := "4b3fbcbaaac6ef08d9b490ee9055382c3a896fa66d59f52172d84a919e4bebf1", func := "loop.example/g00931/laws.FnExactSelfCrossings", spec := "fnExactSelfCrossings", recurses := true, plainKeys := false, apart := false, narrowed := true }
def FnExactSelfCrossingsUptoSaid : Prop := fnExactSelfCrossingsUptoRow.holds Try.pinned (OpenSpec.upto fnExactSelfCrossingsSpec)

/-- 'laws.FnExactCommonCrossings', WHERE WHAT IT READS IS OF BULK AT MOST 1048576: true; the input reads as it did. -/
def fnExactCommonCrossingsUptoRow : OpenClaim := { program := "ytbgigompkmnapaa", sum := "4b3fbcbaaac6ef08d9b490ee9055382c3a896fa66d59f52172d84a919e4bebf1", func := "loop.example/g00931/laws.FnExactCommonCrossings", spec := "fnExactCommonCrossings", recurses := true, plainKeys := false, apart := false, narrowed := true }
def FnExactCommonCrossingsUptoSaid : Prop := fnExactCommonCrossingsUptoRow.holds Try.pinned (OpenSpec.upto fnExactCommonCrossingsSpec)

/-- 'laws.FnSegments', WHERE WHAT IT READS IS OF BULK AT MOST 1048576: true; the input reads as it did. -/
def fnSegmentsUptoRow : OpenClaim := { program := "ytbgigompkmnapaa", sum := "4b3fbcbaaac6ef08d9b490ee9055382c3a896fa66d59f52172d84a919e4bebf1", func := "loop.example/g00931/laws.FnSegments", spec := "fnSegments", plainKeys := false, apart := false, narrowed := true }
def FnSegmentsUptoSaid : Prop := fnSegmentsUptoRow.holds Try.pinned (OpenSpec.upto fnSegmentsSpec)

/-- 'laws.FnSteps', WHERE WHAT IT READS IS OF BULK AT MOST 1048576: true; the input reads as it did. -/
def fnStepsUptoRow : OpenClaim := { program := "ytbgigompkmnapaa", sum := "4b3fbcbaaac6ef08d9b490ee9055382c3a896fa66d59f52172d84a919e4bebf1", func := "loop.example/g00931/laws.FnSteps", spec := "fnSteps", plainKeys := false, apart := false, narrowed := true }
def FnStepsUptoSaid : Prop := fnStepsUptoRow.holds Try.pinned (OpenSpec.upto fnStepsSpec)

/-- 'laws.FnPoints', WHERE WHAT IT READS IS OF BULK AT MOST 1048576: true; the input reads as it did. -/
def fnPointsUptoRow : OpenClaim := { program := "ytbgigompkmnapaa", sum := "4b3fbcbaaac6ef08d9b490ee9055382c3a896fa66d59f52172d84a919e4bebf1", func := "loop.example/g00931/laws.FnPoints", spec := "fnPoints", plainKeys := false, apart := false, narrowed := true }
def FnPointsUptoSaid : Prop := fnPointsUptoRow.holds Try.pinned (OpenSpec.upto fnPointsSpec)

/-- 'laws.FnCurves', WHERE WHAT IT READS IS OF BULK AT MOST 1048576: true; the input reads as it did. -/
def fnCurvesUptoRow : OpenClaim := { program := "ytbgigompkmnapaa", sum := "4b3fbcbaaac6ef08d9b490ee9055382c3a896fa66d59f52172d84a919e4bebf1", func := "loop.example/g00931/laws.FnCurves", spec := "fnCurves", plainKeys := false, apart := false, narrowed := true }
def FnCurvesUptoSaid : Prop := fnCurvesUptoRow.holds Try.pinned (OpenSpec.upto fnCurvesSpec)

/-- 'laws.FnMeetings', WHERE WHAT IT READS IS OF BULK AT MOST 1048576: true; the input reads as it did. -/
def fnMeetingsUptoRow : OpenClaim := { program := "ytbgigompkmnapaa", sum := "4b3fbcbaaac6ef08d9b490ee9055382c3a896fa66d59f52172d84a919e4bebf1", func := "loop.example/g00931/laws.FnMeetings", spec := "fnMeetings", recurses := true, plainKeys := false, apart := false, narrowed := true }
def FnMeetingsUptoSaid : Prop := fnMeetingsUptoRow.holds Try.pinned (OpenSpec.upto fnMeetingsSpec)

end Rows
end Go.Proofs.Ytbgigompkmnapaa

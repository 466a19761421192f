/-
  No cell of these rows narrows 'for every input' (looked for: loops, veiled, ifaces, maps, wideKeys, modest, calm, conditions, laid).
  DERIVED. THE GIVEN ROWS OF THIS SEAT. 12 by the template 'for every input the law returns true; each argument reads behind the call as it read before'; 0 by the template 'total and deterministic' (their statements: YtmhilafcgjgcoaaTotals.lean).
  GIVEN WITH THE SEED: the statements are not yours to turn. If you find one false, say at which input.
  Laid BY PROGRAM, IN A SANDBOX (cutbox-rows.mjs): the forced cells as the released guide's own fill.sh prints them over the translation 1ed0a43174078192… (all of the seat's roots in one cut). By AI agents, Wed Nov 11 2026. No macro, syntax, notation, axiom, sorry.
-/
import Derived.Test.YtmhilafcgjgcoaaChecked
import GoSem.Claim
import GoSem.ClaimJoined
import GoSem.ClaimMapViews
import Derived.JoinedTies
import Derived.KernelRfl
namespace Go.Proofs.Ytmhilafcgjgcoaa
/- THE CELL 'sum', in the pinned program and in every row, IS THE sha256 OF THE DUMP (.gsa) THAT YtmhilafcgjgcoaaProg.lean LOADS. Nothing in Lean hashes anything: it is a label: what it is worth is what the hold of that sum in a sandbox is worth. -/
noncomputable def Try.pinned : Pinned := { name := "ytmhilafcgjgcoaa", sum := "1ed0a4317407819221bcee2e33f59a1b685771b6b45784fb8c48cb399fccf1ce", checked := Try.checked }
namespace Rows
def none {H : Type} : Left H := { results := [], args := [] }

/-- 'laws.FnExactPanelPicture': WHATEVER THE INPUT: true; the input reads as it did. -/
def fnExactPanelPictureSpec : ChangeSpec := { name := "fnExactPanelPicture", fn := fun _ => fun
  | [d] => { results := [.lit (.bool true)], args := [d] }
  | _ => none }
def fnExactPanelPictureRow : OpenClaim := { program := "ytmhilafcgjgcoaa", sum := "1ed0a4317407819221bcee2e33f59a1b685771b6b45784fb8c48cb399fccf1ce", func := "loop.example/g00931/laws.FnExactPanelPicture", spec := "fnExactPanelPicture", unfollowed := true, recurses := true, plainKeys := false, apart := false }
def FnExactPanelPictureSaid : Prop := fnExactPanelPictureRow.holds Try.pinned (OpenSpec.ofChange fnExactPanelPictureSpec)

/-- ITS FALSE NEIGHBOUR: 'it returns false'. Refute it at one input. -/
def fnExactPanelPictureWrong : ChangeSpec := { name := "fnExactPanelPicture", fn := fun _ => fun
  | [d] => { results := [.lit (.bool false)], args := [d] }
  | _ => none }
def FnExactPanelPictureWrongFalsely : Prop := fnExactPanelPictureRow.holds Try.pinned (OpenSpec.ofChange fnExactPanelPictureWrong)

/-- 'laws.FnExactIsSingle': WHATEVER THE INPUT: true; the input reads as it did. -/
def fnExactIsSingleSpec : ChangeSpec := { name := "fnExactIsSingle", fn := fun _ => fun
  | [d] => { results := [.lit (.bool true)], args := [d] }
  | _ => none }
def fnExactIsSingleRow : OpenClaim := { program := "ytmhilafcgjgcoaa", sum := "1ed0a4317407819221bcee2e33f59a1b685771b6b45784fb8c48cb399fccf1ce", func := "loop.example/g00931/laws.FnExactIsSingle", spec := "fnExactIsSingle", plainKeys := false, apart := false }
def FnExactIsSingleSaid : Prop := fnExactIsSingleRow.holds Try.pinned (OpenSpec.ofChange fnExactIsSingleSpec)

/-- ITS FALSE NEIGHBOUR: 'it returns false'. Refute it at one input. -/
def fnExactIsSingleWrong : ChangeSpec := { name := "fnExactIsSingle", fn := fun _ => fun
  | [d] => { results := [.lit (.bool false)], args := [d] }
  | _ => none }
def FnExactIsSingleWrongFalsely : Prop := fnExactIsSingleRow.holds Try.pinned (OpenSpec.ofChange fnExactIsSingleWrong)

/-- 'laws.FnCurves': WHATEVER THE INPUT: true; the input reads as it did. -/
def fnCurvesSpec : ChangeSpec := { name := "fnCurves", fn := fun _ => fun
  | [d] => { results := [.lit (.bool true)], args := [d] }
  | _ => none }
def fnCurvesRow : OpenClaim := { program := "ytmhilafcgjgcoaa", sum := "1ed0a4317407819221bcee2e33f59a1b685771b6b45784fb8c48cb399fccf1ce", func := "loop.example/g00931/laws.FnCurves", spec := "fnCurves", plainKeys := false, apart := false }
def FnCurvesSaid : Prop := fnCurvesRow.holds Try.pinned (OpenSpec.ofChange fnCurvesSpec)

/-- ITS FALSE NEIGHBOUR: 'it returns false'. Refute it at one input. -/
def fnCurvesWrong : ChangeSpec := { name := "fnCurves", fn := fun _ => fun
  | [d] => { results := [.lit (.bool false)], args := [d] }
  | _ => none }
def FnCurvesWrongFalsely : Prop := fnCurvesRow.holds Try.pinned (OpenSpec.ofChange fnCurvesWrong)

/-- 'laws.FnExactReadPanel': WHATEVER THE INPUT: true; the input reads as it did. -/
def fnExactReadPanelSpec : ChangeSpec := { name := "fnExactReadPanel", fn := fun _ => fun
  | [d] => { results := [.lit (.bool true)], args := [d] }
  | _ => none }
def fnExactReadPanelRow : OpenClaim := { program := "ytmhilafcgjgcoaa", sum := "1ed0a4317407819221bcee2e33f59a1b685771b6b45784fb8c48cb399fccf1ce", func := "loop.example/g00931/laws.FnExactReadPanel", spec := "fnExactReadPanel", plainKeys := false, apart := false }
def FnExactReadPanelSaid : Prop := fnExactReadPanelRow.holds Try.pinned (OpenSpec.ofChange fnExactReadPanelSpec)

/-- ITS FALSE NEIGHBOUR: 'it returns false'. Refute it at one input. -/
def fnExactReadPanelWrong : ChangeSpec := { name := "fnExactReadPanel", fn := fun _ => fun
  | [d] => { results := [.lit (.bool false)], args := [d] }
  | _ => none }
def FnExactReadPanelWrongFalsely : Prop := fnExactReadPanelRow.holds Try.pinned (OpenSpec.ofChange fnExactReadPanelWrong)

/-- 'laws.FnExactReadPicture': WHATEVER THE INPUT: true; the input reads as it did. -/
def fnExactReadPictureSpec : ChangeSpec := { name := "fnExactReadPicture", fn := fun _ => fun
  | [d] => { results := [.lit (.bool true)], args := [d] }
  | _ => none }
def fnExactReadPictureRow : OpenClaim := { program := "ytmhilafcgjgcoaa", sum := "1ed0a4317407819221bcee2e33f59a1b685771b6b45784fb8c48cb399fccf1ce", func := "loop.example/g00931/laws.FnExactReadPicture", spec := "fnExactReadPicture", unfollowed := true, recurses := true, plainKeys := false, apart := false }
def FnExactReadPictureSaid : Prop := fnExactReadPictureRow.holds Try.pinned (OpenSpec.ofChange fnExactReadPictureSpec)

/-- ITS FALSE NEIGHBOUR: 'it returns false'. Refute it at one input. -/
def fnExactReadPictureWrong : ChangeSpec := { name := "fnExactReadPicture", fn := fun _ => fun
  | [d] => { results := [.lit (.bool false)], args := [d] }
  | _ => none }
def FnExactReadPictureWrongFalsely : Prop := fnExactReadPictureRow.holds Try.pinned (OpenSpec.ofChange fnExactReadPictureWrong)

/-- 'laws.FnExactCurveAt': WHATEVER THE INPUT: true; the input reads as it did. -/
def fnExactCurveAtSpec : ChangeSpec := { name := "fnExactCurveAt", fn := fun _ => fun
  | [d1, d2] => { results := [.lit (.bool true)], args := [d1, d2] }
  | _ => none }
def fnExactCurveAtRow : OpenClaim := { program := "ytmhilafcgjgcoaa", sum := "1ed0a4317407819221bcee2e33f59a1b685771b6b45784fb8c48cb399fccf1ce", func := "loop.example/g00931/laws.FnExactCurveAt", spec := "fnExactCurveAt", plainKeys := false, apart := false }
def FnExactCurveAtSaid : Prop := fnExactCurveAtRow.holds Try.pinned (OpenSpec.ofChange fnExactCurveAtSpec)

/-- ITS FALSE NEIGHBOUR: 'it returns false'. Refute it at one input. -/
def fnExactCurveAtWrong : ChangeSpec := { name := "fnExactCurveAt", fn := fun _ => fun
  | [d1, d2] => { results := [.lit (.bool false)], args := [d1, d2] }
  | _ => none }
def FnExactCurveAtWrongFalsely : Prop := fnExactCurveAtRow.holds Try.pinned (OpenSpec.ofChange fnExactCurveAtWrong)

/-- 'laws.FnExactCountCurves': WHATEVER THE INPUT: true; the input reads as it did. -/
def fnExactCountCurvesSpec : ChangeSpec := { name := "fnExactCountCurves", fn := fun _ => fun
  | [d] => { results := [.lit (.bool true)], args := [d] }
  | _ => none }
def fnExactCountCurvesRow : OpenClaim := { program := "ytmhilafcgjgcoaa", sum := "1ed0a4317407819221bcee2e33f59a1b685771b6b45784fb8c48cb399fccf1ce", func := "loop.example/g00931/laws.FnExactCountCurves", spec := "fnExactCountCurves", plainKeys := false, apart := false }
def FnExactCountCurvesSaid : Prop := fnExactCountCurvesRow.holds Try.pinned (OpenSpec.ofChange fnExactCountCurvesSpec)

/-- ITS FALSE NEIGHBOUR: 'it returns false'. Refute it at one input. -/
def fnExactCountCurvesWrong : ChangeSpec := { name := "fnExactCountCurves", fn := fun _ => fun
  | [d] => { results := [.lit (.bool false)], args := [d] }
  | _ => none }
def FnExactCountCurvesWrongFalsely : Prop := fnExactCountCurvesRow.holds Try.pinned (OpenSpec.ofChange fnExactCountCurvesWrong)

/-- 'laws.FnExactSegmentCurves': WHATEVER THE INPUT: true; the input reads as it did. -/
def fnExactSegmentCurvesSpec : ChangeSpec := { name := "fnExactSegmentCurves", fn := fun _ => fun
  | [d] => { results := [.lit (.bool true)], args := [d] }
  | _ => none }
def fnExactSegmentCurvesRow : OpenClaim := { program := "ytmhilafcgjgcoaa", sum := "1ed0a4317407819221bcee2e33f59a1b685771b6b45784fb8c48cb399fccf1ce", func := "loop.example/g00931/laws.FnExactSegmentCurves", spec := "fnExactSegmentCurves", plainKeys := false, apart := false }
def FnExactSegmentCurvesSaid : Prop := fnExactSegmentCurvesRow.holds Try.pinned (OpenSpec.ofChange fnExactSegmentCurvesSpec)

/-- ITS FALSE NEIGHBOUR: 'it returns false'. Refute it at one input. -/
def fnExactSegmentCurvesWrong : ChangeSpec := { name := "fnExactSegmentCurves", fn := fun _ => fun
  | [d] => { results := [.lit (.bool false)], args := [d] }
  | _ => none }
def FnExactSegmentCurvesWrongFalsely : Prop := fnExactSegmentCurvesRow.holds Try.pinned (OpenSpec.ofChange fnExactSegmentCurvesWrong)

/-- 'laws.FnExactCurveLengths': WHATEVER THE INPUT: true; the input reads as it did. -/
def fnExactCurveLengthsSpec : ChangeSpec := { name := "fnExactCurveLengths", fn := fun _ => fun
  | [d] => { results := [.lit (.bool true)], args := [d] }
  | _ => none }
def fnExactCurveLengthsRow : OpenClaim := { program := "ytmhilafcgjgcoaa", sum := "1ed0a4317407819221bcee2e33f59a1b685771b6b45784fb8c48cb399fccf1ce", func := "loop.example/g00931/laws.FnExactCurveLengths", spec := "fnExactCurveLengths", plainKeys := false, apart := false }
def FnExactCurveLengthsSaid : Prop := fnExactCurveLengthsRow.holds Try.pinned (OpenSpec.ofChange fnExactCurveLengthsSpec)

/-- ITS FALSE NEIGHBOUR: 'it returns false'. Refute it at one input. -/
def fnExactCurveLengthsWrong : ChangeSpec := { name := "fnExactCurveLengths", fn := fun _ => fun
  | [d] => { results := [.lit (.bool false)], args := [d] }
  | _ => none }
def FnExactCurveLengthsWrongFalsely : Prop := fnExactCurveLengthsRow.holds Try.pinned (OpenSpec.ofChange fnExactCurveLengthsWrong)

/-- 'laws.FnExactTouchesOf': WHATEVER THE INPUT: true; the input reads as it did. -/
def fnExactTouchesOfSpec : ChangeSpec := { name := "fnExactTouchesOf", fn := fun _ => fun
  | [d1, d2] => { results := [.lit (.bool true)], args := [d1, d2] }
  | _ => none }
def fnExactTouchesOfRow : OpenClaim := { program := "ytmhilafcgjgcoaa", sum := "1ed0a4317407819221bcee2e33f59a1b685771b6b45784fb8c48cb399fccf1ce", func := "loop.example/g00931/laws.FnExactTouchesOf", spec := "fnExactTouchesOf", plainKeys := false, apart := false }
def FnExactTouchesOfSaid : Prop := fnExactTouchesOfRow.holds Try.pinned (OpenSpec.ofChange fnExactTouchesOfSpec)

/-- ITS FALSE NEIGHBOUR: 'it returns false'. Refute it at one input. -/
def fnExactTouchesOfWrong : ChangeSpec := { name := "fnExactTouchesOf", fn := fun _ => fun
  | [d1, d2] => { results := [.lit (.bool false)], args := [d1, d2] }
  | _ => none }
def FnExactTouchesOfWrongFalsely : Prop := fnExactTouchesOfRow.holds Try.pinned (OpenSpec.ofChange fnExactTouchesOfWrong)

/-- 'laws.FnExactCurvesOf': WHATEVER THE INPUT: true; the input reads as it did. -/
def fnExactCurvesOfSpec : ChangeSpec := { name := "fnExactCurvesOf", fn := fun _ => fun
  | [d] => { results := [.lit (.bool true)], args := [d] }
  | _ => none }
def fnExactCurvesOfRow : OpenClaim := { program := "ytmhilafcgjgcoaa", sum := "1ed0a4317407819221bcee2e33f59a1b685771b6b45784fb8c48cb399fccf1ce", func := "loop.example/g00931/laws.FnExactCurvesOf", spec := "fnExactCurvesOf", plainKeys := false, apart := false }
def FnExactCurvesOfSaid : Prop := fnExactCurvesOfRow.holds Try.pinned (OpenSpec.ofChange fnExactCurvesOfSpec)

/-- ITS FALSE NEIGHBOUR: 'it returns false'. Refute it at one input. -/
def fnExactCurvesOfWrong : ChangeSpec := { name := "fnExactCurvesOf", fn := fun _ => fun
  | [d] => { results := [.lit (.bool false)], args := [d] }
  | _ => none }
def FnExactCurvesOfWrongFalsely : Prop := fnExactCurvesOfRow.holds Try.pinned (OpenSpec.ofChange fnExactCurvesOfWrong)

/-- 'laws.FnExactCurvePicture': WHATEVER THE INPUT: true; the input reads as it did. -/
def fnExactCurvePictureSpec : ChangeSpec := { name := "fnExactCurvePicture", fn := fun _ => fun
  | [d1, d2] => { results := [.lit (.bool true)], args := [d1, d2] }
  | _ => none }
def fnExactCurvePictureRow : OpenClaim := { program := "ytmhilafcgjgcoaa", sum := "1ed0a4317407819221bcee2e33f59a1b685771b6b45784fb8c48cb399fccf1ce", func := "loop.example/g00931/laws.FnExactCurvePicture", spec := "fnExactCurvePicture", unfollowed := true, recurses := true, plainKeys := false, apart := false }
def FnExactCurvePictureSaid : Prop := fnExactCurvePictureRow.holds Try.pinned (OpenSpec.ofChange fnExactCurvePictureSpec)

/-- ITS FALSE NEIGHBOUR: 'it returns false'. Refute it at one input. -/
def fnExactCurvePictureWrong : ChangeSpec := { name := "fnExactCurvePicture", fn := fun _ => fun
  | [d1, d2] => { results := [.lit (.bool false)], args := [d1, d2] }
  | _ => none }
def FnExactCurvePictureWrongFalsely : Prop := fnExactCurvePictureRow.holds Try.pinned (OpenSpec.ofChange fnExactCurvePictureWrong)

/- THE SECOND FORM. 'bulk': how many values and letters a reading holds, each counted each time it is reached (what is shared counts as often as it is met; a slice's spare places count too). A statement '..UptoSaid' is the law's where the arguments, and the package variables that the reading takes, are together of bulk at most 1048576: NARROWER than '..Said'. Prove '..Said' where nothing that the law and all that it calls make is longer than what came in: it says more and counts as full. Else prove '..UptoSaid'. A law counts once. -/
mutual
def uptoBulk {H : Type} : DataW H → Nat
  | .lit (.string bytes) => bytes.length + 1
  | .lit _ => 1
  | .nil => 1
  | .ptr d => uptoBulk d + 1
  | .slice elems spare => uptoBulkAll elems + uptoBulkAll spare + 1
  | .agg parts => uptoBulkAll parts + 1
  | .iface _ d => uptoBulk d + 1
  | .map entries => uptoBulkEntries entries + 1
  | .held _ => 1
def uptoBulkAll {H : Type} : List (DataW H) → Nat
  | [] => 0
  | d :: r => uptoBulk d + uptoBulkAll r
def uptoBulkEntries {H : Type} : List (Lit × DataW H) → Nat
  | [] => 0
  | x :: r => uptoBulkEntry x + uptoBulkEntries r
def uptoBulkEntry {H : Type} : Lit × DataW H → Nat
  | (.string bytes, d) => bytes.length + uptoBulk d + 1
  | (_, d) => uptoBulk d + 1
 end
def uptoSmall : (H : Type) → List (DataW H) → Bool := fun _ ds => decide (uptoBulkAll ds ≤ 1048576)
def OpenSpec.upto (s : _root_.Go.ChangeSpec) : _root_.Go.OpenSpec := { _root_.Go.OpenSpec.ofChange s with cond := some uptoSmall }

/-- 'laws.FnExactPanelPicture', WHERE WHAT IT READS IS OF BULK AT MOST 1048576: true; the input reads as it did. -/
def fnExactPanelPictureUptoRow : OpenClaim := { program := "ytmhilafcgjgcoaa", sum := "1ed0a4317407819221bcee2e33f59a1b685771b6b45784fb8c48cb399fccf1ce", func := "loop.example/g00931/laws.FnExactPanelPicture", spec := "fnExactPanelPicture", unfollowed := true, recurses := true, plainKeys := false, apart := false, narrowed := true }
def FnExactPanelPictureUptoSaid : Prop := fnExactPanelPictureUptoRow.holds Try.pinned (OpenSpec.upto fnExactPanelPictureSpec)

/-- 'laws.FnExactIsSingle', WHERE WHAT IT READS IS OF BULK AT MOST 1048576: true; the input reads as it did. -/
def fnExactIsSingleUptoRow : OpenClaim := { program := "ytmhilafcgjgcoaa", sum := "1ed0a4317407819221bcee2e33f59a1b685771b6b45784fb8c48cb399fccf1ce", func := "loop.example/g00931/laws.FnExactIsSingle", spec := "fnExactIsSingle", plainKeys := false, apart := false, narrowed := true }
def FnExactIsSingleUptoSaid : Prop := fnExactIsSingleUptoRow.holds Try.pinned (OpenSpec.upto fnExactIsSingleSpec)

/-- 'laws.FnCurves', WHERE WHAT IT READS IS OF BULK AT MOST 1048576: true; the input reads as it did. -/
def fnCurvesUptoRow : OpenClaim := { program := "ytmhilafcgjgcoaa", sum := "1ed0a4317407819221bcee2e33f59a1b685771b6b45784fb8c48cb399fccf1ce", func := "loop.example/g00931/laws.FnCurves", spec := "fnCurves", plainKeys := false, apart := false, narrowed := true }
def FnCurvesUptoSaid : Prop := fnCurvesUptoRow.holds Try.pinned (OpenSpec.upto fnCurvesSpec)

/-- 'laws.FnExactReadPanel', WHERE WHAT IT READS IS OF BULK AT MOST 1048576: true; the input reads as it did. -/
def fnExactReadPanelUptoRow : OpenClaim := { program := "ytmhilafcgjgcoaa", sum := "1ed0a4317407819221bcee2e33f59a1b685771b6b45784fb8c48cb399fccf1ce", func := "loop.example/g00931/laws.FnExactReadPanel", spec := "fnExactReadPanel", plainKeys := false, apart := false, narrowed := true }
def FnExactReadPanelUptoSaid : Prop := fnExactReadPanelUptoRow.holds Try.pinned (OpenSpec.upto fnExactReadPanelSpec)

/-- 'laws.FnExactReadPicture', WHERE WHAT IT READS IS OF BULK AT MOST 1048576: true; the input reads as it did. -/
def fnExactReadPictureUptoRow : OpenClaim := { program := "ytmhilafcgjgcoaa", sum := "1ed0a4317407819221bcee2e33f59a1b685771b6b45784fb8c48cb399fccf1ce", func := "loop.example/g00931/laws.FnExactReadPicture", spec := "fnExactReadPicture", unfollowed := true, recurses := true, plainKeys := false, apart := false, narrowed := true }
def FnExactReadPictureUptoSaid : Prop := fnExactReadPictureUptoRow.holds Try.pinned (OpenSpec.upto fnExactReadPictureSpec)

/-- 'laws.FnExactCurveAt', WHERE WHAT IT READS IS OF BULK AT MOST 1048576: true; the input reads as it did. -/
def fnExactCurveAtUptoRow : OpenClaim := { program := "ytmhilafcgjgcoaa", sum := "1ed0a4317407819221bcee2e33f59a1b685771b6b45784fb8c48cb399fccf1ce", func := "loop.example/g00931/laws.FnExactCurveAt", spec := "fnExactCurveAt", plainKeys := false, apart := false, narrowed := true }
def FnExactCurveAtUptoSaid : Prop := fnExactCurveAtUptoRow.holds Try.pinned (OpenSpec.upto fnExactCurveAtSpec)

/-- 'laws.FnExactCountCurves', WHERE WHAT IT READS IS OF BULK AT MOST 1048576: true; the input reads as it did. -/
def fnExactCountCurvesUptoRow : OpenClaim := { program := "ytmhilafcgjgcoaa", sum := "1ed0a4317407819221bcee2e33f59a1b685771b6b45784fb8c48cb399fccf1ce", func := "loop.example/g00931/laws.FnExactCountCurves", spec := "fnExactCountCurves", plainKeys := false, apart := false, narrowed := true }
def FnExactCountCurvesUptoSaid : Prop := fnExactCountCurvesUptoRow.holds Try.pinned (OpenSpec.upto fnExactCountCurvesSpec)

/-- 'laws.FnExactSegmentCurves', WHERE WHAT IT READS IS OF BULK AT MOST 1048576: true; the input reads as it did. -/
def fnExactSegmentCurvesUptoRow : OpenClaim := { program := "ytmhilafcgjgcoaa", sum := "1ed0a4317407819221bcee2e33f59a1b685771b6b45784fb8c48cb399fccf1ce", func := "loop.example/g00931/laws.FnExactSegmentCurves", spec := "fnExactSegmentCurves", plainKeys := false, apart := false, narrowed := true }
def FnExactSegmentCurvesUptoSaid : Prop := fnExactSegmentCurvesUptoRow.holds Try.pinned (OpenSpec.upto fnExactSegmentCurvesSpec)

/-- 'laws.FnExactCurveLengths', WHERE WHAT IT READS IS OF BULK AT MOST 1048576: true; the input reads as it did. -/
def fnExactCurveLengthsUptoRow : OpenClaim := { program := "ytmhilafcgjgcoaa", sum := "1ed0a4317407819221bcee2e33f59a1b685771b6b45784fb8c48cb399fccf1ce", func := "loop.example/g00931/laws.FnExactCurveLengths", spec := "fnExactCurveLengths", plainKeys := false, apart := false, narrowed := true }
def FnExactCurveLengthsUptoSaid : Prop := fnExactCurveLengthsUptoRow.holds Try.pinned (OpenSpec.upto fnExactCurveLengthsSpec)

/-- 'laws.FnExactTouchesOf', WHERE WHAT IT READS IS OF BULK AT MOST 1048576: true; the input reads as it did. -/
def fnExactTouchesOfUptoRow : OpenClaim := { program := "ytmhilafcgjgcoaa", sum := "1ed0a4317407819221bcee2e33f59a1b685771b6b45784fb8c48cb399fccf1ce", func := "loop.example/g00931/laws.FnExactTouchesOf", spec := "fnExactTouchesOf", plainKeys := false, apart := false, narrowed := true }
def FnExactTouchesOfUptoSaid : Prop := fnExactTouchesOfUptoRow.holds Try.pinned (OpenSpec.upto fnExactTouchesOfSpec)

/-- 'laws.FnExactCurvesOf', WHERE WHAT IT READS IS OF BULK AT MOST 1048576: true; the input reads as it did. -/
def fnExactCurvesOfUptoRow : OpenClaim := { program := "ytmhilafcgjgcoaa", sum := "1ed0a4317407819221bcee2e33f59a1b685771b6b45784fb8c48cb399fccf1ce", func := "loop.example/g00931/laws.FnExactCurvesOf", spec := "fnExactCurvesOf", plainKeys := false, apart := false, narrowed := true }
def FnExactCurvesOfUptoSaid : Prop := fnExactCurvesOfUptoRow.holds Try.pinned (OpenSpec.upto fnExactCurvesOfSpec)

/-- 'laws.FnExactCurvePicture', WHERE WHAT IT READS IS OF BULK AT MOST 1048576: true; the input reads as it did. -/
def fnExactCurvePictureUptoRow : OpenClaim := { program := "ytmhilafcgjgcoaa", sum := "1ed0a4317407819221bcee2e33f59a1b685771b6b45784fb8c48cb399fccf1ce", func := "loop.example/g00931/laws.FnExactCurvePicture", spec := "fnExactCurvePicture", unfollowed := true, recurses := true, plainKeys := false, apart := false, narrowed := true }
def FnExactCurvePictureUptoSaid : Prop := fnExactCurvePictureUptoRow.holds Try.pinned (OpenSpec.upto fnExactCurvePictureSpec)

end Rows
end Go.Proofs.Ytmhilafcgjgcoaa

/-
  No cell of these rows narrows 'for every input' (looked for: loops, veiled, ifaces, maps, wideKeys, modest, calm, conditions, laid).
  DERIVED. THE GIVEN ROWS OF THIS SEAT. 12 by the template 'for every input the law returns true; each argument reads behind the call as it read before'; 0 by the template 'total and deterministic' (their statements: YtffiigfkmdgaaaaTotals.lean).
  GIVEN WITH THE SEED: the statements are not yours to turn. If you find one false, say at which input.
  Laid BY PROGRAM, IN A SANDBOX (cutbox-rows.mjs): the forced cells as the released guide's own fill.sh prints them over the translation 569efaf4e3e5fda9… (all of the seat's roots in one cut). By AI agents, Wed Nov 11 2026. No macro, syntax, notation, axiom, sorry.
-/
import Derived.Test.YtffiigfkmdgaaaaChecked
import GoSem.Claim
import GoSem.ClaimJoined
import GoSem.ClaimMapViews
import Derived.JoinedTies
import Derived.KernelRfl
namespace Go.Proofs.Ytffiigfkmdgaaaa
/- THE CELL 'sum', in the pinned program and in every row, IS THE sha256 OF THE DUMP (.gsa) THAT YtffiigfkmdgaaaaProg.lean LOADS. Nothing in Lean hashes anything: it is a label: what it is worth is what the hold of that sum in a sandbox is worth. -/
noncomputable def Try.pinned : Pinned := { name := "ytffiigfkmdgaaaa", sum := "569efaf4e3e5fda93380b84a06d493e86d2fde69771bcf01f36d00e3fd4d4025", checked := Try.checked }
namespace Rows
def none {H : Type} : Left H := { results := [], args := [] }

/-- 'laws.FnExactBreakAt': WHATEVER THE INPUT: true; the input reads as it did. -/
def fnExactBreakAtSpec : ChangeSpec := { name := "fnExactBreakAt", fn := fun _ => fun
  | [d1, d2] => { results := [.lit (.bool true)], args := [d1, d2] }
  | _ => none }
def fnExactBreakAtRow : OpenClaim := { program := "ytffiigfkmdgaaaa", sum := "569efaf4e3e5fda93380b84a06d493e86d2fde69771bcf01f36d00e3fd4d4025", func := "loop.example/g00931/laws.FnExactBreakAt", spec := "fnExactBreakAt", apart := false }
def FnExactBreakAtSaid : Prop := fnExactBreakAtRow.holds Try.pinned (OpenSpec.ofChange fnExactBreakAtSpec)

/-- ITS FALSE NEIGHBOUR: 'it returns false'. Refute it at one input. -/
def fnExactBreakAtWrong : ChangeSpec := { name := "fnExactBreakAt", fn := fun _ => fun
  | [d1, d2] => { results := [.lit (.bool false)], args := [d1, d2] }
  | _ => none }
def FnExactBreakAtWrongFalsely : Prop := fnExactBreakAtRow.holds Try.pinned (OpenSpec.ofChange fnExactBreakAtWrong)

/-- 'laws.FnExactNumberOf': WHATEVER THE INPUT: true; the input reads as it did. -/
def fnExactNumberOfSpec : ChangeSpec := { name := "fnExactNumberOf", fn := fun _ => fun
  | [d1, d2] => { results := [.lit (.bool true)], args := [d1, d2] }
  | _ => none }
def fnExactNumberOfRow : OpenClaim := { program := "ytffiigfkmdgaaaa", sum := "569efaf4e3e5fda93380b84a06d493e86d2fde69771bcf01f36d00e3fd4d4025", func := "loop.example/g00931/laws.FnExactNumberOf", spec := "fnExactNumberOf", apart := false }
def FnExactNumberOfSaid : Prop := fnExactNumberOfRow.holds Try.pinned (OpenSpec.ofChange fnExactNumberOfSpec)

/-- ITS FALSE NEIGHBOUR: 'it returns false'. Refute it at one input. -/
def fnExactNumberOfWrong : ChangeSpec := { name := "fnExactNumberOf", fn := fun _ => fun
  | [d1, d2] => { results := [.lit (.bool false)], args := [d1, d2] }
  | _ => none }
def FnExactNumberOfWrongFalsely : Prop := fnExactNumberOfRow.holds Try.pinned (OpenSpec.ofChange fnExactNumberOfWrong)

/-- 'laws.FnSegments': WHATEVER THE INPUT: true; the input reads as it did. -/
def fnSegmentsSpec : ChangeSpec := { name := "fnSegments", fn := fun _ => fun
  | [d] => { results := [.lit (.bool true)], args := [d] }
  | _ => none }
def fnSegmentsRow : OpenClaim := { program := "ytffiigfkmdgaaaa", sum := "569efaf4e3e5fda93380b84a06d493e86d2fde69771bcf01f36d00e3fd4d4025", func := "loop.example/g00931/laws.FnSegments", spec := "fnSegments", apart := false }
def FnSegmentsSaid : Prop := fnSegmentsRow.holds Try.pinned (OpenSpec.ofChange fnSegmentsSpec)

/-- ITS FALSE NEIGHBOUR: 'it returns false'. Refute it at one input. -/
def fnSegmentsWrong : ChangeSpec := { name := "fnSegments", fn := fun _ => fun
  | [d] => { results := [.lit (.bool false)], args := [d] }
  | _ => none }
def FnSegmentsWrongFalsely : Prop := fnSegmentsRow.holds Try.pinned (OpenSpec.ofChange fnSegmentsWrong)

/-- 'laws.FnExactBackWalker': WHATEVER THE INPUT: true; the input reads as it did. -/
def fnExactBackWalkerSpec : ChangeSpec := { name := "fnExactBackWalker", fn := fun _ => fun
  | [d1, d2] => { results := [.lit (.bool true)], args := [d1, d2] }
  | _ => none }
def fnExactBackWalkerRow : OpenClaim := { program := "ytffiigfkmdgaaaa", sum := "569efaf4e3e5fda93380b84a06d493e86d2fde69771bcf01f36d00e3fd4d4025", func := "loop.example/g00931/laws.FnExactBackWalker", spec := "fnExactBackWalker", apart := false }
def FnExactBackWalkerSaid : Prop := fnExactBackWalkerRow.holds Try.pinned (OpenSpec.ofChange fnExactBackWalkerSpec)

/-- ITS FALSE NEIGHBOUR: 'it returns false'. Refute it at one input. -/
def fnExactBackWalkerWrong : ChangeSpec := { name := "fnExactBackWalker", fn := fun _ => fun
  | [d1, d2] => { results := [.lit (.bool false)], args := [d1, d2] }
  | _ => none }
def FnExactBackWalkerWrongFalsely : Prop := fnExactBackWalkerRow.holds Try.pinned (OpenSpec.ofChange fnExactBackWalkerWrong)

/-- 'laws.FnExactLinesPicture': WHATEVER THE INPUT: true; the input reads as it did. -/
def fnExactLinesPictureSpec : ChangeSpec := { name := "fnExactLinesPicture", fn := fun _ => fun
  | [d] => { results := [.lit (.bool true)], args := [d] }
  | _ => none }
def fnExactLinesPictureRow : OpenClaim := { program := "ytffiigfkmdgaaaa", sum := "569efaf4e3e5fda93380b84a06d493e86d2fde69771bcf01f36d00e3fd4d4025", func := "loop.example/g00931/laws.FnExactLinesPicture", spec := "fnExactLinesPicture", apart := false }
def FnExactLinesPictureSaid : Prop := fnExactLinesPictureRow.holds Try.pinned (OpenSpec.ofChange fnExactLinesPictureSpec)

/-- ITS FALSE NEIGHBOUR: 'it returns false'. Refute it at one input. -/
def fnExactLinesPictureWrong : ChangeSpec := { name := "fnExactLinesPicture", fn := fun _ => fun
  | [d] => { results := [.lit (.bool false)], args := [d] }
  | _ => none }
def FnExactLinesPictureWrongFalsely : Prop := fnExactLinesPictureRow.holds Try.pinned (OpenSpec.ofChange fnExactLinesPictureWrong)

/-- 'laws.FnSteps': WHATEVER THE INPUT: true; the input reads as it did. -/
def fnStepsSpec : ChangeSpec := { name := "fnSteps", fn := fun _ => fun
  | [d1, d2] => { results := [.lit (.bool true)], args := [d1, d2] }
  | _ => none }
def fnStepsRow : OpenClaim := { program := "ytffiigfkmdgaaaa", sum := "569efaf4e3e5fda93380b84a06d493e86d2fde69771bcf01f36d00e3fd4d4025", func := "loop.example/g00931/laws.FnSteps", spec := "fnSteps", apart := false }
def FnStepsSaid : Prop := fnStepsRow.holds Try.pinned (OpenSpec.ofChange fnStepsSpec)

/-- ITS FALSE NEIGHBOUR: 'it returns false'. Refute it at one input. -/
def fnStepsWrong : ChangeSpec := { name := "fnSteps", fn := fun _ => fun
  | [d1, d2] => { results := [.lit (.bool false)], args := [d1, d2] }
  | _ => none }
def FnStepsWrongFalsely : Prop := fnStepsRow.holds Try.pinned (OpenSpec.ofChange fnStepsWrong)

/-- 'laws.FnExactTurnsOf': WHATEVER THE INPUT: true; the input reads as it did. -/
def fnExactTurnsOfSpec : ChangeSpec := { name := "fnExactTurnsOf", fn := fun _ => fun
  | [d1, d2] => { results := [.lit (.bool true)], args := [d1, d2] }
  | _ => none }
def fnExactTurnsOfRow : OpenClaim := { program := "ytffiigfkmdgaaaa", sum := "569efaf4e3e5fda93380b84a06d493e86d2fde69771bcf01f36d00e3fd4d4025", func := "loop.example/g00931/laws.FnExactTurnsOf", spec := "fnExactTurnsOf", apart := false }
def FnExactTurnsOfSaid : Prop := fnExactTurnsOfRow.holds Try.pinned (OpenSpec.ofChange fnExactTurnsOfSpec)

/-- ITS FALSE NEIGHBOUR: 'it returns false'. Refute it at one input. -/
def fnExactTurnsOfWrong : ChangeSpec := { name := "fnExactTurnsOf", fn := fun _ => fun
  | [d1, d2] => { results := [.lit (.bool false)], args := [d1, d2] }
  | _ => none }
def FnExactTurnsOfWrongFalsely : Prop := fnExactTurnsOfRow.holds Try.pinned (OpenSpec.ofChange fnExactTurnsOfWrong)

/-- 'laws.FnExactAllWalkers': WHATEVER THE INPUT: true; the input reads as it did. -/
def fnExactAllWalkersSpec : ChangeSpec := { name := "fnExactAllWalkers", fn := fun _ => fun
  | [d] => { results := [.lit (.bool true)], args := [d] }
  | _ => none }
def fnExactAllWalkersRow : OpenClaim := { program := "ytffiigfkmdgaaaa", sum := "569efaf4e3e5fda93380b84a06d493e86d2fde69771bcf01f36d00e3fd4d4025", func := "loop.example/g00931/laws.FnExactAllWalkers", spec := "fnExactAllWalkers", apart := false }
def FnExactAllWalkersSaid : Prop := fnExactAllWalkersRow.holds Try.pinned (OpenSpec.ofChange fnExactAllWalkersSpec)

/-- ITS FALSE NEIGHBOUR: 'it returns false'. Refute it at one input. -/
def fnExactAllWalkersWrong : ChangeSpec := { name := "fnExactAllWalkers", fn := fun _ => fun
  | [d] => { results := [.lit (.bool false)], args := [d] }
  | _ => none }
def FnExactAllWalkersWrongFalsely : Prop := fnExactAllWalkersRow.holds Try.pinned (OpenSpec.ofChange fnExactAllWalkersWrong)

/-- 'laws.FnPoints': WHATEVER THE INPUT: true; the input reads as it did. -/
def fnPointsSpec : ChangeSpec := { name := "fnPoints", fn := fun _ => fun
  | [d1, d2] => { results := [.lit (.bool true)], args := [d1, d2] }
  | _ => none }
def fnPointsRow : OpenClaim := { program := "ytffiigfkmdgaaaa", sum := "569efaf4e3e5fda93380b84a06d493e86d2fde69771bcf01f36d00e3fd4d4025", func := "loop.example/g00931/laws.FnPoints", spec := "fnPoints", apart := false }
def FnPointsSaid : Prop := fnPointsRow.holds Try.pinned (OpenSpec.ofChange fnPointsSpec)

/-- ITS FALSE NEIGHBOUR: 'it returns false'. Refute it at one input. -/
def fnPointsWrong : ChangeSpec := { name := "fnPoints", fn := fun _ => fun
  | [d1, d2] => { results := [.lit (.bool false)], args := [d1, d2] }
  | _ => none }
def FnPointsWrongFalsely : Prop := fnPointsRow.holds Try.pinned (OpenSpec.ofChange fnPointsWrong)

/-- 'laws.FnExactSetBreak': WHATEVER THE INPUT: true; the input reads as it did. -/
def fnExactSetBreakSpec : ChangeSpec := { name := "fnExactSetBreak", fn := fun _ => fun
  | [d1, d2, d3] => { results := [.lit (.bool true)], args := [d1, d2, d3] }
  | _ => none }
def fnExactSetBreakRow : OpenClaim := { program := "ytffiigfkmdgaaaa", sum := "569efaf4e3e5fda93380b84a06d493e86d2fde69771bcf01f36d00e3fd4d4025", func := "loop.example/g00931/laws.FnExactSetBreak", spec := "fnExactSetBreak", apart := false }
def FnExactSetBreakSaid : Prop := fnExactSetBreakRow.holds Try.pinned (OpenSpec.ofChange fnExactSetBreakSpec)

/-- ITS FALSE NEIGHBOUR: 'it returns false'. Refute it at one input. -/
def fnExactSetBreakWrong : ChangeSpec := { name := "fnExactSetBreak", fn := fun _ => fun
  | [d1, d2, d3] => { results := [.lit (.bool false)], args := [d1, d2, d3] }
  | _ => none }
def FnExactSetBreakWrongFalsely : Prop := fnExactSetBreakRow.holds Try.pinned (OpenSpec.ofChange fnExactSetBreakWrong)

/-- 'laws.FnExactStepWalker': WHATEVER THE INPUT: true; the input reads as it did. -/
def fnExactStepWalkerSpec : ChangeSpec := { name := "fnExactStepWalker", fn := fun _ => fun
  | [d1, d2] => { results := [.lit (.bool true)], args := [d1, d2] }
  | _ => none }
def fnExactStepWalkerRow : OpenClaim := { program := "ytffiigfkmdgaaaa", sum := "569efaf4e3e5fda93380b84a06d493e86d2fde69771bcf01f36d00e3fd4d4025", func := "loop.example/g00931/laws.FnExactStepWalker", spec := "fnExactStepWalker", apart := false }
def FnExactStepWalkerSaid : Prop := fnExactStepWalkerRow.holds Try.pinned (OpenSpec.ofChange fnExactStepWalkerSpec)

/-- ITS FALSE NEIGHBOUR: 'it returns false'. Refute it at one input. -/
def fnExactStepWalkerWrong : ChangeSpec := { name := "fnExactStepWalker", fn := fun _ => fun
  | [d1, d2] => { results := [.lit (.bool false)], args := [d1, d2] }
  | _ => none }
def FnExactStepWalkerWrongFalsely : Prop := fnExactStepWalkerRow.holds Try.pinned (OpenSpec.ofChange fnExactStepWalkerWrong)

/-- 'laws.FnExactWalkSteps': WHATEVER THE INPUT: true; the input reads as it did. -/
def fnExactWalkStepsSpec : ChangeSpec := { name := "fnExactWalkSteps", fn := fun _ => fun
  | [d1, d2, d3] => { results := [.lit (.bool true)], args := [d1, d2, d3] }
  | _ => none }
def fnExactWalkStepsRow : OpenClaim := { program := "ytffiigfkmdgaaaa", sum := "569efaf4e3e5fda93380b84a06d493e86d2fde69771bcf01f36d00e3fd4d4025", func := "loop.example/g00931/laws.FnExactWalkSteps", spec := "fnExactWalkSteps", apart := false }
def FnExactWalkStepsSaid : Prop := fnExactWalkStepsRow.holds Try.pinned (OpenSpec.ofChange fnExactWalkStepsSpec)

/-- ITS FALSE NEIGHBOUR: 'it returns false'. Refute it at one input. -/
def fnExactWalkStepsWrong : ChangeSpec := { name := "fnExactWalkSteps", fn := fun _ => fun
  | [d1, d2, d3] => { results := [.lit (.bool false)], args := [d1, d2, d3] }
  | _ => none }
def FnExactWalkStepsWrongFalsely : Prop := fnExactWalkStepsRow.holds Try.pinned (OpenSpec.ofChange fnExactWalkStepsWrong)

/- THE SECOND FORM. 'bulk': how many values and letters a reading holds, each counted each time it is reached (what is shared counts as often as it is met; a slice's spare places count too). A statement '..UptoSaid' is the law's where the arguments, and the package variables that the reading takes, are together of bulk at most 1048576: NARROWER than '..Said'. Prove '..Said' where nothing that the law and all that it calls make is longer than what came in: it says more and counts as full. Else prove '..UptoSaid'. A law counts once. -/
mutual
def uptoBulk {H : Type} : DataW H → Nat
  | .lit (.string bytes) => bytes.length + 1
  | .lit _ => 1
  | .nil => 1
  | .ptr d => uptoBulk d + 1
  | .slice elems spare => uptoBulkAll elems + uptoBulkAll spare + 1
  | .agg parts => uptoBulkAll parts + 1
  | .iface _ d => uptoBulk d + 1
  | .map entries => uptoBulkEntries entries + 1
  | .held _ => 1
def uptoBulkAll {H : Type} : List (DataW H) → Nat
  | [] => 0
  | d :: r => uptoBulk d + uptoBulkAll r
def uptoBulkEntries {H : Type} : List (Lit × DataW H) → Nat
  | [] => 0
  | x :: r => uptoBulkEntry x + uptoBulkEntries r
def uptoBulkEntry {H : Type} : Lit × DataW H → Nat
  | (.string bytes, d) => bytes.length + uptoBulk d + 1
  | (_, d) => uptoBulk d + 1
 end
def uptoSmall : (H : Type) → List (DataW H) → Bool := fun _ ds => decide (uptoBulkAll ds ≤ 1048576)
def OpenSpec.upto (s : _root_.Go.ChangeSpec) : _root_.Go.OpenSpec := { _root_.Go.OpenSpec.ofChange s with cond := some uptoSmall }

/-- 'laws.FnExactBreakAt', WHERE WHAT IT READS IS OF BULK AT MOST 1048576: true; the input reads as it did. -/
def fnExactBreakAtUptoRow : OpenClaim := { program := "ytffiigfkmdgaaaa", sum := "569efaf4e3e5fda93380b84a06d493e86d2fde69771bcf01f36d00e3fd4d4025", func := "loop.example/g00931/laws.FnExactBreakAt", spec := "fnExactBreakAt", apart := false, narrowed := true }
def FnExactBreakAtUptoSaid : Prop := fnExactBreakAtUptoRow.holds Try.pinned (OpenSpec.upto fnExactBreakAtSpec)

/-- 'laws.FnExactNumberOf', WHERE WHAT IT READS IS OF BULK AT MOST 1048576: true; the input reads as it did. -/
def fnExactNumberOfUptoRow : OpenClaim := { program := "ytffiigfkmdgaaaa", sum := "569efaf4e3e5fda93380b84a06d493e86d2fde69771bcf01f36d00e3fd4d4025", func := "loop.example/g00931/laws.FnExactNumberOf", spec := "fnExactNumberOf", apart := false, narrowed := true }
def FnExactNumberOfUptoSaid : Prop := fnExactNumberOfUptoRow.holds Try.pinned (OpenSpec.upto fnExactNumberOfSpec)

/-- 'laws.FnSegments', WHERE WHAT IT READS IS OF BULK AT MOST 1048576: true; the input reads as it did. -/
def fnSegmentsUptoRow : OpenClaim := { program := "ytffiigfkmdgaaaa", sum := "569efaf4e3e5fda93380b84a06d493e86d2fde69771bcf01f36d00e3fd4d4025", func := "loop.example/g00931/laws.FnSegments", spec := "fnSegments", apart := false, narrowed := true }
def FnSegmentsUptoSaid : Prop := fnSegmentsUptoRow.holds Try.pinned (OpenSpec.upto fnSegmentsSpec)

/-- 'laws.FnExactBackWalker', WHERE WHAT IT READS IS OF BULK AT MOST 1048576: true; the input reads as it did. -/
def fnExactBackWalkerUptoRow : OpenClaim := { program := "ytffiigfkmdgaaaa", sum := "569efaf4e3e5fda93380b84a06d493e86d2fde69771bcf01f36d00e3fd4d4025", func := "loop.example/g00931/laws.FnExactBackWalker", spec := "fnExactBackWalker", apart := false, narrowed := true }
def FnExactBackWalkerUptoSaid : Prop := fnExactBackWalkerUptoRow.holds Try.pinned (OpenSpec.upto fnExactBackWalkerSpec)

/-- 'laws.FnExactLinesPicture', WHERE WHAT IT READS IS OF BULK AT MOST 1048576: true; the input reads as it did. -/
def fnExactLinesPictureUptoRow : OpenClaim := { program := "ytffiigfkmdgaaaa", sum := "569efaf4e3e5fda93380b84a06d493e86d2fde69771bcf01f36d00e3fd4d4025", func := "loop.example/g00931/laws.FnExactLinesPicture", spec := "fnExactLinesPicture", apart := false, narrowed := true }
def FnExactLinesPictureUptoSaid : Prop := fnExactLinesPictureUptoRow.holds Try.pinned (OpenSpec.upto fnExactLinesPictureSpec)

/-- 'laws.FnSteps', WHERE WHAT IT READS IS OF BULK AT MOST 1048576: true; the input reads as it did. -/
def fnStepsUptoRow : OpenClaim := { program := "ytffiigfkmdgaaaa", sum := "569efaf4e3e5fda93380b84a06d493e86d2fde69771bcf01f36d00e3fd4d4025", func := "loop.example/g00931/laws.FnSteps", spec := "fnSteps", apart := false, narrowed := true }
def FnStepsUptoSaid : Prop := fnStepsUptoRow.holds Try.pinned (OpenSpec.upto fnStepsSpec)

/-- 'laws.FnExactTurnsOf', WHERE WHAT IT READS IS OF BULK AT MOST 1048576: true; the input reads as it did. -/
def fnExactTurnsOfUptoRow : OpenClaim := { program := "ytffiigfkmdgaaaa", sum := "569efaf4e3e5fda93380b84a06d493e86d2fde69771bcf01f36d00e3fd4d4025", func := "loop.example/g00931/laws.FnExactTurnsOf", spec := "fnExactTurnsOf", apart := false, narrowed := true }
def FnExactTurnsOfUptoSaid : Prop := fnExactTurnsOfUptoRow.holds Try.pinned (OpenSpec.upto fnExactTurnsOfSpec)

/-- 'laws.FnExactAllWalkers', WHERE WHAT IT READS IS OF BULK AT MOST 1048576: true; the input reads as it did. -/
def fnExactAllWalkersUptoRow : OpenClaim := { program := "ytffiigfkmdgaaaa", sum := "569efaf4e3e5fda93380b84a06d493e86d2fde69771bcf01f36d00e3fd4d4025", func := "loop.example/g00931/laws.FnExactAllWalkers", spec := "fnExactAllWalkers", apart := false, narrowed := true }
def FnExactAllWalkersUptoSaid : Prop := fnExactAllWalkersUptoRow.holds Try.pinned (OpenSpec.upto fnExactAllWalkersSpec)

/-- 'laws.FnPoints', WHERE WHAT IT READS IS OF BULK AT MOST 1048576: true; the input reads as it did. -/
def fnPointsUptoRow : OpenClaim := { program := "ytffiigfkmdgaaaa", sum := "569efaf4e3e5fda93380b84a06d493e86d2fde69771bcf01f36d00e3fd4d4025", func := "loop.example/g00931/laws.FnPoints", spec := "fnPoints", apart := false, narrowed := true }
def FnPointsUptoSaid : Prop := fnPointsUptoRow.holds Try.pinned (OpenSpec.upto fnPointsSpec)

/-- 'laws.FnExactSetBreak', WHERE WHAT IT READS IS OF BULK AT MOST 1048576: true; the input reads as it did. -/
def fnExactSetBreakUptoRow : OpenClaim := { program := "ytffiigfkmdgaaaa", sum := "569efaf4e3e5fda93380b84a06d493e86d2fde69771bcf01f36d00e3fd4d4025", func := "loop.example/g00931/laws.FnExactSetBreak", spec := "fnExactSetBreak", apart := false, narrowed := true }
def FnExactSetBreakUptoSaid : Prop := fnExactSetBreakUptoRow.holds Try.pinned (OpenSpec.upto fnExactSetBreakSpec)

/-- 'laws.FnExactStepWalker', WHERE WHAT IT READS IS OF BULK AT MOST 1048576: true; the input reads as it did. -/
def fnExactStepWalkerUptoRow : OpenClaim := { program := "ytffiigfkmdgaaaa", sum := "569efaf4e3e5fda93380b84a06d493e86d2fde69771bcf01f36d00e3fd4d4025", func := "loop.example/g00931/laws.FnExactStepWalker", spec := "fnExactStepWalker", apart := false, narrowed := true }
def FnExactStepWalkerUptoSaid : Prop := fnExactStepWalkerUptoRow.holds Try.pinned (OpenSpec.upto fnExactStepWalkerSpec)

/-- 'laws.FnExactWalkSteps', WHERE WHAT IT READS IS OF BULK AT MOST 1048576: true; the input reads as it did. -/
def fnExactWalkStepsUptoRow : OpenClaim := { program := "ytffiigfkmdgaaaa", sum := "569efaf4e3e5fda93380b84a06d493e86d2fde69771bcf01f36d00e3fd4d4025", func := "loop.example/g00931/laws.FnExactWalkSteps", spec := "fnExactWalkSteps", apart := false, narrowed := true }
def FnExactWalkStepsUptoSaid : Prop := fnExactWalkStepsUptoRow.holds Try.pinned (OpenSpec.upto fnExactWalkStepsSpec)

end Rows
end Go.Proofs.Ytffiigfkmdgaaaa

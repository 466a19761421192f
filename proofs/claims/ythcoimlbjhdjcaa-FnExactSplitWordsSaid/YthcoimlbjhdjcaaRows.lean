/-
  No cell of these rows narrows 'for every input' (looked for: loops, veiled, ifaces, maps, wideKeys, modest, calm, conditions, laid).
  DERIVED. THE GIVEN ROWS OF THIS SEAT. 12 by the template 'for every input the law returns true; each argument reads behind the call as it read before'; 0 by the template 'total and deterministic' (their statements: YthcoimlbjhdjcaaTotals.lean).
  GIVEN WITH THE SEED: the statements are not yours to turn. If you find one false, say at which input.
  Laid BY PROGRAM, IN A SANDBOX (cutbox-rows.mjs): the forced cells as the released guide's own fill.sh prints them over the translation 9473f1e1cca6f36f… (all of the seat's roots in one cut). By AI agents, Wed Nov 11 2026. No macro, syntax, notation, axiom, sorry.
-/
import Derived.Test.YthcoimlbjhdjcaaChecked
import GoSem.Claim
import GoSem.ClaimJoined
import GoSem.ClaimMapViews
import Derived.JoinedTies
import Derived.KernelRfl
namespace Go.Proofs.Ythcoimlbjhdjcaa
/- THE CELL 'sum', in the pinned program and in every row, IS THE sha256 OF THE DUMP (.gsa) THAT YthcoimlbjhdjcaaProg.lean LOADS. Nothing in Lean hashes anything: it is a label: what it is worth is what the hold of that sum in a sandbox is worth. -/
noncomputable def Try.pinned : Pinned := { name := "ythcoimlbjhdjcaa", sum := "9473f1e1cca6f36f9940e66447e3d4474a10b47da6daa121828f6eccbb47253a", checked := Try.checked }
namespace Rows
def none {H : Type} : Left H := { results := [], args := [] }

/-- 'laws.FnExactConstants': WHATEVER THE INPUT: true; the input reads as it did. -/
def fnExactConstantsSpec : ChangeSpec := { name := "fnExactConstants", fn := fun _ => fun
  | [] => { results := [.lit (.bool true)], args := [] }
  | _ => none }
def fnExactConstantsRow : OpenClaim := { program := "ythcoimlbjhdjcaa", sum := "9473f1e1cca6f36f9940e66447e3d4474a10b47da6daa121828f6eccbb47253a", func := "loop.example/g00931/laws.FnExactConstants", spec := "fnExactConstants", apart := false }
def FnExactConstantsSaid : Prop := fnExactConstantsRow.holds Try.pinned (OpenSpec.ofChange fnExactConstantsSpec)

/-- ITS FALSE NEIGHBOUR: 'it returns false'. Refute it at one input. -/
def fnExactConstantsWrong : ChangeSpec := { name := "fnExactConstants", fn := fun _ => fun
  | [] => { results := [.lit (.bool false)], args := [] }
  | _ => none }
def FnExactConstantsWrongFalsely : Prop := fnExactConstantsRow.holds Try.pinned (OpenSpec.ofChange fnExactConstantsWrong)

/-- 'laws.FnExactInnerPoints': WHATEVER THE INPUT: true; the input reads as it did. -/
def fnExactInnerPointsSpec : ChangeSpec := { name := "fnExactInnerPoints", fn := fun _ => fun
  | [d1, d2] => { results := [.lit (.bool true)], args := [d1, d2] }
  | _ => none }
def fnExactInnerPointsRow : OpenClaim := { program := "ythcoimlbjhdjcaa", sum := "9473f1e1cca6f36f9940e66447e3d4474a10b47da6daa121828f6eccbb47253a", func := "loop.example/g00931/laws.FnExactInnerPoints", spec := "fnExactInnerPoints", apart := false }
def FnExactInnerPointsSaid : Prop := fnExactInnerPointsRow.holds Try.pinned (OpenSpec.ofChange fnExactInnerPointsSpec)

/-- ITS FALSE NEIGHBOUR: 'it returns false'. Refute it at one input. -/
def fnExactInnerPointsWrong : ChangeSpec := { name := "fnExactInnerPoints", fn := fun _ => fun
  | [d1, d2] => { results := [.lit (.bool false)], args := [d1, d2] }
  | _ => none }
def FnExactInnerPointsWrongFalsely : Prop := fnExactInnerPointsRow.holds Try.pinned (OpenSpec.ofChange fnExactInnerPointsWrong)

/-- 'laws.FnExactPictureFaultName': WHATEVER THE INPUT: true; the input reads as it did. -/
def fnExactPictureFaultNameSpec : ChangeSpec := { name := "fnExactPictureFaultName", fn := fun _ => fun
  | [d] => { results := [.lit (.bool true)], args := [d] }
  | _ => none }
def fnExactPictureFaultNameRow : OpenClaim := { program := "ythcoimlbjhdjcaa", sum := "9473f1e1cca6f36f9940e66447e3d4474a10b47da6daa121828f6eccbb47253a", func := "loop.example/g00931/laws.FnExactPictureFaultName", spec := "fnExactPictureFaultName", apart := false }
def FnExactPictureFaultNameSaid : Prop := fnExactPictureFaultNameRow.holds Try.pinned (OpenSpec.ofChange fnExactPictureFaultNameSpec)

/-- ITS FALSE NEIGHBOUR: 'it returns false'. Refute it at one input. -/
def fnExactPictureFaultNameWrong : ChangeSpec := { name := "fnExactPictureFaultName", fn := fun _ => fun
  | [d] => { results := [.lit (.bool false)], args := [d] }
  | _ => none }
def FnExactPictureFaultNameWrongFalsely : Prop := fnExactPictureFaultNameRow.holds Try.pinned (OpenSpec.ofChange fnExactPictureFaultNameWrong)

/-- 'laws.FnExactIsName': WHATEVER THE INPUT: true; the input reads as it did. -/
def fnExactIsNameSpec : ChangeSpec := { name := "fnExactIsName", fn := fun _ => fun
  | [d] => { results := [.lit (.bool true)], args := [d] }
  | _ => none }
def fnExactIsNameRow : OpenClaim := { program := "ythcoimlbjhdjcaa", sum := "9473f1e1cca6f36f9940e66447e3d4474a10b47da6daa121828f6eccbb47253a", func := "loop.example/g00931/laws.FnExactIsName", spec := "fnExactIsName", apart := false }
def FnExactIsNameSaid : Prop := fnExactIsNameRow.holds Try.pinned (OpenSpec.ofChange fnExactIsNameSpec)

/-- ITS FALSE NEIGHBOUR: 'it returns false'. Refute it at one input. -/
def fnExactIsNameWrong : ChangeSpec := { name := "fnExactIsName", fn := fun _ => fun
  | [d] => { results := [.lit (.bool false)], args := [d] }
  | _ => none }
def FnExactIsNameWrongFalsely : Prop := fnExactIsNameRow.holds Try.pinned (OpenSpec.ofChange fnExactIsNameWrong)

/-- 'laws.FnExactSymName': WHATEVER THE INPUT: true; the input reads as it did. -/
def fnExactSymNameSpec : ChangeSpec := { name := "fnExactSymName", fn := fun _ => fun
  | [d] => { results := [.lit (.bool true)], args := [d] }
  | _ => none }
def fnExactSymNameRow : OpenClaim := { program := "ythcoimlbjhdjcaa", sum := "9473f1e1cca6f36f9940e66447e3d4474a10b47da6daa121828f6eccbb47253a", func := "loop.example/g00931/laws.FnExactSymName", spec := "fnExactSymName", apart := false }
def FnExactSymNameSaid : Prop := fnExactSymNameRow.holds Try.pinned (OpenSpec.ofChange fnExactSymNameSpec)

/-- ITS FALSE NEIGHBOUR: 'it returns false'. Refute it at one input. -/
def fnExactSymNameWrong : ChangeSpec := { name := "fnExactSymName", fn := fun _ => fun
  | [d] => { results := [.lit (.bool false)], args := [d] }
  | _ => none }
def FnExactSymNameWrongFalsely : Prop := fnExactSymNameRow.holds Try.pinned (OpenSpec.ofChange fnExactSymNameWrong)

/-- 'laws.FnExactInverseSym': WHATEVER THE INPUT: true; the input reads as it did. -/
def fnExactInverseSymSpec : ChangeSpec := { name := "fnExactInverseSym", fn := fun _ => fun
  | [d] => { results := [.lit (.bool true)], args := [d] }
  | _ => none }
def fnExactInverseSymRow : OpenClaim := { program := "ythcoimlbjhdjcaa", sum := "9473f1e1cca6f36f9940e66447e3d4474a10b47da6daa121828f6eccbb47253a", func := "loop.example/g00931/laws.FnExactInverseSym", spec := "fnExactInverseSym", apart := false }
def FnExactInverseSymSaid : Prop := fnExactInverseSymRow.holds Try.pinned (OpenSpec.ofChange fnExactInverseSymSpec)

/-- ITS FALSE NEIGHBOUR: 'it returns false'. Refute it at one input. -/
def fnExactInverseSymWrong : ChangeSpec := { name := "fnExactInverseSym", fn := fun _ => fun
  | [d] => { results := [.lit (.bool false)], args := [d] }
  | _ => none }
def FnExactInverseSymWrongFalsely : Prop := fnExactInverseSymRow.holds Try.pinned (OpenSpec.ofChange fnExactInverseSymWrong)

/-- 'laws.FnMeetings': WHATEVER THE INPUT: true; the input reads as it did. -/
def fnMeetingsSpec : ChangeSpec := { name := "fnMeetings", fn := fun _ => fun
  | [d1, d2] => { results := [.lit (.bool true)], args := [d1, d2] }
  | _ => none }
def fnMeetingsRow : OpenClaim := { program := "ythcoimlbjhdjcaa", sum := "9473f1e1cca6f36f9940e66447e3d4474a10b47da6daa121828f6eccbb47253a", func := "loop.example/g00931/laws.FnMeetings", spec := "fnMeetings", recurses := true, apart := false }
def FnMeetingsSaid : Prop := fnMeetingsRow.holds Try.pinned (OpenSpec.ofChange fnMeetingsSpec)

/-- ITS FALSE NEIGHBOUR: 'it returns false'. Refute it at one input. -/
def fnMeetingsWrong : ChangeSpec := { name := "fnMeetings", fn := fun _ => fun
  | [d1, d2] => { results := [.lit (.bool false)], args := [d1, d2] }
  | _ => none }
def FnMeetingsWrongFalsely : Prop := fnMeetingsRow.holds Try.pinned (OpenSpec.ofChange fnMeetingsWrong)

/-- 'laws.FnExactCodeName': WHATEVER THE INPUT: true; the input reads as it did. -/
def fnExactCodeNameSpec : ChangeSpec := { name := "fnExactCodeName", fn := fun _ => fun
  | [d] => { results := [.lit (.bool true)], args := [d] }
  | _ => none }
def fnExactCodeNameRow : OpenClaim := { program := "ythcoimlbjhdjcaa", sum := "9473f1e1cca6f36f9940e66447e3d4474a10b47da6daa121828f6eccbb47253a", func := "loop.example/g00931/laws.FnExactCodeName", spec := "fnExactCodeName", apart := false }
def FnExactCodeNameSaid : Prop := fnExactCodeNameRow.holds Try.pinned (OpenSpec.ofChange fnExactCodeNameSpec)

/-- ITS FALSE NEIGHBOUR: 'it returns false'. Refute it at one input. -/
def fnExactCodeNameWrong : ChangeSpec := { name := "fnExactCodeName", fn := fun _ => fun
  | [d] => { results := [.lit (.bool false)], args := [d] }
  | _ => none }
def FnExactCodeNameWrongFalsely : Prop := fnExactCodeNameRow.holds Try.pinned (OpenSpec.ofChange fnExactCodeNameWrong)

/-- 'laws.FnExactDecimal': WHATEVER THE INPUT: true; the input reads as it did. -/
def fnExactDecimalSpec : ChangeSpec := { name := "fnExactDecimal", fn := fun _ => fun
  | [d] => { results := [.lit (.bool true)], args := [d] }
  | _ => none }
def fnExactDecimalRow : OpenClaim := { program := "ythcoimlbjhdjcaa", sum := "9473f1e1cca6f36f9940e66447e3d4474a10b47da6daa121828f6eccbb47253a", func := "loop.example/g00931/laws.FnExactDecimal", spec := "fnExactDecimal", apart := false }
def FnExactDecimalSaid : Prop := fnExactDecimalRow.holds Try.pinned (OpenSpec.ofChange fnExactDecimalSpec)

/-- ITS FALSE NEIGHBOUR: 'it returns false'. Refute it at one input. -/
def fnExactDecimalWrong : ChangeSpec := { name := "fnExactDecimal", fn := fun _ => fun
  | [d] => { results := [.lit (.bool false)], args := [d] }
  | _ => none }
def FnExactDecimalWrongFalsely : Prop := fnExactDecimalRow.holds Try.pinned (OpenSpec.ofChange fnExactDecimalWrong)

/-- 'laws.FnExactSplitWords': WHATEVER THE INPUT: true; the input reads as it did. -/
def fnExactSplitWordsSpec : ChangeSpec := { name := "fnExactSplitWords", fn := fun _ => fun
  | [d] => { results := [.lit (.bool true)], args := [d] }
  | _ => none }
def fnExactSplitWordsRow : OpenClaim := { program := "ythcoimlbjhdjcaa", sum := "9473f1e1cca6f36f9940e66447e3d4474a10b47da6daa121828f6eccbb47253a", func := "loop.example/g00931/laws.FnExactSplitWords", spec := "fnExactSplitWords", apart := false }
def FnExactSplitWordsSaid : Prop := fnExactSplitWordsRow.holds Try.pinned (OpenSpec.ofChange fnExactSplitWordsSpec)

/-- ITS FALSE NEIGHBOUR: 'it returns false'. Refute it at one input. -/
def fnExactSplitWordsWrong : ChangeSpec := { name := "fnExactSplitWords", fn := fun _ => fun
  | [d] => { results := [.lit (.bool false)], args := [d] }
  | _ => none }
def FnExactSplitWordsWrongFalsely : Prop := fnExactSplitWordsRow.holds Try.pinned (OpenSpec.ofChange fnExactSplitWordsWrong)

/-- 'laws.FnExactSamePanel': WHATEVER THE INPUT: true; the input reads as it did. -/
def fnExactSamePanelSpec : ChangeSpec := { name := "fnExactSamePanel", fn := fun _ => fun
  | [d1, d2] => { results := [.lit (.bool true)], args := [d1, d2] }
  | _ => none }
def fnExactSamePanelRow : OpenClaim := { program := "ythcoimlbjhdjcaa", sum := "9473f1e1cca6f36f9940e66447e3d4474a10b47da6daa121828f6eccbb47253a", func := "loop.example/g00931/laws.FnExactSamePanel", spec := "fnExactSamePanel", apart := false }
def FnExactSamePanelSaid : Prop := fnExactSamePanelRow.holds Try.pinned (OpenSpec.ofChange fnExactSamePanelSpec)

/-- ITS FALSE NEIGHBOUR: 'it returns false'. Refute it at one input. -/
def fnExactSamePanelWrong : ChangeSpec := { name := "fnExactSamePanel", fn := fun _ => fun
  | [d1, d2] => { results := [.lit (.bool false)], args := [d1, d2] }
  | _ => none }
def FnExactSamePanelWrongFalsely : Prop := fnExactSamePanelRow.holds Try.pinned (OpenSpec.ofChange fnExactSamePanelWrong)

/-- 'laws.FnExactNewPanel': WHATEVER THE INPUT: true; the input reads as it did. -/
def fnExactNewPanelSpec : ChangeSpec := { name := "fnExactNewPanel", fn := fun _ => fun
  | [d1, d2] => { results := [.lit (.bool true)], args := [d1, d2] }
  | _ => none }
def fnExactNewPanelRow : OpenClaim := { program := "ythcoimlbjhdjcaa", sum := "9473f1e1cca6f36f9940e66447e3d4474a10b47da6daa121828f6eccbb47253a", func := "loop.example/g00931/laws.FnExactNewPanel", spec := "fnExactNewPanel", apart := false }
def FnExactNewPanelSaid : Prop := fnExactNewPanelRow.holds Try.pinned (OpenSpec.ofChange fnExactNewPanelSpec)

/-- ITS FALSE NEIGHBOUR: 'it returns false'. Refute it at one input. -/
def fnExactNewPanelWrong : ChangeSpec := { name := "fnExactNewPanel", fn := fun _ => fun
  | [d1, d2] => { results := [.lit (.bool false)], args := [d1, d2] }
  | _ => none }
def FnExactNewPanelWrongFalsely : Prop := fnExactNewPanelRow.holds Try.pinned (OpenSpec.ofChange fnExactNewPanelWrong)

/- THE SECOND FORM. 'bulk': how many values and letters a reading holds, each counted each time it is reached (what is shared counts as often as it is met; a slice's spare places count too). A statement '..UptoSaid' is the law's where the arguments, and the package variables that the reading takes, are together of bulk at most 1048576: NARROWER than '..Said'. Prove '..Said' where nothing that the law and all that it calls make is longer than what came in: it says more and counts as full. Else prove '..UptoSaid'. A law counts once. -/
mutual
def uptoBulk {H : Type} : DataW H → Nat
  | .lit (.string bytes) => bytes.length + 1
  | .lit _ => 1
  | .nil => 1
  | .ptr d => uptoBulk d + 1
  | .slice elems spare => uptoBulkAll elems + uptoBulkAll spare + 1
  | .agg parts => uptoBulkAll parts + 1
  | .iface _ d => uptoBulk d + 1
  | .map entries => uptoBulkEntries entries + 1
  | .held _ => 1
def uptoBulkAll {H : Type} : List (DataW H) → Nat
  | [] => 0
  | d :: r => uptoBulk d + uptoBulkAll r
def uptoBulkEntries {H : Type} : List (Lit × DataW H) → Nat
  | [] => 0
  | x :: r => uptoBulkEntry x + uptoBulkEntries r
def uptoBulkEntry {H : Type} : Lit × DataW H → Nat
  | (.string bytes, d) => bytes.length + uptoBulk d + 1
  | (_, d) => uptoBulk d + 1
 end
def uptoSmall : (H : Type) → List (DataW H) → Bool := fun _ ds => decide (uptoBulkAll ds ≤ 1048576)
def OpenSpec.upto (s : _root_.Go.ChangeSpec) : _root_.Go.OpenSpec := { _root_.Go.OpenSpec.ofChange s with cond := some uptoSmall }

/-- 'laws.FnExactConstants', WHERE WHAT IT READS IS OF BULK AT MOST 1048576: true; the input reads as it did. -/
def fnExactConstantsUptoRow : OpenClaim := { program := "ythcoimlbjhdjcaa", sum := "9473f1e1cca6f36f9940e66447e3d4474a10b47da6daa121828f6eccbb47253a", func := "loop.example/g00931/laws.FnExactConstants", spec := "fnExactConstants", apart := false, narrowed := true }
def FnExactConstantsUptoSaid : Prop := fnExactConstantsUptoRow.holds Try.pinned (OpenSpec.upto fnExactConstantsSpec)

/-- 'laws.FnExactInnerPoints', WHERE WHAT IT READS IS OF BULK AT MOST 1048576: true; the input reads as it did. -/
def fnExactInnerPointsUptoRow : OpenClaim := { program := "ythcoimlbjhdjcaa", sum := "9473f1e1cca6f36f9940e66447e3d4474a10b47da6daa121828f6eccbb47253a", func := "loop.example/g00931/laws.FnExactInnerPoints", spec := "fnExactInnerPoints", apart := false, narrowed := true }
def FnExactInnerPointsUptoSaid : Prop := fnExactInnerPointsUptoRow.holds Try.pinned (OpenSpec.upto fnExactInnerPointsSpec)

/-- 'laws.FnExactPictureFaultName', WHERE WHAT IT READS IS OF BULK AT MOST 1048576: true; the input reads as it did. -/
def fnExactPictureFaultNameUptoRow : OpenClaim := { program := "ythcoimlbjhdjcaa", sum := "9473f1e1cca6f36f9940e66447e3d4474a10b47da6daa121828f6eccbb47253a", func := "loop.example/g00931/laws.FnExactPictureFaultName", spec := "fnExactPictureFaultName", apart := false, narrowed := true }
def FnExactPictureFaultNameUptoSaid : Prop := fnExactPictureFaultNameUptoRow.holds Try.pinned (OpenSpec.upto fnExactPictureFaultNameSpec)

/-- 'laws.FnExactIsName', WHERE WHAT IT READS IS OF BULK AT MOST 1048576: true; the input reads as it did. -/
def fnExactIsNameUptoRow : OpenClaim := { program := "ythcoimlbjhdjcaa", sum := "9473f1e1cca6f36f9940e66447e3d4474a10b47da6daa121828f6eccbb47253a", func := "loop.example/g00931/laws.FnExactIsName", spec := "fnExactIsName", apart := false, narrowed := true }
def FnExactIsNameUptoSaid : Prop := fnExactIsNameUptoRow.holds Try.pinned (OpenSpec.upto fnExactIsNameSpec)

/-- 'laws.FnExactSymName', WHERE WHAT IT READS IS OF BULK AT MOST 1048576: true; the input reads as it did. -/
def fnExactSymNameUptoRow : OpenClaim := { program := "ythcoimlbjhdjcaa", sum := "9473f1e1cca6f36f9940e66447e3d4474a10b47da6daa121828f6eccbb47253a", func := "loop.example/g00931/laws.FnExactSymName", spec := "fnExactSymName", apart := false, narrowed := true }
def FnExactSymNameUptoSaid : Prop := fnExactSymNameUptoRow.holds Try.pinned (OpenSpec.upto fnExactSymNameSpec)

/-- 'laws.FnExactInverseSym', WHERE WHAT IT READS IS OF BULK AT MOST 1048576: true; the input reads as it did. -/
def fnExactInverseSymUptoRow : OpenClaim := { program := "ythcoimlbjhdjcaa", sum := "9473f1e1cca6f36f9940e66447e3d4474a10b47da6daa121828f6eccbb47253a", func := "loop.example/g00931/laws.FnExactInverseSym", spec := "fnExactInverseSym", apart := false, narrowed := true }
def FnExactInverseSymUptoSaid : Prop := fnExactInverseSymUptoRow.holds Try.pinned (OpenSpec.upto fnExactInverseSymSpec)

/-- 'laws.FnMeetings', WHERE WHAT IT READS IS OF BULK AT MOST 1048576: true; the input reads as it did. -/
def fnMeetingsUptoRow : OpenClaim := { program := "ythcoimlbjhdjcaa", sum := "9473f1e1cca6f36f9940e66447e3d4474a10b47da6daa121828f6eccbb47253a", func := "loop.example/g00931/laws.FnMeetings", spec := "fnMeetings", recurses := true, apart := false, narrowed := true }
def FnMeetingsUptoSaid : Prop := fnMeetingsUptoRow.holds Try.pinned (OpenSpec.upto fnMeetingsSpec)

/-- 'laws.FnExactCodeName', WHERE WHAT IT READS IS OF BULK AT MOST 1048576: true; the input reads as it did. -/
def fnExactCodeNameUptoRow : OpenClaim := { program := "ythcoimlbjhdjcaa", sum := "9473f1e1cca6f36f9940e66447e3d4474a10b47da6daa121828f6eccbb47253a", func := "loop.example/g00931/laws.FnExactCodeName", spec := "fnExactCodeName", apart := false, narrowed := true }
def FnExactCodeNameUptoSaid : Prop := fnExactCodeNameUptoRow.holds Try.pinned (OpenSpec.upto fnExactCodeNameSpec)

/-- 'laws.FnExactDecimal', WHERE WHAT IT READS IS OF BULK AT MOST 1048576: true; the input reads as it did. -/
def fnExactDecimalUptoRow : OpenClaim := { program := "ythcoimlbjhdjcaa", sum := "9473f1e1cca6f36f9940e66447e3d4474a10b47da6daa121828f6eccbb47253a", func := "loop.example/g00931/laws.FnExactDecimal", spec := "fnExactDecimal", apart := false, narrowed := true }
def FnExactDecimalUptoSaid : Prop := fnExactDecimalUptoRow.holds Try.pinned (OpenSpec.upto fnExactDecimalSpec)

/-- 'laws.FnExactSplitWords', WHERE WHAT IT READS IS OF BULK AT MOST 1048576: true; the input reads as it did. -/
def fnExactSplitWordsUptoRow : OpenClaim := { program := "ythcoimlbjhdjcaa", sum := "9473f1e1cca6f36f9940e66447e3d4474a10b47da6daa121828f6eccbb47253a", func := "loop.example/g00931/laws.FnExactSplitWords", spec := "fnExactSplitWords", apart := false, narrowed := true }
def FnExactSplitWordsUptoSaid : Prop := fnExactSplitWordsUptoRow.holds Try.pinned (OpenSpec.upto fnExactSplitWordsSpec)

/-- 'laws.FnExactSamePanel', WHERE WHAT IT READS IS OF BULK AT MOST 1048576: true; the input reads as it did. -/
def fnExactSamePanelUptoRow : OpenClaim := { program := "ythcoimlbjhdjcaa", sum := "9473f1e1cca6f36f9940e66447e3d4474a10b47da6daa121828f6eccbb47253a", func := "loop.example/g00931/laws.FnExactSamePanel", spec := "fnExactSamePanel", apart := false, narrowed := true }
def FnExactSamePanelUptoSaid : Prop := fnExactSamePanelUptoRow.holds Try.pinned (OpenSpec.upto fnExactSamePanelSpec)

/-- 'laws.FnExactNewPanel', WHERE WHAT IT READS IS OF BULK AT MOST 1048576: true; the input reads as it did. -/
def fnExactNewPanelUptoRow : OpenClaim := { program := "ythcoimlbjhdjcaa", sum := "9473f1e1cca6f36f9940e66447e3d4474a10b47da6daa121828f6eccbb47253a", func := "loop.example/g00931/laws.FnExactNewPanel", spec := "fnExactNewPanel", apart := false, narrowed := true }
def FnExactNewPanelUptoSaid : Prop := fnExactNewPanelUptoRow.holds Try.pinned (OpenSpec.upto fnExactNewPanelSpec)

end Rows
end Go.Proofs.Ythcoimlbjhdjcaa

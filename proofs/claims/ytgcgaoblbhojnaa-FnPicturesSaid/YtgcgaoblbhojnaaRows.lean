/-
  No cell of these rows narrows 'for every input' (looked for: loops, veiled, ifaces, maps, wideKeys, modest, calm, conditions, laid).
  DERIVED. THE GIVEN ROWS OF THIS SEAT. 11 by the template 'for every input the law returns true; each argument reads behind the call as it read before'; 0 by the template 'total and deterministic' (their statements: YtgcgaoblbhojnaaTotals.lean).
  GIVEN WITH THE SEED: the statements are not yours to turn. If you find one false, say at which input.
  Laid BY PROGRAM, IN A SANDBOX (cutbox-rows.mjs): the forced cells as the released guide's own fill.sh prints them over the translation 5362ccdb6187d6c0… (all of the seat's roots in one cut). By AI agents, Wed Nov 11 2026. No macro, syntax, notation, axiom, sorry.
-/
import Derived.Test.YtgcgaoblbhojnaaChecked
import GoSem.Claim
import GoSem.ClaimJoined
import GoSem.ClaimMapViews
import Derived.JoinedTies
import Derived.KernelRfl
namespace Go.Proofs.Ytgcgaoblbhojnaa
/- THE CELL 'sum', in the pinned program and in every row, IS THE sha256 OF THE DUMP (.gsa) THAT YtgcgaoblbhojnaaProg.lean LOADS. Nothing in Lean hashes anything: it is a label: what it is worth is what the hold of that sum in a sandbox is worth. -/
noncomputable def Try.pinned : Pinned := { name := "ytgcgaoblbhojnaa", sum := "5362ccdb6187d6c01418d5f6b3ead669025cf4bdc3573aa9e4eacf55b4f52adc", checked := Try.checked }
namespace Rows
def none {H : Type} : Left H := { results := [], args := [] }

/-- 'laws.FnExactDecimal': WHATEVER THE INPUT: true; the input reads as it did. -/
def fnExactDecimalSpec : ChangeSpec := { name := "fnExactDecimal", fn := fun _ => fun
  | [d] => { results := [.lit (.bool true)], args := [d] }
  | _ => none }
def fnExactDecimalRow : OpenClaim := { program := "ytgcgaoblbhojnaa", sum := "5362ccdb6187d6c01418d5f6b3ead669025cf4bdc3573aa9e4eacf55b4f52adc", func := "loop.example/g00931/laws.FnExactDecimal", spec := "fnExactDecimal", plainKeys := false, apart := false }
def FnExactDecimalSaid : Prop := fnExactDecimalRow.holds Try.pinned (OpenSpec.ofChange fnExactDecimalSpec)

/-- ITS FALSE NEIGHBOUR: 'it returns false'. Refute it at one input. -/
def fnExactDecimalWrong : ChangeSpec := { name := "fnExactDecimal", fn := fun _ => fun
  | [d] => { results := [.lit (.bool false)], args := [d] }
  | _ => none }
def FnExactDecimalWrongFalsely : Prop := fnExactDecimalRow.holds Try.pinned (OpenSpec.ofChange fnExactDecimalWrong)

/-- 'laws.FnExactReadDecimal': WHATEVER THE INPUT: true; the input reads as it did. -/
def fnExactReadDecimalSpec : ChangeSpec := { name := "fnExactReadDecimal", fn := fun _ => fun
  | [d] => { results := [.lit (.bool true)], args := [d] }
  | _ => none }
def fnExactReadDecimalRow : OpenClaim := { program := "ytgcgaoblbhojnaa", sum := "5362ccdb6187d6c01418d5f6b3ead669025cf4bdc3573aa9e4eacf55b4f52adc", func := "loop.example/g00931/laws.FnExactReadDecimal", spec := "fnExactReadDecimal", plainKeys := false, apart := false }
def FnExactReadDecimalSaid : Prop := fnExactReadDecimalRow.holds Try.pinned (OpenSpec.ofChange fnExactReadDecimalSpec)

/-- ITS FALSE NEIGHBOUR: 'it returns false'. Refute it at one input. -/
def fnExactReadDecimalWrong : ChangeSpec := { name := "fnExactReadDecimal", fn := fun _ => fun
  | [d] => { results := [.lit (.bool false)], args := [d] }
  | _ => none }
def FnExactReadDecimalWrongFalsely : Prop := fnExactReadDecimalRow.holds Try.pinned (OpenSpec.ofChange fnExactReadDecimalWrong)

/-- 'laws.FnExactPictureFault': WHATEVER THE INPUT: true; the input reads as it did. -/
def fnExactPictureFaultSpec : ChangeSpec := { name := "fnExactPictureFault", fn := fun _ => fun
  | [d] => { results := [.lit (.bool true)], args := [d] }
  | _ => none }
def fnExactPictureFaultRow : OpenClaim := { program := "ytgcgaoblbhojnaa", sum := "5362ccdb6187d6c01418d5f6b3ead669025cf4bdc3573aa9e4eacf55b4f52adc", func := "loop.example/g00931/laws.FnExactPictureFault", spec := "fnExactPictureFault", unfollowed := true, recurses := true, plainKeys := false, apart := false }
def FnExactPictureFaultSaid : Prop := fnExactPictureFaultRow.holds Try.pinned (OpenSpec.ofChange fnExactPictureFaultSpec)

/-- ITS FALSE NEIGHBOUR: 'it returns false'. Refute it at one input. -/
def fnExactPictureFaultWrong : ChangeSpec := { name := "fnExactPictureFault", fn := fun _ => fun
  | [d] => { results := [.lit (.bool false)], args := [d] }
  | _ => none }
def FnExactPictureFaultWrongFalsely : Prop := fnExactPictureFaultRow.holds Try.pinned (OpenSpec.ofChange fnExactPictureFaultWrong)

/-- 'laws.FnExactPanelText': WHATEVER THE INPUT: true; the input reads as it did. -/
def fnExactPanelTextSpec : ChangeSpec := { name := "fnExactPanelText", fn := fun _ => fun
  | [d] => { results := [.lit (.bool true)], args := [d] }
  | _ => none }
def fnExactPanelTextRow : OpenClaim := { program := "ytgcgaoblbhojnaa", sum := "5362ccdb6187d6c01418d5f6b3ead669025cf4bdc3573aa9e4eacf55b4f52adc", func := "loop.example/g00931/laws.FnExactPanelText", spec := "fnExactPanelText", plainKeys := false, apart := false }
def FnExactPanelTextSaid : Prop := fnExactPanelTextRow.holds Try.pinned (OpenSpec.ofChange fnExactPanelTextSpec)

/-- ITS FALSE NEIGHBOUR: 'it returns false'. Refute it at one input. -/
def fnExactPanelTextWrong : ChangeSpec := { name := "fnExactPanelText", fn := fun _ => fun
  | [d] => { results := [.lit (.bool false)], args := [d] }
  | _ => none }
def FnExactPanelTextWrongFalsely : Prop := fnExactPanelTextRow.holds Try.pinned (OpenSpec.ofChange fnExactPanelTextWrong)

/-- 'laws.FnExactPanelPicture': WHATEVER THE INPUT: true; the input reads as it did. -/
def fnExactPanelPictureSpec : ChangeSpec := { name := "fnExactPanelPicture", fn := fun _ => fun
  | [d] => { results := [.lit (.bool true)], args := [d] }
  | _ => none }
def fnExactPanelPictureRow : OpenClaim := { program := "ytgcgaoblbhojnaa", sum := "5362ccdb6187d6c01418d5f6b3ead669025cf4bdc3573aa9e4eacf55b4f52adc", func := "loop.example/g00931/laws.FnExactPanelPicture", spec := "fnExactPanelPicture", unfollowed := true, recurses := true, plainKeys := false, apart := false }
def FnExactPanelPictureSaid : Prop := fnExactPanelPictureRow.holds Try.pinned (OpenSpec.ofChange fnExactPanelPictureSpec)

/-- ITS FALSE NEIGHBOUR: 'it returns false'. Refute it at one input. -/
def fnExactPanelPictureWrong : ChangeSpec := { name := "fnExactPanelPicture", fn := fun _ => fun
  | [d] => { results := [.lit (.bool false)], args := [d] }
  | _ => none }
def FnExactPanelPictureWrongFalsely : Prop := fnExactPanelPictureRow.holds Try.pinned (OpenSpec.ofChange fnExactPanelPictureWrong)

/-- 'laws.FnExactReadPanel': WHATEVER THE INPUT: true; the input reads as it did. -/
def fnExactReadPanelSpec : ChangeSpec := { name := "fnExactReadPanel", fn := fun _ => fun
  | [d] => { results := [.lit (.bool true)], args := [d] }
  | _ => none }
def fnExactReadPanelRow : OpenClaim := { program := "ytgcgaoblbhojnaa", sum := "5362ccdb6187d6c01418d5f6b3ead669025cf4bdc3573aa9e4eacf55b4f52adc", func := "loop.example/g00931/laws.FnExactReadPanel", spec := "fnExactReadPanel", plainKeys := false, apart := false }
def FnExactReadPanelSaid : Prop := fnExactReadPanelRow.holds Try.pinned (OpenSpec.ofChange fnExactReadPanelSpec)

/-- ITS FALSE NEIGHBOUR: 'it returns false'. Refute it at one input. -/
def fnExactReadPanelWrong : ChangeSpec := { name := "fnExactReadPanel", fn := fun _ => fun
  | [d] => { results := [.lit (.bool false)], args := [d] }
  | _ => none }
def FnExactReadPanelWrongFalsely : Prop := fnExactReadPanelRow.holds Try.pinned (OpenSpec.ofChange fnExactReadPanelWrong)

/-- 'laws.FnExactReadPicture': WHATEVER THE INPUT: true; the input reads as it did. -/
def fnExactReadPictureSpec : ChangeSpec := { name := "fnExactReadPicture", fn := fun _ => fun
  | [d] => { results := [.lit (.bool true)], args := [d] }
  | _ => none }
def fnExactReadPictureRow : OpenClaim := { program := "ytgcgaoblbhojnaa", sum := "5362ccdb6187d6c01418d5f6b3ead669025cf4bdc3573aa9e4eacf55b4f52adc", func := "loop.example/g00931/laws.FnExactReadPicture", spec := "fnExactReadPicture", unfollowed := true, recurses := true, plainKeys := false, apart := false }
def FnExactReadPictureSaid : Prop := fnExactReadPictureRow.holds Try.pinned (OpenSpec.ofChange fnExactReadPictureSpec)

/-- ITS FALSE NEIGHBOUR: 'it returns false'. Refute it at one input. -/
def fnExactReadPictureWrong : ChangeSpec := { name := "fnExactReadPicture", fn := fun _ => fun
  | [d] => { results := [.lit (.bool false)], args := [d] }
  | _ => none }
def FnExactReadPictureWrongFalsely : Prop := fnExactReadPictureRow.holds Try.pinned (OpenSpec.ofChange fnExactReadPictureWrong)

/-- 'laws.FnExactTouchesOf': WHATEVER THE INPUT: true; the input reads as it did. -/
def fnExactTouchesOfSpec : ChangeSpec := { name := "fnExactTouchesOf", fn := fun _ => fun
  | [d1, d2] => { results := [.lit (.bool true)], args := [d1, d2] }
  | _ => none }
def fnExactTouchesOfRow : OpenClaim := { program := "ytgcgaoblbhojnaa", sum := "5362ccdb6187d6c01418d5f6b3ead669025cf4bdc3573aa9e4eacf55b4f52adc", func := "loop.example/g00931/laws.FnExactTouchesOf", spec := "fnExactTouchesOf", plainKeys := false, apart := false }
def FnExactTouchesOfSaid : Prop := fnExactTouchesOfRow.holds Try.pinned (OpenSpec.ofChange fnExactTouchesOfSpec)

/-- ITS FALSE NEIGHBOUR: 'it returns false'. Refute it at one input. -/
def fnExactTouchesOfWrong : ChangeSpec := { name := "fnExactTouchesOf", fn := fun _ => fun
  | [d1, d2] => { results := [.lit (.bool false)], args := [d1, d2] }
  | _ => none }
def FnExactTouchesOfWrongFalsely : Prop := fnExactTouchesOfRow.holds Try.pinned (OpenSpec.ofChange fnExactTouchesOfWrong)

/-- 'laws.FnExactCurvePicture': WHATEVER THE INPUT: true; the input reads as it did. -/
def fnExactCurvePictureSpec : ChangeSpec := { name := "fnExactCurvePicture", fn := fun _ => fun
  | [d1, d2] => { results := [.lit (.bool true)], args := [d1, d2] }
  | _ => none }
def fnExactCurvePictureRow : OpenClaim := { program := "ytgcgaoblbhojnaa", sum := "5362ccdb6187d6c01418d5f6b3ead669025cf4bdc3573aa9e4eacf55b4f52adc", func := "loop.example/g00931/laws.FnExactCurvePicture", spec := "fnExactCurvePicture", unfollowed := true, recurses := true, plainKeys := false, apart := false }
def FnExactCurvePictureSaid : Prop := fnExactCurvePictureRow.holds Try.pinned (OpenSpec.ofChange fnExactCurvePictureSpec)

/-- ITS FALSE NEIGHBOUR: 'it returns false'. Refute it at one input. -/
def fnExactCurvePictureWrong : ChangeSpec := { name := "fnExactCurvePicture", fn := fun _ => fun
  | [d1, d2] => { results := [.lit (.bool false)], args := [d1, d2] }
  | _ => none }
def FnExactCurvePictureWrongFalsely : Prop := fnExactCurvePictureRow.holds Try.pinned (OpenSpec.ofChange fnExactCurvePictureWrong)

/-- 'laws.FnPictures': WHATEVER THE INPUT: true; the input reads as it did. -/
def fnPicturesSpec : ChangeSpec := { name := "fnPictures", fn := fun _ => fun
  | [d] => { results := [.lit (.bool true)], args := [d] }
  | _ => none }
def fnPicturesRow : OpenClaim := { program := "ytgcgaoblbhojnaa", sum := "5362ccdb6187d6c01418d5f6b3ead669025cf4bdc3573aa9e4eacf55b4f52adc", func := "loop.example/g00931/laws.FnPictures", spec := "fnPictures", unfollowed := true, recurses := true, plainKeys := false, apart := false }
def FnPicturesSaid : Prop := fnPicturesRow.holds Try.pinned (OpenSpec.ofChange fnPicturesSpec)

/-- ITS FALSE NEIGHBOUR: 'it returns false'. Refute it at one input. -/
def fnPicturesWrong : ChangeSpec := { name := "fnPictures", fn := fun _ => fun
  | [d] => { results := [.lit (.bool false)], args := [d] }
  | _ => none }
def FnPicturesWrongFalsely : Prop := fnPicturesRow.holds Try.pinned (OpenSpec.ofChange fnPicturesWrong)

/-- 'laws.FnCurvePictures': WHATEVER THE INPUT: true; the input reads as it did. -/
def fnCurvePicturesSpec : ChangeSpec := { name := "fnCurvePictures", fn := fun _ => fun
  | [d] => { results := [.lit (.bool true)], args := [d] }
  | _ => none }
def fnCurvePicturesRow : OpenClaim := { program := "ytgcgaoblbhojnaa", sum := "5362ccdb6187d6c01418d5f6b3ead669025cf4bdc3573aa9e4eacf55b4f52adc", func := "loop.example/g00931/laws.FnCurvePictures", spec := "fnCurvePictures", unfollowed := true, recurses := true, plainKeys := false, apart := false }
def FnCurvePicturesSaid : Prop := fnCurvePicturesRow.holds Try.pinned (OpenSpec.ofChange fnCurvePicturesSpec)

/-- ITS FALSE NEIGHBOUR: 'it returns false'. Refute it at one input. -/
def fnCurvePicturesWrong : ChangeSpec := { name := "fnCurvePictures", fn := fun _ => fun
  | [d] => { results := [.lit (.bool false)], args := [d] }
  | _ => none }
def FnCurvePicturesWrongFalsely : Prop := fnCurvePicturesRow.holds Try.pinned (OpenSpec.ofChange fnCurvePicturesWrong)

/- THE SECOND FORM. 'bulk': how many values and letters a reading holds, each counted each time it is reached (what is shared counts as often as it is met; a slice's spare places count too). A statement '..UptoSaid' is the law's where the arguments, and the package variables that the reading takes, are together of bulk at most 1048576: NARROWER than '..Said'. Prove '..Said' where nothing that the law and all that it calls make is longer than what came in: it says more and counts as full. Else prove '..UptoSaid'. A law counts once. -/
mutual
def uptoBulk {H : Type} : DataW H → Nat
  | .lit (.string bytes) => bytes.length + 1
  | .lit _ => 1
  | .nil => 1
  | .ptr d => uptoBulk d + 1
  | .slice elems spare => uptoBulkAll elems + uptoBulkAll spare + 1
  | .agg parts => uptoBulkAll parts + 1
  | .iface _ d => uptoBulk d + 1
  | .map entries => uptoBulkEntries entries + 1
  | .held _ => 1
def uptoBulkAll {H : Type} : List (DataW H) → Nat
  | [] => 0
  | d :: r => uptoBulk d + uptoBulkAll r
def uptoBulkEntries {H : Type} : List (Lit × DataW H) → Nat
  | [] => 0
  | x :: r => uptoBulkEntry x + uptoBulkEntries r
def uptoBulkEntry {H : Type} : Lit × DataW H → Nat
  | (.string bytes, d) => bytes.length + uptoBulk d + 1
  | (_, d) => uptoBulk d + 1
 end
def uptoSmall : (H : Type) → List (DataW H) → Bool := fun _ ds => decide (uptoBulkAll ds ≤ 1048576)
def OpenSpec.upto (s : _root_.Go.ChangeSpec) : _root_.Go.OpenSpec := { _root_.Go.OpenSpec.ofChange s with cond := some uptoSmall }

/-- 'laws.FnExactDecimal', WHERE WHAT IT READS IS OF BULK AT MOST 1048576: true; the input reads as it did. -/
def fnExactDecimalUptoRow : OpenClaim := { program := "ytgcgaoblbhojnaa", sum := "5362ccdb6187d6c01418d5f6b3ead669025cf4bdc3573aa9e4eacf55b4f52adc", func := "loop.example/g00931/laws.FnExactDecimal", spec := "fnExactDecimal", plainKeys := false, apart := false, narrowed := true }
def FnExactDecimalUptoSaid : Prop := fnExactDecimalUptoRow.holds Try.pinned (OpenSpec.upto fnExactDecimalSpec)

/-- 'laws.FnExactReadDecimal', WHERE WHAT IT READS IS OF BULK AT MOST 1048576: true; the input reads as it did. -/
def fnExactReadDecimalUptoRow : OpenClaim := { program := "ytgcgaoblbhojnaa", sum := "5362ccdb6187d6c01418d5f6b3ead669025cf4bdc3573aa9e4eacf55b4f52adc", func := "loop.example/g00931/laws.FnExactReadDecimal", spec := "fnExactReadDecimal", plainKeys := false, apart := false, narrowed := true }
def FnExactReadDecimalUptoSaid : Prop := fnExactReadDecimalUptoRow.holds Try.pinned (OpenSpec.upto fnExactReadDecimalSpec)

/-- 'laws.FnExactPictureFault', WHERE WHAT IT READS IS OF BULK AT MOST 1048576: true; the input reads as it did. -/
def fnExactPictureFaultUptoRow : OpenClaim := { program := "ytgcgaoblbhojnaa", sum := "5362ccdb6187d6c01418d5f6b3ead669025cf4bdc3573aa9e4eacf55b4f52adc", func := "loop.example/g00931/laws.FnExactPictureFault", spec := "fnExactPictureFault", unfollowed := true, recurses := true, plainKeys := false, apart := false, narrowed := true }
def FnExactPictureFaultUptoSaid : Prop := fnExactPictureFaultUptoRow.holds Try.pinned (OpenSpec.upto fnExactPictureFaultSpec)

/-- 'laws.FnExactPanelText', WHERE WHAT IT READS IS OF BULK AT MOST 1048576: true; the input reads as it did. -/
def fnExactPanelTextUptoRow : OpenClaim := { program := "ytgcgaoblbhojnaa", sum := "5362ccdb6187d6c01418d5f6b3ead669025cf4bdc3573aa9e4eacf55b4f52adc", func := "loop.example/g00931/laws.FnExactPanelText", spec := "fnExactPanelText", plainKeys := false, apart := false, narrowed := true }
def FnExactPanelTextUptoSaid : Prop := fnExactPanelTextUptoRow.holds Try.pinned (OpenSpec.upto fnExactPanelTextSpec)

/-- 'laws.FnExactPanelPicture', WHERE WHAT IT READS IS OF BULK AT MOST 1048576: true; the input reads as it did. -/
def fnExactPanelPictureUptoRow : OpenClaim := { program := "ytgcgaoblbhojnaa", sum := "5362ccdb6187d6c01418d5f6b3ead669025cf4bdc3573aa9e4eacf55b4f52adc", func := "loop.example/g00931/laws.FnExactPanelPicture", spec := "fnExactPanelPicture", unfollowed := true, recurses := true, plainKeys := false, apart := false, narrowed := true }
def FnExactPanelPictureUptoSaid : Prop := fnExactPanelPictureUptoRow.holds Try.pinned (OpenSpec.upto fnExactPanelPictureSpec)

/-- 'laws.FnExactReadPanel', WHERE WHAT IT READS IS OF BULK AT MOST 1048576: true; the input reads as it did. -/
def fnExactReadPanelUptoRow : OpenClaim := { program := "ytgcgaoblbhojnaa", sum := "5362ccdb6187d6c01418d5f6b3ead669025cf4bdc3573aa9e4eacf55b4f52adc", func := "loop.example/g00931/laws.FnExactReadPanel", spec := "fnExactReadPanel", plainKeys := false, apart := false, narrowed := true }
def FnExactReadPanelUptoSaid : Prop := fnExactReadPanelUptoRow.holds Try.pinned (OpenSpec.upto fnExactReadPanelSpec)

/-- 'laws.FnExactReadPicture', WHERE WHAT IT READS IS OF BULK AT MOST 1048576: true; the input reads as it did. -/
def fnExactReadPictureUptoRow : OpenClaim := { program := "ytgcgaoblbhojnaa", sum := "5362ccdb6187d6c01418d5f6b3ead669025cf4bdc3573aa9e4eacf55b4f52adc", func := "loop.example/g00931/laws.FnExactReadPicture", spec := "fnExactReadPicture", unfollowed := true, recurses := true, plainKeys := false, apart := false, narrowed := true }
def FnExactReadPictureUptoSaid : Prop := fnExactReadPictureUptoRow.holds Try.pinned (OpenSpec.upto fnExactReadPictureSpec)

/-- 'laws.FnExactTouchesOf', WHERE WHAT IT READS IS OF BULK AT MOST 1048576: true; the input reads as it did. -/
def fnExactTouchesOfUptoRow : OpenClaim := { program := "ytgcgaoblbhojnaa", sum := "5362ccdb6187d6c01418d5f6b3ead669025cf4bdc3573aa9e4eacf55b4f52adc", func := "loop.example/g00931/laws.FnExactTouchesOf", spec := "fnExactTouchesOf", plainKeys := false, apart := false, narrowed := true }
def FnExactTouchesOfUptoSaid : Prop := fnExactTouchesOfUptoRow.holds Try.pinned (OpenSpec.upto fnExactTouchesOfSpec)

/-- 'laws.FnExactCurvePicture', WHERE WHAT IT READS IS OF BULK AT MOST 1048576: true; the input reads as it did. -/
def fnExactCurvePictureUptoRow : OpenClaim := { program := "ytgcgaoblbhojnaa", sum := "5362ccdb6187d6c01418d5f6b3ead669025cf4bdc3573aa9e4eacf55b4f52adc", func := "loop.example/g00931/laws.FnExactCurvePicture", spec := "fnExactCurvePicture", unfollowed := true, recurses := true, plainKeys := false, apart := false, narrowed := true }
def FnExactCurvePictureUptoSaid : Prop := fnExactCurvePictureUptoRow.holds Try.pinned (OpenSpec.upto fnExactCurvePictureSpec)

/-- 'laws.FnPictures', WHERE WHAT IT READS IS OF BULK AT MOST 1048576: true; the input reads as it did. -/
def fnPicturesUptoRow : OpenClaim := { program := "ytgcgaoblbhojnaa", sum := "5362ccdb6187d6c01418d5f6b3ead669025cf4bdc3573aa9e4eacf55b4f52adc", func := "loop.example/g00931/laws.FnPictures", spec := "fnPictures", unfollowed := true, recurses := true, plainKeys := false, apart := false, narrowed := true }
def FnPicturesUptoSaid : Prop := fnPicturesUptoRow.holds Try.pinned (OpenSpec.upto fnPicturesSpec)

/-- 'laws.FnCurvePictures', WHERE WHAT IT READS IS OF BULK AT MOST 1048576: true; the input reads as it did. -/
def fnCurvePicturesUptoRow : OpenClaim := { program := "ytgcgaoblbhojnaa", sum := "5362ccdb6187d6c01418d5f6b3ead669025cf4bdc3573aa9e4eacf55b4f52adc", func := "loop.example/g00931/laws.FnCurvePictures", spec := "fnCurvePictures", unfollowed := true, recurses := true, plainKeys := false, apart := false, narrowed := true }
def FnCurvePicturesUptoSaid : Prop := fnCurvePicturesUptoRow.holds Try.pinned (OpenSpec.upto fnCurvePicturesSpec)

end Rows
end Go.Proofs.Ytgcgaoblbhojnaa

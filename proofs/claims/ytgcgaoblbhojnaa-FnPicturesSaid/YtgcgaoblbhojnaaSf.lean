/- SegmentOf. -/
import Derived.Test.YtgcgaoblbhojnaaSo
namespace Go.Proofs.Ytgcgaoblbhojnaa
set_option linter.unusedSimpArgs false
set_option linter.unusedVariables false
open Go.ChangeShapes Go.WideShapes Go.ChangeAt Go.RowKit
/-- What SegmentOf answers. -/
def sgR (W H : Int) (zs : List Int) (x y dx dy : Int) : Int := if validWB W H zs x y dx dy then sgF H x y dx dy else 0
theorem wb_parts {W H : Int} {zs : List Int} {x y dx dy : Int} (h : validWB W H zs x y dx dy = true) : side W = true ∧ side H = true ∧ walkB W H x y dx dy = true := by
  simp only [validWB, Bool.and_eq_true] at h
  exact ⟨(valid_sides h.1).1, (valid_sides h.1).2, h.2⟩
theorem codeW_no {W H : Int} {zs : List Int} {x y dx dy : Int} (h : validWB W H zs x y dx dy = false) : codeW W H zs x y dx dy = 1 := by simp [codeW, h]
theorem codeW_yes {W H : Int} {zs : List Int} {x y dx dy : Int} (h : validWB W H zs x y dx dy = true) : codeW W H zs x y dx dy = 0 := by simp [codeW, h]
theorem calls_int {p : Program} {f : Nat} {args : Array Value} {w : World} {P : World → Prop} {a b : Int} (h : Calls p f args w fun e w' => e = .returned (.int .i64 a) ∧ P w') (k : a = b) : Calls p f args w fun e w' => e = .returned (.int .i64 b) ∧ P w' := k ▸ h

end Go.Proofs.Ytgcgaoblbhojnaa

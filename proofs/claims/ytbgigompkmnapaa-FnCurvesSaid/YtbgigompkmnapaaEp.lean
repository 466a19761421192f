/- Rows of Points: compared, marked, held. -/
import Derived.Test.YtbgigompkmnapaaRg
import Derived.Test.YtbgigompkmnapaaLw
import Derived.Test.YtbgigompkmnapaaQm
import Derived.Lib.SmallJoins
import Derived.Deep.AppendLies
namespace Go.Proofs.Ytbgigompkmnapaa
set_option linter.unusedSimpArgs false
set_option linter.unusedVariables false
open Go.ChangeShapes Go.WideShapes Go.ChangeAt Go.RowKit
theorem row_formPoint {w : World} {B s n : Nat} {T : TypeId} {v : Value} {cs : List Value} (h : w.ownsRow B T s v n cs) : ∃ A c, v = .slice A n c := by
  rcases h.2 with ⟨rfl, h0⟩ | ⟨g, cap, cur, rfl, _⟩
  · exact ⟨none, 0, by rw [h0]⟩
  · exact ⟨_, _, rfl⟩
theorem vsetPoint (zs : List Int) (k i : Nat) (h : i < zs.length) : (vals (marked zs k i)).set i (.int .i64 ((k + i : Nat) : Int)) = vals (marked zs k (i + 1)) := by
  rw [← marked_set zs k i h]; simp [vals]

end Go.Proofs.Ytbgigompkmnapaa

/- AllWalkers. -/
import Derived.Test.YtgcgaoblbhojnaaWt
import Derived.Test.YtgcgaoblbhojnaaBk
import Derived.Test.YtgcgaoblbhojnaaSf
import Derived.Test.YtgcgaoblbhojnaaRg
import Derived.Test.YtgcgaoblbhojnaaAu
import Derived.OwnWalk
import Derived.Lib.SmallJoins
import Derived.Deep.AppendLies
namespace Go.Proofs.Ytgcgaoblbhojnaa
set_option linter.unusedSimpArgs false
set_option linter.unusedVariables false
open Go.ChangeShapes Go.WideShapes Go.ChangeAt Go.RowKit
/-- The numbers of the two walkers along segment k, and of those along the first n. -/
def awZ (H : Int) (k : Nat) : List Int := [wkX H k, wkY H k, 1, wkD H k, wkX H k + 1, wkY H k + wkD H k, -1, -(wkD H k)]
def awF (H : Int) (n : Nat) : List Int := (List.range n).flatMap (awZ H)
theorem awF_succ (H : Int) (n : Nat) : awF H (n + 1) = awF H n ++ awZ H n := by simp [awF, List.range_succ, List.flatMap_append]
theorem awF_length (H : Int) (n : Nat) : (awF H n).length = n * 8 := by
  induction n with
  | zero => rfl
  | succ n ih => rw [awF_succ, List.length_append, ih]; simp [awZ]; omega
/-- What AllWalkers answers. -/
def awL (W H : Int) (zs : List Int) : List Int := if validB W H zs then awF H (4 * W * H).toNat else []
def awN (W H : Int) (zs : List Int) : Nat := if validB W H zs then (4 * W * H).toNat * 2 else 0
def awC (W H : Int) (zs : List Int) : Int := if validB W H zs then 0 else 1
theorem awL_length (W H : Int) (zs : List Int) : (awL W H zs).length = awN W H zs * 4 := by
  unfold awL awN
  split
  · rw [awF_length]; omega
  · rfl
theorem awN_le (W H : Int) (zs : List Int) : awN W H zs ≤ 512 := by
  unfold awN
  split
  · rename_i h
    obtain ⟨h1, h2⟩ := valid_sides h
    have := segs_bd h1 h2
    omega
  · omega
theorem wk_bd {W H k : Int} (hW : side W = true) (hH : side H = true) (h0 : 0 ≤ k) (hk : k < 4 * W * H) : 0 ≤ wkX H k ∧ wkX H k ≤ 15 ∧ 0 ≤ wkY H k ∧ wkY H k ≤ 16 ∧ (-1 : Int) ≤ wkD H k ∧ wkD H k ≤ 1 := by
  obtain ⟨q1, q2, r1, r2⟩ := wk_qr hW hH h0 hk
  have b1 := side_bd hW
  have b2 := side_bd hH
  have hx : wkX H k = k / (2 * H) := rfl
  unfold wkY wkD
  split <;> omega
theorem infoWk : (Try.prog.info? 100).map (fun i => (i.zero, i.size, i.bytes)) = some (some (.agg #[.int .i64 0, .int .i64 0, .int .i64 0, .int .i64 0]), 4, 32) := by kernel_rfl

end Go.Proofs.Ytgcgaoblbhojnaa

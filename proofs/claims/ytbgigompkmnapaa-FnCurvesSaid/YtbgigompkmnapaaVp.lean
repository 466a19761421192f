/- Contracts of the functions on panels. -/
import Derived.Test.YtbgigompkmnapaaBase
import Derived.Deep.LoopGhost
namespace Go.Proofs.Ytbgigompkmnapaa
set_option linter.unusedSimpArgs false
set_option linter.unusedVariables false
open Go.ChangeShapes Go.WideShapes Go.ChangeAt Go.RowKit

/-- The slice with address A reads as the numbers zs, below block B. -/
def Ints (w : World) (B : Nat) (A : Option Addr) (zs : List Int) : Prop :=
  ∀ j z, zs[j]? = some z → ∃ b off, A = some ⟨b, off, none⟩ ∧ b < B ∧ w.cell? ⟨b, off + j, none⟩ = some (.int .i64 z)

theorem Ints.below {w w' : World} {B : Nat} {A : Option Addr} {zs : List Int} (h : Ints w B A zs) (hb : Below B w w') : Ints w' B A zs := by
  intro j z hj
  obtain ⟨b, off, rfl, hlt, hc⟩ := h j z hj
  exact ⟨b, off, rfl, hlt, (hb.cell (p := ⟨b, off + j, none⟩) hlt).trans hc⟩

def side (n : Int) : Bool := inR n 1 8
def kindOk (n : Int) : Bool := inR n 0 2
def inner (w h : Int) : Int := w * (h - 1) + h * (w - 1)
def validB (W H : Int) (zs : List Int) : Bool := side W && side H && decide ((zs.length : Int) = inner W H) && zs.all kindOk

theorem side_bd {n : Int} (h : side n = true) : 1 ≤ n ∧ n ≤ 8 := by simpa [side, inR] using h

theorem validSize_any (x y : Int) (w : World) : Calls Try.prog 93 #[.int .i64 x, .int .i64 y] w fun e w' => e = .returned (.bool (side x && side y)) ∧ w = w' := by
  go_enter Try.func93, Try.ntmps93
  go_wp2_with (go_at_call 81; refine (inRange_any _ _ _ _).mono ?_; rintro e w' ⟨rfl, rfl⟩)
  all_goals
    go_ret
    exact ⟨ret_bool (by simp_all [side]), rfl⟩

theorem inner_bd {x y : Int} (hx : side x = true) (hy : side y = true) : 0 ≤ x * (y - 1) ∧ x * (y - 1) ≤ 56 ∧ 0 ≤ y * (x - 1) ∧ y * (x - 1) ≤ 56 := by
  have h1 := side_bd hx
  have h2 := side_bd hy
  have a1 : 0 ≤ x * (y - 1) := Int.mul_nonneg (by omega) (by omega)
  have a2 : x * (y - 1) ≤ 8 * 7 := Int.mul_le_mul (by omega) (by omega) (by omega) (by omega)
  have a3 : 0 ≤ y * (x - 1) := Int.mul_nonneg (by omega) (by omega)
  have a4 : y * (x - 1) ≤ 8 * 7 := Int.mul_le_mul (by omega) (by omega) (by omega) (by omega)
  exact ⟨a1, by omega, a3, by omega⟩

theorem innerPoints_any (x y : Int) (w : World) (hx : side x = true) (hy : side y = true) : Calls Try.prog 94 #[.int .i64 x, .int .i64 y] w fun e w' => e = .returned (.int .i64 (inner x y)) ∧ w = w' := by
  obtain ⟨h1, h2, h3, h4⟩ := inner_bd hx hy
  obtain ⟨h5, h6⟩ := side_bd hx
  obtain ⟨h7, h8⟩ := side_bd hy
  clear hx hy
  go_enter Try.func94, Try.ntmps94
  go_wp2
  go_ret
  exact ⟨rfl, rfl⟩

theorem l02Inner_any (x y : Int) (w : World) (hx : side x = true) (hy : side y = true) : Calls Try.prog 116 #[.int .i64 x, .int .i64 y] w fun e w' => e = .returned (.int .i64 (inner x y)) ∧ w = w' := by
  obtain ⟨h1, h2, h3, h4⟩ := inner_bd hx hy
  obtain ⟨h5, h6⟩ := side_bd hx
  obtain ⟨h7, h8⟩ := side_bd hy
  clear hx hy
  go_enter Try.func116, Try.ntmps116
  go_wp2
  go_ret
  exact ⟨rfl, rfl⟩

theorem l02Side_any (x : Int) (w : World) : Calls Try.prog 115 #[.int .i64 x] w fun e w' => e = .returned (.bool (side x)) ∧ w = w' := by
  go_enter Try.func115, Try.ntmps115
  go_wp2_with (go_at_call 101; refine (l00In_any _ _ _ _).mono ?_; rintro e w' ⟨rfl, rfl⟩)
  go_ret
  exact ⟨rfl, rfl⟩

theorem validBreak_any (x : Int) (w : World) : Calls Try.prog 95 #[.int .i64 x] w fun e w' => e = .returned (.bool (kindOk x)) ∧ w = w' := by
  go_enter Try.func95, Try.ntmps95
  go_wp2_with (go_at_call 81; refine (inRange_any _ _ _ _).mono ?_; rintro e w' ⟨rfl, rfl⟩)
  go_ret
  exact ⟨rfl, rfl⟩

theorem l02Kind_any (x : Int) (w : World) : Calls Try.prog 109 #[.int .i64 x] w fun e w' => e = .returned (.bool (kindOk x)) ∧ w = w' := by
  go_enter Try.func109, Try.ntmps109
  go_wp2_with (go_at_call 101; refine (l00In_any _ _ _ _).mono ?_; rintro e w' ⟨rfl, rfl⟩)
  go_ret
  exact ⟨rfl, rfl⟩
end Go.Proofs.Ytbgigompkmnapaa

/- CountSegments. -/
import Derived.Test.YtbgigompkmnapaaNum
import Derived.Test.YtbgigompkmnapaaQm
namespace Go.Proofs.Ytbgigompkmnapaa
set_option linter.unusedSimpArgs false
set_option linter.unusedVariables false
open Go.ChangeShapes Go.WideShapes Go.ChangeAt Go.RowKit
theorem ret_two {a b c d : Int} (h : a = c) (k : b = d) : Ending.returned (.tuple #[.int .i64 a, .int .i64 b]) = .returned (.tuple #[.int .i64 c, .int .i64 d]) := by rw [h, k]
theorem segs_bd {W H : Int} (hW : side W = true) (hH : side H = true) : 4 ≤ 4 * W * H ∧ 4 * W * H ≤ 256 := by
  have h := side_bd hH
  rcases side_cases hW with rfl | rfl | rfl | rfl | rfl | rfl | rfl | rfl <;> omega
/-- The number of segments, or 0. -/
def segsR (W H : Int) (zs : List Int) : Int := if validB W H zs then 4 * W * H else 0
def okR (W H : Int) (zs : List Int) : Int := if validB W H zs then 0 else 1

set_option maxHeartbeats 800000 in
theorem segments_any (W H : Int) (A : Option Addr) (n c : Nat) (w : World) (hW : side W = true) (hH : side H = true) :
    Calls Try.prog 78 #[.agg #[.int .i64 W, .int .i64 H, .slice A n c]] w fun e w' => e = .returned (.int .i64 (4 * W * H)) ∧ Below w.heap.size w w' := by
  obtain ⟨s1, s2⟩ := segs_bd hW hH
  obtain ⟨w1, w2⟩ := side_bd hW
  clear hW hH
  go_enter Try.func78, Try.ntmps78
  go_wp2
  go_ret
  exact ⟨rfl, (by (repeat (with_reducible first | exact Below.refl _ _ | assumption | refine below_drewN ?_ _ | refine Below.drew ?_ | refine Below.alloc ?_ ?_ _ | refine Below.setCell ?_ ?_ _)); all_goals (first | omega | (simp only [size_drewN, World.size_alloc, World.size_setCell, World.size_drew] at *; omega) | (simp; done) | (simp; omega)))⟩
set_option maxHeartbeats 800000 in
theorem implCountSegments_any (W H : Int) (A : Option Addr) (c : Nat) (zs : List Int) (w : World) (hz : Ints w w.heap.size A zs) (hl : zs.length ≤ maxLen) :
    Calls Try.prog 27 #[.agg #[.int .i64 W, .int .i64 H, .slice A zs.length c]] w fun e w' => e = .returned (.tuple #[.int .i64 (segsR W H zs), .int .i64 (okR W H zs)]) ∧ Below w.heap.size w w' := by
  cases hv : validB W H zs
  · have Hv := hid hv
    clear hv
    have HV : Hid (segsR W H zs = 0 ∧ okR W H zs = 1) := hid (by simp [segsR, okR, Hv.out])
    go_enter Try.func27, Try.ntmps27
    go_wp2_with fail
    refine (calls_bool (validPanel_any W H A c zs _ ((hz.below (bal (Below.refl _ _) _)).more (bal (Below.refl _ _) _).size) hl) Hv.out).mono ?_
    rintro e w1 ⟨rfl, hb1⟩
    have KP1 : Hid (Box w1 (w.heap.size) 30 #[.int .i64 W, .int .i64 H, .slice A zs.length c]) := hid (Box.keep (Box.new' _ _ _ _ (by simp)) hb1)
    have HB1 : Hid (Below w.heap.size w w1) := hid (bstep (bal (Below.refl _ _) _) hb1)
    clear hb1
    obtain ⟨Pa, Pb, Pc⟩ := KP1.out.three
    have Pz := KP1.out.lt
    go_wp2_with fail
    go_ret2
    exact ⟨ret_two HV.out.1.symm HV.out.2.symm, (HB1.out)⟩
  · have Hv := hid hv
    clear hv
    obtain ⟨hW, hH⟩ := valid_sides Hv.out
    obtain ⟨sw1, sw2⟩ := side_bd hW
    obtain ⟨sh1, sh2⟩ := side_bd hH
    have HW := hid hW
    have HH := hid hH
    clear hW hH
    have HV : Hid (segsR W H zs = 4 * W * H ∧ okR W H zs = 0) := hid (by simp [segsR, okR, Hv.out])
    obtain ⟨s1, s2⟩ := segs_bd HW.out HH.out
    go_enter Try.func27, Try.ntmps27
    go_wp2_with fail
    refine (calls_bool (validPanel_any W H A c zs _ ((hz.below (bal (Below.refl _ _) _)).more (bal (Below.refl _ _) _).size) hl) Hv.out).mono ?_
    rintro e w1 ⟨rfl, hb1⟩
    have KP1 : Hid (Box w1 (w.heap.size) 30 #[.int .i64 W, .int .i64 H, .slice A zs.length c]) := hid (Box.keep (Box.new' _ _ _ _ (by simp)) hb1)
    have HB1 : Hid (Below w.heap.size w w1) := hid (bstep (bal (Below.refl _ _) _) hb1)
    clear hb1
    obtain ⟨Pa, Pb, Pc⟩ := KP1.out.three
    have Pz := KP1.out.lt
    go_wp2_with fail
    refine (segments_any W H _ _ _ _ HW.out HH.out).mono ?_
    rintro e w2 ⟨rfl, hb2⟩
    clear Pa Pb Pc Pz
    have KP2 : Hid (Box w2 (w.heap.size) 30 #[.int .i64 W, .int .i64 H, .slice A zs.length c]) := hid (Box.keep (KP1.out) hb2)
    have HB2 : Hid (Below w.heap.size w w2) := hid (bstep (HB1.out) hb2)
    clear hb2
    obtain ⟨Pa, Pb, Pc⟩ := KP2.out.three
    have Pz := KP2.out.lt
    go_wp2_with fail
    go_ret2
    exact ⟨ret_two HV.out.1.symm HV.out.2.symm, (HB2.out)⟩
end Go.Proofs.Ytbgigompkmnapaa

/- The walk of FnExactPanelText. -/
import Derived.Test.YtgcgaoblbhojnaaTy
import Derived.Test.YtgcgaoblbhojnaaLw
import Derived.Deep.RegionHeld3
namespace Go.Proofs.Ytgcgaoblbhojnaa
set_option linter.unusedSimpArgs false
set_option linter.unusedVariables false
open Go.ChangeShapes Go.WideShapes Go.ChangeAt Go.RowKit
set_option maxHeartbeats 1000000 in
theorem fnExactPanelText_walk (w : World) (W0 : Int) (H0 : Int) (A0 : Option Addr) (c0 : Nat) (zs0 : List Int) (wW0 : (Lit.int .i64 W0).wf = true) (wH0 : (Lit.int .i64 H0).wf = true) (hl0 : zs0.length ≤ maxLen) (hz0 : Ints w w.heap.size A0 zs0) (hw0 : ∀ z ∈ zs0, (Lit.int .i64 z).wf = true) :
    Calls Try.prog 6 #[.agg #[.int .i64 W0, .int .i64 H0, .slice A0 zs0.length c0]] w fun e w' => e = .returned (.bool true) ∧ Below w.heap.size w w' := by
  by_cases hs : (zs0.length : Int) ≤ 1048576
  · go_enter Try.func6, Try.ntmps6
    go_wp2_with fail
    refine (szPanel_any _ _ _ _ _ _ _ hs (by omega)).mono ?_
    rintro e w1 ⟨rfl, hb1⟩
    have KB01 : Hid (Box w1 (w.heap.size) 36 #[.int .i64 W0, .int .i64 H0, .slice A0 zs0.length c0]) := hid (Box.keep (Box.new' _ _ _ _ (by simp)) hb1)
    have HB1 : Hid (Below w.heap.size w w1) := hid (bstep (bal (Below.refl _ _) _) hb1)
    clear hb1
    obtain ⟨B0a, B0b, B0c⟩ := KB01.out.three
    have B0z := KB01.out.lt
    go_wp2_with fail
    refine (toPanel_any W0 H0 A0 c0 zs0 _ w.heap.size (hz0.below (HB1.out)) (HB1.out).size (by omega)).mono ?_
    rintro e w2 ⟨⟨A2, c2, rfl, ho2⟩, hb2⟩
    clear B0a B0b B0c B0z
    have KB02 : Hid (Box w2 (w.heap.size) 36 #[.int .i64 W0, .int .i64 H0, .slice A0 zs0.length c0]) := hid (Box.keep (KB01.out) hb2)
    have HB2 : Hid (Below w.heap.size w w2) := hid (bstep (HB1.out) hb2)
    have HO2 := hid ho2
    clear ho2
    clear hb2
    obtain ⟨B0a, B0b, B0c⟩ := KB02.out.three
    have B0z := KB02.out.lt
    go_wp2_with fail
    refine (specPanelText_any W0 H0 _ _ zs0  _ (OwnI.ints (HO2.out)) hl0 ).mono ?_
    rintro e w3 ⟨rfl, hb3⟩
    clear B0a B0b B0c B0z
    have KB03 : Hid (Box w3 (w.heap.size) 36 #[.int .i64 W0, .int .i64 H0, .slice A0 zs0.length c0]) := hid (Box.keep (KB02.out) hb3)
    have HO2_3 := hid (OwnI.keep (HO2.out) hb3)
    have HB3 : Hid (Below w.heap.size w w3) := hid (bstep (HB2.out) hb3)
    clear hb3
    obtain ⟨B0a, B0b, B0c⟩ := KB03.out.three
    have B0z := KB03.out.lt
    go_wp2_with fail
    refine (toPanel_any W0 H0 A0 c0 zs0 _ w.heap.size (hz0.below (HB3.out)) (HB3.out).size (by omega)).mono ?_
    rintro e w4 ⟨⟨A4, c4, rfl, ho4⟩, hb4⟩
    clear B0a B0b B0c B0z
    have KB04 : Hid (Box w4 (w.heap.size) 36 #[.int .i64 W0, .int .i64 H0, .slice A0 zs0.length c0]) := hid (Box.keep (KB03.out) hb4)
    have HO2_4 := hid (OwnI.keep (HO2_3.out) hb4)
    have HB4 : Hid (Below w.heap.size w w4) := hid (bstep (HB3.out) hb4)
    have HO4 := hid ho4
    clear ho4
    clear hb4
    obtain ⟨B0a, B0b, B0c⟩ := KB04.out.three
    have B0z := KB04.out.lt
    go_wp2_with fail
    refine (implPanelText_any W0 H0 _ _ zs0  _ (OwnI.ints (OwnI.alloc (HO4.out) _)) hl0 ).mono ?_
    rintro e w5 ⟨rfl, hb5⟩
    clear B0a B0b B0c B0z
    have KB05 : Hid (Box w5 (w.heap.size) 36 #[.int .i64 W0, .int .i64 H0, .slice A0 zs0.length c0]) := hid (Box.keep (Box.alloc (KB04.out) _) hb5)
    have KX5 : Hid (Box w5 (w4.heap.size) 39 #[.int .i64 W0, .int .i64 H0, .slice A4 zs0.length c4]) := hid (Box.keep (Box.new' _ _ _ _ (by simp)) hb5)
    have HO2_5 := hid (OwnI.keep (OwnI.alloc (HO2_4.out) _) hb5)
    have HO4_5 := hid (OwnI.keep (OwnI.alloc (HO4.out) _) hb5)
    have HB5 : Hid (Below w.heap.size w w5) := hid (bstep (bal (HB4.out) _) hb5)
    clear hb5
    obtain ⟨B0a, B0b, B0c⟩ := KB05.out.three
    have B0z := KB05.out.lt
    obtain ⟨Xa, Xb, Xc⟩ := KX5.out.three
    have Xz := KX5.out.lt
    go_wp2_with fail
    go_region_held3 (fun zz => zz.cell? ⟨w.heap.size, 0, none⟩ = some (.int .i64 W0) ∧ zz.cell? ⟨w.heap.size, 1, none⟩ = some (.int .i64 H0) ∧ zz.cell? ⟨w.heap.size, 2, none⟩ = some (.slice A0 zs0.length c0) ∧ zz.cell? ⟨w4.heap.size, 0, none⟩ = some (.int .i64 W0) ∧ zz.cell? ⟨w4.heap.size, 1, none⟩ = some (.int .i64 H0) ∧ zz.cell? ⟨w4.heap.size, 2, none⟩ = some (.slice A4 zs0.length c4))
      (first | (with_reducible exact ⟨(Box.three KB06.out).1, (Box.three KB06.out).2.1, (Box.three KB06.out).2.2, (Box.three KX6.out).1, (Box.three KX6.out).2.1, (Box.three KX6.out).2.2⟩) | (with_reducible exact ⟨(Box.three KB07.out).1, (Box.three KB07.out).2.1, (Box.three KB07.out).2.2, (Box.three KX7.out).1, (Box.three KX7.out).2.1, (Box.three KX7.out).2.2⟩) | exact ⟨(Box.three ((KB05.out))).1, (Box.three ((KB05.out))).2.1, (Box.three ((KB05.out))).2.2, (Box.three ((KX5.out))).1, (Box.three ((KX5.out))).2.1, (Box.three ((KX5.out))).2.2⟩)
      (first | (go_at_call 25; refine (toPanel_any W0 H0 A0 c0 zs0 _ w.heap.size (hz0.below (Below.drew (HB5.out))) (Below.drew (HB5.out)).size (by omega)).mono ?_; rintro e w6 ⟨⟨A6, c6, rfl, ho6⟩, hb6⟩; have hc6 := Below.trans (below_refl_drew _ _) hb6; have KB06 : Hid (Box w6 (w.heap.size) 36 #[.int .i64 W0, .int .i64 H0, .slice A0 zs0.length c0]) := hid (Box.keep (KB05.out) hc6); have KX6 : Hid (Box w6 (w4.heap.size) 39 #[.int .i64 W0, .int .i64 H0, .slice A4 zs0.length c4]) := hid (Box.keep (KX5.out) hc6); have HO2_6 := hid (OwnI.keep (HO2_5.out) hc6); have HO4_6 := hid (OwnI.keep (HO4_5.out) hc6); have HB6 : Hid (Below w.heap.size w w6) := hid (bstep (HB5.out) hc6); have HO6 := hid ho6; clear ho6; clear hb6 hc6) | (go_at_call 27; refine (eqPanel_any W0 H0 W0 H0 _ _ _ _ zs0 zs0 _ (OwnI.ints (HO4_6.out)) (OwnI.ints (HO6.out)) hl0 hl0 rfl rfl rfl).mono ?_; rintro e w7 ⟨rfl, hb7⟩; have KB07 : Hid (Box w7 (w.heap.size) 36 #[.int .i64 W0, .int .i64 H0, .slice A0 zs0.length c0]) := hid (Box.keep (KB06.out) hb7); have KX7 : Hid (Box w7 (w4.heap.size) 39 #[.int .i64 W0, .int .i64 H0, .slice A4 zs0.length c4]) := hid (Box.keep (KX6.out) hb7); have HO2_7 := hid (OwnI.keep (HO2_6.out) hb7); have HO4_7 := hid (OwnI.keep (HO4_6.out) hb7); have HO6_7 := hid (OwnI.keep (HO6.out) hb7); have HB7 : Hid (Below w.heap.size w w7) := hid (bstep (HB6.out) hb7); clear hb7))
    clear B0a B0b B0c B0z Xa Xb Xc Xz
    obtain ⟨B0a, B0b, B0c⟩ := KB07.out.three
    have B0z := KB07.out.lt
    obtain ⟨Xa, Xb, Xc⟩ := KX7.out.three
    have Xz := KX7.out.lt
    go_wp2_with fail
    go_ret
    exact ⟨rfl, (HB7.out)⟩
  · go_enter Try.func6, Try.ntmps6
    go_wp2_with fail
    refine (szPanel_big _ _ _ _ _ _ _ (by omega) (by omega) hl0).mono ?_
    rintro e w1 ⟨rfl, hb1⟩
    have HB := hid (bstep (bal (Below.refl _ _) _) hb1)
    clear hb1
    go_wp2_with fail
    go_ret
    exact ⟨rfl, HB.out⟩
end Go.Proofs.Ytgcgaoblbhojnaa

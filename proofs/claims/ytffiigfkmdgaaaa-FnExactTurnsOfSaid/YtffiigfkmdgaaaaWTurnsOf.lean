/- The walk of FnExactTurnsOf. -/
import Derived.Test.YtffiigfkmdgaaaaSw
import Derived.Test.YtffiigfkmdgaaaaLw
import Derived.Deep.RegionHeld3
namespace Go.Proofs.Ytffiigfkmdgaaaa
set_option linter.unusedSimpArgs false
set_option linter.unusedVariables false
open Go.ChangeShapes Go.WideShapes Go.ChangeAt Go.RowKit
set_option maxHeartbeats 1000000 in
theorem fnExactTurnsOf_walk (w : World) (W0 : Int) (H0 : Int) (A0 : Option Addr) (c0 : Nat) (zs0 : List Int) (wW0 : (Lit.int .i64 W0).wf = true) (wH0 : (Lit.int .i64 H0).wf = true) (hl0 : zs0.length ≤ maxLen) (hz0 : Ints w w.heap.size A0 zs0) (hw0 : ∀ z ∈ zs0, (Lit.int .i64 z).wf = true)
    (x1 : Int) (y1 : Int) (dx1 : Int) (dy1 : Int) (wx1 : (Lit.int .i64 x1).wf = true) (wy1 : (Lit.int .i64 y1).wf = true) (wdx1 : (Lit.int .i64 dx1).wf = true) (wdy1 : (Lit.int .i64 dy1).wf = true) :
    Calls Try.prog 9 #[.agg #[.int .i64 W0, .int .i64 H0, .slice A0 zs0.length c0], .agg #[.int .i64 x1, .int .i64 y1, .int .i64 dx1, .int .i64 dy1]] w fun e w' => e = .returned (.bool true) ∧ Below w.heap.size w w' := by
  by_cases hs : (zs0.length : Int) ≤ 1048576
  · go_enter Try.func9, Try.ntmps9
    go_wp2_with fail
    refine (szPanel_any _ _ _ _ _ _ _ hs (by omega)).mono ?_
    rintro e w1 ⟨rfl, hb1⟩
    have KB01 : Hid (Box w1 (w.heap.size) 24 #[.int .i64 W0, .int .i64 H0, .slice A0 zs0.length c0]) := hid (Box.keep (Box.alloc (Box.new' _ _ _ _ (by simp)) _) hb1)
    have KB11 : Hid (Box w1 (w.heap.size + 1) 52 #[.int .i64 x1, .int .i64 y1, .int .i64 dx1, .int .i64 dy1]) := hid (Box.keep (Box.new' _ _ _ _ (by simp)) hb1)
    have HB1 : Hid (Below w.heap.size w w1) := hid (bstep (bal (bal (Below.refl _ _) _) _) hb1)
    clear hb1
    obtain ⟨B0a, B0b, B0c⟩ := KB01.out.three
    have B0z := KB01.out.lt
    obtain ⟨B1a, B1b, B1c, B1d⟩ := KB11.out.four
    have B1z := KB11.out.lt
    go_wp2_with fail
    go_region_held3 (fun zz => zz.cell? ⟨w.heap.size, 0, none⟩ = some (.int .i64 W0) ∧ zz.cell? ⟨w.heap.size, 1, none⟩ = some (.int .i64 H0) ∧ zz.cell? ⟨w.heap.size, 2, none⟩ = some (.slice A0 zs0.length c0) ∧ zz.cell? ⟨w.heap.size + 1, 0, none⟩ = some (.int .i64 x1) ∧ zz.cell? ⟨w.heap.size + 1, 1, none⟩ = some (.int .i64 y1) ∧ zz.cell? ⟨w.heap.size + 1, 2, none⟩ = some (.int .i64 dx1) ∧ zz.cell? ⟨w.heap.size + 1, 3, none⟩ = some (.int .i64 dy1))
      (first | (with_reducible exact ⟨(Box.three KB02.out).1, (Box.three KB02.out).2.1, (Box.three KB02.out).2.2, (Box.four KB12.out).1, (Box.four KB12.out).2.1, (Box.four KB12.out).2.2.1, (Box.four KB12.out).2.2.2⟩) | (with_reducible exact ⟨(Box.three KB03.out).1, (Box.three KB03.out).2.1, (Box.three KB03.out).2.2, (Box.four KB13.out).1, (Box.four KB13.out).2.1, (Box.four KB13.out).2.2.1, (Box.four KB13.out).2.2.2⟩) | (with_reducible exact ⟨(Box.three KB04.out).1, (Box.three KB04.out).2.1, (Box.three KB04.out).2.2, (Box.four KB14.out).1, (Box.four KB14.out).2.1, (Box.four KB14.out).2.2.1, (Box.four KB14.out).2.2.2⟩) | exact ⟨(Box.three ((KB01.out))).1, (Box.three ((KB01.out))).2.1, (Box.three ((KB01.out))).2.2, (Box.four ((KB11.out))).1, (Box.four ((KB11.out))).2.1, (Box.four ((KB11.out))).2.2.1, (Box.four ((KB11.out))).2.2.2⟩)
      (first | (go_at_call 17; refine (toPanel_any W0 H0 A0 c0 zs0 _ w.heap.size (hz0.below (Below.drew (HB1.out))) (Below.drew (HB1.out)).size (by omega)).mono ?_; rintro e w2 ⟨⟨A2, c2, rfl, ho2⟩, hb2⟩; have hc2 := Below.trans (below_refl_drew _ _) hb2; have KB02 : Hid (Box w2 (w.heap.size) 24 #[.int .i64 W0, .int .i64 H0, .slice A0 zs0.length c0]) := hid (Box.keep (KB01.out) hc2); have KB12 : Hid (Box w2 (w.heap.size + 1) 52 #[.int .i64 x1, .int .i64 y1, .int .i64 dx1, .int .i64 dy1]) := hid (Box.keep (KB11.out) hc2); have HB2 : Hid (Below w.heap.size w w2) := hid (bstep (HB1.out) hc2); have HO2 := hid ho2; clear ho2; clear hb2 hc2) | (go_at_call_of 31 x1; refine (toWalker_any x1 y1 dx1 dy1 _).mono ?_; rintro e w3 ⟨rfl, hb3⟩; have KB03 : Hid (Box w3 (w.heap.size) 24 #[.int .i64 W0, .int .i64 H0, .slice A0 zs0.length c0]) := hid (Box.keep (KB02.out) hb3); have KB13 : Hid (Box w3 (w.heap.size + 1) 52 #[.int .i64 x1, .int .i64 y1, .int .i64 dx1, .int .i64 dy1]) := hid (Box.keep (KB12.out) hb3); have HO2_3 := hid (OwnI.keep (HO2.out) hb3); have HB3 : Hid (Below w.heap.size w w3) := hid (bstep (HB2.out) hb3); clear hb3) | (go_at_call 45; refine (specTurnsOf_any W0 H0 _ _ zs0 x1 y1 dx1 dy1 _ (OwnI.ints (HO2_3.out)) hl0 wx1 wy1 wdx1 wdy1).mono ?_; rintro e w4 ⟨rfl, hb4⟩; have KB04 : Hid (Box w4 (w.heap.size) 24 #[.int .i64 W0, .int .i64 H0, .slice A0 zs0.length c0]) := hid (Box.keep (KB03.out) hb4); have KB14 : Hid (Box w4 (w.heap.size + 1) 52 #[.int .i64 x1, .int .i64 y1, .int .i64 dx1, .int .i64 dy1]) := hid (Box.keep (KB13.out) hb4); have HO2_4 := hid (OwnI.keep (HO2_3.out) hb4); have HB4 : Hid (Below w.heap.size w w4) := hid (bstep (HB3.out) hb4); clear hb4))
    clear B0a B0b B0c B0z B1a B1b B1c B1d B1z
    obtain ⟨B0a, B0b, B0c⟩ := KB04.out.three
    have B0z := KB04.out.lt
    obtain ⟨B1a, B1b, B1c, B1d⟩ := KB14.out.four
    have B1z := KB14.out.lt
    go_wp2_with fail
    refine (toPanel_any W0 H0 A0 c0 zs0 _ w.heap.size (hz0.below (HB4.out)) (HB4.out).size (by omega)).mono ?_
    rintro e w5 ⟨⟨A5, c5, rfl, ho5⟩, hb5⟩
    clear B0a B0b B0c B0z B1a B1b B1c B1d B1z
    have KB05 : Hid (Box w5 (w.heap.size) 24 #[.int .i64 W0, .int .i64 H0, .slice A0 zs0.length c0]) := hid (Box.keep (KB04.out) hb5)
    have KB15 : Hid (Box w5 (w.heap.size + 1) 52 #[.int .i64 x1, .int .i64 y1, .int .i64 dx1, .int .i64 dy1]) := hid (Box.keep (KB14.out) hb5)
    have HO2_5 := hid (OwnI.keep (HO2_4.out) hb5)
    have HB5 : Hid (Below w.heap.size w w5) := hid (bstep (HB4.out) hb5)
    have HO5 := hid ho5
    clear ho5
    clear hb5
    obtain ⟨B0a, B0b, B0c⟩ := KB05.out.three
    have B0z := KB05.out.lt
    obtain ⟨B1a, B1b, B1c, B1d⟩ := KB15.out.four
    have B1z := KB15.out.lt
    go_wp2_with fail
    go_region_held3 (fun zz => zz.cell? ⟨w.heap.size + 1, 0, none⟩ = some (.int .i64 x1) ∧ zz.cell? ⟨w.heap.size + 1, 1, none⟩ = some (.int .i64 y1) ∧ zz.cell? ⟨w.heap.size + 1, 2, none⟩ = some (.int .i64 dx1) ∧ zz.cell? ⟨w.heap.size + 1, 3, none⟩ = some (.int .i64 dy1) ∧ zz.cell? ⟨w5.heap.size, 0, none⟩ = some (.int .i64 W0) ∧ zz.cell? ⟨w5.heap.size, 1, none⟩ = some (.int .i64 H0) ∧ zz.cell? ⟨w5.heap.size, 2, none⟩ = some (.slice A5 zs0.length c5))
      (first | (with_reducible exact ⟨(Box.four KB16.out).1, (Box.four KB16.out).2.1, (Box.four KB16.out).2.2.1, (Box.four KB16.out).2.2.2, (Box.three KX6.out).1, (Box.three KX6.out).2.1, (Box.three KX6.out).2.2⟩) | (with_reducible exact ⟨(Box.four KB17.out).1, (Box.four KB17.out).2.1, (Box.four KB17.out).2.2.1, (Box.four KB17.out).2.2.2, (Box.three KX7.out).1, (Box.three KX7.out).2.1, (Box.three KX7.out).2.2⟩) | exact ⟨(Box.four ((Box.alloc (KB15.out) _))).1, (Box.four ((Box.alloc (KB15.out) _))).2.1, (Box.four ((Box.alloc (KB15.out) _))).2.2.1, (Box.four ((Box.alloc (KB15.out) _))).2.2.2, (Box.three ((Box.new' _ _ _ _ (by simp)))).1, (Box.three ((Box.new' _ _ _ _ (by simp)))).2.1, (Box.three ((Box.new' _ _ _ _ (by simp)))).2.2⟩)
      (first | (go_at_call_of 31 x1; refine (toWalker_any x1 y1 dx1 dy1 _).mono ?_; rintro e w6 ⟨rfl, hb6⟩; have hc6 := Below.trans (below_refl_drew _ _) hb6; have KB06 : Hid (Box w6 (w.heap.size) 24 #[.int .i64 W0, .int .i64 H0, .slice A0 zs0.length c0]) := hid (Box.keep (Box.alloc (KB05.out) _) hc6); have KB16 : Hid (Box w6 (w.heap.size + 1) 52 #[.int .i64 x1, .int .i64 y1, .int .i64 dx1, .int .i64 dy1]) := hid (Box.keep (Box.alloc (KB15.out) _) hc6); have KX6 : Hid (Box w6 (w5.heap.size) 30 #[.int .i64 W0, .int .i64 H0, .slice A5 zs0.length c5]) := hid (Box.keep (Box.new' _ _ _ _ (by simp)) hc6); have HO2_6 := hid (OwnI.keep (OwnI.alloc (HO2_5.out) _) hc6); have HO5_6 := hid (OwnI.keep (OwnI.alloc (HO5.out) _) hc6); have HB6 : Hid (Below w.heap.size w w6) := hid (bstep (bal (HB5.out) _) hc6); clear hb6 hc6) | (go_at_call 42; refine (implTurnsOf_any W0 H0 _ _ zs0 x1 y1 dx1 dy1 _ (OwnI.ints (HO5_6.out)) hl0 wx1 wy1 wdx1 wdy1).mono ?_; rintro e w7 ⟨rfl, hb7⟩; have KB07 : Hid (Box w7 (w.heap.size) 24 #[.int .i64 W0, .int .i64 H0, .slice A0 zs0.length c0]) := hid (Box.keep (KB06.out) hb7); have KB17 : Hid (Box w7 (w.heap.size + 1) 52 #[.int .i64 x1, .int .i64 y1, .int .i64 dx1, .int .i64 dy1]) := hid (Box.keep (KB16.out) hb7); have KX7 : Hid (Box w7 (w5.heap.size) 30 #[.int .i64 W0, .int .i64 H0, .slice A5 zs0.length c5]) := hid (Box.keep (KX6.out) hb7); have HO2_7 := hid (OwnI.keep (HO2_6.out) hb7); have HO5_7 := hid (OwnI.keep (HO5_6.out) hb7); have HB7 : Hid (Below w.heap.size w w7) := hid (bstep (HB6.out) hb7); clear hb7))
    clear B0a B0b B0c B0z B1a B1b B1c B1d B1z
    obtain ⟨B0a, B0b, B0c⟩ := KB07.out.three
    have B0z := KB07.out.lt
    obtain ⟨B1a, B1b, B1c, B1d⟩ := KB17.out.four
    have B1z := KB17.out.lt
    obtain ⟨Xa, Xb, Xc⟩ := KX7.out.three
    have Xz := KX7.out.lt
    go_wp2_with fail
    go_region_held3 (fun zz => zz.cell? ⟨w.heap.size, 0, none⟩ = some (.int .i64 W0) ∧ zz.cell? ⟨w.heap.size, 1, none⟩ = some (.int .i64 H0) ∧ zz.cell? ⟨w.heap.size, 2, none⟩ = some (.slice A0 zs0.length c0) ∧ zz.cell? ⟨w5.heap.size, 0, none⟩ = some (.int .i64 W0) ∧ zz.cell? ⟨w5.heap.size, 1, none⟩ = some (.int .i64 H0) ∧ zz.cell? ⟨w5.heap.size, 2, none⟩ = some (.slice A5 zs0.length c5))
      (first | (with_reducible exact ⟨(Box.three KB08.out).1, (Box.three KB08.out).2.1, (Box.three KB08.out).2.2, (Box.three KX8.out).1, (Box.three KX8.out).2.1, (Box.three KX8.out).2.2⟩) | (with_reducible exact ⟨(Box.three KB09.out).1, (Box.three KB09.out).2.1, (Box.three KB09.out).2.2, (Box.three KX9.out).1, (Box.three KX9.out).2.1, (Box.three KX9.out).2.2⟩) | exact ⟨(Box.three ((KB07.out))).1, (Box.three ((KB07.out))).2.1, (Box.three ((KB07.out))).2.2, (Box.three ((KX7.out))).1, (Box.three ((KX7.out))).2.1, (Box.three ((KX7.out))).2.2⟩)
      (first | (go_at_call 17; refine (toPanel_any W0 H0 A0 c0 zs0 _ w.heap.size (hz0.below (Below.drew (HB7.out))) (Below.drew (HB7.out)).size (by omega)).mono ?_; rintro e w8 ⟨⟨A8, c8, rfl, ho8⟩, hb8⟩; have hc8 := Below.trans (below_refl_drew _ _) hb8; have KB08 : Hid (Box w8 (w.heap.size) 24 #[.int .i64 W0, .int .i64 H0, .slice A0 zs0.length c0]) := hid (Box.keep (KB07.out) hc8); have KB18 : Hid (Box w8 (w.heap.size + 1) 52 #[.int .i64 x1, .int .i64 y1, .int .i64 dx1, .int .i64 dy1]) := hid (Box.keep (KB17.out) hc8); have KX8 : Hid (Box w8 (w5.heap.size) 30 #[.int .i64 W0, .int .i64 H0, .slice A5 zs0.length c5]) := hid (Box.keep (KX7.out) hc8); have HO2_8 := hid (OwnI.keep (HO2_7.out) hc8); have HO5_8 := hid (OwnI.keep (HO5_7.out) hc8); have HB8 : Hid (Below w.heap.size w w8) := hid (bstep (HB7.out) hc8); have HO8 := hid ho8; clear ho8; clear hb8 hc8) | (go_at_call 20; refine (eqPanel_any W0 H0 W0 H0 _ _ _ _ zs0 zs0 _ (OwnI.ints (HO5_8.out)) (OwnI.ints (HO8.out)) hl0 hl0 rfl rfl rfl).mono ?_; rintro e w9 ⟨rfl, hb9⟩; have KB09 : Hid (Box w9 (w.heap.size) 24 #[.int .i64 W0, .int .i64 H0, .slice A0 zs0.length c0]) := hid (Box.keep (KB08.out) hb9); have KB19 : Hid (Box w9 (w.heap.size + 1) 52 #[.int .i64 x1, .int .i64 y1, .int .i64 dx1, .int .i64 dy1]) := hid (Box.keep (KB18.out) hb9); have KX9 : Hid (Box w9 (w5.heap.size) 30 #[.int .i64 W0, .int .i64 H0, .slice A5 zs0.length c5]) := hid (Box.keep (KX8.out) hb9); have HO2_9 := hid (OwnI.keep (HO2_8.out) hb9); have HO5_9 := hid (OwnI.keep (HO5_8.out) hb9); have HO8_9 := hid (OwnI.keep (HO8.out) hb9); have HB9 : Hid (Below w.heap.size w w9) := hid (bstep (HB8.out) hb9); clear hb9))
    clear B0a B0b B0c B0z B1a B1b B1c B1d B1z Xa Xb Xc Xz
    obtain ⟨B0a, B0b, B0c⟩ := KB09.out.three
    have B0z := KB09.out.lt
    obtain ⟨B1a, B1b, B1c, B1d⟩ := KB19.out.four
    have B1z := KB19.out.lt
    obtain ⟨Xa, Xb, Xc⟩ := KX9.out.three
    have Xz := KX9.out.lt
    go_wp2_with fail
    go_ret
    exact ⟨rfl, (HB9.out)⟩
  · go_enter Try.func9, Try.ntmps9
    go_wp2_with fail
    refine (szPanel_big _ _ _ _ _ _ _ (by omega) (by omega) hl0).mono ?_
    rintro e w1 ⟨rfl, hb1⟩
    have HB := hid (bstep (bal (bal (Below.refl _ _) _) _) hb1)
    clear hb1
    go_wp2_with fail
    go_ret
    exact ⟨rfl, HB.out⟩
end Go.Proofs.Ytffiigfkmdgaaaa

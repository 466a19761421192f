/- The walk of FnExactCurvesThrough. -/
import Derived.Test.YtbgigompkmnapaaMu
import Derived.Test.YtbgigompkmnapaaLw
import Derived.Test.YtbgigompkmnapaaMk
import Derived.Deep.RegionHeld3
namespace Go.Proofs.Ytbgigompkmnapaa
set_option linter.unusedSimpArgs false
set_option linter.unusedVariables false
open Go.ChangeShapes Go.WideShapes Go.ChangeAt Go.RowKit
set_option maxHeartbeats 2000000 in
set_option maxRecDepth 100000 in
theorem fnExactCurvesThrough_walk (w : World) (W0 : Int) (H0 : Int) (A0 : Option Addr) (c0 : Nat) (zs0 : List Int) (wW0 : (Lit.int .i64 W0).wf = true) (wH0 : (Lit.int .i64 H0).wf = true) (hl0 : zs0.length ≤ maxLen) (hz0 : Ints w w.heap.size A0 zs0) (hw0 : ∀ z ∈ zs0, (Lit.int .i64 z).wf = true)
    (x1 : Int) (y1 : Int) (wx1 : (Lit.int .i64 x1).wf = true) (wy1 : (Lit.int .i64 y1).wf = true) :
    Calls Try.prog 3 #[.agg #[.int .i64 W0, .int .i64 H0, .slice A0 zs0.length c0], .agg #[.int .i64 x1, .int .i64 y1]] w fun e w' => e = .returned (.bool true) ∧ Below w.heap.size w w' := by
  by_cases hs : (zs0.length : Int) ≤ 1048576
  · have hle : thN W0 H0 zs0 x1 y1 ≤ 2 := thN_le W0 H0 zs0 x1 y1
    have hng1 : ¬ ((((1 + zs0.length : Nat)) : Int) < 0) := by omega
    have hng2 : ¬ ((((1 + (thN W0 H0 zs0 x1 y1) : Nat)) : Int) < 0) := by omega
    have hng3 : ¬ ((1 : Int) + (zs0.length : Int) < 0) := by omega
    go_enter Try.func3, Try.ntmps3
    go_wp2_with fail
    refine (szPanel_any _ _ _ _ _ _ _ hs (by omega)).mono ?_
    rintro e w1 ⟨rfl, hb1⟩
    have Z1 : Hid (w.heap.size + 2 ≤ w1.heap.size) := hid (by have h := Below.size (hb1); (try simp only [World.size_alloc, World.size_drew] at h); omega)
    have KB01 : Hid (Box w1 (w.heap.size) 24 #[.int .i64 W0, .int .i64 H0, .slice A0 zs0.length c0]) := hid (Box.keep (Box.alloc (Box.new' _ _ _ _ (by simp)) _) hb1)
    have KB11 : Hid (Box w1 (w.heap.size + 1) 26 #[.int .i64 x1, .int .i64 y1]) := hid (Box.keep (Box.new' _ _ _ _ (by simp)) hb1)
    have HB1 : Hid (Below w.heap.size w w1) := hid (bstep (bal (bal (Below.refl _ _) _) _) hb1)
    clear hb1
    obtain ⟨B0a, B0b, B0c⟩ := KB01.out.three
    have B0z := KB01.out.lt
    obtain ⟨B1a, B1b⟩ := KB11.out.two
    have B1z := KB11.out.lt
    go_wp2_with fail
    go_region_held3 (fun zz => zz.cell? ⟨w.heap.size, 0, none⟩ = some (.int .i64 W0) ∧ zz.cell? ⟨w.heap.size, 1, none⟩ = some (.int .i64 H0) ∧ zz.cell? ⟨w.heap.size, 2, none⟩ = some (.slice A0 zs0.length c0) ∧ zz.cell? ⟨w.heap.size + 1, 0, none⟩ = some (.int .i64 x1) ∧ zz.cell? ⟨w.heap.size + 1, 1, none⟩ = some (.int .i64 y1))
      (first | (with_reducible exact ⟨(Box.three KB02.out).1, (Box.three KB02.out).2.1, (Box.three KB02.out).2.2, (Box.two KB12.out).1, (Box.two KB12.out).2⟩) | (with_reducible exact ⟨(Box.three KB03.out).1, (Box.three KB03.out).2.1, (Box.three KB03.out).2.2, (Box.two KB13.out).1, (Box.two KB13.out).2⟩) | (with_reducible exact ⟨(Box.three KB04.out).1, (Box.three KB04.out).2.1, (Box.three KB04.out).2.2, (Box.two KB14.out).1, (Box.two KB14.out).2⟩) | exact ⟨(Box.three ((KB01.out))).1, (Box.three ((KB01.out))).2.1, (Box.three ((KB01.out))).2.2, (Box.two ((KB11.out))).1, (Box.two ((KB11.out))).2⟩)
      (first | (go_at_call 13; refine (toPanel_any W0 H0 A0 c0 zs0 _ w.heap.size (hz0.below (Below.drew (HB1.out))) (Below.drew (HB1.out)).size (by omega)).mono ?_; rintro e w2 ⟨⟨A2, c2, rfl, ho2⟩, hb2⟩; have hc2 := Below.trans (below_refl_drew _ _) hb2; have Z2 : Hid (w1.heap.size ≤ w2.heap.size) := hid (by have h := Below.size (hc2); (try simp only [World.size_alloc, World.size_drew] at h); omega); have KB02 : Hid (Box w2 (w.heap.size) 24 #[.int .i64 W0, .int .i64 H0, .slice A0 zs0.length c0]) := hid (Box.keep (KB01.out) hc2); have KB12 : Hid (Box w2 (w.heap.size + 1) 26 #[.int .i64 x1, .int .i64 y1]) := hid (Box.keep (KB11.out) hc2); have HB2 : Hid (Below w.heap.size w w2) := hid (bstep (HB1.out) hc2); have TA_2 : Hid (Rgn w2 (w1.heap.size) (w2.heap.size) 2 1 (.slice A2 zs0.length c2) (zs0.length) (vals zs0)) := hid (Rgn.of ho2 (by simp) rfl); clear ho2; clear hb2 hc2) | (go_at_call_of 14 x1; refine (toPoint_any x1 y1 _).mono ?_; rintro e w3 ⟨rfl, hb3⟩; have Z3 : Hid (w2.heap.size ≤ w3.heap.size) := hid (by have h := Below.size (hb3); (try simp only [World.size_alloc, World.size_drew] at h); omega); have TA_3 : Hid (Rgn w3 (w1.heap.size) (w2.heap.size) 2 1 (.slice A2 zs0.length c2) (zs0.length) (vals zs0)) := hid (Rgn.keep (TA_2.out) hb3); have KB03 : Hid (Box w3 (w.heap.size) 24 #[.int .i64 W0, .int .i64 H0, .slice A0 zs0.length c0]) := hid (Box.keep (KB02.out) hb3); have KB13 : Hid (Box w3 (w.heap.size + 1) 26 #[.int .i64 x1, .int .i64 y1]) := hid (Box.keep (KB12.out) hb3); have HB3 : Hid (Below w.heap.size w w3) := hid (bstep (HB2.out) hb3); clear hb3) | (go_at_call 12; refine (specCurvesThrough_any W0 H0 _ _ zs0 x1 y1 _ (Rgn.ints (TA_3.out)) hl0 wx1 wy1).mono ?_; rintro e w4 ⟨⟨A4, c4, rfl, ho4⟩, hb4⟩; have Z4 : Hid (w3.heap.size ≤ w4.heap.size) := hid (by have h := Below.size (hb4); (try simp only [World.size_alloc, World.size_drew] at h); omega); have TA_4 : Hid (Rgn w4 (w1.heap.size) (w2.heap.size) 2 1 (.slice A2 zs0.length c2) (zs0.length) (vals zs0)) := hid (Rgn.keep (TA_3.out) hb4); have KB04 : Hid (Box w4 (w.heap.size) 24 #[.int .i64 W0, .int .i64 H0, .slice A0 zs0.length c0]) := hid (Box.keep (KB03.out) hb4); have KB14 : Hid (Box w4 (w.heap.size + 1) 26 #[.int .i64 x1, .int .i64 y1]) := hid (Box.keep (KB13.out) hb4); have HB4 : Hid (Below w.heap.size w w4) := hid (bstep (HB3.out) hb4); have WR_4 : Hid (Rgn w4 (w3.heap.size) (w4.heap.size) 2 1 (.slice A4 (thN W0 H0 zs0 x1 y1) c4) (thN W0 H0 zs0 x1 y1) (vals (thL W0 H0 zs0 x1 y1))) := hid (Rgn.of ho4 (by simp) rfl); clear ho4; clear hb4))
    clear B0a B0b B0c B0z B1a B1b B1z
    obtain ⟨B0a, B0b, B0c⟩ := KB04.out.three
    have B0z := KB04.out.lt
    obtain ⟨B1a, B1b⟩ := KB14.out.two
    have B1z := KB14.out.lt
    go_wp2_with fail
    refine (toPanel_any W0 H0 A0 c0 zs0 _ w.heap.size (hz0.below (HB4.out)) (HB4.out).size (by omega)).mono ?_
    rintro e w5 ⟨⟨A5, c5, rfl, ho5⟩, hb5⟩
    clear B0a B0b B0c B0z B1a B1b B1z
    have Z5 : Hid (w4.heap.size ≤ w5.heap.size) := hid (by have h := Below.size (hb5); (try simp only [World.size_alloc, World.size_drew] at h); omega)
    have WR_5 : Hid (Rgn w5 (w3.heap.size) (w4.heap.size) 2 1 (.slice A4 (thN W0 H0 zs0 x1 y1) c4) (thN W0 H0 zs0 x1 y1) (vals (thL W0 H0 zs0 x1 y1))) := hid (Rgn.keep (WR_4.out) hb5)
    have KB05 : Hid (Box w5 (w.heap.size) 24 #[.int .i64 W0, .int .i64 H0, .slice A0 zs0.length c0]) := hid (Box.keep (KB04.out) hb5)
    have KB15 : Hid (Box w5 (w.heap.size + 1) 26 #[.int .i64 x1, .int .i64 y1]) := hid (Box.keep (KB14.out) hb5)
    have HB5 : Hid (Below w.heap.size w w5) := hid (bstep (HB4.out) hb5)
    have XA_5 : Hid (Rgn w5 (w4.heap.size) (w5.heap.size) 2 1 (.slice A5 zs0.length c5) (zs0.length) (vals zs0)) := hid (Rgn.of ho5 (by simp) rfl)
    clear ho5
    clear hb5
    obtain ⟨B0a, B0b, B0c⟩ := KB05.out.three
    have B0z := KB05.out.lt
    obtain ⟨B1a, B1b⟩ := KB15.out.two
    have B1z := KB15.out.lt
    go_wp2_with fail
    go_region_held3 (fun zz => zz.cell? ⟨w5.heap.size, 0, none⟩ = some (.int .i64 W0) ∧ zz.cell? ⟨w5.heap.size, 1, none⟩ = some (.int .i64 H0) ∧ zz.cell? ⟨w5.heap.size, 2, none⟩ = some (.slice A5 zs0.length c5) ∧ zz.cell? ⟨w.heap.size + 1, 0, none⟩ = some (.int .i64 x1) ∧ zz.cell? ⟨w.heap.size + 1, 1, none⟩ = some (.int .i64 y1))
      (first | (with_reducible exact ⟨(Box.three KX6.out).1, (Box.three KX6.out).2.1, (Box.three KX6.out).2.2, (Box.two KB16.out).1, (Box.two KB16.out).2⟩) | (with_reducible exact ⟨(Box.three KX7.out).1, (Box.three KX7.out).2.1, (Box.three KX7.out).2.2, (Box.two KB17.out).1, (Box.two KB17.out).2⟩) | exact ⟨(Box.three ((Box.new' _ _ _ _ (by simp)))).1, (Box.three ((Box.new' _ _ _ _ (by simp)))).2.1, (Box.three ((Box.new' _ _ _ _ (by simp)))).2.2, (Box.two ((Box.alloc (KB15.out) _))).1, (Box.two ((Box.alloc (KB15.out) _))).2⟩)
      (first | (go_at_call_of 14 x1; refine (toPoint_any x1 y1 _).mono ?_; rintro e w6 ⟨rfl, hb6⟩; have hc6 := Below.trans (below_refl_drew _ _) hb6; have Z6 : Hid (w5.heap.size + 1 ≤ w6.heap.size) := hid (by have h := Below.size (hc6); (try simp only [World.size_alloc, World.size_drew] at h); omega); have WR_6 : Hid (Rgn w6 (w3.heap.size) (w4.heap.size) 2 1 (.slice A4 (thN W0 H0 zs0 x1 y1) c4) (thN W0 H0 zs0 x1 y1) (vals (thL W0 H0 zs0 x1 y1))) := hid (Rgn.keep (Rgn.alloc (WR_5.out) _) hc6); have XA_6 : Hid (Rgn w6 (w4.heap.size) (w5.heap.size) 2 1 (.slice A5 zs0.length c5) (zs0.length) (vals zs0)) := hid (Rgn.keep (Rgn.alloc (XA_5.out) _) hc6); have KB06 : Hid (Box w6 (w.heap.size) 24 #[.int .i64 W0, .int .i64 H0, .slice A0 zs0.length c0]) := hid (Box.keep (Box.alloc (KB05.out) _) hc6); have KB16 : Hid (Box w6 (w.heap.size + 1) 26 #[.int .i64 x1, .int .i64 y1]) := hid (Box.keep (Box.alloc (KB15.out) _) hc6); have KX6 : Hid (Box w6 (w5.heap.size) 30 #[.int .i64 W0, .int .i64 H0, .slice A5 zs0.length c5]) := hid (Box.keep (Box.new' _ _ _ _ (by simp)) hc6); have HB6 : Hid (Below w.heap.size w w6) := hid (bstep (bal (HB5.out) _) hc6); clear hb6 hc6) | (go_at_call 15; refine (implCurvesThrough_any W0 H0 _ _ zs0 x1 y1 _ (Rgn.ints (XA_6.out)) hl0 wx1 wy1).mono ?_; rintro e w7 ⟨⟨A7, c7, rfl, ho7⟩, hb7⟩; have Z7 : Hid (w6.heap.size ≤ w7.heap.size) := hid (by have h := Below.size (hb7); (try simp only [World.size_alloc, World.size_drew] at h); omega); have WR_7 : Hid (Rgn w7 (w3.heap.size) (w4.heap.size) 2 1 (.slice A4 (thN W0 H0 zs0 x1 y1) c4) (thN W0 H0 zs0 x1 y1) (vals (thL W0 H0 zs0 x1 y1))) := hid (Rgn.keep (WR_6.out) hb7); have XA_7 : Hid (Rgn w7 (w4.heap.size) (w5.heap.size) 2 1 (.slice A5 zs0.length c5) (zs0.length) (vals zs0)) := hid (Rgn.keep (XA_6.out) hb7); have KB07 : Hid (Box w7 (w.heap.size) 24 #[.int .i64 W0, .int .i64 H0, .slice A0 zs0.length c0]) := hid (Box.keep (KB06.out) hb7); have KB17 : Hid (Box w7 (w.heap.size + 1) 26 #[.int .i64 x1, .int .i64 y1]) := hid (Box.keep (KB16.out) hb7); have KX7 : Hid (Box w7 (w5.heap.size) 30 #[.int .i64 W0, .int .i64 H0, .slice A5 zs0.length c5]) := hid (Box.keep (KX6.out) hb7); have HB7 : Hid (Below w.heap.size w w7) := hid (bstep (HB6.out) hb7); have GR_7 : Hid (Rgn w7 (w6.heap.size) (w7.heap.size) 2 1 (.slice A7 (thN W0 H0 zs0 x1 y1) c7) (thN W0 H0 zs0 x1 y1) (vals (thL W0 H0 zs0 x1 y1))) := hid (Rgn.of ho7 (by simp) rfl); clear ho7; clear hb7))
    clear B0a B0b B0c B0z B1a B1b B1z
    obtain ⟨B0a, B0b, B0c⟩ := KB07.out.three
    have B0z := KB07.out.lt
    obtain ⟨B1a, B1b⟩ := KB17.out.two
    have B1z := KB17.out.lt
    obtain ⟨Xa, Xb, Xc⟩ := KX7.out.three
    have Xz := KX7.out.lt
    go_wp2_with fail
    refine (eqInt64R_any _ _ (thL W0 H0 zs0 x1 y1) (thN W0 H0 zs0 x1 y1) _ _ _ ((GR_7.out)).1 ((WR_7.out)).1 (by unfold maxLen; omega)).mono ?_
    rintro e w8 ⟨rfl, hb8⟩
    clear B0a B0b B0c B0z B1a B1b B1z Xa Xb Xc Xz
    have Z8 : Hid (w7.heap.size ≤ w8.heap.size) := hid (by have h := Below.size (hb8); (try simp only [World.size_alloc, World.size_drew] at h); omega)
    have WR_8 : Hid (Rgn w8 (w3.heap.size) (w4.heap.size) 2 1 (.slice A4 (thN W0 H0 zs0 x1 y1) c4) (thN W0 H0 zs0 x1 y1) (vals (thL W0 H0 zs0 x1 y1))) := hid (Rgn.keep (WR_7.out) hb8)
    have XA_8 : Hid (Rgn w8 (w4.heap.size) (w5.heap.size) 2 1 (.slice A5 zs0.length c5) (zs0.length) (vals zs0)) := hid (Rgn.keep (XA_7.out) hb8)
    have GR_8 : Hid (Rgn w8 (w6.heap.size) (w7.heap.size) 2 1 (.slice A7 (thN W0 H0 zs0 x1 y1) c7) (thN W0 H0 zs0 x1 y1) (vals (thL W0 H0 zs0 x1 y1))) := hid (Rgn.keep (GR_7.out) hb8)
    have KB08 : Hid (Box w8 (w.heap.size) 24 #[.int .i64 W0, .int .i64 H0, .slice A0 zs0.length c0]) := hid (Box.keep (KB07.out) hb8)
    have KB18 : Hid (Box w8 (w.heap.size + 1) 26 #[.int .i64 x1, .int .i64 y1]) := hid (Box.keep (KB17.out) hb8)
    have KX8 : Hid (Box w8 (w5.heap.size) 30 #[.int .i64 W0, .int .i64 H0, .slice A5 zs0.length c5]) := hid (Box.keep (KX7.out) hb8)
    have HB8 : Hid (Below w.heap.size w w8) := hid (bstep (HB7.out) hb8)
    clear hb8
    obtain ⟨B0a, B0b, B0c⟩ := KB08.out.three
    have B0z := KB08.out.lt
    obtain ⟨B1a, B1b⟩ := KB18.out.two
    have B1z := KB18.out.lt
    obtain ⟨Xa, Xb, Xc⟩ := KX8.out.three
    have Xz := KX8.out.lt
    go_wp2_with fail
    go_region_held3 (fun zz => zz.cell? ⟨w5.heap.size, 0, none⟩ = some (.int .i64 W0) ∧ zz.cell? ⟨w5.heap.size, 1, none⟩ = some (.int .i64 H0) ∧ zz.cell? ⟨w5.heap.size, 2, none⟩ = some (.slice A5 zs0.length c5) ∧ zz.cell? ⟨w.heap.size, 0, none⟩ = some (.int .i64 W0) ∧ zz.cell? ⟨w.heap.size, 1, none⟩ = some (.int .i64 H0) ∧ zz.cell? ⟨w.heap.size, 2, none⟩ = some (.slice A0 zs0.length c0))
      (first | (with_reducible exact ⟨(Box.three KX9.out).1, (Box.three KX9.out).2.1, (Box.three KX9.out).2.2, (Box.three KB09.out).1, (Box.three KB09.out).2.1, (Box.three KB09.out).2.2⟩) | (with_reducible exact ⟨(Box.three KX10.out).1, (Box.three KX10.out).2.1, (Box.three KX10.out).2.2, (Box.three KB010.out).1, (Box.three KB010.out).2.1, (Box.three KB010.out).2.2⟩) | exact ⟨(Box.three ((KX8.out))).1, (Box.three ((KX8.out))).2.1, (Box.three ((KX8.out))).2.2, (Box.three ((KB08.out))).1, (Box.three ((KB08.out))).2.1, (Box.three ((KB08.out))).2.2⟩)
      (first | (go_at_call 13; refine (toPanel_any W0 H0 A0 c0 zs0 _ w.heap.size (hz0.below (Below.drew (HB8.out))) (Below.drew (HB8.out)).size (by omega)).mono ?_; rintro e w9 ⟨⟨A9, c9, rfl, ho9⟩, hb9⟩; have hc9 := Below.trans (below_refl_drew _ _) hb9; have Z9 : Hid (w8.heap.size ≤ w9.heap.size) := hid (by have h := Below.size (hc9); (try simp only [World.size_alloc, World.size_drew] at h); omega); have WR_9 : Hid (Rgn w9 (w3.heap.size) (w4.heap.size) 2 1 (.slice A4 (thN W0 H0 zs0 x1 y1) c4) (thN W0 H0 zs0 x1 y1) (vals (thL W0 H0 zs0 x1 y1))) := hid (Rgn.keep (WR_8.out) hc9); have XA_9 : Hid (Rgn w9 (w4.heap.size) (w5.heap.size) 2 1 (.slice A5 zs0.length c5) (zs0.length) (vals zs0)) := hid (Rgn.keep (XA_8.out) hc9); have GR_9 : Hid (Rgn w9 (w6.heap.size) (w7.heap.size) 2 1 (.slice A7 (thN W0 H0 zs0 x1 y1) c7) (thN W0 H0 zs0 x1 y1) (vals (thL W0 H0 zs0 x1 y1))) := hid (Rgn.keep (GR_8.out) hc9); have KB09 : Hid (Box w9 (w.heap.size) 24 #[.int .i64 W0, .int .i64 H0, .slice A0 zs0.length c0]) := hid (Box.keep (KB08.out) hc9); have KB19 : Hid (Box w9 (w.heap.size + 1) 26 #[.int .i64 x1, .int .i64 y1]) := hid (Box.keep (KB18.out) hc9); have KX9 : Hid (Box w9 (w5.heap.size) 30 #[.int .i64 W0, .int .i64 H0, .slice A5 zs0.length c5]) := hid (Box.keep (KX8.out) hc9); have HB9 : Hid (Below w.heap.size w w9) := hid (bstep (HB8.out) hc9); have TB_9 : Hid (Rgn w9 (w8.heap.size) (w9.heap.size) 2 1 (.slice A9 zs0.length c9) (zs0.length) (vals zs0)) := hid (Rgn.of ho9 (by simp) rfl); clear ho9 hb9 hc9) | (go_at_call 17; refine (eqPanel_any W0 H0 W0 H0 _ _ _ _ zs0 zs0 _ (Rgn.ints (XA_9.out)) (Rgn.ints (TB_9.out)) hl0 hl0 rfl rfl rfl).mono ?_; rintro e w10 ⟨rfl, hb10⟩; have Z10 : Hid (w9.heap.size ≤ w10.heap.size) := hid (by have h := Below.size (hb10); (try simp only [World.size_alloc, World.size_drew] at h); omega); have WR_10 : Hid (Rgn w10 (w3.heap.size) (w4.heap.size) 2 1 (.slice A4 (thN W0 H0 zs0 x1 y1) c4) (thN W0 H0 zs0 x1 y1) (vals (thL W0 H0 zs0 x1 y1))) := hid (Rgn.keep (WR_9.out) hb10); have XA_10 : Hid (Rgn w10 (w4.heap.size) (w5.heap.size) 2 1 (.slice A5 zs0.length c5) (zs0.length) (vals zs0)) := hid (Rgn.keep (XA_9.out) hb10); have GR_10 : Hid (Rgn w10 (w6.heap.size) (w7.heap.size) 2 1 (.slice A7 (thN W0 H0 zs0 x1 y1) c7) (thN W0 H0 zs0 x1 y1) (vals (thL W0 H0 zs0 x1 y1))) := hid (Rgn.keep (GR_9.out) hb10); have TB_10 : Hid (Rgn w10 (w8.heap.size) (w9.heap.size) 2 1 (.slice A9 zs0.length c9) (zs0.length) (vals zs0)) := hid (Rgn.keep (TB_9.out) hb10); have KB010 : Hid (Box w10 (w.heap.size) 24 #[.int .i64 W0, .int .i64 H0, .slice A0 zs0.length c0]) := hid (Box.keep (KB09.out) hb10); have KB110 : Hid (Box w10 (w.heap.size + 1) 26 #[.int .i64 x1, .int .i64 y1]) := hid (Box.keep (KB19.out) hb10); have KX10 : Hid (Box w10 (w5.heap.size) 30 #[.int .i64 W0, .int .i64 H0, .slice A5 zs0.length c5]) := hid (Box.keep (KX9.out) hb10); have HB10 : Hid (Below w.heap.size w w10) := hid (bstep (HB9.out) hb10); clear hb10))
    clear B0a B0b B0c B0z B1a B1b B1z Xa Xb Xc Xz
    obtain ⟨B0a, B0b, B0c⟩ := KB010.out.three
    have B0z := KB010.out.lt
    obtain ⟨B1a, B1b⟩ := KB110.out.two
    have B1z := KB110.out.lt
    obtain ⟨Xa, Xb, Xc⟩ := KX10.out.three
    have Xz := KX10.out.lt
    go_wp2_with fail
    refine (markPanelR_any W0 H0 _ _ zs0 zs0.length 1 _ _ _ (XA_10.out) (by omega)).mono ?_
    rintro e w11 ⟨rfl, hr11, hc11⟩
    clear B0a B0b B0c B0z B1a B1b B1z Xa Xb Xc Xz
    have Z11 : Hid (w10.heap.size ≤ w11.heap.size) := hid (by have h := Chg.size (hc11); (try simp only [World.size_alloc, World.size_drew] at h); omega)
    have KB011 : Hid (Box w11 (w.heap.size) 24 #[.int .i64 W0, .int .i64 H0, .slice A0 zs0.length c0]) := hid (Box.chg (KB010.out) hc11 (by have q1 := Z1.out; have q2 := Z2.out; have q3 := Z3.out; have q4 := Z4.out; have q5 := Z5.out; have q6 := Z6.out; have q7 := Z7.out; have q8 := Z8.out; have q9 := Z9.out; have q10 := Z10.out; omega))
    have KB111 : Hid (Box w11 (w.heap.size + 1) 26 #[.int .i64 x1, .int .i64 y1]) := hid (Box.chg (KB110.out) hc11 (by have q1 := Z1.out; have q2 := Z2.out; have q3 := Z3.out; have q4 := Z4.out; have q5 := Z5.out; have q6 := Z6.out; have q7 := Z7.out; have q8 := Z8.out; have q9 := Z9.out; have q10 := Z10.out; omega))
    have KX11 : Hid (Box w11 (w5.heap.size) 30 #[.int .i64 W0, .int .i64 H0, .slice A5 zs0.length c5]) := hid (Box.chg (KX10.out) hc11 (by have q1 := Z1.out; have q2 := Z2.out; have q3 := Z3.out; have q4 := Z4.out; have q5 := Z5.out; have q6 := Z6.out; have q7 := Z7.out; have q8 := Z8.out; have q9 := Z9.out; have q10 := Z10.out; omega))
    have WR_11 : Hid (Rgn w11 (w3.heap.size) (w4.heap.size) 2 1 (.slice A4 (thN W0 H0 zs0 x1 y1) c4) (thN W0 H0 zs0 x1 y1) (vals (thL W0 H0 zs0 x1 y1))) := hid (Rgn.chg (WR_10.out) hc11 (by have q1 := Z1.out; have q2 := Z2.out; have q3 := Z3.out; have q4 := Z4.out; have q5 := Z5.out; have q6 := Z6.out; have q7 := Z7.out; have q8 := Z8.out; have q9 := Z9.out; have q10 := Z10.out; omega))
    have GR_11 : Hid (Rgn w11 (w6.heap.size) (w7.heap.size) 2 1 (.slice A7 (thN W0 H0 zs0 x1 y1) c7) (thN W0 H0 zs0 x1 y1) (vals (thL W0 H0 zs0 x1 y1))) := hid (Rgn.chg (GR_10.out) hc11 (by have q1 := Z1.out; have q2 := Z2.out; have q3 := Z3.out; have q4 := Z4.out; have q5 := Z5.out; have q6 := Z6.out; have q7 := Z7.out; have q8 := Z8.out; have q9 := Z9.out; have q10 := Z10.out; omega))
    have HB11 : Hid (Below w.heap.size w w11) := hid (bchg (HB10.out) hc11 (by have q1 := Z1.out; have q2 := Z2.out; have q3 := Z3.out; have q4 := Z4.out; have q5 := Z5.out; have q6 := Z6.out; have q7 := Z7.out; have q8 := Z8.out; have q9 := Z9.out; have q10 := Z10.out; omega))
    have XA_11 : Hid (Rgn w11 (w4.heap.size) (w5.heap.size) 2 1 (.slice A5 zs0.length c5) (zs0.length) (vals (marks 1 zs0.length))) := hid hr11
    clear hr11 hc11
    obtain ⟨B0a, B0b, B0c⟩ := KB011.out.three
    have B0z := KB011.out.lt
    obtain ⟨B1a, B1b⟩ := KB111.out.two
    have B1z := KB111.out.lt
    obtain ⟨Xa, Xb, Xc⟩ := KX11.out.three
    have Xz := KX11.out.lt
    go_wp2_with fail
    refine (eqInt64R_any _ _ (thL W0 H0 zs0 x1 y1) (thN W0 H0 zs0 x1 y1) _ _ _ ((GR_11.out)).1 ((WR_11.out)).1 (by unfold maxLen; omega)).mono ?_
    rintro e w12 ⟨rfl, hb12⟩
    clear B0a B0b B0c B0z B1a B1b B1z Xa Xb Xc Xz
    have Z12 : Hid (w11.heap.size ≤ w12.heap.size) := hid (by have h := Below.size (hb12); (try simp only [World.size_alloc, World.size_drew] at h); omega)
    have WR_12 : Hid (Rgn w12 (w3.heap.size) (w4.heap.size) 2 1 (.slice A4 (thN W0 H0 zs0 x1 y1) c4) (thN W0 H0 zs0 x1 y1) (vals (thL W0 H0 zs0 x1 y1))) := hid (Rgn.keep (WR_11.out) hb12)
    have GR_12 : Hid (Rgn w12 (w6.heap.size) (w7.heap.size) 2 1 (.slice A7 (thN W0 H0 zs0 x1 y1) c7) (thN W0 H0 zs0 x1 y1) (vals (thL W0 H0 zs0 x1 y1))) := hid (Rgn.keep (GR_11.out) hb12)
    have KB012 : Hid (Box w12 (w.heap.size) 24 #[.int .i64 W0, .int .i64 H0, .slice A0 zs0.length c0]) := hid (Box.keep (KB011.out) hb12)
    have KB112 : Hid (Box w12 (w.heap.size + 1) 26 #[.int .i64 x1, .int .i64 y1]) := hid (Box.keep (KB111.out) hb12)
    have HB12 : Hid (Below w.heap.size w w12) := hid (bstep (HB11.out) hb12)
    clear hb12
    obtain ⟨B0a, B0b, B0c⟩ := KB012.out.three
    have B0z := KB012.out.lt
    obtain ⟨B1a, B1b⟩ := KB112.out.two
    have B1z := KB112.out.lt
    go_wp2_with fail
    refine (markInt64R_any _ (thL W0 H0 zs0 x1 y1) (thN W0 H0 zs0 x1 y1) 1 _ _ _ (GR_12.out) (by omega)).mono ?_
    rintro e w13 ⟨rfl, hr13, hc13⟩
    clear B0a B0b B0c B0z B1a B1b B1z
    have Z13 : Hid (w12.heap.size ≤ w13.heap.size) := hid (by have h := Chg.size (hc13); (try simp only [World.size_alloc, World.size_drew] at h); omega)
    have KB013 : Hid (Box w13 (w.heap.size) 24 #[.int .i64 W0, .int .i64 H0, .slice A0 zs0.length c0]) := hid (Box.chg (KB012.out) hc13 (by have q1 := Z1.out; have q2 := Z2.out; have q3 := Z3.out; have q4 := Z4.out; have q5 := Z5.out; have q6 := Z6.out; have q7 := Z7.out; have q8 := Z8.out; have q9 := Z9.out; have q10 := Z10.out; have q11 := Z11.out; have q12 := Z12.out; omega))
    have KB113 : Hid (Box w13 (w.heap.size + 1) 26 #[.int .i64 x1, .int .i64 y1]) := hid (Box.chg (KB112.out) hc13 (by have q1 := Z1.out; have q2 := Z2.out; have q3 := Z3.out; have q4 := Z4.out; have q5 := Z5.out; have q6 := Z6.out; have q7 := Z7.out; have q8 := Z8.out; have q9 := Z9.out; have q10 := Z10.out; have q11 := Z11.out; have q12 := Z12.out; omega))
    have WR_13 : Hid (Rgn w13 (w3.heap.size) (w4.heap.size) 2 1 (.slice A4 (thN W0 H0 zs0 x1 y1) c4) (thN W0 H0 zs0 x1 y1) (vals (thL W0 H0 zs0 x1 y1))) := hid (Rgn.chg (WR_12.out) hc13 (by have q1 := Z1.out; have q2 := Z2.out; have q3 := Z3.out; have q4 := Z4.out; have q5 := Z5.out; have q6 := Z6.out; have q7 := Z7.out; have q8 := Z8.out; have q9 := Z9.out; have q10 := Z10.out; have q11 := Z11.out; have q12 := Z12.out; omega))
    have HB13 : Hid (Below w.heap.size w w13) := hid (bchg (HB12.out) hc13 (by have q1 := Z1.out; have q2 := Z2.out; have q3 := Z3.out; have q4 := Z4.out; have q5 := Z5.out; have q6 := Z6.out; have q7 := Z7.out; have q8 := Z8.out; have q9 := Z9.out; have q10 := Z10.out; have q11 := Z11.out; have q12 := Z12.out; omega))
    have GR_13 : Hid (Rgn w13 (w6.heap.size) (w7.heap.size) 2 1 (.slice A7 (thN W0 H0 zs0 x1 y1) c7) (thN W0 H0 zs0 x1 y1) (vals (marks 1 ((thN W0 H0 zs0 x1 y1))))) := hid hr13
    clear hr13 hc13
    obtain ⟨B0a, B0b, B0c⟩ := KB013.out.three
    have B0z := KB013.out.lt
    obtain ⟨B1a, B1b⟩ := KB113.out.two
    have B1z := KB113.out.lt
    go_wp2_with fail
    refine (heldInt64R_any _ (thN W0 H0 zs0 x1 y1) 1 _ _ _ (GR_13.out) (by omega)).mono ?_
    rintro e w14 ⟨rfl, hb14⟩
    clear B0a B0b B0c B0z B1a B1b B1z
    have Z14 : Hid (w13.heap.size ≤ w14.heap.size) := hid (by have h := Below.size (hb14); (try simp only [World.size_alloc, World.size_drew] at h); omega)
    have WR_14 : Hid (Rgn w14 (w3.heap.size) (w4.heap.size) 2 1 (.slice A4 (thN W0 H0 zs0 x1 y1) c4) (thN W0 H0 zs0 x1 y1) (vals (thL W0 H0 zs0 x1 y1))) := hid (Rgn.keep (WR_13.out) hb14)
    have GR_14 : Hid (Rgn w14 (w6.heap.size) (w7.heap.size) 2 1 (.slice A7 (thN W0 H0 zs0 x1 y1) c7) (thN W0 H0 zs0 x1 y1) (vals (marks 1 ((thN W0 H0 zs0 x1 y1))))) := hid (Rgn.keep (GR_13.out) hb14)
    have KB014 : Hid (Box w14 (w.heap.size) 24 #[.int .i64 W0, .int .i64 H0, .slice A0 zs0.length c0]) := hid (Box.keep (KB013.out) hb14)
    have KB114 : Hid (Box w14 (w.heap.size + 1) 26 #[.int .i64 x1, .int .i64 y1]) := hid (Box.keep (KB113.out) hb14)
    have HB14 : Hid (Below w.heap.size w w14) := hid (bstep (HB13.out) hb14)
    clear hb14
    obtain ⟨B0a, B0b, B0c⟩ := KB014.out.three
    have B0z := KB014.out.lt
    obtain ⟨B1a, B1b⟩ := KB114.out.two
    have B1z := KB114.out.lt
    go_wp2_with fail
    go_region_held3 (fun zz => zz.cell? ⟨w.heap.size, 0, none⟩ = some (.int .i64 W0) ∧ zz.cell? ⟨w.heap.size, 1, none⟩ = some (.int .i64 H0) ∧ zz.cell? ⟨w.heap.size, 2, none⟩ = some (.slice A0 zs0.length c0) ∧ zz.cell? ⟨w.heap.size + 1, 0, none⟩ = some (.int .i64 x1) ∧ zz.cell? ⟨w.heap.size + 1, 1, none⟩ = some (.int .i64 y1))
      (first | (with_reducible exact ⟨(Box.three KB015.out).1, (Box.three KB015.out).2.1, (Box.three KB015.out).2.2, (Box.two KB115.out).1, (Box.two KB115.out).2⟩) | (with_reducible exact ⟨(Box.three KB016.out).1, (Box.three KB016.out).2.1, (Box.three KB016.out).2.2, (Box.two KB116.out).1, (Box.two KB116.out).2⟩) | (with_reducible exact ⟨(Box.three KB017.out).1, (Box.three KB017.out).2.1, (Box.three KB017.out).2.2, (Box.two KB117.out).1, (Box.two KB117.out).2⟩) | exact ⟨(Box.three ((KB014.out))).1, (Box.three ((KB014.out))).2.1, (Box.three ((KB014.out))).2.2, (Box.two ((KB114.out))).1, (Box.two ((KB114.out))).2⟩)
      (first | (go_at_call 13; refine (toPanel_any W0 H0 A0 c0 zs0 _ w.heap.size (hz0.below (Below.drew (HB14.out))) (Below.drew (HB14.out)).size (by omega)).mono ?_; rintro e w15 ⟨⟨A15, c15, rfl, ho15⟩, hb15⟩; have hc15 := Below.trans (below_refl_drew _ _) hb15; have Z15 : Hid (w14.heap.size ≤ w15.heap.size) := hid (by have h := Below.size (hc15); (try simp only [World.size_alloc, World.size_drew] at h); omega); have WR_15 : Hid (Rgn w15 (w3.heap.size) (w4.heap.size) 2 1 (.slice A4 (thN W0 H0 zs0 x1 y1) c4) (thN W0 H0 zs0 x1 y1) (vals (thL W0 H0 zs0 x1 y1))) := hid (Rgn.keep (WR_14.out) hc15); have GR_15 : Hid (Rgn w15 (w6.heap.size) (w7.heap.size) 2 1 (.slice A7 (thN W0 H0 zs0 x1 y1) c7) (thN W0 H0 zs0 x1 y1) (vals (marks 1 ((thN W0 H0 zs0 x1 y1))))) := hid (Rgn.keep (GR_14.out) hc15); have KB015 : Hid (Box w15 (w.heap.size) 24 #[.int .i64 W0, .int .i64 H0, .slice A0 zs0.length c0]) := hid (Box.keep (KB014.out) hc15); have KB115 : Hid (Box w15 (w.heap.size + 1) 26 #[.int .i64 x1, .int .i64 y1]) := hid (Box.keep (KB114.out) hc15); have HB15 : Hid (Below w.heap.size w w15) := hid (bstep (HB14.out) hc15); have TC_15 : Hid (Rgn w15 (w14.heap.size) (w15.heap.size) 2 1 (.slice A15 zs0.length c15) (zs0.length) (vals zs0)) := hid (Rgn.of ho15 (by simp) rfl); clear ho15; clear hb15 hc15) | (go_at_call_of 14 x1; refine (toPoint_any x1 y1 _).mono ?_; rintro e w16 ⟨rfl, hb16⟩; have Z16 : Hid (w15.heap.size ≤ w16.heap.size) := hid (by have h := Below.size (hb16); (try simp only [World.size_alloc, World.size_drew] at h); omega); have WR_16 : Hid (Rgn w16 (w3.heap.size) (w4.heap.size) 2 1 (.slice A4 (thN W0 H0 zs0 x1 y1) c4) (thN W0 H0 zs0 x1 y1) (vals (thL W0 H0 zs0 x1 y1))) := hid (Rgn.keep (WR_15.out) hb16); have GR_16 : Hid (Rgn w16 (w6.heap.size) (w7.heap.size) 2 1 (.slice A7 (thN W0 H0 zs0 x1 y1) c7) (thN W0 H0 zs0 x1 y1) (vals (marks 1 ((thN W0 H0 zs0 x1 y1))))) := hid (Rgn.keep (GR_15.out) hb16); have TC_16 : Hid (Rgn w16 (w14.heap.size) (w15.heap.size) 2 1 (.slice A15 zs0.length c15) (zs0.length) (vals zs0)) := hid (Rgn.keep (TC_15.out) hb16); have KB016 : Hid (Box w16 (w.heap.size) 24 #[.int .i64 W0, .int .i64 H0, .slice A0 zs0.length c0]) := hid (Box.keep (KB015.out) hb16); have KB116 : Hid (Box w16 (w.heap.size + 1) 26 #[.int .i64 x1, .int .i64 y1]) := hid (Box.keep (KB115.out) hb16); have HB16 : Hid (Below w.heap.size w w16) := hid (bstep (HB15.out) hb16); clear hb16) | (go_at_call 15; refine (implCurvesThrough_any W0 H0 _ _ zs0 x1 y1 _ (Rgn.ints (TC_16.out)) hl0 wx1 wy1).mono ?_; rintro e w17 ⟨⟨A17, c17, rfl, ho17⟩, hb17⟩; have Z17 : Hid (w16.heap.size ≤ w17.heap.size) := hid (by have h := Below.size (hb17); (try simp only [World.size_alloc, World.size_drew] at h); omega); have WR_17 : Hid (Rgn w17 (w3.heap.size) (w4.heap.size) 2 1 (.slice A4 (thN W0 H0 zs0 x1 y1) c4) (thN W0 H0 zs0 x1 y1) (vals (thL W0 H0 zs0 x1 y1))) := hid (Rgn.keep (WR_16.out) hb17); have GR_17 : Hid (Rgn w17 (w6.heap.size) (w7.heap.size) 2 1 (.slice A7 (thN W0 H0 zs0 x1 y1) c7) (thN W0 H0 zs0 x1 y1) (vals (marks 1 ((thN W0 H0 zs0 x1 y1))))) := hid (Rgn.keep (GR_16.out) hb17); have TC_17 : Hid (Rgn w17 (w14.heap.size) (w15.heap.size) 2 1 (.slice A15 zs0.length c15) (zs0.length) (vals zs0)) := hid (Rgn.keep (TC_16.out) hb17); have KB017 : Hid (Box w17 (w.heap.size) 24 #[.int .i64 W0, .int .i64 H0, .slice A0 zs0.length c0]) := hid (Box.keep (KB016.out) hb17); have KB117 : Hid (Box w17 (w.heap.size + 1) 26 #[.int .i64 x1, .int .i64 y1]) := hid (Box.keep (KB116.out) hb17); have HB17 : Hid (Below w.heap.size w w17) := hid (bstep (HB16.out) hb17); have HR_17 : Hid (Rgn w17 (w16.heap.size) (w17.heap.size) 2 1 (.slice A17 (thN W0 H0 zs0 x1 y1) c17) (thN W0 H0 zs0 x1 y1) (vals (thL W0 H0 zs0 x1 y1))) := hid (Rgn.of ho17 (by simp) rfl); clear ho17; clear hb17))
    clear B0a B0b B0c B0z B1a B1b B1z
    obtain ⟨B0a, B0b, B0c⟩ := KB017.out.three
    have B0z := KB017.out.lt
    obtain ⟨B1a, B1b⟩ := KB117.out.two
    have B1z := KB117.out.lt
    go_wp2_with fail
    refine (eqInt64R_any _ _ (thL W0 H0 zs0 x1 y1) (thN W0 H0 zs0 x1 y1) _ _ _ ((HR_17.out)).1 ((WR_17.out)).1 (by unfold maxLen; omega)).mono ?_
    rintro e w18 ⟨rfl, hb18⟩
    clear B0a B0b B0c B0z B1a B1b B1z
    have Z18 : Hid (w17.heap.size ≤ w18.heap.size) := hid (by have h := Below.size (hb18); (try simp only [World.size_alloc, World.size_drew] at h); omega)
    have WR_18 : Hid (Rgn w18 (w3.heap.size) (w4.heap.size) 2 1 (.slice A4 (thN W0 H0 zs0 x1 y1) c4) (thN W0 H0 zs0 x1 y1) (vals (thL W0 H0 zs0 x1 y1))) := hid (Rgn.keep (WR_17.out) hb18)
    have GR_18 : Hid (Rgn w18 (w6.heap.size) (w7.heap.size) 2 1 (.slice A7 (thN W0 H0 zs0 x1 y1) c7) (thN W0 H0 zs0 x1 y1) (vals (marks 1 ((thN W0 H0 zs0 x1 y1))))) := hid (Rgn.keep (GR_17.out) hb18)
    have HR_18 : Hid (Rgn w18 (w16.heap.size) (w17.heap.size) 2 1 (.slice A17 (thN W0 H0 zs0 x1 y1) c17) (thN W0 H0 zs0 x1 y1) (vals (thL W0 H0 zs0 x1 y1))) := hid (Rgn.keep (HR_17.out) hb18)
    have KB018 : Hid (Box w18 (w.heap.size) 24 #[.int .i64 W0, .int .i64 H0, .slice A0 zs0.length c0]) := hid (Box.keep (KB017.out) hb18)
    have KB118 : Hid (Box w18 (w.heap.size + 1) 26 #[.int .i64 x1, .int .i64 y1]) := hid (Box.keep (KB117.out) hb18)
    have HB18 : Hid (Below w.heap.size w w18) := hid (bstep (HB17.out) hb18)
    clear hb18
    obtain ⟨B0a, B0b, B0c⟩ := KB018.out.three
    have B0z := KB018.out.lt
    obtain ⟨B1a, B1b⟩ := KB118.out.two
    have B1z := KB118.out.lt
    go_wp2_with fail
    refine (heldInt64R_any _ (thN W0 H0 zs0 x1 y1) 1 _ _ _ (GR_18.out) (by omega)).mono ?_
    rintro e w19 ⟨rfl, hb19⟩
    clear B0a B0b B0c B0z B1a B1b B1z
    have Z19 : Hid (w18.heap.size ≤ w19.heap.size) := hid (by have h := Below.size (hb19); (try simp only [World.size_alloc, World.size_drew] at h); omega)
    have GR_19 : Hid (Rgn w19 (w6.heap.size) (w7.heap.size) 2 1 (.slice A7 (thN W0 H0 zs0 x1 y1) c7) (thN W0 H0 zs0 x1 y1) (vals (marks 1 ((thN W0 H0 zs0 x1 y1))))) := hid (Rgn.keep (GR_18.out) hb19)
    have KB019 : Hid (Box w19 (w.heap.size) 24 #[.int .i64 W0, .int .i64 H0, .slice A0 zs0.length c0]) := hid (Box.keep (KB018.out) hb19)
    have KB119 : Hid (Box w19 (w.heap.size + 1) 26 #[.int .i64 x1, .int .i64 y1]) := hid (Box.keep (KB118.out) hb19)
    have HB19 : Hid (Below w.heap.size w w19) := hid (bstep (HB18.out) hb19)
    clear hb19
    obtain ⟨B0a, B0b, B0c⟩ := KB019.out.three
    have B0z := KB019.out.lt
    obtain ⟨B1a, B1b⟩ := KB119.out.two
    have B1z := KB119.out.lt
    go_wp2_with fail
    go_ret
    exact ⟨rfl, (HB19.out)⟩
  · go_enter Try.func3, Try.ntmps3
    go_wp2_with fail
    refine (szPanel_big _ _ _ _ _ _ _ (by omega) (by omega) hl0).mono ?_
    rintro e w1 ⟨rfl, hb1⟩
    have HB := hid (bstep (bal (bal (Below.refl _ _) _) _) hb1)
    clear hb1
    go_wp2_with fail
    go_ret
    exact ⟨rfl, HB.out⟩
end Go.Proofs.Ytbgigompkmnapaa

/- The walk of FnExactCurvePicture. -/
import Derived.Test.YtgcgaoblbhojnaaCm
import Derived.Test.YtgcgaoblbhojnaaCw
import Derived.Test.YtgcgaoblbhojnaaLw
import Derived.Deep.RegionHeld3
namespace Go.Proofs.Ytgcgaoblbhojnaa
set_option linter.unusedSimpArgs false
set_option linter.unusedVariables false
open Go.ChangeShapes Go.WideShapes Go.ChangeAt Go.RowKit
set_option maxHeartbeats 2000000 in
set_option maxRecDepth 100000 in
theorem fnExactCurvePicture_walk (w : World) (W0 : Int) (H0 : Int) (A0 : Option Addr) (c0 : Nat) (zs0 : List Int) (wW0 : (Lit.int .i64 W0).wf = true) (wH0 : (Lit.int .i64 H0).wf = true) (hl0 : zs0.length ≤ maxLen) (hz0 : Ints w w.heap.size A0 zs0) (hw0 : ∀ z ∈ zs0, (Lit.int .i64 z).wf = true)
    (a1 : Int) (wa1 : (Lit.int .i64 a1).wf = true) :
    Calls Try.prog 11 #[.agg #[.int .i64 W0, .int .i64 H0, .slice A0 zs0.length c0], .int .i64 a1] w fun e w' => e = .returned (.bool true) ∧ Below w.heap.size w w' := by
  by_cases hs : (zs0.length : Int) ≤ 1048576
  · have hle : cpN W0 H0 zs0 a1 ≤ 17 := Nat.le_trans (cpN_le W0 H0 zs0 a1) (by decide)
    have hng1 : ¬ ((((1 + zs0.length : Nat)) : Int) < 0) := by omega
    have hng2 : ¬ ((((1 + (cpN W0 H0 zs0 a1) : Nat)) : Int) < 0) := by omega
    have hng3 : ¬ ((1 : Int) + (zs0.length : Int) < 0) := by omega
    go_enter Try.func11, Try.ntmps11
    go_wp2_with fail
    refine (szPanel_any _ _ _ _ _ _ _ hs (by omega)).mono ?_
    rintro e w1 ⟨rfl, hb1⟩
    have Z1 : Hid (w.heap.size + 1 ≤ w1.heap.size) := hid (by have h := Below.size (hb1); (try simp only [World.size_alloc, World.size_drew] at h); omega)
    have KB01 : Hid (Box w1 (w.heap.size) 36 #[.int .i64 W0, .int .i64 H0, .slice A0 zs0.length c0]) := hid (Box.keep (Box.new' _ _ _ _ (by simp)) hb1)
    have HB1 : Hid (Below w.heap.size w w1) := hid (bstep (bal (Below.refl _ _) _) hb1)
    clear hb1
    obtain ⟨B0a, B0b, B0c⟩ := KB01.out.three
    have B0z := KB01.out.lt
    go_wp2_with fail
    refine (toPanel_any W0 H0 A0 c0 zs0 _ w.heap.size (hz0.below (HB1.out)) (HB1.out).size (by omega)).mono ?_
    rintro e w2 ⟨⟨A2, c2, rfl, ho2⟩, hb2⟩
    clear B0a B0b B0c B0z
    have Z2 : Hid (w1.heap.size ≤ w2.heap.size) := hid (by have h := Below.size (hb2); (try simp only [World.size_alloc, World.size_drew] at h); omega)
    have KB02 : Hid (Box w2 (w.heap.size) 36 #[.int .i64 W0, .int .i64 H0, .slice A0 zs0.length c0]) := hid (Box.keep (KB01.out) hb2)
    have HB2 : Hid (Below w.heap.size w w2) := hid (bstep (HB1.out) hb2)
    have TA_2 : Hid (Rgn w2 (w1.heap.size) (w2.heap.size) 2 1 (.slice A2 zs0.length c2) (zs0.length) (vals zs0)) := hid (Rgn.of ho2 (by simp) rfl)
    clear ho2
    clear hb2
    obtain ⟨B0a, B0b, B0c⟩ := KB02.out.three
    have B0z := KB02.out.lt
    go_wp2_with fail
    refine (specCurvePicture_any W0 H0 _ _ zs0 a1 _ (Rgn.ints (TA_2.out)) hl0 wa1).mono ?_
    rintro e w3 ⟨⟨A3, c3, rfl, ho3⟩, hb3⟩
    clear B0a B0b B0c B0z
    have Z3 : Hid (w2.heap.size ≤ w3.heap.size) := hid (by have h := Below.size (hb3); (try simp only [World.size_alloc, World.size_drew] at h); omega)
    have TA_3 : Hid (Rgn w3 (w1.heap.size) (w2.heap.size) 2 1 (.slice A2 zs0.length c2) (zs0.length) (vals zs0)) := hid (Rgn.keep (TA_2.out) hb3)
    have KB03 : Hid (Box w3 (w.heap.size) 36 #[.int .i64 W0, .int .i64 H0, .slice A0 zs0.length c0]) := hid (Box.keep (KB02.out) hb3)
    have HB3 : Hid (Below w.heap.size w w3) := hid (bstep (HB2.out) hb3)
    have WR_3 : Hid (Rgn w3 (w2.heap.size) (w3.heap.size) 9 1 (.slice A3 (cpN W0 H0 zs0 a1) c3) (cpN W0 H0 zs0 a1) (strs (cpL W0 H0 zs0 a1))) := hid (Rgn.of ho3 (by simp) rfl)
    clear ho3
    clear hb3
    obtain ⟨B0a, B0b, B0c⟩ := KB03.out.three
    have B0z := KB03.out.lt
    go_wp2_with fail
    refine (toPanel_any W0 H0 A0 c0 zs0 _ w.heap.size (hz0.below (HB3.out)) (HB3.out).size (by omega)).mono ?_
    rintro e w4 ⟨⟨A4, c4, rfl, ho4⟩, hb4⟩
    clear B0a B0b B0c B0z
    have Z4 : Hid (w3.heap.size ≤ w4.heap.size) := hid (by have h := Below.size (hb4); (try simp only [World.size_alloc, World.size_drew] at h); omega)
    have WR_4 : Hid (Rgn w4 (w2.heap.size) (w3.heap.size) 9 1 (.slice A3 (cpN W0 H0 zs0 a1) c3) (cpN W0 H0 zs0 a1) (strs (cpL W0 H0 zs0 a1))) := hid (Rgn.keep (WR_3.out) hb4)
    have KB04 : Hid (Box w4 (w.heap.size) 36 #[.int .i64 W0, .int .i64 H0, .slice A0 zs0.length c0]) := hid (Box.keep (KB03.out) hb4)
    have HB4 : Hid (Below w.heap.size w w4) := hid (bstep (HB3.out) hb4)
    have XA_4 : Hid (Rgn w4 (w3.heap.size) (w4.heap.size) 2 1 (.slice A4 zs0.length c4) (zs0.length) (vals zs0)) := hid (Rgn.of ho4 (by simp) rfl)
    clear ho4
    clear hb4
    obtain ⟨B0a, B0b, B0c⟩ := KB04.out.three
    have B0z := KB04.out.lt
    go_wp2_with fail
    refine (implCurvePicture_any W0 H0 _ _ zs0 a1 _ (Rgn.ints (Rgn.alloc (XA_4.out) _)) hl0 wa1).mono ?_
    rintro e w5 ⟨⟨A5, c5, rfl, ho5⟩, hb5⟩
    clear B0a B0b B0c B0z
    have Z5 : Hid (w4.heap.size + 1 ≤ w5.heap.size) := hid (by have h := Below.size (hb5); (try simp only [World.size_alloc, World.size_drew] at h); omega)
    have WR_5 : Hid (Rgn w5 (w2.heap.size) (w3.heap.size) 9 1 (.slice A3 (cpN W0 H0 zs0 a1) c3) (cpN W0 H0 zs0 a1) (strs (cpL W0 H0 zs0 a1))) := hid (Rgn.keep (Rgn.alloc (WR_4.out) _) hb5)
    have XA_5 : Hid (Rgn w5 (w3.heap.size) (w4.heap.size) 2 1 (.slice A4 zs0.length c4) (zs0.length) (vals zs0)) := hid (Rgn.keep (Rgn.alloc (XA_4.out) _) hb5)
    have KB05 : Hid (Box w5 (w.heap.size) 36 #[.int .i64 W0, .int .i64 H0, .slice A0 zs0.length c0]) := hid (Box.keep (Box.alloc (KB04.out) _) hb5)
    have KX5 : Hid (Box w5 (w4.heap.size) 39 #[.int .i64 W0, .int .i64 H0, .slice A4 zs0.length c4]) := hid (Box.keep (Box.new' _ _ _ _ (by simp)) hb5)
    have HB5 : Hid (Below w.heap.size w w5) := hid (bstep (bal (HB4.out) _) hb5)
    have GR_5 : Hid (Rgn w5 (w4.heap.size + 1) (w5.heap.size) 9 1 (.slice A5 (cpN W0 H0 zs0 a1) c5) (cpN W0 H0 zs0 a1) (strs (cpL W0 H0 zs0 a1))) := hid (Rgn.of ho5 (by simp) rfl)
    clear ho5
    clear hb5
    obtain ⟨B0a, B0b, B0c⟩ := KB05.out.three
    have B0z := KB05.out.lt
    obtain ⟨Xa, Xb, Xc⟩ := KX5.out.three
    have Xz := KX5.out.lt
    go_wp2_with fail
    refine (eqStringS_any _ _ (cpL W0 H0 zs0 a1) (cpN W0 H0 zs0 a1) _ _ _ ((GR_5.out)).1 ((WR_5.out)).1 (by unfold maxLen; omega)).mono ?_
    rintro e w6 ⟨rfl, hb6⟩
    clear B0a B0b B0c B0z Xa Xb Xc Xz
    have Z6 : Hid (w5.heap.size ≤ w6.heap.size) := hid (by have h := Below.size (hb6); (try simp only [World.size_alloc, World.size_drew] at h); omega)
    have WR_6 : Hid (Rgn w6 (w2.heap.size) (w3.heap.size) 9 1 (.slice A3 (cpN W0 H0 zs0 a1) c3) (cpN W0 H0 zs0 a1) (strs (cpL W0 H0 zs0 a1))) := hid (Rgn.keep (WR_5.out) hb6)
    have XA_6 : Hid (Rgn w6 (w3.heap.size) (w4.heap.size) 2 1 (.slice A4 zs0.length c4) (zs0.length) (vals zs0)) := hid (Rgn.keep (XA_5.out) hb6)
    have GR_6 : Hid (Rgn w6 (w4.heap.size + 1) (w5.heap.size) 9 1 (.slice A5 (cpN W0 H0 zs0 a1) c5) (cpN W0 H0 zs0 a1) (strs (cpL W0 H0 zs0 a1))) := hid (Rgn.keep (GR_5.out) hb6)
    have KB06 : Hid (Box w6 (w.heap.size) 36 #[.int .i64 W0, .int .i64 H0, .slice A0 zs0.length c0]) := hid (Box.keep (KB05.out) hb6)
    have KX6 : Hid (Box w6 (w4.heap.size) 39 #[.int .i64 W0, .int .i64 H0, .slice A4 zs0.length c4]) := hid (Box.keep (KX5.out) hb6)
    have HB6 : Hid (Below w.heap.size w w6) := hid (bstep (HB5.out) hb6)
    clear hb6
    obtain ⟨B0a, B0b, B0c⟩ := KB06.out.three
    have B0z := KB06.out.lt
    obtain ⟨Xa, Xb, Xc⟩ := KX6.out.three
    have Xz := KX6.out.lt
    go_wp2_with fail
    go_region_held3 (fun zz => zz.cell? ⟨w4.heap.size, 0, none⟩ = some (.int .i64 W0) ∧ zz.cell? ⟨w4.heap.size, 1, none⟩ = some (.int .i64 H0) ∧ zz.cell? ⟨w4.heap.size, 2, none⟩ = some (.slice A4 zs0.length c4) ∧ zz.cell? ⟨w.heap.size, 0, none⟩ = some (.int .i64 W0) ∧ zz.cell? ⟨w.heap.size, 1, none⟩ = some (.int .i64 H0) ∧ zz.cell? ⟨w.heap.size, 2, none⟩ = some (.slice A0 zs0.length c0))
      (first | (with_reducible exact ⟨(Box.three KX7.out).1, (Box.three KX7.out).2.1, (Box.three KX7.out).2.2, (Box.three KB07.out).1, (Box.three KB07.out).2.1, (Box.three KB07.out).2.2⟩) | (with_reducible exact ⟨(Box.three KX8.out).1, (Box.three KX8.out).2.1, (Box.three KX8.out).2.2, (Box.three KB08.out).1, (Box.three KB08.out).2.1, (Box.three KB08.out).2.2⟩) | exact ⟨(Box.three ((KX6.out))).1, (Box.three ((KX6.out))).2.1, (Box.three ((KX6.out))).2.2, (Box.three ((KB06.out))).1, (Box.three ((KB06.out))).2.1, (Box.three ((KB06.out))).2.2⟩)
      (first | (go_at_call 25; refine (toPanel_any W0 H0 A0 c0 zs0 _ w.heap.size (hz0.below (Below.drew (HB6.out))) (Below.drew (HB6.out)).size (by omega)).mono ?_; rintro e w7 ⟨⟨A7, c7, rfl, ho7⟩, hb7⟩; have hc7 := Below.trans (below_refl_drew _ _) hb7; have Z7 : Hid (w6.heap.size ≤ w7.heap.size) := hid (by have h := Below.size (hc7); (try simp only [World.size_alloc, World.size_drew] at h); omega); have WR_7 : Hid (Rgn w7 (w2.heap.size) (w3.heap.size) 9 1 (.slice A3 (cpN W0 H0 zs0 a1) c3) (cpN W0 H0 zs0 a1) (strs (cpL W0 H0 zs0 a1))) := hid (Rgn.keep (WR_6.out) hc7); have XA_7 : Hid (Rgn w7 (w3.heap.size) (w4.heap.size) 2 1 (.slice A4 zs0.length c4) (zs0.length) (vals zs0)) := hid (Rgn.keep (XA_6.out) hc7); have GR_7 : Hid (Rgn w7 (w4.heap.size + 1) (w5.heap.size) 9 1 (.slice A5 (cpN W0 H0 zs0 a1) c5) (cpN W0 H0 zs0 a1) (strs (cpL W0 H0 zs0 a1))) := hid (Rgn.keep (GR_6.out) hc7); have KB07 : Hid (Box w7 (w.heap.size) 36 #[.int .i64 W0, .int .i64 H0, .slice A0 zs0.length c0]) := hid (Box.keep (KB06.out) hc7); have KX7 : Hid (Box w7 (w4.heap.size) 39 #[.int .i64 W0, .int .i64 H0, .slice A4 zs0.length c4]) := hid (Box.keep (KX6.out) hc7); have HB7 : Hid (Below w.heap.size w w7) := hid (bstep (HB6.out) hc7); have TB_7 : Hid (Rgn w7 (w6.heap.size) (w7.heap.size) 2 1 (.slice A7 zs0.length c7) (zs0.length) (vals zs0)) := hid (Rgn.of ho7 (by simp) rfl); clear ho7 hb7 hc7) | (go_at_call 27; refine (eqPanel_any W0 H0 W0 H0 _ _ _ _ zs0 zs0 _ (Rgn.ints (XA_7.out)) (Rgn.ints (TB_7.out)) hl0 hl0 rfl rfl rfl).mono ?_; rintro e w8 ⟨rfl, hb8⟩; have Z8 : Hid (w7.heap.size ≤ w8.heap.size) := hid (by have h := Below.size (hb8); (try simp only [World.size_alloc, World.size_drew] at h); omega); have WR_8 : Hid (Rgn w8 (w2.heap.size) (w3.heap.size) 9 1 (.slice A3 (cpN W0 H0 zs0 a1) c3) (cpN W0 H0 zs0 a1) (strs (cpL W0 H0 zs0 a1))) := hid (Rgn.keep (WR_7.out) hb8); have XA_8 : Hid (Rgn w8 (w3.heap.size) (w4.heap.size) 2 1 (.slice A4 zs0.length c4) (zs0.length) (vals zs0)) := hid (Rgn.keep (XA_7.out) hb8); have GR_8 : Hid (Rgn w8 (w4.heap.size + 1) (w5.heap.size) 9 1 (.slice A5 (cpN W0 H0 zs0 a1) c5) (cpN W0 H0 zs0 a1) (strs (cpL W0 H0 zs0 a1))) := hid (Rgn.keep (GR_7.out) hb8); have TB_8 : Hid (Rgn w8 (w6.heap.size) (w7.heap.size) 2 1 (.slice A7 zs0.length c7) (zs0.length) (vals zs0)) := hid (Rgn.keep (TB_7.out) hb8); have KB08 : Hid (Box w8 (w.heap.size) 36 #[.int .i64 W0, .int .i64 H0, .slice A0 zs0.length c0]) := hid (Box.keep (KB07.out) hb8); have KX8 : Hid (Box w8 (w4.heap.size) 39 #[.int .i64 W0, .int .i64 H0, .slice A4 zs0.length c4]) := hid (Box.keep (KX7.out) hb8); have HB8 : Hid (Below w.heap.size w w8) := hid (bstep (HB7.out) hb8); clear hb8))
    clear B0a B0b B0c B0z Xa Xb Xc Xz
    obtain ⟨B0a, B0b, B0c⟩ := KB08.out.three
    have B0z := KB08.out.lt
    obtain ⟨Xa, Xb, Xc⟩ := KX8.out.three
    have Xz := KX8.out.lt
    go_wp2_with fail
    refine (markPanelR_any W0 H0 _ _ zs0 zs0.length 1 _ _ _ (XA_8.out) (by omega)).mono ?_
    rintro e w9 ⟨rfl, hr9, hc9⟩
    clear B0a B0b B0c B0z Xa Xb Xc Xz
    have Z9 : Hid (w8.heap.size ≤ w9.heap.size) := hid (by have h := Chg.size (hc9); (try simp only [World.size_alloc, World.size_drew] at h); omega)
    have KB09 : Hid (Box w9 (w.heap.size) 36 #[.int .i64 W0, .int .i64 H0, .slice A0 zs0.length c0]) := hid (Box.chg (KB08.out) hc9 (by have q1 := Z1.out; have q2 := Z2.out; have q3 := Z3.out; have q4 := Z4.out; have q5 := Z5.out; have q6 := Z6.out; have q7 := Z7.out; have q8 := Z8.out; omega))
    have KX9 : Hid (Box w9 (w4.heap.size) 39 #[.int .i64 W0, .int .i64 H0, .slice A4 zs0.length c4]) := hid (Box.chg (KX8.out) hc9 (by have q1 := Z1.out; have q2 := Z2.out; have q3 := Z3.out; have q4 := Z4.out; have q5 := Z5.out; have q6 := Z6.out; have q7 := Z7.out; have q8 := Z8.out; omega))
    have WR_9 : Hid (Rgn w9 (w2.heap.size) (w3.heap.size) 9 1 (.slice A3 (cpN W0 H0 zs0 a1) c3) (cpN W0 H0 zs0 a1) (strs (cpL W0 H0 zs0 a1))) := hid (Rgn.chg (WR_8.out) hc9 (by have q1 := Z1.out; have q2 := Z2.out; have q3 := Z3.out; have q4 := Z4.out; have q5 := Z5.out; have q6 := Z6.out; have q7 := Z7.out; have q8 := Z8.out; omega))
    have GR_9 : Hid (Rgn w9 (w4.heap.size + 1) (w5.heap.size) 9 1 (.slice A5 (cpN W0 H0 zs0 a1) c5) (cpN W0 H0 zs0 a1) (strs (cpL W0 H0 zs0 a1))) := hid (Rgn.chg (GR_8.out) hc9 (by have q1 := Z1.out; have q2 := Z2.out; have q3 := Z3.out; have q4 := Z4.out; have q5 := Z5.out; have q6 := Z6.out; have q7 := Z7.out; have q8 := Z8.out; omega))
    have HB9 : Hid (Below w.heap.size w w9) := hid (bchg (HB8.out) hc9 (by have q1 := Z1.out; have q2 := Z2.out; have q3 := Z3.out; have q4 := Z4.out; have q5 := Z5.out; have q6 := Z6.out; have q7 := Z7.out; have q8 := Z8.out; omega))
    have XA_9 : Hid (Rgn w9 (w3.heap.size) (w4.heap.size) 2 1 (.slice A4 zs0.length c4) (zs0.length) (vals (marks 1 zs0.length))) := hid hr9
    clear hr9 hc9
    obtain ⟨B0a, B0b, B0c⟩ := KB09.out.three
    have B0z := KB09.out.lt
    obtain ⟨Xa, Xb, Xc⟩ := KX9.out.three
    have Xz := KX9.out.lt
    go_wp2_with fail
    refine (eqStringS_any _ _ (cpL W0 H0 zs0 a1) (cpN W0 H0 zs0 a1) _ _ _ ((GR_9.out)).1 ((WR_9.out)).1 (by unfold maxLen; omega)).mono ?_
    rintro e w10 ⟨rfl, hb10⟩
    clear B0a B0b B0c B0z Xa Xb Xc Xz
    have Z10 : Hid (w9.heap.size ≤ w10.heap.size) := hid (by have h := Below.size (hb10); (try simp only [World.size_alloc, World.size_drew] at h); omega)
    have WR_10 : Hid (Rgn w10 (w2.heap.size) (w3.heap.size) 9 1 (.slice A3 (cpN W0 H0 zs0 a1) c3) (cpN W0 H0 zs0 a1) (strs (cpL W0 H0 zs0 a1))) := hid (Rgn.keep (WR_9.out) hb10)
    have GR_10 : Hid (Rgn w10 (w4.heap.size + 1) (w5.heap.size) 9 1 (.slice A5 (cpN W0 H0 zs0 a1) c5) (cpN W0 H0 zs0 a1) (strs (cpL W0 H0 zs0 a1))) := hid (Rgn.keep (GR_9.out) hb10)
    have KB010 : Hid (Box w10 (w.heap.size) 36 #[.int .i64 W0, .int .i64 H0, .slice A0 zs0.length c0]) := hid (Box.keep (KB09.out) hb10)
    have HB10 : Hid (Below w.heap.size w w10) := hid (bstep (HB9.out) hb10)
    clear hb10
    obtain ⟨B0a, B0b, B0c⟩ := KB010.out.three
    have B0z := KB010.out.lt
    go_wp2_with fail
    refine (markStringS_any _ (cpL W0 H0 zs0 a1) (cpN W0 H0 zs0 a1) 1 _ _ _ (GR_10.out) (by decide) (by omega)).mono ?_
    rintro e w11 ⟨rfl, hr11, hc11⟩
    clear B0a B0b B0c B0z
    have Z11 : Hid (w10.heap.size ≤ w11.heap.size) := hid (by have h := Chg.size (hc11); (try simp only [World.size_alloc, World.size_drew] at h); omega)
    have KB011 : Hid (Box w11 (w.heap.size) 36 #[.int .i64 W0, .int .i64 H0, .slice A0 zs0.length c0]) := hid (Box.chg (KB010.out) hc11 (by have q1 := Z1.out; have q2 := Z2.out; have q3 := Z3.out; have q4 := Z4.out; have q5 := Z5.out; have q6 := Z6.out; have q7 := Z7.out; have q8 := Z8.out; have q9 := Z9.out; have q10 := Z10.out; omega))
    have WR_11 : Hid (Rgn w11 (w2.heap.size) (w3.heap.size) 9 1 (.slice A3 (cpN W0 H0 zs0 a1) c3) (cpN W0 H0 zs0 a1) (strs (cpL W0 H0 zs0 a1))) := hid (Rgn.chg (WR_10.out) hc11 (by have q1 := Z1.out; have q2 := Z2.out; have q3 := Z3.out; have q4 := Z4.out; have q5 := Z5.out; have q6 := Z6.out; have q7 := Z7.out; have q8 := Z8.out; have q9 := Z9.out; have q10 := Z10.out; omega))
    have HB11 : Hid (Below w.heap.size w w11) := hid (bchg (HB10.out) hc11 (by have q1 := Z1.out; have q2 := Z2.out; have q3 := Z3.out; have q4 := Z4.out; have q5 := Z5.out; have q6 := Z6.out; have q7 := Z7.out; have q8 := Z8.out; have q9 := Z9.out; have q10 := Z10.out; omega))
    have GR_11 : Hid (Rgn w11 (w4.heap.size + 1) (w5.heap.size) 9 1 (.slice A5 (cpN W0 H0 zs0 a1) c5) (cpN W0 H0 zs0 a1) (strs (markTs 1 ((cpN W0 H0 zs0 a1))))) := hid hr11
    clear hr11 hc11
    obtain ⟨B0a, B0b, B0c⟩ := KB011.out.three
    have B0z := KB011.out.lt
    go_wp2_with fail
    refine (heldStringS_any _ (cpN W0 H0 zs0 a1) 1 _ _ _ (GR_11.out) (by decide) (by omega)).mono ?_
    rintro e w12 ⟨rfl, hb12⟩
    clear B0a B0b B0c B0z
    have Z12 : Hid (w11.heap.size ≤ w12.heap.size) := hid (by have h := Below.size (hb12); (try simp only [World.size_alloc, World.size_drew] at h); omega)
    have WR_12 : Hid (Rgn w12 (w2.heap.size) (w3.heap.size) 9 1 (.slice A3 (cpN W0 H0 zs0 a1) c3) (cpN W0 H0 zs0 a1) (strs (cpL W0 H0 zs0 a1))) := hid (Rgn.keep (WR_11.out) hb12)
    have GR_12 : Hid (Rgn w12 (w4.heap.size + 1) (w5.heap.size) 9 1 (.slice A5 (cpN W0 H0 zs0 a1) c5) (cpN W0 H0 zs0 a1) (strs (markTs 1 ((cpN W0 H0 zs0 a1))))) := hid (Rgn.keep (GR_11.out) hb12)
    have KB012 : Hid (Box w12 (w.heap.size) 36 #[.int .i64 W0, .int .i64 H0, .slice A0 zs0.length c0]) := hid (Box.keep (KB011.out) hb12)
    have HB12 : Hid (Below w.heap.size w w12) := hid (bstep (HB11.out) hb12)
    clear hb12
    obtain ⟨B0a, B0b, B0c⟩ := KB012.out.three
    have B0z := KB012.out.lt
    go_wp2_with fail
    refine (toPanel_any W0 H0 A0 c0 zs0 _ w.heap.size (hz0.below (HB12.out)) (HB12.out).size (by omega)).mono ?_
    rintro e w13 ⟨⟨A13, c13, rfl, ho13⟩, hb13⟩
    clear B0a B0b B0c B0z
    have Z13 : Hid (w12.heap.size ≤ w13.heap.size) := hid (by have h := Below.size (hb13); (try simp only [World.size_alloc, World.size_drew] at h); omega)
    have WR_13 : Hid (Rgn w13 (w2.heap.size) (w3.heap.size) 9 1 (.slice A3 (cpN W0 H0 zs0 a1) c3) (cpN W0 H0 zs0 a1) (strs (cpL W0 H0 zs0 a1))) := hid (Rgn.keep (WR_12.out) hb13)
    have GR_13 : Hid (Rgn w13 (w4.heap.size + 1) (w5.heap.size) 9 1 (.slice A5 (cpN W0 H0 zs0 a1) c5) (cpN W0 H0 zs0 a1) (strs (markTs 1 ((cpN W0 H0 zs0 a1))))) := hid (Rgn.keep (GR_12.out) hb13)
    have KB013 : Hid (Box w13 (w.heap.size) 36 #[.int .i64 W0, .int .i64 H0, .slice A0 zs0.length c0]) := hid (Box.keep (KB012.out) hb13)
    have HB13 : Hid (Below w.heap.size w w13) := hid (bstep (HB12.out) hb13)
    have TC_13 : Hid (Rgn w13 (w12.heap.size) (w13.heap.size) 2 1 (.slice A13 zs0.length c13) (zs0.length) (vals zs0)) := hid (Rgn.of ho13 (by simp) rfl)
    clear ho13
    clear hb13
    obtain ⟨B0a, B0b, B0c⟩ := KB013.out.three
    have B0z := KB013.out.lt
    go_wp2_with fail
    refine (implCurvePicture_any W0 H0 _ _ zs0 a1 _ (Rgn.ints (TC_13.out)) hl0 wa1).mono ?_
    rintro e w14 ⟨⟨A14, c14, rfl, ho14⟩, hb14⟩
    clear B0a B0b B0c B0z
    have Z14 : Hid (w13.heap.size ≤ w14.heap.size) := hid (by have h := Below.size (hb14); (try simp only [World.size_alloc, World.size_drew] at h); omega)
    have WR_14 : Hid (Rgn w14 (w2.heap.size) (w3.heap.size) 9 1 (.slice A3 (cpN W0 H0 zs0 a1) c3) (cpN W0 H0 zs0 a1) (strs (cpL W0 H0 zs0 a1))) := hid (Rgn.keep (WR_13.out) hb14)
    have GR_14 : Hid (Rgn w14 (w4.heap.size + 1) (w5.heap.size) 9 1 (.slice A5 (cpN W0 H0 zs0 a1) c5) (cpN W0 H0 zs0 a1) (strs (markTs 1 ((cpN W0 H0 zs0 a1))))) := hid (Rgn.keep (GR_13.out) hb14)
    have TC_14 : Hid (Rgn w14 (w12.heap.size) (w13.heap.size) 2 1 (.slice A13 zs0.length c13) (zs0.length) (vals zs0)) := hid (Rgn.keep (TC_13.out) hb14)
    have KB014 : Hid (Box w14 (w.heap.size) 36 #[.int .i64 W0, .int .i64 H0, .slice A0 zs0.length c0]) := hid (Box.keep (KB013.out) hb14)
    have HB14 : Hid (Below w.heap.size w w14) := hid (bstep (HB13.out) hb14)
    have HR_14 : Hid (Rgn w14 (w13.heap.size) (w14.heap.size) 9 1 (.slice A14 (cpN W0 H0 zs0 a1) c14) (cpN W0 H0 zs0 a1) (strs (cpL W0 H0 zs0 a1))) := hid (Rgn.of ho14 (by simp) rfl)
    clear ho14
    clear hb14
    obtain ⟨B0a, B0b, B0c⟩ := KB014.out.three
    have B0z := KB014.out.lt
    go_wp2_with fail
    refine (eqStringS_any _ _ (cpL W0 H0 zs0 a1) (cpN W0 H0 zs0 a1) _ _ _ ((HR_14.out)).1 ((WR_14.out)).1 (by unfold maxLen; omega)).mono ?_
    rintro e w15 ⟨rfl, hb15⟩
    clear B0a B0b B0c B0z
    have Z15 : Hid (w14.heap.size ≤ w15.heap.size) := hid (by have h := Below.size (hb15); (try simp only [World.size_alloc, World.size_drew] at h); omega)
    have WR_15 : Hid (Rgn w15 (w2.heap.size) (w3.heap.size) 9 1 (.slice A3 (cpN W0 H0 zs0 a1) c3) (cpN W0 H0 zs0 a1) (strs (cpL W0 H0 zs0 a1))) := hid (Rgn.keep (WR_14.out) hb15)
    have GR_15 : Hid (Rgn w15 (w4.heap.size + 1) (w5.heap.size) 9 1 (.slice A5 (cpN W0 H0 zs0 a1) c5) (cpN W0 H0 zs0 a1) (strs (markTs 1 ((cpN W0 H0 zs0 a1))))) := hid (Rgn.keep (GR_14.out) hb15)
    have HR_15 : Hid (Rgn w15 (w13.heap.size) (w14.heap.size) 9 1 (.slice A14 (cpN W0 H0 zs0 a1) c14) (cpN W0 H0 zs0 a1) (strs (cpL W0 H0 zs0 a1))) := hid (Rgn.keep (HR_14.out) hb15)
    have KB015 : Hid (Box w15 (w.heap.size) 36 #[.int .i64 W0, .int .i64 H0, .slice A0 zs0.length c0]) := hid (Box.keep (KB014.out) hb15)
    have HB15 : Hid (Below w.heap.size w w15) := hid (bstep (HB14.out) hb15)
    clear hb15
    obtain ⟨B0a, B0b, B0c⟩ := KB015.out.three
    have B0z := KB015.out.lt
    go_wp2_with fail
    refine (heldStringS_any _ (cpN W0 H0 zs0 a1) 1 _ _ _ (GR_15.out) (by decide) (by omega)).mono ?_
    rintro e w16 ⟨rfl, hb16⟩
    clear B0a B0b B0c B0z
    have Z16 : Hid (w15.heap.size ≤ w16.heap.size) := hid (by have h := Below.size (hb16); (try simp only [World.size_alloc, World.size_drew] at h); omega)
    have GR_16 : Hid (Rgn w16 (w4.heap.size + 1) (w5.heap.size) 9 1 (.slice A5 (cpN W0 H0 zs0 a1) c5) (cpN W0 H0 zs0 a1) (strs (markTs 1 ((cpN W0 H0 zs0 a1))))) := hid (Rgn.keep (GR_15.out) hb16)
    have KB016 : Hid (Box w16 (w.heap.size) 36 #[.int .i64 W0, .int .i64 H0, .slice A0 zs0.length c0]) := hid (Box.keep (KB015.out) hb16)
    have HB16 : Hid (Below w.heap.size w w16) := hid (bstep (HB15.out) hb16)
    clear hb16
    obtain ⟨B0a, B0b, B0c⟩ := KB016.out.three
    have B0z := KB016.out.lt
    go_wp2_with fail
    go_ret
    exact ⟨rfl, (HB16.out)⟩
  · go_enter Try.func11, Try.ntmps11
    go_wp2_with fail
    refine (szPanel_big _ _ _ _ _ _ _ (by omega) (by omega) hl0).mono ?_
    rintro e w1 ⟨rfl, hb1⟩
    have HB := hid (bstep (bal (Below.refl _ _) _) hb1)
    clear hb1
    go_wp2_with fail
    go_ret
    exact ⟨rfl, HB.out⟩
end Go.Proofs.Ytgcgaoblbhojnaa

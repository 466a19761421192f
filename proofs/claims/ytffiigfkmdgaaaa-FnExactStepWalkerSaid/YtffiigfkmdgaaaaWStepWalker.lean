/- The walk of FnExactStepWalker. -/
import Derived.Test.YtffiigfkmdgaaaaSw
import Derived.Test.YtffiigfkmdgaaaaAu
import Derived.Deep.RegionHeld3
namespace Go.Proofs.Ytffiigfkmdgaaaa
set_option linter.unusedSimpArgs false
set_option linter.unusedVariables false
open Go.ChangeShapes Go.WideShapes Go.ChangeAt Go.RowKit
set_option maxHeartbeats 1000000 in
set_option maxRecDepth 100000 in
theorem fnExactStepWalker_walk (w : World) (W0 : Int) (H0 : Int) (A0 : Option Addr) (c0 : Nat) (zs0 : List Int) (wW0 : (Lit.int .i64 W0).wf = true) (wH0 : (Lit.int .i64 H0).wf = true) (hl0 : zs0.length ≤ maxLen) (hz0 : Ints w w.heap.size A0 zs0) (hw0 : ∀ z ∈ zs0, (Lit.int .i64 z).wf = true)
    (x1 : Int) (y1 : Int) (dx1 : Int) (dy1 : Int) (wx1 : (Lit.int .i64 x1).wf = true) (wy1 : (Lit.int .i64 y1).wf = true) (wdx1 : (Lit.int .i64 dx1).wf = true) (wdy1 : (Lit.int .i64 dy1).wf = true) :
    Calls Try.prog 13 #[.agg #[.int .i64 W0, .int .i64 H0, .slice A0 zs0.length c0], .agg #[.int .i64 x1, .int .i64 y1, .int .i64 dx1, .int .i64 dy1]] w fun e w' => e = .returned (.bool true) ∧ Below w.heap.size w w' := by
  by_cases hs : (zs0.length : Int) ≤ 1048576
  · go_enter Try.func13, Try.ntmps13
    go_wp2_with fail
    refine (szPanel_any _ _ _ _ _ _ _ hs (by omega)).mono ?_
    rintro e w1 ⟨rfl, hb1⟩
    have KB01 : Hid (Box w1 (w.heap.size) 24 #[.int .i64 W0, .int .i64 H0, .slice A0 zs0.length c0]) := hid (Box.keep (Box.alloc (Box.new' _ _ _ _ (by simp)) _) hb1)
    have KB11 : Hid (Box w1 (w.heap.size + 1) 52 #[.int .i64 x1, .int .i64 y1, .int .i64 dx1, .int .i64 dy1]) := hid (Box.keep (Box.new' _ _ _ _ (by simp)) hb1)
    have HB1 : Hid (Below w.heap.size w w1) := hid (bstep (bal (bal (Below.refl _ _) _) _) hb1)
    clear hb1
    obtain ⟨B0a, B0b, B0c⟩ := KB01.out.three
    have B0z := KB01.out.lt
    obtain ⟨B1a, B1b, B1c, B1d⟩ := KB11.out.four
    have B1z := KB11.out.lt
    go_wp2_with fail
    clear B0a B0b B0c B0z B1a B1b B1c B1d B1z
    go_cut [6, 7] (fun s6 s7 wz => ∃ bb : Nat, s6 = .pointer (some ⟨bb, 0, none⟩) ∧ s7 = .int .i64 (codeW W0 H0 zs0 x1 y1 dx1 dy1) ∧ Hid (Below w.heap.size w wz) ∧ Hid (Box wz bb 44 #[.int .i64 (swX W0 H0 zs0 x1 y1 dx1 dy1), .int .i64 (swY W0 H0 zs0 x1 y1 dx1 dy1), .int .i64 (swU W0 H0 zs0 x1 y1 dx1 dy1), .int .i64 (swV W0 H0 zs0 x1 y1 dx1 dy1)]) ∧ Hid (Box wz (w.heap.size) 24 #[.int .i64 W0, .int .i64 H0, .slice A0 zs0.length c0]) ∧ Hid (Box wz (w.heap.size + 1) 52 #[.int .i64 x1, .int .i64 y1, .int .i64 dx1, .int .i64 dy1]))
    case first =>
      obtain ⟨B0a, B0b, B0c⟩ := KB01.out.three
      have B0z := KB01.out.lt
      obtain ⟨B1a, B1b, B1c, B1d⟩ := KB11.out.four
      have B1z := KB11.out.lt
      go_region_held3 (fun zz => zz.cell? ⟨w.heap.size, 0, none⟩ = some (.int .i64 W0) ∧ zz.cell? ⟨w.heap.size, 1, none⟩ = some (.int .i64 H0) ∧ zz.cell? ⟨w.heap.size, 2, none⟩ = some (.slice A0 zs0.length c0) ∧ zz.cell? ⟨w.heap.size + 1, 0, none⟩ = some (.int .i64 x1) ∧ zz.cell? ⟨w.heap.size + 1, 1, none⟩ = some (.int .i64 y1) ∧ zz.cell? ⟨w.heap.size + 1, 2, none⟩ = some (.int .i64 dx1) ∧ zz.cell? ⟨w.heap.size + 1, 3, none⟩ = some (.int .i64 dy1))
        (first | exact ⟨(Box.three (show Box _ (w.heap.size) 24 #[.int .i64 W0, .int .i64 H0, .slice A0 zs0.length c0] by boxall)).1, (Box.three (show Box _ (w.heap.size) 24 #[.int .i64 W0, .int .i64 H0, .slice A0 zs0.length c0] by boxall)).2.1, (Box.three (show Box _ (w.heap.size) 24 #[.int .i64 W0, .int .i64 H0, .slice A0 zs0.length c0] by boxall)).2.2, (Box.four (show Box _ (w.heap.size + 1) 52 #[.int .i64 x1, .int .i64 y1, .int .i64 dx1, .int .i64 dy1] by boxall)).1, (Box.four (show Box _ (w.heap.size + 1) 52 #[.int .i64 x1, .int .i64 y1, .int .i64 dx1, .int .i64 dy1] by boxall)).2.1, (Box.four (show Box _ (w.heap.size + 1) 52 #[.int .i64 x1, .int .i64 y1, .int .i64 dx1, .int .i64 dy1] by boxall)).2.2.1, (Box.four (show Box _ (w.heap.size + 1) 52 #[.int .i64 x1, .int .i64 y1, .int .i64 dx1, .int .i64 dy1] by boxall)).2.2.2⟩)
        (first | (go_at_call 17; refine (toPanel_any W0 H0 A0 c0 zs0 _ w.heap.size (hz0.below (by belall)) (Below.size (w := w) (B := w.heap.size) (by belall)) (by omega)).mono ?_; rintro e w2 ⟨⟨A2, c2, rfl, ho2⟩, hb2⟩; have HB2 := hid hb2; (first | (have KZ2 := hid (box_of_alloc hb2)) | (have KZ2 := hid (box_of_alloc' hb2)) | (have KZ2 := hid (Box.keep KZ1.out hb2)) | skip); (try (obtain ⟨za2, zb2, zc2, zd2⟩ := KZ2.out.four; have zf2 := KZ2.out.free)); clear hb2; have HO2 := hid (own_low (w := w) ho2 (by belall)); clear ho2) | (go_at_call_of 31 x1; refine (toWalker_any x1 y1 dx1 dy1 _).mono ?_; rintro e w3 ⟨rfl, hb3⟩; have HB3 := hid hb3; (first | (have KZ3 := hid (box_of_alloc hb3)) | (have KZ3 := hid (box_of_alloc' hb3)) | (have KZ3 := hid (Box.keep KZ2.out hb3)) | skip); (try (obtain ⟨za3, zb3, zc3, zd3⟩ := KZ3.out.four; have zf3 := KZ3.out.free)); clear hb3) | (go_at_call 59; refine (specStepWalker_any W0 H0 A2 c2 zs0 x1 y1 dx1 dy1 _ (own_ints (w := w) (n := zs0.length) (c := c2) (by ownall)) hl0 wx1 wy1 wdx1 wdy1).mono ?_; rintro e w4 ⟨rfl, hb4⟩; have HB4 := hid hb4; (first | (have KZ4 := hid (box_of_alloc hb4)) | (have KZ4 := hid (box_of_alloc' hb4)) | (have KZ4 := hid (Box.keep KZ3.out hb4)) | skip); (try (obtain ⟨za4, zb4, zc4, zd4⟩ := KZ4.out.four; have zf4 := KZ4.out.free)); clear hb4))
      all_goals (try go_wp2_with fail)
      all_goals go_meet
      all_goals (exact ⟨_, rfl, rfl,  hid (by belall), hid (by boxall), hid (by boxall), hid (by boxall)⟩)
    obtain ⟨bb5, rfl, rfl, HB5, KN5, KB05, KB15⟩ := hcut
    obtain ⟨w5, hw5⟩ : ∃ zz : World, zz = wc := ⟨_, rfl⟩
    subst hw5
    obtain ⟨B0a, B0b, B0c⟩ := KB05.out.three
    have B0z := KB05.out.lt
    obtain ⟨B1a, B1b, B1c, B1d⟩ := KB15.out.four
    have B1z := KB15.out.lt
    obtain ⟨S0a, S0b, S0c, S0d⟩ := KN5.out.four
    have S0z := KN5.out.lt
    go_wp2_with fail
    refine (toPanel_any W0 H0 A0 c0 zs0 _ w.heap.size (hz0.below (HB5.out)) (HB5.out).size (by omega)).mono ?_
    rintro e w6 ⟨⟨A6, c6, rfl, ho6⟩, hb6⟩
    clear B0a B0b B0c B0z B1a B1b B1c B1d B1z S0a S0b S0c S0d S0z
    have KB06 : Hid (Box w6 (w.heap.size) 24 #[.int .i64 W0, .int .i64 H0, .slice A0 zs0.length c0]) := hid (Box.keep (KB05.out) hb6)
    have KB16 : Hid (Box w6 (w.heap.size + 1) 52 #[.int .i64 x1, .int .i64 y1, .int .i64 dx1, .int .i64 dy1]) := hid (Box.keep (KB15.out) hb6)
    have KS06 : Hid (Box w6 (bb5) 44 #[.int .i64 (swX W0 H0 zs0 x1 y1 dx1 dy1), .int .i64 (swY W0 H0 zs0 x1 y1 dx1 dy1), .int .i64 (swU W0 H0 zs0 x1 y1 dx1 dy1), .int .i64 (swV W0 H0 zs0 x1 y1 dx1 dy1)]) := hid (Box.keep (KN5.out) hb6)
    have HB6 : Hid (Below w.heap.size w w6) := hid (bstep (HB5.out) hb6)
    have HO6 := hid ho6
    clear ho6
    clear hb6
    obtain ⟨B0a, B0b, B0c⟩ := KB06.out.three
    have B0z := KB06.out.lt
    obtain ⟨B1a, B1b, B1c, B1d⟩ := KB16.out.four
    have B1z := KB16.out.lt
    obtain ⟨S0a, S0b, S0c, S0d⟩ := KS06.out.four
    have S0z := KS06.out.lt
    go_wp2_with fail
    have B0Xy7 : ¬ ((w6.heap.size : Nat) = w.heap.size) := by have h := KB06.out.lt; omega
    have B0Xx7 : ¬ ((w.heap.size : Nat) = w6.heap.size) := by have h := KB06.out.lt; omega
    have B1Xy7 : ¬ ((w6.heap.size : Nat) = w.heap.size + 1) := by have h := KB16.out.lt; omega
    have B1Xx7 : ¬ ((w.heap.size + 1 : Nat) = w6.heap.size) := by have h := KB16.out.lt; omega
    have S0Xy7 : ¬ ((w6.heap.size : Nat) = bb5) := by have h := KS06.out.lt; omega
    have S0Xx7 : ¬ ((bb5 : Nat) = w6.heap.size) := by have h := KS06.out.lt; omega
    clear B0a B0b B0c B0z B1a B1b B1c B1d B1z S0a S0b S0c S0d S0z
    obtain ⟨w7, hw7⟩ : ∃ zz : World, zz = (w6.alloc (.cells #[.int .i64 W0, .int .i64 H0, .slice A6 zs0.length c6] 30)) := ⟨_, rfl⟩
    have hb7 : Below ((w6.alloc (.cells #[.int .i64 W0, .int .i64 H0, .slice A6 zs0.length c6] 30))).heap.size ((w6.alloc (.cells #[.int .i64 W0, .int .i64 H0, .slice A6 zs0.length c6] 30))) w7 := hw7 ▸ Below.refl _ _
    rw [← hw7]
    have KB07 : Hid (Box w7 (w.heap.size) 24 #[.int .i64 W0, .int .i64 H0, .slice A0 zs0.length c0]) := hid (Box.keep (Box.alloc (KB06.out) _) hb7)
    have KB17 : Hid (Box w7 (w.heap.size + 1) 52 #[.int .i64 x1, .int .i64 y1, .int .i64 dx1, .int .i64 dy1]) := hid (Box.keep (Box.alloc (KB16.out) _) hb7)
    have KS07 : Hid (Box w7 (bb5) 44 #[.int .i64 (swX W0 H0 zs0 x1 y1 dx1 dy1), .int .i64 (swY W0 H0 zs0 x1 y1 dx1 dy1), .int .i64 (swU W0 H0 zs0 x1 y1 dx1 dy1), .int .i64 (swV W0 H0 zs0 x1 y1 dx1 dy1)]) := hid (Box.keep (Box.alloc (KS06.out) _) hb7)
    have KX7 : Hid (Box w7 (w6.heap.size) 30 #[.int .i64 W0, .int .i64 H0, .slice A6 zs0.length c6]) := hid (Box.keep (Box.new' _ _ _ _ (by simp)) hb7)
    have HO6_7 := hid (OwnI.keep (OwnI.alloc (HO6.out) _) hb7)
    have HB7 : Hid (Below w.heap.size w w7) := hid (bstep (bal (HB6.out) _) hb7)
    clear hb7 hw7
    obtain ⟨B0a, B0b, B0c⟩ := KB07.out.three
    have B0z := KB07.out.lt
    obtain ⟨B1a, B1b, B1c, B1d⟩ := KB17.out.four
    have B1z := KB17.out.lt
    obtain ⟨S0a, S0b, S0c, S0d⟩ := KS07.out.four
    have S0z := KS07.out.lt
    obtain ⟨Xa, Xb, Xc⟩ := KX7.out.three
    have Xz := KX7.out.lt
    clear B0a B0b B0c B0z B1a B1b B1c B1d B1z S0a S0b S0c S0d S0z Xa Xb Xc Xz
    have HO6l := hid (own_low (w := w) (HO6_7.out) (by belall))
    go_cut [9, 10] (fun s9 s10 wz => ∃ bb : Nat, s9 = .pointer (some ⟨bb, 0, none⟩) ∧ s10 = .int .i64 (codeW W0 H0 zs0 x1 y1 dx1 dy1) ∧ Hid (Below w.heap.size w wz) ∧ Hid (Box wz bb 44 #[.int .i64 (swX W0 H0 zs0 x1 y1 dx1 dy1), .int .i64 (swY W0 H0 zs0 x1 y1 dx1 dy1), .int .i64 (swU W0 H0 zs0 x1 y1 dx1 dy1), .int .i64 (swV W0 H0 zs0 x1 y1 dx1 dy1)]) ∧ Hid (Box wz (w.heap.size) 24 #[.int .i64 W0, .int .i64 H0, .slice A0 zs0.length c0]) ∧ Hid (Box wz (w.heap.size + 1) 52 #[.int .i64 x1, .int .i64 y1, .int .i64 dx1, .int .i64 dy1]) ∧ Hid (Box wz (bb5) 44 #[.int .i64 (swX W0 H0 zs0 x1 y1 dx1 dy1), .int .i64 (swY W0 H0 zs0 x1 y1 dx1 dy1), .int .i64 (swU W0 H0 zs0 x1 y1 dx1 dy1), .int .i64 (swV W0 H0 zs0 x1 y1 dx1 dy1)]) ∧ Hid (Box wz (w6.heap.size) 30 #[.int .i64 W0, .int .i64 H0, .slice A6 zs0.length c6]) ∧ Hid (OwnI wz w.heap.size (.slice A6 zs0.length c6) zs0))
    case first =>
      obtain ⟨B0a, B0b, B0c⟩ := KB07.out.three
      have B0z := KB07.out.lt
      obtain ⟨B1a, B1b, B1c, B1d⟩ := KB17.out.four
      have B1z := KB17.out.lt
      obtain ⟨S0a, S0b, S0c, S0d⟩ := KS07.out.four
      have S0z := KS07.out.lt
      obtain ⟨Xa, Xb, Xc⟩ := KX7.out.three
      have Xz := KX7.out.lt
      go_region_held3 (fun zz => zz.cell? ⟨w.heap.size + 1, 0, none⟩ = some (.int .i64 x1) ∧ zz.cell? ⟨w.heap.size + 1, 1, none⟩ = some (.int .i64 y1) ∧ zz.cell? ⟨w.heap.size + 1, 2, none⟩ = some (.int .i64 dx1) ∧ zz.cell? ⟨w.heap.size + 1, 3, none⟩ = some (.int .i64 dy1) ∧ zz.cell? ⟨w6.heap.size, 0, none⟩ = some (.int .i64 W0) ∧ zz.cell? ⟨w6.heap.size, 1, none⟩ = some (.int .i64 H0) ∧ zz.cell? ⟨w6.heap.size, 2, none⟩ = some (.slice A6 zs0.length c6))
        (first | exact ⟨(Box.four (show Box _ (w.heap.size + 1) 52 #[.int .i64 x1, .int .i64 y1, .int .i64 dx1, .int .i64 dy1] by boxall)).1, (Box.four (show Box _ (w.heap.size + 1) 52 #[.int .i64 x1, .int .i64 y1, .int .i64 dx1, .int .i64 dy1] by boxall)).2.1, (Box.four (show Box _ (w.heap.size + 1) 52 #[.int .i64 x1, .int .i64 y1, .int .i64 dx1, .int .i64 dy1] by boxall)).2.2.1, (Box.four (show Box _ (w.heap.size + 1) 52 #[.int .i64 x1, .int .i64 y1, .int .i64 dx1, .int .i64 dy1] by boxall)).2.2.2, (Box.three (show Box _ (w6.heap.size) 30 #[.int .i64 W0, .int .i64 H0, .slice A6 zs0.length c6] by boxall)).1, (Box.three (show Box _ (w6.heap.size) 30 #[.int .i64 W0, .int .i64 H0, .slice A6 zs0.length c6] by boxall)).2.1, (Box.three (show Box _ (w6.heap.size) 30 #[.int .i64 W0, .int .i64 H0, .slice A6 zs0.length c6] by boxall)).2.2⟩)
        (first | (go_at_call_of 31 x1; refine (toWalker_any x1 y1 dx1 dy1 _).mono ?_; rintro e w8 ⟨rfl, hb8⟩; have HB8 := hid hb8; (first | (have KZ8 := hid (box_of_alloc hb8)) | (have KZ8 := hid (box_of_alloc' hb8)) | (have KZ8 := hid (Box.keep KZ7.out hb8)) | skip); (try (obtain ⟨za8, zb8, zc8, zd8⟩ := KZ8.out.four; have zf8 := KZ8.out.free)); clear hb8) | (go_at_call 41; refine (implStepWalker_any W0 H0 A6 c6 zs0 x1 y1 dx1 dy1 _ (own_ints (w := w) (n := zs0.length) (c := c6) (by ownall)) hl0 wx1 wy1 wdx1 wdy1).mono ?_; rintro e w9 ⟨rfl, hb9⟩; have HB9 := hid hb9; (first | (have KZ9 := hid (box_of_alloc hb9)) | (have KZ9 := hid (box_of_alloc' hb9)) | (have KZ9 := hid (Box.keep KZ8.out hb9)) | skip); (try (obtain ⟨za9, zb9, zc9, zd9⟩ := KZ9.out.four; have zf9 := KZ9.out.free)); clear hb9))
      all_goals (try go_wp2_with fail)
      all_goals go_meet
      all_goals (exact ⟨_, rfl, rfl,  hid (by belall), hid (by boxall), hid (by boxall), hid (by boxall), hid (by boxall), hid (by boxall), hid (by ownall)⟩)
    obtain ⟨bb10, rfl, rfl, HB10, KN10, KB010, KB110, KS010, KX10, HO6_10⟩ := hcut
    obtain ⟨w10, hw10⟩ : ∃ zz : World, zz = wc := ⟨_, rfl⟩
    subst hw10
    obtain ⟨B0a, B0b, B0c⟩ := KB010.out.three
    have B0z := KB010.out.lt
    obtain ⟨B1a, B1b, B1c, B1d⟩ := KB110.out.four
    have B1z := KB110.out.lt
    obtain ⟨S0a, S0b, S0c, S0d⟩ := KS010.out.four
    have S0z := KS010.out.lt
    obtain ⟨Xa, Xb, Xc⟩ := KX10.out.three
    have Xz := KX10.out.lt
    obtain ⟨G0a, G0b, G0c, G0d⟩ := KN10.out.four
    have G0z := KN10.out.lt
    go_wp2_with fail
    refine (eqWalker_any _ _ _ _ _).mono ?_
    rintro e w11 ⟨rfl, hb11⟩
    clear B0a B0b B0c B0z B1a B1b B1c B1d B1z S0a S0b S0c S0d S0z Xa Xb Xc Xz G0a G0b G0c G0d G0z
    have KB011 : Hid (Box w11 (w.heap.size) 24 #[.int .i64 W0, .int .i64 H0, .slice A0 zs0.length c0]) := hid (Box.keep (KB010.out) hb11)
    have KB111 : Hid (Box w11 (w.heap.size + 1) 52 #[.int .i64 x1, .int .i64 y1, .int .i64 dx1, .int .i64 dy1]) := hid (Box.keep (KB110.out) hb11)
    have KS011 : Hid (Box w11 (bb5) 44 #[.int .i64 (swX W0 H0 zs0 x1 y1 dx1 dy1), .int .i64 (swY W0 H0 zs0 x1 y1 dx1 dy1), .int .i64 (swU W0 H0 zs0 x1 y1 dx1 dy1), .int .i64 (swV W0 H0 zs0 x1 y1 dx1 dy1)]) := hid (Box.keep (KS010.out) hb11)
    have KX11 : Hid (Box w11 (w6.heap.size) 30 #[.int .i64 W0, .int .i64 H0, .slice A6 zs0.length c6]) := hid (Box.keep (KX10.out) hb11)
    have KG011 : Hid (Box w11 (bb10) 44 #[.int .i64 (swX W0 H0 zs0 x1 y1 dx1 dy1), .int .i64 (swY W0 H0 zs0 x1 y1 dx1 dy1), .int .i64 (swU W0 H0 zs0 x1 y1 dx1 dy1), .int .i64 (swV W0 H0 zs0 x1 y1 dx1 dy1)]) := hid (Box.keep (KN10.out) hb11)
    have HO6_11 := hid (OwnI.keep (HO6_10.out) hb11)
    have HB11 : Hid (Below w.heap.size w w11) := hid (bstep (HB10.out) hb11)
    clear hb11
    obtain ⟨B0a, B0b, B0c⟩ := KB011.out.three
    have B0z := KB011.out.lt
    obtain ⟨B1a, B1b, B1c, B1d⟩ := KB111.out.four
    have B1z := KB111.out.lt
    obtain ⟨S0a, S0b, S0c, S0d⟩ := KS011.out.four
    have S0z := KS011.out.lt
    obtain ⟨Xa, Xb, Xc⟩ := KX11.out.three
    have Xz := KX11.out.lt
    obtain ⟨G0a, G0b, G0c, G0d⟩ := KG011.out.four
    have G0z := KG011.out.lt
    go_wp2_with fail
    go_region_held3 (fun zz => zz.cell? ⟨w.heap.size, 0, none⟩ = some (.int .i64 W0) ∧ zz.cell? ⟨w.heap.size, 1, none⟩ = some (.int .i64 H0) ∧ zz.cell? ⟨w.heap.size, 2, none⟩ = some (.slice A0 zs0.length c0) ∧ zz.cell? ⟨w6.heap.size, 0, none⟩ = some (.int .i64 W0) ∧ zz.cell? ⟨w6.heap.size, 1, none⟩ = some (.int .i64 H0) ∧ zz.cell? ⟨w6.heap.size, 2, none⟩ = some (.slice A6 zs0.length c6))
      (first | (with_reducible exact ⟨(Box.three KB012.out).1, (Box.three KB012.out).2.1, (Box.three KB012.out).2.2, (Box.three KX12.out).1, (Box.three KX12.out).2.1, (Box.three KX12.out).2.2⟩) | (with_reducible exact ⟨(Box.three KB013.out).1, (Box.three KB013.out).2.1, (Box.three KB013.out).2.2, (Box.three KX13.out).1, (Box.three KX13.out).2.1, (Box.three KX13.out).2.2⟩) | exact ⟨(Box.three ((KB011.out))).1, (Box.three ((KB011.out))).2.1, (Box.three ((KB011.out))).2.2, (Box.three ((KX11.out))).1, (Box.three ((KX11.out))).2.1, (Box.three ((KX11.out))).2.2⟩)
      (first | (go_at_call 17; refine (toPanel_any W0 H0 A0 c0 zs0 _ w.heap.size (hz0.below (Below.drew (HB11.out))) (Below.drew (HB11.out)).size (by omega)).mono ?_; rintro e w12 ⟨⟨A12, c12, rfl, ho12⟩, hb12⟩; have hc12 := Below.trans (below_refl_drew _ _) hb12; have KB012 : Hid (Box w12 (w.heap.size) 24 #[.int .i64 W0, .int .i64 H0, .slice A0 zs0.length c0]) := hid (Box.keep (KB011.out) hc12); have KB112 : Hid (Box w12 (w.heap.size + 1) 52 #[.int .i64 x1, .int .i64 y1, .int .i64 dx1, .int .i64 dy1]) := hid (Box.keep (KB111.out) hc12); have KS012 : Hid (Box w12 (bb5) 44 #[.int .i64 (swX W0 H0 zs0 x1 y1 dx1 dy1), .int .i64 (swY W0 H0 zs0 x1 y1 dx1 dy1), .int .i64 (swU W0 H0 zs0 x1 y1 dx1 dy1), .int .i64 (swV W0 H0 zs0 x1 y1 dx1 dy1)]) := hid (Box.keep (KS011.out) hc12); have KX12 : Hid (Box w12 (w6.heap.size) 30 #[.int .i64 W0, .int .i64 H0, .slice A6 zs0.length c6]) := hid (Box.keep (KX11.out) hc12); have KG012 : Hid (Box w12 (bb10) 44 #[.int .i64 (swX W0 H0 zs0 x1 y1 dx1 dy1), .int .i64 (swY W0 H0 zs0 x1 y1 dx1 dy1), .int .i64 (swU W0 H0 zs0 x1 y1 dx1 dy1), .int .i64 (swV W0 H0 zs0 x1 y1 dx1 dy1)]) := hid (Box.keep (KG011.out) hc12); have HO6_12 := hid (OwnI.keep (HO6_11.out) hc12); have HB12 : Hid (Below w.heap.size w w12) := hid (bstep (HB11.out) hc12); have HO12 := hid ho12; clear ho12; clear hb12 hc12) | (go_at_call 20; refine (eqPanel_any W0 H0 W0 H0 _ _ _ _ zs0 zs0 _ (OwnI.ints (HO6_12.out)) (OwnI.ints (HO12.out)) hl0 hl0 rfl rfl rfl).mono ?_; rintro e w13 ⟨rfl, hb13⟩; have KB013 : Hid (Box w13 (w.heap.size) 24 #[.int .i64 W0, .int .i64 H0, .slice A0 zs0.length c0]) := hid (Box.keep (KB012.out) hb13); have KB113 : Hid (Box w13 (w.heap.size + 1) 52 #[.int .i64 x1, .int .i64 y1, .int .i64 dx1, .int .i64 dy1]) := hid (Box.keep (KB112.out) hb13); have KS013 : Hid (Box w13 (bb5) 44 #[.int .i64 (swX W0 H0 zs0 x1 y1 dx1 dy1), .int .i64 (swY W0 H0 zs0 x1 y1 dx1 dy1), .int .i64 (swU W0 H0 zs0 x1 y1 dx1 dy1), .int .i64 (swV W0 H0 zs0 x1 y1 dx1 dy1)]) := hid (Box.keep (KS012.out) hb13); have KX13 : Hid (Box w13 (w6.heap.size) 30 #[.int .i64 W0, .int .i64 H0, .slice A6 zs0.length c6]) := hid (Box.keep (KX12.out) hb13); have KG013 : Hid (Box w13 (bb10) 44 #[.int .i64 (swX W0 H0 zs0 x1 y1 dx1 dy1), .int .i64 (swY W0 H0 zs0 x1 y1 dx1 dy1), .int .i64 (swU W0 H0 zs0 x1 y1 dx1 dy1), .int .i64 (swV W0 H0 zs0 x1 y1 dx1 dy1)]) := hid (Box.keep (KG012.out) hb13); have HO6_13 := hid (OwnI.keep (HO6_12.out) hb13); have HO12_13 := hid (OwnI.keep (HO12.out) hb13); have HB13 : Hid (Below w.heap.size w w13) := hid (bstep (HB12.out) hb13); clear hb13))
    clear B0a B0b B0c B0z B1a B1b B1c B1d B1z S0a S0b S0c S0d S0z Xa Xb Xc Xz G0a G0b G0c G0d G0z
    obtain ⟨B0a, B0b, B0c⟩ := KB013.out.three
    have B0z := KB013.out.lt
    obtain ⟨B1a, B1b, B1c, B1d⟩ := KB113.out.four
    have B1z := KB113.out.lt
    obtain ⟨S0a, S0b, S0c, S0d⟩ := KS013.out.four
    have S0z := KS013.out.lt
    obtain ⟨Xa, Xb, Xc⟩ := KX13.out.three
    have Xz := KX13.out.lt
    obtain ⟨G0a, G0b, G0c, G0d⟩ := KG013.out.four
    have G0z := KG013.out.lt
    go_wp2_with fail
    go_ret
    exact ⟨rfl, (HB13.out)⟩
  · go_enter Try.func13, Try.ntmps13
    go_wp2_with fail
    refine (szPanel_big _ _ _ _ _ _ _ (by omega) (by omega) hl0).mono ?_
    rintro e w1 ⟨rfl, hb1⟩
    have HB := hid (bstep (bal (bal (Below.refl _ _) _) _) hb1)
    clear hb1
    go_wp2_with fail
    go_ret
    exact ⟨rfl, HB.out⟩
end Go.Proofs.Ytffiigfkmdgaaaa

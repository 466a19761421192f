/- The walk of FnExactWalkerAt. -/
import Derived.Test.YtodhmoffnimdbaaWt
import Derived.Test.YtodhmoffnimdbaaLw
import Derived.Deep.RegionHeld3
namespace Go.Proofs.Ytodhmoffnimdbaa
set_option linter.unusedSimpArgs false
set_option linter.unusedVariables false
open Go.ChangeShapes Go.WideShapes Go.ChangeAt Go.RowKit
set_option maxHeartbeats 1000000 in
theorem fnExactWalkerAt_walk (w : World) (W0 : Int) (H0 : Int) (A0 : Option Addr) (c0 : Nat) (zs0 : List Int) (wW0 : (Lit.int .i64 W0).wf = true) (wH0 : (Lit.int .i64 H0).wf = true) (hl0 : zs0.length ≤ maxLen) (hz0 : Ints w w.heap.size A0 zs0) (hw0 : ∀ z ∈ zs0, (Lit.int .i64 z).wf = true)
    (a1 : Int) (wa1 : (Lit.int .i64 a1).wf = true) :
    Calls Try.prog 12 #[.agg #[.int .i64 W0, .int .i64 H0, .slice A0 zs0.length c0], .int .i64 a1] w fun e w' => e = .returned (.bool true) ∧ Below w.heap.size w w' := by
  by_cases hs : (zs0.length : Int) ≤ 1048576
  · go_enter Try.func12, Try.ntmps12
    go_wp2_with fail
    refine (szPanel_any _ _ _ _ _ _ _ hs (by omega)).mono ?_
    rintro e w1 ⟨rfl, hb1⟩
    have KB01 : Hid (Box w1 (w.heap.size) 27 #[.int .i64 W0, .int .i64 H0, .slice A0 zs0.length c0]) := hid (Box.keep (Box.new' _ _ _ _ (by simp)) hb1)
    have HB1 : Hid (Below w.heap.size w w1) := hid (bstep (bal (Below.refl _ _) _) hb1)
    clear hb1
    obtain ⟨B0a, B0b, B0c⟩ := KB01.out.three
    have B0z := KB01.out.lt
    go_wp2_with fail
    refine (toPanel_any W0 H0 A0 c0 zs0 _ w.heap.size (hz0.below (HB1.out)) (HB1.out).size (by omega)).mono ?_
    rintro e w2 ⟨⟨A2, c2, rfl, ho2⟩, hb2⟩
    clear B0a B0b B0c B0z
    have KB02 : Hid (Box w2 (w.heap.size) 27 #[.int .i64 W0, .int .i64 H0, .slice A0 zs0.length c0]) := hid (Box.keep (KB01.out) hb2)
    have HB2 : Hid (Below w.heap.size w w2) := hid (bstep (HB1.out) hb2)
    have HO2 := hid ho2
    clear ho2
    clear hb2
    obtain ⟨B0a, B0b, B0c⟩ := KB02.out.three
    have B0z := KB02.out.lt
    go_wp2_with fail
    refine (specWalkerAt_any W0 H0 _ _ zs0 a1 _ (OwnI.ints (HO2.out)) hl0 wa1).mono ?_
    rintro e w3 ⟨rfl, hb3⟩
    clear B0a B0b B0c B0z
    have KB03 : Hid (Box w3 (w.heap.size) 27 #[.int .i64 W0, .int .i64 H0, .slice A0 zs0.length c0]) := hid (Box.keep (KB02.out) hb3)
    have HO2_3 := hid (OwnI.keep (HO2.out) hb3)
    have HB3 : Hid (Below w.heap.size w w3) := hid (bstep (HB2.out) hb3)
    clear hb3
    obtain ⟨B0a, B0b, B0c⟩ := KB03.out.three
    have B0z := KB03.out.lt
    go_wp2_with fail
    refine (toPanel_any W0 H0 A0 c0 zs0 _ w.heap.size (hz0.below (bal (HB3.out) _)) (bal (HB3.out) _).size (by omega)).mono ?_
    rintro e w4 ⟨⟨A4, c4, rfl, ho4⟩, hb4⟩
    clear B0a B0b B0c B0z
    have KB04 : Hid (Box w4 (w.heap.size) 27 #[.int .i64 W0, .int .i64 H0, .slice A0 zs0.length c0]) := hid (Box.keep (Box.alloc (KB03.out) _) hb4)
    have KS04 : Hid (Box w4 (w3.heap.size) 48 #[.int .i64 (wtX W0 H0 zs0 a1), .int .i64 (wtY W0 H0 zs0 a1), .int .i64 (wtU W0 H0 zs0 a1), .int .i64 (wtD W0 H0 zs0 a1)]) := hid (Box.keep (Box.new' _ _ _ _ (by simp)) hb4)
    have HO2_4 := hid (OwnI.keep (OwnI.alloc (HO2_3.out) _) hb4)
    have HB4 : Hid (Below w.heap.size w w4) := hid (bstep (bal (HB3.out) _) hb4)
    have HO4 := hid ho4
    clear ho4
    clear hb4
    obtain ⟨B0a, B0b, B0c⟩ := KB04.out.three
    have B0z := KB04.out.lt
    obtain ⟨S0a, S0b, S0c, S0d⟩ := KS04.out.four
    have S0z := KS04.out.lt
    go_wp2_with fail
    refine (implWalkerAt_any W0 H0 _ _ zs0 a1 _ (OwnI.ints (OwnI.alloc (HO4.out) _)) hl0 wa1).mono ?_
    rintro e w5 ⟨rfl, hb5⟩
    clear B0a B0b B0c B0z S0a S0b S0c S0d S0z
    have KB05 : Hid (Box w5 (w.heap.size) 27 #[.int .i64 W0, .int .i64 H0, .slice A0 zs0.length c0]) := hid (Box.keep (Box.alloc (KB04.out) _) hb5)
    have KS05 : Hid (Box w5 (w3.heap.size) 48 #[.int .i64 (wtX W0 H0 zs0 a1), .int .i64 (wtY W0 H0 zs0 a1), .int .i64 (wtU W0 H0 zs0 a1), .int .i64 (wtD W0 H0 zs0 a1)]) := hid (Box.keep (Box.alloc (KS04.out) _) hb5)
    have KX5 : Hid (Box w5 (w4.heap.size) 30 #[.int .i64 W0, .int .i64 H0, .slice A4 zs0.length c4]) := hid (Box.keep (Box.new' _ _ _ _ (by simp)) hb5)
    have HO2_5 := hid (OwnI.keep (OwnI.alloc (HO2_4.out) _) hb5)
    have HO4_5 := hid (OwnI.keep (OwnI.alloc (HO4.out) _) hb5)
    have HB5 : Hid (Below w.heap.size w w5) := hid (bstep (bal (HB4.out) _) hb5)
    clear hb5
    obtain ⟨B0a, B0b, B0c⟩ := KB05.out.three
    have B0z := KB05.out.lt
    obtain ⟨S0a, S0b, S0c, S0d⟩ := KS05.out.four
    have S0z := KS05.out.lt
    obtain ⟨Xa, Xb, Xc⟩ := KX5.out.three
    have Xz := KX5.out.lt
    go_wp2_with fail
    refine (eqWalker_any _ _ _ _ _).mono ?_
    rintro e w6 ⟨rfl, hb6⟩
    clear B0a B0b B0c B0z S0a S0b S0c S0d S0z Xa Xb Xc Xz
    have KB06 : Hid (Box w6 (w.heap.size) 27 #[.int .i64 W0, .int .i64 H0, .slice A0 zs0.length c0]) := hid (Box.keep (Box.alloc (KB05.out) _) hb6)
    have KS06 : Hid (Box w6 (w3.heap.size) 48 #[.int .i64 (wtX W0 H0 zs0 a1), .int .i64 (wtY W0 H0 zs0 a1), .int .i64 (wtU W0 H0 zs0 a1), .int .i64 (wtD W0 H0 zs0 a1)]) := hid (Box.keep (Box.alloc (KS05.out) _) hb6)
    have KX6 : Hid (Box w6 (w4.heap.size) 30 #[.int .i64 W0, .int .i64 H0, .slice A4 zs0.length c4]) := hid (Box.keep (Box.alloc (KX5.out) _) hb6)
    have KG06 : Hid (Box w6 (w5.heap.size) 48 #[.int .i64 (wtX W0 H0 zs0 a1), .int .i64 (wtY W0 H0 zs0 a1), .int .i64 (wtU W0 H0 zs0 a1), .int .i64 (wtD W0 H0 zs0 a1)]) := hid (Box.keep (Box.new' _ _ _ _ (by simp)) hb6)
    have HO2_6 := hid (OwnI.keep (OwnI.alloc (HO2_5.out) _) hb6)
    have HO4_6 := hid (OwnI.keep (OwnI.alloc (HO4_5.out) _) hb6)
    have HB6 : Hid (Below w.heap.size w w6) := hid (bstep (bal (HB5.out) _) hb6)
    clear hb6
    obtain ⟨B0a, B0b, B0c⟩ := KB06.out.three
    have B0z := KB06.out.lt
    obtain ⟨S0a, S0b, S0c, S0d⟩ := KS06.out.four
    have S0z := KS06.out.lt
    obtain ⟨Xa, Xb, Xc⟩ := KX6.out.three
    have Xz := KX6.out.lt
    obtain ⟨G0a, G0b, G0c, G0d⟩ := KG06.out.four
    have G0z := KG06.out.lt
    go_wp2_with fail
    go_region_held3 (fun zz => zz.cell? ⟨w.heap.size, 0, none⟩ = some (.int .i64 W0) ∧ zz.cell? ⟨w.heap.size, 1, none⟩ = some (.int .i64 H0) ∧ zz.cell? ⟨w.heap.size, 2, none⟩ = some (.slice A0 zs0.length c0) ∧ zz.cell? ⟨w4.heap.size, 0, none⟩ = some (.int .i64 W0) ∧ zz.cell? ⟨w4.heap.size, 1, none⟩ = some (.int .i64 H0) ∧ zz.cell? ⟨w4.heap.size, 2, none⟩ = some (.slice A4 zs0.length c4))
      (first | (with_reducible exact ⟨(Box.three KB07.out).1, (Box.three KB07.out).2.1, (Box.three KB07.out).2.2, (Box.three KX7.out).1, (Box.three KX7.out).2.1, (Box.three KX7.out).2.2⟩) | (with_reducible exact ⟨(Box.three KB08.out).1, (Box.three KB08.out).2.1, (Box.three KB08.out).2.2, (Box.three KX8.out).1, (Box.three KX8.out).2.1, (Box.three KX8.out).2.2⟩) | exact ⟨(Box.three ((KB06.out))).1, (Box.three ((KB06.out))).2.1, (Box.three ((KB06.out))).2.2, (Box.three ((KX6.out))).1, (Box.three ((KX6.out))).2.1, (Box.three ((KX6.out))).2.2⟩)
      (first | (go_at_call 19; refine (toPanel_any W0 H0 A0 c0 zs0 _ w.heap.size (hz0.below (Below.drew (HB6.out))) (Below.drew (HB6.out)).size (by omega)).mono ?_; rintro e w7 ⟨⟨A7, c7, rfl, ho7⟩, hb7⟩; have hc7 := Below.trans (below_refl_drew _ _) hb7; have KB07 : Hid (Box w7 (w.heap.size) 27 #[.int .i64 W0, .int .i64 H0, .slice A0 zs0.length c0]) := hid (Box.keep (KB06.out) hc7); have KS07 : Hid (Box w7 (w3.heap.size) 48 #[.int .i64 (wtX W0 H0 zs0 a1), .int .i64 (wtY W0 H0 zs0 a1), .int .i64 (wtU W0 H0 zs0 a1), .int .i64 (wtD W0 H0 zs0 a1)]) := hid (Box.keep (KS06.out) hc7); have KX7 : Hid (Box w7 (w4.heap.size) 30 #[.int .i64 W0, .int .i64 H0, .slice A4 zs0.length c4]) := hid (Box.keep (KX6.out) hc7); have KG07 : Hid (Box w7 (w5.heap.size) 48 #[.int .i64 (wtX W0 H0 zs0 a1), .int .i64 (wtY W0 H0 zs0 a1), .int .i64 (wtU W0 H0 zs0 a1), .int .i64 (wtD W0 H0 zs0 a1)]) := hid (Box.keep (KG06.out) hc7); have HO2_7 := hid (OwnI.keep (HO2_6.out) hc7); have HO4_7 := hid (OwnI.keep (HO4_6.out) hc7); have HB7 : Hid (Below w.heap.size w w7) := hid (bstep (HB6.out) hc7); have HO7 := hid ho7; clear ho7; clear hb7 hc7) | (go_at_call 21; refine (eqPanel_any W0 H0 W0 H0 _ _ _ _ zs0 zs0 _ (OwnI.ints (HO4_7.out)) (OwnI.ints (HO7.out)) hl0 hl0 rfl rfl rfl).mono ?_; rintro e w8 ⟨rfl, hb8⟩; have KB08 : Hid (Box w8 (w.heap.size) 27 #[.int .i64 W0, .int .i64 H0, .slice A0 zs0.length c0]) := hid (Box.keep (KB07.out) hb8); have KS08 : Hid (Box w8 (w3.heap.size) 48 #[.int .i64 (wtX W0 H0 zs0 a1), .int .i64 (wtY W0 H0 zs0 a1), .int .i64 (wtU W0 H0 zs0 a1), .int .i64 (wtD W0 H0 zs0 a1)]) := hid (Box.keep (KS07.out) hb8); have KX8 : Hid (Box w8 (w4.heap.size) 30 #[.int .i64 W0, .int .i64 H0, .slice A4 zs0.length c4]) := hid (Box.keep (KX7.out) hb8); have KG08 : Hid (Box w8 (w5.heap.size) 48 #[.int .i64 (wtX W0 H0 zs0 a1), .int .i64 (wtY W0 H0 zs0 a1), .int .i64 (wtU W0 H0 zs0 a1), .int .i64 (wtD W0 H0 zs0 a1)]) := hid (Box.keep (KG07.out) hb8); have HO2_8 := hid (OwnI.keep (HO2_7.out) hb8); have HO4_8 := hid (OwnI.keep (HO4_7.out) hb8); have HO7_8 := hid (OwnI.keep (HO7.out) hb8); have HB8 : Hid (Below w.heap.size w w8) := hid (bstep (HB7.out) hb8); clear hb8))
    clear B0a B0b B0c B0z S0a S0b S0c S0d S0z Xa Xb Xc Xz G0a G0b G0c G0d G0z
    obtain ⟨B0a, B0b, B0c⟩ := KB08.out.three
    have B0z := KB08.out.lt
    obtain ⟨S0a, S0b, S0c, S0d⟩ := KS08.out.four
    have S0z := KS08.out.lt
    obtain ⟨Xa, Xb, Xc⟩ := KX8.out.three
    have Xz := KX8.out.lt
    obtain ⟨G0a, G0b, G0c, G0d⟩ := KG08.out.four
    have G0z := KG08.out.lt
    go_wp2_with fail
    go_ret
    exact ⟨rfl, (HB8.out)⟩
  · go_enter Try.func12, Try.ntmps12
    go_wp2_with fail
    refine (szPanel_big _ _ _ _ _ _ _ (by omega) (by omega) hl0).mono ?_
    rintro e w1 ⟨rfl, hb1⟩
    have HB := hid (bstep (bal (Below.refl _ _) _) hb1)
    clear hb1
    go_wp2_with fail
    go_ret
    exact ⟨rfl, HB.out⟩
end Go.Proofs.Ytodhmoffnimdbaa

/- The walk of FnExactSetBreak. -/
import Derived.Test.YtffiigfkmdgaaaaSb
import Derived.Test.YtffiigfkmdgaaaaRg
import Derived.Test.YtffiigfkmdgaaaaLw
import Derived.Test.YtffiigfkmdgaaaaNp
import Derived.Test.YtffiigfkmdgaaaaAu
import Derived.Deep.RegionHeld3
namespace Go.Proofs.Ytffiigfkmdgaaaa
set_option linter.unusedSimpArgs false
set_option linter.unusedVariables false
open Go.ChangeShapes Go.WideShapes Go.ChangeAt Go.RowKit
set_option maxHeartbeats 8000000 in
set_option maxRecDepth 100000 in
theorem fnExactSetBreak_walk (w : World) (W0 : Int) (H0 : Int) (A0 : Option Addr) (c0 : Nat) (zs0 : List Int) (wW0 : (Lit.int .i64 W0).wf = true) (wH0 : (Lit.int .i64 H0).wf = true) (hl0 : zs0.length ≤ maxLen) (hz0 : Ints w w.heap.size A0 zs0) (hw0 : ∀ z ∈ zs0, (Lit.int .i64 z).wf = true)
    (x1 : Int) (y1 : Int) (wx1 : (Lit.int .i64 x1).wf = true) (wy1 : (Lit.int .i64 y1).wf = true)
    (a2 : Int) (wa2 : (Lit.int .i64 a2).wf = true) :
    Calls Try.prog 12 #[.agg #[.int .i64 W0, .int .i64 H0, .slice A0 zs0.length c0], .agg #[.int .i64 x1, .int .i64 y1], .int .i64 a2] w fun e w' => e = .returned (.bool true) ∧ Below w.heap.size w w' := by
  by_cases hs : (zs0.length : Int) ≤ 1048576
  · have hle := sbN_le W0 H0 zs0 x1 y1 a2
    have hng1 : ¬ ((((1 + zs0.length : Nat)) : Int) < 0) := by omega
    have hng2 : ¬ ((((1 + sbN W0 H0 zs0 x1 y1 a2 : Nat)) : Int) < 0) := by omega
    go_enter Try.func12, Try.ntmps12
    go_wp2_with fail
    refine (szPanel_any _ _ _ _ _ _ _ hs (by omega)).mono ?_
    rintro e w1 ⟨rfl, hb1⟩
    have Z1 : Hid (w.heap.size + 2 ≤ w1.heap.size) := hid (by have h := Below.size (hb1); (try simp only [World.size_alloc, World.size_drew] at h); omega)
    have KB01 : Hid (Box w1 (w.heap.size) 24 #[.int .i64 W0, .int .i64 H0, .slice A0 zs0.length c0]) := hid (Box.keep (Box.alloc (Box.new' _ _ _ _ (by simp)) _) hb1)
    have KB11 : Hid (Box w1 (w.heap.size + 1) 26 #[.int .i64 x1, .int .i64 y1]) := hid (Box.keep (Box.new' _ _ _ _ (by simp)) hb1)
    have HB1 : Hid (Below w.heap.size w w1) := hid (bstep (bal (bal (Below.refl _ _) _) _) hb1)
    clear hb1
    obtain ⟨B0a, B0b, B0c⟩ := KB01.out.three
    have B0z := KB01.out.lt
    obtain ⟨B1a, B1b⟩ := KB11.out.two
    have B1z := KB11.out.lt
    go_wp2_with fail
    clear B0a B0b B0c B0z B1a B1b B1z
    go_cut [8, 9] (fun s8 s9 wz => ∃ (bb : Nat) (A' : Option Addr) (c' lo hi : Nat), s8 = .pointer (some ⟨bb, 0, none⟩) ∧ s9 = .int .i64 (sbC W0 H0 zs0 x1 y1 a2) ∧ Hid (Below w.heap.size w wz) ∧ Hid (Box wz bb 30 #[.int .i64 (sbW W0 H0 zs0 x1 y1 a2), .int .i64 (sbH W0 H0 zs0 x1 y1 a2), .slice A' (sbN W0 H0 zs0 x1 y1 a2) c']) ∧ Hid (Box wz (w.heap.size) 24 #[.int .i64 W0, .int .i64 H0, .slice A0 zs0.length c0]) ∧ Hid (Box wz (w.heap.size + 1) 26 #[.int .i64 x1, .int .i64 y1]) ∧ Hid (Rgn wz lo hi 2 1 (.slice A' (sbN W0 H0 zs0 x1 y1 a2) c') (sbN W0 H0 zs0 x1 y1 a2) (vals (sbL W0 H0 zs0 x1 y1 a2))) ∧ Hid (w1.heap.size ≤ lo ∧ hi ≤ wz.heap.size ∧ (bb < lo ∨ hi ≤ bb) ∧ w1.heap.size ≤ bb ∧ bb < wz.heap.size ∧ lo ≤ hi))
    case first =>
      have q1 := Z1.out
      obtain ⟨B0a, B0b, B0c⟩ := KB01.out.three
      have B0z := KB01.out.lt
      obtain ⟨B1a, B1b⟩ := KB11.out.two
      have B1z := KB11.out.lt
      go_region_held3 (fun zz => zz.cell? ⟨w.heap.size, 0, none⟩ = some (.int .i64 W0) ∧ zz.cell? ⟨w.heap.size, 1, none⟩ = some (.int .i64 H0) ∧ zz.cell? ⟨w.heap.size, 2, none⟩ = some (.slice A0 zs0.length c0) ∧ zz.cell? ⟨w.heap.size + 1, 0, none⟩ = some (.int .i64 x1) ∧ zz.cell? ⟨w.heap.size + 1, 1, none⟩ = some (.int .i64 y1))
        (first | exact ⟨(Box.three (show Box _ (w.heap.size) 24 #[.int .i64 W0, .int .i64 H0, .slice A0 zs0.length c0] from (by (repeat (with_reducible first | assumption | exact Hid.out (by assumption) | exact Box.new' _ _ _ _ (by simp) | refine Box.alloc ?_ _ | refine Box.drew ?_ | refine Box.drewN ?_ _ | exact Box.put4 (Hid.out (by assumption)) | exact Box.put3 (Hid.out (by assumption)) | exact Box.put2 (Hid.out (by assumption)) | refine Box.far ?_ (by (repeat (with_reducible first | exact Hid.out (by assumption) | exact Box.new' _ _ _ _ (by simp) | refine Box.alloc ?_ _ | refine Box.drew ?_ | refine Box.keep ?_ (Hid.out (by assumption))))) _ _ | refine Box.keep ?_ (Hid.out (by assumption))))))).1, (Box.three (show Box _ (w.heap.size) 24 #[.int .i64 W0, .int .i64 H0, .slice A0 zs0.length c0] from (by (repeat (with_reducible first | assumption | exact Hid.out (by assumption) | exact Box.new' _ _ _ _ (by simp) | refine Box.alloc ?_ _ | refine Box.drew ?_ | refine Box.drewN ?_ _ | exact Box.put4 (Hid.out (by assumption)) | exact Box.put3 (Hid.out (by assumption)) | exact Box.put2 (Hid.out (by assumption)) | refine Box.far ?_ (by (repeat (with_reducible first | exact Hid.out (by assumption) | exact Box.new' _ _ _ _ (by simp) | refine Box.alloc ?_ _ | refine Box.drew ?_ | refine Box.keep ?_ (Hid.out (by assumption))))) _ _ | refine Box.keep ?_ (Hid.out (by assumption))))))).2.1, (Box.three (show Box _ (w.heap.size) 24 #[.int .i64 W0, .int .i64 H0, .slice A0 zs0.length c0] from (by (repeat (with_reducible first | assumption | exact Hid.out (by assumption) | exact Box.new' _ _ _ _ (by simp) | refine Box.alloc ?_ _ | refine Box.drew ?_ | refine Box.drewN ?_ _ | exact Box.put4 (Hid.out (by assumption)) | exact Box.put3 (Hid.out (by assumption)) | exact Box.put2 (Hid.out (by assumption)) | refine Box.far ?_ (by (repeat (with_reducible first | exact Hid.out (by assumption) | exact Box.new' _ _ _ _ (by simp) | refine Box.alloc ?_ _ | refine Box.drew ?_ | refine Box.keep ?_ (Hid.out (by assumption))))) _ _ | refine Box.keep ?_ (Hid.out (by assumption))))))).2.2, (Box.two (show Box _ (w.heap.size + 1) 26 #[.int .i64 x1, .int .i64 y1] from (by (repeat (with_reducible first | assumption | exact Hid.out (by assumption) | exact Box.new' _ _ _ _ (by simp) | refine Box.alloc ?_ _ | refine Box.drew ?_ | refine Box.drewN ?_ _ | exact Box.put4 (Hid.out (by assumption)) | exact Box.put3 (Hid.out (by assumption)) | exact Box.put2 (Hid.out (by assumption)) | refine Box.far ?_ (by (repeat (with_reducible first | exact Hid.out (by assumption) | exact Box.new' _ _ _ _ (by simp) | refine Box.alloc ?_ _ | refine Box.drew ?_ | refine Box.keep ?_ (Hid.out (by assumption))))) _ _ | refine Box.keep ?_ (Hid.out (by assumption))))))).1, (Box.two (show Box _ (w.heap.size + 1) 26 #[.int .i64 x1, .int .i64 y1] from (by (repeat (with_reducible first | assumption | exact Hid.out (by assumption) | exact Box.new' _ _ _ _ (by simp) | refine Box.alloc ?_ _ | refine Box.drew ?_ | refine Box.drewN ?_ _ | exact Box.put4 (Hid.out (by assumption)) | exact Box.put3 (Hid.out (by assumption)) | exact Box.put2 (Hid.out (by assumption)) | refine Box.far ?_ (by (repeat (with_reducible first | exact Hid.out (by assumption) | exact Box.new' _ _ _ _ (by simp) | refine Box.alloc ?_ _ | refine Box.drew ?_ | refine Box.keep ?_ (Hid.out (by assumption))))) _ _ | refine Box.keep ?_ (Hid.out (by assumption))))))).2⟩)
        (first | (go_at_call 17; refine (toPanel_any W0 H0 A0 c0 zs0 _ w.heap.size (hz0.below (by (repeat (with_reducible first | assumption | exact Hid.out (by assumption) | exact Below.refl _ _ | refine bal ?_ _ | refine Below.drew ?_ | refine bel_far ?_ (by (repeat (with_reducible first | assumption | exact Hid.out (by assumption) | exact Below.refl _ _ | refine bal ?_ _ | refine Below.drew ?_ | refine bstep ?_ (Hid.out (by assumption))))) _ _ | refine bstep ?_ (Hid.out (by assumption)))))) (Below.size (w := w) (B := w.heap.size) (by (repeat (with_reducible first | assumption | exact Hid.out (by assumption) | exact Below.refl _ _ | refine bal ?_ _ | refine Below.drew ?_ | refine bel_far ?_ (by (repeat (with_reducible first | assumption | exact Hid.out (by assumption) | exact Below.refl _ _ | refine bal ?_ _ | refine Below.drew ?_ | refine bstep ?_ (Hid.out (by assumption))))) _ _ | refine bstep ?_ (Hid.out (by assumption)))))) (by omega)).mono ?_; rintro e w12 ⟨⟨A12, c12, rfl, ho12⟩, hb12⟩; have HB12 := hid hb12; have z12 := hb12.size; (try simp only [World.size_alloc, World.size_drew] at z12); (first | (have KZ12 := hid (box_of_alloc hb12)) | (have KZ12 := hid (box_of_alloc' hb12)) | (have KZ12 := hid (Box.keep KZ11.out hb12)) | (have KZ12 := hid (Box.keep KZ10.out hb12)) | skip); (try (obtain ⟨za12, zb12, zc12⟩ := KZ12.out.three; have zf12 := KZ12.out.free)); clear hb12; have HO12 := hid (own_low (w := w) ho12 (by (repeat (with_reducible first | assumption | exact Hid.out (by assumption) | exact Below.refl _ _ | refine bal ?_ _ | refine Below.drew ?_ | refine bel_far ?_ (by (repeat (with_reducible first | assumption | exact Hid.out (by assumption) | exact Below.refl _ _ | refine bal ?_ _ | refine Below.drew ?_ | refine bstep ?_ (Hid.out (by assumption))))) _ _ | refine bstep ?_ (Hid.out (by assumption)))))); clear ho12) | (go_at_call 18; refine (toPoint_any x1 y1 _).mono ?_; rintro e w13 ⟨rfl, hb13⟩; have HB13 := hid hb13; have z13 := hb13.size; (try simp only [World.size_alloc, World.size_drew] at z13); (first | (have KZ13 := hid (box_of_alloc hb13)) | (have KZ13 := hid (box_of_alloc' hb13)) | (have KZ13 := hid (Box.keep KZ12.out hb13)) | (have KZ13 := hid (Box.keep KZ11.out hb13)) | skip); (try (obtain ⟨za13, zb13, zc13⟩ := KZ13.out.three; have zf13 := KZ13.out.free)); clear hb13) | (go_at_call 57; refine (specSetBreak_any W0 H0 A12 c12 zs0 x1 y1 a2 _ (own_ints (w := w) (n := zs0.length) (c := c12) (by (repeat (with_reducible first | assumption | exact Hid.out (by assumption) | refine OwnI.alloc ?_ _ | refine OwnI.far ?_ (by (repeat (with_reducible first | exact Hid.out (by assumption) | refine OwnI.alloc ?_ _ | refine OwnI.drew ?_ | refine OwnI.keep ?_ (Hid.out (by assumption))))) _ _ | refine OwnI.drew ?_ | refine OwnI.keep ?_ (Hid.out (by assumption)))))) hl0 wx1 wy1 wa2).mono ?_; rintro e w14 ⟨⟨A14, c14, rfl, ho14⟩, hb14⟩; have HB14 := hid hb14; have z14 := hb14.size; (try simp only [World.size_alloc, World.size_drew] at z14); (first | (have KZ14 := hid (box_of_alloc hb14)) | (have KZ14 := hid (box_of_alloc' hb14)) | (have KZ14 := hid (Box.keep KZ13.out hb14)) | (have KZ14 := hid (Box.keep KZ12.out hb14)) | skip); (try (obtain ⟨za14, zb14, zc14⟩ := KZ14.out.three; have zf14 := KZ14.out.free)); obtain ⟨lo14, hlo14, HR14⟩ : ∃ lo, lo = _ ∧ Hid (Rgn w14 lo w14.heap.size 2 1 (.slice A14 (sbN W0 H0 zs0 x1 y1 a2) c14) (sbN W0 H0 zs0 x1 y1 a2) (vals (sbL W0 H0 zs0 x1 y1 a2))) := ⟨_, rfl, hid (Rgn.of ho14 rfl rfl)⟩; (try simp only [World.size_alloc, World.size_drew] at hlo14); clear hb14 ho14))
      all_goals (try go_wp2_with fail)
      all_goals go_meet
      all_goals (exact ⟨_, A14, c14, lo14, w14.heap.size, rfl, rfl, hid (by (repeat (with_reducible first | assumption | exact Hid.out (by assumption) | exact Below.refl _ _ | refine bal ?_ _ | refine Below.drew ?_ | refine bel_far ?_ (by (repeat (with_reducible first | assumption | exact Hid.out (by assumption) | exact Below.refl _ _ | refine bal ?_ _ | refine Below.drew ?_ | refine bstep ?_ (Hid.out (by assumption))))) _ _ | refine bstep ?_ (Hid.out (by assumption))))), hid (by (repeat (with_reducible first | assumption | exact Hid.out (by assumption) | exact Box.new' _ _ _ _ (by simp) | refine Box.alloc ?_ _ | refine Box.drew ?_ | refine Box.drewN ?_ _ | exact Box.put4 (Hid.out (by assumption)) | exact Box.put3 (Hid.out (by assumption)) | exact Box.put2 (Hid.out (by assumption)) | refine Box.far ?_ (by (repeat (with_reducible first | exact Hid.out (by assumption) | exact Box.new' _ _ _ _ (by simp) | refine Box.alloc ?_ _ | refine Box.drew ?_ | refine Box.keep ?_ (Hid.out (by assumption))))) _ _ | refine Box.keep ?_ (Hid.out (by assumption))))), hid (by (repeat (with_reducible first | assumption | exact Hid.out (by assumption) | exact Box.new' _ _ _ _ (by simp) | refine Box.alloc ?_ _ | refine Box.drew ?_ | refine Box.drewN ?_ _ | exact Box.put4 (Hid.out (by assumption)) | exact Box.put3 (Hid.out (by assumption)) | exact Box.put2 (Hid.out (by assumption)) | refine Box.far ?_ (by (repeat (with_reducible first | exact Hid.out (by assumption) | exact Box.new' _ _ _ _ (by simp) | refine Box.alloc ?_ _ | refine Box.drew ?_ | refine Box.keep ?_ (Hid.out (by assumption))))) _ _ | refine Box.keep ?_ (Hid.out (by assumption))))), hid (by (repeat (with_reducible first | assumption | exact Hid.out (by assumption) | exact Box.new' _ _ _ _ (by simp) | refine Box.alloc ?_ _ | refine Box.drew ?_ | refine Box.drewN ?_ _ | exact Box.put4 (Hid.out (by assumption)) | exact Box.put3 (Hid.out (by assumption)) | exact Box.put2 (Hid.out (by assumption)) | refine Box.far ?_ (by (repeat (with_reducible first | exact Hid.out (by assumption) | exact Box.new' _ _ _ _ (by simp) | refine Box.alloc ?_ _ | refine Box.drew ?_ | refine Box.keep ?_ (Hid.out (by assumption))))) _ _ | refine Box.keep ?_ (Hid.out (by assumption))))), hid (by (repeat (with_reducible first | assumption | exact Hid.out (by assumption) | refine Rgn.alloc ?_ _ | refine Rgn.set ?_ (by (try simp only [World.size_alloc, World.size_drew]); omega) _ | refine Rgn.drew ?_ | refine Rgn.keep ?_ (Hid.out (by assumption))))), hid ⟨(by (try simp only [World.size_alloc, World.size_drew, World.size_setCell]); omega), (by (try simp only [World.size_alloc, World.size_drew, World.size_setCell]); omega), (by (try simp only [World.size_alloc, World.size_drew, World.size_setCell]); omega), (by (try simp only [World.size_alloc, World.size_drew, World.size_setCell]); omega), (by (try simp only [World.size_alloc, World.size_drew, World.size_setCell]); omega), (by (try simp only [World.size_alloc, World.size_drew, World.size_setCell]); omega)⟩⟩)
    obtain ⟨bb16, A16, c16, lo16, hi16, rfl, rfl, HB16, KN16, KB016, KB116, HR16, Z16⟩ := hcut
    obtain ⟨w16, hw16⟩ : ∃ zz : World, zz = wc := ⟨_, rfl⟩
    subst hw16
    obtain ⟨B0a, B0b, B0c⟩ := KB016.out.three
    have B0z := KB016.out.lt
    obtain ⟨B1a, B1b⟩ := KB116.out.two
    have B1z := KB116.out.lt
    obtain ⟨Sa, Sb, Sc⟩ := KN16.out.three
    have Sz := KN16.out.lt
    go_wp2_with fail
    refine (toPanel_any W0 H0 A0 c0 zs0 _ w.heap.size (hz0.below (HB16.out)) (HB16.out).size (by omega)).mono ?_
    rintro e w17 ⟨⟨A17, c17, rfl, ho17⟩, hb17⟩
    clear B0a B0b B0c B0z B1a B1b B1z Sa Sb Sc Sz
    have Z17 : Hid (w16.heap.size ≤ w17.heap.size) := hid (by have h := Below.size (hb17); (try simp only [World.size_alloc, World.size_drew] at h); omega)
    have WR_17 : Hid (Rgn w17 (lo16) (hi16) 2 1 (.slice A16 (sbN W0 H0 zs0 x1 y1 a2) c16) (sbN W0 H0 zs0 x1 y1 a2) (vals (sbL W0 H0 zs0 x1 y1 a2))) := hid (Rgn.keep (HR16.out) hb17)
    have KB017 : Hid (Box w17 (w.heap.size) 24 #[.int .i64 W0, .int .i64 H0, .slice A0 zs0.length c0]) := hid (Box.keep (KB016.out) hb17)
    have KB117 : Hid (Box w17 (w.heap.size + 1) 26 #[.int .i64 x1, .int .i64 y1]) := hid (Box.keep (KB116.out) hb17)
    have KS17 : Hid (Box w17 (bb16) 30 #[.int .i64 (sbW W0 H0 zs0 x1 y1 a2), .int .i64 (sbH W0 H0 zs0 x1 y1 a2), .slice A16 (sbN W0 H0 zs0 x1 y1 a2) c16]) := hid (Box.keep (KN16.out) hb17)
    have HB17 : Hid (Below w.heap.size w w17) := hid (bstep (HB16.out) hb17)
    have XA_17 : Hid (Rgn w17 (w16.heap.size) (w17.heap.size) 2 1 (.slice A17 zs0.length c17) (zs0.length) (vals zs0)) := hid (Rgn.of ho17 (by simp) rfl)
    clear ho17
    clear hb17
    obtain ⟨B0a, B0b, B0c⟩ := KB017.out.three
    have B0z := KB017.out.lt
    obtain ⟨B1a, B1b⟩ := KB117.out.two
    have B1z := KB117.out.lt
    obtain ⟨Sa, Sb, Sc⟩ := KS17.out.three
    have Sz := KS17.out.lt
    go_wp2_with fail
    clear B0a B0b B0c B0z B1a B1b B1z Sa Sb Sc Sz
    obtain ⟨w18, hw18⟩ : ∃ zz : World, zz = (w17.alloc (.cells #[.int .i64 W0, .int .i64 H0, .slice A17 zs0.length c17] 30)) := ⟨_, rfl⟩
    have hb18 : Below ((w17.alloc (.cells #[.int .i64 W0, .int .i64 H0, .slice A17 zs0.length c17] 30))).heap.size ((w17.alloc (.cells #[.int .i64 W0, .int .i64 H0, .slice A17 zs0.length c17] 30))) w18 := hw18 ▸ Below.refl _ _
    rw [← hw18]
    have Z18 : Hid (w17.heap.size + 1 ≤ w18.heap.size) := hid (by have h := Below.size (hb18); (try simp only [World.size_alloc, World.size_drew] at h); omega)
    have WR_18 : Hid (Rgn w18 (lo16) (hi16) 2 1 (.slice A16 (sbN W0 H0 zs0 x1 y1 a2) c16) (sbN W0 H0 zs0 x1 y1 a2) (vals (sbL W0 H0 zs0 x1 y1 a2))) := hid (Rgn.keep (Rgn.alloc (WR_17.out) _) hb18)
    have XA_18 : Hid (Rgn w18 (w16.heap.size) (w17.heap.size) 2 1 (.slice A17 zs0.length c17) (zs0.length) (vals zs0)) := hid (Rgn.keep (Rgn.alloc (XA_17.out) _) hb18)
    have KB018 : Hid (Box w18 (w.heap.size) 24 #[.int .i64 W0, .int .i64 H0, .slice A0 zs0.length c0]) := hid (Box.keep (Box.alloc (KB017.out) _) hb18)
    have KB118 : Hid (Box w18 (w.heap.size + 1) 26 #[.int .i64 x1, .int .i64 y1]) := hid (Box.keep (Box.alloc (KB117.out) _) hb18)
    have KS18 : Hid (Box w18 (bb16) 30 #[.int .i64 (sbW W0 H0 zs0 x1 y1 a2), .int .i64 (sbH W0 H0 zs0 x1 y1 a2), .slice A16 (sbN W0 H0 zs0 x1 y1 a2) c16]) := hid (Box.keep (Box.alloc (KS17.out) _) hb18)
    have KX18 : Hid (Box w18 (w17.heap.size) 30 #[.int .i64 W0, .int .i64 H0, .slice A17 zs0.length c17]) := hid (Box.keep (Box.new' _ _ _ _ (by simp)) hb18)
    have HB18 : Hid (Below w.heap.size w w18) := hid (bstep (bal (HB17.out) _) hb18)
    clear hb18 hw18
    obtain ⟨B0a, B0b, B0c⟩ := KB018.out.three
    have B0z := KB018.out.lt
    obtain ⟨B1a, B1b⟩ := KB118.out.two
    have B1z := KB118.out.lt
    obtain ⟨Sa, Sb, Sc⟩ := KS18.out.three
    have Sz := KS18.out.lt
    obtain ⟨Xa, Xb, Xc⟩ := KX18.out.three
    have Xz := KX18.out.lt
    clear B0a B0b B0c B0z B1a B1b B1z Sa Sb Sc Sz Xa Xb Xc Xz
    go_cut [11, 12] (fun s11 s12 wz => ∃ (bb : Nat) (A' : Option Addr) (c' lo hi : Nat), s11 = .pointer (some ⟨bb, 0, none⟩) ∧ s12 = .int .i64 (sbC W0 H0 zs0 x1 y1 a2) ∧ Hid (Below w.heap.size w wz) ∧ Hid (Box wz bb 30 #[.int .i64 (sbW W0 H0 zs0 x1 y1 a2), .int .i64 (sbH W0 H0 zs0 x1 y1 a2), .slice A' (sbN W0 H0 zs0 x1 y1 a2) c']) ∧ Hid (Box wz (w.heap.size) 24 #[.int .i64 W0, .int .i64 H0, .slice A0 zs0.length c0]) ∧ Hid (Box wz (w.heap.size + 1) 26 #[.int .i64 x1, .int .i64 y1]) ∧ Hid (Box wz (bb16) 30 #[.int .i64 (sbW W0 H0 zs0 x1 y1 a2), .int .i64 (sbH W0 H0 zs0 x1 y1 a2), .slice A16 (sbN W0 H0 zs0 x1 y1 a2) c16]) ∧ Hid (Box wz (w17.heap.size) 30 #[.int .i64 W0, .int .i64 H0, .slice A17 zs0.length c17]) ∧ Hid (Rgn wz (lo16) (hi16) 2 1 (.slice A16 (sbN W0 H0 zs0 x1 y1 a2) c16) (sbN W0 H0 zs0 x1 y1 a2) (vals (sbL W0 H0 zs0 x1 y1 a2))) ∧ Hid (Rgn wz (w16.heap.size) (w17.heap.size) 2 1 (.slice A17 zs0.length c17) (zs0.length) (vals zs0)) ∧ Hid (Rgn wz lo hi 2 1 (.slice A' (sbN W0 H0 zs0 x1 y1 a2) c') (sbN W0 H0 zs0 x1 y1 a2) (vals (sbL W0 H0 zs0 x1 y1 a2))) ∧ Hid (w18.heap.size ≤ lo ∧ hi ≤ wz.heap.size ∧ (bb < lo ∨ hi ≤ bb) ∧ w18.heap.size ≤ bb ∧ bb < wz.heap.size ∧ lo ≤ hi))
    case first =>
      have q1 := Z1.out
      have q16 := Z16.out
      have q17 := Z17.out
      have q18 := Z18.out
      obtain ⟨Xa, Xb, Xc⟩ := KX18.out.three
      have Xz := KX18.out.lt
      obtain ⟨B1a, B1b⟩ := KB118.out.two
      have B1z := KB118.out.lt
      go_region_held3 (fun zz => zz.cell? ⟨w17.heap.size, 0, none⟩ = some (.int .i64 W0) ∧ zz.cell? ⟨w17.heap.size, 1, none⟩ = some (.int .i64 H0) ∧ zz.cell? ⟨w17.heap.size, 2, none⟩ = some (.slice A17 zs0.length c17) ∧ zz.cell? ⟨w.heap.size + 1, 0, none⟩ = some (.int .i64 x1) ∧ zz.cell? ⟨w.heap.size + 1, 1, none⟩ = some (.int .i64 y1))
        (first | exact ⟨(Box.three (show Box _ (w17.heap.size) 30 #[.int .i64 W0, .int .i64 H0, .slice A17 zs0.length c17] from (by (repeat (with_reducible first | assumption | exact Hid.out (by assumption) | exact Box.new' _ _ _ _ (by simp) | refine Box.alloc ?_ _ | refine Box.drew ?_ | refine Box.drewN ?_ _ | exact Box.put4 (Hid.out (by assumption)) | exact Box.put3 (Hid.out (by assumption)) | exact Box.put2 (Hid.out (by assumption)) | refine Box.far ?_ (by (repeat (with_reducible first | exact Hid.out (by assumption) | exact Box.new' _ _ _ _ (by simp) | refine Box.alloc ?_ _ | refine Box.drew ?_ | refine Box.keep ?_ (Hid.out (by assumption))))) _ _ | refine Box.keep ?_ (Hid.out (by assumption))))))).1, (Box.three (show Box _ (w17.heap.size) 30 #[.int .i64 W0, .int .i64 H0, .slice A17 zs0.length c17] from (by (repeat (with_reducible first | assumption | exact Hid.out (by assumption) | exact Box.new' _ _ _ _ (by simp) | refine Box.alloc ?_ _ | refine Box.drew ?_ | refine Box.drewN ?_ _ | exact Box.put4 (Hid.out (by assumption)) | exact Box.put3 (Hid.out (by assumption)) | exact Box.put2 (Hid.out (by assumption)) | refine Box.far ?_ (by (repeat (with_reducible first | exact Hid.out (by assumption) | exact Box.new' _ _ _ _ (by simp) | refine Box.alloc ?_ _ | refine Box.drew ?_ | refine Box.keep ?_ (Hid.out (by assumption))))) _ _ | refine Box.keep ?_ (Hid.out (by assumption))))))).2.1, (Box.three (show Box _ (w17.heap.size) 30 #[.int .i64 W0, .int .i64 H0, .slice A17 zs0.length c17] from (by (repeat (with_reducible first | assumption | exact Hid.out (by assumption) | exact Box.new' _ _ _ _ (by simp) | refine Box.alloc ?_ _ | refine Box.drew ?_ | refine Box.drewN ?_ _ | exact Box.put4 (Hid.out (by assumption)) | exact Box.put3 (Hid.out (by assumption)) | exact Box.put2 (Hid.out (by assumption)) | refine Box.far ?_ (by (repeat (with_reducible first | exact Hid.out (by assumption) | exact Box.new' _ _ _ _ (by simp) | refine Box.alloc ?_ _ | refine Box.drew ?_ | refine Box.keep ?_ (Hid.out (by assumption))))) _ _ | refine Box.keep ?_ (Hid.out (by assumption))))))).2.2, (Box.two (show Box _ (w.heap.size + 1) 26 #[.int .i64 x1, .int .i64 y1] from (by (repeat (with_reducible first | assumption | exact Hid.out (by assumption) | exact Box.new' _ _ _ _ (by simp) | refine Box.alloc ?_ _ | refine Box.drew ?_ | refine Box.drewN ?_ _ | exact Box.put4 (Hid.out (by assumption)) | exact Box.put3 (Hid.out (by assumption)) | exact Box.put2 (Hid.out (by assumption)) | refine Box.far ?_ (by (repeat (with_reducible first | exact Hid.out (by assumption) | exact Box.new' _ _ _ _ (by simp) | refine Box.alloc ?_ _ | refine Box.drew ?_ | refine Box.keep ?_ (Hid.out (by assumption))))) _ _ | refine Box.keep ?_ (Hid.out (by assumption))))))).1, (Box.two (show Box _ (w.heap.size + 1) 26 #[.int .i64 x1, .int .i64 y1] from (by (repeat (with_reducible first | assumption | exact Hid.out (by assumption) | exact Box.new' _ _ _ _ (by simp) | refine Box.alloc ?_ _ | refine Box.drew ?_ | refine Box.drewN ?_ _ | exact Box.put4 (Hid.out (by assumption)) | exact Box.put3 (Hid.out (by assumption)) | exact Box.put2 (Hid.out (by assumption)) | refine Box.far ?_ (by (repeat (with_reducible first | exact Hid.out (by assumption) | exact Box.new' _ _ _ _ (by simp) | refine Box.alloc ?_ _ | refine Box.drew ?_ | refine Box.keep ?_ (Hid.out (by assumption))))) _ _ | refine Box.keep ?_ (Hid.out (by assumption))))))).2⟩)
        (first | (go_at_call 18; refine (toPoint_any x1 y1 _).mono ?_; rintro e w30 ⟨rfl, hb30⟩; have HB30 := hid hb30; have z30 := hb30.size; (try simp only [World.size_alloc, World.size_drew] at z30); (first | (have KZ30 := hid (box_of_alloc hb30)) | (have KZ30 := hid (box_of_alloc' hb30)) | (have KZ30 := hid (Box.keep KZ29.out hb30)) | (have KZ30 := hid (Box.keep KZ28.out hb30)) | skip); (try (obtain ⟨za30, zb30, zc30⟩ := KZ30.out.three; have zf30 := KZ30.out.free)); clear hb30) | (go_at_call 56; refine (implSetBreak_any W0 H0 _ _ zs0 x1 y1 a2 _ (Rgn.ints (show Rgn _ (w16.heap.size) (w17.heap.size) 2 1 (.slice A17 zs0.length c17) zs0.length (vals zs0) from (by (repeat (with_reducible first | assumption | exact Hid.out (by assumption) | refine Rgn.alloc ?_ _ | refine Rgn.set ?_ (by (try simp only [World.size_alloc, World.size_drew]); omega) _ | refine Rgn.drew ?_ | refine Rgn.keep ?_ (Hid.out (by assumption))))))) hl0 wx1 wy1 wa2).mono ?_; rintro e w31 ⟨⟨A31, c31, rfl, ho31⟩, hb31⟩; have HB31 := hid hb31; have z31 := hb31.size; (try simp only [World.size_alloc, World.size_drew] at z31); (first | (have KZ31 := hid (box_of_alloc hb31)) | (have KZ31 := hid (box_of_alloc' hb31)) | (have KZ31 := hid (Box.keep KZ30.out hb31)) | (have KZ31 := hid (Box.keep KZ29.out hb31)) | skip); (try (obtain ⟨za31, zb31, zc31⟩ := KZ31.out.three; have zf31 := KZ31.out.free)); obtain ⟨lo31, hlo31, HR31⟩ : ∃ lo, lo = _ ∧ Hid (Rgn w31 lo w31.heap.size 2 1 (.slice A31 (sbN W0 H0 zs0 x1 y1 a2) c31) (sbN W0 H0 zs0 x1 y1 a2) (vals (sbL W0 H0 zs0 x1 y1 a2))) := ⟨_, rfl, hid (Rgn.of ho31 rfl rfl)⟩; (try simp only [World.size_alloc, World.size_drew] at hlo31); clear hb31 ho31))
      all_goals (try go_wp2_with fail)
      all_goals go_meet
      all_goals (exact ⟨_, A31, c31, lo31, w31.heap.size, rfl, rfl, hid (by (repeat (with_reducible first | assumption | exact Hid.out (by assumption) | exact Below.refl _ _ | refine bal ?_ _ | refine Below.drew ?_ | refine bel_far ?_ (by (repeat (with_reducible first | assumption | exact Hid.out (by assumption) | exact Below.refl _ _ | refine bal ?_ _ | refine Below.drew ?_ | refine bstep ?_ (Hid.out (by assumption))))) _ _ | refine bstep ?_ (Hid.out (by assumption))))), hid (by (repeat (with_reducible first | assumption | exact Hid.out (by assumption) | exact Box.new' _ _ _ _ (by simp) | refine Box.alloc ?_ _ | refine Box.drew ?_ | refine Box.drewN ?_ _ | exact Box.put4 (Hid.out (by assumption)) | exact Box.put3 (Hid.out (by assumption)) | exact Box.put2 (Hid.out (by assumption)) | refine Box.far ?_ (by (repeat (with_reducible first | exact Hid.out (by assumption) | exact Box.new' _ _ _ _ (by simp) | refine Box.alloc ?_ _ | refine Box.drew ?_ | refine Box.keep ?_ (Hid.out (by assumption))))) _ _ | refine Box.keep ?_ (Hid.out (by assumption))))), hid (by (repeat (with_reducible first | assumption | exact Hid.out (by assumption) | exact Box.new' _ _ _ _ (by simp) | refine Box.alloc ?_ _ | refine Box.drew ?_ | refine Box.drewN ?_ _ | exact Box.put4 (Hid.out (by assumption)) | exact Box.put3 (Hid.out (by assumption)) | exact Box.put2 (Hid.out (by assumption)) | refine Box.far ?_ (by (repeat (with_reducible first | exact Hid.out (by assumption) | exact Box.new' _ _ _ _ (by simp) | refine Box.alloc ?_ _ | refine Box.drew ?_ | refine Box.keep ?_ (Hid.out (by assumption))))) _ _ | refine Box.keep ?_ (Hid.out (by assumption))))), hid (by (repeat (with_reducible first | assumption | exact Hid.out (by assumption) | exact Box.new' _ _ _ _ (by simp) | refine Box.alloc ?_ _ | refine Box.drew ?_ | refine Box.drewN ?_ _ | exact Box.put4 (Hid.out (by assumption)) | exact Box.put3 (Hid.out (by assumption)) | exact Box.put2 (Hid.out (by assumption)) | refine Box.far ?_ (by (repeat (with_reducible first | exact Hid.out (by assumption) | exact Box.new' _ _ _ _ (by simp) | refine Box.alloc ?_ _ | refine Box.drew ?_ | refine Box.keep ?_ (Hid.out (by assumption))))) _ _ | refine Box.keep ?_ (Hid.out (by assumption))))), hid (by (repeat (with_reducible first | assumption | exact Hid.out (by assumption) | exact Box.new' _ _ _ _ (by simp) | refine Box.alloc ?_ _ | refine Box.drew ?_ | refine Box.drewN ?_ _ | exact Box.put4 (Hid.out (by assumption)) | exact Box.put3 (Hid.out (by assumption)) | exact Box.put2 (Hid.out (by assumption)) | refine Box.far ?_ (by (repeat (with_reducible first | exact Hid.out (by assumption) | exact Box.new' _ _ _ _ (by simp) | refine Box.alloc ?_ _ | refine Box.drew ?_ | refine Box.keep ?_ (Hid.out (by assumption))))) _ _ | refine Box.keep ?_ (Hid.out (by assumption))))), hid (by (repeat (with_reducible first | assumption | exact Hid.out (by assumption) | exact Box.new' _ _ _ _ (by simp) | refine Box.alloc ?_ _ | refine Box.drew ?_ | refine Box.drewN ?_ _ | exact Box.put4 (Hid.out (by assumption)) | exact Box.put3 (Hid.out (by assumption)) | exact Box.put2 (Hid.out (by assumption)) | refine Box.far ?_ (by (repeat (with_reducible first | exact Hid.out (by assumption) | exact Box.new' _ _ _ _ (by simp) | refine Box.alloc ?_ _ | refine Box.drew ?_ | refine Box.keep ?_ (Hid.out (by assumption))))) _ _ | refine Box.keep ?_ (Hid.out (by assumption))))), hid (by (repeat (with_reducible first | assumption | exact Hid.out (by assumption) | refine Rgn.alloc ?_ _ | refine Rgn.set ?_ (by (try simp only [World.size_alloc, World.size_drew]); omega) _ | refine Rgn.drew ?_ | refine Rgn.keep ?_ (Hid.out (by assumption))))), hid (by (repeat (with_reducible first | assumption | exact Hid.out (by assumption) | refine Rgn.alloc ?_ _ | refine Rgn.set ?_ (by (try simp only [World.size_alloc, World.size_drew]); omega) _ | refine Rgn.drew ?_ | refine Rgn.keep ?_ (Hid.out (by assumption))))), hid (by (repeat (with_reducible first | assumption | exact Hid.out (by assumption) | refine Rgn.alloc ?_ _ | refine Rgn.set ?_ (by (try simp only [World.size_alloc, World.size_drew]); omega) _ | refine Rgn.drew ?_ | refine Rgn.keep ?_ (Hid.out (by assumption))))), hid ⟨(by (try simp only [World.size_alloc, World.size_drew, World.size_setCell]); omega), (by (try simp only [World.size_alloc, World.size_drew, World.size_setCell]); omega), (by (try simp only [World.size_alloc, World.size_drew, World.size_setCell]); omega), (by (try simp only [World.size_alloc, World.size_drew, World.size_setCell]); omega), (by (try simp only [World.size_alloc, World.size_drew, World.size_setCell]); omega), (by (try simp only [World.size_alloc, World.size_drew, World.size_setCell]); omega)⟩⟩)
    obtain ⟨bb33, A33, c33, lo33, hi33, rfl, rfl, HB33, KN33, KB033, KB133, KS33, KX33, WR_33, XA_33, HR33, Z33⟩ := hcut
    obtain ⟨w33, hw33⟩ : ∃ zz : World, zz = wc := ⟨_, rfl⟩
    subst hw33
    obtain ⟨B0a, B0b, B0c⟩ := KB033.out.three
    have B0z := KB033.out.lt
    obtain ⟨B1a, B1b⟩ := KB133.out.two
    have B1z := KB133.out.lt
    obtain ⟨Sa, Sb, Sc⟩ := KS33.out.three
    have Sz := KS33.out.lt
    obtain ⟨Xa, Xb, Xc⟩ := KX33.out.three
    have Xz := KX33.out.lt
    obtain ⟨Ga, Gb, Gc⟩ := KN33.out.three
    have Gz := KN33.out.lt
    go_wp2_with fail
    refine (eqPanelR_any (sbW W0 H0 zs0 x1 y1 a2) (sbH W0 H0 zs0 x1 y1 a2) _ _ _ _ (sbL W0 H0 zs0 x1 y1 a2) (sbN W0 H0 zs0 x1 y1 a2) _ _ _ ((HR33.out)).1 ((WR_33.out)).1 (by unfold maxLen; omega)).mono ?_
    rintro e w34 ⟨rfl, hb34⟩
    clear B0a B0b B0c B0z B1a B1b B1z Sa Sb Sc Sz Xa Xb Xc Xz Ga Gb Gc Gz
    have Z34 : Hid (w33.heap.size ≤ w34.heap.size) := hid (by have h := Below.size (hb34); (try simp only [World.size_alloc, World.size_drew] at h); omega)
    have WR_34 : Hid (Rgn w34 (lo16) (hi16) 2 1 (.slice A16 (sbN W0 H0 zs0 x1 y1 a2) c16) (sbN W0 H0 zs0 x1 y1 a2) (vals (sbL W0 H0 zs0 x1 y1 a2))) := hid (Rgn.keep (WR_33.out) hb34)
    have XA_34 : Hid (Rgn w34 (w16.heap.size) (w17.heap.size) 2 1 (.slice A17 zs0.length c17) (zs0.length) (vals zs0)) := hid (Rgn.keep (XA_33.out) hb34)
    have GR_34 : Hid (Rgn w34 (lo33) (hi33) 2 1 (.slice A33 (sbN W0 H0 zs0 x1 y1 a2) c33) (sbN W0 H0 zs0 x1 y1 a2) (vals (sbL W0 H0 zs0 x1 y1 a2))) := hid (Rgn.keep (HR33.out) hb34)
    have KB034 : Hid (Box w34 (w.heap.size) 24 #[.int .i64 W0, .int .i64 H0, .slice A0 zs0.length c0]) := hid (Box.keep (KB033.out) hb34)
    have KB134 : Hid (Box w34 (w.heap.size + 1) 26 #[.int .i64 x1, .int .i64 y1]) := hid (Box.keep (KB133.out) hb34)
    have KS34 : Hid (Box w34 (bb16) 30 #[.int .i64 (sbW W0 H0 zs0 x1 y1 a2), .int .i64 (sbH W0 H0 zs0 x1 y1 a2), .slice A16 (sbN W0 H0 zs0 x1 y1 a2) c16]) := hid (Box.keep (KS33.out) hb34)
    have KX34 : Hid (Box w34 (w17.heap.size) 30 #[.int .i64 W0, .int .i64 H0, .slice A17 zs0.length c17]) := hid (Box.keep (KX33.out) hb34)
    have KG34 : Hid (Box w34 (bb33) 30 #[.int .i64 (sbW W0 H0 zs0 x1 y1 a2), .int .i64 (sbH W0 H0 zs0 x1 y1 a2), .slice A33 (sbN W0 H0 zs0 x1 y1 a2) c33]) := hid (Box.keep (KN33.out) hb34)
    have HB34 : Hid (Below w.heap.size w w34) := hid (bstep (HB33.out) hb34)
    clear hb34
    obtain ⟨B0a, B0b, B0c⟩ := KB034.out.three
    have B0z := KB034.out.lt
    obtain ⟨B1a, B1b⟩ := KB134.out.two
    have B1z := KB134.out.lt
    obtain ⟨Sa, Sb, Sc⟩ := KS34.out.three
    have Sz := KS34.out.lt
    obtain ⟨Xa, Xb, Xc⟩ := KX34.out.three
    have Xz := KX34.out.lt
    obtain ⟨Ga, Gb, Gc⟩ := KG34.out.three
    have Gz := KG34.out.lt
    go_wp2_with fail
    go_region_held3 (fun zz => zz.cell? ⟨w17.heap.size, 0, none⟩ = some (.int .i64 W0) ∧ zz.cell? ⟨w17.heap.size, 1, none⟩ = some (.int .i64 H0) ∧ zz.cell? ⟨w17.heap.size, 2, none⟩ = some (.slice A17 zs0.length c17) ∧ zz.cell? ⟨w.heap.size, 0, none⟩ = some (.int .i64 W0) ∧ zz.cell? ⟨w.heap.size, 1, none⟩ = some (.int .i64 H0) ∧ zz.cell? ⟨w.heap.size, 2, none⟩ = some (.slice A0 zs0.length c0))
      (first | (with_reducible exact ⟨(Box.three KX35.out).1, (Box.three KX35.out).2.1, (Box.three KX35.out).2.2, (Box.three KB035.out).1, (Box.three KB035.out).2.1, (Box.three KB035.out).2.2⟩) | (with_reducible exact ⟨(Box.three KX36.out).1, (Box.three KX36.out).2.1, (Box.three KX36.out).2.2, (Box.three KB036.out).1, (Box.three KB036.out).2.1, (Box.three KB036.out).2.2⟩) | exact ⟨(Box.three ((KX34.out))).1, (Box.three ((KX34.out))).2.1, (Box.three ((KX34.out))).2.2, (Box.three ((KB034.out))).1, (Box.three ((KB034.out))).2.1, (Box.three ((KB034.out))).2.2⟩)
      (first | (go_at_call 17; refine (toPanel_any W0 H0 A0 c0 zs0 _ w.heap.size (hz0.below (Below.drew (HB34.out))) (Below.drew (HB34.out)).size (by omega)).mono ?_; rintro e w35 ⟨⟨A35, c35, rfl, ho35⟩, hb35⟩; have hc35 := Below.trans (below_refl_drew _ _) hb35; have Z35 : Hid (w34.heap.size ≤ w35.heap.size) := hid (by have h := Below.size (hc35); (try simp only [World.size_alloc, World.size_drew] at h); omega); have WR_35 : Hid (Rgn w35 (lo16) (hi16) 2 1 (.slice A16 (sbN W0 H0 zs0 x1 y1 a2) c16) (sbN W0 H0 zs0 x1 y1 a2) (vals (sbL W0 H0 zs0 x1 y1 a2))) := hid (Rgn.keep (WR_34.out) hc35); have XA_35 : Hid (Rgn w35 (w16.heap.size) (w17.heap.size) 2 1 (.slice A17 zs0.length c17) (zs0.length) (vals zs0)) := hid (Rgn.keep (XA_34.out) hc35); have GR_35 : Hid (Rgn w35 (lo33) (hi33) 2 1 (.slice A33 (sbN W0 H0 zs0 x1 y1 a2) c33) (sbN W0 H0 zs0 x1 y1 a2) (vals (sbL W0 H0 zs0 x1 y1 a2))) := hid (Rgn.keep (GR_34.out) hc35); have KB035 : Hid (Box w35 (w.heap.size) 24 #[.int .i64 W0, .int .i64 H0, .slice A0 zs0.length c0]) := hid (Box.keep (KB034.out) hc35); have KB135 : Hid (Box w35 (w.heap.size + 1) 26 #[.int .i64 x1, .int .i64 y1]) := hid (Box.keep (KB134.out) hc35); have KS35 : Hid (Box w35 (bb16) 30 #[.int .i64 (sbW W0 H0 zs0 x1 y1 a2), .int .i64 (sbH W0 H0 zs0 x1 y1 a2), .slice A16 (sbN W0 H0 zs0 x1 y1 a2) c16]) := hid (Box.keep (KS34.out) hc35); have KX35 : Hid (Box w35 (w17.heap.size) 30 #[.int .i64 W0, .int .i64 H0, .slice A17 zs0.length c17]) := hid (Box.keep (KX34.out) hc35); have KG35 : Hid (Box w35 (bb33) 30 #[.int .i64 (sbW W0 H0 zs0 x1 y1 a2), .int .i64 (sbH W0 H0 zs0 x1 y1 a2), .slice A33 (sbN W0 H0 zs0 x1 y1 a2) c33]) := hid (Box.keep (KG34.out) hc35); have HB35 : Hid (Below w.heap.size w w35) := hid (bstep (HB34.out) hc35); have TB_35 : Hid (Rgn w35 (w34.heap.size) (w35.heap.size) 2 1 (.slice A35 zs0.length c35) (zs0.length) (vals zs0)) := hid (Rgn.of ho35 (by simp) rfl); clear ho35 hb35 hc35) | (go_at_call 20; refine (eqPanel_any W0 H0 W0 H0 _ _ _ _ zs0 zs0 _ (Rgn.ints (XA_35.out)) (Rgn.ints (TB_35.out)) hl0 hl0 rfl rfl rfl).mono ?_; rintro e w36 ⟨rfl, hb36⟩; have Z36 : Hid (w35.heap.size ≤ w36.heap.size) := hid (by have h := Below.size (hb36); (try simp only [World.size_alloc, World.size_drew] at h); omega); have WR_36 : Hid (Rgn w36 (lo16) (hi16) 2 1 (.slice A16 (sbN W0 H0 zs0 x1 y1 a2) c16) (sbN W0 H0 zs0 x1 y1 a2) (vals (sbL W0 H0 zs0 x1 y1 a2))) := hid (Rgn.keep (WR_35.out) hb36); have XA_36 : Hid (Rgn w36 (w16.heap.size) (w17.heap.size) 2 1 (.slice A17 zs0.length c17) (zs0.length) (vals zs0)) := hid (Rgn.keep (XA_35.out) hb36); have GR_36 : Hid (Rgn w36 (lo33) (hi33) 2 1 (.slice A33 (sbN W0 H0 zs0 x1 y1 a2) c33) (sbN W0 H0 zs0 x1 y1 a2) (vals (sbL W0 H0 zs0 x1 y1 a2))) := hid (Rgn.keep (GR_35.out) hb36); have TB_36 : Hid (Rgn w36 (w34.heap.size) (w35.heap.size) 2 1 (.slice A35 zs0.length c35) (zs0.length) (vals zs0)) := hid (Rgn.keep (TB_35.out) hb36); have KB036 : Hid (Box w36 (w.heap.size) 24 #[.int .i64 W0, .int .i64 H0, .slice A0 zs0.length c0]) := hid (Box.keep (KB035.out) hb36); have KB136 : Hid (Box w36 (w.heap.size + 1) 26 #[.int .i64 x1, .int .i64 y1]) := hid (Box.keep (KB135.out) hb36); have KS36 : Hid (Box w36 (bb16) 30 #[.int .i64 (sbW W0 H0 zs0 x1 y1 a2), .int .i64 (sbH W0 H0 zs0 x1 y1 a2), .slice A16 (sbN W0 H0 zs0 x1 y1 a2) c16]) := hid (Box.keep (KS35.out) hb36); have KX36 : Hid (Box w36 (w17.heap.size) 30 #[.int .i64 W0, .int .i64 H0, .slice A17 zs0.length c17]) := hid (Box.keep (KX35.out) hb36); have KG36 : Hid (Box w36 (bb33) 30 #[.int .i64 (sbW W0 H0 zs0 x1 y1 a2), .int .i64 (sbH W0 H0 zs0 x1 y1 a2), .slice A33 (sbN W0 H0 zs0 x1 y1 a2) c33]) := hid (Box.keep (KG35.out) hb36); have HB36 : Hid (Below w.heap.size w w36) := hid (bstep (HB35.out) hb36); clear hb36))
    clear B0a B0b B0c B0z B1a B1b B1z Sa Sb Sc Sz Xa Xb Xc Xz Ga Gb Gc Gz
    obtain ⟨B0a, B0b, B0c⟩ := KB036.out.three
    have B0z := KB036.out.lt
    obtain ⟨B1a, B1b⟩ := KB136.out.two
    have B1z := KB136.out.lt
    obtain ⟨Sa, Sb, Sc⟩ := KS36.out.three
    have Sz := KS36.out.lt
    obtain ⟨Xa, Xb, Xc⟩ := KX36.out.three
    have Xz := KX36.out.lt
    obtain ⟨Ga, Gb, Gc⟩ := KG36.out.three
    have Gz := KG36.out.lt
    go_wp2_with fail
    refine (markPanelR_any W0 H0 _ _ zs0 zs0.length 1 _ _ _ (XA_36.out) (by omega)).mono ?_
    rintro e w37 ⟨rfl, hr37, hc37⟩
    clear B0a B0b B0c B0z B1a B1b B1z Sa Sb Sc Sz Xa Xb Xc Xz Ga Gb Gc Gz
    have Z37 : Hid (w36.heap.size ≤ w37.heap.size) := hid (by have h := Chg.size (hc37); (try simp only [World.size_alloc, World.size_drew] at h); omega)
    have KB037 : Hid (Box w37 (w.heap.size) 24 #[.int .i64 W0, .int .i64 H0, .slice A0 zs0.length c0]) := hid (Box.chg (KB036.out) hc37 (by have q1 := Z1.out; have q16 := Z16.out; have q17 := Z17.out; have q18 := Z18.out; have q33 := Z33.out; have q34 := Z34.out; have q35 := Z35.out; have q36 := Z36.out; omega))
    have KB137 : Hid (Box w37 (w.heap.size + 1) 26 #[.int .i64 x1, .int .i64 y1]) := hid (Box.chg (KB136.out) hc37 (by have q1 := Z1.out; have q16 := Z16.out; have q17 := Z17.out; have q18 := Z18.out; have q33 := Z33.out; have q34 := Z34.out; have q35 := Z35.out; have q36 := Z36.out; omega))
    have KS37 : Hid (Box w37 (bb16) 30 #[.int .i64 (sbW W0 H0 zs0 x1 y1 a2), .int .i64 (sbH W0 H0 zs0 x1 y1 a2), .slice A16 (sbN W0 H0 zs0 x1 y1 a2) c16]) := hid (Box.chg (KS36.out) hc37 (by have q1 := Z1.out; have q16 := Z16.out; have q17 := Z17.out; have q18 := Z18.out; have q33 := Z33.out; have q34 := Z34.out; have q35 := Z35.out; have q36 := Z36.out; omega))
    have KX37 : Hid (Box w37 (w17.heap.size) 30 #[.int .i64 W0, .int .i64 H0, .slice A17 zs0.length c17]) := hid (Box.chg (KX36.out) hc37 (by have q1 := Z1.out; have q16 := Z16.out; have q17 := Z17.out; have q18 := Z18.out; have q33 := Z33.out; have q34 := Z34.out; have q35 := Z35.out; have q36 := Z36.out; omega))
    have KG37 : Hid (Box w37 (bb33) 30 #[.int .i64 (sbW W0 H0 zs0 x1 y1 a2), .int .i64 (sbH W0 H0 zs0 x1 y1 a2), .slice A33 (sbN W0 H0 zs0 x1 y1 a2) c33]) := hid (Box.chg (KG36.out) hc37 (by have q1 := Z1.out; have q16 := Z16.out; have q17 := Z17.out; have q18 := Z18.out; have q33 := Z33.out; have q34 := Z34.out; have q35 := Z35.out; have q36 := Z36.out; omega))
    have WR_37 : Hid (Rgn w37 (lo16) (hi16) 2 1 (.slice A16 (sbN W0 H0 zs0 x1 y1 a2) c16) (sbN W0 H0 zs0 x1 y1 a2) (vals (sbL W0 H0 zs0 x1 y1 a2))) := hid (Rgn.chg (WR_36.out) hc37 (by have q1 := Z1.out; have q16 := Z16.out; have q17 := Z17.out; have q18 := Z18.out; have q33 := Z33.out; have q34 := Z34.out; have q35 := Z35.out; have q36 := Z36.out; omega))
    have GR_37 : Hid (Rgn w37 (lo33) (hi33) 2 1 (.slice A33 (sbN W0 H0 zs0 x1 y1 a2) c33) (sbN W0 H0 zs0 x1 y1 a2) (vals (sbL W0 H0 zs0 x1 y1 a2))) := hid (Rgn.chg (GR_36.out) hc37 (by have q1 := Z1.out; have q16 := Z16.out; have q17 := Z17.out; have q18 := Z18.out; have q33 := Z33.out; have q34 := Z34.out; have q35 := Z35.out; have q36 := Z36.out; omega))
    have HB37 : Hid (Below w.heap.size w w37) := hid (bchg (HB36.out) hc37 (by have q1 := Z1.out; have q16 := Z16.out; have q17 := Z17.out; have q18 := Z18.out; have q33 := Z33.out; have q34 := Z34.out; have q35 := Z35.out; have q36 := Z36.out; omega))
    have XA_37 : Hid (Rgn w37 (w16.heap.size) (w17.heap.size) 2 1 (.slice A17 zs0.length c17) (zs0.length) (vals (marks 1 zs0.length))) := hid hr37
    clear hr37 hc37
    obtain ⟨B0a, B0b, B0c⟩ := KB037.out.three
    have B0z := KB037.out.lt
    obtain ⟨B1a, B1b⟩ := KB137.out.two
    have B1z := KB137.out.lt
    obtain ⟨Sa, Sb, Sc⟩ := KS37.out.three
    have Sz := KS37.out.lt
    obtain ⟨Xa, Xb, Xc⟩ := KX37.out.three
    have Xz := KX37.out.lt
    obtain ⟨Ga, Gb, Gc⟩ := KG37.out.three
    have Gz := KG37.out.lt
    go_wp2_with fail
    refine (eqPanelR_any (sbW W0 H0 zs0 x1 y1 a2) (sbH W0 H0 zs0 x1 y1 a2) _ _ _ _ (sbL W0 H0 zs0 x1 y1 a2) (sbN W0 H0 zs0 x1 y1 a2) _ _ _ ((GR_37.out)).1 ((WR_37.out)).1 (by unfold maxLen; omega)).mono ?_
    rintro e w38 ⟨rfl, hb38⟩
    clear B0a B0b B0c B0z B1a B1b B1z Sa Sb Sc Sz Xa Xb Xc Xz Ga Gb Gc Gz
    have Z38 : Hid (w37.heap.size ≤ w38.heap.size) := hid (by have h := Below.size (hb38); (try simp only [World.size_alloc, World.size_drew] at h); omega)
    have WR_38 : Hid (Rgn w38 (lo16) (hi16) 2 1 (.slice A16 (sbN W0 H0 zs0 x1 y1 a2) c16) (sbN W0 H0 zs0 x1 y1 a2) (vals (sbL W0 H0 zs0 x1 y1 a2))) := hid (Rgn.keep (WR_37.out) hb38)
    have GR_38 : Hid (Rgn w38 (lo33) (hi33) 2 1 (.slice A33 (sbN W0 H0 zs0 x1 y1 a2) c33) (sbN W0 H0 zs0 x1 y1 a2) (vals (sbL W0 H0 zs0 x1 y1 a2))) := hid (Rgn.keep (GR_37.out) hb38)
    have KB038 : Hid (Box w38 (w.heap.size) 24 #[.int .i64 W0, .int .i64 H0, .slice A0 zs0.length c0]) := hid (Box.keep (KB037.out) hb38)
    have KB138 : Hid (Box w38 (w.heap.size + 1) 26 #[.int .i64 x1, .int .i64 y1]) := hid (Box.keep (KB137.out) hb38)
    have KS38 : Hid (Box w38 (bb16) 30 #[.int .i64 (sbW W0 H0 zs0 x1 y1 a2), .int .i64 (sbH W0 H0 zs0 x1 y1 a2), .slice A16 (sbN W0 H0 zs0 x1 y1 a2) c16]) := hid (Box.keep (KS37.out) hb38)
    have KG38 : Hid (Box w38 (bb33) 30 #[.int .i64 (sbW W0 H0 zs0 x1 y1 a2), .int .i64 (sbH W0 H0 zs0 x1 y1 a2), .slice A33 (sbN W0 H0 zs0 x1 y1 a2) c33]) := hid (Box.keep (KG37.out) hb38)
    have HB38 : Hid (Below w.heap.size w w38) := hid (bstep (HB37.out) hb38)
    clear hb38
    obtain ⟨B0a, B0b, B0c⟩ := KB038.out.three
    have B0z := KB038.out.lt
    obtain ⟨B1a, B1b⟩ := KB138.out.two
    have B1z := KB138.out.lt
    obtain ⟨Sa, Sb, Sc⟩ := KS38.out.three
    have Sz := KS38.out.lt
    obtain ⟨Ga, Gb, Gc⟩ := KG38.out.three
    have Gz := KG38.out.lt
    go_wp2_with fail
    refine (markPanelR_any (sbW W0 H0 zs0 x1 y1 a2) (sbH W0 H0 zs0 x1 y1 a2) _ _ (sbL W0 H0 zs0 x1 y1 a2) (sbN W0 H0 zs0 x1 y1 a2) 1 _ _ _ (GR_38.out) (by omega)).mono ?_
    rintro e w39 ⟨rfl, hr39, hc39⟩
    clear B0a B0b B0c B0z B1a B1b B1z Sa Sb Sc Sz Ga Gb Gc Gz
    have Z39 : Hid (w38.heap.size ≤ w39.heap.size) := hid (by have h := Chg.size (hc39); (try simp only [World.size_alloc, World.size_drew] at h); omega)
    have KB039 : Hid (Box w39 (w.heap.size) 24 #[.int .i64 W0, .int .i64 H0, .slice A0 zs0.length c0]) := hid (Box.chg (KB038.out) hc39 (by have q1 := Z1.out; have q16 := Z16.out; have q17 := Z17.out; have q18 := Z18.out; have q33 := Z33.out; have q34 := Z34.out; have q35 := Z35.out; have q36 := Z36.out; have q37 := Z37.out; have q38 := Z38.out; omega))
    have KB139 : Hid (Box w39 (w.heap.size + 1) 26 #[.int .i64 x1, .int .i64 y1]) := hid (Box.chg (KB138.out) hc39 (by have q1 := Z1.out; have q16 := Z16.out; have q17 := Z17.out; have q18 := Z18.out; have q33 := Z33.out; have q34 := Z34.out; have q35 := Z35.out; have q36 := Z36.out; have q37 := Z37.out; have q38 := Z38.out; omega))
    have KS39 : Hid (Box w39 (bb16) 30 #[.int .i64 (sbW W0 H0 zs0 x1 y1 a2), .int .i64 (sbH W0 H0 zs0 x1 y1 a2), .slice A16 (sbN W0 H0 zs0 x1 y1 a2) c16]) := hid (Box.chg (KS38.out) hc39 (by have q1 := Z1.out; have q16 := Z16.out; have q17 := Z17.out; have q18 := Z18.out; have q33 := Z33.out; have q34 := Z34.out; have q35 := Z35.out; have q36 := Z36.out; have q37 := Z37.out; have q38 := Z38.out; omega))
    have KG39 : Hid (Box w39 (bb33) 30 #[.int .i64 (sbW W0 H0 zs0 x1 y1 a2), .int .i64 (sbH W0 H0 zs0 x1 y1 a2), .slice A33 (sbN W0 H0 zs0 x1 y1 a2) c33]) := hid (Box.chg (KG38.out) hc39 (by have q1 := Z1.out; have q16 := Z16.out; have q17 := Z17.out; have q18 := Z18.out; have q33 := Z33.out; have q34 := Z34.out; have q35 := Z35.out; have q36 := Z36.out; have q37 := Z37.out; have q38 := Z38.out; omega))
    have WR_39 : Hid (Rgn w39 (lo16) (hi16) 2 1 (.slice A16 (sbN W0 H0 zs0 x1 y1 a2) c16) (sbN W0 H0 zs0 x1 y1 a2) (vals (sbL W0 H0 zs0 x1 y1 a2))) := hid (Rgn.chg (WR_38.out) hc39 (by have q1 := Z1.out; have q16 := Z16.out; have q17 := Z17.out; have q18 := Z18.out; have q33 := Z33.out; have q34 := Z34.out; have q35 := Z35.out; have q36 := Z36.out; have q37 := Z37.out; have q38 := Z38.out; omega))
    have HB39 : Hid (Below w.heap.size w w39) := hid (bchg (HB38.out) hc39 (by have q1 := Z1.out; have q16 := Z16.out; have q17 := Z17.out; have q18 := Z18.out; have q33 := Z33.out; have q34 := Z34.out; have q35 := Z35.out; have q36 := Z36.out; have q37 := Z37.out; have q38 := Z38.out; omega))
    have GR_39 : Hid (Rgn w39 (lo33) (hi33) 2 1 (.slice A33 (sbN W0 H0 zs0 x1 y1 a2) c33) (sbN W0 H0 zs0 x1 y1 a2) (vals (marks 1 (sbN W0 H0 zs0 x1 y1 a2)))) := hid hr39
    clear hr39 hc39
    obtain ⟨B0a, B0b, B0c⟩ := KB039.out.three
    have B0z := KB039.out.lt
    obtain ⟨B1a, B1b⟩ := KB139.out.two
    have B1z := KB139.out.lt
    obtain ⟨Sa, Sb, Sc⟩ := KS39.out.three
    have Sz := KS39.out.lt
    obtain ⟨Ga, Gb, Gc⟩ := KG39.out.three
    have Gz := KG39.out.lt
    go_wp2_with fail
    refine (heldPanelR_any (sbW W0 H0 zs0 x1 y1 a2) (sbH W0 H0 zs0 x1 y1 a2) _ _ 1 (sbN W0 H0 zs0 x1 y1 a2) _ _ _ (GR_39.out) (by omega)).mono ?_
    rintro e w40 ⟨rfl, hb40⟩
    clear B0a B0b B0c B0z B1a B1b B1z Sa Sb Sc Sz Ga Gb Gc Gz
    have Z40 : Hid (w39.heap.size ≤ w40.heap.size) := hid (by have h := Below.size (hb40); (try simp only [World.size_alloc, World.size_drew] at h); omega)
    have WR_40 : Hid (Rgn w40 (lo16) (hi16) 2 1 (.slice A16 (sbN W0 H0 zs0 x1 y1 a2) c16) (sbN W0 H0 zs0 x1 y1 a2) (vals (sbL W0 H0 zs0 x1 y1 a2))) := hid (Rgn.keep (WR_39.out) hb40)
    have GR_40 : Hid (Rgn w40 (lo33) (hi33) 2 1 (.slice A33 (sbN W0 H0 zs0 x1 y1 a2) c33) (sbN W0 H0 zs0 x1 y1 a2) (vals (marks 1 (sbN W0 H0 zs0 x1 y1 a2)))) := hid (Rgn.keep (GR_39.out) hb40)
    have KB040 : Hid (Box w40 (w.heap.size) 24 #[.int .i64 W0, .int .i64 H0, .slice A0 zs0.length c0]) := hid (Box.keep (KB039.out) hb40)
    have KB140 : Hid (Box w40 (w.heap.size + 1) 26 #[.int .i64 x1, .int .i64 y1]) := hid (Box.keep (KB139.out) hb40)
    have KS40 : Hid (Box w40 (bb16) 30 #[.int .i64 (sbW W0 H0 zs0 x1 y1 a2), .int .i64 (sbH W0 H0 zs0 x1 y1 a2), .slice A16 (sbN W0 H0 zs0 x1 y1 a2) c16]) := hid (Box.keep (KS39.out) hb40)
    have KG40 : Hid (Box w40 (bb33) 30 #[.int .i64 (sbW W0 H0 zs0 x1 y1 a2), .int .i64 (sbH W0 H0 zs0 x1 y1 a2), .slice A33 (sbN W0 H0 zs0 x1 y1 a2) c33]) := hid (Box.keep (KG39.out) hb40)
    have HB40 : Hid (Below w.heap.size w w40) := hid (bstep (HB39.out) hb40)
    clear hb40
    obtain ⟨B0a, B0b, B0c⟩ := KB040.out.three
    have B0z := KB040.out.lt
    obtain ⟨B1a, B1b⟩ := KB140.out.two
    have B1z := KB140.out.lt
    obtain ⟨Sa, Sb, Sc⟩ := KS40.out.three
    have Sz := KS40.out.lt
    obtain ⟨Ga, Gb, Gc⟩ := KG40.out.three
    have Gz := KG40.out.lt
    go_wp2_with fail
    clear B0a B0b B0c B0z B1a B1b B1z Sa Sb Sc Sz Ga Gb Gc Gz
    go_cut [16, 17] (fun s16 s17 wz => ∃ (bb : Nat) (A' : Option Addr) (c' lo hi : Nat), s16 = .pointer (some ⟨bb, 0, none⟩) ∧ s17 = .int .i64 (sbC W0 H0 zs0 x1 y1 a2) ∧ Hid (Below w.heap.size w wz) ∧ Hid (Box wz bb 30 #[.int .i64 (sbW W0 H0 zs0 x1 y1 a2), .int .i64 (sbH W0 H0 zs0 x1 y1 a2), .slice A' (sbN W0 H0 zs0 x1 y1 a2) c']) ∧ Hid (Box wz (w.heap.size) 24 #[.int .i64 W0, .int .i64 H0, .slice A0 zs0.length c0]) ∧ Hid (Box wz (w.heap.size + 1) 26 #[.int .i64 x1, .int .i64 y1]) ∧ Hid (Box wz (bb16) 30 #[.int .i64 (sbW W0 H0 zs0 x1 y1 a2), .int .i64 (sbH W0 H0 zs0 x1 y1 a2), .slice A16 (sbN W0 H0 zs0 x1 y1 a2) c16]) ∧ Hid (Box wz (bb33) 30 #[.int .i64 (sbW W0 H0 zs0 x1 y1 a2), .int .i64 (sbH W0 H0 zs0 x1 y1 a2), .slice A33 (sbN W0 H0 zs0 x1 y1 a2) c33]) ∧ Hid (Rgn wz (lo16) (hi16) 2 1 (.slice A16 (sbN W0 H0 zs0 x1 y1 a2) c16) (sbN W0 H0 zs0 x1 y1 a2) (vals (sbL W0 H0 zs0 x1 y1 a2))) ∧ Hid (Rgn wz (lo33) (hi33) 2 1 (.slice A33 (sbN W0 H0 zs0 x1 y1 a2) c33) (sbN W0 H0 zs0 x1 y1 a2) (vals (marks 1 (sbN W0 H0 zs0 x1 y1 a2)))) ∧ Hid (Rgn wz lo hi 2 1 (.slice A' (sbN W0 H0 zs0 x1 y1 a2) c') (sbN W0 H0 zs0 x1 y1 a2) (vals (sbL W0 H0 zs0 x1 y1 a2))) ∧ Hid (w40.heap.size ≤ lo ∧ hi ≤ wz.heap.size ∧ (bb < lo ∨ hi ≤ bb) ∧ w40.heap.size ≤ bb ∧ bb < wz.heap.size ∧ lo ≤ hi))
    case first =>
      have q1 := Z1.out
      have q16 := Z16.out
      have q17 := Z17.out
      have q18 := Z18.out
      have q33 := Z33.out
      have q34 := Z34.out
      have q35 := Z35.out
      have q36 := Z36.out
      have q37 := Z37.out
      have q38 := Z38.out
      have q39 := Z39.out
      have q40 := Z40.out
      obtain ⟨B0a, B0b, B0c⟩ := KB040.out.three
      have B0z := KB040.out.lt
      obtain ⟨B1a, B1b⟩ := KB140.out.two
      have B1z := KB140.out.lt
      go_region_held3 (fun zz => zz.cell? ⟨w.heap.size, 0, none⟩ = some (.int .i64 W0) ∧ zz.cell? ⟨w.heap.size, 1, none⟩ = some (.int .i64 H0) ∧ zz.cell? ⟨w.heap.size, 2, none⟩ = some (.slice A0 zs0.length c0) ∧ zz.cell? ⟨w.heap.size + 1, 0, none⟩ = some (.int .i64 x1) ∧ zz.cell? ⟨w.heap.size + 1, 1, none⟩ = some (.int .i64 y1))
        (first | exact ⟨(Box.three (show Box _ (w.heap.size) 24 #[.int .i64 W0, .int .i64 H0, .slice A0 zs0.length c0] from (by (repeat (with_reducible first | assumption | exact Hid.out (by assumption) | exact Box.new' _ _ _ _ (by simp) | refine Box.alloc ?_ _ | refine Box.drew ?_ | refine Box.drewN ?_ _ | exact Box.put4 (Hid.out (by assumption)) | exact Box.put3 (Hid.out (by assumption)) | exact Box.put2 (Hid.out (by assumption)) | refine Box.far ?_ (by (repeat (with_reducible first | exact Hid.out (by assumption) | exact Box.new' _ _ _ _ (by simp) | refine Box.alloc ?_ _ | refine Box.drew ?_ | refine Box.keep ?_ (Hid.out (by assumption))))) _ _ | refine Box.keep ?_ (Hid.out (by assumption))))))).1, (Box.three (show Box _ (w.heap.size) 24 #[.int .i64 W0, .int .i64 H0, .slice A0 zs0.length c0] from (by (repeat (with_reducible first | assumption | exact Hid.out (by assumption) | exact Box.new' _ _ _ _ (by simp) | refine Box.alloc ?_ _ | refine Box.drew ?_ | refine Box.drewN ?_ _ | exact Box.put4 (Hid.out (by assumption)) | exact Box.put3 (Hid.out (by assumption)) | exact Box.put2 (Hid.out (by assumption)) | refine Box.far ?_ (by (repeat (with_reducible first | exact Hid.out (by assumption) | exact Box.new' _ _ _ _ (by simp) | refine Box.alloc ?_ _ | refine Box.drew ?_ | refine Box.keep ?_ (Hid.out (by assumption))))) _ _ | refine Box.keep ?_ (Hid.out (by assumption))))))).2.1, (Box.three (show Box _ (w.heap.size) 24 #[.int .i64 W0, .int .i64 H0, .slice A0 zs0.length c0] from (by (repeat (with_reducible first | assumption | exact Hid.out (by assumption) | exact Box.new' _ _ _ _ (by simp) | refine Box.alloc ?_ _ | refine Box.drew ?_ | refine Box.drewN ?_ _ | exact Box.put4 (Hid.out (by assumption)) | exact Box.put3 (Hid.out (by assumption)) | exact Box.put2 (Hid.out (by assumption)) | refine Box.far ?_ (by (repeat (with_reducible first | exact Hid.out (by assumption) | exact Box.new' _ _ _ _ (by simp) | refine Box.alloc ?_ _ | refine Box.drew ?_ | refine Box.keep ?_ (Hid.out (by assumption))))) _ _ | refine Box.keep ?_ (Hid.out (by assumption))))))).2.2, (Box.two (show Box _ (w.heap.size + 1) 26 #[.int .i64 x1, .int .i64 y1] from (by (repeat (with_reducible first | assumption | exact Hid.out (by assumption) | exact Box.new' _ _ _ _ (by simp) | refine Box.alloc ?_ _ | refine Box.drew ?_ | refine Box.drewN ?_ _ | exact Box.put4 (Hid.out (by assumption)) | exact Box.put3 (Hid.out (by assumption)) | exact Box.put2 (Hid.out (by assumption)) | refine Box.far ?_ (by (repeat (with_reducible first | exact Hid.out (by assumption) | exact Box.new' _ _ _ _ (by simp) | refine Box.alloc ?_ _ | refine Box.drew ?_ | refine Box.keep ?_ (Hid.out (by assumption))))) _ _ | refine Box.keep ?_ (Hid.out (by assumption))))))).1, (Box.two (show Box _ (w.heap.size + 1) 26 #[.int .i64 x1, .int .i64 y1] from (by (repeat (with_reducible first | assumption | exact Hid.out (by assumption) | exact Box.new' _ _ _ _ (by simp) | refine Box.alloc ?_ _ | refine Box.drew ?_ | refine Box.drewN ?_ _ | exact Box.put4 (Hid.out (by assumption)) | exact Box.put3 (Hid.out (by assumption)) | exact Box.put2 (Hid.out (by assumption)) | refine Box.far ?_ (by (repeat (with_reducible first | exact Hid.out (by assumption) | exact Box.new' _ _ _ _ (by simp) | refine Box.alloc ?_ _ | refine Box.drew ?_ | refine Box.keep ?_ (Hid.out (by assumption))))) _ _ | refine Box.keep ?_ (Hid.out (by assumption))))))).2⟩)
        (first | (go_at_call 17; refine (toPanel_any W0 H0 A0 c0 zs0 _ w.heap.size (hz0.below (by (repeat (with_reducible first | assumption | exact Hid.out (by assumption) | exact Below.refl _ _ | refine bal ?_ _ | refine Below.drew ?_ | refine bel_far ?_ (by (repeat (with_reducible first | assumption | exact Hid.out (by assumption) | exact Below.refl _ _ | refine bal ?_ _ | refine Below.drew ?_ | refine bstep ?_ (Hid.out (by assumption))))) _ _ | refine bstep ?_ (Hid.out (by assumption)))))) (Below.size (w := w) (B := w.heap.size) (by (repeat (with_reducible first | assumption | exact Hid.out (by assumption) | exact Below.refl _ _ | refine bal ?_ _ | refine Below.drew ?_ | refine bel_far ?_ (by (repeat (with_reducible first | assumption | exact Hid.out (by assumption) | exact Below.refl _ _ | refine bal ?_ _ | refine Below.drew ?_ | refine bstep ?_ (Hid.out (by assumption))))) _ _ | refine bstep ?_ (Hid.out (by assumption)))))) (by omega)).mono ?_; rintro e w51 ⟨⟨A51, c51, rfl, ho51⟩, hb51⟩; have HB51 := hid hb51; have z51 := hb51.size; (try simp only [World.size_alloc, World.size_drew] at z51); (first | (have KZ51 := hid (box_of_alloc hb51)) | (have KZ51 := hid (box_of_alloc' hb51)) | (have KZ51 := hid (Box.keep KZ50.out hb51)) | (have KZ51 := hid (Box.keep KZ49.out hb51)) | skip); (try (obtain ⟨za51, zb51, zc51⟩ := KZ51.out.three; have zf51 := KZ51.out.free)); clear hb51; have HO51 := hid (own_low (w := w) ho51 (by (repeat (with_reducible first | assumption | exact Hid.out (by assumption) | exact Below.refl _ _ | refine bal ?_ _ | refine Below.drew ?_ | refine bel_far ?_ (by (repeat (with_reducible first | assumption | exact Hid.out (by assumption) | exact Below.refl _ _ | refine bal ?_ _ | refine Below.drew ?_ | refine bstep ?_ (Hid.out (by assumption))))) _ _ | refine bstep ?_ (Hid.out (by assumption)))))); clear ho51) | (go_at_call 18; refine (toPoint_any x1 y1 _).mono ?_; rintro e w52 ⟨rfl, hb52⟩; have HB52 := hid hb52; have z52 := hb52.size; (try simp only [World.size_alloc, World.size_drew] at z52); (first | (have KZ52 := hid (box_of_alloc hb52)) | (have KZ52 := hid (box_of_alloc' hb52)) | (have KZ52 := hid (Box.keep KZ51.out hb52)) | (have KZ52 := hid (Box.keep KZ50.out hb52)) | skip); (try (obtain ⟨za52, zb52, zc52⟩ := KZ52.out.three; have zf52 := KZ52.out.free)); clear hb52) | (go_at_call 56; refine (implSetBreak_any W0 H0 A51 c51 zs0 x1 y1 a2 _ (own_ints (w := w) (n := zs0.length) (c := c51) (by (repeat (with_reducible first | assumption | exact Hid.out (by assumption) | refine OwnI.alloc ?_ _ | refine OwnI.far ?_ (by (repeat (with_reducible first | exact Hid.out (by assumption) | refine OwnI.alloc ?_ _ | refine OwnI.drew ?_ | refine OwnI.keep ?_ (Hid.out (by assumption))))) _ _ | refine OwnI.drew ?_ | refine OwnI.keep ?_ (Hid.out (by assumption)))))) hl0 wx1 wy1 wa2).mono ?_; rintro e w53 ⟨⟨A53, c53, rfl, ho53⟩, hb53⟩; have HB53 := hid hb53; have z53 := hb53.size; (try simp only [World.size_alloc, World.size_drew] at z53); (first | (have KZ53 := hid (box_of_alloc hb53)) | (have KZ53 := hid (box_of_alloc' hb53)) | (have KZ53 := hid (Box.keep KZ52.out hb53)) | (have KZ53 := hid (Box.keep KZ51.out hb53)) | skip); (try (obtain ⟨za53, zb53, zc53⟩ := KZ53.out.three; have zf53 := KZ53.out.free)); obtain ⟨lo53, hlo53, HR53⟩ : ∃ lo, lo = _ ∧ Hid (Rgn w53 lo w53.heap.size 2 1 (.slice A53 (sbN W0 H0 zs0 x1 y1 a2) c53) (sbN W0 H0 zs0 x1 y1 a2) (vals (sbL W0 H0 zs0 x1 y1 a2))) := ⟨_, rfl, hid (Rgn.of ho53 rfl rfl)⟩; (try simp only [World.size_alloc, World.size_drew] at hlo53); clear hb53 ho53))
      all_goals (try go_wp2_with fail)
      all_goals go_meet
      all_goals (exact ⟨_, A53, c53, lo53, w53.heap.size, rfl, rfl, hid (by (repeat (with_reducible first | assumption | exact Hid.out (by assumption) | exact Below.refl _ _ | refine bal ?_ _ | refine Below.drew ?_ | refine bel_far ?_ (by (repeat (with_reducible first | assumption | exact Hid.out (by assumption) | exact Below.refl _ _ | refine bal ?_ _ | refine Below.drew ?_ | refine bstep ?_ (Hid.out (by assumption))))) _ _ | refine bstep ?_ (Hid.out (by assumption))))), hid (by (repeat (with_reducible first | assumption | exact Hid.out (by assumption) | exact Box.new' _ _ _ _ (by simp) | refine Box.alloc ?_ _ | refine Box.drew ?_ | refine Box.drewN ?_ _ | exact Box.put4 (Hid.out (by assumption)) | exact Box.put3 (Hid.out (by assumption)) | exact Box.put2 (Hid.out (by assumption)) | refine Box.far ?_ (by (repeat (with_reducible first | exact Hid.out (by assumption) | exact Box.new' _ _ _ _ (by simp) | refine Box.alloc ?_ _ | refine Box.drew ?_ | refine Box.keep ?_ (Hid.out (by assumption))))) _ _ | refine Box.keep ?_ (Hid.out (by assumption))))), hid (by (repeat (with_reducible first | assumption | exact Hid.out (by assumption) | exact Box.new' _ _ _ _ (by simp) | refine Box.alloc ?_ _ | refine Box.drew ?_ | refine Box.drewN ?_ _ | exact Box.put4 (Hid.out (by assumption)) | exact Box.put3 (Hid.out (by assumption)) | exact Box.put2 (Hid.out (by assumption)) | refine Box.far ?_ (by (repeat (with_reducible first | exact Hid.out (by assumption) | exact Box.new' _ _ _ _ (by simp) | refine Box.alloc ?_ _ | refine Box.drew ?_ | refine Box.keep ?_ (Hid.out (by assumption))))) _ _ | refine Box.keep ?_ (Hid.out (by assumption))))), hid (by (repeat (with_reducible first | assumption | exact Hid.out (by assumption) | exact Box.new' _ _ _ _ (by simp) | refine Box.alloc ?_ _ | refine Box.drew ?_ | refine Box.drewN ?_ _ | exact Box.put4 (Hid.out (by assumption)) | exact Box.put3 (Hid.out (by assumption)) | exact Box.put2 (Hid.out (by assumption)) | refine Box.far ?_ (by (repeat (with_reducible first | exact Hid.out (by assumption) | exact Box.new' _ _ _ _ (by simp) | refine Box.alloc ?_ _ | refine Box.drew ?_ | refine Box.keep ?_ (Hid.out (by assumption))))) _ _ | refine Box.keep ?_ (Hid.out (by assumption))))), hid (by (repeat (with_reducible first | assumption | exact Hid.out (by assumption) | exact Box.new' _ _ _ _ (by simp) | refine Box.alloc ?_ _ | refine Box.drew ?_ | refine Box.drewN ?_ _ | exact Box.put4 (Hid.out (by assumption)) | exact Box.put3 (Hid.out (by assumption)) | exact Box.put2 (Hid.out (by assumption)) | refine Box.far ?_ (by (repeat (with_reducible first | exact Hid.out (by assumption) | exact Box.new' _ _ _ _ (by simp) | refine Box.alloc ?_ _ | refine Box.drew ?_ | refine Box.keep ?_ (Hid.out (by assumption))))) _ _ | refine Box.keep ?_ (Hid.out (by assumption))))), hid (by (repeat (with_reducible first | assumption | exact Hid.out (by assumption) | exact Box.new' _ _ _ _ (by simp) | refine Box.alloc ?_ _ | refine Box.drew ?_ | refine Box.drewN ?_ _ | exact Box.put4 (Hid.out (by assumption)) | exact Box.put3 (Hid.out (by assumption)) | exact Box.put2 (Hid.out (by assumption)) | refine Box.far ?_ (by (repeat (with_reducible first | exact Hid.out (by assumption) | exact Box.new' _ _ _ _ (by simp) | refine Box.alloc ?_ _ | refine Box.drew ?_ | refine Box.keep ?_ (Hid.out (by assumption))))) _ _ | refine Box.keep ?_ (Hid.out (by assumption))))), hid (by (repeat (with_reducible first | assumption | exact Hid.out (by assumption) | refine Rgn.alloc ?_ _ | refine Rgn.set ?_ (by (try simp only [World.size_alloc, World.size_drew]); omega) _ | refine Rgn.drew ?_ | refine Rgn.keep ?_ (Hid.out (by assumption))))), hid (by (repeat (with_reducible first | assumption | exact Hid.out (by assumption) | refine Rgn.alloc ?_ _ | refine Rgn.set ?_ (by (try simp only [World.size_alloc, World.size_drew]); omega) _ | refine Rgn.drew ?_ | refine Rgn.keep ?_ (Hid.out (by assumption))))), hid (by (repeat (with_reducible first | assumption | exact Hid.out (by assumption) | refine Rgn.alloc ?_ _ | refine Rgn.set ?_ (by (try simp only [World.size_alloc, World.size_drew]); omega) _ | refine Rgn.drew ?_ | refine Rgn.keep ?_ (Hid.out (by assumption))))), hid ⟨(by (try simp only [World.size_alloc, World.size_drew, World.size_setCell]); omega), (by (try simp only [World.size_alloc, World.size_drew, World.size_setCell]); omega), (by (try simp only [World.size_alloc, World.size_drew, World.size_setCell]); omega), (by (try simp only [World.size_alloc, World.size_drew, World.size_setCell]); omega), (by (try simp only [World.size_alloc, World.size_drew, World.size_setCell]); omega), (by (try simp only [World.size_alloc, World.size_drew, World.size_setCell]); omega)⟩⟩)
    obtain ⟨bb55, A55, c55, lo55, hi55, rfl, rfl, HB55, KN55, KB055, KB155, KS55, KG55, WR_55, GR_55, HR55, Z55⟩ := hcut
    obtain ⟨w55, hw55⟩ : ∃ zz : World, zz = wc := ⟨_, rfl⟩
    subst hw55
    obtain ⟨B0a, B0b, B0c⟩ := KB055.out.three
    have B0z := KB055.out.lt
    obtain ⟨B1a, B1b⟩ := KB155.out.two
    have B1z := KB155.out.lt
    obtain ⟨Sa, Sb, Sc⟩ := KS55.out.three
    have Sz := KS55.out.lt
    obtain ⟨Ga, Gb, Gc⟩ := KG55.out.three
    have Gz := KG55.out.lt
    obtain ⟨Hha, Hhb, Hhc⟩ := KN55.out.three
    have Hhz := KN55.out.lt
    go_wp2_with fail
    refine (eqPanelR_any (sbW W0 H0 zs0 x1 y1 a2) (sbH W0 H0 zs0 x1 y1 a2) _ _ _ _ (sbL W0 H0 zs0 x1 y1 a2) (sbN W0 H0 zs0 x1 y1 a2) _ _ _ ((HR55.out)).1 ((WR_55.out)).1 (by unfold maxLen; omega)).mono ?_
    rintro e w56 ⟨rfl, hb56⟩
    clear B0a B0b B0c B0z B1a B1b B1z Sa Sb Sc Sz Ga Gb Gc Gz Hha Hhb Hhc Hhz
    have Z56 : Hid (w55.heap.size ≤ w56.heap.size) := hid (by have h := Below.size (hb56); (try simp only [World.size_alloc, World.size_drew] at h); omega)
    have WR_56 : Hid (Rgn w56 (lo16) (hi16) 2 1 (.slice A16 (sbN W0 H0 zs0 x1 y1 a2) c16) (sbN W0 H0 zs0 x1 y1 a2) (vals (sbL W0 H0 zs0 x1 y1 a2))) := hid (Rgn.keep (WR_55.out) hb56)
    have GR_56 : Hid (Rgn w56 (lo33) (hi33) 2 1 (.slice A33 (sbN W0 H0 zs0 x1 y1 a2) c33) (sbN W0 H0 zs0 x1 y1 a2) (vals (marks 1 (sbN W0 H0 zs0 x1 y1 a2)))) := hid (Rgn.keep (GR_55.out) hb56)
    have HR_56 : Hid (Rgn w56 (lo55) (hi55) 2 1 (.slice A55 (sbN W0 H0 zs0 x1 y1 a2) c55) (sbN W0 H0 zs0 x1 y1 a2) (vals (sbL W0 H0 zs0 x1 y1 a2))) := hid (Rgn.keep (HR55.out) hb56)
    have KB056 : Hid (Box w56 (w.heap.size) 24 #[.int .i64 W0, .int .i64 H0, .slice A0 zs0.length c0]) := hid (Box.keep (KB055.out) hb56)
    have KB156 : Hid (Box w56 (w.heap.size + 1) 26 #[.int .i64 x1, .int .i64 y1]) := hid (Box.keep (KB155.out) hb56)
    have KS56 : Hid (Box w56 (bb16) 30 #[.int .i64 (sbW W0 H0 zs0 x1 y1 a2), .int .i64 (sbH W0 H0 zs0 x1 y1 a2), .slice A16 (sbN W0 H0 zs0 x1 y1 a2) c16]) := hid (Box.keep (KS55.out) hb56)
    have KG56 : Hid (Box w56 (bb33) 30 #[.int .i64 (sbW W0 H0 zs0 x1 y1 a2), .int .i64 (sbH W0 H0 zs0 x1 y1 a2), .slice A33 (sbN W0 H0 zs0 x1 y1 a2) c33]) := hid (Box.keep (KG55.out) hb56)
    have KHh56 : Hid (Box w56 (bb55) 30 #[.int .i64 (sbW W0 H0 zs0 x1 y1 a2), .int .i64 (sbH W0 H0 zs0 x1 y1 a2), .slice A55 (sbN W0 H0 zs0 x1 y1 a2) c55]) := hid (Box.keep (KN55.out) hb56)
    have HB56 : Hid (Below w.heap.size w w56) := hid (bstep (HB55.out) hb56)
    clear hb56
    obtain ⟨B0a, B0b, B0c⟩ := KB056.out.three
    have B0z := KB056.out.lt
    obtain ⟨B1a, B1b⟩ := KB156.out.two
    have B1z := KB156.out.lt
    obtain ⟨Sa, Sb, Sc⟩ := KS56.out.three
    have Sz := KS56.out.lt
    obtain ⟨Ga, Gb, Gc⟩ := KG56.out.three
    have Gz := KG56.out.lt
    obtain ⟨Hha, Hhb, Hhc⟩ := KHh56.out.three
    have Hhz := KHh56.out.lt
    go_wp2_with fail
    refine (heldPanelR_any (sbW W0 H0 zs0 x1 y1 a2) (sbH W0 H0 zs0 x1 y1 a2) _ _ 1 (sbN W0 H0 zs0 x1 y1 a2) _ _ _ (GR_56.out) (by omega)).mono ?_
    rintro e w57 ⟨rfl, hb57⟩
    clear B0a B0b B0c B0z B1a B1b B1z Sa Sb Sc Sz Ga Gb Gc Gz Hha Hhb Hhc Hhz
    have Z57 : Hid (w56.heap.size ≤ w57.heap.size) := hid (by have h := Below.size (hb57); (try simp only [World.size_alloc, World.size_drew] at h); omega)
    have GR_57 : Hid (Rgn w57 (lo33) (hi33) 2 1 (.slice A33 (sbN W0 H0 zs0 x1 y1 a2) c33) (sbN W0 H0 zs0 x1 y1 a2) (vals (marks 1 (sbN W0 H0 zs0 x1 y1 a2)))) := hid (Rgn.keep (GR_56.out) hb57)
    have KB057 : Hid (Box w57 (w.heap.size) 24 #[.int .i64 W0, .int .i64 H0, .slice A0 zs0.length c0]) := hid (Box.keep (KB056.out) hb57)
    have KB157 : Hid (Box w57 (w.heap.size + 1) 26 #[.int .i64 x1, .int .i64 y1]) := hid (Box.keep (KB156.out) hb57)
    have KG57 : Hid (Box w57 (bb33) 30 #[.int .i64 (sbW W0 H0 zs0 x1 y1 a2), .int .i64 (sbH W0 H0 zs0 x1 y1 a2), .slice A33 (sbN W0 H0 zs0 x1 y1 a2) c33]) := hid (Box.keep (KG56.out) hb57)
    have HB57 : Hid (Below w.heap.size w w57) := hid (bstep (HB56.out) hb57)
    clear hb57
    obtain ⟨B0a, B0b, B0c⟩ := KB057.out.three
    have B0z := KB057.out.lt
    obtain ⟨B1a, B1b⟩ := KB157.out.two
    have B1z := KB157.out.lt
    obtain ⟨Ga, Gb, Gc⟩ := KG57.out.three
    have Gz := KG57.out.lt
    go_wp2_with fail
    go_ret
    exact ⟨rfl, (HB57.out)⟩
  · go_enter Try.func12, Try.ntmps12
    go_wp2_with fail
    refine (szPanel_big _ _ _ _ _ _ _ (by omega) (by omega) hl0).mono ?_
    rintro e w1 ⟨rfl, hb1⟩
    have HB := hid (bstep (bal (bal (Below.refl _ _) _) _) hb1)
    clear hb1
    go_wp2_with fail
    go_ret
    exact ⟨rfl, HB.out⟩
end Go.Proofs.Ytffiigfkmdgaaaa

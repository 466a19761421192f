/- The walk of FnExactSamePanel. -/
import Derived.Test.YthcoimlbjhdjcaaSp
import Derived.Test.YthcoimlbjhdjcaaRg
import Derived.Test.YthcoimlbjhdjcaaAu
import Derived.Deep.RegionHeld3
namespace Go.Proofs.Ythcoimlbjhdjcaa
set_option linter.unusedSimpArgs false
set_option linter.unusedVariables false
open Go.ChangeShapes Go.WideShapes Go.ChangeAt Go.RowKit
set_option maxHeartbeats 4000000 in
set_option maxRecDepth 100000 in
theorem fnExactSamePanel_walk (w : World) (W0 : Int) (H0 : Int) (A0 : Option Addr) (c0 : Nat) (zs0 : List Int) (wW0 : (Lit.int .i64 W0).wf = true) (wH0 : (Lit.int .i64 H0).wf = true) (hl0 : zs0.length ≤ maxLen) (hz0 : Ints w w.heap.size A0 zs0) (hw0 : ∀ z ∈ zs0, (Lit.int .i64 z).wf = true)
    (W1 : Int) (H1 : Int) (A1 : Option Addr) (c1 : Nat) (zs1 : List Int) (wW1 : (Lit.int .i64 W1).wf = true) (wH1 : (Lit.int .i64 H1).wf = true) (hl1 : zs1.length ≤ maxLen) (hz1 : Ints w w.heap.size A1 zs1) (hw1 : ∀ z ∈ zs1, (Lit.int .i64 z).wf = true) :
    Calls Try.prog 13 #[.agg #[.int .i64 W0, .int .i64 H0, .slice A0 zs0.length c0], .agg #[.int .i64 W1, .int .i64 H1, .slice A1 zs1.length c1]] w fun e w' => e = .returned (.bool true) ∧ Below w.heap.size w w' := by
  by_cases hs0 : (zs0.length : Int) ≤ 1048576
  · by_cases hs1 : (zs1.length : Int) ≤ 1048576 - zs0.length
    · obtain ⟨bv, hbv⟩ : ∃ bv, samB W0 H0 W1 H1 zs0 zs1 = bv := ⟨_, rfl⟩
      have HBV := hid hbv
      clear hbv
      go_enter Try.func13, Try.ntmps13
      go_wp2_with fail
      refine (szPanel_any _ _ _ _ _ _ _ hs0 (by omega)).mono ?_
      rintro e w1 ⟨rfl, hb1⟩
      have Z1 : Hid (w.heap.size + 2 ≤ w1.heap.size) := hid (by have h := Below.size (hb1); (try simp only [World.size_alloc, World.size_drew] at h); omega)
      have KB01 : Hid (Box w1 (w.heap.size) 53 #[.int .i64 W0, .int .i64 H0, .slice A0 zs0.length c0]) := hid (Box.keep (Box.alloc (Box.new' _ _ _ _ (by simp)) _) hb1)
      have KB11 : Hid (Box w1 (w.heap.size + 1) 53 #[.int .i64 W1, .int .i64 H1, .slice A1 zs1.length c1]) := hid (Box.keep (Box.new' _ _ _ _ (by simp)) hb1)
      have HB1 : Hid (Below w.heap.size w w1) := hid (bstep (bal (bal (Below.refl _ _) _) _) hb1)
      clear hb1
      obtain ⟨B0a, B0b, B0c⟩ := KB01.out.three
      have B0z := KB01.out.lt
      obtain ⟨B1a, B1b, B1c⟩ := KB11.out.three
      have B1z := KB11.out.lt
      go_wp2_with fail
      refine (szPanel_any _ _ _ _ _ _ _ hs1 (by omega)).mono ?_
      rintro e w2 ⟨rfl, hb2⟩
      clear B0a B0b B0c B0z B1a B1b B1c B1z
      have Z2 : Hid (w1.heap.size ≤ w2.heap.size) := hid (by have h := Below.size (hb2); (try simp only [World.size_alloc, World.size_drew] at h); omega)
      have KB02 : Hid (Box w2 (w.heap.size) 53 #[.int .i64 W0, .int .i64 H0, .slice A0 zs0.length c0]) := hid (Box.keep (KB01.out) hb2)
      have KB12 : Hid (Box w2 (w.heap.size + 1) 53 #[.int .i64 W1, .int .i64 H1, .slice A1 zs1.length c1]) := hid (Box.keep (KB11.out) hb2)
      have HB2 : Hid (Below w.heap.size w w2) := hid (bstep (HB1.out) hb2)
      clear hb2
      obtain ⟨B0a, B0b, B0c⟩ := KB02.out.three
      have B0z := KB02.out.lt
      obtain ⟨B1a, B1b, B1c⟩ := KB12.out.three
      have B1z := KB12.out.lt
      go_wp2_with fail
      clear B0a B0b B0c B0z B1a B1b B1c B1z
      go_cut [6] (fun s6 wz => s6 = .bool bv ∧ Hid (Below w.heap.size w wz) ∧ Hid (Box wz (w.heap.size) 53 #[.int .i64 W0, .int .i64 H0, .slice A0 zs0.length c0]) ∧ Hid (Box wz (w.heap.size + 1) 53 #[.int .i64 W1, .int .i64 H1, .slice A1 zs1.length c1]) ∧ Hid (w2.heap.size ≤ wz.heap.size))
      case first =>
        obtain ⟨B0a, B0b, B0c⟩ := KB02.out.three
        have B0z := KB02.out.lt
        obtain ⟨B1a, B1b, B1c⟩ := KB12.out.three
        have B1z := KB12.out.lt
        have HZ0 : Hid (Below w2.heap.size w2 w2) := hid (Below.refl _ _)
        go_region_held3 (fun zz => zz.cell? ⟨w.heap.size, 0, none⟩ = some (.int .i64 W0) ∧ zz.cell? ⟨w.heap.size, 1, none⟩ = some (.int .i64 H0) ∧ zz.cell? ⟨w.heap.size, 2, none⟩ = some (.slice A0 zs0.length c0) ∧ zz.cell? ⟨w.heap.size + 1, 0, none⟩ = some (.int .i64 W1) ∧ zz.cell? ⟨w.heap.size + 1, 1, none⟩ = some (.int .i64 H1) ∧ zz.cell? ⟨w.heap.size + 1, 2, none⟩ = some (.slice A1 zs1.length c1))
          (first | exact ⟨(Box.three (show Box _ (w.heap.size) 53 #[.int .i64 W0, .int .i64 H0, .slice A0 zs0.length c0] from (by (repeat (with_reducible first | assumption | exact Hid.out (by assumption) | exact Box.new' _ _ _ _ (by simp) | refine Box.alloc ?_ _ | refine Box.drew ?_ | refine Box.drewN ?_ _ | exact Box.put4 (Hid.out (by assumption)) | exact Box.put3 (Hid.out (by assumption)) | exact Box.put2 (Hid.out (by assumption)) | refine Box.far ?_ (by (repeat (with_reducible first | exact Hid.out (by assumption) | exact Box.new' _ _ _ _ (by simp) | refine Box.alloc ?_ _ | refine Box.drew ?_ | refine Box.keep ?_ (Hid.out (by assumption))))) _ _ | refine Box.keep ?_ (Hid.out (by assumption))))))).1, (Box.three (show Box _ (w.heap.size) 53 #[.int .i64 W0, .int .i64 H0, .slice A0 zs0.length c0] from (by (repeat (with_reducible first | assumption | exact Hid.out (by assumption) | exact Box.new' _ _ _ _ (by simp) | refine Box.alloc ?_ _ | refine Box.drew ?_ | refine Box.drewN ?_ _ | exact Box.put4 (Hid.out (by assumption)) | exact Box.put3 (Hid.out (by assumption)) | exact Box.put2 (Hid.out (by assumption)) | refine Box.far ?_ (by (repeat (with_reducible first | exact Hid.out (by assumption) | exact Box.new' _ _ _ _ (by simp) | refine Box.alloc ?_ _ | refine Box.drew ?_ | refine Box.keep ?_ (Hid.out (by assumption))))) _ _ | refine Box.keep ?_ (Hid.out (by assumption))))))).2.1, (Box.three (show Box _ (w.heap.size) 53 #[.int .i64 W0, .int .i64 H0, .slice A0 zs0.length c0] from (by (repeat (with_reducible first | assumption | exact Hid.out (by assumption) | exact Box.new' _ _ _ _ (by simp) | refine Box.alloc ?_ _ | refine Box.drew ?_ | refine Box.drewN ?_ _ | exact Box.put4 (Hid.out (by assumption)) | exact Box.put3 (Hid.out (by assumption)) | exact Box.put2 (Hid.out (by assumption)) | refine Box.far ?_ (by (repeat (with_reducible first | exact Hid.out (by assumption) | exact Box.new' _ _ _ _ (by simp) | refine Box.alloc ?_ _ | refine Box.drew ?_ | refine Box.keep ?_ (Hid.out (by assumption))))) _ _ | refine Box.keep ?_ (Hid.out (by assumption))))))).2.2, (Box.three (show Box _ (w.heap.size + 1) 53 #[.int .i64 W1, .int .i64 H1, .slice A1 zs1.length c1] from (by (repeat (with_reducible first | assumption | exact Hid.out (by assumption) | exact Box.new' _ _ _ _ (by simp) | refine Box.alloc ?_ _ | refine Box.drew ?_ | refine Box.drewN ?_ _ | exact Box.put4 (Hid.out (by assumption)) | exact Box.put3 (Hid.out (by assumption)) | exact Box.put2 (Hid.out (by assumption)) | refine Box.far ?_ (by (repeat (with_reducible first | exact Hid.out (by assumption) | exact Box.new' _ _ _ _ (by simp) | refine Box.alloc ?_ _ | refine Box.drew ?_ | refine Box.keep ?_ (Hid.out (by assumption))))) _ _ | refine Box.keep ?_ (Hid.out (by assumption))))))).1, (Box.three (show Box _ (w.heap.size + 1) 53 #[.int .i64 W1, .int .i64 H1, .slice A1 zs1.length c1] from (by (repeat (with_reducible first | assumption | exact Hid.out (by assumption) | exact Box.new' _ _ _ _ (by simp) | refine Box.alloc ?_ _ | refine Box.drew ?_ | refine Box.drewN ?_ _ | exact Box.put4 (Hid.out (by assumption)) | exact Box.put3 (Hid.out (by assumption)) | exact Box.put2 (Hid.out (by assumption)) | refine Box.far ?_ (by (repeat (with_reducible first | exact Hid.out (by assumption) | exact Box.new' _ _ _ _ (by simp) | refine Box.alloc ?_ _ | refine Box.drew ?_ | refine Box.keep ?_ (Hid.out (by assumption))))) _ _ | refine Box.keep ?_ (Hid.out (by assumption))))))).2.1, (Box.three (show Box _ (w.heap.size + 1) 53 #[.int .i64 W1, .int .i64 H1, .slice A1 zs1.length c1] from (by (repeat (with_reducible first | assumption | exact Hid.out (by assumption) | exact Box.new' _ _ _ _ (by simp) | refine Box.alloc ?_ _ | refine Box.drew ?_ | refine Box.drewN ?_ _ | exact Box.put4 (Hid.out (by assumption)) | exact Box.put3 (Hid.out (by assumption)) | exact Box.put2 (Hid.out (by assumption)) | refine Box.far ?_ (by (repeat (with_reducible first | exact Hid.out (by assumption) | exact Box.new' _ _ _ _ (by simp) | refine Box.alloc ?_ _ | refine Box.drew ?_ | refine Box.keep ?_ (Hid.out (by assumption))))) _ _ | refine Box.keep ?_ (Hid.out (by assumption))))))).2.2⟩)
          (first | (go_at_call_of 47 A0; refine (toPanel_any W0 H0 A0 c0 zs0 _ w.heap.size (hz0.below (by (repeat (with_reducible first | assumption | exact Hid.out (by assumption) | exact Below.refl _ _ | refine bal ?_ _ | refine Below.drew ?_ | refine bel_far ?_ (by (repeat (with_reducible first | assumption | exact Hid.out (by assumption) | exact Below.refl _ _ | refine bal ?_ _ | refine Below.drew ?_ | refine bstep ?_ (Hid.out (by assumption))))) _ _ | refine bstep ?_ (Hid.out (by assumption)))))) (Below.size (w := w) (B := w.heap.size) (by (repeat (with_reducible first | assumption | exact Hid.out (by assumption) | exact Below.refl _ _ | refine bal ?_ _ | refine Below.drew ?_ | refine bel_far ?_ (by (repeat (with_reducible first | assumption | exact Hid.out (by assumption) | exact Below.refl _ _ | refine bal ?_ _ | refine Below.drew ?_ | refine bstep ?_ (Hid.out (by assumption))))) _ _ | refine bstep ?_ (Hid.out (by assumption)))))) (by omega)).mono ?_; rintro e w11 ⟨⟨A11, c11, rfl, ho11⟩, hb11⟩; have HB11 := hid hb11; clear hb11; have HO11 := hid (own_low (w := w) ho11 (by (repeat (with_reducible first | assumption | exact Hid.out (by assumption) | exact Below.refl _ _ | refine bal ?_ _ | refine Below.drew ?_ | refine bel_far ?_ (by (repeat (with_reducible first | assumption | exact Hid.out (by assumption) | exact Below.refl _ _ | refine bal ?_ _ | refine Below.drew ?_ | refine bstep ?_ (Hid.out (by assumption))))) _ _ | refine bstep ?_ (Hid.out (by assumption)))))); clear ho11) | (go_at_call_of 47 A1; refine (toPanel_any W1 H1 A1 c1 zs1 _ w.heap.size (hz1.below (by (repeat (with_reducible first | assumption | exact Hid.out (by assumption) | exact Below.refl _ _ | refine bal ?_ _ | refine Below.drew ?_ | refine bel_far ?_ (by (repeat (with_reducible first | assumption | exact Hid.out (by assumption) | exact Below.refl _ _ | refine bal ?_ _ | refine Below.drew ?_ | refine bstep ?_ (Hid.out (by assumption))))) _ _ | refine bstep ?_ (Hid.out (by assumption)))))) (Below.size (w := w) (B := w.heap.size) (by (repeat (with_reducible first | assumption | exact Hid.out (by assumption) | exact Below.refl _ _ | refine bal ?_ _ | refine Below.drew ?_ | refine bel_far ?_ (by (repeat (with_reducible first | assumption | exact Hid.out (by assumption) | exact Below.refl _ _ | refine bal ?_ _ | refine Below.drew ?_ | refine bstep ?_ (Hid.out (by assumption))))) _ _ | refine bstep ?_ (Hid.out (by assumption)))))) (by omega)).mono ?_; rintro e w12 ⟨⟨A12, c12, rfl, ho12⟩, hb12⟩; have HB12 := hid hb12; clear hb12; have HO12 := hid (own_low (w := w) ho12 (by (repeat (with_reducible first | assumption | exact Hid.out (by assumption) | exact Below.refl _ _ | refine bal ?_ _ | refine Below.drew ?_ | refine bel_far ?_ (by (repeat (with_reducible first | assumption | exact Hid.out (by assumption) | exact Below.refl _ _ | refine bal ?_ _ | refine Below.drew ?_ | refine bstep ?_ (Hid.out (by assumption))))) _ _ | refine bstep ?_ (Hid.out (by assumption)))))); clear ho12) | (go_at_call 46; refine (calls_bool (specSamePanel_any W0 H0 W1 H1 A11 A12 c11 c12 zs0 zs1 _ (own_ints (w := w) (n := zs0.length) (c := c11) (by (repeat (with_reducible first | assumption | exact Hid.out (by assumption) | refine OwnI.alloc ?_ _ | refine OwnI.far ?_ (by (repeat (with_reducible first | exact Hid.out (by assumption) | refine OwnI.alloc ?_ _ | refine OwnI.drew ?_ | refine OwnI.keep ?_ (Hid.out (by assumption))))) _ _ | refine OwnI.drew ?_ | refine OwnI.keep ?_ (Hid.out (by assumption)))))) (own_ints (w := w) (n := zs1.length) (c := c12) (by (repeat (with_reducible first | assumption | exact Hid.out (by assumption) | refine OwnI.alloc ?_ _ | refine OwnI.far ?_ (by (repeat (with_reducible first | exact Hid.out (by assumption) | refine OwnI.alloc ?_ _ | refine OwnI.drew ?_ | refine OwnI.keep ?_ (Hid.out (by assumption))))) _ _ | refine OwnI.drew ?_ | refine OwnI.keep ?_ (Hid.out (by assumption)))))) hl0 hl1) HBV.out).mono ?_; rintro e w13 ⟨rfl, hb13⟩; have HB13 := hid hb13; clear hb13))
        all_goals (try go_wp2_with fail)
        all_goals go_meet
        all_goals (exact ⟨rfl, hid (by (repeat (with_reducible first | assumption | exact Hid.out (by assumption) | exact Below.refl _ _ | refine bal ?_ _ | refine Below.drew ?_ | refine bel_far ?_ (by (repeat (with_reducible first | assumption | exact Hid.out (by assumption) | exact Below.refl _ _ | refine bal ?_ _ | refine Below.drew ?_ | refine bstep ?_ (Hid.out (by assumption))))) _ _ | refine bstep ?_ (Hid.out (by assumption))))), hid (by (repeat (with_reducible first | assumption | exact Hid.out (by assumption) | exact Box.new' _ _ _ _ (by simp) | refine Box.alloc ?_ _ | refine Box.drew ?_ | refine Box.drewN ?_ _ | exact Box.put4 (Hid.out (by assumption)) | exact Box.put3 (Hid.out (by assumption)) | exact Box.put2 (Hid.out (by assumption)) | refine Box.far ?_ (by (repeat (with_reducible first | exact Hid.out (by assumption) | exact Box.new' _ _ _ _ (by simp) | refine Box.alloc ?_ _ | refine Box.drew ?_ | refine Box.keep ?_ (Hid.out (by assumption))))) _ _ | refine Box.keep ?_ (Hid.out (by assumption))))), hid (by (repeat (with_reducible first | assumption | exact Hid.out (by assumption) | exact Box.new' _ _ _ _ (by simp) | refine Box.alloc ?_ _ | refine Box.drew ?_ | refine Box.drewN ?_ _ | exact Box.put4 (Hid.out (by assumption)) | exact Box.put3 (Hid.out (by assumption)) | exact Box.put2 (Hid.out (by assumption)) | refine Box.far ?_ (by (repeat (with_reducible first | exact Hid.out (by assumption) | exact Box.new' _ _ _ _ (by simp) | refine Box.alloc ?_ _ | refine Box.drew ?_ | refine Box.keep ?_ (Hid.out (by assumption))))) _ _ | refine Box.keep ?_ (Hid.out (by assumption))))), hid (Below.size (w := w2) (B := w2.heap.size) (by (repeat (with_reducible first | assumption | exact Hid.out (by assumption) | exact Below.refl _ _ | refine bal ?_ _ | refine Below.drew ?_ | refine bel_far ?_ (by (repeat (with_reducible first | assumption | exact Hid.out (by assumption) | exact Below.refl _ _ | refine bal ?_ _ | refine Below.drew ?_ | refine bstep ?_ (Hid.out (by assumption))))) _ _ | refine bstep ?_ (Hid.out (by assumption))))))⟩)
      obtain ⟨rfl, HB20, KB020, KB120, Z20⟩ := hcut
      obtain ⟨w20, hw20⟩ : ∃ zz : World, zz = wc := ⟨_, rfl⟩
      subst hw20
      obtain ⟨B0a, B0b, B0c⟩ := KB020.out.three
      have B0z := KB020.out.lt
      obtain ⟨B1a, B1b, B1c⟩ := KB120.out.three
      have B1z := KB120.out.lt
      go_wp2_with fail
      refine (toPanel_any W0 H0 A0 c0 zs0 _ w.heap.size (hz0.below (HB20.out)) (HB20.out).size (by omega)).mono ?_
      rintro e w21 ⟨⟨A21, c21, rfl, ho21⟩, hb21⟩
      clear B0a B0b B0c B0z B1a B1b B1c B1z
      have Z21 : Hid (w20.heap.size ≤ w21.heap.size) := hid (by have h := Below.size (hb21); (try simp only [World.size_alloc, World.size_drew] at h); omega)
      have KB021 : Hid (Box w21 (w.heap.size) 53 #[.int .i64 W0, .int .i64 H0, .slice A0 zs0.length c0]) := hid (Box.keep (KB020.out) hb21)
      have KB121 : Hid (Box w21 (w.heap.size + 1) 53 #[.int .i64 W1, .int .i64 H1, .slice A1 zs1.length c1]) := hid (Box.keep (KB120.out) hb21)
      have HB21 : Hid (Below w.heap.size w w21) := hid (bstep (HB20.out) hb21)
      have XA_21 : Hid (Rgn w21 (w20.heap.size) (w21.heap.size) 2 1 (.slice A21 zs0.length c21) (zs0.length) (vals zs0)) := hid (Rgn.of ho21 (by simp) rfl)
      clear ho21
      clear hb21
      obtain ⟨B0a, B0b, B0c⟩ := KB021.out.three
      have B0z := KB021.out.lt
      obtain ⟨B1a, B1b, B1c⟩ := KB121.out.three
      have B1z := KB121.out.lt
      go_wp2_with fail
      refine (toPanel_any W1 H1 A1 c1 zs1 _ w.heap.size (hz1.below (bal (HB21.out) _)) (bal (HB21.out) _).size (by omega)).mono ?_
      rintro e w22 ⟨⟨A22, c22, rfl, ho22⟩, hb22⟩
      clear B0a B0b B0c B0z B1a B1b B1c B1z
      have Z22 : Hid (w21.heap.size + 1 ≤ w22.heap.size) := hid (by have h := Below.size (hb22); (try simp only [World.size_alloc, World.size_drew] at h); omega)
      have XA_22 : Hid (Rgn w22 (w20.heap.size) (w21.heap.size) 2 1 (.slice A21 zs0.length c21) (zs0.length) (vals zs0)) := hid (Rgn.keep (Rgn.alloc (XA_21.out) _) hb22)
      have KB022 : Hid (Box w22 (w.heap.size) 53 #[.int .i64 W0, .int .i64 H0, .slice A0 zs0.length c0]) := hid (Box.keep (Box.alloc (KB021.out) _) hb22)
      have KB122 : Hid (Box w22 (w.heap.size + 1) 53 #[.int .i64 W1, .int .i64 H1, .slice A1 zs1.length c1]) := hid (Box.keep (Box.alloc (KB121.out) _) hb22)
      have KX22 : Hid (Box w22 (w21.heap.size) 34 #[.int .i64 W0, .int .i64 H0, .slice A21 zs0.length c21]) := hid (Box.keep (Box.new' _ _ _ _ (by simp)) hb22)
      have HB22 : Hid (Below w.heap.size w w22) := hid (bstep (bal (HB21.out) _) hb22)
      have XB_22 : Hid (Rgn w22 (w21.heap.size + 1) (w22.heap.size) 2 1 (.slice A22 zs1.length c22) (zs1.length) (vals zs1)) := hid (Rgn.of ho22 (by simp) rfl)
      clear ho22
      clear hb22
      obtain ⟨B0a, B0b, B0c⟩ := KB022.out.three
      have B0z := KB022.out.lt
      obtain ⟨B1a, B1b, B1c⟩ := KB122.out.three
      have B1z := KB122.out.lt
      obtain ⟨Xa, Xb, Xc⟩ := KX22.out.three
      have Xz := KX22.out.lt
      go_wp2_with fail
      refine (calls_bool (implSamePanel_any W0 H0 W1 H1 _ _ _ _ zs0 zs1 _ (Rgn.ints (Rgn.alloc (XA_22.out) _)) (Rgn.ints (Rgn.alloc (XB_22.out) _)) hl0 hl1) HBV.out).mono ?_
      rintro e w23 ⟨rfl, hb23⟩
      clear B0a B0b B0c B0z B1a B1b B1c B1z Xa Xb Xc Xz
      have Z23 : Hid (w22.heap.size + 1 ≤ w23.heap.size) := hid (by have h := Below.size (hb23); (try simp only [World.size_alloc, World.size_drew] at h); omega)
      have XA_23 : Hid (Rgn w23 (w20.heap.size) (w21.heap.size) 2 1 (.slice A21 zs0.length c21) (zs0.length) (vals zs0)) := hid (Rgn.keep (Rgn.alloc (XA_22.out) _) hb23)
      have XB_23 : Hid (Rgn w23 (w21.heap.size + 1) (w22.heap.size) 2 1 (.slice A22 zs1.length c22) (zs1.length) (vals zs1)) := hid (Rgn.keep (Rgn.alloc (XB_22.out) _) hb23)
      have KB023 : Hid (Box w23 (w.heap.size) 53 #[.int .i64 W0, .int .i64 H0, .slice A0 zs0.length c0]) := hid (Box.keep (Box.alloc (KB022.out) _) hb23)
      have KB123 : Hid (Box w23 (w.heap.size + 1) 53 #[.int .i64 W1, .int .i64 H1, .slice A1 zs1.length c1]) := hid (Box.keep (Box.alloc (KB122.out) _) hb23)
      have KX23 : Hid (Box w23 (w21.heap.size) 34 #[.int .i64 W0, .int .i64 H0, .slice A21 zs0.length c21]) := hid (Box.keep (Box.alloc (KX22.out) _) hb23)
      have KY23 : Hid (Box w23 (w22.heap.size) 34 #[.int .i64 W1, .int .i64 H1, .slice A22 zs1.length c22]) := hid (Box.keep (Box.new' _ _ _ _ (by simp)) hb23)
      have HB23 : Hid (Below w.heap.size w w23) := hid (bstep (bal (HB22.out) _) hb23)
      clear hb23
      obtain ⟨B0a, B0b, B0c⟩ := KB023.out.three
      have B0z := KB023.out.lt
      obtain ⟨B1a, B1b, B1c⟩ := KB123.out.three
      have B1z := KB123.out.lt
      obtain ⟨Xa, Xb, Xc⟩ := KX23.out.three
      have Xz := KX23.out.lt
      obtain ⟨Ya, Yb, Yc⟩ := KY23.out.three
      have Yz := KY23.out.lt
      go_wp2_with fail
      go_region_held3 (fun zz => zz.cell? ⟨w21.heap.size, 0, none⟩ = some (.int .i64 W0) ∧ zz.cell? ⟨w21.heap.size, 1, none⟩ = some (.int .i64 H0) ∧ zz.cell? ⟨w21.heap.size, 2, none⟩ = some (.slice A21 zs0.length c21) ∧ zz.cell? ⟨w.heap.size, 0, none⟩ = some (.int .i64 W0) ∧ zz.cell? ⟨w.heap.size, 1, none⟩ = some (.int .i64 H0) ∧ zz.cell? ⟨w.heap.size, 2, none⟩ = some (.slice A0 zs0.length c0))
        (first | (with_reducible exact ⟨(Box.three KX24.out).1, (Box.three KX24.out).2.1, (Box.three KX24.out).2.2, (Box.three KB024.out).1, (Box.three KB024.out).2.1, (Box.three KB024.out).2.2⟩) | (with_reducible exact ⟨(Box.three KX25.out).1, (Box.three KX25.out).2.1, (Box.three KX25.out).2.2, (Box.three KB025.out).1, (Box.three KB025.out).2.1, (Box.three KB025.out).2.2⟩) | exact ⟨(Box.three ((KX23.out))).1, (Box.three ((KX23.out))).2.1, (Box.three ((KX23.out))).2.2, (Box.three ((KB023.out))).1, (Box.three ((KB023.out))).2.1, (Box.three ((KB023.out))).2.2⟩)
        (first | (go_at_call 47; refine (toPanel_any W0 H0 A0 c0 zs0 _ w.heap.size (hz0.below (Below.drew (HB23.out))) (Below.drew (HB23.out)).size (by omega)).mono ?_; rintro e w24 ⟨⟨A24, c24, rfl, ho24⟩, hb24⟩; have hc24 := Below.trans (below_refl_drew _ _) hb24; have Z24 : Hid (w23.heap.size ≤ w24.heap.size) := hid (by have h := Below.size (hc24); (try simp only [World.size_alloc, World.size_drew] at h); omega); have XA_24 : Hid (Rgn w24 (w20.heap.size) (w21.heap.size) 2 1 (.slice A21 zs0.length c21) (zs0.length) (vals zs0)) := hid (Rgn.keep (XA_23.out) hc24); have XB_24 : Hid (Rgn w24 (w21.heap.size + 1) (w22.heap.size) 2 1 (.slice A22 zs1.length c22) (zs1.length) (vals zs1)) := hid (Rgn.keep (XB_23.out) hc24); have KB024 : Hid (Box w24 (w.heap.size) 53 #[.int .i64 W0, .int .i64 H0, .slice A0 zs0.length c0]) := hid (Box.keep (KB023.out) hc24); have KB124 : Hid (Box w24 (w.heap.size + 1) 53 #[.int .i64 W1, .int .i64 H1, .slice A1 zs1.length c1]) := hid (Box.keep (KB123.out) hc24); have KX24 : Hid (Box w24 (w21.heap.size) 34 #[.int .i64 W0, .int .i64 H0, .slice A21 zs0.length c21]) := hid (Box.keep (KX23.out) hc24); have KY24 : Hid (Box w24 (w22.heap.size) 34 #[.int .i64 W1, .int .i64 H1, .slice A22 zs1.length c22]) := hid (Box.keep (KY23.out) hc24); have HB24 : Hid (Below w.heap.size w w24) := hid (bstep (HB23.out) hc24); have TB_24 : Hid (Rgn w24 (w23.heap.size) (w24.heap.size) 2 1 (.slice A24 zs0.length c24) (zs0.length) (vals zs0)) := hid (Rgn.of ho24 (by simp) rfl); clear ho24 hb24 hc24) | (go_at_call 49; refine (eqPanel_any W0 H0 W0 H0 _ _ _ _ zs0 zs0 _ (Rgn.ints (XA_24.out)) (Rgn.ints (TB_24.out)) hl0 hl0 rfl rfl rfl).mono ?_; rintro e w25 ⟨rfl, hb25⟩; have Z25 : Hid (w24.heap.size ≤ w25.heap.size) := hid (by have h := Below.size (hb25); (try simp only [World.size_alloc, World.size_drew] at h); omega); have XA_25 : Hid (Rgn w25 (w20.heap.size) (w21.heap.size) 2 1 (.slice A21 zs0.length c21) (zs0.length) (vals zs0)) := hid (Rgn.keep (XA_24.out) hb25); have XB_25 : Hid (Rgn w25 (w21.heap.size + 1) (w22.heap.size) 2 1 (.slice A22 zs1.length c22) (zs1.length) (vals zs1)) := hid (Rgn.keep (XB_24.out) hb25); have TB_25 : Hid (Rgn w25 (w23.heap.size) (w24.heap.size) 2 1 (.slice A24 zs0.length c24) (zs0.length) (vals zs0)) := hid (Rgn.keep (TB_24.out) hb25); have KB025 : Hid (Box w25 (w.heap.size) 53 #[.int .i64 W0, .int .i64 H0, .slice A0 zs0.length c0]) := hid (Box.keep (KB024.out) hb25); have KB125 : Hid (Box w25 (w.heap.size + 1) 53 #[.int .i64 W1, .int .i64 H1, .slice A1 zs1.length c1]) := hid (Box.keep (KB124.out) hb25); have KX25 : Hid (Box w25 (w21.heap.size) 34 #[.int .i64 W0, .int .i64 H0, .slice A21 zs0.length c21]) := hid (Box.keep (KX24.out) hb25); have KY25 : Hid (Box w25 (w22.heap.size) 34 #[.int .i64 W1, .int .i64 H1, .slice A22 zs1.length c22]) := hid (Box.keep (KY24.out) hb25); have HB25 : Hid (Below w.heap.size w w25) := hid (bstep (HB24.out) hb25); clear hb25))
      clear B0a B0b B0c B0z B1a B1b B1c B1z Xa Xb Xc Xz Ya Yb Yc Yz
      obtain ⟨B0a, B0b, B0c⟩ := KB025.out.three
      have B0z := KB025.out.lt
      obtain ⟨B1a, B1b, B1c⟩ := KB125.out.three
      have B1z := KB125.out.lt
      obtain ⟨Xa, Xb, Xc⟩ := KX25.out.three
      have Xz := KX25.out.lt
      obtain ⟨Ya, Yb, Yc⟩ := KY25.out.three
      have Yz := KY25.out.lt
      go_wp2_with fail
      go_region_held3 (fun zz => zz.cell? ⟨w22.heap.size, 0, none⟩ = some (.int .i64 W1) ∧ zz.cell? ⟨w22.heap.size, 1, none⟩ = some (.int .i64 H1) ∧ zz.cell? ⟨w22.heap.size, 2, none⟩ = some (.slice A22 zs1.length c22) ∧ zz.cell? ⟨w.heap.size + 1, 0, none⟩ = some (.int .i64 W1) ∧ zz.cell? ⟨w.heap.size + 1, 1, none⟩ = some (.int .i64 H1) ∧ zz.cell? ⟨w.heap.size + 1, 2, none⟩ = some (.slice A1 zs1.length c1))
        (first | (with_reducible exact ⟨(Box.three KY26.out).1, (Box.three KY26.out).2.1, (Box.three KY26.out).2.2, (Box.three KB126.out).1, (Box.three KB126.out).2.1, (Box.three KB126.out).2.2⟩) | (with_reducible exact ⟨(Box.three KY27.out).1, (Box.three KY27.out).2.1, (Box.three KY27.out).2.2, (Box.three KB127.out).1, (Box.three KB127.out).2.1, (Box.three KB127.out).2.2⟩) | exact ⟨(Box.three ((KY25.out))).1, (Box.three ((KY25.out))).2.1, (Box.three ((KY25.out))).2.2, (Box.three ((KB125.out))).1, (Box.three ((KB125.out))).2.1, (Box.three ((KB125.out))).2.2⟩)
        (first | (go_at_call 47; refine (toPanel_any W1 H1 A1 c1 zs1 _ w.heap.size (hz1.below (Below.drew (HB25.out))) (Below.drew (HB25.out)).size (by omega)).mono ?_; rintro e w26 ⟨⟨A26, c26, rfl, ho26⟩, hb26⟩; have hc26 := Below.trans (below_refl_drew _ _) hb26; have Z26 : Hid (w25.heap.size ≤ w26.heap.size) := hid (by have h := Below.size (hc26); (try simp only [World.size_alloc, World.size_drew] at h); omega); have XA_26 : Hid (Rgn w26 (w20.heap.size) (w21.heap.size) 2 1 (.slice A21 zs0.length c21) (zs0.length) (vals zs0)) := hid (Rgn.keep (XA_25.out) hc26); have XB_26 : Hid (Rgn w26 (w21.heap.size + 1) (w22.heap.size) 2 1 (.slice A22 zs1.length c22) (zs1.length) (vals zs1)) := hid (Rgn.keep (XB_25.out) hc26); have KB026 : Hid (Box w26 (w.heap.size) 53 #[.int .i64 W0, .int .i64 H0, .slice A0 zs0.length c0]) := hid (Box.keep (KB025.out) hc26); have KB126 : Hid (Box w26 (w.heap.size + 1) 53 #[.int .i64 W1, .int .i64 H1, .slice A1 zs1.length c1]) := hid (Box.keep (KB125.out) hc26); have KX26 : Hid (Box w26 (w21.heap.size) 34 #[.int .i64 W0, .int .i64 H0, .slice A21 zs0.length c21]) := hid (Box.keep (KX25.out) hc26); have KY26 : Hid (Box w26 (w22.heap.size) 34 #[.int .i64 W1, .int .i64 H1, .slice A22 zs1.length c22]) := hid (Box.keep (KY25.out) hc26); have HB26 : Hid (Below w.heap.size w w26) := hid (bstep (HB25.out) hc26); have TB_26 : Hid (Rgn w26 (w25.heap.size) (w26.heap.size) 2 1 (.slice A26 zs1.length c26) (zs1.length) (vals zs1)) := hid (Rgn.of ho26 (by simp) rfl); clear ho26 hb26 hc26) | (go_at_call 49; refine (eqPanel_any W1 H1 W1 H1 _ _ _ _ zs1 zs1 _ (Rgn.ints (XB_26.out)) (Rgn.ints (TB_26.out)) hl1 hl1 rfl rfl rfl).mono ?_; rintro e w27 ⟨rfl, hb27⟩; have Z27 : Hid (w26.heap.size ≤ w27.heap.size) := hid (by have h := Below.size (hb27); (try simp only [World.size_alloc, World.size_drew] at h); omega); have XA_27 : Hid (Rgn w27 (w20.heap.size) (w21.heap.size) 2 1 (.slice A21 zs0.length c21) (zs0.length) (vals zs0)) := hid (Rgn.keep (XA_26.out) hb27); have XB_27 : Hid (Rgn w27 (w21.heap.size + 1) (w22.heap.size) 2 1 (.slice A22 zs1.length c22) (zs1.length) (vals zs1)) := hid (Rgn.keep (XB_26.out) hb27); have TB_27 : Hid (Rgn w27 (w25.heap.size) (w26.heap.size) 2 1 (.slice A26 zs1.length c26) (zs1.length) (vals zs1)) := hid (Rgn.keep (TB_26.out) hb27); have KB027 : Hid (Box w27 (w.heap.size) 53 #[.int .i64 W0, .int .i64 H0, .slice A0 zs0.length c0]) := hid (Box.keep (KB026.out) hb27); have KB127 : Hid (Box w27 (w.heap.size + 1) 53 #[.int .i64 W1, .int .i64 H1, .slice A1 zs1.length c1]) := hid (Box.keep (KB126.out) hb27); have KX27 : Hid (Box w27 (w21.heap.size) 34 #[.int .i64 W0, .int .i64 H0, .slice A21 zs0.length c21]) := hid (Box.keep (KX26.out) hb27); have KY27 : Hid (Box w27 (w22.heap.size) 34 #[.int .i64 W1, .int .i64 H1, .slice A22 zs1.length c22]) := hid (Box.keep (KY26.out) hb27); have HB27 : Hid (Below w.heap.size w w27) := hid (bstep (HB26.out) hb27); clear hb27))
      clear B0a B0b B0c B0z B1a B1b B1c B1z Xa Xb Xc Xz Ya Yb Yc Yz
      obtain ⟨B0a, B0b, B0c⟩ := KB027.out.three
      have B0z := KB027.out.lt
      obtain ⟨B1a, B1b, B1c⟩ := KB127.out.three
      have B1z := KB127.out.lt
      obtain ⟨Xa, Xb, Xc⟩ := KX27.out.three
      have Xz := KX27.out.lt
      obtain ⟨Ya, Yb, Yc⟩ := KY27.out.three
      have Yz := KY27.out.lt
      go_wp2_with fail
      go_ret
      exact ⟨rfl, (HB27.out)⟩
    · go_enter Try.func13, Try.ntmps13
      go_wp2_with fail
      refine (szPanel_any _ _ _ _ _ _ _ hs0 (by omega)).mono ?_
      rintro e w1 ⟨rfl, hb1⟩
      have Z1 : Hid (w.heap.size + 2 ≤ w1.heap.size) := hid (by have h := Below.size (hb1); (try simp only [World.size_alloc, World.size_drew] at h); omega)
      have KB01 : Hid (Box w1 (w.heap.size) 53 #[.int .i64 W0, .int .i64 H0, .slice A0 zs0.length c0]) := hid (Box.keep (Box.alloc (Box.new' _ _ _ _ (by simp)) _) hb1)
      have KB11 : Hid (Box w1 (w.heap.size + 1) 53 #[.int .i64 W1, .int .i64 H1, .slice A1 zs1.length c1]) := hid (Box.keep (Box.new' _ _ _ _ (by simp)) hb1)
      have HB1 : Hid (Below w.heap.size w w1) := hid (bstep (bal (bal (Below.refl _ _) _) _) hb1)
      clear hb1
      obtain ⟨B0a, B0b, B0c⟩ := KB01.out.three
      have B0z := KB01.out.lt
      obtain ⟨B1a, B1b, B1c⟩ := KB11.out.three
      have B1z := KB11.out.lt
      go_wp2_with fail
      refine (szPanel_big _ _ _ _ _ _ _ (by omega) (by omega) hl1).mono ?_
      rintro e w9 ⟨rfl, hb9⟩
      have HB9 := hid (bstep (HB1.out) hb9)
      clear hb9
      go_wp2_with fail
      go_ret
      exact ⟨rfl, HB9.out⟩
  · go_enter Try.func13, Try.ntmps13
    go_wp2_with fail
    refine (szPanel_big _ _ _ _ _ _ _ (by omega) (by omega) hl0).mono ?_
    rintro e w1 ⟨rfl, hb1⟩
    have HB := hid (bstep (bal (bal (Below.refl _ _) _) _) hb1)
    clear hb1
    go_wp2_with fail
    go_ret
    exact ⟨rfl, HB.out⟩
end Go.Proofs.Ythcoimlbjhdjcaa

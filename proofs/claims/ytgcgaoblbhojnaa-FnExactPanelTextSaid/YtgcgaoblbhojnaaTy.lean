/- PanelText: contracts. -/
import Derived.Test.YtgcgaoblbhojnaaTx
import Derived.Test.YtgcgaoblbhojnaaCu
namespace Go.Proofs.Ytgcgaoblbhojnaa
set_option linter.unusedSimpArgs false
set_option linter.unusedVariables false
open Go.ChangeShapes Go.WideShapes Go.ChangeAt Go.RowKit
/-- What PanelText answers. -/
def ptxS (W H : Int) (zs : List Int) : ByteArray := if validB W H zs then txS W H zs else ⟨#[]⟩
set_option maxRecDepth 100000 in
set_option maxHeartbeats 1000000 in
theorem implPanelText_any (W H : Int) (A : Option Addr) (c : Nat) (zs : List Int) (w : World) (hz : Ints w w.heap.size A zs) (hl : zs.length ≤ maxLen) :
    Calls Try.prog 26 #[.agg #[.int .i64 W, .int .i64 H, .slice A zs.length c]] w fun e w' => e = .returned (.string (ptxS W H zs)) ∧ Below w.heap.size w w' := by
  have HZ := hid hz
  cases hv : validB W H zs
  · have HV : Hid (ptxS W H zs = ⟨#[]⟩) := hid (by simp [ptxS, hv])
    have Hv := hid hv
    clear hv hz
    rw [HV.out]
    go_enter Try.func26, Try.ntmps26
    go_wp2_with fail
    refine (calls_bool (validPanel_any W H A c zs _ ((HZ.out.below (bal (Below.refl _ _) _)).more (bal (Below.refl _ _) _).size) hl) Hv.out).mono ?_
    rintro e w1 ⟨rfl, hb1⟩
    have KP1 : Hid (Box w1 (w.heap.size) 39 #[.int .i64 W, .int .i64 H, .slice A zs.length c]) := hid (Box.keep (Box.new' _ _ _ _ (by simp)) hb1)
    have HB1 : Hid (Below w.heap.size w w1) := hid (bstep (bal (Below.refl _ _) _) hb1)
    clear hb1
    obtain ⟨Pa, Pb, Pc⟩ := KP1.out.three
    have Pz := KP1.out.lt
    go_wp2_with fail
    go_ret
    exact ⟨rfl, HB1.out⟩
  · have HV : Hid (ptxS W H zs = txS W H zs) := hid (by simp [ptxS, hv])
    have Hv := hid hv
    clear hv hz
    obtain ⟨S, hS⟩ : ∃ S, txS W H zs = S := ⟨_, rfl⟩
    have HS := hid hS
    rw [hS] at HV
    clear hS
    rw [HV.out]
    go_enter Try.func26, Try.ntmps26
    go_wp2_with fail
    refine (calls_bool (validPanel_any W H A c zs _ ((HZ.out.below (bal (Below.refl _ _) _)).more (bal (Below.refl _ _) _).size) hl) Hv.out).mono ?_
    rintro e w1 ⟨rfl, hb1⟩
    have KP1 : Hid (Box w1 (w.heap.size) 39 #[.int .i64 W, .int .i64 H, .slice A zs.length c]) := hid (Box.keep (Box.new' _ _ _ _ (by simp)) hb1)
    have HB1 : Hid (Below w.heap.size w w1) := hid (bstep (bal (Below.refl _ _) _) hb1)
    clear hb1
    obtain ⟨Pa, Pb, Pc⟩ := KP1.out.three
    have Pz := KP1.out.lt
    go_wp2_with fail
    refine (panelText_any W H A c zs w1 ((HZ.out.below HB1.out).more HB1.out.size) Hv.out).mono ?_
    rintro e w2 ⟨he, hb2⟩
    rw [HS.out] at he
    subst he
    have HB2 : Hid (Below w.heap.size w w2) := hid (bbl HB1.out hb2)
    clear hb2
    go_wp2_with fail
    go_ret
    exact ⟨rfl, HB2.out⟩
set_option maxRecDepth 100000 in
set_option maxHeartbeats 1000000 in
theorem specPanelText_any (W H : Int) (A : Option Addr) (c : Nat) (zs : List Int) (w : World) (hz : Ints w w.heap.size A zs) (hl : zs.length ≤ maxLen) :
    Calls Try.prog 24 #[.agg #[.int .i64 W, .int .i64 H, .slice A zs.length c]] w fun e w' => e = .returned (.string (ptxS W H zs)) ∧ Below w.heap.size w w' := by
  have HZ := hid hz
  cases hv : validB W H zs
  · have HV : Hid (ptxS W H zs = ⟨#[]⟩) := hid (by simp [ptxS, hv])
    have Hv := hid hv
    clear hv hz
    rw [HV.out]
    go_enter Try.func24, Try.ntmps24
    go_wp2_with fail
    refine (qb (calls_bool (l02Ok_any _ W H A c zs _ w.heap.size (Box.new' _ _ _ _ (by simp)) (HZ.out.below (bal (Below.refl _ _) _)) hl) Hv.out)).mono ?_
    rintro e w1 ⟨rfl, hb1⟩
    have KP1 : Hid (Box w1 (w.heap.size) 39 #[.int .i64 W, .int .i64 H, .slice A zs.length c]) := hid (Box.keep (Box.new' _ _ _ _ (by simp)) hb1)
    have HB1 : Hid (Below w.heap.size w w1) := hid (bstep (bal (Below.refl _ _) _) hb1)
    clear hb1
    obtain ⟨Pa, Pb, Pc⟩ := KP1.out.three
    have Pz := KP1.out.lt
    go_wp2_with fail
    go_ret
    exact ⟨rfl, HB1.out⟩
  · have HV : Hid (ptxS W H zs = txS W H zs) := hid (by simp [ptxS, hv])
    have Hv := hid hv
    clear hv hz
    obtain ⟨S, hS⟩ : ∃ S, txS W H zs = S := ⟨_, rfl⟩
    have HS := hid hS
    rw [hS] at HV
    clear hS
    rw [HV.out]
    go_enter Try.func24, Try.ntmps24
    go_wp2_with fail
    refine (qb (calls_bool (l02Ok_any _ W H A c zs _ w.heap.size (Box.new' _ _ _ _ (by simp)) (HZ.out.below (bal (Below.refl _ _) _)) hl) Hv.out)).mono ?_
    rintro e w1 ⟨rfl, hb1⟩
    have KP1 : Hid (Box w1 (w.heap.size) 39 #[.int .i64 W, .int .i64 H, .slice A zs.length c]) := hid (Box.keep (Box.new' _ _ _ _ (by simp)) hb1)
    have HB1 : Hid (Below w.heap.size w w1) := hid (bstep (bal (Below.refl _ _) _) hb1)
    clear hb1
    obtain ⟨Pa, Pb, Pc⟩ := KP1.out.three
    have Pz := KP1.out.lt
    go_wp2_with fail
    refine (l05Text_any _ W H A c zs w1 w.heap.size HB1.out.size KP1.out (HZ.out.below HB1.out) Hv.out).mono ?_
    rintro e w2 ⟨he, hb2⟩
    rw [HS.out] at he
    subst he
    have HB2 : Hid (Below w.heap.size w w2) := hid (bbl HB1.out hb2)
    clear hb2
    go_wp2_with fail
    go_ret
    exact ⟨rfl, HB2.out⟩
end Go.Proofs.Ytgcgaoblbhojnaa

/- IsBorder. -/
import Derived.Test.YtbgigompkmnapaaPe
namespace Go.Proofs.Ytbgigompkmnapaa
set_option linter.unusedSimpArgs false
set_option linter.unusedVariables false
open Go.ChangeShapes Go.WideShapes Go.ChangeAt Go.RowKit
set_option maxHeartbeats 800000 in
theorem implIsBorder_any (W H : Int) (A : Option Addr) (c : Nat) (zs : List Int) (x y : Int) (w : World) (hz : Ints w w.heap.size A zs) (hl : zs.length ≤ maxLen) (wx : (Lit.int .i64 x).wf = true) (wy : (Lit.int .i64 y).wf = true) :
    Calls Try.prog 45 #[.agg #[.int .i64 W, .int .i64 H, .slice A zs.length c], .agg #[.int .i64 x, .int .i64 y]] w fun e w' => e = .returned (.bool (isBorderB W H zs x y)) ∧ Below w.heap.size w w' := by
  cases hv : isPointB W H zs x y
  · have HV : Hid (isBorderB W H zs x y = false) := hid (by simp [isBorderB, hv])
    have Hv := hid hv
    clear hv
    go_enter Try.func45, Try.ntmps45
    go_wp2_with fail
    refine (calls_bool (implIsPoint_any W H A c zs x y _ ((hz.below (bal (bal (Below.refl _ _) _) _)).more (bal (bal (Below.refl _ _) _) _).size) hl wx wy) Hv.out).mono ?_
    rintro e w1 ⟨rfl, hb1⟩
    have KP1 : Hid (Box w1 (w.heap.size) 30 #[.int .i64 W, .int .i64 H, .slice A zs.length c]) := hid (Box.keep (Box.alloc (Box.new' _ _ _ _ (by simp)) _) hb1)
    have KQ1 : Hid (Box w1 (w.heap.size + 1) 32 #[.int .i64 x, .int .i64 y]) := hid (Box.keep (Box.new' _ _ _ _ (by simp)) hb1)
    have HB1 : Hid (Below w.heap.size w w1) := hid (bstep (bal (bal (Below.refl _ _) _) _) hb1)
    clear hb1
    obtain ⟨Pa, Pb, Pc⟩ := KP1.out.three
    have Pz := KP1.out.lt
    obtain ⟨Qa, Qb⟩ := KQ1.out.two
    have Qz := KQ1.out.lt
    go_wp2_with fail
    go_ret
    exact ⟨ret_bool HV.out.symm, (HB1.out)⟩
  · have HV : Hid (isBorderB W H zs x y = edgeP W H x y) := hid (by simp [isBorderB, hv])
    have Hs := hid (valid_sides (show validB W H zs = true by simp only [isPointB, Bool.and_eq_true] at hv; exact hv.1))
    have Hv := hid hv
    clear hv
    go_enter Try.func45, Try.ntmps45
    go_wp2_with fail
    refine (calls_bool (implIsPoint_any W H A c zs x y _ ((hz.below (bal (bal (Below.refl _ _) _) _)).more (bal (bal (Below.refl _ _) _) _).size) hl wx wy) Hv.out).mono ?_
    rintro e w1 ⟨rfl, hb1⟩
    have KP1 : Hid (Box w1 (w.heap.size) 30 #[.int .i64 W, .int .i64 H, .slice A zs.length c]) := hid (Box.keep (Box.alloc (Box.new' _ _ _ _ (by simp)) _) hb1)
    have KQ1 : Hid (Box w1 (w.heap.size + 1) 32 #[.int .i64 x, .int .i64 y]) := hid (Box.keep (Box.new' _ _ _ _ (by simp)) hb1)
    have HB1 : Hid (Below w.heap.size w w1) := hid (bstep (bal (bal (Below.refl _ _) _) _) hb1)
    clear hb1
    obtain ⟨Pa, Pb, Pc⟩ := KP1.out.three
    have Pz := KP1.out.lt
    obtain ⟨Qa, Qb⟩ := KQ1.out.two
    have Qz := KQ1.out.lt
    go_wp2_with fail
    refine (isBorder_any W H x y _ _ _ _ Hs.out.1 Hs.out.2).mono ?_
    rintro e w2 ⟨rfl, hb2⟩
    clear Pa Pb Pc Pz Qa Qb Qz
    have KP2 : Hid (Box w2 (w.heap.size) 30 #[.int .i64 W, .int .i64 H, .slice A zs.length c]) := hid (Box.keep (KP1.out) hb2)
    have KQ2 : Hid (Box w2 (w.heap.size + 1) 32 #[.int .i64 x, .int .i64 y]) := hid (Box.keep (KQ1.out) hb2)
    have HB2 : Hid (Below w.heap.size w w2) := hid (bstep (HB1.out) hb2)
    clear hb2
    obtain ⟨Pa, Pb, Pc⟩ := KP2.out.three
    have Pz := KP2.out.lt
    obtain ⟨Qa, Qb⟩ := KQ2.out.two
    have Qz := KQ2.out.lt
    go_wp2_with fail
    go_ret
    exact ⟨ret_bool HV.out.symm, (HB2.out)⟩
set_option maxHeartbeats 800000 in
theorem specIsBorder_any (W H : Int) (A : Option Addr) (c : Nat) (zs : List Int) (x y : Int) (w : World) (hz : Ints w w.heap.size A zs) (hl : zs.length ≤ maxLen) (wx : (Lit.int .i64 x).wf = true) (wy : (Lit.int .i64 y).wf = true) :
    Calls Try.prog 55 #[.agg #[.int .i64 W, .int .i64 H, .slice A zs.length c], .agg #[.int .i64 x, .int .i64 y]] w fun e w' => e = .returned (.bool (isBorderB W H zs x y)) ∧ Below w.heap.size w w' := by
  cases hv : validB W H zs
  · have HV : Hid (isBorderB W H zs x y = false) := hid (by simp [isBorderB, isPointB, hv])
    have Hv := hid hv
    clear hv
    go_enter Try.func55, Try.ntmps55
    go_wp2_with fail
    refine (qb (calls_bool (l02Ok_any _ W H A c zs _ w.heap.size (Box.alloc (Box.new' _ _ _ _ (by simp)) _) (hz.below (bal (bal (Below.refl _ _) _) _)) hl) Hv.out)).mono ?_
    rintro e w1 ⟨rfl, hb1⟩
    have KP1 : Hid (Box w1 (w.heap.size) 30 #[.int .i64 W, .int .i64 H, .slice A zs.length c]) := hid (Box.keep (Box.alloc (Box.new' _ _ _ _ (by simp)) _) hb1)
    have KQ1 : Hid (Box w1 (w.heap.size + 1) 32 #[.int .i64 x, .int .i64 y]) := hid (Box.keep (Box.new' _ _ _ _ (by simp)) hb1)
    have HB1 : Hid (Below w.heap.size w w1) := hid (bstep (bal (bal (Below.refl _ _) _) _) hb1)
    clear hb1
    obtain ⟨Pa, Pb, Pc⟩ := KP1.out.three
    have Pz := KP1.out.lt
    obtain ⟨Qa, Qb⟩ := KQ1.out.two
    have Qz := KQ1.out.lt
    go_wp2_with fail
    go_ret
    exact ⟨ret_bool HV.out.symm, (HB1.out)⟩
  · cases hh : hasP W H x y
    · have HV : Hid (isBorderB W H zs x y = false) := hid (by simp [isBorderB, isPointB, hv, hh])
      have Hs := hid (valid_sides hv)
      have Hv := hid hv
      have Hh := hid hh
      clear hv hh
      go_enter Try.func55, Try.ntmps55
      go_wp2_with fail
      refine (qb (calls_bool (l02Ok_any _ W H A c zs _ w.heap.size (Box.alloc (Box.new' _ _ _ _ (by simp)) _) (hz.below (bal (bal (Below.refl _ _) _) _)) hl) Hv.out)).mono ?_
      rintro e w1 ⟨rfl, hb1⟩
      have KP1 : Hid (Box w1 (w.heap.size) 30 #[.int .i64 W, .int .i64 H, .slice A zs.length c]) := hid (Box.keep (Box.alloc (Box.new' _ _ _ _ (by simp)) _) hb1)
      have KQ1 : Hid (Box w1 (w.heap.size + 1) 32 #[.int .i64 x, .int .i64 y]) := hid (Box.keep (Box.new' _ _ _ _ (by simp)) hb1)
      have HB1 : Hid (Below w.heap.size w w1) := hid (bstep (bal (bal (Below.refl _ _) _) _) hb1)
      clear hb1
      obtain ⟨Pa, Pb, Pc⟩ := KP1.out.three
      have Pz := KP1.out.lt
      obtain ⟨Qa, Qb⟩ := KQ1.out.two
      have Qz := KQ1.out.lt
      go_wp2_with fail
      refine (calls_bool (l02Has_any _ W H x y _ _ (KP1.out) Hs.out.1 Hs.out.2) Hh.out).mono ?_
      rintro e w2 ⟨rfl, hb2⟩
      clear Pa Pb Pc Pz Qa Qb Qz
      have KP2 : Hid (Box w2 (w.heap.size) 30 #[.int .i64 W, .int .i64 H, .slice A zs.length c]) := hid (Box.keep (KP1.out) hb2)
      have KQ2 : Hid (Box w2 (w.heap.size + 1) 32 #[.int .i64 x, .int .i64 y]) := hid (Box.keep (KQ1.out) hb2)
      have HB2 : Hid (Below w.heap.size w w2) := hid (bstep (HB1.out) hb2)
      clear hb2
      obtain ⟨Pa, Pb, Pc⟩ := KP2.out.three
      have Pz := KP2.out.lt
      obtain ⟨Qa, Qb⟩ := KQ2.out.two
      have Qz := KQ2.out.lt
      go_wp2_with fail
      go_ret
      exact ⟨ret_bool HV.out.symm, (HB2.out)⟩
    · have HV : Hid (isBorderB W H zs x y = edgeP W H x y) := hid (by simp [isBorderB, isPointB, hv, hh])
      have Hs := hid (valid_sides hv)
      have Hv := hid hv
      have Hh := hid hh
      clear hv hh
      go_enter Try.func55, Try.ntmps55
      go_wp2_with fail
      refine (qb (calls_bool (l02Ok_any _ W H A c zs _ w.heap.size (Box.alloc (Box.new' _ _ _ _ (by simp)) _) (hz.below (bal (bal (Below.refl _ _) _) _)) hl) Hv.out)).mono ?_
      rintro e w1 ⟨rfl, hb1⟩
      have KP1 : Hid (Box w1 (w.heap.size) 30 #[.int .i64 W, .int .i64 H, .slice A zs.length c]) := hid (Box.keep (Box.alloc (Box.new' _ _ _ _ (by simp)) _) hb1)
      have KQ1 : Hid (Box w1 (w.heap.size + 1) 32 #[.int .i64 x, .int .i64 y]) := hid (Box.keep (Box.new' _ _ _ _ (by simp)) hb1)
      have HB1 : Hid (Below w.heap.size w w1) := hid (bstep (bal (bal (Below.refl _ _) _) _) hb1)
      clear hb1
      obtain ⟨Pa, Pb, Pc⟩ := KP1.out.three
      have Pz := KP1.out.lt
      obtain ⟨Qa, Qb⟩ := KQ1.out.two
      have Qz := KQ1.out.lt
      go_wp2_with fail
      refine (calls_bool (l02Has_any _ W H x y _ _ (KP1.out) Hs.out.1 Hs.out.2) Hh.out).mono ?_
      rintro e w2 ⟨rfl, hb2⟩
      clear Pa Pb Pc Pz Qa Qb Qz
      have KP2 : Hid (Box w2 (w.heap.size) 30 #[.int .i64 W, .int .i64 H, .slice A zs.length c]) := hid (Box.keep (KP1.out) hb2)
      have KQ2 : Hid (Box w2 (w.heap.size + 1) 32 #[.int .i64 x, .int .i64 y]) := hid (Box.keep (KQ1.out) hb2)
      have HB2 : Hid (Below w.heap.size w w2) := hid (bstep (HB1.out) hb2)
      clear hb2
      obtain ⟨Pa, Pb, Pc⟩ := KP2.out.three
      have Pz := KP2.out.lt
      obtain ⟨Qa, Qb⟩ := KQ2.out.two
      have Qz := KQ2.out.lt
      go_wp2_with fail
      refine (l02Edge_any _ W H x y _ _ (KP2.out) Hs.out.1 Hs.out.2).mono ?_
      rintro e w3 ⟨rfl, hb3⟩
      clear Pa Pb Pc Pz Qa Qb Qz
      have KP3 : Hid (Box w3 (w.heap.size) 30 #[.int .i64 W, .int .i64 H, .slice A zs.length c]) := hid (Box.keep (KP2.out) hb3)
      have KQ3 : Hid (Box w3 (w.heap.size + 1) 32 #[.int .i64 x, .int .i64 y]) := hid (Box.keep (KQ2.out) hb3)
      have HB3 : Hid (Below w.heap.size w w3) := hid (bstep (HB2.out) hb3)
      clear hb3
      obtain ⟨Pa, Pb, Pc⟩ := KP3.out.three
      have Pz := KP3.out.lt
      obtain ⟨Qa, Qb⟩ := KQ3.out.two
      have Qz := KQ3.out.lt
      go_wp2_with fail
      go_ret
      exact ⟨ret_bool HV.out.symm, (HB3.out)⟩
end Go.Proofs.Ytbgigompkmnapaa

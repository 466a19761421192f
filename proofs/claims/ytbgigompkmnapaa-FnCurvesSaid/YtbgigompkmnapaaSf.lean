/- SegmentOf. -/
import Derived.Test.YtbgigompkmnapaaSo
namespace Go.Proofs.Ytbgigompkmnapaa
set_option linter.unusedSimpArgs false
set_option linter.unusedVariables false
open Go.ChangeShapes Go.WideShapes Go.ChangeAt Go.RowKit
/-- What SegmentOf answers. -/
def sgR (W H : Int) (zs : List Int) (x y dx dy : Int) : Int := if validWB W H zs x y dx dy then sgF H x y dx dy else 0
theorem wb_parts {W H : Int} {zs : List Int} {x y dx dy : Int} (h : validWB W H zs x y dx dy = true) : side W = true ∧ side H = true ∧ walkB W H x y dx dy = true := by
  simp only [validWB, Bool.and_eq_true] at h
  exact ⟨(valid_sides h.1).1, (valid_sides h.1).2, h.2⟩
theorem codeW_no {W H : Int} {zs : List Int} {x y dx dy : Int} (h : validWB W H zs x y dx dy = false) : codeW W H zs x y dx dy = 1 := by simp [codeW, h]
theorem codeW_yes {W H : Int} {zs : List Int} {x y dx dy : Int} (h : validWB W H zs x y dx dy = true) : codeW W H zs x y dx dy = 0 := by simp [codeW, h]
theorem calls_int {p : Program} {f : Nat} {args : Array Value} {w : World} {P : World → Prop} {a b : Int} (h : Calls p f args w fun e w' => e = .returned (.int .i64 a) ∧ P w') (k : a = b) : Calls p f args w fun e w' => e = .returned (.int .i64 b) ∧ P w' := k ▸ h

set_option maxHeartbeats 2000000 in
theorem implSegmentOf_any (W H : Int) (A : Option Addr) (c : Nat) (zs : List Int) (x y dx dy : Int) (w : World) (hz : Ints w w.heap.size A zs) (hl : zs.length ≤ maxLen) (wx : (Lit.int .i64 x).wf = true) (wy : (Lit.int .i64 y).wf = true) (wdx : (Lit.int .i64 dx).wf = true) (wdy : (Lit.int .i64 dy).wf = true) :
    Calls Try.prog 32 #[.agg #[.int .i64 W, .int .i64 H, .slice A zs.length c], .agg #[.int .i64 x, .int .i64 y, .int .i64 dx, .int .i64 dy]] w fun e w' => e = .returned (.tuple #[.int .i64 (sgR W H zs x y dx dy), .int .i64 (codeW W H zs x y dx dy)]) ∧ Below w.heap.size w w' := by
  cases hv : validWB W H zs x y dx dy
  · have HV : Hid (sgR W H zs x y dx dy = 0 ∧ codeW W H zs x y dx dy = 1) := hid (by simp [sgR, codeW, hv])
    have Hv := hid hv
    clear hv
    go_enter Try.func32, Try.ntmps32
    go_wp2_with fail
    refine (calls_bool (implValidWalker_any W H A c zs x y dx dy _ ((hz.below (bal (bal (Below.refl _ _) _) _)).more (bal (bal (Below.refl _ _) _) _).size) hl wx wy wdx wdy) Hv.out).mono ?_
    rintro e w1 ⟨rfl, hb1⟩
    have KP1 : Hid (Box w1 (w.heap.size) 30 #[.int .i64 W, .int .i64 H, .slice A zs.length c]) := hid (Box.keep (Box.alloc (Box.new' _ _ _ _ (by simp)) _) hb1)
    have KK1 : Hid (Box w1 (w.heap.size + 1) 52 #[.int .i64 x, .int .i64 y, .int .i64 dx, .int .i64 dy]) := hid (Box.keep (Box.new' _ _ _ _ (by simp)) hb1)
    have HB1 : Hid (Below w.heap.size w w1) := hid (bstep (bal (bal (Below.refl _ _) _) _) hb1)
    clear hb1
    obtain ⟨Pa, Pb, Pc⟩ := KP1.out.three
    have Pz := KP1.out.lt
    obtain ⟨Ka, Kb, Kc, Kd⟩ := KK1.out.four
    have Kz := KK1.out.lt
    go_wp2_with fail
    go_ret2
    exact ⟨ret_two HV.out.1.symm HV.out.2.symm, (HB1.out)⟩
  · have HV : Hid (sgR W H zs x y dx dy = sgF H x y dx dy ∧ codeW W H zs x y dx dy = 0) := hid (by simp [sgR, codeW, hv])
    have Hs := hid (wb_parts hv)
    have Hv := hid hv
    clear hv
    go_enter Try.func32, Try.ntmps32
    go_wp2_with fail
    refine (calls_bool (implValidWalker_any W H A c zs x y dx dy _ ((hz.below (bal (bal (Below.refl _ _) _) _)).more (bal (bal (Below.refl _ _) _) _).size) hl wx wy wdx wdy) Hv.out).mono ?_
    rintro e w1 ⟨rfl, hb1⟩
    have KP1 : Hid (Box w1 (w.heap.size) 30 #[.int .i64 W, .int .i64 H, .slice A zs.length c]) := hid (Box.keep (Box.alloc (Box.new' _ _ _ _ (by simp)) _) hb1)
    have KK1 : Hid (Box w1 (w.heap.size + 1) 52 #[.int .i64 x, .int .i64 y, .int .i64 dx, .int .i64 dy]) := hid (Box.keep (Box.new' _ _ _ _ (by simp)) hb1)
    have HB1 : Hid (Below w.heap.size w w1) := hid (bstep (bal (bal (Below.refl _ _) _) _) hb1)
    clear hb1
    obtain ⟨Pa, Pb, Pc⟩ := KP1.out.three
    have Pz := KP1.out.lt
    obtain ⟨Ka, Kb, Kc, Kd⟩ := KK1.out.four
    have Kz := KK1.out.lt
    go_wp2_with fail
    refine (segment_any W H x y dx dy _ _ _ _ Hs.out.1 Hs.out.2.1 Hs.out.2.2).mono ?_
    rintro e w2 ⟨rfl, hb2⟩
    clear Pa Pb Pc Pz Ka Kb Kc Kd Kz
    have KP2 : Hid (Box w2 (w.heap.size) 30 #[.int .i64 W, .int .i64 H, .slice A zs.length c]) := hid (Box.keep (KP1.out) hb2)
    have KK2 : Hid (Box w2 (w.heap.size + 1) 52 #[.int .i64 x, .int .i64 y, .int .i64 dx, .int .i64 dy]) := hid (Box.keep (KK1.out) hb2)
    have HB2 : Hid (Below w.heap.size w w2) := hid (bstep (HB1.out) hb2)
    clear hb2
    obtain ⟨Pa, Pb, Pc⟩ := KP2.out.three
    have Pz := KP2.out.lt
    obtain ⟨Ka, Kb, Kc, Kd⟩ := KK2.out.four
    have Kz := KK2.out.lt
    go_wp2_with fail
    go_ret2
    exact ⟨ret_two HV.out.1.symm HV.out.2.symm, (HB2.out)⟩
set_option maxHeartbeats 2000000 in
theorem specSegmentOf_any (W H : Int) (A : Option Addr) (c : Nat) (zs : List Int) (x y dx dy : Int) (w : World) (hz : Ints w w.heap.size A zs) (hl : zs.length ≤ maxLen) (wx : (Lit.int .i64 x).wf = true) (wy : (Lit.int .i64 y).wf = true) (wdx : (Lit.int .i64 dx).wf = true) (wdy : (Lit.int .i64 dy).wf = true) :
    Calls Try.prog 54 #[.agg #[.int .i64 W, .int .i64 H, .slice A zs.length c], .agg #[.int .i64 x, .int .i64 y, .int .i64 dx, .int .i64 dy]] w fun e w' => e = .returned (.tuple #[.int .i64 (sgR W H zs x y dx dy), .int .i64 (codeW W H zs x y dx dy)]) ∧ Below w.heap.size w w' := by
  cases hv : validWB W H zs x y dx dy
  · have HV : Hid (sgR W H zs x y dx dy = 0 ∧ codeW W H zs x y dx dy = 1) := hid (by simp [sgR, codeW, hv])
    have Hv := hid hv
    clear hv
    go_enter Try.func54, Try.ntmps54
    go_wp2_with fail
    refine (calls_int (l03Code_any _ W H A c zs x y dx dy _ w.heap.size (bal (bal (Below.refl _ _) _) _).size (Box.alloc (Box.new' _ _ _ _ (by simp)) _) (hz.below (bal (bal (Below.refl _ _) _) _)) hl) (codeW_no Hv.out)).mono ?_
    rintro e w1 ⟨rfl, hb1⟩
    have KP1 : Hid (Box w1 (w.heap.size) 30 #[.int .i64 W, .int .i64 H, .slice A zs.length c]) := hid (Box.keep (Box.alloc (Box.new' _ _ _ _ (by simp)) _) hb1)
    have KK1 : Hid (Box w1 (w.heap.size + 1) 52 #[.int .i64 x, .int .i64 y, .int .i64 dx, .int .i64 dy]) := hid (Box.keep (Box.new' _ _ _ _ (by simp)) hb1)
    have HB1 : Hid (Below w.heap.size w w1) := hid (bstep (bal (bal (Below.refl _ _) _) _) hb1)
    clear hb1
    obtain ⟨Pa, Pb, Pc⟩ := KP1.out.three
    have Pz := KP1.out.lt
    obtain ⟨Ka, Kb, Kc, Kd⟩ := KK1.out.four
    have Kz := KK1.out.lt
    go_wp2_with fail
    go_ret2
    exact ⟨ret_two HV.out.1.symm HV.out.2.symm, (HB1.out)⟩
  · have HV : Hid (sgR W H zs x y dx dy = sgF H x y dx dy ∧ codeW W H zs x y dx dy = 0) := hid (by simp [sgR, codeW, hv])
    have Hs := hid (wb_parts hv)
    have Hv := hid hv
    clear hv
    go_enter Try.func54, Try.ntmps54
    go_wp2_with fail
    refine (calls_int (l03Code_any _ W H A c zs x y dx dy _ w.heap.size (bal (bal (Below.refl _ _) _) _).size (Box.alloc (Box.new' _ _ _ _ (by simp)) _) (hz.below (bal (bal (Below.refl _ _) _) _)) hl) (codeW_yes Hv.out)).mono ?_
    rintro e w1 ⟨rfl, hb1⟩
    have KP1 : Hid (Box w1 (w.heap.size) 30 #[.int .i64 W, .int .i64 H, .slice A zs.length c]) := hid (Box.keep (Box.alloc (Box.new' _ _ _ _ (by simp)) _) hb1)
    have KK1 : Hid (Box w1 (w.heap.size + 1) 52 #[.int .i64 x, .int .i64 y, .int .i64 dx, .int .i64 dy]) := hid (Box.keep (Box.new' _ _ _ _ (by simp)) hb1)
    have HB1 : Hid (Below w.heap.size w w1) := hid (bstep (bal (bal (Below.refl _ _) _) _) hb1)
    clear hb1
    obtain ⟨Pa, Pb, Pc⟩ := KP1.out.three
    have Pz := KP1.out.lt
    obtain ⟨Ka, Kb, Kc, Kd⟩ := KK1.out.four
    have Kz := KK1.out.lt
    go_wp2_with fail
    refine (l03Segment_any _ W H x y dx dy _ _ (KP1.out) Hs.out.1 Hs.out.2.1 Hs.out.2.2).mono ?_
    rintro e w2 ⟨rfl, hb2⟩
    clear Pa Pb Pc Pz Ka Kb Kc Kd Kz
    have KP2 : Hid (Box w2 (w.heap.size) 30 #[.int .i64 W, .int .i64 H, .slice A zs.length c]) := hid (Box.keep (KP1.out) hb2)
    have KK2 : Hid (Box w2 (w.heap.size + 1) 52 #[.int .i64 x, .int .i64 y, .int .i64 dx, .int .i64 dy]) := hid (Box.keep (KK1.out) hb2)
    have HB2 : Hid (Below w.heap.size w w2) := hid (bstep (HB1.out) hb2)
    clear hb2
    obtain ⟨Pa, Pb, Pc⟩ := KP2.out.three
    have Pz := KP2.out.lt
    obtain ⟨Ka, Kb, Kc, Kd⟩ := KK2.out.four
    have Kz := KK2.out.lt
    go_wp2_with fail
    go_ret2
    exact ⟨ret_two HV.out.1.symm HV.out.2.symm, (HB2.out)⟩
end Go.Proofs.Ytbgigompkmnapaa

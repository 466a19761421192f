/- ValidWalker. -/
import Derived.Test.YtbgigompkmnapaaVw
namespace Go.Proofs.Ytbgigompkmnapaa
set_option linter.unusedSimpArgs false
set_option linter.unusedVariables false
open Go.ChangeShapes Go.WideShapes Go.ChangeAt Go.RowKit
/-- ValidWalker. -/
def validWB (W H : Int) (zs : List Int) (x y dx dy : Int) : Bool := validB W H zs && walkB W H x y dx dy

set_option maxHeartbeats 1600000 in
theorem l03Ok_any (p : Nat) (W H x y dx dy : Int) (s : Value) (w : World) (hp : PanP w p W H s) (hW : side W = true) (hH : side H = true) :
    Calls Try.prog 83 #[.pointer (some ⟨p, 0, none⟩), .agg #[.int .i64 x, .int .i64 y, .int .i64 dx, .int .i64 dy]] w fun e w' => e = .returned (.bool (walkB W H x y dx dy)) ∧ Below w.heap.size w w' := by
  obtain ⟨pz0, pz1, pz2⟩ := Box.three hp
  have pzl := PanP.lt hp
  have HP0 := hid hp
  clear hp
  cases h1 : signB dx
  · have HV : Hid (walkB W H x y dx dy = false) := hid (by simp [walkB, h1])
    have H1H := hid h1
    clear h1
    have HW := hid hW
    have HH := hid hH
    clear hW hH
    go_enter Try.func83, Try.ntmps83
    go_wp2_with fail
    refine (calls_bool (l03Sign_any _ _) H1H.out).mono ?_
    rintro e w' ⟨rfl, rfl⟩
    go_wp2_with fail
    go_ret
    exact ⟨ret_bool HV.out.symm, (bal (Below.refl _ _) _)⟩
  · cases h2 : signB dy
    · have HV : Hid (walkB W H x y dx dy = false) := hid (by simp [walkB, h1, h2])
      have H1H := hid h1
      clear h1
      have H2H := hid h2
      clear h2
      have HW := hid hW
      have HH := hid hH
      clear hW hH
      go_enter Try.func83, Try.ntmps83
      go_wp2_with fail
      refine (calls_bool (l03Sign_any _ _) H1H.out).mono ?_
      rintro e w' ⟨rfl, rfl⟩
      go_wp2_with fail
      refine (calls_bool (l03Sign_any _ _) H2H.out).mono ?_
      rintro e w' ⟨rfl, rfl⟩
      go_wp2_with fail
      go_ret
      exact ⟨ret_bool HV.out.symm, (bal (Below.refl _ _) _)⟩
    · cases h3 : hasP W H x y
      · have HV : Hid (walkB W H x y dx dy = false) := hid (by simp [walkB, h1, h2, h3])
        have H1H := hid h1
        clear h1
        have H2H := hid h2
        clear h2
        have H3H := hid h3
        clear h3
        have HW := hid hW
        have HH := hid hH
        clear hW hH
        go_enter Try.func83, Try.ntmps83
        go_wp2_with fail
        refine (calls_bool (l03Sign_any _ _) H1H.out).mono ?_
        rintro e w' ⟨rfl, rfl⟩
        go_wp2_with fail
        refine (calls_bool (l03Sign_any _ _) H2H.out).mono ?_
        rintro e w' ⟨rfl, rfl⟩
        go_wp2_with fail
        refine (calls_bool (l02Has_any _ W H x y _ _ (Box.alloc (HP0.out) _) HW.out HH.out) H3H.out).mono ?_
        rintro e w1 ⟨rfl, hb1⟩
        have KK1 : Hid (Box w1 (w.heap.size) 52 #[.int .i64 x, .int .i64 y, .int .i64 dx, .int .i64 dy]) := hid (Box.keep (Box.new' _ _ _ _ (by simp)) hb1)
        have KP1 : Hid (Box w1 (p) 30 #[.int .i64 W, .int .i64 H, s]) := hid (Box.keep (Box.alloc (HP0.out) _) hb1)
        have HB1 : Hid (Below w.heap.size w w1) := hid (bstep (bal (Below.refl _ _) _) hb1)
        clear hb1
        obtain ⟨Ka, Kb, Kc, Kd⟩ := KK1.out.four
        have Kz := KK1.out.lt
        obtain ⟨Pa, Pb, Pc⟩ := KP1.out.three
        have Pz := KP1.out.lt
        go_wp2_with fail
        go_ret
        exact ⟨ret_bool HV.out.symm, (HB1.out)⟩
      · have HV : Hid (walkB W H x y dx dy = hasP W H (x + dx) (y + dy)) := hid (by simp [walkB, h1, h2, h3])
        obtain ⟨x1, x2, y1, y2⟩ := hasP_bd h3
        obtain ⟨d1, d2⟩ := signB_bd h1
        obtain ⟨e1, e2⟩ := signB_bd h2
        obtain ⟨sw1, sw2⟩ := side_bd hW
        obtain ⟨sh1, sh2⟩ := side_bd hH
        have H1H := hid h1
        clear h1
        have H2H := hid h2
        clear h2
        have H3H := hid h3
        clear h3
        have HW := hid hW
        have HH := hid hH
        clear hW hH
        go_enter Try.func83, Try.ntmps83
        go_wp2_with fail
        refine (calls_bool (l03Sign_any _ _) H1H.out).mono ?_
        rintro e w' ⟨rfl, rfl⟩
        go_wp2_with fail
        refine (calls_bool (l03Sign_any _ _) H2H.out).mono ?_
        rintro e w' ⟨rfl, rfl⟩
        go_wp2_with fail
        refine (calls_bool (l02Has_any _ W H x y _ _ (Box.alloc (HP0.out) _) HW.out HH.out) H3H.out).mono ?_
        rintro e w1 ⟨rfl, hb1⟩
        have KK1 : Hid (Box w1 (w.heap.size) 52 #[.int .i64 x, .int .i64 y, .int .i64 dx, .int .i64 dy]) := hid (Box.keep (Box.new' _ _ _ _ (by simp)) hb1)
        have KP1 : Hid (Box w1 (p) 30 #[.int .i64 W, .int .i64 H, s]) := hid (Box.keep (Box.alloc (HP0.out) _) hb1)
        have HB1 : Hid (Below w.heap.size w w1) := hid (bstep (bal (Below.refl _ _) _) hb1)
        clear hb1
        obtain ⟨Ka, Kb, Kc, Kd⟩ := KK1.out.four
        have Kz := KK1.out.lt
        obtain ⟨Pa, Pb, Pc⟩ := KP1.out.three
        have Pz := KP1.out.lt
        go_wp2_with fail
        refine (l03Next_any x y dx dy _ (by omega) (by omega) (by omega) (by omega) d1 d2 e1 e2).mono ?_
        rintro e w2 ⟨rfl, hb2⟩
        clear Ka Kb Kc Kd Kz Pa Pb Pc Pz
        have KK2 : Hid (Box w2 (w.heap.size) 52 #[.int .i64 x, .int .i64 y, .int .i64 dx, .int .i64 dy]) := hid (Box.keep (KK1.out) hb2)
        have KP2 : Hid (Box w2 (p) 30 #[.int .i64 W, .int .i64 H, s]) := hid (Box.keep (KP1.out) hb2)
        have HB2 : Hid (Below w.heap.size w w2) := hid (bstep (HB1.out) hb2)
        clear hb2
        obtain ⟨Ka, Kb, Kc, Kd⟩ := KK2.out.four
        have Kz := KK2.out.lt
        obtain ⟨Pa, Pb, Pc⟩ := KP2.out.three
        have Pz := KP2.out.lt
        go_wp2_with fail
        refine (l02Has_any _ W H (x + dx) (y + dy) _ _ (KP2.out) HW.out HH.out).mono ?_
        rintro e w3 ⟨rfl, hb3⟩
        clear Ka Kb Kc Kd Kz Pa Pb Pc Pz
        have KK3 : Hid (Box w3 (w.heap.size) 52 #[.int .i64 x, .int .i64 y, .int .i64 dx, .int .i64 dy]) := hid (Box.keep (KK2.out) hb3)
        have KP3 : Hid (Box w3 (p) 30 #[.int .i64 W, .int .i64 H, s]) := hid (Box.keep (KP2.out) hb3)
        have HB3 : Hid (Below w.heap.size w w3) := hid (bstep (HB2.out) hb3)
        clear hb3
        obtain ⟨Ka, Kb, Kc, Kd⟩ := KK3.out.four
        have Kz := KK3.out.lt
        obtain ⟨Pa, Pb, Pc⟩ := KP3.out.three
        have Pz := KP3.out.lt
        go_wp2_with fail
        go_ret
        exact ⟨ret_bool HV.out.symm, (HB3.out)⟩
set_option maxHeartbeats 800000 in
theorem implValidWalker_any (W H : Int) (A : Option Addr) (c : Nat) (zs : List Int) (x y dx dy : Int) (w : World) (hz : Ints w w.heap.size A zs) (hl : zs.length ≤ maxLen) (wx : (Lit.int .i64 x).wf = true) (wy : (Lit.int .i64 y).wf = true) (wdx : (Lit.int .i64 dx).wf = true) (wdy : (Lit.int .i64 dy).wf = true) :
    Calls Try.prog 86 #[.agg #[.int .i64 W, .int .i64 H, .slice A zs.length c], .agg #[.int .i64 x, .int .i64 y, .int .i64 dx, .int .i64 dy]] w fun e w' => e = .returned (.bool (validWB W H zs x y dx dy)) ∧ Below w.heap.size w w' := by
  cases hv : validB W H zs
  · have Hv := hid hv
    clear hv
    have HV : Hid (validWB W H zs x y dx dy = false) := hid (by simp [validWB, Hv.out])
    go_enter Try.func86, Try.ntmps86
    go_wp2_with fail
    refine (calls_bool (validPanel_any W H A c zs _ ((hz.below (bal (bal (Below.refl _ _) _) _)).more (bal (bal (Below.refl _ _) _) _).size) hl) Hv.out).mono ?_
    rintro e w1 ⟨rfl, hb1⟩
    have KP1 : Hid (Box w1 (w.heap.size) 30 #[.int .i64 W, .int .i64 H, .slice A zs.length c]) := hid (Box.keep (Box.alloc (Box.new' _ _ _ _ (by simp)) _) hb1)
    have KK1 : Hid (Box w1 (w.heap.size + 1) 52 #[.int .i64 x, .int .i64 y, .int .i64 dx, .int .i64 dy]) := hid (Box.keep (Box.new' _ _ _ _ (by simp)) hb1)
    have HB1 : Hid (Below w.heap.size w w1) := hid (bstep (bal (bal (Below.refl _ _) _) _) hb1)
    clear hb1
    obtain ⟨Pa, Pb, Pc⟩ := KP1.out.three
    have Pz := KP1.out.lt
    obtain ⟨Ka, Kb, Kc, Kd⟩ := KK1.out.four
    have Kz := KK1.out.lt
    go_wp2_with fail
    go_ret
    exact ⟨ret_bool HV.out.symm, (HB1.out)⟩
  · have Hv := hid hv
    clear hv
    obtain ⟨hW, hH⟩ := valid_sides Hv.out
    obtain ⟨sw1, sw2⟩ := side_bd hW
    obtain ⟨sh1, sh2⟩ := side_bd hH
    have HW := hid hW
    have HH := hid hH
    clear hW hH
    have HV : Hid (validWB W H zs x y dx dy = walkB W H x y dx dy) := hid (by simp [validWB, Hv.out])
    go_enter Try.func86, Try.ntmps86
    go_wp2_with fail
    refine (calls_bool (validPanel_any W H A c zs _ ((hz.below (bal (bal (Below.refl _ _) _) _)).more (bal (bal (Below.refl _ _) _) _).size) hl) Hv.out).mono ?_
    rintro e w1 ⟨rfl, hb1⟩
    have KP1 : Hid (Box w1 (w.heap.size) 30 #[.int .i64 W, .int .i64 H, .slice A zs.length c]) := hid (Box.keep (Box.alloc (Box.new' _ _ _ _ (by simp)) _) hb1)
    have KK1 : Hid (Box w1 (w.heap.size + 1) 52 #[.int .i64 x, .int .i64 y, .int .i64 dx, .int .i64 dy]) := hid (Box.keep (Box.new' _ _ _ _ (by simp)) hb1)
    have HB1 : Hid (Below w.heap.size w w1) := hid (bstep (bal (bal (Below.refl _ _) _) _) hb1)
    clear hb1
    obtain ⟨Pa, Pb, Pc⟩ := KP1.out.three
    have Pz := KP1.out.lt
    obtain ⟨Ka, Kb, Kc, Kd⟩ := KK1.out.four
    have Kz := KK1.out.lt
    go_wp2_with fail
    refine (validWalker_any W H _ _ zs x y dx dy _ HW.out HH.out).mono ?_
    rintro e w2 ⟨rfl, hb2⟩
    clear Pa Pb Pc Pz Ka Kb Kc Kd Kz
    have KP2 : Hid (Box w2 (w.heap.size) 30 #[.int .i64 W, .int .i64 H, .slice A zs.length c]) := hid (Box.keep (KP1.out) hb2)
    have KK2 : Hid (Box w2 (w.heap.size + 1) 52 #[.int .i64 x, .int .i64 y, .int .i64 dx, .int .i64 dy]) := hid (Box.keep (KK1.out) hb2)
    have HB2 : Hid (Below w.heap.size w w2) := hid (bstep (HB1.out) hb2)
    clear hb2
    obtain ⟨Pa, Pb, Pc⟩ := KP2.out.three
    have Pz := KP2.out.lt
    obtain ⟨Ka, Kb, Kc, Kd⟩ := KK2.out.four
    have Kz := KK2.out.lt
    go_wp2_with fail
    go_ret
    exact ⟨ret_bool HV.out.symm, (HB2.out)⟩
set_option maxHeartbeats 800000 in
theorem specValidWalker_any (W H : Int) (A : Option Addr) (c : Nat) (zs : List Int) (x y dx dy : Int) (w : World) (hz : Ints w w.heap.size A zs) (hl : zs.length ≤ maxLen) (wx : (Lit.int .i64 x).wf = true) (wy : (Lit.int .i64 y).wf = true) (wdx : (Lit.int .i64 dx).wf = true) (wdy : (Lit.int .i64 dy).wf = true) :
    Calls Try.prog 30 #[.agg #[.int .i64 W, .int .i64 H, .slice A zs.length c], .agg #[.int .i64 x, .int .i64 y, .int .i64 dx, .int .i64 dy]] w fun e w' => e = .returned (.bool (validWB W H zs x y dx dy)) ∧ Below w.heap.size w w' := by
  cases hv : validB W H zs
  · have Hv := hid hv
    clear hv
    have HV : Hid (validWB W H zs x y dx dy = false) := hid (by simp [validWB, Hv.out])
    go_enter Try.func30, Try.ntmps30
    go_wp2_with fail
    refine (qb (calls_bool (l02Ok_any _ W H A c zs _ w.heap.size (Box.alloc (Box.new' _ _ _ _ (by simp)) _) (hz.below (bal (bal (Below.refl _ _) _) _)) hl) Hv.out)).mono ?_
    rintro e w1 ⟨rfl, hb1⟩
    have KP1 : Hid (Box w1 (w.heap.size) 30 #[.int .i64 W, .int .i64 H, .slice A zs.length c]) := hid (Box.keep (Box.alloc (Box.new' _ _ _ _ (by simp)) _) hb1)
    have KK1 : Hid (Box w1 (w.heap.size + 1) 52 #[.int .i64 x, .int .i64 y, .int .i64 dx, .int .i64 dy]) := hid (Box.keep (Box.new' _ _ _ _ (by simp)) hb1)
    have HB1 : Hid (Below w.heap.size w w1) := hid (bstep (bal (bal (Below.refl _ _) _) _) hb1)
    clear hb1
    obtain ⟨Pa, Pb, Pc⟩ := KP1.out.three
    have Pz := KP1.out.lt
    obtain ⟨Ka, Kb, Kc, Kd⟩ := KK1.out.four
    have Kz := KK1.out.lt
    go_wp2_with fail
    go_ret
    exact ⟨ret_bool HV.out.symm, (HB1.out)⟩
  · have Hv := hid hv
    clear hv
    obtain ⟨hW, hH⟩ := valid_sides Hv.out
    obtain ⟨sw1, sw2⟩ := side_bd hW
    obtain ⟨sh1, sh2⟩ := side_bd hH
    have HW := hid hW
    have HH := hid hH
    clear hW hH
    have HV : Hid (validWB W H zs x y dx dy = walkB W H x y dx dy) := hid (by simp [validWB, Hv.out])
    go_enter Try.func30, Try.ntmps30
    go_wp2_with fail
    refine (qb (calls_bool (l02Ok_any _ W H A c zs _ w.heap.size (Box.alloc (Box.new' _ _ _ _ (by simp)) _) (hz.below (bal (bal (Below.refl _ _) _) _)) hl) Hv.out)).mono ?_
    rintro e w1 ⟨rfl, hb1⟩
    have KP1 : Hid (Box w1 (w.heap.size) 30 #[.int .i64 W, .int .i64 H, .slice A zs.length c]) := hid (Box.keep (Box.alloc (Box.new' _ _ _ _ (by simp)) _) hb1)
    have KK1 : Hid (Box w1 (w.heap.size + 1) 52 #[.int .i64 x, .int .i64 y, .int .i64 dx, .int .i64 dy]) := hid (Box.keep (Box.new' _ _ _ _ (by simp)) hb1)
    have HB1 : Hid (Below w.heap.size w w1) := hid (bstep (bal (bal (Below.refl _ _) _) _) hb1)
    clear hb1
    obtain ⟨Pa, Pb, Pc⟩ := KP1.out.three
    have Pz := KP1.out.lt
    obtain ⟨Ka, Kb, Kc, Kd⟩ := KK1.out.four
    have Kz := KK1.out.lt
    go_wp2_with fail
    refine (l03Ok_any _ W H x y dx dy _ _ (KP1.out) HW.out HH.out).mono ?_
    rintro e w2 ⟨rfl, hb2⟩
    clear Pa Pb Pc Pz Ka Kb Kc Kd Kz
    have KP2 : Hid (Box w2 (w.heap.size) 30 #[.int .i64 W, .int .i64 H, .slice A zs.length c]) := hid (Box.keep (KP1.out) hb2)
    have KK2 : Hid (Box w2 (w.heap.size + 1) 52 #[.int .i64 x, .int .i64 y, .int .i64 dx, .int .i64 dy]) := hid (Box.keep (KK1.out) hb2)
    have HB2 : Hid (Below w.heap.size w w2) := hid (bstep (HB1.out) hb2)
    clear hb2
    obtain ⟨Pa, Pb, Pc⟩ := KP2.out.three
    have Pz := KP2.out.lt
    obtain ⟨Ka, Kb, Kc, Kd⟩ := KK2.out.four
    have Kz := KK2.out.lt
    go_wp2_with fail
    go_ret
    exact ⟨ret_bool HV.out.symm, (HB2.out)⟩
end Go.Proofs.Ytbgigompkmnapaa

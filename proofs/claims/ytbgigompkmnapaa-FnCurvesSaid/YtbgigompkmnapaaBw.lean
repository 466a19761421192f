/- BackWalker. -/
import Derived.Test.YtbgigompkmnapaaBk
import Derived.Test.YtbgigompkmnapaaSf
namespace Go.Proofs.Ytbgigompkmnapaa
set_option linter.unusedSimpArgs false
set_option linter.unusedVariables false
open Go.ChangeShapes Go.WideShapes Go.ChangeAt Go.RowKit
/-- What BackWalker answers. -/
def bwX (W H : Int) (zs : List Int) (x y dx dy : Int) : Int := if validWB W H zs x y dx dy then x + dx else 0
def bwY (W H : Int) (zs : List Int) (x y dx dy : Int) : Int := if validWB W H zs x y dx dy then y + dy else 0
def bwU (W H : Int) (zs : List Int) (x y dx dy : Int) : Int := if validWB W H zs x y dx dy then -dx else 0
def bwV (W H : Int) (zs : List Int) (x y dx dy : Int) : Int := if validWB W H zs x y dx dy then -dy else 0
theorem ret_w2' {a b c d m a' b' c' d' m' : Int} (h1 : a = a') (h2 : b = b') (h3 : c = c') (h4 : d = d') (h5 : m = m') : Ending.returned (.tuple #[.agg #[.int .i64 a, .int .i64 b, .int .i64 c, .int .i64 d], .int .i64 m]) = .returned (.tuple #[.agg #[.int .i64 a', .int .i64 b', .int .i64 c', .int .i64 d'], .int .i64 m']) := by rw [h1, h2, h3, h4, h5]
/-- Bounds of a valid walker. -/
theorem wb_bd {W H : Int} {zs : List Int} {x y dx dy : Int} (h : validWB W H zs x y dx dy = true) : 0 ≤ x ∧ x ≤ 16 ∧ 0 ≤ y ∧ y ≤ 16 ∧ -1 ≤ dx ∧ dx ≤ 1 ∧ -1 ≤ dy ∧ dy ≤ 1 := by
  obtain ⟨h1, h2, h3⟩ := wb_parts h
  obtain ⟨d1, d2, d3, _⟩ := walk_parts h3
  have := hasP_bd d3
  have := side_bd h1
  have := side_bd h2
  omega

set_option maxHeartbeats 2000000 in
theorem implBackWalker_any (W H : Int) (A : Option Addr) (c : Nat) (zs : List Int) (x y dx dy : Int) (w : World) (hz : Ints w w.heap.size A zs) (hl : zs.length ≤ maxLen) (wx : (Lit.int .i64 x).wf = true) (wy : (Lit.int .i64 y).wf = true) (wdx : (Lit.int .i64 dx).wf = true) (wdy : (Lit.int .i64 dy).wf = true) :
    Calls Try.prog 35 #[.agg #[.int .i64 W, .int .i64 H, .slice A zs.length c], .agg #[.int .i64 x, .int .i64 y, .int .i64 dx, .int .i64 dy]] w fun e w' => e = .returned (.tuple #[.agg #[.int .i64 (bwX W H zs x y dx dy), .int .i64 (bwY W H zs x y dx dy), .int .i64 (bwU W H zs x y dx dy), .int .i64 (bwV W H zs x y dx dy)], .int .i64 (codeW W H zs x y dx dy)]) ∧ Below w.heap.size w w' := by
  cases hv : validWB W H zs x y dx dy
  · have HV : Hid (bwX W H zs x y dx dy = 0 ∧ bwY W H zs x y dx dy = 0 ∧ bwU W H zs x y dx dy = 0 ∧ bwV W H zs x y dx dy = 0 ∧ codeW W H zs x y dx dy = 1) := hid (by simp [bwX, bwY, bwU, bwV, codeW, hv])
    have Hv := hid hv
    clear hv
    go_enter Try.func35, Try.ntmps35
    go_wp2_with fail
    refine (calls_bool (implValidWalker_any W H A c zs x y dx dy _ ((hz.below (bal (bal (bal (Below.refl _ _) _) _) _)).more (bal (bal (bal (Below.refl _ _) _) _) _).size) hl wx wy wdx wdy) Hv.out).mono ?_
    rintro e w1 ⟨rfl, hb1⟩
    have KP1 : Hid (Box w1 (w.heap.size) 30 #[.int .i64 W, .int .i64 H, .slice A zs.length c]) := hid (Box.keep (Box.alloc (Box.alloc (Box.new' _ _ _ _ (by simp)) _) _) hb1)
    have KK1 : Hid (Box w1 (w.heap.size + 1) 52 #[.int .i64 x, .int .i64 y, .int .i64 dx, .int .i64 dy]) := hid (Box.keep (Box.alloc (Box.new' _ _ _ _ (by simp)) _) hb1)
    have KR1 : Hid (Box w1 (w.heap.size + 2) 52 #[.int .i64 0, .int .i64 0, .int .i64 0, .int .i64 0]) := hid (Box.keep (Box.new' _ _ _ _ (by simp)) hb1)
    have HB1 : Hid (Below w.heap.size w w1) := hid (bstep (bal (bal (bal (Below.refl _ _) _) _) _) hb1)
    clear hb1
    obtain ⟨Pa, Pb, Pc⟩ := KP1.out.three
    have Pz := KP1.out.lt
    obtain ⟨Ka, Kb, Kc, Kd⟩ := KK1.out.four
    have Kz := KK1.out.lt
    obtain ⟨Ra, Rb, Rc, Rd⟩ := KR1.out.four
    have Rz := KR1.out.lt
    have Rf := KR1.out.free
    go_wp2_with fail
    have hbE := (HB1.out)
    refine bodyPost_ret (v := .tuple #[.agg #[.int .i64 0, .int .i64 0, .int .i64 0, .int .i64 0], .int .i64 1]) (by simp [results, Try.results35, go_sem, *]) rfl ⟨ret_w2' HV.out.1.symm HV.out.2.1.symm HV.out.2.2.1.symm HV.out.2.2.2.1.symm HV.out.2.2.2.2.symm, (by (repeat (with_reducible first | exact Below.refl _ _ | assumption | refine below_drewN ?_ _ | refine Below.drew ?_ | refine Below.alloc ?_ ?_ _ | refine Below.setCell ?_ ?_ _)); all_goals (first | omega | (simp only [size_drewN, World.size_alloc, World.size_setCell, World.size_drew] at *; omega) | (simp; done) | (simp; omega)))⟩
  · have HV : Hid (bwX W H zs x y dx dy = x + dx ∧ bwY W H zs x y dx dy = y + dy ∧ bwU W H zs x y dx dy = -dx ∧ bwV W H zs x y dx dy = -dy ∧ codeW W H zs x y dx dy = 0) := hid (by simp [bwX, bwY, bwU, bwV, codeW, hv])
    obtain ⟨x1, x2, y1, y2, a1, a2, b1, b2⟩ := wb_bd hv
    have t1 : IntKind.i64.wrap (-dx) = -dx := IntWalk.i64_in _ (by omega)
    have t2 : IntKind.i64.wrap (-dy) = -dy := IntWalk.i64_in _ (by omega)
    have Hv := hid hv
    clear hv
    go_enter Try.func35, Try.ntmps35
    go_wp2_with fail
    refine (calls_bool (implValidWalker_any W H A c zs x y dx dy _ ((hz.below (bal (bal (bal (Below.refl _ _) _) _) _)).more (bal (bal (bal (Below.refl _ _) _) _) _).size) hl wx wy wdx wdy) Hv.out).mono ?_
    rintro e w1 ⟨rfl, hb1⟩
    have KP1 : Hid (Box w1 (w.heap.size) 30 #[.int .i64 W, .int .i64 H, .slice A zs.length c]) := hid (Box.keep (Box.alloc (Box.alloc (Box.new' _ _ _ _ (by simp)) _) _) hb1)
    have KK1 : Hid (Box w1 (w.heap.size + 1) 52 #[.int .i64 x, .int .i64 y, .int .i64 dx, .int .i64 dy]) := hid (Box.keep (Box.alloc (Box.new' _ _ _ _ (by simp)) _) hb1)
    have KR1 : Hid (Box w1 (w.heap.size + 2) 52 #[.int .i64 0, .int .i64 0, .int .i64 0, .int .i64 0]) := hid (Box.keep (Box.new' _ _ _ _ (by simp)) hb1)
    have HB1 : Hid (Below w.heap.size w w1) := hid (bstep (bal (bal (bal (Below.refl _ _) _) _) _) hb1)
    clear hb1
    obtain ⟨Pa, Pb, Pc⟩ := KP1.out.three
    have Pz := KP1.out.lt
    obtain ⟨Ka, Kb, Kc, Kd⟩ := KK1.out.four
    have Kz := KK1.out.lt
    obtain ⟨Ra, Rb, Rc, Rd⟩ := KR1.out.four
    have Rz := KR1.out.lt
    have Rf := KR1.out.free
    go_wp2_with fail
    go_region_held3 (fun zz => zz.cell? ⟨w.heap.size + 1, 0, none⟩ = some (.int .i64 x) ∧ zz.cell? ⟨w.heap.size + 1, 1, none⟩ = some (.int .i64 y) ∧ zz.cell? ⟨w.heap.size + 1, 2, none⟩ = some (.int .i64 dx) ∧ zz.cell? ⟨w.heap.size + 1, 3, none⟩ = some (.int .i64 dy))
      (first | (with_reducible exact ⟨(Box.four KK2.out).1, (Box.four KK2.out).2.1, (Box.four KK2.out).2.2.1, (Box.four KK2.out).2.2.2⟩) | go_keep | exact ⟨(Box.four ((KK1.out))).1, (Box.four ((KK1.out))).2.1, (Box.four ((KK1.out))).2.2.1, (Box.four ((KK1.out))).2.2.2⟩)
      (first | (go_at_call 92; refine (next_any x y dx dy _ (by omega) (by omega) (by omega) (by omega) a1 a2 b1 b2).mono ?_; rintro e w2 ⟨rfl, hb2⟩; have hc2 := Below.trans (below_refl_drew _ _) hb2; have KP2 : Hid (Box w2 (w.heap.size) 30 #[.int .i64 W, .int .i64 H, .slice A zs.length c]) := hid (Box.keep (KP1.out) hc2); have KK2 : Hid (Box w2 (w.heap.size + 1) 52 #[.int .i64 x, .int .i64 y, .int .i64 dx, .int .i64 dy]) := hid (Box.keep (KK1.out) hc2); have KR2 : Hid (Box w2 (w.heap.size + 2) 52 #[.int .i64 0, .int .i64 0, .int .i64 0, .int .i64 0]) := hid (Box.keep (KR1.out) hc2); have HB2 : Hid (Below w.heap.size w w2) := hid (bstep (HB1.out) hc2); clear hb2 hc2; obtain ⟨Ra, Rb, Rc, Rd⟩ := KR2.out.four; have Rf := KR2.out.free))
    go_wp2_with fail
    have hbE := HB2.out
    refine bodyPost_ret (v := .tuple #[.agg #[.int .i64 (x + dx), .int .i64 (y + dy), .int .i64 (-dx), .int .i64 (-dy)], .int .i64 0]) (by simp [results, Try.results35, go_sem, *]) rfl ⟨ret_w2' HV.out.1.symm HV.out.2.1.symm HV.out.2.2.1.symm HV.out.2.2.2.1.symm HV.out.2.2.2.2.symm, (by (repeat (with_reducible first | exact Below.refl _ _ | assumption | refine below_drewN ?_ _ | refine Below.drew ?_ | refine Below.alloc ?_ ?_ _ | refine Below.setCell ?_ ?_ _)); all_goals (first | omega | (simp only [size_drewN, World.size_alloc, World.size_setCell, World.size_drew] at *; omega) | (simp; done) | (simp; omega)))⟩
set_option maxHeartbeats 2000000 in
theorem specBackWalker_any (W H : Int) (A : Option Addr) (c : Nat) (zs : List Int) (x y dx dy : Int) (w : World) (hz : Ints w w.heap.size A zs) (hl : zs.length ≤ maxLen) (wx : (Lit.int .i64 x).wf = true) (wy : (Lit.int .i64 y).wf = true) (wdx : (Lit.int .i64 dx).wf = true) (wdy : (Lit.int .i64 dy).wf = true) :
    Calls Try.prog 31 #[.agg #[.int .i64 W, .int .i64 H, .slice A zs.length c], .agg #[.int .i64 x, .int .i64 y, .int .i64 dx, .int .i64 dy]] w fun e w' => e = .returned (.tuple #[.agg #[.int .i64 (bwX W H zs x y dx dy), .int .i64 (bwY W H zs x y dx dy), .int .i64 (bwU W H zs x y dx dy), .int .i64 (bwV W H zs x y dx dy)], .int .i64 (codeW W H zs x y dx dy)]) ∧ Below w.heap.size w w' := by
  cases hv : validWB W H zs x y dx dy
  · have HV : Hid (bwX W H zs x y dx dy = 0 ∧ bwY W H zs x y dx dy = 0 ∧ bwU W H zs x y dx dy = 0 ∧ bwV W H zs x y dx dy = 0 ∧ codeW W H zs x y dx dy = 1) := hid (by simp [bwX, bwY, bwU, bwV, codeW, hv])
    have Hv := hid hv
    clear hv
    go_enter Try.func31, Try.ntmps31
    go_wp2_with fail
    refine (calls_int (l03Code_any _ W H A c zs x y dx dy _ w.heap.size (bal (bal (bal (Below.refl _ _) _) _) _).size (Box.alloc (Box.alloc (Box.new' _ _ _ _ (by simp)) _) _) (hz.below (bal (bal (bal (Below.refl _ _) _) _) _)) hl) (codeW_no Hv.out)).mono ?_
    rintro e w1 ⟨rfl, hb1⟩
    have KP1 : Hid (Box w1 (w.heap.size) 30 #[.int .i64 W, .int .i64 H, .slice A zs.length c]) := hid (Box.keep (Box.alloc (Box.alloc (Box.new' _ _ _ _ (by simp)) _) _) hb1)
    have KK1 : Hid (Box w1 (w.heap.size + 1) 52 #[.int .i64 x, .int .i64 y, .int .i64 dx, .int .i64 dy]) := hid (Box.keep (Box.alloc (Box.new' _ _ _ _ (by simp)) _) hb1)
    have KR1 : Hid (Box w1 (w.heap.size + 2) 52 #[.int .i64 0, .int .i64 0, .int .i64 0, .int .i64 0]) := hid (Box.keep (Box.new' _ _ _ _ (by simp)) hb1)
    have HB1 : Hid (Below w.heap.size w w1) := hid (bstep (bal (bal (bal (Below.refl _ _) _) _) _) hb1)
    clear hb1
    obtain ⟨Pa, Pb, Pc⟩ := KP1.out.three
    have Pz := KP1.out.lt
    obtain ⟨Ka, Kb, Kc, Kd⟩ := KK1.out.four
    have Kz := KK1.out.lt
    obtain ⟨Ra, Rb, Rc, Rd⟩ := KR1.out.four
    have Rz := KR1.out.lt
    have Rf := KR1.out.free
    go_wp2_with fail
    have hbE := (HB1.out)
    refine bodyPost_ret (v := .tuple #[.agg #[.int .i64 0, .int .i64 0, .int .i64 0, .int .i64 0], .int .i64 1]) (by simp [results, Try.results31, go_sem, *]) rfl ⟨ret_w2' HV.out.1.symm HV.out.2.1.symm HV.out.2.2.1.symm HV.out.2.2.2.1.symm HV.out.2.2.2.2.symm, (by (repeat (with_reducible first | exact Below.refl _ _ | assumption | refine below_drewN ?_ _ | refine Below.drew ?_ | refine Below.alloc ?_ ?_ _ | refine Below.setCell ?_ ?_ _)); all_goals (first | omega | (simp only [size_drewN, World.size_alloc, World.size_setCell, World.size_drew] at *; omega) | (simp; done) | (simp; omega)))⟩
  · have HV : Hid (bwX W H zs x y dx dy = x + dx ∧ bwY W H zs x y dx dy = y + dy ∧ bwU W H zs x y dx dy = -dx ∧ bwV W H zs x y dx dy = -dy ∧ codeW W H zs x y dx dy = 0) := hid (by simp [bwX, bwY, bwU, bwV, codeW, hv])
    obtain ⟨x1, x2, y1, y2, a1, a2, b1, b2⟩ := wb_bd hv
    have t1 : IntKind.i64.wrap (-dx) = -dx := IntWalk.i64_in _ (by omega)
    have t2 : IntKind.i64.wrap (-dy) = -dy := IntWalk.i64_in _ (by omega)
    have Hv := hid hv
    clear hv
    go_enter Try.func31, Try.ntmps31
    go_wp2_with fail
    refine (calls_int (l03Code_any _ W H A c zs x y dx dy _ w.heap.size (bal (bal (bal (Below.refl _ _) _) _) _).size (Box.alloc (Box.alloc (Box.new' _ _ _ _ (by simp)) _) _) (hz.below (bal (bal (bal (Below.refl _ _) _) _) _)) hl) (codeW_yes Hv.out)).mono ?_
    rintro e w1 ⟨rfl, hb1⟩
    have KP1 : Hid (Box w1 (w.heap.size) 30 #[.int .i64 W, .int .i64 H, .slice A zs.length c]) := hid (Box.keep (Box.alloc (Box.alloc (Box.new' _ _ _ _ (by simp)) _) _) hb1)
    have KK1 : Hid (Box w1 (w.heap.size + 1) 52 #[.int .i64 x, .int .i64 y, .int .i64 dx, .int .i64 dy]) := hid (Box.keep (Box.alloc (Box.new' _ _ _ _ (by simp)) _) hb1)
    have KR1 : Hid (Box w1 (w.heap.size + 2) 52 #[.int .i64 0, .int .i64 0, .int .i64 0, .int .i64 0]) := hid (Box.keep (Box.new' _ _ _ _ (by simp)) hb1)
    have HB1 : Hid (Below w.heap.size w w1) := hid (bstep (bal (bal (bal (Below.refl _ _) _) _) _) hb1)
    clear hb1
    obtain ⟨Pa, Pb, Pc⟩ := KP1.out.three
    have Pz := KP1.out.lt
    obtain ⟨Ka, Kb, Kc, Kd⟩ := KK1.out.four
    have Kz := KK1.out.lt
    obtain ⟨Ra, Rb, Rc, Rd⟩ := KR1.out.four
    have Rz := KR1.out.lt
    have Rf := KR1.out.free
    go_wp2_with fail
    refine (l03Back_any x y dx dy _ (by omega) (by omega) (by omega) (by omega) a1 a2 b1 b2).mono ?_
    rintro e w2 ⟨rfl, hb2⟩
    clear Pa Pb Pc Pz Ka Kb Kc Kd Kz Ra Rb Rc Rd Rz Rf
    have KP2 : Hid (Box w2 (w.heap.size) 30 #[.int .i64 W, .int .i64 H, .slice A zs.length c]) := hid (Box.keep (KP1.out) hb2)
    have KK2 : Hid (Box w2 (w.heap.size + 1) 52 #[.int .i64 x, .int .i64 y, .int .i64 dx, .int .i64 dy]) := hid (Box.keep (KK1.out) hb2)
    have KR2 : Hid (Box w2 (w.heap.size + 2) 52 #[.int .i64 0, .int .i64 0, .int .i64 0, .int .i64 0]) := hid (Box.keep (KR1.out) hb2)
    have HB2 : Hid (Below w.heap.size w w2) := hid (bstep (HB1.out) hb2)
    clear hb2
    obtain ⟨Pa, Pb, Pc⟩ := KP2.out.three
    have Pz := KP2.out.lt
    obtain ⟨Ka, Kb, Kc, Kd⟩ := KK2.out.four
    have Kz := KK2.out.lt
    obtain ⟨Ra, Rb, Rc, Rd⟩ := KR2.out.four
    have Rz := KR2.out.lt
    have Rf := KR2.out.free
    go_wp2_with fail
    have hbE := (HB2.out)
    refine bodyPost_ret (v := .tuple #[.agg #[.int .i64 (x + dx), .int .i64 (y + dy), .int .i64 (-dx), .int .i64 (-dy)], .int .i64 0]) (by simp [results, Try.results31, go_sem, *]) rfl ⟨ret_w2' HV.out.1.symm HV.out.2.1.symm HV.out.2.2.1.symm HV.out.2.2.2.1.symm HV.out.2.2.2.2.symm, (by (repeat (with_reducible first | exact Below.refl _ _ | assumption | refine below_drewN ?_ _ | refine Below.drew ?_ | refine Below.alloc ?_ ?_ _ | refine Below.setCell ?_ ?_ _)); all_goals (first | omega | (simp only [size_drewN, World.size_alloc, World.size_setCell, World.size_drew] at *; omega) | (simp; done) | (simp; omega)))⟩
end Go.Proofs.Ytbgigompkmnapaa

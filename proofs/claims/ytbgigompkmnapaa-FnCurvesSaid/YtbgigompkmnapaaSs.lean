/- Steps: the reference's. -/
import Derived.Test.YtbgigompkmnapaaSt
namespace Go.Proofs.Ytbgigompkmnapaa
set_option linter.unusedSimpArgs false
set_option linter.unusedVariables false
open Go.ChangeShapes Go.WideShapes Go.ChangeAt Go.RowKit
set_option maxHeartbeats 4000000 in
theorem l03Step_one (p : Nat) (W H : Int) (A : Option Addr) (c : Nat) (zs : List Int) (x y dy : Int) (w : World) (B : Nat) (hB : B ≤ w.heap.size) (hpp : PanP w p W H (.slice A zs.length c)) (hz : Ints w B A zs) (hl : zs.length ≤ maxLen) (hv : validB W H zs = true) (h : walkB W H x y 1 dy = true) :
    Calls Try.prog 124 #[.pointer (some ⟨p, 0, none⟩), .agg #[.int .i64 x, .int .i64 y, .int .i64 1, .int .i64 dy]] w fun e w' => e = .returned (.agg #[.int .i64 (x + 1), .int .i64 (y + dy), .int .i64 (stU W H zs x y 1 dy), .int .i64 (stV W H zs x y 1 dy)]) ∧ Below w.heap.size w w' := by
  obtain ⟨h1, h2, h3, h4⟩ := walk_parts h
  clear h1
  have HP0 := hid hpp
  have pz0 := PanP.lt hpp
  clear hpp
  obtain ⟨sW, sH⟩ := valid_sides hv
  obtain ⟨x1, x2, y1, y2⟩ := hasP_bd h3
  obtain ⟨x3, x4, y3, y4⟩ := hasP_bd h4
  obtain ⟨w1, w2⟩ := side_bd sW
  obtain ⟨w3, w4⟩ := side_bd sH
  have HY := hid h2
  have b0 : -1 ≤ dy ∧ dy ≤ 1 := by omega
  obtain ⟨b1, b2⟩ := b0
  have HS := hid (And.intro sW sH)
  have SC := step_cases hv h
  clear h h2 h3 h4 sW sH hv
  unfold maxLen at hl
  rcases SC with ⟨c1, c2, c3⟩ | ⟨c1, c2, c3, c4⟩ | ⟨c1, c2, c3⟩ | ⟨c1, c2, c3, c4⟩ | ⟨⟨i1, i2, i3, i4, i5⟩, k, hk, hkl, hkz, c0 | c0 | c0⟩
  · have ex0 : (x + 1 == 0) = true := by simp; omega
    have ey0 : (y + dy == 0) = false := by simp; omega
    have eyh : (y + dy == 2 * H) = false := by simp; omega
    have HE : Hid (edgeP W H (x + 1) (y + dy) = true) := hid (by simp [edgeP, *])
    have HK : stK W H zs (x + 1) (y + dy) = 0 := by simp [stK, HE.out]
    have HV : Hid (stU W H zs x y 1 dy = -1 ∧ stV W H zs x y 1 dy = dy) := hid (by simp [stU, stV, HK, ex0, ey0, eyh])
    clear HK
    clear c1 c2 c3
    go_enter Try.func124, Try.ntmps124
    go_wp2_with fail
    refine (l03Next_any x y 1 dy _ (by omega) (by omega) (by omega) (by omega) (by omega) (by omega) b1 b2).mono ?_
    rintro e w1 ⟨rfl, hb1⟩
    have KK1 : Hid (Box w1 (w.heap.size) 52 #[.int .i64 x, .int .i64 y, .int .i64 1, .int .i64 dy]) := hid (Box.keep (Box.alloc (Box.new' _ _ _ _ (by simp)) _) hb1)
    have KR1 : Hid (Box w1 (w.heap.size + 1) 52 #[.int .i64 0, .int .i64 0, .int .i64 0, .int .i64 0]) := hid (Box.keep (Box.new' _ _ _ _ (by simp)) hb1)
    have KP1 : Hid (Box w1 (p) 30 #[.int .i64 W, .int .i64 H, .slice A zs.length c]) := hid (Box.keep (Box.alloc (Box.alloc (HP0.out) _) _) hb1)
    have HB1 : Hid (Below w.heap.size w w1) := hid (bstep (bal (bal (Below.refl _ _) _) _) hb1)
    clear hb1
    obtain ⟨Ka, Kb, Kc, Kd⟩ := KK1.out.four
    have Kz := KK1.out.lt
    obtain ⟨Ra, Rb, Rc, Rd⟩ := KR1.out.four
    have Rz := KR1.out.lt
    have Rf := KR1.out.free
    obtain ⟨Pa, Pb, Pc⟩ := KP1.out.three
    have Pz := KP1.out.lt
    go_wp2_with fail
    have LK : w.heap.size < w1.heap.size := KK1.out.lt
    have LR : w.heap.size + 1 < w1.heap.size := KR1.out.lt
    have LP : p < w1.heap.size := KP1.out.lt
    have np : ¬ (w1.heap.size + 1 = p) := by omega
    have np2 : ¬ (w.heap.size + 1 = p) := by omega
    have np3 : ¬ (p = w1.heap.size + 1) := by omega
    have np4 : ¬ (p = w.heap.size + 1) := by omega
    have n1 : ¬ (w1.heap.size = w.heap.size + 1) := by omega
    have n2 : ¬ (w.heap.size + 1 = w1.heap.size) := by omega
    have n3 : ¬ (w1.heap.size = w.heap.size) := by omega
    have n4 : ¬ (w.heap.size = w1.heap.size) := by omega
    clear Ka Kb Kc Kd Kz Ra Rb Rc Rd Rz Rf Pa Pb Pc Pz
    obtain ⟨w2, hw2⟩ : ∃ zz : World, zz = ((w1.alloc (.cells #[.int .i64 (x + 1), .int .i64 (y + dy)] 32)).alloc (.cells #[.int .i64 (x + 1), .int .i64 (y + dy), .int .i64 1, .int .i64 dy] 52)) := ⟨_, rfl⟩
    rw [← hw2]
    have KK2 : Hid (Box w2 (w.heap.size) 52 #[.int .i64 x, .int .i64 y, .int .i64 1, .int .i64 dy]) := by rw [hw2]; exact hid (Box.alloc (Box.alloc (KK1.out) _) _)
    have KR2 : Hid (Box w2 (w.heap.size + 1) 52 #[.int .i64 0, .int .i64 0, .int .i64 0, .int .i64 0]) := by rw [hw2]; exact hid (Box.alloc (Box.alloc (KR1.out) _) _)
    have KP2 : Hid (Box w2 (p) 30 #[.int .i64 W, .int .i64 H, .slice A zs.length c]) := by rw [hw2]; exact hid (Box.alloc (Box.alloc (KP1.out) _) _)
    have KQ2 : Hid (Box w2 (w1.heap.size) 32 #[.int .i64 (x + 1), .int .i64 (y + dy)]) := by rw [hw2]; exact hid (Box.alloc (Box.new' _ _ _ _ (by simp)) _)
    have KO2 : Hid (Box w2 (w1.heap.size + 1) 52 #[.int .i64 (x + 1), .int .i64 (y + dy), .int .i64 1, .int .i64 dy]) := by rw [hw2]; exact hid (Box.new' _ _ _ _ (by simp))
    have HB2 : Hid (Below w.heap.size w w2) := by rw [hw2]; exact hid (bal (bal (HB1.out) _) _)
    clear hw2
    obtain ⟨Ka, Kb, Kc, Kd⟩ := KK2.out.four
    have Kz := KK2.out.lt
    obtain ⟨Ra, Rb, Rc, Rd⟩ := KR2.out.four
    have Rz := KR2.out.lt
    have Rf := KR2.out.free
    obtain ⟨Pa, Pb, Pc⟩ := KP2.out.three
    have Pz := KP2.out.lt
    obtain ⟨Qa, Qb⟩ := KQ2.out.two
    have Qz := KQ2.out.lt
    obtain ⟨Oa, Ob, Oc, Od⟩ := KO2.out.four
    have Oz := KO2.out.lt
    have Of := KO2.out.free
    refine wp_region_mix (w2.heap.size) (by kernel_rfl) (by kernel_rfl) ?_
    repeat (any_goals (go_big_quiet_step (fail)))
    refine wpQuiet_nil ?_
    intro w3 hx3
    have hb3 : Below _ _ w3 := mix_ex hx3
    clear hx3
    clear Ka Kb Kc Kd Kz Ra Rb Rc Rd Rz Rf Pa Pb Pc Pz Qa Qb Qz Oa Ob Oc Od Oz Of
    have KK3 : Hid (Box w3 (w.heap.size) 52 #[.int .i64 x, .int .i64 y, .int .i64 1, .int .i64 dy]) := hid (Box.keep (KK2.out) hb3)
    have KR3 : Hid (Box w3 (w.heap.size + 1) 52 #[.int .i64 0, .int .i64 0, .int .i64 0, .int .i64 0]) := hid (Box.keep (KR2.out) hb3)
    have KP3 : Hid (Box w3 (p) 30 #[.int .i64 W, .int .i64 H, .slice A zs.length c]) := hid (Box.keep (KP2.out) hb3)
    have KQ3 : Hid (Box w3 (w1.heap.size) 32 #[.int .i64 (x + 1), .int .i64 (y + dy)]) := hid (Box.keep (KQ2.out) hb3)
    have KO3 : Hid (Box w3 (w1.heap.size + 1) 52 #[.int .i64 (x + 1), .int .i64 (y + dy), .int .i64 1, .int .i64 dy]) := hid (Box.keep (KO2.out) hb3)
    have HB3 : Hid (Below w.heap.size w w3) := hid (bstep (HB2.out) hb3)
    clear hb3
    obtain ⟨Ka, Kb, Kc, Kd⟩ := KK3.out.four
    have Kz := KK3.out.lt
    obtain ⟨Ra, Rb, Rc, Rd⟩ := KR3.out.four
    have Rz := KR3.out.lt
    have Rf := KR3.out.free
    obtain ⟨Pa, Pb, Pc⟩ := KP3.out.three
    have Pz := KP3.out.lt
    obtain ⟨Qa, Qb⟩ := KQ3.out.two
    have Qz := KQ3.out.lt
    obtain ⟨Oa, Ob, Oc, Od⟩ := KO3.out.four
    have Oz := KO3.out.lt
    have Of := KO3.out.free
    go_wp2_with fail
    clear Ka Kb Kc Kd Kz Ra Rb Rc Rd Rz Rf Pa Pb Pc Pz Qa Qb Qz Oa Ob Oc Od Oz Of
    obtain ⟨w4, hw4⟩ : ∃ zz : World, zz = (w3.setCell ⟨w1.heap.size + 1, 2, none⟩ (.int .i64 (-1))) := ⟨_, rfl⟩
    rw [← hw4]
    have KK4 : Hid (Box w4 (w.heap.size) 52 #[.int .i64 x, .int .i64 y, .int .i64 1, .int .i64 dy]) := by rw [hw4]; exact hid (Box.set (KK3.out) (by simp <;> omega) _)
    have KR4 : Hid (Box w4 (w.heap.size + 1) 52 #[.int .i64 0, .int .i64 0, .int .i64 0, .int .i64 0]) := by rw [hw4]; exact hid (Box.set (KR3.out) (by simp <;> omega) _)
    have KP4 : Hid (Box w4 (p) 30 #[.int .i64 W, .int .i64 H, .slice A zs.length c]) := by rw [hw4]; exact hid (Box.set (KP3.out) (by simp <;> omega) _)
    have KQ4 : Hid (Box w4 (w1.heap.size) 32 #[.int .i64 (x + 1), .int .i64 (y + dy)]) := by rw [hw4]; exact hid (Box.set (KQ3.out) (by simp <;> omega) _)
    have KO4 : Hid (Box w4 (w1.heap.size + 1) 52 #[.int .i64 (x + 1), .int .i64 (y + dy), .int .i64 (-1), .int .i64 dy]) := by rw [hw4]; exact hid (Box.put (KO3.out) 2 _)
    have HB4 : Hid (Below w.heap.size w w4) := by rw [hw4]; exact hid (Below.setCell (HB3.out) (by simp <;> omega) _)
    clear hw4
    obtain ⟨Ka, Kb, Kc, Kd⟩ := KK4.out.four
    have Kz := KK4.out.lt
    obtain ⟨Ra, Rb, Rc, Rd⟩ := KR4.out.four
    have Rz := KR4.out.lt
    have Rf := KR4.out.free
    obtain ⟨Pa, Pb, Pc⟩ := KP4.out.three
    have Pz := KP4.out.lt
    obtain ⟨Qa, Qb⟩ := KQ4.out.two
    have Qz := KQ4.out.lt
    obtain ⟨Oa, Ob, Oc, Od⟩ := KO4.out.four
    have Oz := KO4.out.lt
    have Of := KO4.out.free
    refine wp_region_mix (w4.heap.size) (by kernel_rfl) (by kernel_rfl) ?_
    repeat (any_goals (go_big_quiet_step (fail)))
    refine wpQuiet_nil ?_
    intro w5 hx5
    have hb5 : Below _ _ w5 := mix_ex hx5
    clear hx5
    clear Ka Kb Kc Kd Kz Ra Rb Rc Rd Rz Rf Pa Pb Pc Pz Qa Qb Qz Oa Ob Oc Od Oz Of
    have KK5 : Hid (Box w5 (w.heap.size) 52 #[.int .i64 x, .int .i64 y, .int .i64 1, .int .i64 dy]) := hid (Box.keep (KK4.out) hb5)
    have KR5 : Hid (Box w5 (w.heap.size + 1) 52 #[.int .i64 0, .int .i64 0, .int .i64 0, .int .i64 0]) := hid (Box.keep (KR4.out) hb5)
    have KP5 : Hid (Box w5 (p) 30 #[.int .i64 W, .int .i64 H, .slice A zs.length c]) := hid (Box.keep (KP4.out) hb5)
    have KQ5 : Hid (Box w5 (w1.heap.size) 32 #[.int .i64 (x + 1), .int .i64 (y + dy)]) := hid (Box.keep (KQ4.out) hb5)
    have KO5 : Hid (Box w5 (w1.heap.size + 1) 52 #[.int .i64 (x + 1), .int .i64 (y + dy), .int .i64 (-1), .int .i64 dy]) := hid (Box.keep (KO4.out) hb5)
    have HB5 : Hid (Below w.heap.size w w5) := hid (bstep (HB4.out) hb5)
    clear hb5
    obtain ⟨Ka, Kb, Kc, Kd⟩ := KK5.out.four
    have Kz := KK5.out.lt
    obtain ⟨Ra, Rb, Rc, Rd⟩ := KR5.out.four
    have Rz := KR5.out.lt
    have Rf := KR5.out.free
    obtain ⟨Pa, Pb, Pc⟩ := KP5.out.three
    have Pz := KP5.out.lt
    obtain ⟨Qa, Qb⟩ := KQ5.out.two
    have Qz := KQ5.out.lt
    obtain ⟨Oa, Ob, Oc, Od⟩ := KO5.out.four
    have Oz := KO5.out.lt
    have Of := KO5.out.free
    go_wp2_with fail
    refine (calls_bool (l02Edge_any _ W H (x + 1) (y + dy) _ _ (KP5.out) HS.out.1 HS.out.2) HE.out).mono ?_
    rintro e w6 ⟨rfl, hb6⟩
    clear Ka Kb Kc Kd Kz Ra Rb Rc Rd Rz Rf Pa Pb Pc Pz Qa Qb Qz Oa Ob Oc Od Oz Of
    have KK6 : Hid (Box w6 (w.heap.size) 52 #[.int .i64 x, .int .i64 y, .int .i64 1, .int .i64 dy]) := hid (Box.keep (KK5.out) hb6)
    have KR6 : Hid (Box w6 (w.heap.size + 1) 52 #[.int .i64 0, .int .i64 0, .int .i64 0, .int .i64 0]) := hid (Box.keep (KR5.out) hb6)
    have KP6 : Hid (Box w6 (p) 30 #[.int .i64 W, .int .i64 H, .slice A zs.length c]) := hid (Box.keep (KP5.out) hb6)
    have KQ6 : Hid (Box w6 (w1.heap.size) 32 #[.int .i64 (x + 1), .int .i64 (y + dy)]) := hid (Box.keep (KQ5.out) hb6)
    have KO6 : Hid (Box w6 (w1.heap.size + 1) 52 #[.int .i64 (x + 1), .int .i64 (y + dy), .int .i64 (-1), .int .i64 dy]) := hid (Box.keep (KO5.out) hb6)
    have HB6 : Hid (Below w.heap.size w w6) := hid (bstep (HB5.out) hb6)
    clear hb6
    obtain ⟨Ka, Kb, Kc, Kd⟩ := KK6.out.four
    have Kz := KK6.out.lt
    obtain ⟨Ra, Rb, Rc, Rd⟩ := KR6.out.four
    have Rz := KR6.out.lt
    have Rf := KR6.out.free
    obtain ⟨Pa, Pb, Pc⟩ := KP6.out.three
    have Pz := KP6.out.lt
    obtain ⟨Qa, Qb⟩ := KQ6.out.two
    have Qz := KQ6.out.lt
    obtain ⟨Oa, Ob, Oc, Od⟩ := KO6.out.four
    have Oz := KO6.out.lt
    have Of := KO6.out.free
    go_wp2_with fail
    have hbE := (HB6.out)
    refine bodyPost_ret (v := .agg #[.int .i64 (x + 1), .int .i64 (y + dy), .int .i64 (-1), .int .i64 (dy)]) (by simp [results, Try.results124, go_sem, *]) rfl ⟨ret_w4 rfl rfl HV.out.1.symm HV.out.2.symm, (by (repeat (with_reducible first | exact Below.refl _ _ | assumption | refine below_drewN ?_ _ | refine Below.drew ?_ | refine Below.alloc ?_ ?_ _ | refine Below.setCell ?_ ?_ _)); all_goals (first | omega | (simp only [size_drewN, World.size_alloc, World.size_setCell, World.size_drew] at *; omega) | (simp; done) | (simp; omega)))⟩
  · have ex0 : (x + 1 == 0) = false := by simp; omega
    have exw : (x + 1 == 2 * W) = true := by simp; omega
    have ey0 : (y + dy == 0) = false := by simp; omega
    have eyh : (y + dy == 2 * H) = false := by simp; omega
    have HE : Hid (edgeP W H (x + 1) (y + dy) = true) := hid (by simp [edgeP, *])
    have HK : stK W H zs (x + 1) (y + dy) = 0 := by simp [stK, HE.out]
    have HV : Hid (stU W H zs x y 1 dy = -1 ∧ stV W H zs x y 1 dy = dy) := hid (by simp [stU, stV, HK, ex0, ey0, exw, eyh])
    clear HK
    clear c1 c2 c3 c4
    go_enter Try.func124, Try.ntmps124
    go_wp2_with fail
    refine (l03Next_any x y 1 dy _ (by omega) (by omega) (by omega) (by omega) (by omega) (by omega) b1 b2).mono ?_
    rintro e w1 ⟨rfl, hb1⟩
    have KK1 : Hid (Box w1 (w.heap.size) 52 #[.int .i64 x, .int .i64 y, .int .i64 1, .int .i64 dy]) := hid (Box.keep (Box.alloc (Box.new' _ _ _ _ (by simp)) _) hb1)
    have KR1 : Hid (Box w1 (w.heap.size + 1) 52 #[.int .i64 0, .int .i64 0, .int .i64 0, .int .i64 0]) := hid (Box.keep (Box.new' _ _ _ _ (by simp)) hb1)
    have KP1 : Hid (Box w1 (p) 30 #[.int .i64 W, .int .i64 H, .slice A zs.length c]) := hid (Box.keep (Box.alloc (Box.alloc (HP0.out) _) _) hb1)
    have HB1 : Hid (Below w.heap.size w w1) := hid (bstep (bal (bal (Below.refl _ _) _) _) hb1)
    clear hb1
    obtain ⟨Ka, Kb, Kc, Kd⟩ := KK1.out.four
    have Kz := KK1.out.lt
    obtain ⟨Ra, Rb, Rc, Rd⟩ := KR1.out.four
    have Rz := KR1.out.lt
    have Rf := KR1.out.free
    obtain ⟨Pa, Pb, Pc⟩ := KP1.out.three
    have Pz := KP1.out.lt
    go_wp2_with fail
    have LK : w.heap.size < w1.heap.size := KK1.out.lt
    have LR : w.heap.size + 1 < w1.heap.size := KR1.out.lt
    have LP : p < w1.heap.size := KP1.out.lt
    have np : ¬ (w1.heap.size + 1 = p) := by omega
    have np2 : ¬ (w.heap.size + 1 = p) := by omega
    have np3 : ¬ (p = w1.heap.size + 1) := by omega
    have np4 : ¬ (p = w.heap.size + 1) := by omega
    have n1 : ¬ (w1.heap.size = w.heap.size + 1) := by omega
    have n2 : ¬ (w.heap.size + 1 = w1.heap.size) := by omega
    have n3 : ¬ (w1.heap.size = w.heap.size) := by omega
    have n4 : ¬ (w.heap.size = w1.heap.size) := by omega
    clear Ka Kb Kc Kd Kz Ra Rb Rc Rd Rz Rf Pa Pb Pc Pz
    obtain ⟨w2, hw2⟩ : ∃ zz : World, zz = ((w1.alloc (.cells #[.int .i64 (x + 1), .int .i64 (y + dy)] 32)).alloc (.cells #[.int .i64 (x + 1), .int .i64 (y + dy), .int .i64 1, .int .i64 dy] 52)) := ⟨_, rfl⟩
    rw [← hw2]
    have KK2 : Hid (Box w2 (w.heap.size) 52 #[.int .i64 x, .int .i64 y, .int .i64 1, .int .i64 dy]) := by rw [hw2]; exact hid (Box.alloc (Box.alloc (KK1.out) _) _)
    have KR2 : Hid (Box w2 (w.heap.size + 1) 52 #[.int .i64 0, .int .i64 0, .int .i64 0, .int .i64 0]) := by rw [hw2]; exact hid (Box.alloc (Box.alloc (KR1.out) _) _)
    have KP2 : Hid (Box w2 (p) 30 #[.int .i64 W, .int .i64 H, .slice A zs.length c]) := by rw [hw2]; exact hid (Box.alloc (Box.alloc (KP1.out) _) _)
    have KQ2 : Hid (Box w2 (w1.heap.size) 32 #[.int .i64 (x + 1), .int .i64 (y + dy)]) := by rw [hw2]; exact hid (Box.alloc (Box.new' _ _ _ _ (by simp)) _)
    have KO2 : Hid (Box w2 (w1.heap.size + 1) 52 #[.int .i64 (x + 1), .int .i64 (y + dy), .int .i64 1, .int .i64 dy]) := by rw [hw2]; exact hid (Box.new' _ _ _ _ (by simp))
    have HB2 : Hid (Below w.heap.size w w2) := by rw [hw2]; exact hid (bal (bal (HB1.out) _) _)
    clear hw2
    obtain ⟨Ka, Kb, Kc, Kd⟩ := KK2.out.four
    have Kz := KK2.out.lt
    obtain ⟨Ra, Rb, Rc, Rd⟩ := KR2.out.four
    have Rz := KR2.out.lt
    have Rf := KR2.out.free
    obtain ⟨Pa, Pb, Pc⟩ := KP2.out.three
    have Pz := KP2.out.lt
    obtain ⟨Qa, Qb⟩ := KQ2.out.two
    have Qz := KQ2.out.lt
    obtain ⟨Oa, Ob, Oc, Od⟩ := KO2.out.four
    have Oz := KO2.out.lt
    have Of := KO2.out.free
    refine wp_region_mix (w2.heap.size) (by kernel_rfl) (by kernel_rfl) ?_
    repeat (any_goals (go_big_quiet_step (fail)))
    refine wpQuiet_nil ?_
    intro w3 hx3
    have hb3 : Below _ _ w3 := mix_ex hx3
    clear hx3
    clear Ka Kb Kc Kd Kz Ra Rb Rc Rd Rz Rf Pa Pb Pc Pz Qa Qb Qz Oa Ob Oc Od Oz Of
    have KK3 : Hid (Box w3 (w.heap.size) 52 #[.int .i64 x, .int .i64 y, .int .i64 1, .int .i64 dy]) := hid (Box.keep (KK2.out) hb3)
    have KR3 : Hid (Box w3 (w.heap.size + 1) 52 #[.int .i64 0, .int .i64 0, .int .i64 0, .int .i64 0]) := hid (Box.keep (KR2.out) hb3)
    have KP3 : Hid (Box w3 (p) 30 #[.int .i64 W, .int .i64 H, .slice A zs.length c]) := hid (Box.keep (KP2.out) hb3)
    have KQ3 : Hid (Box w3 (w1.heap.size) 32 #[.int .i64 (x + 1), .int .i64 (y + dy)]) := hid (Box.keep (KQ2.out) hb3)
    have KO3 : Hid (Box w3 (w1.heap.size + 1) 52 #[.int .i64 (x + 1), .int .i64 (y + dy), .int .i64 1, .int .i64 dy]) := hid (Box.keep (KO2.out) hb3)
    have HB3 : Hid (Below w.heap.size w w3) := hid (bstep (HB2.out) hb3)
    clear hb3
    obtain ⟨Ka, Kb, Kc, Kd⟩ := KK3.out.four
    have Kz := KK3.out.lt
    obtain ⟨Ra, Rb, Rc, Rd⟩ := KR3.out.four
    have Rz := KR3.out.lt
    have Rf := KR3.out.free
    obtain ⟨Pa, Pb, Pc⟩ := KP3.out.three
    have Pz := KP3.out.lt
    obtain ⟨Qa, Qb⟩ := KQ3.out.two
    have Qz := KQ3.out.lt
    obtain ⟨Oa, Ob, Oc, Od⟩ := KO3.out.four
    have Oz := KO3.out.lt
    have Of := KO3.out.free
    go_wp2_with fail
    clear Ka Kb Kc Kd Kz Ra Rb Rc Rd Rz Rf Pa Pb Pc Pz Qa Qb Qz Oa Ob Oc Od Oz Of
    obtain ⟨w4, hw4⟩ : ∃ zz : World, zz = (w3.setCell ⟨w1.heap.size + 1, 2, none⟩ (.int .i64 (-1))) := ⟨_, rfl⟩
    rw [← hw4]
    have KK4 : Hid (Box w4 (w.heap.size) 52 #[.int .i64 x, .int .i64 y, .int .i64 1, .int .i64 dy]) := by rw [hw4]; exact hid (Box.set (KK3.out) (by simp <;> omega) _)
    have KR4 : Hid (Box w4 (w.heap.size + 1) 52 #[.int .i64 0, .int .i64 0, .int .i64 0, .int .i64 0]) := by rw [hw4]; exact hid (Box.set (KR3.out) (by simp <;> omega) _)
    have KP4 : Hid (Box w4 (p) 30 #[.int .i64 W, .int .i64 H, .slice A zs.length c]) := by rw [hw4]; exact hid (Box.set (KP3.out) (by simp <;> omega) _)
    have KQ4 : Hid (Box w4 (w1.heap.size) 32 #[.int .i64 (x + 1), .int .i64 (y + dy)]) := by rw [hw4]; exact hid (Box.set (KQ3.out) (by simp <;> omega) _)
    have KO4 : Hid (Box w4 (w1.heap.size + 1) 52 #[.int .i64 (x + 1), .int .i64 (y + dy), .int .i64 (-1), .int .i64 dy]) := by rw [hw4]; exact hid (Box.put (KO3.out) 2 _)
    have HB4 : Hid (Below w.heap.size w w4) := by rw [hw4]; exact hid (Below.setCell (HB3.out) (by simp <;> omega) _)
    clear hw4
    obtain ⟨Ka, Kb, Kc, Kd⟩ := KK4.out.four
    have Kz := KK4.out.lt
    obtain ⟨Ra, Rb, Rc, Rd⟩ := KR4.out.four
    have Rz := KR4.out.lt
    have Rf := KR4.out.free
    obtain ⟨Pa, Pb, Pc⟩ := KP4.out.three
    have Pz := KP4.out.lt
    obtain ⟨Qa, Qb⟩ := KQ4.out.two
    have Qz := KQ4.out.lt
    obtain ⟨Oa, Ob, Oc, Od⟩ := KO4.out.four
    have Oz := KO4.out.lt
    have Of := KO4.out.free
    refine wp_region_mix (w4.heap.size) (by kernel_rfl) (by kernel_rfl) ?_
    repeat (any_goals (go_big_quiet_step (fail)))
    refine wpQuiet_nil ?_
    intro w5 hx5
    have hb5 : Below _ _ w5 := mix_ex hx5
    clear hx5
    clear Ka Kb Kc Kd Kz Ra Rb Rc Rd Rz Rf Pa Pb Pc Pz Qa Qb Qz Oa Ob Oc Od Oz Of
    have KK5 : Hid (Box w5 (w.heap.size) 52 #[.int .i64 x, .int .i64 y, .int .i64 1, .int .i64 dy]) := hid (Box.keep (KK4.out) hb5)
    have KR5 : Hid (Box w5 (w.heap.size + 1) 52 #[.int .i64 0, .int .i64 0, .int .i64 0, .int .i64 0]) := hid (Box.keep (KR4.out) hb5)
    have KP5 : Hid (Box w5 (p) 30 #[.int .i64 W, .int .i64 H, .slice A zs.length c]) := hid (Box.keep (KP4.out) hb5)
    have KQ5 : Hid (Box w5 (w1.heap.size) 32 #[.int .i64 (x + 1), .int .i64 (y + dy)]) := hid (Box.keep (KQ4.out) hb5)
    have KO5 : Hid (Box w5 (w1.heap.size + 1) 52 #[.int .i64 (x + 1), .int .i64 (y + dy), .int .i64 (-1), .int .i64 dy]) := hid (Box.keep (KO4.out) hb5)
    have HB5 : Hid (Below w.heap.size w w5) := hid (bstep (HB4.out) hb5)
    clear hb5
    obtain ⟨Ka, Kb, Kc, Kd⟩ := KK5.out.four
    have Kz := KK5.out.lt
    obtain ⟨Ra, Rb, Rc, Rd⟩ := KR5.out.four
    have Rz := KR5.out.lt
    have Rf := KR5.out.free
    obtain ⟨Pa, Pb, Pc⟩ := KP5.out.three
    have Pz := KP5.out.lt
    obtain ⟨Qa, Qb⟩ := KQ5.out.two
    have Qz := KQ5.out.lt
    obtain ⟨Oa, Ob, Oc, Od⟩ := KO5.out.four
    have Oz := KO5.out.lt
    have Of := KO5.out.free
    go_wp2_with fail
    refine (calls_bool (l02Edge_any _ W H (x + 1) (y + dy) _ _ (KP5.out) HS.out.1 HS.out.2) HE.out).mono ?_
    rintro e w6 ⟨rfl, hb6⟩
    clear Ka Kb Kc Kd Kz Ra Rb Rc Rd Rz Rf Pa Pb Pc Pz Qa Qb Qz Oa Ob Oc Od Oz Of
    have KK6 : Hid (Box w6 (w.heap.size) 52 #[.int .i64 x, .int .i64 y, .int .i64 1, .int .i64 dy]) := hid (Box.keep (KK5.out) hb6)
    have KR6 : Hid (Box w6 (w.heap.size + 1) 52 #[.int .i64 0, .int .i64 0, .int .i64 0, .int .i64 0]) := hid (Box.keep (KR5.out) hb6)
    have KP6 : Hid (Box w6 (p) 30 #[.int .i64 W, .int .i64 H, .slice A zs.length c]) := hid (Box.keep (KP5.out) hb6)
    have KQ6 : Hid (Box w6 (w1.heap.size) 32 #[.int .i64 (x + 1), .int .i64 (y + dy)]) := hid (Box.keep (KQ5.out) hb6)
    have KO6 : Hid (Box w6 (w1.heap.size + 1) 52 #[.int .i64 (x + 1), .int .i64 (y + dy), .int .i64 (-1), .int .i64 dy]) := hid (Box.keep (KO5.out) hb6)
    have HB6 : Hid (Below w.heap.size w w6) := hid (bstep (HB5.out) hb6)
    clear hb6
    obtain ⟨Ka, Kb, Kc, Kd⟩ := KK6.out.four
    have Kz := KK6.out.lt
    obtain ⟨Ra, Rb, Rc, Rd⟩ := KR6.out.four
    have Rz := KR6.out.lt
    have Rf := KR6.out.free
    obtain ⟨Pa, Pb, Pc⟩ := KP6.out.three
    have Pz := KP6.out.lt
    obtain ⟨Qa, Qb⟩ := KQ6.out.two
    have Qz := KQ6.out.lt
    obtain ⟨Oa, Ob, Oc, Od⟩ := KO6.out.four
    have Oz := KO6.out.lt
    have Of := KO6.out.free
    go_wp2_with fail
    have hbE := (HB6.out)
    refine bodyPost_ret (v := .agg #[.int .i64 (x + 1), .int .i64 (y + dy), .int .i64 (-1), .int .i64 (dy)]) (by simp [results, Try.results124, go_sem, *]) rfl ⟨ret_w4 rfl rfl HV.out.1.symm HV.out.2.symm, (by (repeat (with_reducible first | exact Below.refl _ _ | assumption | refine below_drewN ?_ _ | refine Below.drew ?_ | refine Below.alloc ?_ ?_ _ | refine Below.setCell ?_ ?_ _)); all_goals (first | omega | (simp only [size_drewN, World.size_alloc, World.size_setCell, World.size_drew] at *; omega) | (simp; done) | (simp; omega)))⟩
  · have ex0 : (x + 1 == 0) = false := by simp; omega
    have exw : (x + 1 == 2 * W) = false := by simp; omega
    have ey0 : (y + dy == 0) = true := by simp; omega
    have HE : Hid (edgeP W H (x + 1) (y + dy) = true) := hid (by simp [edgeP, *])
    have HK : stK W H zs (x + 1) (y + dy) = 0 := by simp [stK, HE.out]
    have HV : Hid (stU W H zs x y 1 dy = 1 ∧ stV W H zs x y 1 dy = -dy) := hid (by simp [stU, stV, HK, ex0, ey0, exw])
    clear HK
    have t2 : IntKind.i64.wrap (-dy) = -dy := IntWalk.i64_in _ (by omega)
    have ny := neg_ne HY.out
    have nyp : ¬ (-dy = dy) := by simpa using ny
    clear c1 c2 c3
    go_enter Try.func124, Try.ntmps124
    go_wp2_with fail
    refine (l03Next_any x y 1 dy _ (by omega) (by omega) (by omega) (by omega) (by omega) (by omega) b1 b2).mono ?_
    rintro e w1 ⟨rfl, hb1⟩
    have KK1 : Hid (Box w1 (w.heap.size) 52 #[.int .i64 x, .int .i64 y, .int .i64 1, .int .i64 dy]) := hid (Box.keep (Box.alloc (Box.new' _ _ _ _ (by simp)) _) hb1)
    have KR1 : Hid (Box w1 (w.heap.size + 1) 52 #[.int .i64 0, .int .i64 0, .int .i64 0, .int .i64 0]) := hid (Box.keep (Box.new' _ _ _ _ (by simp)) hb1)
    have KP1 : Hid (Box w1 (p) 30 #[.int .i64 W, .int .i64 H, .slice A zs.length c]) := hid (Box.keep (Box.alloc (Box.alloc (HP0.out) _) _) hb1)
    have HB1 : Hid (Below w.heap.size w w1) := hid (bstep (bal (bal (Below.refl _ _) _) _) hb1)
    clear hb1
    obtain ⟨Ka, Kb, Kc, Kd⟩ := KK1.out.four
    have Kz := KK1.out.lt
    obtain ⟨Ra, Rb, Rc, Rd⟩ := KR1.out.four
    have Rz := KR1.out.lt
    have Rf := KR1.out.free
    obtain ⟨Pa, Pb, Pc⟩ := KP1.out.three
    have Pz := KP1.out.lt
    go_wp2_with fail
    have LK : w.heap.size < w1.heap.size := KK1.out.lt
    have LR : w.heap.size + 1 < w1.heap.size := KR1.out.lt
    have LP : p < w1.heap.size := KP1.out.lt
    have np : ¬ (w1.heap.size + 1 = p) := by omega
    have np2 : ¬ (w.heap.size + 1 = p) := by omega
    have np3 : ¬ (p = w1.heap.size + 1) := by omega
    have np4 : ¬ (p = w.heap.size + 1) := by omega
    have n1 : ¬ (w1.heap.size = w.heap.size + 1) := by omega
    have n2 : ¬ (w.heap.size + 1 = w1.heap.size) := by omega
    have n3 : ¬ (w1.heap.size = w.heap.size) := by omega
    have n4 : ¬ (w.heap.size = w1.heap.size) := by omega
    clear Ka Kb Kc Kd Kz Ra Rb Rc Rd Rz Rf Pa Pb Pc Pz
    obtain ⟨w2, hw2⟩ : ∃ zz : World, zz = ((w1.alloc (.cells #[.int .i64 (x + 1), .int .i64 (y + dy)] 32)).alloc (.cells #[.int .i64 (x + 1), .int .i64 (y + dy), .int .i64 1, .int .i64 dy] 52)) := ⟨_, rfl⟩
    rw [← hw2]
    have KK2 : Hid (Box w2 (w.heap.size) 52 #[.int .i64 x, .int .i64 y, .int .i64 1, .int .i64 dy]) := by rw [hw2]; exact hid (Box.alloc (Box.alloc (KK1.out) _) _)
    have KR2 : Hid (Box w2 (w.heap.size + 1) 52 #[.int .i64 0, .int .i64 0, .int .i64 0, .int .i64 0]) := by rw [hw2]; exact hid (Box.alloc (Box.alloc (KR1.out) _) _)
    have KP2 : Hid (Box w2 (p) 30 #[.int .i64 W, .int .i64 H, .slice A zs.length c]) := by rw [hw2]; exact hid (Box.alloc (Box.alloc (KP1.out) _) _)
    have KQ2 : Hid (Box w2 (w1.heap.size) 32 #[.int .i64 (x + 1), .int .i64 (y + dy)]) := by rw [hw2]; exact hid (Box.alloc (Box.new' _ _ _ _ (by simp)) _)
    have KO2 : Hid (Box w2 (w1.heap.size + 1) 52 #[.int .i64 (x + 1), .int .i64 (y + dy), .int .i64 1, .int .i64 dy]) := by rw [hw2]; exact hid (Box.new' _ _ _ _ (by simp))
    have HB2 : Hid (Below w.heap.size w w2) := by rw [hw2]; exact hid (bal (bal (HB1.out) _) _)
    clear hw2
    obtain ⟨Ka, Kb, Kc, Kd⟩ := KK2.out.four
    have Kz := KK2.out.lt
    obtain ⟨Ra, Rb, Rc, Rd⟩ := KR2.out.four
    have Rz := KR2.out.lt
    have Rf := KR2.out.free
    obtain ⟨Pa, Pb, Pc⟩ := KP2.out.three
    have Pz := KP2.out.lt
    obtain ⟨Qa, Qb⟩ := KQ2.out.two
    have Qz := KQ2.out.lt
    obtain ⟨Oa, Ob, Oc, Od⟩ := KO2.out.four
    have Oz := KO2.out.lt
    have Of := KO2.out.free
    refine wp_region_mix (w2.heap.size) (by kernel_rfl) (by kernel_rfl) ?_
    repeat (any_goals (go_big_quiet_step (fail)))
    refine wpQuiet_nil ?_
    intro w3 hx3
    have hb3 : Below _ _ w3 := mix_ex hx3
    clear hx3
    clear Ka Kb Kc Kd Kz Ra Rb Rc Rd Rz Rf Pa Pb Pc Pz Qa Qb Qz Oa Ob Oc Od Oz Of
    have KK3 : Hid (Box w3 (w.heap.size) 52 #[.int .i64 x, .int .i64 y, .int .i64 1, .int .i64 dy]) := hid (Box.keep (KK2.out) hb3)
    have KR3 : Hid (Box w3 (w.heap.size + 1) 52 #[.int .i64 0, .int .i64 0, .int .i64 0, .int .i64 0]) := hid (Box.keep (KR2.out) hb3)
    have KP3 : Hid (Box w3 (p) 30 #[.int .i64 W, .int .i64 H, .slice A zs.length c]) := hid (Box.keep (KP2.out) hb3)
    have KQ3 : Hid (Box w3 (w1.heap.size) 32 #[.int .i64 (x + 1), .int .i64 (y + dy)]) := hid (Box.keep (KQ2.out) hb3)
    have KO3 : Hid (Box w3 (w1.heap.size + 1) 52 #[.int .i64 (x + 1), .int .i64 (y + dy), .int .i64 1, .int .i64 dy]) := hid (Box.keep (KO2.out) hb3)
    have HB3 : Hid (Below w.heap.size w w3) := hid (bstep (HB2.out) hb3)
    clear hb3
    obtain ⟨Ka, Kb, Kc, Kd⟩ := KK3.out.four
    have Kz := KK3.out.lt
    obtain ⟨Ra, Rb, Rc, Rd⟩ := KR3.out.four
    have Rz := KR3.out.lt
    have Rf := KR3.out.free
    obtain ⟨Pa, Pb, Pc⟩ := KP3.out.three
    have Pz := KP3.out.lt
    obtain ⟨Qa, Qb⟩ := KQ3.out.two
    have Qz := KQ3.out.lt
    obtain ⟨Oa, Ob, Oc, Od⟩ := KO3.out.four
    have Oz := KO3.out.lt
    have Of := KO3.out.free
    go_wp2_with fail
    refine wp_region_mix (w3.heap.size) (by kernel_rfl) (by kernel_rfl) ?_
    repeat (any_goals (go_big_quiet_step (fail)))
    refine wpQuiet_nil ?_
    intro w4 hx4
    have hb4 : Below _ _ w4 := mix_ex hx4
    clear hx4
    clear Ka Kb Kc Kd Kz Ra Rb Rc Rd Rz Rf Pa Pb Pc Pz Qa Qb Qz Oa Ob Oc Od Oz Of
    have KK4 : Hid (Box w4 (w.heap.size) 52 #[.int .i64 x, .int .i64 y, .int .i64 1, .int .i64 dy]) := hid (Box.keep (KK3.out) hb4)
    have KR4 : Hid (Box w4 (w.heap.size + 1) 52 #[.int .i64 0, .int .i64 0, .int .i64 0, .int .i64 0]) := hid (Box.keep (KR3.out) hb4)
    have KP4 : Hid (Box w4 (p) 30 #[.int .i64 W, .int .i64 H, .slice A zs.length c]) := hid (Box.keep (KP3.out) hb4)
    have KQ4 : Hid (Box w4 (w1.heap.size) 32 #[.int .i64 (x + 1), .int .i64 (y + dy)]) := hid (Box.keep (KQ3.out) hb4)
    have KO4 : Hid (Box w4 (w1.heap.size + 1) 52 #[.int .i64 (x + 1), .int .i64 (y + dy), .int .i64 1, .int .i64 dy]) := hid (Box.keep (KO3.out) hb4)
    have HB4 : Hid (Below w.heap.size w w4) := hid (bstep (HB3.out) hb4)
    clear hb4
    obtain ⟨Ka, Kb, Kc, Kd⟩ := KK4.out.four
    have Kz := KK4.out.lt
    obtain ⟨Ra, Rb, Rc, Rd⟩ := KR4.out.four
    have Rz := KR4.out.lt
    have Rf := KR4.out.free
    obtain ⟨Pa, Pb, Pc⟩ := KP4.out.three
    have Pz := KP4.out.lt
    obtain ⟨Qa, Qb⟩ := KQ4.out.two
    have Qz := KQ4.out.lt
    obtain ⟨Oa, Ob, Oc, Od⟩ := KO4.out.four
    have Oz := KO4.out.lt
    have Of := KO4.out.free
    go_wp2_with fail
    clear Ka Kb Kc Kd Kz Ra Rb Rc Rd Rz Rf Pa Pb Pc Pz Qa Qb Qz Oa Ob Oc Od Oz Of
    obtain ⟨w5, hw5⟩ : ∃ zz : World, zz = (w4.setCell ⟨w1.heap.size + 1, 3, none⟩ (.int .i64 (-dy))) := ⟨_, rfl⟩
    rw [← hw5]
    have KK5 : Hid (Box w5 (w.heap.size) 52 #[.int .i64 x, .int .i64 y, .int .i64 1, .int .i64 dy]) := by rw [hw5]; exact hid (Box.set (KK4.out) (by simp <;> omega) _)
    have KR5 : Hid (Box w5 (w.heap.size + 1) 52 #[.int .i64 0, .int .i64 0, .int .i64 0, .int .i64 0]) := by rw [hw5]; exact hid (Box.set (KR4.out) (by simp <;> omega) _)
    have KP5 : Hid (Box w5 (p) 30 #[.int .i64 W, .int .i64 H, .slice A zs.length c]) := by rw [hw5]; exact hid (Box.set (KP4.out) (by simp <;> omega) _)
    have KQ5 : Hid (Box w5 (w1.heap.size) 32 #[.int .i64 (x + 1), .int .i64 (y + dy)]) := by rw [hw5]; exact hid (Box.set (KQ4.out) (by simp <;> omega) _)
    have KO5 : Hid (Box w5 (w1.heap.size + 1) 52 #[.int .i64 (x + 1), .int .i64 (y + dy), .int .i64 1, .int .i64 (-dy)]) := by rw [hw5]; exact hid (Box.put (KO4.out) 3 _)
    have HB5 : Hid (Below w.heap.size w w5) := by rw [hw5]; exact hid (Below.setCell (HB4.out) (by simp <;> omega) _)
    clear hw5
    obtain ⟨Ka, Kb, Kc, Kd⟩ := KK5.out.four
    have Kz := KK5.out.lt
    obtain ⟨Ra, Rb, Rc, Rd⟩ := KR5.out.four
    have Rz := KR5.out.lt
    have Rf := KR5.out.free
    obtain ⟨Pa, Pb, Pc⟩ := KP5.out.three
    have Pz := KP5.out.lt
    obtain ⟨Qa, Qb⟩ := KQ5.out.two
    have Qz := KQ5.out.lt
    obtain ⟨Oa, Ob, Oc, Od⟩ := KO5.out.four
    have Oz := KO5.out.lt
    have Of := KO5.out.free
    refine (calls_bool (l02Edge_any _ W H (x + 1) (y + dy) _ _ (KP5.out) HS.out.1 HS.out.2) HE.out).mono ?_
    rintro e w6 ⟨rfl, hb6⟩
    clear Ka Kb Kc Kd Kz Ra Rb Rc Rd Rz Rf Pa Pb Pc Pz Qa Qb Qz Oa Ob Oc Od Oz Of
    have KK6 : Hid (Box w6 (w.heap.size) 52 #[.int .i64 x, .int .i64 y, .int .i64 1, .int .i64 dy]) := hid (Box.keep (KK5.out) hb6)
    have KR6 : Hid (Box w6 (w.heap.size + 1) 52 #[.int .i64 0, .int .i64 0, .int .i64 0, .int .i64 0]) := hid (Box.keep (KR5.out) hb6)
    have KP6 : Hid (Box w6 (p) 30 #[.int .i64 W, .int .i64 H, .slice A zs.length c]) := hid (Box.keep (KP5.out) hb6)
    have KQ6 : Hid (Box w6 (w1.heap.size) 32 #[.int .i64 (x + 1), .int .i64 (y + dy)]) := hid (Box.keep (KQ5.out) hb6)
    have KO6 : Hid (Box w6 (w1.heap.size + 1) 52 #[.int .i64 (x + 1), .int .i64 (y + dy), .int .i64 1, .int .i64 (-dy)]) := hid (Box.keep (KO5.out) hb6)
    have HB6 : Hid (Below w.heap.size w w6) := hid (bstep (HB5.out) hb6)
    clear hb6
    obtain ⟨Ka, Kb, Kc, Kd⟩ := KK6.out.four
    have Kz := KK6.out.lt
    obtain ⟨Ra, Rb, Rc, Rd⟩ := KR6.out.four
    have Rz := KR6.out.lt
    have Rf := KR6.out.free
    obtain ⟨Pa, Pb, Pc⟩ := KP6.out.three
    have Pz := KP6.out.lt
    obtain ⟨Qa, Qb⟩ := KQ6.out.two
    have Qz := KQ6.out.lt
    obtain ⟨Oa, Ob, Oc, Od⟩ := KO6.out.four
    have Oz := KO6.out.lt
    have Of := KO6.out.free
    go_wp2_with fail
    have hbE := (HB6.out)
    refine bodyPost_ret (v := .agg #[.int .i64 (x + 1), .int .i64 (y + dy), .int .i64 1, .int .i64 (-dy)]) (by simp [results, Try.results124, go_sem, *]) rfl ⟨ret_w4 rfl rfl HV.out.1.symm HV.out.2.symm, (by (repeat (with_reducible first | exact Below.refl _ _ | assumption | refine below_drewN ?_ _ | refine Below.drew ?_ | refine Below.alloc ?_ ?_ _ | refine Below.setCell ?_ ?_ _)); all_goals (first | omega | (simp only [size_drewN, World.size_alloc, World.size_setCell, World.size_drew] at *; omega) | (simp; done) | (simp; omega)))⟩
  · have ex0 : (x + 1 == 0) = false := by simp; omega
    have exw : (x + 1 == 2 * W) = false := by simp; omega
    have ey0 : (y + dy == 0) = false := by simp; omega
    have eyh : (y + dy == 2 * H) = true := by simp; omega
    have HE : Hid (edgeP W H (x + 1) (y + dy) = true) := hid (by simp [edgeP, *])
    have HK : stK W H zs (x + 1) (y + dy) = 0 := by simp [stK, HE.out]
    have HV : Hid (stU W H zs x y 1 dy = 1 ∧ stV W H zs x y 1 dy = -dy) := hid (by simp [stU, stV, HK, ex0, ey0, exw, eyh])
    clear HK
    have t2 : IntKind.i64.wrap (-dy) = -dy := IntWalk.i64_in _ (by omega)
    have ny := neg_ne HY.out
    have nyp : ¬ (-dy = dy) := by simpa using ny
    clear c1 c2 c3 c4
    go_enter Try.func124, Try.ntmps124
    go_wp2_with fail
    refine (l03Next_any x y 1 dy _ (by omega) (by omega) (by omega) (by omega) (by omega) (by omega) b1 b2).mono ?_
    rintro e w1 ⟨rfl, hb1⟩
    have KK1 : Hid (Box w1 (w.heap.size) 52 #[.int .i64 x, .int .i64 y, .int .i64 1, .int .i64 dy]) := hid (Box.keep (Box.alloc (Box.new' _ _ _ _ (by simp)) _) hb1)
    have KR1 : Hid (Box w1 (w.heap.size + 1) 52 #[.int .i64 0, .int .i64 0, .int .i64 0, .int .i64 0]) := hid (Box.keep (Box.new' _ _ _ _ (by simp)) hb1)
    have KP1 : Hid (Box w1 (p) 30 #[.int .i64 W, .int .i64 H, .slice A zs.length c]) := hid (Box.keep (Box.alloc (Box.alloc (HP0.out) _) _) hb1)
    have HB1 : Hid (Below w.heap.size w w1) := hid (bstep (bal (bal (Below.refl _ _) _) _) hb1)
    clear hb1
    obtain ⟨Ka, Kb, Kc, Kd⟩ := KK1.out.four
    have Kz := KK1.out.lt
    obtain ⟨Ra, Rb, Rc, Rd⟩ := KR1.out.four
    have Rz := KR1.out.lt
    have Rf := KR1.out.free
    obtain ⟨Pa, Pb, Pc⟩ := KP1.out.three
    have Pz := KP1.out.lt
    go_wp2_with fail
    have LK : w.heap.size < w1.heap.size := KK1.out.lt
    have LR : w.heap.size + 1 < w1.heap.size := KR1.out.lt
    have LP : p < w1.heap.size := KP1.out.lt
    have np : ¬ (w1.heap.size + 1 = p) := by omega
    have np2 : ¬ (w.heap.size + 1 = p) := by omega
    have np3 : ¬ (p = w1.heap.size + 1) := by omega
    have np4 : ¬ (p = w.heap.size + 1) := by omega
    have n1 : ¬ (w1.heap.size = w.heap.size + 1) := by omega
    have n2 : ¬ (w.heap.size + 1 = w1.heap.size) := by omega
    have n3 : ¬ (w1.heap.size = w.heap.size) := by omega
    have n4 : ¬ (w.heap.size = w1.heap.size) := by omega
    clear Ka Kb Kc Kd Kz Ra Rb Rc Rd Rz Rf Pa Pb Pc Pz
    obtain ⟨w2, hw2⟩ : ∃ zz : World, zz = ((w1.alloc (.cells #[.int .i64 (x + 1), .int .i64 (y + dy)] 32)).alloc (.cells #[.int .i64 (x + 1), .int .i64 (y + dy), .int .i64 1, .int .i64 dy] 52)) := ⟨_, rfl⟩
    rw [← hw2]
    have KK2 : Hid (Box w2 (w.heap.size) 52 #[.int .i64 x, .int .i64 y, .int .i64 1, .int .i64 dy]) := by rw [hw2]; exact hid (Box.alloc (Box.alloc (KK1.out) _) _)
    have KR2 : Hid (Box w2 (w.heap.size + 1) 52 #[.int .i64 0, .int .i64 0, .int .i64 0, .int .i64 0]) := by rw [hw2]; exact hid (Box.alloc (Box.alloc (KR1.out) _) _)
    have KP2 : Hid (Box w2 (p) 30 #[.int .i64 W, .int .i64 H, .slice A zs.length c]) := by rw [hw2]; exact hid (Box.alloc (Box.alloc (KP1.out) _) _)
    have KQ2 : Hid (Box w2 (w1.heap.size) 32 #[.int .i64 (x + 1), .int .i64 (y + dy)]) := by rw [hw2]; exact hid (Box.alloc (Box.new' _ _ _ _ (by simp)) _)
    have KO2 : Hid (Box w2 (w1.heap.size + 1) 52 #[.int .i64 (x + 1), .int .i64 (y + dy), .int .i64 1, .int .i64 dy]) := by rw [hw2]; exact hid (Box.new' _ _ _ _ (by simp))
    have HB2 : Hid (Below w.heap.size w w2) := by rw [hw2]; exact hid (bal (bal (HB1.out) _) _)
    clear hw2
    obtain ⟨Ka, Kb, Kc, Kd⟩ := KK2.out.four
    have Kz := KK2.out.lt
    obtain ⟨Ra, Rb, Rc, Rd⟩ := KR2.out.four
    have Rz := KR2.out.lt
    have Rf := KR2.out.free
    obtain ⟨Pa, Pb, Pc⟩ := KP2.out.three
    have Pz := KP2.out.lt
    obtain ⟨Qa, Qb⟩ := KQ2.out.two
    have Qz := KQ2.out.lt
    obtain ⟨Oa, Ob, Oc, Od⟩ := KO2.out.four
    have Oz := KO2.out.lt
    have Of := KO2.out.free
    refine wp_region_mix (w2.heap.size) (by kernel_rfl) (by kernel_rfl) ?_
    repeat (any_goals (go_big_quiet_step (fail)))
    refine wpQuiet_nil ?_
    intro w3 hx3
    have hb3 : Below _ _ w3 := mix_ex hx3
    clear hx3
    clear Ka Kb Kc Kd Kz Ra Rb Rc Rd Rz Rf Pa Pb Pc Pz Qa Qb Qz Oa Ob Oc Od Oz Of
    have KK3 : Hid (Box w3 (w.heap.size) 52 #[.int .i64 x, .int .i64 y, .int .i64 1, .int .i64 dy]) := hid (Box.keep (KK2.out) hb3)
    have KR3 : Hid (Box w3 (w.heap.size + 1) 52 #[.int .i64 0, .int .i64 0, .int .i64 0, .int .i64 0]) := hid (Box.keep (KR2.out) hb3)
    have KP3 : Hid (Box w3 (p) 30 #[.int .i64 W, .int .i64 H, .slice A zs.length c]) := hid (Box.keep (KP2.out) hb3)
    have KQ3 : Hid (Box w3 (w1.heap.size) 32 #[.int .i64 (x + 1), .int .i64 (y + dy)]) := hid (Box.keep (KQ2.out) hb3)
    have KO3 : Hid (Box w3 (w1.heap.size + 1) 52 #[.int .i64 (x + 1), .int .i64 (y + dy), .int .i64 1, .int .i64 dy]) := hid (Box.keep (KO2.out) hb3)
    have HB3 : Hid (Below w.heap.size w w3) := hid (bstep (HB2.out) hb3)
    clear hb3
    obtain ⟨Ka, Kb, Kc, Kd⟩ := KK3.out.four
    have Kz := KK3.out.lt
    obtain ⟨Ra, Rb, Rc, Rd⟩ := KR3.out.four
    have Rz := KR3.out.lt
    have Rf := KR3.out.free
    obtain ⟨Pa, Pb, Pc⟩ := KP3.out.three
    have Pz := KP3.out.lt
    obtain ⟨Qa, Qb⟩ := KQ3.out.two
    have Qz := KQ3.out.lt
    obtain ⟨Oa, Ob, Oc, Od⟩ := KO3.out.four
    have Oz := KO3.out.lt
    have Of := KO3.out.free
    go_wp2_with fail
    refine wp_region_mix (w3.heap.size) (by kernel_rfl) (by kernel_rfl) ?_
    repeat (any_goals (go_big_quiet_step (fail)))
    refine wpQuiet_nil ?_
    intro w4 hx4
    have hb4 : Below _ _ w4 := mix_ex hx4
    clear hx4
    clear Ka Kb Kc Kd Kz Ra Rb Rc Rd Rz Rf Pa Pb Pc Pz Qa Qb Qz Oa Ob Oc Od Oz Of
    have KK4 : Hid (Box w4 (w.heap.size) 52 #[.int .i64 x, .int .i64 y, .int .i64 1, .int .i64 dy]) := hid (Box.keep (KK3.out) hb4)
    have KR4 : Hid (Box w4 (w.heap.size + 1) 52 #[.int .i64 0, .int .i64 0, .int .i64 0, .int .i64 0]) := hid (Box.keep (KR3.out) hb4)
    have KP4 : Hid (Box w4 (p) 30 #[.int .i64 W, .int .i64 H, .slice A zs.length c]) := hid (Box.keep (KP3.out) hb4)
    have KQ4 : Hid (Box w4 (w1.heap.size) 32 #[.int .i64 (x + 1), .int .i64 (y + dy)]) := hid (Box.keep (KQ3.out) hb4)
    have KO4 : Hid (Box w4 (w1.heap.size + 1) 52 #[.int .i64 (x + 1), .int .i64 (y + dy), .int .i64 1, .int .i64 dy]) := hid (Box.keep (KO3.out) hb4)
    have HB4 : Hid (Below w.heap.size w w4) := hid (bstep (HB3.out) hb4)
    clear hb4
    obtain ⟨Ka, Kb, Kc, Kd⟩ := KK4.out.four
    have Kz := KK4.out.lt
    obtain ⟨Ra, Rb, Rc, Rd⟩ := KR4.out.four
    have Rz := KR4.out.lt
    have Rf := KR4.out.free
    obtain ⟨Pa, Pb, Pc⟩ := KP4.out.three
    have Pz := KP4.out.lt
    obtain ⟨Qa, Qb⟩ := KQ4.out.two
    have Qz := KQ4.out.lt
    obtain ⟨Oa, Ob, Oc, Od⟩ := KO4.out.four
    have Oz := KO4.out.lt
    have Of := KO4.out.free
    go_wp2_with fail
    clear Ka Kb Kc Kd Kz Ra Rb Rc Rd Rz Rf Pa Pb Pc Pz Qa Qb Qz Oa Ob Oc Od Oz Of
    obtain ⟨w5, hw5⟩ : ∃ zz : World, zz = (w4.setCell ⟨w1.heap.size + 1, 3, none⟩ (.int .i64 (-dy))) := ⟨_, rfl⟩
    rw [← hw5]
    have KK5 : Hid (Box w5 (w.heap.size) 52 #[.int .i64 x, .int .i64 y, .int .i64 1, .int .i64 dy]) := by rw [hw5]; exact hid (Box.set (KK4.out) (by simp <;> omega) _)
    have KR5 : Hid (Box w5 (w.heap.size + 1) 52 #[.int .i64 0, .int .i64 0, .int .i64 0, .int .i64 0]) := by rw [hw5]; exact hid (Box.set (KR4.out) (by simp <;> omega) _)
    have KP5 : Hid (Box w5 (p) 30 #[.int .i64 W, .int .i64 H, .slice A zs.length c]) := by rw [hw5]; exact hid (Box.set (KP4.out) (by simp <;> omega) _)
    have KQ5 : Hid (Box w5 (w1.heap.size) 32 #[.int .i64 (x + 1), .int .i64 (y + dy)]) := by rw [hw5]; exact hid (Box.set (KQ4.out) (by simp <;> omega) _)
    have KO5 : Hid (Box w5 (w1.heap.size + 1) 52 #[.int .i64 (x + 1), .int .i64 (y + dy), .int .i64 1, .int .i64 (-dy)]) := by rw [hw5]; exact hid (Box.put (KO4.out) 3 _)
    have HB5 : Hid (Below w.heap.size w w5) := by rw [hw5]; exact hid (Below.setCell (HB4.out) (by simp <;> omega) _)
    clear hw5
    obtain ⟨Ka, Kb, Kc, Kd⟩ := KK5.out.four
    have Kz := KK5.out.lt
    obtain ⟨Ra, Rb, Rc, Rd⟩ := KR5.out.four
    have Rz := KR5.out.lt
    have Rf := KR5.out.free
    obtain ⟨Pa, Pb, Pc⟩ := KP5.out.three
    have Pz := KP5.out.lt
    obtain ⟨Qa, Qb⟩ := KQ5.out.two
    have Qz := KQ5.out.lt
    obtain ⟨Oa, Ob, Oc, Od⟩ := KO5.out.four
    have Oz := KO5.out.lt
    have Of := KO5.out.free
    refine (calls_bool (l02Edge_any _ W H (x + 1) (y + dy) _ _ (KP5.out) HS.out.1 HS.out.2) HE.out).mono ?_
    rintro e w6 ⟨rfl, hb6⟩
    clear Ka Kb Kc Kd Kz Ra Rb Rc Rd Rz Rf Pa Pb Pc Pz Qa Qb Qz Oa Ob Oc Od Oz Of
    have KK6 : Hid (Box w6 (w.heap.size) 52 #[.int .i64 x, .int .i64 y, .int .i64 1, .int .i64 dy]) := hid (Box.keep (KK5.out) hb6)
    have KR6 : Hid (Box w6 (w.heap.size + 1) 52 #[.int .i64 0, .int .i64 0, .int .i64 0, .int .i64 0]) := hid (Box.keep (KR5.out) hb6)
    have KP6 : Hid (Box w6 (p) 30 #[.int .i64 W, .int .i64 H, .slice A zs.length c]) := hid (Box.keep (KP5.out) hb6)
    have KQ6 : Hid (Box w6 (w1.heap.size) 32 #[.int .i64 (x + 1), .int .i64 (y + dy)]) := hid (Box.keep (KQ5.out) hb6)
    have KO6 : Hid (Box w6 (w1.heap.size + 1) 52 #[.int .i64 (x + 1), .int .i64 (y + dy), .int .i64 1, .int .i64 (-dy)]) := hid (Box.keep (KO5.out) hb6)
    have HB6 : Hid (Below w.heap.size w w6) := hid (bstep (HB5.out) hb6)
    clear hb6
    obtain ⟨Ka, Kb, Kc, Kd⟩ := KK6.out.four
    have Kz := KK6.out.lt
    obtain ⟨Ra, Rb, Rc, Rd⟩ := KR6.out.four
    have Rz := KR6.out.lt
    have Rf := KR6.out.free
    obtain ⟨Pa, Pb, Pc⟩ := KP6.out.three
    have Pz := KP6.out.lt
    obtain ⟨Qa, Qb⟩ := KQ6.out.two
    have Qz := KQ6.out.lt
    obtain ⟨Oa, Ob, Oc, Od⟩ := KO6.out.four
    have Oz := KO6.out.lt
    have Of := KO6.out.free
    go_wp2_with fail
    have hbE := (HB6.out)
    refine bodyPost_ret (v := .agg #[.int .i64 (x + 1), .int .i64 (y + dy), .int .i64 1, .int .i64 (-dy)]) (by simp [results, Try.results124, go_sem, *]) rfl ⟨ret_w4 rfl rfl HV.out.1.symm HV.out.2.symm, (by (repeat (with_reducible first | exact Below.refl _ _ | assumption | refine below_drewN ?_ _ | refine Below.drew ?_ | refine Below.alloc ?_ ?_ _ | refine Below.setCell ?_ ?_ _)); all_goals (first | omega | (simp only [size_drewN, World.size_alloc, World.size_setCell, World.size_drew] at *; omega) | (simp; done) | (simp; omega)))⟩
  · have ex0 : (x + 1 == 0) = false := by simp; omega
    have exw : (x + 1 == 2 * W) = false := by simp; omega
    have ey0 : (y + dy == 0) = false := by simp; omega
    have eyh : (y + dy == 2 * H) = false := by simp; omega
    have HE : Hid (edgeP W H (x + 1) (y + dy) = false) := hid (by simp [edgeP, *])
    have HK : stK W H zs (x + 1) (y + dy) = 0 := by simp [stK, HE.out, c0]
    have HV : Hid (stU W H zs x y 1 dy = 1 ∧ stV W H zs x y 1 dy = dy) := hid (by simp [stU, stV, HK, ex0, ey0, exw, eyh])
    clear HK
    obtain ⟨bb, off, rfl⟩ := hz.isSome hkz
    rw [c0] at hkz
    have HZ := hid hkz
    have HN := hid hk
    have HI5 := hid i5
    clear hkz hk c0 i5
    go_enter Try.func124, Try.ntmps124
    go_wp2_with fail
    refine (l03Next_any x y 1 dy _ (by omega) (by omega) (by omega) (by omega) (by omega) (by omega) b1 b2).mono ?_
    rintro e w1 ⟨rfl, hb1⟩
    have KK1 : Hid (Box w1 (w.heap.size) 52 #[.int .i64 x, .int .i64 y, .int .i64 1, .int .i64 dy]) := hid (Box.keep (Box.alloc (Box.new' _ _ _ _ (by simp)) _) hb1)
    have KR1 : Hid (Box w1 (w.heap.size + 1) 52 #[.int .i64 0, .int .i64 0, .int .i64 0, .int .i64 0]) := hid (Box.keep (Box.new' _ _ _ _ (by simp)) hb1)
    have KP1 : Hid (Box w1 (p) 30 #[.int .i64 W, .int .i64 H, .slice (some ⟨bb, off, none⟩) zs.length c]) := hid (Box.keep (Box.alloc (Box.alloc (HP0.out) _) _) hb1)
    have HB1 : Hid (Below w.heap.size w w1) := hid (bstep (bal (bal (Below.refl _ _) _) _) hb1)
    clear hb1
    obtain ⟨Ka, Kb, Kc, Kd⟩ := KK1.out.four
    have Kz := KK1.out.lt
    obtain ⟨Ra, Rb, Rc, Rd⟩ := KR1.out.four
    have Rz := KR1.out.lt
    have Rf := KR1.out.free
    obtain ⟨Pa, Pb, Pc⟩ := KP1.out.three
    have Pz := KP1.out.lt
    go_wp2_with fail
    have LK : w.heap.size < w1.heap.size := KK1.out.lt
    have LR : w.heap.size + 1 < w1.heap.size := KR1.out.lt
    have LP : p < w1.heap.size := KP1.out.lt
    have np : ¬ (w1.heap.size + 1 = p) := by omega
    have np2 : ¬ (w.heap.size + 1 = p) := by omega
    have np3 : ¬ (p = w1.heap.size + 1) := by omega
    have np4 : ¬ (p = w.heap.size + 1) := by omega
    have n1 : ¬ (w1.heap.size = w.heap.size + 1) := by omega
    have n2 : ¬ (w.heap.size + 1 = w1.heap.size) := by omega
    have n3 : ¬ (w1.heap.size = w.heap.size) := by omega
    have n4 : ¬ (w.heap.size = w1.heap.size) := by omega
    clear Ka Kb Kc Kd Kz Ra Rb Rc Rd Rz Rf Pa Pb Pc Pz
    obtain ⟨w2, hw2⟩ : ∃ zz : World, zz = ((w1.alloc (.cells #[.int .i64 (x + 1), .int .i64 (y + dy)] 32)).alloc (.cells #[.int .i64 (x + 1), .int .i64 (y + dy), .int .i64 1, .int .i64 dy] 52)) := ⟨_, rfl⟩
    rw [← hw2]
    have KK2 : Hid (Box w2 (w.heap.size) 52 #[.int .i64 x, .int .i64 y, .int .i64 1, .int .i64 dy]) := by rw [hw2]; exact hid (Box.alloc (Box.alloc (KK1.out) _) _)
    have KR2 : Hid (Box w2 (w.heap.size + 1) 52 #[.int .i64 0, .int .i64 0, .int .i64 0, .int .i64 0]) := by rw [hw2]; exact hid (Box.alloc (Box.alloc (KR1.out) _) _)
    have KP2 : Hid (Box w2 (p) 30 #[.int .i64 W, .int .i64 H, .slice (some ⟨bb, off, none⟩) zs.length c]) := by rw [hw2]; exact hid (Box.alloc (Box.alloc (KP1.out) _) _)
    have KQ2 : Hid (Box w2 (w1.heap.size) 32 #[.int .i64 (x + 1), .int .i64 (y + dy)]) := by rw [hw2]; exact hid (Box.alloc (Box.new' _ _ _ _ (by simp)) _)
    have KO2 : Hid (Box w2 (w1.heap.size + 1) 52 #[.int .i64 (x + 1), .int .i64 (y + dy), .int .i64 1, .int .i64 dy]) := by rw [hw2]; exact hid (Box.new' _ _ _ _ (by simp))
    have HB2 : Hid (Below w.heap.size w w2) := by rw [hw2]; exact hid (bal (bal (HB1.out) _) _)
    clear hw2
    obtain ⟨Ka, Kb, Kc, Kd⟩ := KK2.out.four
    have Kz := KK2.out.lt
    obtain ⟨Ra, Rb, Rc, Rd⟩ := KR2.out.four
    have Rz := KR2.out.lt
    have Rf := KR2.out.free
    obtain ⟨Pa, Pb, Pc⟩ := KP2.out.three
    have Pz := KP2.out.lt
    obtain ⟨Qa, Qb⟩ := KQ2.out.two
    have Qz := KQ2.out.lt
    obtain ⟨Oa, Ob, Oc, Od⟩ := KO2.out.four
    have Oz := KO2.out.lt
    have Of := KO2.out.free
    refine wp_region_mix (w2.heap.size) (by kernel_rfl) (by kernel_rfl) ?_
    repeat (any_goals (go_big_quiet_step (fail)))
    refine wpQuiet_nil ?_
    intro w3 hx3
    have hb3 : Below _ _ w3 := mix_ex hx3
    clear hx3
    clear Ka Kb Kc Kd Kz Ra Rb Rc Rd Rz Rf Pa Pb Pc Pz Qa Qb Qz Oa Ob Oc Od Oz Of
    have KK3 : Hid (Box w3 (w.heap.size) 52 #[.int .i64 x, .int .i64 y, .int .i64 1, .int .i64 dy]) := hid (Box.keep (KK2.out) hb3)
    have KR3 : Hid (Box w3 (w.heap.size + 1) 52 #[.int .i64 0, .int .i64 0, .int .i64 0, .int .i64 0]) := hid (Box.keep (KR2.out) hb3)
    have KP3 : Hid (Box w3 (p) 30 #[.int .i64 W, .int .i64 H, .slice (some ⟨bb, off, none⟩) zs.length c]) := hid (Box.keep (KP2.out) hb3)
    have KQ3 : Hid (Box w3 (w1.heap.size) 32 #[.int .i64 (x + 1), .int .i64 (y + dy)]) := hid (Box.keep (KQ2.out) hb3)
    have KO3 : Hid (Box w3 (w1.heap.size + 1) 52 #[.int .i64 (x + 1), .int .i64 (y + dy), .int .i64 1, .int .i64 dy]) := hid (Box.keep (KO2.out) hb3)
    have HB3 : Hid (Below w.heap.size w w3) := hid (bstep (HB2.out) hb3)
    clear hb3
    obtain ⟨Ka, Kb, Kc, Kd⟩ := KK3.out.four
    have Kz := KK3.out.lt
    obtain ⟨Ra, Rb, Rc, Rd⟩ := KR3.out.four
    have Rz := KR3.out.lt
    have Rf := KR3.out.free
    obtain ⟨Pa, Pb, Pc⟩ := KP3.out.three
    have Pz := KP3.out.lt
    obtain ⟨Qa, Qb⟩ := KQ3.out.two
    have Qz := KQ3.out.lt
    obtain ⟨Oa, Ob, Oc, Od⟩ := KO3.out.four
    have Oz := KO3.out.lt
    have Of := KO3.out.free
    go_wp2_with fail
    refine wp_region_mix (w3.heap.size) (by kernel_rfl) (by kernel_rfl) ?_
    repeat (any_goals (go_big_quiet_step (fail)))
    refine wpQuiet_nil ?_
    intro w4 hx4
    have hb4 : Below _ _ w4 := mix_ex hx4
    clear hx4
    clear Ka Kb Kc Kd Kz Ra Rb Rc Rd Rz Rf Pa Pb Pc Pz Qa Qb Qz Oa Ob Oc Od Oz Of
    have KK4 : Hid (Box w4 (w.heap.size) 52 #[.int .i64 x, .int .i64 y, .int .i64 1, .int .i64 dy]) := hid (Box.keep (KK3.out) hb4)
    have KR4 : Hid (Box w4 (w.heap.size + 1) 52 #[.int .i64 0, .int .i64 0, .int .i64 0, .int .i64 0]) := hid (Box.keep (KR3.out) hb4)
    have KP4 : Hid (Box w4 (p) 30 #[.int .i64 W, .int .i64 H, .slice (some ⟨bb, off, none⟩) zs.length c]) := hid (Box.keep (KP3.out) hb4)
    have KQ4 : Hid (Box w4 (w1.heap.size) 32 #[.int .i64 (x + 1), .int .i64 (y + dy)]) := hid (Box.keep (KQ3.out) hb4)
    have KO4 : Hid (Box w4 (w1.heap.size + 1) 52 #[.int .i64 (x + 1), .int .i64 (y + dy), .int .i64 1, .int .i64 dy]) := hid (Box.keep (KO3.out) hb4)
    have HB4 : Hid (Below w.heap.size w w4) := hid (bstep (HB3.out) hb4)
    clear hb4
    obtain ⟨Ka, Kb, Kc, Kd⟩ := KK4.out.four
    have Kz := KK4.out.lt
    obtain ⟨Ra, Rb, Rc, Rd⟩ := KR4.out.four
    have Rz := KR4.out.lt
    have Rf := KR4.out.free
    obtain ⟨Pa, Pb, Pc⟩ := KP4.out.three
    have Pz := KP4.out.lt
    obtain ⟨Qa, Qb⟩ := KQ4.out.two
    have Qz := KQ4.out.lt
    obtain ⟨Oa, Ob, Oc, Od⟩ := KO4.out.four
    have Oz := KO4.out.lt
    have Of := KO4.out.free
    go_wp2_with fail
    refine (calls_bool (l02Edge_any _ W H (x + 1) (y + dy) _ _ (KP4.out) HS.out.1 HS.out.2) HE.out).mono ?_
    rintro e w5 ⟨rfl, hb5⟩
    clear Ka Kb Kc Kd Kz Ra Rb Rc Rd Rz Rf Pa Pb Pc Pz Qa Qb Qz Oa Ob Oc Od Oz Of
    have KK5 : Hid (Box w5 (w.heap.size) 52 #[.int .i64 x, .int .i64 y, .int .i64 1, .int .i64 dy]) := hid (Box.keep (KK4.out) hb5)
    have KR5 : Hid (Box w5 (w.heap.size + 1) 52 #[.int .i64 0, .int .i64 0, .int .i64 0, .int .i64 0]) := hid (Box.keep (KR4.out) hb5)
    have KP5 : Hid (Box w5 (p) 30 #[.int .i64 W, .int .i64 H, .slice (some ⟨bb, off, none⟩) zs.length c]) := hid (Box.keep (KP4.out) hb5)
    have KQ5 : Hid (Box w5 (w1.heap.size) 32 #[.int .i64 (x + 1), .int .i64 (y + dy)]) := hid (Box.keep (KQ4.out) hb5)
    have KO5 : Hid (Box w5 (w1.heap.size + 1) 52 #[.int .i64 (x + 1), .int .i64 (y + dy), .int .i64 1, .int .i64 dy]) := hid (Box.keep (KO4.out) hb5)
    have HB5 : Hid (Below w.heap.size w w5) := hid (bstep (HB4.out) hb5)
    clear hb5
    obtain ⟨Ka, Kb, Kc, Kd⟩ := KK5.out.four
    have Kz := KK5.out.lt
    obtain ⟨Ra, Rb, Rc, Rd⟩ := KR5.out.four
    have Rz := KR5.out.lt
    have Rf := KR5.out.free
    obtain ⟨Pa, Pb, Pc⟩ := KP5.out.three
    have Pz := KP5.out.lt
    obtain ⟨Qa, Qb⟩ := KQ5.out.two
    have Qz := KQ5.out.lt
    obtain ⟨Oa, Ob, Oc, Od⟩ := KO5.out.four
    have Oz := KO5.out.lt
    have Of := KO5.out.free
    go_wp2_with fail
    obtain ⟨hbb, hcc⟩ := (hz.below (Below.mono (HB5.out) hB)).at HZ.out
    have bbz : bb < w5.heap.size := by have := (HB5.out).size; omega
    refine wp_region_mix (w5.heap.size) (by kernel_rfl) (by kernel_rfl) ?_
    repeat (any_goals (go_big_quiet_step ((first | (go_at_call 127; exact mix_call (by simp) (calls_int0 (l02Number_any _ W H (x + 1) (y + dy) _ _ (Box.below KP5.out (mix_below _ _ _) KP5.out.lt) HS.out.1 HS.out.2 i1 i2 i3 i4 HI5.out) HN.out))))))
    refine wpQuiet_nil ?_
    intro w6 hx6
    have hb6 : Below _ _ w6 := mix_ex hx6
    clear hx6
    clear Ka Kb Kc Kd Kz Ra Rb Rc Rd Rz Rf Pa Pb Pc Pz Qa Qb Qz Oa Ob Oc Od Oz Of
    have KK6 : Hid (Box w6 (w.heap.size) 52 #[.int .i64 x, .int .i64 y, .int .i64 1, .int .i64 dy]) := hid (Box.keep (KK5.out) hb6)
    have KR6 : Hid (Box w6 (w.heap.size + 1) 52 #[.int .i64 0, .int .i64 0, .int .i64 0, .int .i64 0]) := hid (Box.keep (KR5.out) hb6)
    have KP6 : Hid (Box w6 (p) 30 #[.int .i64 W, .int .i64 H, .slice (some ⟨bb, off, none⟩) zs.length c]) := hid (Box.keep (KP5.out) hb6)
    have KQ6 : Hid (Box w6 (w1.heap.size) 32 #[.int .i64 (x + 1), .int .i64 (y + dy)]) := hid (Box.keep (KQ5.out) hb6)
    have KO6 : Hid (Box w6 (w1.heap.size + 1) 52 #[.int .i64 (x + 1), .int .i64 (y + dy), .int .i64 1, .int .i64 dy]) := hid (Box.keep (KO5.out) hb6)
    have HB6 : Hid (Below w.heap.size w w6) := hid (bstep (HB5.out) hb6)
    clear hb6
    obtain ⟨Ka, Kb, Kc, Kd⟩ := KK6.out.four
    have Kz := KK6.out.lt
    obtain ⟨Ra, Rb, Rc, Rd⟩ := KR6.out.four
    have Rz := KR6.out.lt
    have Rf := KR6.out.free
    obtain ⟨Pa, Pb, Pc⟩ := KP6.out.three
    have Pz := KP6.out.lt
    obtain ⟨Qa, Qb⟩ := KQ6.out.two
    have Qz := KQ6.out.lt
    obtain ⟨Oa, Ob, Oc, Od⟩ := KO6.out.four
    have Oz := KO6.out.lt
    have Of := KO6.out.free
    go_wp2_with fail
    have hbE := (HB6.out)
    refine bodyPost_ret (v := .agg #[.int .i64 (x + 1), .int .i64 (y + dy), .int .i64 1, .int .i64 (dy)]) (by simp [results, Try.results124, go_sem, *]) rfl ⟨ret_w4 rfl rfl HV.out.1.symm HV.out.2.symm, (by (repeat (with_reducible first | exact Below.refl _ _ | assumption | refine below_drewN ?_ _ | refine Below.drew ?_ | refine Below.alloc ?_ ?_ _ | refine Below.setCell ?_ ?_ _)); all_goals (first | omega | (simp only [size_drewN, World.size_alloc, World.size_setCell, World.size_drew] at *; omega) | (simp; done) | (simp; omega)))⟩
  · have ex0 : (x + 1 == 0) = false := by simp; omega
    have exw : (x + 1 == 2 * W) = false := by simp; omega
    have ey0 : (y + dy == 0) = false := by simp; omega
    have eyh : (y + dy == 2 * H) = false := by simp; omega
    have HE : Hid (edgeP W H (x + 1) (y + dy) = false) := hid (by simp [edgeP, *])
    have HK : stK W H zs (x + 1) (y + dy) = 1 := by simp [stK, HE.out, c0]
    have HV : Hid (stU W H zs x y 1 dy = -1 ∧ stV W H zs x y 1 dy = dy) := hid (by simp [stU, stV, HK, ex0, ey0, exw, eyh])
    clear HK
    obtain ⟨bb, off, rfl⟩ := hz.isSome hkz
    rw [c0] at hkz
    have HZ := hid hkz
    have HN := hid hk
    have HI5 := hid i5
    clear hkz hk c0 i5
    go_enter Try.func124, Try.ntmps124
    go_wp2_with fail
    refine (l03Next_any x y 1 dy _ (by omega) (by omega) (by omega) (by omega) (by omega) (by omega) b1 b2).mono ?_
    rintro e w1 ⟨rfl, hb1⟩
    have KK1 : Hid (Box w1 (w.heap.size) 52 #[.int .i64 x, .int .i64 y, .int .i64 1, .int .i64 dy]) := hid (Box.keep (Box.alloc (Box.new' _ _ _ _ (by simp)) _) hb1)
    have KR1 : Hid (Box w1 (w.heap.size + 1) 52 #[.int .i64 0, .int .i64 0, .int .i64 0, .int .i64 0]) := hid (Box.keep (Box.new' _ _ _ _ (by simp)) hb1)
    have KP1 : Hid (Box w1 (p) 30 #[.int .i64 W, .int .i64 H, .slice (some ⟨bb, off, none⟩) zs.length c]) := hid (Box.keep (Box.alloc (Box.alloc (HP0.out) _) _) hb1)
    have HB1 : Hid (Below w.heap.size w w1) := hid (bstep (bal (bal (Below.refl _ _) _) _) hb1)
    clear hb1
    obtain ⟨Ka, Kb, Kc, Kd⟩ := KK1.out.four
    have Kz := KK1.out.lt
    obtain ⟨Ra, Rb, Rc, Rd⟩ := KR1.out.four
    have Rz := KR1.out.lt
    have Rf := KR1.out.free
    obtain ⟨Pa, Pb, Pc⟩ := KP1.out.three
    have Pz := KP1.out.lt
    go_wp2_with fail
    have LK : w.heap.size < w1.heap.size := KK1.out.lt
    have LR : w.heap.size + 1 < w1.heap.size := KR1.out.lt
    have LP : p < w1.heap.size := KP1.out.lt
    have np : ¬ (w1.heap.size + 1 = p) := by omega
    have np2 : ¬ (w.heap.size + 1 = p) := by omega
    have np3 : ¬ (p = w1.heap.size + 1) := by omega
    have np4 : ¬ (p = w.heap.size + 1) := by omega
    have n1 : ¬ (w1.heap.size = w.heap.size + 1) := by omega
    have n2 : ¬ (w.heap.size + 1 = w1.heap.size) := by omega
    have n3 : ¬ (w1.heap.size = w.heap.size) := by omega
    have n4 : ¬ (w.heap.size = w1.heap.size) := by omega
    clear Ka Kb Kc Kd Kz Ra Rb Rc Rd Rz Rf Pa Pb Pc Pz
    obtain ⟨w2, hw2⟩ : ∃ zz : World, zz = ((w1.alloc (.cells #[.int .i64 (x + 1), .int .i64 (y + dy)] 32)).alloc (.cells #[.int .i64 (x + 1), .int .i64 (y + dy), .int .i64 1, .int .i64 dy] 52)) := ⟨_, rfl⟩
    rw [← hw2]
    have KK2 : Hid (Box w2 (w.heap.size) 52 #[.int .i64 x, .int .i64 y, .int .i64 1, .int .i64 dy]) := by rw [hw2]; exact hid (Box.alloc (Box.alloc (KK1.out) _) _)
    have KR2 : Hid (Box w2 (w.heap.size + 1) 52 #[.int .i64 0, .int .i64 0, .int .i64 0, .int .i64 0]) := by rw [hw2]; exact hid (Box.alloc (Box.alloc (KR1.out) _) _)
    have KP2 : Hid (Box w2 (p) 30 #[.int .i64 W, .int .i64 H, .slice (some ⟨bb, off, none⟩) zs.length c]) := by rw [hw2]; exact hid (Box.alloc (Box.alloc (KP1.out) _) _)
    have KQ2 : Hid (Box w2 (w1.heap.size) 32 #[.int .i64 (x + 1), .int .i64 (y + dy)]) := by rw [hw2]; exact hid (Box.alloc (Box.new' _ _ _ _ (by simp)) _)
    have KO2 : Hid (Box w2 (w1.heap.size + 1) 52 #[.int .i64 (x + 1), .int .i64 (y + dy), .int .i64 1, .int .i64 dy]) := by rw [hw2]; exact hid (Box.new' _ _ _ _ (by simp))
    have HB2 : Hid (Below w.heap.size w w2) := by rw [hw2]; exact hid (bal (bal (HB1.out) _) _)
    clear hw2
    obtain ⟨Ka, Kb, Kc, Kd⟩ := KK2.out.four
    have Kz := KK2.out.lt
    obtain ⟨Ra, Rb, Rc, Rd⟩ := KR2.out.four
    have Rz := KR2.out.lt
    have Rf := KR2.out.free
    obtain ⟨Pa, Pb, Pc⟩ := KP2.out.three
    have Pz := KP2.out.lt
    obtain ⟨Qa, Qb⟩ := KQ2.out.two
    have Qz := KQ2.out.lt
    obtain ⟨Oa, Ob, Oc, Od⟩ := KO2.out.four
    have Oz := KO2.out.lt
    have Of := KO2.out.free
    refine wp_region_mix (w2.heap.size) (by kernel_rfl) (by kernel_rfl) ?_
    repeat (any_goals (go_big_quiet_step (fail)))
    refine wpQuiet_nil ?_
    intro w3 hx3
    have hb3 : Below _ _ w3 := mix_ex hx3
    clear hx3
    clear Ka Kb Kc Kd Kz Ra Rb Rc Rd Rz Rf Pa Pb Pc Pz Qa Qb Qz Oa Ob Oc Od Oz Of
    have KK3 : Hid (Box w3 (w.heap.size) 52 #[.int .i64 x, .int .i64 y, .int .i64 1, .int .i64 dy]) := hid (Box.keep (KK2.out) hb3)
    have KR3 : Hid (Box w3 (w.heap.size + 1) 52 #[.int .i64 0, .int .i64 0, .int .i64 0, .int .i64 0]) := hid (Box.keep (KR2.out) hb3)
    have KP3 : Hid (Box w3 (p) 30 #[.int .i64 W, .int .i64 H, .slice (some ⟨bb, off, none⟩) zs.length c]) := hid (Box.keep (KP2.out) hb3)
    have KQ3 : Hid (Box w3 (w1.heap.size) 32 #[.int .i64 (x + 1), .int .i64 (y + dy)]) := hid (Box.keep (KQ2.out) hb3)
    have KO3 : Hid (Box w3 (w1.heap.size + 1) 52 #[.int .i64 (x + 1), .int .i64 (y + dy), .int .i64 1, .int .i64 dy]) := hid (Box.keep (KO2.out) hb3)
    have HB3 : Hid (Below w.heap.size w w3) := hid (bstep (HB2.out) hb3)
    clear hb3
    obtain ⟨Ka, Kb, Kc, Kd⟩ := KK3.out.four
    have Kz := KK3.out.lt
    obtain ⟨Ra, Rb, Rc, Rd⟩ := KR3.out.four
    have Rz := KR3.out.lt
    have Rf := KR3.out.free
    obtain ⟨Pa, Pb, Pc⟩ := KP3.out.three
    have Pz := KP3.out.lt
    obtain ⟨Qa, Qb⟩ := KQ3.out.two
    have Qz := KQ3.out.lt
    obtain ⟨Oa, Ob, Oc, Od⟩ := KO3.out.four
    have Oz := KO3.out.lt
    have Of := KO3.out.free
    go_wp2_with fail
    refine wp_region_mix (w3.heap.size) (by kernel_rfl) (by kernel_rfl) ?_
    repeat (any_goals (go_big_quiet_step (fail)))
    refine wpQuiet_nil ?_
    intro w4 hx4
    have hb4 : Below _ _ w4 := mix_ex hx4
    clear hx4
    clear Ka Kb Kc Kd Kz Ra Rb Rc Rd Rz Rf Pa Pb Pc Pz Qa Qb Qz Oa Ob Oc Od Oz Of
    have KK4 : Hid (Box w4 (w.heap.size) 52 #[.int .i64 x, .int .i64 y, .int .i64 1, .int .i64 dy]) := hid (Box.keep (KK3.out) hb4)
    have KR4 : Hid (Box w4 (w.heap.size + 1) 52 #[.int .i64 0, .int .i64 0, .int .i64 0, .int .i64 0]) := hid (Box.keep (KR3.out) hb4)
    have KP4 : Hid (Box w4 (p) 30 #[.int .i64 W, .int .i64 H, .slice (some ⟨bb, off, none⟩) zs.length c]) := hid (Box.keep (KP3.out) hb4)
    have KQ4 : Hid (Box w4 (w1.heap.size) 32 #[.int .i64 (x + 1), .int .i64 (y + dy)]) := hid (Box.keep (KQ3.out) hb4)
    have KO4 : Hid (Box w4 (w1.heap.size + 1) 52 #[.int .i64 (x + 1), .int .i64 (y + dy), .int .i64 1, .int .i64 dy]) := hid (Box.keep (KO3.out) hb4)
    have HB4 : Hid (Below w.heap.size w w4) := hid (bstep (HB3.out) hb4)
    clear hb4
    obtain ⟨Ka, Kb, Kc, Kd⟩ := KK4.out.four
    have Kz := KK4.out.lt
    obtain ⟨Ra, Rb, Rc, Rd⟩ := KR4.out.four
    have Rz := KR4.out.lt
    have Rf := KR4.out.free
    obtain ⟨Pa, Pb, Pc⟩ := KP4.out.three
    have Pz := KP4.out.lt
    obtain ⟨Qa, Qb⟩ := KQ4.out.two
    have Qz := KQ4.out.lt
    obtain ⟨Oa, Ob, Oc, Od⟩ := KO4.out.four
    have Oz := KO4.out.lt
    have Of := KO4.out.free
    go_wp2_with fail
    refine (calls_bool (l02Edge_any _ W H (x + 1) (y + dy) _ _ (KP4.out) HS.out.1 HS.out.2) HE.out).mono ?_
    rintro e w5 ⟨rfl, hb5⟩
    clear Ka Kb Kc Kd Kz Ra Rb Rc Rd Rz Rf Pa Pb Pc Pz Qa Qb Qz Oa Ob Oc Od Oz Of
    have KK5 : Hid (Box w5 (w.heap.size) 52 #[.int .i64 x, .int .i64 y, .int .i64 1, .int .i64 dy]) := hid (Box.keep (KK4.out) hb5)
    have KR5 : Hid (Box w5 (w.heap.size + 1) 52 #[.int .i64 0, .int .i64 0, .int .i64 0, .int .i64 0]) := hid (Box.keep (KR4.out) hb5)
    have KP5 : Hid (Box w5 (p) 30 #[.int .i64 W, .int .i64 H, .slice (some ⟨bb, off, none⟩) zs.length c]) := hid (Box.keep (KP4.out) hb5)
    have KQ5 : Hid (Box w5 (w1.heap.size) 32 #[.int .i64 (x + 1), .int .i64 (y + dy)]) := hid (Box.keep (KQ4.out) hb5)
    have KO5 : Hid (Box w5 (w1.heap.size + 1) 52 #[.int .i64 (x + 1), .int .i64 (y + dy), .int .i64 1, .int .i64 dy]) := hid (Box.keep (KO4.out) hb5)
    have HB5 : Hid (Below w.heap.size w w5) := hid (bstep (HB4.out) hb5)
    clear hb5
    obtain ⟨Ka, Kb, Kc, Kd⟩ := KK5.out.four
    have Kz := KK5.out.lt
    obtain ⟨Ra, Rb, Rc, Rd⟩ := KR5.out.four
    have Rz := KR5.out.lt
    have Rf := KR5.out.free
    obtain ⟨Pa, Pb, Pc⟩ := KP5.out.three
    have Pz := KP5.out.lt
    obtain ⟨Qa, Qb⟩ := KQ5.out.two
    have Qz := KQ5.out.lt
    obtain ⟨Oa, Ob, Oc, Od⟩ := KO5.out.four
    have Oz := KO5.out.lt
    have Of := KO5.out.free
    go_wp2_with fail
    obtain ⟨hbb, hcc⟩ := (hz.below (Below.mono (HB5.out) hB)).at HZ.out
    have bbz : bb < w5.heap.size := by have := (HB5.out).size; omega
    refine wp_region_mix (w5.heap.size) (by kernel_rfl) (by kernel_rfl) ?_
    repeat (any_goals (go_big_quiet_step ((first | (go_at_call 127; exact mix_call (by simp) (calls_int0 (l02Number_any _ W H (x + 1) (y + dy) _ _ (Box.below KP5.out (mix_below _ _ _) KP5.out.lt) HS.out.1 HS.out.2 i1 i2 i3 i4 HI5.out) HN.out))))))
    refine wpQuiet_nil ?_
    intro w6 hx6
    have hb6 : Below _ _ w6 := mix_ex hx6
    clear hx6
    clear Ka Kb Kc Kd Kz Ra Rb Rc Rd Rz Rf Pa Pb Pc Pz Qa Qb Qz Oa Ob Oc Od Oz Of
    have KK6 : Hid (Box w6 (w.heap.size) 52 #[.int .i64 x, .int .i64 y, .int .i64 1, .int .i64 dy]) := hid (Box.keep (KK5.out) hb6)
    have KR6 : Hid (Box w6 (w.heap.size + 1) 52 #[.int .i64 0, .int .i64 0, .int .i64 0, .int .i64 0]) := hid (Box.keep (KR5.out) hb6)
    have KP6 : Hid (Box w6 (p) 30 #[.int .i64 W, .int .i64 H, .slice (some ⟨bb, off, none⟩) zs.length c]) := hid (Box.keep (KP5.out) hb6)
    have KQ6 : Hid (Box w6 (w1.heap.size) 32 #[.int .i64 (x + 1), .int .i64 (y + dy)]) := hid (Box.keep (KQ5.out) hb6)
    have KO6 : Hid (Box w6 (w1.heap.size + 1) 52 #[.int .i64 (x + 1), .int .i64 (y + dy), .int .i64 1, .int .i64 dy]) := hid (Box.keep (KO5.out) hb6)
    have HB6 : Hid (Below w.heap.size w w6) := hid (bstep (HB5.out) hb6)
    clear hb6
    obtain ⟨Ka, Kb, Kc, Kd⟩ := KK6.out.four
    have Kz := KK6.out.lt
    obtain ⟨Ra, Rb, Rc, Rd⟩ := KR6.out.four
    have Rz := KR6.out.lt
    have Rf := KR6.out.free
    obtain ⟨Pa, Pb, Pc⟩ := KP6.out.three
    have Pz := KP6.out.lt
    obtain ⟨Qa, Qb⟩ := KQ6.out.two
    have Qz := KQ6.out.lt
    obtain ⟨Oa, Ob, Oc, Od⟩ := KO6.out.four
    have Oz := KO6.out.lt
    have Of := KO6.out.free
    go_wp2_with fail
    have hbE := (HB6.out)
    refine bodyPost_ret (v := .agg #[.int .i64 (x + 1), .int .i64 (y + dy), .int .i64 (-1), .int .i64 (dy)]) (by simp [results, Try.results124, go_sem, *]) rfl ⟨ret_w4 rfl rfl HV.out.1.symm HV.out.2.symm, (by (repeat (with_reducible first | exact Below.refl _ _ | assumption | refine below_drewN ?_ _ | refine Below.drew ?_ | refine Below.alloc ?_ ?_ _ | refine Below.setCell ?_ ?_ _)); all_goals (first | omega | (simp only [size_drewN, World.size_alloc, World.size_setCell, World.size_drew] at *; omega) | (simp; done) | (simp; omega)))⟩
  · have ex0 : (x + 1 == 0) = false := by simp; omega
    have exw : (x + 1 == 2 * W) = false := by simp; omega
    have ey0 : (y + dy == 0) = false := by simp; omega
    have eyh : (y + dy == 2 * H) = false := by simp; omega
    have HE : Hid (edgeP W H (x + 1) (y + dy) = false) := hid (by simp [edgeP, *])
    have HK : stK W H zs (x + 1) (y + dy) = 2 := by simp [stK, HE.out, c0]
    have HV : Hid (stU W H zs x y 1 dy = 1 ∧ stV W H zs x y 1 dy = -dy) := hid (by simp [stU, stV, HK, ex0, ey0, exw, eyh])
    clear HK
    have t2 : IntKind.i64.wrap (-dy) = -dy := IntWalk.i64_in _ (by omega)
    have ny := neg_ne HY.out
    have nyp : ¬ (-dy = dy) := by simpa using ny
    obtain ⟨bb, off, rfl⟩ := hz.isSome hkz
    rw [c0] at hkz
    have HZ := hid hkz
    have HN := hid hk
    have HI5 := hid i5
    clear hkz hk c0 i5
    go_enter Try.func124, Try.ntmps124
    go_wp2_with fail
    refine (l03Next_any x y 1 dy _ (by omega) (by omega) (by omega) (by omega) (by omega) (by omega) b1 b2).mono ?_
    rintro e w1 ⟨rfl, hb1⟩
    have KK1 : Hid (Box w1 (w.heap.size) 52 #[.int .i64 x, .int .i64 y, .int .i64 1, .int .i64 dy]) := hid (Box.keep (Box.alloc (Box.new' _ _ _ _ (by simp)) _) hb1)
    have KR1 : Hid (Box w1 (w.heap.size + 1) 52 #[.int .i64 0, .int .i64 0, .int .i64 0, .int .i64 0]) := hid (Box.keep (Box.new' _ _ _ _ (by simp)) hb1)
    have KP1 : Hid (Box w1 (p) 30 #[.int .i64 W, .int .i64 H, .slice (some ⟨bb, off, none⟩) zs.length c]) := hid (Box.keep (Box.alloc (Box.alloc (HP0.out) _) _) hb1)
    have HB1 : Hid (Below w.heap.size w w1) := hid (bstep (bal (bal (Below.refl _ _) _) _) hb1)
    clear hb1
    obtain ⟨Ka, Kb, Kc, Kd⟩ := KK1.out.four
    have Kz := KK1.out.lt
    obtain ⟨Ra, Rb, Rc, Rd⟩ := KR1.out.four
    have Rz := KR1.out.lt
    have Rf := KR1.out.free
    obtain ⟨Pa, Pb, Pc⟩ := KP1.out.three
    have Pz := KP1.out.lt
    go_wp2_with fail
    have LK : w.heap.size < w1.heap.size := KK1.out.lt
    have LR : w.heap.size + 1 < w1.heap.size := KR1.out.lt
    have LP : p < w1.heap.size := KP1.out.lt
    have np : ¬ (w1.heap.size + 1 = p) := by omega
    have np2 : ¬ (w.heap.size + 1 = p) := by omega
    have np3 : ¬ (p = w1.heap.size + 1) := by omega
    have np4 : ¬ (p = w.heap.size + 1) := by omega
    have n1 : ¬ (w1.heap.size = w.heap.size + 1) := by omega
    have n2 : ¬ (w.heap.size + 1 = w1.heap.size) := by omega
    have n3 : ¬ (w1.heap.size = w.heap.size) := by omega
    have n4 : ¬ (w.heap.size = w1.heap.size) := by omega
    clear Ka Kb Kc Kd Kz Ra Rb Rc Rd Rz Rf Pa Pb Pc Pz
    obtain ⟨w2, hw2⟩ : ∃ zz : World, zz = ((w1.alloc (.cells #[.int .i64 (x + 1), .int .i64 (y + dy)] 32)).alloc (.cells #[.int .i64 (x + 1), .int .i64 (y + dy), .int .i64 1, .int .i64 dy] 52)) := ⟨_, rfl⟩
    rw [← hw2]
    have KK2 : Hid (Box w2 (w.heap.size) 52 #[.int .i64 x, .int .i64 y, .int .i64 1, .int .i64 dy]) := by rw [hw2]; exact hid (Box.alloc (Box.alloc (KK1.out) _) _)
    have KR2 : Hid (Box w2 (w.heap.size + 1) 52 #[.int .i64 0, .int .i64 0, .int .i64 0, .int .i64 0]) := by rw [hw2]; exact hid (Box.alloc (Box.alloc (KR1.out) _) _)
    have KP2 : Hid (Box w2 (p) 30 #[.int .i64 W, .int .i64 H, .slice (some ⟨bb, off, none⟩) zs.length c]) := by rw [hw2]; exact hid (Box.alloc (Box.alloc (KP1.out) _) _)
    have KQ2 : Hid (Box w2 (w1.heap.size) 32 #[.int .i64 (x + 1), .int .i64 (y + dy)]) := by rw [hw2]; exact hid (Box.alloc (Box.new' _ _ _ _ (by simp)) _)
    have KO2 : Hid (Box w2 (w1.heap.size + 1) 52 #[.int .i64 (x + 1), .int .i64 (y + dy), .int .i64 1, .int .i64 dy]) := by rw [hw2]; exact hid (Box.new' _ _ _ _ (by simp))
    have HB2 : Hid (Below w.heap.size w w2) := by rw [hw2]; exact hid (bal (bal (HB1.out) _) _)
    clear hw2
    obtain ⟨Ka, Kb, Kc, Kd⟩ := KK2.out.four
    have Kz := KK2.out.lt
    obtain ⟨Ra, Rb, Rc, Rd⟩ := KR2.out.four
    have Rz := KR2.out.lt
    have Rf := KR2.out.free
    obtain ⟨Pa, Pb, Pc⟩ := KP2.out.three
    have Pz := KP2.out.lt
    obtain ⟨Qa, Qb⟩ := KQ2.out.two
    have Qz := KQ2.out.lt
    obtain ⟨Oa, Ob, Oc, Od⟩ := KO2.out.four
    have Oz := KO2.out.lt
    have Of := KO2.out.free
    refine wp_region_mix (w2.heap.size) (by kernel_rfl) (by kernel_rfl) ?_
    repeat (any_goals (go_big_quiet_step (fail)))
    refine wpQuiet_nil ?_
    intro w3 hx3
    have hb3 : Below _ _ w3 := mix_ex hx3
    clear hx3
    clear Ka Kb Kc Kd Kz Ra Rb Rc Rd Rz Rf Pa Pb Pc Pz Qa Qb Qz Oa Ob Oc Od Oz Of
    have KK3 : Hid (Box w3 (w.heap.size) 52 #[.int .i64 x, .int .i64 y, .int .i64 1, .int .i64 dy]) := hid (Box.keep (KK2.out) hb3)
    have KR3 : Hid (Box w3 (w.heap.size + 1) 52 #[.int .i64 0, .int .i64 0, .int .i64 0, .int .i64 0]) := hid (Box.keep (KR2.out) hb3)
    have KP3 : Hid (Box w3 (p) 30 #[.int .i64 W, .int .i64 H, .slice (some ⟨bb, off, none⟩) zs.length c]) := hid (Box.keep (KP2.out) hb3)
    have KQ3 : Hid (Box w3 (w1.heap.size) 32 #[.int .i64 (x + 1), .int .i64 (y + dy)]) := hid (Box.keep (KQ2.out) hb3)
    have KO3 : Hid (Box w3 (w1.heap.size + 1) 52 #[.int .i64 (x + 1), .int .i64 (y + dy), .int .i64 1, .int .i64 dy]) := hid (Box.keep (KO2.out) hb3)
    have HB3 : Hid (Below w.heap.size w w3) := hid (bstep (HB2.out) hb3)
    clear hb3
    obtain ⟨Ka, Kb, Kc, Kd⟩ := KK3.out.four
    have Kz := KK3.out.lt
    obtain ⟨Ra, Rb, Rc, Rd⟩ := KR3.out.four
    have Rz := KR3.out.lt
    have Rf := KR3.out.free
    obtain ⟨Pa, Pb, Pc⟩ := KP3.out.three
    have Pz := KP3.out.lt
    obtain ⟨Qa, Qb⟩ := KQ3.out.two
    have Qz := KQ3.out.lt
    obtain ⟨Oa, Ob, Oc, Od⟩ := KO3.out.four
    have Oz := KO3.out.lt
    have Of := KO3.out.free
    go_wp2_with fail
    refine wp_region_mix (w3.heap.size) (by kernel_rfl) (by kernel_rfl) ?_
    repeat (any_goals (go_big_quiet_step (fail)))
    refine wpQuiet_nil ?_
    intro w4 hx4
    have hb4 : Below _ _ w4 := mix_ex hx4
    clear hx4
    clear Ka Kb Kc Kd Kz Ra Rb Rc Rd Rz Rf Pa Pb Pc Pz Qa Qb Qz Oa Ob Oc Od Oz Of
    have KK4 : Hid (Box w4 (w.heap.size) 52 #[.int .i64 x, .int .i64 y, .int .i64 1, .int .i64 dy]) := hid (Box.keep (KK3.out) hb4)
    have KR4 : Hid (Box w4 (w.heap.size + 1) 52 #[.int .i64 0, .int .i64 0, .int .i64 0, .int .i64 0]) := hid (Box.keep (KR3.out) hb4)
    have KP4 : Hid (Box w4 (p) 30 #[.int .i64 W, .int .i64 H, .slice (some ⟨bb, off, none⟩) zs.length c]) := hid (Box.keep (KP3.out) hb4)
    have KQ4 : Hid (Box w4 (w1.heap.size) 32 #[.int .i64 (x + 1), .int .i64 (y + dy)]) := hid (Box.keep (KQ3.out) hb4)
    have KO4 : Hid (Box w4 (w1.heap.size + 1) 52 #[.int .i64 (x + 1), .int .i64 (y + dy), .int .i64 1, .int .i64 dy]) := hid (Box.keep (KO3.out) hb4)
    have HB4 : Hid (Below w.heap.size w w4) := hid (bstep (HB3.out) hb4)
    clear hb4
    obtain ⟨Ka, Kb, Kc, Kd⟩ := KK4.out.four
    have Kz := KK4.out.lt
    obtain ⟨Ra, Rb, Rc, Rd⟩ := KR4.out.four
    have Rz := KR4.out.lt
    have Rf := KR4.out.free
    obtain ⟨Pa, Pb, Pc⟩ := KP4.out.three
    have Pz := KP4.out.lt
    obtain ⟨Qa, Qb⟩ := KQ4.out.two
    have Qz := KQ4.out.lt
    obtain ⟨Oa, Ob, Oc, Od⟩ := KO4.out.four
    have Oz := KO4.out.lt
    have Of := KO4.out.free
    go_wp2_with fail
    refine (calls_bool (l02Edge_any _ W H (x + 1) (y + dy) _ _ (KP4.out) HS.out.1 HS.out.2) HE.out).mono ?_
    rintro e w5 ⟨rfl, hb5⟩
    clear Ka Kb Kc Kd Kz Ra Rb Rc Rd Rz Rf Pa Pb Pc Pz Qa Qb Qz Oa Ob Oc Od Oz Of
    have KK5 : Hid (Box w5 (w.heap.size) 52 #[.int .i64 x, .int .i64 y, .int .i64 1, .int .i64 dy]) := hid (Box.keep (KK4.out) hb5)
    have KR5 : Hid (Box w5 (w.heap.size + 1) 52 #[.int .i64 0, .int .i64 0, .int .i64 0, .int .i64 0]) := hid (Box.keep (KR4.out) hb5)
    have KP5 : Hid (Box w5 (p) 30 #[.int .i64 W, .int .i64 H, .slice (some ⟨bb, off, none⟩) zs.length c]) := hid (Box.keep (KP4.out) hb5)
    have KQ5 : Hid (Box w5 (w1.heap.size) 32 #[.int .i64 (x + 1), .int .i64 (y + dy)]) := hid (Box.keep (KQ4.out) hb5)
    have KO5 : Hid (Box w5 (w1.heap.size + 1) 52 #[.int .i64 (x + 1), .int .i64 (y + dy), .int .i64 1, .int .i64 dy]) := hid (Box.keep (KO4.out) hb5)
    have HB5 : Hid (Below w.heap.size w w5) := hid (bstep (HB4.out) hb5)
    clear hb5
    obtain ⟨Ka, Kb, Kc, Kd⟩ := KK5.out.four
    have Kz := KK5.out.lt
    obtain ⟨Ra, Rb, Rc, Rd⟩ := KR5.out.four
    have Rz := KR5.out.lt
    have Rf := KR5.out.free
    obtain ⟨Pa, Pb, Pc⟩ := KP5.out.three
    have Pz := KP5.out.lt
    obtain ⟨Qa, Qb⟩ := KQ5.out.two
    have Qz := KQ5.out.lt
    obtain ⟨Oa, Ob, Oc, Od⟩ := KO5.out.four
    have Oz := KO5.out.lt
    have Of := KO5.out.free
    go_wp2_with fail
    obtain ⟨hbb, hcc⟩ := (hz.below (Below.mono (HB5.out) hB)).at HZ.out
    have bbz : bb < w5.heap.size := by have := (HB5.out).size; omega
    refine wp_region_mix (w5.heap.size) (by kernel_rfl) (by kernel_rfl) ?_
    repeat (any_goals (go_big_quiet_step ((first | (go_at_call 127; exact mix_call (by simp) (calls_int0 (l02Number_any _ W H (x + 1) (y + dy) _ _ (Box.below KP5.out (mix_below _ _ _) KP5.out.lt) HS.out.1 HS.out.2 i1 i2 i3 i4 HI5.out) HN.out))))))
    refine wpQuiet_nil ?_
    intro w6 hx6
    have hb6 : Below _ _ w6 := mix_ex hx6
    clear hx6
    clear Ka Kb Kc Kd Kz Ra Rb Rc Rd Rz Rf Pa Pb Pc Pz Qa Qb Qz Oa Ob Oc Od Oz Of
    have KK6 : Hid (Box w6 (w.heap.size) 52 #[.int .i64 x, .int .i64 y, .int .i64 1, .int .i64 dy]) := hid (Box.keep (KK5.out) hb6)
    have KR6 : Hid (Box w6 (w.heap.size + 1) 52 #[.int .i64 0, .int .i64 0, .int .i64 0, .int .i64 0]) := hid (Box.keep (KR5.out) hb6)
    have KP6 : Hid (Box w6 (p) 30 #[.int .i64 W, .int .i64 H, .slice (some ⟨bb, off, none⟩) zs.length c]) := hid (Box.keep (KP5.out) hb6)
    have KQ6 : Hid (Box w6 (w1.heap.size) 32 #[.int .i64 (x + 1), .int .i64 (y + dy)]) := hid (Box.keep (KQ5.out) hb6)
    have KO6 : Hid (Box w6 (w1.heap.size + 1) 52 #[.int .i64 (x + 1), .int .i64 (y + dy), .int .i64 1, .int .i64 dy]) := hid (Box.keep (KO5.out) hb6)
    have HB6 : Hid (Below w.heap.size w w6) := hid (bstep (HB5.out) hb6)
    clear hb6
    obtain ⟨Ka, Kb, Kc, Kd⟩ := KK6.out.four
    have Kz := KK6.out.lt
    obtain ⟨Ra, Rb, Rc, Rd⟩ := KR6.out.four
    have Rz := KR6.out.lt
    have Rf := KR6.out.free
    obtain ⟨Pa, Pb, Pc⟩ := KP6.out.three
    have Pz := KP6.out.lt
    obtain ⟨Qa, Qb⟩ := KQ6.out.two
    have Qz := KQ6.out.lt
    obtain ⟨Oa, Ob, Oc, Od⟩ := KO6.out.four
    have Oz := KO6.out.lt
    have Of := KO6.out.free
    go_wp2_with fail
    have hbE := (HB6.out)
    refine bodyPost_ret (v := .agg #[.int .i64 (x + 1), .int .i64 (y + dy), .int .i64 1, .int .i64 (-dy)]) (by simp [results, Try.results124, go_sem, *]) rfl ⟨ret_w4 rfl rfl HV.out.1.symm HV.out.2.symm, (by (repeat (with_reducible first | exact Below.refl _ _ | assumption | refine below_drewN ?_ _ | refine Below.drew ?_ | refine Below.alloc ?_ ?_ _ | refine Below.setCell ?_ ?_ _)); all_goals (first | omega | (simp only [size_drewN, World.size_alloc, World.size_setCell, World.size_drew] at *; omega) | (simp; done) | (simp; omega)))⟩
set_option maxHeartbeats 4000000 in
theorem l03Step_neg (p : Nat) (W H : Int) (A : Option Addr) (c : Nat) (zs : List Int) (x y dy : Int) (w : World) (B : Nat) (hB : B ≤ w.heap.size) (hpp : PanP w p W H (.slice A zs.length c)) (hz : Ints w B A zs) (hl : zs.length ≤ maxLen) (hv : validB W H zs = true) (h : walkB W H x y (-1) dy = true) :
    Calls Try.prog 124 #[.pointer (some ⟨p, 0, none⟩), .agg #[.int .i64 x, .int .i64 y, .int .i64 (-1), .int .i64 dy]] w fun e w' => e = .returned (.agg #[.int .i64 (x + (-1)), .int .i64 (y + dy), .int .i64 (stU W H zs x y (-1) dy), .int .i64 (stV W H zs x y (-1) dy)]) ∧ Below w.heap.size w w' := by
  obtain ⟨h1, h2, h3, h4⟩ := walk_parts h
  clear h1
  have HP0 := hid hpp
  have pz0 := PanP.lt hpp
  clear hpp
  obtain ⟨sW, sH⟩ := valid_sides hv
  obtain ⟨x1, x2, y1, y2⟩ := hasP_bd h3
  obtain ⟨x3, x4, y3, y4⟩ := hasP_bd h4
  obtain ⟨w1, w2⟩ := side_bd sW
  obtain ⟨w3, w4⟩ := side_bd sH
  have HY := hid h2
  have b0 : -1 ≤ dy ∧ dy ≤ 1 := by omega
  obtain ⟨b1, b2⟩ := b0
  have HS := hid (And.intro sW sH)
  have SC := step_cases hv h
  clear h h2 h3 h4 sW sH hv
  unfold maxLen at hl
  rcases SC with ⟨c1, c2, c3⟩ | ⟨c1, c2, c3, c4⟩ | ⟨c1, c2, c3⟩ | ⟨c1, c2, c3, c4⟩ | ⟨⟨i1, i2, i3, i4, i5⟩, k, hk, hkl, hkz, c0 | c0 | c0⟩
  · have ex0 : (x + -1 == 0) = true := by simp; omega
    have ey0 : (y + dy == 0) = false := by simp; omega
    have eyh : (y + dy == 2 * H) = false := by simp; omega
    have HE : Hid (edgeP W H (x + -1) (y + dy) = true) := hid (by simp [edgeP, *])
    have HK : stK W H zs (x + -1) (y + dy) = 0 := by simp [stK, HE.out]
    have HV : Hid (stU W H zs x y (-1) dy = 1 ∧ stV W H zs x y (-1) dy = dy) := hid (by simp [stU, stV, HK, ex0, ey0, eyh])
    clear HK
    clear c1 c2 c3
    go_enter Try.func124, Try.ntmps124
    go_wp2_with fail
    refine (l03Next_any x y (-1) dy _ (by omega) (by omega) (by omega) (by omega) (by omega) (by omega) b1 b2).mono ?_
    rintro e w1 ⟨rfl, hb1⟩
    have KK1 : Hid (Box w1 (w.heap.size) 52 #[.int .i64 x, .int .i64 y, .int .i64 (-1), .int .i64 dy]) := hid (Box.keep (Box.alloc (Box.new' _ _ _ _ (by simp)) _) hb1)
    have KR1 : Hid (Box w1 (w.heap.size + 1) 52 #[.int .i64 0, .int .i64 0, .int .i64 0, .int .i64 0]) := hid (Box.keep (Box.new' _ _ _ _ (by simp)) hb1)
    have KP1 : Hid (Box w1 (p) 30 #[.int .i64 W, .int .i64 H, .slice A zs.length c]) := hid (Box.keep (Box.alloc (Box.alloc (HP0.out) _) _) hb1)
    have HB1 : Hid (Below w.heap.size w w1) := hid (bstep (bal (bal (Below.refl _ _) _) _) hb1)
    clear hb1
    obtain ⟨Ka, Kb, Kc, Kd⟩ := KK1.out.four
    have Kz := KK1.out.lt
    obtain ⟨Ra, Rb, Rc, Rd⟩ := KR1.out.four
    have Rz := KR1.out.lt
    have Rf := KR1.out.free
    obtain ⟨Pa, Pb, Pc⟩ := KP1.out.three
    have Pz := KP1.out.lt
    go_wp2_with fail
    have LK : w.heap.size < w1.heap.size := KK1.out.lt
    have LR : w.heap.size + 1 < w1.heap.size := KR1.out.lt
    have LP : p < w1.heap.size := KP1.out.lt
    have np : ¬ (w1.heap.size + 1 = p) := by omega
    have np2 : ¬ (w.heap.size + 1 = p) := by omega
    have np3 : ¬ (p = w1.heap.size + 1) := by omega
    have np4 : ¬ (p = w.heap.size + 1) := by omega
    have n1 : ¬ (w1.heap.size = w.heap.size + 1) := by omega
    have n2 : ¬ (w.heap.size + 1 = w1.heap.size) := by omega
    have n3 : ¬ (w1.heap.size = w.heap.size) := by omega
    have n4 : ¬ (w.heap.size = w1.heap.size) := by omega
    clear Ka Kb Kc Kd Kz Ra Rb Rc Rd Rz Rf Pa Pb Pc Pz
    obtain ⟨w2, hw2⟩ : ∃ zz : World, zz = ((w1.alloc (.cells #[.int .i64 (x + -1), .int .i64 (y + dy)] 32)).alloc (.cells #[.int .i64 (x + -1), .int .i64 (y + dy), .int .i64 (-1), .int .i64 dy] 52)) := ⟨_, rfl⟩
    rw [← hw2]
    have KK2 : Hid (Box w2 (w.heap.size) 52 #[.int .i64 x, .int .i64 y, .int .i64 (-1), .int .i64 dy]) := by rw [hw2]; exact hid (Box.alloc (Box.alloc (KK1.out) _) _)
    have KR2 : Hid (Box w2 (w.heap.size + 1) 52 #[.int .i64 0, .int .i64 0, .int .i64 0, .int .i64 0]) := by rw [hw2]; exact hid (Box.alloc (Box.alloc (KR1.out) _) _)
    have KP2 : Hid (Box w2 (p) 30 #[.int .i64 W, .int .i64 H, .slice A zs.length c]) := by rw [hw2]; exact hid (Box.alloc (Box.alloc (KP1.out) _) _)
    have KQ2 : Hid (Box w2 (w1.heap.size) 32 #[.int .i64 (x + -1), .int .i64 (y + dy)]) := by rw [hw2]; exact hid (Box.alloc (Box.new' _ _ _ _ (by simp)) _)
    have KO2 : Hid (Box w2 (w1.heap.size + 1) 52 #[.int .i64 (x + -1), .int .i64 (y + dy), .int .i64 (-1), .int .i64 dy]) := by rw [hw2]; exact hid (Box.new' _ _ _ _ (by simp))
    have HB2 : Hid (Below w.heap.size w w2) := by rw [hw2]; exact hid (bal (bal (HB1.out) _) _)
    clear hw2
    obtain ⟨Ka, Kb, Kc, Kd⟩ := KK2.out.four
    have Kz := KK2.out.lt
    obtain ⟨Ra, Rb, Rc, Rd⟩ := KR2.out.four
    have Rz := KR2.out.lt
    have Rf := KR2.out.free
    obtain ⟨Pa, Pb, Pc⟩ := KP2.out.three
    have Pz := KP2.out.lt
    obtain ⟨Qa, Qb⟩ := KQ2.out.two
    have Qz := KQ2.out.lt
    obtain ⟨Oa, Ob, Oc, Od⟩ := KO2.out.four
    have Oz := KO2.out.lt
    have Of := KO2.out.free
    refine wp_region_mix (w2.heap.size) (by kernel_rfl) (by kernel_rfl) ?_
    repeat (any_goals (go_big_quiet_step (fail)))
    refine wpQuiet_nil ?_
    intro w3 hx3
    have hb3 : Below _ _ w3 := mix_ex hx3
    clear hx3
    clear Ka Kb Kc Kd Kz Ra Rb Rc Rd Rz Rf Pa Pb Pc Pz Qa Qb Qz Oa Ob Oc Od Oz Of
    have KK3 : Hid (Box w3 (w.heap.size) 52 #[.int .i64 x, .int .i64 y, .int .i64 (-1), .int .i64 dy]) := hid (Box.keep (KK2.out) hb3)
    have KR3 : Hid (Box w3 (w.heap.size + 1) 52 #[.int .i64 0, .int .i64 0, .int .i64 0, .int .i64 0]) := hid (Box.keep (KR2.out) hb3)
    have KP3 : Hid (Box w3 (p) 30 #[.int .i64 W, .int .i64 H, .slice A zs.length c]) := hid (Box.keep (KP2.out) hb3)
    have KQ3 : Hid (Box w3 (w1.heap.size) 32 #[.int .i64 (x + -1), .int .i64 (y + dy)]) := hid (Box.keep (KQ2.out) hb3)
    have KO3 : Hid (Box w3 (w1.heap.size + 1) 52 #[.int .i64 (x + -1), .int .i64 (y + dy), .int .i64 (-1), .int .i64 dy]) := hid (Box.keep (KO2.out) hb3)
    have HB3 : Hid (Below w.heap.size w w3) := hid (bstep (HB2.out) hb3)
    clear hb3
    obtain ⟨Ka, Kb, Kc, Kd⟩ := KK3.out.four
    have Kz := KK3.out.lt
    obtain ⟨Ra, Rb, Rc, Rd⟩ := KR3.out.four
    have Rz := KR3.out.lt
    have Rf := KR3.out.free
    obtain ⟨Pa, Pb, Pc⟩ := KP3.out.three
    have Pz := KP3.out.lt
    obtain ⟨Qa, Qb⟩ := KQ3.out.two
    have Qz := KQ3.out.lt
    obtain ⟨Oa, Ob, Oc, Od⟩ := KO3.out.four
    have Oz := KO3.out.lt
    have Of := KO3.out.free
    go_wp2_with fail
    clear Ka Kb Kc Kd Kz Ra Rb Rc Rd Rz Rf Pa Pb Pc Pz Qa Qb Qz Oa Ob Oc Od Oz Of
    obtain ⟨w4, hw4⟩ : ∃ zz : World, zz = (w3.setCell ⟨w1.heap.size + 1, 2, none⟩ (.int .i64 1)) := ⟨_, rfl⟩
    rw [← hw4]
    have KK4 : Hid (Box w4 (w.heap.size) 52 #[.int .i64 x, .int .i64 y, .int .i64 (-1), .int .i64 dy]) := by rw [hw4]; exact hid (Box.set (KK3.out) (by simp <;> omega) _)
    have KR4 : Hid (Box w4 (w.heap.size + 1) 52 #[.int .i64 0, .int .i64 0, .int .i64 0, .int .i64 0]) := by rw [hw4]; exact hid (Box.set (KR3.out) (by simp <;> omega) _)
    have KP4 : Hid (Box w4 (p) 30 #[.int .i64 W, .int .i64 H, .slice A zs.length c]) := by rw [hw4]; exact hid (Box.set (KP3.out) (by simp <;> omega) _)
    have KQ4 : Hid (Box w4 (w1.heap.size) 32 #[.int .i64 (x + -1), .int .i64 (y + dy)]) := by rw [hw4]; exact hid (Box.set (KQ3.out) (by simp <;> omega) _)
    have KO4 : Hid (Box w4 (w1.heap.size + 1) 52 #[.int .i64 (x + -1), .int .i64 (y + dy), .int .i64 1, .int .i64 dy]) := by rw [hw4]; exact hid (Box.put (KO3.out) 2 _)
    have HB4 : Hid (Below w.heap.size w w4) := by rw [hw4]; exact hid (Below.setCell (HB3.out) (by simp <;> omega) _)
    clear hw4
    obtain ⟨Ka, Kb, Kc, Kd⟩ := KK4.out.four
    have Kz := KK4.out.lt
    obtain ⟨Ra, Rb, Rc, Rd⟩ := KR4.out.four
    have Rz := KR4.out.lt
    have Rf := KR4.out.free
    obtain ⟨Pa, Pb, Pc⟩ := KP4.out.three
    have Pz := KP4.out.lt
    obtain ⟨Qa, Qb⟩ := KQ4.out.two
    have Qz := KQ4.out.lt
    obtain ⟨Oa, Ob, Oc, Od⟩ := KO4.out.four
    have Oz := KO4.out.lt
    have Of := KO4.out.free
    refine wp_region_mix (w4.heap.size) (by kernel_rfl) (by kernel_rfl) ?_
    repeat (any_goals (go_big_quiet_step (fail)))
    refine wpQuiet_nil ?_
    intro w5 hx5
    have hb5 : Below _ _ w5 := mix_ex hx5
    clear hx5
    clear Ka Kb Kc Kd Kz Ra Rb Rc Rd Rz Rf Pa Pb Pc Pz Qa Qb Qz Oa Ob Oc Od Oz Of
    have KK5 : Hid (Box w5 (w.heap.size) 52 #[.int .i64 x, .int .i64 y, .int .i64 (-1), .int .i64 dy]) := hid (Box.keep (KK4.out) hb5)
    have KR5 : Hid (Box w5 (w.heap.size + 1) 52 #[.int .i64 0, .int .i64 0, .int .i64 0, .int .i64 0]) := hid (Box.keep (KR4.out) hb5)
    have KP5 : Hid (Box w5 (p) 30 #[.int .i64 W, .int .i64 H, .slice A zs.length c]) := hid (Box.keep (KP4.out) hb5)
    have KQ5 : Hid (Box w5 (w1.heap.size) 32 #[.int .i64 (x + -1), .int .i64 (y + dy)]) := hid (Box.keep (KQ4.out) hb5)
    have KO5 : Hid (Box w5 (w1.heap.size + 1) 52 #[.int .i64 (x + -1), .int .i64 (y + dy), .int .i64 1, .int .i64 dy]) := hid (Box.keep (KO4.out) hb5)
    have HB5 : Hid (Below w.heap.size w w5) := hid (bstep (HB4.out) hb5)
    clear hb5
    obtain ⟨Ka, Kb, Kc, Kd⟩ := KK5.out.four
    have Kz := KK5.out.lt
    obtain ⟨Ra, Rb, Rc, Rd⟩ := KR5.out.four
    have Rz := KR5.out.lt
    have Rf := KR5.out.free
    obtain ⟨Pa, Pb, Pc⟩ := KP5.out.three
    have Pz := KP5.out.lt
    obtain ⟨Qa, Qb⟩ := KQ5.out.two
    have Qz := KQ5.out.lt
    obtain ⟨Oa, Ob, Oc, Od⟩ := KO5.out.four
    have Oz := KO5.out.lt
    have Of := KO5.out.free
    go_wp2_with fail
    refine (calls_bool (l02Edge_any _ W H (x + -1) (y + dy) _ _ (KP5.out) HS.out.1 HS.out.2) HE.out).mono ?_
    rintro e w6 ⟨rfl, hb6⟩
    clear Ka Kb Kc Kd Kz Ra Rb Rc Rd Rz Rf Pa Pb Pc Pz Qa Qb Qz Oa Ob Oc Od Oz Of
    have KK6 : Hid (Box w6 (w.heap.size) 52 #[.int .i64 x, .int .i64 y, .int .i64 (-1), .int .i64 dy]) := hid (Box.keep (KK5.out) hb6)
    have KR6 : Hid (Box w6 (w.heap.size + 1) 52 #[.int .i64 0, .int .i64 0, .int .i64 0, .int .i64 0]) := hid (Box.keep (KR5.out) hb6)
    have KP6 : Hid (Box w6 (p) 30 #[.int .i64 W, .int .i64 H, .slice A zs.length c]) := hid (Box.keep (KP5.out) hb6)
    have KQ6 : Hid (Box w6 (w1.heap.size) 32 #[.int .i64 (x + -1), .int .i64 (y + dy)]) := hid (Box.keep (KQ5.out) hb6)
    have KO6 : Hid (Box w6 (w1.heap.size + 1) 52 #[.int .i64 (x + -1), .int .i64 (y + dy), .int .i64 1, .int .i64 dy]) := hid (Box.keep (KO5.out) hb6)
    have HB6 : Hid (Below w.heap.size w w6) := hid (bstep (HB5.out) hb6)
    clear hb6
    obtain ⟨Ka, Kb, Kc, Kd⟩ := KK6.out.four
    have Kz := KK6.out.lt
    obtain ⟨Ra, Rb, Rc, Rd⟩ := KR6.out.four
    have Rz := KR6.out.lt
    have Rf := KR6.out.free
    obtain ⟨Pa, Pb, Pc⟩ := KP6.out.three
    have Pz := KP6.out.lt
    obtain ⟨Qa, Qb⟩ := KQ6.out.two
    have Qz := KQ6.out.lt
    obtain ⟨Oa, Ob, Oc, Od⟩ := KO6.out.four
    have Oz := KO6.out.lt
    have Of := KO6.out.free
    go_wp2_with fail
    have hbE := (HB6.out)
    refine bodyPost_ret (v := .agg #[.int .i64 (x + -1), .int .i64 (y + dy), .int .i64 1, .int .i64 (dy)]) (by simp [results, Try.results124, go_sem, *]) rfl ⟨ret_w4 rfl rfl HV.out.1.symm HV.out.2.symm, (by (repeat (with_reducible first | exact Below.refl _ _ | assumption | refine below_drewN ?_ _ | refine Below.drew ?_ | refine Below.alloc ?_ ?_ _ | refine Below.setCell ?_ ?_ _)); all_goals (first | omega | (simp only [size_drewN, World.size_alloc, World.size_setCell, World.size_drew] at *; omega) | (simp; done) | (simp; omega)))⟩
  · have ex0 : (x + -1 == 0) = false := by simp; omega
    have exw : (x + -1 == 2 * W) = true := by simp; omega
    have ey0 : (y + dy == 0) = false := by simp; omega
    have eyh : (y + dy == 2 * H) = false := by simp; omega
    have HE : Hid (edgeP W H (x + -1) (y + dy) = true) := hid (by simp [edgeP, *])
    have HK : stK W H zs (x + -1) (y + dy) = 0 := by simp [stK, HE.out]
    have HV : Hid (stU W H zs x y (-1) dy = 1 ∧ stV W H zs x y (-1) dy = dy) := hid (by simp [stU, stV, HK, ex0, ey0, exw, eyh])
    clear HK
    clear c1 c2 c3 c4
    go_enter Try.func124, Try.ntmps124
    go_wp2_with fail
    refine (l03Next_any x y (-1) dy _ (by omega) (by omega) (by omega) (by omega) (by omega) (by omega) b1 b2).mono ?_
    rintro e w1 ⟨rfl, hb1⟩
    have KK1 : Hid (Box w1 (w.heap.size) 52 #[.int .i64 x, .int .i64 y, .int .i64 (-1), .int .i64 dy]) := hid (Box.keep (Box.alloc (Box.new' _ _ _ _ (by simp)) _) hb1)
    have KR1 : Hid (Box w1 (w.heap.size + 1) 52 #[.int .i64 0, .int .i64 0, .int .i64 0, .int .i64 0]) := hid (Box.keep (Box.new' _ _ _ _ (by simp)) hb1)
    have KP1 : Hid (Box w1 (p) 30 #[.int .i64 W, .int .i64 H, .slice A zs.length c]) := hid (Box.keep (Box.alloc (Box.alloc (HP0.out) _) _) hb1)
    have HB1 : Hid (Below w.heap.size w w1) := hid (bstep (bal (bal (Below.refl _ _) _) _) hb1)
    clear hb1
    obtain ⟨Ka, Kb, Kc, Kd⟩ := KK1.out.four
    have Kz := KK1.out.lt
    obtain ⟨Ra, Rb, Rc, Rd⟩ := KR1.out.four
    have Rz := KR1.out.lt
    have Rf := KR1.out.free
    obtain ⟨Pa, Pb, Pc⟩ := KP1.out.three
    have Pz := KP1.out.lt
    go_wp2_with fail
    have LK : w.heap.size < w1.heap.size := KK1.out.lt
    have LR : w.heap.size + 1 < w1.heap.size := KR1.out.lt
    have LP : p < w1.heap.size := KP1.out.lt
    have np : ¬ (w1.heap.size + 1 = p) := by omega
    have np2 : ¬ (w.heap.size + 1 = p) := by omega
    have np3 : ¬ (p = w1.heap.size + 1) := by omega
    have np4 : ¬ (p = w.heap.size + 1) := by omega
    have n1 : ¬ (w1.heap.size = w.heap.size + 1) := by omega
    have n2 : ¬ (w.heap.size + 1 = w1.heap.size) := by omega
    have n3 : ¬ (w1.heap.size = w.heap.size) := by omega
    have n4 : ¬ (w.heap.size = w1.heap.size) := by omega
    clear Ka Kb Kc Kd Kz Ra Rb Rc Rd Rz Rf Pa Pb Pc Pz
    obtain ⟨w2, hw2⟩ : ∃ zz : World, zz = ((w1.alloc (.cells #[.int .i64 (x + -1), .int .i64 (y + dy)] 32)).alloc (.cells #[.int .i64 (x + -1), .int .i64 (y + dy), .int .i64 (-1), .int .i64 dy] 52)) := ⟨_, rfl⟩
    rw [← hw2]
    have KK2 : Hid (Box w2 (w.heap.size) 52 #[.int .i64 x, .int .i64 y, .int .i64 (-1), .int .i64 dy]) := by rw [hw2]; exact hid (Box.alloc (Box.alloc (KK1.out) _) _)
    have KR2 : Hid (Box w2 (w.heap.size + 1) 52 #[.int .i64 0, .int .i64 0, .int .i64 0, .int .i64 0]) := by rw [hw2]; exact hid (Box.alloc (Box.alloc (KR1.out) _) _)
    have KP2 : Hid (Box w2 (p) 30 #[.int .i64 W, .int .i64 H, .slice A zs.length c]) := by rw [hw2]; exact hid (Box.alloc (Box.alloc (KP1.out) _) _)
    have KQ2 : Hid (Box w2 (w1.heap.size) 32 #[.int .i64 (x + -1), .int .i64 (y + dy)]) := by rw [hw2]; exact hid (Box.alloc (Box.new' _ _ _ _ (by simp)) _)
    have KO2 : Hid (Box w2 (w1.heap.size + 1) 52 #[.int .i64 (x + -1), .int .i64 (y + dy), .int .i64 (-1), .int .i64 dy]) := by rw [hw2]; exact hid (Box.new' _ _ _ _ (by simp))
    have HB2 : Hid (Below w.heap.size w w2) := by rw [hw2]; exact hid (bal (bal (HB1.out) _) _)
    clear hw2
    obtain ⟨Ka, Kb, Kc, Kd⟩ := KK2.out.four
    have Kz := KK2.out.lt
    obtain ⟨Ra, Rb, Rc, Rd⟩ := KR2.out.four
    have Rz := KR2.out.lt
    have Rf := KR2.out.free
    obtain ⟨Pa, Pb, Pc⟩ := KP2.out.three
    have Pz := KP2.out.lt
    obtain ⟨Qa, Qb⟩ := KQ2.out.two
    have Qz := KQ2.out.lt
    obtain ⟨Oa, Ob, Oc, Od⟩ := KO2.out.four
    have Oz := KO2.out.lt
    have Of := KO2.out.free
    refine wp_region_mix (w2.heap.size) (by kernel_rfl) (by kernel_rfl) ?_
    repeat (any_goals (go_big_quiet_step (fail)))
    refine wpQuiet_nil ?_
    intro w3 hx3
    have hb3 : Below _ _ w3 := mix_ex hx3
    clear hx3
    clear Ka Kb Kc Kd Kz Ra Rb Rc Rd Rz Rf Pa Pb Pc Pz Qa Qb Qz Oa Ob Oc Od Oz Of
    have KK3 : Hid (Box w3 (w.heap.size) 52 #[.int .i64 x, .int .i64 y, .int .i64 (-1), .int .i64 dy]) := hid (Box.keep (KK2.out) hb3)
    have KR3 : Hid (Box w3 (w.heap.size + 1) 52 #[.int .i64 0, .int .i64 0, .int .i64 0, .int .i64 0]) := hid (Box.keep (KR2.out) hb3)
    have KP3 : Hid (Box w3 (p) 30 #[.int .i64 W, .int .i64 H, .slice A zs.length c]) := hid (Box.keep (KP2.out) hb3)
    have KQ3 : Hid (Box w3 (w1.heap.size) 32 #[.int .i64 (x + -1), .int .i64 (y + dy)]) := hid (Box.keep (KQ2.out) hb3)
    have KO3 : Hid (Box w3 (w1.heap.size + 1) 52 #[.int .i64 (x + -1), .int .i64 (y + dy), .int .i64 (-1), .int .i64 dy]) := hid (Box.keep (KO2.out) hb3)
    have HB3 : Hid (Below w.heap.size w w3) := hid (bstep (HB2.out) hb3)
    clear hb3
    obtain ⟨Ka, Kb, Kc, Kd⟩ := KK3.out.four
    have Kz := KK3.out.lt
    obtain ⟨Ra, Rb, Rc, Rd⟩ := KR3.out.four
    have Rz := KR3.out.lt
    have Rf := KR3.out.free
    obtain ⟨Pa, Pb, Pc⟩ := KP3.out.three
    have Pz := KP3.out.lt
    obtain ⟨Qa, Qb⟩ := KQ3.out.two
    have Qz := KQ3.out.lt
    obtain ⟨Oa, Ob, Oc, Od⟩ := KO3.out.four
    have Oz := KO3.out.lt
    have Of := KO3.out.free
    go_wp2_with fail
    clear Ka Kb Kc Kd Kz Ra Rb Rc Rd Rz Rf Pa Pb Pc Pz Qa Qb Qz Oa Ob Oc Od Oz Of
    obtain ⟨w4, hw4⟩ : ∃ zz : World, zz = (w3.setCell ⟨w1.heap.size + 1, 2, none⟩ (.int .i64 1)) := ⟨_, rfl⟩
    rw [← hw4]
    have KK4 : Hid (Box w4 (w.heap.size) 52 #[.int .i64 x, .int .i64 y, .int .i64 (-1), .int .i64 dy]) := by rw [hw4]; exact hid (Box.set (KK3.out) (by simp <;> omega) _)
    have KR4 : Hid (Box w4 (w.heap.size + 1) 52 #[.int .i64 0, .int .i64 0, .int .i64 0, .int .i64 0]) := by rw [hw4]; exact hid (Box.set (KR3.out) (by simp <;> omega) _)
    have KP4 : Hid (Box w4 (p) 30 #[.int .i64 W, .int .i64 H, .slice A zs.length c]) := by rw [hw4]; exact hid (Box.set (KP3.out) (by simp <;> omega) _)
    have KQ4 : Hid (Box w4 (w1.heap.size) 32 #[.int .i64 (x + -1), .int .i64 (y + dy)]) := by rw [hw4]; exact hid (Box.set (KQ3.out) (by simp <;> omega) _)
    have KO4 : Hid (Box w4 (w1.heap.size + 1) 52 #[.int .i64 (x + -1), .int .i64 (y + dy), .int .i64 1, .int .i64 dy]) := by rw [hw4]; exact hid (Box.put (KO3.out) 2 _)
    have HB4 : Hid (Below w.heap.size w w4) := by rw [hw4]; exact hid (Below.setCell (HB3.out) (by simp <;> omega) _)
    clear hw4
    obtain ⟨Ka, Kb, Kc, Kd⟩ := KK4.out.four
    have Kz := KK4.out.lt
    obtain ⟨Ra, Rb, Rc, Rd⟩ := KR4.out.four
    have Rz := KR4.out.lt
    have Rf := KR4.out.free
    obtain ⟨Pa, Pb, Pc⟩ := KP4.out.three
    have Pz := KP4.out.lt
    obtain ⟨Qa, Qb⟩ := KQ4.out.two
    have Qz := KQ4.out.lt
    obtain ⟨Oa, Ob, Oc, Od⟩ := KO4.out.four
    have Oz := KO4.out.lt
    have Of := KO4.out.free
    refine wp_region_mix (w4.heap.size) (by kernel_rfl) (by kernel_rfl) ?_
    repeat (any_goals (go_big_quiet_step (fail)))
    refine wpQuiet_nil ?_
    intro w5 hx5
    have hb5 : Below _ _ w5 := mix_ex hx5
    clear hx5
    clear Ka Kb Kc Kd Kz Ra Rb Rc Rd Rz Rf Pa Pb Pc Pz Qa Qb Qz Oa Ob Oc Od Oz Of
    have KK5 : Hid (Box w5 (w.heap.size) 52 #[.int .i64 x, .int .i64 y, .int .i64 (-1), .int .i64 dy]) := hid (Box.keep (KK4.out) hb5)
    have KR5 : Hid (Box w5 (w.heap.size + 1) 52 #[.int .i64 0, .int .i64 0, .int .i64 0, .int .i64 0]) := hid (Box.keep (KR4.out) hb5)
    have KP5 : Hid (Box w5 (p) 30 #[.int .i64 W, .int .i64 H, .slice A zs.length c]) := hid (Box.keep (KP4.out) hb5)
    have KQ5 : Hid (Box w5 (w1.heap.size) 32 #[.int .i64 (x + -1), .int .i64 (y + dy)]) := hid (Box.keep (KQ4.out) hb5)
    have KO5 : Hid (Box w5 (w1.heap.size + 1) 52 #[.int .i64 (x + -1), .int .i64 (y + dy), .int .i64 1, .int .i64 dy]) := hid (Box.keep (KO4.out) hb5)
    have HB5 : Hid (Below w.heap.size w w5) := hid (bstep (HB4.out) hb5)
    clear hb5
    obtain ⟨Ka, Kb, Kc, Kd⟩ := KK5.out.four
    have Kz := KK5.out.lt
    obtain ⟨Ra, Rb, Rc, Rd⟩ := KR5.out.four
    have Rz := KR5.out.lt
    have Rf := KR5.out.free
    obtain ⟨Pa, Pb, Pc⟩ := KP5.out.three
    have Pz := KP5.out.lt
    obtain ⟨Qa, Qb⟩ := KQ5.out.two
    have Qz := KQ5.out.lt
    obtain ⟨Oa, Ob, Oc, Od⟩ := KO5.out.four
    have Oz := KO5.out.lt
    have Of := KO5.out.free
    go_wp2_with fail
    refine (calls_bool (l02Edge_any _ W H (x + -1) (y + dy) _ _ (KP5.out) HS.out.1 HS.out.2) HE.out).mono ?_
    rintro e w6 ⟨rfl, hb6⟩
    clear Ka Kb Kc Kd Kz Ra Rb Rc Rd Rz Rf Pa Pb Pc Pz Qa Qb Qz Oa Ob Oc Od Oz Of
    have KK6 : Hid (Box w6 (w.heap.size) 52 #[.int .i64 x, .int .i64 y, .int .i64 (-1), .int .i64 dy]) := hid (Box.keep (KK5.out) hb6)
    have KR6 : Hid (Box w6 (w.heap.size + 1) 52 #[.int .i64 0, .int .i64 0, .int .i64 0, .int .i64 0]) := hid (Box.keep (KR5.out) hb6)
    have KP6 : Hid (Box w6 (p) 30 #[.int .i64 W, .int .i64 H, .slice A zs.length c]) := hid (Box.keep (KP5.out) hb6)
    have KQ6 : Hid (Box w6 (w1.heap.size) 32 #[.int .i64 (x + -1), .int .i64 (y + dy)]) := hid (Box.keep (KQ5.out) hb6)
    have KO6 : Hid (Box w6 (w1.heap.size + 1) 52 #[.int .i64 (x + -1), .int .i64 (y + dy), .int .i64 1, .int .i64 dy]) := hid (Box.keep (KO5.out) hb6)
    have HB6 : Hid (Below w.heap.size w w6) := hid (bstep (HB5.out) hb6)
    clear hb6
    obtain ⟨Ka, Kb, Kc, Kd⟩ := KK6.out.four
    have Kz := KK6.out.lt
    obtain ⟨Ra, Rb, Rc, Rd⟩ := KR6.out.four
    have Rz := KR6.out.lt
    have Rf := KR6.out.free
    obtain ⟨Pa, Pb, Pc⟩ := KP6.out.three
    have Pz := KP6.out.lt
    obtain ⟨Qa, Qb⟩ := KQ6.out.two
    have Qz := KQ6.out.lt
    obtain ⟨Oa, Ob, Oc, Od⟩ := KO6.out.four
    have Oz := KO6.out.lt
    have Of := KO6.out.free
    go_wp2_with fail
    have hbE := (HB6.out)
    refine bodyPost_ret (v := .agg #[.int .i64 (x + -1), .int .i64 (y + dy), .int .i64 1, .int .i64 (dy)]) (by simp [results, Try.results124, go_sem, *]) rfl ⟨ret_w4 rfl rfl HV.out.1.symm HV.out.2.symm, (by (repeat (with_reducible first | exact Below.refl _ _ | assumption | refine below_drewN ?_ _ | refine Below.drew ?_ | refine Below.alloc ?_ ?_ _ | refine Below.setCell ?_ ?_ _)); all_goals (first | omega | (simp only [size_drewN, World.size_alloc, World.size_setCell, World.size_drew] at *; omega) | (simp; done) | (simp; omega)))⟩
  · have ex0 : (x + -1 == 0) = false := by simp; omega
    have exw : (x + -1 == 2 * W) = false := by simp; omega
    have ey0 : (y + dy == 0) = true := by simp; omega
    have HE : Hid (edgeP W H (x + -1) (y + dy) = true) := hid (by simp [edgeP, *])
    have HK : stK W H zs (x + -1) (y + dy) = 0 := by simp [stK, HE.out]
    have HV : Hid (stU W H zs x y (-1) dy = (-1) ∧ stV W H zs x y (-1) dy = -dy) := hid (by simp [stU, stV, HK, ex0, ey0, exw])
    clear HK
    have t2 : IntKind.i64.wrap (-dy) = -dy := IntWalk.i64_in _ (by omega)
    have ny := neg_ne HY.out
    have nyp : ¬ (-dy = dy) := by simpa using ny
    clear c1 c2 c3
    go_enter Try.func124, Try.ntmps124
    go_wp2_with fail
    refine (l03Next_any x y (-1) dy _ (by omega) (by omega) (by omega) (by omega) (by omega) (by omega) b1 b2).mono ?_
    rintro e w1 ⟨rfl, hb1⟩
    have KK1 : Hid (Box w1 (w.heap.size) 52 #[.int .i64 x, .int .i64 y, .int .i64 (-1), .int .i64 dy]) := hid (Box.keep (Box.alloc (Box.new' _ _ _ _ (by simp)) _) hb1)
    have KR1 : Hid (Box w1 (w.heap.size + 1) 52 #[.int .i64 0, .int .i64 0, .int .i64 0, .int .i64 0]) := hid (Box.keep (Box.new' _ _ _ _ (by simp)) hb1)
    have KP1 : Hid (Box w1 (p) 30 #[.int .i64 W, .int .i64 H, .slice A zs.length c]) := hid (Box.keep (Box.alloc (Box.alloc (HP0.out) _) _) hb1)
    have HB1 : Hid (Below w.heap.size w w1) := hid (bstep (bal (bal (Below.refl _ _) _) _) hb1)
    clear hb1
    obtain ⟨Ka, Kb, Kc, Kd⟩ := KK1.out.four
    have Kz := KK1.out.lt
    obtain ⟨Ra, Rb, Rc, Rd⟩ := KR1.out.four
    have Rz := KR1.out.lt
    have Rf := KR1.out.free
    obtain ⟨Pa, Pb, Pc⟩ := KP1.out.three
    have Pz := KP1.out.lt
    go_wp2_with fail
    have LK : w.heap.size < w1.heap.size := KK1.out.lt
    have LR : w.heap.size + 1 < w1.heap.size := KR1.out.lt
    have LP : p < w1.heap.size := KP1.out.lt
    have np : ¬ (w1.heap.size + 1 = p) := by omega
    have np2 : ¬ (w.heap.size + 1 = p) := by omega
    have np3 : ¬ (p = w1.heap.size + 1) := by omega
    have np4 : ¬ (p = w.heap.size + 1) := by omega
    have n1 : ¬ (w1.heap.size = w.heap.size + 1) := by omega
    have n2 : ¬ (w.heap.size + 1 = w1.heap.size) := by omega
    have n3 : ¬ (w1.heap.size = w.heap.size) := by omega
    have n4 : ¬ (w.heap.size = w1.heap.size) := by omega
    clear Ka Kb Kc Kd Kz Ra Rb Rc Rd Rz Rf Pa Pb Pc Pz
    obtain ⟨w2, hw2⟩ : ∃ zz : World, zz = ((w1.alloc (.cells #[.int .i64 (x + -1), .int .i64 (y + dy)] 32)).alloc (.cells #[.int .i64 (x + -1), .int .i64 (y + dy), .int .i64 (-1), .int .i64 dy] 52)) := ⟨_, rfl⟩
    rw [← hw2]
    have KK2 : Hid (Box w2 (w.heap.size) 52 #[.int .i64 x, .int .i64 y, .int .i64 (-1), .int .i64 dy]) := by rw [hw2]; exact hid (Box.alloc (Box.alloc (KK1.out) _) _)
    have KR2 : Hid (Box w2 (w.heap.size + 1) 52 #[.int .i64 0, .int .i64 0, .int .i64 0, .int .i64 0]) := by rw [hw2]; exact hid (Box.alloc (Box.alloc (KR1.out) _) _)
    have KP2 : Hid (Box w2 (p) 30 #[.int .i64 W, .int .i64 H, .slice A zs.length c]) := by rw [hw2]; exact hid (Box.alloc (Box.alloc (KP1.out) _) _)
    have KQ2 : Hid (Box w2 (w1.heap.size) 32 #[.int .i64 (x + -1), .int .i64 (y + dy)]) := by rw [hw2]; exact hid (Box.alloc (Box.new' _ _ _ _ (by simp)) _)
    have KO2 : Hid (Box w2 (w1.heap.size + 1) 52 #[.int .i64 (x + -1), .int .i64 (y + dy), .int .i64 (-1), .int .i64 dy]) := by rw [hw2]; exact hid (Box.new' _ _ _ _ (by simp))
    have HB2 : Hid (Below w.heap.size w w2) := by rw [hw2]; exact hid (bal (bal (HB1.out) _) _)
    clear hw2
    obtain ⟨Ka, Kb, Kc, Kd⟩ := KK2.out.four
    have Kz := KK2.out.lt
    obtain ⟨Ra, Rb, Rc, Rd⟩ := KR2.out.four
    have Rz := KR2.out.lt
    have Rf := KR2.out.free
    obtain ⟨Pa, Pb, Pc⟩ := KP2.out.three
    have Pz := KP2.out.lt
    obtain ⟨Qa, Qb⟩ := KQ2.out.two
    have Qz := KQ2.out.lt
    obtain ⟨Oa, Ob, Oc, Od⟩ := KO2.out.four
    have Oz := KO2.out.lt
    have Of := KO2.out.free
    refine wp_region_mix (w2.heap.size) (by kernel_rfl) (by kernel_rfl) ?_
    repeat (any_goals (go_big_quiet_step (fail)))
    refine wpQuiet_nil ?_
    intro w3 hx3
    have hb3 : Below _ _ w3 := mix_ex hx3
    clear hx3
    clear Ka Kb Kc Kd Kz Ra Rb Rc Rd Rz Rf Pa Pb Pc Pz Qa Qb Qz Oa Ob Oc Od Oz Of
    have KK3 : Hid (Box w3 (w.heap.size) 52 #[.int .i64 x, .int .i64 y, .int .i64 (-1), .int .i64 dy]) := hid (Box.keep (KK2.out) hb3)
    have KR3 : Hid (Box w3 (w.heap.size + 1) 52 #[.int .i64 0, .int .i64 0, .int .i64 0, .int .i64 0]) := hid (Box.keep (KR2.out) hb3)
    have KP3 : Hid (Box w3 (p) 30 #[.int .i64 W, .int .i64 H, .slice A zs.length c]) := hid (Box.keep (KP2.out) hb3)
    have KQ3 : Hid (Box w3 (w1.heap.size) 32 #[.int .i64 (x + -1), .int .i64 (y + dy)]) := hid (Box.keep (KQ2.out) hb3)
    have KO3 : Hid (Box w3 (w1.heap.size + 1) 52 #[.int .i64 (x + -1), .int .i64 (y + dy), .int .i64 (-1), .int .i64 dy]) := hid (Box.keep (KO2.out) hb3)
    have HB3 : Hid (Below w.heap.size w w3) := hid (bstep (HB2.out) hb3)
    clear hb3
    obtain ⟨Ka, Kb, Kc, Kd⟩ := KK3.out.four
    have Kz := KK3.out.lt
    obtain ⟨Ra, Rb, Rc, Rd⟩ := KR3.out.four
    have Rz := KR3.out.lt
    have Rf := KR3.out.free
    obtain ⟨Pa, Pb, Pc⟩ := KP3.out.three
    have Pz := KP3.out.lt
    obtain ⟨Qa, Qb⟩ := KQ3.out.two
    have Qz := KQ3.out.lt
    obtain ⟨Oa, Ob, Oc, Od⟩ := KO3.out.four
    have Oz := KO3.out.lt
    have Of := KO3.out.free
    go_wp2_with fail
    refine wp_region_mix (w3.heap.size) (by kernel_rfl) (by kernel_rfl) ?_
    repeat (any_goals (go_big_quiet_step (fail)))
    refine wpQuiet_nil ?_
    intro w4 hx4
    have hb4 : Below _ _ w4 := mix_ex hx4
    clear hx4
    clear Ka Kb Kc Kd Kz Ra Rb Rc Rd Rz Rf Pa Pb Pc Pz Qa Qb Qz Oa Ob Oc Od Oz Of
    have KK4 : Hid (Box w4 (w.heap.size) 52 #[.int .i64 x, .int .i64 y, .int .i64 (-1), .int .i64 dy]) := hid (Box.keep (KK3.out) hb4)
    have KR4 : Hid (Box w4 (w.heap.size + 1) 52 #[.int .i64 0, .int .i64 0, .int .i64 0, .int .i64 0]) := hid (Box.keep (KR3.out) hb4)
    have KP4 : Hid (Box w4 (p) 30 #[.int .i64 W, .int .i64 H, .slice A zs.length c]) := hid (Box.keep (KP3.out) hb4)
    have KQ4 : Hid (Box w4 (w1.heap.size) 32 #[.int .i64 (x + -1), .int .i64 (y + dy)]) := hid (Box.keep (KQ3.out) hb4)
    have KO4 : Hid (Box w4 (w1.heap.size + 1) 52 #[.int .i64 (x + -1), .int .i64 (y + dy), .int .i64 (-1), .int .i64 dy]) := hid (Box.keep (KO3.out) hb4)
    have HB4 : Hid (Below w.heap.size w w4) := hid (bstep (HB3.out) hb4)
    clear hb4
    obtain ⟨Ka, Kb, Kc, Kd⟩ := KK4.out.four
    have Kz := KK4.out.lt
    obtain ⟨Ra, Rb, Rc, Rd⟩ := KR4.out.four
    have Rz := KR4.out.lt
    have Rf := KR4.out.free
    obtain ⟨Pa, Pb, Pc⟩ := KP4.out.three
    have Pz := KP4.out.lt
    obtain ⟨Qa, Qb⟩ := KQ4.out.two
    have Qz := KQ4.out.lt
    obtain ⟨Oa, Ob, Oc, Od⟩ := KO4.out.four
    have Oz := KO4.out.lt
    have Of := KO4.out.free
    go_wp2_with fail
    clear Ka Kb Kc Kd Kz Ra Rb Rc Rd Rz Rf Pa Pb Pc Pz Qa Qb Qz Oa Ob Oc Od Oz Of
    obtain ⟨w5, hw5⟩ : ∃ zz : World, zz = (w4.setCell ⟨w1.heap.size + 1, 3, none⟩ (.int .i64 (-dy))) := ⟨_, rfl⟩
    rw [← hw5]
    have KK5 : Hid (Box w5 (w.heap.size) 52 #[.int .i64 x, .int .i64 y, .int .i64 (-1), .int .i64 dy]) := by rw [hw5]; exact hid (Box.set (KK4.out) (by simp <;> omega) _)
    have KR5 : Hid (Box w5 (w.heap.size + 1) 52 #[.int .i64 0, .int .i64 0, .int .i64 0, .int .i64 0]) := by rw [hw5]; exact hid (Box.set (KR4.out) (by simp <;> omega) _)
    have KP5 : Hid (Box w5 (p) 30 #[.int .i64 W, .int .i64 H, .slice A zs.length c]) := by rw [hw5]; exact hid (Box.set (KP4.out) (by simp <;> omega) _)
    have KQ5 : Hid (Box w5 (w1.heap.size) 32 #[.int .i64 (x + -1), .int .i64 (y + dy)]) := by rw [hw5]; exact hid (Box.set (KQ4.out) (by simp <;> omega) _)
    have KO5 : Hid (Box w5 (w1.heap.size + 1) 52 #[.int .i64 (x + -1), .int .i64 (y + dy), .int .i64 (-1), .int .i64 (-dy)]) := by rw [hw5]; exact hid (Box.put (KO4.out) 3 _)
    have HB5 : Hid (Below w.heap.size w w5) := by rw [hw5]; exact hid (Below.setCell (HB4.out) (by simp <;> omega) _)
    clear hw5
    obtain ⟨Ka, Kb, Kc, Kd⟩ := KK5.out.four
    have Kz := KK5.out.lt
    obtain ⟨Ra, Rb, Rc, Rd⟩ := KR5.out.four
    have Rz := KR5.out.lt
    have Rf := KR5.out.free
    obtain ⟨Pa, Pb, Pc⟩ := KP5.out.three
    have Pz := KP5.out.lt
    obtain ⟨Qa, Qb⟩ := KQ5.out.two
    have Qz := KQ5.out.lt
    obtain ⟨Oa, Ob, Oc, Od⟩ := KO5.out.four
    have Oz := KO5.out.lt
    have Of := KO5.out.free
    refine (calls_bool (l02Edge_any _ W H (x + -1) (y + dy) _ _ (KP5.out) HS.out.1 HS.out.2) HE.out).mono ?_
    rintro e w6 ⟨rfl, hb6⟩
    clear Ka Kb Kc Kd Kz Ra Rb Rc Rd Rz Rf Pa Pb Pc Pz Qa Qb Qz Oa Ob Oc Od Oz Of
    have KK6 : Hid (Box w6 (w.heap.size) 52 #[.int .i64 x, .int .i64 y, .int .i64 (-1), .int .i64 dy]) := hid (Box.keep (KK5.out) hb6)
    have KR6 : Hid (Box w6 (w.heap.size + 1) 52 #[.int .i64 0, .int .i64 0, .int .i64 0, .int .i64 0]) := hid (Box.keep (KR5.out) hb6)
    have KP6 : Hid (Box w6 (p) 30 #[.int .i64 W, .int .i64 H, .slice A zs.length c]) := hid (Box.keep (KP5.out) hb6)
    have KQ6 : Hid (Box w6 (w1.heap.size) 32 #[.int .i64 (x + -1), .int .i64 (y + dy)]) := hid (Box.keep (KQ5.out) hb6)
    have KO6 : Hid (Box w6 (w1.heap.size + 1) 52 #[.int .i64 (x + -1), .int .i64 (y + dy), .int .i64 (-1), .int .i64 (-dy)]) := hid (Box.keep (KO5.out) hb6)
    have HB6 : Hid (Below w.heap.size w w6) := hid (bstep (HB5.out) hb6)
    clear hb6
    obtain ⟨Ka, Kb, Kc, Kd⟩ := KK6.out.four
    have Kz := KK6.out.lt
    obtain ⟨Ra, Rb, Rc, Rd⟩ := KR6.out.four
    have Rz := KR6.out.lt
    have Rf := KR6.out.free
    obtain ⟨Pa, Pb, Pc⟩ := KP6.out.three
    have Pz := KP6.out.lt
    obtain ⟨Qa, Qb⟩ := KQ6.out.two
    have Qz := KQ6.out.lt
    obtain ⟨Oa, Ob, Oc, Od⟩ := KO6.out.four
    have Oz := KO6.out.lt
    have Of := KO6.out.free
    go_wp2_with fail
    have hbE := (HB6.out)
    refine bodyPost_ret (v := .agg #[.int .i64 (x + -1), .int .i64 (y + dy), .int .i64 (-1), .int .i64 (-dy)]) (by simp [results, Try.results124, go_sem, *]) rfl ⟨ret_w4 rfl rfl HV.out.1.symm HV.out.2.symm, (by (repeat (with_reducible first | exact Below.refl _ _ | assumption | refine below_drewN ?_ _ | refine Below.drew ?_ | refine Below.alloc ?_ ?_ _ | refine Below.setCell ?_ ?_ _)); all_goals (first | omega | (simp only [size_drewN, World.size_alloc, World.size_setCell, World.size_drew] at *; omega) | (simp; done) | (simp; omega)))⟩
  · have ex0 : (x + -1 == 0) = false := by simp; omega
    have exw : (x + -1 == 2 * W) = false := by simp; omega
    have ey0 : (y + dy == 0) = false := by simp; omega
    have eyh : (y + dy == 2 * H) = true := by simp; omega
    have HE : Hid (edgeP W H (x + -1) (y + dy) = true) := hid (by simp [edgeP, *])
    have HK : stK W H zs (x + -1) (y + dy) = 0 := by simp [stK, HE.out]
    have HV : Hid (stU W H zs x y (-1) dy = (-1) ∧ stV W H zs x y (-1) dy = -dy) := hid (by simp [stU, stV, HK, ex0, ey0, exw, eyh])
    clear HK
    have t2 : IntKind.i64.wrap (-dy) = -dy := IntWalk.i64_in _ (by omega)
    have ny := neg_ne HY.out
    have nyp : ¬ (-dy = dy) := by simpa using ny
    clear c1 c2 c3 c4
    go_enter Try.func124, Try.ntmps124
    go_wp2_with fail
    refine (l03Next_any x y (-1) dy _ (by omega) (by omega) (by omega) (by omega) (by omega) (by omega) b1 b2).mono ?_
    rintro e w1 ⟨rfl, hb1⟩
    have KK1 : Hid (Box w1 (w.heap.size) 52 #[.int .i64 x, .int .i64 y, .int .i64 (-1), .int .i64 dy]) := hid (Box.keep (Box.alloc (Box.new' _ _ _ _ (by simp)) _) hb1)
    have KR1 : Hid (Box w1 (w.heap.size + 1) 52 #[.int .i64 0, .int .i64 0, .int .i64 0, .int .i64 0]) := hid (Box.keep (Box.new' _ _ _ _ (by simp)) hb1)
    have KP1 : Hid (Box w1 (p) 30 #[.int .i64 W, .int .i64 H, .slice A zs.length c]) := hid (Box.keep (Box.alloc (Box.alloc (HP0.out) _) _) hb1)
    have HB1 : Hid (Below w.heap.size w w1) := hid (bstep (bal (bal (Below.refl _ _) _) _) hb1)
    clear hb1
    obtain ⟨Ka, Kb, Kc, Kd⟩ := KK1.out.four
    have Kz := KK1.out.lt
    obtain ⟨Ra, Rb, Rc, Rd⟩ := KR1.out.four
    have Rz := KR1.out.lt
    have Rf := KR1.out.free
    obtain ⟨Pa, Pb, Pc⟩ := KP1.out.three
    have Pz := KP1.out.lt
    go_wp2_with fail
    have LK : w.heap.size < w1.heap.size := KK1.out.lt
    have LR : w.heap.size + 1 < w1.heap.size := KR1.out.lt
    have LP : p < w1.heap.size := KP1.out.lt
    have np : ¬ (w1.heap.size + 1 = p) := by omega
    have np2 : ¬ (w.heap.size + 1 = p) := by omega
    have np3 : ¬ (p = w1.heap.size + 1) := by omega
    have np4 : ¬ (p = w.heap.size + 1) := by omega
    have n1 : ¬ (w1.heap.size = w.heap.size + 1) := by omega
    have n2 : ¬ (w.heap.size + 1 = w1.heap.size) := by omega
    have n3 : ¬ (w1.heap.size = w.heap.size) := by omega
    have n4 : ¬ (w.heap.size = w1.heap.size) := by omega
    clear Ka Kb Kc Kd Kz Ra Rb Rc Rd Rz Rf Pa Pb Pc Pz
    obtain ⟨w2, hw2⟩ : ∃ zz : World, zz = ((w1.alloc (.cells #[.int .i64 (x + -1), .int .i64 (y + dy)] 32)).alloc (.cells #[.int .i64 (x + -1), .int .i64 (y + dy), .int .i64 (-1), .int .i64 dy] 52)) := ⟨_, rfl⟩
    rw [← hw2]
    have KK2 : Hid (Box w2 (w.heap.size) 52 #[.int .i64 x, .int .i64 y, .int .i64 (-1), .int .i64 dy]) := by rw [hw2]; exact hid (Box.alloc (Box.alloc (KK1.out) _) _)
    have KR2 : Hid (Box w2 (w.heap.size + 1) 52 #[.int .i64 0, .int .i64 0, .int .i64 0, .int .i64 0]) := by rw [hw2]; exact hid (Box.alloc (Box.alloc (KR1.out) _) _)
    have KP2 : Hid (Box w2 (p) 30 #[.int .i64 W, .int .i64 H, .slice A zs.length c]) := by rw [hw2]; exact hid (Box.alloc (Box.alloc (KP1.out) _) _)
    have KQ2 : Hid (Box w2 (w1.heap.size) 32 #[.int .i64 (x + -1), .int .i64 (y + dy)]) := by rw [hw2]; exact hid (Box.alloc (Box.new' _ _ _ _ (by simp)) _)
    have KO2 : Hid (Box w2 (w1.heap.size + 1) 52 #[.int .i64 (x + -1), .int .i64 (y + dy), .int .i64 (-1), .int .i64 dy]) := by rw [hw2]; exact hid (Box.new' _ _ _ _ (by simp))
    have HB2 : Hid (Below w.heap.size w w2) := by rw [hw2]; exact hid (bal (bal (HB1.out) _) _)
    clear hw2
    obtain ⟨Ka, Kb, Kc, Kd⟩ := KK2.out.four
    have Kz := KK2.out.lt
    obtain ⟨Ra, Rb, Rc, Rd⟩ := KR2.out.four
    have Rz := KR2.out.lt
    have Rf := KR2.out.free
    obtain ⟨Pa, Pb, Pc⟩ := KP2.out.three
    have Pz := KP2.out.lt
    obtain ⟨Qa, Qb⟩ := KQ2.out.two
    have Qz := KQ2.out.lt
    obtain ⟨Oa, Ob, Oc, Od⟩ := KO2.out.four
    have Oz := KO2.out.lt
    have Of := KO2.out.free
    refine wp_region_mix (w2.heap.size) (by kernel_rfl) (by kernel_rfl) ?_
    repeat (any_goals (go_big_quiet_step (fail)))
    refine wpQuiet_nil ?_
    intro w3 hx3
    have hb3 : Below _ _ w3 := mix_ex hx3
    clear hx3
    clear Ka Kb Kc Kd Kz Ra Rb Rc Rd Rz Rf Pa Pb Pc Pz Qa Qb Qz Oa Ob Oc Od Oz Of
    have KK3 : Hid (Box w3 (w.heap.size) 52 #[.int .i64 x, .int .i64 y, .int .i64 (-1), .int .i64 dy]) := hid (Box.keep (KK2.out) hb3)
    have KR3 : Hid (Box w3 (w.heap.size + 1) 52 #[.int .i64 0, .int .i64 0, .int .i64 0, .int .i64 0]) := hid (Box.keep (KR2.out) hb3)
    have KP3 : Hid (Box w3 (p) 30 #[.int .i64 W, .int .i64 H, .slice A zs.length c]) := hid (Box.keep (KP2.out) hb3)
    have KQ3 : Hid (Box w3 (w1.heap.size) 32 #[.int .i64 (x + -1), .int .i64 (y + dy)]) := hid (Box.keep (KQ2.out) hb3)
    have KO3 : Hid (Box w3 (w1.heap.size + 1) 52 #[.int .i64 (x + -1), .int .i64 (y + dy), .int .i64 (-1), .int .i64 dy]) := hid (Box.keep (KO2.out) hb3)
    have HB3 : Hid (Below w.heap.size w w3) := hid (bstep (HB2.out) hb3)
    clear hb3
    obtain ⟨Ka, Kb, Kc, Kd⟩ := KK3.out.four
    have Kz := KK3.out.lt
    obtain ⟨Ra, Rb, Rc, Rd⟩ := KR3.out.four
    have Rz := KR3.out.lt
    have Rf := KR3.out.free
    obtain ⟨Pa, Pb, Pc⟩ := KP3.out.three
    have Pz := KP3.out.lt
    obtain ⟨Qa, Qb⟩ := KQ3.out.two
    have Qz := KQ3.out.lt
    obtain ⟨Oa, Ob, Oc, Od⟩ := KO3.out.four
    have Oz := KO3.out.lt
    have Of := KO3.out.free
    go_wp2_with fail
    refine wp_region_mix (w3.heap.size) (by kernel_rfl) (by kernel_rfl) ?_
    repeat (any_goals (go_big_quiet_step (fail)))
    refine wpQuiet_nil ?_
    intro w4 hx4
    have hb4 : Below _ _ w4 := mix_ex hx4
    clear hx4
    clear Ka Kb Kc Kd Kz Ra Rb Rc Rd Rz Rf Pa Pb Pc Pz Qa Qb Qz Oa Ob Oc Od Oz Of
    have KK4 : Hid (Box w4 (w.heap.size) 52 #[.int .i64 x, .int .i64 y, .int .i64 (-1), .int .i64 dy]) := hid (Box.keep (KK3.out) hb4)
    have KR4 : Hid (Box w4 (w.heap.size + 1) 52 #[.int .i64 0, .int .i64 0, .int .i64 0, .int .i64 0]) := hid (Box.keep (KR3.out) hb4)
    have KP4 : Hid (Box w4 (p) 30 #[.int .i64 W, .int .i64 H, .slice A zs.length c]) := hid (Box.keep (KP3.out) hb4)
    have KQ4 : Hid (Box w4 (w1.heap.size) 32 #[.int .i64 (x + -1), .int .i64 (y + dy)]) := hid (Box.keep (KQ3.out) hb4)
    have KO4 : Hid (Box w4 (w1.heap.size + 1) 52 #[.int .i64 (x + -1), .int .i64 (y + dy), .int .i64 (-1), .int .i64 dy]) := hid (Box.keep (KO3.out) hb4)
    have HB4 : Hid (Below w.heap.size w w4) := hid (bstep (HB3.out) hb4)
    clear hb4
    obtain ⟨Ka, Kb, Kc, Kd⟩ := KK4.out.four
    have Kz := KK4.out.lt
    obtain ⟨Ra, Rb, Rc, Rd⟩ := KR4.out.four
    have Rz := KR4.out.lt
    have Rf := KR4.out.free
    obtain ⟨Pa, Pb, Pc⟩ := KP4.out.three
    have Pz := KP4.out.lt
    obtain ⟨Qa, Qb⟩ := KQ4.out.two
    have Qz := KQ4.out.lt
    obtain ⟨Oa, Ob, Oc, Od⟩ := KO4.out.four
    have Oz := KO4.out.lt
    have Of := KO4.out.free
    go_wp2_with fail
    clear Ka Kb Kc Kd Kz Ra Rb Rc Rd Rz Rf Pa Pb Pc Pz Qa Qb Qz Oa Ob Oc Od Oz Of
    obtain ⟨w5, hw5⟩ : ∃ zz : World, zz = (w4.setCell ⟨w1.heap.size + 1, 3, none⟩ (.int .i64 (-dy))) := ⟨_, rfl⟩
    rw [← hw5]
    have KK5 : Hid (Box w5 (w.heap.size) 52 #[.int .i64 x, .int .i64 y, .int .i64 (-1), .int .i64 dy]) := by rw [hw5]; exact hid (Box.set (KK4.out) (by simp <;> omega) _)
    have KR5 : Hid (Box w5 (w.heap.size + 1) 52 #[.int .i64 0, .int .i64 0, .int .i64 0, .int .i64 0]) := by rw [hw5]; exact hid (Box.set (KR4.out) (by simp <;> omega) _)
    have KP5 : Hid (Box w5 (p) 30 #[.int .i64 W, .int .i64 H, .slice A zs.length c]) := by rw [hw5]; exact hid (Box.set (KP4.out) (by simp <;> omega) _)
    have KQ5 : Hid (Box w5 (w1.heap.size) 32 #[.int .i64 (x + -1), .int .i64 (y + dy)]) := by rw [hw5]; exact hid (Box.set (KQ4.out) (by simp <;> omega) _)
    have KO5 : Hid (Box w5 (w1.heap.size + 1) 52 #[.int .i64 (x + -1), .int .i64 (y + dy), .int .i64 (-1), .int .i64 (-dy)]) := by rw [hw5]; exact hid (Box.put (KO4.out) 3 _)
    have HB5 : Hid (Below w.heap.size w w5) := by rw [hw5]; exact hid (Below.setCell (HB4.out) (by simp <;> omega) _)
    clear hw5
    obtain ⟨Ka, Kb, Kc, Kd⟩ := KK5.out.four
    have Kz := KK5.out.lt
    obtain ⟨Ra, Rb, Rc, Rd⟩ := KR5.out.four
    have Rz := KR5.out.lt
    have Rf := KR5.out.free
    obtain ⟨Pa, Pb, Pc⟩ := KP5.out.three
    have Pz := KP5.out.lt
    obtain ⟨Qa, Qb⟩ := KQ5.out.two
    have Qz := KQ5.out.lt
    obtain ⟨Oa, Ob, Oc, Od⟩ := KO5.out.four
    have Oz := KO5.out.lt
    have Of := KO5.out.free
    refine (calls_bool (l02Edge_any _ W H (x + -1) (y + dy) _ _ (KP5.out) HS.out.1 HS.out.2) HE.out).mono ?_
    rintro e w6 ⟨rfl, hb6⟩
    clear Ka Kb Kc Kd Kz Ra Rb Rc Rd Rz Rf Pa Pb Pc Pz Qa Qb Qz Oa Ob Oc Od Oz Of
    have KK6 : Hid (Box w6 (w.heap.size) 52 #[.int .i64 x, .int .i64 y, .int .i64 (-1), .int .i64 dy]) := hid (Box.keep (KK5.out) hb6)
    have KR6 : Hid (Box w6 (w.heap.size + 1) 52 #[.int .i64 0, .int .i64 0, .int .i64 0, .int .i64 0]) := hid (Box.keep (KR5.out) hb6)
    have KP6 : Hid (Box w6 (p) 30 #[.int .i64 W, .int .i64 H, .slice A zs.length c]) := hid (Box.keep (KP5.out) hb6)
    have KQ6 : Hid (Box w6 (w1.heap.size) 32 #[.int .i64 (x + -1), .int .i64 (y + dy)]) := hid (Box.keep (KQ5.out) hb6)
    have KO6 : Hid (Box w6 (w1.heap.size + 1) 52 #[.int .i64 (x + -1), .int .i64 (y + dy), .int .i64 (-1), .int .i64 (-dy)]) := hid (Box.keep (KO5.out) hb6)
    have HB6 : Hid (Below w.heap.size w w6) := hid (bstep (HB5.out) hb6)
    clear hb6
    obtain ⟨Ka, Kb, Kc, Kd⟩ := KK6.out.four
    have Kz := KK6.out.lt
    obtain ⟨Ra, Rb, Rc, Rd⟩ := KR6.out.four
    have Rz := KR6.out.lt
    have Rf := KR6.out.free
    obtain ⟨Pa, Pb, Pc⟩ := KP6.out.three
    have Pz := KP6.out.lt
    obtain ⟨Qa, Qb⟩ := KQ6.out.two
    have Qz := KQ6.out.lt
    obtain ⟨Oa, Ob, Oc, Od⟩ := KO6.out.four
    have Oz := KO6.out.lt
    have Of := KO6.out.free
    go_wp2_with fail
    have hbE := (HB6.out)
    refine bodyPost_ret (v := .agg #[.int .i64 (x + -1), .int .i64 (y + dy), .int .i64 (-1), .int .i64 (-dy)]) (by simp [results, Try.results124, go_sem, *]) rfl ⟨ret_w4 rfl rfl HV.out.1.symm HV.out.2.symm, (by (repeat (with_reducible first | exact Below.refl _ _ | assumption | refine below_drewN ?_ _ | refine Below.drew ?_ | refine Below.alloc ?_ ?_ _ | refine Below.setCell ?_ ?_ _)); all_goals (first | omega | (simp only [size_drewN, World.size_alloc, World.size_setCell, World.size_drew] at *; omega) | (simp; done) | (simp; omega)))⟩
  · have ex0 : (x + -1 == 0) = false := by simp; omega
    have exw : (x + -1 == 2 * W) = false := by simp; omega
    have ey0 : (y + dy == 0) = false := by simp; omega
    have eyh : (y + dy == 2 * H) = false := by simp; omega
    have HE : Hid (edgeP W H (x + -1) (y + dy) = false) := hid (by simp [edgeP, *])
    have HK : stK W H zs (x + -1) (y + dy) = 0 := by simp [stK, HE.out, c0]
    have HV : Hid (stU W H zs x y (-1) dy = (-1) ∧ stV W H zs x y (-1) dy = dy) := hid (by simp [stU, stV, HK, ex0, ey0, exw, eyh])
    clear HK
    obtain ⟨bb, off, rfl⟩ := hz.isSome hkz
    rw [c0] at hkz
    have HZ := hid hkz
    have HN := hid hk
    have HI5 := hid i5
    clear hkz hk c0 i5
    go_enter Try.func124, Try.ntmps124
    go_wp2_with fail
    refine (l03Next_any x y (-1) dy _ (by omega) (by omega) (by omega) (by omega) (by omega) (by omega) b1 b2).mono ?_
    rintro e w1 ⟨rfl, hb1⟩
    have KK1 : Hid (Box w1 (w.heap.size) 52 #[.int .i64 x, .int .i64 y, .int .i64 (-1), .int .i64 dy]) := hid (Box.keep (Box.alloc (Box.new' _ _ _ _ (by simp)) _) hb1)
    have KR1 : Hid (Box w1 (w.heap.size + 1) 52 #[.int .i64 0, .int .i64 0, .int .i64 0, .int .i64 0]) := hid (Box.keep (Box.new' _ _ _ _ (by simp)) hb1)
    have KP1 : Hid (Box w1 (p) 30 #[.int .i64 W, .int .i64 H, .slice (some ⟨bb, off, none⟩) zs.length c]) := hid (Box.keep (Box.alloc (Box.alloc (HP0.out) _) _) hb1)
    have HB1 : Hid (Below w.heap.size w w1) := hid (bstep (bal (bal (Below.refl _ _) _) _) hb1)
    clear hb1
    obtain ⟨Ka, Kb, Kc, Kd⟩ := KK1.out.four
    have Kz := KK1.out.lt
    obtain ⟨Ra, Rb, Rc, Rd⟩ := KR1.out.four
    have Rz := KR1.out.lt
    have Rf := KR1.out.free
    obtain ⟨Pa, Pb, Pc⟩ := KP1.out.three
    have Pz := KP1.out.lt
    go_wp2_with fail
    have LK : w.heap.size < w1.heap.size := KK1.out.lt
    have LR : w.heap.size + 1 < w1.heap.size := KR1.out.lt
    have LP : p < w1.heap.size := KP1.out.lt
    have np : ¬ (w1.heap.size + 1 = p) := by omega
    have np2 : ¬ (w.heap.size + 1 = p) := by omega
    have np3 : ¬ (p = w1.heap.size + 1) := by omega
    have np4 : ¬ (p = w.heap.size + 1) := by omega
    have n1 : ¬ (w1.heap.size = w.heap.size + 1) := by omega
    have n2 : ¬ (w.heap.size + 1 = w1.heap.size) := by omega
    have n3 : ¬ (w1.heap.size = w.heap.size) := by omega
    have n4 : ¬ (w.heap.size = w1.heap.size) := by omega
    clear Ka Kb Kc Kd Kz Ra Rb Rc Rd Rz Rf Pa Pb Pc Pz
    obtain ⟨w2, hw2⟩ : ∃ zz : World, zz = ((w1.alloc (.cells #[.int .i64 (x + -1), .int .i64 (y + dy)] 32)).alloc (.cells #[.int .i64 (x + -1), .int .i64 (y + dy), .int .i64 (-1), .int .i64 dy] 52)) := ⟨_, rfl⟩
    rw [← hw2]
    have KK2 : Hid (Box w2 (w.heap.size) 52 #[.int .i64 x, .int .i64 y, .int .i64 (-1), .int .i64 dy]) := by rw [hw2]; exact hid (Box.alloc (Box.alloc (KK1.out) _) _)
    have KR2 : Hid (Box w2 (w.heap.size + 1) 52 #[.int .i64 0, .int .i64 0, .int .i64 0, .int .i64 0]) := by rw [hw2]; exact hid (Box.alloc (Box.alloc (KR1.out) _) _)
    have KP2 : Hid (Box w2 (p) 30 #[.int .i64 W, .int .i64 H, .slice (some ⟨bb, off, none⟩) zs.length c]) := by rw [hw2]; exact hid (Box.alloc (Box.alloc (KP1.out) _) _)
    have KQ2 : Hid (Box w2 (w1.heap.size) 32 #[.int .i64 (x + -1), .int .i64 (y + dy)]) := by rw [hw2]; exact hid (Box.alloc (Box.new' _ _ _ _ (by simp)) _)
    have KO2 : Hid (Box w2 (w1.heap.size + 1) 52 #[.int .i64 (x + -1), .int .i64 (y + dy), .int .i64 (-1), .int .i64 dy]) := by rw [hw2]; exact hid (Box.new' _ _ _ _ (by simp))
    have HB2 : Hid (Below w.heap.size w w2) := by rw [hw2]; exact hid (bal (bal (HB1.out) _) _)
    clear hw2
    obtain ⟨Ka, Kb, Kc, Kd⟩ := KK2.out.four
    have Kz := KK2.out.lt
    obtain ⟨Ra, Rb, Rc, Rd⟩ := KR2.out.four
    have Rz := KR2.out.lt
    have Rf := KR2.out.free
    obtain ⟨Pa, Pb, Pc⟩ := KP2.out.three
    have Pz := KP2.out.lt
    obtain ⟨Qa, Qb⟩ := KQ2.out.two
    have Qz := KQ2.out.lt
    obtain ⟨Oa, Ob, Oc, Od⟩ := KO2.out.four
    have Oz := KO2.out.lt
    have Of := KO2.out.free
    refine wp_region_mix (w2.heap.size) (by kernel_rfl) (by kernel_rfl) ?_
    repeat (any_goals (go_big_quiet_step (fail)))
    refine wpQuiet_nil ?_
    intro w3 hx3
    have hb3 : Below _ _ w3 := mix_ex hx3
    clear hx3
    clear Ka Kb Kc Kd Kz Ra Rb Rc Rd Rz Rf Pa Pb Pc Pz Qa Qb Qz Oa Ob Oc Od Oz Of
    have KK3 : Hid (Box w3 (w.heap.size) 52 #[.int .i64 x, .int .i64 y, .int .i64 (-1), .int .i64 dy]) := hid (Box.keep (KK2.out) hb3)
    have KR3 : Hid (Box w3 (w.heap.size + 1) 52 #[.int .i64 0, .int .i64 0, .int .i64 0, .int .i64 0]) := hid (Box.keep (KR2.out) hb3)
    have KP3 : Hid (Box w3 (p) 30 #[.int .i64 W, .int .i64 H, .slice (some ⟨bb, off, none⟩) zs.length c]) := hid (Box.keep (KP2.out) hb3)
    have KQ3 : Hid (Box w3 (w1.heap.size) 32 #[.int .i64 (x + -1), .int .i64 (y + dy)]) := hid (Box.keep (KQ2.out) hb3)
    have KO3 : Hid (Box w3 (w1.heap.size + 1) 52 #[.int .i64 (x + -1), .int .i64 (y + dy), .int .i64 (-1), .int .i64 dy]) := hid (Box.keep (KO2.out) hb3)
    have HB3 : Hid (Below w.heap.size w w3) := hid (bstep (HB2.out) hb3)
    clear hb3
    obtain ⟨Ka, Kb, Kc, Kd⟩ := KK3.out.four
    have Kz := KK3.out.lt
    obtain ⟨Ra, Rb, Rc, Rd⟩ := KR3.out.four
    have Rz := KR3.out.lt
    have Rf := KR3.out.free
    obtain ⟨Pa, Pb, Pc⟩ := KP3.out.three
    have Pz := KP3.out.lt
    obtain ⟨Qa, Qb⟩ := KQ3.out.two
    have Qz := KQ3.out.lt
    obtain ⟨Oa, Ob, Oc, Od⟩ := KO3.out.four
    have Oz := KO3.out.lt
    have Of := KO3.out.free
    go_wp2_with fail
    refine wp_region_mix (w3.heap.size) (by kernel_rfl) (by kernel_rfl) ?_
    repeat (any_goals (go_big_quiet_step (fail)))
    refine wpQuiet_nil ?_
    intro w4 hx4
    have hb4 : Below _ _ w4 := mix_ex hx4
    clear hx4
    clear Ka Kb Kc Kd Kz Ra Rb Rc Rd Rz Rf Pa Pb Pc Pz Qa Qb Qz Oa Ob Oc Od Oz Of
    have KK4 : Hid (Box w4 (w.heap.size) 52 #[.int .i64 x, .int .i64 y, .int .i64 (-1), .int .i64 dy]) := hid (Box.keep (KK3.out) hb4)
    have KR4 : Hid (Box w4 (w.heap.size + 1) 52 #[.int .i64 0, .int .i64 0, .int .i64 0, .int .i64 0]) := hid (Box.keep (KR3.out) hb4)
    have KP4 : Hid (Box w4 (p) 30 #[.int .i64 W, .int .i64 H, .slice (some ⟨bb, off, none⟩) zs.length c]) := hid (Box.keep (KP3.out) hb4)
    have KQ4 : Hid (Box w4 (w1.heap.size) 32 #[.int .i64 (x + -1), .int .i64 (y + dy)]) := hid (Box.keep (KQ3.out) hb4)
    have KO4 : Hid (Box w4 (w1.heap.size + 1) 52 #[.int .i64 (x + -1), .int .i64 (y + dy), .int .i64 (-1), .int .i64 dy]) := hid (Box.keep (KO3.out) hb4)
    have HB4 : Hid (Below w.heap.size w w4) := hid (bstep (HB3.out) hb4)
    clear hb4
    obtain ⟨Ka, Kb, Kc, Kd⟩ := KK4.out.four
    have Kz := KK4.out.lt
    obtain ⟨Ra, Rb, Rc, Rd⟩ := KR4.out.four
    have Rz := KR4.out.lt
    have Rf := KR4.out.free
    obtain ⟨Pa, Pb, Pc⟩ := KP4.out.three
    have Pz := KP4.out.lt
    obtain ⟨Qa, Qb⟩ := KQ4.out.two
    have Qz := KQ4.out.lt
    obtain ⟨Oa, Ob, Oc, Od⟩ := KO4.out.four
    have Oz := KO4.out.lt
    have Of := KO4.out.free
    go_wp2_with fail
    refine (calls_bool (l02Edge_any _ W H (x + -1) (y + dy) _ _ (KP4.out) HS.out.1 HS.out.2) HE.out).mono ?_
    rintro e w5 ⟨rfl, hb5⟩
    clear Ka Kb Kc Kd Kz Ra Rb Rc Rd Rz Rf Pa Pb Pc Pz Qa Qb Qz Oa Ob Oc Od Oz Of
    have KK5 : Hid (Box w5 (w.heap.size) 52 #[.int .i64 x, .int .i64 y, .int .i64 (-1), .int .i64 dy]) := hid (Box.keep (KK4.out) hb5)
    have KR5 : Hid (Box w5 (w.heap.size + 1) 52 #[.int .i64 0, .int .i64 0, .int .i64 0, .int .i64 0]) := hid (Box.keep (KR4.out) hb5)
    have KP5 : Hid (Box w5 (p) 30 #[.int .i64 W, .int .i64 H, .slice (some ⟨bb, off, none⟩) zs.length c]) := hid (Box.keep (KP4.out) hb5)
    have KQ5 : Hid (Box w5 (w1.heap.size) 32 #[.int .i64 (x + -1), .int .i64 (y + dy)]) := hid (Box.keep (KQ4.out) hb5)
    have KO5 : Hid (Box w5 (w1.heap.size + 1) 52 #[.int .i64 (x + -1), .int .i64 (y + dy), .int .i64 (-1), .int .i64 dy]) := hid (Box.keep (KO4.out) hb5)
    have HB5 : Hid (Below w.heap.size w w5) := hid (bstep (HB4.out) hb5)
    clear hb5
    obtain ⟨Ka, Kb, Kc, Kd⟩ := KK5.out.four
    have Kz := KK5.out.lt
    obtain ⟨Ra, Rb, Rc, Rd⟩ := KR5.out.four
    have Rz := KR5.out.lt
    have Rf := KR5.out.free
    obtain ⟨Pa, Pb, Pc⟩ := KP5.out.three
    have Pz := KP5.out.lt
    obtain ⟨Qa, Qb⟩ := KQ5.out.two
    have Qz := KQ5.out.lt
    obtain ⟨Oa, Ob, Oc, Od⟩ := KO5.out.four
    have Oz := KO5.out.lt
    have Of := KO5.out.free
    go_wp2_with fail
    obtain ⟨hbb, hcc⟩ := (hz.below (Below.mono (HB5.out) hB)).at HZ.out
    have bbz : bb < w5.heap.size := by have := (HB5.out).size; omega
    refine wp_region_mix (w5.heap.size) (by kernel_rfl) (by kernel_rfl) ?_
    repeat (any_goals (go_big_quiet_step ((first | (go_at_call 127; exact mix_call (by simp) (calls_int0 (l02Number_any _ W H (x + -1) (y + dy) _ _ (Box.below KP5.out (mix_below _ _ _) KP5.out.lt) HS.out.1 HS.out.2 i1 i2 i3 i4 HI5.out) HN.out))))))
    refine wpQuiet_nil ?_
    intro w6 hx6
    have hb6 : Below _ _ w6 := mix_ex hx6
    clear hx6
    clear Ka Kb Kc Kd Kz Ra Rb Rc Rd Rz Rf Pa Pb Pc Pz Qa Qb Qz Oa Ob Oc Od Oz Of
    have KK6 : Hid (Box w6 (w.heap.size) 52 #[.int .i64 x, .int .i64 y, .int .i64 (-1), .int .i64 dy]) := hid (Box.keep (KK5.out) hb6)
    have KR6 : Hid (Box w6 (w.heap.size + 1) 52 #[.int .i64 0, .int .i64 0, .int .i64 0, .int .i64 0]) := hid (Box.keep (KR5.out) hb6)
    have KP6 : Hid (Box w6 (p) 30 #[.int .i64 W, .int .i64 H, .slice (some ⟨bb, off, none⟩) zs.length c]) := hid (Box.keep (KP5.out) hb6)
    have KQ6 : Hid (Box w6 (w1.heap.size) 32 #[.int .i64 (x + -1), .int .i64 (y + dy)]) := hid (Box.keep (KQ5.out) hb6)
    have KO6 : Hid (Box w6 (w1.heap.size + 1) 52 #[.int .i64 (x + -1), .int .i64 (y + dy), .int .i64 (-1), .int .i64 dy]) := hid (Box.keep (KO5.out) hb6)
    have HB6 : Hid (Below w.heap.size w w6) := hid (bstep (HB5.out) hb6)
    clear hb6
    obtain ⟨Ka, Kb, Kc, Kd⟩ := KK6.out.four
    have Kz := KK6.out.lt
    obtain ⟨Ra, Rb, Rc, Rd⟩ := KR6.out.four
    have Rz := KR6.out.lt
    have Rf := KR6.out.free
    obtain ⟨Pa, Pb, Pc⟩ := KP6.out.three
    have Pz := KP6.out.lt
    obtain ⟨Qa, Qb⟩ := KQ6.out.two
    have Qz := KQ6.out.lt
    obtain ⟨Oa, Ob, Oc, Od⟩ := KO6.out.four
    have Oz := KO6.out.lt
    have Of := KO6.out.free
    go_wp2_with fail
    have hbE := (HB6.out)
    refine bodyPost_ret (v := .agg #[.int .i64 (x + -1), .int .i64 (y + dy), .int .i64 (-1), .int .i64 (dy)]) (by simp [results, Try.results124, go_sem, *]) rfl ⟨ret_w4 rfl rfl HV.out.1.symm HV.out.2.symm, (by (repeat (with_reducible first | exact Below.refl _ _ | assumption | refine below_drewN ?_ _ | refine Below.drew ?_ | refine Below.alloc ?_ ?_ _ | refine Below.setCell ?_ ?_ _)); all_goals (first | omega | (simp only [size_drewN, World.size_alloc, World.size_setCell, World.size_drew] at *; omega) | (simp; done) | (simp; omega)))⟩
  · have ex0 : (x + -1 == 0) = false := by simp; omega
    have exw : (x + -1 == 2 * W) = false := by simp; omega
    have ey0 : (y + dy == 0) = false := by simp; omega
    have eyh : (y + dy == 2 * H) = false := by simp; omega
    have HE : Hid (edgeP W H (x + -1) (y + dy) = false) := hid (by simp [edgeP, *])
    have HK : stK W H zs (x + -1) (y + dy) = 1 := by simp [stK, HE.out, c0]
    have HV : Hid (stU W H zs x y (-1) dy = 1 ∧ stV W H zs x y (-1) dy = dy) := hid (by simp [stU, stV, HK, ex0, ey0, exw, eyh])
    clear HK
    obtain ⟨bb, off, rfl⟩ := hz.isSome hkz
    rw [c0] at hkz
    have HZ := hid hkz
    have HN := hid hk
    have HI5 := hid i5
    clear hkz hk c0 i5
    go_enter Try.func124, Try.ntmps124
    go_wp2_with fail
    refine (l03Next_any x y (-1) dy _ (by omega) (by omega) (by omega) (by omega) (by omega) (by omega) b1 b2).mono ?_
    rintro e w1 ⟨rfl, hb1⟩
    have KK1 : Hid (Box w1 (w.heap.size) 52 #[.int .i64 x, .int .i64 y, .int .i64 (-1), .int .i64 dy]) := hid (Box.keep (Box.alloc (Box.new' _ _ _ _ (by simp)) _) hb1)
    have KR1 : Hid (Box w1 (w.heap.size + 1) 52 #[.int .i64 0, .int .i64 0, .int .i64 0, .int .i64 0]) := hid (Box.keep (Box.new' _ _ _ _ (by simp)) hb1)
    have KP1 : Hid (Box w1 (p) 30 #[.int .i64 W, .int .i64 H, .slice (some ⟨bb, off, none⟩) zs.length c]) := hid (Box.keep (Box.alloc (Box.alloc (HP0.out) _) _) hb1)
    have HB1 : Hid (Below w.heap.size w w1) := hid (bstep (bal (bal (Below.refl _ _) _) _) hb1)
    clear hb1
    obtain ⟨Ka, Kb, Kc, Kd⟩ := KK1.out.four
    have Kz := KK1.out.lt
    obtain ⟨Ra, Rb, Rc, Rd⟩ := KR1.out.four
    have Rz := KR1.out.lt
    have Rf := KR1.out.free
    obtain ⟨Pa, Pb, Pc⟩ := KP1.out.three
    have Pz := KP1.out.lt
    go_wp2_with fail
    have LK : w.heap.size < w1.heap.size := KK1.out.lt
    have LR : w.heap.size + 1 < w1.heap.size := KR1.out.lt
    have LP : p < w1.heap.size := KP1.out.lt
    have np : ¬ (w1.heap.size + 1 = p) := by omega
    have np2 : ¬ (w.heap.size + 1 = p) := by omega
    have np3 : ¬ (p = w1.heap.size + 1) := by omega
    have np4 : ¬ (p = w.heap.size + 1) := by omega
    have n1 : ¬ (w1.heap.size = w.heap.size + 1) := by omega
    have n2 : ¬ (w.heap.size + 1 = w1.heap.size) := by omega
    have n3 : ¬ (w1.heap.size = w.heap.size) := by omega
    have n4 : ¬ (w.heap.size = w1.heap.size) := by omega
    clear Ka Kb Kc Kd Kz Ra Rb Rc Rd Rz Rf Pa Pb Pc Pz
    obtain ⟨w2, hw2⟩ : ∃ zz : World, zz = ((w1.alloc (.cells #[.int .i64 (x + -1), .int .i64 (y + dy)] 32)).alloc (.cells #[.int .i64 (x + -1), .int .i64 (y + dy), .int .i64 (-1), .int .i64 dy] 52)) := ⟨_, rfl⟩
    rw [← hw2]
    have KK2 : Hid (Box w2 (w.heap.size) 52 #[.int .i64 x, .int .i64 y, .int .i64 (-1), .int .i64 dy]) := by rw [hw2]; exact hid (Box.alloc (Box.alloc (KK1.out) _) _)
    have KR2 : Hid (Box w2 (w.heap.size + 1) 52 #[.int .i64 0, .int .i64 0, .int .i64 0, .int .i64 0]) := by rw [hw2]; exact hid (Box.alloc (Box.alloc (KR1.out) _) _)
    have KP2 : Hid (Box w2 (p) 30 #[.int .i64 W, .int .i64 H, .slice (some ⟨bb, off, none⟩) zs.length c]) := by rw [hw2]; exact hid (Box.alloc (Box.alloc (KP1.out) _) _)
    have KQ2 : Hid (Box w2 (w1.heap.size) 32 #[.int .i64 (x + -1), .int .i64 (y + dy)]) := by rw [hw2]; exact hid (Box.alloc (Box.new' _ _ _ _ (by simp)) _)
    have KO2 : Hid (Box w2 (w1.heap.size + 1) 52 #[.int .i64 (x + -1), .int .i64 (y + dy), .int .i64 (-1), .int .i64 dy]) := by rw [hw2]; exact hid (Box.new' _ _ _ _ (by simp))
    have HB2 : Hid (Below w.heap.size w w2) := by rw [hw2]; exact hid (bal (bal (HB1.out) _) _)
    clear hw2
    obtain ⟨Ka, Kb, Kc, Kd⟩ := KK2.out.four
    have Kz := KK2.out.lt
    obtain ⟨Ra, Rb, Rc, Rd⟩ := KR2.out.four
    have Rz := KR2.out.lt
    have Rf := KR2.out.free
    obtain ⟨Pa, Pb, Pc⟩ := KP2.out.three
    have Pz := KP2.out.lt
    obtain ⟨Qa, Qb⟩ := KQ2.out.two
    have Qz := KQ2.out.lt
    obtain ⟨Oa, Ob, Oc, Od⟩ := KO2.out.four
    have Oz := KO2.out.lt
    have Of := KO2.out.free
    refine wp_region_mix (w2.heap.size) (by kernel_rfl) (by kernel_rfl) ?_
    repeat (any_goals (go_big_quiet_step (fail)))
    refine wpQuiet_nil ?_
    intro w3 hx3
    have hb3 : Below _ _ w3 := mix_ex hx3
    clear hx3
    clear Ka Kb Kc Kd Kz Ra Rb Rc Rd Rz Rf Pa Pb Pc Pz Qa Qb Qz Oa Ob Oc Od Oz Of
    have KK3 : Hid (Box w3 (w.heap.size) 52 #[.int .i64 x, .int .i64 y, .int .i64 (-1), .int .i64 dy]) := hid (Box.keep (KK2.out) hb3)
    have KR3 : Hid (Box w3 (w.heap.size + 1) 52 #[.int .i64 0, .int .i64 0, .int .i64 0, .int .i64 0]) := hid (Box.keep (KR2.out) hb3)
    have KP3 : Hid (Box w3 (p) 30 #[.int .i64 W, .int .i64 H, .slice (some ⟨bb, off, none⟩) zs.length c]) := hid (Box.keep (KP2.out) hb3)
    have KQ3 : Hid (Box w3 (w1.heap.size) 32 #[.int .i64 (x + -1), .int .i64 (y + dy)]) := hid (Box.keep (KQ2.out) hb3)
    have KO3 : Hid (Box w3 (w1.heap.size + 1) 52 #[.int .i64 (x + -1), .int .i64 (y + dy), .int .i64 (-1), .int .i64 dy]) := hid (Box.keep (KO2.out) hb3)
    have HB3 : Hid (Below w.heap.size w w3) := hid (bstep (HB2.out) hb3)
    clear hb3
    obtain ⟨Ka, Kb, Kc, Kd⟩ := KK3.out.four
    have Kz := KK3.out.lt
    obtain ⟨Ra, Rb, Rc, Rd⟩ := KR3.out.four
    have Rz := KR3.out.lt
    have Rf := KR3.out.free
    obtain ⟨Pa, Pb, Pc⟩ := KP3.out.three
    have Pz := KP3.out.lt
    obtain ⟨Qa, Qb⟩ := KQ3.out.two
    have Qz := KQ3.out.lt
    obtain ⟨Oa, Ob, Oc, Od⟩ := KO3.out.four
    have Oz := KO3.out.lt
    have Of := KO3.out.free
    go_wp2_with fail
    refine wp_region_mix (w3.heap.size) (by kernel_rfl) (by kernel_rfl) ?_
    repeat (any_goals (go_big_quiet_step (fail)))
    refine wpQuiet_nil ?_
    intro w4 hx4
    have hb4 : Below _ _ w4 := mix_ex hx4
    clear hx4
    clear Ka Kb Kc Kd Kz Ra Rb Rc Rd Rz Rf Pa Pb Pc Pz Qa Qb Qz Oa Ob Oc Od Oz Of
    have KK4 : Hid (Box w4 (w.heap.size) 52 #[.int .i64 x, .int .i64 y, .int .i64 (-1), .int .i64 dy]) := hid (Box.keep (KK3.out) hb4)
    have KR4 : Hid (Box w4 (w.heap.size + 1) 52 #[.int .i64 0, .int .i64 0, .int .i64 0, .int .i64 0]) := hid (Box.keep (KR3.out) hb4)
    have KP4 : Hid (Box w4 (p) 30 #[.int .i64 W, .int .i64 H, .slice (some ⟨bb, off, none⟩) zs.length c]) := hid (Box.keep (KP3.out) hb4)
    have KQ4 : Hid (Box w4 (w1.heap.size) 32 #[.int .i64 (x + -1), .int .i64 (y + dy)]) := hid (Box.keep (KQ3.out) hb4)
    have KO4 : Hid (Box w4 (w1.heap.size + 1) 52 #[.int .i64 (x + -1), .int .i64 (y + dy), .int .i64 (-1), .int .i64 dy]) := hid (Box.keep (KO3.out) hb4)
    have HB4 : Hid (Below w.heap.size w w4) := hid (bstep (HB3.out) hb4)
    clear hb4
    obtain ⟨Ka, Kb, Kc, Kd⟩ := KK4.out.four
    have Kz := KK4.out.lt
    obtain ⟨Ra, Rb, Rc, Rd⟩ := KR4.out.four
    have Rz := KR4.out.lt
    have Rf := KR4.out.free
    obtain ⟨Pa, Pb, Pc⟩ := KP4.out.three
    have Pz := KP4.out.lt
    obtain ⟨Qa, Qb⟩ := KQ4.out.two
    have Qz := KQ4.out.lt
    obtain ⟨Oa, Ob, Oc, Od⟩ := KO4.out.four
    have Oz := KO4.out.lt
    have Of := KO4.out.free
    go_wp2_with fail
    refine (calls_bool (l02Edge_any _ W H (x + -1) (y + dy) _ _ (KP4.out) HS.out.1 HS.out.2) HE.out).mono ?_
    rintro e w5 ⟨rfl, hb5⟩
    clear Ka Kb Kc Kd Kz Ra Rb Rc Rd Rz Rf Pa Pb Pc Pz Qa Qb Qz Oa Ob Oc Od Oz Of
    have KK5 : Hid (Box w5 (w.heap.size) 52 #[.int .i64 x, .int .i64 y, .int .i64 (-1), .int .i64 dy]) := hid (Box.keep (KK4.out) hb5)
    have KR5 : Hid (Box w5 (w.heap.size + 1) 52 #[.int .i64 0, .int .i64 0, .int .i64 0, .int .i64 0]) := hid (Box.keep (KR4.out) hb5)
    have KP5 : Hid (Box w5 (p) 30 #[.int .i64 W, .int .i64 H, .slice (some ⟨bb, off, none⟩) zs.length c]) := hid (Box.keep (KP4.out) hb5)
    have KQ5 : Hid (Box w5 (w1.heap.size) 32 #[.int .i64 (x + -1), .int .i64 (y + dy)]) := hid (Box.keep (KQ4.out) hb5)
    have KO5 : Hid (Box w5 (w1.heap.size + 1) 52 #[.int .i64 (x + -1), .int .i64 (y + dy), .int .i64 (-1), .int .i64 dy]) := hid (Box.keep (KO4.out) hb5)
    have HB5 : Hid (Below w.heap.size w w5) := hid (bstep (HB4.out) hb5)
    clear hb5
    obtain ⟨Ka, Kb, Kc, Kd⟩ := KK5.out.four
    have Kz := KK5.out.lt
    obtain ⟨Ra, Rb, Rc, Rd⟩ := KR5.out.four
    have Rz := KR5.out.lt
    have Rf := KR5.out.free
    obtain ⟨Pa, Pb, Pc⟩ := KP5.out.three
    have Pz := KP5.out.lt
    obtain ⟨Qa, Qb⟩ := KQ5.out.two
    have Qz := KQ5.out.lt
    obtain ⟨Oa, Ob, Oc, Od⟩ := KO5.out.four
    have Oz := KO5.out.lt
    have Of := KO5.out.free
    go_wp2_with fail
    obtain ⟨hbb, hcc⟩ := (hz.below (Below.mono (HB5.out) hB)).at HZ.out
    have bbz : bb < w5.heap.size := by have := (HB5.out).size; omega
    refine wp_region_mix (w5.heap.size) (by kernel_rfl) (by kernel_rfl) ?_
    repeat (any_goals (go_big_quiet_step ((first | (go_at_call 127; exact mix_call (by simp) (calls_int0 (l02Number_any _ W H (x + -1) (y + dy) _ _ (Box.below KP5.out (mix_below _ _ _) KP5.out.lt) HS.out.1 HS.out.2 i1 i2 i3 i4 HI5.out) HN.out))))))
    refine wpQuiet_nil ?_
    intro w6 hx6
    have hb6 : Below _ _ w6 := mix_ex hx6
    clear hx6
    clear Ka Kb Kc Kd Kz Ra Rb Rc Rd Rz Rf Pa Pb Pc Pz Qa Qb Qz Oa Ob Oc Od Oz Of
    have KK6 : Hid (Box w6 (w.heap.size) 52 #[.int .i64 x, .int .i64 y, .int .i64 (-1), .int .i64 dy]) := hid (Box.keep (KK5.out) hb6)
    have KR6 : Hid (Box w6 (w.heap.size + 1) 52 #[.int .i64 0, .int .i64 0, .int .i64 0, .int .i64 0]) := hid (Box.keep (KR5.out) hb6)
    have KP6 : Hid (Box w6 (p) 30 #[.int .i64 W, .int .i64 H, .slice (some ⟨bb, off, none⟩) zs.length c]) := hid (Box.keep (KP5.out) hb6)
    have KQ6 : Hid (Box w6 (w1.heap.size) 32 #[.int .i64 (x + -1), .int .i64 (y + dy)]) := hid (Box.keep (KQ5.out) hb6)
    have KO6 : Hid (Box w6 (w1.heap.size + 1) 52 #[.int .i64 (x + -1), .int .i64 (y + dy), .int .i64 (-1), .int .i64 dy]) := hid (Box.keep (KO5.out) hb6)
    have HB6 : Hid (Below w.heap.size w w6) := hid (bstep (HB5.out) hb6)
    clear hb6
    obtain ⟨Ka, Kb, Kc, Kd⟩ := KK6.out.four
    have Kz := KK6.out.lt
    obtain ⟨Ra, Rb, Rc, Rd⟩ := KR6.out.four
    have Rz := KR6.out.lt
    have Rf := KR6.out.free
    obtain ⟨Pa, Pb, Pc⟩ := KP6.out.three
    have Pz := KP6.out.lt
    obtain ⟨Qa, Qb⟩ := KQ6.out.two
    have Qz := KQ6.out.lt
    obtain ⟨Oa, Ob, Oc, Od⟩ := KO6.out.four
    have Oz := KO6.out.lt
    have Of := KO6.out.free
    go_wp2_with fail
    have hbE := (HB6.out)
    refine bodyPost_ret (v := .agg #[.int .i64 (x + -1), .int .i64 (y + dy), .int .i64 1, .int .i64 (dy)]) (by simp [results, Try.results124, go_sem, *]) rfl ⟨ret_w4 rfl rfl HV.out.1.symm HV.out.2.symm, (by (repeat (with_reducible first | exact Below.refl _ _ | assumption | refine below_drewN ?_ _ | refine Below.drew ?_ | refine Below.alloc ?_ ?_ _ | refine Below.setCell ?_ ?_ _)); all_goals (first | omega | (simp only [size_drewN, World.size_alloc, World.size_setCell, World.size_drew] at *; omega) | (simp; done) | (simp; omega)))⟩
  · have ex0 : (x + -1 == 0) = false := by simp; omega
    have exw : (x + -1 == 2 * W) = false := by simp; omega
    have ey0 : (y + dy == 0) = false := by simp; omega
    have eyh : (y + dy == 2 * H) = false := by simp; omega
    have HE : Hid (edgeP W H (x + -1) (y + dy) = false) := hid (by simp [edgeP, *])
    have HK : stK W H zs (x + -1) (y + dy) = 2 := by simp [stK, HE.out, c0]
    have HV : Hid (stU W H zs x y (-1) dy = (-1) ∧ stV W H zs x y (-1) dy = -dy) := hid (by simp [stU, stV, HK, ex0, ey0, exw, eyh])
    clear HK
    have t2 : IntKind.i64.wrap (-dy) = -dy := IntWalk.i64_in _ (by omega)
    have ny := neg_ne HY.out
    have nyp : ¬ (-dy = dy) := by simpa using ny
    obtain ⟨bb, off, rfl⟩ := hz.isSome hkz
    rw [c0] at hkz
    have HZ := hid hkz
    have HN := hid hk
    have HI5 := hid i5
    clear hkz hk c0 i5
    go_enter Try.func124, Try.ntmps124
    go_wp2_with fail
    refine (l03Next_any x y (-1) dy _ (by omega) (by omega) (by omega) (by omega) (by omega) (by omega) b1 b2).mono ?_
    rintro e w1 ⟨rfl, hb1⟩
    have KK1 : Hid (Box w1 (w.heap.size) 52 #[.int .i64 x, .int .i64 y, .int .i64 (-1), .int .i64 dy]) := hid (Box.keep (Box.alloc (Box.new' _ _ _ _ (by simp)) _) hb1)
    have KR1 : Hid (Box w1 (w.heap.size + 1) 52 #[.int .i64 0, .int .i64 0, .int .i64 0, .int .i64 0]) := hid (Box.keep (Box.new' _ _ _ _ (by simp)) hb1)
    have KP1 : Hid (Box w1 (p) 30 #[.int .i64 W, .int .i64 H, .slice (some ⟨bb, off, none⟩) zs.length c]) := hid (Box.keep (Box.alloc (Box.alloc (HP0.out) _) _) hb1)
    have HB1 : Hid (Below w.heap.size w w1) := hid (bstep (bal (bal (Below.refl _ _) _) _) hb1)
    clear hb1
    obtain ⟨Ka, Kb, Kc, Kd⟩ := KK1.out.four
    have Kz := KK1.out.lt
    obtain ⟨Ra, Rb, Rc, Rd⟩ := KR1.out.four
    have Rz := KR1.out.lt
    have Rf := KR1.out.free
    obtain ⟨Pa, Pb, Pc⟩ := KP1.out.three
    have Pz := KP1.out.lt
    go_wp2_with fail
    have LK : w.heap.size < w1.heap.size := KK1.out.lt
    have LR : w.heap.size + 1 < w1.heap.size := KR1.out.lt
    have LP : p < w1.heap.size := KP1.out.lt
    have np : ¬ (w1.heap.size + 1 = p) := by omega
    have np2 : ¬ (w.heap.size + 1 = p) := by omega
    have np3 : ¬ (p = w1.heap.size + 1) := by omega
    have np4 : ¬ (p = w.heap.size + 1) := by omega
    have n1 : ¬ (w1.heap.size = w.heap.size + 1) := by omega
    have n2 : ¬ (w.heap.size + 1 = w1.heap.size) := by omega
    have n3 : ¬ (w1.heap.size = w.heap.size) := by omega
    have n4 : ¬ (w.heap.size = w1.heap.size) := by omega
    clear Ka Kb Kc Kd Kz Ra Rb Rc Rd Rz Rf Pa Pb Pc Pz
    obtain ⟨w2, hw2⟩ : ∃ zz : World, zz = ((w1.alloc (.cells #[.int .i64 (x + -1), .int .i64 (y + dy)] 32)).alloc (.cells #[.int .i64 (x + -1), .int .i64 (y + dy), .int .i64 (-1), .int .i64 dy] 52)) := ⟨_, rfl⟩
    rw [← hw2]
    have KK2 : Hid (Box w2 (w.heap.size) 52 #[.int .i64 x, .int .i64 y, .int .i64 (-1), .int .i64 dy]) := by rw [hw2]; exact hid (Box.alloc (Box.alloc (KK1.out) _) _)
    have KR2 : Hid (Box w2 (w.heap.size + 1) 52 #[.int .i64 0, .int .i64 0, .int .i64 0, .int .i64 0]) := by rw [hw2]; exact hid (Box.alloc (Box.alloc (KR1.out) _) _)
    have KP2 : Hid (Box w2 (p) 30 #[.int .i64 W, .int .i64 H, .slice (some ⟨bb, off, none⟩) zs.length c]) := by rw [hw2]; exact hid (Box.alloc (Box.alloc (KP1.out) _) _)
    have KQ2 : Hid (Box w2 (w1.heap.size) 32 #[.int .i64 (x + -1), .int .i64 (y + dy)]) := by rw [hw2]; exact hid (Box.alloc (Box.new' _ _ _ _ (by simp)) _)
    have KO2 : Hid (Box w2 (w1.heap.size + 1) 52 #[.int .i64 (x + -1), .int .i64 (y + dy), .int .i64 (-1), .int .i64 dy]) := by rw [hw2]; exact hid (Box.new' _ _ _ _ (by simp))
    have HB2 : Hid (Below w.heap.size w w2) := by rw [hw2]; exact hid (bal (bal (HB1.out) _) _)
    clear hw2
    obtain ⟨Ka, Kb, Kc, Kd⟩ := KK2.out.four
    have Kz := KK2.out.lt
    obtain ⟨Ra, Rb, Rc, Rd⟩ := KR2.out.four
    have Rz := KR2.out.lt
    have Rf := KR2.out.free
    obtain ⟨Pa, Pb, Pc⟩ := KP2.out.three
    have Pz := KP2.out.lt
    obtain ⟨Qa, Qb⟩ := KQ2.out.two
    have Qz := KQ2.out.lt
    obtain ⟨Oa, Ob, Oc, Od⟩ := KO2.out.four
    have Oz := KO2.out.lt
    have Of := KO2.out.free
    refine wp_region_mix (w2.heap.size) (by kernel_rfl) (by kernel_rfl) ?_
    repeat (any_goals (go_big_quiet_step (fail)))
    refine wpQuiet_nil ?_
    intro w3 hx3
    have hb3 : Below _ _ w3 := mix_ex hx3
    clear hx3
    clear Ka Kb Kc Kd Kz Ra Rb Rc Rd Rz Rf Pa Pb Pc Pz Qa Qb Qz Oa Ob Oc Od Oz Of
    have KK3 : Hid (Box w3 (w.heap.size) 52 #[.int .i64 x, .int .i64 y, .int .i64 (-1), .int .i64 dy]) := hid (Box.keep (KK2.out) hb3)
    have KR3 : Hid (Box w3 (w.heap.size + 1) 52 #[.int .i64 0, .int .i64 0, .int .i64 0, .int .i64 0]) := hid (Box.keep (KR2.out) hb3)
    have KP3 : Hid (Box w3 (p) 30 #[.int .i64 W, .int .i64 H, .slice (some ⟨bb, off, none⟩) zs.length c]) := hid (Box.keep (KP2.out) hb3)
    have KQ3 : Hid (Box w3 (w1.heap.size) 32 #[.int .i64 (x + -1), .int .i64 (y + dy)]) := hid (Box.keep (KQ2.out) hb3)
    have KO3 : Hid (Box w3 (w1.heap.size + 1) 52 #[.int .i64 (x + -1), .int .i64 (y + dy), .int .i64 (-1), .int .i64 dy]) := hid (Box.keep (KO2.out) hb3)
    have HB3 : Hid (Below w.heap.size w w3) := hid (bstep (HB2.out) hb3)
    clear hb3
    obtain ⟨Ka, Kb, Kc, Kd⟩ := KK3.out.four
    have Kz := KK3.out.lt
    obtain ⟨Ra, Rb, Rc, Rd⟩ := KR3.out.four
    have Rz := KR3.out.lt
    have Rf := KR3.out.free
    obtain ⟨Pa, Pb, Pc⟩ := KP3.out.three
    have Pz := KP3.out.lt
    obtain ⟨Qa, Qb⟩ := KQ3.out.two
    have Qz := KQ3.out.lt
    obtain ⟨Oa, Ob, Oc, Od⟩ := KO3.out.four
    have Oz := KO3.out.lt
    have Of := KO3.out.free
    go_wp2_with fail
    refine wp_region_mix (w3.heap.size) (by kernel_rfl) (by kernel_rfl) ?_
    repeat (any_goals (go_big_quiet_step (fail)))
    refine wpQuiet_nil ?_
    intro w4 hx4
    have hb4 : Below _ _ w4 := mix_ex hx4
    clear hx4
    clear Ka Kb Kc Kd Kz Ra Rb Rc Rd Rz Rf Pa Pb Pc Pz Qa Qb Qz Oa Ob Oc Od Oz Of
    have KK4 : Hid (Box w4 (w.heap.size) 52 #[.int .i64 x, .int .i64 y, .int .i64 (-1), .int .i64 dy]) := hid (Box.keep (KK3.out) hb4)
    have KR4 : Hid (Box w4 (w.heap.size + 1) 52 #[.int .i64 0, .int .i64 0, .int .i64 0, .int .i64 0]) := hid (Box.keep (KR3.out) hb4)
    have KP4 : Hid (Box w4 (p) 30 #[.int .i64 W, .int .i64 H, .slice (some ⟨bb, off, none⟩) zs.length c]) := hid (Box.keep (KP3.out) hb4)
    have KQ4 : Hid (Box w4 (w1.heap.size) 32 #[.int .i64 (x + -1), .int .i64 (y + dy)]) := hid (Box.keep (KQ3.out) hb4)
    have KO4 : Hid (Box w4 (w1.heap.size + 1) 52 #[.int .i64 (x + -1), .int .i64 (y + dy), .int .i64 (-1), .int .i64 dy]) := hid (Box.keep (KO3.out) hb4)
    have HB4 : Hid (Below w.heap.size w w4) := hid (bstep (HB3.out) hb4)
    clear hb4
    obtain ⟨Ka, Kb, Kc, Kd⟩ := KK4.out.four
    have Kz := KK4.out.lt
    obtain ⟨Ra, Rb, Rc, Rd⟩ := KR4.out.four
    have Rz := KR4.out.lt
    have Rf := KR4.out.free
    obtain ⟨Pa, Pb, Pc⟩ := KP4.out.three
    have Pz := KP4.out.lt
    obtain ⟨Qa, Qb⟩ := KQ4.out.two
    have Qz := KQ4.out.lt
    obtain ⟨Oa, Ob, Oc, Od⟩ := KO4.out.four
    have Oz := KO4.out.lt
    have Of := KO4.out.free
    go_wp2_with fail
    refine (calls_bool (l02Edge_any _ W H (x + -1) (y + dy) _ _ (KP4.out) HS.out.1 HS.out.2) HE.out).mono ?_
    rintro e w5 ⟨rfl, hb5⟩
    clear Ka Kb Kc Kd Kz Ra Rb Rc Rd Rz Rf Pa Pb Pc Pz Qa Qb Qz Oa Ob Oc Od Oz Of
    have KK5 : Hid (Box w5 (w.heap.size) 52 #[.int .i64 x, .int .i64 y, .int .i64 (-1), .int .i64 dy]) := hid (Box.keep (KK4.out) hb5)
    have KR5 : Hid (Box w5 (w.heap.size + 1) 52 #[.int .i64 0, .int .i64 0, .int .i64 0, .int .i64 0]) := hid (Box.keep (KR4.out) hb5)
    have KP5 : Hid (Box w5 (p) 30 #[.int .i64 W, .int .i64 H, .slice (some ⟨bb, off, none⟩) zs.length c]) := hid (Box.keep (KP4.out) hb5)
    have KQ5 : Hid (Box w5 (w1.heap.size) 32 #[.int .i64 (x + -1), .int .i64 (y + dy)]) := hid (Box.keep (KQ4.out) hb5)
    have KO5 : Hid (Box w5 (w1.heap.size + 1) 52 #[.int .i64 (x + -1), .int .i64 (y + dy), .int .i64 (-1), .int .i64 dy]) := hid (Box.keep (KO4.out) hb5)
    have HB5 : Hid (Below w.heap.size w w5) := hid (bstep (HB4.out) hb5)
    clear hb5
    obtain ⟨Ka, Kb, Kc, Kd⟩ := KK5.out.four
    have Kz := KK5.out.lt
    obtain ⟨Ra, Rb, Rc, Rd⟩ := KR5.out.four
    have Rz := KR5.out.lt
    have Rf := KR5.out.free
    obtain ⟨Pa, Pb, Pc⟩ := KP5.out.three
    have Pz := KP5.out.lt
    obtain ⟨Qa, Qb⟩ := KQ5.out.two
    have Qz := KQ5.out.lt
    obtain ⟨Oa, Ob, Oc, Od⟩ := KO5.out.four
    have Oz := KO5.out.lt
    have Of := KO5.out.free
    go_wp2_with fail
    obtain ⟨hbb, hcc⟩ := (hz.below (Below.mono (HB5.out) hB)).at HZ.out
    have bbz : bb < w5.heap.size := by have := (HB5.out).size; omega
    refine wp_region_mix (w5.heap.size) (by kernel_rfl) (by kernel_rfl) ?_
    repeat (any_goals (go_big_quiet_step ((first | (go_at_call 127; exact mix_call (by simp) (calls_int0 (l02Number_any _ W H (x + -1) (y + dy) _ _ (Box.below KP5.out (mix_below _ _ _) KP5.out.lt) HS.out.1 HS.out.2 i1 i2 i3 i4 HI5.out) HN.out))))))
    refine wpQuiet_nil ?_
    intro w6 hx6
    have hb6 : Below _ _ w6 := mix_ex hx6
    clear hx6
    clear Ka Kb Kc Kd Kz Ra Rb Rc Rd Rz Rf Pa Pb Pc Pz Qa Qb Qz Oa Ob Oc Od Oz Of
    have KK6 : Hid (Box w6 (w.heap.size) 52 #[.int .i64 x, .int .i64 y, .int .i64 (-1), .int .i64 dy]) := hid (Box.keep (KK5.out) hb6)
    have KR6 : Hid (Box w6 (w.heap.size + 1) 52 #[.int .i64 0, .int .i64 0, .int .i64 0, .int .i64 0]) := hid (Box.keep (KR5.out) hb6)
    have KP6 : Hid (Box w6 (p) 30 #[.int .i64 W, .int .i64 H, .slice (some ⟨bb, off, none⟩) zs.length c]) := hid (Box.keep (KP5.out) hb6)
    have KQ6 : Hid (Box w6 (w1.heap.size) 32 #[.int .i64 (x + -1), .int .i64 (y + dy)]) := hid (Box.keep (KQ5.out) hb6)
    have KO6 : Hid (Box w6 (w1.heap.size + 1) 52 #[.int .i64 (x + -1), .int .i64 (y + dy), .int .i64 (-1), .int .i64 dy]) := hid (Box.keep (KO5.out) hb6)
    have HB6 : Hid (Below w.heap.size w w6) := hid (bstep (HB5.out) hb6)
    clear hb6
    obtain ⟨Ka, Kb, Kc, Kd⟩ := KK6.out.four
    have Kz := KK6.out.lt
    obtain ⟨Ra, Rb, Rc, Rd⟩ := KR6.out.four
    have Rz := KR6.out.lt
    have Rf := KR6.out.free
    obtain ⟨Pa, Pb, Pc⟩ := KP6.out.three
    have Pz := KP6.out.lt
    obtain ⟨Qa, Qb⟩ := KQ6.out.two
    have Qz := KQ6.out.lt
    obtain ⟨Oa, Ob, Oc, Od⟩ := KO6.out.four
    have Oz := KO6.out.lt
    have Of := KO6.out.free
    go_wp2_with fail
    have hbE := (HB6.out)
    refine bodyPost_ret (v := .agg #[.int .i64 (x + -1), .int .i64 (y + dy), .int .i64 (-1), .int .i64 (-dy)]) (by simp [results, Try.results124, go_sem, *]) rfl ⟨ret_w4 rfl rfl HV.out.1.symm HV.out.2.symm, (by (repeat (with_reducible first | exact Below.refl _ _ | assumption | refine below_drewN ?_ _ | refine Below.drew ?_ | refine Below.alloc ?_ ?_ _ | refine Below.setCell ?_ ?_ _)); all_goals (first | omega | (simp only [size_drewN, World.size_alloc, World.size_setCell, World.size_drew] at *; omega) | (simp; done) | (simp; omega)))⟩
set_option maxHeartbeats 800000 in
theorem l03Step_any (p : Nat) (W H : Int) (A : Option Addr) (c : Nat) (zs : List Int) (x y dx dy : Int) (w : World) (B : Nat) (hB : B ≤ w.heap.size) (hpp : PanP w p W H (.slice A zs.length c)) (hz : Ints w B A zs) (hl : zs.length ≤ maxLen) (hv : validB W H zs = true) (h : walkB W H x y dx dy = true) :
    Calls Try.prog 124 #[.pointer (some ⟨p, 0, none⟩), .agg #[.int .i64 x, .int .i64 y, .int .i64 dx, .int .i64 dy]] w fun e w' => e = .returned (.agg #[.int .i64 (x + dx), .int .i64 (y + dy), .int .i64 (stU W H zs x y dx dy), .int .i64 (stV W H zs x y dx dy)]) ∧ Below w.heap.size w w' := by
  rcases (walk_parts h).1 with rfl | rfl
  · exact l03Step_one p W H A c zs x y dy w B hB hpp hz hl hv h
  · exact l03Step_neg p W H A c zs x y dy w B hB hpp hz hl hv h
end Go.Proofs.Ytbgigompkmnapaa

/- Steps: the program's. -/
import Derived.Test.YtbgigompkmnapaaNo
import Derived.Test.YtbgigompkmnapaaBw
import Derived.Test.YtbgigompkmnapaaAu
import Derived.BigRegion
import Derived.RegionTactic
namespace Go.Proofs.Ytbgigompkmnapaa
set_option linter.unusedSimpArgs false
set_option linter.unusedVariables false
open Go.ChangeShapes Go.WideShapes Go.ChangeAt Go.RowKit
/-- What stands at the next point, and the walker behind it. -/
def stK (W H : Int) (zs : List Int) (X Y : Int) : Int := if edgeP W H X Y then 0 else brkA W zs X Y
def stU (W H : Int) (zs : List Int) (x y dx dy : Int) : Int := if (x + dx == 0 || x + dx == 2 * W || stK W H zs (x + dx) (y + dy) == 1) then -dx else dx
def stV (W H : Int) (zs : List Int) (x y dx dy : Int) : Int := if (y + dy == 0 || y + dy == 2 * H || stK W H zs (x + dx) (y + dy) == 2) then -dy else dy
theorem valid_kinds {W H : Int} {zs : List Int} (h : validB W H zs = true) {j : Nat} {z : Int} (hj : zs[j]? = some z) : z = 0 ∨ z = 1 ∨ z = 2 := by
  simp only [validB, Bool.and_eq_true, List.all_eq_true] at h
  have hm : z ∈ zs := List.mem_of_getElem? hj
  have := h.2 z hm
  simp only [kindOk, inR, Bool.and_eq_true, decide_eq_true_eq] at this
  omega
/-- The seven ways of a step: over the border at the left, right, top, bottom; by an inner point of each kind. -/
theorem step_cases {W H : Int} {zs : List Int} {x y dx dy : Int} (hv : validB W H zs = true) (h : walkB W H x y dx dy = true) :
    (x + dx = 0 ∧ y + dy ≠ 0 ∧ y + dy ≠ 2 * H) ∨ (x + dx = 2 * W ∧ x + dx ≠ 0 ∧ y + dy ≠ 0 ∧ y + dy ≠ 2 * H) ∨
    (y + dy = 0 ∧ x + dx ≠ 0 ∧ x + dx ≠ 2 * W) ∨ (y + dy = 2 * H ∧ y + dy ≠ 0 ∧ x + dx ≠ 0 ∧ x + dx ≠ 2 * W) ∨
    ((1 ≤ x + dx ∧ x + dx ≤ 2 * W - 1 ∧ 1 ≤ y + dy ∧ y + dy ≤ 2 * H - 1 ∧ (x + dx + (y + dy)) % 2 = 1) ∧ ∃ k : Nat, numF W (x + dx) (y + dy) = (k : Int) ∧ k < zs.length ∧ zs[k]? = some (brkA W zs (x + dx) (y + dy)) ∧ (brkA W zs (x + dx) (y + dy) = 0 ∨ brkA W zs (x + dx) (y + dy) = 1 ∨ brkA W zs (x + dx) (y + dy) = 2)) := by
  obtain ⟨h1, h2, h3, h4⟩ := walk_parts h
  obtain ⟨hW, hH⟩ := valid_sides hv
  have b1 := side_bd hW
  have b2 := side_bd hH
  have hb := hasP_bd h4
  have hpar : (x + dx + (y + dy)) % 2 = 1 := by
    simp only [hasP, Bool.and_eq_true, beq_iff_eq] at h4
    exact h4.2.2
  by_cases e1 : x + dx = 0
  · exact .inl (by omega)
  by_cases e2 : x + dx = 2 * W
  · exact .inr (.inl (by omega))
  by_cases e3 : y + dy = 0
  · exact .inr (.inr (.inl (by omega)))
  by_cases e4 : y + dy = 2 * H
  · exact .inr (.inr (.inr (.inl (by omega))))
  have hi : 1 ≤ x + dx ∧ x + dx ≤ 2 * W - 1 ∧ 1 ≤ y + dy ∧ y + dy ≤ 2 * H - 1 ∧ (x + dx + (y + dy)) % 2 = 1 := by omega
  obtain ⟨i1, i2, i3, i4, i5⟩ := hi
  obtain ⟨n1, n2⟩ := numF_bd hW hH i1 i2 i3 i4 i5
  obtain ⟨k, hk, hkl, hkz⟩ := brk_at (valid_len hv) n1 n2
  exact .inr (.inr (.inr (.inr ⟨⟨i1, i2, i3, i4, i5⟩, k, hk, hkl, hkz, valid_kinds hv hkz⟩)))
theorem ret_ws {a b c d a' b' c' d' : Int} {m m' : Bool} (h1 : a = a') (h2 : b = b') (h3 : c = c') (h4 : d = d') (h5 : m = m') : Ending.returned (.tuple #[.agg #[.int .i64 a, .int .i64 b, .int .i64 c, .int .i64 d], .bool m]) = .returned (.tuple #[.agg #[.int .i64 a', .int .i64 b', .int .i64 c', .int .i64 d'], .bool m']) := by rw [h1, h2, h3, h4, h5]
theorem ret_w4 {a b c d a' b' c' d' : Int} (h1 : a = a') (h2 : b = b') (h3 : c = c') (h4 : d = d') : Ending.returned (.agg #[.int .i64 a, .int .i64 b, .int .i64 c, .int .i64 d]) = .returned (.agg #[.int .i64 a', .int .i64 b', .int .i64 c', .int .i64 d']) := by rw [h1, h2, h3, h4]
theorem neg_ne {d : Int} (h : d = 1 ∨ d = -1) : (-d == d) = false := by rcases h with rfl | rfl <;> rfl

set_option maxHeartbeats 4000000 in
theorem step_one (W H : Int) (A : Option Addr) (c : Nat) (zs : List Int) (x y dy : Int) (w : World) (hz : Ints w w.heap.size A zs) (hl : zs.length ≤ maxLen) (hv : validB W H zs = true) (h : walkB W H x y 1 dy = true) :
    Calls Try.prog 91 #[.agg #[.int .i64 W, .int .i64 H, .slice A zs.length c], .agg #[.int .i64 x, .int .i64 y, .int .i64 1, .int .i64 dy]] w fun e w' => e = .returned (.tuple #[.agg #[.int .i64 (x + 1), .int .i64 (y + dy), .int .i64 (stU W H zs x y 1 dy), .int .i64 (stV W H zs x y 1 dy)], .bool (stU W H zs x y 1 dy != 1 || stV W H zs x y 1 dy != dy)]) ∧ Below w.heap.size w w' := by
  obtain ⟨h1, h2, h3, h4⟩ := walk_parts h
  clear h1
  obtain ⟨sW, sH⟩ := valid_sides hv
  obtain ⟨x1, x2, y1, y2⟩ := hasP_bd h3
  obtain ⟨x3, x4, y3, y4⟩ := hasP_bd h4
  obtain ⟨w1, w2⟩ := side_bd sW
  obtain ⟨w3, w4⟩ := side_bd sH
  have HY := hid h2
  have b0 : -1 ≤ dy ∧ dy ≤ 1 := by omega
  obtain ⟨b1, b2⟩ := b0
  have HS := hid (And.intro sW sH)
  have SC := step_cases hv h
  clear h h2 h3 h4 sW sH hv
  unfold maxLen at hl
  rcases SC with ⟨c1, c2, c3⟩ | ⟨c1, c2, c3, c4⟩ | ⟨c1, c2, c3⟩ | ⟨c1, c2, c3, c4⟩ | ⟨⟨i1, i2, i3, i4, i5⟩, k, hk, hkl, hkz, c0 | c0 | c0⟩
  · have ex0 : (x + 1 == 0) = true := by simp; omega
    have ey0 : (y + dy == 0) = false := by simp; omega
    have eyh : (y + dy == 2 * H) = false := by simp; omega
    have HE : Hid (edgeP W H (x + 1) (y + dy) = true) := hid (by simp [edgeP, *])
    have HK : stK W H zs (x + 1) (y + dy) = 0 := by simp [stK, HE.out]
    have HV : Hid (stU W H zs x y 1 dy = -1 ∧ stV W H zs x y 1 dy = dy) := hid (by simp [stU, stV, HK, ex0, ey0, eyh])
    clear HK
    clear c1 c2 c3
    go_enter Try.func91, Try.ntmps91
    go_wp2_with fail
    refine (next_any x y 1 dy _ (by omega) (by omega) (by omega) (by omega) (by omega) (by omega) b1 b2).mono ?_
    rintro e w1 ⟨rfl, hb1⟩
    have KP1 : Hid (Box w1 (w.heap.size) 30 #[.int .i64 W, .int .i64 H, .slice A zs.length c]) := hid (Box.keep (Box.alloc (Box.alloc (Box.new' _ _ _ _ (by simp)) _) _) hb1)
    have KK1 : Hid (Box w1 (w.heap.size + 1) 52 #[.int .i64 x, .int .i64 y, .int .i64 1, .int .i64 dy]) := hid (Box.keep (Box.alloc (Box.new' _ _ _ _ (by simp)) _) hb1)
    have KR1 : Hid (Box w1 (w.heap.size + 2) 52 #[.int .i64 0, .int .i64 0, .int .i64 0, .int .i64 0]) := hid (Box.keep (Box.new' _ _ _ _ (by simp)) hb1)
    have HB1 : Hid (Below w.heap.size w w1) := hid (bstep (bal (bal (bal (Below.refl _ _) _) _) _) hb1)
    clear hb1
    obtain ⟨Pa, Pb, Pc⟩ := KP1.out.three
    have Pz := KP1.out.lt
    obtain ⟨Ka, Kb, Kc, Kd⟩ := KK1.out.four
    have Kz := KK1.out.lt
    obtain ⟨Ra, Rb, Rc, Rd⟩ := KR1.out.four
    have Rz := KR1.out.lt
    have Rf := KR1.out.free
    go_wp2_with fail
    have LP : w.heap.size < w1.heap.size := KP1.out.lt
    have LK : w.heap.size + 1 < w1.heap.size := KK1.out.lt
    have LR : w.heap.size + 2 < w1.heap.size := KR1.out.lt
    have n1 : ¬ (w1.heap.size = w.heap.size + 1) := by omega
    have n2 : ¬ (w.heap.size + 1 = w1.heap.size) := by omega
    have n3 : ¬ (w1.heap.size = w.heap.size) := by omega
    have n4 : ¬ (w.heap.size = w1.heap.size) := by omega
    refine (calls_bool (isBorder_any W H (x + 1) (y + dy) _ _ _ _ HS.out.1 HS.out.2) HE.out).mono ?_
    rintro e w2 ⟨rfl, hb2⟩
    clear Pa Pb Pc Pz Ka Kb Kc Kd Kz Ra Rb Rc Rd Rz Rf
    have KP2 : Hid (Box w2 (w.heap.size) 30 #[.int .i64 W, .int .i64 H, .slice A zs.length c]) := hid (Box.keep (Box.alloc (Box.alloc (KP1.out) _) _) hb2)
    have KK2 : Hid (Box w2 (w.heap.size + 1) 52 #[.int .i64 x, .int .i64 y, .int .i64 1, .int .i64 dy]) := hid (Box.keep (Box.alloc (Box.alloc (KK1.out) _) _) hb2)
    have KR2 : Hid (Box w2 (w.heap.size + 2) 52 #[.int .i64 0, .int .i64 0, .int .i64 0, .int .i64 0]) := hid (Box.keep (Box.alloc (Box.alloc (KR1.out) _) _) hb2)
    have KQ2 : Hid (Box w2 (w1.heap.size) 32 #[.int .i64 (x + 1), .int .i64 (y + dy)]) := hid (Box.keep (Box.alloc (Box.new' _ _ _ _ (by simp)) _) hb2)
    have KO2 : Hid (Box w2 (w1.heap.size + 1) 52 #[.int .i64 (x + 1), .int .i64 (y + dy), .int .i64 1, .int .i64 dy]) := hid (Box.keep (Box.new' _ _ _ _ (by simp)) hb2)
    have HB2 : Hid (Below w.heap.size w w2) := hid (bstep (bal (bal (HB1.out) _) _) hb2)
    clear hb2
    obtain ⟨Pa, Pb, Pc⟩ := KP2.out.three
    have Pz := KP2.out.lt
    obtain ⟨Ka, Kb, Kc, Kd⟩ := KK2.out.four
    have Kz := KK2.out.lt
    obtain ⟨Ra, Rb, Rc, Rd⟩ := KR2.out.four
    have Rz := KR2.out.lt
    have Rf := KR2.out.free
    obtain ⟨Qa, Qb⟩ := KQ2.out.two
    have Qz := KQ2.out.lt
    obtain ⟨Oa, Ob, Oc, Od⟩ := KO2.out.four
    have Oz := KO2.out.lt
    have Of := KO2.out.free
    go_wp2_with fail
    clear Pa Pb Pc Pz Ka Kb Kc Kd Kz Ra Rb Rc Rd Rz Rf Qa Qb Qz Oa Ob Oc Od Oz Of
    obtain ⟨w3, hw3⟩ : ∃ zz : World, zz = (w2.setCell ⟨w1.heap.size + 1, 2, none⟩ (.int .i64 (-1))) := ⟨_, rfl⟩
    rw [← hw3]
    have KP3 : Hid (Box w3 (w.heap.size) 30 #[.int .i64 W, .int .i64 H, .slice A zs.length c]) := by rw [hw3]; exact hid (Box.set (KP2.out) (by simp <;> omega) _)
    have KK3 : Hid (Box w3 (w.heap.size + 1) 52 #[.int .i64 x, .int .i64 y, .int .i64 1, .int .i64 dy]) := by rw [hw3]; exact hid (Box.set (KK2.out) (by simp <;> omega) _)
    have KR3 : Hid (Box w3 (w.heap.size + 2) 52 #[.int .i64 0, .int .i64 0, .int .i64 0, .int .i64 0]) := by rw [hw3]; exact hid (Box.set (KR2.out) (by simp <;> omega) _)
    have KQ3 : Hid (Box w3 (w1.heap.size) 32 #[.int .i64 (x + 1), .int .i64 (y + dy)]) := by rw [hw3]; exact hid (Box.set (KQ2.out) (by simp <;> omega) _)
    have KO3 : Hid (Box w3 (w1.heap.size + 1) 52 #[.int .i64 (x + 1), .int .i64 (y + dy), .int .i64 (-1), .int .i64 dy]) := by rw [hw3]; exact hid (Box.put (KO2.out) 2 _)
    have HB3 : Hid (Below w.heap.size w w3) := by rw [hw3]; exact hid (Below.setCell (HB2.out) (by simp <;> omega) _)
    clear hw3
    obtain ⟨Pa, Pb, Pc⟩ := KP3.out.three
    have Pz := KP3.out.lt
    obtain ⟨Ka, Kb, Kc, Kd⟩ := KK3.out.four
    have Kz := KK3.out.lt
    obtain ⟨Ra, Rb, Rc, Rd⟩ := KR3.out.four
    have Rz := KR3.out.lt
    have Rf := KR3.out.free
    obtain ⟨Qa, Qb⟩ := KQ3.out.two
    have Qz := KQ3.out.lt
    obtain ⟨Oa, Ob, Oc, Od⟩ := KO3.out.four
    have Oz := KO3.out.lt
    have Of := KO3.out.free
    go_region
    go_wp2_with fail
    have hbE := (HB3.out)
    refine bodyPost_ret (v := .tuple #[.agg #[.int .i64 (x + 1), .int .i64 (y + dy), .int .i64 (-1), .int .i64 (dy)], .bool true]) (by simp [results, Try.results91, go_sem, *]) rfl ⟨ret_ws rfl rfl HV.out.1.symm HV.out.2.symm (by rw [HV.out.1, HV.out.2]; simp [*]), (by (repeat (with_reducible first | exact Below.refl _ _ | assumption | refine below_drewN ?_ _ | refine Below.drew ?_ | refine Below.alloc ?_ ?_ _ | refine Below.setCell ?_ ?_ _)); all_goals (first | omega | (simp only [size_drewN, World.size_alloc, World.size_setCell, World.size_drew] at *; omega) | (simp; done) | (simp; omega)))⟩
  · have ex0 : (x + 1 == 0) = false := by simp; omega
    have exw : (x + 1 == 2 * W) = true := by simp; omega
    have ey0 : (y + dy == 0) = false := by simp; omega
    have eyh : (y + dy == 2 * H) = false := by simp; omega
    have HE : Hid (edgeP W H (x + 1) (y + dy) = true) := hid (by simp [edgeP, *])
    have HK : stK W H zs (x + 1) (y + dy) = 0 := by simp [stK, HE.out]
    have HV : Hid (stU W H zs x y 1 dy = -1 ∧ stV W H zs x y 1 dy = dy) := hid (by simp [stU, stV, HK, ex0, ey0, exw, eyh])
    clear HK
    clear c1 c2 c3 c4
    go_enter Try.func91, Try.ntmps91
    go_wp2_with fail
    refine (next_any x y 1 dy _ (by omega) (by omega) (by omega) (by omega) (by omega) (by omega) b1 b2).mono ?_
    rintro e w1 ⟨rfl, hb1⟩
    have KP1 : Hid (Box w1 (w.heap.size) 30 #[.int .i64 W, .int .i64 H, .slice A zs.length c]) := hid (Box.keep (Box.alloc (Box.alloc (Box.new' _ _ _ _ (by simp)) _) _) hb1)
    have KK1 : Hid (Box w1 (w.heap.size + 1) 52 #[.int .i64 x, .int .i64 y, .int .i64 1, .int .i64 dy]) := hid (Box.keep (Box.alloc (Box.new' _ _ _ _ (by simp)) _) hb1)
    have KR1 : Hid (Box w1 (w.heap.size + 2) 52 #[.int .i64 0, .int .i64 0, .int .i64 0, .int .i64 0]) := hid (Box.keep (Box.new' _ _ _ _ (by simp)) hb1)
    have HB1 : Hid (Below w.heap.size w w1) := hid (bstep (bal (bal (bal (Below.refl _ _) _) _) _) hb1)
    clear hb1
    obtain ⟨Pa, Pb, Pc⟩ := KP1.out.three
    have Pz := KP1.out.lt
    obtain ⟨Ka, Kb, Kc, Kd⟩ := KK1.out.four
    have Kz := KK1.out.lt
    obtain ⟨Ra, Rb, Rc, Rd⟩ := KR1.out.four
    have Rz := KR1.out.lt
    have Rf := KR1.out.free
    go_wp2_with fail
    have LP : w.heap.size < w1.heap.size := KP1.out.lt
    have LK : w.heap.size + 1 < w1.heap.size := KK1.out.lt
    have LR : w.heap.size + 2 < w1.heap.size := KR1.out.lt
    have n1 : ¬ (w1.heap.size = w.heap.size + 1) := by omega
    have n2 : ¬ (w.heap.size + 1 = w1.heap.size) := by omega
    have n3 : ¬ (w1.heap.size = w.heap.size) := by omega
    have n4 : ¬ (w.heap.size = w1.heap.size) := by omega
    refine (calls_bool (isBorder_any W H (x + 1) (y + dy) _ _ _ _ HS.out.1 HS.out.2) HE.out).mono ?_
    rintro e w2 ⟨rfl, hb2⟩
    clear Pa Pb Pc Pz Ka Kb Kc Kd Kz Ra Rb Rc Rd Rz Rf
    have KP2 : Hid (Box w2 (w.heap.size) 30 #[.int .i64 W, .int .i64 H, .slice A zs.length c]) := hid (Box.keep (Box.alloc (Box.alloc (KP1.out) _) _) hb2)
    have KK2 : Hid (Box w2 (w.heap.size + 1) 52 #[.int .i64 x, .int .i64 y, .int .i64 1, .int .i64 dy]) := hid (Box.keep (Box.alloc (Box.alloc (KK1.out) _) _) hb2)
    have KR2 : Hid (Box w2 (w.heap.size + 2) 52 #[.int .i64 0, .int .i64 0, .int .i64 0, .int .i64 0]) := hid (Box.keep (Box.alloc (Box.alloc (KR1.out) _) _) hb2)
    have KQ2 : Hid (Box w2 (w1.heap.size) 32 #[.int .i64 (x + 1), .int .i64 (y + dy)]) := hid (Box.keep (Box.alloc (Box.new' _ _ _ _ (by simp)) _) hb2)
    have KO2 : Hid (Box w2 (w1.heap.size + 1) 52 #[.int .i64 (x + 1), .int .i64 (y + dy), .int .i64 1, .int .i64 dy]) := hid (Box.keep (Box.new' _ _ _ _ (by simp)) hb2)
    have HB2 : Hid (Below w.heap.size w w2) := hid (bstep (bal (bal (HB1.out) _) _) hb2)
    clear hb2
    obtain ⟨Pa, Pb, Pc⟩ := KP2.out.three
    have Pz := KP2.out.lt
    obtain ⟨Ka, Kb, Kc, Kd⟩ := KK2.out.four
    have Kz := KK2.out.lt
    obtain ⟨Ra, Rb, Rc, Rd⟩ := KR2.out.four
    have Rz := KR2.out.lt
    have Rf := KR2.out.free
    obtain ⟨Qa, Qb⟩ := KQ2.out.two
    have Qz := KQ2.out.lt
    obtain ⟨Oa, Ob, Oc, Od⟩ := KO2.out.four
    have Oz := KO2.out.lt
    have Of := KO2.out.free
    go_wp2_with fail
    clear Pa Pb Pc Pz Ka Kb Kc Kd Kz Ra Rb Rc Rd Rz Rf Qa Qb Qz Oa Ob Oc Od Oz Of
    obtain ⟨w3, hw3⟩ : ∃ zz : World, zz = (w2.setCell ⟨w1.heap.size + 1, 2, none⟩ (.int .i64 (-1))) := ⟨_, rfl⟩
    rw [← hw3]
    have KP3 : Hid (Box w3 (w.heap.size) 30 #[.int .i64 W, .int .i64 H, .slice A zs.length c]) := by rw [hw3]; exact hid (Box.set (KP2.out) (by simp <;> omega) _)
    have KK3 : Hid (Box w3 (w.heap.size + 1) 52 #[.int .i64 x, .int .i64 y, .int .i64 1, .int .i64 dy]) := by rw [hw3]; exact hid (Box.set (KK2.out) (by simp <;> omega) _)
    have KR3 : Hid (Box w3 (w.heap.size + 2) 52 #[.int .i64 0, .int .i64 0, .int .i64 0, .int .i64 0]) := by rw [hw3]; exact hid (Box.set (KR2.out) (by simp <;> omega) _)
    have KQ3 : Hid (Box w3 (w1.heap.size) 32 #[.int .i64 (x + 1), .int .i64 (y + dy)]) := by rw [hw3]; exact hid (Box.set (KQ2.out) (by simp <;> omega) _)
    have KO3 : Hid (Box w3 (w1.heap.size + 1) 52 #[.int .i64 (x + 1), .int .i64 (y + dy), .int .i64 (-1), .int .i64 dy]) := by rw [hw3]; exact hid (Box.put (KO2.out) 2 _)
    have HB3 : Hid (Below w.heap.size w w3) := by rw [hw3]; exact hid (Below.setCell (HB2.out) (by simp <;> omega) _)
    clear hw3
    obtain ⟨Pa, Pb, Pc⟩ := KP3.out.three
    have Pz := KP3.out.lt
    obtain ⟨Ka, Kb, Kc, Kd⟩ := KK3.out.four
    have Kz := KK3.out.lt
    obtain ⟨Ra, Rb, Rc, Rd⟩ := KR3.out.four
    have Rz := KR3.out.lt
    have Rf := KR3.out.free
    obtain ⟨Qa, Qb⟩ := KQ3.out.two
    have Qz := KQ3.out.lt
    obtain ⟨Oa, Ob, Oc, Od⟩ := KO3.out.four
    have Oz := KO3.out.lt
    have Of := KO3.out.free
    go_region
    go_wp2_with fail
    have hbE := (HB3.out)
    refine bodyPost_ret (v := .tuple #[.agg #[.int .i64 (x + 1), .int .i64 (y + dy), .int .i64 (-1), .int .i64 (dy)], .bool true]) (by simp [results, Try.results91, go_sem, *]) rfl ⟨ret_ws rfl rfl HV.out.1.symm HV.out.2.symm (by rw [HV.out.1, HV.out.2]; simp [*]), (by (repeat (with_reducible first | exact Below.refl _ _ | assumption | refine below_drewN ?_ _ | refine Below.drew ?_ | refine Below.alloc ?_ ?_ _ | refine Below.setCell ?_ ?_ _)); all_goals (first | omega | (simp only [size_drewN, World.size_alloc, World.size_setCell, World.size_drew] at *; omega) | (simp; done) | (simp; omega)))⟩
  · have ex0 : (x + 1 == 0) = false := by simp; omega
    have exw : (x + 1 == 2 * W) = false := by simp; omega
    have ey0 : (y + dy == 0) = true := by simp; omega
    have HE : Hid (edgeP W H (x + 1) (y + dy) = true) := hid (by simp [edgeP, *])
    have HK : stK W H zs (x + 1) (y + dy) = 0 := by simp [stK, HE.out]
    have HV : Hid (stU W H zs x y 1 dy = 1 ∧ stV W H zs x y 1 dy = -dy) := hid (by simp [stU, stV, HK, ex0, ey0, exw])
    clear HK
    have t2 : IntKind.i64.wrap (-dy) = -dy := IntWalk.i64_in _ (by omega)
    have ny := neg_ne HY.out
    have nyp : ¬ (-dy = dy) := by simpa using ny
    clear c1 c2 c3
    go_enter Try.func91, Try.ntmps91
    go_wp2_with fail
    refine (next_any x y 1 dy _ (by omega) (by omega) (by omega) (by omega) (by omega) (by omega) b1 b2).mono ?_
    rintro e w1 ⟨rfl, hb1⟩
    have KP1 : Hid (Box w1 (w.heap.size) 30 #[.int .i64 W, .int .i64 H, .slice A zs.length c]) := hid (Box.keep (Box.alloc (Box.alloc (Box.new' _ _ _ _ (by simp)) _) _) hb1)
    have KK1 : Hid (Box w1 (w.heap.size + 1) 52 #[.int .i64 x, .int .i64 y, .int .i64 1, .int .i64 dy]) := hid (Box.keep (Box.alloc (Box.new' _ _ _ _ (by simp)) _) hb1)
    have KR1 : Hid (Box w1 (w.heap.size + 2) 52 #[.int .i64 0, .int .i64 0, .int .i64 0, .int .i64 0]) := hid (Box.keep (Box.new' _ _ _ _ (by simp)) hb1)
    have HB1 : Hid (Below w.heap.size w w1) := hid (bstep (bal (bal (bal (Below.refl _ _) _) _) _) hb1)
    clear hb1
    obtain ⟨Pa, Pb, Pc⟩ := KP1.out.three
    have Pz := KP1.out.lt
    obtain ⟨Ka, Kb, Kc, Kd⟩ := KK1.out.four
    have Kz := KK1.out.lt
    obtain ⟨Ra, Rb, Rc, Rd⟩ := KR1.out.four
    have Rz := KR1.out.lt
    have Rf := KR1.out.free
    go_wp2_with fail
    have LP : w.heap.size < w1.heap.size := KP1.out.lt
    have LK : w.heap.size + 1 < w1.heap.size := KK1.out.lt
    have LR : w.heap.size + 2 < w1.heap.size := KR1.out.lt
    have n1 : ¬ (w1.heap.size = w.heap.size + 1) := by omega
    have n2 : ¬ (w.heap.size + 1 = w1.heap.size) := by omega
    have n3 : ¬ (w1.heap.size = w.heap.size) := by omega
    have n4 : ¬ (w.heap.size = w1.heap.size) := by omega
    refine (calls_bool (isBorder_any W H (x + 1) (y + dy) _ _ _ _ HS.out.1 HS.out.2) HE.out).mono ?_
    rintro e w2 ⟨rfl, hb2⟩
    clear Pa Pb Pc Pz Ka Kb Kc Kd Kz Ra Rb Rc Rd Rz Rf
    have KP2 : Hid (Box w2 (w.heap.size) 30 #[.int .i64 W, .int .i64 H, .slice A zs.length c]) := hid (Box.keep (Box.alloc (Box.alloc (KP1.out) _) _) hb2)
    have KK2 : Hid (Box w2 (w.heap.size + 1) 52 #[.int .i64 x, .int .i64 y, .int .i64 1, .int .i64 dy]) := hid (Box.keep (Box.alloc (Box.alloc (KK1.out) _) _) hb2)
    have KR2 : Hid (Box w2 (w.heap.size + 2) 52 #[.int .i64 0, .int .i64 0, .int .i64 0, .int .i64 0]) := hid (Box.keep (Box.alloc (Box.alloc (KR1.out) _) _) hb2)
    have KQ2 : Hid (Box w2 (w1.heap.size) 32 #[.int .i64 (x + 1), .int .i64 (y + dy)]) := hid (Box.keep (Box.alloc (Box.new' _ _ _ _ (by simp)) _) hb2)
    have KO2 : Hid (Box w2 (w1.heap.size + 1) 52 #[.int .i64 (x + 1), .int .i64 (y + dy), .int .i64 1, .int .i64 dy]) := hid (Box.keep (Box.new' _ _ _ _ (by simp)) hb2)
    have HB2 : Hid (Below w.heap.size w w2) := hid (bstep (bal (bal (HB1.out) _) _) hb2)
    clear hb2
    obtain ⟨Pa, Pb, Pc⟩ := KP2.out.three
    have Pz := KP2.out.lt
    obtain ⟨Ka, Kb, Kc, Kd⟩ := KK2.out.four
    have Kz := KK2.out.lt
    obtain ⟨Ra, Rb, Rc, Rd⟩ := KR2.out.four
    have Rz := KR2.out.lt
    have Rf := KR2.out.free
    obtain ⟨Qa, Qb⟩ := KQ2.out.two
    have Qz := KQ2.out.lt
    obtain ⟨Oa, Ob, Oc, Od⟩ := KO2.out.four
    have Oz := KO2.out.lt
    have Of := KO2.out.free
    go_wp2_with fail
    clear Pa Pb Pc Pz Ka Kb Kc Kd Kz Ra Rb Rc Rd Rz Rf Qa Qb Qz Oa Ob Oc Od Oz Of
    obtain ⟨w3, hw3⟩ : ∃ zz : World, zz = (w2.setCell ⟨w1.heap.size + 1, 3, none⟩ (.int .i64 (-dy))) := ⟨_, rfl⟩
    rw [← hw3]
    have KP3 : Hid (Box w3 (w.heap.size) 30 #[.int .i64 W, .int .i64 H, .slice A zs.length c]) := by rw [hw3]; exact hid (Box.set (KP2.out) (by simp <;> omega) _)
    have KK3 : Hid (Box w3 (w.heap.size + 1) 52 #[.int .i64 x, .int .i64 y, .int .i64 1, .int .i64 dy]) := by rw [hw3]; exact hid (Box.set (KK2.out) (by simp <;> omega) _)
    have KR3 : Hid (Box w3 (w.heap.size + 2) 52 #[.int .i64 0, .int .i64 0, .int .i64 0, .int .i64 0]) := by rw [hw3]; exact hid (Box.set (KR2.out) (by simp <;> omega) _)
    have KQ3 : Hid (Box w3 (w1.heap.size) 32 #[.int .i64 (x + 1), .int .i64 (y + dy)]) := by rw [hw3]; exact hid (Box.set (KQ2.out) (by simp <;> omega) _)
    have KO3 : Hid (Box w3 (w1.heap.size + 1) 52 #[.int .i64 (x + 1), .int .i64 (y + dy), .int .i64 1, .int .i64 (-dy)]) := by rw [hw3]; exact hid (Box.put (KO2.out) 3 _)
    have HB3 : Hid (Below w.heap.size w w3) := by rw [hw3]; exact hid (Below.setCell (HB2.out) (by simp <;> omega) _)
    clear hw3
    obtain ⟨Pa, Pb, Pc⟩ := KP3.out.three
    have Pz := KP3.out.lt
    obtain ⟨Ka, Kb, Kc, Kd⟩ := KK3.out.four
    have Kz := KK3.out.lt
    obtain ⟨Ra, Rb, Rc, Rd⟩ := KR3.out.four
    have Rz := KR3.out.lt
    have Rf := KR3.out.free
    obtain ⟨Qa, Qb⟩ := KQ3.out.two
    have Qz := KQ3.out.lt
    obtain ⟨Oa, Ob, Oc, Od⟩ := KO3.out.four
    have Oz := KO3.out.lt
    have Of := KO3.out.free
    go_region
    go_wp2_with fail
    have hbE := (HB3.out)
    refine bodyPost_ret (v := .tuple #[.agg #[.int .i64 (x + 1), .int .i64 (y + dy), .int .i64 1, .int .i64 (-dy)], .bool true]) (by simp [results, Try.results91, go_sem, *]) rfl ⟨ret_ws rfl rfl HV.out.1.symm HV.out.2.symm (by rw [HV.out.1, HV.out.2]; simp [*]), (by (repeat (with_reducible first | exact Below.refl _ _ | assumption | refine below_drewN ?_ _ | refine Below.drew ?_ | refine Below.alloc ?_ ?_ _ | refine Below.setCell ?_ ?_ _)); all_goals (first | omega | (simp only [size_drewN, World.size_alloc, World.size_setCell, World.size_drew] at *; omega) | (simp; done) | (simp; omega)))⟩
  · have ex0 : (x + 1 == 0) = false := by simp; omega
    have exw : (x + 1 == 2 * W) = false := by simp; omega
    have ey0 : (y + dy == 0) = false := by simp; omega
    have eyh : (y + dy == 2 * H) = true := by simp; omega
    have HE : Hid (edgeP W H (x + 1) (y + dy) = true) := hid (by simp [edgeP, *])
    have HK : stK W H zs (x + 1) (y + dy) = 0 := by simp [stK, HE.out]
    have HV : Hid (stU W H zs x y 1 dy = 1 ∧ stV W H zs x y 1 dy = -dy) := hid (by simp [stU, stV, HK, ex0, ey0, exw, eyh])
    clear HK
    have t2 : IntKind.i64.wrap (-dy) = -dy := IntWalk.i64_in _ (by omega)
    have ny := neg_ne HY.out
    have nyp : ¬ (-dy = dy) := by simpa using ny
    clear c1 c2 c3 c4
    go_enter Try.func91, Try.ntmps91
    go_wp2_with fail
    refine (next_any x y 1 dy _ (by omega) (by omega) (by omega) (by omega) (by omega) (by omega) b1 b2).mono ?_
    rintro e w1 ⟨rfl, hb1⟩
    have KP1 : Hid (Box w1 (w.heap.size) 30 #[.int .i64 W, .int .i64 H, .slice A zs.length c]) := hid (Box.keep (Box.alloc (Box.alloc (Box.new' _ _ _ _ (by simp)) _) _) hb1)
    have KK1 : Hid (Box w1 (w.heap.size + 1) 52 #[.int .i64 x, .int .i64 y, .int .i64 1, .int .i64 dy]) := hid (Box.keep (Box.alloc (Box.new' _ _ _ _ (by simp)) _) hb1)
    have KR1 : Hid (Box w1 (w.heap.size + 2) 52 #[.int .i64 0, .int .i64 0, .int .i64 0, .int .i64 0]) := hid (Box.keep (Box.new' _ _ _ _ (by simp)) hb1)
    have HB1 : Hid (Below w.heap.size w w1) := hid (bstep (bal (bal (bal (Below.refl _ _) _) _) _) hb1)
    clear hb1
    obtain ⟨Pa, Pb, Pc⟩ := KP1.out.three
    have Pz := KP1.out.lt
    obtain ⟨Ka, Kb, Kc, Kd⟩ := KK1.out.four
    have Kz := KK1.out.lt
    obtain ⟨Ra, Rb, Rc, Rd⟩ := KR1.out.four
    have Rz := KR1.out.lt
    have Rf := KR1.out.free
    go_wp2_with fail
    have LP : w.heap.size < w1.heap.size := KP1.out.lt
    have LK : w.heap.size + 1 < w1.heap.size := KK1.out.lt
    have LR : w.heap.size + 2 < w1.heap.size := KR1.out.lt
    have n1 : ¬ (w1.heap.size = w.heap.size + 1) := by omega
    have n2 : ¬ (w.heap.size + 1 = w1.heap.size) := by omega
    have n3 : ¬ (w1.heap.size = w.heap.size) := by omega
    have n4 : ¬ (w.heap.size = w1.heap.size) := by omega
    refine (calls_bool (isBorder_any W H (x + 1) (y + dy) _ _ _ _ HS.out.1 HS.out.2) HE.out).mono ?_
    rintro e w2 ⟨rfl, hb2⟩
    clear Pa Pb Pc Pz Ka Kb Kc Kd Kz Ra Rb Rc Rd Rz Rf
    have KP2 : Hid (Box w2 (w.heap.size) 30 #[.int .i64 W, .int .i64 H, .slice A zs.length c]) := hid (Box.keep (Box.alloc (Box.alloc (KP1.out) _) _) hb2)
    have KK2 : Hid (Box w2 (w.heap.size + 1) 52 #[.int .i64 x, .int .i64 y, .int .i64 1, .int .i64 dy]) := hid (Box.keep (Box.alloc (Box.alloc (KK1.out) _) _) hb2)
    have KR2 : Hid (Box w2 (w.heap.size + 2) 52 #[.int .i64 0, .int .i64 0, .int .i64 0, .int .i64 0]) := hid (Box.keep (Box.alloc (Box.alloc (KR1.out) _) _) hb2)
    have KQ2 : Hid (Box w2 (w1.heap.size) 32 #[.int .i64 (x + 1), .int .i64 (y + dy)]) := hid (Box.keep (Box.alloc (Box.new' _ _ _ _ (by simp)) _) hb2)
    have KO2 : Hid (Box w2 (w1.heap.size + 1) 52 #[.int .i64 (x + 1), .int .i64 (y + dy), .int .i64 1, .int .i64 dy]) := hid (Box.keep (Box.new' _ _ _ _ (by simp)) hb2)
    have HB2 : Hid (Below w.heap.size w w2) := hid (bstep (bal (bal (HB1.out) _) _) hb2)
    clear hb2
    obtain ⟨Pa, Pb, Pc⟩ := KP2.out.three
    have Pz := KP2.out.lt
    obtain ⟨Ka, Kb, Kc, Kd⟩ := KK2.out.four
    have Kz := KK2.out.lt
    obtain ⟨Ra, Rb, Rc, Rd⟩ := KR2.out.four
    have Rz := KR2.out.lt
    have Rf := KR2.out.free
    obtain ⟨Qa, Qb⟩ := KQ2.out.two
    have Qz := KQ2.out.lt
    obtain ⟨Oa, Ob, Oc, Od⟩ := KO2.out.four
    have Oz := KO2.out.lt
    have Of := KO2.out.free
    go_wp2_with fail
    clear Pa Pb Pc Pz Ka Kb Kc Kd Kz Ra Rb Rc Rd Rz Rf Qa Qb Qz Oa Ob Oc Od Oz Of
    obtain ⟨w3, hw3⟩ : ∃ zz : World, zz = (w2.setCell ⟨w1.heap.size + 1, 3, none⟩ (.int .i64 (-dy))) := ⟨_, rfl⟩
    rw [← hw3]
    have KP3 : Hid (Box w3 (w.heap.size) 30 #[.int .i64 W, .int .i64 H, .slice A zs.length c]) := by rw [hw3]; exact hid (Box.set (KP2.out) (by simp <;> omega) _)
    have KK3 : Hid (Box w3 (w.heap.size + 1) 52 #[.int .i64 x, .int .i64 y, .int .i64 1, .int .i64 dy]) := by rw [hw3]; exact hid (Box.set (KK2.out) (by simp <;> omega) _)
    have KR3 : Hid (Box w3 (w.heap.size + 2) 52 #[.int .i64 0, .int .i64 0, .int .i64 0, .int .i64 0]) := by rw [hw3]; exact hid (Box.set (KR2.out) (by simp <;> omega) _)
    have KQ3 : Hid (Box w3 (w1.heap.size) 32 #[.int .i64 (x + 1), .int .i64 (y + dy)]) := by rw [hw3]; exact hid (Box.set (KQ2.out) (by simp <;> omega) _)
    have KO3 : Hid (Box w3 (w1.heap.size + 1) 52 #[.int .i64 (x + 1), .int .i64 (y + dy), .int .i64 1, .int .i64 (-dy)]) := by rw [hw3]; exact hid (Box.put (KO2.out) 3 _)
    have HB3 : Hid (Below w.heap.size w w3) := by rw [hw3]; exact hid (Below.setCell (HB2.out) (by simp <;> omega) _)
    clear hw3
    obtain ⟨Pa, Pb, Pc⟩ := KP3.out.three
    have Pz := KP3.out.lt
    obtain ⟨Ka, Kb, Kc, Kd⟩ := KK3.out.four
    have Kz := KK3.out.lt
    obtain ⟨Ra, Rb, Rc, Rd⟩ := KR3.out.four
    have Rz := KR3.out.lt
    have Rf := KR3.out.free
    obtain ⟨Qa, Qb⟩ := KQ3.out.two
    have Qz := KQ3.out.lt
    obtain ⟨Oa, Ob, Oc, Od⟩ := KO3.out.four
    have Oz := KO3.out.lt
    have Of := KO3.out.free
    go_region
    go_wp2_with fail
    have hbE := (HB3.out)
    refine bodyPost_ret (v := .tuple #[.agg #[.int .i64 (x + 1), .int .i64 (y + dy), .int .i64 1, .int .i64 (-dy)], .bool true]) (by simp [results, Try.results91, go_sem, *]) rfl ⟨ret_ws rfl rfl HV.out.1.symm HV.out.2.symm (by rw [HV.out.1, HV.out.2]; simp [*]), (by (repeat (with_reducible first | exact Below.refl _ _ | assumption | refine below_drewN ?_ _ | refine Below.drew ?_ | refine Below.alloc ?_ ?_ _ | refine Below.setCell ?_ ?_ _)); all_goals (first | omega | (simp only [size_drewN, World.size_alloc, World.size_setCell, World.size_drew] at *; omega) | (simp; done) | (simp; omega)))⟩
  · have ex0 : (x + 1 == 0) = false := by simp; omega
    have exw : (x + 1 == 2 * W) = false := by simp; omega
    have ey0 : (y + dy == 0) = false := by simp; omega
    have eyh : (y + dy == 2 * H) = false := by simp; omega
    have HE : Hid (edgeP W H (x + 1) (y + dy) = false) := hid (by simp [edgeP, *])
    have HK : stK W H zs (x + 1) (y + dy) = 0 := by simp [stK, HE.out, c0]
    have HV : Hid (stU W H zs x y 1 dy = 1 ∧ stV W H zs x y 1 dy = dy) := hid (by simp [stU, stV, HK, ex0, ey0, exw, eyh])
    clear HK
    obtain ⟨bb, off, rfl⟩ := hz.isSome hkz
    rw [c0] at hkz
    have HZ := hid hkz
    have HN := hid hk
    have HI5 := hid i5
    clear hkz hk c0 i5
    go_enter Try.func91, Try.ntmps91
    go_wp2_with fail
    refine (next_any x y 1 dy _ (by omega) (by omega) (by omega) (by omega) (by omega) (by omega) b1 b2).mono ?_
    rintro e w1 ⟨rfl, hb1⟩
    have KP1 : Hid (Box w1 (w.heap.size) 30 #[.int .i64 W, .int .i64 H, .slice (some ⟨bb, off, none⟩) zs.length c]) := hid (Box.keep (Box.alloc (Box.alloc (Box.new' _ _ _ _ (by simp)) _) _) hb1)
    have KK1 : Hid (Box w1 (w.heap.size + 1) 52 #[.int .i64 x, .int .i64 y, .int .i64 1, .int .i64 dy]) := hid (Box.keep (Box.alloc (Box.new' _ _ _ _ (by simp)) _) hb1)
    have KR1 : Hid (Box w1 (w.heap.size + 2) 52 #[.int .i64 0, .int .i64 0, .int .i64 0, .int .i64 0]) := hid (Box.keep (Box.new' _ _ _ _ (by simp)) hb1)
    have HB1 : Hid (Below w.heap.size w w1) := hid (bstep (bal (bal (bal (Below.refl _ _) _) _) _) hb1)
    clear hb1
    obtain ⟨Pa, Pb, Pc⟩ := KP1.out.three
    have Pz := KP1.out.lt
    obtain ⟨Ka, Kb, Kc, Kd⟩ := KK1.out.four
    have Kz := KK1.out.lt
    obtain ⟨Ra, Rb, Rc, Rd⟩ := KR1.out.four
    have Rz := KR1.out.lt
    have Rf := KR1.out.free
    go_wp2_with fail
    have LP : w.heap.size < w1.heap.size := KP1.out.lt
    have LK : w.heap.size + 1 < w1.heap.size := KK1.out.lt
    have LR : w.heap.size + 2 < w1.heap.size := KR1.out.lt
    have n1 : ¬ (w1.heap.size = w.heap.size + 1) := by omega
    have n2 : ¬ (w.heap.size + 1 = w1.heap.size) := by omega
    have n3 : ¬ (w1.heap.size = w.heap.size) := by omega
    have n4 : ¬ (w.heap.size = w1.heap.size) := by omega
    refine (calls_bool (isBorder_any W H (x + 1) (y + dy) _ _ _ _ HS.out.1 HS.out.2) HE.out).mono ?_
    rintro e w2 ⟨rfl, hb2⟩
    clear Pa Pb Pc Pz Ka Kb Kc Kd Kz Ra Rb Rc Rd Rz Rf
    have KP2 : Hid (Box w2 (w.heap.size) 30 #[.int .i64 W, .int .i64 H, .slice (some ⟨bb, off, none⟩) zs.length c]) := hid (Box.keep (Box.alloc (Box.alloc (KP1.out) _) _) hb2)
    have KK2 : Hid (Box w2 (w.heap.size + 1) 52 #[.int .i64 x, .int .i64 y, .int .i64 1, .int .i64 dy]) := hid (Box.keep (Box.alloc (Box.alloc (KK1.out) _) _) hb2)
    have KR2 : Hid (Box w2 (w.heap.size + 2) 52 #[.int .i64 0, .int .i64 0, .int .i64 0, .int .i64 0]) := hid (Box.keep (Box.alloc (Box.alloc (KR1.out) _) _) hb2)
    have KQ2 : Hid (Box w2 (w1.heap.size) 32 #[.int .i64 (x + 1), .int .i64 (y + dy)]) := hid (Box.keep (Box.alloc (Box.new' _ _ _ _ (by simp)) _) hb2)
    have KO2 : Hid (Box w2 (w1.heap.size + 1) 52 #[.int .i64 (x + 1), .int .i64 (y + dy), .int .i64 1, .int .i64 dy]) := hid (Box.keep (Box.new' _ _ _ _ (by simp)) hb2)
    have HB2 : Hid (Below w.heap.size w w2) := hid (bstep (bal (bal (HB1.out) _) _) hb2)
    clear hb2
    obtain ⟨Pa, Pb, Pc⟩ := KP2.out.three
    have Pz := KP2.out.lt
    obtain ⟨Ka, Kb, Kc, Kd⟩ := KK2.out.four
    have Kz := KK2.out.lt
    obtain ⟨Ra, Rb, Rc, Rd⟩ := KR2.out.four
    have Rz := KR2.out.lt
    have Rf := KR2.out.free
    obtain ⟨Qa, Qb⟩ := KQ2.out.two
    have Qz := KQ2.out.lt
    obtain ⟨Oa, Ob, Oc, Od⟩ := KO2.out.four
    have Oz := KO2.out.lt
    have Of := KO2.out.free
    go_wp2_with fail
    obtain ⟨hbb, hcc⟩ := (hz.below (HB2.out)).at HZ.out
    have bbz : bb < w2.heap.size := by have := (HB2.out).size; omega
    refine wp_region_mix (w2.heap.size) (by kernel_rfl) (by kernel_rfl) ?_
    repeat (any_goals (go_big_quiet_step ((first | (go_at_call 98; exact mix_call (by simp) (calls_int0 (number_any W H (x + 1) (y + dy) _ _ _ _ HS.out.1 HS.out.2 i1 i2 i3 i4 HI5.out) HN.out))))))
    refine wpQuiet_nil ?_
    intro w3 hx3
    have hb3 : Below _ _ w3 := mix_ex hx3
    clear hx3
    clear Pa Pb Pc Pz Ka Kb Kc Kd Kz Ra Rb Rc Rd Rz Rf Qa Qb Qz Oa Ob Oc Od Oz Of
    have KP3 : Hid (Box w3 (w.heap.size) 30 #[.int .i64 W, .int .i64 H, .slice (some ⟨bb, off, none⟩) zs.length c]) := hid (Box.keep (KP2.out) hb3)
    have KK3 : Hid (Box w3 (w.heap.size + 1) 52 #[.int .i64 x, .int .i64 y, .int .i64 1, .int .i64 dy]) := hid (Box.keep (KK2.out) hb3)
    have KR3 : Hid (Box w3 (w.heap.size + 2) 52 #[.int .i64 0, .int .i64 0, .int .i64 0, .int .i64 0]) := hid (Box.keep (KR2.out) hb3)
    have KQ3 : Hid (Box w3 (w1.heap.size) 32 #[.int .i64 (x + 1), .int .i64 (y + dy)]) := hid (Box.keep (KQ2.out) hb3)
    have KO3 : Hid (Box w3 (w1.heap.size + 1) 52 #[.int .i64 (x + 1), .int .i64 (y + dy), .int .i64 1, .int .i64 dy]) := hid (Box.keep (KO2.out) hb3)
    have HB3 : Hid (Below w.heap.size w w3) := hid (bstep (HB2.out) hb3)
    clear hb3
    obtain ⟨Pa, Pb, Pc⟩ := KP3.out.three
    have Pz := KP3.out.lt
    obtain ⟨Ka, Kb, Kc, Kd⟩ := KK3.out.four
    have Kz := KK3.out.lt
    obtain ⟨Ra, Rb, Rc, Rd⟩ := KR3.out.four
    have Rz := KR3.out.lt
    have Rf := KR3.out.free
    obtain ⟨Qa, Qb⟩ := KQ3.out.two
    have Qz := KQ3.out.lt
    obtain ⟨Oa, Ob, Oc, Od⟩ := KO3.out.four
    have Oz := KO3.out.lt
    have Of := KO3.out.free
    go_wp2_with fail
    clear Pa Pb Pc Pz Ka Kb Kc Kd Kz Ra Rb Rc Rd Rz Rf Qa Qb Qz Oa Ob Oc Od Oz Of
    obtain ⟨w4, hw4⟩ : ∃ zz : World, zz = w3 := ⟨_, rfl⟩
    rw [← hw4]
    have KP4 : Hid (Box w4 (w.heap.size) 30 #[.int .i64 W, .int .i64 H, .slice (some ⟨bb, off, none⟩) zs.length c]) := by rw [hw4]; exact hid (KP3.out)
    have KK4 : Hid (Box w4 (w.heap.size + 1) 52 #[.int .i64 x, .int .i64 y, .int .i64 1, .int .i64 dy]) := by rw [hw4]; exact hid (KK3.out)
    have KR4 : Hid (Box w4 (w.heap.size + 2) 52 #[.int .i64 0, .int .i64 0, .int .i64 0, .int .i64 0]) := by rw [hw4]; exact hid (KR3.out)
    have KQ4 : Hid (Box w4 (w1.heap.size) 32 #[.int .i64 (x + 1), .int .i64 (y + dy)]) := by rw [hw4]; exact hid (KQ3.out)
    have KO4 : Hid (Box w4 (w1.heap.size + 1) 52 #[.int .i64 (x + 1), .int .i64 (y + dy), .int .i64 1, .int .i64 dy]) := by rw [hw4]; exact hid (KO3.out)
    have HB4 : Hid (Below w.heap.size w w4) := by rw [hw4]; exact hid (HB3.out)
    clear hw4
    obtain ⟨Pa, Pb, Pc⟩ := KP4.out.three
    have Pz := KP4.out.lt
    obtain ⟨Ka, Kb, Kc, Kd⟩ := KK4.out.four
    have Kz := KK4.out.lt
    obtain ⟨Ra, Rb, Rc, Rd⟩ := KR4.out.four
    have Rz := KR4.out.lt
    have Rf := KR4.out.free
    obtain ⟨Qa, Qb⟩ := KQ4.out.two
    have Qz := KQ4.out.lt
    obtain ⟨Oa, Ob, Oc, Od⟩ := KO4.out.four
    have Oz := KO4.out.lt
    have Of := KO4.out.free
    go_region
    go_wp2_with fail
    have hbE := (HB4.out)
    refine bodyPost_ret (v := .tuple #[.agg #[.int .i64 (x + 1), .int .i64 (y + dy), .int .i64 1, .int .i64 (dy)], .bool false]) (by simp [results, Try.results91, go_sem, *]) rfl ⟨ret_ws rfl rfl HV.out.1.symm HV.out.2.symm (by rw [HV.out.1, HV.out.2]; simp [*]), (by (repeat (with_reducible first | exact Below.refl _ _ | assumption | refine below_drewN ?_ _ | refine Below.drew ?_ | refine Below.alloc ?_ ?_ _ | refine Below.setCell ?_ ?_ _)); all_goals (first | omega | (simp only [size_drewN, World.size_alloc, World.size_setCell, World.size_drew] at *; omega) | (simp; done) | (simp; omega)))⟩
  · have ex0 : (x + 1 == 0) = false := by simp; omega
    have exw : (x + 1 == 2 * W) = false := by simp; omega
    have ey0 : (y + dy == 0) = false := by simp; omega
    have eyh : (y + dy == 2 * H) = false := by simp; omega
    have HE : Hid (edgeP W H (x + 1) (y + dy) = false) := hid (by simp [edgeP, *])
    have HK : stK W H zs (x + 1) (y + dy) = 1 := by simp [stK, HE.out, c0]
    have HV : Hid (stU W H zs x y 1 dy = -1 ∧ stV W H zs x y 1 dy = dy) := hid (by simp [stU, stV, HK, ex0, ey0, exw, eyh])
    clear HK
    obtain ⟨bb, off, rfl⟩ := hz.isSome hkz
    rw [c0] at hkz
    have HZ := hid hkz
    have HN := hid hk
    have HI5 := hid i5
    clear hkz hk c0 i5
    go_enter Try.func91, Try.ntmps91
    go_wp2_with fail
    refine (next_any x y 1 dy _ (by omega) (by omega) (by omega) (by omega) (by omega) (by omega) b1 b2).mono ?_
    rintro e w1 ⟨rfl, hb1⟩
    have KP1 : Hid (Box w1 (w.heap.size) 30 #[.int .i64 W, .int .i64 H, .slice (some ⟨bb, off, none⟩) zs.length c]) := hid (Box.keep (Box.alloc (Box.alloc (Box.new' _ _ _ _ (by simp)) _) _) hb1)
    have KK1 : Hid (Box w1 (w.heap.size + 1) 52 #[.int .i64 x, .int .i64 y, .int .i64 1, .int .i64 dy]) := hid (Box.keep (Box.alloc (Box.new' _ _ _ _ (by simp)) _) hb1)
    have KR1 : Hid (Box w1 (w.heap.size + 2) 52 #[.int .i64 0, .int .i64 0, .int .i64 0, .int .i64 0]) := hid (Box.keep (Box.new' _ _ _ _ (by simp)) hb1)
    have HB1 : Hid (Below w.heap.size w w1) := hid (bstep (bal (bal (bal (Below.refl _ _) _) _) _) hb1)
    clear hb1
    obtain ⟨Pa, Pb, Pc⟩ := KP1.out.three
    have Pz := KP1.out.lt
    obtain ⟨Ka, Kb, Kc, Kd⟩ := KK1.out.four
    have Kz := KK1.out.lt
    obtain ⟨Ra, Rb, Rc, Rd⟩ := KR1.out.four
    have Rz := KR1.out.lt
    have Rf := KR1.out.free
    go_wp2_with fail
    have LP : w.heap.size < w1.heap.size := KP1.out.lt
    have LK : w.heap.size + 1 < w1.heap.size := KK1.out.lt
    have LR : w.heap.size + 2 < w1.heap.size := KR1.out.lt
    have n1 : ¬ (w1.heap.size = w.heap.size + 1) := by omega
    have n2 : ¬ (w.heap.size + 1 = w1.heap.size) := by omega
    have n3 : ¬ (w1.heap.size = w.heap.size) := by omega
    have n4 : ¬ (w.heap.size = w1.heap.size) := by omega
    refine (calls_bool (isBorder_any W H (x + 1) (y + dy) _ _ _ _ HS.out.1 HS.out.2) HE.out).mono ?_
    rintro e w2 ⟨rfl, hb2⟩
    clear Pa Pb Pc Pz Ka Kb Kc Kd Kz Ra Rb Rc Rd Rz Rf
    have KP2 : Hid (Box w2 (w.heap.size) 30 #[.int .i64 W, .int .i64 H, .slice (some ⟨bb, off, none⟩) zs.length c]) := hid (Box.keep (Box.alloc (Box.alloc (KP1.out) _) _) hb2)
    have KK2 : Hid (Box w2 (w.heap.size + 1) 52 #[.int .i64 x, .int .i64 y, .int .i64 1, .int .i64 dy]) := hid (Box.keep (Box.alloc (Box.alloc (KK1.out) _) _) hb2)
    have KR2 : Hid (Box w2 (w.heap.size + 2) 52 #[.int .i64 0, .int .i64 0, .int .i64 0, .int .i64 0]) := hid (Box.keep (Box.alloc (Box.alloc (KR1.out) _) _) hb2)
    have KQ2 : Hid (Box w2 (w1.heap.size) 32 #[.int .i64 (x + 1), .int .i64 (y + dy)]) := hid (Box.keep (Box.alloc (Box.new' _ _ _ _ (by simp)) _) hb2)
    have KO2 : Hid (Box w2 (w1.heap.size + 1) 52 #[.int .i64 (x + 1), .int .i64 (y + dy), .int .i64 1, .int .i64 dy]) := hid (Box.keep (Box.new' _ _ _ _ (by simp)) hb2)
    have HB2 : Hid (Below w.heap.size w w2) := hid (bstep (bal (bal (HB1.out) _) _) hb2)
    clear hb2
    obtain ⟨Pa, Pb, Pc⟩ := KP2.out.three
    have Pz := KP2.out.lt
    obtain ⟨Ka, Kb, Kc, Kd⟩ := KK2.out.four
    have Kz := KK2.out.lt
    obtain ⟨Ra, Rb, Rc, Rd⟩ := KR2.out.four
    have Rz := KR2.out.lt
    have Rf := KR2.out.free
    obtain ⟨Qa, Qb⟩ := KQ2.out.two
    have Qz := KQ2.out.lt
    obtain ⟨Oa, Ob, Oc, Od⟩ := KO2.out.four
    have Oz := KO2.out.lt
    have Of := KO2.out.free
    go_wp2_with fail
    obtain ⟨hbb, hcc⟩ := (hz.below (HB2.out)).at HZ.out
    have bbz : bb < w2.heap.size := by have := (HB2.out).size; omega
    refine wp_region_mix (w2.heap.size) (by kernel_rfl) (by kernel_rfl) ?_
    repeat (any_goals (go_big_quiet_step ((first | (go_at_call 98; exact mix_call (by simp) (calls_int0 (number_any W H (x + 1) (y + dy) _ _ _ _ HS.out.1 HS.out.2 i1 i2 i3 i4 HI5.out) HN.out))))))
    refine wpQuiet_nil ?_
    intro w3 hx3
    have hb3 : Below _ _ w3 := mix_ex hx3
    clear hx3
    clear Pa Pb Pc Pz Ka Kb Kc Kd Kz Ra Rb Rc Rd Rz Rf Qa Qb Qz Oa Ob Oc Od Oz Of
    have KP3 : Hid (Box w3 (w.heap.size) 30 #[.int .i64 W, .int .i64 H, .slice (some ⟨bb, off, none⟩) zs.length c]) := hid (Box.keep (KP2.out) hb3)
    have KK3 : Hid (Box w3 (w.heap.size + 1) 52 #[.int .i64 x, .int .i64 y, .int .i64 1, .int .i64 dy]) := hid (Box.keep (KK2.out) hb3)
    have KR3 : Hid (Box w3 (w.heap.size + 2) 52 #[.int .i64 0, .int .i64 0, .int .i64 0, .int .i64 0]) := hid (Box.keep (KR2.out) hb3)
    have KQ3 : Hid (Box w3 (w1.heap.size) 32 #[.int .i64 (x + 1), .int .i64 (y + dy)]) := hid (Box.keep (KQ2.out) hb3)
    have KO3 : Hid (Box w3 (w1.heap.size + 1) 52 #[.int .i64 (x + 1), .int .i64 (y + dy), .int .i64 1, .int .i64 dy]) := hid (Box.keep (KO2.out) hb3)
    have HB3 : Hid (Below w.heap.size w w3) := hid (bstep (HB2.out) hb3)
    clear hb3
    obtain ⟨Pa, Pb, Pc⟩ := KP3.out.three
    have Pz := KP3.out.lt
    obtain ⟨Ka, Kb, Kc, Kd⟩ := KK3.out.four
    have Kz := KK3.out.lt
    obtain ⟨Ra, Rb, Rc, Rd⟩ := KR3.out.four
    have Rz := KR3.out.lt
    have Rf := KR3.out.free
    obtain ⟨Qa, Qb⟩ := KQ3.out.two
    have Qz := KQ3.out.lt
    obtain ⟨Oa, Ob, Oc, Od⟩ := KO3.out.four
    have Oz := KO3.out.lt
    have Of := KO3.out.free
    go_wp2_with fail
    clear Pa Pb Pc Pz Ka Kb Kc Kd Kz Ra Rb Rc Rd Rz Rf Qa Qb Qz Oa Ob Oc Od Oz Of
    obtain ⟨w4, hw4⟩ : ∃ zz : World, zz = (w3.setCell ⟨w1.heap.size + 1, 2, none⟩ (.int .i64 (-1))) := ⟨_, rfl⟩
    rw [← hw4]
    have KP4 : Hid (Box w4 (w.heap.size) 30 #[.int .i64 W, .int .i64 H, .slice (some ⟨bb, off, none⟩) zs.length c]) := by rw [hw4]; exact hid (Box.set (KP3.out) (by simp <;> omega) _)
    have KK4 : Hid (Box w4 (w.heap.size + 1) 52 #[.int .i64 x, .int .i64 y, .int .i64 1, .int .i64 dy]) := by rw [hw4]; exact hid (Box.set (KK3.out) (by simp <;> omega) _)
    have KR4 : Hid (Box w4 (w.heap.size + 2) 52 #[.int .i64 0, .int .i64 0, .int .i64 0, .int .i64 0]) := by rw [hw4]; exact hid (Box.set (KR3.out) (by simp <;> omega) _)
    have KQ4 : Hid (Box w4 (w1.heap.size) 32 #[.int .i64 (x + 1), .int .i64 (y + dy)]) := by rw [hw4]; exact hid (Box.set (KQ3.out) (by simp <;> omega) _)
    have KO4 : Hid (Box w4 (w1.heap.size + 1) 52 #[.int .i64 (x + 1), .int .i64 (y + dy), .int .i64 (-1), .int .i64 dy]) := by rw [hw4]; exact hid (Box.put (KO3.out) 2 _)
    have HB4 : Hid (Below w.heap.size w w4) := by rw [hw4]; exact hid (Below.setCell (HB3.out) (by simp <;> omega) _)
    clear hw4
    obtain ⟨Pa, Pb, Pc⟩ := KP4.out.three
    have Pz := KP4.out.lt
    obtain ⟨Ka, Kb, Kc, Kd⟩ := KK4.out.four
    have Kz := KK4.out.lt
    obtain ⟨Ra, Rb, Rc, Rd⟩ := KR4.out.four
    have Rz := KR4.out.lt
    have Rf := KR4.out.free
    obtain ⟨Qa, Qb⟩ := KQ4.out.two
    have Qz := KQ4.out.lt
    obtain ⟨Oa, Ob, Oc, Od⟩ := KO4.out.four
    have Oz := KO4.out.lt
    have Of := KO4.out.free
    go_region
    go_wp2_with fail
    have hbE := (HB4.out)
    refine bodyPost_ret (v := .tuple #[.agg #[.int .i64 (x + 1), .int .i64 (y + dy), .int .i64 (-1), .int .i64 (dy)], .bool true]) (by simp [results, Try.results91, go_sem, *]) rfl ⟨ret_ws rfl rfl HV.out.1.symm HV.out.2.symm (by rw [HV.out.1, HV.out.2]; simp [*]), (by (repeat (with_reducible first | exact Below.refl _ _ | assumption | refine below_drewN ?_ _ | refine Below.drew ?_ | refine Below.alloc ?_ ?_ _ | refine Below.setCell ?_ ?_ _)); all_goals (first | omega | (simp only [size_drewN, World.size_alloc, World.size_setCell, World.size_drew] at *; omega) | (simp; done) | (simp; omega)))⟩
  · have ex0 : (x + 1 == 0) = false := by simp; omega
    have exw : (x + 1 == 2 * W) = false := by simp; omega
    have ey0 : (y + dy == 0) = false := by simp; omega
    have eyh : (y + dy == 2 * H) = false := by simp; omega
    have HE : Hid (edgeP W H (x + 1) (y + dy) = false) := hid (by simp [edgeP, *])
    have HK : stK W H zs (x + 1) (y + dy) = 2 := by simp [stK, HE.out, c0]
    have HV : Hid (stU W H zs x y 1 dy = 1 ∧ stV W H zs x y 1 dy = -dy) := hid (by simp [stU, stV, HK, ex0, ey0, exw, eyh])
    clear HK
    have t2 : IntKind.i64.wrap (-dy) = -dy := IntWalk.i64_in _ (by omega)
    have ny := neg_ne HY.out
    have nyp : ¬ (-dy = dy) := by simpa using ny
    obtain ⟨bb, off, rfl⟩ := hz.isSome hkz
    rw [c0] at hkz
    have HZ := hid hkz
    have HN := hid hk
    have HI5 := hid i5
    clear hkz hk c0 i5
    go_enter Try.func91, Try.ntmps91
    go_wp2_with fail
    refine (next_any x y 1 dy _ (by omega) (by omega) (by omega) (by omega) (by omega) (by omega) b1 b2).mono ?_
    rintro e w1 ⟨rfl, hb1⟩
    have KP1 : Hid (Box w1 (w.heap.size) 30 #[.int .i64 W, .int .i64 H, .slice (some ⟨bb, off, none⟩) zs.length c]) := hid (Box.keep (Box.alloc (Box.alloc (Box.new' _ _ _ _ (by simp)) _) _) hb1)
    have KK1 : Hid (Box w1 (w.heap.size + 1) 52 #[.int .i64 x, .int .i64 y, .int .i64 1, .int .i64 dy]) := hid (Box.keep (Box.alloc (Box.new' _ _ _ _ (by simp)) _) hb1)
    have KR1 : Hid (Box w1 (w.heap.size + 2) 52 #[.int .i64 0, .int .i64 0, .int .i64 0, .int .i64 0]) := hid (Box.keep (Box.new' _ _ _ _ (by simp)) hb1)
    have HB1 : Hid (Below w.heap.size w w1) := hid (bstep (bal (bal (bal (Below.refl _ _) _) _) _) hb1)
    clear hb1
    obtain ⟨Pa, Pb, Pc⟩ := KP1.out.three
    have Pz := KP1.out.lt
    obtain ⟨Ka, Kb, Kc, Kd⟩ := KK1.out.four
    have Kz := KK1.out.lt
    obtain ⟨Ra, Rb, Rc, Rd⟩ := KR1.out.four
    have Rz := KR1.out.lt
    have Rf := KR1.out.free
    go_wp2_with fail
    have LP : w.heap.size < w1.heap.size := KP1.out.lt
    have LK : w.heap.size + 1 < w1.heap.size := KK1.out.lt
    have LR : w.heap.size + 2 < w1.heap.size := KR1.out.lt
    have n1 : ¬ (w1.heap.size = w.heap.size + 1) := by omega
    have n2 : ¬ (w.heap.size + 1 = w1.heap.size) := by omega
    have n3 : ¬ (w1.heap.size = w.heap.size) := by omega
    have n4 : ¬ (w.heap.size = w1.heap.size) := by omega
    refine (calls_bool (isBorder_any W H (x + 1) (y + dy) _ _ _ _ HS.out.1 HS.out.2) HE.out).mono ?_
    rintro e w2 ⟨rfl, hb2⟩
    clear Pa Pb Pc Pz Ka Kb Kc Kd Kz Ra Rb Rc Rd Rz Rf
    have KP2 : Hid (Box w2 (w.heap.size) 30 #[.int .i64 W, .int .i64 H, .slice (some ⟨bb, off, none⟩) zs.length c]) := hid (Box.keep (Box.alloc (Box.alloc (KP1.out) _) _) hb2)
    have KK2 : Hid (Box w2 (w.heap.size + 1) 52 #[.int .i64 x, .int .i64 y, .int .i64 1, .int .i64 dy]) := hid (Box.keep (Box.alloc (Box.alloc (KK1.out) _) _) hb2)
    have KR2 : Hid (Box w2 (w.heap.size + 2) 52 #[.int .i64 0, .int .i64 0, .int .i64 0, .int .i64 0]) := hid (Box.keep (Box.alloc (Box.alloc (KR1.out) _) _) hb2)
    have KQ2 : Hid (Box w2 (w1.heap.size) 32 #[.int .i64 (x + 1), .int .i64 (y + dy)]) := hid (Box.keep (Box.alloc (Box.new' _ _ _ _ (by simp)) _) hb2)
    have KO2 : Hid (Box w2 (w1.heap.size + 1) 52 #[.int .i64 (x + 1), .int .i64 (y + dy), .int .i64 1, .int .i64 dy]) := hid (Box.keep (Box.new' _ _ _ _ (by simp)) hb2)
    have HB2 : Hid (Below w.heap.size w w2) := hid (bstep (bal (bal (HB1.out) _) _) hb2)
    clear hb2
    obtain ⟨Pa, Pb, Pc⟩ := KP2.out.three
    have Pz := KP2.out.lt
    obtain ⟨Ka, Kb, Kc, Kd⟩ := KK2.out.four
    have Kz := KK2.out.lt
    obtain ⟨Ra, Rb, Rc, Rd⟩ := KR2.out.four
    have Rz := KR2.out.lt
    have Rf := KR2.out.free
    obtain ⟨Qa, Qb⟩ := KQ2.out.two
    have Qz := KQ2.out.lt
    obtain ⟨Oa, Ob, Oc, Od⟩ := KO2.out.four
    have Oz := KO2.out.lt
    have Of := KO2.out.free
    go_wp2_with fail
    obtain ⟨hbb, hcc⟩ := (hz.below (HB2.out)).at HZ.out
    have bbz : bb < w2.heap.size := by have := (HB2.out).size; omega
    refine wp_region_mix (w2.heap.size) (by kernel_rfl) (by kernel_rfl) ?_
    repeat (any_goals (go_big_quiet_step ((first | (go_at_call 98; exact mix_call (by simp) (calls_int0 (number_any W H (x + 1) (y + dy) _ _ _ _ HS.out.1 HS.out.2 i1 i2 i3 i4 HI5.out) HN.out))))))
    refine wpQuiet_nil ?_
    intro w3 hx3
    have hb3 : Below _ _ w3 := mix_ex hx3
    clear hx3
    clear Pa Pb Pc Pz Ka Kb Kc Kd Kz Ra Rb Rc Rd Rz Rf Qa Qb Qz Oa Ob Oc Od Oz Of
    have KP3 : Hid (Box w3 (w.heap.size) 30 #[.int .i64 W, .int .i64 H, .slice (some ⟨bb, off, none⟩) zs.length c]) := hid (Box.keep (KP2.out) hb3)
    have KK3 : Hid (Box w3 (w.heap.size + 1) 52 #[.int .i64 x, .int .i64 y, .int .i64 1, .int .i64 dy]) := hid (Box.keep (KK2.out) hb3)
    have KR3 : Hid (Box w3 (w.heap.size + 2) 52 #[.int .i64 0, .int .i64 0, .int .i64 0, .int .i64 0]) := hid (Box.keep (KR2.out) hb3)
    have KQ3 : Hid (Box w3 (w1.heap.size) 32 #[.int .i64 (x + 1), .int .i64 (y + dy)]) := hid (Box.keep (KQ2.out) hb3)
    have KO3 : Hid (Box w3 (w1.heap.size + 1) 52 #[.int .i64 (x + 1), .int .i64 (y + dy), .int .i64 1, .int .i64 dy]) := hid (Box.keep (KO2.out) hb3)
    have HB3 : Hid (Below w.heap.size w w3) := hid (bstep (HB2.out) hb3)
    clear hb3
    obtain ⟨Pa, Pb, Pc⟩ := KP3.out.three
    have Pz := KP3.out.lt
    obtain ⟨Ka, Kb, Kc, Kd⟩ := KK3.out.four
    have Kz := KK3.out.lt
    obtain ⟨Ra, Rb, Rc, Rd⟩ := KR3.out.four
    have Rz := KR3.out.lt
    have Rf := KR3.out.free
    obtain ⟨Qa, Qb⟩ := KQ3.out.two
    have Qz := KQ3.out.lt
    obtain ⟨Oa, Ob, Oc, Od⟩ := KO3.out.four
    have Oz := KO3.out.lt
    have Of := KO3.out.free
    go_wp2_with fail
    clear Pa Pb Pc Pz Ka Kb Kc Kd Kz Ra Rb Rc Rd Rz Rf Qa Qb Qz Oa Ob Oc Od Oz Of
    obtain ⟨w4, hw4⟩ : ∃ zz : World, zz = (w3.setCell ⟨w1.heap.size + 1, 3, none⟩ (.int .i64 (-dy))) := ⟨_, rfl⟩
    rw [← hw4]
    have KP4 : Hid (Box w4 (w.heap.size) 30 #[.int .i64 W, .int .i64 H, .slice (some ⟨bb, off, none⟩) zs.length c]) := by rw [hw4]; exact hid (Box.set (KP3.out) (by simp <;> omega) _)
    have KK4 : Hid (Box w4 (w.heap.size + 1) 52 #[.int .i64 x, .int .i64 y, .int .i64 1, .int .i64 dy]) := by rw [hw4]; exact hid (Box.set (KK3.out) (by simp <;> omega) _)
    have KR4 : Hid (Box w4 (w.heap.size + 2) 52 #[.int .i64 0, .int .i64 0, .int .i64 0, .int .i64 0]) := by rw [hw4]; exact hid (Box.set (KR3.out) (by simp <;> omega) _)
    have KQ4 : Hid (Box w4 (w1.heap.size) 32 #[.int .i64 (x + 1), .int .i64 (y + dy)]) := by rw [hw4]; exact hid (Box.set (KQ3.out) (by simp <;> omega) _)
    have KO4 : Hid (Box w4 (w1.heap.size + 1) 52 #[.int .i64 (x + 1), .int .i64 (y + dy), .int .i64 1, .int .i64 (-dy)]) := by rw [hw4]; exact hid (Box.put (KO3.out) 3 _)
    have HB4 : Hid (Below w.heap.size w w4) := by rw [hw4]; exact hid (Below.setCell (HB3.out) (by simp <;> omega) _)
    clear hw4
    obtain ⟨Pa, Pb, Pc⟩ := KP4.out.three
    have Pz := KP4.out.lt
    obtain ⟨Ka, Kb, Kc, Kd⟩ := KK4.out.four
    have Kz := KK4.out.lt
    obtain ⟨Ra, Rb, Rc, Rd⟩ := KR4.out.four
    have Rz := KR4.out.lt
    have Rf := KR4.out.free
    obtain ⟨Qa, Qb⟩ := KQ4.out.two
    have Qz := KQ4.out.lt
    obtain ⟨Oa, Ob, Oc, Od⟩ := KO4.out.four
    have Oz := KO4.out.lt
    have Of := KO4.out.free
    go_region
    go_wp2_with fail
    have hbE := (HB4.out)
    refine bodyPost_ret (v := .tuple #[.agg #[.int .i64 (x + 1), .int .i64 (y + dy), .int .i64 1, .int .i64 (-dy)], .bool true]) (by simp [results, Try.results91, go_sem, *]) rfl ⟨ret_ws rfl rfl HV.out.1.symm HV.out.2.symm (by rw [HV.out.1, HV.out.2]; simp [*]), (by (repeat (with_reducible first | exact Below.refl _ _ | assumption | refine below_drewN ?_ _ | refine Below.drew ?_ | refine Below.alloc ?_ ?_ _ | refine Below.setCell ?_ ?_ _)); all_goals (first | omega | (simp only [size_drewN, World.size_alloc, World.size_setCell, World.size_drew] at *; omega) | (simp; done) | (simp; omega)))⟩
set_option maxHeartbeats 4000000 in
theorem step_neg (W H : Int) (A : Option Addr) (c : Nat) (zs : List Int) (x y dy : Int) (w : World) (hz : Ints w w.heap.size A zs) (hl : zs.length ≤ maxLen) (hv : validB W H zs = true) (h : walkB W H x y (-1) dy = true) :
    Calls Try.prog 91 #[.agg #[.int .i64 W, .int .i64 H, .slice A zs.length c], .agg #[.int .i64 x, .int .i64 y, .int .i64 (-1), .int .i64 dy]] w fun e w' => e = .returned (.tuple #[.agg #[.int .i64 (x + (-1)), .int .i64 (y + dy), .int .i64 (stU W H zs x y (-1) dy), .int .i64 (stV W H zs x y (-1) dy)], .bool (stU W H zs x y (-1) dy != (-1) || stV W H zs x y (-1) dy != dy)]) ∧ Below w.heap.size w w' := by
  obtain ⟨h1, h2, h3, h4⟩ := walk_parts h
  clear h1
  obtain ⟨sW, sH⟩ := valid_sides hv
  obtain ⟨x1, x2, y1, y2⟩ := hasP_bd h3
  obtain ⟨x3, x4, y3, y4⟩ := hasP_bd h4
  obtain ⟨w1, w2⟩ := side_bd sW
  obtain ⟨w3, w4⟩ := side_bd sH
  have HY := hid h2
  have b0 : -1 ≤ dy ∧ dy ≤ 1 := by omega
  obtain ⟨b1, b2⟩ := b0
  have HS := hid (And.intro sW sH)
  have SC := step_cases hv h
  clear h h2 h3 h4 sW sH hv
  unfold maxLen at hl
  rcases SC with ⟨c1, c2, c3⟩ | ⟨c1, c2, c3, c4⟩ | ⟨c1, c2, c3⟩ | ⟨c1, c2, c3, c4⟩ | ⟨⟨i1, i2, i3, i4, i5⟩, k, hk, hkl, hkz, c0 | c0 | c0⟩
  · have ex0 : (x + -1 == 0) = true := by simp; omega
    have ey0 : (y + dy == 0) = false := by simp; omega
    have eyh : (y + dy == 2 * H) = false := by simp; omega
    have HE : Hid (edgeP W H (x + -1) (y + dy) = true) := hid (by simp [edgeP, *])
    have HK : stK W H zs (x + -1) (y + dy) = 0 := by simp [stK, HE.out]
    have HV : Hid (stU W H zs x y (-1) dy = 1 ∧ stV W H zs x y (-1) dy = dy) := hid (by simp [stU, stV, HK, ex0, ey0, eyh])
    clear HK
    clear c1 c2 c3
    go_enter Try.func91, Try.ntmps91
    go_wp2_with fail
    refine (next_any x y (-1) dy _ (by omega) (by omega) (by omega) (by omega) (by omega) (by omega) b1 b2).mono ?_
    rintro e w1 ⟨rfl, hb1⟩
    have KP1 : Hid (Box w1 (w.heap.size) 30 #[.int .i64 W, .int .i64 H, .slice A zs.length c]) := hid (Box.keep (Box.alloc (Box.alloc (Box.new' _ _ _ _ (by simp)) _) _) hb1)
    have KK1 : Hid (Box w1 (w.heap.size + 1) 52 #[.int .i64 x, .int .i64 y, .int .i64 (-1), .int .i64 dy]) := hid (Box.keep (Box.alloc (Box.new' _ _ _ _ (by simp)) _) hb1)
    have KR1 : Hid (Box w1 (w.heap.size + 2) 52 #[.int .i64 0, .int .i64 0, .int .i64 0, .int .i64 0]) := hid (Box.keep (Box.new' _ _ _ _ (by simp)) hb1)
    have HB1 : Hid (Below w.heap.size w w1) := hid (bstep (bal (bal (bal (Below.refl _ _) _) _) _) hb1)
    clear hb1
    obtain ⟨Pa, Pb, Pc⟩ := KP1.out.three
    have Pz := KP1.out.lt
    obtain ⟨Ka, Kb, Kc, Kd⟩ := KK1.out.four
    have Kz := KK1.out.lt
    obtain ⟨Ra, Rb, Rc, Rd⟩ := KR1.out.four
    have Rz := KR1.out.lt
    have Rf := KR1.out.free
    go_wp2_with fail
    have LP : w.heap.size < w1.heap.size := KP1.out.lt
    have LK : w.heap.size + 1 < w1.heap.size := KK1.out.lt
    have LR : w.heap.size + 2 < w1.heap.size := KR1.out.lt
    have n1 : ¬ (w1.heap.size = w.heap.size + 1) := by omega
    have n2 : ¬ (w.heap.size + 1 = w1.heap.size) := by omega
    have n3 : ¬ (w1.heap.size = w.heap.size) := by omega
    have n4 : ¬ (w.heap.size = w1.heap.size) := by omega
    refine (calls_bool (isBorder_any W H (x + -1) (y + dy) _ _ _ _ HS.out.1 HS.out.2) HE.out).mono ?_
    rintro e w2 ⟨rfl, hb2⟩
    clear Pa Pb Pc Pz Ka Kb Kc Kd Kz Ra Rb Rc Rd Rz Rf
    have KP2 : Hid (Box w2 (w.heap.size) 30 #[.int .i64 W, .int .i64 H, .slice A zs.length c]) := hid (Box.keep (Box.alloc (Box.alloc (KP1.out) _) _) hb2)
    have KK2 : Hid (Box w2 (w.heap.size + 1) 52 #[.int .i64 x, .int .i64 y, .int .i64 (-1), .int .i64 dy]) := hid (Box.keep (Box.alloc (Box.alloc (KK1.out) _) _) hb2)
    have KR2 : Hid (Box w2 (w.heap.size + 2) 52 #[.int .i64 0, .int .i64 0, .int .i64 0, .int .i64 0]) := hid (Box.keep (Box.alloc (Box.alloc (KR1.out) _) _) hb2)
    have KQ2 : Hid (Box w2 (w1.heap.size) 32 #[.int .i64 (x + -1), .int .i64 (y + dy)]) := hid (Box.keep (Box.alloc (Box.new' _ _ _ _ (by simp)) _) hb2)
    have KO2 : Hid (Box w2 (w1.heap.size + 1) 52 #[.int .i64 (x + -1), .int .i64 (y + dy), .int .i64 (-1), .int .i64 dy]) := hid (Box.keep (Box.new' _ _ _ _ (by simp)) hb2)
    have HB2 : Hid (Below w.heap.size w w2) := hid (bstep (bal (bal (HB1.out) _) _) hb2)
    clear hb2
    obtain ⟨Pa, Pb, Pc⟩ := KP2.out.three
    have Pz := KP2.out.lt
    obtain ⟨Ka, Kb, Kc, Kd⟩ := KK2.out.four
    have Kz := KK2.out.lt
    obtain ⟨Ra, Rb, Rc, Rd⟩ := KR2.out.four
    have Rz := KR2.out.lt
    have Rf := KR2.out.free
    obtain ⟨Qa, Qb⟩ := KQ2.out.two
    have Qz := KQ2.out.lt
    obtain ⟨Oa, Ob, Oc, Od⟩ := KO2.out.four
    have Oz := KO2.out.lt
    have Of := KO2.out.free
    go_wp2_with fail
    clear Pa Pb Pc Pz Ka Kb Kc Kd Kz Ra Rb Rc Rd Rz Rf Qa Qb Qz Oa Ob Oc Od Oz Of
    obtain ⟨w3, hw3⟩ : ∃ zz : World, zz = (w2.setCell ⟨w1.heap.size + 1, 2, none⟩ (.int .i64 1)) := ⟨_, rfl⟩
    rw [← hw3]
    have KP3 : Hid (Box w3 (w.heap.size) 30 #[.int .i64 W, .int .i64 H, .slice A zs.length c]) := by rw [hw3]; exact hid (Box.set (KP2.out) (by simp <;> omega) _)
    have KK3 : Hid (Box w3 (w.heap.size + 1) 52 #[.int .i64 x, .int .i64 y, .int .i64 (-1), .int .i64 dy]) := by rw [hw3]; exact hid (Box.set (KK2.out) (by simp <;> omega) _)
    have KR3 : Hid (Box w3 (w.heap.size + 2) 52 #[.int .i64 0, .int .i64 0, .int .i64 0, .int .i64 0]) := by rw [hw3]; exact hid (Box.set (KR2.out) (by simp <;> omega) _)
    have KQ3 : Hid (Box w3 (w1.heap.size) 32 #[.int .i64 (x + -1), .int .i64 (y + dy)]) := by rw [hw3]; exact hid (Box.set (KQ2.out) (by simp <;> omega) _)
    have KO3 : Hid (Box w3 (w1.heap.size + 1) 52 #[.int .i64 (x + -1), .int .i64 (y + dy), .int .i64 1, .int .i64 dy]) := by rw [hw3]; exact hid (Box.put (KO2.out) 2 _)
    have HB3 : Hid (Below w.heap.size w w3) := by rw [hw3]; exact hid (Below.setCell (HB2.out) (by simp <;> omega) _)
    clear hw3
    obtain ⟨Pa, Pb, Pc⟩ := KP3.out.three
    have Pz := KP3.out.lt
    obtain ⟨Ka, Kb, Kc, Kd⟩ := KK3.out.four
    have Kz := KK3.out.lt
    obtain ⟨Ra, Rb, Rc, Rd⟩ := KR3.out.four
    have Rz := KR3.out.lt
    have Rf := KR3.out.free
    obtain ⟨Qa, Qb⟩ := KQ3.out.two
    have Qz := KQ3.out.lt
    obtain ⟨Oa, Ob, Oc, Od⟩ := KO3.out.four
    have Oz := KO3.out.lt
    have Of := KO3.out.free
    go_region
    go_wp2_with fail
    have hbE := (HB3.out)
    refine bodyPost_ret (v := .tuple #[.agg #[.int .i64 (x + -1), .int .i64 (y + dy), .int .i64 1, .int .i64 (dy)], .bool true]) (by simp [results, Try.results91, go_sem, *]) rfl ⟨ret_ws rfl rfl HV.out.1.symm HV.out.2.symm (by rw [HV.out.1, HV.out.2]; simp [*]), (by (repeat (with_reducible first | exact Below.refl _ _ | assumption | refine below_drewN ?_ _ | refine Below.drew ?_ | refine Below.alloc ?_ ?_ _ | refine Below.setCell ?_ ?_ _)); all_goals (first | omega | (simp only [size_drewN, World.size_alloc, World.size_setCell, World.size_drew] at *; omega) | (simp; done) | (simp; omega)))⟩
  · have ex0 : (x + -1 == 0) = false := by simp; omega
    have exw : (x + -1 == 2 * W) = true := by simp; omega
    have ey0 : (y + dy == 0) = false := by simp; omega
    have eyh : (y + dy == 2 * H) = false := by simp; omega
    have HE : Hid (edgeP W H (x + -1) (y + dy) = true) := hid (by simp [edgeP, *])
    have HK : stK W H zs (x + -1) (y + dy) = 0 := by simp [stK, HE.out]
    have HV : Hid (stU W H zs x y (-1) dy = 1 ∧ stV W H zs x y (-1) dy = dy) := hid (by simp [stU, stV, HK, ex0, ey0, exw, eyh])
    clear HK
    clear c1 c2 c3 c4
    go_enter Try.func91, Try.ntmps91
    go_wp2_with fail
    refine (next_any x y (-1) dy _ (by omega) (by omega) (by omega) (by omega) (by omega) (by omega) b1 b2).mono ?_
    rintro e w1 ⟨rfl, hb1⟩
    have KP1 : Hid (Box w1 (w.heap.size) 30 #[.int .i64 W, .int .i64 H, .slice A zs.length c]) := hid (Box.keep (Box.alloc (Box.alloc (Box.new' _ _ _ _ (by simp)) _) _) hb1)
    have KK1 : Hid (Box w1 (w.heap.size + 1) 52 #[.int .i64 x, .int .i64 y, .int .i64 (-1), .int .i64 dy]) := hid (Box.keep (Box.alloc (Box.new' _ _ _ _ (by simp)) _) hb1)
    have KR1 : Hid (Box w1 (w.heap.size + 2) 52 #[.int .i64 0, .int .i64 0, .int .i64 0, .int .i64 0]) := hid (Box.keep (Box.new' _ _ _ _ (by simp)) hb1)
    have HB1 : Hid (Below w.heap.size w w1) := hid (bstep (bal (bal (bal (Below.refl _ _) _) _) _) hb1)
    clear hb1
    obtain ⟨Pa, Pb, Pc⟩ := KP1.out.three
    have Pz := KP1.out.lt
    obtain ⟨Ka, Kb, Kc, Kd⟩ := KK1.out.four
    have Kz := KK1.out.lt
    obtain ⟨Ra, Rb, Rc, Rd⟩ := KR1.out.four
    have Rz := KR1.out.lt
    have Rf := KR1.out.free
    go_wp2_with fail
    have LP : w.heap.size < w1.heap.size := KP1.out.lt
    have LK : w.heap.size + 1 < w1.heap.size := KK1.out.lt
    have LR : w.heap.size + 2 < w1.heap.size := KR1.out.lt
    have n1 : ¬ (w1.heap.size = w.heap.size + 1) := by omega
    have n2 : ¬ (w.heap.size + 1 = w1.heap.size) := by omega
    have n3 : ¬ (w1.heap.size = w.heap.size) := by omega
    have n4 : ¬ (w.heap.size = w1.heap.size) := by omega
    refine (calls_bool (isBorder_any W H (x + -1) (y + dy) _ _ _ _ HS.out.1 HS.out.2) HE.out).mono ?_
    rintro e w2 ⟨rfl, hb2⟩
    clear Pa Pb Pc Pz Ka Kb Kc Kd Kz Ra Rb Rc Rd Rz Rf
    have KP2 : Hid (Box w2 (w.heap.size) 30 #[.int .i64 W, .int .i64 H, .slice A zs.length c]) := hid (Box.keep (Box.alloc (Box.alloc (KP1.out) _) _) hb2)
    have KK2 : Hid (Box w2 (w.heap.size + 1) 52 #[.int .i64 x, .int .i64 y, .int .i64 (-1), .int .i64 dy]) := hid (Box.keep (Box.alloc (Box.alloc (KK1.out) _) _) hb2)
    have KR2 : Hid (Box w2 (w.heap.size + 2) 52 #[.int .i64 0, .int .i64 0, .int .i64 0, .int .i64 0]) := hid (Box.keep (Box.alloc (Box.alloc (KR1.out) _) _) hb2)
    have KQ2 : Hid (Box w2 (w1.heap.size) 32 #[.int .i64 (x + -1), .int .i64 (y + dy)]) := hid (Box.keep (Box.alloc (Box.new' _ _ _ _ (by simp)) _) hb2)
    have KO2 : Hid (Box w2 (w1.heap.size + 1) 52 #[.int .i64 (x + -1), .int .i64 (y + dy), .int .i64 (-1), .int .i64 dy]) := hid (Box.keep (Box.new' _ _ _ _ (by simp)) hb2)
    have HB2 : Hid (Below w.heap.size w w2) := hid (bstep (bal (bal (HB1.out) _) _) hb2)
    clear hb2
    obtain ⟨Pa, Pb, Pc⟩ := KP2.out.three
    have Pz := KP2.out.lt
    obtain ⟨Ka, Kb, Kc, Kd⟩ := KK2.out.four
    have Kz := KK2.out.lt
    obtain ⟨Ra, Rb, Rc, Rd⟩ := KR2.out.four
    have Rz := KR2.out.lt
    have Rf := KR2.out.free
    obtain ⟨Qa, Qb⟩ := KQ2.out.two
    have Qz := KQ2.out.lt
    obtain ⟨Oa, Ob, Oc, Od⟩ := KO2.out.four
    have Oz := KO2.out.lt
    have Of := KO2.out.free
    go_wp2_with fail
    clear Pa Pb Pc Pz Ka Kb Kc Kd Kz Ra Rb Rc Rd Rz Rf Qa Qb Qz Oa Ob Oc Od Oz Of
    obtain ⟨w3, hw3⟩ : ∃ zz : World, zz = (w2.setCell ⟨w1.heap.size + 1, 2, none⟩ (.int .i64 1)) := ⟨_, rfl⟩
    rw [← hw3]
    have KP3 : Hid (Box w3 (w.heap.size) 30 #[.int .i64 W, .int .i64 H, .slice A zs.length c]) := by rw [hw3]; exact hid (Box.set (KP2.out) (by simp <;> omega) _)
    have KK3 : Hid (Box w3 (w.heap.size + 1) 52 #[.int .i64 x, .int .i64 y, .int .i64 (-1), .int .i64 dy]) := by rw [hw3]; exact hid (Box.set (KK2.out) (by simp <;> omega) _)
    have KR3 : Hid (Box w3 (w.heap.size + 2) 52 #[.int .i64 0, .int .i64 0, .int .i64 0, .int .i64 0]) := by rw [hw3]; exact hid (Box.set (KR2.out) (by simp <;> omega) _)
    have KQ3 : Hid (Box w3 (w1.heap.size) 32 #[.int .i64 (x + -1), .int .i64 (y + dy)]) := by rw [hw3]; exact hid (Box.set (KQ2.out) (by simp <;> omega) _)
    have KO3 : Hid (Box w3 (w1.heap.size + 1) 52 #[.int .i64 (x + -1), .int .i64 (y + dy), .int .i64 1, .int .i64 dy]) := by rw [hw3]; exact hid (Box.put (KO2.out) 2 _)
    have HB3 : Hid (Below w.heap.size w w3) := by rw [hw3]; exact hid (Below.setCell (HB2.out) (by simp <;> omega) _)
    clear hw3
    obtain ⟨Pa, Pb, Pc⟩ := KP3.out.three
    have Pz := KP3.out.lt
    obtain ⟨Ka, Kb, Kc, Kd⟩ := KK3.out.four
    have Kz := KK3.out.lt
    obtain ⟨Ra, Rb, Rc, Rd⟩ := KR3.out.four
    have Rz := KR3.out.lt
    have Rf := KR3.out.free
    obtain ⟨Qa, Qb⟩ := KQ3.out.two
    have Qz := KQ3.out.lt
    obtain ⟨Oa, Ob, Oc, Od⟩ := KO3.out.four
    have Oz := KO3.out.lt
    have Of := KO3.out.free
    go_region
    go_wp2_with fail
    have hbE := (HB3.out)
    refine bodyPost_ret (v := .tuple #[.agg #[.int .i64 (x + -1), .int .i64 (y + dy), .int .i64 1, .int .i64 (dy)], .bool true]) (by simp [results, Try.results91, go_sem, *]) rfl ⟨ret_ws rfl rfl HV.out.1.symm HV.out.2.symm (by rw [HV.out.1, HV.out.2]; simp [*]), (by (repeat (with_reducible first | exact Below.refl _ _ | assumption | refine below_drewN ?_ _ | refine Below.drew ?_ | refine Below.alloc ?_ ?_ _ | refine Below.setCell ?_ ?_ _)); all_goals (first | omega | (simp only [size_drewN, World.size_alloc, World.size_setCell, World.size_drew] at *; omega) | (simp; done) | (simp; omega)))⟩
  · have ex0 : (x + -1 == 0) = false := by simp; omega
    have exw : (x + -1 == 2 * W) = false := by simp; omega
    have ey0 : (y + dy == 0) = true := by simp; omega
    have HE : Hid (edgeP W H (x + -1) (y + dy) = true) := hid (by simp [edgeP, *])
    have HK : stK W H zs (x + -1) (y + dy) = 0 := by simp [stK, HE.out]
    have HV : Hid (stU W H zs x y (-1) dy = (-1) ∧ stV W H zs x y (-1) dy = -dy) := hid (by simp [stU, stV, HK, ex0, ey0, exw])
    clear HK
    have t2 : IntKind.i64.wrap (-dy) = -dy := IntWalk.i64_in _ (by omega)
    have ny := neg_ne HY.out
    have nyp : ¬ (-dy = dy) := by simpa using ny
    clear c1 c2 c3
    go_enter Try.func91, Try.ntmps91
    go_wp2_with fail
    refine (next_any x y (-1) dy _ (by omega) (by omega) (by omega) (by omega) (by omega) (by omega) b1 b2).mono ?_
    rintro e w1 ⟨rfl, hb1⟩
    have KP1 : Hid (Box w1 (w.heap.size) 30 #[.int .i64 W, .int .i64 H, .slice A zs.length c]) := hid (Box.keep (Box.alloc (Box.alloc (Box.new' _ _ _ _ (by simp)) _) _) hb1)
    have KK1 : Hid (Box w1 (w.heap.size + 1) 52 #[.int .i64 x, .int .i64 y, .int .i64 (-1), .int .i64 dy]) := hid (Box.keep (Box.alloc (Box.new' _ _ _ _ (by simp)) _) hb1)
    have KR1 : Hid (Box w1 (w.heap.size + 2) 52 #[.int .i64 0, .int .i64 0, .int .i64 0, .int .i64 0]) := hid (Box.keep (Box.new' _ _ _ _ (by simp)) hb1)
    have HB1 : Hid (Below w.heap.size w w1) := hid (bstep (bal (bal (bal (Below.refl _ _) _) _) _) hb1)
    clear hb1
    obtain ⟨Pa, Pb, Pc⟩ := KP1.out.three
    have Pz := KP1.out.lt
    obtain ⟨Ka, Kb, Kc, Kd⟩ := KK1.out.four
    have Kz := KK1.out.lt
    obtain ⟨Ra, Rb, Rc, Rd⟩ := KR1.out.four
    have Rz := KR1.out.lt
    have Rf := KR1.out.free
    go_wp2_with fail
    have LP : w.heap.size < w1.heap.size := KP1.out.lt
    have LK : w.heap.size + 1 < w1.heap.size := KK1.out.lt
    have LR : w.heap.size + 2 < w1.heap.size := KR1.out.lt
    have n1 : ¬ (w1.heap.size = w.heap.size + 1) := by omega
    have n2 : ¬ (w.heap.size + 1 = w1.heap.size) := by omega
    have n3 : ¬ (w1.heap.size = w.heap.size) := by omega
    have n4 : ¬ (w.heap.size = w1.heap.size) := by omega
    refine (calls_bool (isBorder_any W H (x + -1) (y + dy) _ _ _ _ HS.out.1 HS.out.2) HE.out).mono ?_
    rintro e w2 ⟨rfl, hb2⟩
    clear Pa Pb Pc Pz Ka Kb Kc Kd Kz Ra Rb Rc Rd Rz Rf
    have KP2 : Hid (Box w2 (w.heap.size) 30 #[.int .i64 W, .int .i64 H, .slice A zs.length c]) := hid (Box.keep (Box.alloc (Box.alloc (KP1.out) _) _) hb2)
    have KK2 : Hid (Box w2 (w.heap.size + 1) 52 #[.int .i64 x, .int .i64 y, .int .i64 (-1), .int .i64 dy]) := hid (Box.keep (Box.alloc (Box.alloc (KK1.out) _) _) hb2)
    have KR2 : Hid (Box w2 (w.heap.size + 2) 52 #[.int .i64 0, .int .i64 0, .int .i64 0, .int .i64 0]) := hid (Box.keep (Box.alloc (Box.alloc (KR1.out) _) _) hb2)
    have KQ2 : Hid (Box w2 (w1.heap.size) 32 #[.int .i64 (x + -1), .int .i64 (y + dy)]) := hid (Box.keep (Box.alloc (Box.new' _ _ _ _ (by simp)) _) hb2)
    have KO2 : Hid (Box w2 (w1.heap.size + 1) 52 #[.int .i64 (x + -1), .int .i64 (y + dy), .int .i64 (-1), .int .i64 dy]) := hid (Box.keep (Box.new' _ _ _ _ (by simp)) hb2)
    have HB2 : Hid (Below w.heap.size w w2) := hid (bstep (bal (bal (HB1.out) _) _) hb2)
    clear hb2
    obtain ⟨Pa, Pb, Pc⟩ := KP2.out.three
    have Pz := KP2.out.lt
    obtain ⟨Ka, Kb, Kc, Kd⟩ := KK2.out.four
    have Kz := KK2.out.lt
    obtain ⟨Ra, Rb, Rc, Rd⟩ := KR2.out.four
    have Rz := KR2.out.lt
    have Rf := KR2.out.free
    obtain ⟨Qa, Qb⟩ := KQ2.out.two
    have Qz := KQ2.out.lt
    obtain ⟨Oa, Ob, Oc, Od⟩ := KO2.out.four
    have Oz := KO2.out.lt
    have Of := KO2.out.free
    go_wp2_with fail
    clear Pa Pb Pc Pz Ka Kb Kc Kd Kz Ra Rb Rc Rd Rz Rf Qa Qb Qz Oa Ob Oc Od Oz Of
    obtain ⟨w3, hw3⟩ : ∃ zz : World, zz = (w2.setCell ⟨w1.heap.size + 1, 3, none⟩ (.int .i64 (-dy))) := ⟨_, rfl⟩
    rw [← hw3]
    have KP3 : Hid (Box w3 (w.heap.size) 30 #[.int .i64 W, .int .i64 H, .slice A zs.length c]) := by rw [hw3]; exact hid (Box.set (KP2.out) (by simp <;> omega) _)
    have KK3 : Hid (Box w3 (w.heap.size + 1) 52 #[.int .i64 x, .int .i64 y, .int .i64 (-1), .int .i64 dy]) := by rw [hw3]; exact hid (Box.set (KK2.out) (by simp <;> omega) _)
    have KR3 : Hid (Box w3 (w.heap.size + 2) 52 #[.int .i64 0, .int .i64 0, .int .i64 0, .int .i64 0]) := by rw [hw3]; exact hid (Box.set (KR2.out) (by simp <;> omega) _)
    have KQ3 : Hid (Box w3 (w1.heap.size) 32 #[.int .i64 (x + -1), .int .i64 (y + dy)]) := by rw [hw3]; exact hid (Box.set (KQ2.out) (by simp <;> omega) _)
    have KO3 : Hid (Box w3 (w1.heap.size + 1) 52 #[.int .i64 (x + -1), .int .i64 (y + dy), .int .i64 (-1), .int .i64 (-dy)]) := by rw [hw3]; exact hid (Box.put (KO2.out) 3 _)
    have HB3 : Hid (Below w.heap.size w w3) := by rw [hw3]; exact hid (Below.setCell (HB2.out) (by simp <;> omega) _)
    clear hw3
    obtain ⟨Pa, Pb, Pc⟩ := KP3.out.three
    have Pz := KP3.out.lt
    obtain ⟨Ka, Kb, Kc, Kd⟩ := KK3.out.four
    have Kz := KK3.out.lt
    obtain ⟨Ra, Rb, Rc, Rd⟩ := KR3.out.four
    have Rz := KR3.out.lt
    have Rf := KR3.out.free
    obtain ⟨Qa, Qb⟩ := KQ3.out.two
    have Qz := KQ3.out.lt
    obtain ⟨Oa, Ob, Oc, Od⟩ := KO3.out.four
    have Oz := KO3.out.lt
    have Of := KO3.out.free
    go_region
    go_wp2_with fail
    have hbE := (HB3.out)
    refine bodyPost_ret (v := .tuple #[.agg #[.int .i64 (x + -1), .int .i64 (y + dy), .int .i64 (-1), .int .i64 (-dy)], .bool true]) (by simp [results, Try.results91, go_sem, *]) rfl ⟨ret_ws rfl rfl HV.out.1.symm HV.out.2.symm (by rw [HV.out.1, HV.out.2]; simp [*]), (by (repeat (with_reducible first | exact Below.refl _ _ | assumption | refine below_drewN ?_ _ | refine Below.drew ?_ | refine Below.alloc ?_ ?_ _ | refine Below.setCell ?_ ?_ _)); all_goals (first | omega | (simp only [size_drewN, World.size_alloc, World.size_setCell, World.size_drew] at *; omega) | (simp; done) | (simp; omega)))⟩
  · have ex0 : (x + -1 == 0) = false := by simp; omega
    have exw : (x + -1 == 2 * W) = false := by simp; omega
    have ey0 : (y + dy == 0) = false := by simp; omega
    have eyh : (y + dy == 2 * H) = true := by simp; omega
    have HE : Hid (edgeP W H (x + -1) (y + dy) = true) := hid (by simp [edgeP, *])
    have HK : stK W H zs (x + -1) (y + dy) = 0 := by simp [stK, HE.out]
    have HV : Hid (stU W H zs x y (-1) dy = (-1) ∧ stV W H zs x y (-1) dy = -dy) := hid (by simp [stU, stV, HK, ex0, ey0, exw, eyh])
    clear HK
    have t2 : IntKind.i64.wrap (-dy) = -dy := IntWalk.i64_in _ (by omega)
    have ny := neg_ne HY.out
    have nyp : ¬ (-dy = dy) := by simpa using ny
    clear c1 c2 c3 c4
    go_enter Try.func91, Try.ntmps91
    go_wp2_with fail
    refine (next_any x y (-1) dy _ (by omega) (by omega) (by omega) (by omega) (by omega) (by omega) b1 b2).mono ?_
    rintro e w1 ⟨rfl, hb1⟩
    have KP1 : Hid (Box w1 (w.heap.size) 30 #[.int .i64 W, .int .i64 H, .slice A zs.length c]) := hid (Box.keep (Box.alloc (Box.alloc (Box.new' _ _ _ _ (by simp)) _) _) hb1)
    have KK1 : Hid (Box w1 (w.heap.size + 1) 52 #[.int .i64 x, .int .i64 y, .int .i64 (-1), .int .i64 dy]) := hid (Box.keep (Box.alloc (Box.new' _ _ _ _ (by simp)) _) hb1)
    have KR1 : Hid (Box w1 (w.heap.size + 2) 52 #[.int .i64 0, .int .i64 0, .int .i64 0, .int .i64 0]) := hid (Box.keep (Box.new' _ _ _ _ (by simp)) hb1)
    have HB1 : Hid (Below w.heap.size w w1) := hid (bstep (bal (bal (bal (Below.refl _ _) _) _) _) hb1)
    clear hb1
    obtain ⟨Pa, Pb, Pc⟩ := KP1.out.three
    have Pz := KP1.out.lt
    obtain ⟨Ka, Kb, Kc, Kd⟩ := KK1.out.four
    have Kz := KK1.out.lt
    obtain ⟨Ra, Rb, Rc, Rd⟩ := KR1.out.four
    have Rz := KR1.out.lt
    have Rf := KR1.out.free
    go_wp2_with fail
    have LP : w.heap.size < w1.heap.size := KP1.out.lt
    have LK : w.heap.size + 1 < w1.heap.size := KK1.out.lt
    have LR : w.heap.size + 2 < w1.heap.size := KR1.out.lt
    have n1 : ¬ (w1.heap.size = w.heap.size + 1) := by omega
    have n2 : ¬ (w.heap.size + 1 = w1.heap.size) := by omega
    have n3 : ¬ (w1.heap.size = w.heap.size) := by omega
    have n4 : ¬ (w.heap.size = w1.heap.size) := by omega
    refine (calls_bool (isBorder_any W H (x + -1) (y + dy) _ _ _ _ HS.out.1 HS.out.2) HE.out).mono ?_
    rintro e w2 ⟨rfl, hb2⟩
    clear Pa Pb Pc Pz Ka Kb Kc Kd Kz Ra Rb Rc Rd Rz Rf
    have KP2 : Hid (Box w2 (w.heap.size) 30 #[.int .i64 W, .int .i64 H, .slice A zs.length c]) := hid (Box.keep (Box.alloc (Box.alloc (KP1.out) _) _) hb2)
    have KK2 : Hid (Box w2 (w.heap.size + 1) 52 #[.int .i64 x, .int .i64 y, .int .i64 (-1), .int .i64 dy]) := hid (Box.keep (Box.alloc (Box.alloc (KK1.out) _) _) hb2)
    have KR2 : Hid (Box w2 (w.heap.size + 2) 52 #[.int .i64 0, .int .i64 0, .int .i64 0, .int .i64 0]) := hid (Box.keep (Box.alloc (Box.alloc (KR1.out) _) _) hb2)
    have KQ2 : Hid (Box w2 (w1.heap.size) 32 #[.int .i64 (x + -1), .int .i64 (y + dy)]) := hid (Box.keep (Box.alloc (Box.new' _ _ _ _ (by simp)) _) hb2)
    have KO2 : Hid (Box w2 (w1.heap.size + 1) 52 #[.int .i64 (x + -1), .int .i64 (y + dy), .int .i64 (-1), .int .i64 dy]) := hid (Box.keep (Box.new' _ _ _ _ (by simp)) hb2)
    have HB2 : Hid (Below w.heap.size w w2) := hid (bstep (bal (bal (HB1.out) _) _) hb2)
    clear hb2
    obtain ⟨Pa, Pb, Pc⟩ := KP2.out.three
    have Pz := KP2.out.lt
    obtain ⟨Ka, Kb, Kc, Kd⟩ := KK2.out.four
    have Kz := KK2.out.lt
    obtain ⟨Ra, Rb, Rc, Rd⟩ := KR2.out.four
    have Rz := KR2.out.lt
    have Rf := KR2.out.free
    obtain ⟨Qa, Qb⟩ := KQ2.out.two
    have Qz := KQ2.out.lt
    obtain ⟨Oa, Ob, Oc, Od⟩ := KO2.out.four
    have Oz := KO2.out.lt
    have Of := KO2.out.free
    go_wp2_with fail
    clear Pa Pb Pc Pz Ka Kb Kc Kd Kz Ra Rb Rc Rd Rz Rf Qa Qb Qz Oa Ob Oc Od Oz Of
    obtain ⟨w3, hw3⟩ : ∃ zz : World, zz = (w2.setCell ⟨w1.heap.size + 1, 3, none⟩ (.int .i64 (-dy))) := ⟨_, rfl⟩
    rw [← hw3]
    have KP3 : Hid (Box w3 (w.heap.size) 30 #[.int .i64 W, .int .i64 H, .slice A zs.length c]) := by rw [hw3]; exact hid (Box.set (KP2.out) (by simp <;> omega) _)
    have KK3 : Hid (Box w3 (w.heap.size + 1) 52 #[.int .i64 x, .int .i64 y, .int .i64 (-1), .int .i64 dy]) := by rw [hw3]; exact hid (Box.set (KK2.out) (by simp <;> omega) _)
    have KR3 : Hid (Box w3 (w.heap.size + 2) 52 #[.int .i64 0, .int .i64 0, .int .i64 0, .int .i64 0]) := by rw [hw3]; exact hid (Box.set (KR2.out) (by simp <;> omega) _)
    have KQ3 : Hid (Box w3 (w1.heap.size) 32 #[.int .i64 (x + -1), .int .i64 (y + dy)]) := by rw [hw3]; exact hid (Box.set (KQ2.out) (by simp <;> omega) _)
    have KO3 : Hid (Box w3 (w1.heap.size + 1) 52 #[.int .i64 (x + -1), .int .i64 (y + dy), .int .i64 (-1), .int .i64 (-dy)]) := by rw [hw3]; exact hid (Box.put (KO2.out) 3 _)
    have HB3 : Hid (Below w.heap.size w w3) := by rw [hw3]; exact hid (Below.setCell (HB2.out) (by simp <;> omega) _)
    clear hw3
    obtain ⟨Pa, Pb, Pc⟩ := KP3.out.three
    have Pz := KP3.out.lt
    obtain ⟨Ka, Kb, Kc, Kd⟩ := KK3.out.four
    have Kz := KK3.out.lt
    obtain ⟨Ra, Rb, Rc, Rd⟩ := KR3.out.four
    have Rz := KR3.out.lt
    have Rf := KR3.out.free
    obtain ⟨Qa, Qb⟩ := KQ3.out.two
    have Qz := KQ3.out.lt
    obtain ⟨Oa, Ob, Oc, Od⟩ := KO3.out.four
    have Oz := KO3.out.lt
    have Of := KO3.out.free
    go_region
    go_wp2_with fail
    have hbE := (HB3.out)
    refine bodyPost_ret (v := .tuple #[.agg #[.int .i64 (x + -1), .int .i64 (y + dy), .int .i64 (-1), .int .i64 (-dy)], .bool true]) (by simp [results, Try.results91, go_sem, *]) rfl ⟨ret_ws rfl rfl HV.out.1.symm HV.out.2.symm (by rw [HV.out.1, HV.out.2]; simp [*]), (by (repeat (with_reducible first | exact Below.refl _ _ | assumption | refine below_drewN ?_ _ | refine Below.drew ?_ | refine Below.alloc ?_ ?_ _ | refine Below.setCell ?_ ?_ _)); all_goals (first | omega | (simp only [size_drewN, World.size_alloc, World.size_setCell, World.size_drew] at *; omega) | (simp; done) | (simp; omega)))⟩
  · have ex0 : (x + -1 == 0) = false := by simp; omega
    have exw : (x + -1 == 2 * W) = false := by simp; omega
    have ey0 : (y + dy == 0) = false := by simp; omega
    have eyh : (y + dy == 2 * H) = false := by simp; omega
    have HE : Hid (edgeP W H (x + -1) (y + dy) = false) := hid (by simp [edgeP, *])
    have HK : stK W H zs (x + -1) (y + dy) = 0 := by simp [stK, HE.out, c0]
    have HV : Hid (stU W H zs x y (-1) dy = (-1) ∧ stV W H zs x y (-1) dy = dy) := hid (by simp [stU, stV, HK, ex0, ey0, exw, eyh])
    clear HK
    obtain ⟨bb, off, rfl⟩ := hz.isSome hkz
    rw [c0] at hkz
    have HZ := hid hkz
    have HN := hid hk
    have HI5 := hid i5
    clear hkz hk c0 i5
    go_enter Try.func91, Try.ntmps91
    go_wp2_with fail
    refine (next_any x y (-1) dy _ (by omega) (by omega) (by omega) (by omega) (by omega) (by omega) b1 b2).mono ?_
    rintro e w1 ⟨rfl, hb1⟩
    have KP1 : Hid (Box w1 (w.heap.size) 30 #[.int .i64 W, .int .i64 H, .slice (some ⟨bb, off, none⟩) zs.length c]) := hid (Box.keep (Box.alloc (Box.alloc (Box.new' _ _ _ _ (by simp)) _) _) hb1)
    have KK1 : Hid (Box w1 (w.heap.size + 1) 52 #[.int .i64 x, .int .i64 y, .int .i64 (-1), .int .i64 dy]) := hid (Box.keep (Box.alloc (Box.new' _ _ _ _ (by simp)) _) hb1)
    have KR1 : Hid (Box w1 (w.heap.size + 2) 52 #[.int .i64 0, .int .i64 0, .int .i64 0, .int .i64 0]) := hid (Box.keep (Box.new' _ _ _ _ (by simp)) hb1)
    have HB1 : Hid (Below w.heap.size w w1) := hid (bstep (bal (bal (bal (Below.refl _ _) _) _) _) hb1)
    clear hb1
    obtain ⟨Pa, Pb, Pc⟩ := KP1.out.three
    have Pz := KP1.out.lt
    obtain ⟨Ka, Kb, Kc, Kd⟩ := KK1.out.four
    have Kz := KK1.out.lt
    obtain ⟨Ra, Rb, Rc, Rd⟩ := KR1.out.four
    have Rz := KR1.out.lt
    have Rf := KR1.out.free
    go_wp2_with fail
    have LP : w.heap.size < w1.heap.size := KP1.out.lt
    have LK : w.heap.size + 1 < w1.heap.size := KK1.out.lt
    have LR : w.heap.size + 2 < w1.heap.size := KR1.out.lt
    have n1 : ¬ (w1.heap.size = w.heap.size + 1) := by omega
    have n2 : ¬ (w.heap.size + 1 = w1.heap.size) := by omega
    have n3 : ¬ (w1.heap.size = w.heap.size) := by omega
    have n4 : ¬ (w.heap.size = w1.heap.size) := by omega
    refine (calls_bool (isBorder_any W H (x + -1) (y + dy) _ _ _ _ HS.out.1 HS.out.2) HE.out).mono ?_
    rintro e w2 ⟨rfl, hb2⟩
    clear Pa Pb Pc Pz Ka Kb Kc Kd Kz Ra Rb Rc Rd Rz Rf
    have KP2 : Hid (Box w2 (w.heap.size) 30 #[.int .i64 W, .int .i64 H, .slice (some ⟨bb, off, none⟩) zs.length c]) := hid (Box.keep (Box.alloc (Box.alloc (KP1.out) _) _) hb2)
    have KK2 : Hid (Box w2 (w.heap.size + 1) 52 #[.int .i64 x, .int .i64 y, .int .i64 (-1), .int .i64 dy]) := hid (Box.keep (Box.alloc (Box.alloc (KK1.out) _) _) hb2)
    have KR2 : Hid (Box w2 (w.heap.size + 2) 52 #[.int .i64 0, .int .i64 0, .int .i64 0, .int .i64 0]) := hid (Box.keep (Box.alloc (Box.alloc (KR1.out) _) _) hb2)
    have KQ2 : Hid (Box w2 (w1.heap.size) 32 #[.int .i64 (x + -1), .int .i64 (y + dy)]) := hid (Box.keep (Box.alloc (Box.new' _ _ _ _ (by simp)) _) hb2)
    have KO2 : Hid (Box w2 (w1.heap.size + 1) 52 #[.int .i64 (x + -1), .int .i64 (y + dy), .int .i64 (-1), .int .i64 dy]) := hid (Box.keep (Box.new' _ _ _ _ (by simp)) hb2)
    have HB2 : Hid (Below w.heap.size w w2) := hid (bstep (bal (bal (HB1.out) _) _) hb2)
    clear hb2
    obtain ⟨Pa, Pb, Pc⟩ := KP2.out.three
    have Pz := KP2.out.lt
    obtain ⟨Ka, Kb, Kc, Kd⟩ := KK2.out.four
    have Kz := KK2.out.lt
    obtain ⟨Ra, Rb, Rc, Rd⟩ := KR2.out.four
    have Rz := KR2.out.lt
    have Rf := KR2.out.free
    obtain ⟨Qa, Qb⟩ := KQ2.out.two
    have Qz := KQ2.out.lt
    obtain ⟨Oa, Ob, Oc, Od⟩ := KO2.out.four
    have Oz := KO2.out.lt
    have Of := KO2.out.free
    go_wp2_with fail
    obtain ⟨hbb, hcc⟩ := (hz.below (HB2.out)).at HZ.out
    have bbz : bb < w2.heap.size := by have := (HB2.out).size; omega
    refine wp_region_mix (w2.heap.size) (by kernel_rfl) (by kernel_rfl) ?_
    repeat (any_goals (go_big_quiet_step ((first | (go_at_call 98; exact mix_call (by simp) (calls_int0 (number_any W H (x + -1) (y + dy) _ _ _ _ HS.out.1 HS.out.2 i1 i2 i3 i4 HI5.out) HN.out))))))
    refine wpQuiet_nil ?_
    intro w3 hx3
    have hb3 : Below _ _ w3 := mix_ex hx3
    clear hx3
    clear Pa Pb Pc Pz Ka Kb Kc Kd Kz Ra Rb Rc Rd Rz Rf Qa Qb Qz Oa Ob Oc Od Oz Of
    have KP3 : Hid (Box w3 (w.heap.size) 30 #[.int .i64 W, .int .i64 H, .slice (some ⟨bb, off, none⟩) zs.length c]) := hid (Box.keep (KP2.out) hb3)
    have KK3 : Hid (Box w3 (w.heap.size + 1) 52 #[.int .i64 x, .int .i64 y, .int .i64 (-1), .int .i64 dy]) := hid (Box.keep (KK2.out) hb3)
    have KR3 : Hid (Box w3 (w.heap.size + 2) 52 #[.int .i64 0, .int .i64 0, .int .i64 0, .int .i64 0]) := hid (Box.keep (KR2.out) hb3)
    have KQ3 : Hid (Box w3 (w1.heap.size) 32 #[.int .i64 (x + -1), .int .i64 (y + dy)]) := hid (Box.keep (KQ2.out) hb3)
    have KO3 : Hid (Box w3 (w1.heap.size + 1) 52 #[.int .i64 (x + -1), .int .i64 (y + dy), .int .i64 (-1), .int .i64 dy]) := hid (Box.keep (KO2.out) hb3)
    have HB3 : Hid (Below w.heap.size w w3) := hid (bstep (HB2.out) hb3)
    clear hb3
    obtain ⟨Pa, Pb, Pc⟩ := KP3.out.three
    have Pz := KP3.out.lt
    obtain ⟨Ka, Kb, Kc, Kd⟩ := KK3.out.four
    have Kz := KK3.out.lt
    obtain ⟨Ra, Rb, Rc, Rd⟩ := KR3.out.four
    have Rz := KR3.out.lt
    have Rf := KR3.out.free
    obtain ⟨Qa, Qb⟩ := KQ3.out.two
    have Qz := KQ3.out.lt
    obtain ⟨Oa, Ob, Oc, Od⟩ := KO3.out.four
    have Oz := KO3.out.lt
    have Of := KO3.out.free
    go_wp2_with fail
    clear Pa Pb Pc Pz Ka Kb Kc Kd Kz Ra Rb Rc Rd Rz Rf Qa Qb Qz Oa Ob Oc Od Oz Of
    obtain ⟨w4, hw4⟩ : ∃ zz : World, zz = w3 := ⟨_, rfl⟩
    rw [← hw4]
    have KP4 : Hid (Box w4 (w.heap.size) 30 #[.int .i64 W, .int .i64 H, .slice (some ⟨bb, off, none⟩) zs.length c]) := by rw [hw4]; exact hid (KP3.out)
    have KK4 : Hid (Box w4 (w.heap.size + 1) 52 #[.int .i64 x, .int .i64 y, .int .i64 (-1), .int .i64 dy]) := by rw [hw4]; exact hid (KK3.out)
    have KR4 : Hid (Box w4 (w.heap.size + 2) 52 #[.int .i64 0, .int .i64 0, .int .i64 0, .int .i64 0]) := by rw [hw4]; exact hid (KR3.out)
    have KQ4 : Hid (Box w4 (w1.heap.size) 32 #[.int .i64 (x + -1), .int .i64 (y + dy)]) := by rw [hw4]; exact hid (KQ3.out)
    have KO4 : Hid (Box w4 (w1.heap.size + 1) 52 #[.int .i64 (x + -1), .int .i64 (y + dy), .int .i64 (-1), .int .i64 dy]) := by rw [hw4]; exact hid (KO3.out)
    have HB4 : Hid (Below w.heap.size w w4) := by rw [hw4]; exact hid (HB3.out)
    clear hw4
    obtain ⟨Pa, Pb, Pc⟩ := KP4.out.three
    have Pz := KP4.out.lt
    obtain ⟨Ka, Kb, Kc, Kd⟩ := KK4.out.four
    have Kz := KK4.out.lt
    obtain ⟨Ra, Rb, Rc, Rd⟩ := KR4.out.four
    have Rz := KR4.out.lt
    have Rf := KR4.out.free
    obtain ⟨Qa, Qb⟩ := KQ4.out.two
    have Qz := KQ4.out.lt
    obtain ⟨Oa, Ob, Oc, Od⟩ := KO4.out.four
    have Oz := KO4.out.lt
    have Of := KO4.out.free
    go_region
    go_wp2_with fail
    have hbE := (HB4.out)
    refine bodyPost_ret (v := .tuple #[.agg #[.int .i64 (x + -1), .int .i64 (y + dy), .int .i64 (-1), .int .i64 (dy)], .bool false]) (by simp [results, Try.results91, go_sem, *]) rfl ⟨ret_ws rfl rfl HV.out.1.symm HV.out.2.symm (by rw [HV.out.1, HV.out.2]; simp [*]), (by (repeat (with_reducible first | exact Below.refl _ _ | assumption | refine below_drewN ?_ _ | refine Below.drew ?_ | refine Below.alloc ?_ ?_ _ | refine Below.setCell ?_ ?_ _)); all_goals (first | omega | (simp only [size_drewN, World.size_alloc, World.size_setCell, World.size_drew] at *; omega) | (simp; done) | (simp; omega)))⟩
  · have ex0 : (x + -1 == 0) = false := by simp; omega
    have exw : (x + -1 == 2 * W) = false := by simp; omega
    have ey0 : (y + dy == 0) = false := by simp; omega
    have eyh : (y + dy == 2 * H) = false := by simp; omega
    have HE : Hid (edgeP W H (x + -1) (y + dy) = false) := hid (by simp [edgeP, *])
    have HK : stK W H zs (x + -1) (y + dy) = 1 := by simp [stK, HE.out, c0]
    have HV : Hid (stU W H zs x y (-1) dy = 1 ∧ stV W H zs x y (-1) dy = dy) := hid (by simp [stU, stV, HK, ex0, ey0, exw, eyh])
    clear HK
    obtain ⟨bb, off, rfl⟩ := hz.isSome hkz
    rw [c0] at hkz
    have HZ := hid hkz
    have HN := hid hk
    have HI5 := hid i5
    clear hkz hk c0 i5
    go_enter Try.func91, Try.ntmps91
    go_wp2_with fail
    refine (next_any x y (-1) dy _ (by omega) (by omega) (by omega) (by omega) (by omega) (by omega) b1 b2).mono ?_
    rintro e w1 ⟨rfl, hb1⟩
    have KP1 : Hid (Box w1 (w.heap.size) 30 #[.int .i64 W, .int .i64 H, .slice (some ⟨bb, off, none⟩) zs.length c]) := hid (Box.keep (Box.alloc (Box.alloc (Box.new' _ _ _ _ (by simp)) _) _) hb1)
    have KK1 : Hid (Box w1 (w.heap.size + 1) 52 #[.int .i64 x, .int .i64 y, .int .i64 (-1), .int .i64 dy]) := hid (Box.keep (Box.alloc (Box.new' _ _ _ _ (by simp)) _) hb1)
    have KR1 : Hid (Box w1 (w.heap.size + 2) 52 #[.int .i64 0, .int .i64 0, .int .i64 0, .int .i64 0]) := hid (Box.keep (Box.new' _ _ _ _ (by simp)) hb1)
    have HB1 : Hid (Below w.heap.size w w1) := hid (bstep (bal (bal (bal (Below.refl _ _) _) _) _) hb1)
    clear hb1
    obtain ⟨Pa, Pb, Pc⟩ := KP1.out.three
    have Pz := KP1.out.lt
    obtain ⟨Ka, Kb, Kc, Kd⟩ := KK1.out.four
    have Kz := KK1.out.lt
    obtain ⟨Ra, Rb, Rc, Rd⟩ := KR1.out.four
    have Rz := KR1.out.lt
    have Rf := KR1.out.free
    go_wp2_with fail
    have LP : w.heap.size < w1.heap.size := KP1.out.lt
    have LK : w.heap.size + 1 < w1.heap.size := KK1.out.lt
    have LR : w.heap.size + 2 < w1.heap.size := KR1.out.lt
    have n1 : ¬ (w1.heap.size = w.heap.size + 1) := by omega
    have n2 : ¬ (w.heap.size + 1 = w1.heap.size) := by omega
    have n3 : ¬ (w1.heap.size = w.heap.size) := by omega
    have n4 : ¬ (w.heap.size = w1.heap.size) := by omega
    refine (calls_bool (isBorder_any W H (x + -1) (y + dy) _ _ _ _ HS.out.1 HS.out.2) HE.out).mono ?_
    rintro e w2 ⟨rfl, hb2⟩
    clear Pa Pb Pc Pz Ka Kb Kc Kd Kz Ra Rb Rc Rd Rz Rf
    have KP2 : Hid (Box w2 (w.heap.size) 30 #[.int .i64 W, .int .i64 H, .slice (some ⟨bb, off, none⟩) zs.length c]) := hid (Box.keep (Box.alloc (Box.alloc (KP1.out) _) _) hb2)
    have KK2 : Hid (Box w2 (w.heap.size + 1) 52 #[.int .i64 x, .int .i64 y, .int .i64 (-1), .int .i64 dy]) := hid (Box.keep (Box.alloc (Box.alloc (KK1.out) _) _) hb2)
    have KR2 : Hid (Box w2 (w.heap.size + 2) 52 #[.int .i64 0, .int .i64 0, .int .i64 0, .int .i64 0]) := hid (Box.keep (Box.alloc (Box.alloc (KR1.out) _) _) hb2)
    have KQ2 : Hid (Box w2 (w1.heap.size) 32 #[.int .i64 (x + -1), .int .i64 (y + dy)]) := hid (Box.keep (Box.alloc (Box.new' _ _ _ _ (by simp)) _) hb2)
    have KO2 : Hid (Box w2 (w1.heap.size + 1) 52 #[.int .i64 (x + -1), .int .i64 (y + dy), .int .i64 (-1), .int .i64 dy]) := hid (Box.keep (Box.new' _ _ _ _ (by simp)) hb2)
    have HB2 : Hid (Below w.heap.size w w2) := hid (bstep (bal (bal (HB1.out) _) _) hb2)
    clear hb2
    obtain ⟨Pa, Pb, Pc⟩ := KP2.out.three
    have Pz := KP2.out.lt
    obtain ⟨Ka, Kb, Kc, Kd⟩ := KK2.out.four
    have Kz := KK2.out.lt
    obtain ⟨Ra, Rb, Rc, Rd⟩ := KR2.out.four
    have Rz := KR2.out.lt
    have Rf := KR2.out.free
    obtain ⟨Qa, Qb⟩ := KQ2.out.two
    have Qz := KQ2.out.lt
    obtain ⟨Oa, Ob, Oc, Od⟩ := KO2.out.four
    have Oz := KO2.out.lt
    have Of := KO2.out.free
    go_wp2_with fail
    obtain ⟨hbb, hcc⟩ := (hz.below (HB2.out)).at HZ.out
    have bbz : bb < w2.heap.size := by have := (HB2.out).size; omega
    refine wp_region_mix (w2.heap.size) (by kernel_rfl) (by kernel_rfl) ?_
    repeat (any_goals (go_big_quiet_step ((first | (go_at_call 98; exact mix_call (by simp) (calls_int0 (number_any W H (x + -1) (y + dy) _ _ _ _ HS.out.1 HS.out.2 i1 i2 i3 i4 HI5.out) HN.out))))))
    refine wpQuiet_nil ?_
    intro w3 hx3
    have hb3 : Below _ _ w3 := mix_ex hx3
    clear hx3
    clear Pa Pb Pc Pz Ka Kb Kc Kd Kz Ra Rb Rc Rd Rz Rf Qa Qb Qz Oa Ob Oc Od Oz Of
    have KP3 : Hid (Box w3 (w.heap.size) 30 #[.int .i64 W, .int .i64 H, .slice (some ⟨bb, off, none⟩) zs.length c]) := hid (Box.keep (KP2.out) hb3)
    have KK3 : Hid (Box w3 (w.heap.size + 1) 52 #[.int .i64 x, .int .i64 y, .int .i64 (-1), .int .i64 dy]) := hid (Box.keep (KK2.out) hb3)
    have KR3 : Hid (Box w3 (w.heap.size + 2) 52 #[.int .i64 0, .int .i64 0, .int .i64 0, .int .i64 0]) := hid (Box.keep (KR2.out) hb3)
    have KQ3 : Hid (Box w3 (w1.heap.size) 32 #[.int .i64 (x + -1), .int .i64 (y + dy)]) := hid (Box.keep (KQ2.out) hb3)
    have KO3 : Hid (Box w3 (w1.heap.size + 1) 52 #[.int .i64 (x + -1), .int .i64 (y + dy), .int .i64 (-1), .int .i64 dy]) := hid (Box.keep (KO2.out) hb3)
    have HB3 : Hid (Below w.heap.size w w3) := hid (bstep (HB2.out) hb3)
    clear hb3
    obtain ⟨Pa, Pb, Pc⟩ := KP3.out.three
    have Pz := KP3.out.lt
    obtain ⟨Ka, Kb, Kc, Kd⟩ := KK3.out.four
    have Kz := KK3.out.lt
    obtain ⟨Ra, Rb, Rc, Rd⟩ := KR3.out.four
    have Rz := KR3.out.lt
    have Rf := KR3.out.free
    obtain ⟨Qa, Qb⟩ := KQ3.out.two
    have Qz := KQ3.out.lt
    obtain ⟨Oa, Ob, Oc, Od⟩ := KO3.out.four
    have Oz := KO3.out.lt
    have Of := KO3.out.free
    go_wp2_with fail
    clear Pa Pb Pc Pz Ka Kb Kc Kd Kz Ra Rb Rc Rd Rz Rf Qa Qb Qz Oa Ob Oc Od Oz Of
    obtain ⟨w4, hw4⟩ : ∃ zz : World, zz = (w3.setCell ⟨w1.heap.size + 1, 2, none⟩ (.int .i64 1)) := ⟨_, rfl⟩
    rw [← hw4]
    have KP4 : Hid (Box w4 (w.heap.size) 30 #[.int .i64 W, .int .i64 H, .slice (some ⟨bb, off, none⟩) zs.length c]) := by rw [hw4]; exact hid (Box.set (KP3.out) (by simp <;> omega) _)
    have KK4 : Hid (Box w4 (w.heap.size + 1) 52 #[.int .i64 x, .int .i64 y, .int .i64 (-1), .int .i64 dy]) := by rw [hw4]; exact hid (Box.set (KK3.out) (by simp <;> omega) _)
    have KR4 : Hid (Box w4 (w.heap.size + 2) 52 #[.int .i64 0, .int .i64 0, .int .i64 0, .int .i64 0]) := by rw [hw4]; exact hid (Box.set (KR3.out) (by simp <;> omega) _)
    have KQ4 : Hid (Box w4 (w1.heap.size) 32 #[.int .i64 (x + -1), .int .i64 (y + dy)]) := by rw [hw4]; exact hid (Box.set (KQ3.out) (by simp <;> omega) _)
    have KO4 : Hid (Box w4 (w1.heap.size + 1) 52 #[.int .i64 (x + -1), .int .i64 (y + dy), .int .i64 1, .int .i64 dy]) := by rw [hw4]; exact hid (Box.put (KO3.out) 2 _)
    have HB4 : Hid (Below w.heap.size w w4) := by rw [hw4]; exact hid (Below.setCell (HB3.out) (by simp <;> omega) _)
    clear hw4
    obtain ⟨Pa, Pb, Pc⟩ := KP4.out.three
    have Pz := KP4.out.lt
    obtain ⟨Ka, Kb, Kc, Kd⟩ := KK4.out.four
    have Kz := KK4.out.lt
    obtain ⟨Ra, Rb, Rc, Rd⟩ := KR4.out.four
    have Rz := KR4.out.lt
    have Rf := KR4.out.free
    obtain ⟨Qa, Qb⟩ := KQ4.out.two
    have Qz := KQ4.out.lt
    obtain ⟨Oa, Ob, Oc, Od⟩ := KO4.out.four
    have Oz := KO4.out.lt
    have Of := KO4.out.free
    go_region
    go_wp2_with fail
    have hbE := (HB4.out)
    refine bodyPost_ret (v := .tuple #[.agg #[.int .i64 (x + -1), .int .i64 (y + dy), .int .i64 1, .int .i64 (dy)], .bool true]) (by simp [results, Try.results91, go_sem, *]) rfl ⟨ret_ws rfl rfl HV.out.1.symm HV.out.2.symm (by rw [HV.out.1, HV.out.2]; simp [*]), (by (repeat (with_reducible first | exact Below.refl _ _ | assumption | refine below_drewN ?_ _ | refine Below.drew ?_ | refine Below.alloc ?_ ?_ _ | refine Below.setCell ?_ ?_ _)); all_goals (first | omega | (simp only [size_drewN, World.size_alloc, World.size_setCell, World.size_drew] at *; omega) | (simp; done) | (simp; omega)))⟩
  · have ex0 : (x + -1 == 0) = false := by simp; omega
    have exw : (x + -1 == 2 * W) = false := by simp; omega
    have ey0 : (y + dy == 0) = false := by simp; omega
    have eyh : (y + dy == 2 * H) = false := by simp; omega
    have HE : Hid (edgeP W H (x + -1) (y + dy) = false) := hid (by simp [edgeP, *])
    have HK : stK W H zs (x + -1) (y + dy) = 2 := by simp [stK, HE.out, c0]
    have HV : Hid (stU W H zs x y (-1) dy = (-1) ∧ stV W H zs x y (-1) dy = -dy) := hid (by simp [stU, stV, HK, ex0, ey0, exw, eyh])
    clear HK
    have t2 : IntKind.i64.wrap (-dy) = -dy := IntWalk.i64_in _ (by omega)
    have ny := neg_ne HY.out
    have nyp : ¬ (-dy = dy) := by simpa using ny
    obtain ⟨bb, off, rfl⟩ := hz.isSome hkz
    rw [c0] at hkz
    have HZ := hid hkz
    have HN := hid hk
    have HI5 := hid i5
    clear hkz hk c0 i5
    go_enter Try.func91, Try.ntmps91
    go_wp2_with fail
    refine (next_any x y (-1) dy _ (by omega) (by omega) (by omega) (by omega) (by omega) (by omega) b1 b2).mono ?_
    rintro e w1 ⟨rfl, hb1⟩
    have KP1 : Hid (Box w1 (w.heap.size) 30 #[.int .i64 W, .int .i64 H, .slice (some ⟨bb, off, none⟩) zs.length c]) := hid (Box.keep (Box.alloc (Box.alloc (Box.new' _ _ _ _ (by simp)) _) _) hb1)
    have KK1 : Hid (Box w1 (w.heap.size + 1) 52 #[.int .i64 x, .int .i64 y, .int .i64 (-1), .int .i64 dy]) := hid (Box.keep (Box.alloc (Box.new' _ _ _ _ (by simp)) _) hb1)
    have KR1 : Hid (Box w1 (w.heap.size + 2) 52 #[.int .i64 0, .int .i64 0, .int .i64 0, .int .i64 0]) := hid (Box.keep (Box.new' _ _ _ _ (by simp)) hb1)
    have HB1 : Hid (Below w.heap.size w w1) := hid (bstep (bal (bal (bal (Below.refl _ _) _) _) _) hb1)
    clear hb1
    obtain ⟨Pa, Pb, Pc⟩ := KP1.out.three
    have Pz := KP1.out.lt
    obtain ⟨Ka, Kb, Kc, Kd⟩ := KK1.out.four
    have Kz := KK1.out.lt
    obtain ⟨Ra, Rb, Rc, Rd⟩ := KR1.out.four
    have Rz := KR1.out.lt
    have Rf := KR1.out.free
    go_wp2_with fail
    have LP : w.heap.size < w1.heap.size := KP1.out.lt
    have LK : w.heap.size + 1 < w1.heap.size := KK1.out.lt
    have LR : w.heap.size + 2 < w1.heap.size := KR1.out.lt
    have n1 : ¬ (w1.heap.size = w.heap.size + 1) := by omega
    have n2 : ¬ (w.heap.size + 1 = w1.heap.size) := by omega
    have n3 : ¬ (w1.heap.size = w.heap.size) := by omega
    have n4 : ¬ (w.heap.size = w1.heap.size) := by omega
    refine (calls_bool (isBorder_any W H (x + -1) (y + dy) _ _ _ _ HS.out.1 HS.out.2) HE.out).mono ?_
    rintro e w2 ⟨rfl, hb2⟩
    clear Pa Pb Pc Pz Ka Kb Kc Kd Kz Ra Rb Rc Rd Rz Rf
    have KP2 : Hid (Box w2 (w.heap.size) 30 #[.int .i64 W, .int .i64 H, .slice (some ⟨bb, off, none⟩) zs.length c]) := hid (Box.keep (Box.alloc (Box.alloc (KP1.out) _) _) hb2)
    have KK2 : Hid (Box w2 (w.heap.size + 1) 52 #[.int .i64 x, .int .i64 y, .int .i64 (-1), .int .i64 dy]) := hid (Box.keep (Box.alloc (Box.alloc (KK1.out) _) _) hb2)
    have KR2 : Hid (Box w2 (w.heap.size + 2) 52 #[.int .i64 0, .int .i64 0, .int .i64 0, .int .i64 0]) := hid (Box.keep (Box.alloc (Box.alloc (KR1.out) _) _) hb2)
    have KQ2 : Hid (Box w2 (w1.heap.size) 32 #[.int .i64 (x + -1), .int .i64 (y + dy)]) := hid (Box.keep (Box.alloc (Box.new' _ _ _ _ (by simp)) _) hb2)
    have KO2 : Hid (Box w2 (w1.heap.size + 1) 52 #[.int .i64 (x + -1), .int .i64 (y + dy), .int .i64 (-1), .int .i64 dy]) := hid (Box.keep (Box.new' _ _ _ _ (by simp)) hb2)
    have HB2 : Hid (Below w.heap.size w w2) := hid (bstep (bal (bal (HB1.out) _) _) hb2)
    clear hb2
    obtain ⟨Pa, Pb, Pc⟩ := KP2.out.three
    have Pz := KP2.out.lt
    obtain ⟨Ka, Kb, Kc, Kd⟩ := KK2.out.four
    have Kz := KK2.out.lt
    obtain ⟨Ra, Rb, Rc, Rd⟩ := KR2.out.four
    have Rz := KR2.out.lt
    have Rf := KR2.out.free
    obtain ⟨Qa, Qb⟩ := KQ2.out.two
    have Qz := KQ2.out.lt
    obtain ⟨Oa, Ob, Oc, Od⟩ := KO2.out.four
    have Oz := KO2.out.lt
    have Of := KO2.out.free
    go_wp2_with fail
    obtain ⟨hbb, hcc⟩ := (hz.below (HB2.out)).at HZ.out
    have bbz : bb < w2.heap.size := by have := (HB2.out).size; omega
    refine wp_region_mix (w2.heap.size) (by kernel_rfl) (by kernel_rfl) ?_
    repeat (any_goals (go_big_quiet_step ((first | (go_at_call 98; exact mix_call (by simp) (calls_int0 (number_any W H (x + -1) (y + dy) _ _ _ _ HS.out.1 HS.out.2 i1 i2 i3 i4 HI5.out) HN.out))))))
    refine wpQuiet_nil ?_
    intro w3 hx3
    have hb3 : Below _ _ w3 := mix_ex hx3
    clear hx3
    clear Pa Pb Pc Pz Ka Kb Kc Kd Kz Ra Rb Rc Rd Rz Rf Qa Qb Qz Oa Ob Oc Od Oz Of
    have KP3 : Hid (Box w3 (w.heap.size) 30 #[.int .i64 W, .int .i64 H, .slice (some ⟨bb, off, none⟩) zs.length c]) := hid (Box.keep (KP2.out) hb3)
    have KK3 : Hid (Box w3 (w.heap.size + 1) 52 #[.int .i64 x, .int .i64 y, .int .i64 (-1), .int .i64 dy]) := hid (Box.keep (KK2.out) hb3)
    have KR3 : Hid (Box w3 (w.heap.size + 2) 52 #[.int .i64 0, .int .i64 0, .int .i64 0, .int .i64 0]) := hid (Box.keep (KR2.out) hb3)
    have KQ3 : Hid (Box w3 (w1.heap.size) 32 #[.int .i64 (x + -1), .int .i64 (y + dy)]) := hid (Box.keep (KQ2.out) hb3)
    have KO3 : Hid (Box w3 (w1.heap.size + 1) 52 #[.int .i64 (x + -1), .int .i64 (y + dy), .int .i64 (-1), .int .i64 dy]) := hid (Box.keep (KO2.out) hb3)
    have HB3 : Hid (Below w.heap.size w w3) := hid (bstep (HB2.out) hb3)
    clear hb3
    obtain ⟨Pa, Pb, Pc⟩ := KP3.out.three
    have Pz := KP3.out.lt
    obtain ⟨Ka, Kb, Kc, Kd⟩ := KK3.out.four
    have Kz := KK3.out.lt
    obtain ⟨Ra, Rb, Rc, Rd⟩ := KR3.out.four
    have Rz := KR3.out.lt
    have Rf := KR3.out.free
    obtain ⟨Qa, Qb⟩ := KQ3.out.two
    have Qz := KQ3.out.lt
    obtain ⟨Oa, Ob, Oc, Od⟩ := KO3.out.four
    have Oz := KO3.out.lt
    have Of := KO3.out.free
    go_wp2_with fail
    clear Pa Pb Pc Pz Ka Kb Kc Kd Kz Ra Rb Rc Rd Rz Rf Qa Qb Qz Oa Ob Oc Od Oz Of
    obtain ⟨w4, hw4⟩ : ∃ zz : World, zz = (w3.setCell ⟨w1.heap.size + 1, 3, none⟩ (.int .i64 (-dy))) := ⟨_, rfl⟩
    rw [← hw4]
    have KP4 : Hid (Box w4 (w.heap.size) 30 #[.int .i64 W, .int .i64 H, .slice (some ⟨bb, off, none⟩) zs.length c]) := by rw [hw4]; exact hid (Box.set (KP3.out) (by simp <;> omega) _)
    have KK4 : Hid (Box w4 (w.heap.size + 1) 52 #[.int .i64 x, .int .i64 y, .int .i64 (-1), .int .i64 dy]) := by rw [hw4]; exact hid (Box.set (KK3.out) (by simp <;> omega) _)
    have KR4 : Hid (Box w4 (w.heap.size + 2) 52 #[.int .i64 0, .int .i64 0, .int .i64 0, .int .i64 0]) := by rw [hw4]; exact hid (Box.set (KR3.out) (by simp <;> omega) _)
    have KQ4 : Hid (Box w4 (w1.heap.size) 32 #[.int .i64 (x + -1), .int .i64 (y + dy)]) := by rw [hw4]; exact hid (Box.set (KQ3.out) (by simp <;> omega) _)
    have KO4 : Hid (Box w4 (w1.heap.size + 1) 52 #[.int .i64 (x + -1), .int .i64 (y + dy), .int .i64 (-1), .int .i64 (-dy)]) := by rw [hw4]; exact hid (Box.put (KO3.out) 3 _)
    have HB4 : Hid (Below w.heap.size w w4) := by rw [hw4]; exact hid (Below.setCell (HB3.out) (by simp <;> omega) _)
    clear hw4
    obtain ⟨Pa, Pb, Pc⟩ := KP4.out.three
    have Pz := KP4.out.lt
    obtain ⟨Ka, Kb, Kc, Kd⟩ := KK4.out.four
    have Kz := KK4.out.lt
    obtain ⟨Ra, Rb, Rc, Rd⟩ := KR4.out.four
    have Rz := KR4.out.lt
    have Rf := KR4.out.free
    obtain ⟨Qa, Qb⟩ := KQ4.out.two
    have Qz := KQ4.out.lt
    obtain ⟨Oa, Ob, Oc, Od⟩ := KO4.out.four
    have Oz := KO4.out.lt
    have Of := KO4.out.free
    go_region
    go_wp2_with fail
    have hbE := (HB4.out)
    refine bodyPost_ret (v := .tuple #[.agg #[.int .i64 (x + -1), .int .i64 (y + dy), .int .i64 (-1), .int .i64 (-dy)], .bool true]) (by simp [results, Try.results91, go_sem, *]) rfl ⟨ret_ws rfl rfl HV.out.1.symm HV.out.2.symm (by rw [HV.out.1, HV.out.2]; simp [*]), (by (repeat (with_reducible first | exact Below.refl _ _ | assumption | refine below_drewN ?_ _ | refine Below.drew ?_ | refine Below.alloc ?_ ?_ _ | refine Below.setCell ?_ ?_ _)); all_goals (first | omega | (simp only [size_drewN, World.size_alloc, World.size_setCell, World.size_drew] at *; omega) | (simp; done) | (simp; omega)))⟩
set_option maxHeartbeats 800000 in
theorem step_any (W H : Int) (A : Option Addr) (c : Nat) (zs : List Int) (x y dx dy : Int) (w : World) (hz : Ints w w.heap.size A zs) (hl : zs.length ≤ maxLen) (hv : validB W H zs = true) (h : walkB W H x y dx dy = true) :
    Calls Try.prog 91 #[.agg #[.int .i64 W, .int .i64 H, .slice A zs.length c], .agg #[.int .i64 x, .int .i64 y, .int .i64 dx, .int .i64 dy]] w fun e w' => e = .returned (.tuple #[.agg #[.int .i64 (x + dx), .int .i64 (y + dy), .int .i64 (stU W H zs x y dx dy), .int .i64 (stV W H zs x y dx dy)], .bool (stU W H zs x y dx dy != dx || stV W H zs x y dx dy != dy)]) ∧ Below w.heap.size w w' := by
  rcases (walk_parts h).1 with rfl | rfl
  · exact step_one W H A c zs x y dy w hz hl hv h
  · exact step_neg W H A c zs x y dy w hz hl hv h
end Go.Proofs.Ytbgigompkmnapaa

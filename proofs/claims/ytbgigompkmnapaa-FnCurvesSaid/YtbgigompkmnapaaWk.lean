/- WalkSteps. -/
import Derived.Test.YtbgigompkmnapaaSw
namespace Go.Proofs.Ytbgigompkmnapaa
set_option linter.unusedSimpArgs false
set_option linter.unusedVariables false
open Go.ChangeShapes Go.WideShapes Go.ChangeAt Go.RowKit
/-- A step, and many. -/
def stepW (W H : Int) (zs : List Int) (s : Int × Int × Int × Int) : Int × Int × Int × Int :=
  (s.1 + s.2.2.1, s.2.1 + s.2.2.2, stU W H zs s.1 s.2.1 s.2.2.1 s.2.2.2, stV W H zs s.1 s.2.1 s.2.2.1 s.2.2.2)
def itW (W H : Int) (zs : List Int) : Nat → Int × Int × Int × Int → Int × Int × Int × Int
  | 0, s => s
  | n + 1, s => stepW W H zs (itW W H zs n s)
/-- A valid walker is valid behind a step. -/
theorem walkB_step {W H : Int} {zs : List Int} {x y dx dy : Int} (hv : validB W H zs = true) (h : walkB W H x y dx dy = true) : walkB W H (x + dx) (y + dy) (stU W H zs x y dx dy) (stV W H zs x y dx dy) = true := by
  obtain ⟨h1, h2, h3, h4⟩ := walk_parts h
  obtain ⟨hW, hH⟩ := valid_sides hv
  have b1 := side_bd hW
  have b2 := side_bd hH
  have p1 : (x + y) % 2 = 1 := by simp only [hasP, Bool.and_eq_true, beq_iff_eq] at h3; exact h3.2.2
  have k1 := hasP_bd h3
  have k2 := hasP_bd h4
  have goal : ∀ u v : Int, (u = 1 ∨ u = -1) → (v = 1 ∨ v = -1) → 0 ≤ x + dx + u → x + dx + u ≤ 2 * W → 0 ≤ y + dy + v → y + dy + v ≤ 2 * H → walkB W H (x + dx) (y + dy) u v = true := by
    intro u v hu hv' a1 a2 a3 a4
    have hp : hasP W H (x + dx + u) (y + dy + v) = true := by
      simp only [hasP, inR, Bool.and_eq_true, decide_eq_true_eq, beq_iff_eq]
      omega
    simp only [walkB, Bool.and_eq_true]
    refine ⟨?_, ?_, h4, hp⟩
    · rcases hu with rfl | rfl <;> rfl
    · rcases hv' with rfl | rfl <;> rfl
  rcases step_cases hv h with ⟨c1, c2, c3⟩ | ⟨c1, c2, c3, c4⟩ | ⟨c1, c2, c3⟩ | ⟨c1, c2, c3, c4⟩ | ⟨⟨i1, i2, i3, i4, i5⟩, k, hk, hkl, hkz, c0 | c0 | c0⟩
  all_goals
    have e1 : ((x + dx == 0 || x + dx == 2 * W || stK W H zs (x + dx) (y + dy) == 1) = true ∧ stU W H zs x y dx dy = -dx) ∨ ((x + dx == 0 || x + dx == 2 * W || stK W H zs (x + dx) (y + dy) == 1) = false ∧ stU W H zs x y dx dy = dx) := by
      unfold stU
      cases (x + dx == 0 || x + dx == 2 * W || stK W H zs (x + dx) (y + dy) == 1) <;> simp
    have e2 : ((y + dy == 0 || y + dy == 2 * H || stK W H zs (x + dx) (y + dy) == 2) = true ∧ stV W H zs x y dx dy = -dy) ∨ ((y + dy == 0 || y + dy == 2 * H || stK W H zs (x + dx) (y + dy) == 2) = false ∧ stV W H zs x y dx dy = dy) := by
      unfold stV
      cases (y + dy == 0 || y + dy == 2 * H || stK W H zs (x + dx) (y + dy) == 2) <;> simp
    simp only [Bool.or_eq_true, Bool.or_eq_false_iff, beq_iff_eq, beq_eq_false_iff_ne] at e1 e2
    apply goal <;> omega
theorem walkB_it {W H : Int} {zs : List Int} (hv : validB W H zs = true) {x y dx dy : Int} (h : walkB W H x y dx dy = true) (n : Nat) : walkB W H (itW W H zs n (x, y, dx, dy)).1 (itW W H zs n (x, y, dx, dy)).2.1 (itW W H zs n (x, y, dx, dy)).2.2.1 (itW W H zs n (x, y, dx, dy)).2.2.2 = true := by
  induction n with
  | zero => exact h
  | succ n ih => exact walkB_step hv ih
/-- What WalkSteps answers. -/
def wsS (W H : Int) (zs : List Int) (x y dx dy n : Int) : Int × Int × Int × Int := if validWB W H zs x y dx dy && inR n 0 10000 then itW W H zs n.toNat (x, y, dx, dy) else (0, 0, 0, 0)
def wsC (W H : Int) (zs : List Int) (x y dx dy n : Int) : Int := if validWB W H zs x y dx dy then (if inR n 0 10000 then 0 else 2) else 1

set_option maxHeartbeats 2000000 in
theorem implWalkSteps_any (W H : Int) (A : Option Addr) (c : Nat) (zs : List Int) (x y dx dy : Int) (a : Int) (w : World) (hz : Ints w w.heap.size A zs) (hl : zs.length ≤ maxLen) (wx : (Lit.int .i64 x).wf = true) (wy : (Lit.int .i64 y).wf = true) (wdx : (Lit.int .i64 dx).wf = true) (wdy : (Lit.int .i64 dy).wf = true) (_ : (Lit.int .i64 a).wf = true) :
    Calls Try.prog 38 #[.agg #[.int .i64 W, .int .i64 H, .slice A zs.length c], .agg #[.int .i64 x, .int .i64 y, .int .i64 dx, .int .i64 dy], .int .i64 a] w fun e w' => e = .returned (.tuple #[.agg #[.int .i64 (wsS W H zs x y dx dy a).1, .int .i64 (wsS W H zs x y dx dy a).2.1, .int .i64 (wsS W H zs x y dx dy a).2.2.1, .int .i64 (wsS W H zs x y dx dy a).2.2.2], .int .i64 (wsC W H zs x y dx dy a)]) ∧ Below w.heap.size w w' := by
  cases hv : validWB W H zs x y dx dy
  · have HV : Hid ((wsS W H zs x y dx dy a).1 = 0 ∧ (wsS W H zs x y dx dy a).2.1 = 0 ∧ (wsS W H zs x y dx dy a).2.2.1 = 0 ∧ (wsS W H zs x y dx dy a).2.2.2 = 0 ∧ wsC W H zs x y dx dy a = 1) := hid (by simp [wsS, wsC, hv])
    have Hv := hid hv
    clear hv
    go_enter Try.func38, Try.ntmps38
    go_wp2_with fail
    refine (calls_bool (implValidWalker_any W H A c zs x y dx dy _ ((hz.below (bal (bal (bal (Below.refl _ _) _) _) _)).more (bal (bal (bal (Below.refl _ _) _) _) _).size) hl wx wy wdx wdy) Hv.out).mono ?_
    rintro e w1 ⟨rfl, hb1⟩
    have KP1 : Hid (Box w1 (w.heap.size) 30 #[.int .i64 W, .int .i64 H, .slice A zs.length c]) := hid (Box.keep (Box.alloc (Box.alloc (Box.new' _ _ _ _ (by simp)) _) _) hb1)
    have KK1 : Hid (Box w1 (w.heap.size + 1) 52 #[.int .i64 x, .int .i64 y, .int .i64 dx, .int .i64 dy]) := hid (Box.keep (Box.alloc (Box.new' _ _ _ _ (by simp)) _) hb1)
    have KR1 : Hid (Box w1 (w.heap.size + 2) 52 #[.int .i64 0, .int .i64 0, .int .i64 0, .int .i64 0]) := hid (Box.keep (Box.new' _ _ _ _ (by simp)) hb1)
    have HB1 : Hid (Below w.heap.size w w1) := hid (bstep (bal (bal (bal (Below.refl _ _) _) _) _) hb1)
    clear hb1
    obtain ⟨Pa, Pb, Pc⟩ := KP1.out.three
    have Pz := KP1.out.lt
    obtain ⟨Ka, Kb, Kc, Kd⟩ := KK1.out.four
    have Kz := KK1.out.lt
    have Kf := KK1.out.free
    obtain ⟨Ra, Rb, Rc, Rd⟩ := KR1.out.four
    have Rz := KR1.out.lt
    have Rf := KR1.out.free
    go_wp2_with fail
    have hbE := (HB1.out)
    refine bodyPost_ret (v := .tuple #[.agg #[.int .i64 0, .int .i64 0, .int .i64 0, .int .i64 0], .int .i64 1]) (by simp [results, Try.results38, go_sem, *]) rfl ⟨ret_w2' HV.out.1.symm HV.out.2.1.symm HV.out.2.2.1.symm HV.out.2.2.2.1.symm HV.out.2.2.2.2.symm, (by (repeat (with_reducible first | exact Below.refl _ _ | assumption | refine below_drewN ?_ _ | refine Below.drew ?_ | refine Below.alloc ?_ ?_ _ | refine Below.setCell ?_ ?_ _)); all_goals (first | omega | (simp only [size_drewN, World.size_alloc, World.size_setCell, World.size_drew] at *; omega) | (simp; done) | (simp; omega)))⟩
  · cases hk : inR a 0 10000
    · have HV : Hid ((wsS W H zs x y dx dy a).1 = 0 ∧ (wsS W H zs x y dx dy a).2.1 = 0 ∧ (wsS W H zs x y dx dy a).2.2.1 = 0 ∧ (wsS W H zs x y dx dy a).2.2.2 = 0 ∧ wsC W H zs x y dx dy a = 2) := hid (by simp [wsS, wsC, hv, hk])
      have Hv := hid hv
      have Hk := hid hk
      clear hv hk
      go_enter Try.func38, Try.ntmps38
      go_wp2_with fail
      refine (calls_bool (implValidWalker_any W H A c zs x y dx dy _ ((hz.below (bal (bal (bal (Below.refl _ _) _) _) _)).more (bal (bal (bal (Below.refl _ _) _) _) _).size) hl wx wy wdx wdy) Hv.out).mono ?_
      rintro e w1 ⟨rfl, hb1⟩
      have KP1 : Hid (Box w1 (w.heap.size) 30 #[.int .i64 W, .int .i64 H, .slice A zs.length c]) := hid (Box.keep (Box.alloc (Box.alloc (Box.new' _ _ _ _ (by simp)) _) _) hb1)
      have KK1 : Hid (Box w1 (w.heap.size + 1) 52 #[.int .i64 x, .int .i64 y, .int .i64 dx, .int .i64 dy]) := hid (Box.keep (Box.alloc (Box.new' _ _ _ _ (by simp)) _) hb1)
      have KR1 : Hid (Box w1 (w.heap.size + 2) 52 #[.int .i64 0, .int .i64 0, .int .i64 0, .int .i64 0]) := hid (Box.keep (Box.new' _ _ _ _ (by simp)) hb1)
      have HB1 : Hid (Below w.heap.size w w1) := hid (bstep (bal (bal (bal (Below.refl _ _) _) _) _) hb1)
      clear hb1
      obtain ⟨Pa, Pb, Pc⟩ := KP1.out.three
      have Pz := KP1.out.lt
      obtain ⟨Ka, Kb, Kc, Kd⟩ := KK1.out.four
      have Kz := KK1.out.lt
      have Kf := KK1.out.free
      obtain ⟨Ra, Rb, Rc, Rd⟩ := KR1.out.four
      have Rz := KR1.out.lt
      have Rf := KR1.out.free
      go_wp2_with fail
      refine (calls_bool (inRange_any _ _ _ _) Hk.out).mono ?_
      rintro e w' ⟨rfl, rfl⟩
      go_wp2_with fail
      have hbE := (HB1.out)
      refine bodyPost_ret (v := .tuple #[.agg #[.int .i64 0, .int .i64 0, .int .i64 0, .int .i64 0], .int .i64 2]) (by simp [results, Try.results38, go_sem, *]) rfl ⟨ret_w2' HV.out.1.symm HV.out.2.1.symm HV.out.2.2.1.symm HV.out.2.2.2.1.symm HV.out.2.2.2.2.symm, (by (repeat (with_reducible first | exact Below.refl _ _ | assumption | refine below_drewN ?_ _ | refine Below.drew ?_ | refine Below.alloc ?_ ?_ _ | refine Below.setCell ?_ ?_ _)); all_goals (first | omega | (simp only [size_drewN, World.size_alloc, World.size_setCell, World.size_drew] at *; omega) | (simp; done) | (simp; omega)))⟩
    · obtain ⟨a1, a2⟩ := inR_bd hk
      obtain ⟨n, rfl⟩ := Int.eq_ofNat_of_zero_le a1
      have Hs := hid (And.intro (wb_valid hv) (wb_parts hv).2.2)
      have HV : Hid ((wsS W H zs x y dx dy (n : Int)).1 = (itW W H zs n (x, y, dx, dy)).1 ∧ (wsS W H zs x y dx dy (n : Int)).2.1 = (itW W H zs n (x, y, dx, dy)).2.1 ∧ (wsS W H zs x y dx dy (n : Int)).2.2.1 = (itW W H zs n (x, y, dx, dy)).2.2.1 ∧ (wsS W H zs x y dx dy (n : Int)).2.2.2 = (itW W H zs n (x, y, dx, dy)).2.2.2 ∧ wsC W H zs x y dx dy (n : Int) = 0) := hid (by simp [wsS, wsC, hv, hk])
      have Hv := hid hv
      have Hk := hid hk
      clear hv hk
      go_enter Try.func38, Try.ntmps38
      go_wp2_with fail
      refine (calls_bool (implValidWalker_any W H A c zs x y dx dy _ ((hz.below (bal (bal (bal (Below.refl _ _) _) _) _)).more (bal (bal (bal (Below.refl _ _) _) _) _).size) hl wx wy wdx wdy) Hv.out).mono ?_
      rintro e w1 ⟨rfl, hb1⟩
      have KP1 : Hid (Box w1 (w.heap.size) 30 #[.int .i64 W, .int .i64 H, .slice A zs.length c]) := hid (Box.keep (Box.alloc (Box.alloc (Box.new' _ _ _ _ (by simp)) _) _) hb1)
      have KK1 : Hid (Box w1 (w.heap.size + 1) 52 #[.int .i64 x, .int .i64 y, .int .i64 dx, .int .i64 dy]) := hid (Box.keep (Box.alloc (Box.new' _ _ _ _ (by simp)) _) hb1)
      have KR1 : Hid (Box w1 (w.heap.size + 2) 52 #[.int .i64 0, .int .i64 0, .int .i64 0, .int .i64 0]) := hid (Box.keep (Box.new' _ _ _ _ (by simp)) hb1)
      have HB1 : Hid (Below w.heap.size w w1) := hid (bstep (bal (bal (bal (Below.refl _ _) _) _) _) hb1)
      clear hb1
      obtain ⟨Pa, Pb, Pc⟩ := KP1.out.three
      have Pz := KP1.out.lt
      obtain ⟨Ka, Kb, Kc, Kd⟩ := KK1.out.four
      have Kz := KK1.out.lt
      have Kf := KK1.out.free
      obtain ⟨Ra, Rb, Rc, Rd⟩ := KR1.out.four
      have Rz := KR1.out.lt
      have Rf := KR1.out.free
      go_wp2_with fail
      refine (calls_bool (inRange_any _ _ _ _) Hk.out).mono ?_
      rintro e w' ⟨rfl, rfl⟩
      go_wp2_with fail
      go_loopg [18] n (fun g i wr => ∃ j : Nat, j ≤ n ∧ i = .int .i64 j ∧ g = n - j ∧ Hid (Box wr (w.heap.size) 30 #[.int .i64 W, .int .i64 H, .slice A zs.length c]) ∧ Hid (Box wr (w.heap.size + 1) 52 #[.int .i64 (itW W H zs j (x, y, dx, dy)).1, .int .i64 (itW W H zs j (x, y, dx, dy)).2.1, .int .i64 (itW W H zs j (x, y, dx, dy)).2.2.1, .int .i64 (itW W H zs j (x, y, dx, dy)).2.2.2]) ∧ Hid (Box wr (w.heap.size + 2) 52 #[.int .i64 0, .int .i64 0, .int .i64 0, .int .i64 0]) ∧ Hid (Below w.heap.size w wr))
      case atStart => exact ⟨0, Nat.zero_le _, rfl, rfl, KP1, KK1, KR1, HB1⟩
      case round =>
        clear Pa Pb Pc Pz Ka Kb Kc Kd Kz Kf Ra Rb Rc Rd Rz Rf
        obtain ⟨j, hj, rfl, hg, KP, KK, KR, HBr⟩ := hrel
        have HW' := hid (walkB_it Hs.out.1 Hs.out.2 j)
        obtain ⟨x', y', u', v', hst⟩ : ∃ x' y' u' v', itW W H zs j (x, y, dx, dy) = (x', y', u', v') := ⟨_, _, _, _, rfl⟩
        have HST := hid hst
        rw [hst] at KK HW'
        dsimp only at KK HW'
        clear hst
        obtain ⟨Pa, Pb, Pc⟩ := KP.out.three
        obtain ⟨Ka, Kb, Kc, Kd⟩ := KK.out.four
        obtain ⟨Ra, Rb, Rc, Rd⟩ := KR.out.four
        have Pz := KP.out.lt
        have Kz := KK.out.lt
        have Rz := KR.out.lt
        have Kf := KK.out.free
        have Rf := KR.out.free
        by_cases hlt : j < n
        · go_wp2_with fail
          refine (step_any W H A c zs x' y' u' v' _ ((hz.below HBr.out).more HBr.out.size) hl Hs.out.1 HW'.out).mono ?_
          rintro e w9 ⟨rfl, hb9⟩
          clear Pa Pb Pc Ka Kb Kc Kd Ra Rb Rc Rd Pz Kz Rz Kf Rf
          have KP9 := hid (Box.keep KP.out hb9)
          have KK9 := hid (Box.keep KK.out hb9)
          have KR9 := hid (Box.keep KR.out hb9)
          have HB9 := hid (bstep HBr.out hb9)
          clear hb9
          have Kf := KK9.out.free
          obtain ⟨Ka, Kb, Kc, Kd⟩ := KK9.out.four
          have Kz := KK9.out.lt
          go_wp2_with fail
          go_roundg (n - (j + 1))
          case measure => omega
          case rel => exact ⟨j + 1, by omega, by go_num, rfl, hid (Box.set (Box.set (Box.set (Box.set KP9.out (by simp <;> omega) _) (by simp <;> omega) _) (by simp <;> omega) _) (by simp <;> omega) _), hid (by simp only [itW, HST.out, stepW]; exact Box.put4 KK9.out), hid (Box.set (Box.set (Box.set (Box.set KR9.out (by simp <;> omega) _) (by simp <;> omega) _) (by simp <;> omega) _) (by simp <;> omega) _), hid (Below.setCell (Below.setCell (Below.setCell (Below.setCell HB9.out (by simp) _) (by simp) _) (by simp) _) (by simp) _)⟩
        · obtain rfl : j = n := by omega
          go_wp2_with fail
          have HV2 := HV.out
          rw [HST.out] at HV2
          have HV3 := hid HV2
          clear HV2
          have hbE := HBr.out
          refine bodyPost_ret (v := .tuple #[.agg #[.int .i64 x', .int .i64 y', .int .i64 u', .int .i64 v'], .int .i64 0]) (by simp [results, Try.results38, go_sem, *]) rfl ⟨ret_w2' HV3.out.1.symm HV3.out.2.1.symm HV3.out.2.2.1.symm HV3.out.2.2.2.1.symm HV3.out.2.2.2.2.symm, (by (repeat (with_reducible first | exact Below.refl _ _ | assumption | refine below_drewN ?_ _ | refine Below.drew ?_ | refine Below.alloc ?_ ?_ _ | refine Below.setCell ?_ ?_ _)); all_goals (first | omega | (simp only [size_drewN, World.size_alloc, World.size_setCell, World.size_drew] at *; omega) | (simp; done) | (simp; omega)))⟩
end Go.Proofs.Ytbgigompkmnapaa

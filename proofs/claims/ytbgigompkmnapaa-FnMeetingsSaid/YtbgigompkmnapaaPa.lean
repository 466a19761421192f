/- PointAt. -/
import Derived.Test.YtbgigompkmnapaaPx
namespace Go.Proofs.Ytbgigompkmnapaa
set_option linter.unusedSimpArgs false
set_option linter.unusedVariables false
open Go.ChangeShapes Go.WideShapes Go.ChangeAt Go.RowKit
/-- What PointAt answers. -/
def ptRX (W H : Int) (zs : List Int) (k : Int) : Int := if validB W H zs && inR k 0 ((zs.length : Int) - 1) then ptX W H k else 0
def ptRY (W H : Int) (zs : List Int) (k : Int) : Int := if validB W H zs && inR k 0 ((zs.length : Int) - 1) then ptY W H k else 0
def ptRC (W H : Int) (zs : List Int) (k : Int) : Int := if validB W H zs then (if inR k 0 ((zs.length : Int) - 1) then 0 else 2) else 1
theorem valid_len {W H : Int} {zs : List Int} (h : validB W H zs = true) : (zs.length : Int) = inner W H := by
  simp only [validB, Bool.and_eq_true, decide_eq_true_eq] at h
  exact h.1.2
theorem ret_q2 {a b c a' b' c' : Int} (h : a = a') (k : b = b') (l : c = c') : Ending.returned (.tuple #[.agg #[.int .i64 a, .int .i64 b], .int .i64 c]) = .returned (.tuple #[.agg #[.int .i64 a', .int .i64 b'], .int .i64 c']) := by rw [h, k, l]

set_option maxHeartbeats 2000000 in
theorem implPointAt_any (W H : Int) (A : Option Addr) (c : Nat) (zs : List Int) (a : Int) (w : World) (hz : Ints w w.heap.size A zs) (hl : zs.length ≤ maxLen) (_ : (Lit.int .i64 a).wf = true) :
    Calls Try.prog 41 #[.agg #[.int .i64 W, .int .i64 H, .slice A zs.length c], .int .i64 a] w fun e w' => e = .returned (.tuple #[.agg #[.int .i64 (ptRX W H zs a), .int .i64 (ptRY W H zs a)], .int .i64 (ptRC W H zs a)]) ∧ Below w.heap.size w w' := by
  have hl' := hl
  unfold maxLen at hl'
  cases hv : validB W H zs
  · have HV : Hid (ptRX W H zs a = 0 ∧ ptRY W H zs a = 0 ∧ ptRC W H zs a = 1) := hid (by simp [ptRX, ptRY, ptRC, hv])
    have Hv := hid hv
    clear hv
    go_enter Try.func41, Try.ntmps41
    go_wp2_with fail
    refine (calls_bool (validPanel_any W H A c zs _ ((hz.below (bal (bal (Below.refl _ _) _) _)).more (bal (bal (Below.refl _ _) _) _).size) hl) Hv.out).mono ?_
    rintro e w1 ⟨rfl, hb1⟩
    have KP1 : Hid (Box w1 (w.heap.size) 30 #[.int .i64 W, .int .i64 H, .slice A zs.length c]) := hid (Box.keep (Box.alloc (Box.new' _ _ _ _ (by simp)) _) hb1)
    have KR1 : Hid (Box w1 (w.heap.size + 1) 32 #[.int .i64 0, .int .i64 0]) := hid (Box.keep (Box.new' _ _ _ _ (by simp)) hb1)
    have HB1 : Hid (Below w.heap.size w w1) := hid (bstep (bal (bal (Below.refl _ _) _) _) hb1)
    clear hb1
    obtain ⟨Pa, Pb, Pc⟩ := KP1.out.three
    have Pz := KP1.out.lt
    obtain ⟨Ra, Rb⟩ := KR1.out.two
    have Rz := KR1.out.lt
    have Rf := KR1.out.free
    go_wp2_with fail
    have hbE := (HB1.out)
    refine bodyPost_ret (v := .tuple #[.agg #[.int .i64 0, .int .i64 0], .int .i64 1]) (by simp [results, Try.results41, go_sem, *]) rfl ⟨ret_q2 HV.out.1.symm HV.out.2.1.symm HV.out.2.2.symm, (by (repeat (with_reducible first | exact Below.refl _ _ | assumption | refine below_drewN ?_ _ | refine Below.drew ?_ | refine Below.alloc ?_ ?_ _ | refine Below.setCell ?_ ?_ _)); all_goals (first | omega | (simp only [size_drewN, World.size_alloc, World.size_setCell, World.size_drew] at *; omega) | (simp; done) | (simp; omega)))⟩
  · cases hk : inR a 0 ((zs.length : Int) - 1)
    · have HV : Hid (ptRX W H zs a = 0 ∧ ptRY W H zs a = 0 ∧ ptRC W H zs a = 2) := hid (by simp [ptRX, ptRY, ptRC, hv, hk])
      have Hv := hid hv
      have Hk := hid hk
      clear hv hk
      go_enter Try.func41, Try.ntmps41
      go_wp2_with fail
      refine (calls_bool (validPanel_any W H A c zs _ ((hz.below (bal (bal (Below.refl _ _) _) _)).more (bal (bal (Below.refl _ _) _) _).size) hl) Hv.out).mono ?_
      rintro e w1 ⟨rfl, hb1⟩
      have KP1 : Hid (Box w1 (w.heap.size) 30 #[.int .i64 W, .int .i64 H, .slice A zs.length c]) := hid (Box.keep (Box.alloc (Box.new' _ _ _ _ (by simp)) _) hb1)
      have KR1 : Hid (Box w1 (w.heap.size + 1) 32 #[.int .i64 0, .int .i64 0]) := hid (Box.keep (Box.new' _ _ _ _ (by simp)) hb1)
      have HB1 : Hid (Below w.heap.size w w1) := hid (bstep (bal (bal (Below.refl _ _) _) _) hb1)
      clear hb1
      obtain ⟨Pa, Pb, Pc⟩ := KP1.out.three
      have Pz := KP1.out.lt
      obtain ⟨Ra, Rb⟩ := KR1.out.two
      have Rz := KR1.out.lt
      have Rf := KR1.out.free
      go_wp2_with fail
      refine (calls_bool (hasIndex_any _ _ _ (by omega)) Hk.out).mono ?_
      rintro e w' ⟨rfl, rfl⟩
      go_wp2_with fail
      have hbE := (HB1.out)
      refine bodyPost_ret (v := .tuple #[.agg #[.int .i64 0, .int .i64 0], .int .i64 2]) (by simp [results, Try.results41, go_sem, *]) rfl ⟨ret_q2 HV.out.1.symm HV.out.2.1.symm HV.out.2.2.symm, (by (repeat (with_reducible first | exact Below.refl _ _ | assumption | refine below_drewN ?_ _ | refine Below.drew ?_ | refine Below.alloc ?_ ?_ _ | refine Below.setCell ?_ ?_ _)); all_goals (first | omega | (simp only [size_drewN, World.size_alloc, World.size_setCell, World.size_drew] at *; omega) | (simp; done) | (simp; omega)))⟩
    · obtain ⟨a1, a2⟩ := inR_bd hk
      have HL := hid (valid_len hv)
      have a3 : a < inner W H := by have := HL.out; omega
      have Hs := hid (valid_sides hv)
      have HV : Hid (ptRX W H zs a = ptX W H a ∧ ptRY W H zs a = ptY W H a ∧ ptRC W H zs a = 0) := hid (by simp [ptRX, ptRY, ptRC, hv, hk])
      have Hv := hid hv
      have Hk := hid hk
      clear hv hk
      obtain ⟨n, rfl⟩ := Int.eq_ofNat_of_zero_le a1
      go_enter Try.func41, Try.ntmps41
      go_wp2_with fail
      refine (calls_bool (validPanel_any W H A c zs _ ((hz.below (bal (bal (Below.refl _ _) _) _)).more (bal (bal (Below.refl _ _) _) _).size) hl) Hv.out).mono ?_
      rintro e w1 ⟨rfl, hb1⟩
      have KP1 : Hid (Box w1 (w.heap.size) 30 #[.int .i64 W, .int .i64 H, .slice A zs.length c]) := hid (Box.keep (Box.alloc (Box.new' _ _ _ _ (by simp)) _) hb1)
      have KR1 : Hid (Box w1 (w.heap.size + 1) 32 #[.int .i64 0, .int .i64 0]) := hid (Box.keep (Box.new' _ _ _ _ (by simp)) hb1)
      have HB1 : Hid (Below w.heap.size w w1) := hid (bstep (bal (bal (Below.refl _ _) _) _) hb1)
      clear hb1
      obtain ⟨Pa, Pb, Pc⟩ := KP1.out.three
      have Pz := KP1.out.lt
      obtain ⟨Ra, Rb⟩ := KR1.out.two
      have Rz := KR1.out.lt
      have Rf := KR1.out.free
      go_wp2_with fail
      refine (calls_bool (hasIndex_any _ _ _ (by omega)) Hk.out).mono ?_
      rintro e w' ⟨rfl, rfl⟩
      go_wp2_with fail
      refine (points_any W H _ _ _ _ Hs.out.1 Hs.out.2).mono ?_
      rintro e w2 ⟨⟨A2, c2, rfl, ho2⟩, hb2⟩
      clear Pa Pb Pc Pz Ra Rb Rz Rf
      have KP2 : Hid (Box w2 (w.heap.size) 30 #[.int .i64 W, .int .i64 H, .slice A zs.length c]) := hid (Box.keep (KP1.out) hb2)
      have KR2 : Hid (Box w2 (w.heap.size + 1) 32 #[.int .i64 0, .int .i64 0]) := hid (Box.keep (KR1.out) hb2)
      have HB2 : Hid (Below w.heap.size w w2) := hid (bstep (HB1.out) hb2)
      clear hb2
      obtain ⟨Pa, Pb, Pc⟩ := KP2.out.three
      have Pz := KP2.out.lt
      obtain ⟨Ra, Rb⟩ := KR2.out.two
      have Rz := KR2.out.lt
      have Rf := KR2.out.free
      obtain ⟨g, cap, he, _, hlt⟩ := ho2.form (by omega)
      simp only [Value.slice.injEq] at he
      obtain ⟨rfl, _, rfl⟩ := he
      have hx0 : w2.cell? ⟨g, n * 2, none⟩ = some (.int .i64 (ptX W H n)) := (ho2.cellAt (n * 2) (by omega)).trans (ptCells_at0 W H (by omega))
      have hx1 : w2.cell? ⟨g, n * 2 + 1, none⟩ = some (.int .i64 (ptY W H n)) := (ho2.cellAt (n * 2 + 1) (by omega)).trans (ptCells_at1 W H (by omega))
      clear ho2
      go_wp2_with fail
      have hbE := (HB2.out)
      refine bodyPost_ret (v := .tuple #[.agg #[.int .i64 (ptX W H n), .int .i64 (ptY W H n)], .int .i64 0]) (by simp [results, Try.results41, go_sem, *]) rfl ⟨ret_q2 HV.out.1.symm HV.out.2.1.symm HV.out.2.2.symm, (by (repeat (with_reducible first | exact Below.refl _ _ | assumption | refine below_drewN ?_ _ | refine Below.drew ?_ | refine Below.alloc ?_ ?_ _ | refine Below.setCell ?_ ?_ _)); all_goals (first | omega | (simp only [size_drewN, World.size_alloc, World.size_setCell, World.size_drew] at *; omega) | (simp; done) | (simp; omega)))⟩
set_option maxHeartbeats 2000000 in
theorem specPointAt_any (W H : Int) (A : Option Addr) (c : Nat) (zs : List Int) (a : Int) (w : World) (hz : Ints w w.heap.size A zs) (hl : zs.length ≤ maxLen) (_ : (Lit.int .i64 a).wf = true) :
    Calls Try.prog 46 #[.agg #[.int .i64 W, .int .i64 H, .slice A zs.length c], .int .i64 a] w fun e w' => e = .returned (.tuple #[.agg #[.int .i64 (ptRX W H zs a), .int .i64 (ptRY W H zs a)], .int .i64 (ptRC W H zs a)]) ∧ Below w.heap.size w w' := by
  have hl' := hl
  unfold maxLen at hl'
  cases hv : validB W H zs
  · have HV : Hid (ptRX W H zs a = 0 ∧ ptRY W H zs a = 0 ∧ ptRC W H zs a = 1) := hid (by simp [ptRX, ptRY, ptRC, hv])
    have Hv := hid hv
    clear hv
    go_enter Try.func46, Try.ntmps46
    go_wp2_with fail
    refine (qb (calls_bool (l02Ok_any _ W H A c zs _ w.heap.size (Box.alloc (Box.new' _ _ _ _ (by simp)) _) (hz.below (bal (bal (Below.refl _ _) _) _)) hl) Hv.out)).mono ?_
    rintro e w1 ⟨rfl, hb1⟩
    have KP1 : Hid (Box w1 (w.heap.size) 30 #[.int .i64 W, .int .i64 H, .slice A zs.length c]) := hid (Box.keep (Box.alloc (Box.new' _ _ _ _ (by simp)) _) hb1)
    have KR1 : Hid (Box w1 (w.heap.size + 1) 32 #[.int .i64 0, .int .i64 0]) := hid (Box.keep (Box.new' _ _ _ _ (by simp)) hb1)
    have HB1 : Hid (Below w.heap.size w w1) := hid (bstep (bal (bal (Below.refl _ _) _) _) hb1)
    clear hb1
    obtain ⟨Pa, Pb, Pc⟩ := KP1.out.three
    have Pz := KP1.out.lt
    obtain ⟨Ra, Rb⟩ := KR1.out.two
    have Rz := KR1.out.lt
    have Rf := KR1.out.free
    go_wp2_with fail
    have hbE := (HB1.out)
    refine bodyPost_ret (v := .tuple #[.agg #[.int .i64 0, .int .i64 0], .int .i64 1]) (by simp [results, Try.results46, go_sem, *]) rfl ⟨ret_q2 HV.out.1.symm HV.out.2.1.symm HV.out.2.2.symm, (by (repeat (with_reducible first | exact Below.refl _ _ | assumption | refine below_drewN ?_ _ | refine Below.drew ?_ | refine Below.alloc ?_ ?_ _ | refine Below.setCell ?_ ?_ _)); all_goals (first | omega | (simp only [size_drewN, World.size_alloc, World.size_setCell, World.size_drew] at *; omega) | (simp; done) | (simp; omega)))⟩
  · cases hk : inR a 0 ((zs.length : Int) - 1)
    · have HV : Hid (ptRX W H zs a = 0 ∧ ptRY W H zs a = 0 ∧ ptRC W H zs a = 2) := hid (by simp [ptRX, ptRY, ptRC, hv, hk])
      have Hv := hid hv
      have Hk := hid hk
      clear hv hk
      go_enter Try.func46, Try.ntmps46
      go_wp2_with fail
      refine (qb (calls_bool (l02Ok_any _ W H A c zs _ w.heap.size (Box.alloc (Box.new' _ _ _ _ (by simp)) _) (hz.below (bal (bal (Below.refl _ _) _) _)) hl) Hv.out)).mono ?_
      rintro e w1 ⟨rfl, hb1⟩
      have KP1 : Hid (Box w1 (w.heap.size) 30 #[.int .i64 W, .int .i64 H, .slice A zs.length c]) := hid (Box.keep (Box.alloc (Box.new' _ _ _ _ (by simp)) _) hb1)
      have KR1 : Hid (Box w1 (w.heap.size + 1) 32 #[.int .i64 0, .int .i64 0]) := hid (Box.keep (Box.new' _ _ _ _ (by simp)) hb1)
      have HB1 : Hid (Below w.heap.size w w1) := hid (bstep (bal (bal (Below.refl _ _) _) _) hb1)
      clear hb1
      obtain ⟨Pa, Pb, Pc⟩ := KP1.out.three
      have Pz := KP1.out.lt
      obtain ⟨Ra, Rb⟩ := KR1.out.two
      have Rz := KR1.out.lt
      have Rf := KR1.out.free
      go_wp2_with fail
      refine (calls_bool (l00In_any _ _ _ _) Hk.out).mono ?_
      rintro e w' ⟨rfl, rfl⟩
      go_wp2_with fail
      have hbE := (HB1.out)
      refine bodyPost_ret (v := .tuple #[.agg #[.int .i64 0, .int .i64 0], .int .i64 2]) (by simp [results, Try.results46, go_sem, *]) rfl ⟨ret_q2 HV.out.1.symm HV.out.2.1.symm HV.out.2.2.symm, (by (repeat (with_reducible first | exact Below.refl _ _ | assumption | refine below_drewN ?_ _ | refine Below.drew ?_ | refine Below.alloc ?_ ?_ _ | refine Below.setCell ?_ ?_ _)); all_goals (first | omega | (simp only [size_drewN, World.size_alloc, World.size_setCell, World.size_drew] at *; omega) | (simp; done) | (simp; omega)))⟩
    · obtain ⟨a1, a2⟩ := inR_bd hk
      have HL := hid (valid_len hv)
      have a3 : a < inner W H := by have := HL.out; omega
      have Hs := hid (valid_sides hv)
      have HV : Hid (ptRX W H zs a = ptX W H a ∧ ptRY W H zs a = ptY W H a ∧ ptRC W H zs a = 0) := hid (by simp [ptRX, ptRY, ptRC, hv, hk])
      have Hv := hid hv
      have Hk := hid hk
      clear hv hk
      go_enter Try.func46, Try.ntmps46
      go_wp2_with fail
      refine (qb (calls_bool (l02Ok_any _ W H A c zs _ w.heap.size (Box.alloc (Box.new' _ _ _ _ (by simp)) _) (hz.below (bal (bal (Below.refl _ _) _) _)) hl) Hv.out)).mono ?_
      rintro e w1 ⟨rfl, hb1⟩
      have KP1 : Hid (Box w1 (w.heap.size) 30 #[.int .i64 W, .int .i64 H, .slice A zs.length c]) := hid (Box.keep (Box.alloc (Box.new' _ _ _ _ (by simp)) _) hb1)
      have KR1 : Hid (Box w1 (w.heap.size + 1) 32 #[.int .i64 0, .int .i64 0]) := hid (Box.keep (Box.new' _ _ _ _ (by simp)) hb1)
      have HB1 : Hid (Below w.heap.size w w1) := hid (bstep (bal (bal (Below.refl _ _) _) _) hb1)
      clear hb1
      obtain ⟨Pa, Pb, Pc⟩ := KP1.out.three
      have Pz := KP1.out.lt
      obtain ⟨Ra, Rb⟩ := KR1.out.two
      have Rz := KR1.out.lt
      have Rf := KR1.out.free
      go_wp2_with fail
      refine (calls_bool (l00In_any _ _ _ _) Hk.out).mono ?_
      rintro e w' ⟨rfl, rfl⟩
      go_wp2_with fail
      refine (l02Point_any _ W H a _ _ (KP1.out) Hs.out.1 Hs.out.2 a1 a3).mono ?_
      rintro e w2 ⟨rfl, hb2⟩
      clear Pa Pb Pc Pz Ra Rb Rz Rf
      have KP2 : Hid (Box w2 (w.heap.size) 30 #[.int .i64 W, .int .i64 H, .slice A zs.length c]) := hid (Box.keep (KP1.out) hb2)
      have KR2 : Hid (Box w2 (w.heap.size + 1) 32 #[.int .i64 0, .int .i64 0]) := hid (Box.keep (KR1.out) hb2)
      have HB2 : Hid (Below w.heap.size w w2) := hid (bstep (HB1.out) hb2)
      clear hb2
      obtain ⟨Pa, Pb, Pc⟩ := KP2.out.three
      have Pz := KP2.out.lt
      obtain ⟨Ra, Rb⟩ := KR2.out.two
      have Rz := KR2.out.lt
      have Rf := KR2.out.free
      go_wp2_with fail
      have hbE := (HB2.out)
      refine bodyPost_ret (v := .tuple #[.agg #[.int .i64 (ptX W H a), .int .i64 (ptY W H a)], .int .i64 0]) (by simp [results, Try.results46, go_sem, *]) rfl ⟨ret_q2 HV.out.1.symm HV.out.2.1.symm HV.out.2.2.symm, (by (repeat (with_reducible first | exact Below.refl _ _ | assumption | refine below_drewN ?_ _ | refine Below.drew ?_ | refine Below.alloc ?_ ?_ _ | refine Below.setCell ?_ ?_ _)); all_goals (first | omega | (simp only [size_drewN, World.size_alloc, World.size_setCell, World.size_drew] at *; omega) | (simp; done) | (simp; omega)))⟩
end Go.Proofs.Ytbgigompkmnapaa

/- WalkerAt. -/
import Derived.Test.YtbgigompkmnapaaSg
namespace Go.Proofs.Ytbgigompkmnapaa
set_option linter.unusedSimpArgs false
set_option linter.unusedVariables false
open Go.ChangeShapes Go.WideShapes Go.ChangeAt Go.RowKit
/-- What WalkerAt answers. -/
def wtX (W H : Int) (zs : List Int) (k : Int) : Int := if validB W H zs && inR k 0 (4 * W * H - 1) then wkX H k else 0
def wtY (W H : Int) (zs : List Int) (k : Int) : Int := if validB W H zs && inR k 0 (4 * W * H - 1) then wkY H k else 0
def wtU (W H : Int) (zs : List Int) (k : Int) : Int := if validB W H zs && inR k 0 (4 * W * H - 1) then 1 else 0
def wtD (W H : Int) (zs : List Int) (k : Int) : Int := if validB W H zs && inR k 0 (4 * W * H - 1) then wkD H k else 0
def wtC (W H : Int) (zs : List Int) (k : Int) : Int := if validB W H zs then (if inR k 0 (4 * W * H - 1) then 0 else 2) else 1
theorem ret_w2 {a b c d m a' b' c' d' m' : Int} (h1 : a = a') (h2 : b = b') (h3 : c = c') (h4 : d = d') (h5 : m = m') : Ending.returned (.tuple #[.agg #[.int .i64 a, .int .i64 b, .int .i64 c, .int .i64 d], .int .i64 m]) = .returned (.tuple #[.agg #[.int .i64 a', .int .i64 b', .int .i64 c', .int .i64 d'], .int .i64 m']) := by rw [h1, h2, h3, h4, h5]

set_option maxHeartbeats 2000000 in
theorem implWalkerAt_any (W H : Int) (A : Option Addr) (c : Nat) (zs : List Int) (a : Int) (w : World) (hz : Ints w w.heap.size A zs) (hl : zs.length ≤ maxLen) (_ : (Lit.int .i64 a).wf = true) :
    Calls Try.prog 29 #[.agg #[.int .i64 W, .int .i64 H, .slice A zs.length c], .int .i64 a] w fun e w' => e = .returned (.tuple #[.agg #[.int .i64 (wtX W H zs a), .int .i64 (wtY W H zs a), .int .i64 (wtU W H zs a), .int .i64 (wtD W H zs a)], .int .i64 (wtC W H zs a)]) ∧ Below w.heap.size w w' := by
  cases hv : validB W H zs
  · have HV : Hid (wtX W H zs a = 0 ∧ wtY W H zs a = 0 ∧ wtU W H zs a = 0 ∧ wtD W H zs a = 0 ∧ wtC W H zs a = 1) := hid (by simp [wtX, wtY, wtU, wtD, wtC, hv])
    have Hv := hid hv
    clear hv
    go_enter Try.func29, Try.ntmps29
    go_wp2_with fail
    refine (calls_bool (validPanel_any W H A c zs _ ((hz.below (bal (bal (Below.refl _ _) _) _)).more (bal (bal (Below.refl _ _) _) _).size) hl) Hv.out).mono ?_
    rintro e w1 ⟨rfl, hb1⟩
    have KP1 : Hid (Box w1 (w.heap.size) 30 #[.int .i64 W, .int .i64 H, .slice A zs.length c]) := hid (Box.keep (Box.alloc (Box.new' _ _ _ _ (by simp)) _) hb1)
    have KR1 : Hid (Box w1 (w.heap.size + 1) 52 #[.int .i64 0, .int .i64 0, .int .i64 0, .int .i64 0]) := hid (Box.keep (Box.new' _ _ _ _ (by simp)) hb1)
    have HB1 : Hid (Below w.heap.size w w1) := hid (bstep (bal (bal (Below.refl _ _) _) _) hb1)
    clear hb1
    obtain ⟨Pa, Pb, Pc⟩ := KP1.out.three
    have Pz := KP1.out.lt
    obtain ⟨Ra, Rb, Rc, Rd⟩ := KR1.out.four
    have Rz := KR1.out.lt
    have Rf := KR1.out.free
    go_wp2_with fail
    have hbE := (HB1.out)
    refine bodyPost_ret (v := .tuple #[.agg #[.int .i64 0, .int .i64 0, .int .i64 0, .int .i64 0], .int .i64 1]) (by simp [results, Try.results29, go_sem, *]) rfl ⟨ret_w2 HV.out.1.symm HV.out.2.1.symm HV.out.2.2.1.symm HV.out.2.2.2.1.symm HV.out.2.2.2.2.symm, (by (repeat (with_reducible first | exact Below.refl _ _ | assumption | refine below_drewN ?_ _ | refine Below.drew ?_ | refine Below.alloc ?_ ?_ _ | refine Below.setCell ?_ ?_ _)); all_goals (first | omega | (simp only [size_drewN, World.size_alloc, World.size_setCell, World.size_drew] at *; omega) | (simp; done) | (simp; omega)))⟩
  · have Hs := hid (valid_sides hv)
    obtain ⟨s1, s2⟩ := segs_bd Hs.out.1 Hs.out.2
    obtain ⟨s3, s4⟩ := side_bd Hs.out.1
    cases hk : inR a 0 (4 * W * H - 1)
    · have HV : Hid (wtX W H zs a = 0 ∧ wtY W H zs a = 0 ∧ wtU W H zs a = 0 ∧ wtD W H zs a = 0 ∧ wtC W H zs a = 2) := hid (by simp [wtX, wtY, wtU, wtD, wtC, hv, hk])
      have Hv := hid hv
      have Hk := hid hk
      clear hv hk
      go_enter Try.func29, Try.ntmps29
      go_wp2_with fail
      refine (calls_bool (validPanel_any W H A c zs _ ((hz.below (bal (bal (Below.refl _ _) _) _)).more (bal (bal (Below.refl _ _) _) _).size) hl) Hv.out).mono ?_
      rintro e w1 ⟨rfl, hb1⟩
      have KP1 : Hid (Box w1 (w.heap.size) 30 #[.int .i64 W, .int .i64 H, .slice A zs.length c]) := hid (Box.keep (Box.alloc (Box.new' _ _ _ _ (by simp)) _) hb1)
      have KR1 : Hid (Box w1 (w.heap.size + 1) 52 #[.int .i64 0, .int .i64 0, .int .i64 0, .int .i64 0]) := hid (Box.keep (Box.new' _ _ _ _ (by simp)) hb1)
      have HB1 : Hid (Below w.heap.size w w1) := hid (bstep (bal (bal (Below.refl _ _) _) _) hb1)
      clear hb1
      obtain ⟨Pa, Pb, Pc⟩ := KP1.out.three
      have Pz := KP1.out.lt
      obtain ⟨Ra, Rb, Rc, Rd⟩ := KR1.out.four
      have Rz := KR1.out.lt
      have Rf := KR1.out.free
      go_wp2_with fail
      refine (segments_any W H _ _ _ _ Hs.out.1 Hs.out.2).mono ?_
      rintro e w2 ⟨rfl, hb2⟩
      clear Pa Pb Pc Pz Ra Rb Rc Rd Rz Rf
      have KP2 : Hid (Box w2 (w.heap.size) 30 #[.int .i64 W, .int .i64 H, .slice A zs.length c]) := hid (Box.keep (KP1.out) hb2)
      have KR2 : Hid (Box w2 (w.heap.size + 1) 52 #[.int .i64 0, .int .i64 0, .int .i64 0, .int .i64 0]) := hid (Box.keep (KR1.out) hb2)
      have HB2 : Hid (Below w.heap.size w w2) := hid (bstep (HB1.out) hb2)
      clear hb2
      obtain ⟨Pa, Pb, Pc⟩ := KP2.out.three
      have Pz := KP2.out.lt
      obtain ⟨Ra, Rb, Rc, Rd⟩ := KR2.out.four
      have Rz := KR2.out.lt
      have Rf := KR2.out.free
      go_wp2_with fail
      refine (calls_bool (inRange_any _ _ _ _) Hk.out).mono ?_
      rintro e w' ⟨rfl, rfl⟩
      go_wp2_with fail
      have hbE := (HB2.out)
      refine bodyPost_ret (v := .tuple #[.agg #[.int .i64 0, .int .i64 0, .int .i64 0, .int .i64 0], .int .i64 2]) (by simp [results, Try.results29, go_sem, *]) rfl ⟨ret_w2 HV.out.1.symm HV.out.2.1.symm HV.out.2.2.1.symm HV.out.2.2.2.1.symm HV.out.2.2.2.2.symm, (by (repeat (with_reducible first | exact Below.refl _ _ | assumption | refine below_drewN ?_ _ | refine Below.drew ?_ | refine Below.alloc ?_ ?_ _ | refine Below.setCell ?_ ?_ _)); all_goals (first | omega | (simp only [size_drewN, World.size_alloc, World.size_setCell, World.size_drew] at *; omega) | (simp; done) | (simp; omega)))⟩
    · obtain ⟨a1, a2⟩ := inR_bd hk
      have HV : Hid (wtX W H zs a = wkX H a ∧ wtY W H zs a = wkY H a ∧ wtU W H zs a = 1 ∧ wtD W H zs a = wkD H a ∧ wtC W H zs a = 0) := hid (by simp [wtX, wtY, wtU, wtD, wtC, hv, hk])
      have Hv := hid hv
      have Hk := hid hk
      clear hv hk
      go_enter Try.func29, Try.ntmps29
      go_wp2_with fail
      refine (calls_bool (validPanel_any W H A c zs _ ((hz.below (bal (bal (Below.refl _ _) _) _)).more (bal (bal (Below.refl _ _) _) _).size) hl) Hv.out).mono ?_
      rintro e w1 ⟨rfl, hb1⟩
      have KP1 : Hid (Box w1 (w.heap.size) 30 #[.int .i64 W, .int .i64 H, .slice A zs.length c]) := hid (Box.keep (Box.alloc (Box.new' _ _ _ _ (by simp)) _) hb1)
      have KR1 : Hid (Box w1 (w.heap.size + 1) 52 #[.int .i64 0, .int .i64 0, .int .i64 0, .int .i64 0]) := hid (Box.keep (Box.new' _ _ _ _ (by simp)) hb1)
      have HB1 : Hid (Below w.heap.size w w1) := hid (bstep (bal (bal (Below.refl _ _) _) _) hb1)
      clear hb1
      obtain ⟨Pa, Pb, Pc⟩ := KP1.out.three
      have Pz := KP1.out.lt
      obtain ⟨Ra, Rb, Rc, Rd⟩ := KR1.out.four
      have Rz := KR1.out.lt
      have Rf := KR1.out.free
      go_wp2_with fail
      refine (segments_any W H _ _ _ _ Hs.out.1 Hs.out.2).mono ?_
      rintro e w2 ⟨rfl, hb2⟩
      clear Pa Pb Pc Pz Ra Rb Rc Rd Rz Rf
      have KP2 : Hid (Box w2 (w.heap.size) 30 #[.int .i64 W, .int .i64 H, .slice A zs.length c]) := hid (Box.keep (KP1.out) hb2)
      have KR2 : Hid (Box w2 (w.heap.size + 1) 52 #[.int .i64 0, .int .i64 0, .int .i64 0, .int .i64 0]) := hid (Box.keep (KR1.out) hb2)
      have HB2 : Hid (Below w.heap.size w w2) := hid (bstep (HB1.out) hb2)
      clear hb2
      obtain ⟨Pa, Pb, Pc⟩ := KP2.out.three
      have Pz := KP2.out.lt
      obtain ⟨Ra, Rb, Rc, Rd⟩ := KR2.out.four
      have Rz := KR2.out.lt
      have Rf := KR2.out.free
      go_wp2_with fail
      refine (calls_bool (inRange_any _ _ _ _) Hk.out).mono ?_
      rintro e w' ⟨rfl, rfl⟩
      go_wp2_with fail
      refine (walker_any W H a _ _ _ _ Hs.out.1 Hs.out.2 a1 (by omega)).mono ?_
      rintro e w3 ⟨rfl, hb3⟩
      clear Pa Pb Pc Pz Ra Rb Rc Rd Rz Rf
      have KP3 : Hid (Box w3 (w.heap.size) 30 #[.int .i64 W, .int .i64 H, .slice A zs.length c]) := hid (Box.keep (KP2.out) hb3)
      have KR3 : Hid (Box w3 (w.heap.size + 1) 52 #[.int .i64 0, .int .i64 0, .int .i64 0, .int .i64 0]) := hid (Box.keep (KR2.out) hb3)
      have HB3 : Hid (Below w.heap.size w w3) := hid (bstep (HB2.out) hb3)
      clear hb3
      obtain ⟨Pa, Pb, Pc⟩ := KP3.out.three
      have Pz := KP3.out.lt
      obtain ⟨Ra, Rb, Rc, Rd⟩ := KR3.out.four
      have Rz := KR3.out.lt
      have Rf := KR3.out.free
      go_wp2_with fail
      have hbE := (HB3.out)
      refine bodyPost_ret (v := .tuple #[.agg #[.int .i64 (wkX H a), .int .i64 (wkY H a), .int .i64 1, .int .i64 (wkD H a)], .int .i64 0]) (by simp [results, Try.results29, go_sem, *]) rfl ⟨ret_w2 HV.out.1.symm HV.out.2.1.symm HV.out.2.2.1.symm HV.out.2.2.2.1.symm HV.out.2.2.2.2.symm, (by (repeat (with_reducible first | exact Below.refl _ _ | assumption | refine below_drewN ?_ _ | refine Below.drew ?_ | refine Below.alloc ?_ ?_ _ | refine Below.setCell ?_ ?_ _)); all_goals (first | omega | (simp only [size_drewN, World.size_alloc, World.size_setCell, World.size_drew] at *; omega) | (simp; done) | (simp; omega)))⟩
end Go.Proofs.Ytbgigompkmnapaa

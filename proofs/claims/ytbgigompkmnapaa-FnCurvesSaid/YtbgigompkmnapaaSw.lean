/- StepWalker, TurnsOf. -/
import Derived.Test.YtbgigompkmnapaaSs
namespace Go.Proofs.Ytbgigompkmnapaa
set_option linter.unusedSimpArgs false
set_option linter.unusedVariables false
open Go.ChangeShapes Go.WideShapes Go.ChangeAt Go.RowKit
/-- What StepWalker and TurnsOf answer. -/
def swX (W H : Int) (zs : List Int) (x y dx dy : Int) : Int := if validWB W H zs x y dx dy then x + dx else 0
def swY (W H : Int) (zs : List Int) (x y dx dy : Int) : Int := if validWB W H zs x y dx dy then y + dy else 0
def swU (W H : Int) (zs : List Int) (x y dx dy : Int) : Int := if validWB W H zs x y dx dy then stU W H zs x y dx dy else 0
def swV (W H : Int) (zs : List Int) (x y dx dy : Int) : Int := if validWB W H zs x y dx dy then stV W H zs x y dx dy else 0
def turnR (W H : Int) (zs : List Int) (x y dx dy : Int) : Bool := validWB W H zs x y dx dy && (stU W H zs x y dx dy != dx || stV W H zs x y dx dy != dy)
theorem wb_valid {W H : Int} {zs : List Int} {x y dx dy : Int} (h : validWB W H zs x y dx dy = true) : validB W H zs = true := by
  simp only [validWB, Bool.and_eq_true] at h
  exact h.1
theorem ret_bi {a c : Bool} {b d : Int} (h : a = c) (k : b = d) : Ending.returned (.tuple #[.bool a, .int .i64 b]) = .returned (.tuple #[.bool c, .int .i64 d]) := by rw [h, k]

set_option maxHeartbeats 2000000 in
theorem implStepWalker_any (W H : Int) (A : Option Addr) (c : Nat) (zs : List Int) (x y dx dy : Int) (w : World) (hz : Ints w w.heap.size A zs) (hl : zs.length ≤ maxLen) (wx : (Lit.int .i64 x).wf = true) (wy : (Lit.int .i64 y).wf = true) (wdx : (Lit.int .i64 dx).wf = true) (wdy : (Lit.int .i64 dy).wf = true) :
    Calls Try.prog 34 #[.agg #[.int .i64 W, .int .i64 H, .slice A zs.length c], .agg #[.int .i64 x, .int .i64 y, .int .i64 dx, .int .i64 dy]] w fun e w' => e = .returned (.tuple #[.agg #[.int .i64 (swX W H zs x y dx dy), .int .i64 (swY W H zs x y dx dy), .int .i64 (swU W H zs x y dx dy), .int .i64 (swV W H zs x y dx dy)], .int .i64 (codeW W H zs x y dx dy)]) ∧ Below w.heap.size w w' := by
  cases hv : validWB W H zs x y dx dy
  · have HV : Hid (swX W H zs x y dx dy = 0 ∧ swY W H zs x y dx dy = 0 ∧ swU W H zs x y dx dy = 0 ∧ swV W H zs x y dx dy = 0 ∧ codeW W H zs x y dx dy = 1) := hid (by simp [swX, swY, swU, swV, codeW, hv])
    have Hv := hid hv
    clear hv
    go_enter Try.func34, Try.ntmps34
    go_wp2_with fail
    refine (calls_bool (implValidWalker_any W H A c zs x y dx dy _ ((hz.below (bal (bal (bal (Below.refl _ _) _) _) _)).more (bal (bal (bal (Below.refl _ _) _) _) _).size) hl wx wy wdx wdy) Hv.out).mono ?_
    rintro e w1 ⟨rfl, hb1⟩
    have KP1 : Hid (Box w1 (w.heap.size) 30 #[.int .i64 W, .int .i64 H, .slice A zs.length c]) := hid (Box.keep (Box.alloc (Box.alloc (Box.new' _ _ _ _ (by simp)) _) _) hb1)
    have KK1 : Hid (Box w1 (w.heap.size + 1) 52 #[.int .i64 x, .int .i64 y, .int .i64 dx, .int .i64 dy]) := hid (Box.keep (Box.alloc (Box.new' _ _ _ _ (by simp)) _) hb1)
    have KR1 : Hid (Box w1 (w.heap.size + 2) 52 #[.int .i64 0, .int .i64 0, .int .i64 0, .int .i64 0]) := hid (Box.keep (Box.new' _ _ _ _ (by simp)) hb1)
    have HB1 : Hid (Below w.heap.size w w1) := hid (bstep (bal (bal (bal (Below.refl _ _) _) _) _) hb1)
    clear hb1
    obtain ⟨Pa, Pb, Pc⟩ := KP1.out.three
    have Pz := KP1.out.lt
    obtain ⟨Ka, Kb, Kc, Kd⟩ := KK1.out.four
    have Kz := KK1.out.lt
    obtain ⟨Ra, Rb, Rc, Rd⟩ := KR1.out.four
    have Rz := KR1.out.lt
    have Rf := KR1.out.free
    go_wp2_with fail
    have hbE := (HB1.out)
    refine bodyPost_ret (v := .tuple #[.agg #[.int .i64 0, .int .i64 0, .int .i64 0, .int .i64 0], .int .i64 1]) (by simp [results, Try.results34, go_sem, *]) rfl ⟨ret_w2' HV.out.1.symm HV.out.2.1.symm HV.out.2.2.1.symm HV.out.2.2.2.1.symm HV.out.2.2.2.2.symm, (by (repeat (with_reducible first | exact Below.refl _ _ | assumption | refine below_drewN ?_ _ | refine Below.drew ?_ | refine Below.alloc ?_ ?_ _ | refine Below.setCell ?_ ?_ _)); all_goals (first | omega | (simp only [size_drewN, World.size_alloc, World.size_setCell, World.size_drew] at *; omega) | (simp; done) | (simp; omega)))⟩
  · have HV : Hid (swX W H zs x y dx dy = x + dx ∧ swY W H zs x y dx dy = y + dy ∧ swU W H zs x y dx dy = stU W H zs x y dx dy ∧ swV W H zs x y dx dy = stV W H zs x y dx dy ∧ codeW W H zs x y dx dy = 0) := hid (by simp [swX, swY, swU, swV, codeW, hv])
    have Hs := hid (And.intro (wb_valid hv) (wb_parts hv).2.2)
    have Hv := hid hv
    clear hv
    go_enter Try.func34, Try.ntmps34
    go_wp2_with fail
    refine (calls_bool (implValidWalker_any W H A c zs x y dx dy _ ((hz.below (bal (bal (bal (Below.refl _ _) _) _) _)).more (bal (bal (bal (Below.refl _ _) _) _) _).size) hl wx wy wdx wdy) Hv.out).mono ?_
    rintro e w1 ⟨rfl, hb1⟩
    have KP1 : Hid (Box w1 (w.heap.size) 30 #[.int .i64 W, .int .i64 H, .slice A zs.length c]) := hid (Box.keep (Box.alloc (Box.alloc (Box.new' _ _ _ _ (by simp)) _) _) hb1)
    have KK1 : Hid (Box w1 (w.heap.size + 1) 52 #[.int .i64 x, .int .i64 y, .int .i64 dx, .int .i64 dy]) := hid (Box.keep (Box.alloc (Box.new' _ _ _ _ (by simp)) _) hb1)
    have KR1 : Hid (Box w1 (w.heap.size + 2) 52 #[.int .i64 0, .int .i64 0, .int .i64 0, .int .i64 0]) := hid (Box.keep (Box.new' _ _ _ _ (by simp)) hb1)
    have HB1 : Hid (Below w.heap.size w w1) := hid (bstep (bal (bal (bal (Below.refl _ _) _) _) _) hb1)
    clear hb1
    obtain ⟨Pa, Pb, Pc⟩ := KP1.out.three
    have Pz := KP1.out.lt
    obtain ⟨Ka, Kb, Kc, Kd⟩ := KK1.out.four
    have Kz := KK1.out.lt
    obtain ⟨Ra, Rb, Rc, Rd⟩ := KR1.out.four
    have Rz := KR1.out.lt
    have Rf := KR1.out.free
    go_wp2_with fail
    refine (step_any W H A c zs x y dx dy _ ((hz.below (HB1.out)).more (HB1.out).size) hl Hs.out.1 Hs.out.2).mono ?_
    rintro e w2 ⟨rfl, hb2⟩
    clear Pa Pb Pc Pz Ka Kb Kc Kd Kz Ra Rb Rc Rd Rz Rf
    have KP2 : Hid (Box w2 (w.heap.size) 30 #[.int .i64 W, .int .i64 H, .slice A zs.length c]) := hid (Box.keep (KP1.out) hb2)
    have KK2 : Hid (Box w2 (w.heap.size + 1) 52 #[.int .i64 x, .int .i64 y, .int .i64 dx, .int .i64 dy]) := hid (Box.keep (KK1.out) hb2)
    have KR2 : Hid (Box w2 (w.heap.size + 2) 52 #[.int .i64 0, .int .i64 0, .int .i64 0, .int .i64 0]) := hid (Box.keep (KR1.out) hb2)
    have HB2 : Hid (Below w.heap.size w w2) := hid (bstep (HB1.out) hb2)
    clear hb2
    obtain ⟨Pa, Pb, Pc⟩ := KP2.out.three
    have Pz := KP2.out.lt
    obtain ⟨Ka, Kb, Kc, Kd⟩ := KK2.out.four
    have Kz := KK2.out.lt
    obtain ⟨Ra, Rb, Rc, Rd⟩ := KR2.out.four
    have Rz := KR2.out.lt
    have Rf := KR2.out.free
    go_wp2_with fail
    have hbE := (HB2.out)
    refine bodyPost_ret (v := .tuple #[.agg #[.int .i64 (x + dx), .int .i64 (y + dy), .int .i64 (stU W H zs x y dx dy), .int .i64 (stV W H zs x y dx dy)], .int .i64 0]) (by simp [results, Try.results34, go_sem, *]) rfl ⟨ret_w2' HV.out.1.symm HV.out.2.1.symm HV.out.2.2.1.symm HV.out.2.2.2.1.symm HV.out.2.2.2.2.symm, (by (repeat (with_reducible first | exact Below.refl _ _ | assumption | refine below_drewN ?_ _ | refine Below.drew ?_ | refine Below.alloc ?_ ?_ _ | refine Below.setCell ?_ ?_ _)); all_goals (first | omega | (simp only [size_drewN, World.size_alloc, World.size_setCell, World.size_drew] at *; omega) | (simp; done) | (simp; omega)))⟩
set_option maxHeartbeats 2000000 in
theorem implTurnsOf_any (W H : Int) (A : Option Addr) (c : Nat) (zs : List Int) (x y dx dy : Int) (w : World) (hz : Ints w w.heap.size A zs) (hl : zs.length ≤ maxLen) (wx : (Lit.int .i64 x).wf = true) (wy : (Lit.int .i64 y).wf = true) (wdx : (Lit.int .i64 dx).wf = true) (wdy : (Lit.int .i64 dy).wf = true) :
    Calls Try.prog 36 #[.agg #[.int .i64 W, .int .i64 H, .slice A zs.length c], .agg #[.int .i64 x, .int .i64 y, .int .i64 dx, .int .i64 dy]] w fun e w' => e = .returned (.tuple #[.bool (turnR W H zs x y dx dy), .int .i64 (codeW W H zs x y dx dy)]) ∧ Below w.heap.size w w' := by
  cases hv : validWB W H zs x y dx dy
  · have HV : Hid (turnR W H zs x y dx dy = false ∧ codeW W H zs x y dx dy = 1) := hid (by simp [turnR, codeW, hv])
    have Hv := hid hv
    clear hv
    go_enter Try.func36, Try.ntmps36
    go_wp2_with fail
    refine (calls_bool (implValidWalker_any W H A c zs x y dx dy _ ((hz.below (bal (bal (Below.refl _ _) _) _)).more (bal (bal (Below.refl _ _) _) _).size) hl wx wy wdx wdy) Hv.out).mono ?_
    rintro e w1 ⟨rfl, hb1⟩
    have KP1 : Hid (Box w1 (w.heap.size) 30 #[.int .i64 W, .int .i64 H, .slice A zs.length c]) := hid (Box.keep (Box.alloc (Box.new' _ _ _ _ (by simp)) _) hb1)
    have KK1 : Hid (Box w1 (w.heap.size + 1) 52 #[.int .i64 x, .int .i64 y, .int .i64 dx, .int .i64 dy]) := hid (Box.keep (Box.new' _ _ _ _ (by simp)) hb1)
    have HB1 : Hid (Below w.heap.size w w1) := hid (bstep (bal (bal (Below.refl _ _) _) _) hb1)
    clear hb1
    obtain ⟨Pa, Pb, Pc⟩ := KP1.out.three
    have Pz := KP1.out.lt
    obtain ⟨Ka, Kb, Kc, Kd⟩ := KK1.out.four
    have Kz := KK1.out.lt
    go_wp2_with fail
    go_ret2
    exact ⟨ret_bi HV.out.1.symm HV.out.2.symm, (HB1.out)⟩
  · have HV : Hid (turnR W H zs x y dx dy = (stU W H zs x y dx dy != dx || stV W H zs x y dx dy != dy) ∧ codeW W H zs x y dx dy = 0) := hid (by simp [turnR, codeW, hv])
    have Hs := hid (And.intro (wb_valid hv) (wb_parts hv).2.2)
    have Hv := hid hv
    clear hv
    go_enter Try.func36, Try.ntmps36
    go_wp2_with fail
    refine (calls_bool (implValidWalker_any W H A c zs x y dx dy _ ((hz.below (bal (bal (Below.refl _ _) _) _)).more (bal (bal (Below.refl _ _) _) _).size) hl wx wy wdx wdy) Hv.out).mono ?_
    rintro e w1 ⟨rfl, hb1⟩
    have KP1 : Hid (Box w1 (w.heap.size) 30 #[.int .i64 W, .int .i64 H, .slice A zs.length c]) := hid (Box.keep (Box.alloc (Box.new' _ _ _ _ (by simp)) _) hb1)
    have KK1 : Hid (Box w1 (w.heap.size + 1) 52 #[.int .i64 x, .int .i64 y, .int .i64 dx, .int .i64 dy]) := hid (Box.keep (Box.new' _ _ _ _ (by simp)) hb1)
    have HB1 : Hid (Below w.heap.size w w1) := hid (bstep (bal (bal (Below.refl _ _) _) _) hb1)
    clear hb1
    obtain ⟨Pa, Pb, Pc⟩ := KP1.out.three
    have Pz := KP1.out.lt
    obtain ⟨Ka, Kb, Kc, Kd⟩ := KK1.out.four
    have Kz := KK1.out.lt
    go_wp2_with fail
    refine (step_any W H A c zs x y dx dy _ ((hz.below (HB1.out)).more (HB1.out).size) hl Hs.out.1 Hs.out.2).mono ?_
    rintro e w2 ⟨rfl, hb2⟩
    clear Pa Pb Pc Pz Ka Kb Kc Kd Kz
    have KP2 : Hid (Box w2 (w.heap.size) 30 #[.int .i64 W, .int .i64 H, .slice A zs.length c]) := hid (Box.keep (KP1.out) hb2)
    have KK2 : Hid (Box w2 (w.heap.size + 1) 52 #[.int .i64 x, .int .i64 y, .int .i64 dx, .int .i64 dy]) := hid (Box.keep (KK1.out) hb2)
    have HB2 : Hid (Below w.heap.size w w2) := hid (bstep (HB1.out) hb2)
    clear hb2
    obtain ⟨Pa, Pb, Pc⟩ := KP2.out.three
    have Pz := KP2.out.lt
    obtain ⟨Ka, Kb, Kc, Kd⟩ := KK2.out.four
    have Kz := KK2.out.lt
    go_wp2_with fail
    go_ret2
    exact ⟨ret_bi HV.out.1.symm HV.out.2.symm, (bal (HB2.out) _)⟩
end Go.Proofs.Ytbgigompkmnapaa

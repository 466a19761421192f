/- Numbers and codes of points. -/
import Derived.Test.YtbgigompkmnapaaPx
namespace Go.Proofs.Ytbgigompkmnapaa
set_option linter.unusedSimpArgs false
set_option linter.unusedVariables false
open Go.ChangeShapes Go.WideShapes Go.ChangeAt Go.RowKit
theorem num_parts {W x y : Int} (hW : side W = true) (x1 : 1 ≤ x) (x2 : x ≤ 2 * W - 1) (y1 : 1 ≤ y) (y2 : y ≤ 15) :
    0 ≤ y / 2 * (W - 1) ∧ y / 2 * (W - 1) ≤ 60 ∧ 0 ≤ (y - 1) / 2 * W ∧ (y - 1) / 2 * W ≤ 60 := by
  rcases side_cases hW with rfl | rfl | rfl | rfl | rfl | rfl | rfl | rfl <;> omega

set_option maxHeartbeats 800000 in
theorem number_any (W H x y : Int) (A : Option Addr) (n c : Nat) (w : World) (hW : side W = true) (hH : side H = true) (x1 : 1 ≤ x) (x2 : x ≤ 2 * W - 1) (y1 : 1 ≤ y) (y2 : y ≤ 2 * H - 1) (hp : (x + y) % 2 = 1) :
    Calls Try.prog 98 #[.agg #[.int .i64 W, .int .i64 H, .slice A n c], .agg #[.int .i64 x, .int .i64 y]] w fun e w' => e = .returned (.int .i64 (numF W x y)) ∧ Below w.heap.size w w' := by
  obtain ⟨w1, w2⟩ := side_bd hW
  obtain ⟨w3, w4⟩ := side_bd hH
  obtain ⟨n1, n2, n3, n4⟩ := num_parts hW x1 x2 y1 (by omega)
  clear hW hH
  by_cases ho : y % 2 = 1
  · have hb : (y % 2 == 1) = true := by simp [ho]
    have EN : Hid (y / 2 * (W - 1) + (y - 1) / 2 * W + x / 2 - 1 = numF W x y) := hid (by unfold numF rowF; omega)
    clear ho hp
    go_enter Try.func98, Try.ntmps98
    go_wp2_with fail
    go_ret
    exact ⟨ret_int EN.out, (by (repeat (with_reducible first | exact Below.refl _ _ | assumption | refine below_drewN ?_ _ | refine Below.drew ?_ | refine Below.alloc ?_ ?_ _ | refine Below.setCell ?_ ?_ _)); all_goals (first | omega | (simp only [size_drewN, World.size_alloc, World.size_setCell, World.size_drew] at *; omega) | (simp; done) | (simp; omega)))⟩
  · have hb : (y % 2 == 1) = false := by simp [ho]
    have EN : Hid (y / 2 * (W - 1) + (y - 1) / 2 * W + x / 2 = numF W x y) := hid (by unfold numF rowF; omega)
    clear ho hp
    go_enter Try.func98, Try.ntmps98
    go_wp2_with fail
    go_ret
    exact ⟨ret_int EN.out, (by (repeat (with_reducible first | exact Below.refl _ _ | assumption | refine below_drewN ?_ _ | refine Below.drew ?_ | refine Below.alloc ?_ ?_ _ | refine Below.setCell ?_ ?_ _)); all_goals (first | omega | (simp only [size_drewN, World.size_alloc, World.size_setCell, World.size_drew] at *; omega) | (simp; done) | (simp; omega)))⟩
set_option maxHeartbeats 800000 in
theorem l02Number_any (p : Nat) (W H x y : Int) (s : Value) (w : World) (hpp : PanP w p W H s) (hW : side W = true) (hH : side H = true) (x1 : 1 ≤ x) (x2 : x ≤ 2 * W - 1) (y1 : 1 ≤ y) (y2 : y ≤ 2 * H - 1) (hp : (x + y) % 2 = 1) :
    Calls Try.prog 127 #[.pointer (some ⟨p, 0, none⟩), .agg #[.int .i64 x, .int .i64 y]] w fun e w' => e = .returned (.int .i64 (numF W x y)) ∧ Below w.heap.size w w' := by
  obtain ⟨w1, w2⟩ := side_bd hW
  obtain ⟨w3, w4⟩ := side_bd hH
  obtain ⟨n1, n2⟩ := rowF_bd hW y1 (by omega : y ≤ 16)
  have pz := PanP.lt hpp
  have HP := hid hpp
  have HW := hid hW
  clear hW hH hpp hp
  have s1 : IntKind.i64.wrap (x - 1) = x - 1 := IntWalk.i64_in _ (by omega)
  have s2 : 0 ≤ x - 1 := by omega
  have s3 : IntKind.i64.wrap (rowF W y + (x - 1) / 2) = rowF W y + (x - 1) / 2 := IntWalk.i64_in _ (by omega)
  go_enter Try.func127, Try.ntmps127
  go_wp2_with fail
  go_quiet ((go_at_call 121; exact quiet_left (l02Row_any _ W H y _ _ ((HP.out.alloc _).drewN _) HW.out y1 (by omega))))
  clear s1 s2 s3
  go_wp2_with fail
  go_ret
  exact ⟨rfl, (by (repeat (with_reducible first | exact Below.refl _ _ | assumption | refine below_drewN ?_ _ | refine Below.drew ?_ | refine Below.alloc ?_ ?_ _ | refine Below.setCell ?_ ?_ _)); all_goals (first | omega | (simp only [size_drewN, World.size_alloc, World.size_setCell, World.size_drew] at *; omega) | (simp; done) | (simp; omega)))⟩
/-- What a panel and a point are: 1, 2, 6 or 0. -/
def codeP (W H : Int) (zs : List Int) (x y : Int) : Int := if validB W H zs then (if hasP W H x y then (if edgeP W H x y then 6 else 0) else 2) else 1

set_option maxHeartbeats 800000 in
theorem innerCode_any (W H : Int) (A : Option Addr) (c : Nat) (zs : List Int) (x y : Int) (w : World) (hz : Ints w w.heap.size A zs) (hl : zs.length ≤ maxLen) :
    Calls Try.prog 67 #[.agg #[.int .i64 W, .int .i64 H, .slice A zs.length c], .agg #[.int .i64 x, .int .i64 y]] w fun e w' => e = .returned (.int .i64 (codeP W H zs x y)) ∧ Below w.heap.size w w' := by
  cases hv : validB W H zs
  · have HV : Hid (codeP W H zs x y = 1) := hid (by simp [codeP, hv])
    have Hv := hid hv
    clear hv
    go_enter Try.func67, Try.ntmps67
    go_wp2_with fail
    refine (calls_bool (validPanel_any W H A c zs _ ((hz.below (bal (bal (Below.refl _ _) _) _)).more (bal (bal (Below.refl _ _) _) _).size) hl) Hv.out).mono ?_
    rintro e w1 ⟨rfl, hb1⟩
    have KP1 : Hid (Box w1 (w.heap.size) 30 #[.int .i64 W, .int .i64 H, .slice A zs.length c]) := hid (Box.keep (Box.alloc (Box.new' _ _ _ _ (by simp)) _) hb1)
    have KQ1 : Hid (Box w1 (w.heap.size + 1) 32 #[.int .i64 x, .int .i64 y]) := hid (Box.keep (Box.new' _ _ _ _ (by simp)) hb1)
    have HB1 : Hid (Below w.heap.size w w1) := hid (bstep (bal (bal (Below.refl _ _) _) _) hb1)
    clear hb1
    obtain ⟨Pa, Pb, Pc⟩ := KP1.out.three
    have Pz := KP1.out.lt
    obtain ⟨Qa, Qb⟩ := KQ1.out.two
    have Qz := KQ1.out.lt
    go_wp2_with fail
    go_ret
    exact ⟨ret_int HV.out.symm, (HB1.out)⟩
  · have Hs := hid (valid_sides hv)
    cases hh : hasP W H x y
    · have HV : Hid (codeP W H zs x y = 2) := hid (by simp [codeP, hv, hh])
      have Hv := hid hv
      have Hh := hid hh
      clear hv hh
      go_enter Try.func67, Try.ntmps67
      go_wp2_with fail
      refine (calls_bool (validPanel_any W H A c zs _ ((hz.below (bal (bal (Below.refl _ _) _) _)).more (bal (bal (Below.refl _ _) _) _).size) hl) Hv.out).mono ?_
      rintro e w1 ⟨rfl, hb1⟩
      have KP1 : Hid (Box w1 (w.heap.size) 30 #[.int .i64 W, .int .i64 H, .slice A zs.length c]) := hid (Box.keep (Box.alloc (Box.new' _ _ _ _ (by simp)) _) hb1)
      have KQ1 : Hid (Box w1 (w.heap.size + 1) 32 #[.int .i64 x, .int .i64 y]) := hid (Box.keep (Box.new' _ _ _ _ (by simp)) hb1)
      have HB1 : Hid (Below w.heap.size w w1) := hid (bstep (bal (bal (Below.refl _ _) _) _) hb1)
      clear hb1
      obtain ⟨Pa, Pb, Pc⟩ := KP1.out.three
      have Pz := KP1.out.lt
      obtain ⟨Qa, Qb⟩ := KQ1.out.two
      have Qz := KQ1.out.lt
      go_wp2_with fail
      refine (calls_bool (isPoint_any W H x y _ _ _ _ Hs.out.1 Hs.out.2) Hh.out).mono ?_
      rintro e w2 ⟨rfl, hb2⟩
      clear Pa Pb Pc Pz Qa Qb Qz
      have KP2 : Hid (Box w2 (w.heap.size) 30 #[.int .i64 W, .int .i64 H, .slice A zs.length c]) := hid (Box.keep (KP1.out) hb2)
      have KQ2 : Hid (Box w2 (w.heap.size + 1) 32 #[.int .i64 x, .int .i64 y]) := hid (Box.keep (KQ1.out) hb2)
      have HB2 : Hid (Below w.heap.size w w2) := hid (bstep (HB1.out) hb2)
      clear hb2
      obtain ⟨Pa, Pb, Pc⟩ := KP2.out.three
      have Pz := KP2.out.lt
      obtain ⟨Qa, Qb⟩ := KQ2.out.two
      have Qz := KQ2.out.lt
      go_wp2_with fail
      go_ret
      exact ⟨ret_int HV.out.symm, (HB2.out)⟩
    · cases he : edgeP W H x y
      · have HV : Hid (codeP W H zs x y = 0) := hid (by simp [codeP, hv, hh, he])
        have Hv := hid hv
        have Hh := hid hh
        have He := hid he
        clear hv hh he
        go_enter Try.func67, Try.ntmps67
        go_wp2_with fail
        refine (calls_bool (validPanel_any W H A c zs _ ((hz.below (bal (bal (Below.refl _ _) _) _)).more (bal (bal (Below.refl _ _) _) _).size) hl) Hv.out).mono ?_
        rintro e w1 ⟨rfl, hb1⟩
        have KP1 : Hid (Box w1 (w.heap.size) 30 #[.int .i64 W, .int .i64 H, .slice A zs.length c]) := hid (Box.keep (Box.alloc (Box.new' _ _ _ _ (by simp)) _) hb1)
        have KQ1 : Hid (Box w1 (w.heap.size + 1) 32 #[.int .i64 x, .int .i64 y]) := hid (Box.keep (Box.new' _ _ _ _ (by simp)) hb1)
        have HB1 : Hid (Below w.heap.size w w1) := hid (bstep (bal (bal (Below.refl _ _) _) _) hb1)
        clear hb1
        obtain ⟨Pa, Pb, Pc⟩ := KP1.out.three
        have Pz := KP1.out.lt
        obtain ⟨Qa, Qb⟩ := KQ1.out.two
        have Qz := KQ1.out.lt
        go_wp2_with fail
        refine (calls_bool (isPoint_any W H x y _ _ _ _ Hs.out.1 Hs.out.2) Hh.out).mono ?_
        rintro e w2 ⟨rfl, hb2⟩
        clear Pa Pb Pc Pz Qa Qb Qz
        have KP2 : Hid (Box w2 (w.heap.size) 30 #[.int .i64 W, .int .i64 H, .slice A zs.length c]) := hid (Box.keep (KP1.out) hb2)
        have KQ2 : Hid (Box w2 (w.heap.size + 1) 32 #[.int .i64 x, .int .i64 y]) := hid (Box.keep (KQ1.out) hb2)
        have HB2 : Hid (Below w.heap.size w w2) := hid (bstep (HB1.out) hb2)
        clear hb2
        obtain ⟨Pa, Pb, Pc⟩ := KP2.out.three
        have Pz := KP2.out.lt
        obtain ⟨Qa, Qb⟩ := KQ2.out.two
        have Qz := KQ2.out.lt
        go_wp2_with fail
        refine (calls_bool (isBorder_any W H x y _ _ _ _ Hs.out.1 Hs.out.2) He.out).mono ?_
        rintro e w3 ⟨rfl, hb3⟩
        clear Pa Pb Pc Pz Qa Qb Qz
        have KP3 : Hid (Box w3 (w.heap.size) 30 #[.int .i64 W, .int .i64 H, .slice A zs.length c]) := hid (Box.keep (KP2.out) hb3)
        have KQ3 : Hid (Box w3 (w.heap.size + 1) 32 #[.int .i64 x, .int .i64 y]) := hid (Box.keep (KQ2.out) hb3)
        have HB3 : Hid (Below w.heap.size w w3) := hid (bstep (HB2.out) hb3)
        clear hb3
        obtain ⟨Pa, Pb, Pc⟩ := KP3.out.three
        have Pz := KP3.out.lt
        obtain ⟨Qa, Qb⟩ := KQ3.out.two
        have Qz := KQ3.out.lt
        go_wp2_with fail
        go_ret
        exact ⟨ret_int HV.out.symm, (HB3.out)⟩
      · have HV : Hid (codeP W H zs x y = 6) := hid (by simp [codeP, hv, hh, he])
        have Hv := hid hv
        have Hh := hid hh
        have He := hid he
        clear hv hh he
        go_enter Try.func67, Try.ntmps67
        go_wp2_with fail
        refine (calls_bool (validPanel_any W H A c zs _ ((hz.below (bal (bal (Below.refl _ _) _) _)).more (bal (bal (Below.refl _ _) _) _).size) hl) Hv.out).mono ?_
        rintro e w1 ⟨rfl, hb1⟩
        have KP1 : Hid (Box w1 (w.heap.size) 30 #[.int .i64 W, .int .i64 H, .slice A zs.length c]) := hid (Box.keep (Box.alloc (Box.new' _ _ _ _ (by simp)) _) hb1)
        have KQ1 : Hid (Box w1 (w.heap.size + 1) 32 #[.int .i64 x, .int .i64 y]) := hid (Box.keep (Box.new' _ _ _ _ (by simp)) hb1)
        have HB1 : Hid (Below w.heap.size w w1) := hid (bstep (bal (bal (Below.refl _ _) _) _) hb1)
        clear hb1
        obtain ⟨Pa, Pb, Pc⟩ := KP1.out.three
        have Pz := KP1.out.lt
        obtain ⟨Qa, Qb⟩ := KQ1.out.two
        have Qz := KQ1.out.lt
        go_wp2_with fail
        refine (calls_bool (isPoint_any W H x y _ _ _ _ Hs.out.1 Hs.out.2) Hh.out).mono ?_
        rintro e w2 ⟨rfl, hb2⟩
        clear Pa Pb Pc Pz Qa Qb Qz
        have KP2 : Hid (Box w2 (w.heap.size) 30 #[.int .i64 W, .int .i64 H, .slice A zs.length c]) := hid (Box.keep (KP1.out) hb2)
        have KQ2 : Hid (Box w2 (w.heap.size + 1) 32 #[.int .i64 x, .int .i64 y]) := hid (Box.keep (KQ1.out) hb2)
        have HB2 : Hid (Below w.heap.size w w2) := hid (bstep (HB1.out) hb2)
        clear hb2
        obtain ⟨Pa, Pb, Pc⟩ := KP2.out.three
        have Pz := KP2.out.lt
        obtain ⟨Qa, Qb⟩ := KQ2.out.two
        have Qz := KQ2.out.lt
        go_wp2_with fail
        refine (calls_bool (isBorder_any W H x y _ _ _ _ Hs.out.1 Hs.out.2) He.out).mono ?_
        rintro e w3 ⟨rfl, hb3⟩
        clear Pa Pb Pc Pz Qa Qb Qz
        have KP3 : Hid (Box w3 (w.heap.size) 30 #[.int .i64 W, .int .i64 H, .slice A zs.length c]) := hid (Box.keep (KP2.out) hb3)
        have KQ3 : Hid (Box w3 (w.heap.size + 1) 32 #[.int .i64 x, .int .i64 y]) := hid (Box.keep (KQ2.out) hb3)
        have HB3 : Hid (Below w.heap.size w w3) := hid (bstep (HB2.out) hb3)
        clear hb3
        obtain ⟨Pa, Pb, Pc⟩ := KP3.out.three
        have Pz := KP3.out.lt
        obtain ⟨Qa, Qb⟩ := KQ3.out.two
        have Qz := KQ3.out.lt
        go_wp2_with fail
        go_ret
        exact ⟨ret_int HV.out.symm, (HB3.out)⟩
set_option maxHeartbeats 800000 in
theorem l02Code_any (p : Nat) (W H : Int) (A : Option Addr) (c : Nat) (zs : List Int) (x y : Int) (w : World) (B : Nat) (hB : B ≤ w.heap.size) (hpp : PanP w p W H (.slice A zs.length c)) (hz : Ints w B A zs) (hl : zs.length ≤ maxLen) :
    Calls Try.prog 61 #[.pointer (some ⟨p, 0, none⟩), .agg #[.int .i64 x, .int .i64 y]] w fun e w' => e = .returned (.int .i64 (codeP W H zs x y)) ∧ Below w.heap.size w w' := by
  have HPP := hid hpp
  clear hpp
  cases hv : validB W H zs
  · have HV : Hid (codeP W H zs x y = 1) := hid (by simp [codeP, hv])
    have Hv := hid hv
    clear hv
    go_enter Try.func61, Try.ntmps61
    go_wp2_with fail
    refine (qb (calls_bool (l02Ok_any _ W H A c zs _ B (Box.alloc (HPP.out) _) (hz.below (Below.mono (bal (Below.refl _ _) _) hB)) hl) Hv.out)).mono ?_
    rintro e w1 ⟨rfl, hb1⟩
    have KQ1 : Hid (Box w1 (w.heap.size) 32 #[.int .i64 x, .int .i64 y]) := hid (Box.keep (Box.new' _ _ _ _ (by simp)) hb1)
    have KP1 : Hid (Box w1 (p) 30 #[.int .i64 W, .int .i64 H, .slice A zs.length c]) := hid (Box.keep (Box.alloc (HPP.out) _) hb1)
    have HB1 : Hid (Below w.heap.size w w1) := hid (bstep (bal (Below.refl _ _) _) hb1)
    clear hb1
    obtain ⟨Qa, Qb⟩ := KQ1.out.two
    have Qz := KQ1.out.lt
    obtain ⟨Pa, Pb, Pc⟩ := KP1.out.three
    have Pz := KP1.out.lt
    go_wp2_with fail
    go_ret
    exact ⟨ret_int HV.out.symm, (HB1.out)⟩
  · have Hs := hid (valid_sides hv)
    cases hh : hasP W H x y
    · have HV : Hid (codeP W H zs x y = 2) := hid (by simp [codeP, hv, hh])
      have Hv := hid hv
      have Hh := hid hh
      clear hv hh
      go_enter Try.func61, Try.ntmps61
      go_wp2_with fail
      refine (qb (calls_bool (l02Ok_any _ W H A c zs _ B (Box.alloc (HPP.out) _) (hz.below (Below.mono (bal (Below.refl _ _) _) hB)) hl) Hv.out)).mono ?_
      rintro e w1 ⟨rfl, hb1⟩
      have KQ1 : Hid (Box w1 (w.heap.size) 32 #[.int .i64 x, .int .i64 y]) := hid (Box.keep (Box.new' _ _ _ _ (by simp)) hb1)
      have KP1 : Hid (Box w1 (p) 30 #[.int .i64 W, .int .i64 H, .slice A zs.length c]) := hid (Box.keep (Box.alloc (HPP.out) _) hb1)
      have HB1 : Hid (Below w.heap.size w w1) := hid (bstep (bal (Below.refl _ _) _) hb1)
      clear hb1
      obtain ⟨Qa, Qb⟩ := KQ1.out.two
      have Qz := KQ1.out.lt
      obtain ⟨Pa, Pb, Pc⟩ := KP1.out.three
      have Pz := KP1.out.lt
      go_wp2_with fail
      refine (calls_bool (l02Has_any _ W H x y _ _ (KP1.out) Hs.out.1 Hs.out.2) Hh.out).mono ?_
      rintro e w2 ⟨rfl, hb2⟩
      clear Qa Qb Qz Pa Pb Pc Pz
      have KQ2 : Hid (Box w2 (w.heap.size) 32 #[.int .i64 x, .int .i64 y]) := hid (Box.keep (KQ1.out) hb2)
      have KP2 : Hid (Box w2 (p) 30 #[.int .i64 W, .int .i64 H, .slice A zs.length c]) := hid (Box.keep (KP1.out) hb2)
      have HB2 : Hid (Below w.heap.size w w2) := hid (bstep (HB1.out) hb2)
      clear hb2
      obtain ⟨Qa, Qb⟩ := KQ2.out.two
      have Qz := KQ2.out.lt
      obtain ⟨Pa, Pb, Pc⟩ := KP2.out.three
      have Pz := KP2.out.lt
      go_wp2_with fail
      go_ret
      exact ⟨ret_int HV.out.symm, (HB2.out)⟩
    · cases he : edgeP W H x y
      · have HV : Hid (codeP W H zs x y = 0) := hid (by simp [codeP, hv, hh, he])
        have Hv := hid hv
        have Hh := hid hh
        have He := hid he
        clear hv hh he
        go_enter Try.func61, Try.ntmps61
        go_wp2_with fail
        refine (qb (calls_bool (l02Ok_any _ W H A c zs _ B (Box.alloc (HPP.out) _) (hz.below (Below.mono (bal (Below.refl _ _) _) hB)) hl) Hv.out)).mono ?_
        rintro e w1 ⟨rfl, hb1⟩
        have KQ1 : Hid (Box w1 (w.heap.size) 32 #[.int .i64 x, .int .i64 y]) := hid (Box.keep (Box.new' _ _ _ _ (by simp)) hb1)
        have KP1 : Hid (Box w1 (p) 30 #[.int .i64 W, .int .i64 H, .slice A zs.length c]) := hid (Box.keep (Box.alloc (HPP.out) _) hb1)
        have HB1 : Hid (Below w.heap.size w w1) := hid (bstep (bal (Below.refl _ _) _) hb1)
        clear hb1
        obtain ⟨Qa, Qb⟩ := KQ1.out.two
        have Qz := KQ1.out.lt
        obtain ⟨Pa, Pb, Pc⟩ := KP1.out.three
        have Pz := KP1.out.lt
        go_wp2_with fail
        refine (calls_bool (l02Has_any _ W H x y _ _ (KP1.out) Hs.out.1 Hs.out.2) Hh.out).mono ?_
        rintro e w2 ⟨rfl, hb2⟩
        clear Qa Qb Qz Pa Pb Pc Pz
        have KQ2 : Hid (Box w2 (w.heap.size) 32 #[.int .i64 x, .int .i64 y]) := hid (Box.keep (KQ1.out) hb2)
        have KP2 : Hid (Box w2 (p) 30 #[.int .i64 W, .int .i64 H, .slice A zs.length c]) := hid (Box.keep (KP1.out) hb2)
        have HB2 : Hid (Below w.heap.size w w2) := hid (bstep (HB1.out) hb2)
        clear hb2
        obtain ⟨Qa, Qb⟩ := KQ2.out.two
        have Qz := KQ2.out.lt
        obtain ⟨Pa, Pb, Pc⟩ := KP2.out.three
        have Pz := KP2.out.lt
        go_wp2_with fail
        refine (calls_bool (l02Edge_any _ W H x y _ _ (KP2.out) Hs.out.1 Hs.out.2) He.out).mono ?_
        rintro e w3 ⟨rfl, hb3⟩
        clear Qa Qb Qz Pa Pb Pc Pz
        have KQ3 : Hid (Box w3 (w.heap.size) 32 #[.int .i64 x, .int .i64 y]) := hid (Box.keep (KQ2.out) hb3)
        have KP3 : Hid (Box w3 (p) 30 #[.int .i64 W, .int .i64 H, .slice A zs.length c]) := hid (Box.keep (KP2.out) hb3)
        have HB3 : Hid (Below w.heap.size w w3) := hid (bstep (HB2.out) hb3)
        clear hb3
        obtain ⟨Qa, Qb⟩ := KQ3.out.two
        have Qz := KQ3.out.lt
        obtain ⟨Pa, Pb, Pc⟩ := KP3.out.three
        have Pz := KP3.out.lt
        go_wp2_with fail
        go_ret
        exact ⟨ret_int HV.out.symm, (HB3.out)⟩
      · have HV : Hid (codeP W H zs x y = 6) := hid (by simp [codeP, hv, hh, he])
        have Hv := hid hv
        have Hh := hid hh
        have He := hid he
        clear hv hh he
        go_enter Try.func61, Try.ntmps61
        go_wp2_with fail
        refine (qb (calls_bool (l02Ok_any _ W H A c zs _ B (Box.alloc (HPP.out) _) (hz.below (Below.mono (bal (Below.refl _ _) _) hB)) hl) Hv.out)).mono ?_
        rintro e w1 ⟨rfl, hb1⟩
        have KQ1 : Hid (Box w1 (w.heap.size) 32 #[.int .i64 x, .int .i64 y]) := hid (Box.keep (Box.new' _ _ _ _ (by simp)) hb1)
        have KP1 : Hid (Box w1 (p) 30 #[.int .i64 W, .int .i64 H, .slice A zs.length c]) := hid (Box.keep (Box.alloc (HPP.out) _) hb1)
        have HB1 : Hid (Below w.heap.size w w1) := hid (bstep (bal (Below.refl _ _) _) hb1)
        clear hb1
        obtain ⟨Qa, Qb⟩ := KQ1.out.two
        have Qz := KQ1.out.lt
        obtain ⟨Pa, Pb, Pc⟩ := KP1.out.three
        have Pz := KP1.out.lt
        go_wp2_with fail
        refine (calls_bool (l02Has_any _ W H x y _ _ (KP1.out) Hs.out.1 Hs.out.2) Hh.out).mono ?_
        rintro e w2 ⟨rfl, hb2⟩
        clear Qa Qb Qz Pa Pb Pc Pz
        have KQ2 : Hid (Box w2 (w.heap.size) 32 #[.int .i64 x, .int .i64 y]) := hid (Box.keep (KQ1.out) hb2)
        have KP2 : Hid (Box w2 (p) 30 #[.int .i64 W, .int .i64 H, .slice A zs.length c]) := hid (Box.keep (KP1.out) hb2)
        have HB2 : Hid (Below w.heap.size w w2) := hid (bstep (HB1.out) hb2)
        clear hb2
        obtain ⟨Qa, Qb⟩ := KQ2.out.two
        have Qz := KQ2.out.lt
        obtain ⟨Pa, Pb, Pc⟩ := KP2.out.three
        have Pz := KP2.out.lt
        go_wp2_with fail
        refine (calls_bool (l02Edge_any _ W H x y _ _ (KP2.out) Hs.out.1 Hs.out.2) He.out).mono ?_
        rintro e w3 ⟨rfl, hb3⟩
        clear Qa Qb Qz Pa Pb Pc Pz
        have KQ3 : Hid (Box w3 (w.heap.size) 32 #[.int .i64 x, .int .i64 y]) := hid (Box.keep (KQ2.out) hb3)
        have KP3 : Hid (Box w3 (p) 30 #[.int .i64 W, .int .i64 H, .slice A zs.length c]) := hid (Box.keep (KP2.out) hb3)
        have HB3 : Hid (Below w.heap.size w w3) := hid (bstep (HB2.out) hb3)
        clear hb3
        obtain ⟨Qa, Qb⟩ := KQ3.out.two
        have Qz := KQ3.out.lt
        obtain ⟨Pa, Pb, Pc⟩ := KP3.out.three
        have Pz := KP3.out.lt
        go_wp2_with fail
        go_ret
        exact ⟨ret_int HV.out.symm, (HB3.out)⟩
end Go.Proofs.Ytbgigompkmnapaa

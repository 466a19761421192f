/- Counting and listing curves. -/
import Derived.Test.YtbgigompkmnapaaTi
import Derived.Test.YtbgigompkmnapaaTj
import Derived.Test.YtbgigompkmnapaaEi
import Derived.OwnWalk
import Derived.Lib.SmallJoins
namespace Go.Proofs.Ytbgigompkmnapaa
set_option linter.unusedSimpArgs false
set_option linter.unusedVariables false
open Go.ChangeShapes Go.WideShapes Go.ChangeAt Go.RowKit
theorem tr_few {W H : Int} {zs : List Int} (hv : validB W H zs = true) : (trS W H zs (4 * W * H).toNat).1.length ≤ 256 := by
  have := (trS_inv hv (4 * W * H).toNat (Nat.le_refl _)).few
  have := segs_bd (valid_sides hv).1 (valid_sides hv).2
  omega
theorem tr_len {W H : Int} {zs : List Int} (hv : validB W H zs = true) : (trS W H zs (4 * W * H).toNat).2.length = (4 * W * H).toNat := (trS_inv hv (4 * W * H).toNat (Nat.le_refl _)).len
theorem nn_bd {W H : Int} {zs : List Int} (hv : validB W H zs = true) : 4 ≤ (4 * W * H).toNat ∧ (4 * W * H).toNat ≤ 256 ∧ ((4 * W * H).toNat : Int) = 4 * W * H := by
  have := segs_bd (valid_sides hv).1 (valid_sides hv).2
  omega
/-- What CountCurves, CurveAt, SegmentCurves, CurveLengths, IsSingle answer. -/
def ccR (W H : Int) (zs : List Int) : Int := if validB W H zs then ((trS W H zs (4 * W * H).toNat).1.length : Int) else 0
def ccC (W H : Int) (zs : List Int) : Int := if validB W H zs then 0 else 1
def siB (W H : Int) (zs : List Int) : Bool := validB W H zs && ((trS W H zs (4 * W * H).toNat).1.length : Int) == 1
def caR (W H : Int) (zs : List Int) (a : Int) : Int := if validB W H zs && inR a 0 (4 * W * H - 1) then (trS W H zs (4 * W * H).toNat).2.getD a.toNat 0 else 0
def caC (W H : Int) (zs : List Int) (a : Int) : Int := if validB W H zs then (if inR a 0 (4 * W * H - 1) then 0 else 2) else 1
def scL (W H : Int) (zs : List Int) : List Int := if validB W H zs then (trS W H zs (4 * W * H).toNat).2 else []
def scN (W H : Int) (zs : List Int) : Nat := if validB W H zs then (4 * W * H).toNat else 0
def lensL (cs : List (List Wkr)) : List Int := cs.map fun c => (c.length : Int)
def clL (W H : Int) (zs : List Int) : List Int := if validB W H zs then lensL (trS W H zs (4 * W * H).toNat).1 else []
def clN (W H : Int) (zs : List Int) : Nat := if validB W H zs then (trS W H zs (4 * W * H).toNat).1.length else 0
theorem scN_le (W H : Int) (zs : List Int) : scN W H zs ≤ 256 := by
  unfold scN
  split
  · rename_i h; exact (nn_bd h).2.1
  · omega
theorem clN_le (W H : Int) (zs : List Int) : clN W H zs ≤ 256 := by
  unfold clN
  split
  · rename_i h; exact tr_few h
  · omega
theorem ret_i2 {a b c d : Int} (h : a = c) (k : b = d) : Ending.returned (.tuple #[.int .i64 a, .int .i64 b]) = .returned (.tuple #[.int .i64 c, .int .i64 d]) := by rw [h, k]
theorem cur_len {w : World} {lo hi n : Nat} {vi : Value} {c : List Wkr} (h : Rgn w lo hi 52 4 vi n (vals (flatW c))) : n = c.length := by
  have := h.1.1
  simp only [vals, List.length_map, flatW_length] at this
  omega
theorem curP_len {w : World} {lo hi n : Nat} {vi : Value} {c : List Wkr} (h : Rgn w lo hi 32 2 vi n (vals (flatP c))) : n = c.length := by
  have := h.1.1
  simp only [vals, List.length_map, flatP_length] at this
  omega

set_option maxRecDepth 100000 in
set_option maxHeartbeats 2000000 in
theorem countCurves_any (W H : Int) (A : Option Addr) (c : Nat) (zs : List Int) (w : World) (hz : Ints w w.heap.size A zs) (hl : zs.length ≤ maxLen) (hv : validB W H zs = true) :
    Calls Try.prog 104 #[.agg #[.int .i64 W, .int .i64 H, .slice A zs.length c]] w fun e w' => e = .returned (.int .i64 ((trS W H zs (4 * W * H).toNat).1.length : Int)) ∧ Below w.heap.size w w' := by
  have hfew := tr_few hv
  have Hv := hid hv
  clear hv
  go_enter Try.func104, Try.ntmps104
  go_wp2_with fail
  refine (trace_any W H A c zs _ ((hz.below (bal (Below.refl _ _) _)).more (bal (Below.refl _ _) _).size) hl Hv.out).mono ?_
  rintro e w1 ⟨⟨E1, d1, E2, d2, rfl, hne, hro⟩, hb1⟩
  have HNE := hid hne
  have HRO := hid hro
  clear hne hro
  have KP1 : Hid (Box w1 (w.heap.size) 30 #[.int .i64 W, .int .i64 H, .slice A zs.length c]) := hid (Box.keep (Box.new' _ _ _ _ (by simp)) hb1)
  have HB1 : Hid (Below w.heap.size w w1) := hid (bstep (bal (Below.refl _ _) _) hb1)
  clear hb1
  obtain ⟨Pa, Pb, Pc⟩ := KP1.out.three
  have Pz := KP1.out.lt
  go_wp2_with fail
  go_ret
  exact ⟨rfl, (HB1.out)⟩
set_option maxRecDepth 100000 in
set_option maxHeartbeats 2000000 in
theorem l04Count_any (pb : Nat) (W H : Int) (A : Option Addr) (c : Nat) (zs : List Int) (w : World) (B : Nat) (hB : B ≤ w.heap.size) (hpp : PanP w pb W H (.slice A zs.length c)) (hz : Ints w B A zs) (hl : zs.length ≤ maxLen) (hv : validB W H zs = true) :
    Calls Try.prog 108 #[.pointer (some ⟨pb, 0, none⟩)] w fun e w' => e = .returned (.int .i64 ((trS W H zs (4 * W * H).toNat).1.length : Int)) ∧ Below w.heap.size w w' := by
  have hfew := tr_few hv
  have Hv := hid hv
  have HX := hid hpp
  clear hv hpp
  go_enter Try.func108, Try.ntmps108
  go_wp2_with fail
  refine (l04All_any pb W H A c zs w B hB HX.out hz hl Hv.out).mono ?_
  rintro e w1 ⟨⟨E1, d1, E2, d2, rfl, hne, hro⟩, hb1⟩
  have HB := hid hb1
  clear hne hro hb1
  go_wp2_with fail
  go_ret
  exact ⟨rfl, HB.out⟩
set_option maxRecDepth 100000 in
set_option maxHeartbeats 2000000 in
theorem implCountCurves_any (W H : Int) (A : Option Addr) (c : Nat) (zs : List Int) (w : World) (hz : Ints w w.heap.size A zs) (hl : zs.length ≤ maxLen) :
    Calls Try.prog 51 #[.agg #[.int .i64 W, .int .i64 H, .slice A zs.length c]] w fun e w' => e = .returned (.tuple #[.int .i64 (ccR W H zs), .int .i64 (ccC W H zs)]) ∧ Below w.heap.size w w' := by
  cases hv : validB W H zs
  · have HV : Hid (ccR W H zs = 0 ∧ ccC W H zs = 1) := hid (by simp [ccR, ccC, hv])
    have Hv := hid hv
    clear hv
    go_enter Try.func51, Try.ntmps51
    go_wp2_with fail
    refine (calls_bool (validPanel_any W H A c zs _ ((hz.below (bal (Below.refl _ _) _)).more (bal (Below.refl _ _) _).size) hl) Hv.out).mono ?_
    rintro e w1 ⟨rfl, hb1⟩
    have KP1 : Hid (Box w1 (w.heap.size) 30 #[.int .i64 W, .int .i64 H, .slice A zs.length c]) := hid (Box.keep (Box.new' _ _ _ _ (by simp)) hb1)
    have HB1 : Hid (Below w.heap.size w w1) := hid (bstep (bal (Below.refl _ _) _) hb1)
    clear hb1
    obtain ⟨Pa, Pb, Pc⟩ := KP1.out.three
    have Pz := KP1.out.lt
    go_wp2_with fail
    go_ret2
    exact ⟨ret_i2 HV.out.1.symm HV.out.2.symm, (HB1.out)⟩
  · have HV : Hid (ccR W H zs = ((trS W H zs (4 * W * H).toNat).1.length : Int) ∧ ccC W H zs = 0) := hid (by simp [ccR, ccC, hv])
    have Hv := hid hv
    clear hv
    go_enter Try.func51, Try.ntmps51
    go_wp2_with fail
    refine (calls_bool (validPanel_any W H A c zs _ ((hz.below (bal (Below.refl _ _) _)).more (bal (Below.refl _ _) _).size) hl) Hv.out).mono ?_
    rintro e w1 ⟨rfl, hb1⟩
    have KP1 : Hid (Box w1 (w.heap.size) 30 #[.int .i64 W, .int .i64 H, .slice A zs.length c]) := hid (Box.keep (Box.new' _ _ _ _ (by simp)) hb1)
    have HB1 : Hid (Below w.heap.size w w1) := hid (bstep (bal (Below.refl _ _) _) hb1)
    clear hb1
    obtain ⟨Pa, Pb, Pc⟩ := KP1.out.three
    have Pz := KP1.out.lt
    go_wp2_with fail
    refine (countCurves_any W H A c zs _ ((hz.below (HB1.out)).more (HB1.out).size) hl Hv.out).mono ?_
    rintro e w2 ⟨rfl, hb2⟩
    clear Pa Pb Pc Pz
    have KP2 : Hid (Box w2 (w.heap.size) 30 #[.int .i64 W, .int .i64 H, .slice A zs.length c]) := hid (Box.keep (KP1.out) hb2)
    have HB2 : Hid (Below w.heap.size w w2) := hid (bstep (HB1.out) hb2)
    clear hb2
    obtain ⟨Pa, Pb, Pc⟩ := KP2.out.three
    have Pz := KP2.out.lt
    go_wp2_with fail
    go_ret2
    exact ⟨ret_i2 HV.out.1.symm HV.out.2.symm, (HB2.out)⟩
set_option maxRecDepth 100000 in
set_option maxHeartbeats 2000000 in
theorem specCountCurves_any (W H : Int) (A : Option Addr) (c : Nat) (zs : List Int) (w : World) (hz : Ints w w.heap.size A zs) (hl : zs.length ≤ maxLen) :
    Calls Try.prog 57 #[.agg #[.int .i64 W, .int .i64 H, .slice A zs.length c]] w fun e w' => e = .returned (.tuple #[.int .i64 (ccR W H zs), .int .i64 (ccC W H zs)]) ∧ Below w.heap.size w w' := by
  cases hv : validB W H zs
  · have HV : Hid (ccR W H zs = 0 ∧ ccC W H zs = 1) := hid (by simp [ccR, ccC, hv])
    have Hv := hid hv
    clear hv
    go_enter Try.func57, Try.ntmps57
    go_wp2_with fail
    refine (qb (calls_bool (l02Ok_any _ W H A c zs _ w.heap.size (Box.new' _ _ _ _ (by simp)) (hz.below (bal (Below.refl _ _) _)) hl) Hv.out)).mono ?_
    rintro e w1 ⟨rfl, hb1⟩
    have KP1 : Hid (Box w1 (w.heap.size) 30 #[.int .i64 W, .int .i64 H, .slice A zs.length c]) := hid (Box.keep (Box.new' _ _ _ _ (by simp)) hb1)
    have HB1 : Hid (Below w.heap.size w w1) := hid (bstep (bal (Below.refl _ _) _) hb1)
    clear hb1
    obtain ⟨Pa, Pb, Pc⟩ := KP1.out.three
    have Pz := KP1.out.lt
    go_wp2_with fail
    go_ret2
    exact ⟨ret_i2 HV.out.1.symm HV.out.2.symm, (HB1.out)⟩
  · have HV : Hid (ccR W H zs = ((trS W H zs (4 * W * H).toNat).1.length : Int) ∧ ccC W H zs = 0) := hid (by simp [ccR, ccC, hv])
    have Hv := hid hv
    clear hv
    go_enter Try.func57, Try.ntmps57
    go_wp2_with fail
    refine (qb (calls_bool (l02Ok_any _ W H A c zs _ w.heap.size (Box.new' _ _ _ _ (by simp)) (hz.below (bal (Below.refl _ _) _)) hl) Hv.out)).mono ?_
    rintro e w1 ⟨rfl, hb1⟩
    have KP1 : Hid (Box w1 (w.heap.size) 30 #[.int .i64 W, .int .i64 H, .slice A zs.length c]) := hid (Box.keep (Box.new' _ _ _ _ (by simp)) hb1)
    have HB1 : Hid (Below w.heap.size w w1) := hid (bstep (bal (Below.refl _ _) _) hb1)
    clear hb1
    obtain ⟨Pa, Pb, Pc⟩ := KP1.out.three
    have Pz := KP1.out.lt
    go_wp2_with fail
    refine (l04Count_any _ W H A c zs _ w.heap.size (HB1.out).size (KP1.out) (hz.below (HB1.out)) hl Hv.out).mono ?_
    rintro e w2 ⟨rfl, hb2⟩
    clear Pa Pb Pc Pz
    have KP2 : Hid (Box w2 (w.heap.size) 30 #[.int .i64 W, .int .i64 H, .slice A zs.length c]) := hid (Box.keep (KP1.out) hb2)
    have HB2 : Hid (Below w.heap.size w w2) := hid (bstep (HB1.out) hb2)
    clear hb2
    obtain ⟨Pa, Pb, Pc⟩ := KP2.out.three
    have Pz := KP2.out.lt
    go_wp2_with fail
    go_ret2
    exact ⟨ret_i2 HV.out.1.symm HV.out.2.symm, (HB2.out)⟩
set_option maxRecDepth 100000 in
set_option maxHeartbeats 2000000 in
theorem implIsSingle_any (W H : Int) (A : Option Addr) (c : Nat) (zs : List Int) (w : World) (hz : Ints w w.heap.size A zs) (hl : zs.length ≤ maxLen) :
    Calls Try.prog 53 #[.agg #[.int .i64 W, .int .i64 H, .slice A zs.length c]] w fun e w' => e = .returned (.bool (siB W H zs)) ∧ Below w.heap.size w w' := by
  cases hv : validB W H zs
  · have HV : Hid (siB W H zs = false) := hid (by simp [siB, hv])
    have Hv := hid hv
    clear hv
    go_enter Try.func53, Try.ntmps53
    go_wp2_with fail
    refine (calls_bool (validPanel_any W H A c zs _ ((hz.below (bal (Below.refl _ _) _)).more (bal (Below.refl _ _) _).size) hl) Hv.out).mono ?_
    rintro e w1 ⟨rfl, hb1⟩
    have KP1 : Hid (Box w1 (w.heap.size) 30 #[.int .i64 W, .int .i64 H, .slice A zs.length c]) := hid (Box.keep (Box.new' _ _ _ _ (by simp)) hb1)
    have HB1 : Hid (Below w.heap.size w w1) := hid (bstep (bal (Below.refl _ _) _) hb1)
    clear hb1
    obtain ⟨Pa, Pb, Pc⟩ := KP1.out.three
    have Pz := KP1.out.lt
    go_wp2_with fail
    go_ret
    exact ⟨ret_bool HV.out.symm, (HB1.out)⟩
  · have HV : Hid (siB W H zs = ((((trS W H zs (4 * W * H).toNat).1.length : Nat) : Int) == 1)) := hid (by simp [siB, hv])
    obtain ⟨nc, hnc⟩ : ∃ q : Int, q = ((trS W H zs (4 * W * H).toNat).1.length : Int) := ⟨_, rfl⟩
    rw [← hnc] at HV
    have HNC := hid hnc
    have Hv := hid hv
    clear hv hnc
    go_enter Try.func53, Try.ntmps53
    go_wp2_with fail
    refine (calls_bool (validPanel_any W H A c zs _ ((hz.below (bal (Below.refl _ _) _)).more (bal (Below.refl _ _) _).size) hl) Hv.out).mono ?_
    rintro e w1 ⟨rfl, hb1⟩
    have KP1 : Hid (Box w1 (w.heap.size) 30 #[.int .i64 W, .int .i64 H, .slice A zs.length c]) := hid (Box.keep (Box.new' _ _ _ _ (by simp)) hb1)
    have HB1 : Hid (Below w.heap.size w w1) := hid (bstep (bal (Below.refl _ _) _) hb1)
    clear hb1
    obtain ⟨Pa, Pb, Pc⟩ := KP1.out.three
    have Pz := KP1.out.lt
    go_wp2_with fail
    refine (calls_int (countCurves_any W H A c zs _ ((hz.below (HB1.out)).more (HB1.out).size) hl Hv.out) HNC.out.symm).mono ?_
    rintro e w2 ⟨rfl, hb2⟩
    clear Pa Pb Pc Pz
    have KP2 : Hid (Box w2 (w.heap.size) 30 #[.int .i64 W, .int .i64 H, .slice A zs.length c]) := hid (Box.keep (KP1.out) hb2)
    have HB2 : Hid (Below w.heap.size w w2) := hid (bstep (HB1.out) hb2)
    clear hb2
    obtain ⟨Pa, Pb, Pc⟩ := KP2.out.three
    have Pz := KP2.out.lt
    go_wp2_with fail
    go_ret
    exact ⟨ret_bool HV.out.symm, (HB2.out)⟩
set_option maxRecDepth 100000 in
set_option maxHeartbeats 2000000 in
theorem implCurveAt_any (W H : Int) (A : Option Addr) (c : Nat) (zs : List Int) (a : Int) (w : World) (hz : Ints w w.heap.size A zs) (hl : zs.length ≤ maxLen) (_ : (Lit.int .i64 a).wf = true) :
    Calls Try.prog 59 #[.agg #[.int .i64 W, .int .i64 H, .slice A zs.length c], .int .i64 a] w fun e w' => e = .returned (.tuple #[.int .i64 (caR W H zs a), .int .i64 (caC W H zs a)]) ∧ Below w.heap.size w w' := by
  cases hv : validB W H zs
  · have HV : Hid (caR W H zs a = 0 ∧ caC W H zs a = 1) := hid (by simp [caR, caC, hv])
    have Hv := hid hv
    clear hv
    go_enter Try.func59, Try.ntmps59
    go_wp2_with fail
    refine (calls_bool (validPanel_any W H A c zs _ ((hz.below (bal (Below.refl _ _) _)).more (bal (Below.refl _ _) _).size) hl) Hv.out).mono ?_
    rintro e w1 ⟨rfl, hb1⟩
    have KP1 : Hid (Box w1 (w.heap.size) 30 #[.int .i64 W, .int .i64 H, .slice A zs.length c]) := hid (Box.keep (Box.new' _ _ _ _ (by simp)) hb1)
    have HB1 : Hid (Below w.heap.size w w1) := hid (bstep (bal (Below.refl _ _) _) hb1)
    clear hb1
    obtain ⟨Pa, Pb, Pc⟩ := KP1.out.three
    have Pz := KP1.out.lt
    go_wp2_with fail
    go_ret2
    exact ⟨ret_i2 HV.out.1.symm HV.out.2.symm, (HB1.out)⟩
  · have Hs := hid (valid_sides hv)
    obtain ⟨s1, s2⟩ := segs_bd Hs.out.1 Hs.out.2
    obtain ⟨b1, b2, b3⟩ := nn_bd hv
    have HN3 := hid b3
    have hfew := tr_few hv
    clear b3
    cases hk : inR a 0 (4 * W * H - 1)
    · have HV : Hid (caR W H zs a = 0 ∧ caC W H zs a = 2) := hid (by simp [caR, caC, hv, hk])
      have Hv := hid hv
      have Hk := hid hk
      clear hv hk
      go_enter Try.func59, Try.ntmps59
      go_wp2_with fail
      refine (calls_bool (validPanel_any W H A c zs _ ((hz.below (bal (Below.refl _ _) _)).more (bal (Below.refl _ _) _).size) hl) Hv.out).mono ?_
      rintro e w1 ⟨rfl, hb1⟩
      have KP1 : Hid (Box w1 (w.heap.size) 30 #[.int .i64 W, .int .i64 H, .slice A zs.length c]) := hid (Box.keep (Box.new' _ _ _ _ (by simp)) hb1)
      have HB1 : Hid (Below w.heap.size w w1) := hid (bstep (bal (Below.refl _ _) _) hb1)
      clear hb1
      obtain ⟨Pa, Pb, Pc⟩ := KP1.out.three
      have Pz := KP1.out.lt
      go_wp2_with fail
      refine (segments_any W H _ _ _ _ Hs.out.1 Hs.out.2).mono ?_
      rintro e w2 ⟨rfl, hb2⟩
      clear Pa Pb Pc Pz
      have KP2 : Hid (Box w2 (w.heap.size) 30 #[.int .i64 W, .int .i64 H, .slice A zs.length c]) := hid (Box.keep (KP1.out) hb2)
      have HB2 : Hid (Below w.heap.size w w2) := hid (bstep (HB1.out) hb2)
      clear hb2
      obtain ⟨Pa, Pb, Pc⟩ := KP2.out.three
      have Pz := KP2.out.lt
      go_wp2_with fail
      refine (calls_bool (inRange_any _ _ _ _) Hk.out).mono ?_
      rintro e w' ⟨rfl, rfl⟩
      go_wp2_with fail
      go_ret2
      exact ⟨ret_i2 HV.out.1.symm HV.out.2.symm, (HB2.out)⟩
    · obtain ⟨a1, a2⟩ := inR_bd hk
      obtain ⟨n, rfl⟩ := Int.eq_ofNat_of_zero_le a1
      have hnl : n < (4 * W * H).toNat := by have := HN3.out; omega
      obtain ⟨y, hy⟩ : ∃ y, (trS W H zs (4 * W * H).toNat).2[n]? = some y := ⟨_, List.getElem?_eq_getElem (by rw [tr_len hv]; exact hnl)⟩
      have HV : Hid (caR W H zs n = y ∧ caC W H zs n = 0) := hid (by simp [caR, caC, hv, hk, List.getD_eq_getElem?_getD, hy])
      have Hv := hid hv
      have Hk := hid hk
      have HY := hid hy
      clear hv hk hy
      go_enter Try.func59, Try.ntmps59
      go_wp2_with fail
      refine (calls_bool (validPanel_any W H A c zs _ ((hz.below (bal (Below.refl _ _) _)).more (bal (Below.refl _ _) _).size) hl) Hv.out).mono ?_
      rintro e w1 ⟨rfl, hb1⟩
      have KP1 : Hid (Box w1 (w.heap.size) 30 #[.int .i64 W, .int .i64 H, .slice A zs.length c]) := hid (Box.keep (Box.new' _ _ _ _ (by simp)) hb1)
      have HB1 : Hid (Below w.heap.size w w1) := hid (bstep (bal (Below.refl _ _) _) hb1)
      clear hb1
      obtain ⟨Pa, Pb, Pc⟩ := KP1.out.three
      have Pz := KP1.out.lt
      go_wp2_with fail
      refine (segments_any W H _ _ _ _ Hs.out.1 Hs.out.2).mono ?_
      rintro e w2 ⟨rfl, hb2⟩
      clear Pa Pb Pc Pz
      have KP2 : Hid (Box w2 (w.heap.size) 30 #[.int .i64 W, .int .i64 H, .slice A zs.length c]) := hid (Box.keep (KP1.out) hb2)
      have HB2 : Hid (Below w.heap.size w w2) := hid (bstep (HB1.out) hb2)
      clear hb2
      obtain ⟨Pa, Pb, Pc⟩ := KP2.out.three
      have Pz := KP2.out.lt
      go_wp2_with fail
      refine (calls_bool (inRange_any _ _ _ _) Hk.out).mono ?_
      rintro e w' ⟨rfl, rfl⟩
      go_wp2_with fail
      refine (trace_any W H A c zs _ ((hz.below (HB2.out)).more (HB2.out).size) hl Hv.out).mono ?_
      rintro e w3 ⟨⟨E1, d1, E2, d2, rfl, hne, hro⟩, hb3⟩
      have HNE := hid hne
      have HRO := hid hro
      clear hne hro
      clear Pa Pb Pc Pz
      have KP3 : Hid (Box w3 (w.heap.size) 30 #[.int .i64 W, .int .i64 H, .slice A zs.length c]) := hid (Box.keep (KP2.out) hb3)
      have HB3 : Hid (Below w.heap.size w w3) := hid (bstep (HB2.out) hb3)
      clear hb3
      obtain ⟨Pa, Pb, Pc⟩ := KP3.out.three
      have Pz := KP3.out.lt
      have hca : w3.cell? ⟨(match E2 with | some q => q.block | none => 0), n, none⟩ = some (.int .i64 y) := by
        obtain ⟨gg, cap, he⟩ := Go.Joins.ownsRow_form HRO.out (by omega)
        simp only [Value.slice.injEq] at he
        obtain ⟨rfl, -, rfl⟩ := he
        exact (World.ownsRow.cellAt HRO.out n (by omega)).trans (by simp [vals, HY.out])
      obtain ⟨gg, cap, he⟩ := Go.Joins.ownsRow_form HRO.out (by omega)
      simp only [Value.slice.injEq] at he
      obtain ⟨rfl, -, rfl⟩ := he
      dsimp only at hca
      go_wp2_with fail
      go_ret2
      exact ⟨ret_i2 HV.out.1.symm HV.out.2.symm, (HB3.out)⟩
set_option maxRecDepth 100000 in
set_option maxHeartbeats 2000000 in
theorem implSegmentCurves_any (W H : Int) (A : Option Addr) (c : Nat) (zs : List Int) (w : World) (hz : Ints w w.heap.size A zs) (hl : zs.length ≤ maxLen) :
    Calls Try.prog 50 #[.agg #[.int .i64 W, .int .i64 H, .slice A zs.length c]] w fun e w' => (∃ A' c', e = .returned (.tuple #[.slice A' (scN W H zs) c', .int .i64 (ccC W H zs)]) ∧ w'.ownsRow w.heap.size 2 1 (.slice A' (scN W H zs) c') (scN W H zs) (vals (scL W H zs))) ∧ Below w.heap.size w w' := by
  cases hv : validB W H zs
  · have HV : Hid (scN W H zs = 0 ∧ scL W H zs = [] ∧ ccC W H zs = 1) := hid (by simp [scN, scL, ccC, hv])
    have Hv := hid hv
    clear hv
    go_enter Try.func50, Try.ntmps50
    go_wp2_with fail
    refine (calls_bool (validPanel_any W H A c zs _ ((hz.below (bal (Below.refl _ _) _)).more (bal (Below.refl _ _) _).size) hl) Hv.out).mono ?_
    rintro e w1 ⟨rfl, hb1⟩
    have KP1 : Hid (Box w1 (w.heap.size) 30 #[.int .i64 W, .int .i64 H, .slice A zs.length c]) := hid (Box.keep (Box.new' _ _ _ _ (by simp)) hb1)
    have HB1 : Hid (Below w.heap.size w w1) := hid (bstep (bal (Below.refl _ _) _) hb1)
    clear hb1
    obtain ⟨Pa, Pb, Pc⟩ := KP1.out.three
    have Pz := KP1.out.lt
    go_wp2_with fail
    go_ret2
    exact ⟨⟨none, 0, by rw [HV.out.1, HV.out.2.2] <;> rfl, by rw [HV.out.1, HV.out.2.1]; exact World.ownsRow_nil _ _ _ _⟩, (HB1.out)⟩
  · have HV : Hid (scN W H zs = (4 * W * H).toNat ∧ scL W H zs = (trS W H zs (4 * W * H).toNat).2 ∧ ccC W H zs = 0) := hid (by simp [scN, scL, ccC, hv])
    have Hv := hid hv
    clear hv
    go_enter Try.func50, Try.ntmps50
    go_wp2_with fail
    refine (calls_bool (validPanel_any W H A c zs _ ((hz.below (bal (Below.refl _ _) _)).more (bal (Below.refl _ _) _).size) hl) Hv.out).mono ?_
    rintro e w1 ⟨rfl, hb1⟩
    have KP1 : Hid (Box w1 (w.heap.size) 30 #[.int .i64 W, .int .i64 H, .slice A zs.length c]) := hid (Box.keep (Box.new' _ _ _ _ (by simp)) hb1)
    have HB1 : Hid (Below w.heap.size w w1) := hid (bstep (bal (Below.refl _ _) _) hb1)
    clear hb1
    obtain ⟨Pa, Pb, Pc⟩ := KP1.out.three
    have Pz := KP1.out.lt
    go_wp2_with fail
    refine (trace_any W H A c zs _ ((hz.below (HB1.out)).more (HB1.out).size) hl Hv.out).mono ?_
    rintro e w2 ⟨⟨E1, d1, E2, d2, rfl, hne, hro⟩, hb2⟩
    have HNE := hid hne
    have HRO := hid hro
    clear hne hro
    clear Pa Pb Pc Pz
    have KP2 : Hid (Box w2 (w.heap.size) 30 #[.int .i64 W, .int .i64 H, .slice A zs.length c]) := hid (Box.keep (KP1.out) hb2)
    have HB2 : Hid (Below w.heap.size w w2) := hid (bstep (HB1.out) hb2)
    clear hb2
    obtain ⟨Pa, Pb, Pc⟩ := KP2.out.three
    have Pz := KP2.out.lt
    go_wp2_with fail
    go_ret2
    refine ⟨⟨E2, d2, by rw [HV.out.1, HV.out.2.2] <;> rfl, by rw [HV.out.1, HV.out.2.1]; exact Go.Joins.ownsRow_le HRO.out (HB1.out.size)⟩, (HB2.out)⟩
set_option maxRecDepth 100000 in
set_option maxHeartbeats 4000000 in
theorem implCurveLengths_any (W H : Int) (A : Option Addr) (c : Nat) (zs : List Int) (w : World) (hz : Ints w w.heap.size A zs) (hl : zs.length ≤ maxLen) :
    Calls Try.prog 49 #[.agg #[.int .i64 W, .int .i64 H, .slice A zs.length c]] w fun e w' => (∃ A' c', e = .returned (.tuple #[.slice A' (clN W H zs) c', .int .i64 (ccC W H zs)]) ∧ w'.ownsRow w.heap.size 2 1 (.slice A' (clN W H zs) c') (clN W H zs) (vals (clL W H zs))) ∧ Below w.heap.size w w' := by
  cases hv : validB W H zs
  · have HV : Hid (clN W H zs = 0 ∧ clL W H zs = [] ∧ ccC W H zs = 1) := hid (by simp [clN, clL, ccC, hv])
    have Hv := hid hv
    clear hv
    go_enter Try.func49, Try.ntmps49
    go_wp2_with fail
    refine (calls_bool (validPanel_any W H A c zs _ ((hz.below (bal (Below.refl _ _) _)).more (bal (Below.refl _ _) _).size) hl) Hv.out).mono ?_
    rintro e w1 ⟨rfl, hb1⟩
    have KP1 : Hid (Box w1 (w.heap.size) 30 #[.int .i64 W, .int .i64 H, .slice A zs.length c]) := hid (Box.keep (Box.new' _ _ _ _ (by simp)) hb1)
    have HB1 : Hid (Below w.heap.size w w1) := hid (bstep (bal (Below.refl _ _) _) hb1)
    clear hb1
    obtain ⟨Pa, Pb, Pc⟩ := KP1.out.three
    have Pz := KP1.out.lt
    go_wp2_with fail
    go_ret2
    exact ⟨⟨none, 0, by rw [HV.out.1, HV.out.2.2] <;> rfl, by rw [HV.out.1, HV.out.2.1]; exact World.ownsRow_nil _ _ _ _⟩, (HB1.out)⟩
  · have HV : Hid (clN W H zs = (trS W H zs (4 * W * H).toNat).1.length ∧ clL W H zs = lensL (trS W H zs (4 * W * H).toNat).1 ∧ ccC W H zs = 0) := hid (by simp [clN, clL, ccC, hv])
    have hfew := tr_few hv
    have Hv := hid hv
    clear hv
    obtain ⟨i0, hi, hz0, hz1, hz2⟩ := info_parts infoI
    go_enter Try.func49, Try.ntmps49
    go_wp2_with fail
    refine (calls_bool (validPanel_any W H A c zs _ ((hz.below (bal (Below.refl _ _) _)).more (bal (Below.refl _ _) _).size) hl) Hv.out).mono ?_
    rintro e w1 ⟨rfl, hb1⟩
    have KP1 : Hid (Box w1 (w.heap.size) 30 #[.int .i64 W, .int .i64 H, .slice A zs.length c]) := hid (Box.keep (Box.new' _ _ _ _ (by simp)) hb1)
    have HB1 : Hid (Below w.heap.size w w1) := hid (bstep (bal (Below.refl _ _) _) hb1)
    clear hb1
    obtain ⟨Pa, Pb, Pc⟩ := KP1.out.three
    have Pz := KP1.out.lt
    go_wp2_with fail
    have ho1 := World.ownsRow_lit (base := w.heap.size + 1) (e := 2) (size := 1) w1 #[] 0 (by have := KP1.out.lt; omega) (Nat.zero_le _) rfl
    have HO1 := hid ho1
    clear ho1
    refine (trace_any W H A c zs _ ((hz.below (bal (HB1.out) _)).more (bal (HB1.out) _).size) hl Hv.out).mono ?_
    rintro e w2 ⟨⟨E1, d1, E2, d2, rfl, hne, hro⟩, hb2⟩
    have HO2 := hid (own_keep HO1.out hb2)
    have HNE := hid hne
    have HRO := hid hro
    clear hne hro
    clear Pa Pb Pc Pz
    have KP2 : Hid (Box w2 (w.heap.size) 30 #[.int .i64 W, .int .i64 H, .slice A zs.length c]) := hid (Box.keep (Box.alloc (KP1.out) _) hb2)
    have HB2 : Hid (Below w.heap.size w w2) := hid (bstep (bal (HB1.out) _) hb2)
    clear hb2
    obtain ⟨Pa, Pb, Pc⟩ := KP2.out.three
    have Pz := KP2.out.lt
    obtain ⟨cs, hcs⟩ : ∃ cs, cs = (trS W H zs (4 * W * H).toNat).1 := ⟨_, rfl⟩
    rw [← hcs] at HV hfew HNE
    have HCS := hid hcs
    rw [← hcs]
    clear hcs
    have HNE2 := hid HNE.out
    obtain ⟨vs0, hvs0, -, -⟩ := HNE.out
    rw [curZ_length] at hvs0
    have hwz := HB2.out.size
    clear Pa Pb Pc Pz
    go_wp2_with fail
    go_loopg [4, 20] cs.length (fun g v i wr => ∃ j : Nat, j ≤ cs.length ∧ i = .int .i64 j ∧ g = cs.length - j ∧ Hid (wr.ownsRow (w.heap.size + 1) 2 1 v j (vals ((lensL cs).take j))) ∧ Hid (Nest wr (w1.heap.size + 1) w2.heap.size 48 52 4 (.slice E1 cs.length d1) (curZ cs)) ∧ Hid (Below w.heap.size w wr))
    case atStart => exact ⟨0, Nat.zero_le _, rfl, rfl, by simpa using HO2, hid (by simpa using HNE2.out), HB2⟩
    case round =>
      clear hvs0
      obtain ⟨j, hj, rfl, hg, HO, NE, HB⟩ := hrel
      by_cases hlt : j < cs.length
      · obtain ⟨cj, hcj⟩ : ∃ cj, cs[j]? = some cj := ⟨_, List.getElem?_eq_getElem hlt⟩
        obtain ⟨vs, hO, hI, hD⟩ := NE.out
        rw [curZ_length] at hO
        obtain ⟨vi, ni, hvi, hri⟩ := hI j (vals (flatW cj)) (by simp [curZ, hcj])
        obtain rfl := cur_len hri
        obtain ⟨Ai, ci, rfl⟩ := own_form hri.1
        have hcl := own_max hri.1
        unfold maxLen at hcl
        obtain ⟨gq, cq, he⟩ := Go.Joins.ownsRow_form hO (by omega)
        simp only [Value.slice.injEq] at he
        obtain ⟨rfl, -, rfl⟩ := he
        have hca : wr.cell? ⟨gq, j, none⟩ = some (.slice Ai cj.length ci) := (World.ownsRow.cellAt hO j (by omega)).trans hvi
        have HT : Hid ((lensL cs).take (j + 1) = (lensL cs).take j ++ [(cj.length : Int)]) := hid (by rw [List.take_add_one]; simp [lensL, hcj])
        have hz5 := HB.out.size
        have HOL := hid HO.out.lt
        clear hO hI hD hvi hri hcj
        go_wp2_with (at_builtin; (refine wpList_append_own _ rfl _ _ 22 rfl (w.heap.size + 1) 2 i0 (.int .i64 0) 1 8 Try.underlying22 hi hz0 hz1 hz2 rfl (by decide) _ j (vals ((lensL cs).take j)) rfl (HO.out.alloc _) ⟨wr.heap.size, 0, none⟩ 1 1 [.int .i64 cj.length] rfl rfl (World.news_of_block (cs := #[.int .i64 cj.length]) (t := 2) (fr := (0, 0)) (heap_alloc_new wr _)) (by simp [Value.oneCell']) (by unfold maxLen; omega) (by omega) (by simp; omega) ?_; intro v' wz ho2 hgr _))
        have HH := hid (And.intro ho2 hgr)
        clear ho2 hgr
        go_roundg (cs.length - (j + 1))
        case measure => omega
        case rel => exact ⟨j + 1, by omega, by go_num, rfl, hid (by rw [HT.out]; simpa [vals] using HH.out.1), hid ((NE.out.alloc _).other (HO.out.alloc _) HH.out.2 (by decide) (by decide)), hid (bgrew (lo := w.heap.size + 1) (bal HB.out _) HH.out.2 (fun q hq => (HOL.out q hq).1) (by omega))⟩
      · obtain rfl : j = cs.length := by omega
        have HT : Hid ((lensL cs).take cs.length = lensL cs) := hid (List.take_of_length_le (by simp [lensL]))
        obtain ⟨Ao, co, rfl⟩ := own_form HO.out
        go_wp2_with fail
        go_ret2
        refine ⟨⟨Ao, co, by rw [HV.out.1, HV.out.2.2] <;> rfl, ?_⟩, HB.out⟩
        rw [HV.out.1, HV.out.2.1, ← HT.out]
        exact Go.Joins.ownsRow_le HO.out (by omega)
end Go.Proofs.Ytbgigompkmnapaa

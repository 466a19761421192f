/- CountBreaks. -/
import Derived.Test.YtbgigompkmnapaaCs
namespace Go.Proofs.Ytbgigompkmnapaa
set_option linter.unusedSimpArgs false
set_option linter.unusedVariables false
open Go.ChangeShapes Go.WideShapes Go.ChangeAt Go.RowKit
/-- How many of the numbers are k. -/
def cntK (k : Int) (zs : List Int) : Nat := (zs.filter fun z => z == k).length
theorem cntK_le (k : Int) (zs : List Int) : cntK k zs ≤ zs.length := List.length_filter_le _ _
theorem cntK_yes {k : Int} {zs : List Int} {j : Nat} {z : Int} (h : zs[j]? = some z) (e : (z == k) = true) : cntK k (zs.take (j + 1)) = cntK k (zs.take j) + 1 := by
  unfold cntK
  rw [List.take_add_one, h, List.filter_append, List.length_append]
  simp [e]
theorem cntK_no {k : Int} {zs : List Int} {j : Nat} {z : Int} (h : zs[j]? = some z) (e : (z == k) = false) : cntK k (zs.take (j + 1)) = cntK k (zs.take j) := by
  unfold cntK
  rw [List.take_add_one, h, List.filter_append, List.length_append]
  simp [e]
/-- What CountBreaks answers. -/
def cntR (W H : Int) (zs : List Int) (k : Int) : Int := if validB W H zs && kindOk k then (cntK k zs : Int) else 0
def cntC (W H : Int) (zs : List Int) (k : Int) : Int := if validB W H zs then (if kindOk k then 0 else 2) else 1

set_option maxHeartbeats 800000 in
theorem implCountBreaks_any (W H : Int) (A : Option Addr) (c : Nat) (zs : List Int) (a : Int) (w : World) (hz : Ints w w.heap.size A zs) (hl : zs.length ≤ maxLen) (_ : (Lit.int .i64 a).wf = true) :
    Calls Try.prog 40 #[.agg #[.int .i64 W, .int .i64 H, .slice A zs.length c], .int .i64 a] w fun e w' => e = .returned (.tuple #[.int .i64 (cntR W H zs a), .int .i64 (cntC W H zs a)]) ∧ Below w.heap.size w w' := by
  unfold maxLen at hl
  cases hv : validB W H zs
  · have HV : Hid (cntR W H zs a = 0 ∧ cntC W H zs a = 1) := hid (by simp [cntR, cntC, hv])
    have Hv := hid hv
    clear hv
    go_enter Try.func40, Try.ntmps40
    go_wp2_with fail
    refine (calls_bool (validPanel_any W H A c zs _ ((hz.below (bal (Below.refl _ _) _)).more (bal (Below.refl _ _) _).size) (by unfold maxLen; omega)) Hv.out).mono ?_
    rintro e w1 ⟨rfl, hb1⟩
    have KP1 : Hid (Box w1 (w.heap.size) 30 #[.int .i64 W, .int .i64 H, .slice A zs.length c]) := hid (Box.keep (Box.new' _ _ _ _ (by simp)) hb1)
    have HB1 : Hid (Below w.heap.size w w1) := hid (bstep (bal (Below.refl _ _) _) hb1)
    clear hb1
    obtain ⟨Pa, Pb, Pc⟩ := KP1.out.three
    have Pz := KP1.out.lt
    go_wp2_with fail
    go_ret2
    exact ⟨ret_two HV.out.1.symm HV.out.2.symm, (HB1.out)⟩
  · cases hk : kindOk a
    · have HV : Hid (cntR W H zs a = 0 ∧ cntC W H zs a = 2) := hid (by simp [cntR, cntC, hv, hk])
      have Hv := hid hv
      have Hk := hid hk
      clear hv hk
      go_enter Try.func40, Try.ntmps40
      go_wp2_with fail
      refine (calls_bool (validPanel_any W H A c zs _ ((hz.below (bal (Below.refl _ _) _)).more (bal (Below.refl _ _) _).size) (by unfold maxLen; omega)) Hv.out).mono ?_
      rintro e w1 ⟨rfl, hb1⟩
      have KP1 : Hid (Box w1 (w.heap.size) 30 #[.int .i64 W, .int .i64 H, .slice A zs.length c]) := hid (Box.keep (Box.new' _ _ _ _ (by simp)) hb1)
      have HB1 : Hid (Below w.heap.size w w1) := hid (bstep (bal (Below.refl _ _) _) hb1)
      clear hb1
      obtain ⟨Pa, Pb, Pc⟩ := KP1.out.three
      have Pz := KP1.out.lt
      go_wp2_with fail
      refine (calls_bool (validBreak_any _ _) Hk.out).mono ?_
      rintro e w' ⟨rfl, rfl⟩
      go_wp2_with fail
      go_ret2
      exact ⟨ret_two HV.out.1.symm HV.out.2.symm, (HB1.out)⟩
    · have HV : Hid (cntR W H zs a = (cntK a zs : Int) ∧ cntC W H zs a = 0) := hid (by simp [cntR, cntC, hv, hk])
      have Hv := hid hv
      have Hk := hid hk
      clear hv hk
      go_enter Try.func40, Try.ntmps40
      go_wp2_with fail
      refine (calls_bool (validPanel_any W H A c zs _ ((hz.below (bal (Below.refl _ _) _)).more (bal (Below.refl _ _) _).size) (by unfold maxLen; omega)) Hv.out).mono ?_
      rintro e w1 ⟨rfl, hb1⟩
      have KP1 : Hid (Box w1 (w.heap.size) 30 #[.int .i64 W, .int .i64 H, .slice A zs.length c]) := hid (Box.keep (Box.new' _ _ _ _ (by simp)) hb1)
      have HB1 : Hid (Below w.heap.size w w1) := hid (bstep (bal (Below.refl _ _) _) hb1)
      clear hb1
      obtain ⟨Pa, Pb, Pc⟩ := KP1.out.three
      have Pz := KP1.out.lt
      go_wp2_with fail
      refine (calls_bool (validBreak_any _ _) Hk.out).mono ?_
      rintro e w' ⟨rfl, rfl⟩
      go_wp2_with fail
      go_loopg [6, 18] zs.length (fun g m i wr => ∃ j : Nat, j ≤ zs.length ∧ i = .int .i64 j ∧ m = .int .i64 (cntK a (zs.take j) : Nat) ∧ g = zs.length - j ∧ w1 = wr)
      case atStart => exact ⟨0, Nat.zero_le _, rfl, by simp [cntK], rfl, rfl⟩
      case round =>
        obtain ⟨j, hj, rfl, rfl, hg, rfl⟩ := hrel
        have hcl := cntK_le a (zs.take j)
        have hcl2 : (zs.take j).length ≤ j := List.length_take_le _ _
        by_cases hlt : j < zs.length
        · obtain ⟨z, hzj⟩ : ∃ z, zs[j]? = some z := ⟨_, List.getElem?_eq_getElem hlt⟩
          obtain ⟨b, off, rfl, hb, hc⟩ := (hz.below (HB1.out)) j z hzj
          have Hz := hid hzj
          clear hzj
          cases he : (z == a)
          · have HC := hid (cntK_no Hz.out he)
            go_wp2_with fail
            go_roundg (zs.length - (j + 1))
            case measure => omega
            case rel => exact ⟨j + 1, by omega, by go_num, by rw [HC.out], rfl, rfl⟩
          · have HC := hid (cntK_yes Hz.out he)
            go_wp2_with fail
            go_roundg (zs.length - (j + 1))
            case measure => omega
            case rel => exact ⟨j + 1, by omega, by go_num, by rw [HC.out]; go_num, rfl, rfl⟩
        · have hkl : j = zs.length := by omega
          subst hkl
          rw [List.take_length]
          go_wp2_with fail
          go_ret2
          exact ⟨ret_two HV.out.1.symm HV.out.2.symm, (HB1.out)⟩
set_option maxHeartbeats 800000 in
theorem specCountBreaks_any (W H : Int) (A : Option Addr) (c : Nat) (zs : List Int) (a : Int) (w : World) (hz : Ints w w.heap.size A zs) (hl : zs.length ≤ maxLen) (_ : (Lit.int .i64 a).wf = true) :
    Calls Try.prog 58 #[.agg #[.int .i64 W, .int .i64 H, .slice A zs.length c], .int .i64 a] w fun e w' => e = .returned (.tuple #[.int .i64 (cntR W H zs a), .int .i64 (cntC W H zs a)]) ∧ Below w.heap.size w w' := by
  unfold maxLen at hl
  cases hv : validB W H zs
  · have HV : Hid (cntR W H zs a = 0 ∧ cntC W H zs a = 1) := hid (by simp [cntR, cntC, hv])
    have Hv := hid hv
    clear hv
    go_enter Try.func58, Try.ntmps58
    go_wp2_with fail
    refine (qb (calls_bool (l02Ok_any _ W H A c zs _ w.heap.size (Box.new' _ _ _ _ (by simp)) (hz.below (bal (Below.refl _ _) _)) (by unfold maxLen; omega)) Hv.out)).mono ?_
    rintro e w1 ⟨rfl, hb1⟩
    have KP1 : Hid (Box w1 (w.heap.size) 30 #[.int .i64 W, .int .i64 H, .slice A zs.length c]) := hid (Box.keep (Box.new' _ _ _ _ (by simp)) hb1)
    have HB1 : Hid (Below w.heap.size w w1) := hid (bstep (bal (Below.refl _ _) _) hb1)
    clear hb1
    obtain ⟨Pa, Pb, Pc⟩ := KP1.out.three
    have Pz := KP1.out.lt
    go_wp2_with fail
    go_ret2
    exact ⟨ret_two HV.out.1.symm HV.out.2.symm, (HB1.out)⟩
  · cases hk : kindOk a
    · have HV : Hid (cntR W H zs a = 0 ∧ cntC W H zs a = 2) := hid (by simp [cntR, cntC, hv, hk])
      have Hv := hid hv
      have Hk := hid hk
      clear hv hk
      go_enter Try.func58, Try.ntmps58
      go_wp2_with fail
      refine (qb (calls_bool (l02Ok_any _ W H A c zs _ w.heap.size (Box.new' _ _ _ _ (by simp)) (hz.below (bal (Below.refl _ _) _)) (by unfold maxLen; omega)) Hv.out)).mono ?_
      rintro e w1 ⟨rfl, hb1⟩
      have KP1 : Hid (Box w1 (w.heap.size) 30 #[.int .i64 W, .int .i64 H, .slice A zs.length c]) := hid (Box.keep (Box.new' _ _ _ _ (by simp)) hb1)
      have HB1 : Hid (Below w.heap.size w w1) := hid (bstep (bal (Below.refl _ _) _) hb1)
      clear hb1
      obtain ⟨Pa, Pb, Pc⟩ := KP1.out.three
      have Pz := KP1.out.lt
      go_wp2_with fail
      refine (calls_bool (l02Kind_any _ _) Hk.out).mono ?_
      rintro e w' ⟨rfl, rfl⟩
      go_wp2_with fail
      go_ret2
      exact ⟨ret_two HV.out.1.symm HV.out.2.symm, (HB1.out)⟩
    · have HV : Hid (cntR W H zs a = (cntK a zs : Int) ∧ cntC W H zs a = 0) := hid (by simp [cntR, cntC, hv, hk])
      have Hv := hid hv
      have Hk := hid hk
      clear hv hk
      go_enter Try.func58, Try.ntmps58
      go_wp2_with fail
      refine (qb (calls_bool (l02Ok_any _ W H A c zs _ w.heap.size (Box.new' _ _ _ _ (by simp)) (hz.below (bal (Below.refl _ _) _)) (by unfold maxLen; omega)) Hv.out)).mono ?_
      rintro e w1 ⟨rfl, hb1⟩
      have KP1 : Hid (Box w1 (w.heap.size) 30 #[.int .i64 W, .int .i64 H, .slice A zs.length c]) := hid (Box.keep (Box.new' _ _ _ _ (by simp)) hb1)
      have HB1 : Hid (Below w.heap.size w w1) := hid (bstep (bal (Below.refl _ _) _) hb1)
      clear hb1
      obtain ⟨Pa, Pb, Pc⟩ := KP1.out.three
      have Pz := KP1.out.lt
      go_wp2_with fail
      refine (calls_bool (l02Kind_any _ _) Hk.out).mono ?_
      rintro e w' ⟨rfl, rfl⟩
      go_wp2_with fail
      go_loopg [6, 7] zs.length (fun g m i wr => ∃ j : Nat, j ≤ zs.length ∧ i = .int .i64 j ∧ m = .int .i64 (cntK a (zs.take j) : Nat) ∧ g = zs.length - j ∧ w1 = wr)
      case atStart => exact ⟨0, Nat.zero_le _, rfl, by simp [cntK], rfl, rfl⟩
      case round =>
        obtain ⟨j, hj, rfl, rfl, hg, rfl⟩ := hrel
        have hcl := cntK_le a (zs.take j)
        have hcl2 : (zs.take j).length ≤ j := List.length_take_le _ _
        by_cases hlt : j < zs.length
        · obtain ⟨z, hzj⟩ : ∃ z, zs[j]? = some z := ⟨_, List.getElem?_eq_getElem hlt⟩
          obtain ⟨b, off, rfl, hb, hc⟩ := (hz.below (HB1.out)) j z hzj
          have Hz := hid hzj
          clear hzj
          cases he : (z == a)
          · have HC := hid (cntK_no Hz.out he)
            go_wp2_with fail
            go_roundg (zs.length - (j + 1))
            case measure => omega
            case rel => exact ⟨j + 1, by omega, by go_num, by rw [HC.out], rfl, rfl⟩
          · have HC := hid (cntK_yes Hz.out he)
            go_wp2_with fail
            go_roundg (zs.length - (j + 1))
            case measure => omega
            case rel => exact ⟨j + 1, by omega, by go_num, by rw [HC.out]; go_num, rfl, rfl⟩
        · have hkl : j = zs.length := by omega
          subst hkl
          rw [List.take_length]
          go_wp2_with fail
          go_ret2
          exact ⟨ret_two HV.out.1.symm HV.out.2.symm, (HB1.out)⟩
end Go.Proofs.Ytbgigompkmnapaa

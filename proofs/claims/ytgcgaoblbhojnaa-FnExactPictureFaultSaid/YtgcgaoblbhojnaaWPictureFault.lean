/- The walk of FnExactPictureFault. -/
import Derived.Test.YtgcgaoblbhojnaaPg
namespace Go.Proofs.Ytgcgaoblbhojnaa
set_option linter.unusedSimpArgs false
set_option linter.unusedVariables false
open Go.ChangeShapes Go.WideShapes Go.ChangeAt Go.RowKit
theorem specPictureFault_any (A : Option Addr) (c : Nat) (ss : List ByteArray) (w : World) (hz : StrsR w w.heap.size A ss) (hl : ss.length ≤ 1048576) (hs : ∀ s ∈ ss, s.size ≤ 1048576) :
    Calls Try.prog 19 #[.slice A ss.length c] w fun e w' => e = .returned (.tuple #[.int .i64 (pfF ss).1, .int .i64 (pfF ss).2.1, .int .i64 (pfF ss).2.2]) ∧ Below w.heap.size w w' := by
  go_enter Try.func19, Try.ntmps19
  go_wp2_with fail
  refine (l05Fault_any A c ss _ hz hl hs).mono ?_
  rintro e w1 ⟨rfl, hb1⟩
  have HB := hid hb1
  clear hb1
  go_wp2_with fail
  go_ret3
  exact ⟨rfl, HB.out⟩
set_option maxHeartbeats 2000000 in
set_option maxRecDepth 100000 in
theorem fnExactPictureFault_walk (w : World) (A0 : Option Addr) (c0 : Nat) (ss0 : List ByteArray) (hl0 : ss0.length ≤ maxLen) (hz0 : StrsR w w.heap.size A0 ss0) (hw0 : ∀ s ∈ ss0, s.size ≤ maxLen) :
    Calls Try.prog 5 #[.slice A0 ss0.length c0] w fun e w' => e = .returned (.bool true) ∧ Below w.heap.size w w' := by
  by_cases ht : totS ss0 ≤ 1048576
  · have hn : ss0.length ≤ 1048576 := by unfold totS at ht; omega
    have hs : ∀ s ∈ ss0, s.size ≤ 1048576 := fun s hm => by
      obtain ⟨i, hi, rfl⟩ := List.getElem_of_mem hm
      have := size_le_tot (List.getElem?_eq_getElem hi)
      omega
    have HS := hid hs
    have HT := hid ht
    have hng : ¬ (1048576 - (totS ss0 : Int) < 0) := by omega
    clear hs ht
    have e1 : ((pfF ss0).1 != (pfF ss0).1) = false := by simp
    have e2 : ((pfF ss0).2.1 != (pfF ss0).2.1) = false := by simp
    have e3 : ((pfF ss0).2.2 != (pfF ss0).2.2) = false := by simp
    have hml : ss0.length ≤ maxLen := hl0
    go_enter Try.func5, Try.ntmps5
    go_wp2_with fail
    refine (szStringS_any A0 c0 ss0 _ hz0 HT.out).mono ?_
    rintro e w' ⟨rfl, rfl⟩
    go_wp2_with fail
    refine (toStringS_any A0 c0 ss0 _ w.heap.size hz0 (Nat.le_refl _) hn).mono ?_
    rintro e w1 ⟨⟨A1, c1, rfl, ho1⟩, hb1⟩
    have HO1 := hid ho1
    have HB1 := hid hb1
    clear ho1 hb1
    go_wp2_with fail
    refine (specPictureFault_any A1 c1 ss0 _ (StrsR.own HO1.out) hn HS.out).mono ?_
    rintro e w2 ⟨rfl, hb2⟩
    have HB2 := hid (bbl HB1.out hb2)
    clear hb2
    go_wp2_with fail
    refine (toStringS_any A0 c0 ss0 _ w.heap.size (hz0.below HB2.out) HB2.out.size hn).mono ?_
    rintro e w3 ⟨⟨A3, c3, rfl, ho3⟩, hb3⟩
    have HO3 := hid ho3
    have HB3 := hid (bbl HB2.out hb3)
    clear ho3 hb3
    go_wp2_with fail
    refine (implPictureFault_any A3 c3 ss0 _ (StrsR.own HO3.out) hn HS.out).mono ?_
    rintro e w4 ⟨rfl, hb4⟩
    have HO4 := hid (own_keep HO3.out hb4)
    have HB4 := hid (bbl HB3.out hb4)
    clear hb4
    go_wp2_with fail
    refine (toStringS_any A0 c0 ss0 _ w.heap.size (hz0.below HB4.out) HB4.out.size hn).mono ?_
    rintro e w5 ⟨⟨A5, c5, rfl, ho5⟩, hb5⟩
    have HO5 := hid (own_keep HO4.out hb5)
    have HP5 := hid ho5
    have HB5 := hid (bbl HB4.out hb5)
    clear ho5 hb5
    go_wp2_with fail
    refine (eqStringS_any _ _ ss0 ss0.length _ _ _ HO5.out HP5.out hml).mono ?_
    rintro e w6 ⟨rfl, hb6⟩
    have HB6 := hid (bbl HB5.out hb6)
    clear hb6
    go_wp2_with fail
    go_ret
    exact ⟨rfl, HB6.out⟩
  · have ht' : 1048576 < totS ss0 := by omega
    clear ht
    go_enter Try.func5, Try.ntmps5
    go_wp2_with fail
    refine (szStringS_big A0 c0 ss0 _ hz0 ht' hl0 hw0).mono ?_
    rintro e w' ⟨rfl, rfl⟩
    go_wp2_with fail
    go_ret
    exact ⟨rfl, Below.refl _ _⟩
end Go.Proofs.Ytgcgaoblbhojnaa

/- The walk of FnExactSplitWords. -/
import Derived.Test.YthcoimlbjhdjcaaSl
import Derived.Test.YthcoimlbjhdjcaaAu
import Derived.Deep.RegionHeld3
namespace Go.Proofs.Ythcoimlbjhdjcaa
set_option linter.unusedSimpArgs false
set_option linter.unusedVariables false
open Go.ChangeShapes Go.WideShapes Go.ChangeAt Go.RowKit
set_option maxHeartbeats 2000000 in
set_option maxRecDepth 100000 in
theorem fnExactSplitWords_walk (w : World) (s : ByteArray) (hs : s.size ≤ 9223372036854775807) :
    Calls Try.prog 12 #[.string s] w fun e w' => e = .returned (.bool true) ∧ Below w.heap.size w w' := by
  by_cases hb : (1048576 : Int) < s.size
  · go_enter Try.func12, Try.ntmps12
    go_wp2_with fail
    go_ret
    exact ⟨rfl, Below.refl _ _⟩
  · have hs2 : s.size ≤ 1048576 := by omega
    obtain ⟨ss, hss⟩ : ∃ ss, swL s = ss := ⟨_, rfl⟩
    have hle : ss.length ≤ 1048577 := by have := swL_len s; rw [hss] at this; omega
    have HSS := hid hss
    clear hss
    have hng2 : ¬ ((((1 + ss.length : Nat)) : Int) < 0) := by omega
    go_enter Try.func12, Try.ntmps12
    go_wp2_with fail
    refine (specSplitWords_any s _ hs2).mono ?_
    rintro e w1 ⟨⟨A1, c1, rfl, ho1⟩, hb1⟩
    rw [HSS.out] at ho1 ⊢
    have Z1 : Hid (w.heap.size ≤ w1.heap.size) := hid (by have h := Below.size (hb1); (try simp only [World.size_alloc, World.size_drew] at h); omega)
    have HB1 : Hid (Below w.heap.size w w1) := hid (bstep (Below.refl _ _) hb1)
    have WR_1 : Hid (Rgn w1 (w.heap.size) (w1.heap.size) 9 1 (.slice A1 ss.length c1) (ss.length) (strs ss)) := hid (Rgn.of ho1 (by simp) rfl)
    clear ho1
    clear hb1
    go_wp2_with fail
    refine (implSplitWords_any s _ hs2).mono ?_
    rintro e w2 ⟨⟨A2, c2, rfl, ho2⟩, hb2⟩
    rw [HSS.out] at ho2 ⊢
    have Z2 : Hid (w1.heap.size ≤ w2.heap.size) := hid (by have h := Below.size (hb2); (try simp only [World.size_alloc, World.size_drew] at h); omega)
    have WR_2 : Hid (Rgn w2 (w.heap.size) (w1.heap.size) 9 1 (.slice A1 ss.length c1) (ss.length) (strs ss)) := hid (Rgn.keep (WR_1.out) hb2)
    have HB2 : Hid (Below w.heap.size w w2) := hid (bstep (HB1.out) hb2)
    have GR_2 : Hid (Rgn w2 (w1.heap.size) (w2.heap.size) 9 1 (.slice A2 ss.length c2) (ss.length) (strs ss)) := hid (Rgn.of ho2 (by simp) rfl)
    clear ho2
    clear hb2
    go_wp2_with fail
    refine (eqStringS_any _ _ ss ss.length _ _ _ ((GR_2.out)).1 ((WR_2.out)).1 (by unfold maxLen; omega)).mono ?_
    rintro e w3 ⟨rfl, hb3⟩
    have Z3 : Hid (w2.heap.size ≤ w3.heap.size) := hid (by have h := Below.size (hb3); (try simp only [World.size_alloc, World.size_drew] at h); omega)
    have WR_3 : Hid (Rgn w3 (w.heap.size) (w1.heap.size) 9 1 (.slice A1 ss.length c1) (ss.length) (strs ss)) := hid (Rgn.keep (WR_2.out) hb3)
    have GR_3 : Hid (Rgn w3 (w1.heap.size) (w2.heap.size) 9 1 (.slice A2 ss.length c2) (ss.length) (strs ss)) := hid (Rgn.keep (GR_2.out) hb3)
    have HB3 : Hid (Below w.heap.size w w3) := hid (bstep (HB2.out) hb3)
    clear hb3
    go_wp2_with fail
    refine (markStringS_any _ ss ss.length 1 _ _ _ (GR_3.out) (by decide) (by omega)).mono ?_
    rintro e w4 ⟨rfl, hr4, hc4⟩
    have Z4 : Hid (w3.heap.size ≤ w4.heap.size) := hid (by have h := Chg.size (hc4); (try simp only [World.size_alloc, World.size_drew] at h); omega)
    have WR_4 : Hid (Rgn w4 (w.heap.size) (w1.heap.size) 9 1 (.slice A1 ss.length c1) (ss.length) (strs ss)) := hid (Rgn.chg (WR_3.out) hc4 (by have q1 := Z1.out; have q2 := Z2.out; have q3 := Z3.out; omega))
    have HB4 : Hid (Below w.heap.size w w4) := hid (bchg (HB3.out) hc4 (by have q1 := Z1.out; have q2 := Z2.out; have q3 := Z3.out; omega))
    have GR_4 : Hid (Rgn w4 (w1.heap.size) (w2.heap.size) 9 1 (.slice A2 ss.length c2) (ss.length) (strs (markTs 1 ss.length))) := hid hr4
    clear hr4 hc4
    go_wp2_with fail
    refine (heldStringS_any _ ss.length 1 _ _ _ (GR_4.out) (by decide) (by omega)).mono ?_
    rintro e w5 ⟨rfl, hb5⟩
    have Z5 : Hid (w4.heap.size ≤ w5.heap.size) := hid (by have h := Below.size (hb5); (try simp only [World.size_alloc, World.size_drew] at h); omega)
    have WR_5 : Hid (Rgn w5 (w.heap.size) (w1.heap.size) 9 1 (.slice A1 ss.length c1) (ss.length) (strs ss)) := hid (Rgn.keep (WR_4.out) hb5)
    have GR_5 : Hid (Rgn w5 (w1.heap.size) (w2.heap.size) 9 1 (.slice A2 ss.length c2) (ss.length) (strs (markTs 1 ss.length))) := hid (Rgn.keep (GR_4.out) hb5)
    have HB5 : Hid (Below w.heap.size w w5) := hid (bstep (HB4.out) hb5)
    clear hb5
    go_wp2_with fail
    refine (implSplitWords_any s _ hs2).mono ?_
    rintro e w6 ⟨⟨A6, c6, rfl, ho6⟩, hb6⟩
    rw [HSS.out] at ho6 ⊢
    have Z6 : Hid (w5.heap.size ≤ w6.heap.size) := hid (by have h := Below.size (hb6); (try simp only [World.size_alloc, World.size_drew] at h); omega)
    have WR_6 : Hid (Rgn w6 (w.heap.size) (w1.heap.size) 9 1 (.slice A1 ss.length c1) (ss.length) (strs ss)) := hid (Rgn.keep (WR_5.out) hb6)
    have GR_6 : Hid (Rgn w6 (w1.heap.size) (w2.heap.size) 9 1 (.slice A2 ss.length c2) (ss.length) (strs (markTs 1 ss.length))) := hid (Rgn.keep (GR_5.out) hb6)
    have HB6 : Hid (Below w.heap.size w w6) := hid (bstep (HB5.out) hb6)
    have HR_6 : Hid (Rgn w6 (w5.heap.size) (w6.heap.size) 9 1 (.slice A6 ss.length c6) (ss.length) (strs ss)) := hid (Rgn.of ho6 (by simp) rfl)
    clear ho6
    clear hb6
    go_wp2_with fail
    refine (eqStringS_any _ _ ss ss.length _ _ _ ((HR_6.out)).1 ((WR_6.out)).1 (by unfold maxLen; omega)).mono ?_
    rintro e w7 ⟨rfl, hb7⟩
    have Z7 : Hid (w6.heap.size ≤ w7.heap.size) := hid (by have h := Below.size (hb7); (try simp only [World.size_alloc, World.size_drew] at h); omega)
    have WR_7 : Hid (Rgn w7 (w.heap.size) (w1.heap.size) 9 1 (.slice A1 ss.length c1) (ss.length) (strs ss)) := hid (Rgn.keep (WR_6.out) hb7)
    have GR_7 : Hid (Rgn w7 (w1.heap.size) (w2.heap.size) 9 1 (.slice A2 ss.length c2) (ss.length) (strs (markTs 1 ss.length))) := hid (Rgn.keep (GR_6.out) hb7)
    have HR_7 : Hid (Rgn w7 (w5.heap.size) (w6.heap.size) 9 1 (.slice A6 ss.length c6) (ss.length) (strs ss)) := hid (Rgn.keep (HR_6.out) hb7)
    have HB7 : Hid (Below w.heap.size w w7) := hid (bstep (HB6.out) hb7)
    clear hb7
    go_wp2_with fail
    refine (heldStringS_any _ ss.length 1 _ _ _ (GR_7.out) (by decide) (by omega)).mono ?_
    rintro e w8 ⟨rfl, hb8⟩
    have Z8 : Hid (w7.heap.size ≤ w8.heap.size) := hid (by have h := Below.size (hb8); (try simp only [World.size_alloc, World.size_drew] at h); omega)
    have GR_8 : Hid (Rgn w8 (w1.heap.size) (w2.heap.size) 9 1 (.slice A2 ss.length c2) (ss.length) (strs (markTs 1 ss.length))) := hid (Rgn.keep (GR_7.out) hb8)
    have HB8 : Hid (Below w.heap.size w w8) := hid (bstep (HB7.out) hb8)
    clear hb8
    go_wp2_with fail
    go_ret
    exact ⟨rfl, (HB8.out)⟩
end Go.Proofs.Ythcoimlbjhdjcaa

/- The walk of FnExactReadPanel. -/
import Derived.Test.YtgcgaoblbhojnaaPm
import Derived.Test.YtgcgaoblbhojnaaRg
import Derived.Test.YtgcgaoblbhojnaaAu
import Derived.Deep.RegionHeld3
namespace Go.Proofs.Ytgcgaoblbhojnaa
set_option linter.unusedSimpArgs false
set_option linter.unusedVariables false
open Go.ChangeShapes Go.WideShapes Go.ChangeAt Go.RowKit
set_option maxHeartbeats 4000000 in
set_option maxRecDepth 100000 in
theorem fnExactReadPanel_walk (w : World) (s0 : ByteArray) (hs0 : s0.size ≤ maxLen) :
    Calls Try.prog 8 #[.string s0] w fun e w' => e = .returned (.bool true) ∧ Below w.heap.size w w' := by
  by_cases ht : s0.size ≤ 1048576
  · have HS := hid ht
    obtain ⟨n, hn⟩ : ∃ n, s0.size = n := ⟨_, rfl⟩
    have hng : ¬ ((1048576 : Int) < (n : Int)) := by omega
    obtain ⟨N, hN⟩ : ∃ N, pnN s0 = N := ⟨_, rfl⟩
    have hle : N ≤ 1048576 := by
      rw [← hN]
      unfold pnN pnL
      split
      · exact Nat.le_trans (prZ_len s0) ht
      · simp
    have hng2 : ¬ ((((1 + N : Nat)) : Int) < 0) := by omega
    have HSR : Hid (∀ wx : World, Calls Try.prog 33 #[.string s0] wx fun e w' => (∃ A' c', e = .returned (.tuple #[.agg #[.int .i64 (pnW s0), .int .i64 (pnH s0), .slice A' N c'], .bool (pnO s0)]) ∧ w'.ownsRow wx.heap.size 2 1 (.slice A' N c') N (vals (pnL s0))) ∧ Below wx.heap.size wx w') := hid (fun wx => by have h := specReadPanel_any s0 wx ht; rw [hN] at h; exact h)
    have HIR : Hid (∀ wx : World, Calls Try.prog 34 #[.string s0] wx fun e w' => (∃ A' c', e = .returned (.tuple #[.agg #[.int .i64 (pnW s0), .int .i64 (pnH s0), .slice A' N c'], .bool (pnO s0)]) ∧ w'.ownsRow wx.heap.size 2 1 (.slice A' N c') N (vals (pnL s0))) ∧ Below wx.heap.size wx w') := hid (fun wx => by have h := implReadPanel_any s0 wx ht; rw [hN] at h; exact h)
    obtain ⟨W, hW⟩ : ∃ W, pnW s0 = W := ⟨_, rfl⟩
    obtain ⟨H, hH⟩ : ∃ H, pnH s0 = H := ⟨_, rfl⟩
    obtain ⟨L, hL⟩ : ∃ L, pnL s0 = L := ⟨_, rfl⟩
    obtain ⟨bk, hb⟩ : ∃ b, pnO s0 = b := ⟨_, rfl⟩
    rw [hW, hH, hL, hb] at HSR HIR
    have hbb : (bk != bk) = false := by simp
    have hbc : (!(bk == bk)) = false := by simp
    clear ht hN hW hH hL hb
    go_enter Try.func8, Try.ntmps8
    go_wp2_with fail
    refine (HSR.out _).mono ?_
    rintro e w1 ⟨⟨A1, c1, rfl, ho1⟩, hb1⟩
    have Z1 : Hid (w.heap.size ≤ w1.heap.size) := hid (by have h := Below.size (hb1); (try simp only [World.size_alloc, World.size_drew] at h); omega)
    have HB1 : Hid (Below w.heap.size w w1) := hid (bstep (Below.refl _ _) hb1)
    have WR_1 : Hid (Rgn w1 (w.heap.size) (w1.heap.size) 2 1 (.slice A1 N c1) (N) (vals L)) := hid (Rgn.of ho1 (by simp) rfl)
    clear ho1
    clear hb1
    go_wp2_with fail
    refine (HIR.out _).mono ?_
    rintro e w2 ⟨⟨A2, c2, rfl, ho2⟩, hb2⟩
    have Z2 : Hid (w1.heap.size + 1 ≤ w2.heap.size) := hid (by have h := Below.size (hb2); (try simp only [World.size_alloc, World.size_drew] at h); omega)
    have WR_2 : Hid (Rgn w2 (w.heap.size) (w1.heap.size) 2 1 (.slice A1 N c1) (N) (vals L)) := hid (Rgn.keep (Rgn.alloc (WR_1.out) _) hb2)
    have KS2 : Hid (Box w2 (w1.heap.size) 39 #[.int .i64 W, .int .i64 H, .slice A1 N c1]) := hid (Box.keep (Box.new' _ _ _ _ (by simp)) hb2)
    have HB2 : Hid (Below w.heap.size w w2) := hid (bstep (bal (HB1.out) _) hb2)
    have GR_2 : Hid (Rgn w2 (w1.heap.size + 1) (w2.heap.size) 2 1 (.slice A2 N c2) (N) (vals L)) := hid (Rgn.of ho2 (by simp) rfl)
    clear ho2
    clear hb2
    obtain ⟨Sa, Sb, Sc⟩ := KS2.out.three
    have Sz := KS2.out.lt
    go_wp2_with fail
    refine (eqPanelR_any W H _ _ _ _ L N _ _ _ ((Rgn.alloc (GR_2.out) _)).1 ((Rgn.alloc (WR_2.out) _)).1 (by unfold maxLen; omega)).mono ?_
    rintro e w3 ⟨rfl, hb3⟩
    clear Sa Sb Sc Sz
    have Z3 : Hid (w2.heap.size + 1 ≤ w3.heap.size) := hid (by have h := Below.size (hb3); (try simp only [World.size_alloc, World.size_drew] at h); omega)
    have WR_3 : Hid (Rgn w3 (w.heap.size) (w1.heap.size) 2 1 (.slice A1 N c1) (N) (vals L)) := hid (Rgn.keep (Rgn.alloc (WR_2.out) _) hb3)
    have GR_3 : Hid (Rgn w3 (w1.heap.size + 1) (w2.heap.size) 2 1 (.slice A2 N c2) (N) (vals L)) := hid (Rgn.keep (Rgn.alloc (GR_2.out) _) hb3)
    have KS3 : Hid (Box w3 (w1.heap.size) 39 #[.int .i64 W, .int .i64 H, .slice A1 N c1]) := hid (Box.keep (Box.alloc (KS2.out) _) hb3)
    have KG3 : Hid (Box w3 (w2.heap.size) 39 #[.int .i64 W, .int .i64 H, .slice A2 N c2]) := hid (Box.keep (Box.new' _ _ _ _ (by simp)) hb3)
    have HB3 : Hid (Below w.heap.size w w3) := hid (bstep (bal (HB2.out) _) hb3)
    clear hb3
    obtain ⟨Sa, Sb, Sc⟩ := KS3.out.three
    have Sz := KS3.out.lt
    obtain ⟨Ga, Gb, Gc⟩ := KG3.out.three
    have Gz := KG3.out.lt
    go_wp2_with fail
    refine (markPanelR_any W H _ _ L N 1 _ _ _ (GR_3.out) (by omega)).mono ?_
    rintro e w4 ⟨rfl, hr4, hc4⟩
    clear Sa Sb Sc Sz Ga Gb Gc Gz
    have Z4 : Hid (w3.heap.size ≤ w4.heap.size) := hid (by have h := Chg.size (hc4); (try simp only [World.size_alloc, World.size_drew] at h); omega)
    have KS4 : Hid (Box w4 (w1.heap.size) 39 #[.int .i64 W, .int .i64 H, .slice A1 N c1]) := hid (Box.chg (KS3.out) hc4 (by have q1 := Z1.out; have q2 := Z2.out; have q3 := Z3.out; omega))
    have KG4 : Hid (Box w4 (w2.heap.size) 39 #[.int .i64 W, .int .i64 H, .slice A2 N c2]) := hid (Box.chg (KG3.out) hc4 (by have q1 := Z1.out; have q2 := Z2.out; have q3 := Z3.out; omega))
    have WR_4 : Hid (Rgn w4 (w.heap.size) (w1.heap.size) 2 1 (.slice A1 N c1) (N) (vals L)) := hid (Rgn.chg (WR_3.out) hc4 (by have q1 := Z1.out; have q2 := Z2.out; have q3 := Z3.out; omega))
    have HB4 : Hid (Below w.heap.size w w4) := hid (bchg (HB3.out) hc4 (by have q1 := Z1.out; have q2 := Z2.out; have q3 := Z3.out; omega))
    have GR_4 : Hid (Rgn w4 (w1.heap.size + 1) (w2.heap.size) 2 1 (.slice A2 N c2) (N) (vals (marks 1 N))) := hid hr4
    clear hr4 hc4
    obtain ⟨Sa, Sb, Sc⟩ := KS4.out.three
    have Sz := KS4.out.lt
    obtain ⟨Ga, Gb, Gc⟩ := KG4.out.three
    have Gz := KG4.out.lt
    go_wp2_with fail
    refine (heldPanelR_any W H _ _ 1 N _ _ _ (GR_4.out) (by omega)).mono ?_
    rintro e w5 ⟨rfl, hb5⟩
    clear Sa Sb Sc Sz Ga Gb Gc Gz
    have Z5 : Hid (w4.heap.size ≤ w5.heap.size) := hid (by have h := Below.size (hb5); (try simp only [World.size_alloc, World.size_drew] at h); omega)
    have WR_5 : Hid (Rgn w5 (w.heap.size) (w1.heap.size) 2 1 (.slice A1 N c1) (N) (vals L)) := hid (Rgn.keep (WR_4.out) hb5)
    have GR_5 : Hid (Rgn w5 (w1.heap.size + 1) (w2.heap.size) 2 1 (.slice A2 N c2) (N) (vals (marks 1 N))) := hid (Rgn.keep (GR_4.out) hb5)
    have KS5 : Hid (Box w5 (w1.heap.size) 39 #[.int .i64 W, .int .i64 H, .slice A1 N c1]) := hid (Box.keep (KS4.out) hb5)
    have KG5 : Hid (Box w5 (w2.heap.size) 39 #[.int .i64 W, .int .i64 H, .slice A2 N c2]) := hid (Box.keep (KG4.out) hb5)
    have HB5 : Hid (Below w.heap.size w w5) := hid (bstep (HB4.out) hb5)
    clear hb5
    obtain ⟨Sa, Sb, Sc⟩ := KS5.out.three
    have Sz := KS5.out.lt
    obtain ⟨Ga, Gb, Gc⟩ := KG5.out.three
    have Gz := KG5.out.lt
    go_wp2_with fail
    refine (HIR.out _).mono ?_
    rintro e w6 ⟨⟨A6, c6, rfl, ho6⟩, hb6⟩
    clear Sa Sb Sc Sz Ga Gb Gc Gz
    have Z6 : Hid (w5.heap.size ≤ w6.heap.size) := hid (by have h := Below.size (hb6); (try simp only [World.size_alloc, World.size_drew] at h); omega)
    have WR_6 : Hid (Rgn w6 (w.heap.size) (w1.heap.size) 2 1 (.slice A1 N c1) (N) (vals L)) := hid (Rgn.keep (WR_5.out) hb6)
    have GR_6 : Hid (Rgn w6 (w1.heap.size + 1) (w2.heap.size) 2 1 (.slice A2 N c2) (N) (vals (marks 1 N))) := hid (Rgn.keep (GR_5.out) hb6)
    have KS6 : Hid (Box w6 (w1.heap.size) 39 #[.int .i64 W, .int .i64 H, .slice A1 N c1]) := hid (Box.keep (KS5.out) hb6)
    have KG6 : Hid (Box w6 (w2.heap.size) 39 #[.int .i64 W, .int .i64 H, .slice A2 N c2]) := hid (Box.keep (KG5.out) hb6)
    have HB6 : Hid (Below w.heap.size w w6) := hid (bstep (HB5.out) hb6)
    have HR_6 : Hid (Rgn w6 (w5.heap.size) (w6.heap.size) 2 1 (.slice A6 N c6) (N) (vals L)) := hid (Rgn.of ho6 (by simp) rfl)
    clear ho6
    clear hb6
    obtain ⟨Sa, Sb, Sc⟩ := KS6.out.three
    have Sz := KS6.out.lt
    obtain ⟨Ga, Gb, Gc⟩ := KG6.out.three
    have Gz := KG6.out.lt
    go_wp2_with fail
    refine (eqPanelR_any W H _ _ _ _ L N _ _ _ ((Rgn.alloc (HR_6.out) _)).1 ((Rgn.alloc (WR_6.out) _)).1 (by unfold maxLen; omega)).mono ?_
    rintro e w7 ⟨rfl, hb7⟩
    clear Sa Sb Sc Sz Ga Gb Gc Gz
    have Z7 : Hid (w6.heap.size + 1 ≤ w7.heap.size) := hid (by have h := Below.size (hb7); (try simp only [World.size_alloc, World.size_drew] at h); omega)
    have WR_7 : Hid (Rgn w7 (w.heap.size) (w1.heap.size) 2 1 (.slice A1 N c1) (N) (vals L)) := hid (Rgn.keep (Rgn.alloc (WR_6.out) _) hb7)
    have GR_7 : Hid (Rgn w7 (w1.heap.size + 1) (w2.heap.size) 2 1 (.slice A2 N c2) (N) (vals (marks 1 N))) := hid (Rgn.keep (Rgn.alloc (GR_6.out) _) hb7)
    have HR_7 : Hid (Rgn w7 (w5.heap.size) (w6.heap.size) 2 1 (.slice A6 N c6) (N) (vals L)) := hid (Rgn.keep (Rgn.alloc (HR_6.out) _) hb7)
    have KS7 : Hid (Box w7 (w1.heap.size) 39 #[.int .i64 W, .int .i64 H, .slice A1 N c1]) := hid (Box.keep (Box.alloc (KS6.out) _) hb7)
    have KG7 : Hid (Box w7 (w2.heap.size) 39 #[.int .i64 W, .int .i64 H, .slice A2 N c2]) := hid (Box.keep (Box.alloc (KG6.out) _) hb7)
    have KHh7 : Hid (Box w7 (w6.heap.size) 39 #[.int .i64 W, .int .i64 H, .slice A6 N c6]) := hid (Box.keep (Box.new' _ _ _ _ (by simp)) hb7)
    have HB7 : Hid (Below w.heap.size w w7) := hid (bstep (bal (HB6.out) _) hb7)
    clear hb7
    obtain ⟨Sa, Sb, Sc⟩ := KS7.out.three
    have Sz := KS7.out.lt
    obtain ⟨Ga, Gb, Gc⟩ := KG7.out.three
    have Gz := KG7.out.lt
    obtain ⟨Hha, Hhb, Hhc⟩ := KHh7.out.three
    have Hhz := KHh7.out.lt
    go_wp2_with fail
    refine (heldPanelR_any W H _ _ 1 N _ _ _ (GR_7.out) (by omega)).mono ?_
    rintro e w8 ⟨rfl, hb8⟩
    clear Sa Sb Sc Sz Ga Gb Gc Gz Hha Hhb Hhc Hhz
    have Z8 : Hid (w7.heap.size ≤ w8.heap.size) := hid (by have h := Below.size (hb8); (try simp only [World.size_alloc, World.size_drew] at h); omega)
    have GR_8 : Hid (Rgn w8 (w1.heap.size + 1) (w2.heap.size) 2 1 (.slice A2 N c2) (N) (vals (marks 1 N))) := hid (Rgn.keep (GR_7.out) hb8)
    have KG8 : Hid (Box w8 (w2.heap.size) 39 #[.int .i64 W, .int .i64 H, .slice A2 N c2]) := hid (Box.keep (KG7.out) hb8)
    have HB8 : Hid (Below w.heap.size w w8) := hid (bstep (HB7.out) hb8)
    clear hb8
    obtain ⟨Ga, Gb, Gc⟩ := KG8.out.three
    have Gz := KG8.out.lt
    go_wp2_with fail
    go_ret
    exact ⟨rfl, (HB8.out)⟩
  · obtain ⟨n, hn⟩ : ∃ n, s0.size = n := ⟨_, rfl⟩
    have hng : (1048576 : Int) < (n : Int) := by omega
    clear ht
    go_enter Try.func8, Try.ntmps8
    go_wp2_with fail
    go_ret
    exact ⟨rfl, Below.refl _ _⟩
end Go.Proofs.Ytgcgaoblbhojnaa

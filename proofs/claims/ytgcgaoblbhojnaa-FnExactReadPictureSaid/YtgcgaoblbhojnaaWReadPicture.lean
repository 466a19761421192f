/- The walk of FnExactReadPicture. -/
import Derived.Test.YtgcgaoblbhojnaaRp
import Derived.Test.YtgcgaoblbhojnaaRg
import Derived.Test.YtgcgaoblbhojnaaAu
import Derived.Deep.RegionHeld3
namespace Go.Proofs.Ytgcgaoblbhojnaa
set_option linter.unusedSimpArgs false
set_option linter.unusedVariables false
open Go.ChangeShapes Go.WideShapes Go.ChangeAt Go.RowKit
set_option maxHeartbeats 4000000 in
set_option maxRecDepth 100000 in
theorem fnExactReadPicture_walk (w : World) (A0 : Option Addr) (c0 : Nat) (ss0 : List ByteArray) (hl0 : ss0.length ≤ maxLen) (hz0 : StrsR w w.heap.size A0 ss0) (hw0 : ∀ s ∈ ss0, s.size ≤ maxLen) :
    Calls Try.prog 9 #[.slice A0 ss0.length c0] w fun e w' => e = .returned (.bool true) ∧ Below w.heap.size w w' := by
  by_cases ht : totS ss0 ≤ 1048576
  · have hn : ss0.length ≤ 1048576 := by unfold totS at ht; omega
    have hs : ∀ s ∈ ss0, s.size ≤ 1048576 := fun s hm => by
      obtain ⟨i, hi, rfl⟩ := List.getElem_of_mem hm
      have := size_le_tot (List.getElem?_eq_getElem hi)
      omega
    have HS := hid hs
    have HT := hid ht
    have hng : ¬ (1048576 - (totS ss0 : Int) < 0) := by omega
    have hng1 : ¬ ((((1 + ss0.length : Nat)) : Int) < 0) := by omega
    have hle := rpN_le ss0
    have hng2 : ¬ ((((1 + rpN ss0 : Nat)) : Int) < 0) := by omega
    clear hs ht
    go_enter Try.func9, Try.ntmps9
    go_wp2_with fail
    refine (szStringS_any A0 c0 ss0 _ hz0 HT.out).mono ?_
    rintro e w' ⟨rfl, rfl⟩
    go_wp2_with fail
    refine (toStringS_any A0 c0 ss0 _ w.heap.size (hz0.below (Below.refl w.heap.size w)) (Below.refl w.heap.size w).size hn).mono ?_
    rintro e w1 ⟨⟨A1, c1, rfl, ho1⟩, hb1⟩
    have Z1 : Hid (w.heap.size ≤ w1.heap.size) := hid (by have h := Below.size (hb1); (try simp only [World.size_alloc, World.size_drew] at h); omega)
    have HB1 : Hid (Below w.heap.size w w1) := hid (bstep (Below.refl _ _) hb1)
    have SA_1 : Hid (Rgn w1 (w.heap.size) (w1.heap.size) 9 1 (.slice A1 ss0.length c1) (ss0.length) (strs ss0)) := hid (Rgn.of ho1 (by simp) rfl)
    clear ho1
    clear hb1
    go_wp2_with fail
    refine (specReadPicture_any _ _ ss0 _ (StrsR.own ((SA_1.out)).1) hn HS.out).mono ?_
    rintro e w2 ⟨⟨A2, c2, rfl, ho2⟩, hb2⟩
    have Z2 : Hid (w1.heap.size ≤ w2.heap.size) := hid (by have h := Below.size (hb2); (try simp only [World.size_alloc, World.size_drew] at h); omega)
    have SA_2 : Hid (Rgn w2 (w.heap.size) (w1.heap.size) 9 1 (.slice A1 ss0.length c1) (ss0.length) (strs ss0)) := hid (Rgn.keep (SA_1.out) hb2)
    have HB2 : Hid (Below w.heap.size w w2) := hid (bstep (HB1.out) hb2)
    have WR_2 : Hid (Rgn w2 (w1.heap.size) (w2.heap.size) 2 1 (.slice A2 (rpN ss0) c2) (rpN ss0) (vals (rpL ss0))) := hid (Rgn.of ho2 (by simp) rfl)
    clear ho2
    clear hb2
    go_wp2_with fail
    refine (toStringS_any A0 c0 ss0 _ w.heap.size (hz0.below (bal (HB2.out) _)) (bal (HB2.out) _).size hn).mono ?_
    rintro e w3 ⟨⟨A3, c3, rfl, ho3⟩, hb3⟩
    have Z3 : Hid (w2.heap.size + 1 ≤ w3.heap.size) := hid (by have h := Below.size (hb3); (try simp only [World.size_alloc, World.size_drew] at h); omega)
    have WR_3 : Hid (Rgn w3 (w1.heap.size) (w2.heap.size) 2 1 (.slice A2 (rpN ss0) c2) (rpN ss0) (vals (rpL ss0))) := hid (Rgn.keep (Rgn.alloc (WR_2.out) _) hb3)
    have KS3 : Hid (Box w3 (w2.heap.size) 39 #[.int .i64 (rpW ss0), .int .i64 (rpH ss0), .slice A2 (rpN ss0) c2]) := hid (Box.keep (Box.new' _ _ _ _ (by simp)) hb3)
    have HB3 : Hid (Below w.heap.size w w3) := hid (bstep (bal (HB2.out) _) hb3)
    have XA_3 : Hid (Rgn w3 (w2.heap.size + 1) (w3.heap.size) 9 1 (.slice A3 ss0.length c3) (ss0.length) (strs ss0)) := hid (Rgn.of ho3 (by simp) rfl)
    clear ho3
    clear hb3
    obtain ⟨Sa, Sb, Sc⟩ := KS3.out.three
    have Sz := KS3.out.lt
    go_wp2_with fail
    refine (implReadPicture_any _ _ ss0 _ (StrsR.own ((XA_3.out)).1) hn HS.out).mono ?_
    rintro e w4 ⟨⟨A4, c4, rfl, ho4⟩, hb4⟩
    clear Sa Sb Sc Sz
    have Z4 : Hid (w3.heap.size ≤ w4.heap.size) := hid (by have h := Below.size (hb4); (try simp only [World.size_alloc, World.size_drew] at h); omega)
    have WR_4 : Hid (Rgn w4 (w1.heap.size) (w2.heap.size) 2 1 (.slice A2 (rpN ss0) c2) (rpN ss0) (vals (rpL ss0))) := hid (Rgn.keep (WR_3.out) hb4)
    have XA_4 : Hid (Rgn w4 (w2.heap.size + 1) (w3.heap.size) 9 1 (.slice A3 ss0.length c3) (ss0.length) (strs ss0)) := hid (Rgn.keep (XA_3.out) hb4)
    have KS4 : Hid (Box w4 (w2.heap.size) 39 #[.int .i64 (rpW ss0), .int .i64 (rpH ss0), .slice A2 (rpN ss0) c2]) := hid (Box.keep (KS3.out) hb4)
    have HB4 : Hid (Below w.heap.size w w4) := hid (bstep (HB3.out) hb4)
    have GR_4 : Hid (Rgn w4 (w3.heap.size) (w4.heap.size) 2 1 (.slice A4 (rpN ss0) c4) (rpN ss0) (vals (rpL ss0))) := hid (Rgn.of ho4 (by simp) rfl)
    clear ho4
    clear hb4
    obtain ⟨Sa, Sb, Sc⟩ := KS4.out.three
    have Sz := KS4.out.lt
    go_wp2_with fail
    refine (eqPanelR_any (rpW ss0) (rpH ss0) _ _ _ _ (rpL ss0) (rpN ss0) _ _ _ ((Rgn.alloc (GR_4.out) _)).1 ((Rgn.alloc (WR_4.out) _)).1 (by unfold maxLen; omega)).mono ?_
    rintro e w5 ⟨rfl, hb5⟩
    clear Sa Sb Sc Sz
    have Z5 : Hid (w4.heap.size + 1 ≤ w5.heap.size) := hid (by have h := Below.size (hb5); (try simp only [World.size_alloc, World.size_drew] at h); omega)
    have WR_5 : Hid (Rgn w5 (w1.heap.size) (w2.heap.size) 2 1 (.slice A2 (rpN ss0) c2) (rpN ss0) (vals (rpL ss0))) := hid (Rgn.keep (Rgn.alloc (WR_4.out) _) hb5)
    have XA_5 : Hid (Rgn w5 (w2.heap.size + 1) (w3.heap.size) 9 1 (.slice A3 ss0.length c3) (ss0.length) (strs ss0)) := hid (Rgn.keep (Rgn.alloc (XA_4.out) _) hb5)
    have GR_5 : Hid (Rgn w5 (w3.heap.size) (w4.heap.size) 2 1 (.slice A4 (rpN ss0) c4) (rpN ss0) (vals (rpL ss0))) := hid (Rgn.keep (Rgn.alloc (GR_4.out) _) hb5)
    have KS5 : Hid (Box w5 (w2.heap.size) 39 #[.int .i64 (rpW ss0), .int .i64 (rpH ss0), .slice A2 (rpN ss0) c2]) := hid (Box.keep (Box.alloc (KS4.out) _) hb5)
    have KG5 : Hid (Box w5 (w4.heap.size) 39 #[.int .i64 (rpW ss0), .int .i64 (rpH ss0), .slice A4 (rpN ss0) c4]) := hid (Box.keep (Box.new' _ _ _ _ (by simp)) hb5)
    have HB5 : Hid (Below w.heap.size w w5) := hid (bstep (bal (HB4.out) _) hb5)
    clear hb5
    obtain ⟨Sa, Sb, Sc⟩ := KS5.out.three
    have Sz := KS5.out.lt
    obtain ⟨Ga, Gb, Gc⟩ := KG5.out.three
    have Gz := KG5.out.lt
    go_wp2_with fail
    refine (toStringS_any A0 c0 ss0 _ w.heap.size (hz0.below (HB5.out)) (HB5.out).size hn).mono ?_
    rintro e w6 ⟨⟨A6, c6, rfl, ho6⟩, hb6⟩
    clear Sa Sb Sc Sz Ga Gb Gc Gz
    have Z6 : Hid (w5.heap.size ≤ w6.heap.size) := hid (by have h := Below.size (hb6); (try simp only [World.size_alloc, World.size_drew] at h); omega)
    have WR_6 : Hid (Rgn w6 (w1.heap.size) (w2.heap.size) 2 1 (.slice A2 (rpN ss0) c2) (rpN ss0) (vals (rpL ss0))) := hid (Rgn.keep (WR_5.out) hb6)
    have XA_6 : Hid (Rgn w6 (w2.heap.size + 1) (w3.heap.size) 9 1 (.slice A3 ss0.length c3) (ss0.length) (strs ss0)) := hid (Rgn.keep (XA_5.out) hb6)
    have GR_6 : Hid (Rgn w6 (w3.heap.size) (w4.heap.size) 2 1 (.slice A4 (rpN ss0) c4) (rpN ss0) (vals (rpL ss0))) := hid (Rgn.keep (GR_5.out) hb6)
    have KS6 : Hid (Box w6 (w2.heap.size) 39 #[.int .i64 (rpW ss0), .int .i64 (rpH ss0), .slice A2 (rpN ss0) c2]) := hid (Box.keep (KS5.out) hb6)
    have KG6 : Hid (Box w6 (w4.heap.size) 39 #[.int .i64 (rpW ss0), .int .i64 (rpH ss0), .slice A4 (rpN ss0) c4]) := hid (Box.keep (KG5.out) hb6)
    have HB6 : Hid (Below w.heap.size w w6) := hid (bstep (HB5.out) hb6)
    have TB_6 : Hid (Rgn w6 (w5.heap.size) (w6.heap.size) 9 1 (.slice A6 ss0.length c6) (ss0.length) (strs ss0)) := hid (Rgn.of ho6 (by simp) rfl)
    clear ho6
    clear hb6
    obtain ⟨Sa, Sb, Sc⟩ := KS6.out.three
    have Sz := KS6.out.lt
    obtain ⟨Ga, Gb, Gc⟩ := KG6.out.three
    have Gz := KG6.out.lt
    go_wp2_with fail
    refine (eqStringS_any _ _ ss0 ss0.length _ _ _ ((XA_6.out)).1 ((TB_6.out)).1 hl0).mono ?_
    rintro e w7 ⟨rfl, hb7⟩
    clear Sa Sb Sc Sz Ga Gb Gc Gz
    have Z7 : Hid (w6.heap.size ≤ w7.heap.size) := hid (by have h := Below.size (hb7); (try simp only [World.size_alloc, World.size_drew] at h); omega)
    have WR_7 : Hid (Rgn w7 (w1.heap.size) (w2.heap.size) 2 1 (.slice A2 (rpN ss0) c2) (rpN ss0) (vals (rpL ss0))) := hid (Rgn.keep (WR_6.out) hb7)
    have XA_7 : Hid (Rgn w7 (w2.heap.size + 1) (w3.heap.size) 9 1 (.slice A3 ss0.length c3) (ss0.length) (strs ss0)) := hid (Rgn.keep (XA_6.out) hb7)
    have GR_7 : Hid (Rgn w7 (w3.heap.size) (w4.heap.size) 2 1 (.slice A4 (rpN ss0) c4) (rpN ss0) (vals (rpL ss0))) := hid (Rgn.keep (GR_6.out) hb7)
    have TB_7 : Hid (Rgn w7 (w5.heap.size) (w6.heap.size) 9 1 (.slice A6 ss0.length c6) (ss0.length) (strs ss0)) := hid (Rgn.keep (TB_6.out) hb7)
    have KS7 : Hid (Box w7 (w2.heap.size) 39 #[.int .i64 (rpW ss0), .int .i64 (rpH ss0), .slice A2 (rpN ss0) c2]) := hid (Box.keep (KS6.out) hb7)
    have KG7 : Hid (Box w7 (w4.heap.size) 39 #[.int .i64 (rpW ss0), .int .i64 (rpH ss0), .slice A4 (rpN ss0) c4]) := hid (Box.keep (KG6.out) hb7)
    have HB7 : Hid (Below w.heap.size w w7) := hid (bstep (HB6.out) hb7)
    clear hb7
    obtain ⟨Sa, Sb, Sc⟩ := KS7.out.three
    have Sz := KS7.out.lt
    obtain ⟨Ga, Gb, Gc⟩ := KG7.out.three
    have Gz := KG7.out.lt
    go_wp2_with fail
    refine (markStringS_any _ ss0 ss0.length 1 _ _ _ (XA_7.out) (by decide) (by omega)).mono ?_
    rintro e w8 ⟨rfl, hr8, hc8⟩
    clear Sa Sb Sc Sz Ga Gb Gc Gz
    have Z8 : Hid (w7.heap.size ≤ w8.heap.size) := hid (by have h := Chg.size (hc8); (try simp only [World.size_alloc, World.size_drew] at h); omega)
    have KS8 : Hid (Box w8 (w2.heap.size) 39 #[.int .i64 (rpW ss0), .int .i64 (rpH ss0), .slice A2 (rpN ss0) c2]) := hid (Box.chg (KS7.out) hc8 (by have q1 := Z1.out; have q2 := Z2.out; have q3 := Z3.out; have q4 := Z4.out; have q5 := Z5.out; have q6 := Z6.out; have q7 := Z7.out; omega))
    have KG8 : Hid (Box w8 (w4.heap.size) 39 #[.int .i64 (rpW ss0), .int .i64 (rpH ss0), .slice A4 (rpN ss0) c4]) := hid (Box.chg (KG7.out) hc8 (by have q1 := Z1.out; have q2 := Z2.out; have q3 := Z3.out; have q4 := Z4.out; have q5 := Z5.out; have q6 := Z6.out; have q7 := Z7.out; omega))
    have WR_8 : Hid (Rgn w8 (w1.heap.size) (w2.heap.size) 2 1 (.slice A2 (rpN ss0) c2) (rpN ss0) (vals (rpL ss0))) := hid (Rgn.chg (WR_7.out) hc8 (by have q1 := Z1.out; have q2 := Z2.out; have q3 := Z3.out; have q4 := Z4.out; have q5 := Z5.out; have q6 := Z6.out; have q7 := Z7.out; omega))
    have GR_8 : Hid (Rgn w8 (w3.heap.size) (w4.heap.size) 2 1 (.slice A4 (rpN ss0) c4) (rpN ss0) (vals (rpL ss0))) := hid (Rgn.chg (GR_7.out) hc8 (by have q1 := Z1.out; have q2 := Z2.out; have q3 := Z3.out; have q4 := Z4.out; have q5 := Z5.out; have q6 := Z6.out; have q7 := Z7.out; omega))
    have HB8 : Hid (Below w.heap.size w w8) := hid (bchg (HB7.out) hc8 (by have q1 := Z1.out; have q2 := Z2.out; have q3 := Z3.out; have q4 := Z4.out; have q5 := Z5.out; have q6 := Z6.out; have q7 := Z7.out; omega))
    have XA_8 : Hid (Rgn w8 (w2.heap.size + 1) (w3.heap.size) 9 1 (.slice A3 ss0.length c3) (ss0.length) (strs (markTs 1 ss0.length))) := hid hr8
    clear hr8 hc8
    obtain ⟨Sa, Sb, Sc⟩ := KS8.out.three
    have Sz := KS8.out.lt
    obtain ⟨Ga, Gb, Gc⟩ := KG8.out.three
    have Gz := KG8.out.lt
    go_wp2_with fail
    refine (eqPanelR_any (rpW ss0) (rpH ss0) _ _ _ _ (rpL ss0) (rpN ss0) _ _ _ ((GR_8.out)).1 ((WR_8.out)).1 (by unfold maxLen; omega)).mono ?_
    rintro e w9 ⟨rfl, hb9⟩
    clear Sa Sb Sc Sz Ga Gb Gc Gz
    have Z9 : Hid (w8.heap.size ≤ w9.heap.size) := hid (by have h := Below.size (hb9); (try simp only [World.size_alloc, World.size_drew] at h); omega)
    have WR_9 : Hid (Rgn w9 (w1.heap.size) (w2.heap.size) 2 1 (.slice A2 (rpN ss0) c2) (rpN ss0) (vals (rpL ss0))) := hid (Rgn.keep (WR_8.out) hb9)
    have GR_9 : Hid (Rgn w9 (w3.heap.size) (w4.heap.size) 2 1 (.slice A4 (rpN ss0) c4) (rpN ss0) (vals (rpL ss0))) := hid (Rgn.keep (GR_8.out) hb9)
    have KS9 : Hid (Box w9 (w2.heap.size) 39 #[.int .i64 (rpW ss0), .int .i64 (rpH ss0), .slice A2 (rpN ss0) c2]) := hid (Box.keep (KS8.out) hb9)
    have KG9 : Hid (Box w9 (w4.heap.size) 39 #[.int .i64 (rpW ss0), .int .i64 (rpH ss0), .slice A4 (rpN ss0) c4]) := hid (Box.keep (KG8.out) hb9)
    have HB9 : Hid (Below w.heap.size w w9) := hid (bstep (HB8.out) hb9)
    clear hb9
    obtain ⟨Sa, Sb, Sc⟩ := KS9.out.three
    have Sz := KS9.out.lt
    obtain ⟨Ga, Gb, Gc⟩ := KG9.out.three
    have Gz := KG9.out.lt
    go_wp2_with fail
    refine (markPanelR_any (rpW ss0) (rpH ss0) _ _ (rpL ss0) (rpN ss0) 1 _ _ _ (GR_9.out) (by omega)).mono ?_
    rintro e w10 ⟨rfl, hr10, hc10⟩
    clear Sa Sb Sc Sz Ga Gb Gc Gz
    have Z10 : Hid (w9.heap.size ≤ w10.heap.size) := hid (by have h := Chg.size (hc10); (try simp only [World.size_alloc, World.size_drew] at h); omega)
    have KS10 : Hid (Box w10 (w2.heap.size) 39 #[.int .i64 (rpW ss0), .int .i64 (rpH ss0), .slice A2 (rpN ss0) c2]) := hid (Box.chg (KS9.out) hc10 (by have q1 := Z1.out; have q2 := Z2.out; have q3 := Z3.out; have q4 := Z4.out; have q5 := Z5.out; have q6 := Z6.out; have q7 := Z7.out; have q8 := Z8.out; have q9 := Z9.out; omega))
    have KG10 : Hid (Box w10 (w4.heap.size) 39 #[.int .i64 (rpW ss0), .int .i64 (rpH ss0), .slice A4 (rpN ss0) c4]) := hid (Box.chg (KG9.out) hc10 (by have q1 := Z1.out; have q2 := Z2.out; have q3 := Z3.out; have q4 := Z4.out; have q5 := Z5.out; have q6 := Z6.out; have q7 := Z7.out; have q8 := Z8.out; have q9 := Z9.out; omega))
    have WR_10 : Hid (Rgn w10 (w1.heap.size) (w2.heap.size) 2 1 (.slice A2 (rpN ss0) c2) (rpN ss0) (vals (rpL ss0))) := hid (Rgn.chg (WR_9.out) hc10 (by have q1 := Z1.out; have q2 := Z2.out; have q3 := Z3.out; have q4 := Z4.out; have q5 := Z5.out; have q6 := Z6.out; have q7 := Z7.out; have q8 := Z8.out; have q9 := Z9.out; omega))
    have HB10 : Hid (Below w.heap.size w w10) := hid (bchg (HB9.out) hc10 (by have q1 := Z1.out; have q2 := Z2.out; have q3 := Z3.out; have q4 := Z4.out; have q5 := Z5.out; have q6 := Z6.out; have q7 := Z7.out; have q8 := Z8.out; have q9 := Z9.out; omega))
    have GR_10 : Hid (Rgn w10 (w3.heap.size) (w4.heap.size) 2 1 (.slice A4 (rpN ss0) c4) (rpN ss0) (vals (marks 1 (rpN ss0)))) := hid hr10
    clear hr10 hc10
    obtain ⟨Sa, Sb, Sc⟩ := KS10.out.three
    have Sz := KS10.out.lt
    obtain ⟨Ga, Gb, Gc⟩ := KG10.out.three
    have Gz := KG10.out.lt
    go_wp2_with fail
    refine (heldPanelR_any (rpW ss0) (rpH ss0) _ _ 1 (rpN ss0) _ _ _ (GR_10.out) (by omega)).mono ?_
    rintro e w11 ⟨rfl, hb11⟩
    clear Sa Sb Sc Sz Ga Gb Gc Gz
    have Z11 : Hid (w10.heap.size ≤ w11.heap.size) := hid (by have h := Below.size (hb11); (try simp only [World.size_alloc, World.size_drew] at h); omega)
    have WR_11 : Hid (Rgn w11 (w1.heap.size) (w2.heap.size) 2 1 (.slice A2 (rpN ss0) c2) (rpN ss0) (vals (rpL ss0))) := hid (Rgn.keep (WR_10.out) hb11)
    have GR_11 : Hid (Rgn w11 (w3.heap.size) (w4.heap.size) 2 1 (.slice A4 (rpN ss0) c4) (rpN ss0) (vals (marks 1 (rpN ss0)))) := hid (Rgn.keep (GR_10.out) hb11)
    have KS11 : Hid (Box w11 (w2.heap.size) 39 #[.int .i64 (rpW ss0), .int .i64 (rpH ss0), .slice A2 (rpN ss0) c2]) := hid (Box.keep (KS10.out) hb11)
    have KG11 : Hid (Box w11 (w4.heap.size) 39 #[.int .i64 (rpW ss0), .int .i64 (rpH ss0), .slice A4 (rpN ss0) c4]) := hid (Box.keep (KG10.out) hb11)
    have HB11 : Hid (Below w.heap.size w w11) := hid (bstep (HB10.out) hb11)
    clear hb11
    obtain ⟨Sa, Sb, Sc⟩ := KS11.out.three
    have Sz := KS11.out.lt
    obtain ⟨Ga, Gb, Gc⟩ := KG11.out.three
    have Gz := KG11.out.lt
    go_wp2_with fail
    refine (toStringS_any A0 c0 ss0 _ w.heap.size (hz0.below (HB11.out)) (HB11.out).size hn).mono ?_
    rintro e w12 ⟨⟨A12, c12, rfl, ho12⟩, hb12⟩
    clear Sa Sb Sc Sz Ga Gb Gc Gz
    have Z12 : Hid (w11.heap.size ≤ w12.heap.size) := hid (by have h := Below.size (hb12); (try simp only [World.size_alloc, World.size_drew] at h); omega)
    have WR_12 : Hid (Rgn w12 (w1.heap.size) (w2.heap.size) 2 1 (.slice A2 (rpN ss0) c2) (rpN ss0) (vals (rpL ss0))) := hid (Rgn.keep (WR_11.out) hb12)
    have GR_12 : Hid (Rgn w12 (w3.heap.size) (w4.heap.size) 2 1 (.slice A4 (rpN ss0) c4) (rpN ss0) (vals (marks 1 (rpN ss0)))) := hid (Rgn.keep (GR_11.out) hb12)
    have KS12 : Hid (Box w12 (w2.heap.size) 39 #[.int .i64 (rpW ss0), .int .i64 (rpH ss0), .slice A2 (rpN ss0) c2]) := hid (Box.keep (KS11.out) hb12)
    have KG12 : Hid (Box w12 (w4.heap.size) 39 #[.int .i64 (rpW ss0), .int .i64 (rpH ss0), .slice A4 (rpN ss0) c4]) := hid (Box.keep (KG11.out) hb12)
    have HB12 : Hid (Below w.heap.size w w12) := hid (bstep (HB11.out) hb12)
    have HA_12 : Hid (Rgn w12 (w11.heap.size) (w12.heap.size) 9 1 (.slice A12 ss0.length c12) (ss0.length) (strs ss0)) := hid (Rgn.of ho12 (by simp) rfl)
    clear ho12
    clear hb12
    obtain ⟨Sa, Sb, Sc⟩ := KS12.out.three
    have Sz := KS12.out.lt
    obtain ⟨Ga, Gb, Gc⟩ := KG12.out.three
    have Gz := KG12.out.lt
    go_wp2_with fail
    refine (implReadPicture_any _ _ ss0 _ (StrsR.own ((HA_12.out)).1) hn HS.out).mono ?_
    rintro e w13 ⟨⟨A13, c13, rfl, ho13⟩, hb13⟩
    clear Sa Sb Sc Sz Ga Gb Gc Gz
    have Z13 : Hid (w12.heap.size ≤ w13.heap.size) := hid (by have h := Below.size (hb13); (try simp only [World.size_alloc, World.size_drew] at h); omega)
    have WR_13 : Hid (Rgn w13 (w1.heap.size) (w2.heap.size) 2 1 (.slice A2 (rpN ss0) c2) (rpN ss0) (vals (rpL ss0))) := hid (Rgn.keep (WR_12.out) hb13)
    have GR_13 : Hid (Rgn w13 (w3.heap.size) (w4.heap.size) 2 1 (.slice A4 (rpN ss0) c4) (rpN ss0) (vals (marks 1 (rpN ss0)))) := hid (Rgn.keep (GR_12.out) hb13)
    have HA_13 : Hid (Rgn w13 (w11.heap.size) (w12.heap.size) 9 1 (.slice A12 ss0.length c12) (ss0.length) (strs ss0)) := hid (Rgn.keep (HA_12.out) hb13)
    have KS13 : Hid (Box w13 (w2.heap.size) 39 #[.int .i64 (rpW ss0), .int .i64 (rpH ss0), .slice A2 (rpN ss0) c2]) := hid (Box.keep (KS12.out) hb13)
    have KG13 : Hid (Box w13 (w4.heap.size) 39 #[.int .i64 (rpW ss0), .int .i64 (rpH ss0), .slice A4 (rpN ss0) c4]) := hid (Box.keep (KG12.out) hb13)
    have HB13 : Hid (Below w.heap.size w w13) := hid (bstep (HB12.out) hb13)
    have HR_13 : Hid (Rgn w13 (w12.heap.size) (w13.heap.size) 2 1 (.slice A13 (rpN ss0) c13) (rpN ss0) (vals (rpL ss0))) := hid (Rgn.of ho13 (by simp) rfl)
    clear ho13
    clear hb13
    obtain ⟨Sa, Sb, Sc⟩ := KS13.out.three
    have Sz := KS13.out.lt
    obtain ⟨Ga, Gb, Gc⟩ := KG13.out.three
    have Gz := KG13.out.lt
    go_wp2_with fail
    refine (eqPanelR_any (rpW ss0) (rpH ss0) _ _ _ _ (rpL ss0) (rpN ss0) _ _ _ ((Rgn.alloc (HR_13.out) _)).1 ((Rgn.alloc (WR_13.out) _)).1 (by unfold maxLen; omega)).mono ?_
    rintro e w14 ⟨rfl, hb14⟩
    clear Sa Sb Sc Sz Ga Gb Gc Gz
    have Z14 : Hid (w13.heap.size + 1 ≤ w14.heap.size) := hid (by have h := Below.size (hb14); (try simp only [World.size_alloc, World.size_drew] at h); omega)
    have WR_14 : Hid (Rgn w14 (w1.heap.size) (w2.heap.size) 2 1 (.slice A2 (rpN ss0) c2) (rpN ss0) (vals (rpL ss0))) := hid (Rgn.keep (Rgn.alloc (WR_13.out) _) hb14)
    have GR_14 : Hid (Rgn w14 (w3.heap.size) (w4.heap.size) 2 1 (.slice A4 (rpN ss0) c4) (rpN ss0) (vals (marks 1 (rpN ss0)))) := hid (Rgn.keep (Rgn.alloc (GR_13.out) _) hb14)
    have HR_14 : Hid (Rgn w14 (w12.heap.size) (w13.heap.size) 2 1 (.slice A13 (rpN ss0) c13) (rpN ss0) (vals (rpL ss0))) := hid (Rgn.keep (Rgn.alloc (HR_13.out) _) hb14)
    have KS14 : Hid (Box w14 (w2.heap.size) 39 #[.int .i64 (rpW ss0), .int .i64 (rpH ss0), .slice A2 (rpN ss0) c2]) := hid (Box.keep (Box.alloc (KS13.out) _) hb14)
    have KG14 : Hid (Box w14 (w4.heap.size) 39 #[.int .i64 (rpW ss0), .int .i64 (rpH ss0), .slice A4 (rpN ss0) c4]) := hid (Box.keep (Box.alloc (KG13.out) _) hb14)
    have KHh14 : Hid (Box w14 (w13.heap.size) 39 #[.int .i64 (rpW ss0), .int .i64 (rpH ss0), .slice A13 (rpN ss0) c13]) := hid (Box.keep (Box.new' _ _ _ _ (by simp)) hb14)
    have HB14 : Hid (Below w.heap.size w w14) := hid (bstep (bal (HB13.out) _) hb14)
    clear hb14
    obtain ⟨Sa, Sb, Sc⟩ := KS14.out.three
    have Sz := KS14.out.lt
    obtain ⟨Ga, Gb, Gc⟩ := KG14.out.three
    have Gz := KG14.out.lt
    obtain ⟨Hha, Hhb, Hhc⟩ := KHh14.out.three
    have Hhz := KHh14.out.lt
    go_wp2_with fail
    refine (heldPanelR_any (rpW ss0) (rpH ss0) _ _ 1 (rpN ss0) _ _ _ (GR_14.out) (by omega)).mono ?_
    rintro e w15 ⟨rfl, hb15⟩
    clear Sa Sb Sc Sz Ga Gb Gc Gz Hha Hhb Hhc Hhz
    have Z15 : Hid (w14.heap.size ≤ w15.heap.size) := hid (by have h := Below.size (hb15); (try simp only [World.size_alloc, World.size_drew] at h); omega)
    have GR_15 : Hid (Rgn w15 (w3.heap.size) (w4.heap.size) 2 1 (.slice A4 (rpN ss0) c4) (rpN ss0) (vals (marks 1 (rpN ss0)))) := hid (Rgn.keep (GR_14.out) hb15)
    have KG15 : Hid (Box w15 (w4.heap.size) 39 #[.int .i64 (rpW ss0), .int .i64 (rpH ss0), .slice A4 (rpN ss0) c4]) := hid (Box.keep (KG14.out) hb15)
    have HB15 : Hid (Below w.heap.size w w15) := hid (bstep (HB14.out) hb15)
    clear hb15
    obtain ⟨Ga, Gb, Gc⟩ := KG15.out.three
    have Gz := KG15.out.lt
    go_wp2_with fail
    go_ret
    exact ⟨rfl, (HB15.out)⟩
  · have ht' : 1048576 < totS ss0 := by omega
    clear ht
    go_enter Try.func9, Try.ntmps9
    go_wp2_with fail
    refine (szStringS_big A0 c0 ss0 _ hz0 ht' hl0 hw0).mono ?_
    rintro e w' ⟨rfl, rfl⟩
    go_wp2_with fail
    go_ret
    exact ⟨rfl, Below.refl _ _⟩
end Go.Proofs.Ytgcgaoblbhojnaa

/- Merged texts: WFnPictures, Rk. -/
import Derived.Test.YtgcgaoblbhojnaaFnPicturesM5
import Derived.Test.YtgcgaoblbhojnaaFnPicturesM3
import Derived.Test.YtgcgaoblbhojnaaFnPicturesM6
import Derived.Test.YtgcgaoblbhojnaaPs
import Derived.Test.YtgcgaoblbhojnaaVp
import Derived.Lib.SmallJoins
import Derived.ChangeOld
namespace Go.Proofs.Ytgcgaoblbhojnaa
set_option linter.unusedSimpArgs false
set_option linter.unusedVariables false
open Go.ChangeShapes Go.WideShapes Go.ChangeAt Go.RowKit
theorem pnN_le9 (s : ByteArray) : pnN s ≤ 112 := by
  unfold pnN pnL
  split
  · rename_i h
    unfold pnO at h
    simp only [Bool.and_eq_true] at h
    have hv := h.2
    have h1 := valid_len hv
    have h2 := inner_le (valid_sides hv).1 (valid_sides hv).2
    omega
  · simp
theorem samB_self (W H : Int) (zs : List Int) : samB W H W H zs zs = true := by simp [samB]
theorem ppL_len9 (W H : Int) (zs : List Int) : (ppL W H zs).length = ppN W H zs := by unfold ppL ppN; split <;> simp [picS_length]
theorem pn_empty : pnO ⟨#[]⟩ = false := by
  have h : (byteL (⟨#[]⟩ : ByteArray)) = [] := rfl
  unfold pnO prG
  rw [h]
  simp
theorem tx_some {W H : Int} {zs : List Int} : txS W H zs ≠ ⟨#[]⟩ := by
  intro h
  have h1 := tx_bytes W H zs
  rw [h] at h1
  have h2 := congrArg List.length h1
  have h3 : (byteL (⟨#[]⟩ : ByteArray)).length = 0 := rfl
  rw [h3] at h2
  simp at h2
theorem ptx_size (W H : Int) (zs : List Int) (h : zs.length ≤ 200) : (ptxS W H zs).size ≤ 1000 := by
  unfold ptxS
  split
  · rw [← byteL_length, tx_bytes, List.length_append, List.length_append, List.length_append, List.length_append, List.length_map]
    have h3 := decL_len W
    have h4 := decL_len H
    simp
    omega
  · decide
theorem fnm_some {k : Int} (h : 0 ≤ k ∧ k ≤ 5) : fnm k ≠ ⟨#[]⟩ := by
  have h' : k = 0 ∨ k = 1 ∨ k = 2 ∨ k = 3 ∨ k = 4 ∨ k = 5 := by omega
  rcases h' with rfl | rfl | rfl | rfl | rfl | rfl <;> decide
theorem sizes_le {ss : List ByteArray} {m : Nat} (h : ∀ s ∈ ss, s.size ≤ m) (hm : m ≤ 1048576) : ∀ s ∈ ss, s.size ≤ 1048576 := fun s hs => Nat.le_trans (h s hs) hm
/-- A valid panel's text and picture are read back; of a panel that is not valid there is none. -/
theorem pan_yes {W H : Int} {zs : List Int} (hv : validB W H zs = true) : ppC W H zs = 0 ∧ ptxS W H zs = txS W H zs ∧ (pnO (ptxS W H zs) = true ∧ pnW (ptxS W H zs) = W ∧ pnH (ptxS W H zs) = H ∧ pnL (ptxS W H zs) = zs) ∧ (rpW (ppL W H zs) = W ∧ rpH (ppL W H zs) = H ∧ rpL (ppL W H zs) = zs ∧ rpC (ppL W H zs) = 0) := by
  have e1 : ptxS W H zs = txS W H zs := by unfold ptxS; rw [if_pos hv]
  obtain ⟨a1, a2, a3, a4, a5⟩ := text_read hv
  obtain ⟨b1, b2, b3, b4, b5, b6⟩ := pic_read hv
  rw [e1]
  exact ⟨by unfold ppC; rw [if_pos hv], rfl, ⟨a1, a2, a3, a4⟩, b2, b3, b5, b6⟩
theorem pan_no {W H : Int} {zs : List Int} (hv : validB W H zs = false) : ppC W H zs = 1 ∧ ptxS W H zs = ⟨#[]⟩ ∧ pnO (ptxS W H zs) = false := by
  have e1 : ptxS W H zs = ⟨#[]⟩ := by unfold ptxS; rw [hv]; rfl
  rw [e1]
  exact ⟨by unfold ppC; rw [hv]; rfl, rfl, pn_empty⟩
theorem pic_size {W H : Int} {zs : List Int} (hv : validB W H zs = true) : ∀ s ∈ ppL W H zs, s.size ≤ 17 := by
  intro s hs
  unfold ppL at hs
  rw [if_pos hv] at hs
  simp only [picS, List.mem_map] at hs
  obtain ⟨y, _, rfl⟩ := hs
  rw [size_nums, mkRow_length]
  have := side_bd (valid_sides hv).1
  omega
set_option maxRecDepth 100000 in
set_option maxHeartbeats 8000000 in
theorem fnPictures_walk (w : World) (A0 : Option Addr) (c0 : Nat) (bs0 : List Int) (hl0 : bs0.length ≤ maxLen) (hz0 : BytesR w w.heap.size A0 bs0) (_ : True)
    : Calls Try.prog 12 #[.slice A0 bs0.length c0] w fun e w' => e = .returned (.bool true) ∧ Below w.heap.size w w' := by
  obtain ⟨n0, hn0⟩ : ∃ n, bs0.length = n := ⟨_, rfl⟩
  rw [hn0] at hl0 ⊢
  have HN0 := hid hn0
  have HZ0 := hid hz0
  clear hn0 hz0
  by_cases hbig : (4096 : Int) < (n0 : Int)
  · have HBG := hid hbig
    clear hbig
    go_enter Try.func12, Try.ntmps12
    go_wp2_with fail
    refine (calls_bool (f6big_any A0 n0 c0 w hl0) (decide_eq_true HBG.out)).mono ?_
    rintro e w' ⟨rfl, rfl⟩
    go_wp2_with fail
    go_ret
    exact ⟨rfl, Below.refl _ _⟩
  have hn5 : n0 ≤ 5000 := by omega
  have HBG := hid hbig
  clear hbig
  go_enter Try.func12, Try.ntmps12
  go_wp2_with fail
  refine (calls_bool (f6big_any A0 n0 c0 w hl0) (decide_eq_false (show ¬ (4096 : Int) < (n0 : Int) by have := HBG.out; omega))).mono ?_
  rintro e w' ⟨rfl, rfl⟩
  go_wp2_with fail
  refine (DrawPanelPicture_any A0 n0 c0 bs0 w HN0.out HZ0.out hn5).mono ?_
  rintro e w1 ⟨W1, H1, zs1, A1, c1, ⟨wW1, wH1, hzl1⟩, rfl, ho, hb⟩
  have hlz1 : zs1.length ≤ maxLen := by unfold maxLen; omega
  clear wW1 wH1
  have O11 : Hid (OwnI w1 w.heap.size (.slice A1 zs1.length c1) zs1) := hid ho
  have HB1 : Hid (Below w.heap.size w w1) := hid hb
  clear ho hb
  obtain ⟨m, hm⟩ : ∃ m, ppC W1 H1 zs1 = m := ⟨_, rfl⟩
  obtain ⟨sg, hsg⟩ : ∃ ss, ppL W1 H1 zs1 = ss := ⟨_, rfl⟩
  obtain ⟨ng, hng⟩ : ∃ n, ppN W1 H1 zs1 = n := ⟨_, rfl⟩
  obtain ⟨tx, htx⟩ : ∃ q, ptxS W1 H1 zs1 = q := ⟨_, rfl⟩
  have HG := hid (And.intro hng (And.intro hsg hm))
  have HTX := hid htx
  have HGL := hid (show sg.length = ng by rw [← hsg, ← hng]; exact ppL_len9 _ _ _)
  have hg17 : ng ≤ 17 := by rw [← hng]; exact ppN_le _ _ _
  have htz : tx.size ≤ 1048576 := by have := ptx_size W1 H1 zs1 hzl1; rw [htx] at this; omega
  have HTZ := hid htz
  obtain ⟨WR, h1⟩ : ∃ q, pnW tx = q := ⟨_, rfl⟩
  obtain ⟨HR, h2⟩ : ∃ q, pnH tx = q := ⟨_, rfl⟩
  obtain ⟨zsR, h3⟩ : ∃ q, pnL tx = q := ⟨_, rfl⟩
  obtain ⟨ro, h4⟩ : ∃ q, pnO tx = q := ⟨_, rfl⟩
  have h5 : pnN tx = zsR.length := by unfold pnN; rw [h3]
  have HPR := hid (And.intro h1 (And.intro h2 (And.intro h3 (And.intro h4 h5))))
  have hbt : (tx != tx) = false := bne_str tx
  have hbo : (ro != ro) = false := by cases ro <;> rfl
  clear hm hsg hng htx htz h1 h2 h3 h4 h5
  go_wp2_with fail
  obtain ⟨w2, hw2⟩ : ∃ zz : World, zz = w1.alloc (.cells #[.int .i64 W1, .int .i64 H1, .slice A1 zs1.length c1] 39) := ⟨_, rfl⟩
  rw [← hw2]
  have O12 : Hid (OwnI w2 w.heap.size (.slice A1 zs1.length c1) zs1) := hid (by rw [hw2]; exact (O11.out.alloc _))
  have HB2 : Hid (Below w.heap.size w w2) := hid (by rw [hw2]; exact (bal HB1.out _))
  have KP2 : Hid (Box w2 w1.heap.size 39 #[.int .i64 W1, .int .i64 H1, .slice A1 zs1.length c1]) := hid (by rw [hw2]; exact (Box.new _ _ _))
  obtain ⟨bk2, hbk2⟩ : ∃ b, b = w1.heap.size := ⟨_, rfl⟩
  rw [← hbk2] at KP2 ⊢
  have oB2 : w.heap.size ≤ bk2 := by rw [hbk2]; exact HB1.out.size
  clear hw2 hbk2 O11 HB1
  obtain ⟨Pa, Pb, Pc⟩ := KP2.out.three
  have Pz := KP2.out.lt
  refine (implPanelPicture_any W1 H1 A1 c1 zs1 _ (OwnI.ints O12.out) hlz1).mono ?_
  rintro e w3 ⟨⟨AG, cG, he, ho⟩, hb⟩
  rw [HG.out.1, HG.out.2.2] at he
  rw [HG.out.1, HG.out.2.1] at ho
  subst he
  clear Pa Pb Pc Pz
  have hlo := HB2.out.size
  have KP3 : Hid (Box w3 bk2 39 #[.int .i64 W1, .int .i64 H1, .slice A1 zs1.length c1]) := hid (Box.keep KP2.out hb)
  have O13 : Hid (OwnI w3 w.heap.size (.slice A1 zs1.length c1) zs1) := hid (OwnI.keep O12.out hb)
  have HB3 : Hid (Below w.heap.size w w3) := hid (bbl HB2.out hb)
  have SG3 : Hid (w3.ownsRow w.heap.size 9 1 (.slice AG ng cG) ng (strs sg)) := hid (Go.Joins.ownsRow_le ho hlo)
  clear hb ho hlo KP2 O12 HB2
  obtain ⟨Pa, Pb, Pc⟩ := KP3.out.three
  have Pz := KP3.out.lt
  go_wp2_with fail
  refine (specPanelPicture_any W1 H1 A1 c1 zs1 _ (OwnI.ints O13.out) hlz1).mono ?_
  rintro e w4 ⟨⟨AM, cM, he, ho⟩, hb⟩
  rw [HG.out.1, HG.out.2.2] at he
  rw [HG.out.1, HG.out.2.1] at ho
  subst he
  clear Pa Pb Pc Pz
  have hlo := HB3.out.size
  have KP4 : Hid (Box w4 bk2 39 #[.int .i64 W1, .int .i64 H1, .slice A1 zs1.length c1]) := hid (Box.keep KP3.out hb)
  have O14 : Hid (OwnI w4 w.heap.size (.slice A1 zs1.length c1) zs1) := hid (OwnI.keep O13.out hb)
  have SG4 : Hid (w4.ownsRow w.heap.size 9 1 (.slice AG ng cG) ng (strs sg)) := hid (own_keep SG3.out hb)
  have HB4 : Hid (Below w.heap.size w w4) := hid (bbl HB3.out hb)
  have SM4 : Hid (w4.ownsRow w.heap.size 9 1 (.slice AM ng cM) ng (strs sg)) := hid (Go.Joins.ownsRow_le ho hlo)
  clear hb ho hlo KP3 O13 SG3 HB3
  obtain ⟨Pa, Pb, Pc⟩ := KP4.out.three
  have Pz := KP4.out.lt
  go_wp2_with fail
  refine (implPanelText_any W1 H1 A1 c1 zs1 _ (OwnI.ints O14.out) hlz1).mono ?_
  rintro e w5 ⟨he, hb5⟩
  rw [HTX.out] at he
  subst he
  clear Pa Pb Pc Pz
  have KP5 : Hid (Box w5 bk2 39 #[.int .i64 W1, .int .i64 H1, .slice A1 zs1.length c1]) := hid (Box.keep KP4.out hb5)
  have O15 : Hid (OwnI w5 w.heap.size (.slice A1 zs1.length c1) zs1) := hid (OwnI.keep O14.out hb5)
  have SG5 : Hid (w5.ownsRow w.heap.size 9 1 (.slice AG ng cG) ng (strs sg)) := hid (own_keep SG4.out hb5)
  have SM5 : Hid (w5.ownsRow w.heap.size 9 1 (.slice AM ng cM) ng (strs sg)) := hid (own_keep SM4.out hb5)
  have HB5 : Hid (Below w.heap.size w w5) := hid (bbl HB4.out hb5)
  clear hb5 KP4 O14 SG4 SM4 HB4
  obtain ⟨Pa, Pb, Pc⟩ := KP5.out.three
  have Pz := KP5.out.lt
  go_wp2_with fail
  refine (implReadPanel_any tx _ HTZ.out).mono ?_
  rintro e w6 ⟨⟨AR, cR, he, ho⟩, hb⟩
  rw [HPR.out.1, HPR.out.2.1, HPR.out.2.2.2.1, HPR.out.2.2.2.2] at he
  rw [HPR.out.2.2.1, HPR.out.2.2.2.2] at ho
  subst he
  clear Pa Pb Pc Pz
  have hlo := HB5.out.size
  have KP6 : Hid (Box w6 bk2 39 #[.int .i64 W1, .int .i64 H1, .slice A1 zs1.length c1]) := hid (Box.keep KP5.out hb)
  have O16 : Hid (OwnI w6 w.heap.size (.slice A1 zs1.length c1) zs1) := hid (OwnI.keep O15.out hb)
  have SG6 : Hid (w6.ownsRow w.heap.size 9 1 (.slice AG ng cG) ng (strs sg)) := hid (own_keep SG5.out hb)
  have SM6 : Hid (w6.ownsRow w.heap.size 9 1 (.slice AM ng cM) ng (strs sg)) := hid (own_keep SM5.out hb)
  have HB6 : Hid (Below w.heap.size w w6) := hid (bbl HB5.out hb)
  have OR6 : Hid (OwnI w6 w.heap.size (.slice AR zsR.length cR) zsR) := hid (Go.Joins.ownsRow_le ho hlo)
  clear hb ho hlo KP5 O15 SG5 SM5 HB5
  obtain ⟨Pa, Pb, Pc⟩ := KP6.out.three
  have Pz := KP6.out.lt
  go_wp2_with fail
  obtain ⟨w7, hw7⟩ : ∃ zz : World, zz = w6.alloc (.cells #[.int .i64 WR, .int .i64 HR, .slice AR zsR.length cR] 39) := ⟨_, rfl⟩
  rw [← hw7]
  have KP7 : Hid (Box w7 bk2 39 #[.int .i64 W1, .int .i64 H1, .slice A1 zs1.length c1]) := hid (by rw [hw7]; exact (Box.alloc KP6.out _))
  have O17 : Hid (OwnI w7 w.heap.size (.slice A1 zs1.length c1) zs1) := hid (by rw [hw7]; exact (O16.out.alloc _))
  have SG7 : Hid (w7.ownsRow w.heap.size 9 1 (.slice AG ng cG) ng (strs sg)) := hid (by rw [hw7]; exact (SG6.out.alloc _))
  have SM7 : Hid (w7.ownsRow w.heap.size 9 1 (.slice AM ng cM) ng (strs sg)) := hid (by rw [hw7]; exact (SM6.out.alloc _))
  have OR7 : Hid (OwnI w7 w.heap.size (.slice AR zsR.length cR) zsR) := hid (by rw [hw7]; exact (OR6.out.alloc _))
  have HB7 : Hid (Below w.heap.size w w7) := hid (by rw [hw7]; exact (bal HB6.out _))
  have KR7 : Hid (Box w7 w6.heap.size 39 #[.int .i64 WR, .int .i64 HR, .slice AR zsR.length cR]) := hid (by rw [hw7]; exact (Box.new _ _ _))
  obtain ⟨bk7, hbk7⟩ : ∃ b, b = w6.heap.size := ⟨_, rfl⟩
  rw [← hbk7] at KR7 ⊢
  have oP7 : bk2 < bk7 := by rw [hbk7]; exact KP6.out.lt
  have oB7 : w.heap.size ≤ bk7 := by rw [hbk7]; exact HB6.out.size
  clear Pa Pb Pc Pz
  clear hw7 hbk7 KP6 O16 SG6 SM6 OR6 HB6
  obtain ⟨Pa, Pb, Pc⟩ := KP7.out.three
  have Pz := KP7.out.lt
  obtain ⟨Ra, Rb, Rc⟩ := KR7.out.three
  have Rz := KR7.out.lt
  refine (DrawReadPanel_any A0 n0 c0 bs0 _ HN0.out ((HZ0.out.below HB7.out).more HB7.out.size) hn5).mono ?_
  rintro e w8 ⟨⟨t2, ht2, rfl⟩, hb8⟩
  clear Pa Pb Pc Pz Ra Rb Rc Rz
  have KP8 : Hid (Box w8 bk2 39 #[.int .i64 W1, .int .i64 H1, .slice A1 zs1.length c1]) := hid (Box.keep KP7.out hb8)
  have KR8 : Hid (Box w8 bk7 39 #[.int .i64 WR, .int .i64 HR, .slice AR zsR.length cR]) := hid (Box.keep KR7.out hb8)
  have O18 : Hid (OwnI w8 w.heap.size (.slice A1 zs1.length c1) zs1) := hid (OwnI.keep O17.out hb8)
  have SG8 : Hid (w8.ownsRow w.heap.size 9 1 (.slice AG ng cG) ng (strs sg)) := hid (own_keep SG7.out hb8)
  have SM8 : Hid (w8.ownsRow w.heap.size 9 1 (.slice AM ng cM) ng (strs sg)) := hid (own_keep SM7.out hb8)
  have OR8 : Hid (OwnI w8 w.heap.size (.slice AR zsR.length cR) zsR) := hid (OwnI.keep OR7.out hb8)
  have HB8 : Hid (Below w.heap.size w w8) := hid (bbl HB7.out hb8)
  have HT2 : Hid (t2.size ≤ 1048576) := hid (by omega)
  clear ht2
  obtain ⟨WX, h1⟩ : ∃ q, pnW t2 = q := ⟨_, rfl⟩
  obtain ⟨HX, h2⟩ : ∃ q, pnH t2 = q := ⟨_, rfl⟩
  obtain ⟨zsX, h3⟩ : ∃ q, pnL t2 = q := ⟨_, rfl⟩
  obtain ⟨xo, h4⟩ : ∃ q, pnO t2 = q := ⟨_, rfl⟩
  have h5 : pnN t2 = zsX.length := by unfold pnN; rw [h3]
  have HPX := hid (And.intro h1 (And.intro h2 (And.intro h3 (And.intro h4 h5))))
  have hbx : (xo != xo) = false := by cases xo <;> rfl
  clear h1 h2 h3 h4 h5
  clear hb8 KP7 KR7 O17 SG7 SM7 OR7 HB7
  obtain ⟨Pa, Pb, Pc⟩ := KP8.out.three
  have Pz := KP8.out.lt
  obtain ⟨Ra, Rb, Rc⟩ := KR8.out.three
  have Rz := KR8.out.lt
  go_wp2_with fail
  refine (implReadPanel_any t2 _ HT2.out).mono ?_
  rintro e w9 ⟨⟨AX, cX, he, ho⟩, hb⟩
  rw [HPX.out.1, HPX.out.2.1, HPX.out.2.2.2.1, HPX.out.2.2.2.2] at he
  rw [HPX.out.2.2.1, HPX.out.2.2.2.2] at ho
  subst he
  clear Pa Pb Pc Pz Ra Rb Rc Rz
  have hlo := HB8.out.size
  have KP9 : Hid (Box w9 bk2 39 #[.int .i64 W1, .int .i64 H1, .slice A1 zs1.length c1]) := hid (Box.keep KP8.out hb)
  have KR9 : Hid (Box w9 bk7 39 #[.int .i64 WR, .int .i64 HR, .slice AR zsR.length cR]) := hid (Box.keep KR8.out hb)
  have O19 : Hid (OwnI w9 w.heap.size (.slice A1 zs1.length c1) zs1) := hid (OwnI.keep O18.out hb)
  have SG9 : Hid (w9.ownsRow w.heap.size 9 1 (.slice AG ng cG) ng (strs sg)) := hid (own_keep SG8.out hb)
  have SM9 : Hid (w9.ownsRow w.heap.size 9 1 (.slice AM ng cM) ng (strs sg)) := hid (own_keep SM8.out hb)
  have OR9 : Hid (OwnI w9 w.heap.size (.slice AR zsR.length cR) zsR) := hid (OwnI.keep OR8.out hb)
  have HB9 : Hid (Below w.heap.size w w9) := hid (bbl HB8.out hb)
  have OX9 : Hid (OwnI w9 w.heap.size (.slice AX zsX.length cX) zsX) := hid (Go.Joins.ownsRow_le ho hlo)
  clear hb ho hlo KP8 KR8 O18 SG8 SM8 OR8 HB8
  obtain ⟨Pa, Pb, Pc⟩ := KP9.out.three
  have Pz := KP9.out.lt
  obtain ⟨Ra, Rb, Rc⟩ := KR9.out.three
  have Rz := KR9.out.lt
  go_wp2_with fail
  obtain ⟨w10, hw10⟩ : ∃ zz : World, zz = w9.alloc (.cells #[.int .i64 WX, .int .i64 HX, .slice AX zsX.length cX] 39) := ⟨_, rfl⟩
  rw [← hw10]
  have KP10 : Hid (Box w10 bk2 39 #[.int .i64 W1, .int .i64 H1, .slice A1 zs1.length c1]) := hid (by rw [hw10]; exact (Box.alloc KP9.out _))
  have KR10 : Hid (Box w10 bk7 39 #[.int .i64 WR, .int .i64 HR, .slice AR zsR.length cR]) := hid (by rw [hw10]; exact (Box.alloc KR9.out _))
  have O110 : Hid (OwnI w10 w.heap.size (.slice A1 zs1.length c1) zs1) := hid (by rw [hw10]; exact (O19.out.alloc _))
  have SG10 : Hid (w10.ownsRow w.heap.size 9 1 (.slice AG ng cG) ng (strs sg)) := hid (by rw [hw10]; exact (SG9.out.alloc _))
  have SM10 : Hid (w10.ownsRow w.heap.size 9 1 (.slice AM ng cM) ng (strs sg)) := hid (by rw [hw10]; exact (SM9.out.alloc _))
  have OR10 : Hid (OwnI w10 w.heap.size (.slice AR zsR.length cR) zsR) := hid (by rw [hw10]; exact (OR9.out.alloc _))
  have OX10 : Hid (OwnI w10 w.heap.size (.slice AX zsX.length cX) zsX) := hid (by rw [hw10]; exact (OX9.out.alloc _))
  have HB10 : Hid (Below w.heap.size w w10) := hid (by rw [hw10]; exact (bal HB9.out _))
  have KX10 : Hid (Box w10 w9.heap.size 39 #[.int .i64 WX, .int .i64 HX, .slice AX zsX.length cX]) := hid (by rw [hw10]; exact (Box.new _ _ _))
  obtain ⟨bk10, hbk10⟩ : ∃ b, b = w9.heap.size := ⟨_, rfl⟩
  rw [← hbk10] at KX10 ⊢
  have oP10 : bk2 < bk10 := by rw [hbk10]; exact KP9.out.lt
  have oR10 : bk7 < bk10 := by rw [hbk10]; exact KR9.out.lt
  have oB10 : w.heap.size ≤ bk10 := by rw [hbk10]; exact HB9.out.size
  clear Pa Pb Pc Pz Ra Rb Rc Rz
  clear hw10 hbk10 KP9 KR9 O19 SG9 SM9 OR9 OX9 HB9
  obtain ⟨Pa, Pb, Pc⟩ := KP10.out.three
  have Pz := KP10.out.lt
  obtain ⟨Ra, Rb, Rc⟩ := KR10.out.three
  have Rz := KR10.out.lt
  obtain ⟨Xa, Xb, Xc⟩ := KX10.out.three
  have Xz := KX10.out.lt
  refine (specReadPanel_any t2 _ HT2.out).mono ?_
  rintro e w11 ⟨⟨AY, cY, he, ho⟩, hb⟩
  rw [HPX.out.1, HPX.out.2.1, HPX.out.2.2.2.1, HPX.out.2.2.2.2] at he
  rw [HPX.out.2.2.1, HPX.out.2.2.2.2] at ho
  subst he
  clear Pa Pb Pc Pz Ra Rb Rc Rz Xa Xb Xc Xz
  have hlo := HB10.out.size
  have KP11 : Hid (Box w11 bk2 39 #[.int .i64 W1, .int .i64 H1, .slice A1 zs1.length c1]) := hid (Box.keep KP10.out hb)
  have KR11 : Hid (Box w11 bk7 39 #[.int .i64 WR, .int .i64 HR, .slice AR zsR.length cR]) := hid (Box.keep KR10.out hb)
  have KX11 : Hid (Box w11 bk10 39 #[.int .i64 WX, .int .i64 HX, .slice AX zsX.length cX]) := hid (Box.keep KX10.out hb)
  have O111 : Hid (OwnI w11 w.heap.size (.slice A1 zs1.length c1) zs1) := hid (OwnI.keep O110.out hb)
  have SG11 : Hid (w11.ownsRow w.heap.size 9 1 (.slice AG ng cG) ng (strs sg)) := hid (own_keep SG10.out hb)
  have SM11 : Hid (w11.ownsRow w.heap.size 9 1 (.slice AM ng cM) ng (strs sg)) := hid (own_keep SM10.out hb)
  have OR11 : Hid (OwnI w11 w.heap.size (.slice AR zsR.length cR) zsR) := hid (OwnI.keep OR10.out hb)
  have OX11 : Hid (OwnI w11 w.heap.size (.slice AX zsX.length cX) zsX) := hid (OwnI.keep OX10.out hb)
  have HB11 : Hid (Below w.heap.size w w11) := hid (bbl HB10.out hb)
  have OY11 : Hid (OwnI w11 w.heap.size (.slice AY zsX.length cY) zsX) := hid (Go.Joins.ownsRow_le ho hlo)
  clear hb ho hlo KP10 KR10 KX10 O110 SG10 SM10 OR10 OX10 HB10
  obtain ⟨Pa, Pb, Pc⟩ := KP11.out.three
  have Pz := KP11.out.lt
  obtain ⟨Ra, Rb, Rc⟩ := KR11.out.three
  have Rz := KR11.out.lt
  obtain ⟨Xa, Xb, Xc⟩ := KX11.out.three
  have Xz := KX11.out.lt
  go_wp2_with fail
  obtain ⟨w12, hw12⟩ : ∃ zz : World, zz = w11.alloc (.cells #[.int .i64 WX, .int .i64 HX, .slice AY zsX.length cY] 39) := ⟨_, rfl⟩
  rw [← hw12]
  have KP12 : Hid (Box w12 bk2 39 #[.int .i64 W1, .int .i64 H1, .slice A1 zs1.length c1]) := hid (by rw [hw12]; exact (Box.alloc KP11.out _))
  have KR12 : Hid (Box w12 bk7 39 #[.int .i64 WR, .int .i64 HR, .slice AR zsR.length cR]) := hid (by rw [hw12]; exact (Box.alloc KR11.out _))
  have KX12 : Hid (Box w12 bk10 39 #[.int .i64 WX, .int .i64 HX, .slice AX zsX.length cX]) := hid (by rw [hw12]; exact (Box.alloc KX11.out _))
  have O112 : Hid (OwnI w12 w.heap.size (.slice A1 zs1.length c1) zs1) := hid (by rw [hw12]; exact (O111.out.alloc _))
  have SG12 : Hid (w12.ownsRow w.heap.size 9 1 (.slice AG ng cG) ng (strs sg)) := hid (by rw [hw12]; exact (SG11.out.alloc _))
  have SM12 : Hid (w12.ownsRow w.heap.size 9 1 (.slice AM ng cM) ng (strs sg)) := hid (by rw [hw12]; exact (SM11.out.alloc _))
  have OR12 : Hid (OwnI w12 w.heap.size (.slice AR zsR.length cR) zsR) := hid (by rw [hw12]; exact (OR11.out.alloc _))
  have OX12 : Hid (OwnI w12 w.heap.size (.slice AX zsX.length cX) zsX) := hid (by rw [hw12]; exact (OX11.out.alloc _))
  have OY12 : Hid (OwnI w12 w.heap.size (.slice AY zsX.length cY) zsX) := hid (by rw [hw12]; exact (OY11.out.alloc _))
  have HB12 : Hid (Below w.heap.size w w12) := hid (by rw [hw12]; exact (bal HB11.out _))
  have KY12 : Hid (Box w12 w11.heap.size 39 #[.int .i64 WX, .int .i64 HX, .slice AY zsX.length cY]) := hid (by rw [hw12]; exact (Box.new _ _ _))
  obtain ⟨bk12, hbk12⟩ : ∃ b, b = w11.heap.size := ⟨_, rfl⟩
  rw [← hbk12] at KY12 ⊢
  have oP12 : bk2 < bk12 := by rw [hbk12]; exact KP11.out.lt
  have oR12 : bk7 < bk12 := by rw [hbk12]; exact KR11.out.lt
  have oX12 : bk10 < bk12 := by rw [hbk12]; exact KX11.out.lt
  have oB12 : w.heap.size ≤ bk12 := by rw [hbk12]; exact HB11.out.size
  clear Pa Pb Pc Pz Ra Rb Rc Rz Xa Xb Xc Xz
  clear hw12 hbk12 KP11 KR11 KX11 O111 SG11 SM11 OR11 OX11 OY11 HB11
  obtain ⟨Pa, Pb, Pc⟩ := KP12.out.three
  have Pz := KP12.out.lt
  obtain ⟨Ra, Rb, Rc⟩ := KR12.out.three
  have Rz := KR12.out.lt
  obtain ⟨Xa, Xb, Xc⟩ := KX12.out.three
  have Xz := KX12.out.lt
  obtain ⟨Ya, Yb, Yc⟩ := KY12.out.three
  have Yz := KY12.out.lt
  refine (DrawPictureFault_any A0 n0 c0 bs0 _ HN0.out ((HZ0.out.below HB12.out).more HB12.out.size) hn5).mono ?_
  rintro e w13 ⟨⟨ss, AS, cS, ⟨hsl, hsz⟩, rfl, ho⟩, hb⟩
  have hsl2 : ss.length ≤ 1048576 := by omega
  have HSZ := hid (sizes_le hsz (by omega))
  have hka := pf_kind ss
  obtain ⟨kf, h1⟩ : ∃ q, (pfF ss).1 = q := ⟨_, rfl⟩
  obtain ⟨yf, h2⟩ : ∃ q, (pfF ss).2.1 = q := ⟨_, rfl⟩
  obtain ⟨xf, h3⟩ : ∃ q, (pfF ss).2.2 = q := ⟨_, rfl⟩
  rw [h1] at hka
  have HPF := hid (And.intro h1 (And.intro h2 h3))
  obtain ⟨WQ, h4⟩ : ∃ q, rpW ss = q := ⟨_, rfl⟩
  obtain ⟨HQ, h5⟩ : ∃ q, rpH ss = q := ⟨_, rfl⟩
  obtain ⟨zsQ, h6⟩ : ∃ q, rpL ss = q := ⟨_, rfl⟩
  obtain ⟨qc, h7⟩ : ∃ q, rpC ss = q := ⟨_, rfl⟩
  have h8 : rpN ss = zsQ.length := by rw [← rpL_length, h6]
  have HRQ := hid (And.intro h4 (And.intro h5 (And.intro h6 (And.intro h7 h8))))
  have hq112 : zsQ.length ≤ 200 := by have := rpN_le ss; omega
  have HSL := hid hsl
  clear hsz h1 h2 h3 h4 h5 h6 h7 h8
  clear Pa Pb Pc Pz Ra Rb Rc Rz Xa Xb Xc Xz Ya Yb Yc Yz
  have hlo := HB12.out.size
  have KP13 : Hid (Box w13 bk2 39 #[.int .i64 W1, .int .i64 H1, .slice A1 zs1.length c1]) := hid (Box.keep KP12.out hb)
  have KR13 : Hid (Box w13 bk7 39 #[.int .i64 WR, .int .i64 HR, .slice AR zsR.length cR]) := hid (Box.keep KR12.out hb)
  have KX13 : Hid (Box w13 bk10 39 #[.int .i64 WX, .int .i64 HX, .slice AX zsX.length cX]) := hid (Box.keep KX12.out hb)
  have KY13 : Hid (Box w13 bk12 39 #[.int .i64 WX, .int .i64 HX, .slice AY zsX.length cY]) := hid (Box.keep KY12.out hb)
  have O113 : Hid (OwnI w13 w.heap.size (.slice A1 zs1.length c1) zs1) := hid (OwnI.keep O112.out hb)
  have SG13 : Hid (w13.ownsRow w.heap.size 9 1 (.slice AG ng cG) ng (strs sg)) := hid (own_keep SG12.out hb)
  have SM13 : Hid (w13.ownsRow w.heap.size 9 1 (.slice AM ng cM) ng (strs sg)) := hid (own_keep SM12.out hb)
  have OR13 : Hid (OwnI w13 w.heap.size (.slice AR zsR.length cR) zsR) := hid (OwnI.keep OR12.out hb)
  have OX13 : Hid (OwnI w13 w.heap.size (.slice AX zsX.length cX) zsX) := hid (OwnI.keep OX12.out hb)
  have OY13 : Hid (OwnI w13 w.heap.size (.slice AY zsX.length cY) zsX) := hid (OwnI.keep OY12.out hb)
  have HB13 : Hid (Below w.heap.size w w13) := hid (bbl HB12.out hb)
  have SS13 : Hid (w13.ownsRow w.heap.size 9 1 (.slice AS ss.length cS) ss.length (strs ss)) := hid (Go.Joins.ownsRow_le ho hlo)
  clear hb ho hlo KP12 KR12 KX12 KY12 O112 SG12 SM12 OR12 OX12 OY12 HB12
  obtain ⟨Pa, Pb, Pc⟩ := KP13.out.three
  have Pz := KP13.out.lt
  obtain ⟨Ra, Rb, Rc⟩ := KR13.out.three
  have Rz := KR13.out.lt
  obtain ⟨Xa, Xb, Xc⟩ := KX13.out.three
  have Xz := KX13.out.lt
  obtain ⟨Ya, Yb, Yc⟩ := KY13.out.three
  have Yz := KY13.out.lt
  go_wp2_with fail
  refine (implPictureFault_any AS cS ss _ (StrsR.own SS13.out) hsl2 HSZ.out).mono ?_
  rintro e w14 ⟨he, hb14⟩
  rw [HPF.out.1, HPF.out.2.1, HPF.out.2.2] at he
  subst he
  clear Pa Pb Pc Pz Ra Rb Rc Rz Xa Xb Xc Xz Ya Yb Yc Yz
  have KP14 : Hid (Box w14 bk2 39 #[.int .i64 W1, .int .i64 H1, .slice A1 zs1.length c1]) := hid (Box.keep KP13.out hb14)
  have KR14 : Hid (Box w14 bk7 39 #[.int .i64 WR, .int .i64 HR, .slice AR zsR.length cR]) := hid (Box.keep KR13.out hb14)
  have KX14 : Hid (Box w14 bk10 39 #[.int .i64 WX, .int .i64 HX, .slice AX zsX.length cX]) := hid (Box.keep KX13.out hb14)
  have KY14 : Hid (Box w14 bk12 39 #[.int .i64 WX, .int .i64 HX, .slice AY zsX.length cY]) := hid (Box.keep KY13.out hb14)
  have O114 : Hid (OwnI w14 w.heap.size (.slice A1 zs1.length c1) zs1) := hid (OwnI.keep O113.out hb14)
  have SG14 : Hid (w14.ownsRow w.heap.size 9 1 (.slice AG ng cG) ng (strs sg)) := hid (own_keep SG13.out hb14)
  have SM14 : Hid (w14.ownsRow w.heap.size 9 1 (.slice AM ng cM) ng (strs sg)) := hid (own_keep SM13.out hb14)
  have OR14 : Hid (OwnI w14 w.heap.size (.slice AR zsR.length cR) zsR) := hid (OwnI.keep OR13.out hb14)
  have OX14 : Hid (OwnI w14 w.heap.size (.slice AX zsX.length cX) zsX) := hid (OwnI.keep OX13.out hb14)
  have OY14 : Hid (OwnI w14 w.heap.size (.slice AY zsX.length cY) zsX) := hid (OwnI.keep OY13.out hb14)
  have SS14 : Hid (w14.ownsRow w.heap.size 9 1 (.slice AS ss.length cS) ss.length (strs ss)) := hid (own_keep SS13.out hb14)
  have HB14 : Hid (Below w.heap.size w w14) := hid (bbl HB13.out hb14)
  clear hb14 KP13 KR13 KX13 KY13 O113 SG13 SM13 OR13 OX13 OY13 SS13 HB13
  obtain ⟨Pa, Pb, Pc⟩ := KP14.out.three
  have Pz := KP14.out.lt
  obtain ⟨Ra, Rb, Rc⟩ := KR14.out.three
  have Rz := KR14.out.lt
  obtain ⟨Xa, Xb, Xc⟩ := KX14.out.three
  have Xz := KX14.out.lt
  obtain ⟨Ya, Yb, Yc⟩ := KY14.out.three
  have Yz := KY14.out.lt
  go_wp2_with fail
  refine (specPictureFault_any AS cS ss _ (StrsR.own SS14.out) hsl2 HSZ.out).mono ?_
  rintro e w15 ⟨he, hb15⟩
  rw [HPF.out.1, HPF.out.2.1, HPF.out.2.2] at he
  subst he
  clear Pa Pb Pc Pz Ra Rb Rc Rz Xa Xb Xc Xz Ya Yb Yc Yz
  have KP15 : Hid (Box w15 bk2 39 #[.int .i64 W1, .int .i64 H1, .slice A1 zs1.length c1]) := hid (Box.keep KP14.out hb15)
  have KR15 : Hid (Box w15 bk7 39 #[.int .i64 WR, .int .i64 HR, .slice AR zsR.length cR]) := hid (Box.keep KR14.out hb15)
  have KX15 : Hid (Box w15 bk10 39 #[.int .i64 WX, .int .i64 HX, .slice AX zsX.length cX]) := hid (Box.keep KX14.out hb15)
  have KY15 : Hid (Box w15 bk12 39 #[.int .i64 WX, .int .i64 HX, .slice AY zsX.length cY]) := hid (Box.keep KY14.out hb15)
  have O115 : Hid (OwnI w15 w.heap.size (.slice A1 zs1.length c1) zs1) := hid (OwnI.keep O114.out hb15)
  have SG15 : Hid (w15.ownsRow w.heap.size 9 1 (.slice AG ng cG) ng (strs sg)) := hid (own_keep SG14.out hb15)
  have SM15 : Hid (w15.ownsRow w.heap.size 9 1 (.slice AM ng cM) ng (strs sg)) := hid (own_keep SM14.out hb15)
  have OR15 : Hid (OwnI w15 w.heap.size (.slice AR zsR.length cR) zsR) := hid (OwnI.keep OR14.out hb15)
  have OX15 : Hid (OwnI w15 w.heap.size (.slice AX zsX.length cX) zsX) := hid (OwnI.keep OX14.out hb15)
  have OY15 : Hid (OwnI w15 w.heap.size (.slice AY zsX.length cY) zsX) := hid (OwnI.keep OY14.out hb15)
  have SS15 : Hid (w15.ownsRow w.heap.size 9 1 (.slice AS ss.length cS) ss.length (strs ss)) := hid (own_keep SS14.out hb15)
  have HB15 : Hid (Below w.heap.size w w15) := hid (bbl HB14.out hb15)
  clear hb15 KP14 KR14 KX14 KY14 O114 SG14 SM14 OR14 OX14 OY14 SS14 HB14
  obtain ⟨Pa, Pb, Pc⟩ := KP15.out.three
  have Pz := KP15.out.lt
  obtain ⟨Ra, Rb, Rc⟩ := KR15.out.three
  have Rz := KR15.out.lt
  obtain ⟨Xa, Xb, Xc⟩ := KX15.out.three
  have Xz := KX15.out.lt
  obtain ⟨Ya, Yb, Yc⟩ := KY15.out.three
  have Yz := KY15.out.lt
  go_wp2_with fail
  refine (implReadPicture_any AS cS ss _ (StrsR.own SS15.out) hsl2 HSZ.out).mono ?_
  rintro e w16 ⟨⟨AQ, cQ, he, ho⟩, hb⟩
  rw [HRQ.out.1, HRQ.out.2.1, HRQ.out.2.2.2.1, HRQ.out.2.2.2.2] at he
  rw [HRQ.out.2.2.1, HRQ.out.2.2.2.2] at ho
  subst he
  clear Pa Pb Pc Pz Ra Rb Rc Rz Xa Xb Xc Xz Ya Yb Yc Yz
  have hlo := HB15.out.size
  have KP16 : Hid (Box w16 bk2 39 #[.int .i64 W1, .int .i64 H1, .slice A1 zs1.length c1]) := hid (Box.keep KP15.out hb)
  have KR16 : Hid (Box w16 bk7 39 #[.int .i64 WR, .int .i64 HR, .slice AR zsR.length cR]) := hid (Box.keep KR15.out hb)
  have KX16 : Hid (Box w16 bk10 39 #[.int .i64 WX, .int .i64 HX, .slice AX zsX.length cX]) := hid (Box.keep KX15.out hb)
  have KY16 : Hid (Box w16 bk12 39 #[.int .i64 WX, .int .i64 HX, .slice AY zsX.length cY]) := hid (Box.keep KY15.out hb)
  have O116 : Hid (OwnI w16 w.heap.size (.slice A1 zs1.length c1) zs1) := hid (OwnI.keep O115.out hb)
  have SG16 : Hid (w16.ownsRow w.heap.size 9 1 (.slice AG ng cG) ng (strs sg)) := hid (own_keep SG15.out hb)
  have SM16 : Hid (w16.ownsRow w.heap.size 9 1 (.slice AM ng cM) ng (strs sg)) := hid (own_keep SM15.out hb)
  have OR16 : Hid (OwnI w16 w.heap.size (.slice AR zsR.length cR) zsR) := hid (OwnI.keep OR15.out hb)
  have OX16 : Hid (OwnI w16 w.heap.size (.slice AX zsX.length cX) zsX) := hid (OwnI.keep OX15.out hb)
  have OY16 : Hid (OwnI w16 w.heap.size (.slice AY zsX.length cY) zsX) := hid (OwnI.keep OY15.out hb)
  have SS16 : Hid (w16.ownsRow w.heap.size 9 1 (.slice AS ss.length cS) ss.length (strs ss)) := hid (own_keep SS15.out hb)
  have HB16 : Hid (Below w.heap.size w w16) := hid (bbl HB15.out hb)
  have OQ16 : Hid (OwnI w16 w.heap.size (.slice AQ zsQ.length cQ) zsQ) := hid (Go.Joins.ownsRow_le ho hlo)
  clear hb ho hlo KP15 KR15 KX15 KY15 O115 SG15 SM15 OR15 OX15 OY15 SS15 HB15
  obtain ⟨Pa, Pb, Pc⟩ := KP16.out.three
  have Pz := KP16.out.lt
  obtain ⟨Ra, Rb, Rc⟩ := KR16.out.three
  have Rz := KR16.out.lt
  obtain ⟨Xa, Xb, Xc⟩ := KX16.out.three
  have Xz := KX16.out.lt
  obtain ⟨Ya, Yb, Yc⟩ := KY16.out.three
  have Yz := KY16.out.lt
  go_wp2_with fail
  obtain ⟨w17, hw17⟩ : ∃ zz : World, zz = w16.alloc (.cells #[.int .i64 WQ, .int .i64 HQ, .slice AQ zsQ.length cQ] 39) := ⟨_, rfl⟩
  rw [← hw17]
  have KP17 : Hid (Box w17 bk2 39 #[.int .i64 W1, .int .i64 H1, .slice A1 zs1.length c1]) := hid (by rw [hw17]; exact (Box.alloc KP16.out _))
  have KR17 : Hid (Box w17 bk7 39 #[.int .i64 WR, .int .i64 HR, .slice AR zsR.length cR]) := hid (by rw [hw17]; exact (Box.alloc KR16.out _))
  have KX17 : Hid (Box w17 bk10 39 #[.int .i64 WX, .int .i64 HX, .slice AX zsX.length cX]) := hid (by rw [hw17]; exact (Box.alloc KX16.out _))
  have KY17 : Hid (Box w17 bk12 39 #[.int .i64 WX, .int .i64 HX, .slice AY zsX.length cY]) := hid (by rw [hw17]; exact (Box.alloc KY16.out _))
  have O117 : Hid (OwnI w17 w.heap.size (.slice A1 zs1.length c1) zs1) := hid (by rw [hw17]; exact (O116.out.alloc _))
  have SG17 : Hid (w17.ownsRow w.heap.size 9 1 (.slice AG ng cG) ng (strs sg)) := hid (by rw [hw17]; exact (SG16.out.alloc _))
  have SM17 : Hid (w17.ownsRow w.heap.size 9 1 (.slice AM ng cM) ng (strs sg)) := hid (by rw [hw17]; exact (SM16.out.alloc _))
  have OR17 : Hid (OwnI w17 w.heap.size (.slice AR zsR.length cR) zsR) := hid (by rw [hw17]; exact (OR16.out.alloc _))
  have OX17 : Hid (OwnI w17 w.heap.size (.slice AX zsX.length cX) zsX) := hid (by rw [hw17]; exact (OX16.out.alloc _))
  have OY17 : Hid (OwnI w17 w.heap.size (.slice AY zsX.length cY) zsX) := hid (by rw [hw17]; exact (OY16.out.alloc _))
  have SS17 : Hid (w17.ownsRow w.heap.size 9 1 (.slice AS ss.length cS) ss.length (strs ss)) := hid (by rw [hw17]; exact (SS16.out.alloc _))
  have OQ17 : Hid (OwnI w17 w.heap.size (.slice AQ zsQ.length cQ) zsQ) := hid (by rw [hw17]; exact (OQ16.out.alloc _))
  have HB17 : Hid (Below w.heap.size w w17) := hid (by rw [hw17]; exact (bal HB16.out _))
  have KQ17 : Hid (Box w17 w16.heap.size 39 #[.int .i64 WQ, .int .i64 HQ, .slice AQ zsQ.length cQ]) := hid (by rw [hw17]; exact (Box.new _ _ _))
  obtain ⟨bk17, hbk17⟩ : ∃ b, b = w16.heap.size := ⟨_, rfl⟩
  rw [← hbk17] at KQ17 ⊢
  have oP17 : bk2 < bk17 := by rw [hbk17]; exact KP16.out.lt
  have oR17 : bk7 < bk17 := by rw [hbk17]; exact KR16.out.lt
  have oX17 : bk10 < bk17 := by rw [hbk17]; exact KX16.out.lt
  have oY17 : bk12 < bk17 := by rw [hbk17]; exact KY16.out.lt
  have oB17 : w.heap.size ≤ bk17 := by rw [hbk17]; exact HB16.out.size
  clear Pa Pb Pc Pz Ra Rb Rc Rz Xa Xb Xc Xz Ya Yb Yc Yz
  clear hw17 hbk17 KP16 KR16 KX16 KY16 O116 SG16 SM16 OR16 OX16 OY16 SS16 OQ16 HB16
  obtain ⟨Pa, Pb, Pc⟩ := KP17.out.three
  have Pz := KP17.out.lt
  obtain ⟨Ra, Rb, Rc⟩ := KR17.out.three
  have Rz := KR17.out.lt
  obtain ⟨Xa, Xb, Xc⟩ := KX17.out.three
  have Xz := KX17.out.lt
  obtain ⟨Ya, Yb, Yc⟩ := KY17.out.three
  have Yz := KY17.out.lt
  obtain ⟨Qa, Qb, Qc⟩ := KQ17.out.three
  have Qz := KQ17.out.lt
  refine (specReadPicture_any AS cS ss _ (StrsR.own SS17.out) hsl2 HSZ.out).mono ?_
  rintro e w18 ⟨⟨AZ, cZ, he, ho⟩, hb⟩
  rw [HRQ.out.1, HRQ.out.2.1, HRQ.out.2.2.2.1, HRQ.out.2.2.2.2] at he
  rw [HRQ.out.2.2.1, HRQ.out.2.2.2.2] at ho
  subst he
  clear Pa Pb Pc Pz Ra Rb Rc Rz Xa Xb Xc Xz Ya Yb Yc Yz Qa Qb Qc Qz
  have hlo := HB17.out.size
  have KP18 : Hid (Box w18 bk2 39 #[.int .i64 W1, .int .i64 H1, .slice A1 zs1.length c1]) := hid (Box.keep KP17.out hb)
  have KR18 : Hid (Box w18 bk7 39 #[.int .i64 WR, .int .i64 HR, .slice AR zsR.length cR]) := hid (Box.keep KR17.out hb)
  have KX18 : Hid (Box w18 bk10 39 #[.int .i64 WX, .int .i64 HX, .slice AX zsX.length cX]) := hid (Box.keep KX17.out hb)
  have KY18 : Hid (Box w18 bk12 39 #[.int .i64 WX, .int .i64 HX, .slice AY zsX.length cY]) := hid (Box.keep KY17.out hb)
  have KQ18 : Hid (Box w18 bk17 39 #[.int .i64 WQ, .int .i64 HQ, .slice AQ zsQ.length cQ]) := hid (Box.keep KQ17.out hb)
  have O118 : Hid (OwnI w18 w.heap.size (.slice A1 zs1.length c1) zs1) := hid (OwnI.keep O117.out hb)
  have SG18 : Hid (w18.ownsRow w.heap.size 9 1 (.slice AG ng cG) ng (strs sg)) := hid (own_keep SG17.out hb)
  have SM18 : Hid (w18.ownsRow w.heap.size 9 1 (.slice AM ng cM) ng (strs sg)) := hid (own_keep SM17.out hb)
  have OR18 : Hid (OwnI w18 w.heap.size (.slice AR zsR.length cR) zsR) := hid (OwnI.keep OR17.out hb)
  have OX18 : Hid (OwnI w18 w.heap.size (.slice AX zsX.length cX) zsX) := hid (OwnI.keep OX17.out hb)
  have OY18 : Hid (OwnI w18 w.heap.size (.slice AY zsX.length cY) zsX) := hid (OwnI.keep OY17.out hb)
  have SS18 : Hid (w18.ownsRow w.heap.size 9 1 (.slice AS ss.length cS) ss.length (strs ss)) := hid (own_keep SS17.out hb)
  have OQ18 : Hid (OwnI w18 w.heap.size (.slice AQ zsQ.length cQ) zsQ) := hid (OwnI.keep OQ17.out hb)
  have HB18 : Hid (Below w.heap.size w w18) := hid (bbl HB17.out hb)
  have OZ18 : Hid (OwnI w18 w.heap.size (.slice AZ zsQ.length cZ) zsQ) := hid (Go.Joins.ownsRow_le ho hlo)
  clear hb ho hlo KP17 KR17 KX17 KY17 KQ17 O117 SG17 SM17 OR17 OX17 OY17 SS17 OQ17 HB17
  obtain ⟨Pa, Pb, Pc⟩ := KP18.out.three
  have Pz := KP18.out.lt
  obtain ⟨Ra, Rb, Rc⟩ := KR18.out.three
  have Rz := KR18.out.lt
  obtain ⟨Xa, Xb, Xc⟩ := KX18.out.three
  have Xz := KX18.out.lt
  obtain ⟨Ya, Yb, Yc⟩ := KY18.out.three
  have Yz := KY18.out.lt
  obtain ⟨Qa, Qb, Qc⟩ := KQ18.out.three
  have Qz := KQ18.out.lt
  go_wp2_with fail
  obtain ⟨w19, hw19⟩ : ∃ zz : World, zz = w18.alloc (.cells #[.int .i64 WQ, .int .i64 HQ, .slice AZ zsQ.length cZ] 39) := ⟨_, rfl⟩
  rw [← hw19]
  have KP19 : Hid (Box w19 bk2 39 #[.int .i64 W1, .int .i64 H1, .slice A1 zs1.length c1]) := hid (by rw [hw19]; exact (Box.alloc KP18.out _))
  have KR19 : Hid (Box w19 bk7 39 #[.int .i64 WR, .int .i64 HR, .slice AR zsR.length cR]) := hid (by rw [hw19]; exact (Box.alloc KR18.out _))
  have KX19 : Hid (Box w19 bk10 39 #[.int .i64 WX, .int .i64 HX, .slice AX zsX.length cX]) := hid (by rw [hw19]; exact (Box.alloc KX18.out _))
  have KY19 : Hid (Box w19 bk12 39 #[.int .i64 WX, .int .i64 HX, .slice AY zsX.length cY]) := hid (by rw [hw19]; exact (Box.alloc KY18.out _))
  have KQ19 : Hid (Box w19 bk17 39 #[.int .i64 WQ, .int .i64 HQ, .slice AQ zsQ.length cQ]) := hid (by rw [hw19]; exact (Box.alloc KQ18.out _))
  have O119 : Hid (OwnI w19 w.heap.size (.slice A1 zs1.length c1) zs1) := hid (by rw [hw19]; exact (O118.out.alloc _))
  have SG19 : Hid (w19.ownsRow w.heap.size 9 1 (.slice AG ng cG) ng (strs sg)) := hid (by rw [hw19]; exact (SG18.out.alloc _))
  have SM19 : Hid (w19.ownsRow w.heap.size 9 1 (.slice AM ng cM) ng (strs sg)) := hid (by rw [hw19]; exact (SM18.out.alloc _))
  have OR19 : Hid (OwnI w19 w.heap.size (.slice AR zsR.length cR) zsR) := hid (by rw [hw19]; exact (OR18.out.alloc _))
  have OX19 : Hid (OwnI w19 w.heap.size (.slice AX zsX.length cX) zsX) := hid (by rw [hw19]; exact (OX18.out.alloc _))
  have OY19 : Hid (OwnI w19 w.heap.size (.slice AY zsX.length cY) zsX) := hid (by rw [hw19]; exact (OY18.out.alloc _))
  have SS19 : Hid (w19.ownsRow w.heap.size 9 1 (.slice AS ss.length cS) ss.length (strs ss)) := hid (by rw [hw19]; exact (SS18.out.alloc _))
  have OQ19 : Hid (OwnI w19 w.heap.size (.slice AQ zsQ.length cQ) zsQ) := hid (by rw [hw19]; exact (OQ18.out.alloc _))
  have OZ19 : Hid (OwnI w19 w.heap.size (.slice AZ zsQ.length cZ) zsQ) := hid (by rw [hw19]; exact (OZ18.out.alloc _))
  have HB19 : Hid (Below w.heap.size w w19) := hid (by rw [hw19]; exact (bal HB18.out _))
  have KZ19 : Hid (Box w19 w18.heap.size 39 #[.int .i64 WQ, .int .i64 HQ, .slice AZ zsQ.length cZ]) := hid (by rw [hw19]; exact (Box.new _ _ _))
  obtain ⟨bk19, hbk19⟩ : ∃ b, b = w18.heap.size := ⟨_, rfl⟩
  rw [← hbk19] at KZ19 ⊢
  have oP19 : bk2 < bk19 := by rw [hbk19]; exact KP18.out.lt
  have oR19 : bk7 < bk19 := by rw [hbk19]; exact KR18.out.lt
  have oX19 : bk10 < bk19 := by rw [hbk19]; exact KX18.out.lt
  have oY19 : bk12 < bk19 := by rw [hbk19]; exact KY18.out.lt
  have oQ19 : bk17 < bk19 := by rw [hbk19]; exact KQ18.out.lt
  have oB19 : w.heap.size ≤ bk19 := by rw [hbk19]; exact HB18.out.size
  clear Pa Pb Pc Pz Ra Rb Rc Rz Xa Xb Xc Xz Ya Yb Yc Yz Qa Qb Qc Qz
  clear hw19 hbk19 KP18 KR18 KX18 KY18 KQ18 O118 SG18 SM18 OR18 OX18 OY18 SS18 OQ18 OZ18 HB18
  obtain ⟨Pa, Pb, Pc⟩ := KP19.out.three
  have Pz := KP19.out.lt
  obtain ⟨Ra, Rb, Rc⟩ := KR19.out.three
  have Rz := KR19.out.lt
  obtain ⟨Xa, Xb, Xc⟩ := KX19.out.three
  have Xz := KX19.out.lt
  obtain ⟨Ya, Yb, Yc⟩ := KY19.out.three
  have Yz := KY19.out.lt
  obtain ⟨Qa, Qb, Qc⟩ := KQ19.out.three
  have Qz := KQ19.out.lt
  obtain ⟨Za, Zb, Zc⟩ := KZ19.out.three
  have Zz := KZ19.out.lt
  have hlzX : zsX.length ≤ maxLen := by unfold maxLen; have h1 := pnN_le9 t2; have h2 := HPX.out.2.2.2.2; omega
  have hlzQ : zsQ.length ≤ maxLen := by unfold maxLen; omega
  have HPFN := hid (show ∃ q, fnm kf = q from ⟨_, rfl⟩)
  obtain ⟨nm, hnm⟩ := HPFN.out
  have HNM := hid hnm
  have hnn : nm ≠ ⟨#[]⟩ := by rw [← hnm]; exact fnm_some hka
  have hnb : (nm == ⟨#[]⟩) = false := beq_ne9 hnn
  have hnb2 := isEmpty_ne hnn
  clear hnm hnn
  cases hvv : validB W1 H1 zs1
  case false =>
    obtain ⟨v1, v2, v3⟩ := pan_no hvv
    rw [HG.out.2.2] at v1
    rw [HTX.out] at v2 v3
    rw [HPR.out.2.2.2.1] at v3
    subst v1 v2 v3
    have hem : (⟨#[]⟩ : ByteArray).toList.isEmpty = true := by simp
    clear hvv
    by_cases hk0 : kf = 0
    · have hpf0 : (pfF ss).1 = 0 := HPF.out.1.trans hk0
      have hq0 : qc = 0 := HRQ.out.2.2.2.1.symm.trans (rp_yes hpf0).2.2.2.2
      obtain ⟨r1, r2, r3⟩ := read_pic hpf0
      rw [HRQ.out.1, HRQ.out.2.1, HRQ.out.2.2.1] at r1 r2 r3
      have r4 : ppN WQ HQ zsQ = ss.length := by rw [← ppL_len9, r2]
      have HRP := hid (And.intro r2 (And.intro r3 r4))
      subst hk0 hq0
      clear hpf0 r1 r2 r3 r4
      go_wp2_with fail
      refine (f6texts_any AG AM cG cM ng sg _ (StrsR.own SG19.out) (StrsR.own SM19.out) HGL.out (by omega)).mono ?_
      rintro e w20 ⟨rfl, hb20⟩
      clear Pa Pb Pc Pz Ra Rb Rc Rz Xa Xb Xc Xz Ya Yb Yc Yz Qa Qb Qc Qz Za Zb Zc Zz
      have KP20 : Hid (Box w20 bk2 39 #[.int .i64 W1, .int .i64 H1, .slice A1 zs1.length c1]) := hid (Box.keep KP19.out hb20)
      have KR20 : Hid (Box w20 bk7 39 #[.int .i64 WR, .int .i64 HR, .slice AR zsR.length cR]) := hid (Box.keep KR19.out hb20)
      have KX20 : Hid (Box w20 bk10 39 #[.int .i64 WX, .int .i64 HX, .slice AX zsX.length cX]) := hid (Box.keep KX19.out hb20)
      have KY20 : Hid (Box w20 bk12 39 #[.int .i64 WX, .int .i64 HX, .slice AY zsX.length cY]) := hid (Box.keep KY19.out hb20)
      have KQ20 : Hid (Box w20 bk17 39 #[.int .i64 WQ, .int .i64 HQ, .slice AQ zsQ.length cQ]) := hid (Box.keep KQ19.out hb20)
      have KZ20 : Hid (Box w20 bk19 39 #[.int .i64 WQ, .int .i64 HQ, .slice AZ zsQ.length cZ]) := hid (Box.keep KZ19.out hb20)
      have O120 : Hid (OwnI w20 w.heap.size (.slice A1 zs1.length c1) zs1) := hid (OwnI.keep O119.out hb20)
      have SG20 : Hid (w20.ownsRow w.heap.size 9 1 (.slice AG ng cG) ng (strs sg)) := hid (own_keep SG19.out hb20)
      have SM20 : Hid (w20.ownsRow w.heap.size 9 1 (.slice AM ng cM) ng (strs sg)) := hid (own_keep SM19.out hb20)
      have OR20 : Hid (OwnI w20 w.heap.size (.slice AR zsR.length cR) zsR) := hid (OwnI.keep OR19.out hb20)
      have OX20 : Hid (OwnI w20 w.heap.size (.slice AX zsX.length cX) zsX) := hid (OwnI.keep OX19.out hb20)
      have OY20 : Hid (OwnI w20 w.heap.size (.slice AY zsX.length cY) zsX) := hid (OwnI.keep OY19.out hb20)
      have SS20 : Hid (w20.ownsRow w.heap.size 9 1 (.slice AS ss.length cS) ss.length (strs ss)) := hid (own_keep SS19.out hb20)
      have OQ20 : Hid (OwnI w20 w.heap.size (.slice AQ zsQ.length cQ) zsQ) := hid (OwnI.keep OQ19.out hb20)
      have OZ20 : Hid (OwnI w20 w.heap.size (.slice AZ zsQ.length cZ) zsQ) := hid (OwnI.keep OZ19.out hb20)
      have HB20 : Hid (Below w.heap.size w w20) := hid (bbl HB19.out hb20)
      clear hb20 KP19 KR19 KX19 KY19 KQ19 KZ19 O119 SG19 SM19 OR19 OX19 OY19 SS19 OQ19 OZ19 HB19
      obtain ⟨Pa, Pb, Pc⟩ := KP20.out.three
      have Pz := KP20.out.lt
      obtain ⟨Ra, Rb, Rc⟩ := KR20.out.three
      have Rz := KR20.out.lt
      obtain ⟨Xa, Xb, Xc⟩ := KX20.out.three
      have Xz := KX20.out.lt
      obtain ⟨Ya, Yb, Yc⟩ := KY20.out.three
      have Yz := KY20.out.lt
      obtain ⟨Qa, Qb, Qc⟩ := KQ20.out.three
      have Qz := KQ20.out.lt
      obtain ⟨Za, Zb, Zc⟩ := KZ20.out.three
      have Zz := KZ20.out.lt
      go_wp2_with fail
      refine (specPanelText_any W1 H1 A1 c1 zs1 _ (OwnI.ints O120.out) hlz1).mono ?_
      rintro e w21 ⟨he, hb21⟩
      rw [HTX.out] at he
      subst he
      clear Pa Pb Pc Pz Ra Rb Rc Rz Xa Xb Xc Xz Ya Yb Yc Yz Qa Qb Qc Qz Za Zb Zc Zz
      have KP21 : Hid (Box w21 bk2 39 #[.int .i64 W1, .int .i64 H1, .slice A1 zs1.length c1]) := hid (Box.keep KP20.out hb21)
      have KR21 : Hid (Box w21 bk7 39 #[.int .i64 WR, .int .i64 HR, .slice AR zsR.length cR]) := hid (Box.keep KR20.out hb21)
      have KX21 : Hid (Box w21 bk10 39 #[.int .i64 WX, .int .i64 HX, .slice AX zsX.length cX]) := hid (Box.keep KX20.out hb21)
      have KY21 : Hid (Box w21 bk12 39 #[.int .i64 WX, .int .i64 HX, .slice AY zsX.length cY]) := hid (Box.keep KY20.out hb21)
      have KQ21 : Hid (Box w21 bk17 39 #[.int .i64 WQ, .int .i64 HQ, .slice AQ zsQ.length cQ]) := hid (Box.keep KQ20.out hb21)
      have KZ21 : Hid (Box w21 bk19 39 #[.int .i64 WQ, .int .i64 HQ, .slice AZ zsQ.length cZ]) := hid (Box.keep KZ20.out hb21)
      have O121 : Hid (OwnI w21 w.heap.size (.slice A1 zs1.length c1) zs1) := hid (OwnI.keep O120.out hb21)
      have SG21 : Hid (w21.ownsRow w.heap.size 9 1 (.slice AG ng cG) ng (strs sg)) := hid (own_keep SG20.out hb21)
      have SM21 : Hid (w21.ownsRow w.heap.size 9 1 (.slice AM ng cM) ng (strs sg)) := hid (own_keep SM20.out hb21)
      have OR21 : Hid (OwnI w21 w.heap.size (.slice AR zsR.length cR) zsR) := hid (OwnI.keep OR20.out hb21)
      have OX21 : Hid (OwnI w21 w.heap.size (.slice AX zsX.length cX) zsX) := hid (OwnI.keep OX20.out hb21)
      have OY21 : Hid (OwnI w21 w.heap.size (.slice AY zsX.length cY) zsX) := hid (OwnI.keep OY20.out hb21)
      have SS21 : Hid (w21.ownsRow w.heap.size 9 1 (.slice AS ss.length cS) ss.length (strs ss)) := hid (own_keep SS20.out hb21)
      have OQ21 : Hid (OwnI w21 w.heap.size (.slice AQ zsQ.length cQ) zsQ) := hid (OwnI.keep OQ20.out hb21)
      have OZ21 : Hid (OwnI w21 w.heap.size (.slice AZ zsQ.length cZ) zsQ) := hid (OwnI.keep OZ20.out hb21)
      have HB21 : Hid (Below w.heap.size w w21) := hid (bbl HB20.out hb21)
      clear hb21 KP20 KR20 KX20 KY20 KQ20 KZ20 O120 SG20 SM20 OR20 OX20 OY20 SS20 OQ20 OZ20 HB20
      obtain ⟨Pa, Pb, Pc⟩ := KP21.out.three
      have Pz := KP21.out.lt
      obtain ⟨Ra, Rb, Rc⟩ := KR21.out.three
      have Rz := KR21.out.lt
      obtain ⟨Xa, Xb, Xc⟩ := KX21.out.three
      have Xz := KX21.out.lt
      obtain ⟨Ya, Yb, Yc⟩ := KY21.out.three
      have Yz := KY21.out.lt
      obtain ⟨Qa, Qb, Qc⟩ := KQ21.out.three
      have Qz := KQ21.out.lt
      obtain ⟨Za, Zb, Zc⟩ := KZ21.out.three
      have Zz := KZ21.out.lt
      go_wp2_with fail
      refine (calls_bool (specSamePanel_any WX HX WX HX AX AY cX cY zsX zsX _ (OwnI.ints OX21.out) (OwnI.ints OY21.out) hlzX hlzX) (samB_self _ _ _)).mono ?_
      rintro e w22 ⟨rfl, hb22⟩
      clear Pa Pb Pc Pz Ra Rb Rc Rz Xa Xb Xc Xz Ya Yb Yc Yz Qa Qb Qc Qz Za Zb Zc Zz
      have KP22 : Hid (Box w22 bk2 39 #[.int .i64 W1, .int .i64 H1, .slice A1 zs1.length c1]) := hid (Box.keep KP21.out hb22)
      have KR22 : Hid (Box w22 bk7 39 #[.int .i64 WR, .int .i64 HR, .slice AR zsR.length cR]) := hid (Box.keep KR21.out hb22)
      have KX22 : Hid (Box w22 bk10 39 #[.int .i64 WX, .int .i64 HX, .slice AX zsX.length cX]) := hid (Box.keep KX21.out hb22)
      have KY22 : Hid (Box w22 bk12 39 #[.int .i64 WX, .int .i64 HX, .slice AY zsX.length cY]) := hid (Box.keep KY21.out hb22)
      have KQ22 : Hid (Box w22 bk17 39 #[.int .i64 WQ, .int .i64 HQ, .slice AQ zsQ.length cQ]) := hid (Box.keep KQ21.out hb22)
      have KZ22 : Hid (Box w22 bk19 39 #[.int .i64 WQ, .int .i64 HQ, .slice AZ zsQ.length cZ]) := hid (Box.keep KZ21.out hb22)
      have O122 : Hid (OwnI w22 w.heap.size (.slice A1 zs1.length c1) zs1) := hid (OwnI.keep O121.out hb22)
      have SG22 : Hid (w22.ownsRow w.heap.size 9 1 (.slice AG ng cG) ng (strs sg)) := hid (own_keep SG21.out hb22)
      have SM22 : Hid (w22.ownsRow w.heap.size 9 1 (.slice AM ng cM) ng (strs sg)) := hid (own_keep SM21.out hb22)
      have OR22 : Hid (OwnI w22 w.heap.size (.slice AR zsR.length cR) zsR) := hid (OwnI.keep OR21.out hb22)
      have OX22 : Hid (OwnI w22 w.heap.size (.slice AX zsX.length cX) zsX) := hid (OwnI.keep OX21.out hb22)
      have OY22 : Hid (OwnI w22 w.heap.size (.slice AY zsX.length cY) zsX) := hid (OwnI.keep OY21.out hb22)
      have SS22 : Hid (w22.ownsRow w.heap.size 9 1 (.slice AS ss.length cS) ss.length (strs ss)) := hid (own_keep SS21.out hb22)
      have OQ22 : Hid (OwnI w22 w.heap.size (.slice AQ zsQ.length cQ) zsQ) := hid (OwnI.keep OQ21.out hb22)
      have OZ22 : Hid (OwnI w22 w.heap.size (.slice AZ zsQ.length cZ) zsQ) := hid (OwnI.keep OZ21.out hb22)
      have HB22 : Hid (Below w.heap.size w w22) := hid (bbl HB21.out hb22)
      clear hb22 KP21 KR21 KX21 KY21 KQ21 KZ21 O121 SG21 SM21 OR21 OX21 OY21 SS21 OQ21 OZ21 HB21
      obtain ⟨Pa, Pb, Pc⟩ := KP22.out.three
      have Pz := KP22.out.lt
      obtain ⟨Ra, Rb, Rc⟩ := KR22.out.three
      have Rz := KR22.out.lt
      obtain ⟨Xa, Xb, Xc⟩ := KX22.out.three
      have Xz := KX22.out.lt
      obtain ⟨Ya, Yb, Yc⟩ := KY22.out.three
      have Yz := KY22.out.lt
      obtain ⟨Qa, Qb, Qc⟩ := KQ22.out.three
      have Qz := KQ22.out.lt
      obtain ⟨Za, Zb, Zc⟩ := KZ22.out.three
      have Zz := KZ22.out.lt
      go_wp2_with fail
      refine (calls_bool (specSamePanel_any WQ HQ WQ HQ AQ AZ cQ cZ zsQ zsQ _ (OwnI.ints OQ22.out) (OwnI.ints OZ22.out) hlzQ hlzQ) (samB_self _ _ _)).mono ?_
      rintro e w23 ⟨rfl, hb23⟩
      clear Pa Pb Pc Pz Ra Rb Rc Rz Xa Xb Xc Xz Ya Yb Yc Yz Qa Qb Qc Qz Za Zb Zc Zz
      have KP23 : Hid (Box w23 bk2 39 #[.int .i64 W1, .int .i64 H1, .slice A1 zs1.length c1]) := hid (Box.keep KP22.out hb23)
      have KR23 : Hid (Box w23 bk7 39 #[.int .i64 WR, .int .i64 HR, .slice AR zsR.length cR]) := hid (Box.keep KR22.out hb23)
      have KX23 : Hid (Box w23 bk10 39 #[.int .i64 WX, .int .i64 HX, .slice AX zsX.length cX]) := hid (Box.keep KX22.out hb23)
      have KY23 : Hid (Box w23 bk12 39 #[.int .i64 WX, .int .i64 HX, .slice AY zsX.length cY]) := hid (Box.keep KY22.out hb23)
      have KQ23 : Hid (Box w23 bk17 39 #[.int .i64 WQ, .int .i64 HQ, .slice AQ zsQ.length cQ]) := hid (Box.keep KQ22.out hb23)
      have KZ23 : Hid (Box w23 bk19 39 #[.int .i64 WQ, .int .i64 HQ, .slice AZ zsQ.length cZ]) := hid (Box.keep KZ22.out hb23)
      have O123 : Hid (OwnI w23 w.heap.size (.slice A1 zs1.length c1) zs1) := hid (OwnI.keep O122.out hb23)
      have SG23 : Hid (w23.ownsRow w.heap.size 9 1 (.slice AG ng cG) ng (strs sg)) := hid (own_keep SG22.out hb23)
      have SM23 : Hid (w23.ownsRow w.heap.size 9 1 (.slice AM ng cM) ng (strs sg)) := hid (own_keep SM22.out hb23)
      have OR23 : Hid (OwnI w23 w.heap.size (.slice AR zsR.length cR) zsR) := hid (OwnI.keep OR22.out hb23)
      have OX23 : Hid (OwnI w23 w.heap.size (.slice AX zsX.length cX) zsX) := hid (OwnI.keep OX22.out hb23)
      have OY23 : Hid (OwnI w23 w.heap.size (.slice AY zsX.length cY) zsX) := hid (OwnI.keep OY22.out hb23)
      have SS23 : Hid (w23.ownsRow w.heap.size 9 1 (.slice AS ss.length cS) ss.length (strs ss)) := hid (own_keep SS22.out hb23)
      have OQ23 : Hid (OwnI w23 w.heap.size (.slice AQ zsQ.length cQ) zsQ) := hid (OwnI.keep OQ22.out hb23)
      have OZ23 : Hid (OwnI w23 w.heap.size (.slice AZ zsQ.length cZ) zsQ) := hid (OwnI.keep OZ22.out hb23)
      have HB23 : Hid (Below w.heap.size w w23) := hid (bbl HB22.out hb23)
      clear hb23 KP22 KR22 KX22 KY22 KQ22 KZ22 O122 SG22 SM22 OR22 OX22 OY22 SS22 OQ22 OZ22 HB22
      obtain ⟨Pa, Pb, Pc⟩ := KP23.out.three
      have Pz := KP23.out.lt
      obtain ⟨Ra, Rb, Rc⟩ := KR23.out.three
      have Rz := KR23.out.lt
      obtain ⟨Xa, Xb, Xc⟩ := KX23.out.three
      have Xz := KX23.out.lt
      obtain ⟨Ya, Yb, Yc⟩ := KY23.out.three
      have Yz := KY23.out.lt
      obtain ⟨Qa, Qb, Qc⟩ := KQ23.out.three
      have Qz := KQ23.out.lt
      obtain ⟨Za, Zb, Zc⟩ := KZ23.out.three
      have Zz := KZ23.out.lt
      go_wp2_with fail
      refine (implPFN_any _ _ ⟨by omega, by omega⟩).mono ?_
      rintro e w24 ⟨he, hb24⟩
      rw [HNM.out] at he
      subst he
      clear Pa Pb Pc Pz Ra Rb Rc Rz Xa Xb Xc Xz Ya Yb Yc Yz Qa Qb Qc Qz Za Zb Zc Zz
      have KP24 : Hid (Box w24 bk2 39 #[.int .i64 W1, .int .i64 H1, .slice A1 zs1.length c1]) := hid (Box.keep KP23.out hb24)
      have KR24 : Hid (Box w24 bk7 39 #[.int .i64 WR, .int .i64 HR, .slice AR zsR.length cR]) := hid (Box.keep KR23.out hb24)
      have KX24 : Hid (Box w24 bk10 39 #[.int .i64 WX, .int .i64 HX, .slice AX zsX.length cX]) := hid (Box.keep KX23.out hb24)
      have KY24 : Hid (Box w24 bk12 39 #[.int .i64 WX, .int .i64 HX, .slice AY zsX.length cY]) := hid (Box.keep KY23.out hb24)
      have KQ24 : Hid (Box w24 bk17 39 #[.int .i64 WQ, .int .i64 HQ, .slice AQ zsQ.length cQ]) := hid (Box.keep KQ23.out hb24)
      have KZ24 : Hid (Box w24 bk19 39 #[.int .i64 WQ, .int .i64 HQ, .slice AZ zsQ.length cZ]) := hid (Box.keep KZ23.out hb24)
      have O124 : Hid (OwnI w24 w.heap.size (.slice A1 zs1.length c1) zs1) := hid (OwnI.keep O123.out hb24)
      have SG24 : Hid (w24.ownsRow w.heap.size 9 1 (.slice AG ng cG) ng (strs sg)) := hid (own_keep SG23.out hb24)
      have SM24 : Hid (w24.ownsRow w.heap.size 9 1 (.slice AM ng cM) ng (strs sg)) := hid (own_keep SM23.out hb24)
      have OR24 : Hid (OwnI w24 w.heap.size (.slice AR zsR.length cR) zsR) := hid (OwnI.keep OR23.out hb24)
      have OX24 : Hid (OwnI w24 w.heap.size (.slice AX zsX.length cX) zsX) := hid (OwnI.keep OX23.out hb24)
      have OY24 : Hid (OwnI w24 w.heap.size (.slice AY zsX.length cY) zsX) := hid (OwnI.keep OY23.out hb24)
      have SS24 : Hid (w24.ownsRow w.heap.size 9 1 (.slice AS ss.length cS) ss.length (strs ss)) := hid (own_keep SS23.out hb24)
      have OQ24 : Hid (OwnI w24 w.heap.size (.slice AQ zsQ.length cQ) zsQ) := hid (OwnI.keep OQ23.out hb24)
      have OZ24 : Hid (OwnI w24 w.heap.size (.slice AZ zsQ.length cZ) zsQ) := hid (OwnI.keep OZ23.out hb24)
      have HB24 : Hid (Below w.heap.size w w24) := hid (bbl HB23.out hb24)
      clear hb24 KP23 KR23 KX23 KY23 KQ23 KZ23 O123 SG23 SM23 OR23 OX23 OY23 SS23 OQ23 OZ23 HB23
      obtain ⟨Pa, Pb, Pc⟩ := KP24.out.three
      have Pz := KP24.out.lt
      obtain ⟨Ra, Rb, Rc⟩ := KR24.out.three
      have Rz := KR24.out.lt
      obtain ⟨Xa, Xb, Xc⟩ := KX24.out.three
      have Xz := KX24.out.lt
      obtain ⟨Ya, Yb, Yc⟩ := KY24.out.three
      have Yz := KY24.out.lt
      obtain ⟨Qa, Qb, Qc⟩ := KQ24.out.three
      have Qz := KQ24.out.lt
      obtain ⟨Za, Zb, Zc⟩ := KZ24.out.three
      have Zz := KZ24.out.lt
      go_wp2_with fail
      refine (implPanelPicture_any WQ HQ AQ cQ zsQ _ (OwnI.ints OQ24.out) hlzQ).mono ?_
      rintro e w25 ⟨⟨AN, cN, he, ho⟩, hb⟩
      rw [HRP.out.2.2, HRP.out.2.1] at he
      rw [HRP.out.2.2, HRP.out.1] at ho
      subst he
      clear Pa Pb Pc Pz Ra Rb Rc Rz Xa Xb Xc Xz Ya Yb Yc Yz Qa Qb Qc Qz Za Zb Zc Zz
      have hlo := HB24.out.size
      have KP25 : Hid (Box w25 bk2 39 #[.int .i64 W1, .int .i64 H1, .slice A1 zs1.length c1]) := hid (Box.keep KP24.out hb)
      have KR25 : Hid (Box w25 bk7 39 #[.int .i64 WR, .int .i64 HR, .slice AR zsR.length cR]) := hid (Box.keep KR24.out hb)
      have KX25 : Hid (Box w25 bk10 39 #[.int .i64 WX, .int .i64 HX, .slice AX zsX.length cX]) := hid (Box.keep KX24.out hb)
      have KY25 : Hid (Box w25 bk12 39 #[.int .i64 WX, .int .i64 HX, .slice AY zsX.length cY]) := hid (Box.keep KY24.out hb)
      have KQ25 : Hid (Box w25 bk17 39 #[.int .i64 WQ, .int .i64 HQ, .slice AQ zsQ.length cQ]) := hid (Box.keep KQ24.out hb)
      have KZ25 : Hid (Box w25 bk19 39 #[.int .i64 WQ, .int .i64 HQ, .slice AZ zsQ.length cZ]) := hid (Box.keep KZ24.out hb)
      have O125 : Hid (OwnI w25 w.heap.size (.slice A1 zs1.length c1) zs1) := hid (OwnI.keep O124.out hb)
      have SG25 : Hid (w25.ownsRow w.heap.size 9 1 (.slice AG ng cG) ng (strs sg)) := hid (own_keep SG24.out hb)
      have SM25 : Hid (w25.ownsRow w.heap.size 9 1 (.slice AM ng cM) ng (strs sg)) := hid (own_keep SM24.out hb)
      have OR25 : Hid (OwnI w25 w.heap.size (.slice AR zsR.length cR) zsR) := hid (OwnI.keep OR24.out hb)
      have OX25 : Hid (OwnI w25 w.heap.size (.slice AX zsX.length cX) zsX) := hid (OwnI.keep OX24.out hb)
      have OY25 : Hid (OwnI w25 w.heap.size (.slice AY zsX.length cY) zsX) := hid (OwnI.keep OY24.out hb)
      have SS25 : Hid (w25.ownsRow w.heap.size 9 1 (.slice AS ss.length cS) ss.length (strs ss)) := hid (own_keep SS24.out hb)
      have OQ25 : Hid (OwnI w25 w.heap.size (.slice AQ zsQ.length cQ) zsQ) := hid (OwnI.keep OQ24.out hb)
      have OZ25 : Hid (OwnI w25 w.heap.size (.slice AZ zsQ.length cZ) zsQ) := hid (OwnI.keep OZ24.out hb)
      have HB25 : Hid (Below w.heap.size w w25) := hid (bbl HB24.out hb)
      have SN25 : Hid (w25.ownsRow w.heap.size 9 1 (.slice AN ss.length cN) ss.length (strs ss)) := hid (Go.Joins.ownsRow_le ho hlo)
      clear hb ho hlo KP24 KR24 KX24 KY24 KQ24 KZ24 O124 SG24 SM24 OR24 OX24 OY24 SS24 OQ24 OZ24 HB24
      obtain ⟨Pa, Pb, Pc⟩ := KP25.out.three
      have Pz := KP25.out.lt
      obtain ⟨Ra, Rb, Rc⟩ := KR25.out.three
      have Rz := KR25.out.lt
      obtain ⟨Xa, Xb, Xc⟩ := KX25.out.three
      have Xz := KX25.out.lt
      obtain ⟨Ya, Yb, Yc⟩ := KY25.out.three
      have Yz := KY25.out.lt
      obtain ⟨Qa, Qb, Qc⟩ := KQ25.out.three
      have Qz := KQ25.out.lt
      obtain ⟨Za, Zb, Zc⟩ := KZ25.out.three
      have Zz := KZ25.out.lt
      go_wp2_with fail
      refine (f6texts_any AN AS cN cS ss.length ss _ (StrsR.own SN25.out) (StrsR.own SS25.out) rfl (by omega)).mono ?_
      rintro e w26 ⟨rfl, hb26⟩
      clear Pa Pb Pc Pz Ra Rb Rc Rz Xa Xb Xc Xz Ya Yb Yc Yz Qa Qb Qc Qz Za Zb Zc Zz
      have KP26 : Hid (Box w26 bk2 39 #[.int .i64 W1, .int .i64 H1, .slice A1 zs1.length c1]) := hid (Box.keep KP25.out hb26)
      have KR26 : Hid (Box w26 bk7 39 #[.int .i64 WR, .int .i64 HR, .slice AR zsR.length cR]) := hid (Box.keep KR25.out hb26)
      have KX26 : Hid (Box w26 bk10 39 #[.int .i64 WX, .int .i64 HX, .slice AX zsX.length cX]) := hid (Box.keep KX25.out hb26)
      have KY26 : Hid (Box w26 bk12 39 #[.int .i64 WX, .int .i64 HX, .slice AY zsX.length cY]) := hid (Box.keep KY25.out hb26)
      have KQ26 : Hid (Box w26 bk17 39 #[.int .i64 WQ, .int .i64 HQ, .slice AQ zsQ.length cQ]) := hid (Box.keep KQ25.out hb26)
      have KZ26 : Hid (Box w26 bk19 39 #[.int .i64 WQ, .int .i64 HQ, .slice AZ zsQ.length cZ]) := hid (Box.keep KZ25.out hb26)
      have O126 : Hid (OwnI w26 w.heap.size (.slice A1 zs1.length c1) zs1) := hid (OwnI.keep O125.out hb26)
      have SG26 : Hid (w26.ownsRow w.heap.size 9 1 (.slice AG ng cG) ng (strs sg)) := hid (own_keep SG25.out hb26)
      have SM26 : Hid (w26.ownsRow w.heap.size 9 1 (.slice AM ng cM) ng (strs sg)) := hid (own_keep SM25.out hb26)
      have OR26 : Hid (OwnI w26 w.heap.size (.slice AR zsR.length cR) zsR) := hid (OwnI.keep OR25.out hb26)
      have OX26 : Hid (OwnI w26 w.heap.size (.slice AX zsX.length cX) zsX) := hid (OwnI.keep OX25.out hb26)
      have OY26 : Hid (OwnI w26 w.heap.size (.slice AY zsX.length cY) zsX) := hid (OwnI.keep OY25.out hb26)
      have SS26 : Hid (w26.ownsRow w.heap.size 9 1 (.slice AS ss.length cS) ss.length (strs ss)) := hid (own_keep SS25.out hb26)
      have OQ26 : Hid (OwnI w26 w.heap.size (.slice AQ zsQ.length cQ) zsQ) := hid (OwnI.keep OQ25.out hb26)
      have OZ26 : Hid (OwnI w26 w.heap.size (.slice AZ zsQ.length cZ) zsQ) := hid (OwnI.keep OZ25.out hb26)
      have SN26 : Hid (w26.ownsRow w.heap.size 9 1 (.slice AN ss.length cN) ss.length (strs ss)) := hid (own_keep SN25.out hb26)
      have HB26 : Hid (Below w.heap.size w w26) := hid (bbl HB25.out hb26)
      clear hb26 KP25 KR25 KX25 KY25 KQ25 KZ25 O125 SG25 SM25 OR25 OX25 OY25 SS25 OQ25 OZ25 SN25 HB25
      obtain ⟨Pa, Pb, Pc⟩ := KP26.out.three
      have Pz := KP26.out.lt
      obtain ⟨Ra, Rb, Rc⟩ := KR26.out.three
      have Rz := KR26.out.lt
      obtain ⟨Xa, Xb, Xc⟩ := KX26.out.three
      have Xz := KX26.out.lt
      obtain ⟨Ya, Yb, Yc⟩ := KY26.out.three
      have Yz := KY26.out.lt
      obtain ⟨Qa, Qb, Qc⟩ := KQ26.out.three
      have Qz := KQ26.out.lt
      obtain ⟨Za, Zb, Zc⟩ := KZ26.out.three
      have Zz := KZ26.out.lt
      go_wp2_with fail
      go_ret
      exact ⟨rfl, HB26.out⟩
    · have hpf0 : ¬ (pfF ss).1 = 0 := fun h => hk0 (HPF.out.1.symm.trans h)
      have hq0 : qc = 8 := HRQ.out.2.2.2.1.symm.trans (rp_no hpf0).2.2.2.2
      have hkb : (kf == 0) = false := by simp [hk0]
      subst hq0
      clear hpf0
      go_wp2_with fail
      refine (f6texts_any AG AM cG cM ng sg _ (StrsR.own SG19.out) (StrsR.own SM19.out) HGL.out (by omega)).mono ?_
      rintro e w20 ⟨rfl, hb20⟩
      clear Pa Pb Pc Pz Ra Rb Rc Rz Xa Xb Xc Xz Ya Yb Yc Yz Qa Qb Qc Qz Za Zb Zc Zz
      have KP20 : Hid (Box w20 bk2 39 #[.int .i64 W1, .int .i64 H1, .slice A1 zs1.length c1]) := hid (Box.keep KP19.out hb20)
      have KR20 : Hid (Box w20 bk7 39 #[.int .i64 WR, .int .i64 HR, .slice AR zsR.length cR]) := hid (Box.keep KR19.out hb20)
      have KX20 : Hid (Box w20 bk10 39 #[.int .i64 WX, .int .i64 HX, .slice AX zsX.length cX]) := hid (Box.keep KX19.out hb20)
      have KY20 : Hid (Box w20 bk12 39 #[.int .i64 WX, .int .i64 HX, .slice AY zsX.length cY]) := hid (Box.keep KY19.out hb20)
      have KQ20 : Hid (Box w20 bk17 39 #[.int .i64 WQ, .int .i64 HQ, .slice AQ zsQ.length cQ]) := hid (Box.keep KQ19.out hb20)
      have KZ20 : Hid (Box w20 bk19 39 #[.int .i64 WQ, .int .i64 HQ, .slice AZ zsQ.length cZ]) := hid (Box.keep KZ19.out hb20)
      have O120 : Hid (OwnI w20 w.heap.size (.slice A1 zs1.length c1) zs1) := hid (OwnI.keep O119.out hb20)
      have SG20 : Hid (w20.ownsRow w.heap.size 9 1 (.slice AG ng cG) ng (strs sg)) := hid (own_keep SG19.out hb20)
      have SM20 : Hid (w20.ownsRow w.heap.size 9 1 (.slice AM ng cM) ng (strs sg)) := hid (own_keep SM19.out hb20)
      have OR20 : Hid (OwnI w20 w.heap.size (.slice AR zsR.length cR) zsR) := hid (OwnI.keep OR19.out hb20)
      have OX20 : Hid (OwnI w20 w.heap.size (.slice AX zsX.length cX) zsX) := hid (OwnI.keep OX19.out hb20)
      have OY20 : Hid (OwnI w20 w.heap.size (.slice AY zsX.length cY) zsX) := hid (OwnI.keep OY19.out hb20)
      have SS20 : Hid (w20.ownsRow w.heap.size 9 1 (.slice AS ss.length cS) ss.length (strs ss)) := hid (own_keep SS19.out hb20)
      have OQ20 : Hid (OwnI w20 w.heap.size (.slice AQ zsQ.length cQ) zsQ) := hid (OwnI.keep OQ19.out hb20)
      have OZ20 : Hid (OwnI w20 w.heap.size (.slice AZ zsQ.length cZ) zsQ) := hid (OwnI.keep OZ19.out hb20)
      have HB20 : Hid (Below w.heap.size w w20) := hid (bbl HB19.out hb20)
      clear hb20 KP19 KR19 KX19 KY19 KQ19 KZ19 O119 SG19 SM19 OR19 OX19 OY19 SS19 OQ19 OZ19 HB19
      obtain ⟨Pa, Pb, Pc⟩ := KP20.out.three
      have Pz := KP20.out.lt
      obtain ⟨Ra, Rb, Rc⟩ := KR20.out.three
      have Rz := KR20.out.lt
      obtain ⟨Xa, Xb, Xc⟩ := KX20.out.three
      have Xz := KX20.out.lt
      obtain ⟨Ya, Yb, Yc⟩ := KY20.out.three
      have Yz := KY20.out.lt
      obtain ⟨Qa, Qb, Qc⟩ := KQ20.out.three
      have Qz := KQ20.out.lt
      obtain ⟨Za, Zb, Zc⟩ := KZ20.out.three
      have Zz := KZ20.out.lt
      go_wp2_with fail
      refine (specPanelText_any W1 H1 A1 c1 zs1 _ (OwnI.ints O120.out) hlz1).mono ?_
      rintro e w21 ⟨he, hb21⟩
      rw [HTX.out] at he
      subst he
      clear Pa Pb Pc Pz Ra Rb Rc Rz Xa Xb Xc Xz Ya Yb Yc Yz Qa Qb Qc Qz Za Zb Zc Zz
      have KP21 : Hid (Box w21 bk2 39 #[.int .i64 W1, .int .i64 H1, .slice A1 zs1.length c1]) := hid (Box.keep KP20.out hb21)
      have KR21 : Hid (Box w21 bk7 39 #[.int .i64 WR, .int .i64 HR, .slice AR zsR.length cR]) := hid (Box.keep KR20.out hb21)
      have KX21 : Hid (Box w21 bk10 39 #[.int .i64 WX, .int .i64 HX, .slice AX zsX.length cX]) := hid (Box.keep KX20.out hb21)
      have KY21 : Hid (Box w21 bk12 39 #[.int .i64 WX, .int .i64 HX, .slice AY zsX.length cY]) := hid (Box.keep KY20.out hb21)
      have KQ21 : Hid (Box w21 bk17 39 #[.int .i64 WQ, .int .i64 HQ, .slice AQ zsQ.length cQ]) := hid (Box.keep KQ20.out hb21)
      have KZ21 : Hid (Box w21 bk19 39 #[.int .i64 WQ, .int .i64 HQ, .slice AZ zsQ.length cZ]) := hid (Box.keep KZ20.out hb21)
      have O121 : Hid (OwnI w21 w.heap.size (.slice A1 zs1.length c1) zs1) := hid (OwnI.keep O120.out hb21)
      have SG21 : Hid (w21.ownsRow w.heap.size 9 1 (.slice AG ng cG) ng (strs sg)) := hid (own_keep SG20.out hb21)
      have SM21 : Hid (w21.ownsRow w.heap.size 9 1 (.slice AM ng cM) ng (strs sg)) := hid (own_keep SM20.out hb21)
      have OR21 : Hid (OwnI w21 w.heap.size (.slice AR zsR.length cR) zsR) := hid (OwnI.keep OR20.out hb21)
      have OX21 : Hid (OwnI w21 w.heap.size (.slice AX zsX.length cX) zsX) := hid (OwnI.keep OX20.out hb21)
      have OY21 : Hid (OwnI w21 w.heap.size (.slice AY zsX.length cY) zsX) := hid (OwnI.keep OY20.out hb21)
      have SS21 : Hid (w21.ownsRow w.heap.size 9 1 (.slice AS ss.length cS) ss.length (strs ss)) := hid (own_keep SS20.out hb21)
      have OQ21 : Hid (OwnI w21 w.heap.size (.slice AQ zsQ.length cQ) zsQ) := hid (OwnI.keep OQ20.out hb21)
      have OZ21 : Hid (OwnI w21 w.heap.size (.slice AZ zsQ.length cZ) zsQ) := hid (OwnI.keep OZ20.out hb21)
      have HB21 : Hid (Below w.heap.size w w21) := hid (bbl HB20.out hb21)
      clear hb21 KP20 KR20 KX20 KY20 KQ20 KZ20 O120 SG20 SM20 OR20 OX20 OY20 SS20 OQ20 OZ20 HB20
      obtain ⟨Pa, Pb, Pc⟩ := KP21.out.three
      have Pz := KP21.out.lt
      obtain ⟨Ra, Rb, Rc⟩ := KR21.out.three
      have Rz := KR21.out.lt
      obtain ⟨Xa, Xb, Xc⟩ := KX21.out.three
      have Xz := KX21.out.lt
      obtain ⟨Ya, Yb, Yc⟩ := KY21.out.three
      have Yz := KY21.out.lt
      obtain ⟨Qa, Qb, Qc⟩ := KQ21.out.three
      have Qz := KQ21.out.lt
      obtain ⟨Za, Zb, Zc⟩ := KZ21.out.three
      have Zz := KZ21.out.lt
      go_wp2_with fail
      refine (calls_bool (specSamePanel_any WX HX WX HX AX AY cX cY zsX zsX _ (OwnI.ints OX21.out) (OwnI.ints OY21.out) hlzX hlzX) (samB_self _ _ _)).mono ?_
      rintro e w22 ⟨rfl, hb22⟩
      clear Pa Pb Pc Pz Ra Rb Rc Rz Xa Xb Xc Xz Ya Yb Yc Yz Qa Qb Qc Qz Za Zb Zc Zz
      have KP22 : Hid (Box w22 bk2 39 #[.int .i64 W1, .int .i64 H1, .slice A1 zs1.length c1]) := hid (Box.keep KP21.out hb22)
      have KR22 : Hid (Box w22 bk7 39 #[.int .i64 WR, .int .i64 HR, .slice AR zsR.length cR]) := hid (Box.keep KR21.out hb22)
      have KX22 : Hid (Box w22 bk10 39 #[.int .i64 WX, .int .i64 HX, .slice AX zsX.length cX]) := hid (Box.keep KX21.out hb22)
      have KY22 : Hid (Box w22 bk12 39 #[.int .i64 WX, .int .i64 HX, .slice AY zsX.length cY]) := hid (Box.keep KY21.out hb22)
      have KQ22 : Hid (Box w22 bk17 39 #[.int .i64 WQ, .int .i64 HQ, .slice AQ zsQ.length cQ]) := hid (Box.keep KQ21.out hb22)
      have KZ22 : Hid (Box w22 bk19 39 #[.int .i64 WQ, .int .i64 HQ, .slice AZ zsQ.length cZ]) := hid (Box.keep KZ21.out hb22)
      have O122 : Hid (OwnI w22 w.heap.size (.slice A1 zs1.length c1) zs1) := hid (OwnI.keep O121.out hb22)
      have SG22 : Hid (w22.ownsRow w.heap.size 9 1 (.slice AG ng cG) ng (strs sg)) := hid (own_keep SG21.out hb22)
      have SM22 : Hid (w22.ownsRow w.heap.size 9 1 (.slice AM ng cM) ng (strs sg)) := hid (own_keep SM21.out hb22)
      have OR22 : Hid (OwnI w22 w.heap.size (.slice AR zsR.length cR) zsR) := hid (OwnI.keep OR21.out hb22)
      have OX22 : Hid (OwnI w22 w.heap.size (.slice AX zsX.length cX) zsX) := hid (OwnI.keep OX21.out hb22)
      have OY22 : Hid (OwnI w22 w.heap.size (.slice AY zsX.length cY) zsX) := hid (OwnI.keep OY21.out hb22)
      have SS22 : Hid (w22.ownsRow w.heap.size 9 1 (.slice AS ss.length cS) ss.length (strs ss)) := hid (own_keep SS21.out hb22)
      have OQ22 : Hid (OwnI w22 w.heap.size (.slice AQ zsQ.length cQ) zsQ) := hid (OwnI.keep OQ21.out hb22)
      have OZ22 : Hid (OwnI w22 w.heap.size (.slice AZ zsQ.length cZ) zsQ) := hid (OwnI.keep OZ21.out hb22)
      have HB22 : Hid (Below w.heap.size w w22) := hid (bbl HB21.out hb22)
      clear hb22 KP21 KR21 KX21 KY21 KQ21 KZ21 O121 SG21 SM21 OR21 OX21 OY21 SS21 OQ21 OZ21 HB21
      obtain ⟨Pa, Pb, Pc⟩ := KP22.out.three
      have Pz := KP22.out.lt
      obtain ⟨Ra, Rb, Rc⟩ := KR22.out.three
      have Rz := KR22.out.lt
      obtain ⟨Xa, Xb, Xc⟩ := KX22.out.three
      have Xz := KX22.out.lt
      obtain ⟨Ya, Yb, Yc⟩ := KY22.out.three
      have Yz := KY22.out.lt
      obtain ⟨Qa, Qb, Qc⟩ := KQ22.out.three
      have Qz := KQ22.out.lt
      obtain ⟨Za, Zb, Zc⟩ := KZ22.out.three
      have Zz := KZ22.out.lt
      go_wp2_with fail
      refine (calls_bool (specSamePanel_any WQ HQ WQ HQ AQ AZ cQ cZ zsQ zsQ _ (OwnI.ints OQ22.out) (OwnI.ints OZ22.out) hlzQ hlzQ) (samB_self _ _ _)).mono ?_
      rintro e w23 ⟨rfl, hb23⟩
      clear Pa Pb Pc Pz Ra Rb Rc Rz Xa Xb Xc Xz Ya Yb Yc Yz Qa Qb Qc Qz Za Zb Zc Zz
      have KP23 : Hid (Box w23 bk2 39 #[.int .i64 W1, .int .i64 H1, .slice A1 zs1.length c1]) := hid (Box.keep KP22.out hb23)
      have KR23 : Hid (Box w23 bk7 39 #[.int .i64 WR, .int .i64 HR, .slice AR zsR.length cR]) := hid (Box.keep KR22.out hb23)
      have KX23 : Hid (Box w23 bk10 39 #[.int .i64 WX, .int .i64 HX, .slice AX zsX.length cX]) := hid (Box.keep KX22.out hb23)
      have KY23 : Hid (Box w23 bk12 39 #[.int .i64 WX, .int .i64 HX, .slice AY zsX.length cY]) := hid (Box.keep KY22.out hb23)
      have KQ23 : Hid (Box w23 bk17 39 #[.int .i64 WQ, .int .i64 HQ, .slice AQ zsQ.length cQ]) := hid (Box.keep KQ22.out hb23)
      have KZ23 : Hid (Box w23 bk19 39 #[.int .i64 WQ, .int .i64 HQ, .slice AZ zsQ.length cZ]) := hid (Box.keep KZ22.out hb23)
      have O123 : Hid (OwnI w23 w.heap.size (.slice A1 zs1.length c1) zs1) := hid (OwnI.keep O122.out hb23)
      have SG23 : Hid (w23.ownsRow w.heap.size 9 1 (.slice AG ng cG) ng (strs sg)) := hid (own_keep SG22.out hb23)
      have SM23 : Hid (w23.ownsRow w.heap.size 9 1 (.slice AM ng cM) ng (strs sg)) := hid (own_keep SM22.out hb23)
      have OR23 : Hid (OwnI w23 w.heap.size (.slice AR zsR.length cR) zsR) := hid (OwnI.keep OR22.out hb23)
      have OX23 : Hid (OwnI w23 w.heap.size (.slice AX zsX.length cX) zsX) := hid (OwnI.keep OX22.out hb23)
      have OY23 : Hid (OwnI w23 w.heap.size (.slice AY zsX.length cY) zsX) := hid (OwnI.keep OY22.out hb23)
      have SS23 : Hid (w23.ownsRow w.heap.size 9 1 (.slice AS ss.length cS) ss.length (strs ss)) := hid (own_keep SS22.out hb23)
      have OQ23 : Hid (OwnI w23 w.heap.size (.slice AQ zsQ.length cQ) zsQ) := hid (OwnI.keep OQ22.out hb23)
      have OZ23 : Hid (OwnI w23 w.heap.size (.slice AZ zsQ.length cZ) zsQ) := hid (OwnI.keep OZ22.out hb23)
      have HB23 : Hid (Below w.heap.size w w23) := hid (bbl HB22.out hb23)
      clear hb23 KP22 KR22 KX22 KY22 KQ22 KZ22 O122 SG22 SM22 OR22 OX22 OY22 SS22 OQ22 OZ22 HB22
      obtain ⟨Pa, Pb, Pc⟩ := KP23.out.three
      have Pz := KP23.out.lt
      obtain ⟨Ra, Rb, Rc⟩ := KR23.out.three
      have Rz := KR23.out.lt
      obtain ⟨Xa, Xb, Xc⟩ := KX23.out.three
      have Xz := KX23.out.lt
      obtain ⟨Ya, Yb, Yc⟩ := KY23.out.three
      have Yz := KY23.out.lt
      obtain ⟨Qa, Qb, Qc⟩ := KQ23.out.three
      have Qz := KQ23.out.lt
      obtain ⟨Za, Zb, Zc⟩ := KZ23.out.three
      have Zz := KZ23.out.lt
      go_wp2_with fail
      refine (implPFN_any _ _ ⟨by omega, by omega⟩).mono ?_
      rintro e w24 ⟨he, hb24⟩
      rw [HNM.out] at he
      subst he
      clear Pa Pb Pc Pz Ra Rb Rc Rz Xa Xb Xc Xz Ya Yb Yc Yz Qa Qb Qc Qz Za Zb Zc Zz
      have KP24 : Hid (Box w24 bk2 39 #[.int .i64 W1, .int .i64 H1, .slice A1 zs1.length c1]) := hid (Box.keep KP23.out hb24)
      have KR24 : Hid (Box w24 bk7 39 #[.int .i64 WR, .int .i64 HR, .slice AR zsR.length cR]) := hid (Box.keep KR23.out hb24)
      have KX24 : Hid (Box w24 bk10 39 #[.int .i64 WX, .int .i64 HX, .slice AX zsX.length cX]) := hid (Box.keep KX23.out hb24)
      have KY24 : Hid (Box w24 bk12 39 #[.int .i64 WX, .int .i64 HX, .slice AY zsX.length cY]) := hid (Box.keep KY23.out hb24)
      have KQ24 : Hid (Box w24 bk17 39 #[.int .i64 WQ, .int .i64 HQ, .slice AQ zsQ.length cQ]) := hid (Box.keep KQ23.out hb24)
      have KZ24 : Hid (Box w24 bk19 39 #[.int .i64 WQ, .int .i64 HQ, .slice AZ zsQ.length cZ]) := hid (Box.keep KZ23.out hb24)
      have O124 : Hid (OwnI w24 w.heap.size (.slice A1 zs1.length c1) zs1) := hid (OwnI.keep O123.out hb24)
      have SG24 : Hid (w24.ownsRow w.heap.size 9 1 (.slice AG ng cG) ng (strs sg)) := hid (own_keep SG23.out hb24)
      have SM24 : Hid (w24.ownsRow w.heap.size 9 1 (.slice AM ng cM) ng (strs sg)) := hid (own_keep SM23.out hb24)
      have OR24 : Hid (OwnI w24 w.heap.size (.slice AR zsR.length cR) zsR) := hid (OwnI.keep OR23.out hb24)
      have OX24 : Hid (OwnI w24 w.heap.size (.slice AX zsX.length cX) zsX) := hid (OwnI.keep OX23.out hb24)
      have OY24 : Hid (OwnI w24 w.heap.size (.slice AY zsX.length cY) zsX) := hid (OwnI.keep OY23.out hb24)
      have SS24 : Hid (w24.ownsRow w.heap.size 9 1 (.slice AS ss.length cS) ss.length (strs ss)) := hid (own_keep SS23.out hb24)
      have OQ24 : Hid (OwnI w24 w.heap.size (.slice AQ zsQ.length cQ) zsQ) := hid (OwnI.keep OQ23.out hb24)
      have OZ24 : Hid (OwnI w24 w.heap.size (.slice AZ zsQ.length cZ) zsQ) := hid (OwnI.keep OZ23.out hb24)
      have HB24 : Hid (Below w.heap.size w w24) := hid (bbl HB23.out hb24)
      clear hb24 KP23 KR23 KX23 KY23 KQ23 KZ23 O123 SG23 SM23 OR23 OX23 OY23 SS23 OQ23 OZ23 HB23
      obtain ⟨Pa, Pb, Pc⟩ := KP24.out.three
      have Pz := KP24.out.lt
      obtain ⟨Ra, Rb, Rc⟩ := KR24.out.three
      have Rz := KR24.out.lt
      obtain ⟨Xa, Xb, Xc⟩ := KX24.out.three
      have Xz := KX24.out.lt
      obtain ⟨Ya, Yb, Yc⟩ := KY24.out.three
      have Yz := KY24.out.lt
      obtain ⟨Qa, Qb, Qc⟩ := KQ24.out.three
      have Qz := KQ24.out.lt
      obtain ⟨Za, Zb, Zc⟩ := KZ24.out.three
      have Zz := KZ24.out.lt
      go_wp2_with fail
      go_ret
      exact ⟨rfl, HB24.out⟩
  case true =>
    obtain ⟨v1, v2, ⟨v3, v4, v5, v6⟩, v7, v8, v9, v10⟩ := pan_yes hvv
    have hgz := pic_size hvv
    rw [HG.out.2.2] at v1
    rw [HTX.out] at v2 v3 v4 v5 v6
    rw [HG.out.2.1] at v7 v8 v9 v10 hgz
    rw [HPR.out.2.2.2.1] at v3
    rw [HPR.out.1] at v4
    rw [HPR.out.2.1] at v5
    rw [HPR.out.2.2.1] at v6
    have htn : tx ≠ ⟨#[]⟩ := by rw [v2]; exact tx_some
    have htb : (tx != ⟨#[]⟩) = true := bne_ne9 htn
    have htb2 : (tx == ⟨#[]⟩) = false := beq_ne9 htn
    have htb3 := isEmpty_ne htn
    have HRB := hid (And.intro v7 (And.intro v8 (And.intro v9 (And.intro v10 (show rpN sg = zs1.length by rw [← rpL_length, v9])))))
    have HGZ := hid (sizes_le hgz (by omega))
    have hgl20 : sg.length ≤ 1048576 := by have := HGL.out; omega
    have v4 := v4.symm
    have v5 := v5.symm
    have v6 := v6.symm
    subst v1 v3 v4 v5 v6
    clear v2 v7 v8 v9 v10 hgz hvv htn
    obtain rfl : ng = sg.length := HGL.out.symm
    by_cases hk0 : kf = 0
    · have hpf0 : (pfF ss).1 = 0 := HPF.out.1.trans hk0
      have hq0 : qc = 0 := HRQ.out.2.2.2.1.symm.trans (rp_yes hpf0).2.2.2.2
      obtain ⟨r1, r2, r3⟩ := read_pic hpf0
      rw [HRQ.out.1, HRQ.out.2.1, HRQ.out.2.2.1] at r1 r2 r3
      have r4 : ppN WQ HQ zsQ = ss.length := by rw [← ppL_len9, r2]
      have HRP := hid (And.intro r2 (And.intro r3 r4))
      subst hk0 hq0
      clear hpf0 r1 r2 r3 r4
      go_wp2_with fail
      refine (f6texts_any AG AM cG cM sg.length sg _ (StrsR.own SG19.out) (StrsR.own SM19.out) rfl (by omega)).mono ?_
      rintro e w20 ⟨rfl, hb20⟩
      clear Pa Pb Pc Pz Ra Rb Rc Rz Xa Xb Xc Xz Ya Yb Yc Yz Qa Qb Qc Qz Za Zb Zc Zz
      have KP20 : Hid (Box w20 bk2 39 #[.int .i64 W1, .int .i64 H1, .slice A1 zs1.length c1]) := hid (Box.keep KP19.out hb20)
      have KR20 : Hid (Box w20 bk7 39 #[.int .i64 W1, .int .i64 H1, .slice AR zs1.length cR]) := hid (Box.keep KR19.out hb20)
      have KX20 : Hid (Box w20 bk10 39 #[.int .i64 WX, .int .i64 HX, .slice AX zsX.length cX]) := hid (Box.keep KX19.out hb20)
      have KY20 : Hid (Box w20 bk12 39 #[.int .i64 WX, .int .i64 HX, .slice AY zsX.length cY]) := hid (Box.keep KY19.out hb20)
      have KQ20 : Hid (Box w20 bk17 39 #[.int .i64 WQ, .int .i64 HQ, .slice AQ zsQ.length cQ]) := hid (Box.keep KQ19.out hb20)
      have KZ20 : Hid (Box w20 bk19 39 #[.int .i64 WQ, .int .i64 HQ, .slice AZ zsQ.length cZ]) := hid (Box.keep KZ19.out hb20)
      have O120 : Hid (OwnI w20 w.heap.size (.slice A1 zs1.length c1) zs1) := hid (OwnI.keep O119.out hb20)
      have SG20 : Hid (w20.ownsRow w.heap.size 9 1 (.slice AG sg.length cG) sg.length (strs sg)) := hid (own_keep SG19.out hb20)
      have SM20 : Hid (w20.ownsRow w.heap.size 9 1 (.slice AM sg.length cM) sg.length (strs sg)) := hid (own_keep SM19.out hb20)
      have OR20 : Hid (OwnI w20 w.heap.size (.slice AR zs1.length cR) zs1) := hid (OwnI.keep OR19.out hb20)
      have OX20 : Hid (OwnI w20 w.heap.size (.slice AX zsX.length cX) zsX) := hid (OwnI.keep OX19.out hb20)
      have OY20 : Hid (OwnI w20 w.heap.size (.slice AY zsX.length cY) zsX) := hid (OwnI.keep OY19.out hb20)
      have SS20 : Hid (w20.ownsRow w.heap.size 9 1 (.slice AS ss.length cS) ss.length (strs ss)) := hid (own_keep SS19.out hb20)
      have OQ20 : Hid (OwnI w20 w.heap.size (.slice AQ zsQ.length cQ) zsQ) := hid (OwnI.keep OQ19.out hb20)
      have OZ20 : Hid (OwnI w20 w.heap.size (.slice AZ zsQ.length cZ) zsQ) := hid (OwnI.keep OZ19.out hb20)
      have HB20 : Hid (Below w.heap.size w w20) := hid (bbl HB19.out hb20)
      clear hb20 KP19 KR19 KX19 KY19 KQ19 KZ19 O119 SG19 SM19 OR19 OX19 OY19 SS19 OQ19 OZ19 HB19
      obtain ⟨Pa, Pb, Pc⟩ := KP20.out.three
      have Pz := KP20.out.lt
      obtain ⟨Ra, Rb, Rc⟩ := KR20.out.three
      have Rz := KR20.out.lt
      obtain ⟨Xa, Xb, Xc⟩ := KX20.out.three
      have Xz := KX20.out.lt
      obtain ⟨Ya, Yb, Yc⟩ := KY20.out.three
      have Yz := KY20.out.lt
      obtain ⟨Qa, Qb, Qc⟩ := KQ20.out.three
      have Qz := KQ20.out.lt
      obtain ⟨Za, Zb, Zc⟩ := KZ20.out.three
      have Zz := KZ20.out.lt
      go_wp2_with fail
      refine (specPanelText_any W1 H1 A1 c1 zs1 _ (OwnI.ints O120.out) hlz1).mono ?_
      rintro e w21 ⟨he, hb21⟩
      rw [HTX.out] at he
      subst he
      clear Pa Pb Pc Pz Ra Rb Rc Rz Xa Xb Xc Xz Ya Yb Yc Yz Qa Qb Qc Qz Za Zb Zc Zz
      have KP21 : Hid (Box w21 bk2 39 #[.int .i64 W1, .int .i64 H1, .slice A1 zs1.length c1]) := hid (Box.keep KP20.out hb21)
      have KR21 : Hid (Box w21 bk7 39 #[.int .i64 W1, .int .i64 H1, .slice AR zs1.length cR]) := hid (Box.keep KR20.out hb21)
      have KX21 : Hid (Box w21 bk10 39 #[.int .i64 WX, .int .i64 HX, .slice AX zsX.length cX]) := hid (Box.keep KX20.out hb21)
      have KY21 : Hid (Box w21 bk12 39 #[.int .i64 WX, .int .i64 HX, .slice AY zsX.length cY]) := hid (Box.keep KY20.out hb21)
      have KQ21 : Hid (Box w21 bk17 39 #[.int .i64 WQ, .int .i64 HQ, .slice AQ zsQ.length cQ]) := hid (Box.keep KQ20.out hb21)
      have KZ21 : Hid (Box w21 bk19 39 #[.int .i64 WQ, .int .i64 HQ, .slice AZ zsQ.length cZ]) := hid (Box.keep KZ20.out hb21)
      have O121 : Hid (OwnI w21 w.heap.size (.slice A1 zs1.length c1) zs1) := hid (OwnI.keep O120.out hb21)
      have SG21 : Hid (w21.ownsRow w.heap.size 9 1 (.slice AG sg.length cG) sg.length (strs sg)) := hid (own_keep SG20.out hb21)
      have SM21 : Hid (w21.ownsRow w.heap.size 9 1 (.slice AM sg.length cM) sg.length (strs sg)) := hid (own_keep SM20.out hb21)
      have OR21 : Hid (OwnI w21 w.heap.size (.slice AR zs1.length cR) zs1) := hid (OwnI.keep OR20.out hb21)
      have OX21 : Hid (OwnI w21 w.heap.size (.slice AX zsX.length cX) zsX) := hid (OwnI.keep OX20.out hb21)
      have OY21 : Hid (OwnI w21 w.heap.size (.slice AY zsX.length cY) zsX) := hid (OwnI.keep OY20.out hb21)
      have SS21 : Hid (w21.ownsRow w.heap.size 9 1 (.slice AS ss.length cS) ss.length (strs ss)) := hid (own_keep SS20.out hb21)
      have OQ21 : Hid (OwnI w21 w.heap.size (.slice AQ zsQ.length cQ) zsQ) := hid (OwnI.keep OQ20.out hb21)
      have OZ21 : Hid (OwnI w21 w.heap.size (.slice AZ zsQ.length cZ) zsQ) := hid (OwnI.keep OZ20.out hb21)
      have HB21 : Hid (Below w.heap.size w w21) := hid (bbl HB20.out hb21)
      clear hb21 KP20 KR20 KX20 KY20 KQ20 KZ20 O120 SG20 SM20 OR20 OX20 OY20 SS20 OQ20 OZ20 HB20
      obtain ⟨Pa, Pb, Pc⟩ := KP21.out.three
      have Pz := KP21.out.lt
      obtain ⟨Ra, Rb, Rc⟩ := KR21.out.three
      have Rz := KR21.out.lt
      obtain ⟨Xa, Xb, Xc⟩ := KX21.out.three
      have Xz := KX21.out.lt
      obtain ⟨Ya, Yb, Yc⟩ := KY21.out.three
      have Yz := KY21.out.lt
      obtain ⟨Qa, Qb, Qc⟩ := KQ21.out.three
      have Qz := KQ21.out.lt
      obtain ⟨Za, Zb, Zc⟩ := KZ21.out.three
      have Zz := KZ21.out.lt
      go_wp2_with fail
      refine (calls_bool (specSamePanel_any W1 H1 W1 H1 AR A1 cR c1 zs1 zs1 _ (OwnI.ints OR21.out) (OwnI.ints O121.out) hlz1 hlz1) (samB_self _ _ _)).mono ?_
      rintro e w22 ⟨rfl, hb22⟩
      clear Pa Pb Pc Pz Ra Rb Rc Rz Xa Xb Xc Xz Ya Yb Yc Yz Qa Qb Qc Qz Za Zb Zc Zz
      have KP22 : Hid (Box w22 bk2 39 #[.int .i64 W1, .int .i64 H1, .slice A1 zs1.length c1]) := hid (Box.keep KP21.out hb22)
      have KR22 : Hid (Box w22 bk7 39 #[.int .i64 W1, .int .i64 H1, .slice AR zs1.length cR]) := hid (Box.keep KR21.out hb22)
      have KX22 : Hid (Box w22 bk10 39 #[.int .i64 WX, .int .i64 HX, .slice AX zsX.length cX]) := hid (Box.keep KX21.out hb22)
      have KY22 : Hid (Box w22 bk12 39 #[.int .i64 WX, .int .i64 HX, .slice AY zsX.length cY]) := hid (Box.keep KY21.out hb22)
      have KQ22 : Hid (Box w22 bk17 39 #[.int .i64 WQ, .int .i64 HQ, .slice AQ zsQ.length cQ]) := hid (Box.keep KQ21.out hb22)
      have KZ22 : Hid (Box w22 bk19 39 #[.int .i64 WQ, .int .i64 HQ, .slice AZ zsQ.length cZ]) := hid (Box.keep KZ21.out hb22)
      have O122 : Hid (OwnI w22 w.heap.size (.slice A1 zs1.length c1) zs1) := hid (OwnI.keep O121.out hb22)
      have SG22 : Hid (w22.ownsRow w.heap.size 9 1 (.slice AG sg.length cG) sg.length (strs sg)) := hid (own_keep SG21.out hb22)
      have SM22 : Hid (w22.ownsRow w.heap.size 9 1 (.slice AM sg.length cM) sg.length (strs sg)) := hid (own_keep SM21.out hb22)
      have OR22 : Hid (OwnI w22 w.heap.size (.slice AR zs1.length cR) zs1) := hid (OwnI.keep OR21.out hb22)
      have OX22 : Hid (OwnI w22 w.heap.size (.slice AX zsX.length cX) zsX) := hid (OwnI.keep OX21.out hb22)
      have OY22 : Hid (OwnI w22 w.heap.size (.slice AY zsX.length cY) zsX) := hid (OwnI.keep OY21.out hb22)
      have SS22 : Hid (w22.ownsRow w.heap.size 9 1 (.slice AS ss.length cS) ss.length (strs ss)) := hid (own_keep SS21.out hb22)
      have OQ22 : Hid (OwnI w22 w.heap.size (.slice AQ zsQ.length cQ) zsQ) := hid (OwnI.keep OQ21.out hb22)
      have OZ22 : Hid (OwnI w22 w.heap.size (.slice AZ zsQ.length cZ) zsQ) := hid (OwnI.keep OZ21.out hb22)
      have HB22 : Hid (Below w.heap.size w w22) := hid (bbl HB21.out hb22)
      clear hb22 KP21 KR21 KX21 KY21 KQ21 KZ21 O121 SG21 SM21 OR21 OX21 OY21 SS21 OQ21 OZ21 HB21
      obtain ⟨Pa, Pb, Pc⟩ := KP22.out.three
      have Pz := KP22.out.lt
      obtain ⟨Ra, Rb, Rc⟩ := KR22.out.three
      have Rz := KR22.out.lt
      obtain ⟨Xa, Xb, Xc⟩ := KX22.out.three
      have Xz := KX22.out.lt
      obtain ⟨Ya, Yb, Yc⟩ := KY22.out.three
      have Yz := KY22.out.lt
      obtain ⟨Qa, Qb, Qc⟩ := KQ22.out.three
      have Qz := KQ22.out.lt
      obtain ⟨Za, Zb, Zc⟩ := KZ22.out.three
      have Zz := KZ22.out.lt
      go_wp2_with fail
      refine (calls_bool (specSamePanel_any WX HX WX HX AX AY cX cY zsX zsX _ (OwnI.ints OX22.out) (OwnI.ints OY22.out) hlzX hlzX) (samB_self _ _ _)).mono ?_
      rintro e w23 ⟨rfl, hb23⟩
      clear Pa Pb Pc Pz Ra Rb Rc Rz Xa Xb Xc Xz Ya Yb Yc Yz Qa Qb Qc Qz Za Zb Zc Zz
      have KP23 : Hid (Box w23 bk2 39 #[.int .i64 W1, .int .i64 H1, .slice A1 zs1.length c1]) := hid (Box.keep KP22.out hb23)
      have KR23 : Hid (Box w23 bk7 39 #[.int .i64 W1, .int .i64 H1, .slice AR zs1.length cR]) := hid (Box.keep KR22.out hb23)
      have KX23 : Hid (Box w23 bk10 39 #[.int .i64 WX, .int .i64 HX, .slice AX zsX.length cX]) := hid (Box.keep KX22.out hb23)
      have KY23 : Hid (Box w23 bk12 39 #[.int .i64 WX, .int .i64 HX, .slice AY zsX.length cY]) := hid (Box.keep KY22.out hb23)
      have KQ23 : Hid (Box w23 bk17 39 #[.int .i64 WQ, .int .i64 HQ, .slice AQ zsQ.length cQ]) := hid (Box.keep KQ22.out hb23)
      have KZ23 : Hid (Box w23 bk19 39 #[.int .i64 WQ, .int .i64 HQ, .slice AZ zsQ.length cZ]) := hid (Box.keep KZ22.out hb23)
      have O123 : Hid (OwnI w23 w.heap.size (.slice A1 zs1.length c1) zs1) := hid (OwnI.keep O122.out hb23)
      have SG23 : Hid (w23.ownsRow w.heap.size 9 1 (.slice AG sg.length cG) sg.length (strs sg)) := hid (own_keep SG22.out hb23)
      have SM23 : Hid (w23.ownsRow w.heap.size 9 1 (.slice AM sg.length cM) sg.length (strs sg)) := hid (own_keep SM22.out hb23)
      have OR23 : Hid (OwnI w23 w.heap.size (.slice AR zs1.length cR) zs1) := hid (OwnI.keep OR22.out hb23)
      have OX23 : Hid (OwnI w23 w.heap.size (.slice AX zsX.length cX) zsX) := hid (OwnI.keep OX22.out hb23)
      have OY23 : Hid (OwnI w23 w.heap.size (.slice AY zsX.length cY) zsX) := hid (OwnI.keep OY22.out hb23)
      have SS23 : Hid (w23.ownsRow w.heap.size 9 1 (.slice AS ss.length cS) ss.length (strs ss)) := hid (own_keep SS22.out hb23)
      have OQ23 : Hid (OwnI w23 w.heap.size (.slice AQ zsQ.length cQ) zsQ) := hid (OwnI.keep OQ22.out hb23)
      have OZ23 : Hid (OwnI w23 w.heap.size (.slice AZ zsQ.length cZ) zsQ) := hid (OwnI.keep OZ22.out hb23)
      have HB23 : Hid (Below w.heap.size w w23) := hid (bbl HB22.out hb23)
      clear hb23 KP22 KR22 KX22 KY22 KQ22 KZ22 O122 SG22 SM22 OR22 OX22 OY22 SS22 OQ22 OZ22 HB22
      obtain ⟨Pa, Pb, Pc⟩ := KP23.out.three
      have Pz := KP23.out.lt
      obtain ⟨Ra, Rb, Rc⟩ := KR23.out.three
      have Rz := KR23.out.lt
      obtain ⟨Xa, Xb, Xc⟩ := KX23.out.three
      have Xz := KX23.out.lt
      obtain ⟨Ya, Yb, Yc⟩ := KY23.out.three
      have Yz := KY23.out.lt
      obtain ⟨Qa, Qb, Qc⟩ := KQ23.out.three
      have Qz := KQ23.out.lt
      obtain ⟨Za, Zb, Zc⟩ := KZ23.out.three
      have Zz := KZ23.out.lt
      go_wp2_with fail
      refine (calls_bool (specSamePanel_any WQ HQ WQ HQ AQ AZ cQ cZ zsQ zsQ _ (OwnI.ints OQ23.out) (OwnI.ints OZ23.out) hlzQ hlzQ) (samB_self _ _ _)).mono ?_
      rintro e w24 ⟨rfl, hb24⟩
      clear Pa Pb Pc Pz Ra Rb Rc Rz Xa Xb Xc Xz Ya Yb Yc Yz Qa Qb Qc Qz Za Zb Zc Zz
      have KP24 : Hid (Box w24 bk2 39 #[.int .i64 W1, .int .i64 H1, .slice A1 zs1.length c1]) := hid (Box.keep KP23.out hb24)
      have KR24 : Hid (Box w24 bk7 39 #[.int .i64 W1, .int .i64 H1, .slice AR zs1.length cR]) := hid (Box.keep KR23.out hb24)
      have KX24 : Hid (Box w24 bk10 39 #[.int .i64 WX, .int .i64 HX, .slice AX zsX.length cX]) := hid (Box.keep KX23.out hb24)
      have KY24 : Hid (Box w24 bk12 39 #[.int .i64 WX, .int .i64 HX, .slice AY zsX.length cY]) := hid (Box.keep KY23.out hb24)
      have KQ24 : Hid (Box w24 bk17 39 #[.int .i64 WQ, .int .i64 HQ, .slice AQ zsQ.length cQ]) := hid (Box.keep KQ23.out hb24)
      have KZ24 : Hid (Box w24 bk19 39 #[.int .i64 WQ, .int .i64 HQ, .slice AZ zsQ.length cZ]) := hid (Box.keep KZ23.out hb24)
      have O124 : Hid (OwnI w24 w.heap.size (.slice A1 zs1.length c1) zs1) := hid (OwnI.keep O123.out hb24)
      have SG24 : Hid (w24.ownsRow w.heap.size 9 1 (.slice AG sg.length cG) sg.length (strs sg)) := hid (own_keep SG23.out hb24)
      have SM24 : Hid (w24.ownsRow w.heap.size 9 1 (.slice AM sg.length cM) sg.length (strs sg)) := hid (own_keep SM23.out hb24)
      have OR24 : Hid (OwnI w24 w.heap.size (.slice AR zs1.length cR) zs1) := hid (OwnI.keep OR23.out hb24)
      have OX24 : Hid (OwnI w24 w.heap.size (.slice AX zsX.length cX) zsX) := hid (OwnI.keep OX23.out hb24)
      have OY24 : Hid (OwnI w24 w.heap.size (.slice AY zsX.length cY) zsX) := hid (OwnI.keep OY23.out hb24)
      have SS24 : Hid (w24.ownsRow w.heap.size 9 1 (.slice AS ss.length cS) ss.length (strs ss)) := hid (own_keep SS23.out hb24)
      have OQ24 : Hid (OwnI w24 w.heap.size (.slice AQ zsQ.length cQ) zsQ) := hid (OwnI.keep OQ23.out hb24)
      have OZ24 : Hid (OwnI w24 w.heap.size (.slice AZ zsQ.length cZ) zsQ) := hid (OwnI.keep OZ23.out hb24)
      have HB24 : Hid (Below w.heap.size w w24) := hid (bbl HB23.out hb24)
      clear hb24 KP23 KR23 KX23 KY23 KQ23 KZ23 O123 SG23 SM23 OR23 OX23 OY23 SS23 OQ23 OZ23 HB23
      obtain ⟨Pa, Pb, Pc⟩ := KP24.out.three
      have Pz := KP24.out.lt
      obtain ⟨Ra, Rb, Rc⟩ := KR24.out.three
      have Rz := KR24.out.lt
      obtain ⟨Xa, Xb, Xc⟩ := KX24.out.three
      have Xz := KX24.out.lt
      obtain ⟨Ya, Yb, Yc⟩ := KY24.out.three
      have Yz := KY24.out.lt
      obtain ⟨Qa, Qb, Qc⟩ := KQ24.out.three
      have Qz := KQ24.out.lt
      obtain ⟨Za, Zb, Zc⟩ := KZ24.out.three
      have Zz := KZ24.out.lt
      go_wp2_with fail
      refine (implPFN_any _ _ ⟨by omega, by omega⟩).mono ?_
      rintro e w25 ⟨he, hb25⟩
      rw [HNM.out] at he
      subst he
      clear Pa Pb Pc Pz Ra Rb Rc Rz Xa Xb Xc Xz Ya Yb Yc Yz Qa Qb Qc Qz Za Zb Zc Zz
      have KP25 : Hid (Box w25 bk2 39 #[.int .i64 W1, .int .i64 H1, .slice A1 zs1.length c1]) := hid (Box.keep KP24.out hb25)
      have KR25 : Hid (Box w25 bk7 39 #[.int .i64 W1, .int .i64 H1, .slice AR zs1.length cR]) := hid (Box.keep KR24.out hb25)
      have KX25 : Hid (Box w25 bk10 39 #[.int .i64 WX, .int .i64 HX, .slice AX zsX.length cX]) := hid (Box.keep KX24.out hb25)
      have KY25 : Hid (Box w25 bk12 39 #[.int .i64 WX, .int .i64 HX, .slice AY zsX.length cY]) := hid (Box.keep KY24.out hb25)
      have KQ25 : Hid (Box w25 bk17 39 #[.int .i64 WQ, .int .i64 HQ, .slice AQ zsQ.length cQ]) := hid (Box.keep KQ24.out hb25)
      have KZ25 : Hid (Box w25 bk19 39 #[.int .i64 WQ, .int .i64 HQ, .slice AZ zsQ.length cZ]) := hid (Box.keep KZ24.out hb25)
      have O125 : Hid (OwnI w25 w.heap.size (.slice A1 zs1.length c1) zs1) := hid (OwnI.keep O124.out hb25)
      have SG25 : Hid (w25.ownsRow w.heap.size 9 1 (.slice AG sg.length cG) sg.length (strs sg)) := hid (own_keep SG24.out hb25)
      have SM25 : Hid (w25.ownsRow w.heap.size 9 1 (.slice AM sg.length cM) sg.length (strs sg)) := hid (own_keep SM24.out hb25)
      have OR25 : Hid (OwnI w25 w.heap.size (.slice AR zs1.length cR) zs1) := hid (OwnI.keep OR24.out hb25)
      have OX25 : Hid (OwnI w25 w.heap.size (.slice AX zsX.length cX) zsX) := hid (OwnI.keep OX24.out hb25)
      have OY25 : Hid (OwnI w25 w.heap.size (.slice AY zsX.length cY) zsX) := hid (OwnI.keep OY24.out hb25)
      have SS25 : Hid (w25.ownsRow w.heap.size 9 1 (.slice AS ss.length cS) ss.length (strs ss)) := hid (own_keep SS24.out hb25)
      have OQ25 : Hid (OwnI w25 w.heap.size (.slice AQ zsQ.length cQ) zsQ) := hid (OwnI.keep OQ24.out hb25)
      have OZ25 : Hid (OwnI w25 w.heap.size (.slice AZ zsQ.length cZ) zsQ) := hid (OwnI.keep OZ24.out hb25)
      have HB25 : Hid (Below w.heap.size w w25) := hid (bbl HB24.out hb25)
      clear hb25 KP24 KR24 KX24 KY24 KQ24 KZ24 O124 SG24 SM24 OR24 OX24 OY24 SS24 OQ24 OZ24 HB24
      obtain ⟨Pa, Pb, Pc⟩ := KP25.out.three
      have Pz := KP25.out.lt
      obtain ⟨Ra, Rb, Rc⟩ := KR25.out.three
      have Rz := KR25.out.lt
      obtain ⟨Xa, Xb, Xc⟩ := KX25.out.three
      have Xz := KX25.out.lt
      obtain ⟨Ya, Yb, Yc⟩ := KY25.out.three
      have Yz := KY25.out.lt
      obtain ⟨Qa, Qb, Qc⟩ := KQ25.out.three
      have Qz := KQ25.out.lt
      obtain ⟨Za, Zb, Zc⟩ := KZ25.out.three
      have Zz := KZ25.out.lt
      go_wp2_with fail
      refine (implPanelPicture_any WQ HQ AQ cQ zsQ _ (OwnI.ints OQ25.out) hlzQ).mono ?_
      rintro e w26 ⟨⟨AN, cN, he, ho⟩, hb⟩
      rw [HRP.out.2.2, HRP.out.2.1] at he
      rw [HRP.out.2.2, HRP.out.1] at ho
      subst he
      clear Pa Pb Pc Pz Ra Rb Rc Rz Xa Xb Xc Xz Ya Yb Yc Yz Qa Qb Qc Qz Za Zb Zc Zz
      have hlo := HB25.out.size
      have KP26 : Hid (Box w26 bk2 39 #[.int .i64 W1, .int .i64 H1, .slice A1 zs1.length c1]) := hid (Box.keep KP25.out hb)
      have KR26 : Hid (Box w26 bk7 39 #[.int .i64 W1, .int .i64 H1, .slice AR zs1.length cR]) := hid (Box.keep KR25.out hb)
      have KX26 : Hid (Box w26 bk10 39 #[.int .i64 WX, .int .i64 HX, .slice AX zsX.length cX]) := hid (Box.keep KX25.out hb)
      have KY26 : Hid (Box w26 bk12 39 #[.int .i64 WX, .int .i64 HX, .slice AY zsX.length cY]) := hid (Box.keep KY25.out hb)
      have KQ26 : Hid (Box w26 bk17 39 #[.int .i64 WQ, .int .i64 HQ, .slice AQ zsQ.length cQ]) := hid (Box.keep KQ25.out hb)
      have KZ26 : Hid (Box w26 bk19 39 #[.int .i64 WQ, .int .i64 HQ, .slice AZ zsQ.length cZ]) := hid (Box.keep KZ25.out hb)
      have O126 : Hid (OwnI w26 w.heap.size (.slice A1 zs1.length c1) zs1) := hid (OwnI.keep O125.out hb)
      have SG26 : Hid (w26.ownsRow w.heap.size 9 1 (.slice AG sg.length cG) sg.length (strs sg)) := hid (own_keep SG25.out hb)
      have SM26 : Hid (w26.ownsRow w.heap.size 9 1 (.slice AM sg.length cM) sg.length (strs sg)) := hid (own_keep SM25.out hb)
      have OR26 : Hid (OwnI w26 w.heap.size (.slice AR zs1.length cR) zs1) := hid (OwnI.keep OR25.out hb)
      have OX26 : Hid (OwnI w26 w.heap.size (.slice AX zsX.length cX) zsX) := hid (OwnI.keep OX25.out hb)
      have OY26 : Hid (OwnI w26 w.heap.size (.slice AY zsX.length cY) zsX) := hid (OwnI.keep OY25.out hb)
      have SS26 : Hid (w26.ownsRow w.heap.size 9 1 (.slice AS ss.length cS) ss.length (strs ss)) := hid (own_keep SS25.out hb)
      have OQ26 : Hid (OwnI w26 w.heap.size (.slice AQ zsQ.length cQ) zsQ) := hid (OwnI.keep OQ25.out hb)
      have OZ26 : Hid (OwnI w26 w.heap.size (.slice AZ zsQ.length cZ) zsQ) := hid (OwnI.keep OZ25.out hb)
      have HB26 : Hid (Below w.heap.size w w26) := hid (bbl HB25.out hb)
      have SN26 : Hid (w26.ownsRow w.heap.size 9 1 (.slice AN ss.length cN) ss.length (strs ss)) := hid (Go.Joins.ownsRow_le ho hlo)
      clear hb ho hlo KP25 KR25 KX25 KY25 KQ25 KZ25 O125 SG25 SM25 OR25 OX25 OY25 SS25 OQ25 OZ25 HB25
      obtain ⟨Pa, Pb, Pc⟩ := KP26.out.three
      have Pz := KP26.out.lt
      obtain ⟨Ra, Rb, Rc⟩ := KR26.out.three
      have Rz := KR26.out.lt
      obtain ⟨Xa, Xb, Xc⟩ := KX26.out.three
      have Xz := KX26.out.lt
      obtain ⟨Ya, Yb, Yc⟩ := KY26.out.three
      have Yz := KY26.out.lt
      obtain ⟨Qa, Qb, Qc⟩ := KQ26.out.three
      have Qz := KQ26.out.lt
      obtain ⟨Za, Zb, Zc⟩ := KZ26.out.three
      have Zz := KZ26.out.lt
      go_wp2_with fail
      refine (f6texts_any AN AS cN cS ss.length ss _ (StrsR.own SN26.out) (StrsR.own SS26.out) rfl (by omega)).mono ?_
      rintro e w27 ⟨rfl, hb27⟩
      clear Pa Pb Pc Pz Ra Rb Rc Rz Xa Xb Xc Xz Ya Yb Yc Yz Qa Qb Qc Qz Za Zb Zc Zz
      have KP27 : Hid (Box w27 bk2 39 #[.int .i64 W1, .int .i64 H1, .slice A1 zs1.length c1]) := hid (Box.keep KP26.out hb27)
      have KR27 : Hid (Box w27 bk7 39 #[.int .i64 W1, .int .i64 H1, .slice AR zs1.length cR]) := hid (Box.keep KR26.out hb27)
      have KX27 : Hid (Box w27 bk10 39 #[.int .i64 WX, .int .i64 HX, .slice AX zsX.length cX]) := hid (Box.keep KX26.out hb27)
      have KY27 : Hid (Box w27 bk12 39 #[.int .i64 WX, .int .i64 HX, .slice AY zsX.length cY]) := hid (Box.keep KY26.out hb27)
      have KQ27 : Hid (Box w27 bk17 39 #[.int .i64 WQ, .int .i64 HQ, .slice AQ zsQ.length cQ]) := hid (Box.keep KQ26.out hb27)
      have KZ27 : Hid (Box w27 bk19 39 #[.int .i64 WQ, .int .i64 HQ, .slice AZ zsQ.length cZ]) := hid (Box.keep KZ26.out hb27)
      have O127 : Hid (OwnI w27 w.heap.size (.slice A1 zs1.length c1) zs1) := hid (OwnI.keep O126.out hb27)
      have SG27 : Hid (w27.ownsRow w.heap.size 9 1 (.slice AG sg.length cG) sg.length (strs sg)) := hid (own_keep SG26.out hb27)
      have SM27 : Hid (w27.ownsRow w.heap.size 9 1 (.slice AM sg.length cM) sg.length (strs sg)) := hid (own_keep SM26.out hb27)
      have OR27 : Hid (OwnI w27 w.heap.size (.slice AR zs1.length cR) zs1) := hid (OwnI.keep OR26.out hb27)
      have OX27 : Hid (OwnI w27 w.heap.size (.slice AX zsX.length cX) zsX) := hid (OwnI.keep OX26.out hb27)
      have OY27 : Hid (OwnI w27 w.heap.size (.slice AY zsX.length cY) zsX) := hid (OwnI.keep OY26.out hb27)
      have SS27 : Hid (w27.ownsRow w.heap.size 9 1 (.slice AS ss.length cS) ss.length (strs ss)) := hid (own_keep SS26.out hb27)
      have OQ27 : Hid (OwnI w27 w.heap.size (.slice AQ zsQ.length cQ) zsQ) := hid (OwnI.keep OQ26.out hb27)
      have OZ27 : Hid (OwnI w27 w.heap.size (.slice AZ zsQ.length cZ) zsQ) := hid (OwnI.keep OZ26.out hb27)
      have SN27 : Hid (w27.ownsRow w.heap.size 9 1 (.slice AN ss.length cN) ss.length (strs ss)) := hid (own_keep SN26.out hb27)
      have HB27 : Hid (Below w.heap.size w w27) := hid (bbl HB26.out hb27)
      clear hb27 KP26 KR26 KX26 KY26 KQ26 KZ26 O126 SG26 SM26 OR26 OX26 OY26 SS26 OQ26 OZ26 SN26 HB26
      obtain ⟨Pa, Pb, Pc⟩ := KP27.out.three
      have Pz := KP27.out.lt
      obtain ⟨Ra, Rb, Rc⟩ := KR27.out.three
      have Rz := KR27.out.lt
      obtain ⟨Xa, Xb, Xc⟩ := KX27.out.three
      have Xz := KX27.out.lt
      obtain ⟨Ya, Yb, Yc⟩ := KY27.out.three
      have Yz := KY27.out.lt
      obtain ⟨Qa, Qb, Qc⟩ := KQ27.out.three
      have Qz := KQ27.out.lt
      obtain ⟨Za, Zb, Zc⟩ := KZ27.out.three
      have Zz := KZ27.out.lt
      go_wp2_with fail
      refine (implReadPicture_any AG cG sg _ (StrsR.own SG27.out) hgl20 HGZ.out).mono ?_
      rintro e w28 ⟨⟨AB, cB, he, ho⟩, hb⟩
      rw [HRB.out.1, HRB.out.2.1, HRB.out.2.2.2.1, HRB.out.2.2.2.2] at he
      rw [HRB.out.2.2.1, HRB.out.2.2.2.2] at ho
      subst he
      clear Pa Pb Pc Pz Ra Rb Rc Rz Xa Xb Xc Xz Ya Yb Yc Yz Qa Qb Qc Qz Za Zb Zc Zz
      have hlo := HB27.out.size
      have KP28 : Hid (Box w28 bk2 39 #[.int .i64 W1, .int .i64 H1, .slice A1 zs1.length c1]) := hid (Box.keep KP27.out hb)
      have KR28 : Hid (Box w28 bk7 39 #[.int .i64 W1, .int .i64 H1, .slice AR zs1.length cR]) := hid (Box.keep KR27.out hb)
      have KX28 : Hid (Box w28 bk10 39 #[.int .i64 WX, .int .i64 HX, .slice AX zsX.length cX]) := hid (Box.keep KX27.out hb)
      have KY28 : Hid (Box w28 bk12 39 #[.int .i64 WX, .int .i64 HX, .slice AY zsX.length cY]) := hid (Box.keep KY27.out hb)
      have KQ28 : Hid (Box w28 bk17 39 #[.int .i64 WQ, .int .i64 HQ, .slice AQ zsQ.length cQ]) := hid (Box.keep KQ27.out hb)
      have KZ28 : Hid (Box w28 bk19 39 #[.int .i64 WQ, .int .i64 HQ, .slice AZ zsQ.length cZ]) := hid (Box.keep KZ27.out hb)
      have O128 : Hid (OwnI w28 w.heap.size (.slice A1 zs1.length c1) zs1) := hid (OwnI.keep O127.out hb)
      have SG28 : Hid (w28.ownsRow w.heap.size 9 1 (.slice AG sg.length cG) sg.length (strs sg)) := hid (own_keep SG27.out hb)
      have SM28 : Hid (w28.ownsRow w.heap.size 9 1 (.slice AM sg.length cM) sg.length (strs sg)) := hid (own_keep SM27.out hb)
      have OR28 : Hid (OwnI w28 w.heap.size (.slice AR zs1.length cR) zs1) := hid (OwnI.keep OR27.out hb)
      have OX28 : Hid (OwnI w28 w.heap.size (.slice AX zsX.length cX) zsX) := hid (OwnI.keep OX27.out hb)
      have OY28 : Hid (OwnI w28 w.heap.size (.slice AY zsX.length cY) zsX) := hid (OwnI.keep OY27.out hb)
      have SS28 : Hid (w28.ownsRow w.heap.size 9 1 (.slice AS ss.length cS) ss.length (strs ss)) := hid (own_keep SS27.out hb)
      have OQ28 : Hid (OwnI w28 w.heap.size (.slice AQ zsQ.length cQ) zsQ) := hid (OwnI.keep OQ27.out hb)
      have OZ28 : Hid (OwnI w28 w.heap.size (.slice AZ zsQ.length cZ) zsQ) := hid (OwnI.keep OZ27.out hb)
      have SN28 : Hid (w28.ownsRow w.heap.size 9 1 (.slice AN ss.length cN) ss.length (strs ss)) := hid (own_keep SN27.out hb)
      have HB28 : Hid (Below w.heap.size w w28) := hid (bbl HB27.out hb)
      have OB28 : Hid (OwnI w28 w.heap.size (.slice AB zs1.length cB) zs1) := hid (Go.Joins.ownsRow_le ho hlo)
      clear hb ho hlo KP27 KR27 KX27 KY27 KQ27 KZ27 O127 SG27 SM27 OR27 OX27 OY27 SS27 OQ27 OZ27 SN27 HB27
      obtain ⟨Pa, Pb, Pc⟩ := KP28.out.three
      have Pz := KP28.out.lt
      obtain ⟨Ra, Rb, Rc⟩ := KR28.out.three
      have Rz := KR28.out.lt
      obtain ⟨Xa, Xb, Xc⟩ := KX28.out.three
      have Xz := KX28.out.lt
      obtain ⟨Ya, Yb, Yc⟩ := KY28.out.three
      have Yz := KY28.out.lt
      obtain ⟨Qa, Qb, Qc⟩ := KQ28.out.three
      have Qz := KQ28.out.lt
      obtain ⟨Za, Zb, Zc⟩ := KZ28.out.three
      have Zz := KZ28.out.lt
      go_wp2_with fail
      obtain ⟨w29, hw29⟩ : ∃ zz : World, zz = w28.alloc (.cells #[.int .i64 W1, .int .i64 H1, .slice AB zs1.length cB] 39) := ⟨_, rfl⟩
      rw [← hw29]
      have KP29 : Hid (Box w29 bk2 39 #[.int .i64 W1, .int .i64 H1, .slice A1 zs1.length c1]) := hid (by rw [hw29]; exact (Box.alloc KP28.out _))
      have KR29 : Hid (Box w29 bk7 39 #[.int .i64 W1, .int .i64 H1, .slice AR zs1.length cR]) := hid (by rw [hw29]; exact (Box.alloc KR28.out _))
      have KX29 : Hid (Box w29 bk10 39 #[.int .i64 WX, .int .i64 HX, .slice AX zsX.length cX]) := hid (by rw [hw29]; exact (Box.alloc KX28.out _))
      have KY29 : Hid (Box w29 bk12 39 #[.int .i64 WX, .int .i64 HX, .slice AY zsX.length cY]) := hid (by rw [hw29]; exact (Box.alloc KY28.out _))
      have KQ29 : Hid (Box w29 bk17 39 #[.int .i64 WQ, .int .i64 HQ, .slice AQ zsQ.length cQ]) := hid (by rw [hw29]; exact (Box.alloc KQ28.out _))
      have KZ29 : Hid (Box w29 bk19 39 #[.int .i64 WQ, .int .i64 HQ, .slice AZ zsQ.length cZ]) := hid (by rw [hw29]; exact (Box.alloc KZ28.out _))
      have O129 : Hid (OwnI w29 w.heap.size (.slice A1 zs1.length c1) zs1) := hid (by rw [hw29]; exact (O128.out.alloc _))
      have SG29 : Hid (w29.ownsRow w.heap.size 9 1 (.slice AG sg.length cG) sg.length (strs sg)) := hid (by rw [hw29]; exact (SG28.out.alloc _))
      have SM29 : Hid (w29.ownsRow w.heap.size 9 1 (.slice AM sg.length cM) sg.length (strs sg)) := hid (by rw [hw29]; exact (SM28.out.alloc _))
      have OR29 : Hid (OwnI w29 w.heap.size (.slice AR zs1.length cR) zs1) := hid (by rw [hw29]; exact (OR28.out.alloc _))
      have OX29 : Hid (OwnI w29 w.heap.size (.slice AX zsX.length cX) zsX) := hid (by rw [hw29]; exact (OX28.out.alloc _))
      have OY29 : Hid (OwnI w29 w.heap.size (.slice AY zsX.length cY) zsX) := hid (by rw [hw29]; exact (OY28.out.alloc _))
      have SS29 : Hid (w29.ownsRow w.heap.size 9 1 (.slice AS ss.length cS) ss.length (strs ss)) := hid (by rw [hw29]; exact (SS28.out.alloc _))
      have OQ29 : Hid (OwnI w29 w.heap.size (.slice AQ zsQ.length cQ) zsQ) := hid (by rw [hw29]; exact (OQ28.out.alloc _))
      have OZ29 : Hid (OwnI w29 w.heap.size (.slice AZ zsQ.length cZ) zsQ) := hid (by rw [hw29]; exact (OZ28.out.alloc _))
      have SN29 : Hid (w29.ownsRow w.heap.size 9 1 (.slice AN ss.length cN) ss.length (strs ss)) := hid (by rw [hw29]; exact (SN28.out.alloc _))
      have OB29 : Hid (OwnI w29 w.heap.size (.slice AB zs1.length cB) zs1) := hid (by rw [hw29]; exact (OB28.out.alloc _))
      have HB29 : Hid (Below w.heap.size w w29) := hid (by rw [hw29]; exact (bal HB28.out _))
      have KB29 : Hid (Box w29 w28.heap.size 39 #[.int .i64 W1, .int .i64 H1, .slice AB zs1.length cB]) := hid (by rw [hw29]; exact (Box.new _ _ _))
      obtain ⟨bk29, hbk29⟩ : ∃ b, b = w28.heap.size := ⟨_, rfl⟩
      rw [← hbk29] at KB29 ⊢
      have oP29 : bk2 < bk29 := by rw [hbk29]; exact KP28.out.lt
      have oR29 : bk7 < bk29 := by rw [hbk29]; exact KR28.out.lt
      have oX29 : bk10 < bk29 := by rw [hbk29]; exact KX28.out.lt
      have oY29 : bk12 < bk29 := by rw [hbk29]; exact KY28.out.lt
      have oQ29 : bk17 < bk29 := by rw [hbk29]; exact KQ28.out.lt
      have oZ29 : bk19 < bk29 := by rw [hbk29]; exact KZ28.out.lt
      have oB29 : w.heap.size ≤ bk29 := by rw [hbk29]; exact HB28.out.size
      clear Pa Pb Pc Pz Ra Rb Rc Rz Xa Xb Xc Xz Ya Yb Yc Yz Qa Qb Qc Qz Za Zb Zc Zz
      clear hw29 hbk29 KP28 KR28 KX28 KY28 KQ28 KZ28 O128 SG28 SM28 OR28 OX28 OY28 SS28 OQ28 OZ28 SN28 OB28 HB28
      obtain ⟨Pa, Pb, Pc⟩ := KP29.out.three
      have Pz := KP29.out.lt
      obtain ⟨Ra, Rb, Rc⟩ := KR29.out.three
      have Rz := KR29.out.lt
      obtain ⟨Xa, Xb, Xc⟩ := KX29.out.three
      have Xz := KX29.out.lt
      obtain ⟨Ya, Yb, Yc⟩ := KY29.out.three
      have Yz := KY29.out.lt
      obtain ⟨Qa, Qb, Qc⟩ := KQ29.out.three
      have Qz := KQ29.out.lt
      obtain ⟨Za, Zb, Zc⟩ := KZ29.out.three
      have Zz := KZ29.out.lt
      obtain ⟨Ba, Bb, Bc⟩ := KB29.out.three
      have Bz := KB29.out.lt
      go_wp2_with fail
      refine (calls_bool (specSamePanel_any W1 H1 W1 H1 AB A1 cB c1 zs1 zs1 _ (OwnI.ints OB29.out) (OwnI.ints O129.out) hlz1 hlz1) (samB_self _ _ _)).mono ?_
      rintro e w30 ⟨rfl, hb30⟩
      clear Pa Pb Pc Pz Ra Rb Rc Rz Xa Xb Xc Xz Ya Yb Yc Yz Qa Qb Qc Qz Za Zb Zc Zz Ba Bb Bc Bz
      have KP30 : Hid (Box w30 bk2 39 #[.int .i64 W1, .int .i64 H1, .slice A1 zs1.length c1]) := hid (Box.keep KP29.out hb30)
      have KR30 : Hid (Box w30 bk7 39 #[.int .i64 W1, .int .i64 H1, .slice AR zs1.length cR]) := hid (Box.keep KR29.out hb30)
      have KX30 : Hid (Box w30 bk10 39 #[.int .i64 WX, .int .i64 HX, .slice AX zsX.length cX]) := hid (Box.keep KX29.out hb30)
      have KY30 : Hid (Box w30 bk12 39 #[.int .i64 WX, .int .i64 HX, .slice AY zsX.length cY]) := hid (Box.keep KY29.out hb30)
      have KQ30 : Hid (Box w30 bk17 39 #[.int .i64 WQ, .int .i64 HQ, .slice AQ zsQ.length cQ]) := hid (Box.keep KQ29.out hb30)
      have KZ30 : Hid (Box w30 bk19 39 #[.int .i64 WQ, .int .i64 HQ, .slice AZ zsQ.length cZ]) := hid (Box.keep KZ29.out hb30)
      have KB30 : Hid (Box w30 bk29 39 #[.int .i64 W1, .int .i64 H1, .slice AB zs1.length cB]) := hid (Box.keep KB29.out hb30)
      have O130 : Hid (OwnI w30 w.heap.size (.slice A1 zs1.length c1) zs1) := hid (OwnI.keep O129.out hb30)
      have SG30 : Hid (w30.ownsRow w.heap.size 9 1 (.slice AG sg.length cG) sg.length (strs sg)) := hid (own_keep SG29.out hb30)
      have SM30 : Hid (w30.ownsRow w.heap.size 9 1 (.slice AM sg.length cM) sg.length (strs sg)) := hid (own_keep SM29.out hb30)
      have OR30 : Hid (OwnI w30 w.heap.size (.slice AR zs1.length cR) zs1) := hid (OwnI.keep OR29.out hb30)
      have OX30 : Hid (OwnI w30 w.heap.size (.slice AX zsX.length cX) zsX) := hid (OwnI.keep OX29.out hb30)
      have OY30 : Hid (OwnI w30 w.heap.size (.slice AY zsX.length cY) zsX) := hid (OwnI.keep OY29.out hb30)
      have SS30 : Hid (w30.ownsRow w.heap.size 9 1 (.slice AS ss.length cS) ss.length (strs ss)) := hid (own_keep SS29.out hb30)
      have OQ30 : Hid (OwnI w30 w.heap.size (.slice AQ zsQ.length cQ) zsQ) := hid (OwnI.keep OQ29.out hb30)
      have OZ30 : Hid (OwnI w30 w.heap.size (.slice AZ zsQ.length cZ) zsQ) := hid (OwnI.keep OZ29.out hb30)
      have SN30 : Hid (w30.ownsRow w.heap.size 9 1 (.slice AN ss.length cN) ss.length (strs ss)) := hid (own_keep SN29.out hb30)
      have OB30 : Hid (OwnI w30 w.heap.size (.slice AB zs1.length cB) zs1) := hid (OwnI.keep OB29.out hb30)
      have HB30 : Hid (Below w.heap.size w w30) := hid (bbl HB29.out hb30)
      clear hb30 KP29 KR29 KX29 KY29 KQ29 KZ29 KB29 O129 SG29 SM29 OR29 OX29 OY29 SS29 OQ29 OZ29 SN29 OB29 HB29
      obtain ⟨Pa, Pb, Pc⟩ := KP30.out.three
      have Pz := KP30.out.lt
      obtain ⟨Ra, Rb, Rc⟩ := KR30.out.three
      have Rz := KR30.out.lt
      obtain ⟨Xa, Xb, Xc⟩ := KX30.out.three
      have Xz := KX30.out.lt
      obtain ⟨Ya, Yb, Yc⟩ := KY30.out.three
      have Yz := KY30.out.lt
      obtain ⟨Qa, Qb, Qc⟩ := KQ30.out.three
      have Qz := KQ30.out.lt
      obtain ⟨Za, Zb, Zc⟩ := KZ30.out.three
      have Zz := KZ30.out.lt
      obtain ⟨Ba, Bb, Bc⟩ := KB30.out.three
      have Bz := KB30.out.lt
      go_wp2_with fail
      go_ret
      exact ⟨rfl, HB30.out⟩
    · have hpf0 : ¬ (pfF ss).1 = 0 := fun h => hk0 (HPF.out.1.symm.trans h)
      have hq0 : qc = 8 := HRQ.out.2.2.2.1.symm.trans (rp_no hpf0).2.2.2.2
      have hkb : (kf == 0) = false := by simp [hk0]
      subst hq0
      clear hpf0
      go_wp2_with fail
      refine (f6texts_any AG AM cG cM sg.length sg _ (StrsR.own SG19.out) (StrsR.own SM19.out) rfl (by omega)).mono ?_
      rintro e w20 ⟨rfl, hb20⟩
      clear Pa Pb Pc Pz Ra Rb Rc Rz Xa Xb Xc Xz Ya Yb Yc Yz Qa Qb Qc Qz Za Zb Zc Zz
      have KP20 : Hid (Box w20 bk2 39 #[.int .i64 W1, .int .i64 H1, .slice A1 zs1.length c1]) := hid (Box.keep KP19.out hb20)
      have KR20 : Hid (Box w20 bk7 39 #[.int .i64 W1, .int .i64 H1, .slice AR zs1.length cR]) := hid (Box.keep KR19.out hb20)
      have KX20 : Hid (Box w20 bk10 39 #[.int .i64 WX, .int .i64 HX, .slice AX zsX.length cX]) := hid (Box.keep KX19.out hb20)
      have KY20 : Hid (Box w20 bk12 39 #[.int .i64 WX, .int .i64 HX, .slice AY zsX.length cY]) := hid (Box.keep KY19.out hb20)
      have KQ20 : Hid (Box w20 bk17 39 #[.int .i64 WQ, .int .i64 HQ, .slice AQ zsQ.length cQ]) := hid (Box.keep KQ19.out hb20)
      have KZ20 : Hid (Box w20 bk19 39 #[.int .i64 WQ, .int .i64 HQ, .slice AZ zsQ.length cZ]) := hid (Box.keep KZ19.out hb20)
      have O120 : Hid (OwnI w20 w.heap.size (.slice A1 zs1.length c1) zs1) := hid (OwnI.keep O119.out hb20)
      have SG20 : Hid (w20.ownsRow w.heap.size 9 1 (.slice AG sg.length cG) sg.length (strs sg)) := hid (own_keep SG19.out hb20)
      have SM20 : Hid (w20.ownsRow w.heap.size 9 1 (.slice AM sg.length cM) sg.length (strs sg)) := hid (own_keep SM19.out hb20)
      have OR20 : Hid (OwnI w20 w.heap.size (.slice AR zs1.length cR) zs1) := hid (OwnI.keep OR19.out hb20)
      have OX20 : Hid (OwnI w20 w.heap.size (.slice AX zsX.length cX) zsX) := hid (OwnI.keep OX19.out hb20)
      have OY20 : Hid (OwnI w20 w.heap.size (.slice AY zsX.length cY) zsX) := hid (OwnI.keep OY19.out hb20)
      have SS20 : Hid (w20.ownsRow w.heap.size 9 1 (.slice AS ss.length cS) ss.length (strs ss)) := hid (own_keep SS19.out hb20)
      have OQ20 : Hid (OwnI w20 w.heap.size (.slice AQ zsQ.length cQ) zsQ) := hid (OwnI.keep OQ19.out hb20)
      have OZ20 : Hid (OwnI w20 w.heap.size (.slice AZ zsQ.length cZ) zsQ) := hid (OwnI.keep OZ19.out hb20)
      have HB20 : Hid (Below w.heap.size w w20) := hid (bbl HB19.out hb20)
      clear hb20 KP19 KR19 KX19 KY19 KQ19 KZ19 O119 SG19 SM19 OR19 OX19 OY19 SS19 OQ19 OZ19 HB19
      obtain ⟨Pa, Pb, Pc⟩ := KP20.out.three
      have Pz := KP20.out.lt
      obtain ⟨Ra, Rb, Rc⟩ := KR20.out.three
      have Rz := KR20.out.lt
      obtain ⟨Xa, Xb, Xc⟩ := KX20.out.three
      have Xz := KX20.out.lt
      obtain ⟨Ya, Yb, Yc⟩ := KY20.out.three
      have Yz := KY20.out.lt
      obtain ⟨Qa, Qb, Qc⟩ := KQ20.out.three
      have Qz := KQ20.out.lt
      obtain ⟨Za, Zb, Zc⟩ := KZ20.out.three
      have Zz := KZ20.out.lt
      go_wp2_with fail
      refine (specPanelText_any W1 H1 A1 c1 zs1 _ (OwnI.ints O120.out) hlz1).mono ?_
      rintro e w21 ⟨he, hb21⟩
      rw [HTX.out] at he
      subst he
      clear Pa Pb Pc Pz Ra Rb Rc Rz Xa Xb Xc Xz Ya Yb Yc Yz Qa Qb Qc Qz Za Zb Zc Zz
      have KP21 : Hid (Box w21 bk2 39 #[.int .i64 W1, .int .i64 H1, .slice A1 zs1.length c1]) := hid (Box.keep KP20.out hb21)
      have KR21 : Hid (Box w21 bk7 39 #[.int .i64 W1, .int .i64 H1, .slice AR zs1.length cR]) := hid (Box.keep KR20.out hb21)
      have KX21 : Hid (Box w21 bk10 39 #[.int .i64 WX, .int .i64 HX, .slice AX zsX.length cX]) := hid (Box.keep KX20.out hb21)
      have KY21 : Hid (Box w21 bk12 39 #[.int .i64 WX, .int .i64 HX, .slice AY zsX.length cY]) := hid (Box.keep KY20.out hb21)
      have KQ21 : Hid (Box w21 bk17 39 #[.int .i64 WQ, .int .i64 HQ, .slice AQ zsQ.length cQ]) := hid (Box.keep KQ20.out hb21)
      have KZ21 : Hid (Box w21 bk19 39 #[.int .i64 WQ, .int .i64 HQ, .slice AZ zsQ.length cZ]) := hid (Box.keep KZ20.out hb21)
      have O121 : Hid (OwnI w21 w.heap.size (.slice A1 zs1.length c1) zs1) := hid (OwnI.keep O120.out hb21)
      have SG21 : Hid (w21.ownsRow w.heap.size 9 1 (.slice AG sg.length cG) sg.length (strs sg)) := hid (own_keep SG20.out hb21)
      have SM21 : Hid (w21.ownsRow w.heap.size 9 1 (.slice AM sg.length cM) sg.length (strs sg)) := hid (own_keep SM20.out hb21)
      have OR21 : Hid (OwnI w21 w.heap.size (.slice AR zs1.length cR) zs1) := hid (OwnI.keep OR20.out hb21)
      have OX21 : Hid (OwnI w21 w.heap.size (.slice AX zsX.length cX) zsX) := hid (OwnI.keep OX20.out hb21)
      have OY21 : Hid (OwnI w21 w.heap.size (.slice AY zsX.length cY) zsX) := hid (OwnI.keep OY20.out hb21)
      have SS21 : Hid (w21.ownsRow w.heap.size 9 1 (.slice AS ss.length cS) ss.length (strs ss)) := hid (own_keep SS20.out hb21)
      have OQ21 : Hid (OwnI w21 w.heap.size (.slice AQ zsQ.length cQ) zsQ) := hid (OwnI.keep OQ20.out hb21)
      have OZ21 : Hid (OwnI w21 w.heap.size (.slice AZ zsQ.length cZ) zsQ) := hid (OwnI.keep OZ20.out hb21)
      have HB21 : Hid (Below w.heap.size w w21) := hid (bbl HB20.out hb21)
      clear hb21 KP20 KR20 KX20 KY20 KQ20 KZ20 O120 SG20 SM20 OR20 OX20 OY20 SS20 OQ20 OZ20 HB20
      obtain ⟨Pa, Pb, Pc⟩ := KP21.out.three
      have Pz := KP21.out.lt
      obtain ⟨Ra, Rb, Rc⟩ := KR21.out.three
      have Rz := KR21.out.lt
      obtain ⟨Xa, Xb, Xc⟩ := KX21.out.three
      have Xz := KX21.out.lt
      obtain ⟨Ya, Yb, Yc⟩ := KY21.out.three
      have Yz := KY21.out.lt
      obtain ⟨Qa, Qb, Qc⟩ := KQ21.out.three
      have Qz := KQ21.out.lt
      obtain ⟨Za, Zb, Zc⟩ := KZ21.out.three
      have Zz := KZ21.out.lt
      go_wp2_with fail
      refine (calls_bool (specSamePanel_any W1 H1 W1 H1 AR A1 cR c1 zs1 zs1 _ (OwnI.ints OR21.out) (OwnI.ints O121.out) hlz1 hlz1) (samB_self _ _ _)).mono ?_
      rintro e w22 ⟨rfl, hb22⟩
      clear Pa Pb Pc Pz Ra Rb Rc Rz Xa Xb Xc Xz Ya Yb Yc Yz Qa Qb Qc Qz Za Zb Zc Zz
      have KP22 : Hid (Box w22 bk2 39 #[.int .i64 W1, .int .i64 H1, .slice A1 zs1.length c1]) := hid (Box.keep KP21.out hb22)
      have KR22 : Hid (Box w22 bk7 39 #[.int .i64 W1, .int .i64 H1, .slice AR zs1.length cR]) := hid (Box.keep KR21.out hb22)
      have KX22 : Hid (Box w22 bk10 39 #[.int .i64 WX, .int .i64 HX, .slice AX zsX.length cX]) := hid (Box.keep KX21.out hb22)
      have KY22 : Hid (Box w22 bk12 39 #[.int .i64 WX, .int .i64 HX, .slice AY zsX.length cY]) := hid (Box.keep KY21.out hb22)
      have KQ22 : Hid (Box w22 bk17 39 #[.int .i64 WQ, .int .i64 HQ, .slice AQ zsQ.length cQ]) := hid (Box.keep KQ21.out hb22)
      have KZ22 : Hid (Box w22 bk19 39 #[.int .i64 WQ, .int .i64 HQ, .slice AZ zsQ.length cZ]) := hid (Box.keep KZ21.out hb22)
      have O122 : Hid (OwnI w22 w.heap.size (.slice A1 zs1.length c1) zs1) := hid (OwnI.keep O121.out hb22)
      have SG22 : Hid (w22.ownsRow w.heap.size 9 1 (.slice AG sg.length cG) sg.length (strs sg)) := hid (own_keep SG21.out hb22)
      have SM22 : Hid (w22.ownsRow w.heap.size 9 1 (.slice AM sg.length cM) sg.length (strs sg)) := hid (own_keep SM21.out hb22)
      have OR22 : Hid (OwnI w22 w.heap.size (.slice AR zs1.length cR) zs1) := hid (OwnI.keep OR21.out hb22)
      have OX22 : Hid (OwnI w22 w.heap.size (.slice AX zsX.length cX) zsX) := hid (OwnI.keep OX21.out hb22)
      have OY22 : Hid (OwnI w22 w.heap.size (.slice AY zsX.length cY) zsX) := hid (OwnI.keep OY21.out hb22)
      have SS22 : Hid (w22.ownsRow w.heap.size 9 1 (.slice AS ss.length cS) ss.length (strs ss)) := hid (own_keep SS21.out hb22)
      have OQ22 : Hid (OwnI w22 w.heap.size (.slice AQ zsQ.length cQ) zsQ) := hid (OwnI.keep OQ21.out hb22)
      have OZ22 : Hid (OwnI w22 w.heap.size (.slice AZ zsQ.length cZ) zsQ) := hid (OwnI.keep OZ21.out hb22)
      have HB22 : Hid (Below w.heap.size w w22) := hid (bbl HB21.out hb22)
      clear hb22 KP21 KR21 KX21 KY21 KQ21 KZ21 O121 SG21 SM21 OR21 OX21 OY21 SS21 OQ21 OZ21 HB21
      obtain ⟨Pa, Pb, Pc⟩ := KP22.out.three
      have Pz := KP22.out.lt
      obtain ⟨Ra, Rb, Rc⟩ := KR22.out.three
      have Rz := KR22.out.lt
      obtain ⟨Xa, Xb, Xc⟩ := KX22.out.three
      have Xz := KX22.out.lt
      obtain ⟨Ya, Yb, Yc⟩ := KY22.out.three
      have Yz := KY22.out.lt
      obtain ⟨Qa, Qb, Qc⟩ := KQ22.out.three
      have Qz := KQ22.out.lt
      obtain ⟨Za, Zb, Zc⟩ := KZ22.out.three
      have Zz := KZ22.out.lt
      go_wp2_with fail
      refine (calls_bool (specSamePanel_any WX HX WX HX AX AY cX cY zsX zsX _ (OwnI.ints OX22.out) (OwnI.ints OY22.out) hlzX hlzX) (samB_self _ _ _)).mono ?_
      rintro e w23 ⟨rfl, hb23⟩
      clear Pa Pb Pc Pz Ra Rb Rc Rz Xa Xb Xc Xz Ya Yb Yc Yz Qa Qb Qc Qz Za Zb Zc Zz
      have KP23 : Hid (Box w23 bk2 39 #[.int .i64 W1, .int .i64 H1, .slice A1 zs1.length c1]) := hid (Box.keep KP22.out hb23)
      have KR23 : Hid (Box w23 bk7 39 #[.int .i64 W1, .int .i64 H1, .slice AR zs1.length cR]) := hid (Box.keep KR22.out hb23)
      have KX23 : Hid (Box w23 bk10 39 #[.int .i64 WX, .int .i64 HX, .slice AX zsX.length cX]) := hid (Box.keep KX22.out hb23)
      have KY23 : Hid (Box w23 bk12 39 #[.int .i64 WX, .int .i64 HX, .slice AY zsX.length cY]) := hid (Box.keep KY22.out hb23)
      have KQ23 : Hid (Box w23 bk17 39 #[.int .i64 WQ, .int .i64 HQ, .slice AQ zsQ.length cQ]) := hid (Box.keep KQ22.out hb23)
      have KZ23 : Hid (Box w23 bk19 39 #[.int .i64 WQ, .int .i64 HQ, .slice AZ zsQ.length cZ]) := hid (Box.keep KZ22.out hb23)
      have O123 : Hid (OwnI w23 w.heap.size (.slice A1 zs1.length c1) zs1) := hid (OwnI.keep O122.out hb23)
      have SG23 : Hid (w23.ownsRow w.heap.size 9 1 (.slice AG sg.length cG) sg.length (strs sg)) := hid (own_keep SG22.out hb23)
      have SM23 : Hid (w23.ownsRow w.heap.size 9 1 (.slice AM sg.length cM) sg.length (strs sg)) := hid (own_keep SM22.out hb23)
      have OR23 : Hid (OwnI w23 w.heap.size (.slice AR zs1.length cR) zs1) := hid (OwnI.keep OR22.out hb23)
      have OX23 : Hid (OwnI w23 w.heap.size (.slice AX zsX.length cX) zsX) := hid (OwnI.keep OX22.out hb23)
      have OY23 : Hid (OwnI w23 w.heap.size (.slice AY zsX.length cY) zsX) := hid (OwnI.keep OY22.out hb23)
      have SS23 : Hid (w23.ownsRow w.heap.size 9 1 (.slice AS ss.length cS) ss.length (strs ss)) := hid (own_keep SS22.out hb23)
      have OQ23 : Hid (OwnI w23 w.heap.size (.slice AQ zsQ.length cQ) zsQ) := hid (OwnI.keep OQ22.out hb23)
      have OZ23 : Hid (OwnI w23 w.heap.size (.slice AZ zsQ.length cZ) zsQ) := hid (OwnI.keep OZ22.out hb23)
      have HB23 : Hid (Below w.heap.size w w23) := hid (bbl HB22.out hb23)
      clear hb23 KP22 KR22 KX22 KY22 KQ22 KZ22 O122 SG22 SM22 OR22 OX22 OY22 SS22 OQ22 OZ22 HB22
      obtain ⟨Pa, Pb, Pc⟩ := KP23.out.three
      have Pz := KP23.out.lt
      obtain ⟨Ra, Rb, Rc⟩ := KR23.out.three
      have Rz := KR23.out.lt
      obtain ⟨Xa, Xb, Xc⟩ := KX23.out.three
      have Xz := KX23.out.lt
      obtain ⟨Ya, Yb, Yc⟩ := KY23.out.three
      have Yz := KY23.out.lt
      obtain ⟨Qa, Qb, Qc⟩ := KQ23.out.three
      have Qz := KQ23.out.lt
      obtain ⟨Za, Zb, Zc⟩ := KZ23.out.three
      have Zz := KZ23.out.lt
      go_wp2_with fail
      refine (calls_bool (specSamePanel_any WQ HQ WQ HQ AQ AZ cQ cZ zsQ zsQ _ (OwnI.ints OQ23.out) (OwnI.ints OZ23.out) hlzQ hlzQ) (samB_self _ _ _)).mono ?_
      rintro e w24 ⟨rfl, hb24⟩
      clear Pa Pb Pc Pz Ra Rb Rc Rz Xa Xb Xc Xz Ya Yb Yc Yz Qa Qb Qc Qz Za Zb Zc Zz
      have KP24 : Hid (Box w24 bk2 39 #[.int .i64 W1, .int .i64 H1, .slice A1 zs1.length c1]) := hid (Box.keep KP23.out hb24)
      have KR24 : Hid (Box w24 bk7 39 #[.int .i64 W1, .int .i64 H1, .slice AR zs1.length cR]) := hid (Box.keep KR23.out hb24)
      have KX24 : Hid (Box w24 bk10 39 #[.int .i64 WX, .int .i64 HX, .slice AX zsX.length cX]) := hid (Box.keep KX23.out hb24)
      have KY24 : Hid (Box w24 bk12 39 #[.int .i64 WX, .int .i64 HX, .slice AY zsX.length cY]) := hid (Box.keep KY23.out hb24)
      have KQ24 : Hid (Box w24 bk17 39 #[.int .i64 WQ, .int .i64 HQ, .slice AQ zsQ.length cQ]) := hid (Box.keep KQ23.out hb24)
      have KZ24 : Hid (Box w24 bk19 39 #[.int .i64 WQ, .int .i64 HQ, .slice AZ zsQ.length cZ]) := hid (Box.keep KZ23.out hb24)
      have O124 : Hid (OwnI w24 w.heap.size (.slice A1 zs1.length c1) zs1) := hid (OwnI.keep O123.out hb24)
      have SG24 : Hid (w24.ownsRow w.heap.size 9 1 (.slice AG sg.length cG) sg.length (strs sg)) := hid (own_keep SG23.out hb24)
      have SM24 : Hid (w24.ownsRow w.heap.size 9 1 (.slice AM sg.length cM) sg.length (strs sg)) := hid (own_keep SM23.out hb24)
      have OR24 : Hid (OwnI w24 w.heap.size (.slice AR zs1.length cR) zs1) := hid (OwnI.keep OR23.out hb24)
      have OX24 : Hid (OwnI w24 w.heap.size (.slice AX zsX.length cX) zsX) := hid (OwnI.keep OX23.out hb24)
      have OY24 : Hid (OwnI w24 w.heap.size (.slice AY zsX.length cY) zsX) := hid (OwnI.keep OY23.out hb24)
      have SS24 : Hid (w24.ownsRow w.heap.size 9 1 (.slice AS ss.length cS) ss.length (strs ss)) := hid (own_keep SS23.out hb24)
      have OQ24 : Hid (OwnI w24 w.heap.size (.slice AQ zsQ.length cQ) zsQ) := hid (OwnI.keep OQ23.out hb24)
      have OZ24 : Hid (OwnI w24 w.heap.size (.slice AZ zsQ.length cZ) zsQ) := hid (OwnI.keep OZ23.out hb24)
      have HB24 : Hid (Below w.heap.size w w24) := hid (bbl HB23.out hb24)
      clear hb24 KP23 KR23 KX23 KY23 KQ23 KZ23 O123 SG23 SM23 OR23 OX23 OY23 SS23 OQ23 OZ23 HB23
      obtain ⟨Pa, Pb, Pc⟩ := KP24.out.three
      have Pz := KP24.out.lt
      obtain ⟨Ra, Rb, Rc⟩ := KR24.out.three
      have Rz := KR24.out.lt
      obtain ⟨Xa, Xb, Xc⟩ := KX24.out.three
      have Xz := KX24.out.lt
      obtain ⟨Ya, Yb, Yc⟩ := KY24.out.three
      have Yz := KY24.out.lt
      obtain ⟨Qa, Qb, Qc⟩ := KQ24.out.three
      have Qz := KQ24.out.lt
      obtain ⟨Za, Zb, Zc⟩ := KZ24.out.three
      have Zz := KZ24.out.lt
      go_wp2_with fail
      refine (implPFN_any _ _ ⟨by omega, by omega⟩).mono ?_
      rintro e w25 ⟨he, hb25⟩
      rw [HNM.out] at he
      subst he
      clear Pa Pb Pc Pz Ra Rb Rc Rz Xa Xb Xc Xz Ya Yb Yc Yz Qa Qb Qc Qz Za Zb Zc Zz
      have KP25 : Hid (Box w25 bk2 39 #[.int .i64 W1, .int .i64 H1, .slice A1 zs1.length c1]) := hid (Box.keep KP24.out hb25)
      have KR25 : Hid (Box w25 bk7 39 #[.int .i64 W1, .int .i64 H1, .slice AR zs1.length cR]) := hid (Box.keep KR24.out hb25)
      have KX25 : Hid (Box w25 bk10 39 #[.int .i64 WX, .int .i64 HX, .slice AX zsX.length cX]) := hid (Box.keep KX24.out hb25)
      have KY25 : Hid (Box w25 bk12 39 #[.int .i64 WX, .int .i64 HX, .slice AY zsX.length cY]) := hid (Box.keep KY24.out hb25)
      have KQ25 : Hid (Box w25 bk17 39 #[.int .i64 WQ, .int .i64 HQ, .slice AQ zsQ.length cQ]) := hid (Box.keep KQ24.out hb25)
      have KZ25 : Hid (Box w25 bk19 39 #[.int .i64 WQ, .int .i64 HQ, .slice AZ zsQ.length cZ]) := hid (Box.keep KZ24.out hb25)
      have O125 : Hid (OwnI w25 w.heap.size (.slice A1 zs1.length c1) zs1) := hid (OwnI.keep O124.out hb25)
      have SG25 : Hid (w25.ownsRow w.heap.size 9 1 (.slice AG sg.length cG) sg.length (strs sg)) := hid (own_keep SG24.out hb25)
      have SM25 : Hid (w25.ownsRow w.heap.size 9 1 (.slice AM sg.length cM) sg.length (strs sg)) := hid (own_keep SM24.out hb25)
      have OR25 : Hid (OwnI w25 w.heap.size (.slice AR zs1.length cR) zs1) := hid (OwnI.keep OR24.out hb25)
      have OX25 : Hid (OwnI w25 w.heap.size (.slice AX zsX.length cX) zsX) := hid (OwnI.keep OX24.out hb25)
      have OY25 : Hid (OwnI w25 w.heap.size (.slice AY zsX.length cY) zsX) := hid (OwnI.keep OY24.out hb25)
      have SS25 : Hid (w25.ownsRow w.heap.size 9 1 (.slice AS ss.length cS) ss.length (strs ss)) := hid (own_keep SS24.out hb25)
      have OQ25 : Hid (OwnI w25 w.heap.size (.slice AQ zsQ.length cQ) zsQ) := hid (OwnI.keep OQ24.out hb25)
      have OZ25 : Hid (OwnI w25 w.heap.size (.slice AZ zsQ.length cZ) zsQ) := hid (OwnI.keep OZ24.out hb25)
      have HB25 : Hid (Below w.heap.size w w25) := hid (bbl HB24.out hb25)
      clear hb25 KP24 KR24 KX24 KY24 KQ24 KZ24 O124 SG24 SM24 OR24 OX24 OY24 SS24 OQ24 OZ24 HB24
      obtain ⟨Pa, Pb, Pc⟩ := KP25.out.three
      have Pz := KP25.out.lt
      obtain ⟨Ra, Rb, Rc⟩ := KR25.out.three
      have Rz := KR25.out.lt
      obtain ⟨Xa, Xb, Xc⟩ := KX25.out.three
      have Xz := KX25.out.lt
      obtain ⟨Ya, Yb, Yc⟩ := KY25.out.three
      have Yz := KY25.out.lt
      obtain ⟨Qa, Qb, Qc⟩ := KQ25.out.three
      have Qz := KQ25.out.lt
      obtain ⟨Za, Zb, Zc⟩ := KZ25.out.three
      have Zz := KZ25.out.lt
      go_wp2_with fail
      refine (implReadPicture_any AG cG sg _ (StrsR.own SG25.out) hgl20 HGZ.out).mono ?_
      rintro e w26 ⟨⟨AB, cB, he, ho⟩, hb⟩
      rw [HRB.out.1, HRB.out.2.1, HRB.out.2.2.2.1, HRB.out.2.2.2.2] at he
      rw [HRB.out.2.2.1, HRB.out.2.2.2.2] at ho
      subst he
      clear Pa Pb Pc Pz Ra Rb Rc Rz Xa Xb Xc Xz Ya Yb Yc Yz Qa Qb Qc Qz Za Zb Zc Zz
      have hlo := HB25.out.size
      have KP26 : Hid (Box w26 bk2 39 #[.int .i64 W1, .int .i64 H1, .slice A1 zs1.length c1]) := hid (Box.keep KP25.out hb)
      have KR26 : Hid (Box w26 bk7 39 #[.int .i64 W1, .int .i64 H1, .slice AR zs1.length cR]) := hid (Box.keep KR25.out hb)
      have KX26 : Hid (Box w26 bk10 39 #[.int .i64 WX, .int .i64 HX, .slice AX zsX.length cX]) := hid (Box.keep KX25.out hb)
      have KY26 : Hid (Box w26 bk12 39 #[.int .i64 WX, .int .i64 HX, .slice AY zsX.length cY]) := hid (Box.keep KY25.out hb)
      have KQ26 : Hid (Box w26 bk17 39 #[.int .i64 WQ, .int .i64 HQ, .slice AQ zsQ.length cQ]) := hid (Box.keep KQ25.out hb)
      have KZ26 : Hid (Box w26 bk19 39 #[.int .i64 WQ, .int .i64 HQ, .slice AZ zsQ.length cZ]) := hid (Box.keep KZ25.out hb)
      have O126 : Hid (OwnI w26 w.heap.size (.slice A1 zs1.length c1) zs1) := hid (OwnI.keep O125.out hb)
      have SG26 : Hid (w26.ownsRow w.heap.size 9 1 (.slice AG sg.length cG) sg.length (strs sg)) := hid (own_keep SG25.out hb)
      have SM26 : Hid (w26.ownsRow w.heap.size 9 1 (.slice AM sg.length cM) sg.length (strs sg)) := hid (own_keep SM25.out hb)
      have OR26 : Hid (OwnI w26 w.heap.size (.slice AR zs1.length cR) zs1) := hid (OwnI.keep OR25.out hb)
      have OX26 : Hid (OwnI w26 w.heap.size (.slice AX zsX.length cX) zsX) := hid (OwnI.keep OX25.out hb)
      have OY26 : Hid (OwnI w26 w.heap.size (.slice AY zsX.length cY) zsX) := hid (OwnI.keep OY25.out hb)
      have SS26 : Hid (w26.ownsRow w.heap.size 9 1 (.slice AS ss.length cS) ss.length (strs ss)) := hid (own_keep SS25.out hb)
      have OQ26 : Hid (OwnI w26 w.heap.size (.slice AQ zsQ.length cQ) zsQ) := hid (OwnI.keep OQ25.out hb)
      have OZ26 : Hid (OwnI w26 w.heap.size (.slice AZ zsQ.length cZ) zsQ) := hid (OwnI.keep OZ25.out hb)
      have HB26 : Hid (Below w.heap.size w w26) := hid (bbl HB25.out hb)
      have OB26 : Hid (OwnI w26 w.heap.size (.slice AB zs1.length cB) zs1) := hid (Go.Joins.ownsRow_le ho hlo)
      clear hb ho hlo KP25 KR25 KX25 KY25 KQ25 KZ25 O125 SG25 SM25 OR25 OX25 OY25 SS25 OQ25 OZ25 HB25
      obtain ⟨Pa, Pb, Pc⟩ := KP26.out.three
      have Pz := KP26.out.lt
      obtain ⟨Ra, Rb, Rc⟩ := KR26.out.three
      have Rz := KR26.out.lt
      obtain ⟨Xa, Xb, Xc⟩ := KX26.out.three
      have Xz := KX26.out.lt
      obtain ⟨Ya, Yb, Yc⟩ := KY26.out.three
      have Yz := KY26.out.lt
      obtain ⟨Qa, Qb, Qc⟩ := KQ26.out.three
      have Qz := KQ26.out.lt
      obtain ⟨Za, Zb, Zc⟩ := KZ26.out.three
      have Zz := KZ26.out.lt
      go_wp2_with fail
      obtain ⟨w27, hw27⟩ : ∃ zz : World, zz = w26.alloc (.cells #[.int .i64 W1, .int .i64 H1, .slice AB zs1.length cB] 39) := ⟨_, rfl⟩
      rw [← hw27]
      have KP27 : Hid (Box w27 bk2 39 #[.int .i64 W1, .int .i64 H1, .slice A1 zs1.length c1]) := hid (by rw [hw27]; exact (Box.alloc KP26.out _))
      have KR27 : Hid (Box w27 bk7 39 #[.int .i64 W1, .int .i64 H1, .slice AR zs1.length cR]) := hid (by rw [hw27]; exact (Box.alloc KR26.out _))
      have KX27 : Hid (Box w27 bk10 39 #[.int .i64 WX, .int .i64 HX, .slice AX zsX.length cX]) := hid (by rw [hw27]; exact (Box.alloc KX26.out _))
      have KY27 : Hid (Box w27 bk12 39 #[.int .i64 WX, .int .i64 HX, .slice AY zsX.length cY]) := hid (by rw [hw27]; exact (Box.alloc KY26.out _))
      have KQ27 : Hid (Box w27 bk17 39 #[.int .i64 WQ, .int .i64 HQ, .slice AQ zsQ.length cQ]) := hid (by rw [hw27]; exact (Box.alloc KQ26.out _))
      have KZ27 : Hid (Box w27 bk19 39 #[.int .i64 WQ, .int .i64 HQ, .slice AZ zsQ.length cZ]) := hid (by rw [hw27]; exact (Box.alloc KZ26.out _))
      have O127 : Hid (OwnI w27 w.heap.size (.slice A1 zs1.length c1) zs1) := hid (by rw [hw27]; exact (O126.out.alloc _))
      have SG27 : Hid (w27.ownsRow w.heap.size 9 1 (.slice AG sg.length cG) sg.length (strs sg)) := hid (by rw [hw27]; exact (SG26.out.alloc _))
      have SM27 : Hid (w27.ownsRow w.heap.size 9 1 (.slice AM sg.length cM) sg.length (strs sg)) := hid (by rw [hw27]; exact (SM26.out.alloc _))
      have OR27 : Hid (OwnI w27 w.heap.size (.slice AR zs1.length cR) zs1) := hid (by rw [hw27]; exact (OR26.out.alloc _))
      have OX27 : Hid (OwnI w27 w.heap.size (.slice AX zsX.length cX) zsX) := hid (by rw [hw27]; exact (OX26.out.alloc _))
      have OY27 : Hid (OwnI w27 w.heap.size (.slice AY zsX.length cY) zsX) := hid (by rw [hw27]; exact (OY26.out.alloc _))
      have SS27 : Hid (w27.ownsRow w.heap.size 9 1 (.slice AS ss.length cS) ss.length (strs ss)) := hid (by rw [hw27]; exact (SS26.out.alloc _))
      have OQ27 : Hid (OwnI w27 w.heap.size (.slice AQ zsQ.length cQ) zsQ) := hid (by rw [hw27]; exact (OQ26.out.alloc _))
      have OZ27 : Hid (OwnI w27 w.heap.size (.slice AZ zsQ.length cZ) zsQ) := hid (by rw [hw27]; exact (OZ26.out.alloc _))
      have OB27 : Hid (OwnI w27 w.heap.size (.slice AB zs1.length cB) zs1) := hid (by rw [hw27]; exact (OB26.out.alloc _))
      have HB27 : Hid (Below w.heap.size w w27) := hid (by rw [hw27]; exact (bal HB26.out _))
      have KB27 : Hid (Box w27 w26.heap.size 39 #[.int .i64 W1, .int .i64 H1, .slice AB zs1.length cB]) := hid (by rw [hw27]; exact (Box.new _ _ _))
      obtain ⟨bk27, hbk27⟩ : ∃ b, b = w26.heap.size := ⟨_, rfl⟩
      rw [← hbk27] at KB27 ⊢
      have oP27 : bk2 < bk27 := by rw [hbk27]; exact KP26.out.lt
      have oR27 : bk7 < bk27 := by rw [hbk27]; exact KR26.out.lt
      have oX27 : bk10 < bk27 := by rw [hbk27]; exact KX26.out.lt
      have oY27 : bk12 < bk27 := by rw [hbk27]; exact KY26.out.lt
      have oQ27 : bk17 < bk27 := by rw [hbk27]; exact KQ26.out.lt
      have oZ27 : bk19 < bk27 := by rw [hbk27]; exact KZ26.out.lt
      have oB27 : w.heap.size ≤ bk27 := by rw [hbk27]; exact HB26.out.size
      clear Pa Pb Pc Pz Ra Rb Rc Rz Xa Xb Xc Xz Ya Yb Yc Yz Qa Qb Qc Qz Za Zb Zc Zz
      clear hw27 hbk27 KP26 KR26 KX26 KY26 KQ26 KZ26 O126 SG26 SM26 OR26 OX26 OY26 SS26 OQ26 OZ26 OB26 HB26
      obtain ⟨Pa, Pb, Pc⟩ := KP27.out.three
      have Pz := KP27.out.lt
      obtain ⟨Ra, Rb, Rc⟩ := KR27.out.three
      have Rz := KR27.out.lt
      obtain ⟨Xa, Xb, Xc⟩ := KX27.out.three
      have Xz := KX27.out.lt
      obtain ⟨Ya, Yb, Yc⟩ := KY27.out.three
      have Yz := KY27.out.lt
      obtain ⟨Qa, Qb, Qc⟩ := KQ27.out.three
      have Qz := KQ27.out.lt
      obtain ⟨Za, Zb, Zc⟩ := KZ27.out.three
      have Zz := KZ27.out.lt
      obtain ⟨Ba, Bb, Bc⟩ := KB27.out.three
      have Bz := KB27.out.lt
      go_wp2_with fail
      refine (calls_bool (specSamePanel_any W1 H1 W1 H1 AB A1 cB c1 zs1 zs1 _ (OwnI.ints OB27.out) (OwnI.ints O127.out) hlz1 hlz1) (samB_self _ _ _)).mono ?_
      rintro e w28 ⟨rfl, hb28⟩
      clear Pa Pb Pc Pz Ra Rb Rc Rz Xa Xb Xc Xz Ya Yb Yc Yz Qa Qb Qc Qz Za Zb Zc Zz Ba Bb Bc Bz
      have KP28 : Hid (Box w28 bk2 39 #[.int .i64 W1, .int .i64 H1, .slice A1 zs1.length c1]) := hid (Box.keep KP27.out hb28)
      have KR28 : Hid (Box w28 bk7 39 #[.int .i64 W1, .int .i64 H1, .slice AR zs1.length cR]) := hid (Box.keep KR27.out hb28)
      have KX28 : Hid (Box w28 bk10 39 #[.int .i64 WX, .int .i64 HX, .slice AX zsX.length cX]) := hid (Box.keep KX27.out hb28)
      have KY28 : Hid (Box w28 bk12 39 #[.int .i64 WX, .int .i64 HX, .slice AY zsX.length cY]) := hid (Box.keep KY27.out hb28)
      have KQ28 : Hid (Box w28 bk17 39 #[.int .i64 WQ, .int .i64 HQ, .slice AQ zsQ.length cQ]) := hid (Box.keep KQ27.out hb28)
      have KZ28 : Hid (Box w28 bk19 39 #[.int .i64 WQ, .int .i64 HQ, .slice AZ zsQ.length cZ]) := hid (Box.keep KZ27.out hb28)
      have KB28 : Hid (Box w28 bk27 39 #[.int .i64 W1, .int .i64 H1, .slice AB zs1.length cB]) := hid (Box.keep KB27.out hb28)
      have O128 : Hid (OwnI w28 w.heap.size (.slice A1 zs1.length c1) zs1) := hid (OwnI.keep O127.out hb28)
      have SG28 : Hid (w28.ownsRow w.heap.size 9 1 (.slice AG sg.length cG) sg.length (strs sg)) := hid (own_keep SG27.out hb28)
      have SM28 : Hid (w28.ownsRow w.heap.size 9 1 (.slice AM sg.length cM) sg.length (strs sg)) := hid (own_keep SM27.out hb28)
      have OR28 : Hid (OwnI w28 w.heap.size (.slice AR zs1.length cR) zs1) := hid (OwnI.keep OR27.out hb28)
      have OX28 : Hid (OwnI w28 w.heap.size (.slice AX zsX.length cX) zsX) := hid (OwnI.keep OX27.out hb28)
      have OY28 : Hid (OwnI w28 w.heap.size (.slice AY zsX.length cY) zsX) := hid (OwnI.keep OY27.out hb28)
      have SS28 : Hid (w28.ownsRow w.heap.size 9 1 (.slice AS ss.length cS) ss.length (strs ss)) := hid (own_keep SS27.out hb28)
      have OQ28 : Hid (OwnI w28 w.heap.size (.slice AQ zsQ.length cQ) zsQ) := hid (OwnI.keep OQ27.out hb28)
      have OZ28 : Hid (OwnI w28 w.heap.size (.slice AZ zsQ.length cZ) zsQ) := hid (OwnI.keep OZ27.out hb28)
      have OB28 : Hid (OwnI w28 w.heap.size (.slice AB zs1.length cB) zs1) := hid (OwnI.keep OB27.out hb28)
      have HB28 : Hid (Below w.heap.size w w28) := hid (bbl HB27.out hb28)
      clear hb28 KP27 KR27 KX27 KY27 KQ27 KZ27 KB27 O127 SG27 SM27 OR27 OX27 OY27 SS27 OQ27 OZ27 OB27 HB27
      obtain ⟨Pa, Pb, Pc⟩ := KP28.out.three
      have Pz := KP28.out.lt
      obtain ⟨Ra, Rb, Rc⟩ := KR28.out.three
      have Rz := KR28.out.lt
      obtain ⟨Xa, Xb, Xc⟩ := KX28.out.three
      have Xz := KX28.out.lt
      obtain ⟨Ya, Yb, Yc⟩ := KY28.out.three
      have Yz := KY28.out.lt
      obtain ⟨Qa, Qb, Qc⟩ := KQ28.out.three
      have Qz := KQ28.out.lt
      obtain ⟨Za, Zb, Zc⟩ := KZ28.out.three
      have Zz := KZ28.out.lt
      obtain ⟨Ba, Bb, Bc⟩ := KB28.out.three
      have Bz := KB28.out.lt
      go_wp2_with fail
      go_ret
      exact ⟨rfl, HB28.out⟩
end Go.Proofs.Ytgcgaoblbhojnaa
namespace Go.Proofs.Ytgcgaoblbhojnaa
set_option linter.unusedSimpArgs false
set_option linter.unusedVariables false
open Go.ChangeShapes Go.WideShapes Go.ChangeAt Go.RowKit Go.Joins

theorem ownK : ownKnob Try.prog.godebug = none := by kernel_rfl
theorem laidOutK : laidOutB Try.prog = true := by kernel_rfl
theorem cellsI : Try.prog.cellsOf 2 = 1 := by kernel_rfl

theorem cellsP : Try.prog.cellsOf 36 = 3 := by kernel_rfl

theorem honeP : Go.Deep.oneCellFields Try.prog #[{ name := "W", type := 2, offset := 0, embedded := false, tag := "", pkgPath := "", byteOffset := 0 }, { name := "H", type := 2, offset := 1, embedded := false, tag := "", pkgPath := "", byteOffset := 8 }, { name := "Breaks", type := 34, offset := 2, embedded := false, tag := "", pkgPath := "", byteOffset := 16 }] = true := by kernel_rfl

section
variable {H : Type} {enc : TypeId × Value → H} {W : World} {base : Nat} {sp : Nat → Bool} {held : Bool}

/-- A slice of int64 that came in. -/
theorem ints_open {fuel : Nat} {v : Value} {x : DataW H × List MemPlace} (h : DataW.trod enc Try.prog W base sp held fuel 34 [v] = some x) :
    ∃ A c zs, v = .slice A zs.length c ∧ zs.length ≤ maxLen ∧ Ints W W.heap.size A zs ∧ ∀ z ∈ zs, (Lit.int .i64 z).wf = true := by
  rcases open_ints Try.underlying34 Try.underlying2 cellsI h with ⟨hcs, _⟩ | ⟨a, len, cap, zs, hcs, _, hl, hm, hz, _, hcell, hwz⟩
  · simp at hcs
    subst hcs
    exact ⟨none, 0, [], rfl, Nat.zero_le _, fun j z h => by simp at h, by simp⟩
  · simp at hcs
    subst hcs
    have hlen : len ≤ zs.length := by rw [hz]; split <;> omega
    have e : (zs.take len).length = len := by rw [List.length_take]; omega
    refine ⟨some a, cap, zs.take len, by rw [e], by omega, ?_, fun z hz => hwz z (List.mem_of_mem_take hz)⟩
    intro j z hj
    have hjl : j < len := by have := (List.getElem?_eq_some_iff.1 hj).1; omega
    have hzj : zs[j]? = some z := by rwa [List.getElem?_take, if_pos hjl] at hj
    obtain ⟨b, off, rfl, hc⟩ := ints_at hcell (by omega)
    have h1 := hc j (by omega)
    exact ⟨b, off, rfl, World.block_lt_of_cell? W _ h1, by rw [h1, List.getD_eq_getElem?_getD, hzj]; rfl⟩


set_option maxRecDepth 100000 in
theorem panel_open {b0 : Nat} {r : Reach} {v : Value} {d : DataW H} {ps : List MemPlace} (hv : Value.okWide Try.prog W r b0 36 v) (h : DataW.Trod enc Try.prog W base sp held 36 v d ps) :
    ∃ Wd Hd A c zs, v = .agg #[.int .i64 Wd, .int .i64 Hd, .slice A zs.length c] ∧ (Lit.int .i64 Wd).wf = true ∧ (Lit.int .i64 Hd).wf = true ∧ zs.length ≤ maxLen ∧ Ints W W.heap.size A zs ∧ ∀ z ∈ zs, (Lit.int .i64 z).wf = true := by
  obtain ⟨c0, c1, c2, y0, y1, y2, m, rfl, rfl, rfl, hy0, hy1, hy2⟩ := open_agg3 Try.underlying36 honeP cellsP hv h
  obtain ⟨a, e0, _, wa⟩ := DataW.trod_int Try.underlying2 hy0
  obtain ⟨b, e1, _, wb⟩ := DataW.trod_int Try.underlying2 hy1
  obtain ⟨A, c, zs, e2, hl, hz, hw⟩ := ints_open hy2
  simp at e0 e1
  subst e0 e1 e2
  exact ⟨a, b, A, c, zs, rfl, wa, wb, hl, hz, hw⟩
end
end Go.Proofs.Ytgcgaoblbhojnaa

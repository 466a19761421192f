/- ReadPanel: the reference's contracts. -/
import Derived.Test.YtgcgaoblbhojnaaPq
namespace Go.Proofs.Ytgcgaoblbhojnaa
set_option linter.unusedSimpArgs false
set_option linter.unusedVariables false
open Go.ChangeShapes Go.WideShapes Go.ChangeAt Go.RowKit
noncomputable def l5B (s : ByteArray) : Bool := prG s && (rdB (prA s) && rdB (prB s))
noncomputable def l5W (s : ByteArray) : Int := if prG s then rdR (prA s) else 0
noncomputable def l5H (s : ByteArray) : Int := if prG s then rdR (prB s) else 0
def l5Z (s : ByteArray) : List Int := if prG s then prZ s else []
def l5N (s : ByteArray) : Nat := (l5Z s).length
theorem l5_no {s : ByteArray} (h : prG s = false) : l5W s = 0 ∧ l5H s = 0 ∧ l5N s = 0 ∧ l5Z s = [] ∧ l5B s = false := by simp [l5W, l5H, l5N, l5Z, l5B, h]
theorem l5_yes {s : ByteArray} (h : prG s = true) : l5W s = rdR (prA s) ∧ l5H s = rdR (prB s) ∧ l5N s = (prZ s).length ∧ l5Z s = prZ s ∧ l5B s = (rdB (prA s) && rdB (prB s)) := by simp [l5W, l5H, l5N, l5Z, l5B, h]
theorem prZ_len (s : ByteArray) : (prZ s).length ≤ s.size := by
  rw [prZ_eq, List.length_map, List.length_drop, byteL_length]
  omega
theorem strs_cell {w : World} {lo g c n : Nat} {ss : List ByteArray} (h : w.ownsRow lo 9 1 (.slice (some ⟨g, 0, none⟩) n c) n (strs ss)) {i : Nat} {x : ByteArray} (hi : ss[i]? = some x) : w.cell? ⟨g, i, none⟩ = some (.string x) := by
  have hl : ss.length = n := by simpa [strs] using h.1
  have hil := (List.getElem?_eq_some_iff.1 hi).1
  rw [World.ownsRow.cellAt h i (by omega)]
  simp [strs, hi]
set_option maxRecDepth 100000 in
set_option maxHeartbeats 4000000 in
theorem l05Read_any (s : ByteArray) (w : World) (hs : s.size ≤ 1048576) :
    Calls Try.prog 78 #[.string s] w fun e w' => (∃ A' c', e = .returned (.tuple #[.agg #[.int .i64 (l5W s), .int .i64 (l5H s), .slice A' (l5N s) c'], .bool (l5B s)]) ∧ w'.ownsRow w.heap.size 2 1 (.slice A' (l5N s) c') (l5N s) (vals (l5Z s))) ∧ Below w.heap.size w w' := by
  obtain ⟨i0, hi0, hz0, hz1, hz2⟩ := info_parts infoI
  have HS := hid hs
  have KR0 := hid (Box.new w 39 #[.int .i64 0, .int .i64 0, .slice none 0 0])
  have HB0 : Hid (Below w.heap.size w (w.alloc (.cells #[.int .i64 0, .int .i64 0, .slice none 0 0] 39))) := hid (bal (Below.refl _ _) _)
  clear hs
  by_cases h58 : ¬ (byteL s).count 58 = 1
  · have HV := hid (l5_no (s := s) (by unfold prG; rw [beq_eq_false_iff_ne.2 h58]; rfl))
    obtain ⟨n, hn⟩ : ∃ n, (spL s 58).length = n := ⟨_, rfl⟩
    have hn2 : ¬ ((n : Int) = 2) := by have := spL_count s 58; omega
    have HSP : Hid (∀ wx : World, Calls Try.prog 110 #[.string s, .int .u8 58] wx fun e w' => (∃ A' c', e = .returned (.slice A' n c') ∧ w'.ownsRow wx.heap.size 9 1 (.slice A' n c') n (strs (spL s 58))) ∧ Below wx.heap.size wx w') := hid (fun wx => by have h := l01Split_any s 58 wx HS.out ⟨by omega, by omega⟩; rw [hn] at h; exact h)
    clear hn h58
    go_enter Try.func78, Try.ntmps78
    go_wp2_with fail
    refine (HSP.out _).mono ?_
    rintro e w1 ⟨⟨A1, c1, rfl, -⟩, hb1⟩
    have KR1 := hid (Box.keep KR0.out hb1)
    have HB1 := hid (bbl HB0.out hb1)
    clear hb1
    obtain ⟨Ra, Rb, Rc⟩ := KR1.out.three
    have Rz := KR1.out.lt
    have Rf := KR1.out.free
    go_wp2_with fail
    have hE := HB1.out
    refine bodyPost_ret (v := .tuple #[.agg #[.int .i64 0, .int .i64 0, .slice none 0 0], .bool false]) (by simp [results, Try.results78, go_sem, *]) rfl ⟨⟨none, 0, by rw [HV.out.1, HV.out.2.1, HV.out.2.2.1, HV.out.2.2.2.2], by rw [HV.out.2.2.1, HV.out.2.2.2.1]; exact World.ownsRow_nil _ _ _ _⟩, ?_⟩
    repeat (refine Below.setCell ?_ (by simp) _)
    exact hE
  have h58' := Decidable.not_not.1 h58
  clear h58
  have hsp := spL_one h58'
  change spL s 58 = [prU s, prV s] at hsp
  have HSP : Hid (∀ wx : World, Calls Try.prog 110 #[.string s, .int .u8 58] wx fun e w' => (∃ A' c', e = .returned (.slice A' 2 c') ∧ w'.ownsRow wx.heap.size 9 1 (.slice A' 2 c') 2 (strs [prU s, prV s])) ∧ Below wx.heap.size wx w') := hid (fun wx => by have h := l01Split_any s 58 wx HS.out ⟨by omega, by omega⟩; rw [hsp] at h; exact h)
  have hUs : (prU s).size ≤ 1048576 := by have := HS.out; unfold prU; rw [ByteArray.size_extract]; omega
  have hG : prG s = ((byteL (prU s)).count 120 == 1) := by unfold prG; rw [h58']; rfl
  obtain ⟨U, hU⟩ : ∃ U, prU s = U := ⟨_, rfl⟩
  obtain ⟨V, hV⟩ : ∃ V, prV s = V := ⟨_, rfl⟩
  have hAB : prA s = U.extract 0 ((byteL U).idxOf 120) ∧ prB s = U.extract ((byteL U).idxOf 120 + 1) U.size := by unfold prA prB; rw [hU]; exact ⟨rfl, rfl⟩
  have hZ : prZ s = (byteL V).map kdF := by unfold prZ; rw [hV]
  have hVs : V.size ≤ 1048576 := by have := HS.out; rw [← hV]; unfold prV; rw [ByteArray.size_extract]; omega
  rw [hU, hV] at HSP
  rw [hU] at hUs hG
  have HZ := hid hZ
  have HUV := hid (And.intro hU hV)
  clear hsp hZ hU hV h58'
  by_cases h120 : ¬ (byteL U).count 120 = 1
  · have HV := hid (l5_no (s := s) (by rw [hG]; exact beq_eq_false_iff_ne.2 h120))
    obtain ⟨n, hn⟩ : ∃ n, (spL U 120).length = n := ⟨_, rfl⟩
    have hn2 : ¬ ((n : Int) = 2) := by have := spL_count U 120; omega
    have HSQ : Hid (∀ wx : World, Calls Try.prog 110 #[.string U, .int .u8 120] wx fun e w' => (∃ A' c', e = .returned (.slice A' n c') ∧ w'.ownsRow wx.heap.size 9 1 (.slice A' n c') n (strs (spL U 120))) ∧ Below wx.heap.size wx w') := hid (fun wx => by have h := l01Split_any U 120 wx hUs ⟨by omega, by omega⟩; rw [hn] at h; exact h)
    clear hn h120 hG hAB
    go_enter Try.func78, Try.ntmps78
    go_wp2_with fail
    refine (HSP.out _).mono ?_
    rintro e w1 ⟨⟨A1, c1, rfl, ho1⟩, hb1⟩
    have KR1 := hid (Box.keep KR0.out hb1)
    have HB1 := hid (bbl HB0.out hb1)
    obtain ⟨g1, cq1, e1⟩ := Go.Joins.ownsRow_form ho1 (by omega)
    simp only [Value.slice.injEq] at e1
    obtain ⟨rfl, -, rfl⟩ := e1
    have hc0 := strs_cell ho1 (i := 0) rfl
    have hg1 := (World.ownsRow.lt ho1 g1 rfl).2
    clear hb1 ho1
    go_wp2_with fail
    refine (HSQ.out _).mono ?_
    rintro e w2 ⟨⟨A2, c2, rfl, -⟩, hb2⟩
    have KR2 := hid (Box.keep KR1.out hb2)
    have HB2 := hid (bbl HB1.out hb2)
    clear hb2 hc0 hg1 KR1 HB1
    obtain ⟨Ra, Rb, Rc⟩ := KR2.out.three
    have Rz := KR2.out.lt
    have Rf := KR2.out.free
    go_wp2_with fail
    have hE := HB2.out
    refine bodyPost_ret (v := .tuple #[.agg #[.int .i64 0, .int .i64 0, .slice none 0 0], .bool false]) (by simp [results, Try.results78, go_sem, *]) rfl ⟨⟨none, 0, by rw [HV.out.1, HV.out.2.1, HV.out.2.2.1, HV.out.2.2.2.2], by rw [HV.out.2.2.1, HV.out.2.2.2.1]; exact World.ownsRow_nil _ _ _ _⟩, ?_⟩
    repeat (refine Below.setCell ?_ (by simp) _)
    exact hE
  have h120' := Decidable.not_not.1 h120
  clear h120
  have hsq := spL_one h120'
  rw [← hAB.1, ← hAB.2] at hsq
  have hAs : (prA s).size ≤ 1048576 := by rw [hAB.1, ByteArray.size_extract]; omega
  have hBs : (prB s).size ≤ 1048576 := by rw [hAB.2, ByteArray.size_extract]; omega
  obtain ⟨a, ha⟩ : ∃ a, prA s = a := ⟨_, rfl⟩
  obtain ⟨b, hb⟩ : ∃ b, prB s = b := ⟨_, rfl⟩
  have HYE := hid (l5_yes (s := s) (by rw [hG, h120']; rfl))
  rw [ha] at hAs hsq HYE
  rw [hb] at hBs hsq HYE
  have HSQ : Hid (∀ wx : World, Calls Try.prog 110 #[.string U, .int .u8 120] wx fun e w' => (∃ A' c', e = .returned (.slice A' 2 c') ∧ w'.ownsRow wx.heap.size 9 1 (.slice A' 2 c') 2 (strs [a, b])) ∧ Below wx.heap.size wx w') := hid (fun wx => by have h := l01Split_any U 120 wx hUs ⟨by omega, by omega⟩; rw [hsq] at h; exact h)
  obtain ⟨W, hW⟩ : ∃ W, rdR a = W := ⟨_, rfl⟩
  obtain ⟨b1, hb1⟩ : ∃ q, rdB a = q := ⟨_, rfl⟩
  obtain ⟨H, hH⟩ : ∃ H, rdR b = H := ⟨_, rfl⟩
  obtain ⟨b2, hb2⟩ : ∃ q, rdB b = q := ⟨_, rfl⟩
  rw [hW, hH, hb1, hb2, HZ.out] at HYE
  have HR1 := hid (And.intro hW hb1)
  have HR2 := hid (And.intro hH hb2)
  obtain ⟨m, hm⟩ : ∃ m, V.size = m := ⟨_, rfl⟩
  have hm20 : m ≤ 1048576 := by omega
  have HLL : Hid ((byteL V).length = m) := hid (by rw [byteL_length, hm])
  have HAS := hid (And.intro hAs hBs)
  clear hsq hAB ha hb hG hW hH hb1 hb2 hUs h120' hVs hAs hBs
  go_enter Try.func78, Try.ntmps78
  go_wp2_with fail
  refine (HSP.out _).mono ?_
  rintro e w1 ⟨⟨A1, c1, rfl, ho1⟩, hb1⟩
  have KR1 := hid (Box.keep KR0.out hb1)
  have HB1 := hid (bbl HB0.out hb1)
  obtain ⟨g1, cq1, e1⟩ := Go.Joins.ownsRow_form ho1 (by omega)
  simp only [Value.slice.injEq] at e1
  obtain ⟨rfl, -, rfl⟩ := e1
  have hc0 := strs_cell ho1 (i := 0) rfl
  have hg1 := (World.ownsRow.lt ho1 g1 rfl).2
  have HO1 := hid ho1
  clear hb1 ho1
  go_wp2_with fail
  refine (HSQ.out _).mono ?_
  rintro e w2 ⟨⟨A2, c2, rfl, ho2⟩, hb2⟩
  have KR2 := hid (Box.keep KR1.out hb2)
  have HB2 := hid (bbl HB1.out hb2)
  have HO2 := hid (own_keep HO1.out hb2)
  obtain ⟨g2, cq2, e2⟩ := Go.Joins.ownsRow_form ho2 (by omega)
  simp only [Value.slice.injEq] at e2
  obtain ⟨rfl, -, rfl⟩ := e2
  have HQ2 := hid ho2
  clear hb2 ho2 hc0 hg1 KR1 HB1 HO1
  have hd0 := strs_cell HQ2.out (i := 0) rfl
  have hg2 := (World.ownsRow.lt HQ2.out g2 rfl).2
  go_wp2_with fail
  refine (l01Number_any a _ HAS.out.1).mono ?_
  rintro e w3 ⟨he, hb3⟩
  rw [HR1.out.1, HR1.out.2] at he
  subst he
  have KR3 := hid (Box.keep KR2.out hb3)
  have HB3 := hid (bbl HB2.out hb3)
  have HO3 := hid (own_keep HO2.out hb3)
  have HQ3 := hid (own_keep HQ2.out hb3)
  clear hb3 hd0 hg2 KR2 HB2 HO2 HQ2
  have hd1 := strs_cell HQ3.out (i := 1) rfl
  have hg2 := (World.ownsRow.lt HQ3.out g2 rfl).2
  go_wp2_with fail
  refine (l01Number_any b _ HAS.out.2).mono ?_
  rintro e w4 ⟨he, hb4⟩
  rw [HR2.out.1, HR2.out.2] at he
  subst he
  have KR4 := hid (Box.keep KR3.out hb4)
  have HB4 := hid (bbl HB3.out hb4)
  have HO4 := hid (own_keep HO3.out hb4)
  clear hb4 hd1 hg2 KR3 HB3 HO3 HQ3
  go_wp2_with fail
  obtain ⟨w5, hw5⟩ : ∃ zz : World, zz = w4.alloc (.cells #[.int .i64 W, .int .i64 H, .slice none 0 0] 39) := ⟨_, rfl⟩
  rw [← hw5]
  obtain ⟨pb, hpb⟩ : ∃ b, b = w4.heap.size := ⟨_, rfl⟩
  have KP5 := hid (show Box w5 pb 39 #[.int .i64 W, .int .i64 H, .slice none 0 0] by rw [hw5, hpb]; exact Box.new _ _ _)
  have HB5 := hid (show Below w4.heap.size w4 w5 by rw [hw5]; exact bal (Below.refl _ _) _)
  have HG1 := hid (strs_cell HO4.out (i := 1) rfl)
  have hg1 := (World.ownsRow.lt HO4.out g1 rfl).2
  have hz4 := HB4.out.size
  have hr4 := KR4.out.lt
  rw [← hpb] at hg1 hz4 hr4 HB5 ⊢
  have HPB := hid hpb
  clear hw5 HO4 hpb
  go_loopg [11] m (fun g i wr => ∃ (k : Nat) (v : Value), k ≤ m ∧ i = .int .i64 k ∧ g = m - k ∧ Hid (wr.ownsRow (pb + 1) 2 1 v k (vals (((byteL V).take k).map kdF))) ∧ Hid (Box wr pb 39 #[.int .i64 W, .int .i64 H, v]) ∧ Hid (Below pb w4 wr))
  case atStart => exact ⟨0, .slice none 0 0, Nat.zero_le _, rfl, rfl, hid (World.ownsRow_nil _ _ _ _), KP5, HB5⟩
  case round =>
    clear KP5 HB5
    obtain ⟨k, v, hk, rfl, hg, HO, KP, HB⟩ := hrel
    obtain ⟨Pa, Pb, Pc⟩ := KP.out.three
    have Pz := KP.out.lt
    have Pf := KP.out.free
    have hcv : wr.cell? ⟨g1, 1, none⟩ = some (.string V) := (HB.out.cell (p := ⟨g1, 1, none⟩) hg1).trans HG1.out
    have hgw : g1 < wr.heap.size := by omega
    by_cases hlt : k < m
    · have hjs : k < V.size := by omega
      obtain ⟨z, hz⟩ : ∃ q : Int, ((V[k]'hjs).toNat : Int) = q := ⟨_, rfl⟩
      have HLZ : Hid ((byteL V)[k]? = some z) := hid (by rw [byte_at V k hjs, hz])
      have HST := hid (imZ_at HLZ.out)
      go_wp2_with fail
      go_region_law (first | (go_simp; go_at_call 83; refine (l05Kind_any z _).mono ?_; rintro e w' ⟨rfl, rfl⟩) | (refine step_append_lies _ (by rfl) (.tmp 52) (.tmp 59) 34 (by rfl) (pb + 1) 2 i0 (.int .i64 0) 1 8 Try.underlying34 hi0 hz0 hz1 hz2 rfl (by omega) v k (vals (((byteL V).take k).map kdF)) (by rfl) (HO.out.alloc _) ⟨wr.heap.size, 0, none⟩ 1 1 [.int .i64 (kdF z)] (by rfl) rfl (World.news_of_block (cs := #[.int .i64 (kdF z)]) (t := 2) (fr := (0, 0)) (heap_alloc_new wr _)) (by simp [Value.oneCell']) (by omega) (by unfold maxLen; omega) (by omega) (by simp; omega) (wr.heap.size + 1) (by simp) ?_; intro gg cap w5 hown5 hgrow5' hat5 hlt5; have hgrow5 := gb_drewQ hgrow5'; have KP5 := hid (Box.grew (Box.alloc KP.out (.cells #[.int .i64 (kdF z)] 2)) hgrow5 (own_boxQ (HO.out.alloc (.cells #[.int .i64 (kdF z)] 2)) (Box.alloc KP.out (.cells #[.int .i64 (kdF z)] 2)) (by decide))); have HB5 := hid (Below.grown (Below.alloc HB.out (by omega) (.cells #[.int .i64 (kdF z)] 2)) hgrow5 (by simp; omega) (fun q hq => by have := (HO.out.lt q hq).1; omega)); have HO5 := hid hown5; clear hown5 hgrow5 hgrow5' hat5 hlt5; have c5 := (Box.three KP5.out).2.2; have f5 := KP5.out.free; have z5 := KP5.out.lt))
      all_goals (go_wp2_with fail)
      all_goals (go_roundg (m - (k + 1)))
      all_goals (first | (case measure => omega) | skip)
      all_goals (first | (case rel => exact ⟨k + 1, .slice (some ⟨gg, 0, none⟩) (k + 1) cap, by omega, by go_num, rfl, hid (HST.out ▸ own_setbQ HO5.out KP5.out (by decide) 2 _), hid (Box.putL KP5.out), hid (Below.setCell HB5.out (Nat.le_refl _) _)⟩) | skip)
    · obtain rfl : k = m := by omega
      obtain ⟨A9, c9, rfl⟩ := own_form HO.out
      have HO2 : Hid (wr.ownsRow (pb + 1) 2 1 (.slice A9 k c9) k (vals ((byteL V).map kdF))) := hid (by have h := HO.out; rw [List.take_of_length_le (by rw [HLL.out]; exact Nat.le_refl _)] at h; exact h)
      have HBW := hid (Below.trans HB4.out (HB.out.mono hz4))
      have KR := hid (show Box wr w.heap.size 39 #[.int .i64 0, .int .i64 0, .slice none 0 0] from (HB.out.block _ hr4).trans KR4.out)
      have HNN : Hid (l5W s = W ∧ l5H s = H ∧ l5N s = k ∧ l5Z s = (byteL V).map kdF ∧ l5B s = (b1 && b2)) := hid ⟨HYE.out.1, HYE.out.2.1, HYE.out.2.2.1.trans (by rw [List.length_map, HLL.out]), HYE.out.2.2.2.1, HYE.out.2.2.2.2⟩
      obtain ⟨Ra, Rb, Rc⟩ := KR.out.three
      have Rz := KR.out.lt
      have Rf := KR.out.free
      have hpw : w.heap.size ≤ pb + 1 := by omega
      clear HO
      cases b1
      · go_wp2_with fail
        have hE := HBW.out
        have ho := HO2.out
        refine bodyPost_ret (v := .tuple #[.agg #[.int .i64 W, .int .i64 H, .slice A9 k c9], .bool false]) (by simp [results, Try.results78, go_sem, *]) rfl ⟨⟨A9, c9, by rw [HNN.out.1, HNN.out.2.1, HNN.out.2.2.1, HNN.out.2.2.2.2]; rfl, ?_⟩, ?_⟩
        · rw [HNN.out.2.2.1, HNN.out.2.2.2.1]
          refine Go.Joins.ownsRow_le (base := pb + 1) ?_ hpw
          repeat (refine ownsRow_setCell_below ?_ (by simp; omega) _)
          exact ho
        · repeat (refine Below.setCell ?_ (by simp) _)
          exact hE
      · go_wp2_with fail
        have hE := HBW.out
        have ho := HO2.out
        refine bodyPost_ret (v := .tuple #[.agg #[.int .i64 W, .int .i64 H, .slice A9 k c9], .bool b2]) (by simp [results, Try.results78, go_sem, *]) rfl ⟨⟨A9, c9, by rw [HNN.out.1, HNN.out.2.1, HNN.out.2.2.1, HNN.out.2.2.2.2]; simp, ?_⟩, ?_⟩
        · rw [HNN.out.2.2.1, HNN.out.2.2.2.1]
          refine Go.Joins.ownsRow_le (base := pb + 1) ?_ hpw
          repeat (refine ownsRow_setCell_below ?_ (by simp; omega) _)
          exact ho
        · repeat (refine Below.setCell ?_ (by simp) _)
          exact hE
set_option maxRecDepth 100000 in
set_option maxHeartbeats 4000000 in
theorem specReadPanel_any (s : ByteArray) (w : World) (hs : s.size ≤ 1048576) :
    Calls Try.prog 33 #[.string s] w fun e w' => (∃ A' c', e = .returned (.tuple #[.agg #[.int .i64 (pnW s), .int .i64 (pnH s), .slice A' (pnN s) c'], .bool (pnO s)]) ∧ w'.ownsRow w.heap.size 2 1 (.slice A' (pnN s) c') (pnN s) (vals (pnL s))) ∧ Below w.heap.size w w' := by
  have HS := hid hs
  have KR0 := hid (Box.new w 39 #[.int .i64 0, .int .i64 0, .slice none 0 0])
  have HB0 : Hid (Below w.heap.size w (w.alloc (.cells #[.int .i64 0, .int .i64 0, .slice none 0 0] 39))) := hid (bal (Below.refl _ _) _)
  have HNO : Hid (pnO s = false → pnW s = 0 ∧ pnH s = 0 ∧ pnN s = 0 ∧ pnL s = [] ∧ pnO s = false) := hid (fun h => by simp [pnW, pnH, pnN, pnL, h])
  have HPO : Hid (l5B s = true → pnO s = validB (l5W s) (l5H s) (l5Z s)) := hid (fun h => by
    have hg : prG s = true := by unfold l5B at h; simp at h; exact h.1
    obtain ⟨e1, e2, _, e4, e5⟩ := l5_yes hg
    rw [e1, e2, e4]
    rw [e5] at h
    unfold pnO
    rw [hg, h]
    rfl)
  have HPY : Hid (l5B s = true → pnO s = true → pnW s = l5W s ∧ pnH s = l5H s ∧ pnN s = l5N s ∧ pnL s = l5Z s) := hid (fun h hp => by
    have hg : prG s = true := by unfold l5B at h; simp at h; exact h.1
    obtain ⟨e1, e2, e3, e4, _⟩ := l5_yes hg
    unfold pnN pnW pnH pnL
    rw [e1, e2, e3, e4, hp]
    exact ⟨rfl, rfl, rfl, rfl⟩)
  have HPF : Hid (l5B s = false → pnO s = false) := hid (fun h => by
    unfold l5B at h
    unfold pnO
    rw [h]
    rfl)
  have HLN : Hid ((l5Z s).length = l5N s) := hid rfl
  have hln : l5N s ≤ 1048576 := by
    unfold l5N l5Z
    split
    · exact Nat.le_trans (prZ_len s) hs
    · simp
  have HRD := hid (fun wx => l05Read_any s wx hs)
  obtain ⟨W, hW⟩ : ∃ W, l5W s = W := ⟨_, rfl⟩
  obtain ⟨H, hH⟩ : ∃ H, l5H s = H := ⟨_, rfl⟩
  obtain ⟨n, hn⟩ : ∃ n, l5N s = n := ⟨_, rfl⟩
  obtain ⟨zs, hzs⟩ : ∃ z, l5Z s = z := ⟨_, rfl⟩
  obtain ⟨bk, hbk⟩ : ∃ b, l5B s = b := ⟨_, rfl⟩
  rw [hW, hH, hzs] at HPO
  rw [hW, hH, hn, hzs] at HPY HRD
  rw [hbk] at HPO HPY HPF HRD
  rw [hn] at hln
  rw [hzs, hn] at HLN
  have hzl := HLN.out
  subst hzl
  obtain ⟨bv, hbv⟩ : ∃ b, validB W H zs = b := ⟨_, rfl⟩
  have HBV := hid hbv
  clear hs hW hH hn hzs hbk hbv
  go_enter Try.func33, Try.ntmps33
  go_wp2_with fail
  refine (HRD.out _).mono ?_
  rintro e w1 ⟨⟨A1, c1, rfl, ho1⟩, hb1⟩
  have KR1 := hid (Box.keep KR0.out hb1)
  have HB1 := hid (bbl HB0.out hb1)
  have HO1 := hid ho1
  clear hb1 ho1
  cases bk with
  | false =>
    have HV := hid (HNO.out (HPF.out rfl))
    have KR2 := hid (Box.alloc KR1.out (.cells #[.int .i64 W, .int .i64 H, .slice A1 zs.length c1] 39))
    have HB2 := hid (bal HB1.out (.cells #[.int .i64 W, .int .i64 H, .slice A1 zs.length c1] 39))
    obtain ⟨Ra, Rb, Rc⟩ := KR2.out.three
    have Rz := KR2.out.lt
    have Rf := KR2.out.free
    go_wp2_with fail
    have hE := HB2.out
    refine bodyPost_ret (v := .tuple #[.agg #[.int .i64 0, .int .i64 0, .slice none 0 0], .bool false]) (by simp [results, Try.results33, go_sem, *]) rfl ⟨⟨none, 0, by rw [HV.out.1, HV.out.2.1, HV.out.2.2.1, HV.out.2.2.2.2], by rw [HV.out.2.2.1, HV.out.2.2.2.1]; exact World.ownsRow_nil _ _ _ _⟩, ?_⟩
    repeat (refine Below.setCell ?_ (by simp) _)
    exact hE
  | true =>
    go_wp2_with fail
    refine (calls_bool (l02Ok_any w1.heap.size W H A1 c1 zs (w1.alloc (.cells #[.int .i64 W, .int .i64 H, .slice A1 zs.length c1] 39)) w1.heap.size (Box.new w1 _ _) ((ints_of HO1.out).below (bal (Below.refl _ _) _)) (by unfold maxLen; omega)) HBV.out).mono ?_
    rintro e w2 ⟨rfl, mm, rfl⟩
    have KR2 := hid (Box.drewN (Box.alloc KR1.out (.cells #[.int .i64 W, .int .i64 H, .slice A1 zs.length c1] 39)) mm)
    have KP2 := hid (Box.drewN (Box.new w1 39 #[.int .i64 W, .int .i64 H, .slice A1 zs.length c1]) mm)
    have HB2 := hid (below_drewN (bal HB1.out (.cells #[.int .i64 W, .int .i64 H, .slice A1 zs.length c1] 39)) mm)
    obtain ⟨w3, hw3⟩ : ∃ zz : World, zz = (w1.alloc (.cells #[.int .i64 W, .int .i64 H, .slice A1 zs.length c1] 39)).drewN mm := ⟨_, rfl⟩
    have HO2 : Hid (w3.ownsRow (w.heap.size + 1) 2 1 (.slice A1 zs.length c1) zs.length (vals zs)) := hid (by rw [hw3]; exact Go.Joins.ownsRow_le (HO1.out.alloc _) (by simp))
    rw [← hw3] at KR2 KP2 HB2 ⊢
    clear hw3 KR1 HB1 HO1
    obtain ⟨Pa, Pb, Pc⟩ := KP2.out.three
    have Pz := KP2.out.lt
    cases bv with
    | false =>
      have HV := hid (HNO.out ((HPO.out (by simp)).trans HBV.out))
      obtain ⟨Ra, Rb, Rc⟩ := KR2.out.three
      have Rz := KR2.out.lt
      have Rf := KR2.out.free
      go_wp2_with fail
      have hE := HB2.out
      refine bodyPost_ret (v := .tuple #[.agg #[.int .i64 0, .int .i64 0, .slice none 0 0], .bool false]) (by simp [results, Try.results33, go_sem, *]) rfl ⟨⟨none, 0, by rw [HV.out.1, HV.out.2.1, HV.out.2.2.1, HV.out.2.2.2.2], by rw [HV.out.2.2.1, HV.out.2.2.2.1]; exact World.ownsRow_nil _ _ _ _⟩, ?_⟩
      repeat (refine Below.setCell ?_ (by simp) _)
      exact hE
    | true =>
      have HOK := hid ((HPO.out (by simp)).trans HBV.out)
      have HV := hid (HPY.out (by simp) HOK.out)
      obtain ⟨Ra, Rb, Rc⟩ := KR2.out.three
      have Rz := KR2.out.lt
      have Rf := KR2.out.free
      go_wp2_with fail
      have hE := HB2.out
      have ho := HO2.out
      refine bodyPost_ret (v := .tuple #[.agg #[.int .i64 W, .int .i64 H, .slice A1 zs.length c1], .bool true]) (by simp [results, Try.results33, go_sem, *]) rfl ⟨⟨A1, c1, by rw [HV.out.1, HV.out.2.1, HV.out.2.2.1, HOK.out], ?_⟩, ?_⟩
      · rw [HV.out.2.2.1, HV.out.2.2.2]
        refine Go.Joins.ownsRow_le (base := w.heap.size + 1) ?_ (by omega)
        repeat (refine ownsRow_setCell_below ?_ (by simp) _)
        exact ho
      · repeat (refine Below.setCell ?_ (by simp) _)
        exact hE
end Go.Proofs.Ytgcgaoblbhojnaa

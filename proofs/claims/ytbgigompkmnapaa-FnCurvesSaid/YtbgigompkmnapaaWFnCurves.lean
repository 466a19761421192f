/- The walk of FnCurves. -/
import Derived.Test.YtbgigompkmnapaaFc
import Derived.Test.YtbgigompkmnapaaCu
import Derived.Test.YtbgigompkmnapaaCo
import Derived.Test.YtbgigompkmnapaaIb
import Derived.Test.YtbgigompkmnapaaSf
import Derived.Test.YtbgigompkmnapaaAu
import Derived.Test.YtbgigompkmnapaaQm
import Derived.Test.YtbgigompkmnapaaRg
import Derived.Test.YtbgigompkmnapaaMk
import Derived.BigRegion
import Derived.RegionTactic
namespace Go.Proofs.Ytbgigompkmnapaa
set_option linter.unusedSimpArgs false
set_option linter.unusedVariables false
open Go.ChangeShapes Go.WideShapes Go.ChangeAt Go.RowKit
theorem infoBl : (Try.prog.info? 4).map (fun i => (i.zero, i.size, i.bytes)) = some (some (.bool false), 1, 1) := by kernel_rfl
theorem madeB (n : Nat) : (madeCells (Value.bool false).cells (n * 1)).toList = (List.replicate n false).map Value.bool := by
  rw [Nat.mul_one]
  show (madeCells #[Value.bool false] n).toList = _
  rw [toList_madeCells_one]
  simp
theorem cell_of {zs : List Int} {i : Nat} {z : Int} (h : zs[i]? = some z) : (vals zs)[i]? = some (Value.int .i64 z) := by simp [vals, h]
theorem cell_ofB {bs : List Bool} {i : Nat} {b : Bool} (h : bs[i]? = some b) : (bs.map Value.bool)[i]? = some (Value.bool b) := by simp [h]
set_option maxRecDepth 100000 in
set_option maxHeartbeats 1600000 in
theorem fnCurves_walk (w : World) (A0 : Option Addr) (c0 : Nat) (bs0 : List Int) (hl0 : bs0.length ≤ maxLen) (hz0 : BytesR w w.heap.size A0 bs0) (_ : True)
    : Calls Try.prog 9 #[.slice A0 bs0.length c0] w fun e w' => e = .returned (.bool true) ∧ Below w.heap.size w w' := by
  obtain ⟨n0, hn0⟩ : ∃ n, bs0.length = n := ⟨_, rfl⟩
  rw [hn0] at hl0 ⊢
  have HN0 := hid hn0
  have HZ0 := hid hz0
  clear hn0 hz0
  cases hlg : lgB n0 0
  case true =>
    have HLG := hid hlg
    clear hlg
    go_enter Try.func9, Try.ntmps9
    go_wp2_with fail
    refine (calls_bool (a2Long_any A0 none n0 0 c0 0 w hl0 (by unfold maxLen; omega)) HLG.out).mono ?_
    rintro e w' ⟨rfl, rfl⟩
    go_wp2_with fail
    go_ret
    exact ⟨rfl, Below.refl _ _⟩
  have HLG := hid hlg
  have hn5 := lg_no hlg
  clear hlg
  go_enter Try.func9, Try.ntmps9
  go_wp2_with fail
  refine (calls_bool (a2Long_any A0 none n0 0 c0 0 w hl0 (by unfold maxLen; omega)) HLG.out).mono ?_
  rintro e w' ⟨rfl, rfl⟩
  go_wp2_with fail
  refine (A2Panel_any A0 n0 c0 bs0 w HN0.out HZ0.out (by omega)).mono ?_
  rintro e w1 ⟨W, H, zs, A, c, ⟨hv, hW5, hH5⟩, rfl, ho1, hb1⟩
  have HV := hid hv
  have hwb := side_bd (valid_sides hv).1
  have hhb := side_bd (valid_sides hv).2
  have hlen := valid_len hv
  have hile := inner_le (valid_sides hv).1 (valid_sides hv).2
  have hlz : zs.length ≤ maxLen := by unfold maxLen; omega
  have HO1 : Hid (OwnI w1 w.heap.size (.slice A zs.length c) zs) := hid ho1
  have HB1 := hid hb1
  clear hv ho1 hb1
  have hseg := segs_bd (valid_sides HV.out).1 (valid_sides HV.out).2
  have HCV := hid (curves_facts HV.out)
  obtain ⟨N, hN⟩ : ∃ N : Nat, (4 * W * H).toNat = N := ⟨_, rfl⟩
  have hNI : 4 * W * H = (N : Int) := by omega
  have hNl : N ≤ 256 := by omega
  rw [hN] at HCV
  obtain ⟨cs, hcs⟩ : ∃ cs, (trS W H zs N).1 = cs := ⟨_, rfl⟩
  obtain ⟨o, ho⟩ : ∃ o, (trS W H zs N).2 = o := ⟨_, rfl⟩
  rw [hcs, ho] at HCV
  obtain ⟨hF, ⟨hsum, holen, hcl256⟩, hcv⟩ := HCV.out
  have HF := hid hF
  have HCR := hid hcv
  have HSUM := hid hsum
  have HOL := hid holen
  have t1 : IntKind.i64.wrap (4 * W) = 4 * W := IntWalk.i64_in _ (by omega)
  have t2 : IntKind.i64.wrap (4 * W * H) = N := by rw [hNI]; exact IntWalk.i64_in _ (by omega)
  have HNI := hid hNI
  obtain ⟨ib, hib, hb0, hb1', hb2'⟩ := info_parts infoBl
  clear hcs ho HCV hF hsum holen hcv hN hNI hseg hlen hile
  go_wp2_with fail
  obtain ⟨w2, hw2⟩ : ∃ zz : World, zz = w1.alloc (.cells #[.int .i64 W, .int .i64 H, .slice A zs.length c] 30) := ⟨_, rfl⟩
  rw [← hw2]
  have HO2 : Hid (OwnI w2 w.heap.size (.slice A zs.length c) zs) := hid (by rw [hw2]; exact (HO1.out.alloc _))
  have HB2 : Hid (Below w.heap.size w w2) := hid (by rw [hw2]; exact (bal HB1.out _))
  have KP2 : Hid (Box w2 w1.heap.size 30 #[.int .i64 W, .int .i64 H, .slice A zs.length c]) := hid (by rw [hw2]; exact (Box.new _ _ _))
  obtain ⟨bk2, hbk2⟩ : ∃ b, b = w1.heap.size := ⟨_, rfl⟩
  rw [← hbk2] at KP2 ⊢
  have oB2 : w.heap.size ≤ bk2 := by rw [hbk2]; exact HB1.out.size
  clear hw2 hbk2 HO1 HB1
  obtain ⟨Pa, Pb, Pc⟩ := KP2.out.three
  have Pz := KP2.out.lt
  refine (implCurvesOf_any W H A c zs  _ (OwnI.ints HO2.out) hlz ).mono ?_
  rintro e w3 ⟨⟨AC, cC, he, hn3⟩, hb3⟩
  rw [HF.out.1, HF.out.2.1] at he
  rw [HF.out.1, HF.out.2.2.1] at hn3
  subst he
  clear Pa Pb Pc Pz
  obtain ⟨hiC, hhi⟩ : ∃ n, n = w3.heap.size := ⟨_, rfl⟩
  rw [← hhi] at hn3
  clear hhi
  have hlo3 := HB2.out.size
  have KP3 : Hid (Box w3 bk2 30 #[.int .i64 W, .int .i64 H, .slice A zs.length c]) := hid (Box.keep KP2.out hb3)
  have HO3 : Hid (OwnI w3 w.heap.size (.slice A zs.length c) zs) := hid (OwnI.keep HO2.out hb3)
  have HB3 : Hid (Below w.heap.size w w3) := hid (bbl HB2.out hb3)
  have NC3 : Hid (Nest w3 w.heap.size hiC 79 32 2 (.slice AC cs.length cC) (curP cs)) := hid (Nest.from' hn3 hlo3)
  clear hb3 hn3 hlo3 KP2 HO2 HB2
  obtain ⟨Pa, Pb, Pc⟩ := KP3.out.three
  have Pz := KP3.out.lt
  go_wp2_with fail
  refine (implCurveLengths_any W H A c zs  _ (OwnI.ints HO3.out) hlz ).mono ?_
  rintro e w4 ⟨⟨AL, cL, he, hn4⟩, hb4⟩
  rw [HF.out.1, HF.out.2.1] at he
  rw [HF.out.1, HF.out.2.2.2.1] at hn4
  subst he
  clear Pa Pb Pc Pz
  have hlo4 := HB3.out.size
  have KP4 : Hid (Box w4 bk2 30 #[.int .i64 W, .int .i64 H, .slice A zs.length c]) := hid (Box.keep KP3.out hb4)
  have HO4 : Hid (OwnI w4 w.heap.size (.slice A zs.length c) zs) := hid (OwnI.keep HO3.out hb4)
  have NC4 : Hid (Nest w4 w.heap.size hiC 79 32 2 (.slice AC cs.length cC) (curP cs)) := hid (Nest.keep NC3.out hb4)
  have HB4 : Hid (Below w.heap.size w w4) := hid (bbl HB3.out hb4)
  have L4 : Hid (w4.ownsRow w.heap.size 2 1 (.slice AL cs.length cL) cs.length (vals (lensL cs))) := hid (Go.Joins.ownsRow_le hn4 hlo4)
  clear hb4 hn4 hlo4 KP3 HO3 NC3 HB3
  obtain ⟨Pa, Pb, Pc⟩ := KP4.out.three
  have Pz := KP4.out.lt
  go_wp2_with fail
  refine (implSegmentCurves_any W H A c zs  _ (OwnI.ints HO4.out) hlz ).mono ?_
  rintro e w5 ⟨⟨AO, cO, he, hn5⟩, hb5⟩
  rw [HF.out.2.2.2.2.1, HF.out.2.1] at he
  rw [HF.out.2.2.2.2.1, HF.out.2.2.2.2.2.1] at hn5
  subst he
  clear Pa Pb Pc Pz
  have hlo5 := HB4.out.size
  have KP5 : Hid (Box w5 bk2 30 #[.int .i64 W, .int .i64 H, .slice A zs.length c]) := hid (Box.keep KP4.out hb5)
  have HO5 : Hid (OwnI w5 w.heap.size (.slice A zs.length c) zs) := hid (OwnI.keep HO4.out hb5)
  have NC5 : Hid (Nest w5 w.heap.size hiC 79 32 2 (.slice AC cs.length cC) (curP cs)) := hid (Nest.keep NC4.out hb5)
  have L5 : Hid (w5.ownsRow w.heap.size 2 1 (.slice AL cs.length cL) cs.length (vals (lensL cs))) := hid (own_keep L4.out hb5)
  have HB5 : Hid (Below w.heap.size w w5) := hid (bbl HB4.out hb5)
  have O5 : Hid (w5.ownsRow w.heap.size 2 1 (.slice AO N cO) N (vals o)) := hid (Go.Joins.ownsRow_le hn5 hlo5)
  clear hb5 hn5 hlo5 KP4 HO4 NC4 L4 HB4
  obtain ⟨Pa, Pb, Pc⟩ := KP5.out.three
  have Pz := KP5.out.lt
  go_wp2_with fail
  refine (implCountCurves_any W H A c zs  _ (OwnI.ints HO5.out) hlz ).mono ?_
  rintro e w6 ⟨he, hb6⟩
  rw [HF.out.2.2.2.2.2.2.1, HF.out.2.1] at he
  subst he
  clear Pa Pb Pc Pz
  have KP6 : Hid (Box w6 bk2 30 #[.int .i64 W, .int .i64 H, .slice A zs.length c]) := hid (Box.keep KP5.out hb6)
  have HO6 : Hid (OwnI w6 w.heap.size (.slice A zs.length c) zs) := hid (OwnI.keep HO5.out hb6)
  have NC6 : Hid (Nest w6 w.heap.size hiC 79 32 2 (.slice AC cs.length cC) (curP cs)) := hid (Nest.keep NC5.out hb6)
  have L6 : Hid (w6.ownsRow w.heap.size 2 1 (.slice AL cs.length cL) cs.length (vals (lensL cs))) := hid (own_keep L5.out hb6)
  have O6 : Hid (w6.ownsRow w.heap.size 2 1 (.slice AO N cO) N (vals o)) := hid (own_keep O5.out hb6)
  have HB6 : Hid (Below w.heap.size w w6) := hid (bbl HB5.out hb6)
  clear hb6 KP5 HO5 NC5 L5 O5 HB5
  obtain ⟨Pa, Pb, Pc⟩ := KP6.out.three
  have Pz := KP6.out.lt
  go_wp2_with fail
  have hpos : 0 < cs.length := by
    rcases Nat.eq_zero_or_pos cs.length with h0 | h0
    · have h1 := HSUM.out
      rw [List.length_eq_zero_iff.1 h0] at h1
      have h2 := HNI.out
      have h3 : 1 * 1 ≤ W * H := Int.mul_le_mul hwb.1 hhb.1 (by omega) (by omega)
      rw [Int.mul_assoc] at h2
      simp at h1
      omega
    · exact h0
  have hNpos : 0 < N := by
    have h2 := HNI.out
    have h3 : 1 * 1 ≤ W * H := Int.mul_le_mul hwb.1 hhb.1 (by omega) (by omega)
    rw [Int.mul_assoc] at h2
    omega
  obtain ⟨vsC, hOC⟩ := NC6.out.outer
  rw [curP_length] at hOC
  obtain ⟨gC, cC', eC⟩ := Go.Joins.ownsRow_form hOC (by omega)
  simp only [Value.slice.injEq] at eC
  obtain ⟨rfl, -, rfl⟩ := eC
  clear hOC
  obtain ⟨gL, cL', eL⟩ := Go.Joins.ownsRow_form L6.out (by omega)
  simp only [Value.slice.injEq] at eL
  obtain ⟨rfl, -, rfl⟩ := eL
  obtain ⟨gO, cO', eO⟩ := Go.Joins.ownsRow_form O6.out (by omega)
  simp only [Value.slice.injEq] at eO
  obtain ⟨rfl, -, rfl⟩ := eO
  refine wp_region_mix w6.heap.size (by kernel_rfl) (by kernel_rfl) ?_
  repeat (any_goals (go_big_quiet_step ((first | (go_at_call 52; exact mix_same (sum_cs (own_keep L6.out (mix_below _ _ _)) HSUM.out hNl hcl256)) | (go_at_call 53; exact mix_call (by simp) (calls_bool (implIsSingle_any W H A c zs _ (OwnI.ints (OwnI.keep HO6.out (mix_below _ _ _))) hlz) (HF.out.2.2.2.2.2.2.2)))))))
  refine wpQuiet_nil ?_
  intro w7 hx7
  have hb7 : Below _ _ w7 := mix_ex hx7
  clear hx7
  clear Pa Pb Pc Pz
  have KP7 : Hid (Box w7 bk2 30 #[.int .i64 W, .int .i64 H, .slice A zs.length c]) := hid (Box.keep KP6.out hb7)
  have HO7 : Hid (OwnI w7 w.heap.size (.slice A zs.length c) zs) := hid (OwnI.keep HO6.out hb7)
  have NC7 : Hid (Nest w7 w.heap.size hiC 79 32 2 (.slice (some ⟨gC, 0, none⟩) cs.length cC) (curP cs)) := hid (Nest.keep NC6.out hb7)
  have L7 : Hid (w7.ownsRow w.heap.size 2 1 (.slice (some ⟨gL, 0, none⟩) cs.length cL) cs.length (vals (lensL cs))) := hid (own_keep L6.out hb7)
  have O7 : Hid (w7.ownsRow w.heap.size 2 1 (.slice (some ⟨gO, 0, none⟩) N cO) N (vals o)) := hid (own_keep O6.out hb7)
  have HB7 : Hid (Below w.heap.size w w7) := hid (bbl HB6.out hb7)
  clear hb7 KP6 HO6 NC6 L6 O6 HB6
  obtain ⟨Pa, Pb, Pc⟩ := KP7.out.three
  have Pz := KP7.out.lt
  go_wp2_with (at_make; refine wpList_make_full _ rfl _ _ _ rfl w.heap.size 4 ib (.bool false) 1 Try.underlying78 hib hb0 hb1' _ _ _ _ N rfl rfl rfl rfl (by rw [hb2']; omega) (by unfold maxLen; omega) HB7.out.size ?_; intro wm hown hgr)
  rw [madeB] at hown
  have hbm : Below w7.heap.size w7 wm := (Below.refl _ _).grown hgr (Nat.le_refl _) (by simp)
  obtain ⟨gs, hgs⟩ : ∃ b, b = w7.heap.size := ⟨_, rfl⟩
  rw [← hgs] at hown ⊢
  obtain ⟨w8, hwm⟩ : ∃ z, z = wm := ⟨_, rfl⟩
  subst hwm
  clear Pa Pb Pc Pz
  have KP8 : Hid (Box w8 bk2 30 #[.int .i64 W, .int .i64 H, .slice A zs.length c]) := hid (Box.keep KP7.out hbm)
  have HO8 : Hid (OwnI w8 w.heap.size (.slice A zs.length c) zs) := hid (OwnI.keep HO7.out hbm)
  have NC8 : Hid (Nest w8 w.heap.size hiC 79 32 2 (.slice (some ⟨gC, 0, none⟩) cs.length cC) (curP cs)) := hid (Nest.keep NC7.out hbm)
  have L8 : Hid (w8.ownsRow w.heap.size 2 1 (.slice (some ⟨gL, 0, none⟩) cs.length cL) cs.length (vals (lensL cs))) := hid (own_keep L7.out hbm)
  have O8 : Hid (w8.ownsRow w.heap.size 2 1 (.slice (some ⟨gO, 0, none⟩) N cO) N (vals o)) := hid (own_keep O7.out hbm)
  have HB8 : Hid (Below w.heap.size w w8) := hid (bbl HB7.out hbm)
  have HSN8 : Hid (w8.ownsRow w.heap.size 4 1 (.slice (some ⟨gs, 0, none⟩) N N) N ((List.replicate N false).map Value.bool)) := hid hown
  clear hown hgr hbm hgs KP7 HO7 NC7 L7 O7 HB7
  as_aux_lemma =>
  go_loopg [13] cs.length (fun g i wr => ∃ (j : Nat) (bl : List Bool), j ≤ cs.length ∧ i = .int .i64 j ∧ g = cs.length - j ∧ bl.length = N ∧ Hid (∀ cj', SeenP H o cj' j 0 bl) ∧ Hid (wr.ownsRow w.heap.size 4 1 (.slice (some ⟨gs, 0, none⟩) N N) N (bl.map Value.bool)) ∧ Hid (Box wr bk2 30 #[.int .i64 W, .int .i64 H, .slice A zs.length c]) ∧ Hid (OwnI wr w.heap.size (.slice A zs.length c) zs) ∧ Hid (Nest wr w.heap.size hiC 79 32 2 (.slice (some ⟨gC, 0, none⟩) cs.length cC) (curP cs)) ∧ Hid (wr.ownsRow w.heap.size 2 1 (.slice (some ⟨gL, 0, none⟩) cs.length cL) cs.length (vals (lensL cs))) ∧ Hid (wr.ownsRow w.heap.size 2 1 (.slice (some ⟨gO, 0, none⟩) N cO) N (vals o)) ∧ Hid (Below w.heap.size w wr))
  case atStart => exact ⟨0, List.replicate N false, Nat.zero_le _, rfl, rfl, by simp, hid (fun cj' g hg => by simp [List.getElem?_replicate] at hg), HSN8, KP8, HO8, NC8, L8, O8, HB8⟩
  case round =>
    clear HSN8 KP8 HO8 NC8 L8 O8 HB8
    obtain ⟨j, bl, hj, rfl, hg, hbl, HSE, HSN, KP, HO, NC, L, O, HB⟩ := hrel
    obtain ⟨wo, rfl⟩ : ∃ z, z = wr := ⟨_, rfl⟩
    as_aux_lemma =>
    by_cases hlt : j < cs.length
    · obtain ⟨cj, hcj⟩ : ∃ cj, cs[j]? = some cj := ⟨_, List.getElem?_eq_getElem hlt⟩
      obtain ⟨hcrv, htr, htc⟩ := HCR.out j cj hcj
      have HCRV := hid hcrv
      have HTR := hid (And.intro htr htc)
      obtain ⟨c4, c256⟩ := hcrv.1
      obtain ⟨vs, hO, hI, hD⟩ := NC.out
      rw [curP_length] at hO
      obtain ⟨vi, ni, hvi, hri⟩ := hI j (vals (flatP cj)) (by simp [curP, hcj])
      obtain rfl := curP_len hri
      obtain ⟨gi, ci, ei⟩ := Go.Joins.ownsRow_form hri.1 (by omega)
      subst ei
      have hca : wo.cell? ⟨gC, j, none⟩ = some (.slice (some ⟨gi, 0, none⟩) cj.length ci) := (World.ownsRow.cellAt hO j (by omega)).trans hvi
      have hgC := (World.ownsRow.lt hO gC rfl).2
      have hcl : wo.cell? ⟨gL, j, none⟩ = some (.int .i64 cj.length) := (World.ownsRow.cellAt L.out j (by omega)).trans (by simp [vals, lensL, hcj])
      have hgL := (World.ownsRow.lt L.out gL rfl).2
      have HI : Hid (wo.ownsRow w.heap.size 32 2 (.slice (some ⟨gi, 0, none⟩) cj.length ci) cj.length (vals (flatP cj))) := hid hri.1
      clear hO hI hD hvi hri hcrv htr htc
      obtain ⟨Pa, Pb, Pc⟩ := KP.out.three
      have Pz := KP.out.lt
      go_wp2_with fail
      clear Pa Pb Pc Pz
      clear hca hgC hcl hgL
      as_aux_lemma =>
      go_loopg [15, 16] cj.length (fun g m i wx => ∃ (k : Nat) (bl : List Bool), k ≤ cj.length ∧ m = .int .i64 (tcn W H (cj.take k) : Nat) ∧ i = .int .i64 k ∧ g = cj.length - k ∧ bl.length = N ∧ Hid (SeenP H o cj j k bl) ∧ Hid (wx.ownsRow w.heap.size 4 1 (.slice (some ⟨gs, 0, none⟩) N N) N (bl.map Value.bool)) ∧ Hid (Box wx bk2 30 #[.int .i64 W, .int .i64 H, .slice A zs.length c]) ∧ Hid (OwnI wx w.heap.size (.slice A zs.length c) zs) ∧ Hid (Nest wx w.heap.size hiC 79 32 2 (.slice (some ⟨gC, 0, none⟩) cs.length cC) (curP cs)) ∧ Hid (wx.ownsRow w.heap.size 2 1 (.slice (some ⟨gL, 0, none⟩) cs.length cL) cs.length (vals (lensL cs))) ∧ Hid (wx.ownsRow w.heap.size 2 1 (.slice (some ⟨gO, 0, none⟩) N cO) N (vals o)) ∧ Hid (wx.ownsRow w.heap.size 32 2 (.slice (some ⟨gi, 0, none⟩) cj.length ci) cj.length (vals (flatP cj))) ∧ Hid (Below w.heap.size w wx))
      case atStart => exact ⟨0, bl, Nat.zero_le _, rfl, rfl, rfl, hbl, hid (HSE.out cj), HSN, KP, HO, NC, L, O, HI, HB⟩
      case round =>
        clear HSE HSN KP HO NC L O HI HB hbl
        obtain ⟨k, bl, hk, rfl, rfl, hg2, hbl, HSE, HSN, KP, HO, NC, L, O, HI, HB⟩ := hrel
        have htk : tcn W H (cj.take k) ≤ 256 := Nat.le_trans List.countP_le_length (by simp; omega)
        as_aux_lemma =>
        by_cases hlk : k < cj.length
        · obtain ⟨x, y, u, v, x1, y1, u1, v1, hs, hn, hx1, hy1, ⟨xa, xb, ya, yb, ua, ub, va, vb⟩, ⟨xc, xd, yc, yd⟩, hsg, hgl, hog, hbd⟩ := HCRV.out.2.2 k hlk
          obtain ⟨m, hm⟩ : ∃ m, (k + 1) % cj.length = m := ⟨_, rfl⟩
          have hml : m < cj.length := by rw [← hm]; exact Nat.mod_lt _ (by omega)
          rw [hm] at hn
          have hmt : Int.tmod ((k : Int) + 1) (cj.length : Int) = (m : Int) := by rw [Int.tmod_eq_emod_of_nonneg (by omega), ← hm]; simp
          obtain ⟨q, hq⟩ : ∃ q, segN H (x, y, u, v) = q := ⟨_, rfl⟩
          obtain ⟨b, hb⟩ : ∃ b, bl[q]? = some b := ⟨_, List.getElem?_eq_getElem (by omega)⟩
          have hbf := seen_not HSE.out HCRV.out hs hog (by rw [hq]; exact hb)
          subst hbf
          have HPUT : Hid (SeenP H o cj j (k + 1) (bl.set q true)) := hid (by rw [← hq]; exact seen_put HSE.out hs)
          rw [hq] at hsg hgl hog
          have HSG := hid hsg
          have HBD := hid hbd
          have HTK := hid (tcn_take (W := W) (H := H) hs)
          have z1 : IntKind.i64.wrap (x1 - x) = u := by rw [hx1]; exact IntWalk.i64_in _ (by omega)
          have z2 : IntKind.i64.wrap (y1 - y) = v := by rw [hy1]; exact IntWalk.i64_in _ (by omega)
          have fk := flatP_at hs
          have fm := flatP_at hn
          have HCELL := hid (And.intro fk (And.intro fm (And.intro hb hog)))
          have hm0 : ¬ ((cj.length : Int) = 0) := by omega
          clear hs hn hm hq hsg hbd fk fm hb hog
          have HI4 := hid (show (k * 2 < cj.length * 2 ∧ k * 2 + 1 < cj.length * 2) ∧ (m * 2 < cj.length * 2 ∧ m * 2 + 1 < cj.length * 2) ∧ q < N * 1 by omega)
          have HWF := hid (show ((Lit.int .i64 x).wf = true ∧ (Lit.int .i64 y).wf = true) ∧ ((Lit.int .i64 u).wf = true ∧ (Lit.int .i64 v).wf = true) from ⟨⟨wf64 (by omega) (by omega), wf64 (by omega) (by omega)⟩, wf64 (by omega) (by omega), wf64 (by omega) (by omega)⟩)
          as_aux_lemma =>
          obtain ⟨Pa, Pb, Pc⟩ := KP.out.three
          have Pz := KP.out.lt
          have ck0 : wr.cell? ⟨gi, k * 2, none⟩ = some (.int .i64 x) := (World.ownsRow.cellAt HI.out (k * 2) HI4.out.1.1).trans (cell_of HCELL.out.1.1)
          have ck1 : wr.cell? ⟨gi, k * 2 + 1, none⟩ = some (.int .i64 y) := (World.ownsRow.cellAt HI.out (k * 2 + 1) HI4.out.1.2).trans (cell_of HCELL.out.1.2)
          have cm0 : wr.cell? ⟨gi, m * 2, none⟩ = some (.int .i64 x1) := (World.ownsRow.cellAt HI.out (m * 2) HI4.out.2.1.1).trans (cell_of HCELL.out.2.1.1)
          have cm1 : wr.cell? ⟨gi, m * 2 + 1, none⟩ = some (.int .i64 y1) := (World.ownsRow.cellAt HI.out (m * 2 + 1) HI4.out.2.1.2).trans (cell_of HCELL.out.2.1.2)
          have hgi := (World.ownsRow.lt HI.out gi rfl).2
          go_wp2_with fail
          obtain ⟨w9, hw9⟩ : ∃ zz : World, zz = wr.alloc (.cells #[.int .i64 x1, .int .i64 y1] 32) := ⟨_, rfl⟩
          rw [← hw9]
          have KP9 : Hid (Box w9 bk2 30 #[.int .i64 W, .int .i64 H, .slice A zs.length c]) := hid (by rw [hw9]; exact (Box.alloc KP.out _))
          have HO9 : Hid (OwnI w9 w.heap.size (.slice A zs.length c) zs) := hid (by rw [hw9]; exact (HO.out.alloc _))
          have NC9 : Hid (Nest w9 w.heap.size hiC 79 32 2 (.slice (some ⟨gC, 0, none⟩) cs.length cC) (curP cs)) := hid (by rw [hw9]; exact (NC.out.alloc _))
          have L9 : Hid (w9.ownsRow w.heap.size 2 1 (.slice (some ⟨gL, 0, none⟩) cs.length cL) cs.length (vals (lensL cs))) := hid (by rw [hw9]; exact (L.out.alloc _))
          have O9 : Hid (w9.ownsRow w.heap.size 2 1 (.slice (some ⟨gO, 0, none⟩) N cO) N (vals o)) := hid (by rw [hw9]; exact (O.out.alloc _))
          have HI9 : Hid (w9.ownsRow w.heap.size 32 2 (.slice (some ⟨gi, 0, none⟩) cj.length ci) cj.length (vals (flatP cj))) := hid (by rw [hw9]; exact (HI.out.alloc _))
          have HSN9 : Hid (w9.ownsRow w.heap.size 4 1 (.slice (some ⟨gs, 0, none⟩) N N) N (bl.map Value.bool)) := hid (by rw [hw9]; exact (HSN.out.alloc _))
          have HB9 : Hid (Below w.heap.size w w9) := hid (by rw [hw9]; exact (bal HB.out _))
          have KT9 : Hid (Box w9 wr.heap.size 32 #[.int .i64 x1, .int .i64 y1]) := hid (by rw [hw9]; exact (Box.new _ _ _))
          obtain ⟨bk9, hbk9⟩ : ∃ b, b = wr.heap.size := ⟨_, rfl⟩
          rw [← hbk9] at KT9 ⊢
          have oP9 : bk2 < bk9 := by rw [hbk9]; exact KP.out.lt
          have oB9 : w.heap.size ≤ bk9 := by rw [hbk9]; exact HB.out.size
          clear Pa Pb Pc Pz ck0 ck1 cm0 cm1 hgi
          clear hw9 hbk9 KP HO NC L O HI HSN HB
          obtain ⟨Pa, Pb, Pc⟩ := KP9.out.three
          have Pz := KP9.out.lt
          obtain ⟨Ta, Tb⟩ := KT9.out.two
          have Tz := KT9.out.lt
          have ck0 : w9.cell? ⟨gi, k * 2, none⟩ = some (.int .i64 x) := (World.ownsRow.cellAt HI9.out (k * 2) HI4.out.1.1).trans (cell_of HCELL.out.1.1)
          have ck1 : w9.cell? ⟨gi, k * 2 + 1, none⟩ = some (.int .i64 y) := (World.ownsRow.cellAt HI9.out (k * 2 + 1) HI4.out.1.2).trans (cell_of HCELL.out.1.2)
          have cm0 : w9.cell? ⟨gi, m * 2, none⟩ = some (.int .i64 x1) := (World.ownsRow.cellAt HI9.out (m * 2) HI4.out.2.1.1).trans (cell_of HCELL.out.2.1.1)
          have cm1 : w9.cell? ⟨gi, m * 2 + 1, none⟩ = some (.int .i64 y1) := (World.ownsRow.cellAt HI9.out (m * 2 + 1) HI4.out.2.1.2).trans (cell_of HCELL.out.2.1.2)
          have hgi := (World.ownsRow.lt HI9.out gi rfl).2
          as_aux_lemma =>
          go_region
          as_aux_lemma =>
          go_wp2_with fail
          as_aux_lemma =>
          refine (specSegmentOf_any W H A c zs x y u v _ (OwnI.ints (OwnI.drew (HO9.out.alloc _))) hlz HWF.out.1.1 HWF.out.1.2 HWF.out.2.1 HWF.out.2.2).mono ?_
          rintro e w10 ⟨he, hb10⟩
          rw [HSG.out.1, HSG.out.2] at he
          subst he
          clear Pa Pb Pc Pz Ta Tb Tz ck0 ck1 cm0 cm1 hgi
          have KP10 : Hid (Box w10 bk2 30 #[.int .i64 W, .int .i64 H, .slice A zs.length c]) := hid (Box.keep (Box.drew (Box.alloc KP9.out _)) hb10)
          have HO10 : Hid (OwnI w10 w.heap.size (.slice A zs.length c) zs) := hid (OwnI.keep (OwnI.drew (HO9.out.alloc _)) hb10)
          have NC10 : Hid (Nest w10 w.heap.size hiC 79 32 2 (.slice (some ⟨gC, 0, none⟩) cs.length cC) (curP cs)) := hid (Nest.keep (nest_drewF (NC9.out.alloc _)) hb10)
          have L10 : Hid (w10.ownsRow w.heap.size 2 1 (.slice (some ⟨gL, 0, none⟩) cs.length cL) cs.length (vals (lensL cs))) := hid (own_keep (own_drewF (L9.out.alloc _)) hb10)
          have O10 : Hid (w10.ownsRow w.heap.size 2 1 (.slice (some ⟨gO, 0, none⟩) N cO) N (vals o)) := hid (own_keep (own_drewF (O9.out.alloc _)) hb10)
          have HI10 : Hid (w10.ownsRow w.heap.size 32 2 (.slice (some ⟨gi, 0, none⟩) cj.length ci) cj.length (vals (flatP cj))) := hid (own_keep (own_drewF (HI9.out.alloc _)) hb10)
          have HSN10 : Hid (w10.ownsRow w.heap.size 4 1 (.slice (some ⟨gs, 0, none⟩) N N) N (bl.map Value.bool)) := hid (own_keep (own_drewF (HSN9.out.alloc _)) hb10)
          have HB10 : Hid (Below w.heap.size w w10) := hid (bbl (Below.drew (bal HB9.out _)) hb10)
          clear hb10 KP9 HO9 NC9 L9 O9 HI9 HSN9 HB9 KT9
          as_aux_lemma =>
          obtain ⟨Pa, Pb, Pc⟩ := KP10.out.three
          have Pz := KP10.out.lt
          have csn : w10.cell? ⟨gs, q, none⟩ = some (.bool false) := (World.ownsRow.cellAt HSN10.out q HI4.out.2.2).trans (cell_ofB HCELL.out.2.2.1)
          have cof : w10.cell? ⟨gO, q, none⟩ = some (.int .i64 j) := (World.ownsRow.cellAt O10.out q HI4.out.2.2).trans (cell_of HCELL.out.2.2.2)
          have hgO := (World.ownsRow.lt O10.out gO rfl).2
          have hgs := (World.ownsRow.lt HSN10.out gs rfl).2
          have fsn := World.ownsRow.frozenAt HSN10.out q
          go_wp2_with fail
          as_aux_lemma =>
          obtain ⟨w11, hw11⟩ : ∃ zz : World, zz = w10.setCell ⟨gs, q, none⟩ (.bool true) := ⟨_, rfl⟩
          rw [← hw11]
          have hst := World.ownsRow.stored HSN10.out q (.bool true)
          clear Pa Pb Pc Pz csn cof hgO hgs fsn
          have KP11 : Hid (Box w11 bk2 30 #[.int .i64 W, .int .i64 H, .slice A zs.length c]) := hid (by rw [hw11]; exact own_setbox' KP10.out HSN10.out (by decide) q _)
          have HO11 : Hid (OwnI w11 w.heap.size (.slice A zs.length c) zs) := hid (by rw [hw11]; exact own_aside HO10.out HSN10.out hst.2 (by decide))
          have NC11 : Hid (Nest w11 w.heap.size hiC 79 32 2 (.slice (some ⟨gC, 0, none⟩) cs.length cC) (curP cs)) := hid (by rw [hw11]; exact Nest.other NC10.out HSN10.out hst.2 (by decide) (by decide))
          have L11 : Hid (w11.ownsRow w.heap.size 2 1 (.slice (some ⟨gL, 0, none⟩) cs.length cL) cs.length (vals (lensL cs))) := hid (by rw [hw11]; exact own_aside L10.out HSN10.out hst.2 (by decide))
          have O11 : Hid (w11.ownsRow w.heap.size 2 1 (.slice (some ⟨gO, 0, none⟩) N cO) N (vals o)) := hid (by rw [hw11]; exact own_aside O10.out HSN10.out hst.2 (by decide))
          have HI11 : Hid (w11.ownsRow w.heap.size 32 2 (.slice (some ⟨gi, 0, none⟩) cj.length ci) cj.length (vals (flatP cj))) := hid (by rw [hw11]; exact own_aside HI10.out HSN10.out hst.2 (by decide))
          have HSN11 : Hid (w11.ownsRow w.heap.size 4 1 (.slice (some ⟨gs, 0, none⟩) N N) N ((bl.set q true).map Value.bool)) := hid (by rw [hw11, List.map_set]; exact hst.1)
          have HB11 : Hid (Below w.heap.size w w11) := hid (by rw [hw11]; exact Below.setCell HB10.out (World.ownsRow.lt HSN10.out gs rfl).1 _)
          clear hst hw11 KP10 HO10 NC10 L10 O10 HI10 HSN10 HB10
          as_aux_lemma =>
          cases hed : edgeP W H x y
          · have HES : Hid (tcn W H (cj.take (k + 1)) = tcn W H (cj.take k)) := hid (by have h := HTK.out; rw [hed] at h; simpa using h)
            rw [hed] at HBD
            clear hed
            obtain ⟨Pa, Pb, Pc⟩ := KP11.out.three
            have Pz := KP11.out.lt
            have ck0 : w11.cell? ⟨gi, k * 2, none⟩ = some (.int .i64 x) := (World.ownsRow.cellAt HI11.out (k * 2) HI4.out.1.1).trans (cell_of HCELL.out.1.1)
            have ck1 : w11.cell? ⟨gi, k * 2 + 1, none⟩ = some (.int .i64 y) := (World.ownsRow.cellAt HI11.out (k * 2 + 1) HI4.out.1.2).trans (cell_of HCELL.out.1.2)
            have hgi := (World.ownsRow.lt HI11.out gi rfl).2
            refine wp_region_mix w11.heap.size (by kernel_rfl) (by kernel_rfl) ?_
            repeat (any_goals (go_big_quiet_step ((first | (go_at_call 55; exact mix_call (by simp) (calls_bool (specIsBorder_any W H A c zs x y _ (OwnI.ints (OwnI.keep HO11.out (mix_below _ _ _))) hlz HWF.out.1.1 HWF.out.1.2) HBD.out))))))
            refine wpQuiet_nil ?_
            intro w12 hx12
            have hb12 : Below _ _ w12 := mix_ex hx12
            clear hx12
            clear Pa Pb Pc Pz ck0 ck1 hgi
            have KP12 : Hid (Box w12 bk2 30 #[.int .i64 W, .int .i64 H, .slice A zs.length c]) := hid (Box.keep KP11.out hb12)
            have HO12 : Hid (OwnI w12 w.heap.size (.slice A zs.length c) zs) := hid (OwnI.keep HO11.out hb12)
            have NC12 : Hid (Nest w12 w.heap.size hiC 79 32 2 (.slice (some ⟨gC, 0, none⟩) cs.length cC) (curP cs)) := hid (Nest.keep NC11.out hb12)
            have L12 : Hid (w12.ownsRow w.heap.size 2 1 (.slice (some ⟨gL, 0, none⟩) cs.length cL) cs.length (vals (lensL cs))) := hid (own_keep L11.out hb12)
            have O12 : Hid (w12.ownsRow w.heap.size 2 1 (.slice (some ⟨gO, 0, none⟩) N cO) N (vals o)) := hid (own_keep O11.out hb12)
            have HI12 : Hid (w12.ownsRow w.heap.size 32 2 (.slice (some ⟨gi, 0, none⟩) cj.length ci) cj.length (vals (flatP cj))) := hid (own_keep HI11.out hb12)
            have HSN12 : Hid (w12.ownsRow w.heap.size 4 1 (.slice (some ⟨gs, 0, none⟩) N N) N ((bl.set q true).map Value.bool)) := hid (own_keep HSN11.out hb12)
            have HB12 : Hid (Below w.heap.size w w12) := hid (bbl HB11.out hb12)
            clear hb12 KP11 HO11 NC11 L11 O11 HI11 HSN11 HB11
            obtain ⟨Pa, Pb, Pc⟩ := KP12.out.three
            have Pz := KP12.out.lt
            have ck0 : w12.cell? ⟨gi, k * 2, none⟩ = some (.int .i64 x) := (World.ownsRow.cellAt HI12.out (k * 2) HI4.out.1.1).trans (cell_of HCELL.out.1.1)
            have ck1 : w12.cell? ⟨gi, k * 2 + 1, none⟩ = some (.int .i64 y) := (World.ownsRow.cellAt HI12.out (k * 2 + 1) HI4.out.1.2).trans (cell_of HCELL.out.1.2)
            have hgi := (World.ownsRow.lt HI12.out gi rfl).2
            go_wp2_with fail
            go_roundg (cj.length - (k + 1))
            case measure => omega
            case rel => exact ⟨k + 1, bl.set q true, by omega, by rw [HES.out], by go_num, rfl, by simp [hbl], HPUT, HSN12, KP12, HO12, NC12, L12, O12, HI12, HB12⟩
          · have HES : Hid (tcn W H (cj.take (k + 1)) = tcn W H (cj.take k) + 1) := hid (by have h := HTK.out; rw [hed] at h; simpa using h)
            rw [hed] at HBD
            clear hed
            obtain ⟨Pa, Pb, Pc⟩ := KP11.out.three
            have Pz := KP11.out.lt
            have ck0 : w11.cell? ⟨gi, k * 2, none⟩ = some (.int .i64 x) := (World.ownsRow.cellAt HI11.out (k * 2) HI4.out.1.1).trans (cell_of HCELL.out.1.1)
            have ck1 : w11.cell? ⟨gi, k * 2 + 1, none⟩ = some (.int .i64 y) := (World.ownsRow.cellAt HI11.out (k * 2 + 1) HI4.out.1.2).trans (cell_of HCELL.out.1.2)
            have hgi := (World.ownsRow.lt HI11.out gi rfl).2
            refine wp_region_mix w11.heap.size (by kernel_rfl) (by kernel_rfl) ?_
            repeat (any_goals (go_big_quiet_step ((first | (go_at_call 55; exact mix_call (by simp) (calls_bool (specIsBorder_any W H A c zs x y _ (OwnI.ints (OwnI.keep HO11.out (mix_below _ _ _))) hlz HWF.out.1.1 HWF.out.1.2) HBD.out))))))
            refine wpQuiet_nil ?_
            intro w12 hx12
            have hb12 : Below _ _ w12 := mix_ex hx12
            clear hx12
            clear Pa Pb Pc Pz ck0 ck1 hgi
            have KP12 : Hid (Box w12 bk2 30 #[.int .i64 W, .int .i64 H, .slice A zs.length c]) := hid (Box.keep KP11.out hb12)
            have HO12 : Hid (OwnI w12 w.heap.size (.slice A zs.length c) zs) := hid (OwnI.keep HO11.out hb12)
            have NC12 : Hid (Nest w12 w.heap.size hiC 79 32 2 (.slice (some ⟨gC, 0, none⟩) cs.length cC) (curP cs)) := hid (Nest.keep NC11.out hb12)
            have L12 : Hid (w12.ownsRow w.heap.size 2 1 (.slice (some ⟨gL, 0, none⟩) cs.length cL) cs.length (vals (lensL cs))) := hid (own_keep L11.out hb12)
            have O12 : Hid (w12.ownsRow w.heap.size 2 1 (.slice (some ⟨gO, 0, none⟩) N cO) N (vals o)) := hid (own_keep O11.out hb12)
            have HI12 : Hid (w12.ownsRow w.heap.size 32 2 (.slice (some ⟨gi, 0, none⟩) cj.length ci) cj.length (vals (flatP cj))) := hid (own_keep HI11.out hb12)
            have HSN12 : Hid (w12.ownsRow w.heap.size 4 1 (.slice (some ⟨gs, 0, none⟩) N N) N ((bl.set q true).map Value.bool)) := hid (own_keep HSN11.out hb12)
            have HB12 : Hid (Below w.heap.size w w12) := hid (bbl HB11.out hb12)
            clear hb12 KP11 HO11 NC11 L11 O11 HI11 HSN11 HB11
            obtain ⟨Pa, Pb, Pc⟩ := KP12.out.three
            have Pz := KP12.out.lt
            have ck0 : w12.cell? ⟨gi, k * 2, none⟩ = some (.int .i64 x) := (World.ownsRow.cellAt HI12.out (k * 2) HI4.out.1.1).trans (cell_of HCELL.out.1.1)
            have ck1 : w12.cell? ⟨gi, k * 2 + 1, none⟩ = some (.int .i64 y) := (World.ownsRow.cellAt HI12.out (k * 2 + 1) HI4.out.1.2).trans (cell_of HCELL.out.1.2)
            have hgi := (World.ownsRow.lt HI12.out gi rfl).2
            go_wp2_with fail
            go_roundg (cj.length - (k + 1))
            case measure => omega
            case rel => exact ⟨k + 1, bl.set q true, by omega, by rw [HES.out]; go_num, by go_num, rfl, by simp [hbl], HPUT, HSN12, KP12, HO12, NC12, L12, O12, HI12, HB12⟩
        · obtain ⟨nn, hnn⟩ : ∃ nn, nn = cj.length := ⟨_, rfl⟩
          obtain rfl : k = cj.length := by omega
          clear hnn hlk hk
          have HTF : Hid (tcn W H (cj.take cj.length) = tcn W H cj) := hid (by rw [List.take_length])
          rw [HTF.out] at htk ⊢
          have HNX : Hid (∀ cj', SeenP H o cj' (j + 1) 0 bl) := hid (fun cj' => seen_next HSE.out HCRV.out)
          obtain ⟨Pa, Pb, Pc⟩ := KP.out.three
          have Pz := KP.out.lt
          go_wp2_with fail
          refine (implTouchesOf_any W H A c zs (j : Int) _ (OwnI.ints HO.out) hlz (wf64 (by omega) (by omega))).mono ?_
          rintro e w9 ⟨he, hb9⟩
          rw [HTR.out.1, HTR.out.2] at he
          subst he
          clear Pa Pb Pc Pz
          have KP9 : Hid (Box w9 bk2 30 #[.int .i64 W, .int .i64 H, .slice A zs.length c]) := hid (Box.keep KP.out hb9)
          have HO9 : Hid (OwnI w9 w.heap.size (.slice A zs.length c) zs) := hid (OwnI.keep HO.out hb9)
          have NC9 : Hid (Nest w9 w.heap.size hiC 79 32 2 (.slice (some ⟨gC, 0, none⟩) cs.length cC) (curP cs)) := hid (Nest.keep NC.out hb9)
          have L9 : Hid (w9.ownsRow w.heap.size 2 1 (.slice (some ⟨gL, 0, none⟩) cs.length cL) cs.length (vals (lensL cs))) := hid (own_keep L.out hb9)
          have O9 : Hid (w9.ownsRow w.heap.size 2 1 (.slice (some ⟨gO, 0, none⟩) N cO) N (vals o)) := hid (own_keep O.out hb9)
          have HI9 : Hid (w9.ownsRow w.heap.size 32 2 (.slice (some ⟨gi, 0, none⟩) cj.length ci) cj.length (vals (flatP cj))) := hid (own_keep HI.out hb9)
          have HSN9 : Hid (w9.ownsRow w.heap.size 4 1 (.slice (some ⟨gs, 0, none⟩) N N) N (bl.map Value.bool)) := hid (own_keep HSN.out hb9)
          have HB9 : Hid (Below w.heap.size w w9) := hid (bbl HB.out hb9)
          clear hb9 KP HO NC L O HI HSN HB
          obtain ⟨Pa, Pb, Pc⟩ := KP9.out.three
          have Pz := KP9.out.lt
          go_wp2_with fail
          go_roundg (cs.length - (j + 1))
          case measure => omega
          case rel => exact ⟨j + 1, bl, by omega, by go_num, rfl, hbl, HNX, HSN9, KP9, HO9, NC9, L9, O9, HB9⟩
    · obtain ⟨nn, hnn⟩ : ∃ nn, nn = cs.length := ⟨_, rfl⟩
      obtain rfl : j = cs.length := by omega
      clear hnn hlt hj
      go_wp2_with fail
      go_ret
      exact ⟨rfl, HB.out⟩
end Go.Proofs.Ytbgigompkmnapaa

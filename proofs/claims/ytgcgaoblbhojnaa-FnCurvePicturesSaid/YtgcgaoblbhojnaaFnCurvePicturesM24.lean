/- Merged texts: Fq, WFnCurvePictures. -/
import Derived.Test.YtgcgaoblbhojnaaFnCurvePicturesM22
import Derived.Test.YtgcgaoblbhojnaaFnCurvePicturesM23
import Derived.Test.YtgcgaoblbhojnaaFnCurvePicturesM15
import Derived.Test.YtgcgaoblbhojnaaFnCurvePicturesM10
import Derived.Test.YtgcgaoblbhojnaaFnCurvePicturesM16
import Derived.Test.YtgcgaoblbhojnaaFnCurvePicturesM17
import Derived.Test.YtgcgaoblbhojnaaFnCurvePicturesM14
import Derived.Test.YtgcgaoblbhojnaaFnCurvePicturesM11
namespace Go.Proofs.Ytgcgaoblbhojnaa
set_option linter.unusedSimpArgs false
set_option linter.unusedVariables false
open Go.ChangeShapes Go.WideShapes Go.ChangeAt Go.RowKit
theorem kd_sg {k : Int} (h : k = 0 ∨ k = 1 ∨ k = 2) : kdF (sgB k) = k := by
  rcases h with rfl | rfl | rfl <;> rfl
theorem decL_side {n : Int} (h : side n = true) : decL n = [48 + n] := by
  rcases side_cases h with rfl | rfl | rfl | rfl | rfl | rfl | rfl | rfl <;> decide
theorem byteL_dec {n : Int} (h : side n = true) : byteL (decS n) = [48 + n] := by
  unfold decS
  rw [byteL_nums (decL_bd n), decL_side h]
theorem dec_side {n : Int} (h : side n = true) : rdB (decS n) = true ∧ rdR (decS n) = n := by
  have hb := byteL_dec h
  have hn := side_bd h
  have h45 : ¬ (byteL (decS n))[0]? = some 45 := by rw [hb]; simp; omega
  have hT : rdT (decS n) = decS n := by unfold rdT; rw [if_neg h45]
  have hV : rdV (decS n) = n := by unfold rdV; rw [if_neg h45, hT, hb]; simp [rdN]; omega
  have hsz : (decS n).size = 1 := by rw [← byteL_length, hb]; rfl
  have hp : RdP (decS n) := by
    unfold RdP
    rw [hT, hV, hsz, hb]
    refine ⟨by omega, by omega, ?_, rfl⟩
    intro i b hi
    cases i with
    | zero => simp at hi; unfold digitP; omega
    | succ i => simp at hi
  exact ⟨(rd_yes hp).2, (rd_yes hp).1.trans hV⟩
/-- The text of a valid panel is read back. -/
theorem text_read {W H : Int} {zs : List Int} (hv : validB W H zs = true) : pnO (txS W H zs) = true ∧ pnW (txS W H zs) = W ∧ pnH (txS W H zs) = H ∧ pnL (txS W H zs) = zs ∧ pnN (txS W H zs) = zs.length := by
  have hs := valid_sides hv
  have w1 := side_bd hs.1
  have w2 := side_bd hs.2
  have hb : byteL (txS W H zs) = (48 + W) :: 120 :: (48 + H) :: 58 :: zs.map sgB := by
    rw [tx_bytes, decL_side hs.1, decL_side hs.2]; rfl
  have hl := valid_len hv
  have hi := inner_le hs.1 hs.2
  have hsz : (txS W H zs).size = zs.length + 4 := by rw [← byteL_length, hb]; simp
  obtain ⟨s, hsd⟩ : ∃ s, txS W H zs = s := ⟨_, rfl⟩
  rw [hsd] at hb hsz ⊢
  have i120 : (byteL s).idxOf 120 = 1 := by
    rw [hb]
    have e : ((48 + W) == 120) = false := by simp; omega
    simp [List.idxOf_cons, e]
  have i58 : (byteL s).idxOf 58 = 3 := by
    rw [hb]
    have e : ((48 + W) == 58) = false := by simp; omega
    have e2 : ((48 + H) == 58) = false := by simp; omega
    simp [List.idxOf_cons, e, e2]
  have p120 : plI s 120 = 1 := by unfold plI; rw [i120, if_pos (by omega)]; rfl
  have p58 : plI s 58 = 3 := by unfold plI; rw [i58, if_pos (by omega)]; rfl
  have eA : imA s = decS W := by
    apply byteL_inj
    unfold imA
    rw [byteL_extract, hb, p120, byteL_dec hs.1]
    rfl
  have eB : imB s = decS H := by
    apply byteL_inj
    unfold imB
    rw [byteL_extract, hb, p120, p58, byteL_dec hs.2]
    rfl
  have eZ : imZ s = zs := by
    unfold imZ
    rw [hb, p58]
    show ((zs.map sgB).map kdF) = zs
    rw [List.map_map]
    conv => rhs; rw [← List.map_id zs]
    apply List.map_congr_left
    intro z hz
    obtain ⟨i, hi2, e⟩ := List.getElem_of_mem hz
    exact kd_sg (validB_kinds hv (j := i) (by rw [List.getElem?_eq_getElem hi2, e]))
  obtain ⟨dA1, dA2⟩ := dec_side hs.1
  obtain ⟨dB1, dB2⟩ := dec_side hs.2
  have hP : imP s := ⟨by omega, by omega, by omega⟩
  have hQ : imQ s := by
    unfold imQ
    rw [eA, eB, eZ, dA2, dB2]
    exact ⟨dA1, dB1, hv, hsd⟩
  have hO := pn_of_im hP hQ
  obtain ⟨_, _, qA, qB, qZ⟩ := im_of_pn hO
  have hL : pnL s = zs := by unfold pnL; rw [if_pos hO, ← qZ, eZ]
  refine ⟨hO, ?_, ?_, hL, by unfold pnN; rw [hL]⟩
  · unfold pnW; rw [if_pos hO, ← qA, eA, dA2]
  · unfold pnH; rw [if_pos hO, ← qB, eB, dB2]
theorem row_all {W H y : Int} : ∀ (bs : List Int) (x : Nat), (∀ (i : Nat) b, bs[i]? = some b → chF W H ((x + i : Nat) : Int) y b = 0) → rowFlt W H y bs x = none := by
  intro bs
  induction bs with
  | nil => intro x _; rfl
  | cons a bs ih =>
    intro x h
    rw [rowFlt, if_pos (by simpa using h 0 a (by simp))]
    refine ih _ (fun i b hb => ?_)
    have := h (i + 1) b (by simpa using hb)
    rwa [show x + (i + 1) = x + 1 + i by omega] at this
theorem lin_all {W H : Int} {m : Nat} : ∀ (ls : List ByteArray) (y : Nat), (∀ (i : Nat) l, ls[i]? = some l → l.size = m ∧ ∀ (x : Nat) b, (byteL l)[x]? = some b → chF W H (x : Int) ((y + i : Nat) : Int) b = 0) → linFlt W H m ls y = none := by
  intro ls
  induction ls with
  | nil => intro y _; rfl
  | cons a ls ih =>
    intro y h
    obtain ⟨h1, h2⟩ := h 0 a (by simp)
    have hr : rowFlt W H y (byteL a) 0 = none := row_all _ _ (fun i b hb => by
      have := h2 i b hb
      rw [Nat.zero_add]
      simpa using this)
    rw [linFlt, if_pos h1, hr]
    refine ih _ (fun i l hl => ?_)
    have := h (i + 1) l (by simpa using hl)
    rwa [show y + (i + 1) = y + 1 + i by omega] at this
theorem brk_kind {W H : Int} {zs : List Int} {x y : Int} (hv : validB W H zs = true) (hh : hasP W H x y = true) (he : edgeP W H x y = false) : brkA W zs x y = 0 ∨ brkA W zs x y = 1 ∨ brkA W zs x y = 2 := by
  obtain ⟨s1, s2, s3, x1, x2, y1, y2, hp⟩ := codeP_parts (inner_code hv hh he)
  obtain ⟨n1, n2⟩ := numF_bd s1 s2 x1 x2 y1 y2 hp
  obtain ⟨k, hk, hkl, hkz⟩ := brk_at s3 n1 n2
  exact validB_kinds hv hkz
theorem ch_pa {W H : Int} {zs : List Int} (hv : validB W H zs = true) (x y : Int) : chF W H x y (paB W H zs x y) = 0 := by
  unfold chF paB
  cases hh : hasP W H x y
  · simp
  · cases he : edgeP W H x y
    · have := brk_kind hv hh he
      have e := kd_sg this
      simp only [if_true, Bool.false_eq_true, if_false]
      rw [e, if_neg (by omega)]
    · simp
theorem paB_bd (W H : Int) (zs : List Int) (x y : Int) : 0 ≤ paB W H zs x y ∧ paB W H zs x y ≤ 255 := by
  unfold paB sgB
  repeat' split
  all_goals omega
theorem mkRow_at {mk : Nat → Nat → Int} {y n x : Nat} {b : Int} (h : (mkRow mk y n)[x]? = some b) : x < n ∧ mk x y = b := by
  have hx : x < n := by have := (List.getElem?_eq_some_iff.1 h).1; rwa [mkRow_length] at this
  simp only [mkRow, List.getElem?_map, List.getElem?_range hx, Option.map_some] at h
  exact ⟨hx, by injection h⟩
theorem byteL_row {mk : Nat → Nat → Int} (hb : ∀ x y, 0 ≤ mk x y ∧ mk x y ≤ 255) (y n : Nat) : byteL (strOfNums (mkRow mk y n)) = mkRow mk y n := by
  apply byteL_nums
  intro b hm
  obtain ⟨i, hi, e⟩ := List.getElem_of_mem hm
  obtain ⟨_, e2⟩ := mkRow_at (b := b) (by rw [List.getElem?_eq_getElem hi, e])
  rw [← e2]
  exact hb _ _
theorem picS_at {mk : Nat → Nat → Int} {m n y : Nat} {l : ByteArray} (h : (picS mk m n)[y]? = some l) : y < n ∧ strOfNums (mkRow mk y m) = l := by
  have hy : y < n := by have := (List.getElem?_eq_some_iff.1 h).1; rwa [picS_length] at this
  simp only [picS, List.getElem?_map, List.getElem?_range hy, Option.map_some] at h
  exact ⟨hy, by injection h⟩
theorem ptbrk {W H : Int} {zs : List Int} (hv : validB W H zs = true) {k : Nat} (hk : k < zs.length) : brkA W zs (ptX W H k) (ptY W H k) = zs.getD k 0 ∧ hasP W H (ptX W H k) (ptY W H k) = true ∧ edgeP W H (ptX W H k) (ptY W H k) = false := by
  have hs := valid_sides hv
  have hl := valid_len hv
  have b := pt_bd hs.1 hs.2 (Int.natCast_nonneg k) (by omega)
  have b1 := side_bd hs.1
  have b2 := side_bd hs.2
  have e := num_pt hs.1 hs.2 (Int.natCast_nonneg k) (by omega : (k : Int) < inner W H)
  refine ⟨by unfold brkA; rw [e, Int.toNat_natCast, List.getD_eq_getElem?_getD], ?_, ?_⟩
  · simp only [hasP, inR, Bool.and_eq_true, decide_eq_true_eq, beq_iff_eq]; omega
  · simp only [edgeP, Bool.or_eq_false_iff, beq_eq_false_iff_ne]; omega
/-- The picture of a valid panel is read back. -/
theorem pic_read {W H : Int} {zs : List Int} (hv : validB W H zs = true) : pfF (ppL W H zs) = (0, 0, 0) ∧ rpW (ppL W H zs) = W ∧ rpH (ppL W H zs) = H ∧ rpN (ppL W H zs) = zs.length ∧ rpL (ppL W H zs) = zs ∧ rpC (ppL W H zs) = 0 := by
  have hs := valid_sides hv
  have w1 := side_bd hs.1
  have w2 := side_bd hs.2
  have hl := valid_len hv
  obtain ⟨W', rfl⟩ : ∃ n : Nat, W = n := ⟨W.toNat, by omega⟩
  obtain ⟨H', rfl⟩ : ∃ n : Nat, H = n := ⟨H.toNat, by omega⟩
  have hb : ∀ x y, 0 ≤ paM W' H' zs x y ∧ paM W' H' zs x y ≤ 255 := fun x y => paB_bd _ _ _ _ _
  have hpp : ppL W' H' zs = picS (paM W' H' zs) (2 * W' + 1) (2 * H' + 1) := by
    unfold ppL; rw [if_pos hv, show (2 * (W' : Int) + 1).toNat = 2 * W' + 1 by omega, show (2 * (H' : Int) + 1).toNat = 2 * H' + 1 by omega]
  have hsize : ∀ y, (strOfNums (mkRow (paM W' H' zs) y (2 * W' + 1))).size = 2 * W' + 1 := fun y => by rw [← byteL_length, byteL_row hb, mkRow_length]
  obtain ⟨ss, hss⟩ : ∃ ss, ppL W' H' zs = ss := ⟨_, rfl⟩
  have hlen : ss.length = 2 * H' + 1 := by rw [← hss, hpp, picS_length]
  have hfs : fsz ss = 2 * W' + 1 := by
    have h0 : ss[0]? = some (strOfNums (mkRow (paM W' H' zs) 0 (2 * W' + 1))) := by
      rw [← hss, hpp]
      simp only [picS, List.getElem?_map, List.getElem?_range (show 0 < 2 * H' + 1 by omega), Option.map_some]
    unfold fsz
    rw [List.headD_eq_head?_getD, List.head?_eq_getElem?, h0]
    exact hsize 0
  have hW2 : ((fsz ss : Int)) / 2 = W' := by rw [hfs]; omega
  have hH2 : ((ss.length : Int)) / 2 = H' := by rw [hlen]; omega
  have g1 : goodB ss.length = true := by rw [hlen]; simp [goodB, inR]; omega
  have g2 : goodB (fsz ss) = true := by rw [hfs]; simp [goodB, inR]; omega
  have hlin : linFlt W' H' (2 * W' + 1) ss 0 = none := by
    apply lin_all
    intro i l hi
    rw [← hss, hpp] at hi
    obtain ⟨hy, rfl⟩ := picS_at hi
    refine ⟨hsize i, fun x b hx => ?_⟩
    rw [byteL_row hb] at hx
    obtain ⟨_, rfl⟩ := mkRow_at hx
    rw [Nat.zero_add]
    exact ch_pa hv _ _
  have hpf : pfF ss = (0, 0, 0) := by
    unfold pfF
    rw [if_pos g1, if_pos g2, hW2, hH2, hfs, hlin]
    rfl
  rw [hss]
  have h0 : (pfF ss).1 = 0 := by rw [hpf]
  obtain ⟨r1, r2, r3, r4, r5⟩ := rp_yes h0
  rw [hW2] at r1 r3 r4
  rw [hH2] at r2 r3 r4
  have hin : (inner (W' : Int) H').toNat = zs.length := by rw [← hl]; simp
  rw [hin] at r3 r4
  refine ⟨hpf, r1, r2, r3, ?_, r5⟩
  rw [r4]
  apply List.ext_getElem?
  intro k
  by_cases hk : k < zs.length
  · obtain ⟨X, Y, l, z, e1, e2, e3, e4, e5, e6, e7, e8, e9, e10⟩ := at_point h0 (k := k) (by rw [hW2, hH2]; omega)
    rw [hW2, hH2] at e1 e2 e9
    have e3' := e3
    rw [← hss, hpp] at e3'
    obtain ⟨_, rfl⟩ := picS_at e3'
    rw [byteL_row hb] at e4
    obtain ⟨_, e11⟩ := mkRow_at e4
    obtain ⟨q1, q2, q3⟩ := ptbrk hv hk
    have hkind := brk_kind hv q2 q3
    simp only [zsP, List.getElem?_map, List.getElem?_range hk, Option.map_some]
    rw [e9, ← e11]
    unfold paM paB
    rw [e1, e2] at q1 q2 q3 hkind
    rw [if_pos q2, q3]
    simp only [Bool.false_eq_true, if_false]
    rw [kd_sg hkind, q1, List.getD_eq_getElem?_getD, List.getElem?_eq_getElem hk]
    rfl
  · rw [List.getElem?_eq_none (by rw [zsP_length]; omega), List.getElem?_eq_none (by omega)]
/-- The picture of what a faultless picture is read to is that picture. -/
theorem read_pic {ss : List ByteArray} (h : (pfF ss).1 = 0) : validB (rpW ss) (rpH ss) (rpL ss) = true ∧ ppL (rpW ss) (rpH ss) (rpL ss) = ss ∧ ppC (rpW ss) (rpH ss) (rpL ss) = 0 := by
  obtain ⟨g1, g2, hl⟩ := pf_ok h
  obtain ⟨r1, r2, r3, r4, r5⟩ := rp_yes h
  have hW := good_side g2
  have hH := good_side g1
  have b1 := good_bd g1
  have b2 := good_bd g2
  have hin := inner_le hW hH
  rw [r1, r2, r4]
  obtain ⟨W, hWd⟩ : ∃ W, (fsz ss : Int) / 2 = W := ⟨_, rfl⟩
  obtain ⟨H, hHd⟩ : ∃ H, (ss.length : Int) / 2 = H := ⟨_, rfl⟩
  have hap := @at_point ss h
  rw [hWd] at hW hin hl hap ⊢
  rw [hHd] at hH hin hl hap ⊢
  obtain ⟨N, hN⟩ : ∃ N, (inner W H).toNat = N := ⟨_, rfl⟩
  rw [hN]
  have hv : validB W H (zsP W H ss N) = true := by
    simp only [validB, hW, hH, Bool.true_and, Bool.and_eq_true, decide_eq_true_eq, List.all_eq_true]
    refine ⟨by rw [zsP_length]; omega, ?_⟩
    intro z hz
    simp only [zsP, List.mem_map, List.mem_range] at hz
    obtain ⟨k, hk, rfl⟩ := hz
    obtain ⟨X, Y, l, z, e1, e2, e3, e4, e5, e6, e7, e8, e9, e10⟩ := hap (k := k) (by omega)
    rw [e9]
    have := kdF_bd z
    simp only [kindOk, inR, decide_eq_true_eq]
    omega
  refine ⟨hv, ?_, by unfold ppC; rw [if_pos hv]⟩
  have eW : (2 * W + 1).toNat = fsz ss := by omega
  have eH : (2 * H + 1).toNat = ss.length := by omega
  unfold ppL
  rw [if_pos hv, eW, eH]
  apply List.ext_getElem?
  intro y
  by_cases hy : y < ss.length
  · obtain ⟨l, hly⟩ : ∃ l, ss[y]? = some l := ⟨_, List.getElem?_eq_getElem hy⟩
    obtain ⟨e1, e2⟩ := hl y l hly
    rw [hly]
    simp only [picS, List.getElem?_map, List.getElem?_range hy, Option.map_some]
    congr 1
    apply byteL_inj
    rw [byteL_row (mk := paM W H (zsP W H ss N)) (fun x y => paB_bd _ _ _ _ _)]
    apply List.ext_getElem?
    intro x
    by_cases hx : x < fsz ss
    · obtain ⟨b, hb⟩ : ∃ b, (byteL l)[x]? = some b := ⟨_, List.getElem?_eq_getElem (by rw [byteL_length]; omega)⟩
      have hc := e2 x b hb
      rw [hb]
      simp only [mkRow, List.getElem?_map, List.getElem?_range hx, Option.map_some]
      congr 1
      unfold paM paB
      unfold chF at hc
      cases hh : hasP W H x y
      · rw [hh] at hc
        simp only [Bool.false_eq_true, if_false] at hc ⊢
        by_cases hq : b = 32
        · exact hq.symm
        · rw [if_neg hq] at hc; omega
      · cases he : edgeP W H x y
        · rw [hh, he] at hc
          simp only [if_true, Bool.false_eq_true, if_false] at hc ⊢
          obtain ⟨s1, s2, s3, x1, x2, y1, y2, hp⟩ := codeP_parts (inner_code hv hh he)
          obtain ⟨n1, n2⟩ := numF_bd s1 s2 x1 x2 y1 y2 hp
          obtain ⟨k, hk, hkl, hkz⟩ := brk_at s3 n1 n2
          rw [zsP_length] at hkl
          obtain ⟨p1, p2⟩ := pt_num s1 s2 x1 x2 y1 y2 hp
          rw [hk] at p1 p2
          have hbz : brkA W (zsP W H ss N) x y = kdF b := by
            have e : (zsP W H ss N)[k]? = some (kdF (atB ss (ptX W H k) (ptY W H k))) := by simp [zsP, hkl]
            rw [hkz] at e
            injection e with e
            rw [e, p1, p2]
            congr 1
            simp [atB, List.getD_eq_getElem?_getD, hly, hb]
          rw [hbz]
          have hkb := kdF_bd b
          by_cases hneg : kdF b < 0
          · rw [if_pos hneg] at hc; omega
          · exact (sg_kd (by omega)).1
        · rw [hh, he] at hc
          simp only [if_true] at hc ⊢
          by_cases hq : b = 46
          · exact hq.symm
          · rw [if_neg hq] at hc; omega
    · rw [List.getElem?_eq_none (by rw [mkRow_length]; omega), List.getElem?_eq_none (by rw [byteL_length]; omega)]
  · rw [List.getElem?_eq_none (by rw [picS_length]; omega), List.getElem?_eq_none (by omega)]
/-- The kinds of faults. -/
theorem row_kind {W H y : Int} : ∀ (bs : List Int) (x : Nat) k z, rowFlt W H y bs x = some (k, z) → 0 ≤ k ∧ k ≤ 5 := by
  intro bs
  induction bs with
  | nil => intro x k z h; simp [rowFlt] at h
  | cons b bs ih =>
    intro x k z h
    rw [rowFlt] at h
    split at h
    · exact ih _ _ _ h
    · injection h with h
      injection h with h1 h2
      subst h1
      unfold chF
      repeat' split
      all_goals omega
theorem lin_kind {W H : Int} {m : Nat} : ∀ (ls : List ByteArray) (y : Nat) k q x, linFlt W H m ls y = some (k, q, x) → 0 ≤ k ∧ k ≤ 5 := by
  intro ls
  induction ls with
  | nil => intro y k q x h; simp [linFlt] at h
  | cons l ls ih =>
    intro y k q x h
    rw [linFlt] at h
    split at h
    · split at h
      · rename_i hr
        injection h with h
        injection h with h1 h2
        subst h1
        exact row_kind _ _ _ _ hr
      · exact ih _ _ _ _ h
    · injection h with h
      injection h with h1 h2
      omega
theorem pf_kind (ss : List ByteArray) : 0 ≤ (pfF ss).1 ∧ (pfF ss).1 ≤ 5 := by
  unfold pfF
  split
  · split
    · cases hl : linFlt ((fsz ss : Int) / 2) ((ss.length : Int) / 2) (fsz ss) ss 0 with
      | none => simp [trip]
      | some t =>
        obtain ⟨k, q, x⟩ := t
        exact lin_kind _ _ _ _ _ hl
    · simp
  · simp
end Go.Proofs.Ytgcgaoblbhojnaa
namespace Go.Proofs.Ytgcgaoblbhojnaa
set_option linter.unusedSimpArgs false
set_option linter.unusedVariables false
open Go.ChangeShapes Go.WideShapes Go.ChangeAt Go.RowKit
theorem lpL_len9 (W H : Int) (zs : List Int) : (lpL W H zs).length = lpN W H zs := by unfold lpL lpN; split <;> simp [lpS_length]
theorem rowV_le (c : List Wkr) (y : Nat) {x m : Nat} (h : x ≤ m) : rowV c y x ≤ rowV c y m := by
  induction m with
  | zero => obtain rfl : x = 0 := by omega
            exact Nat.le_refl _
  | succ m ih =>
    rcases Nat.eq_or_lt_of_le h with rfl | hlt
    · exact Nat.le_refl _
    · exact Nat.le_trans (ih (by omega)) (by rw [rowV]; omega)
theorem allV_le (c : List Wkr) (m : Nat) {y n : Nat} (h : y ≤ n) : allV c m y ≤ allV c m n := by
  induction n with
  | zero => obtain rfl : y = 0 := by omega
            exact Nat.le_refl _
  | succ n ih =>
    rcases Nat.eq_or_lt_of_le h with rfl | hlt
    · exact Nat.le_refl _
    · exact Nat.le_trans (ih (by omega)) (by rw [allV]; omega)
theorem allV_part (c : List Wkr) {m n y x : Nat} (hy : y < n) (hx : x ≤ m) : allV c m y + rowV c y x ≤ allV c m n := by
  have h1 := rowV_le c y hx
  have h2 := allV_le c m (show y + 1 ≤ n by omega)
  rw [allV] at h2
  omega
/-- What the law wants of a curve that is there. -/
theorem cp_facts {W H : Int} {zs : List Int} {a : Int} (h : tcC W H zs a = 0) : ∃ (W' H' j : Nat) (cj : List Wkr), W = W' ∧ H = H' ∧ a = j ∧ validB W H zs = true ∧ (1 ≤ W' ∧ W' ≤ 8) ∧ (1 ≤ H' ∧ H' ≤ 8) ∧ cpN W H zs a = 2 * H' + 1 ∧ cpL W H zs a = picS (cvM W H zs cj) (2 * W' + 1) (2 * H' + 1) ∧
    (∀ x y : Int, visN cj x y ≤ 2) ∧ allV cj (2 * W' + 1) (2 * H' + 1) = cj.length ∧ cj.length ≤ 256 ∧ (clL W H zs)[j]? = some (cj.length : Int) ∧ j < clN W H zs ∧ ccC W H zs = 0 := by
  have hcb := cp_zero.2 h
  have hcb' := hcb
  simp only [cpB, Bool.and_eq_true] at hcb'
  obtain ⟨hv, hr⟩ := hcb'
  have hab : 0 ≤ a ∧ a < ((trS W H zs (4 * W * H).toNat).1.length : Int) := by simp [inR] at hr; omega
  obtain ⟨s3, s4⟩ := side_bd (valid_sides hv).1
  obtain ⟨s5, s6⟩ := side_bd (valid_sides hv).2
  obtain ⟨j, rfl⟩ : ∃ j : Nat, a = (j : Int) := ⟨a.toNat, by omega⟩
  obtain ⟨cj, hcj⟩ : ∃ cj, (trS W H zs (4 * W * H).toNat).1[j]? = some cj := ⟨_, List.getElem?_eq_getElem (by omega)⟩
  obtain ⟨W', rfl⟩ : ∃ n : Nat, W = n := ⟨W.toNat, by omega⟩
  obtain ⟨H', rfl⟩ : ∃ n : Nat, H = n := ⟨H.toNat, by omega⟩
  have hcpj : cpJ W' H' zs j = cj := by simp [cpJ, List.getD_eq_getElem?_getD, hcj]
  refine ⟨W', H', j, cj, rfl, rfl, rfl, hv, by omega, by omega, ?_, ?_, fun x y => vis_two hv hcj x y, ?_, tr_cl hv j cj hcj, ?_, ?_, ?_⟩
  · unfold cpN; rw [if_pos hcb]; omega
  · unfold cpL; rw [if_pos hcb, hcpj, show (2 * (W' : Int) + 1).toNat = 2 * W' + 1 by omega, show (2 * (H' : Int) + 1).toNat = 2 * H' + 1 by omega]
  · exact allV_all cj (fun s hs => by have := cur_in hv hcj s hs; omega)
  · unfold clL lensL; rw [if_pos hv, List.getElem?_map, hcj]; rfl
  · unfold clN; rw [if_pos hv]; omega
  · simp [ccC, hv]
theorem mk_three {n : Nat} (h : n ≤ 2) (b : Int) : (n = 0 ∧ mkB n b = b) ∨ (n = 1 ∧ mkB n b = 111) ∨ (n = 2 ∧ mkB n b = 56) := by
  have h3 : n = 0 ∨ n = 1 ∨ n = 2 := by omega
  rcases h3 with rfl | rfl | rfl <;> simp [mkB]
theorem cvM_bd {W H : Int} {zs : List Int} {cj : List Wkr} (h2 : ∀ x y : Int, visN cj x y ≤ 2) (x y : Nat) : 0 ≤ cvM W H zs cj x y ∧ cvM W H zs cj x y ≤ 255 := by
  unfold cvM
  have := paB_bd W H zs x y
  rcases mk_three (h2 x y) (paB W H zs x y) with ⟨_, e⟩ | ⟨_, e⟩ | ⟨_, e⟩ <;> rw [e] <;> omega
set_option maxRecDepth 100000 in
set_option maxHeartbeats 4000000 in
theorem fnCurvePictures_walk (w : World) (A0 : Option Addr) (c0 : Nat) (bs0 : List Int) (hl0 : bs0.length ≤ maxLen) (hz0 : BytesR w w.heap.size A0 bs0) (_ : True)
    : Calls Try.prog 13 #[.slice A0 bs0.length c0] w fun e w' => e = .returned (.bool true) ∧ Below w.heap.size w w' := by
  obtain ⟨n0, hn0⟩ : ∃ n, bs0.length = n := ⟨_, rfl⟩
  rw [hn0] at hl0 ⊢
  have HN0 := hid hn0
  have HZ0 := hid hz0
  clear hn0 hz0
  by_cases hbig : (4096 : Int) < (n0 : Int)
  · have HBG := hid hbig
    clear hbig
    go_enter Try.func13, Try.ntmps13
    go_wp2_with fail
    refine (calls_bool (f6big_any A0 n0 c0 w hl0) (decide_eq_true HBG.out)).mono ?_
    rintro e w' ⟨rfl, rfl⟩
    go_wp2_with fail
    go_ret
    exact ⟨rfl, Below.refl _ _⟩
  have hn5 : n0 ≤ 5000 := by omega
  have HBG := hid hbig
  clear hbig
  go_enter Try.func13, Try.ntmps13
  go_wp2_with fail
  refine (calls_bool (f6big_any A0 n0 c0 w hl0) (decide_eq_false (show ¬ (4096 : Int) < (n0 : Int) by have := HBG.out; omega))).mono ?_
  rintro e w' ⟨rfl, rfl⟩
  go_wp2_with fail
  refine (DrawCurvePicture_any A0 n0 c0 bs0 w HN0.out HZ0.out hn5).mono ?_
  rintro e w1 ⟨W1, H1, zs1, A1, c1, a, ⟨⟨wW1, wH1, hzl1⟩, a1, a2⟩, rfl, ho, hb⟩
  have hlz1 : zs1.length ≤ maxLen := by unfold maxLen; omega
  have wa : (Lit.int .i64 a).wf = true := wf64B (by omega) (by omega)
  have HW := hid (And.intro wW1 (And.intro wH1 wa))
  clear wW1 wH1 wa
  have O11 : Hid (OwnI w1 w.heap.size (.slice A1 zs1.length c1) zs1) := hid ho
  have HB1 : Hid (Below w.heap.size w w1) := hid hb
  clear ho hb
  obtain ⟨m, hm⟩ : ∃ m, tcC W1 H1 zs1 a = m := ⟨_, rfl⟩
  obtain ⟨sg, hsg⟩ : ∃ ss, cpL W1 H1 zs1 a = ss := ⟨_, rfl⟩
  obtain ⟨ng, hng⟩ : ∃ n, cpN W1 H1 zs1 a = n := ⟨_, rfl⟩
  have HG := hid (And.intro hng (And.intro hsg hm))
  have hgl : sg.length = ng := by rw [← hsg, ← hng]; exact cpL_length _ _ _ _
  have hg17 : ng ≤ 17 := by rw [← hng]; exact cpN_le _ _ _ _
  have HGL := hid hgl
  clear hm hsg hng hgl
  go_wp2_with fail
  obtain ⟨w2, hw2⟩ : ∃ zz : World, zz = w1.alloc (.cells #[.int .i64 W1, .int .i64 H1, .slice A1 zs1.length c1] 39) := ⟨_, rfl⟩
  rw [← hw2]
  have O12 : Hid (OwnI w2 w.heap.size (.slice A1 zs1.length c1) zs1) := hid (by rw [hw2]; exact (O11.out.alloc _))
  have HB2 : Hid (Below w.heap.size w w2) := hid (by rw [hw2]; exact (bal HB1.out _))
  have KP2 : Hid (Box w2 w1.heap.size 39 #[.int .i64 W1, .int .i64 H1, .slice A1 zs1.length c1]) := hid (by rw [hw2]; exact (Box.new _ _ _))
  obtain ⟨bk2, hbk2⟩ : ∃ b, b = w1.heap.size := ⟨_, rfl⟩
  rw [← hbk2] at KP2 ⊢
  have oB2 : w.heap.size ≤ bk2 := by rw [hbk2]; exact HB1.out.size
  clear hw2 hbk2 O11 HB1
  obtain ⟨Pa, Pb, Pc⟩ := KP2.out.three
  have Pz := KP2.out.lt
  refine (implCurvePicture_any W1 H1 A1 c1 zs1 a _ (OwnI.ints O12.out) hlz1 HW.out.2.2).mono ?_
  rintro e w3 ⟨⟨AG, cG, he, ho⟩, hb⟩
  rw [HG.out.1, HG.out.2.2] at he
  rw [HG.out.1, HG.out.2.1] at ho
  subst he
  clear Pa Pb Pc Pz
  have hlo := HB2.out.size
  have KP3 : Hid (Box w3 bk2 39 #[.int .i64 W1, .int .i64 H1, .slice A1 zs1.length c1]) := hid (Box.keep KP2.out hb)
  have O13 : Hid (OwnI w3 w.heap.size (.slice A1 zs1.length c1) zs1) := hid (OwnI.keep O12.out hb)
  have HB3 : Hid (Below w.heap.size w w3) := hid (bbl HB2.out hb)
  have SG3 : Hid (w3.ownsRow w.heap.size 9 1 (.slice AG ng cG) ng (strs sg)) := hid (Go.Joins.ownsRow_le ho hlo)
  clear hb ho hlo KP2 O12 HB2
  obtain ⟨Pa, Pb, Pc⟩ := KP3.out.three
  have Pz := KP3.out.lt
  go_wp2_with fail
  refine (specCurvePicture_any W1 H1 A1 c1 zs1 a _ (OwnI.ints O13.out) hlz1 HW.out.2.2).mono ?_
  rintro e w4 ⟨⟨AM, cM, he, ho⟩, hb⟩
  rw [HG.out.1, HG.out.2.2] at he
  rw [HG.out.1, HG.out.2.1] at ho
  subst he
  clear Pa Pb Pc Pz
  have hlo := HB3.out.size
  have KP4 : Hid (Box w4 bk2 39 #[.int .i64 W1, .int .i64 H1, .slice A1 zs1.length c1]) := hid (Box.keep KP3.out hb)
  have O14 : Hid (OwnI w4 w.heap.size (.slice A1 zs1.length c1) zs1) := hid (OwnI.keep O13.out hb)
  have SG4 : Hid (w4.ownsRow w.heap.size 9 1 (.slice AG ng cG) ng (strs sg)) := hid (own_keep SG3.out hb)
  have HB4 : Hid (Below w.heap.size w w4) := hid (bbl HB3.out hb)
  have SM4 : Hid (w4.ownsRow w.heap.size 9 1 (.slice AM ng cM) ng (strs sg)) := hid (Go.Joins.ownsRow_le ho hlo)
  clear hb ho hlo KP3 O13 SG3 HB3
  obtain ⟨Pa, Pb, Pc⟩ := KP4.out.three
  have Pz := KP4.out.lt
  go_wp2_with fail
  refine (DrawLinesPicture_any A0 n0 c0 bs0 _ HN0.out ((HZ0.out.below HB4.out).more HB4.out.size) hn5).mono ?_
  rintro e w5 ⟨W2, H2, zs2, A2, c2, ⟨wW2, wH2, hzl2⟩, rfl, ho, hb⟩
  have hlz2 : zs2.length ≤ maxLen := by unfold maxLen; omega
  have HW2 := hid (And.intro wW2 wH2)
  clear wW2 wH2
  obtain ⟨m2, hm⟩ : ∃ m, lpC W2 H2 zs2 = m := ⟨_, rfl⟩
  obtain ⟨sl, hsg⟩ : ∃ ss, lpL W2 H2 zs2 = ss := ⟨_, rfl⟩
  obtain ⟨nl, hng⟩ : ∃ n, lpN W2 H2 zs2 = n := ⟨_, rfl⟩
  have HL := hid (And.intro hng (And.intro hsg hm))
  have hgl : sl.length = nl := by rw [← hsg, ← hng]; exact lpL_len9 _ _ _
  have hl17 : nl ≤ 16 := by rw [← hng]; exact lpN_le _ _ _
  have HLL := hid hgl
  clear hm hsg hng hgl
  clear Pa Pb Pc Pz
  have hlo := HB4.out.size
  have KP5 : Hid (Box w5 bk2 39 #[.int .i64 W1, .int .i64 H1, .slice A1 zs1.length c1]) := hid (Box.keep KP4.out hb)
  have O15 : Hid (OwnI w5 w.heap.size (.slice A1 zs1.length c1) zs1) := hid (OwnI.keep O14.out hb)
  have SG5 : Hid (w5.ownsRow w.heap.size 9 1 (.slice AG ng cG) ng (strs sg)) := hid (own_keep SG4.out hb)
  have SM5 : Hid (w5.ownsRow w.heap.size 9 1 (.slice AM ng cM) ng (strs sg)) := hid (own_keep SM4.out hb)
  have HB5 : Hid (Below w.heap.size w w5) := hid (bbl HB4.out hb)
  have O25 : Hid (OwnI w5 w.heap.size (.slice A2 zs2.length c2) zs2) := hid (Go.Joins.ownsRow_le ho hlo)
  clear hb ho hlo KP4 O14 SG4 SM4 HB4
  obtain ⟨Pa, Pb, Pc⟩ := KP5.out.three
  have Pz := KP5.out.lt
  go_wp2_with fail
  obtain ⟨w6, hw6⟩ : ∃ zz : World, zz = w5.alloc (.cells #[.int .i64 W2, .int .i64 H2, .slice A2 zs2.length c2] 39) := ⟨_, rfl⟩
  rw [← hw6]
  have KP6 : Hid (Box w6 bk2 39 #[.int .i64 W1, .int .i64 H1, .slice A1 zs1.length c1]) := hid (by rw [hw6]; exact (Box.alloc KP5.out _))
  have O16 : Hid (OwnI w6 w.heap.size (.slice A1 zs1.length c1) zs1) := hid (by rw [hw6]; exact (O15.out.alloc _))
  have SG6 : Hid (w6.ownsRow w.heap.size 9 1 (.slice AG ng cG) ng (strs sg)) := hid (by rw [hw6]; exact (SG5.out.alloc _))
  have SM6 : Hid (w6.ownsRow w.heap.size 9 1 (.slice AM ng cM) ng (strs sg)) := hid (by rw [hw6]; exact (SM5.out.alloc _))
  have O26 : Hid (OwnI w6 w.heap.size (.slice A2 zs2.length c2) zs2) := hid (by rw [hw6]; exact (O25.out.alloc _))
  have HB6 : Hid (Below w.heap.size w w6) := hid (by rw [hw6]; exact (bal HB5.out _))
  have KL6 : Hid (Box w6 w5.heap.size 39 #[.int .i64 W2, .int .i64 H2, .slice A2 zs2.length c2]) := hid (by rw [hw6]; exact (Box.new _ _ _))
  obtain ⟨bk6, hbk6⟩ : ∃ b, b = w5.heap.size := ⟨_, rfl⟩
  rw [← hbk6] at KL6 ⊢
  have oP6 : bk2 < bk6 := by rw [hbk6]; exact KP5.out.lt
  have oB6 : w.heap.size ≤ bk6 := by rw [hbk6]; exact HB5.out.size
  clear Pa Pb Pc Pz
  clear hw6 hbk6 KP5 O15 SG5 SM5 O25 HB5
  obtain ⟨Pa, Pb, Pc⟩ := KP6.out.three
  have Pz := KP6.out.lt
  obtain ⟨La, Lb, Lc⟩ := KL6.out.three
  have Lz := KL6.out.lt
  refine (implLinesPicture_any W2 H2 A2 c2 zs2 _ (OwnI.ints O26.out) hlz2).mono ?_
  rintro e w7 ⟨⟨AA, cA, he, ho⟩, hb⟩
  rw [HL.out.1, HL.out.2.2] at he
  rw [HL.out.1, HL.out.2.1] at ho
  subst he
  clear Pa Pb Pc Pz La Lb Lc Lz
  have hlo := HB6.out.size
  have KP7 : Hid (Box w7 bk2 39 #[.int .i64 W1, .int .i64 H1, .slice A1 zs1.length c1]) := hid (Box.keep KP6.out hb)
  have KL7 : Hid (Box w7 bk6 39 #[.int .i64 W2, .int .i64 H2, .slice A2 zs2.length c2]) := hid (Box.keep KL6.out hb)
  have O17 : Hid (OwnI w7 w.heap.size (.slice A1 zs1.length c1) zs1) := hid (OwnI.keep O16.out hb)
  have SG7 : Hid (w7.ownsRow w.heap.size 9 1 (.slice AG ng cG) ng (strs sg)) := hid (own_keep SG6.out hb)
  have SM7 : Hid (w7.ownsRow w.heap.size 9 1 (.slice AM ng cM) ng (strs sg)) := hid (own_keep SM6.out hb)
  have O27 : Hid (OwnI w7 w.heap.size (.slice A2 zs2.length c2) zs2) := hid (OwnI.keep O26.out hb)
  have HB7 : Hid (Below w.heap.size w w7) := hid (bbl HB6.out hb)
  have SA7 : Hid (w7.ownsRow w.heap.size 9 1 (.slice AA nl cA) nl (strs sl)) := hid (Go.Joins.ownsRow_le ho hlo)
  clear hb ho hlo KP6 KL6 O16 SG6 SM6 O26 HB6
  obtain ⟨Pa, Pb, Pc⟩ := KP7.out.three
  have Pz := KP7.out.lt
  obtain ⟨La, Lb, Lc⟩ := KL7.out.three
  have Lz := KL7.out.lt
  go_wp2_with fail
  refine (specLinesPicture_any W2 H2 A2 c2 zs2 _ (OwnI.ints O27.out) hlz2).mono ?_
  rintro e w8 ⟨⟨AB, cB, he, ho⟩, hb⟩
  rw [HL.out.1, HL.out.2.2] at he
  rw [HL.out.1, HL.out.2.1] at ho
  subst he
  clear Pa Pb Pc Pz La Lb Lc Lz
  have hlo := HB7.out.size
  have KP8 : Hid (Box w8 bk2 39 #[.int .i64 W1, .int .i64 H1, .slice A1 zs1.length c1]) := hid (Box.keep KP7.out hb)
  have KL8 : Hid (Box w8 bk6 39 #[.int .i64 W2, .int .i64 H2, .slice A2 zs2.length c2]) := hid (Box.keep KL7.out hb)
  have O18 : Hid (OwnI w8 w.heap.size (.slice A1 zs1.length c1) zs1) := hid (OwnI.keep O17.out hb)
  have SG8 : Hid (w8.ownsRow w.heap.size 9 1 (.slice AG ng cG) ng (strs sg)) := hid (own_keep SG7.out hb)
  have SM8 : Hid (w8.ownsRow w.heap.size 9 1 (.slice AM ng cM) ng (strs sg)) := hid (own_keep SM7.out hb)
  have O28 : Hid (OwnI w8 w.heap.size (.slice A2 zs2.length c2) zs2) := hid (OwnI.keep O27.out hb)
  have SA8 : Hid (w8.ownsRow w.heap.size 9 1 (.slice AA nl cA) nl (strs sl)) := hid (own_keep SA7.out hb)
  have HB8 : Hid (Below w.heap.size w w8) := hid (bbl HB7.out hb)
  have SB8 : Hid (w8.ownsRow w.heap.size 9 1 (.slice AB nl cB) nl (strs sl)) := hid (Go.Joins.ownsRow_le ho hlo)
  clear hb ho hlo KP7 KL7 O17 SG7 SM7 O27 SA7 HB7
  obtain ⟨Pa, Pb, Pc⟩ := KP8.out.three
  have Pz := KP8.out.lt
  obtain ⟨La, Lb, Lc⟩ := KL8.out.three
  have Lz := KL8.out.lt
  go_wp2_with fail
  refine (DrawPictureFaultName_any A0 n0 c0 bs0 _ HN0.out ((HZ0.out.below HB8.out).more HB8.out.size) hn5).mono ?_
  rintro e w9 ⟨⟨kn, ⟨kn1, kn2⟩, rfl⟩, hb9⟩
  clear Pa Pb Pc Pz La Lb Lc Lz
  have KP9 : Hid (Box w9 bk2 39 #[.int .i64 W1, .int .i64 H1, .slice A1 zs1.length c1]) := hid (Box.keep KP8.out hb9)
  have KL9 : Hid (Box w9 bk6 39 #[.int .i64 W2, .int .i64 H2, .slice A2 zs2.length c2]) := hid (Box.keep KL8.out hb9)
  have O19 : Hid (OwnI w9 w.heap.size (.slice A1 zs1.length c1) zs1) := hid (OwnI.keep O18.out hb9)
  have SG9 : Hid (w9.ownsRow w.heap.size 9 1 (.slice AG ng cG) ng (strs sg)) := hid (own_keep SG8.out hb9)
  have SM9 : Hid (w9.ownsRow w.heap.size 9 1 (.slice AM ng cM) ng (strs sg)) := hid (own_keep SM8.out hb9)
  have O29 : Hid (OwnI w9 w.heap.size (.slice A2 zs2.length c2) zs2) := hid (OwnI.keep O28.out hb9)
  have SA9 : Hid (w9.ownsRow w.heap.size 9 1 (.slice AA nl cA) nl (strs sl)) := hid (own_keep SA8.out hb9)
  have SB9 : Hid (w9.ownsRow w.heap.size 9 1 (.slice AB nl cB) nl (strs sl)) := hid (own_keep SB8.out hb9)
  have HB9 : Hid (Below w.heap.size w w9) := hid (bbl HB8.out hb9)
  obtain ⟨nm, hnm⟩ : ∃ q, fnm kn = q := ⟨_, rfl⟩
  have HNM := hid hnm
  clear hnm
  have hbs : (nm != nm) = false := bne_str nm
  clear hb9 KP8 KL8 O18 SG8 SM8 O28 SA8 SB8 HB8
  obtain ⟨Pa, Pb, Pc⟩ := KP9.out.three
  have Pz := KP9.out.lt
  obtain ⟨La, Lb, Lc⟩ := KL9.out.three
  have Lz := KL9.out.lt
  go_wp2_with fail
  refine (f6texts_any AG AM cG cM ng sg _ (StrsR.own SG9.out) (StrsR.own SM9.out) HGL.out (by omega)).mono ?_
  rintro e w10 ⟨rfl, hb10⟩
  clear Pa Pb Pc Pz La Lb Lc Lz
  have KP10 : Hid (Box w10 bk2 39 #[.int .i64 W1, .int .i64 H1, .slice A1 zs1.length c1]) := hid (Box.keep KP9.out hb10)
  have KL10 : Hid (Box w10 bk6 39 #[.int .i64 W2, .int .i64 H2, .slice A2 zs2.length c2]) := hid (Box.keep KL9.out hb10)
  have O110 : Hid (OwnI w10 w.heap.size (.slice A1 zs1.length c1) zs1) := hid (OwnI.keep O19.out hb10)
  have SG10 : Hid (w10.ownsRow w.heap.size 9 1 (.slice AG ng cG) ng (strs sg)) := hid (own_keep SG9.out hb10)
  have SM10 : Hid (w10.ownsRow w.heap.size 9 1 (.slice AM ng cM) ng (strs sg)) := hid (own_keep SM9.out hb10)
  have O210 : Hid (OwnI w10 w.heap.size (.slice A2 zs2.length c2) zs2) := hid (OwnI.keep O29.out hb10)
  have SA10 : Hid (w10.ownsRow w.heap.size 9 1 (.slice AA nl cA) nl (strs sl)) := hid (own_keep SA9.out hb10)
  have SB10 : Hid (w10.ownsRow w.heap.size 9 1 (.slice AB nl cB) nl (strs sl)) := hid (own_keep SB9.out hb10)
  have HB10 : Hid (Below w.heap.size w w10) := hid (bbl HB9.out hb10)
  clear hb10 KP9 KL9 O19 SG9 SM9 O29 SA9 SB9 HB9
  obtain ⟨Pa, Pb, Pc⟩ := KP10.out.three
  have Pz := KP10.out.lt
  obtain ⟨La, Lb, Lc⟩ := KL10.out.three
  have Lz := KL10.out.lt
  go_wp2_with fail
  refine (f6texts_any AA AB cA cB nl sl _ (StrsR.own SA10.out) (StrsR.own SB10.out) HLL.out (by omega)).mono ?_
  rintro e w11 ⟨rfl, hb11⟩
  clear Pa Pb Pc Pz La Lb Lc Lz
  have KP11 : Hid (Box w11 bk2 39 #[.int .i64 W1, .int .i64 H1, .slice A1 zs1.length c1]) := hid (Box.keep KP10.out hb11)
  have KL11 : Hid (Box w11 bk6 39 #[.int .i64 W2, .int .i64 H2, .slice A2 zs2.length c2]) := hid (Box.keep KL10.out hb11)
  have O111 : Hid (OwnI w11 w.heap.size (.slice A1 zs1.length c1) zs1) := hid (OwnI.keep O110.out hb11)
  have SG11 : Hid (w11.ownsRow w.heap.size 9 1 (.slice AG ng cG) ng (strs sg)) := hid (own_keep SG10.out hb11)
  have SM11 : Hid (w11.ownsRow w.heap.size 9 1 (.slice AM ng cM) ng (strs sg)) := hid (own_keep SM10.out hb11)
  have O211 : Hid (OwnI w11 w.heap.size (.slice A2 zs2.length c2) zs2) := hid (OwnI.keep O210.out hb11)
  have SA11 : Hid (w11.ownsRow w.heap.size 9 1 (.slice AA nl cA) nl (strs sl)) := hid (own_keep SA10.out hb11)
  have SB11 : Hid (w11.ownsRow w.heap.size 9 1 (.slice AB nl cB) nl (strs sl)) := hid (own_keep SB10.out hb11)
  have HB11 : Hid (Below w.heap.size w w11) := hid (bbl HB10.out hb11)
  clear hb11 KP10 KL10 O110 SG10 SM10 O210 SA10 SB10 HB10
  obtain ⟨Pa, Pb, Pc⟩ := KP11.out.three
  have Pz := KP11.out.lt
  obtain ⟨La, Lb, Lc⟩ := KL11.out.three
  have Lz := KL11.out.lt
  go_wp2_with fail
  refine (implPFN_any kn _ ⟨kn1, kn2⟩).mono ?_
  rintro e w12 ⟨he, hb12⟩
  rw [HNM.out] at he
  subst he
  clear Pa Pb Pc Pz La Lb Lc Lz
  have KP12 : Hid (Box w12 bk2 39 #[.int .i64 W1, .int .i64 H1, .slice A1 zs1.length c1]) := hid (Box.keep KP11.out hb12)
  have KL12 : Hid (Box w12 bk6 39 #[.int .i64 W2, .int .i64 H2, .slice A2 zs2.length c2]) := hid (Box.keep KL11.out hb12)
  have O112 : Hid (OwnI w12 w.heap.size (.slice A1 zs1.length c1) zs1) := hid (OwnI.keep O111.out hb12)
  have SG12 : Hid (w12.ownsRow w.heap.size 9 1 (.slice AG ng cG) ng (strs sg)) := hid (own_keep SG11.out hb12)
  have SM12 : Hid (w12.ownsRow w.heap.size 9 1 (.slice AM ng cM) ng (strs sg)) := hid (own_keep SM11.out hb12)
  have O212 : Hid (OwnI w12 w.heap.size (.slice A2 zs2.length c2) zs2) := hid (OwnI.keep O211.out hb12)
  have SA12 : Hid (w12.ownsRow w.heap.size 9 1 (.slice AA nl cA) nl (strs sl)) := hid (own_keep SA11.out hb12)
  have SB12 : Hid (w12.ownsRow w.heap.size 9 1 (.slice AB nl cB) nl (strs sl)) := hid (own_keep SB11.out hb12)
  have HB12 : Hid (Below w.heap.size w w12) := hid (bbl HB11.out hb12)
  clear hb12 KP11 KL11 O111 SG11 SM11 O211 SA11 SB11 HB11
  obtain ⟨Pa, Pb, Pc⟩ := KP12.out.three
  have Pz := KP12.out.lt
  obtain ⟨La, Lb, Lc⟩ := KL12.out.three
  have Lz := KL12.out.lt
  go_wp2_with fail
  refine (specPFN_any kn _ ⟨kn1, kn2⟩).mono ?_
  rintro e w13 ⟨he, hb13⟩
  rw [HNM.out] at he
  subst he
  clear Pa Pb Pc Pz La Lb Lc Lz
  have KP13 : Hid (Box w13 bk2 39 #[.int .i64 W1, .int .i64 H1, .slice A1 zs1.length c1]) := hid (Box.keep KP12.out hb13)
  have KL13 : Hid (Box w13 bk6 39 #[.int .i64 W2, .int .i64 H2, .slice A2 zs2.length c2]) := hid (Box.keep KL12.out hb13)
  have O113 : Hid (OwnI w13 w.heap.size (.slice A1 zs1.length c1) zs1) := hid (OwnI.keep O112.out hb13)
  have SG13 : Hid (w13.ownsRow w.heap.size 9 1 (.slice AG ng cG) ng (strs sg)) := hid (own_keep SG12.out hb13)
  have SM13 : Hid (w13.ownsRow w.heap.size 9 1 (.slice AM ng cM) ng (strs sg)) := hid (own_keep SM12.out hb13)
  have O213 : Hid (OwnI w13 w.heap.size (.slice A2 zs2.length c2) zs2) := hid (OwnI.keep O212.out hb13)
  have SA13 : Hid (w13.ownsRow w.heap.size 9 1 (.slice AA nl cA) nl (strs sl)) := hid (own_keep SA12.out hb13)
  have SB13 : Hid (w13.ownsRow w.heap.size 9 1 (.slice AB nl cB) nl (strs sl)) := hid (own_keep SB12.out hb13)
  have HB13 : Hid (Below w.heap.size w w13) := hid (bbl HB12.out hb13)
  clear hb13 KP12 KL12 O112 SG12 SM12 O212 SA12 SB12 HB12
  obtain ⟨Pa, Pb, Pc⟩ := KP13.out.three
  have Pz := KP13.out.lt
  obtain ⟨La, Lb, Lc⟩ := KL13.out.three
  have Lz := KL13.out.lt
  by_cases hm0 : m = 0
  case neg =>
    have hmb : (m == 0) = false := by simp [hm0]
    have hmn : (m != 0) = true := by simp [hm0]
    go_wp2_with fail
    go_ret
    exact ⟨rfl, HB13.out⟩
  subst hm0
  obtain ⟨W', H', j, cj, rfl, rfl, rfl, hv, ⟨w1', w2'⟩, ⟨h1', h2'⟩, hcn, hcl, htwo, hall, h256, hlen, hjl, hcc⟩ := cp_facts HG.out.2.2
  obtain rfl : ng = 2 * H' + 1 := HG.out.1.symm.trans hcn
  have HSG := hid (HG.out.2.1.symm.trans hcl)
  have HTW := hid htwo
  have HAL := hid hall
  have HLE := hid (And.intro hlen (And.intro hjl hcc))
  obtain ⟨gG, cg', eG⟩ := Go.Joins.ownsRow_form SG13.out (by omega)
  simp only [Value.slice.injEq] at eG
  obtain ⟨rfl, -, rfl⟩ := eG
  have HRG := SG13
  have gz := (World.ownsRow.lt HRG.out gG rfl).2
  clear hv hcn hcl htwo hall hlen hjl hcc hbs
  go_wp2_with fail
  clear Pa Pb Pc Pz La Lb Lc Lz
  go_loopg [15, 16] (2 * H' + 1) (fun g s i wr => ∃ y : Nat, y ≤ 2 * H' + 1 ∧ s = .int .i64 (allV cj (2 * W' + 1) y : Nat) ∧ i = .int .i64 y ∧ g = 2 * H' + 1 - y ∧ w13 = wr)
  case atStart => exact ⟨0, Nat.zero_le _, rfl, rfl, rfl, rfl⟩
  case round =>
    obtain ⟨y, hy, rfl, rfl, hg, rfl⟩ := hrel
    by_cases hlt : y < 2 * H' + 1
    · obtain ⟨l, hl⟩ : ∃ l, strOfNums (mkRow (cvM W' H' zs1 cj) y (2 * W' + 1)) = l := ⟨_, rfl⟩
      have HBL : Hid (byteL l = mkRow (cvM W' H' zs1 cj) y (2 * W' + 1)) := hid (by rw [← hl]; exact byteL_row (cvM_bd HTW.out) y _)
      have hlsz : l.size = 2 * W' + 1 := by rw [← byteL_length, HBL.out, mkRow_length]
      have hcl : w13.cell? ⟨gG, y, none⟩ = some (.string l) := (World.ownsRow.cellAt HRG.out y (by omega)).trans (by rw [HSG.out]; simp [strs, picS, hlt, hl])
      have hay : allV cj (2 * W' + 1) y ≤ 256 := by have := allV_le cj (2 * W' + 1) (show y ≤ 2 * H' + 1 by omega); have := HAL.out; omega
      obtain ⟨P, hP⟩ : ∃ P, allV cj (2 * W' + 1) y = P := ⟨_, rfl⟩
      rw [hP] at hay ⊢
      have HP := hid hP
      clear hP hl
      go_wp2_with fail
      go_loopg [15, 17] (2 * W' + 1) (fun g s i wx => ∃ x : Nat, x ≤ 2 * W' + 1 ∧ s = .int .i64 (P + rowV cj y x : Nat) ∧ i = .int .i64 x ∧ g = 2 * W' + 1 - x ∧ w13 = wx)
      case atStart => exact ⟨0, Nat.zero_le _, rfl, rfl, rfl, rfl⟩
      case round =>
        obtain ⟨x, hx, rfl, rfl, hg2, rfl⟩ := hrel
        by_cases hlx : x < 2 * W' + 1
        · have hxs : x < l.size := by omega
          obtain ⟨b, hb⟩ : ∃ b : Int, ((l[x]'hxs).toNat : Int) = b := ⟨_, rfl⟩
          have HBX : Hid (cvM W' H' zs1 cj x y = b) := hid (by have h1 := byte_at l x hxs; rw [HBL.out, hb] at h1; exact (mkRow_at h1).2)
          have hpt := allV_part cj (show y < 2 * H' + 1 by omega) (show x + 1 ≤ 2 * W' + 1 by omega)
          have hal := HAL.out
          rw [HP.out] at hpt
          simp only [rowV] at hpt
          obtain ⟨R, hR⟩ : ∃ R, P + rowV cj y x = R := ⟨_, rfl⟩
          have HE : Hid (P + rowV cj y (x + 1) = R + visN cj x y) := hid (by simp only [rowV]; omega)
          rw [hR]
          have hRb : R ≤ 256 := by omega
          have hnot := paB_not W' H' zs1 x y
          have h3 := mk_three (HTW.out x y) (paB W' H' zs1 x y)
          have HXB : Hid (mkB (visN cj x y) (paB W' H' zs1 x y) = b) := hid HBX.out
          rw [HXB.out] at h3
          clear hpt hal hR
          rcases h3 with ⟨e1, e2⟩ | ⟨e1, e2⟩ | ⟨e1, e2⟩
          · have HV : Hid (visN cj x y = 0) := hid e1
            have q1 : (b == 111) = false := by simp; omega
            have q2 : (b == 56) = false := by simp; omega
            clear e1 e2 hnot
            go_wp2_with fail
            go_roundg (2 * W' + 1 - (x + 1))
            case measure => omega
            case rel => exact ⟨x + 1, by omega, by rw [HE.out, HV.out]; go_num, by go_num, rfl, rfl⟩
          · have HV : Hid (visN cj x y = 1) := hid e1
            have q1 : (b == 111) = true := by simp [e2]
            have q2 : (b == 56) = false := by simp [e2]
            clear e1 e2 hnot
            go_wp2_with fail
            go_roundg (2 * W' + 1 - (x + 1))
            case measure => omega
            case rel => exact ⟨x + 1, by omega, by rw [HE.out, HV.out]; go_num, by go_num, rfl, rfl⟩
          · have HV : Hid (visN cj x y = 2) := hid e1
            have q1 : (b == 111) = false := by simp [e2]
            have q2 : (b == 56) = true := by simp [e2]
            clear e1 e2 hnot
            go_wp2_with fail
            go_roundg (2 * W' + 1 - (x + 1))
            case measure => omega
            case rel => exact ⟨x + 1, by omega, by rw [HE.out, HV.out]; go_num, by go_num, rfl, rfl⟩
        · obtain rfl : x = 2 * W' + 1 := by omega
          have HE : Hid (allV cj (2 * W' + 1) (y + 1) = P + rowV cj y (2 * W' + 1)) := hid (by rw [allV, HP.out])
          have hpt := allV_part cj (show y < 2 * H' + 1 by omega) (Nat.le_refl (2 * W' + 1))
          rw [HP.out, HAL.out] at hpt
          obtain ⟨R, hR⟩ : ∃ R, P + rowV cj y (2 * W' + 1) = R := ⟨_, rfl⟩
          rw [hR] at HE hpt ⊢
          have hRb : R ≤ 256 := by omega
          clear hR hpt
          go_wp2_with fail
          go_roundg (2 * H' + 1 - (y + 1))
          case measure => omega
          case rel => exact ⟨y + 1, by omega, by rw [HE.out], by go_num, rfl, rfl⟩
    · obtain rfl : y = 2 * H' + 1 := by omega
      rw [HAL.out]
      have hjc : (0 : Int) ≤ (j : Int) := by omega
      obtain ⟨nc, hnc⟩ : ∃ n, clN W' H' zs1 = n := ⟨_, rfl⟩
      obtain ⟨lc, hlc⟩ : ∃ l, clL W' H' zs1 = l := ⟨_, rfl⟩
      have HCN := hid (And.intro hnc (And.intro hlc HLE.out.2.2))
      have hjn : j < nc := by have := HLE.out.2.1; omega
      have hcx : lc[j]? = some (cj.length : Int) := by rw [← hlc]; exact HLE.out.1
      have HCX := hid hcx
      clear hnc hlc hcx
      obtain ⟨Pa, Pb, Pc⟩ := KP13.out.three
      have Pz := KP13.out.lt
      obtain ⟨La, Lb, Lc⟩ := KL13.out.three
      have Lz := KL13.out.lt
      go_wp2_with fail
      refine (specCurveLengths_any W' H' A1 c1 zs1 _ (OwnI.ints O113.out) hlz1).mono ?_
      rintro e w14 ⟨⟨AL, cL, he, ho⟩, hb⟩
      rw [HCN.out.1, HCN.out.2.2] at he
      rw [HCN.out.1, HCN.out.2.1] at ho
      subst he
      have HBE := hid (bbl HB13.out hb)
      obtain ⟨gL, cl', eL⟩ := Go.Joins.ownsRow_form ho (by omega)
      simp only [Value.slice.injEq] at eL
      obtain ⟨rfl, -, rfl⟩ := eL
      have hcj : w14.cell? ⟨gL, j, none⟩ = some (.int .i64 cj.length) := (World.ownsRow.cellAt ho j (by omega)).trans (by simp [vals, HCX.out])
      have gLz := (World.ownsRow.lt ho gL rfl).2
      clear ho hb
      clear Pa Pb Pc Pz La Lb Lc Lz
      go_wp2_with fail
      go_ret
      exact ⟨rfl, HBE.out⟩
end Go.Proofs.Ytgcgaoblbhojnaa

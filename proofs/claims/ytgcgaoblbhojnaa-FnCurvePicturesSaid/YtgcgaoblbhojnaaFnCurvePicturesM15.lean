/- Merged texts: Pp, Cv. -/
import Derived.Test.YtgcgaoblbhojnaaFnCurvePicturesM14
import Derived.Test.YtgcgaoblbhojnaaNu
import Derived.Test.YtgcgaoblbhojnaaNo
import Derived.Test.YtgcgaoblbhojnaaQm
import Derived.Deep.RegionHeld3
import Derived.Deep.AppendLies
import Derived.Test.YtgcgaoblbhojnaaFnCurvePicturesM13
namespace Go.Proofs.Ytgcgaoblbhojnaa
set_option linter.unusedSimpArgs false
set_option linter.unusedVariables false
open Go.ChangeShapes Go.WideShapes Go.ChangeAt Go.RowKit
theorem validB_kinds {W H : Int} {zs : List Int} (h : validB W H zs = true) {j : Nat} {z : Int} (hj : zs[j]? = some z) : z = 0 ∨ z = 1 ∨ z = 2 := by
  simp only [validB, Bool.and_eq_true, List.all_eq_true] at h
  have hm : z ∈ zs := List.mem_of_getElem? hj
  have := h.2 z hm
  simp only [kindOk, inR, Bool.and_eq_true, decide_eq_true_eq] at this
  omega
/-- The mark of a kind. -/
def sgB (k : Int) : Int := if k = 1 then 124 else if k = 2 then 45 else 43
/-- The byte at a place of a panel's picture. -/
def paB (W H : Int) (zs : List Int) (x y : Int) : Int := if hasP W H x y = true then (if edgeP W H x y = true then 46 else sgB (brkA W zs x y)) else 32
def mkRow (mk : Nat → Nat → Int) (y n : Nat) : List Int := (List.range n).map fun x => mk x y
theorem mkRow_succ (mk : Nat → Nat → Int) (y n : Nat) : mkRow mk y (n + 1) = mkRow mk y n ++ [mk n y] := by simp [mkRow, List.range_succ]
theorem mkRow_length (mk : Nat → Nat → Int) (y n : Nat) : (mkRow mk y n).length = n := by simp [mkRow]
def picS (mk : Nat → Nat → Int) (m n : Nat) : List ByteArray := (List.range n).map fun y => strOfNums (mkRow mk y m)
theorem picS_succ (mk : Nat → Nat → Int) (m n : Nat) : picS mk m (n + 1) = picS mk m n ++ [strOfNums (mkRow mk n m)] := by simp [picS, List.range_succ]
theorem picS_length (mk : Nat → Nat → Int) (m n : Nat) : (picS mk m n).length = n := by simp [picS]
def picZ (mk : Nat → Nat → Int) (m n : Nat) : List (List Value) := (List.range n).map fun y => bytesV (mkRow mk y m)
theorem picZ_succ (mk : Nat → Nat → Int) (m n : Nat) : picZ mk m (n + 1) = picZ mk m n ++ [bytesV (mkRow mk n m)] := by simp [picZ, List.range_succ]
theorem picZ_length (mk : Nat → Nat → Int) (m n : Nat) : (picZ mk m n).length = n := by simp [picZ]
def paM (W H : Int) (zs : List Int) (x y : Nat) : Int := paB W H zs x y
/-- What PanelPicture answers. -/
def ppL (W H : Int) (zs : List Int) : List ByteArray := if validB W H zs then picS (paM W H zs) (2 * W + 1).toNat (2 * H + 1).toNat else []
def ppN (W H : Int) (zs : List Int) : Nat := if validB W H zs then (2 * H + 1).toNat else 0
def ppC (W H : Int) (zs : List Int) : Int := if validB W H zs then 0 else 1
theorem ppN_le (W H : Int) (zs : List Int) : ppN W H zs ≤ 17 := by
  unfold ppN
  split
  · rename_i h
    have := side_bd (valid_sides h).2
    omega
  · omega
theorem inner_code {W H : Int} {zs : List Int} {x y : Int} (hv : validB W H zs = true) (hh : hasP W H x y = true) (he : edgeP W H x y = false) : (codeP W H zs x y == 0) = true := by simp [codeP, hv, hh, he]
set_option maxRecDepth 100000 in
set_option maxHeartbeats 4000000 in
theorem pictureAt_any (W H : Int) (A : Option Addr) (c : Nat) (zs : List Int) (x y : Int) (w : World) (hz : Ints w w.heap.size A zs) (hl : zs.length ≤ maxLen) (hv : validB W H zs = true) :
    Calls Try.prog 75 #[.agg #[.int .i64 W, .int .i64 H, .slice A zs.length c], .agg #[.int .i64 x, .int .i64 y]] w fun e w' => e = .returned (.int .u8 (paB W H zs x y)) ∧ Below w.heap.size w w' := by
  have hl' := hl
  unfold maxLen at hl'
  have HW := hid (valid_sides hv).1
  have HH := hid (valid_sides hv).2
  cases hh : hasP W H x y
  · have HV : Hid (paB W H zs x y = 32) := hid (by simp [paB, hh])
    have Hh := hid hh
    clear hh hv
    go_enter Try.func75, Try.ntmps75
    go_wp2_with fail
    refine (calls_bool (isPoint_any W H x y _ _ _ _ HW.out HH.out) Hh.out).mono ?_
    rintro e w1 ⟨rfl, hb1⟩
    have KP1 := hid (Box.keep (Box.alloc (Box.new w _ _) _) hb1)
    have KQ1 := hid (Box.keep (Box.new' _ _ _ (w.heap.size + 1) (by simp)) hb1)
    have HB1 := hid (bstep (bal (bal (Below.refl _ _) _) _) hb1)
    clear hb1
    obtain ⟨Pa, Pb, Pc⟩ := KP1.out.three
    have Pz := KP1.out.lt
    obtain ⟨Qa, Qb⟩ := KQ1.out.two
    have Qz := KQ1.out.lt
    go_wp2_with fail
    go_ret
    exact ⟨ret_int HV.out.symm, HB1.out⟩
  · cases he : edgeP W H x y
    · have hc := inner_code hv hh he
      obtain ⟨s1, s2, s3, x1, x2, y1, y2, hp⟩ := codeP_parts hc
      obtain ⟨n1, n2⟩ := numF_bd s1 s2 x1 x2 y1 y2 hp
      obtain ⟨k, hk, hkl, hkz⟩ := brk_at s3 n1 n2
      obtain ⟨bb, off, rfl⟩ := hz.isSome hkz
      have HZ := hid hkz
      have hkind := validB_kinds hv hkz
      have HV : Hid (paB W H zs x y = sgB (brkA W zs x y)) := hid (by simp [paB, hh, he])
      obtain ⟨kd, hkd⟩ : ∃ q, brkA W zs x y = q := ⟨_, rfl⟩
      rw [hkd] at hkz hkind HV HZ
      have HN := hid hk
      have Hs := hid (And.intro s1 (And.intro s2 hp))
      have Hh := hid hh
      have He := hid he
      clear hkz s1 s2 hp s3 hh he hk hkd hv hc
      rcases hkind with rfl | rfl | rfl
      · have hch : ((((⟨#[43, 124, 45]⟩ : ByteArray)[0]'(by decide)).toNat : Int)) = 43 := rfl
        go_enter Try.func75, Try.ntmps75
        go_wp2_with fail
        refine (calls_bool (isPoint_any W H x y _ _ _ _ HW.out HH.out) Hh.out).mono ?_
        rintro e w1 ⟨rfl, hb1⟩
        have KP1 := hid (Box.keep (Box.alloc (Box.new w _ _) _) hb1)
        have KQ1 := hid (Box.keep (Box.new' _ _ _ (w.heap.size + 1) (by simp)) hb1)
        have HB1 := hid (bstep (bal (bal (Below.refl _ _) _) _) hb1)
        clear hb1
        obtain ⟨Pa, Pb, Pc⟩ := KP1.out.three
        have Pz := KP1.out.lt
        obtain ⟨Qa, Qb⟩ := KQ1.out.two
        have Qz := KQ1.out.lt
        go_wp2_with fail
        refine (calls_bool (isBorder_any W H x y _ _ _ _ HW.out HH.out) He.out).mono ?_
        rintro e w2 ⟨rfl, hb2⟩
        clear Pa Pb Pc Pz Qa Qb Qz
        have KP2 := hid (Box.keep KP1.out hb2)
        have KQ2 := hid (Box.keep KQ1.out hb2)
        have HB2 := hid (bbl HB1.out hb2)
        clear hb2
        obtain ⟨Pa, Pb, Pc⟩ := KP2.out.three
        have Pz := KP2.out.lt
        obtain ⟨Qa, Qb⟩ := KQ2.out.two
        have Qz := KQ2.out.lt
        go_wp2_with fail
        obtain ⟨hbb, hcc⟩ := (hz.below HB2.out).at HZ.out
        have bbz : bb < w2.heap.size := by have := HB2.out.size; omega
        refine wp_region_mix (w2.heap.size) (by kernel_rfl) (by kernel_rfl) ?_
        repeat (any_goals (go_big_quiet_step ((first | (go_at_call 109; exact mix_call (by simp) (calls_int0 (number_any W H x y _ _ _ _ Hs.out.1 Hs.out.2.1 x1 x2 y1 y2 Hs.out.2.2) HN.out))))))
        refine wpQuiet_nil ?_
        intro w3 hx3
        have hb3 : Below _ _ w3 := mix_ex hx3
        have HB3 := hid (bbl HB2.out hb3)
        clear hx3 hb3
        go_wp2_with fail
        go_ret
        exact ⟨ret_int HV.out.symm, HB3.out⟩
      · have hch : ((((⟨#[43, 124, 45]⟩ : ByteArray)[1]'(by decide)).toNat : Int)) = 124 := rfl
        go_enter Try.func75, Try.ntmps75
        go_wp2_with fail
        refine (calls_bool (isPoint_any W H x y _ _ _ _ HW.out HH.out) Hh.out).mono ?_
        rintro e w1 ⟨rfl, hb1⟩
        have KP1 := hid (Box.keep (Box.alloc (Box.new w _ _) _) hb1)
        have KQ1 := hid (Box.keep (Box.new' _ _ _ (w.heap.size + 1) (by simp)) hb1)
        have HB1 := hid (bstep (bal (bal (Below.refl _ _) _) _) hb1)
        clear hb1
        obtain ⟨Pa, Pb, Pc⟩ := KP1.out.three
        have Pz := KP1.out.lt
        obtain ⟨Qa, Qb⟩ := KQ1.out.two
        have Qz := KQ1.out.lt
        go_wp2_with fail
        refine (calls_bool (isBorder_any W H x y _ _ _ _ HW.out HH.out) He.out).mono ?_
        rintro e w2 ⟨rfl, hb2⟩
        clear Pa Pb Pc Pz Qa Qb Qz
        have KP2 := hid (Box.keep KP1.out hb2)
        have KQ2 := hid (Box.keep KQ1.out hb2)
        have HB2 := hid (bbl HB1.out hb2)
        clear hb2
        obtain ⟨Pa, Pb, Pc⟩ := KP2.out.three
        have Pz := KP2.out.lt
        obtain ⟨Qa, Qb⟩ := KQ2.out.two
        have Qz := KQ2.out.lt
        go_wp2_with fail
        obtain ⟨hbb, hcc⟩ := (hz.below HB2.out).at HZ.out
        have bbz : bb < w2.heap.size := by have := HB2.out.size; omega
        refine wp_region_mix (w2.heap.size) (by kernel_rfl) (by kernel_rfl) ?_
        repeat (any_goals (go_big_quiet_step ((first | (go_at_call 109; exact mix_call (by simp) (calls_int0 (number_any W H x y _ _ _ _ Hs.out.1 Hs.out.2.1 x1 x2 y1 y2 Hs.out.2.2) HN.out))))))
        refine wpQuiet_nil ?_
        intro w3 hx3
        have hb3 : Below _ _ w3 := mix_ex hx3
        have HB3 := hid (bbl HB2.out hb3)
        clear hx3 hb3
        go_wp2_with fail
        go_ret
        exact ⟨ret_int HV.out.symm, HB3.out⟩
      · have hch : ((((⟨#[43, 124, 45]⟩ : ByteArray)[2]'(by decide)).toNat : Int)) = 45 := rfl
        go_enter Try.func75, Try.ntmps75
        go_wp2_with fail
        refine (calls_bool (isPoint_any W H x y _ _ _ _ HW.out HH.out) Hh.out).mono ?_
        rintro e w1 ⟨rfl, hb1⟩
        have KP1 := hid (Box.keep (Box.alloc (Box.new w _ _) _) hb1)
        have KQ1 := hid (Box.keep (Box.new' _ _ _ (w.heap.size + 1) (by simp)) hb1)
        have HB1 := hid (bstep (bal (bal (Below.refl _ _) _) _) hb1)
        clear hb1
        obtain ⟨Pa, Pb, Pc⟩ := KP1.out.three
        have Pz := KP1.out.lt
        obtain ⟨Qa, Qb⟩ := KQ1.out.two
        have Qz := KQ1.out.lt
        go_wp2_with fail
        refine (calls_bool (isBorder_any W H x y _ _ _ _ HW.out HH.out) He.out).mono ?_
        rintro e w2 ⟨rfl, hb2⟩
        clear Pa Pb Pc Pz Qa Qb Qz
        have KP2 := hid (Box.keep KP1.out hb2)
        have KQ2 := hid (Box.keep KQ1.out hb2)
        have HB2 := hid (bbl HB1.out hb2)
        clear hb2
        obtain ⟨Pa, Pb, Pc⟩ := KP2.out.three
        have Pz := KP2.out.lt
        obtain ⟨Qa, Qb⟩ := KQ2.out.two
        have Qz := KQ2.out.lt
        go_wp2_with fail
        obtain ⟨hbb, hcc⟩ := (hz.below HB2.out).at HZ.out
        have bbz : bb < w2.heap.size := by have := HB2.out.size; omega
        refine wp_region_mix (w2.heap.size) (by kernel_rfl) (by kernel_rfl) ?_
        repeat (any_goals (go_big_quiet_step ((first | (go_at_call 109; exact mix_call (by simp) (calls_int0 (number_any W H x y _ _ _ _ Hs.out.1 Hs.out.2.1 x1 x2 y1 y2 Hs.out.2.2) HN.out))))))
        refine wpQuiet_nil ?_
        intro w3 hx3
        have hb3 : Below _ _ w3 := mix_ex hx3
        have HB3 := hid (bbl HB2.out hb3)
        clear hx3 hb3
        go_wp2_with fail
        go_ret
        exact ⟨ret_int HV.out.symm, HB3.out⟩
    · have HV : Hid (paB W H zs x y = 46) := hid (by simp [paB, hh, he])
      have Hh := hid hh
      have He := hid he
      clear hh he hv
      go_enter Try.func75, Try.ntmps75
      go_wp2_with fail
      refine (calls_bool (isPoint_any W H x y _ _ _ _ HW.out HH.out) Hh.out).mono ?_
      rintro e w1 ⟨rfl, hb1⟩
      have KP1 := hid (Box.keep (Box.alloc (Box.new w _ _) _) hb1)
      have KQ1 := hid (Box.keep (Box.new' _ _ _ (w.heap.size + 1) (by simp)) hb1)
      have HB1 := hid (bstep (bal (bal (Below.refl _ _) _) _) hb1)
      clear hb1
      obtain ⟨Pa, Pb, Pc⟩ := KP1.out.three
      have Pz := KP1.out.lt
      obtain ⟨Qa, Qb⟩ := KQ1.out.two
      have Qz := KQ1.out.lt
      go_wp2_with fail
      refine (calls_bool (isBorder_any W H x y _ _ _ _ HW.out HH.out) He.out).mono ?_
      rintro e w2 ⟨rfl, hb2⟩
      clear Pa Pb Pc Pz Qa Qb Qz
      have KP2 := hid (Box.keep KP1.out hb2)
      have KQ2 := hid (Box.keep KQ1.out hb2)
      have HB2 := hid (bbl HB1.out hb2)
      clear hb2
      obtain ⟨Pa, Pb, Pc⟩ := KP2.out.three
      have Pz := KP2.out.lt
      obtain ⟨Qa, Qb⟩ := KQ2.out.two
      have Qz := KQ2.out.lt
      go_wp2_with fail
      go_ret
      exact ⟨ret_int HV.out.symm, HB2.out⟩
set_option maxRecDepth 100000 in
set_option maxHeartbeats 4000000 in
theorem picturePA_any (W' H' : Nat) (A : Option Addr) (c : Nat) (zs : List Int)  (mk : Nat → Nat → Int) (w : World) (hW : side (W' : Int) = true) (hH : side (H' : Int) = true)
    (hm : ∀ w', Below w.heap.size w w' → ∀ x y : Nat, x ≤ 2 * W' → y ≤ 2 * H' → Calls Try.prog 75 #[.agg #[.int .i64 W', .int .i64 H', .slice A zs.length c], .agg #[.int .i64 x, .int .i64 y]] w' fun e w'' => e = .returned (.int .u8 (mk x y)) ∧ Below w'.heap.size w' w'') :
    Calls Try.prog 74 #[.agg #[.int .i64 W', .int .i64 H', .slice A zs.length c], .func (.func 75) #[.agg #[.int .i64 W', .int .i64 H', .slice A zs.length c]] #[]] w fun e w' => (∃ g c', e = .returned (.slice (some ⟨g, 0, none⟩) (2 * H' + 1) c') ∧ w'.ownsRow w.heap.size 9 1 (.slice (some ⟨g, 0, none⟩) (2 * H' + 1) c') (2 * H' + 1) (strs (picS mk (2 * W' + 1) (2 * H' + 1)))) ∧ Below w.heap.size w w' := by
  obtain ⟨s3, s4⟩ := side_bd hW
  obtain ⟨s5, s6⟩ := side_bd hH
  have HM := hid hm
  clear hW hH hm
  obtain ⟨ub, hib, hb0, hb1, hb2⟩ := info_parts infoU8
  obtain ⟨us, his, hs0, hs1, hs2⟩ := info_parts infoStr
  go_enter Try.func74, Try.ntmps74
  go_wp2_with fail
  have ho1 := World.ownsRow_lit (base := w.heap.size + 1) (e := 9) (size := 1) (w.alloc (.cells #[.int .i64 W', .int .i64 H', .slice A zs.length c] 39)) #[] 0 (by simp) (Nat.zero_le _) rfl
  simp only [World.size_alloc] at ho1
  have HO1 := hid ho1
  clear ho1
  go_loopg [5, 14] (2 * H' + 1) (fun g v i wr => ∃ y : Nat, y ≤ 2 * H' + 1 ∧ i = .int .i64 y ∧ g = 2 * H' + 1 - y ∧ Hid (wr.ownsRow (w.heap.size + 1) 9 1 v y (strs (picS mk (2 * W' + 1) y))) ∧ Hid (Box wr w.heap.size 39 #[.int .i64 W', .int .i64 H', .slice A zs.length c]) ∧ Hid (Below w.heap.size w wr))
  case atStart => exact ⟨0, Nat.zero_le _, rfl, rfl, HO1, hid (Box.alloc (Box.new _ _ _) _), hid (bal (bal (Below.refl _ _) _) _)⟩
  case round =>
    obtain ⟨y, hy, rfl, hg, HO, KP, HBr⟩ := hrel
    obtain ⟨wo, rfl⟩ : ∃ z, z = wr := ⟨_, rfl⟩
    have Wz := KP.out.lt
    by_cases hlt : y < 2 * H' + 1
    · obtain ⟨Pa, Pb, Pc⟩ := KP.out.three
      have hoi := World.ownsRow_lit (base := wo.heap.size) (e := 5) (size := 1) wo #[] 0 (Nat.le_refl _) (Nat.zero_le _) rfl
      have HOI := hid hoi
      clear hoi
      go_wp2_with fail
      clear Pa Pb Pc
      go_loopg [7, 22] (2 * W' + 1) (fun g v i wx => ∃ x : Nat, x ≤ 2 * W' + 1 ∧ i = .int .i64 x ∧ g = 2 * W' + 1 - x ∧ Hid (wx.ownsRow wo.heap.size 5 1 v x (bytesV (mkRow mk y x))) ∧ Hid (Below wo.heap.size wo wx))
      case atStart => exact ⟨0, Nat.zero_le _, rfl, rfl, HOI, hid (bal (Below.refl _ _) _)⟩
      case round =>
        obtain ⟨x, hx, rfl, hg2, HOx, HBx⟩ := hrel
        have xz := HBx.out.size
        by_cases hxl : x < 2 * W' + 1
        · go_wp2_with fail
          refine (HM.out _ (bbl HBr.out HBx.out) x y (by omega) (by omega)).mono ?_
          rintro e w2 ⟨rfl, hb2⟩
          have HO2 := hid (own_keep HOx.out hb2)
          have HB2 := hid (bbl HBx.out hb2)
          have xz2 := HB2.out.size
          clear hb2
          obtain ⟨bt, hbt⟩ : ∃ q, mk x y = q := ⟨_, rfl⟩
          rw [hbt]
          have HE : Hid (mkRow mk y (x + 1) = mkRow mk y x ++ [bt]) := hid (by rw [mkRow_succ, hbt])
          clear hbt
          go_wp2_with (at_builtin; (refine wpList_append_own _ rfl _ _ 54 rfl (wo.heap.size) 5 ub (.int .u8 0) 1 1 Try.underlying54 hib hb0 hb1 hb2 rfl (by decide) _ (x) (bytesV (mkRow mk y x)) rfl (HO2.out.alloc _) ⟨w2.heap.size, 0, none⟩ 1 1 [.int .u8 bt] rfl rfl (World.news_of_block (cs := #[.int .u8 bt]) (t := 5) (fr := (0, 0)) (heap_alloc_new w2 _)) (by simp [Value.oneCell']) (by unfold maxLen; omega) (by omega) (by simp; omega) ?_; intro v' wz ho2 hgr _))
          have HH := hid (And.intro ho2 hgr)
          clear ho2 hgr
          go_roundg (2 * W' + 1 - (x + 1))
          case measure => omega
          case rel => exact ⟨x + 1, by omega, by go_num, rfl, hid (by rw [HE.out]; simpa [bytesV] using HH.out.1), hid (Below.grown (Below.alloc HB2.out xz2 _) HH.out.2 (by simp; omega) (fun q hq => (HO2.out.lt q hq).1))⟩
        · obtain rfl : x = 2 * W' + 1 := by omega
          rcases Go.Joins.ownsRow_forms HOx.out with ⟨rfl, hn0⟩ | ⟨gb, cap, rfl⟩
          · exfalso; omega
          have kc := conv_own HOx.out
          have HOo := hid (own_below HO.out HBx.out)
          have HOo' := hid (HO.out.lt)
          have KPx := hid (Box.below KP.out HBx.out Wz)
          go_wp2_with (at_builtin; (refine wpList_append_own _ rfl _ _ 27 rfl (w.heap.size + 1) 9 us (.string ⟨#[]⟩) 1 16 Try.underlying27 his hs0 hs1 hs2 rfl (by decide) _ (y) (strs (picS mk (2 * W' + 1) y)) rfl (HOo.out.alloc _) ⟨wr.heap.size, 0, none⟩ 1 1 [.string (strOfNums (mkRow mk y (2 * W' + 1)))] rfl rfl (World.news_of_block (cs := #[.string (strOfNums (mkRow mk y (2 * W' + 1)))]) (t := 9) (fr := (0, 0)) (heap_alloc_new wr _)) (by simp [Value.oneCell']) (by unfold maxLen; omega) (by omega) (by simp; omega) ?_; intro v' wz ho2 hgr _))
          have HH := hid (And.intro ho2 hgr)
          clear ho2 hgr
          go_roundg (2 * H' + 1 - (y + 1))
          case measure => omega
          case rel => exact ⟨y + 1, by omega, by go_num, rfl, hid (by rw [picS_succ]; simpa [strs] using HH.out.1), hid (Box.grew (Box.alloc KPx.out _) HH.out.2 (fun q hq => by have := (HOo'.out q hq).1; omega)), hid (bgrew (lo := w.heap.size + 1) (bal (bbl HBr.out HBx.out) _) HH.out.2 (fun q hq => (HOo'.out q hq).1) (by omega))⟩
    · obtain rfl : y = 2 * H' + 1 := by omega
      rcases Go.Joins.ownsRow_forms HO.out with ⟨rfl, hn0⟩ | ⟨gb, cap, rfl⟩
      · exfalso; omega
      go_wp2_with fail
      go_ret
      exact ⟨⟨_, _, rfl, Go.Joins.ownsRow_le HO.out (by omega)⟩, HBr.out⟩
set_option maxRecDepth 100000 in
set_option maxHeartbeats 4000000 in
theorem implPanelPicture_any (W H : Int) (A : Option Addr) (c : Nat) (zs : List Int) (w : World) (hz : Ints w w.heap.size A zs) (hl : zs.length ≤ maxLen) :
    Calls Try.prog 29 #[.agg #[.int .i64 W, .int .i64 H, .slice A zs.length c]] w fun e w' => (∃ A' c', e = .returned (.tuple #[.slice A' (ppN W H zs) c', .int .i64 (ppC W H zs)]) ∧ w'.ownsRow w.heap.size 9 1 (.slice A' (ppN W H zs) c') (ppN W H zs) (strs (ppL W H zs))) ∧ Below w.heap.size w w' := by
  cases hv : validB W H zs
  · have HV : Hid (ppN W H zs = 0 ∧ ppL W H zs = [] ∧ ppC W H zs = 1) := hid (by simp [ppN, ppL, ppC, hv])
    have Hv := hid hv
    clear hv
    go_enter Try.func29, Try.ntmps29
    go_wp2_with fail
    refine (calls_bool (validPanel_any W H A c zs _ ((hz.below (bal (Below.refl _ _) _)).more (bal (Below.refl _ _) _).size) hl) Hv.out).mono ?_
    rintro e w1 ⟨rfl, hb1⟩
    have KP1 := hid (Box.keep (Box.new w _ _) hb1)
    have HB1 : Hid (Below w.heap.size w w1) := hid (bstep (bal (Below.refl _ _) _) hb1)
    clear hb1
    obtain ⟨Pa, Pb, Pc⟩ := KP1.out.three
    have Pz := KP1.out.lt
    go_wp2_with fail
    go_ret2
    exact ⟨⟨none, 0, by rw [HV.out.1, HV.out.2.2] <;> rfl, by rw [HV.out.1, HV.out.2.1]; exact World.ownsRow_nil _ _ _ _⟩, HB1.out⟩
  · have Hs := hid (valid_sides hv)
    obtain ⟨s3, s4⟩ := side_bd Hs.out.1
    obtain ⟨s5, s6⟩ := side_bd Hs.out.2
    obtain ⟨W', rfl⟩ : ∃ n : Nat, W = n := ⟨W.toNat, by omega⟩
    obtain ⟨H', rfl⟩ : ∃ n : Nat, H = n := ⟨H.toNat, by omega⟩
    have HV : Hid (ppN W' H' zs = 2 * H' + 1 ∧ ppL W' H' zs = picS (paM W' H' zs) (2 * W' + 1) (2 * H' + 1) ∧ ppC W' H' zs = 0) := hid (by simp [ppN, ppL, ppC, hv, show (2 * (W' : Int) + 1).toNat = 2 * W' + 1 by omega, show (2 * (H' : Int) + 1).toNat = 2 * H' + 1 by omega])
    have Hv := hid hv
    clear hv
    go_enter Try.func29, Try.ntmps29
    go_wp2_with fail
    refine (calls_bool (validPanel_any W' H' A c zs _ ((hz.below (bal (Below.refl _ _) _)).more (bal (Below.refl _ _) _).size) hl) Hv.out).mono ?_
    rintro e w1 ⟨rfl, hb1⟩
    have KP1 := hid (Box.keep (Box.new w _ _) hb1)
    have HB1 : Hid (Below w.heap.size w w1) := hid (bstep (bal (Below.refl _ _) _) hb1)
    clear hb1
    obtain ⟨Pa, Pb, Pc⟩ := KP1.out.three
    have Pz := KP1.out.lt
    go_wp2_with fail
    refine (picturePA_any W' H' A c zs (paM W' H' zs) _ Hs.out.1 Hs.out.2 (fun w' hw' x y _ _ => pictureAt_any W' H' A c zs x y w' ((hz.below (bbl HB1.out hw')).more (bbl HB1.out hw').size) hl Hv.out)).mono ?_
    rintro e w2 ⟨⟨g2, c2, rfl, ho2⟩, hb2⟩
    have HO2 := hid ho2
    have HB2 := hid (bbl HB1.out hb2)
    clear hb2 ho2 Pa Pb Pc Pz
    go_wp2_with fail
    go_ret2
    refine ⟨⟨_, c2, by rw [HV.out.1, HV.out.2.2]; rfl, ?_⟩, HB2.out⟩
    rw [HV.out.1, HV.out.2.1]
    exact Go.Joins.ownsRow_le HO2.out HB1.out.size
end Go.Proofs.Ytgcgaoblbhojnaa
namespace Go.Proofs.Ytgcgaoblbhojnaa
set_option linter.unusedSimpArgs false
set_option linter.unusedVariables false
open Go.ChangeShapes Go.WideShapes Go.ChangeAt Go.RowKit
section
variable {W H : Int} {zs : List Int}
/-- In its orbit every walker has one before it. -/
theorem it_pred (hv : validB W H zs = true) {s : Wkr} (h : okS W H s) (i : Nat) : ∃ m, itW W H zs i s = stepW W H zs (itW W H zs m s) := by
  obtain ⟨p1, p2, p3, _⟩ := per_spec hv h
  refine ⟨i + (per W H zs s - 1), ?_⟩
  have e : itW W H zs (i + per W H zs s) s = itW W H zs i s := by rw [it_add, p3]
  rw [← e, show i + per W H zs s = (i + (per W H zs s - 1)) + 1 by omega]
  rfl
/-- No walker of an orbit goes back on the segment by which another came. -/
theorem orb_avoid (hv : validB W H zs = true) {s : Wkr} (h : okS W H s) (m j : Nat) : itW W H zs j s ≠ backS (itW W H zs m s) := by
  intro e
  have h1 := okS_it hv h m
  have e2 : segS H (itW W H zs j s) = segS H (itW W H zs m s) := by rw [e]; exact seg_back h1
  have e3 := orb_seg hv h e2
  rw [e3] at e
  exact no_back hv h1 0 e
theorem inner_turn {p : Wkr} (he : edgeP W H (stepW W H zs p).1 (stepW W H zs p).2.1 = false) :
    (stK W H zs (stepW W H zs p).1 (stepW W H zs p).2.1 = 1 ∧ (backS p).2.2.1 = (stepW W H zs p).2.2.1 ∧ (backS p).2.2.2 = -(stepW W H zs p).2.2.2) ∨
    (stK W H zs (stepW W H zs p).1 (stepW W H zs p).2.1 = 2 ∧ (backS p).2.2.1 = -(stepW W H zs p).2.2.1 ∧ (backS p).2.2.2 = (stepW W H zs p).2.2.2) ∨
    (stK W H zs (stepW W H zs p).1 (stepW W H zs p).2.1 ≠ 1 ∧ stK W H zs (stepW W H zs p).1 (stepW W H zs p).2.1 ≠ 2 ∧ (backS p).2.2.1 = -(stepW W H zs p).2.2.1 ∧ (backS p).2.2.2 = -(stepW W H zs p).2.2.2) := by
  obtain ⟨x, y, u, v⟩ := p
  simp only [stepW, backS] at he ⊢
  obtain ⟨K, hK⟩ : ∃ K, stK W H zs (x + u) (y + v) = K := ⟨_, rfl⟩
  have he2 : ¬ (x + u = 0) ∧ ¬ (x + u = 2 * W) ∧ ¬ (y + v = 0) ∧ ¬ (y + v = 2 * H) := by
    simp only [edgeP, Bool.or_eq_false_iff, beq_eq_false_iff_ne, ne_eq] at he
    omega
  have hU : stU W H zs x y u v = if K = 1 then -u else u := by simp [stU, hK, he2.1, he2.2.1]
  have hV : stV W H zs x y u v = if K = 2 then -v else v := by simp [stV, hK, he2.2.2.1, he2.2.2.2]
  rw [hU, hV, hK]
  by_cases h1 : K = 1
  · left; subst h1; simp
  · by_cases h2 : K = 2
    · right; left; subst h2; simp
    · right; right; simp [h1, h2]
theorem no_three (hv : validB W H zs = true) {s : Wkr} (h : okS W H s) {i j k : Nat} {X Y : Int} (he : edgeP W H X Y = false)
    (ia : (itW W H zs i s).1 = X ∧ (itW W H zs i s).2.1 = Y) (ja : (itW W H zs j s).1 = X ∧ (itW W H zs j s).2.1 = Y) (ka : (itW W H zs k s).1 = X ∧ (itW W H zs k s).2.1 = Y)
    (hij : itW W H zs i s ≠ itW W H zs j s) (hik : itW W H zs i s ≠ itW W H zs k s) (hjk : itW W H zs j s ≠ itW W H zs k s) : False := by
  have A : ∀ i j : Nat, (itW W H zs i s).1 = X ∧ (itW W H zs i s).2.1 = Y → (itW W H zs j s).1 = X ∧ (itW W H zs j s).2.1 = Y →
      (stK W H zs X Y = 1 → ¬ ((itW W H zs j s).2.2.1 = (itW W H zs i s).2.2.1 ∧ (itW W H zs j s).2.2.2 = -(itW W H zs i s).2.2.2)) ∧
      (stK W H zs X Y = 2 → ¬ ((itW W H zs j s).2.2.1 = -(itW W H zs i s).2.2.1 ∧ (itW W H zs j s).2.2.2 = (itW W H zs i s).2.2.2)) ∧
      (stK W H zs X Y ≠ 1 → stK W H zs X Y ≠ 2 → ¬ ((itW W H zs j s).2.2.1 = -(itW W H zs i s).2.2.1 ∧ (itW W H zs j s).2.2.2 = -(itW W H zs i s).2.2.2)) := by
    intro i j ia ja
    obtain ⟨m, hm⟩ := it_pred hv h i
    have av := orb_avoid hv h m j
    have hb1 : (backS (itW W H zs m s)).1 = X := by rw [← ia.1, hm]; simp [backS, stepW]
    have hb2 : (backS (itW W H zs m s)).2.1 = Y := by rw [← ia.2, hm]; simp [backS, stepW]
    have hin := inner_turn (W := W) (H := H) (zs := zs) (p := itW W H zs m s) (by rw [← hm, ia.1, ia.2]; exact he)
    rw [← hm, ia.1, ia.2] at hin
    have key : ∀ q1 q2 : Int, (backS (itW W H zs m s)).2.2.1 = q1 → (backS (itW W H zs m s)).2.2.2 = q2 → ¬ ((itW W H zs j s).2.2.1 = q1 ∧ (itW W H zs j s).2.2.2 = q2) := by
      intro q1 q2 e1 e2 ⟨e3, e4⟩
      exact av (wkr_ext (ja.1.trans hb1.symm) (ja.2.trans hb2.symm) (e3.trans e1.symm) (e4.trans e2.symm))
    refine ⟨fun hk => ?_, fun hk => ?_, fun hk hk2 => ?_⟩
    · rcases hin with ⟨_, q1, q2⟩ | ⟨q, _, _⟩ | ⟨q, _, _⟩
      · exact key _ _ q1 q2
      · omega
      · exact absurd hk q
    · rcases hin with ⟨q, _, _⟩ | ⟨_, q1, q2⟩ | ⟨_, q, _⟩
      · omega
      · exact key _ _ q1 q2
      · exact absurd hk q
    · rcases hin with ⟨q, _, _⟩ | ⟨q, _, _⟩ | ⟨_, _, q1, q2⟩
      · exact absurd q hk
      · exact absurd q hk2
      · exact key _ _ q1 q2
  have n1 := A i j ia ja
  have n2 := A i k ia ka
  have n3 := A j k ja ka
  obtain ⟨a1, a2, _, _⟩ := walk_parts (okS_it hv h i)
  obtain ⟨b1, b2, _, _⟩ := walk_parts (okS_it hv h j)
  obtain ⟨c1, c2, _, _⟩ := walk_parts (okS_it hv h k)
  have d1 : ¬ ((itW W H zs i s).2.2.1 = (itW W H zs j s).2.2.1 ∧ (itW W H zs i s).2.2.2 = (itW W H zs j s).2.2.2) := fun ⟨e1, e2⟩ => hij (wkr_ext (ia.1.trans ja.1.symm) (ia.2.trans ja.2.symm) e1 e2)
  have d2 : ¬ ((itW W H zs i s).2.2.1 = (itW W H zs k s).2.2.1 ∧ (itW W H zs i s).2.2.2 = (itW W H zs k s).2.2.2) := fun ⟨e1, e2⟩ => hik (wkr_ext (ia.1.trans ka.1.symm) (ia.2.trans ka.2.symm) e1 e2)
  have d3 : ¬ ((itW W H zs j s).2.2.1 = (itW W H zs k s).2.2.1 ∧ (itW W H zs j s).2.2.2 = (itW W H zs k s).2.2.2) := fun ⟨e1, e2⟩ => hjk (wkr_ext (ja.1.trans ka.1.symm) (ja.2.trans ka.2.symm) e1 e2)
  generalize stK W H zs X Y = K at n1 n2 n3
  generalize (itW W H zs i s).2.2.1 = p1 at *
  generalize (itW W H zs i s).2.2.2 = p2 at *
  generalize (itW W H zs j s).2.2.1 = q1 at *
  generalize (itW W H zs j s).2.2.2 = q2 at *
  generalize (itW W H zs k s).2.2.1 = r1 at *
  generalize (itW W H zs k s).2.2.2 = r2 at *
  clear ia ja ka hij hik hjk A
  by_cases h1 : K = 1
  · have m1 := n1.1 h1; have m2 := n2.1 h1; have m3 := n3.1 h1
    clear n1 n2 n3
    rcases a1 with rfl | rfl <;> rcases a2 with rfl | rfl <;> rcases b1 with rfl | rfl <;> rcases b2 with rfl | rfl <;> simp at m1 d1 <;> omega
  · by_cases h2 : K = 2
    · have m1 := n1.2.1 h2; have m2 := n2.2.1 h2; have m3 := n3.2.1 h2
      clear n1 n2 n3
      rcases a1 with rfl | rfl <;> rcases a2 with rfl | rfl <;> rcases b1 with rfl | rfl <;> rcases b2 with rfl | rfl <;> simp at m1 d1 <;> omega
    · have m1 := n1.2.2 h1 h2; have m2 := n2.2.2 h1 h2; have m3 := n3.2.2 h1 h2
      clear n1 n2 n3
      rcases a1 with rfl | rfl <;> rcases a2 with rfl | rfl <;> rcases b1 with rfl | rfl <;> rcases b2 with rfl | rfl <;> simp at m1 d1 <;> omega
end
def vtB (x y : Int) (s : Wkr) : Bool := s.1 == x && s.2.1 == y
/-- How often a curve comes to a point. -/
def visN (c : List Wkr) (x y : Int) : Nat := c.countP (vtB x y)
theorem visN_take {c : List Wkr} {k : Nat} {s : Wkr} (h : c[k]? = some s) (x y : Int) : visN (c.take (k + 1)) x y = visN (c.take k) x y + (if vtB x y s then 1 else 0) := by
  unfold visN
  rw [List.take_add_one, h, List.countP_append]
  simp [List.countP_cons]
theorem visN_take_le (c : List Wkr) (k : Nat) (x y : Int) : visN (c.take k) x y ≤ visN c x y := by
  unfold visN
  exact (List.take_sublist k c).countP_le
theorem vtB_iff {x y : Int} {s : Wkr} : vtB x y s = true ↔ s.1 = x ∧ s.2.1 = y := by simp [vtB]
section
variable {W H : Int} {zs : List Int}
theorem curS_nodup (hv : validB W H zs = true) {s : Wkr} (h : okS W H s) : (curS W H zs s).Pairwise (· ≠ ·) := by
  unfold curS
  rw [List.pairwise_map]
  refine List.Pairwise.imp_of_mem ?_ List.pairwise_lt_range
  intro a b ha hb hab e
  exact per_seg hv h hab (List.mem_range.1 hb) (congrArg (segS H) e)
theorem curS_mem {s t : Wkr} (h : t ∈ curS W H zs s) : ∃ i, i < per W H zs s ∧ itW W H zs i s = t := by
  simp only [curS, List.mem_map, List.mem_range] at h
  exact h
theorem visN_two (hv : validB W H zs = true) {s : Wkr} (h : okS W H s) (X Y : Int) : visN (curS W H zs s) X Y ≤ 2 := by
  unfold visN
  rw [List.countP_eq_length_filter]
  have hn := (curS_nodup hv h).filter (vtB X Y)
  match hf : (curS W H zs s).filter (vtB X Y), hn with
  | [], _ => simp
  | [_], _ => simp
  | [_, _], _ => simp
  | a :: b :: c :: t, hn =>
    exfalso
    have ma : ∀ q ∈ a :: b :: c :: t, ∃ i, i < per W H zs s ∧ itW W H zs i s = q ∧ ((itW W H zs i s).1 = X ∧ (itW W H zs i s).2.1 = Y) := by
      intro q hq
      rw [← hf, List.mem_filter] at hq
      obtain ⟨i, hi, e⟩ := curS_mem hq.1
      exact ⟨i, hi, e, by rw [e]; exact vtB_iff.1 hq.2⟩
    obtain ⟨i, hi, ea, pa⟩ := ma a (by simp)
    obtain ⟨j, hj, eb, pb⟩ := ma b (by simp)
    obtain ⟨k, hk, ec, pc⟩ := ma c (by simp)
    simp only [List.pairwise_cons, List.mem_cons] at hn
    have dab : a ≠ b := hn.1 b (by simp)
    have dac : a ≠ c := hn.1 c (by simp)
    have dbc : b ≠ c := hn.2.1 c (by simp)
    cases he : edgeP W H X Y
    · exact no_three hv h he pa pb pc (by rw [ea, eb]; exact dab) (by rw [ea, ec]; exact dac) (by rw [eb, ec]; exact dbc)
    · rcases Nat.lt_trichotomy i j with hij | hij | hij
      · exact edge_once hv h hij hj (by rw [pa.1, pa.2]; exact he) (pb.1.trans pa.1.symm) (pb.2.trans pa.2.symm)
      · exact dab (by rw [← ea, ← eb, hij])
      · exact edge_once hv h hij hi (by rw [pb.1, pb.2]; exact he) (pa.1.trans pb.1.symm) (pa.2.trans pb.2.symm)
theorem vis_two (hv : validB W H zs = true) {j : Nat} {cj : List Wkr} (h : (trS W H zs (4 * W * H).toNat).1[j]? = some cj) (X Y : Int) : visN cj X Y ≤ 2 := by
  obtain ⟨s, hs, rfl⟩ := cur_of hv h
  exact visN_two hv hs X Y
/-- The points of a curve lie in the picture. -/
theorem cur_in (hv : validB W H zs = true) {j : Nat} {cj : List Wkr} (h : (trS W H zs (4 * W * H).toNat).1[j]? = some cj) : ∀ s ∈ cj, 0 ≤ s.1 ∧ s.1 ≤ 2 * W ∧ 0 ≤ s.2.1 ∧ s.2.1 ≤ 2 * H := by
  obtain ⟨s0, hs, rfl⟩ := cur_of hv h
  intro t ht
  obtain ⟨i, _, e⟩ := curS_mem ht
  have h1 := okS_it hv hs i
  rw [e] at h1
  obtain ⟨_, _, h3, _⟩ := walk_parts h1
  have := hasP_bd h3
  omega
end
/-- The byte of a point that is visited n times. -/
def mkB (n : Nat) (b : Int) : Int := if n = 1 then 111 else if n = 2 then 56 else b
/-- The bytes of a picture with the points of some walkers. -/
def cvM (W H : Int) (zs : List Int) (c : List Wkr) (x y : Nat) : Int := mkB (visN c x y) (paB W H zs x y)
theorem cvM_nil (W H : Int) (zs : List Int) : cvM W H zs [] = paM W H zs := by funext x y; simp [cvM, paM, visN, mkB]
theorem paB_not (W H : Int) (zs : List Int) (x y : Int) : paB W H zs x y ≠ 111 ∧ paB W H zs x y ≠ 56 := by
  unfold paB sgB
  repeat' split
  all_goals omega
/-- The byte behind a visit. -/
def nxB (b : Int) : Int := if b = 111 then 56 else 111
theorem cvM_put {W H : Int} {zs : List Int} {c : List Wkr} {k : Nat} {X Y : Nat} {u v : Int} (hs : c[k]? = some ((X : Int), (Y : Int), u, v)) (h2 : visN c X Y ≤ 2) (x y : Nat) :
    cvM W H zs (c.take (k + 1)) x y = if x = X ∧ y = Y then nxB (cvM W H zs (c.take k) X Y) else cvM W H zs (c.take k) x y := by
  unfold cvM
  rw [visN_take hs]
  by_cases e : x = X ∧ y = Y
  · obtain ⟨rfl, rfl⟩ := e
    have hvt : vtB (x : Int) (y : Int) ((x : Int), (y : Int), u, v) = true := vtB_iff.2 ⟨rfl, rfl⟩
    rw [if_pos hvt, if_pos (show x = x ∧ y = y from ⟨rfl, rfl⟩)]
    have h3 := visN_take_le c (k + 1) (x : Int) (y : Int)
    rw [visN_take hs, if_pos hvt] at h3
    have h4 := (paB_not W H zs x y).1
    generalize visN (c.take k) (x : Int) (y : Int) = n at h3 ⊢
    have h5 : n = 0 ∨ n = 1 := by omega
    rcases h5 with rfl | rfl
    · simp [mkB, nxB, h4]
    · simp [mkB, nxB]
  · rw [if_neg e, if_neg (by intro h; have := vtB_iff.1 h; simp only at this; omega)]
    rfl
/-- One byte of rows of bytes is written. -/
theorem picZ_set {mk mk' : Nat → Nat → Int} {m n X Y : Nat} {b : Int} (hX : X < m) (hY : Y < n) (h : ∀ x y, mk' x y = if x = X ∧ y = Y then b else mk x y) :
    (picZ mk m n).set Y ((bytesV (mkRow mk Y m)).set X (.int .u8 b)) = picZ mk' m n := by
  apply List.ext_getElem?
  intro i
  rw [List.getElem?_set]
  have lz := picZ_length mk m n
  by_cases hi : i < n
  · by_cases e : Y = i
    · subst e
      rw [if_pos rfl, if_pos (by rw [lz]; exact hi)]
      simp only [picZ, List.getElem?_map, List.getElem?_range hi, Option.map_some]
      congr 1
      apply List.ext_getElem?
      intro j
      rw [List.getElem?_set]
      by_cases hj : j < m
      · by_cases e2 : X = j
        · subst e2
          rw [if_pos rfl, if_pos (by simp [mkRow]; exact hj)]
          simp [bytesV, mkRow, List.getElem?_range hj, h]
        · rw [if_neg e2]
          simp [bytesV, mkRow, List.getElem?_range hj, h, show ¬ (j = X) by omega]
      · rw [List.getElem?_eq_none (l := bytesV (mkRow mk' Y m)) (by simp [mkRow]; omega)]
        by_cases e2 : X = j
        · omega
        · rw [if_neg e2, List.getElem?_eq_none (by simp [mkRow]; omega)]
    · rw [if_neg e]
      simp only [picZ, List.getElem?_map, List.getElem?_range hi, Option.map_some]
      congr 2
      simp only [mkRow]
      apply List.map_congr_left
      intro j _
      rw [h, if_neg (by omega)]
  · rw [List.getElem?_eq_none (l := picZ mk' m n) (by rw [picZ_length]; omega)]
    by_cases e : Y = i
    · omega
    · rw [if_neg e, List.getElem?_eq_none (by rw [lz]; omega)]
/-- What CurvePicture answers. -/
def cpB (W H : Int) (zs : List Int) (a : Int) : Bool := validB W H zs && inR a 0 ((trS W H zs (4 * W * H).toNat).1.length - 1)
def cpJ (W H : Int) (zs : List Int) (a : Int) : List Wkr := (trS W H zs (4 * W * H).toNat).1.getD a.toNat []
def cpL (W H : Int) (zs : List Int) (a : Int) : List ByteArray := if cpB W H zs a then picS (cvM W H zs (cpJ W H zs a)) (2 * W + 1).toNat (2 * H + 1).toNat else []
def cpN (W H : Int) (zs : List Int) (a : Int) : Nat := if cpB W H zs a then (2 * H + 1).toNat else 0
theorem cpN_le (W H : Int) (zs : List Int) (a : Int) : cpN W H zs a ≤ 17 := by
  unfold cpN
  split
  · rename_i h
    simp only [cpB, Bool.and_eq_true] at h
    have := side_bd (valid_sides h.1).2
    omega
  · omega
theorem cpL_length (W H : Int) (zs : List Int) (a : Int) : (cpL W H zs a).length = cpN W H zs a := by
  unfold cpL cpN; split <;> simp [picS_length]
/-- The marks of the rows of a picture. -/
def rowV (c : List Wkr) (y : Nat) : Nat → Nat
  | 0 => 0
  | x + 1 => rowV c y x + visN c (x : Int) (y : Int)
def allV (c : List Wkr) (m : Nat) : Nat → Nat
  | 0 => 0
  | y + 1 => allV c m y + rowV c y m
theorem visN_cons (s : Wkr) (c : List Wkr) (x y : Int) : visN (s :: c) x y = visN c x y + (if vtB x y s then 1 else 0) := by
  unfold visN; rw [List.countP_cons]
theorem rowV_nil (y n : Nat) : rowV [] y n = 0 := by
  induction n with
  | zero => rfl
  | succ n ih => simp [rowV, ih, visN]
theorem allV_nil (m n : Nat) : allV [] m n = 0 := by
  induction n with
  | zero => rfl
  | succ n ih => simp [allV, ih, rowV_nil]
theorem rowV_cons (X Y : Nat) (u v : Int) (c : List Wkr) (y n : Nat) : rowV (((X : Int), (Y : Int), u, v) :: c) y n = rowV c y n + (if Y = y ∧ X < n then 1 else 0) := by
  induction n with
  | zero => simp [rowV]
  | succ n ih =>
    rw [rowV, rowV, ih, visN_cons]
    have e : vtB (n : Int) (y : Int) ((X : Int), (Y : Int), u, v) = decide (X = n ∧ Y = y) := by
      rw [Bool.eq_iff_iff, vtB_iff]
      simp only [decide_eq_true_eq]
      omega
    rw [e]
    by_cases h1 : X = n ∧ Y = y
    · have e1 : (if decide (X = n ∧ Y = y) = true then 1 else 0) = 1 := by rw [decide_eq_true h1]; rfl
      rw [e1, if_neg (show ¬ (Y = y ∧ X < n) by omega), if_pos (show Y = y ∧ X < n + 1 by omega)]
      omega
    · have e1 : (if decide (X = n ∧ Y = y) = true then 1 else 0) = 0 := by rw [decide_eq_false h1]; rfl
      rw [e1]
      by_cases h2 : Y = y ∧ X < n
      · rw [if_pos h2, if_pos (show Y = y ∧ X < n + 1 by omega)]; omega
      · rw [if_neg h2, if_neg (show ¬ (Y = y ∧ X < n + 1) by omega)]; omega
theorem allV_cons (X Y : Nat) (u v : Int) (c : List Wkr) (m n : Nat) : allV (((X : Int), (Y : Int), u, v) :: c) m n = allV c m n + (if Y < n ∧ X < m then 1 else 0) := by
  induction n with
  | zero => simp [allV]
  | succ n ih =>
    rw [allV, allV, ih, rowV_cons]
    by_cases h1 : Y = n ∧ X < m
    · rw [if_pos h1, if_neg (by omega), if_pos (by omega)]; omega
    · rw [if_neg h1]
      by_cases h2 : Y < n ∧ X < m
      · rw [if_pos h2, if_pos (by omega)]; omega
      · rw [if_neg h2, if_neg (by omega)]; omega
/-- The marks of a whole picture are the visits of the curve. -/
theorem allV_all {m n : Nat} : ∀ c : List Wkr, (∀ s ∈ c, 0 ≤ s.1 ∧ s.1 < (m : Int) ∧ 0 ≤ s.2.1 ∧ s.2.1 < (n : Int)) → allV c m n = c.length := by
  intro c
  induction c with
  | nil => intro _; exact allV_nil m n
  | cons s c ih =>
    intro h
    have h1 := h s (by simp)
    obtain ⟨x, y, u, v⟩ := s
    simp only at h1
    obtain ⟨X, rfl⟩ : ∃ X : Nat, x = (X : Int) := ⟨x.toNat, by omega⟩
    obtain ⟨Y, rfl⟩ : ∃ Y : Nat, y = (Y : Int) := ⟨y.toNat, by omega⟩
    rw [allV_cons, ih (fun s hs => h s (by simp [hs])), if_pos (by omega)]
    rfl
end Go.Proofs.Ytgcgaoblbhojnaa

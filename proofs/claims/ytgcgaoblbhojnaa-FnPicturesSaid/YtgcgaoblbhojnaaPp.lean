/- PanelPicture: contracts. -/
import Derived.Test.YtgcgaoblbhojnaaLp
import Derived.Test.YtgcgaoblbhojnaaNu
import Derived.Test.YtgcgaoblbhojnaaNo
import Derived.Test.YtgcgaoblbhojnaaQm
import Derived.Deep.RegionHeld3
import Derived.Deep.AppendLies
namespace Go.Proofs.Ytgcgaoblbhojnaa
set_option linter.unusedSimpArgs false
set_option linter.unusedVariables false
open Go.ChangeShapes Go.WideShapes Go.ChangeAt Go.RowKit
theorem validB_kinds {W H : Int} {zs : List Int} (h : validB W H zs = true) {j : Nat} {z : Int} (hj : zs[j]? = some z) : z = 0 ∨ z = 1 ∨ z = 2 := by
  simp only [validB, Bool.and_eq_true, List.all_eq_true] at h
  have hm : z ∈ zs := List.mem_of_getElem? hj
  have := h.2 z hm
  simp only [kindOk, inR, Bool.and_eq_true, decide_eq_true_eq] at this
  omega
/-- The mark of a kind. -/
def sgB (k : Int) : Int := if k = 1 then 124 else if k = 2 then 45 else 43
/-- The byte at a place of a panel's picture. -/
def paB (W H : Int) (zs : List Int) (x y : Int) : Int := if hasP W H x y = true then (if edgeP W H x y = true then 46 else sgB (brkA W zs x y)) else 32
def mkRow (mk : Nat → Nat → Int) (y n : Nat) : List Int := (List.range n).map fun x => mk x y
theorem mkRow_succ (mk : Nat → Nat → Int) (y n : Nat) : mkRow mk y (n + 1) = mkRow mk y n ++ [mk n y] := by simp [mkRow, List.range_succ]
theorem mkRow_length (mk : Nat → Nat → Int) (y n : Nat) : (mkRow mk y n).length = n := by simp [mkRow]
def picS (mk : Nat → Nat → Int) (m n : Nat) : List ByteArray := (List.range n).map fun y => strOfNums (mkRow mk y m)
theorem picS_succ (mk : Nat → Nat → Int) (m n : Nat) : picS mk m (n + 1) = picS mk m n ++ [strOfNums (mkRow mk n m)] := by simp [picS, List.range_succ]
theorem picS_length (mk : Nat → Nat → Int) (m n : Nat) : (picS mk m n).length = n := by simp [picS]
def picZ (mk : Nat → Nat → Int) (m n : Nat) : List (List Value) := (List.range n).map fun y => bytesV (mkRow mk y m)
theorem picZ_succ (mk : Nat → Nat → Int) (m n : Nat) : picZ mk m (n + 1) = picZ mk m n ++ [bytesV (mkRow mk n m)] := by simp [picZ, List.range_succ]
theorem picZ_length (mk : Nat → Nat → Int) (m n : Nat) : (picZ mk m n).length = n := by simp [picZ]
def paM (W H : Int) (zs : List Int) (x y : Nat) : Int := paB W H zs x y
/-- What PanelPicture answers. -/
def ppL (W H : Int) (zs : List Int) : List ByteArray := if validB W H zs then picS (paM W H zs) (2 * W + 1).toNat (2 * H + 1).toNat else []
def ppN (W H : Int) (zs : List Int) : Nat := if validB W H zs then (2 * H + 1).toNat else 0
def ppC (W H : Int) (zs : List Int) : Int := if validB W H zs then 0 else 1
theorem ppN_le (W H : Int) (zs : List Int) : ppN W H zs ≤ 17 := by
  unfold ppN
  split
  · rename_i h
    have := side_bd (valid_sides h).2
    omega
  · omega
theorem inner_code {W H : Int} {zs : List Int} {x y : Int} (hv : validB W H zs = true) (hh : hasP W H x y = true) (he : edgeP W H x y = false) : (codeP W H zs x y == 0) = true := by simp [codeP, hv, hh, he]
set_option maxRecDepth 100000 in
set_option maxHeartbeats 4000000 in
theorem pictureAt_any (W H : Int) (A : Option Addr) (c : Nat) (zs : List Int) (x y : Int) (w : World) (hz : Ints w w.heap.size A zs) (hl : zs.length ≤ maxLen) (hv : validB W H zs = true) :
    Calls Try.prog 75 #[.agg #[.int .i64 W, .int .i64 H, .slice A zs.length c], .agg #[.int .i64 x, .int .i64 y]] w fun e w' => e = .returned (.int .u8 (paB W H zs x y)) ∧ Below w.heap.size w w' := by
  have hl' := hl
  unfold maxLen at hl'
  have HW := hid (valid_sides hv).1
  have HH := hid (valid_sides hv).2
  cases hh : hasP W H x y
  · have HV : Hid (paB W H zs x y = 32) := hid (by simp [paB, hh])
    have Hh := hid hh
    clear hh hv
    go_enter Try.func75, Try.ntmps75
    go_wp2_with fail
    refine (calls_bool (isPoint_any W H x y _ _ _ _ HW.out HH.out) Hh.out).mono ?_
    rintro e w1 ⟨rfl, hb1⟩
    have KP1 := hid (Box.keep (Box.alloc (Box.new w _ _) _) hb1)
    have KQ1 := hid (Box.keep (Box.new' _ _ _ (w.heap.size + 1) (by simp)) hb1)
    have HB1 := hid (bstep (bal (bal (Below.refl _ _) _) _) hb1)
    clear hb1
    obtain ⟨Pa, Pb, Pc⟩ := KP1.out.three
    have Pz := KP1.out.lt
    obtain ⟨Qa, Qb⟩ := KQ1.out.two
    have Qz := KQ1.out.lt
    go_wp2_with fail
    go_ret
    exact ⟨ret_int HV.out.symm, HB1.out⟩
  · cases he : edgeP W H x y
    · have hc := inner_code hv hh he
      obtain ⟨s1, s2, s3, x1, x2, y1, y2, hp⟩ := codeP_parts hc
      obtain ⟨n1, n2⟩ := numF_bd s1 s2 x1 x2 y1 y2 hp
      obtain ⟨k, hk, hkl, hkz⟩ := brk_at s3 n1 n2
      obtain ⟨bb, off, rfl⟩ := hz.isSome hkz
      have HZ := hid hkz
      have hkind := validB_kinds hv hkz
      have HV : Hid (paB W H zs x y = sgB (brkA W zs x y)) := hid (by simp [paB, hh, he])
      obtain ⟨kd, hkd⟩ : ∃ q, brkA W zs x y = q := ⟨_, rfl⟩
      rw [hkd] at hkz hkind HV HZ
      have HN := hid hk
      have Hs := hid (And.intro s1 (And.intro s2 hp))
      have Hh := hid hh
      have He := hid he
      clear hkz s1 s2 hp s3 hh he hk hkd hv hc
      rcases hkind with rfl | rfl | rfl
      · have hch : ((((⟨#[43, 124, 45]⟩ : ByteArray)[0]'(by decide)).toNat : Int)) = 43 := rfl
        go_enter Try.func75, Try.ntmps75
        go_wp2_with fail
        refine (calls_bool (isPoint_any W H x y _ _ _ _ HW.out HH.out) Hh.out).mono ?_
        rintro e w1 ⟨rfl, hb1⟩
        have KP1 := hid (Box.keep (Box.alloc (Box.new w _ _) _) hb1)
        have KQ1 := hid (Box.keep (Box.new' _ _ _ (w.heap.size + 1) (by simp)) hb1)
        have HB1 := hid (bstep (bal (bal (Below.refl _ _) _) _) hb1)
        clear hb1
        obtain ⟨Pa, Pb, Pc⟩ := KP1.out.three
        have Pz := KP1.out.lt
        obtain ⟨Qa, Qb⟩ := KQ1.out.two
        have Qz := KQ1.out.lt
        go_wp2_with fail
        refine (calls_bool (isBorder_any W H x y _ _ _ _ HW.out HH.out) He.out).mono ?_
        rintro e w2 ⟨rfl, hb2⟩
        clear Pa Pb Pc Pz Qa Qb Qz
        have KP2 := hid (Box.keep KP1.out hb2)
        have KQ2 := hid (Box.keep KQ1.out hb2)
        have HB2 := hid (bbl HB1.out hb2)
        clear hb2
        obtain ⟨Pa, Pb, Pc⟩ := KP2.out.three
        have Pz := KP2.out.lt
        obtain ⟨Qa, Qb⟩ := KQ2.out.two
        have Qz := KQ2.out.lt
        go_wp2_with fail
        obtain ⟨hbb, hcc⟩ := (hz.below HB2.out).at HZ.out
        have bbz : bb < w2.heap.size := by have := HB2.out.size; omega
        refine wp_region_mix (w2.heap.size) (by kernel_rfl) (by kernel_rfl) ?_
        repeat (any_goals (go_big_quiet_step ((first | (go_at_call 109; exact mix_call (by simp) (calls_int0 (number_any W H x y _ _ _ _ Hs.out.1 Hs.out.2.1 x1 x2 y1 y2 Hs.out.2.2) HN.out))))))
        refine wpQuiet_nil ?_
        intro w3 hx3
        have hb3 : Below _ _ w3 := mix_ex hx3
        have HB3 := hid (bbl HB2.out hb3)
        clear hx3 hb3
        go_wp2_with fail
        go_ret
        exact ⟨ret_int HV.out.symm, HB3.out⟩
      · have hch : ((((⟨#[43, 124, 45]⟩ : ByteArray)[1]'(by decide)).toNat : Int)) = 124 := rfl
        go_enter Try.func75, Try.ntmps75
        go_wp2_with fail
        refine (calls_bool (isPoint_any W H x y _ _ _ _ HW.out HH.out) Hh.out).mono ?_
        rintro e w1 ⟨rfl, hb1⟩
        have KP1 := hid (Box.keep (Box.alloc (Box.new w _ _) _) hb1)
        have KQ1 := hid (Box.keep (Box.new' _ _ _ (w.heap.size + 1) (by simp)) hb1)
        have HB1 := hid (bstep (bal (bal (Below.refl _ _) _) _) hb1)
        clear hb1
        obtain ⟨Pa, Pb, Pc⟩ := KP1.out.three
        have Pz := KP1.out.lt
        obtain ⟨Qa, Qb⟩ := KQ1.out.two
        have Qz := KQ1.out.lt
        go_wp2_with fail
        refine (calls_bool (isBorder_any W H x y _ _ _ _ HW.out HH.out) He.out).mono ?_
        rintro e w2 ⟨rfl, hb2⟩
        clear Pa Pb Pc Pz Qa Qb Qz
        have KP2 := hid (Box.keep KP1.out hb2)
        have KQ2 := hid (Box.keep KQ1.out hb2)
        have HB2 := hid (bbl HB1.out hb2)
        clear hb2
        obtain ⟨Pa, Pb, Pc⟩ := KP2.out.three
        have Pz := KP2.out.lt
        obtain ⟨Qa, Qb⟩ := KQ2.out.two
        have Qz := KQ2.out.lt
        go_wp2_with fail
        obtain ⟨hbb, hcc⟩ := (hz.below HB2.out).at HZ.out
        have bbz : bb < w2.heap.size := by have := HB2.out.size; omega
        refine wp_region_mix (w2.heap.size) (by kernel_rfl) (by kernel_rfl) ?_
        repeat (any_goals (go_big_quiet_step ((first | (go_at_call 109; exact mix_call (by simp) (calls_int0 (number_any W H x y _ _ _ _ Hs.out.1 Hs.out.2.1 x1 x2 y1 y2 Hs.out.2.2) HN.out))))))
        refine wpQuiet_nil ?_
        intro w3 hx3
        have hb3 : Below _ _ w3 := mix_ex hx3
        have HB3 := hid (bbl HB2.out hb3)
        clear hx3 hb3
        go_wp2_with fail
        go_ret
        exact ⟨ret_int HV.out.symm, HB3.out⟩
      · have hch : ((((⟨#[43, 124, 45]⟩ : ByteArray)[2]'(by decide)).toNat : Int)) = 45 := rfl
        go_enter Try.func75, Try.ntmps75
        go_wp2_with fail
        refine (calls_bool (isPoint_any W H x y _ _ _ _ HW.out HH.out) Hh.out).mono ?_
        rintro e w1 ⟨rfl, hb1⟩
        have KP1 := hid (Box.keep (Box.alloc (Box.new w _ _) _) hb1)
        have KQ1 := hid (Box.keep (Box.new' _ _ _ (w.heap.size + 1) (by simp)) hb1)
        have HB1 := hid (bstep (bal (bal (Below.refl _ _) _) _) hb1)
        clear hb1
        obtain ⟨Pa, Pb, Pc⟩ := KP1.out.three
        have Pz := KP1.out.lt
        obtain ⟨Qa, Qb⟩ := KQ1.out.two
        have Qz := KQ1.out.lt
        go_wp2_with fail
        refine (calls_bool (isBorder_any W H x y _ _ _ _ HW.out HH.out) He.out).mono ?_
        rintro e w2 ⟨rfl, hb2⟩
        clear Pa Pb Pc Pz Qa Qb Qz
        have KP2 := hid (Box.keep KP1.out hb2)
        have KQ2 := hid (Box.keep KQ1.out hb2)
        have HB2 := hid (bbl HB1.out hb2)
        clear hb2
        obtain ⟨Pa, Pb, Pc⟩ := KP2.out.three
        have Pz := KP2.out.lt
        obtain ⟨Qa, Qb⟩ := KQ2.out.two
        have Qz := KQ2.out.lt
        go_wp2_with fail
        obtain ⟨hbb, hcc⟩ := (hz.below HB2.out).at HZ.out
        have bbz : bb < w2.heap.size := by have := HB2.out.size; omega
        refine wp_region_mix (w2.heap.size) (by kernel_rfl) (by kernel_rfl) ?_
        repeat (any_goals (go_big_quiet_step ((first | (go_at_call 109; exact mix_call (by simp) (calls_int0 (number_any W H x y _ _ _ _ Hs.out.1 Hs.out.2.1 x1 x2 y1 y2 Hs.out.2.2) HN.out))))))
        refine wpQuiet_nil ?_
        intro w3 hx3
        have hb3 : Below _ _ w3 := mix_ex hx3
        have HB3 := hid (bbl HB2.out hb3)
        clear hx3 hb3
        go_wp2_with fail
        go_ret
        exact ⟨ret_int HV.out.symm, HB3.out⟩
    · have HV : Hid (paB W H zs x y = 46) := hid (by simp [paB, hh, he])
      have Hh := hid hh
      have He := hid he
      clear hh he hv
      go_enter Try.func75, Try.ntmps75
      go_wp2_with fail
      refine (calls_bool (isPoint_any W H x y _ _ _ _ HW.out HH.out) Hh.out).mono ?_
      rintro e w1 ⟨rfl, hb1⟩
      have KP1 := hid (Box.keep (Box.alloc (Box.new w _ _) _) hb1)
      have KQ1 := hid (Box.keep (Box.new' _ _ _ (w.heap.size + 1) (by simp)) hb1)
      have HB1 := hid (bstep (bal (bal (Below.refl _ _) _) _) hb1)
      clear hb1
      obtain ⟨Pa, Pb, Pc⟩ := KP1.out.three
      have Pz := KP1.out.lt
      obtain ⟨Qa, Qb⟩ := KQ1.out.two
      have Qz := KQ1.out.lt
      go_wp2_with fail
      refine (calls_bool (isBorder_any W H x y _ _ _ _ HW.out HH.out) He.out).mono ?_
      rintro e w2 ⟨rfl, hb2⟩
      clear Pa Pb Pc Pz Qa Qb Qz
      have KP2 := hid (Box.keep KP1.out hb2)
      have KQ2 := hid (Box.keep KQ1.out hb2)
      have HB2 := hid (bbl HB1.out hb2)
      clear hb2
      obtain ⟨Pa, Pb, Pc⟩ := KP2.out.three
      have Pz := KP2.out.lt
      obtain ⟨Qa, Qb⟩ := KQ2.out.two
      have Qz := KQ2.out.lt
      go_wp2_with fail
      go_ret
      exact ⟨ret_int HV.out.symm, HB2.out⟩
set_option maxRecDepth 100000 in
set_option maxHeartbeats 4000000 in
theorem picturePA_any (W' H' : Nat) (A : Option Addr) (c : Nat) (zs : List Int)  (mk : Nat → Nat → Int) (w : World) (hW : side (W' : Int) = true) (hH : side (H' : Int) = true)
    (hm : ∀ w', Below w.heap.size w w' → ∀ x y : Nat, x ≤ 2 * W' → y ≤ 2 * H' → Calls Try.prog 75 #[.agg #[.int .i64 W', .int .i64 H', .slice A zs.length c], .agg #[.int .i64 x, .int .i64 y]] w' fun e w'' => e = .returned (.int .u8 (mk x y)) ∧ Below w'.heap.size w' w'') :
    Calls Try.prog 74 #[.agg #[.int .i64 W', .int .i64 H', .slice A zs.length c], .func (.func 75) #[.agg #[.int .i64 W', .int .i64 H', .slice A zs.length c]] #[]] w fun e w' => (∃ g c', e = .returned (.slice (some ⟨g, 0, none⟩) (2 * H' + 1) c') ∧ w'.ownsRow w.heap.size 9 1 (.slice (some ⟨g, 0, none⟩) (2 * H' + 1) c') (2 * H' + 1) (strs (picS mk (2 * W' + 1) (2 * H' + 1)))) ∧ Below w.heap.size w w' := by
  obtain ⟨s3, s4⟩ := side_bd hW
  obtain ⟨s5, s6⟩ := side_bd hH
  have HM := hid hm
  clear hW hH hm
  obtain ⟨ub, hib, hb0, hb1, hb2⟩ := info_parts infoU8
  obtain ⟨us, his, hs0, hs1, hs2⟩ := info_parts infoStr
  go_enter Try.func74, Try.ntmps74
  go_wp2_with fail
  have ho1 := World.ownsRow_lit (base := w.heap.size + 1) (e := 9) (size := 1) (w.alloc (.cells #[.int .i64 W', .int .i64 H', .slice A zs.length c] 39)) #[] 0 (by simp) (Nat.zero_le _) rfl
  simp only [World.size_alloc] at ho1
  have HO1 := hid ho1
  clear ho1
  go_loopg [5, 14] (2 * H' + 1) (fun g v i wr => ∃ y : Nat, y ≤ 2 * H' + 1 ∧ i = .int .i64 y ∧ g = 2 * H' + 1 - y ∧ Hid (wr.ownsRow (w.heap.size + 1) 9 1 v y (strs (picS mk (2 * W' + 1) y))) ∧ Hid (Box wr w.heap.size 39 #[.int .i64 W', .int .i64 H', .slice A zs.length c]) ∧ Hid (Below w.heap.size w wr))
  case atStart => exact ⟨0, Nat.zero_le _, rfl, rfl, HO1, hid (Box.alloc (Box.new _ _ _) _), hid (bal (bal (Below.refl _ _) _) _)⟩
  case round =>
    obtain ⟨y, hy, rfl, hg, HO, KP, HBr⟩ := hrel
    obtain ⟨wo, rfl⟩ : ∃ z, z = wr := ⟨_, rfl⟩
    have Wz := KP.out.lt
    by_cases hlt : y < 2 * H' + 1
    · obtain ⟨Pa, Pb, Pc⟩ := KP.out.three
      have hoi := World.ownsRow_lit (base := wo.heap.size) (e := 5) (size := 1) wo #[] 0 (Nat.le_refl _) (Nat.zero_le _) rfl
      have HOI := hid hoi
      clear hoi
      go_wp2_with fail
      clear Pa Pb Pc
      go_loopg [7, 22] (2 * W' + 1) (fun g v i wx => ∃ x : Nat, x ≤ 2 * W' + 1 ∧ i = .int .i64 x ∧ g = 2 * W' + 1 - x ∧ Hid (wx.ownsRow wo.heap.size 5 1 v x (bytesV (mkRow mk y x))) ∧ Hid (Below wo.heap.size wo wx))
      case atStart => exact ⟨0, Nat.zero_le _, rfl, rfl, HOI, hid (bal (Below.refl _ _) _)⟩
      case round =>
        obtain ⟨x, hx, rfl, hg2, HOx, HBx⟩ := hrel
        have xz := HBx.out.size
        by_cases hxl : x < 2 * W' + 1
        · go_wp2_with fail
          refine (HM.out _ (bbl HBr.out HBx.out) x y (by omega) (by omega)).mono ?_
          rintro e w2 ⟨rfl, hb2⟩
          have HO2 := hid (own_keep HOx.out hb2)
          have HB2 := hid (bbl HBx.out hb2)
          have xz2 := HB2.out.size
          clear hb2
          obtain ⟨bt, hbt⟩ : ∃ q, mk x y = q := ⟨_, rfl⟩
          rw [hbt]
          have HE : Hid (mkRow mk y (x + 1) = mkRow mk y x ++ [bt]) := hid (by rw [mkRow_succ, hbt])
          clear hbt
          go_wp2_with (at_builtin; (refine wpList_append_own _ rfl _ _ 54 rfl (wo.heap.size) 5 ub (.int .u8 0) 1 1 Try.underlying54 hib hb0 hb1 hb2 rfl (by decide) _ (x) (bytesV (mkRow mk y x)) rfl (HO2.out.alloc _) ⟨w2.heap.size, 0, none⟩ 1 1 [.int .u8 bt] rfl rfl (World.news_of_block (cs := #[.int .u8 bt]) (t := 5) (fr := (0, 0)) (heap_alloc_new w2 _)) (by simp [Value.oneCell']) (by unfold maxLen; omega) (by omega) (by simp; omega) ?_; intro v' wz ho2 hgr _))
          have HH := hid (And.intro ho2 hgr)
          clear ho2 hgr
          go_roundg (2 * W' + 1 - (x + 1))
          case measure => omega
          case rel => exact ⟨x + 1, by omega, by go_num, rfl, hid (by rw [HE.out]; simpa [bytesV] using HH.out.1), hid (Below.grown (Below.alloc HB2.out xz2 _) HH.out.2 (by simp; omega) (fun q hq => (HO2.out.lt q hq).1))⟩
        · obtain rfl : x = 2 * W' + 1 := by omega
          rcases Go.Joins.ownsRow_forms HOx.out with ⟨rfl, hn0⟩ | ⟨gb, cap, rfl⟩
          · exfalso; omega
          have kc := conv_own HOx.out
          have HOo := hid (own_below HO.out HBx.out)
          have HOo' := hid (HO.out.lt)
          have KPx := hid (Box.below KP.out HBx.out Wz)
          go_wp2_with (at_builtin; (refine wpList_append_own _ rfl _ _ 27 rfl (w.heap.size + 1) 9 us (.string ⟨#[]⟩) 1 16 Try.underlying27 his hs0 hs1 hs2 rfl (by decide) _ (y) (strs (picS mk (2 * W' + 1) y)) rfl (HOo.out.alloc _) ⟨wr.heap.size, 0, none⟩ 1 1 [.string (strOfNums (mkRow mk y (2 * W' + 1)))] rfl rfl (World.news_of_block (cs := #[.string (strOfNums (mkRow mk y (2 * W' + 1)))]) (t := 9) (fr := (0, 0)) (heap_alloc_new wr _)) (by simp [Value.oneCell']) (by unfold maxLen; omega) (by omega) (by simp; omega) ?_; intro v' wz ho2 hgr _))
          have HH := hid (And.intro ho2 hgr)
          clear ho2 hgr
          go_roundg (2 * H' + 1 - (y + 1))
          case measure => omega
          case rel => exact ⟨y + 1, by omega, by go_num, rfl, hid (by rw [picS_succ]; simpa [strs] using HH.out.1), hid (Box.grew (Box.alloc KPx.out _) HH.out.2 (fun q hq => by have := (HOo'.out q hq).1; omega)), hid (bgrew (lo := w.heap.size + 1) (bal (bbl HBr.out HBx.out) _) HH.out.2 (fun q hq => (HOo'.out q hq).1) (by omega))⟩
    · obtain rfl : y = 2 * H' + 1 := by omega
      rcases Go.Joins.ownsRow_forms HO.out with ⟨rfl, hn0⟩ | ⟨gb, cap, rfl⟩
      · exfalso; omega
      go_wp2_with fail
      go_ret
      exact ⟨⟨_, _, rfl, Go.Joins.ownsRow_le HO.out (by omega)⟩, HBr.out⟩
set_option maxRecDepth 100000 in
set_option maxHeartbeats 4000000 in
theorem implPanelPicture_any (W H : Int) (A : Option Addr) (c : Nat) (zs : List Int) (w : World) (hz : Ints w w.heap.size A zs) (hl : zs.length ≤ maxLen) :
    Calls Try.prog 29 #[.agg #[.int .i64 W, .int .i64 H, .slice A zs.length c]] w fun e w' => (∃ A' c', e = .returned (.tuple #[.slice A' (ppN W H zs) c', .int .i64 (ppC W H zs)]) ∧ w'.ownsRow w.heap.size 9 1 (.slice A' (ppN W H zs) c') (ppN W H zs) (strs (ppL W H zs))) ∧ Below w.heap.size w w' := by
  cases hv : validB W H zs
  · have HV : Hid (ppN W H zs = 0 ∧ ppL W H zs = [] ∧ ppC W H zs = 1) := hid (by simp [ppN, ppL, ppC, hv])
    have Hv := hid hv
    clear hv
    go_enter Try.func29, Try.ntmps29
    go_wp2_with fail
    refine (calls_bool (validPanel_any W H A c zs _ ((hz.below (bal (Below.refl _ _) _)).more (bal (Below.refl _ _) _).size) hl) Hv.out).mono ?_
    rintro e w1 ⟨rfl, hb1⟩
    have KP1 := hid (Box.keep (Box.new w _ _) hb1)
    have HB1 : Hid (Below w.heap.size w w1) := hid (bstep (bal (Below.refl _ _) _) hb1)
    clear hb1
    obtain ⟨Pa, Pb, Pc⟩ := KP1.out.three
    have Pz := KP1.out.lt
    go_wp2_with fail
    go_ret2
    exact ⟨⟨none, 0, by rw [HV.out.1, HV.out.2.2] <;> rfl, by rw [HV.out.1, HV.out.2.1]; exact World.ownsRow_nil _ _ _ _⟩, HB1.out⟩
  · have Hs := hid (valid_sides hv)
    obtain ⟨s3, s4⟩ := side_bd Hs.out.1
    obtain ⟨s5, s6⟩ := side_bd Hs.out.2
    obtain ⟨W', rfl⟩ : ∃ n : Nat, W = n := ⟨W.toNat, by omega⟩
    obtain ⟨H', rfl⟩ : ∃ n : Nat, H = n := ⟨H.toNat, by omega⟩
    have HV : Hid (ppN W' H' zs = 2 * H' + 1 ∧ ppL W' H' zs = picS (paM W' H' zs) (2 * W' + 1) (2 * H' + 1) ∧ ppC W' H' zs = 0) := hid (by simp [ppN, ppL, ppC, hv, show (2 * (W' : Int) + 1).toNat = 2 * W' + 1 by omega, show (2 * (H' : Int) + 1).toNat = 2 * H' + 1 by omega])
    have Hv := hid hv
    clear hv
    go_enter Try.func29, Try.ntmps29
    go_wp2_with fail
    refine (calls_bool (validPanel_any W' H' A c zs _ ((hz.below (bal (Below.refl _ _) _)).more (bal (Below.refl _ _) _).size) hl) Hv.out).mono ?_
    rintro e w1 ⟨rfl, hb1⟩
    have KP1 := hid (Box.keep (Box.new w _ _) hb1)
    have HB1 : Hid (Below w.heap.size w w1) := hid (bstep (bal (Below.refl _ _) _) hb1)
    clear hb1
    obtain ⟨Pa, Pb, Pc⟩ := KP1.out.three
    have Pz := KP1.out.lt
    go_wp2_with fail
    refine (picturePA_any W' H' A c zs (paM W' H' zs) _ Hs.out.1 Hs.out.2 (fun w' hw' x y _ _ => pictureAt_any W' H' A c zs x y w' ((hz.below (bbl HB1.out hw')).more (bbl HB1.out hw').size) hl Hv.out)).mono ?_
    rintro e w2 ⟨⟨g2, c2, rfl, ho2⟩, hb2⟩
    have HO2 := hid ho2
    have HB2 := hid (bbl HB1.out hb2)
    clear hb2 ho2 Pa Pb Pc Pz
    go_wp2_with fail
    go_ret2
    refine ⟨⟨_, c2, by rw [HV.out.1, HV.out.2.2]; rfl, ?_⟩, HB2.out⟩
    rw [HV.out.1, HV.out.2.1]
    exact Go.Joins.ownsRow_le HO2.out HB1.out.size
end Go.Proofs.Ytgcgaoblbhojnaa

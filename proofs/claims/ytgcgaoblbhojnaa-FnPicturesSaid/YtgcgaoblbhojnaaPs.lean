/- PanelPicture: the reference's contracts. -/
import Derived.Test.YtgcgaoblbhojnaaPp
namespace Go.Proofs.Ytgcgaoblbhojnaa
set_option linter.unusedSimpArgs false
set_option linter.unusedVariables false
open Go.ChangeShapes Go.WideShapes Go.ChangeAt Go.RowKit
theorem calls_u8 {p : Program} {f : Nat} {args : Array Value} {w : World} {P : World → Prop} {a b : Int} (h : Calls p f args w fun e w' => e = .returned (.int .u8 a) ∧ P w') (k : a = b) : Calls p f args w fun e w' => e = .returned (.int .u8 b) ∧ P w' := k ▸ h
theorem own_boxP {w : World} {lo s n b : Nat} {T T' : TypeId} {v : Value} {cs : List Value} {ds : Array Value} (h : w.ownsRow lo T s v n cs) (hb : Box w b T' ds) (hT : T ≠ T') : ∀ q, v.ownBlock = some q → b ≠ q := by
  rintro q hq rfl
  obtain ⟨c, f, h1⟩ := Go.Lib.ownsRow_kind h _ hq
  have h2 : w.heap[b]? = _ := hb
  rw [h1] at h2
  injection h2 with h2
  injection h2 with _ h2 _
  exact hT h2
theorem l05Sign_any (k : Int) (w : World) : Calls Try.prog 104 #[.int .i64 k] w fun e w' => e = .returned (.int .u8 (sgB k)) ∧ w = w' := by
  by_cases h1 : k = 1
  · subst h1
    go_enter Try.func104, Try.ntmps104
    go_wp2
    go_ret
    exact ⟨rfl, rfl⟩
  have e1 : (k == 1) = false := by simp [h1]
  by_cases h2 : k = 2
  · subst h2
    go_enter Try.func104, Try.ntmps104
    go_wp2
    go_ret
    exact ⟨rfl, rfl⟩
  have e2 : (k == 2) = false := by simp [h2]
  have HV : Hid (sgB k = 43) := hid (by unfold sgB; rw [if_neg h1, if_neg h2])
  clear h1 h2
  go_enter Try.func104, Try.ntmps104
  go_wp2
  go_ret
  exact ⟨ret_int HV.out.symm, rfl⟩
theorem infoBSp : (Try.prog.info? 54).map (fun i => (i.zero, i.size, i.bytes)) = some (some (.slice none 0 0), 1, 24) := by kernel_rfl
set_option maxRecDepth 100000 in
set_option maxHeartbeats 8000000 in
theorem l05Rows_any (pb : Nat) (W' H' : Nat) (A : Option Addr) (c : Nat) (zs : List Int) (w : World) (B : Nat) (hB : B ≤ w.heap.size) (hpp : PanP w pb W' H' (.slice A zs.length c)) (hz : Ints w B A zs) (hl : zs.length ≤ maxLen) (hv : validB W' H' zs = true) :
    Calls Try.prog 73 #[.pointer (some ⟨pb, 0, none⟩)] w fun e w' => (∃ g c', e = .returned (.slice (some ⟨g, 0, none⟩) (2 * H' + 1) c') ∧ Nest w' w.heap.size w'.heap.size 54 5 1 (.slice (some ⟨g, 0, none⟩) (2 * H' + 1) c') (picZ (paM W' H' zs) (2 * W' + 1) (2 * H' + 1))) ∧ Below w.heap.size w w' := by
  have hl' := hl
  unfold maxLen at hl'
  have HW := hid (valid_sides hv).1
  have HH := hid (valid_sides hv).2
  obtain ⟨s3, s4⟩ := side_bd HW.out
  obtain ⟨s5, s6⟩ := side_bd HH.out
  have HP := hid hpp
  have Hv := hid hv
  have HZ := hid hz
  clear hpp hv hz
  obtain ⟨ub, hib, hb0, hb1, hb2⟩ := info_parts infoU8
  obtain ⟨us, his, hs0, hs1, hs2⟩ := info_parts infoBSp
  go_enter Try.func73, Try.ntmps73
  go_wp2_with fail
  have ho1 := World.ownsRow_lit (base := w.heap.size) (e := 54) (size := 1) w #[] 0 (Nat.le_refl _) (Nat.zero_le _) rfl
  have HO1 := hid (Nest.nil (TI := 5) (s := 1) ho1 (w.heap.size + 1))
  clear ho1
  go_loopg [3, 4] (2 * H' + 1) (fun g v i wr => ∃ y : Nat, y ≤ 2 * H' + 1 ∧ i = .int .i64 y ∧ g = 2 * H' + 1 - y ∧ Hid (Nest wr w.heap.size wr.heap.size 54 5 1 v (picZ (paM W' H' zs) (2 * W' + 1) y)) ∧ Hid (Below w.heap.size w wr))
  case atStart => exact ⟨0, Nat.zero_le _, rfl, rfl, hid (Nest.more HO1.out (by simp)), hid (bal (Below.refl _ _) _)⟩
  case round =>
    obtain ⟨y, hy, rfl, hg, HO, HBr⟩ := hrel
    obtain ⟨wo, rfl⟩ : ∃ z, z = wr := ⟨_, rfl⟩
    have KPo := hid (Box.below HP.out HBr.out HP.out.lt)
    have wz := HBr.out.size
    obtain ⟨Pa, Pb, Pc⟩ := KPo.out.three
    have Pz := KPo.out.lt
    by_cases hlt : y < 2 * H' + 1
    · have hoi := World.ownsRow_lit (base := wo.heap.size) (e := 5) (size := 1) wo #[] 0 (Nat.le_refl _) (Nat.zero_le _) rfl
      have HOI := hid hoi
      clear hoi
      go_wp2_with fail
      clear Pa Pb Pc
      go_loopg [5, 6] (2 * W' + 1) (fun g v i wx => ∃ x : Nat, x ≤ 2 * W' + 1 ∧ i = .int .i64 x ∧ g = 2 * W' + 1 - x ∧ Hid (wx.ownsRow wo.heap.size 5 1 v x (bytesV (mkRow (paM W' H' zs) y x))) ∧ Hid (Below wo.heap.size wo wx))
      case atStart => exact ⟨0, Nat.zero_le _, rfl, rfl, HOI, hid (bal (Below.refl _ _) _)⟩
      case round =>
        obtain ⟨x, hx, rfl, hg2, HOx, HBx⟩ := hrel
        have xz := HBx.out.size
        have KPx := hid (Box.below KPo.out HBx.out Pz)
        obtain ⟨Pa, Pb, Pc⟩ := KPx.out.three
        have Pzx := KPx.out.lt
        by_cases hxl : x < 2 * W' + 1
        · cases hh : hasP W' H' x y
          · have HE : Hid (paM W' H' zs x y = 32) := hid (by simp [paM, paB, hh])
            have Hh := hid hh
            clear hh
            go_wp2_with fail
            refine (calls_bool (l02Has_any _ W' H' x y _ _ (KPx.out.alloc _) HW.out HH.out) Hh.out).mono ?_
            rintro e w2 ⟨rfl, hb2⟩
            have KP2 := hid (Box.keep (Box.alloc KPx.out _) hb2)
            have KQ2 := hid (Box.keep (Box.new wr _ _) hb2)
            have HO2 := hid (own_keep (HOx.out.alloc _) hb2)
            have HB2 := hid (bbl (bal HBx.out _) hb2)
            clear hb2 Pa Pb Pc Pzx
            obtain ⟨Pa, Pb, Pc⟩ := KP2.out.three
            have Pzx := KP2.out.lt
            obtain ⟨Qa, Qb⟩ := KQ2.out.two
            have Qz := KQ2.out.lt
            have xz2 := HB2.out.size
            go_wp2_with (at_builtin; (refine wpList_append_own _ rfl _ _ 54 rfl (wo.heap.size) 5 ub (.int .u8 0) 1 1 Try.underlying54 hib hb0 hb1 hb2 rfl (by decide) _ (x) (bytesV (mkRow (paM W' H' zs) y x)) rfl (HO2.out.alloc _) ⟨w2.heap.size, 0, none⟩ 1 1 [.int .u8 32] rfl rfl (World.news_of_block (cs := #[.int .u8 32]) (t := 5) (fr := (0, 0)) (heap_alloc_new w2 _)) (by simp [Value.oneCell']) (by unfold maxLen; omega) (by omega) (by simp; omega) ?_; intro v' wz ho2 hgr _; have HHa := hid (And.intro ho2 hgr); clear ho2 hgr))
            go_roundg (2 * W' + 1 - (x + 1))
            case measure => omega
            case rel => exact ⟨x + 1, by omega, by go_num, rfl, hid (by rw [mkRow_succ, HE.out]; simpa [bytesV] using HHa.out.1), hid (Below.grown (Below.alloc HB2.out xz2 _) HHa.out.2 (by simp; omega) (fun q hq => (HO2.out.lt q hq).1))⟩
          · cases he : edgeP W' H' x y
            · have hc := inner_code Hv.out hh he
              obtain ⟨q1, q2, q3, x1, x2, y1, y2, hp⟩ := codeP_parts hc
              obtain ⟨n1, n2⟩ := numF_bd q1 q2 x1 x2 y1 y2 hp
              obtain ⟨k, hk, hkl, hkz⟩ := brk_at q3 n1 n2
              obtain ⟨bb, off, rfl⟩ := HZ.out.isSome hkz
              have HKZ := hid hkz
              have HE : Hid (paM W' H' zs x y = sgB (brkA W' zs x y)) := hid (by simp [paM, paB, hh, he])
              obtain ⟨kd, hkd⟩ : ∃ q, brkA W' zs x y = q := ⟨_, rfl⟩
              rw [hkd] at hkz HE HKZ
              obtain ⟨sb, hsb⟩ : ∃ q, sgB kd = q := ⟨_, rfl⟩
              rw [hsb] at HE
              have HSB := hid hsb
              have HN := hid hk
              have Hs := hid (And.intro q1 (And.intro q2 hp))
              have Hh := hid hh
              have He := hid he
              clear hkz q1 q2 hp q3 hh he hk hkd hc hsb n1 n2
              go_wp2_with fail
              refine (calls_bool (l02Has_any _ W' H' x y _ _ (KPx.out.alloc _) HW.out HH.out) Hh.out).mono ?_
              rintro e w2 ⟨rfl, hb2⟩
              have KP2 := hid (Box.keep (Box.alloc KPx.out _) hb2)
              have KQ2 := hid (Box.keep (Box.new wr _ _) hb2)
              have HO2 := hid (own_keep (HOx.out.alloc _) hb2)
              have HB2 := hid (bbl (bal HBx.out _) hb2)
              clear hb2 Pa Pb Pc Pzx
              obtain ⟨Pa, Pb, Pc⟩ := KP2.out.three
              have Pzx := KP2.out.lt
              obtain ⟨Qa, Qb⟩ := KQ2.out.two
              have Qz := KQ2.out.lt
              have xz2 := HB2.out.size
              go_wp2_with fail
              refine (calls_bool (l02Edge_any _ W' H' x y _ _ KP2.out HW.out HH.out) He.out).mono ?_
              rintro e w3 ⟨rfl, hb3⟩
              have KP3 := hid (Box.keep KP2.out hb3)
              have KQ3 := hid (Box.keep KQ2.out hb3)
              have HO3 := hid (own_keep HO2.out hb3)
              have HB3 := hid (bbl HB2.out hb3)
              clear hb3 Pa Pb Pc Pzx Qa Qb Qz
              obtain ⟨Pa, Pb, Pc⟩ := KP3.out.three
              have Pzx := KP3.out.lt
              obtain ⟨Qa, Qb⟩ := KQ3.out.two
              have Qz := KQ3.out.lt
              have xz3 := HB3.out.size
              have HCW := hid (((HZ.out.below (Below.mono HBr.out hB)).at HKZ.out).2)
              have hbw : bb < wo.heap.size := by have := (HZ.out.at HKZ.out).1; omega
              have bbz : bb < w3.heap.size := by omega
              have HR3 := hid (fun q (hq : Value.ownBlock _ = some q) => HO3.out.lt q hq)
              have hcc := (HB3.out.cell (p := ⟨bb, off + k, none⟩) hbw).trans HCW.out
              have e0 : (numF W' x y).toNat = k := by have := HN.out; omega
              go_wp2_with fail
              clear hcc e0 Pa Pb Pc Pzx Qa Qb Qz
              go_region_held3 (fun zz => zz.cell? ⟨pb, 2, none⟩ = some (.slice (some ⟨bb, off, none⟩) zs.length c) ∧ zz.cell? ⟨wr.heap.size, 0, none⟩ = some (.int .i64 x) ∧ zz.cell? ⟨wr.heap.size, 1, none⟩ = some (.int .i64 y) ∧ zz.cell? ⟨bb, off + k, none⟩ = some (.int .i64 kd))
                (first | (with_reducible exact ⟨(Box.three KP5.out).2.2, (Box.two KQ5.out).1, (Box.two KQ5.out).2, (Below.cell (p := ⟨bb, off + k, none⟩) HB5.out hbw).trans HCW.out⟩) | (with_reducible exact ⟨(Box.three (Box.alloc KP4.out _)).2.2, (Box.two (Box.alloc KQ4.out _)).1, (Box.two (Box.alloc KQ4.out _)).2, (Below.cell (p := ⟨bb, off + k, none⟩) (Below.alloc HB4.out xz4.out _) hbw).trans HCW.out⟩) | (with_reducible exact ⟨(Box.three KP4.out).2.2, (Box.two KQ4.out).1, (Box.two KQ4.out).2, (Below.cell (p := ⟨bb, off + k, none⟩) HB4.out hbw).trans HCW.out⟩) | exact ⟨(Box.three KP3.out).2.2, (Box.two KQ3.out).1, (Box.two KQ3.out).2, (Below.cell (p := ⟨bb, off + k, none⟩) HB3.out hbw).trans HCW.out⟩)
                (first | (go_at_call 108; refine (calls_int0 (l02Number_any _ W' H' x y _ _ (Box.drew KP3.out) Hs.out.1 Hs.out.2.1 x1 x2 y1 y2 Hs.out.2.2) HN.out).mono ?_; rintro e w4 ⟨rfl, hb4⟩; have hc4 := Below.trans (below_refl_drew _ _) hb4; have KP4 := hid (Box.keep KP3.out hc4); have KQ4 := hid (Box.keep KQ3.out hc4); have HO4 := hid (own_keep HO3.out hc4); have HB4 := hid (bbl HB3.out hc4); have xz4 := hid HB4.out.size; clear hb4 hc4) | (go_at_call 104; refine (calls_u8 (l05Sign_any kd _) HSB.out).mono ?_; rintro e w' ⟨rfl, rfl⟩) | (refine step_append_lies _ (by rfl) _ _ _ (by rfl) wo.heap.size 5 ub (.int .u8 0) 1 1 Try.underlying54 hib hb0 hb1 hb2 rfl (by omega) _ x (bytesV (mkRow (paM W' H' zs) y x)) (by rfl) (HO4.out.alloc _) ⟨w4.heap.size, 0, none⟩ 1 1 [.int .u8 sb] (by rfl) (by rfl) (World.news_of_block (cs := #[.int .u8 sb]) (t := 5) (fr := (0, 0)) (heap_alloc_new w4 _)) (by simp [Value.oneCell']) (by omega) (by unfold maxLen; omega) (by omega) (by have := xz4.out; simp; omega) (w4.heap.size + 1) (by simp) ?_; intro gg cap w5 hown5 hgrow5 hat5 hlt5; have KP5 := hid (Box.grew (Box.alloc KP4.out (.cells #[.int .u8 sb] 5)) hgrow5 (own_boxP (HO4.out.alloc (.cells #[.int .u8 sb] 5)) (Box.alloc KP4.out (.cells #[.int .u8 sb] 5)) (by decide))); have KQ5 := hid (Box.grew (Box.alloc KQ4.out (.cells #[.int .u8 sb] 5)) hgrow5 (own_boxP (HO4.out.alloc (.cells #[.int .u8 sb] 5)) (Box.alloc KQ4.out (.cells #[.int .u8 sb] 5)) (by decide))); have HB5 := hid (Below.grown (Below.alloc HB4.out xz4.out (.cells #[.int .u8 sb] 5)) hgrow5 (by have := xz4.out; simp; omega) (fun q hq => (HO4.out.lt q hq).1)); have HO5 := hid hown5; clear hown5 hgrow5 hat5 hlt5))
              go_wp2_with fail
              go_roundg (2 * W' + 1 - (x + 1))
              case measure => omega
              case rel => exact ⟨x + 1, by omega, by go_num, rfl, hid (by rw [mkRow_succ, HE.out]; simpa [bytesV] using HO5.out), HB5⟩
            · have HE : Hid (paM W' H' zs x y = 46) := hid (by simp [paM, paB, hh, he])
              have Hh := hid hh
              have He := hid he
              clear hh he
              go_wp2_with fail
              refine (calls_bool (l02Has_any _ W' H' x y _ _ (KPx.out.alloc _) HW.out HH.out) Hh.out).mono ?_
              rintro e w2 ⟨rfl, hb2⟩
              have KP2 := hid (Box.keep (Box.alloc KPx.out _) hb2)
              have KQ2 := hid (Box.keep (Box.new wr _ _) hb2)
              have HO2 := hid (own_keep (HOx.out.alloc _) hb2)
              have HB2 := hid (bbl (bal HBx.out _) hb2)
              clear hb2 Pa Pb Pc Pzx
              obtain ⟨Pa, Pb, Pc⟩ := KP2.out.three
              have Pzx := KP2.out.lt
              obtain ⟨Qa, Qb⟩ := KQ2.out.two
              have Qz := KQ2.out.lt
              have xz2 := HB2.out.size
              go_wp2_with fail
              refine (calls_bool (l02Edge_any _ W' H' x y _ _ KP2.out HW.out HH.out) He.out).mono ?_
              rintro e w3 ⟨rfl, hb3⟩
              have KP3 := hid (Box.keep KP2.out hb3)
              have KQ3 := hid (Box.keep KQ2.out hb3)
              have HO3 := hid (own_keep HO2.out hb3)
              have HB3 := hid (bbl HB2.out hb3)
              clear hb3 Pa Pb Pc Pzx Qa Qb Qz
              obtain ⟨Pa, Pb, Pc⟩ := KP3.out.three
              have Pzx := KP3.out.lt
              obtain ⟨Qa, Qb⟩ := KQ3.out.two
              have Qz := KQ3.out.lt
              have xz3 := HB3.out.size
              go_wp2_with (at_builtin; (refine wpList_append_own _ rfl _ _ 54 rfl (wo.heap.size) 5 ub (.int .u8 0) 1 1 Try.underlying54 hib hb0 hb1 hb2 rfl (by decide) _ (x) (bytesV (mkRow (paM W' H' zs) y x)) rfl (HO3.out.alloc _) ⟨w3.heap.size, 0, none⟩ 1 1 [.int .u8 46] rfl rfl (World.news_of_block (cs := #[.int .u8 46]) (t := 5) (fr := (0, 0)) (heap_alloc_new w3 _)) (by simp [Value.oneCell']) (by unfold maxLen; omega) (by omega) (by simp; omega) ?_; intro v' wz ho2 hgr _; have HHa := hid (And.intro ho2 hgr); clear ho2 hgr))
              go_roundg (2 * W' + 1 - (x + 1))
              case measure => omega
              case rel => exact ⟨x + 1, by omega, by go_num, rfl, hid (by rw [mkRow_succ, HE.out]; simpa [bytesV] using HHa.out.1), hid (Below.grown (Below.alloc HB3.out xz3 _) HHa.out.2 (by simp; omega) (fun q hq => (HO3.out.lt q hq).1))⟩
        · obtain rfl : x = 2 * W' + 1 := by omega
          rcases Go.Joins.ownsRow_forms HOx.out with ⟨rfl, hn0⟩ | ⟨gb, cap, rfl⟩
          · exfalso; omega
          have HNx := hid ((HO.out.keep HBx.out).alloc (.cells #[.slice (some ⟨gb, 0, none⟩) (2 * W' + 1) cap] 54))
          have HNl := hid HNx.out.lt
          obtain ⟨vs, hO, hI, hD⟩ := HNx.out
          rw [picZ_length] at hO
          have HNP := hid (And.intro hO (And.intro hI hD))
          clear hO hI hD
          go_wp2_with (at_builtin; (refine wpList_append_own _ rfl _ _ 80 rfl w.heap.size 54 us (.slice none 0 0) 1 24 Try.underlying80 his hs0 hs1 hs2 rfl (by decide) _ (y) (vs) rfl (HNP.out.1) ⟨wr.heap.size, 0, none⟩ 1 1 [.slice (some ⟨gb, 0, none⟩) (2 * W' + 1) cap] rfl rfl (World.news_of_block (cs := #[.slice (some ⟨gb, 0, none⟩) (2 * W' + 1) cap]) (t := 54) (fr := (0, 0)) (heap_alloc_new wr _)) (by simp [Value.oneCell']) (by unfold maxLen; omega) (by omega) (by simp; omega) ?_; intro v' wz ho2 hgr _))
          have HHa := hid (And.intro ho2 hgr)
          clear ho2 hgr
          go_roundg (2 * H' + 1 - (y + 1))
          case measure => omega
          case rel => exact ⟨y + 1, by omega, by go_num, rfl, hid (by rw [picZ_succ]; exact Nest.snoc (by rw [picZ_length]; exact HNP.out.1) HNP.out.2.1 HNP.out.2.2 (HOx.out.alloc _) (Nat.le_refl _) (by omega) (by rw [picZ_length]; exact HHa.out.1) HHa.out.2 (by decide) _ rfl), hid (bgrew (lo := w.heap.size) (bal (bbl HBr.out HBx.out) _) HHa.out.2 (fun q hq => (HNl.out q hq).1) (by omega))⟩
    · obtain rfl : y = 2 * H' + 1 := by omega
      obtain ⟨vs, hO⟩ := HO.out.outer
      rw [picZ_length] at hO
      rcases Go.Joins.ownsRow_forms hO with ⟨rfl, hn0⟩ | ⟨gb, cap, rfl⟩
      · exfalso; omega
      clear hO
      go_wp2_with fail
      go_ret
      exact ⟨⟨_, _, rfl, HO.out⟩, HBr.out⟩
set_option maxRecDepth 100000 in
set_option maxHeartbeats 4000000 in
theorem specPanelPicture_any (W H : Int) (A : Option Addr) (c : Nat) (zs : List Int) (w : World) (hz : Ints w w.heap.size A zs) (hl : zs.length ≤ maxLen) :
    Calls Try.prog 28 #[.agg #[.int .i64 W, .int .i64 H, .slice A zs.length c]] w fun e w' => (∃ A' c', e = .returned (.tuple #[.slice A' (ppN W H zs) c', .int .i64 (ppC W H zs)]) ∧ w'.ownsRow w.heap.size 9 1 (.slice A' (ppN W H zs) c') (ppN W H zs) (strs (ppL W H zs))) ∧ Below w.heap.size w w' := by
  cases hv : validB W H zs
  · have HV : Hid (ppN W H zs = 0 ∧ ppL W H zs = [] ∧ ppC W H zs = 1) := hid (by simp [ppN, ppL, ppC, hv])
    have Hv := hid hv
    clear hv
    go_enter Try.func28, Try.ntmps28
    go_wp2_with fail
    refine (qb (calls_bool (l02Ok_any _ W H A c zs _ w.heap.size (Box.new' _ _ _ _ (by simp)) (hz.below (bal (Below.refl _ _) _)) hl) Hv.out)).mono ?_
    rintro e w1 ⟨rfl, hb1⟩
    have KP1 := hid (Box.keep (Box.new w _ _) hb1)
    have HB1 : Hid (Below w.heap.size w w1) := hid (bstep (bal (Below.refl _ _) _) hb1)
    clear hb1
    obtain ⟨Pa, Pb, Pc⟩ := KP1.out.three
    have Pz := KP1.out.lt
    go_wp2_with fail
    go_ret2
    exact ⟨⟨none, 0, by rw [HV.out.1, HV.out.2.2] <;> rfl, by rw [HV.out.1, HV.out.2.1]; exact World.ownsRow_nil _ _ _ _⟩, HB1.out⟩
  · have Hs := hid (valid_sides hv)
    obtain ⟨s3, s4⟩ := side_bd Hs.out.1
    obtain ⟨s5, s6⟩ := side_bd Hs.out.2
    obtain ⟨W', rfl⟩ : ∃ n : Nat, W = n := ⟨W.toNat, by omega⟩
    obtain ⟨H', rfl⟩ : ∃ n : Nat, H = n := ⟨H.toNat, by omega⟩
    have HV : Hid (ppN W' H' zs = 2 * H' + 1 ∧ ppL W' H' zs = picS (paM W' H' zs) (2 * W' + 1) (2 * H' + 1) ∧ ppC W' H' zs = 0) := hid (by simp [ppN, ppL, ppC, hv, show (2 * (W' : Int) + 1).toNat = 2 * W' + 1 by omega, show (2 * (H' : Int) + 1).toNat = 2 * H' + 1 by omega])
    have Hv := hid hv
    clear hv
    go_enter Try.func28, Try.ntmps28
    go_wp2_with fail
    refine (qb (calls_bool (l02Ok_any _ W' H' A c zs _ w.heap.size (Box.new' _ _ _ _ (by simp)) (hz.below (bal (Below.refl _ _) _)) hl) Hv.out)).mono ?_
    rintro e w1 ⟨rfl, hb1⟩
    have KP1 := hid (Box.keep (Box.new w _ _) hb1)
    have HB1 : Hid (Below w.heap.size w w1) := hid (bstep (bal (Below.refl _ _) _) hb1)
    clear hb1
    obtain ⟨Pa, Pb, Pc⟩ := KP1.out.three
    have Pz := KP1.out.lt
    go_wp2_with fail
    refine (l05Rows_any _ W' H' A c zs _ w.heap.size HB1.out.size KP1.out (hz.below HB1.out) hl Hv.out).mono ?_
    rintro e w2 ⟨⟨g2, c2, rfl, ho2⟩, hb2⟩
    have HO2 := hid ho2
    have HB2 := hid (bbl HB1.out hb2)
    clear hb2 ho2 Pa Pb Pc Pz
    have HZ2 : Hid (Nest w2 w1.heap.size w2.heap.size 54 5 1 (.slice (some ⟨g2, 0, none⟩) (2 * H' + 1) c2) (((List.range (2 * H' + 1)).map fun y => mkRow (paM W' H' zs) y (2 * W' + 1)).map bytesV)) := hid (by have h := HO2.out; rw [show picZ (paM W' H' zs) (2 * W' + 1) (2 * H' + 1) = (((List.range (2 * H' + 1)).map fun y => mkRow (paM W' H' zs) y (2 * W' + 1)).map bytesV) by simp [picZ]] at h; exact h)
    go_wp2_with fail
    refine (l05Strings_any _ _ (2 * H' + 1) ((List.range (2 * H' + 1)).map fun y => mkRow (paM W' H' zs) y (2 * W' + 1)) w2 w1.heap.size w2.heap.size HZ2.out (by simp) (by omega)).mono ?_
    rintro e w9 ⟨⟨A9, c9, rfl, ho9⟩, hb9⟩
    have HS : Hid (((List.range (2 * H' + 1)).map fun y => mkRow (paM W' H' zs) y (2 * W' + 1)).map strOfNums = picS (paM W' H' zs) (2 * W' + 1) (2 * H' + 1)) := hid (by simp [picS])
    rw [HS.out] at ho9
    have H9 := hid (And.intro ho9 hb9)
    clear ho9 hb9
    go_wp2_with fail
    go_ret2
    refine ⟨⟨A9, c9, by rw [HV.out.1, HV.out.2.2] <;> rfl, ?_⟩, bbl HB2.out H9.out.2⟩
    rw [HV.out.1, HV.out.2.1]
    exact Go.Joins.ownsRow_le H9.out.1 HB2.out.size
end Go.Proofs.Ytgcgaoblbhojnaa

/- The walk of FnMeetings. -/
import Derived.Test.YtbgigompkmnapaaMf
import Derived.Test.YtbgigompkmnapaaCu
import Derived.Test.YtbgigompkmnapaaPa
import Derived.Test.YtbgigompkmnapaaSf
import Derived.Test.YtbgigompkmnapaaDa
import Derived.Test.YtbgigompkmnapaaAu
import Derived.Test.YtbgigompkmnapaaQm
import Derived.Test.YtbgigompkmnapaaRg
import Derived.BigRegion
import Derived.RegionTactic
import Derived.Deep.RegionHeld3
namespace Go.Proofs.Ytbgigompkmnapaa
set_option linter.unusedSimpArgs false
set_option linter.unusedVariables false
open Go.ChangeShapes Go.WideShapes Go.ChangeAt Go.RowKit
set_option maxHeartbeats 1000000 in
theorem a2AtD_any (A : Option Addr) (n c B : Nat) (bs : List Int) (at' m : Int) (hn : bs.length = n) (h0 : 0 ≤ at') (h1 : at' ≤ 1000) (hm : 1 ≤ m) (hm2 : m ≤ 1000000) (w0 : World) (hb0 : BytesR w0 B A bs) :
    ∃ r : Int, (0 ≤ r ∧ r ≤ m - 1) ∧ ∀ w, BytesR w B A bs → Calls Try.prog 37 #[.slice A n c, .int .i64 at', .int .i64 m] w fun e w' => e = .returned (.int .i64 r) ∧ w = w' := by
  obtain ⟨i, rfl⟩ : ∃ i : Nat, at' = (i : Int) := ⟨at'.toNat, by omega⟩
  have HN := hid hn
  clear hn
  by_cases hlt : i < n
  · obtain ⟨z, hz⟩ : ∃ z, bs[i]? = some z := ⟨_, List.getElem?_eq_getElem (by have := HN.out; omega)⟩
    obtain ⟨⟨z0, z1⟩, -⟩ := hb0 i z hz
    have hmod : 0 ≤ z % m ∧ z % m ≤ m - 1 := ⟨Int.emod_nonneg _ (by omega), by have := Int.emod_lt_of_pos z (show 0 < m by omega); omega⟩
    obtain ⟨r, hr⟩ : ∃ r, z % m = r := ⟨_, rfl⟩
    have hr2 : Int.tmod z m = r := by rw [Int.tmod_eq_emod_of_nonneg z0]; exact hr
    rw [hr] at hmod
    refine ⟨r, hmod, ?_⟩
    intro w hb
    obtain ⟨-, bb, off, rfl, hbb, hcc⟩ := hb i z hz
    clear hz hb hb0
    obtain ⟨r1, r2⟩ := hmod
    have hm0 : ¬ (m = 0) := by omega
    clear hr
    go_enter Try.func37, Try.ntmps37
    go_wp2_with fail
    go_ret
    exact ⟨rfl, rfl⟩
  · refine ⟨0, ⟨by omega, by omega⟩, ?_⟩
    intro w hb
    clear hb hb0
    go_enter Try.func37, Try.ntmps37
    go_wp2_with fail
    go_ret
    exact ⟨rfl, rfl⟩
set_option maxRecDepth 100000 in
set_option maxHeartbeats 1600000 in
theorem fnMeetings_walk (w : World) (A0 : Option Addr) (c0 : Nat) (bs0 : List Int) (hl0 : bs0.length ≤ maxLen) (hz0 : BytesR w w.heap.size A0 bs0) (_ : True)
    (A1 : Option Addr) (c1 : Nat) (bs1 : List Int) (hl1 : bs1.length ≤ maxLen) (hz1 : BytesR w w.heap.size A1 bs1) (_ : True)
    : Calls Try.prog 10 #[.slice A0 bs0.length c0, .slice A1 bs1.length c1] w fun e w' => e = .returned (.bool true) ∧ Below w.heap.size w w' := by
  obtain ⟨n0, hn0⟩ : ∃ n, bs0.length = n := ⟨_, rfl⟩
  rw [hn0] at hl0 ⊢
  have HN0 := hid hn0
  have HZ0 := hid hz0
  clear hn0 hz0
  obtain ⟨n1, hn1⟩ : ∃ n, bs1.length = n := ⟨_, rfl⟩
  rw [hn1] at hl1 ⊢
  have HN1 := hid hn1
  have HZ1 := hid hz1
  clear hn1 hz1
  cases hlg : lgB n0 n1
  case true =>
    have HLG := hid hlg
    clear hlg
    go_enter Try.func10, Try.ntmps10
    go_wp2_with fail
    refine (calls_bool (a2Long_any A0 A1 n0 n1 c0 c1 w hl0 hl1) HLG.out).mono ?_
    rintro e w' ⟨rfl, rfl⟩
    go_wp2_with fail
    go_ret
    exact ⟨rfl, Below.refl _ _⟩
  have HLG := hid hlg
  have hn5 := lg_no hlg
  clear hlg
  go_enter Try.func10, Try.ntmps10
  go_wp2_with fail
  refine (calls_bool (a2Long_any A0 A1 n0 n1 c0 c1 w hl0 hl1) HLG.out).mono ?_
  rintro e w' ⟨rfl, rfl⟩
  go_wp2_with fail
  refine (A2Panel_any A0 n0 c0 bs0 w HN0.out HZ0.out (by omega)).mono ?_
  rintro e w1 ⟨W, H, zs, A, c, ⟨hv, hW5, hH5⟩, rfl, ho1, hb1⟩
  have HV := hid hv
  have hwb := side_bd (valid_sides hv).1
  have hhb := side_bd (valid_sides hv).2
  have hlen := valid_len hv
  have hile := inner_le (valid_sides hv).1 (valid_sides hv).2
  have hlz : zs.length ≤ maxLen := by unfold maxLen; omega
  have HO1 : Hid (OwnI w1 w.heap.size (.slice A zs.length c) zs) := hid ho1
  have HB1 := hid hb1
  clear hv ho1 hb1
  obtain ⟨N, f, hM⟩ := meet_facts HV.out
  obtain ⟨hF, ⟨hN, hT⟩, hS, hC⟩ := hM
  have HF := hid hF
  have HS := hid hS
  have HC := hid hC
  clear hF hS hC hlen hile
  go_wp2_with fail
  obtain ⟨w2, hw2⟩ : ∃ zz : World, zz = w1.alloc (.cells #[.int .i64 W, .int .i64 H, .slice A zs.length c] 30) := ⟨_, rfl⟩
  rw [← hw2]
  have HO2 : Hid (OwnI w2 w.heap.size (.slice A zs.length c) zs) := hid (by rw [hw2]; exact (HO1.out.alloc _))
  have HB2 : Hid (Below w.heap.size w w2) := hid (by rw [hw2]; exact (bal HB1.out _))
  have KP2 : Hid (Box w2 w1.heap.size 30 #[.int .i64 W, .int .i64 H, .slice A zs.length c]) := hid (by rw [hw2]; exact (Box.new _ _ _))
  obtain ⟨bk2, hbk2⟩ : ∃ b, b = w1.heap.size := ⟨_, rfl⟩
  rw [← hbk2] at KP2 ⊢
  have oB2 : w.heap.size ≤ bk2 := by rw [hbk2]; exact HB1.out.size
  clear hw2 hbk2 HO1 HB1
  obtain ⟨Pa, Pb, Pc⟩ := KP2.out.three
  have Pz := KP2.out.lt
  refine (specCountCurves_any W H A c zs  _ (OwnI.ints HO2.out) hlz ).mono ?_
  rintro e w3 ⟨he, hb3⟩
  rw [HF.out.1, HF.out.2.1] at he
  subst he
  clear Pa Pb Pc Pz
  have KP3 : Hid (Box w3 bk2 30 #[.int .i64 W, .int .i64 H, .slice A zs.length c]) := hid (Box.keep KP2.out hb3)
  have HO3 : Hid (OwnI w3 w.heap.size (.slice A zs.length c) zs) := hid (OwnI.keep HO2.out hb3)
  have HB3 : Hid (Below w.heap.size w w3) := hid (bbl HB2.out hb3)
  clear hb3 KP2 HO2 HB2
  obtain ⟨Pa, Pb, Pc⟩ := KP3.out.three
  have Pz := KP3.out.lt
  go_wp2_with fail
  refine (specCountBreaks_any W H A c zs 0 _ (OwnI.ints HO3.out) hlz (wf64M (by omega) (by omega))).mono ?_
  rintro e w4 ⟨he, hb4⟩
  rw [HF.out.2.2.1, HF.out.2.2.2] at he
  subst he
  clear Pa Pb Pc Pz
  have KP4 : Hid (Box w4 bk2 30 #[.int .i64 W, .int .i64 H, .slice A zs.length c]) := hid (Box.keep KP3.out hb4)
  have HO4 : Hid (OwnI w4 w.heap.size (.slice A zs.length c) zs) := hid (OwnI.keep HO3.out hb4)
  have HB4 : Hid (Below w.heap.size w w4) := hid (bbl HB3.out hb4)
  clear hb4 KP3 HO3 HB3
  obtain ⟨Pa, Pb, Pc⟩ := KP4.out.three
  have Pz := KP4.out.lt
  go_wp2_with fail
  clear Pa Pb Pc Pz
  go_loopg [10, 11] N (fun g s a wr => ∃ j : Nat, j ≤ N ∧ s = .int .i64 (pairS f j : Nat) ∧ a = .int .i64 j ∧ g = N - j ∧ Hid (Box wr bk2 30 #[.int .i64 W, .int .i64 H, .slice A zs.length c]) ∧ Hid (OwnI wr w.heap.size (.slice A zs.length c) zs) ∧ Hid (Below w.heap.size w wr))
  case atStart => exact ⟨0, Nat.zero_le _, rfl, rfl, rfl, KP4, HO4, HB4⟩
  case round =>
    clear KP4 HO4 HB4
    obtain ⟨j, hj, rfl, rfl, hg, KP, HO, HB⟩ := hrel
    obtain ⟨wo, rfl⟩ : ∃ z, z = wr := ⟨_, rfl⟩
    by_cases hlt : j < N
    · obtain ⟨hs1, hs2⟩ := HS.out j hlt
      have HSJ := hid (And.intro hs1 hs2)
      clear hs1 hs2
      have HPL := hid (fun k (hk : k ≤ j) => part_le f hlt hk)
      have hp0 := HPL.out 0 (Nat.zero_le _)
      simp only [rowS, Nat.add_zero] at hp0
      obtain ⟨P, hP⟩ : ∃ P, pairS f j = P := ⟨_, rfl⟩
      obtain ⟨D, hD⟩ : ∃ D, f j j = D := ⟨_, rfl⟩
      rw [hP, hD] at hp0 HPL
      rw [hD] at HSJ
      rw [hP]
      have HPD := hid (And.intro hP hD)
      clear hP hD
      have hnn : ¬ ((D : Int) < 0) := by omega
      obtain ⟨Pa, Pb, Pc⟩ := KP.out.three
      have Pz := KP.out.lt
      go_wp2_with fail
      refine (implSelfCrossings_any W H A c zs (j : Int) _ (OwnI.ints HO.out) hlz (wf64M (by omega) (by omega))).mono ?_
      rintro e w5 ⟨he, hb5⟩
      rw [HSJ.out.1, HSJ.out.2] at he
      subst he
      clear Pa Pb Pc Pz
      have KP5 : Hid (Box w5 bk2 30 #[.int .i64 W, .int .i64 H, .slice A zs.length c]) := hid (Box.keep KP.out hb5)
      have HO5 : Hid (OwnI w5 w.heap.size (.slice A zs.length c) zs) := hid (OwnI.keep HO.out hb5)
      have HB5 : Hid (Below w.heap.size w w5) := hid (bbl HB.out hb5)
      clear hb5 KP HO HB
      obtain ⟨Pa, Pb, Pc⟩ := KP5.out.three
      have Pz := KP5.out.lt
      go_wp2_with fail
      clear Pa Pb Pc Pz
      go_loopg [10, 14] j (fun g s b wx => ∃ k : Nat, k ≤ j ∧ s = .int .i64 (P + D + rowS f j k : Nat) ∧ b = .int .i64 k ∧ g = j - k ∧ Hid (Box wx bk2 30 #[.int .i64 W, .int .i64 H, .slice A zs.length c]) ∧ Hid (OwnI wx w.heap.size (.slice A zs.length c) zs) ∧ Hid (Below w.heap.size w wx))
      case atStart => exact ⟨0, Nat.zero_le _, by simp [rowS], rfl, rfl, KP5, HO5, HB5⟩
      case round =>
        clear hnn KP5 HO5 HB5
        obtain ⟨k, hk, rfl, rfl, hg2, KP, HO, HB⟩ := hrel
        by_cases hlk : k < j
        · obtain ⟨hc1, hc2, hc3⟩ := HC.out j k hlt hlk
          have hpk := HPL.out (k + 1) (by omega)
          simp only [rowS] at hpk
          obtain ⟨X, hX⟩ : ∃ X, f j k = X := ⟨_, rfl⟩
          rw [hX] at hc1 hc3 hpk
          obtain ⟨R, hR⟩ : ∃ R, P + D + rowS f j k = R := ⟨_, rfl⟩
          have HE : Hid (P + D + rowS f j (k + 1) = R + X) := hid (by simp only [rowS]; omega)
          rw [hR]
          have hm2 : Int.tmod (X : Int) 2 = 0 := by rw [Int.tmod_eq_emod_of_nonneg (by omega)]; omega
          have hnx : ¬ ((X : Int) < 0) := by omega
          have hrb : R ≤ 200 ∧ X ≤ 200 := by omega
          have HCM := hid (And.intro hc1 hc2)
          clear hc1 hc2 hc3 hX hR hpk
          obtain ⟨Pa, Pb, Pc⟩ := KP.out.three
          have Pz := KP.out.lt
          go_wp2_with fail
          refine (implCommonCrossings_any W H A c zs (j : Int) (k : Int) _ (OwnI.ints HO.out) hlz (wf64M (by omega) (by omega)) (wf64M (by omega) (by omega))).mono ?_
          rintro e w6 ⟨he, hb6⟩
          rw [HCM.out.1, HCM.out.2] at he
          subst he
          clear Pa Pb Pc Pz
          have KP6 : Hid (Box w6 bk2 30 #[.int .i64 W, .int .i64 H, .slice A zs.length c]) := hid (Box.keep KP.out hb6)
          have HO6 : Hid (OwnI w6 w.heap.size (.slice A zs.length c) zs) := hid (OwnI.keep HO.out hb6)
          have HB6 : Hid (Below w.heap.size w w6) := hid (bbl HB.out hb6)
          clear hb6 KP HO HB
          obtain ⟨Pa, Pb, Pc⟩ := KP6.out.three
          have Pz := KP6.out.lt
          go_wp2_with fail
          go_roundg (j - (k + 1))
          case measure => omega
          case rel => exact ⟨k + 1, by omega, by rw [HE.out]; go_num, by go_num, rfl, KP6, HO6, HB6⟩
        · obtain ⟨nn, hnn⟩ : ∃ nn, nn = j := ⟨_, rfl⟩
          obtain rfl : k = j := by omega
          clear hnn hlk hk
          have HE : Hid (pairS f (k + 1) = P + D + rowS f k k) := hid (by simp only [pairS]; rw [HPD.out.1, HPD.out.2])
          obtain ⟨R, hR⟩ : ∃ R, P + D + rowS f k k = R := ⟨_, rfl⟩
          rw [hR] at HE ⊢
          clear hR
          obtain ⟨Pa, Pb, Pc⟩ := KP.out.three
          have Pz := KP.out.lt
          go_wp2_with fail
          go_roundg (N - (k + 1))
          case measure => omega
          case rel => exact ⟨k + 1, by omega, by rw [HE.out], by go_num, rfl, KP, HO, HB⟩
    · obtain ⟨nn, hnn⟩ : ∃ nn, nn = N := ⟨_, rfl⟩
      obtain rfl : j = N := by omega
      clear hnn hlt hj
      obtain ⟨P, hP⟩ : ∃ P, pairS f j = P := ⟨_, rfl⟩
      rw [hP] at hT ⊢
      clear hP
      by_cases hzz : zs.length = 0
      · have hzi : (zs.length : Int) = 0 := by omega
        obtain ⟨Pa, Pb, Pc⟩ := KP.out.three
        have Pz := KP.out.lt
        go_wp2_with fail
        go_ret
        exact ⟨rfl, HB.out⟩
      have hzi : ¬ ((zs.length : Int) = 0) := by omega
      have hzl : zs.length ≤ 200 := by have := valid_len HV.out; have := inner_le (valid_sides HV.out).1 (valid_sides HV.out).2; omega
      obtain ⟨r, ⟨r1, r2⟩, hat⟩ := a2AtD_any A1 n1 c1 w.heap.size bs1 0 (zs.length : Int) HN1.out (by omega) (by omega) (by omega) (by omega) w HZ1.out
      have HAT := hid hat
      clear hat
      obtain ⟨x, y, q, d, ⟨x0, x1, y0, y1, q0, q1, d0, d1⟩, hpt, hco, hsg, hca, hth⟩ := at_facts HV.out r1 r2
      have HPT := hid hpt
      have HCO := hid hco
      have HSG := hid hsg
      have HCA := hid hca
      clear hpt hco hsg hca
      obtain ⟨Pa, Pb, Pc⟩ := KP.out.three
      have Pz := KP.out.lt
      go_wp2_with fail
      clear Pa Pb Pc Pz
      go_cut [17, 18] (fun s17 s18 wz => ∃ bb : Nat, s17 = .pointer (some ⟨bb, 0, none⟩) ∧ s18 = .int .i64 0 ∧ Hid (Below w.heap.size w wz) ∧ Hid (Box wz bb 32 #[.int .i64 x, .int .i64 y]) ∧ Hid (Box wz (bk2) 30 #[.int .i64 W, .int .i64 H, .slice A zs.length c]) ∧ Hid (OwnI wz w.heap.size (.slice A zs.length c) zs))
      case first =>
        obtain ⟨Pa, Pb, Pc⟩ := KP.out.three
        have Pz := KP.out.lt
        go_region_held3 (fun zz => zz.cell? ⟨bk2, 0, none⟩ = some (.int .i64 W) ∧ zz.cell? ⟨bk2, 1, none⟩ = some (.int .i64 H) ∧ zz.cell? ⟨bk2, 2, none⟩ = some (.slice A zs.length c))
          (first | exact ⟨(Box.three (show Box _ (bk2) 30 #[.int .i64 W, .int .i64 H, .slice A zs.length c] from (by (repeat (with_reducible first | assumption | exact Hid.out (by assumption) | exact Box.new' _ _ _ _ (by simp) | refine Box.alloc ?_ _ | refine Box.drew ?_ | refine Box.drewN ?_ _ | exact Box.put4 (Hid.out (by assumption)) | exact Box.put3 (Hid.out (by assumption)) | exact Box.put2 (Hid.out (by assumption)) | refine Box.far ?_ (by (repeat (with_reducible first | exact Hid.out (by assumption) | exact Box.new' _ _ _ _ (by simp) | refine Box.alloc ?_ _ | refine Box.drew ?_ | refine Box.keep ?_ (Hid.out (by assumption))))) _ _ | refine Box.keep ?_ (Hid.out (by assumption))))))).1, (Box.three (show Box _ (bk2) 30 #[.int .i64 W, .int .i64 H, .slice A zs.length c] from (by (repeat (with_reducible first | assumption | exact Hid.out (by assumption) | exact Box.new' _ _ _ _ (by simp) | refine Box.alloc ?_ _ | refine Box.drew ?_ | refine Box.drewN ?_ _ | exact Box.put4 (Hid.out (by assumption)) | exact Box.put3 (Hid.out (by assumption)) | exact Box.put2 (Hid.out (by assumption)) | refine Box.far ?_ (by (repeat (with_reducible first | exact Hid.out (by assumption) | exact Box.new' _ _ _ _ (by simp) | refine Box.alloc ?_ _ | refine Box.drew ?_ | refine Box.keep ?_ (Hid.out (by assumption))))) _ _ | refine Box.keep ?_ (Hid.out (by assumption))))))).2.1, (Box.three (show Box _ (bk2) 30 #[.int .i64 W, .int .i64 H, .slice A zs.length c] from (by (repeat (with_reducible first | assumption | exact Hid.out (by assumption) | exact Box.new' _ _ _ _ (by simp) | refine Box.alloc ?_ _ | refine Box.drew ?_ | refine Box.drewN ?_ _ | exact Box.put4 (Hid.out (by assumption)) | exact Box.put3 (Hid.out (by assumption)) | exact Box.put2 (Hid.out (by assumption)) | refine Box.far ?_ (by (repeat (with_reducible first | exact Hid.out (by assumption) | exact Box.new' _ _ _ _ (by simp) | refine Box.alloc ?_ _ | refine Box.drew ?_ | refine Box.keep ?_ (Hid.out (by assumption))))) _ _ | refine Box.keep ?_ (Hid.out (by assumption))))))).2.2⟩)
          (first | (go_at_call 37; refine (HAT.out _ (HZ1.out.below (by (repeat (with_reducible first | assumption | exact Hid.out (by assumption) | exact Below.refl _ _ | refine bal ?_ _ | refine Below.drew ?_ | refine bel_far ?_ (by (repeat (with_reducible first | assumption | exact Hid.out (by assumption) | exact Below.refl _ _ | refine bal ?_ _ | refine Below.drew ?_ | refine bstep ?_ (Hid.out (by assumption))))) _ _ | refine bstep ?_ (Hid.out (by assumption))))))).mono ?_; rintro e w' ⟨rfl, rfl⟩) | (go_at_call 46; refine (specPointAt_any W H A c zs r _ (own_ints (w := w) (n := zs.length) (c := c) (by (repeat (with_reducible first | assumption | exact Hid.out (by assumption) | refine OwnI.alloc ?_ _ | refine OwnI.far ?_ (by (repeat (with_reducible first | exact Hid.out (by assumption) | refine OwnI.alloc ?_ _ | refine OwnI.drew ?_ | refine OwnI.keep ?_ (Hid.out (by assumption))))) _ _ | refine OwnI.drew ?_ | refine OwnI.keep ?_ (Hid.out (by assumption)))))) hlz (wf64M (by omega) (by omega))).mono ?_; rintro e w90 ⟨he, hb90⟩; rw [HPT.out.1, HPT.out.2.1, HPT.out.2.2] at he; subst he; have HB90 := hid hb90; (first | (have KZ90 := hid (box_of_alloc hb90)) | (have KZ90 := hid (box_of_alloc' hb90)) | skip); (try (obtain ⟨za90, zb90⟩ := KZ90.out.two; have zf90 := KZ90.out.free)); clear hb90))
        all_goals (try go_wp2_with fail)
        all_goals go_meet
        all_goals (exact ⟨_, rfl, rfl, hid (by (repeat (with_reducible first | assumption | exact Hid.out (by assumption) | exact Below.refl _ _ | refine bal ?_ _ | refine Below.drew ?_ | refine bel_far ?_ (by (repeat (with_reducible first | assumption | exact Hid.out (by assumption) | exact Below.refl _ _ | refine bal ?_ _ | refine Below.drew ?_ | refine bstep ?_ (Hid.out (by assumption))))) _ _ | refine bstep ?_ (Hid.out (by assumption))))), hid (by (repeat (with_reducible first | assumption | exact Hid.out (by assumption) | exact Box.new' _ _ _ _ (by simp) | refine Box.alloc ?_ _ | refine Box.drew ?_ | refine Box.drewN ?_ _ | exact Box.put4 (Hid.out (by assumption)) | exact Box.put3 (Hid.out (by assumption)) | exact Box.put2 (Hid.out (by assumption)) | refine Box.far ?_ (by (repeat (with_reducible first | exact Hid.out (by assumption) | exact Box.new' _ _ _ _ (by simp) | refine Box.alloc ?_ _ | refine Box.drew ?_ | refine Box.keep ?_ (Hid.out (by assumption))))) _ _ | refine Box.keep ?_ (Hid.out (by assumption))))), hid (by (repeat (with_reducible first | assumption | exact Hid.out (by assumption) | exact Box.new' _ _ _ _ (by simp) | refine Box.alloc ?_ _ | refine Box.drew ?_ | refine Box.drewN ?_ _ | exact Box.put4 (Hid.out (by assumption)) | exact Box.put3 (Hid.out (by assumption)) | exact Box.put2 (Hid.out (by assumption)) | refine Box.far ?_ (by (repeat (with_reducible first | exact Hid.out (by assumption) | exact Box.new' _ _ _ _ (by simp) | refine Box.alloc ?_ _ | refine Box.drew ?_ | refine Box.keep ?_ (Hid.out (by assumption))))) _ _ | refine Box.keep ?_ (Hid.out (by assumption))))), hid (by (repeat (with_reducible first | assumption | exact Hid.out (by assumption) | refine OwnI.alloc ?_ _ | refine OwnI.far ?_ (by (repeat (with_reducible first | exact Hid.out (by assumption) | refine OwnI.alloc ?_ _ | refine OwnI.drew ?_ | refine OwnI.keep ?_ (Hid.out (by assumption))))) _ _ | refine OwnI.drew ?_ | refine OwnI.keep ?_ (Hid.out (by assumption)))))⟩)
      clear KP HO HB
      obtain ⟨bb, rfl, rfl, HB, KT, KP, HO⟩ := hcut
      obtain ⟨w5, hw5⟩ : ∃ zz : World, zz = wc := ⟨_, rfl⟩
      subst hw5
      rcases hth with hth | ⟨d2, e0, e1, hth⟩ | ⟨d2, e0, e1, hth⟩
      · have hthn : thN W H zs x y = 1 := by unfold thN; rw [hth]; rfl
        have HTH := hid (And.intro hthn hth)
        clear hthn hth
        obtain ⟨Pa, Pb, Pc⟩ := KP.out.three
        have Pz := KP.out.lt
        obtain ⟨Ta, Tb⟩ := KT.out.two
        have Tz := KT.out.lt
        go_wp2_with fail
        refine (implCurvesThrough_any W H A c zs x y _ (OwnI.ints HO.out) hlz (wf64M (by omega) (by omega)) (wf64M (by omega) (by omega))).mono ?_
        rintro e w6 ⟨⟨A9, c9, he, ho9⟩, hb6⟩
        rw [HTH.out.1, HCO.out] at he
        rw [HTH.out.1, HTH.out.2] at ho9
        subst he
        clear Pa Pb Pc Pz Ta Tb Tz
        have hlo := HB.out.size
        have KP6 : Hid (Box w6 bk2 30 #[.int .i64 W, .int .i64 H, .slice A zs.length c]) := hid (Box.keep KP.out hb6)
        have KT6 : Hid (Box w6 bb 32 #[.int .i64 x, .int .i64 y]) := hid (Box.keep KT.out hb6)
        have HO6 : Hid (OwnI w6 w.heap.size (.slice A zs.length c) zs) := hid (OwnI.keep HO.out hb6)
        have HB6 : Hid (Below w.heap.size w w6) := hid (bbl HB.out hb6)
        obtain ⟨gl, cl, el⟩ := Go.Joins.ownsRow_form ho9 (by omega)
        simp only [Value.slice.injEq] at el
        obtain ⟨rfl, -, rfl⟩ := el
        have HL6 : Hid (w6.ownsRow w.heap.size 2 1 (.slice (some ⟨gl, 0, none⟩) 1 c9) 1 (vals [d])) := hid (Go.Joins.ownsRow_le ho9 hlo)
        clear ho9 hlo hb6 KP KT HO HB
        obtain ⟨Pa, Pb, Pc⟩ := KP6.out.three
        have Pz := KP6.out.lt
        obtain ⟨Ta, Tb⟩ := KT6.out.two
        have Tz := KT6.out.lt
        have cl0 : w6.cell? ⟨gl, 0, none⟩ = some (.int .i64 d) := (World.ownsRow.cellAt HL6.out 0 (by omega)).trans (by simp [vals])
        have hgl := (World.ownsRow.lt HL6.out gl rfl).2
        go_wp2_with fail
        refine (specSegmentOf_any W H A c zs x y 1 1 _ (OwnI.ints HO6.out) hlz (wf64M (by omega) (by omega)) (wf64M (by omega) (by omega)) (wf64M (by omega) (by omega)) (wf64M (by omega) (by omega))).mono ?_
        rintro e w7 ⟨he, hb7⟩
        rw [HSG.out.1, HSG.out.2] at he
        subst he
        clear Pa Pb Pc Pz Ta Tb Tz cl0 hgl
        have KP7 : Hid (Box w7 bk2 30 #[.int .i64 W, .int .i64 H, .slice A zs.length c]) := hid (Box.keep KP6.out hb7)
        have KT7 : Hid (Box w7 bb 32 #[.int .i64 x, .int .i64 y]) := hid (Box.keep KT6.out hb7)
        have HO7 : Hid (OwnI w7 w.heap.size (.slice A zs.length c) zs) := hid (OwnI.keep HO6.out hb7)
        have HL7 : Hid (w7.ownsRow w.heap.size 2 1 (.slice (some ⟨gl, 0, none⟩) 1 c9) 1 (vals [d])) := hid (own_keep HL6.out hb7)
        have HB7 : Hid (Below w.heap.size w w7) := hid (bbl HB6.out hb7)
        clear hb7 KP6 KT6 HO6 HL6 HB6
        obtain ⟨Pa, Pb, Pc⟩ := KP7.out.three
        have Pz := KP7.out.lt
        obtain ⟨Ta, Tb⟩ := KT7.out.two
        have Tz := KT7.out.lt
        have cl0 : w7.cell? ⟨gl, 0, none⟩ = some (.int .i64 d) := (World.ownsRow.cellAt HL7.out 0 (by omega)).trans (by simp [vals])
        have hgl := (World.ownsRow.lt HL7.out gl rfl).2
        go_wp2_with fail
        refine (implCurveAt_any W H A c zs q _ (OwnI.ints HO7.out) hlz (wf64M (by omega) (by omega))).mono ?_
        rintro e w8 ⟨he, hb8⟩
        rw [HCA.out.1, HCA.out.2] at he
        subst he
        clear Pa Pb Pc Pz Ta Tb Tz cl0 hgl
        have KP8 : Hid (Box w8 bk2 30 #[.int .i64 W, .int .i64 H, .slice A zs.length c]) := hid (Box.keep KP7.out hb8)
        have KT8 : Hid (Box w8 bb 32 #[.int .i64 x, .int .i64 y]) := hid (Box.keep KT7.out hb8)
        have HO8 : Hid (OwnI w8 w.heap.size (.slice A zs.length c) zs) := hid (OwnI.keep HO7.out hb8)
        have HL8 : Hid (w8.ownsRow w.heap.size 2 1 (.slice (some ⟨gl, 0, none⟩) 1 c9) 1 (vals [d])) := hid (own_keep HL7.out hb8)
        have HB8 : Hid (Below w.heap.size w w8) := hid (bbl HB7.out hb8)
        clear hb8 KP7 KT7 HO7 HL7 HB7
        obtain ⟨Pa, Pb, Pc⟩ := KP8.out.three
        have Pz := KP8.out.lt
        obtain ⟨Ta, Tb⟩ := KT8.out.two
        have Tz := KT8.out.lt
        have cl0 : w8.cell? ⟨gl, 0, none⟩ = some (.int .i64 d) := (World.ownsRow.cellAt HL8.out 0 (by omega)).trans (by simp [vals])
        have hgl := (World.ownsRow.lt HL8.out gl rfl).2
        go_wp2_with fail
        refine wp_region_mix w8.heap.size (by kernel_rfl) (by kernel_rfl) ?_
        repeat (any_goals (go_big_quiet_step (fail)))
        refine wpQuiet_nil ?_
        intro w9 hx9
        have hb9 : Below _ _ w9 := mix_ex hx9
        clear hx9
        clear Pa Pb Pc Pz Ta Tb Tz cl0 hgl
        have KP9 : Hid (Box w9 bk2 30 #[.int .i64 W, .int .i64 H, .slice A zs.length c]) := hid (Box.keep KP8.out hb9)
        have KT9 : Hid (Box w9 bb 32 #[.int .i64 x, .int .i64 y]) := hid (Box.keep KT8.out hb9)
        have HO9 : Hid (OwnI w9 w.heap.size (.slice A zs.length c) zs) := hid (OwnI.keep HO8.out hb9)
        have HL9 : Hid (w9.ownsRow w.heap.size 2 1 (.slice (some ⟨gl, 0, none⟩) 1 c9) 1 (vals [d])) := hid (own_keep HL8.out hb9)
        have HB9 : Hid (Below w.heap.size w w9) := hid (bbl HB8.out hb9)
        clear hb9 KP8 KT8 HO8 HL8 HB8
        obtain ⟨Pa, Pb, Pc⟩ := KP9.out.three
        have Pz := KP9.out.lt
        obtain ⟨Ta, Tb⟩ := KT9.out.two
        have Tz := KT9.out.lt
        have cl0 : w9.cell? ⟨gl, 0, none⟩ = some (.int .i64 d) := (World.ownsRow.cellAt HL9.out 0 (by omega)).trans (by simp [vals])
        have hgl := (World.ownsRow.lt HL9.out gl rfl).2
        go_wp2_with fail
        go_ret
        exact ⟨rfl, HB9.out⟩
      · have hthn : thN W H zs x y = 2 := by unfold thN; rw [hth]; rfl
        have HTH := hid (And.intro hthn hth)
        clear hthn hth
        obtain ⟨Pa, Pb, Pc⟩ := KP.out.three
        have Pz := KP.out.lt
        obtain ⟨Ta, Tb⟩ := KT.out.two
        have Tz := KT.out.lt
        go_wp2_with fail
        refine (implCurvesThrough_any W H A c zs x y _ (OwnI.ints HO.out) hlz (wf64M (by omega) (by omega)) (wf64M (by omega) (by omega))).mono ?_
        rintro e w6 ⟨⟨A9, c9, he, ho9⟩, hb6⟩
        rw [HTH.out.1, HCO.out] at he
        rw [HTH.out.1, HTH.out.2] at ho9
        subst he
        clear Pa Pb Pc Pz Ta Tb Tz
        have hlo := HB.out.size
        have KP6 : Hid (Box w6 bk2 30 #[.int .i64 W, .int .i64 H, .slice A zs.length c]) := hid (Box.keep KP.out hb6)
        have KT6 : Hid (Box w6 bb 32 #[.int .i64 x, .int .i64 y]) := hid (Box.keep KT.out hb6)
        have HO6 : Hid (OwnI w6 w.heap.size (.slice A zs.length c) zs) := hid (OwnI.keep HO.out hb6)
        have HB6 : Hid (Below w.heap.size w w6) := hid (bbl HB.out hb6)
        obtain ⟨gl, cl, el⟩ := Go.Joins.ownsRow_form ho9 (by omega)
        simp only [Value.slice.injEq] at el
        obtain ⟨rfl, -, rfl⟩ := el
        have HL6 : Hid (w6.ownsRow w.heap.size 2 1 (.slice (some ⟨gl, 0, none⟩) 2 c9) 2 (vals [d, d2])) := hid (Go.Joins.ownsRow_le ho9 hlo)
        clear ho9 hlo hb6 KP KT HO HB
        obtain ⟨Pa, Pb, Pc⟩ := KP6.out.three
        have Pz := KP6.out.lt
        obtain ⟨Ta, Tb⟩ := KT6.out.two
        have Tz := KT6.out.lt
        have cl0 : w6.cell? ⟨gl, 0, none⟩ = some (.int .i64 d) := (World.ownsRow.cellAt HL6.out 0 (by omega)).trans (by simp [vals])
        have cl1 : w6.cell? ⟨gl, 1, none⟩ = some (.int .i64 d2) := (World.ownsRow.cellAt HL6.out 1 (by omega)).trans (by simp [vals])
        have hgl := (World.ownsRow.lt HL6.out gl rfl).2
        go_wp2_with fail
        refine (specSegmentOf_any W H A c zs x y 1 1 _ (OwnI.ints HO6.out) hlz (wf64M (by omega) (by omega)) (wf64M (by omega) (by omega)) (wf64M (by omega) (by omega)) (wf64M (by omega) (by omega))).mono ?_
        rintro e w7 ⟨he, hb7⟩
        rw [HSG.out.1, HSG.out.2] at he
        subst he
        clear Pa Pb Pc Pz Ta Tb Tz cl0 cl1 hgl
        have KP7 : Hid (Box w7 bk2 30 #[.int .i64 W, .int .i64 H, .slice A zs.length c]) := hid (Box.keep KP6.out hb7)
        have KT7 : Hid (Box w7 bb 32 #[.int .i64 x, .int .i64 y]) := hid (Box.keep KT6.out hb7)
        have HO7 : Hid (OwnI w7 w.heap.size (.slice A zs.length c) zs) := hid (OwnI.keep HO6.out hb7)
        have HL7 : Hid (w7.ownsRow w.heap.size 2 1 (.slice (some ⟨gl, 0, none⟩) 2 c9) 2 (vals [d, d2])) := hid (own_keep HL6.out hb7)
        have HB7 : Hid (Below w.heap.size w w7) := hid (bbl HB6.out hb7)
        clear hb7 KP6 KT6 HO6 HL6 HB6
        obtain ⟨Pa, Pb, Pc⟩ := KP7.out.three
        have Pz := KP7.out.lt
        obtain ⟨Ta, Tb⟩ := KT7.out.two
        have Tz := KT7.out.lt
        have cl0 : w7.cell? ⟨gl, 0, none⟩ = some (.int .i64 d) := (World.ownsRow.cellAt HL7.out 0 (by omega)).trans (by simp [vals])
        have cl1 : w7.cell? ⟨gl, 1, none⟩ = some (.int .i64 d2) := (World.ownsRow.cellAt HL7.out 1 (by omega)).trans (by simp [vals])
        have hgl := (World.ownsRow.lt HL7.out gl rfl).2
        go_wp2_with fail
        refine (implCurveAt_any W H A c zs q _ (OwnI.ints HO7.out) hlz (wf64M (by omega) (by omega))).mono ?_
        rintro e w8 ⟨he, hb8⟩
        rw [HCA.out.1, HCA.out.2] at he
        subst he
        clear Pa Pb Pc Pz Ta Tb Tz cl0 cl1 hgl
        have KP8 : Hid (Box w8 bk2 30 #[.int .i64 W, .int .i64 H, .slice A zs.length c]) := hid (Box.keep KP7.out hb8)
        have KT8 : Hid (Box w8 bb 32 #[.int .i64 x, .int .i64 y]) := hid (Box.keep KT7.out hb8)
        have HO8 : Hid (OwnI w8 w.heap.size (.slice A zs.length c) zs) := hid (OwnI.keep HO7.out hb8)
        have HL8 : Hid (w8.ownsRow w.heap.size 2 1 (.slice (some ⟨gl, 0, none⟩) 2 c9) 2 (vals [d, d2])) := hid (own_keep HL7.out hb8)
        have HB8 : Hid (Below w.heap.size w w8) := hid (bbl HB7.out hb8)
        clear hb8 KP7 KT7 HO7 HL7 HB7
        obtain ⟨Pa, Pb, Pc⟩ := KP8.out.three
        have Pz := KP8.out.lt
        obtain ⟨Ta, Tb⟩ := KT8.out.two
        have Tz := KT8.out.lt
        have cl0 : w8.cell? ⟨gl, 0, none⟩ = some (.int .i64 d) := (World.ownsRow.cellAt HL8.out 0 (by omega)).trans (by simp [vals])
        have cl1 : w8.cell? ⟨gl, 1, none⟩ = some (.int .i64 d2) := (World.ownsRow.cellAt HL8.out 1 (by omega)).trans (by simp [vals])
        have hgl := (World.ownsRow.lt HL8.out gl rfl).2
        go_wp2_with fail
        refine wp_region_mix w8.heap.size (by kernel_rfl) (by kernel_rfl) ?_
        repeat (any_goals (go_big_quiet_step (fail)))
        refine wpQuiet_nil ?_
        intro w9 hx9
        have hb9 : Below _ _ w9 := mix_ex hx9
        clear hx9
        clear Pa Pb Pc Pz Ta Tb Tz cl0 cl1 hgl
        have KP9 : Hid (Box w9 bk2 30 #[.int .i64 W, .int .i64 H, .slice A zs.length c]) := hid (Box.keep KP8.out hb9)
        have KT9 : Hid (Box w9 bb 32 #[.int .i64 x, .int .i64 y]) := hid (Box.keep KT8.out hb9)
        have HO9 : Hid (OwnI w9 w.heap.size (.slice A zs.length c) zs) := hid (OwnI.keep HO8.out hb9)
        have HL9 : Hid (w9.ownsRow w.heap.size 2 1 (.slice (some ⟨gl, 0, none⟩) 2 c9) 2 (vals [d, d2])) := hid (own_keep HL8.out hb9)
        have HB9 : Hid (Below w.heap.size w w9) := hid (bbl HB8.out hb9)
        clear hb9 KP8 KT8 HO8 HL8 HB8
        obtain ⟨Pa, Pb, Pc⟩ := KP9.out.three
        have Pz := KP9.out.lt
        obtain ⟨Ta, Tb⟩ := KT9.out.two
        have Tz := KT9.out.lt
        have cl0 : w9.cell? ⟨gl, 0, none⟩ = some (.int .i64 d) := (World.ownsRow.cellAt HL9.out 0 (by omega)).trans (by simp [vals])
        have cl1 : w9.cell? ⟨gl, 1, none⟩ = some (.int .i64 d2) := (World.ownsRow.cellAt HL9.out 1 (by omega)).trans (by simp [vals])
        have hgl := (World.ownsRow.lt HL9.out gl rfl).2
        go_wp2_with fail
        go_ret
        exact ⟨rfl, HB9.out⟩
      · have hthn : thN W H zs x y = 2 := by unfold thN; rw [hth]; rfl
        have HTH := hid (And.intro hthn hth)
        clear hthn hth
        obtain ⟨Pa, Pb, Pc⟩ := KP.out.three
        have Pz := KP.out.lt
        obtain ⟨Ta, Tb⟩ := KT.out.two
        have Tz := KT.out.lt
        go_wp2_with fail
        refine (implCurvesThrough_any W H A c zs x y _ (OwnI.ints HO.out) hlz (wf64M (by omega) (by omega)) (wf64M (by omega) (by omega))).mono ?_
        rintro e w6 ⟨⟨A9, c9, he, ho9⟩, hb6⟩
        rw [HTH.out.1, HCO.out] at he
        rw [HTH.out.1, HTH.out.2] at ho9
        subst he
        clear Pa Pb Pc Pz Ta Tb Tz
        have hlo := HB.out.size
        have KP6 : Hid (Box w6 bk2 30 #[.int .i64 W, .int .i64 H, .slice A zs.length c]) := hid (Box.keep KP.out hb6)
        have KT6 : Hid (Box w6 bb 32 #[.int .i64 x, .int .i64 y]) := hid (Box.keep KT.out hb6)
        have HO6 : Hid (OwnI w6 w.heap.size (.slice A zs.length c) zs) := hid (OwnI.keep HO.out hb6)
        have HB6 : Hid (Below w.heap.size w w6) := hid (bbl HB.out hb6)
        obtain ⟨gl, cl, el⟩ := Go.Joins.ownsRow_form ho9 (by omega)
        simp only [Value.slice.injEq] at el
        obtain ⟨rfl, -, rfl⟩ := el
        have HL6 : Hid (w6.ownsRow w.heap.size 2 1 (.slice (some ⟨gl, 0, none⟩) 2 c9) 2 (vals [d2, d])) := hid (Go.Joins.ownsRow_le ho9 hlo)
        clear ho9 hlo hb6 KP KT HO HB
        obtain ⟨Pa, Pb, Pc⟩ := KP6.out.three
        have Pz := KP6.out.lt
        obtain ⟨Ta, Tb⟩ := KT6.out.two
        have Tz := KT6.out.lt
        have cl0 : w6.cell? ⟨gl, 0, none⟩ = some (.int .i64 d2) := (World.ownsRow.cellAt HL6.out 0 (by omega)).trans (by simp [vals])
        have cl1 : w6.cell? ⟨gl, 1, none⟩ = some (.int .i64 d) := (World.ownsRow.cellAt HL6.out 1 (by omega)).trans (by simp [vals])
        have hgl := (World.ownsRow.lt HL6.out gl rfl).2
        go_wp2_with fail
        refine (specSegmentOf_any W H A c zs x y 1 1 _ (OwnI.ints HO6.out) hlz (wf64M (by omega) (by omega)) (wf64M (by omega) (by omega)) (wf64M (by omega) (by omega)) (wf64M (by omega) (by omega))).mono ?_
        rintro e w7 ⟨he, hb7⟩
        rw [HSG.out.1, HSG.out.2] at he
        subst he
        clear Pa Pb Pc Pz Ta Tb Tz cl0 cl1 hgl
        have KP7 : Hid (Box w7 bk2 30 #[.int .i64 W, .int .i64 H, .slice A zs.length c]) := hid (Box.keep KP6.out hb7)
        have KT7 : Hid (Box w7 bb 32 #[.int .i64 x, .int .i64 y]) := hid (Box.keep KT6.out hb7)
        have HO7 : Hid (OwnI w7 w.heap.size (.slice A zs.length c) zs) := hid (OwnI.keep HO6.out hb7)
        have HL7 : Hid (w7.ownsRow w.heap.size 2 1 (.slice (some ⟨gl, 0, none⟩) 2 c9) 2 (vals [d2, d])) := hid (own_keep HL6.out hb7)
        have HB7 : Hid (Below w.heap.size w w7) := hid (bbl HB6.out hb7)
        clear hb7 KP6 KT6 HO6 HL6 HB6
        obtain ⟨Pa, Pb, Pc⟩ := KP7.out.three
        have Pz := KP7.out.lt
        obtain ⟨Ta, Tb⟩ := KT7.out.two
        have Tz := KT7.out.lt
        have cl0 : w7.cell? ⟨gl, 0, none⟩ = some (.int .i64 d2) := (World.ownsRow.cellAt HL7.out 0 (by omega)).trans (by simp [vals])
        have cl1 : w7.cell? ⟨gl, 1, none⟩ = some (.int .i64 d) := (World.ownsRow.cellAt HL7.out 1 (by omega)).trans (by simp [vals])
        have hgl := (World.ownsRow.lt HL7.out gl rfl).2
        go_wp2_with fail
        have hde : ¬ (d2 = d) := by omega
        have hd1 : decide (d2 = d) = false := decide_eq_false hde
        have hd2 : (d2 == d) = false := by simp; omega
        refine (implCurveAt_any W H A c zs q _ (OwnI.ints HO7.out) hlz (wf64M (by omega) (by omega))).mono ?_
        rintro e w8 ⟨he, hb8⟩
        rw [HCA.out.1, HCA.out.2] at he
        subst he
        clear Pa Pb Pc Pz Ta Tb Tz cl0 cl1 hgl
        have KP8 : Hid (Box w8 bk2 30 #[.int .i64 W, .int .i64 H, .slice A zs.length c]) := hid (Box.keep KP7.out hb8)
        have KT8 : Hid (Box w8 bb 32 #[.int .i64 x, .int .i64 y]) := hid (Box.keep KT7.out hb8)
        have HO8 : Hid (OwnI w8 w.heap.size (.slice A zs.length c) zs) := hid (OwnI.keep HO7.out hb8)
        have HL8 : Hid (w8.ownsRow w.heap.size 2 1 (.slice (some ⟨gl, 0, none⟩) 2 c9) 2 (vals [d2, d])) := hid (own_keep HL7.out hb8)
        have HB8 : Hid (Below w.heap.size w w8) := hid (bbl HB7.out hb8)
        clear hb8 KP7 KT7 HO7 HL7 HB7
        obtain ⟨Pa, Pb, Pc⟩ := KP8.out.three
        have Pz := KP8.out.lt
        obtain ⟨Ta, Tb⟩ := KT8.out.two
        have Tz := KT8.out.lt
        have cl0 : w8.cell? ⟨gl, 0, none⟩ = some (.int .i64 d2) := (World.ownsRow.cellAt HL8.out 0 (by omega)).trans (by simp [vals])
        have cl1 : w8.cell? ⟨gl, 1, none⟩ = some (.int .i64 d) := (World.ownsRow.cellAt HL8.out 1 (by omega)).trans (by simp [vals])
        have hgl := (World.ownsRow.lt HL8.out gl rfl).2
        go_wp2_with fail
        refine wp_region_mix w8.heap.size (by kernel_rfl) (by kernel_rfl) ?_
        repeat (any_goals (go_big_quiet_step (fail)))
        refine wpQuiet_nil ?_
        intro w9 hx9
        have hb9 : Below _ _ w9 := mix_ex hx9
        clear hx9
        clear Pa Pb Pc Pz Ta Tb Tz cl0 cl1 hgl
        have KP9 : Hid (Box w9 bk2 30 #[.int .i64 W, .int .i64 H, .slice A zs.length c]) := hid (Box.keep KP8.out hb9)
        have KT9 : Hid (Box w9 bb 32 #[.int .i64 x, .int .i64 y]) := hid (Box.keep KT8.out hb9)
        have HO9 : Hid (OwnI w9 w.heap.size (.slice A zs.length c) zs) := hid (OwnI.keep HO8.out hb9)
        have HL9 : Hid (w9.ownsRow w.heap.size 2 1 (.slice (some ⟨gl, 0, none⟩) 2 c9) 2 (vals [d2, d])) := hid (own_keep HL8.out hb9)
        have HB9 : Hid (Below w.heap.size w w9) := hid (bbl HB8.out hb9)
        clear hb9 KP8 KT8 HO8 HL8 HB8
        obtain ⟨Pa, Pb, Pc⟩ := KP9.out.three
        have Pz := KP9.out.lt
        obtain ⟨Ta, Tb⟩ := KT9.out.two
        have Tz := KT9.out.lt
        have cl0 : w9.cell? ⟨gl, 0, none⟩ = some (.int .i64 d2) := (World.ownsRow.cellAt HL9.out 0 (by omega)).trans (by simp [vals])
        have cl1 : w9.cell? ⟨gl, 1, none⟩ = some (.int .i64 d) := (World.ownsRow.cellAt HL9.out 1 (by omega)).trans (by simp [vals])
        have hgl := (World.ownsRow.lt HL9.out gl rfl).2
        go_wp2_with fail
        go_ret
        exact ⟨rfl, HB9.out⟩
end Go.Proofs.Ytbgigompkmnapaa

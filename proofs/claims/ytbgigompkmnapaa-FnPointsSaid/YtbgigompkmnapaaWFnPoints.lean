/- The walk of FnPoints. -/
import Derived.Test.YtbgigompkmnapaaFp
import Derived.Test.YtbgigompkmnapaaAu
import Derived.Test.YtbgigompkmnapaaQm
import Derived.Test.YtbgigompkmnapaaRg
namespace Go.Proofs.Ytbgigompkmnapaa
set_option linter.unusedSimpArgs false
set_option linter.unusedVariables false
open Go.ChangeShapes Go.WideShapes Go.ChangeAt Go.RowKit
set_option maxRecDepth 100000 in
set_option maxHeartbeats 8000000 in
theorem fnPoints_walk (w : World) (A0 : Option Addr) (c0 : Nat) (bs0 : List Int) (hl0 : bs0.length ≤ maxLen) (hz0 : BytesR w w.heap.size A0 bs0) (_ : True)
    (A1 : Option Addr) (c1 : Nat) (bs1 : List Int) (hl1 : bs1.length ≤ maxLen) (hz1 : BytesR w w.heap.size A1 bs1) (_ : True)
    : Calls Try.prog 8 #[.slice A0 bs0.length c0, .slice A1 bs1.length c1] w fun e w' => e = .returned (.bool true) ∧ Below w.heap.size w w' := by
  obtain ⟨n0, hn0⟩ : ∃ n, bs0.length = n := ⟨_, rfl⟩
  rw [hn0] at hl0 ⊢
  have HN0 := hid hn0
  have HZ0 := hid hz0
  clear hn0 hz0
  obtain ⟨n1, hn1⟩ : ∃ n, bs1.length = n := ⟨_, rfl⟩
  rw [hn1] at hl1 ⊢
  have HN1 := hid hn1
  have HZ1 := hid hz1
  clear hn1 hz1
  cases hlg : lgB n0 n1
  case true =>
    have HLG := hid hlg
    clear hlg
    go_enter Try.func8, Try.ntmps8
    go_wp2_with fail
    refine (calls_bool (a2Long_any A0 A1 n0 n1 c0 c1 w hl0 hl1) HLG.out).mono ?_
    rintro e w' ⟨rfl, rfl⟩
    go_wp2_with fail
    go_ret
    exact ⟨rfl, Below.refl _ _⟩
  have HLG := hid hlg
  have hn5 := lg_no hlg
  clear hlg
  go_enter Try.func8, Try.ntmps8
  go_wp2_with fail
  refine (calls_bool (a2Long_any A0 A1 n0 n1 c0 c1 w hl0 hl1) HLG.out).mono ?_
  rintro e w' ⟨rfl, rfl⟩
  go_wp2_with fail
  refine (A2Panel_any A0 n0 c0 bs0 w HN0.out HZ0.out (by omega)).mono ?_
  rintro e w1 ⟨W, H, zs, A, c, ⟨hv, hW5, hH5⟩, rfl, ho1, hb1⟩
  have HV := hid hv
  have hwb := side_bd (valid_sides hv).1
  have hhb := side_bd (valid_sides hv).2
  have hlen := valid_len hv
  have hile := inner_le (valid_sides hv).1 (valid_sides hv).2
  have hlz : zs.length ≤ maxLen := by unfold maxLen; omega
  have HO1 : Hid (OwnI w1 w.heap.size (.slice A zs.length c) zs) := hid ho1
  have HB1 := hid hb1
  clear hv ho1 hb1
  have hn112 : zs.length ≤ 112 := by omega
  have HNI := hid hlen
  clear hlen hile
  go_wp2_with fail
  obtain ⟨w2, hw2⟩ : ∃ zz : World, zz = w1.alloc (.cells #[.int .i64 W, .int .i64 H, .slice A zs.length c] 30) := ⟨_, rfl⟩
  rw [← hw2]
  have HO2 : Hid (OwnI w2 w.heap.size (.slice A zs.length c) zs) := hid (by rw [hw2]; exact HO1.out.alloc _)
  have HB2 : Hid (Below w.heap.size w w2) := hid (by rw [hw2]; exact bal HB1.out _)
  have KP2 : Hid (Box w2 w1.heap.size 30 #[.int .i64 W, .int .i64 H, .slice A zs.length c]) := hid (by rw [hw2]; exact Box.new _ _ _)
  obtain ⟨bk2, hbk2⟩ : ∃ b, b = w1.heap.size := ⟨_, rfl⟩
  rw [← hbk2] at KP2 ⊢
  have oB2 : w.heap.size ≤ bk2 := by rw [hbk2]; exact HB1.out.size
  clear hw2 hbk2 HO1 HB1
  obtain ⟨Pa, Pb, Pc⟩ := KP2.out.three
  have Pz := KP2.out.lt
  refine (innerPoints_yes W H _ (valid_sides HV.out).1 (valid_sides HV.out).2).mono ?_
  rintro e w' ⟨he, rfl⟩
  rw [← HNI.out] at he
  subst he
  go_wp2_with fail
  obtain ⟨S, hS0, hS1, hS3, hSb⟩ := cnt_sums zs (valid_kindsF HV.out)
  have HS0 := hid hS0
  have HS1 := hid hS1
  have HS3 := hid hS3
  have HSb := hid hSb
  clear hS0 hS1 hS3 hSb
  clear Pa Pb Pc Pz
  go_loopg [8, 9] 3 (fun g m i wr => ∃ k : Nat, k ≤ 3 ∧ m = .int .i64 (S k : Nat) ∧ i = .int .i64 k ∧ g = 3 - k ∧ Hid (Box wr bk2 30 #[.int .i64 W, .int .i64 H, .slice A zs.length c]) ∧ Hid (OwnI wr w.heap.size (.slice A zs.length c) zs) ∧ Hid (Below w.heap.size w wr))
  case atStart => exact ⟨0, by omega, by rw [HS0.out]; rfl, rfl, rfl, KP2, HO2, HB2⟩
  case round =>
    obtain ⟨k, hk, rfl, rfl, hg, KP, HO, HB⟩ := hrel
    clear KP2 HO2 HB2
    have hs0 : S k ≤ 112 := Nat.le_trans (HSb.out k hk) hn112
    by_cases hlt : k < 3
    · have hk0 : kindOk (k : Int) = true := by simp [kindOk, inR]; omega
      have HR : Hid (cntR W H zs k = (cntK k zs : Nat) ∧ cntC W H zs k = 0) := hid (by simp [cntR, cntC, HV.out, hk0])
      have hcb : S (k + 1) ≤ 112 := Nat.le_trans (HSb.out (k + 1) (by omega)) hn112
      have hse := HS1.out k hlt
      have HSE := hid hse
      have hcc : cntK k zs ≤ 112 := by omega
      have hadd : IntKind.i64.wrap ((S k : Nat) + (cntK k zs : Nat) : Int) = ((S (k + 1) : Nat) : Int) := by rw [hse]; rw [IntWalk.i64_in _ (by omega)]; omega
      clear hse hcb hk0
      obtain ⟨Pa, Pb, Pc⟩ := KP.out.three
      have Pz := KP.out.lt
      go_wp2_with fail
      refine (implCountBreaks_any W H A c zs (k : Int) _ (OwnI.ints HO.out) hlz (wf64 (by omega) (by omega))).mono ?_
      rintro e w3 ⟨he, hb3⟩
      rw [HR.out.1, HR.out.2] at he
      subst he
      clear Pa Pb Pc Pz
      have KP3 : Hid (Box w3 bk2 30 #[.int .i64 W, .int .i64 H, .slice A zs.length c]) := hid (Box.keep KP.out hb3)
      have HO3 : Hid (OwnI w3 w.heap.size (.slice A zs.length c) zs) := hid (OwnI.keep HO.out hb3)
      have HB3 : Hid (Below w.heap.size w w3) := hid (bbl HB.out hb3)
      clear hb3 KP HO HB
      obtain ⟨Pa, Pb, Pc⟩ := KP3.out.three
      have Pz := KP3.out.lt
      go_wp2_with fail
      go_roundg (3 - (k + 1))
      case measure => omega
      case rel => exact ⟨k + 1, by omega, by rw [HSE.out], by go_num, rfl, KP3, HO3, HB3⟩
    · obtain rfl : k = 3 := by omega
      obtain ⟨Pa, Pb, Pc⟩ := KP.out.three
      have Pz := KP.out.lt
      have h3 := HS3.out
      rw [h3] at hs0 ⊢
      clear h3
      go_wp2_with fail
      obtain ⟨w3, hw3⟩ : ∃ zz : World, zz = wr.alloc (.cells #[.int .i64 0, .int .i64 0] 32) := ⟨_, rfl⟩
      rw [← hw3]
      have KP3 : Hid (Box w3 bk2 30 #[.int .i64 W, .int .i64 H, .slice A zs.length c]) := hid (by rw [hw3]; exact Box.alloc KP.out _)
      have HO3 : Hid (OwnI w3 w.heap.size (.slice A zs.length c) zs) := hid (by rw [hw3]; exact HO.out.alloc _)
      have HB3 : Hid (Below w.heap.size w w3) := hid (by rw [hw3]; exact bal HB.out _)
      have KL3 : Hid (Box w3 wr.heap.size 32 #[.int .i64 0, .int .i64 0]) := hid (by rw [hw3]; exact Box.new _ _ _)
      obtain ⟨bk3, hbk3⟩ : ∃ b, b = wr.heap.size := ⟨_, rfl⟩
      rw [← hbk3] at KL3 ⊢
      have oP3 : bk2 < bk3 := by rw [hbk3]; exact KP.out.lt
      have oB3 : w.heap.size ≤ bk3 := by rw [hbk3]; exact HB.out.size
      clear Pa Pb Pc Pz
      clear hw3 hbk3 KP HO HB
      obtain ⟨Pa, Pb, Pc⟩ := KP3.out.three
      have Pz := KP3.out.lt
      obtain ⟨La, Lb⟩ := KL3.out.two
      have Lz := KL3.out.lt
      clear Pa Pb Pc Pz La Lb Lz
      go_loopg [13] zs.length (fun g i wr => ∃ (k : Nat) (lx ly : Int), k ≤ zs.length ∧ i = .int .i64 k ∧ g = zs.length - k ∧ (0 < k → lx = ptX W H ((k - 1 : Nat) : Int) ∧ ly = ptY W H ((k - 1 : Nat) : Int)) ∧ Hid (Box wr bk3 32 #[.int .i64 lx, .int .i64 ly]) ∧ Hid (Box wr bk2 30 #[.int .i64 W, .int .i64 H, .slice A zs.length c]) ∧ Hid (OwnI wr w.heap.size (.slice A zs.length c) zs) ∧ Hid (Below w.heap.size w wr))
      case atStart => exact ⟨0, 0, 0, Nat.zero_le _, rfl, rfl, fun h => by omega, KL3, KP3, HO3, HB3⟩
      case round =>
        clear KP3 KL3 HO3 HB3
        obtain ⟨k, lx, ly, hk, rfl, hg, hll, KL, KP, HO, HB⟩ := hrel
        by_cases hlt : k < zs.length
        · obtain ⟨X, Y, ⟨x1, x2, y1, y2⟩, ⟨hX, hY⟩, hpt, hnu, hbr, hip, hib, hnum⟩ := pnt_facts HV.out hlt
          obtain ⟨z, hz⟩ : ∃ z, zs[k]? = some z := ⟨_, List.getElem?_eq_getElem hlt⟩
          rw [List.getD_eq_getElem?_getD, hz, Option.getD_some] at hbr
          have hord : k = 0 ∨ ly < Y ∨ (Y = ly ∧ lx < X) := by
            by_cases h0 : k = 0
            · exact .inl h0
            · right
              obtain ⟨e1, e2⟩ := hll (by omega)
              have h1 := pt_next (valid_sides HV.out).1 (valid_sides HV.out).2 (k := ((k - 1 : Nat) : Int)) (by omega) (by have := HNI.out; omega)
              rw [show ((k - 1 : Nat) : Int) + 1 = (k : Int) by omega, hX, hY, ← e1, ← e2] at h1
              exact h1
          have HXY := hid (And.intro hX hY)
          have HPT := hid hpt
          have HNU := hid hnu
          have HBR := hid hbr
          have HIP := hid hip
          have HIB := hid hib
          clear hX hY hpt hnu hbr hip hib hnum hll
          rcases Go.Joins.ownsRow_forms HO.out with ⟨_, hn00⟩ | ⟨gp, cp, ep⟩
          · exact absurd hlt (by omega)
          simp only [Value.slice.injEq] at ep
          obtain ⟨rfl, -, rfl⟩ := ep
          have HZK := hid hz
          clear hz
          obtain ⟨Pa, Pb, Pc⟩ := KP.out.three
          have Pz := KP.out.lt
          obtain ⟨La, Lb⟩ := KL.out.two
          have Lz := KL.out.lt
          have hcz : wr.cell? ⟨gp, k, none⟩ = some (.int .i64 z) := (World.ownsRow.cellAt HO.out k (by omega)).trans (by simp [vals, HZK.out])
          have hgp := (World.ownsRow.lt HO.out gp rfl).2
          go_wp2_with fail
          refine (implPointAt_any W H (some ⟨gp, 0, none⟩) c zs (k : Int) _ (OwnI.ints HO.out) hlz (wf64 (by omega) (by omega))).mono ?_
          rintro e w4 ⟨he, hb4⟩
          rw [HPT.out.1, HPT.out.2.1, HPT.out.2.2] at he
          subst he
          clear Pa Pb Pc Pz La Lb Lz hcz hgp
          have KP4 : Hid (Box w4 bk2 30 #[.int .i64 W, .int .i64 H, .slice (some ⟨gp, 0, none⟩) zs.length c]) := hid (Box.keep KP.out hb4)
          have KL4 : Hid (Box w4 bk3 32 #[.int .i64 lx, .int .i64 ly]) := hid (Box.keep KL.out hb4)
          have HO4 : Hid (OwnI w4 w.heap.size (.slice (some ⟨gp, 0, none⟩) zs.length c) zs) := hid (OwnI.keep HO.out hb4)
          have HB4 : Hid (Below w.heap.size w w4) := hid (bbl HB.out hb4)
          clear hb4 KP KL HO HB
          obtain ⟨Pa, Pb, Pc⟩ := KP4.out.three
          have Pz := KP4.out.lt
          obtain ⟨La, Lb⟩ := KL4.out.two
          have Lz := KL4.out.lt
          have hcz : w4.cell? ⟨gp, k, none⟩ = some (.int .i64 z) := (World.ownsRow.cellAt HO4.out k (by omega)).trans (by simp [vals, HZK.out])
          have hgp := (World.ownsRow.lt HO4.out gp rfl).2
          go_wp2_with fail
          obtain ⟨w5, hw5⟩ : ∃ zz : World, zz = w4.alloc (.cells #[.int .i64 X, .int .i64 Y] 32) := ⟨_, rfl⟩
          rw [← hw5]
          have KP5 : Hid (Box w5 bk2 30 #[.int .i64 W, .int .i64 H, .slice (some ⟨gp, 0, none⟩) zs.length c]) := hid (by rw [hw5]; exact Box.alloc KP4.out _)
          have KL5 : Hid (Box w5 bk3 32 #[.int .i64 lx, .int .i64 ly]) := hid (by rw [hw5]; exact Box.alloc KL4.out _)
          have HO5 : Hid (OwnI w5 w.heap.size (.slice (some ⟨gp, 0, none⟩) zs.length c) zs) := hid (by rw [hw5]; exact HO4.out.alloc _)
          have HB5 : Hid (Below w.heap.size w w5) := hid (by rw [hw5]; exact bal HB4.out _)
          have KT5 : Hid (Box w5 w4.heap.size 32 #[.int .i64 X, .int .i64 Y]) := hid (by rw [hw5]; exact Box.new _ _ _)
          obtain ⟨bk5, hbk5⟩ : ∃ b, b = w4.heap.size := ⟨_, rfl⟩
          rw [← hbk5] at KT5 ⊢
          have oP5 : bk2 < bk5 := by rw [hbk5]; exact KP4.out.lt
          have oL5 : bk3 < bk5 := by rw [hbk5]; exact KL4.out.lt
          have oB5 : w.heap.size ≤ bk5 := by rw [hbk5]; exact HB4.out.size
          clear Pa Pb Pc Pz La Lb Lz hcz hgp
          clear hw5 hbk5 KP4 KL4 HO4 HB4
          obtain ⟨Pa, Pb, Pc⟩ := KP5.out.three
          have Pz := KP5.out.lt
          obtain ⟨La, Lb⟩ := KL5.out.two
          have Lz := KL5.out.lt
          obtain ⟨Ta, Tb⟩ := KT5.out.two
          have Tz := KT5.out.lt
          have hcz : w5.cell? ⟨gp, k, none⟩ = some (.int .i64 z) := (World.ownsRow.cellAt HO5.out k (by omega)).trans (by simp [vals, HZK.out])
          have hgp := (World.ownsRow.lt HO5.out gp rfl).2
          refine (implNumberOf_any W H (some ⟨gp, 0, none⟩) c zs X Y _ (OwnI.ints HO5.out) hlz (wf64 (by omega) (by omega)) (wf64 (by omega) (by omega))).mono ?_
          rintro e w6 ⟨he, hb6⟩
          rw [HNU.out.1, HNU.out.2] at he
          subst he
          clear Pa Pb Pc Pz La Lb Lz Ta Tb Tz hcz hgp
          have KP6 : Hid (Box w6 bk2 30 #[.int .i64 W, .int .i64 H, .slice (some ⟨gp, 0, none⟩) zs.length c]) := hid (Box.keep KP5.out hb6)
          have KL6 : Hid (Box w6 bk3 32 #[.int .i64 lx, .int .i64 ly]) := hid (Box.keep KL5.out hb6)
          have KT6 : Hid (Box w6 bk5 32 #[.int .i64 X, .int .i64 Y]) := hid (Box.keep KT5.out hb6)
          have HO6 : Hid (OwnI w6 w.heap.size (.slice (some ⟨gp, 0, none⟩) zs.length c) zs) := hid (OwnI.keep HO5.out hb6)
          have HB6 : Hid (Below w.heap.size w w6) := hid (bbl HB5.out hb6)
          clear hb6 KP5 KL5 KT5 HO5 HB5
          obtain ⟨Pa, Pb, Pc⟩ := KP6.out.three
          have Pz := KP6.out.lt
          obtain ⟨La, Lb⟩ := KL6.out.two
          have Lz := KL6.out.lt
          obtain ⟨Ta, Tb⟩ := KT6.out.two
          have Tz := KT6.out.lt
          have hcz : w6.cell? ⟨gp, k, none⟩ = some (.int .i64 z) := (World.ownsRow.cellAt HO6.out k (by omega)).trans (by simp [vals, HZK.out])
          have hgp := (World.ownsRow.lt HO6.out gp rfl).2
          go_wp2_with fail
          refine (implBreakAt_any W H (some ⟨gp, 0, none⟩) c zs X Y _ (OwnI.ints HO6.out) hlz (wf64 (by omega) (by omega)) (wf64 (by omega) (by omega))).mono ?_
          rintro e w7 ⟨he, hb7⟩
          rw [HBR.out, HNU.out.2] at he
          subst he
          clear Pa Pb Pc Pz La Lb Lz Ta Tb Tz hcz hgp
          have KP7 : Hid (Box w7 bk2 30 #[.int .i64 W, .int .i64 H, .slice (some ⟨gp, 0, none⟩) zs.length c]) := hid (Box.keep KP6.out hb7)
          have KL7 : Hid (Box w7 bk3 32 #[.int .i64 lx, .int .i64 ly]) := hid (Box.keep KL6.out hb7)
          have KT7 : Hid (Box w7 bk5 32 #[.int .i64 X, .int .i64 Y]) := hid (Box.keep KT6.out hb7)
          have HO7 : Hid (OwnI w7 w.heap.size (.slice (some ⟨gp, 0, none⟩) zs.length c) zs) := hid (OwnI.keep HO6.out hb7)
          have HB7 : Hid (Below w.heap.size w w7) := hid (bbl HB6.out hb7)
          clear hb7 KP6 KL6 KT6 HO6 HB6
          obtain ⟨Pa, Pb, Pc⟩ := KP7.out.three
          have Pz := KP7.out.lt
          obtain ⟨La, Lb⟩ := KL7.out.two
          have Lz := KL7.out.lt
          obtain ⟨Ta, Tb⟩ := KT7.out.two
          have Tz := KT7.out.lt
          have hcz : w7.cell? ⟨gp, k, none⟩ = some (.int .i64 z) := (World.ownsRow.cellAt HO7.out k (by omega)).trans (by simp [vals, HZK.out])
          have hgp := (World.ownsRow.lt HO7.out gp rfl).2
          go_wp2_with fail
          refine (calls_bool (implIsPoint_any W H (some ⟨gp, 0, none⟩) c zs X Y _ (OwnI.ints HO7.out) hlz (wf64 (by omega) (by omega)) (wf64 (by omega) (by omega))) HIP.out).mono ?_
          rintro e w8 ⟨he, hb8⟩
          subst he
          clear Pa Pb Pc Pz La Lb Lz Ta Tb Tz hcz hgp
          have KP8 : Hid (Box w8 bk2 30 #[.int .i64 W, .int .i64 H, .slice (some ⟨gp, 0, none⟩) zs.length c]) := hid (Box.keep KP7.out hb8)
          have KL8 : Hid (Box w8 bk3 32 #[.int .i64 lx, .int .i64 ly]) := hid (Box.keep KL7.out hb8)
          have KT8 : Hid (Box w8 bk5 32 #[.int .i64 X, .int .i64 Y]) := hid (Box.keep KT7.out hb8)
          have HO8 : Hid (OwnI w8 w.heap.size (.slice (some ⟨gp, 0, none⟩) zs.length c) zs) := hid (OwnI.keep HO7.out hb8)
          have HB8 : Hid (Below w.heap.size w w8) := hid (bbl HB7.out hb8)
          clear hb8 KP7 KL7 KT7 HO7 HB7
          obtain ⟨Pa, Pb, Pc⟩ := KP8.out.three
          have Pz := KP8.out.lt
          obtain ⟨La, Lb⟩ := KL8.out.two
          have Lz := KL8.out.lt
          obtain ⟨Ta, Tb⟩ := KT8.out.two
          have Tz := KT8.out.lt
          have hcz : w8.cell? ⟨gp, k, none⟩ = some (.int .i64 z) := (World.ownsRow.cellAt HO8.out k (by omega)).trans (by simp [vals, HZK.out])
          have hgp := (World.ownsRow.lt HO8.out gp rfl).2
          go_wp2_with fail
          refine (calls_bool (implIsBorder_any W H (some ⟨gp, 0, none⟩) c zs X Y _ (OwnI.ints HO8.out) hlz (wf64 (by omega) (by omega)) (wf64 (by omega) (by omega))) HIB.out).mono ?_
          rintro e w9 ⟨he, hb9⟩
          subst he
          clear Pa Pb Pc Pz La Lb Lz Ta Tb Tz hcz hgp
          have KP9 : Hid (Box w9 bk2 30 #[.int .i64 W, .int .i64 H, .slice (some ⟨gp, 0, none⟩) zs.length c]) := hid (Box.keep KP8.out hb9)
          have KL9 : Hid (Box w9 bk3 32 #[.int .i64 lx, .int .i64 ly]) := hid (Box.keep KL8.out hb9)
          have KT9 : Hid (Box w9 bk5 32 #[.int .i64 X, .int .i64 Y]) := hid (Box.keep KT8.out hb9)
          have HO9 : Hid (OwnI w9 w.heap.size (.slice (some ⟨gp, 0, none⟩) zs.length c) zs) := hid (OwnI.keep HO8.out hb9)
          have HB9 : Hid (Below w.heap.size w w9) := hid (bbl HB8.out hb9)
          clear hb9
          rcases hord with hk0 | hord | ⟨rfl, hord⟩
          · skip
            obtain ⟨Pa, Pb, Pc⟩ := KP9.out.three
            have Pz := KP9.out.lt
            obtain ⟨La, Lb⟩ := KL9.out.two
            have Lz := KL9.out.lt
            obtain ⟨Ta, Tb⟩ := KT9.out.two
            have Tz := KT9.out.lt
            have hcz : w9.cell? ⟨gp, k, none⟩ = some (.int .i64 z) := (World.ownsRow.cellAt HO9.out k (by omega)).trans (by simp [vals, HZK.out])
            have hgp := (World.ownsRow.lt HO9.out gp rfl).2
            have hkp : ¬ ((0 : Int) < k) := by omega
            have Lf := KL9.out.free
            go_wp2_with fail
            go_roundg (zs.length - (k + 1))
            case measure => omega
            case rel => exact ⟨k + 1, X, Y, by omega, by go_num, rfl, fun _ => ⟨HXY.out.1.symm, HXY.out.2.symm⟩, hid (Box.put2 KL9.out), hid (Box.set (Box.set KP9.out (by simp <;> omega) _) (by simp <;> omega) _), hid (own_setother (own_setother HO9.out KL9.out (by decide) 0 _) (KL9.out.put 0 _) (by decide) 1 _), hid (Below.setCell (Below.setCell HB9.out (by simp <;> omega) _) (by simp <;> omega) _)⟩
          · skip
            have ho1 : ¬ (Y < ly) := by omega
            have ho2 : ¬ (Y = ly) := by omega
            obtain ⟨Pa, Pb, Pc⟩ := KP9.out.three
            have Pz := KP9.out.lt
            obtain ⟨La, Lb⟩ := KL9.out.two
            have Lz := KL9.out.lt
            obtain ⟨Ta, Tb⟩ := KT9.out.two
            have Tz := KT9.out.lt
            have hcz : w9.cell? ⟨gp, k, none⟩ = some (.int .i64 z) := (World.ownsRow.cellAt HO9.out k (by omega)).trans (by simp [vals, HZK.out])
            have hgp := (World.ownsRow.lt HO9.out gp rfl).2
            by_cases hk0 : k = 0
            · have hkp : ¬ ((0 : Int) < k) := by omega
              have Lf := KL9.out.free
              go_wp2_with fail
              go_roundg (zs.length - (k + 1))
              case measure => omega
              case rel => exact ⟨k + 1, X, Y, by omega, by go_num, rfl, fun _ => ⟨HXY.out.1.symm, HXY.out.2.symm⟩, hid (Box.put2 KL9.out), hid (Box.set (Box.set KP9.out (by simp <;> omega) _) (by simp <;> omega) _), hid (own_setother (own_setother HO9.out KL9.out (by decide) 0 _) (KL9.out.put 0 _) (by decide) 1 _), hid (Below.setCell (Below.setCell HB9.out (by simp <;> omega) _) (by simp <;> omega) _)⟩
            · have hkp : (0 : Int) < k := by omega
              have Lf := KL9.out.free
              go_wp2_with fail
              go_roundg (zs.length - (k + 1))
              case measure => omega
              case rel => exact ⟨k + 1, X, Y, by omega, by go_num, rfl, fun _ => ⟨HXY.out.1.symm, HXY.out.2.symm⟩, hid (Box.put2 KL9.out), hid (Box.set (Box.set KP9.out (by simp <;> omega) _) (by simp <;> omega) _), hid (own_setother (own_setother HO9.out KL9.out (by decide) 0 _) (KL9.out.put 0 _) (by decide) 1 _), hid (Below.setCell (Below.setCell HB9.out (by simp <;> omega) _) (by simp <;> omega) _)⟩
          · skip
            have ho1 : ¬ (X ≤ lx) := by omega
            obtain ⟨Pa, Pb, Pc⟩ := KP9.out.three
            have Pz := KP9.out.lt
            obtain ⟨La, Lb⟩ := KL9.out.two
            have Lz := KL9.out.lt
            obtain ⟨Ta, Tb⟩ := KT9.out.two
            have Tz := KT9.out.lt
            have hcz : w9.cell? ⟨gp, k, none⟩ = some (.int .i64 z) := (World.ownsRow.cellAt HO9.out k (by omega)).trans (by simp [vals, HZK.out])
            have hgp := (World.ownsRow.lt HO9.out gp rfl).2
            by_cases hk0 : k = 0
            · have hkp : ¬ ((0 : Int) < k) := by omega
              have Lf := KL9.out.free
              go_wp2_with fail
              go_roundg (zs.length - (k + 1))
              case measure => omega
              case rel => exact ⟨k + 1, X, Y, by omega, by go_num, rfl, fun _ => ⟨HXY.out.1.symm, HXY.out.2.symm⟩, hid (Box.put2 KL9.out), hid (Box.set (Box.set KP9.out (by simp <;> omega) _) (by simp <;> omega) _), hid (own_setother (own_setother HO9.out KL9.out (by decide) 0 _) (KL9.out.put 0 _) (by decide) 1 _), hid (Below.setCell (Below.setCell HB9.out (by simp <;> omega) _) (by simp <;> omega) _)⟩
            · have hkp : (0 : Int) < k := by omega
              have Lf := KL9.out.free
              go_wp2_with fail
              go_roundg (zs.length - (k + 1))
              case measure => omega
              case rel => exact ⟨k + 1, X, Y, by omega, by go_num, rfl, fun _ => ⟨HXY.out.1.symm, HXY.out.2.symm⟩, hid (Box.put2 KL9.out), hid (Box.set (Box.set KP9.out (by simp <;> omega) _) (by simp <;> omega) _), hid (own_setother (own_setother HO9.out KL9.out (by decide) 0 _) (KL9.out.put 0 _) (by decide) 1 _), hid (Below.setCell (Below.setCell HB9.out (by simp <;> omega) _) (by simp <;> omega) _)⟩
        · obtain ⟨nn, hnn⟩ : ∃ nn, nn = zs.length := ⟨_, rfl⟩
          obtain rfl : k = zs.length := by omega
          clear hnn hll hlt hk
          obtain ⟨Pa, Pb, Pc⟩ := KP.out.three
          have Pz := KP.out.lt
          by_cases hzz : zs.length = 0
          · have hzi : (zs.length : Int) = 0 := by omega
            go_wp2_with fail
            go_ret
            exact ⟨rfl, HB.out⟩
          have hzi : ¬ ((zs.length : Int) = 0) := by omega
          go_wp2_with fail
          refine (a2At_any A1 n1 c1 w.heap.size bs1 0 (zs.length : Int) _ HN1.out (HZ1.out.below HB.out) (by omega) (by omega) (by omega) (by omega)).mono ?_
          rintro e w' ⟨⟨r, ⟨r1, r2⟩, rfl⟩, rfl⟩
          obtain ⟨q, rfl⟩ : ∃ q : Nat, r = (q : Int) := ⟨r.toNat, by omega⟩
          have hq : q < zs.length := by omega
          go_wp2_with fail
          refine (a2At_any A1 n1 c1 w.heap.size bs1 1 3 _ HN1.out (HZ1.out.below HB.out) (by omega) (by omega) (by omega) (by omega)).mono ?_
          rintro e w' ⟨⟨m, ⟨m1, m2⟩, rfl⟩, rfl⟩
          go_wp2_with fail
          obtain ⟨X, Y, ⟨x1, x2, y1, y2⟩, ⟨hX, hY⟩, hpt, -, -, -, -, -⟩ := pnt_facts HV.out hq
          have HSF := hid (set_facts HV.out hq (m := m) (by omega) hX hY)
          have HPT := hid hpt
          clear hX hY hpt
          refine (specPointAt_any W H A c zs (q : Int) _ (OwnI.ints HO.out) hlz (wf64 (by omega) (by omega))).mono ?_
          rintro e w4 ⟨he, hb4⟩
          rw [HPT.out.1, HPT.out.2.1, HPT.out.2.2] at he
          subst he
          clear Pa Pb Pc Pz
          have KP4 : Hid (Box w4 bk2 30 #[.int .i64 W, .int .i64 H, .slice A zs.length c]) := hid (Box.keep KP.out hb4)
          have HO4 : Hid (OwnI w4 w.heap.size (.slice A zs.length c) zs) := hid (OwnI.keep HO.out hb4)
          have HB4 : Hid (Below w.heap.size w w4) := hid (bbl HB.out hb4)
          clear hb4 KP HO HB
          obtain ⟨Pa, Pb, Pc⟩ := KP4.out.three
          have Pz := KP4.out.lt
          go_wp2_with fail
          obtain ⟨w5, hw5⟩ : ∃ zz : World, zz = w4.alloc (.cells #[.int .i64 X, .int .i64 Y] 32) := ⟨_, rfl⟩
          rw [← hw5]
          have KP5 : Hid (Box w5 bk2 30 #[.int .i64 W, .int .i64 H, .slice A zs.length c]) := hid (by rw [hw5]; exact Box.alloc KP4.out _)
          have HO5 : Hid (OwnI w5 w.heap.size (.slice A zs.length c) zs) := hid (by rw [hw5]; exact HO4.out.alloc _)
          have HB5 : Hid (Below w.heap.size w w5) := hid (by rw [hw5]; exact bal HB4.out _)
          have KT5 : Hid (Box w5 w4.heap.size 32 #[.int .i64 X, .int .i64 Y]) := hid (by rw [hw5]; exact Box.new _ _ _)
          obtain ⟨bk5, hbk5⟩ : ∃ b, b = w4.heap.size := ⟨_, rfl⟩
          rw [← hbk5] at KT5 ⊢
          have oP5 : bk2 < bk5 := by rw [hbk5]; exact KP4.out.lt
          have oB5 : w.heap.size ≤ bk5 := by rw [hbk5]; exact HB4.out.size
          clear Pa Pb Pc Pz
          clear hw5 hbk5 KP4 HO4 HB4
          obtain ⟨Pa, Pb, Pc⟩ := KP5.out.three
          have Pz := KP5.out.lt
          obtain ⟨Ta, Tb⟩ := KT5.out.two
          have Tz := KT5.out.lt
          refine (implSetBreak_any W H A c zs X Y m _ (OwnI.ints HO5.out) hlz (wf64 (by omega) (by omega)) (wf64 (by omega) (by omega)) (wf64 (by omega) (by omega))).mono ?_
          rintro e w6 ⟨⟨A9, c9, he, ho9⟩, hb6⟩
          obtain ⟨f1, f2, f3, f4, f5⟩ := HSF.out
          rw [f1, f2, f3, f4] at he
          rw [f4, f5] at ho9
          clear f1 f2 f3 f4 f5
          subst he
          clear Pa Pb Pc Pz Ta Tb Tz
          have ho9' := Go.Joins.ownsRow_le ho9 (show w.heap.size ≤ _ from HB5.out.size)
          have KP6 : Hid (Box w6 bk2 30 #[.int .i64 W, .int .i64 H, .slice A zs.length c]) := hid (Box.keep KP5.out hb6)
          have KT6 : Hid (Box w6 bk5 32 #[.int .i64 X, .int .i64 Y]) := hid (Box.keep KT5.out hb6)
          have HO6 : Hid (OwnI w6 w.heap.size (.slice A zs.length c) zs) := hid (OwnI.keep HO5.out hb6)
          have HB6 : Hid (Below w.heap.size w w6) := hid (bbl HB5.out hb6)
          have HQ6 : Hid (w6.ownsRow w.heap.size 2 1 (.slice A9 zs.length c9) zs.length (vals (zs.set q m))) := hid ho9'
          clear hb6 ho9 ho9' KP5 KT5 HO5 HB5
          obtain ⟨Pa, Pb, Pc⟩ := KP6.out.three
          have Pz := KP6.out.lt
          obtain ⟨Ta, Tb⟩ := KT6.out.two
          have Tz := KT6.out.lt
          go_wp2_with fail
          clear Pa Pb Pc Pz Ta Tb Tz
          obtain ⟨w7, hw7⟩ : ∃ zz : World, zz = w6.alloc (.cells #[.int .i64 W, .int .i64 H, .slice A9 zs.length c9] 30) := ⟨_, rfl⟩
          rw [← hw7]
          have KP7 : Hid (Box w7 bk2 30 #[.int .i64 W, .int .i64 H, .slice A zs.length c]) := hid (by rw [hw7]; exact Box.alloc KP6.out _)
          have HO7 : Hid (OwnI w7 w.heap.size (.slice A zs.length c) zs) := hid (by rw [hw7]; exact HO6.out.alloc _)
          have HQ7 : Hid (w7.ownsRow w.heap.size 2 1 (.slice A9 zs.length c9) zs.length (vals (zs.set q m))) := hid (by rw [hw7]; exact HQ6.out.alloc _)
          have HB7 : Hid (Below w.heap.size w w7) := hid (by rw [hw7]; exact bal HB6.out _)
          have KZ7 : Hid (Box w7 w6.heap.size 30 #[.int .i64 W, .int .i64 H, .slice A9 zs.length c9]) := hid (by rw [hw7]; exact Box.new _ _ _)
          obtain ⟨bk7, hbk7⟩ : ∃ b, b = w6.heap.size := ⟨_, rfl⟩
          rw [← hbk7] at KZ7 ⊢
          have oP7 : bk2 < bk7 := by rw [hbk7]; exact KP6.out.lt
          have oB7 : w.heap.size ≤ bk7 := by rw [hbk7]; exact HB6.out.size
          clear hw7 hbk7 KP6 HO6 HQ6 HB6
          obtain ⟨Pa, Pb, Pc⟩ := KP7.out.three
          have Pz := KP7.out.lt
          obtain ⟨Za, Zb, Zc⟩ := KZ7.out.three
          have Zz := KZ7.out.lt
          clear Pa Pb Pc Pz Za Zb Zc Zz
          go_loopg [26] zs.length (fun g i wr => ∃ (k : Nat), k ≤ zs.length ∧ i = .int .i64 k ∧ g = zs.length - k ∧ Hid (Box wr bk7 30 #[.int .i64 W, .int .i64 H, .slice A9 zs.length c9]) ∧ Hid (wr.ownsRow w.heap.size 2 1 (.slice A9 zs.length c9) zs.length (vals (zs.set q m))) ∧ Hid (Box wr bk2 30 #[.int .i64 W, .int .i64 H, .slice A zs.length c]) ∧ Hid (OwnI wr w.heap.size (.slice A zs.length c) zs) ∧ Hid (Below w.heap.size w wr))
          case atStart => exact ⟨0, Nat.zero_le _, rfl, rfl, KZ7, HQ7, KP7, HO7, HB7⟩
          case round =>
            clear KP7 KZ7 HO7 HQ7 HB7
            obtain ⟨k, hk, rfl, hg, KZ, HQ, KP, HO, HB⟩ := hrel
            by_cases hlt : k < zs.length
            · obtain ⟨z, hz⟩ : ∃ z, zs[k]? = some z := ⟨_, List.getElem?_eq_getElem hlt⟩
              rcases Go.Joins.ownsRow_forms HO.out with ⟨_, hn00⟩ | ⟨gp, cp, ep⟩
              · exact absurd hlt (by omega)
              simp only [Value.slice.injEq] at ep
              obtain ⟨rfl, -, rfl⟩ := ep
              rcases Go.Joins.ownsRow_forms HQ.out with ⟨_, hn00⟩ | ⟨gq, cq, eq9⟩
              · exact absurd hlt (by omega)
              simp only [Value.slice.injEq] at eq9
              obtain ⟨rfl, -, rfl⟩ := eq9
              have hcz : wr.cell? ⟨gp, k, none⟩ = some (.int .i64 z) := (World.ownsRow.cellAt HO.out k (by omega)).trans (by simp [vals, hz])
              have hgp := (World.ownsRow.lt HO.out gp rfl).2
              have hgq := (World.ownsRow.lt HQ.out gq rfl).2
              obtain ⟨Pa, Pb, Pc⟩ := KP.out.three
              have Pz := KP.out.lt
              obtain ⟨Za, Zb, Zc⟩ := KZ.out.three
              have Zz := KZ.out.lt
              by_cases hkq : k = q
              · subst hkq
                have hcq : wr.cell? ⟨gq, k, none⟩ = some (.int .i64 m) := (World.ownsRow.cellAt HQ.out k (by omega)).trans (by simp [vals, hlt])
                clear hz
                go_wp2_with fail
                refine wp_region_mix wr.heap.size (by kernel_rfl) (by kernel_rfl) ?_
                repeat (any_goals (go_big_quiet_step (fail)))
                refine wpQuiet_nil ?_
                intro wx hx
                have hb : Below _ _ wx := mix_ex hx
                clear hx
                have KZx := hid (Box.keep KZ.out hb)
                have KPx := hid (Box.keep KP.out hb)
                have HOx := hid (OwnI.keep HO.out hb)
                have HQx := hid (own_keep HQ.out hb)
                have HBx := hid (bbl HB.out hb)
                clear hb hcz hgp hgq Pa Pb Pc Pz Za Zb Zc Zz hcq KP KZ HO HQ HB
                go_wp2_with fail
                go_roundg (zs.length - (k + 1))
                case measure => omega
                case rel => exact ⟨k + 1, by omega, by go_num, rfl, KZx, HQx, KPx, HOx, HBx⟩
              · have hki : ¬ ((k : Int) = q) := by omega
                have hd1 : decide ((k : Int) = (q : Int)) = false := decide_eq_false hki
                have hd2 : ((k : Int) == (q : Int)) = false := by simp; omega
                have hd3 : ((k : Int) != (q : Int)) = true := by simp; omega
                have hd4 : decide (k = q) = false := decide_eq_false hkq
                have hd5 : decide (¬ ((k : Int) = (q : Int))) = true := decide_eq_true hki
                have hd6 : decide ((k : Int) ≠ (q : Int)) = true := decide_eq_true hki
                have hcq : wr.cell? ⟨gq, k, none⟩ = some (.int .i64 z) := (World.ownsRow.cellAt HQ.out k (by omega)).trans (by simp [vals, List.getElem?_set, hz, Ne.symm hkq])
                clear hz
                go_wp2_with fail
                refine wp_region_mix wr.heap.size (by kernel_rfl) (by kernel_rfl) ?_
                repeat (any_goals (go_big_quiet_step (fail)))
                refine wpQuiet_nil ?_
                intro wx hx
                have hb : Below _ _ wx := mix_ex hx
                clear hx
                have KZx := hid (Box.keep KZ.out hb)
                have KPx := hid (Box.keep KP.out hb)
                have HOx := hid (OwnI.keep HO.out hb)
                have HQx := hid (own_keep HQ.out hb)
                have HBx := hid (bbl HB.out hb)
                clear hb hcz hgp hgq Pa Pb Pc Pz Za Zb Zc Zz hcq KP KZ HO HQ HB
                go_wp2_with fail
                go_roundg (zs.length - (k + 1))
                case measure => omega
                case rel => exact ⟨k + 1, by omega, by go_num, rfl, KZx, HQx, KPx, HOx, HBx⟩
            · obtain ⟨nn, hnn⟩ : ∃ nn, nn = zs.length := ⟨_, rfl⟩
              obtain rfl : k = zs.length := by omega
              clear hnn hlt hk
              go_wp2_with fail
              go_ret
              exact ⟨rfl, HB.out⟩
end Go.Proofs.Ytbgigompkmnapaa

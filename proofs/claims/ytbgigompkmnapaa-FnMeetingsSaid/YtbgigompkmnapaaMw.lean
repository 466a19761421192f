/- SelfCrossings, CommonCrossings: contracts. -/
import Derived.Test.YtbgigompkmnapaaMv
namespace Go.Proofs.Ytbgigompkmnapaa
set_option linter.unusedSimpArgs false
set_option linter.unusedVariables false
open Go.ChangeShapes Go.WideShapes Go.ChangeAt Go.RowKit
/-- What SelfCrossings and CommonCrossings answer. -/
def slR (W H : Int) (zs : List Int) (a : Int) : Int := if ccF W H zs [a] = 0 then (xC W H zs a a zs.length : Int) else 0
def cmC (W H : Int) (zs : List Int) (a b : Int) : Int := if ccF W H zs [a, b] = 0 then (if a = b then 6 else 0) else ccF W H zs [a, b]
def cmR (W H : Int) (zs : List Int) (a b : Int) : Int := if cmC W H zs a b = 0 then (xC W H zs a b zs.length : Int) else 0
theorem cc_valid {W H : Int} {zs ks : List Int} (h : ccF W H zs ks = 0) : validB W H zs = true := by
  unfold ccF at h
  cases hv : validB W H zs
  · simp [hv] at h
  · rfl
theorem cc_three (W H : Int) (zs ks : List Int) : ccF W H zs ks = 0 ∨ ccF W H zs ks = 1 ∨ ccF W H zs ks = 2 := by
  unfold ccF
  split
  · split <;> simp
  · simp
theorem cc_two {W H : Int} {zs : List Int} {a b : Int} : (ccF W H zs [a] = 0 → ccF W H zs [a, b] = ccF W H zs [b]) ∧ (ccF W H zs [a] ≠ 0 → ccF W H zs [a, b] = ccF W H zs [a]) := by
  unfold ccF
  cases validB W H zs
  · simp
  · cases h1 : inR a 0 (ncF W H zs - 1) <;> cases h2 : inR b 0 (ncF W H zs - 1) <;> simp [h1, h2]
set_option maxRecDepth 100000 in
set_option maxHeartbeats 8000000 in
theorem implSelfCrossings_any (W H : Int) (A : Option Addr) (c : Nat) (zs : List Int) (a : Int) (w : World) (hz : Ints w w.heap.size A zs) (hl : zs.length ≤ maxLen) (_ : (Lit.int .i64 a).wf = true) :
    Calls Try.prog 22 #[.agg #[.int .i64 W, .int .i64 H, .slice A zs.length c], .int .i64 a] w fun e w' => e = .returned (.tuple #[.int .i64 (slR W H zs a), .int .i64 (ccF W H zs [a])]) ∧ Below w.heap.size w w' := by
  obtain ⟨cc, hcc⟩ : ∃ cc, ccF W H zs [a] = cc := ⟨_, rfl⟩
  have HC := hid hcc
  by_cases hc0 : cc = 0
  · subst hc0
    have hv := cc_valid hcc
    have HV : Hid (slR W H zs a = (xC W H zs a a zs.length : Int) ∧ ccF W H zs [a] = 0) := hid ⟨by unfold slR; rw [if_pos hcc], hcc⟩
    have HCNT := hid (count_hits (W := W) (H := H) (zs := zs) (L := [a]) (a := a) (b := a) (fun k hk h0 => hit_self hv hk h0 a))
    obtain ⟨L, hL⟩ : ∃ L : List Int, [a] = L := ⟨_, rfl⟩
    have HLL := hid hL
    rw [hL] at HCNT
    have hxl := xC_le W H zs a a zs.length
    have hzl : zs.length ≤ 112 := by have h1 := valid_len hv; have h2 := inner_le (valid_sides hv).1 (valid_sides hv).2; omega
    obtain ⟨nb, nb2, nb3⟩ := nn_bd hv
    have hfew := tr_few hv
    have Hv := hid hv
    have hcl := crI_len zs zs.length
    obtain ⟨l, hll⟩ : ∃ l, crI zs zs.length = l := ⟨_, rfl⟩
    have HLI := hid hll
    rw [hll] at HCNT hcl
    obtain ⟨m, hm⟩ : ∃ m, l.length = m := ⟨_, rfl⟩
    have HM := hid hm
    rw [hm] at hcl
    clear hcc hv nb3 hL hll hm
    go_enter Try.func22, Try.ntmps22
    go_wp2_with fail
    have hlit := World.ownsRow_lit (base := w.heap.size) (e := 2) (size := 1) (w.alloc (.cells #[.int .i64 W, .int .i64 H, .slice A zs.length c] 30)) #[.int .i64 a] 1 (by simp) (by decide) rfl
    simp only [World.size_alloc] at hlit
    have HI : Hid (Ints ((w.alloc (.cells #[.int .i64 W, .int .i64 H, .slice A zs.length c] 30)).alloc (.cells #[.int .i64 a] 2)) ((w.alloc (.cells #[.int .i64 W, .int .i64 H, .slice A zs.length c] 30)).alloc (.cells #[.int .i64 a] 2)).heap.size (some ⟨w.heap.size + 1, 0, none⟩) [a]) := hid (OwnI.ints (B := w.heap.size) (n := 1) (c := 1) (zs := [a]) hlit)
    clear hlit
    refine (calls_i (curveCode_any W H A _ c 1 zs [a] _ ((hz.below (bal (bal (Below.refl _ _) _) _)).more (bal (bal (Below.refl _ _) _) _).size) hl HI.out (by simp)) HC.out).mono ?_
    rintro e w1 ⟨rfl, hb1⟩
    have KP1 := hid (Box.keep (Box.alloc (Box.new w 30 #[.int .i64 W, .int .i64 H, .slice A zs.length c]) _) hb1)
    have HB1 := hid (bbl (bal (bal (Below.refl _ _) _) _) hb1)
    clear hb1 HI
    obtain ⟨Pa, Pb, Pc⟩ := KP1.out.three
    have Pz := KP1.out.lt
    go_wp2_with fail
    refine (trace_any W H A c zs _ ((hz.below HB1.out).more HB1.out.size) hl Hv.out).mono ?_
    rintro e w2 ⟨⟨E1, d1, E2, d2, rfl, hne2, ho2⟩, hb2⟩
    have KP2 := hid (Box.keep KP1.out hb2)
    have HO2 := hid ho2
    have HB2 := hid (bbl HB1.out hb2)
    clear hne2 hb2 ho2 Pa Pb Pc Pz
    rcases Go.Joins.ownsRow_forms HO2.out with ⟨_, hn0⟩ | ⟨go, co, e7⟩
    · exact absurd hn0 (by omega)
    simp only [Value.slice.injEq] at e7
    obtain ⟨rfl, -, rfl⟩ := e7
    obtain ⟨Pa, Pb, Pc⟩ := KP2.out.three
    have Pz := KP2.out.lt
    go_wp2_with fail
    refine (crossings_any W H A c zs _ ((hz.below HB2.out).more HB2.out.size) Hv.out).mono ?_
    rintro e w3 ⟨⟨A3, c3, rfl, ho3⟩, hb3⟩
    rw [HLI.out, HM.out] at ho3 ⊢
    have KP3 := hid (Box.keep KP2.out hb3)
    have HO3 := hid (own_keep HO2.out hb3)
    have HX3 := hid ho3
    have HB3 := hid (bbl HB2.out hb3)
    clear hb3 ho3 Pa Pb Pc Pz
    go_wp2_with fail
    go_loopg [7, 27] m (fun g v i wr => ∃ j : Nat, j ≤ m ∧ v = .int .i64 (((l.take j).countP (hitB W H zs L) : Nat) : Int) ∧ i = .int .i64 j ∧ g = m - j ∧ Hid (Box wr w.heap.size 30 #[.int .i64 W, .int .i64 H, .slice A zs.length c]) ∧ Hid (wr.ownsRow w1.heap.size 2 1 (.slice (some ⟨go, 0, none⟩) (4 * W * H).toNat d2) (4 * W * H).toNat (vals (owL W H zs))) ∧ Hid (wr.ownsRow w2.heap.size 32 2 (.slice A3 m c3) m (crCells W H l)) ∧ Hid (Below w.heap.size w wr))
    case atStart => exact ⟨0, Nat.zero_le _, rfl, rfl, rfl, KP3, HO3, HX3, HB3⟩
    case round =>
      obtain ⟨j, hj, rfl, rfl, hg, KP, HO, HX, HB⟩ := hrel
      obtain ⟨ct, hct⟩ : ∃ ct, (l.take j).countP (hitB W H zs L) = ct := ⟨_, rfl⟩
      have HCT := hid hct
      have hctl : ct ≤ j := by rw [← hct]; exact Nat.le_trans List.countP_le_length (by simp; omega)
      simp only [hct]
      clear hct
      by_cases hlt : j < m
      · obtain ⟨k, hkj⟩ : ∃ k, l[j]? = some k := ⟨_, List.getElem?_eq_getElem (by have := HM.out; omega)⟩
        have hmem : k ∈ crI zs zs.length := by rw [HLI.out]; exact List.mem_of_getElem? hkj
        have hkz := (crI_mem hmem).1
        have HPC := hid (pt_code Hv.out hkz)
        have HST := hid (countP_take (p := hitB W H zs L) hkj)
        have hxy := crCells_at W H l j k hkj
        rcases Go.Joins.ownsRow_forms HX.out with ⟨_, hn0⟩ | ⟨gp, cp, ep⟩
        · exact absurd hlt (by omega)
        simp only [Value.slice.injEq] at ep
        obtain ⟨rfl, -, rfl⟩ := ep
        have hx0 : wr.cell? ⟨gp, j * 2, none⟩ = some (.int .i64 (ptX W H k)) := (HX.out.cellAt (j * 2) (by omega)).trans hxy.1
        have hx1 : wr.cell? ⟨gp, j * 2 + 1, none⟩ = some (.int .i64 (ptY W H k)) := (HX.out.cellAt (j * 2 + 1) (by omega)).trans hxy.2
        have HHIT : Hid (hitB W H zs L k = decide (ctF H (owL W H zs) (ptX W H k) (ptY W H k) = L)) := hid rfl
        obtain ⟨X, hX⟩ : ∃ X, ptX W H k = X := ⟨_, rfl⟩
        obtain ⟨Y, hY⟩ : ∃ Y, ptY W H k = Y := ⟨_, rfl⟩
        rw [hX] at hx0 HPC HHIT
        rw [hY] at hx1 HPC HHIT
        have hgp := (HX.out.lt gp rfl).2
        obtain ⟨Pa, Pb, Pc⟩ := KP.out.three
        have Pz := KP.out.lt
        clear hkj hxy hX hY hmem
        go_wp2_with fail
        refine (curvesAt_any W H X Y A c zs _ HPC.out Hv.out _ _ _ (owL W H zs) (owL_len Hv.out) (HO.out.alloc _)).mono ?_
        rintro e w5 ⟨⟨A5, c5, rfl, ho5⟩, hb5⟩
        have KP5 := hid (Box.keep (Box.alloc KP.out _) hb5)
        have HO5 := hid (own_keep (HO.out.alloc _) hb5)
        have HX5 := hid (own_keep (HX.out.alloc _) hb5)
        have HB5 := hid (bbl (bal HB.out _) hb5)
        obtain ⟨cs, hcs⟩ : ∃ cs, ctF H (owL W H zs) X Y = cs := ⟨_, rfl⟩
        rw [hcs] at ho5 HHIT ⊢
        have hcl5 : cs.length ≤ maxLen := own_max ho5
        have HR5 := hid ho5
        clear hb5 ho5 hcs Pa Pb Pc Pz hx0 hx1
        go_wp2_with fail
        have hlit2 := World.ownsRow_lit (base := w.heap.size) (e := 2) (size := 1) w5 #[.int .i64 a] 1 HB5.out.size (by decide) rfl
        have HI2 : Hid (Ints (w5.alloc (.cells #[.int .i64 a] 2)) (w5.alloc (.cells #[.int .i64 a] 2)).heap.size (some ⟨w5.heap.size, 0, none⟩) [a]) := hid (OwnI.ints (B := w.heap.size) (n := 1) (c := 1) (zs := [a]) hlit2)
        clear hlit2
        cases hd : decide (cs = L)
        · have HD := hid hd
          have HDD : Hid (decide (cs = [a]) = false) := hid (by rw [HLL.out]; exact hd)
          clear hd
          refine (calls_bool (equalI_any _ _ c5 1 cs [a] _ (w5.heap.size + 1) ((OwnI.ints (B := wr.heap.size + 1) (zs := cs) (OwnI.alloc (B := wr.heap.size + 1) (by have h := HR5.out; simp only [World.size_alloc] at h; exact h) _)).more (by simp)) (HI2.out.more (by simp)) hcl5 (by simp [maxLen])) HDD.out).mono ?_
          rintro e w6 ⟨rfl, mm, rfl⟩
          clear HI2
          go_wp2_with fail
          go_roundg (m - (j + 1))
          case measure => omega
          case rel => exact ⟨j + 1, by omega, by rw [HST.out, HCT.out, HHIT.out, HD.out]; go_num, by go_num, rfl, hid (Box.alloc KP5.out _), hid (HO5.out.alloc _), hid (HX5.out.alloc _), hid (below_drewN (bal HB5.out _) _)⟩
        · have HD := hid hd
          have HDD : Hid (decide (cs = [a]) = true) := hid (by rw [HLL.out]; exact hd)
          clear hd
          refine (calls_bool (equalI_any _ _ c5 1 cs [a] _ (w5.heap.size + 1) ((OwnI.ints (B := wr.heap.size + 1) (zs := cs) (OwnI.alloc (B := wr.heap.size + 1) (by have h := HR5.out; simp only [World.size_alloc] at h; exact h) _)).more (by simp)) (HI2.out.more (by simp)) hcl5 (by simp [maxLen])) HDD.out).mono ?_
          rintro e w6 ⟨rfl, mm, rfl⟩
          clear HI2
          go_wp2_with fail
          go_roundg (m - (j + 1))
          case measure => omega
          case rel => exact ⟨j + 1, by omega, by rw [HST.out, HCT.out, HHIT.out, HD.out]; go_num, by go_num, rfl, hid (Box.alloc KP5.out _), hid (HO5.out.alloc _), hid (HX5.out.alloc _), hid (below_drewN (bal HB5.out _) _)⟩
      · obtain rfl : j = m := by omega
        have HF : Hid (ct = xC W H zs a a zs.length) := hid (by rw [← HCNT.out, ← HCT.out, List.take_of_length_le (by have := HM.out; omega)])
        go_wp2_with fail
        go_ret2
        exact ⟨ret_i2 (by rw [HV.out.1, HF.out]) HV.out.2.symm, HB.out⟩
  · have hne : (cc != 0) = true := by simp [hc0]
    have HV : Hid (slR W H zs a = 0 ∧ ccF W H zs [a] = cc) := hid ⟨by unfold slR; rw [hcc, if_neg hc0], hcc⟩
    clear hcc hc0
    go_enter Try.func22, Try.ntmps22
    go_wp2_with fail
    have hlit := World.ownsRow_lit (base := w.heap.size) (e := 2) (size := 1) (w.alloc (.cells #[.int .i64 W, .int .i64 H, .slice A zs.length c] 30)) #[.int .i64 a] 1 (by simp) (by decide) rfl
    simp only [World.size_alloc] at hlit
    have HI : Hid (Ints ((w.alloc (.cells #[.int .i64 W, .int .i64 H, .slice A zs.length c] 30)).alloc (.cells #[.int .i64 a] 2)) ((w.alloc (.cells #[.int .i64 W, .int .i64 H, .slice A zs.length c] 30)).alloc (.cells #[.int .i64 a] 2)).heap.size (some ⟨w.heap.size + 1, 0, none⟩) [a]) := hid (OwnI.ints (B := w.heap.size) (n := 1) (c := 1) (zs := [a]) hlit)
    clear hlit
    refine (calls_i (curveCode_any W H A _ c 1 zs [a] _ ((hz.below (bal (bal (Below.refl _ _) _) _)).more (bal (bal (Below.refl _ _) _) _).size) hl HI.out (by simp)) HC.out).mono ?_
    rintro e w1 ⟨rfl, hb1⟩
    have KP1 := hid (Box.keep (Box.alloc (Box.new w 30 #[.int .i64 W, .int .i64 H, .slice A zs.length c]) _) hb1)
    have HB1 := hid (bbl (bal (bal (Below.refl _ _) _) _) hb1)
    clear hb1 HI
    obtain ⟨Pa, Pb, Pc⟩ := KP1.out.three
    have Pz := KP1.out.lt
    go_wp2_with fail
    go_ret2
    exact ⟨ret_i2 HV.out.1.symm HV.out.2.symm, HB1.out⟩
set_option maxRecDepth 100000 in
set_option maxHeartbeats 8000000 in
theorem implCommonCrossings_any (W H : Int) (A : Option Addr) (c : Nat) (zs : List Int) (a b : Int) (w : World) (hz : Ints w w.heap.size A zs) (hl : zs.length ≤ maxLen) (_ : (Lit.int .i64 a).wf = true) (_ : (Lit.int .i64 b).wf = true) :
    Calls Try.prog 24 #[.agg #[.int .i64 W, .int .i64 H, .slice A zs.length c], .int .i64 a, .int .i64 b] w fun e w' => e = .returned (.tuple #[.int .i64 (cmR W H zs a b), .int .i64 (cmC W H zs a b)]) ∧ Below w.heap.size w w' := by
  obtain ⟨cc, hcc⟩ : ∃ cc, ccF W H zs [a, b] = cc := ⟨_, rfl⟩
  have HC := hid hcc
  by_cases hc0 : cc = 0
  · subst hc0
    have hv := cc_valid hcc
    by_cases hab : a = b
    · have HV : Hid (cmR W H zs a b = 0 ∧ cmC W H zs a b = 6) := hid (by have h1 : cmC W H zs a b = 6 := (by unfold cmC; rw [if_pos hcc, if_pos hab]); exact ⟨by unfold cmR; rw [h1]; rfl, h1⟩)
      have heq : (a == b) = true := by simp [hab]
      clear hcc hv hab
      go_enter Try.func24, Try.ntmps24
      go_wp2_with fail
      have hlit := World.ownsRow_lit (base := w.heap.size) (e := 2) (size := 1) (w.alloc (.cells #[.int .i64 W, .int .i64 H, .slice A zs.length c] 30)) #[.int .i64 a, .int .i64 b] 2 (by simp) (by decide) rfl
      simp only [World.size_alloc] at hlit
      have HI : Hid (Ints ((w.alloc (.cells #[.int .i64 W, .int .i64 H, .slice A zs.length c] 30)).alloc (.cells #[.int .i64 a, .int .i64 b] 2)) ((w.alloc (.cells #[.int .i64 W, .int .i64 H, .slice A zs.length c] 30)).alloc (.cells #[.int .i64 a, .int .i64 b] 2)).heap.size (some ⟨w.heap.size + 1, 0, none⟩) [a, b]) := hid (OwnI.ints (B := w.heap.size) (n := 2) (c := 2) (zs := [a, b]) hlit)
      clear hlit
      refine (calls_i (curveCode_any W H A _ c 2 zs [a, b] _ ((hz.below (bal (bal (Below.refl _ _) _) _)).more (bal (bal (Below.refl _ _) _) _).size) hl HI.out (by simp)) HC.out).mono ?_
      rintro e w1 ⟨rfl, hb1⟩
      have KP1 := hid (Box.keep (Box.alloc (Box.new w 30 #[.int .i64 W, .int .i64 H, .slice A zs.length c]) _) hb1)
      have HB1 := hid (bbl (bal (bal (Below.refl _ _) _) _) hb1)
      clear hb1 HI
      obtain ⟨Pa, Pb, Pc⟩ := KP1.out.three
      have Pz := KP1.out.lt
      go_wp2_with fail
      go_ret2
      exact ⟨ret_i2 HV.out.1.symm HV.out.2.symm, HB1.out⟩
    · skip
      have heq : (a == b) = false := by simp [hab]
      have hC : cmC W H zs a b = 0 := by unfold cmC; rw [if_pos hcc, if_neg hab]
      have HV : Hid (cmR W H zs a b = (xC W H zs a b zs.length : Int) ∧ cmC W H zs a b = 0) := hid ⟨by unfold cmR; rw [if_pos hC], hC⟩
      have HCNT := hid (count_hits (W := W) (H := H) (zs := zs) (L := [min a b, max a b]) (a := a) (b := b) (fun k hk h0 => hit_two hv hk h0 hab))
      obtain ⟨L, hL⟩ : ∃ L : List Int, [min a b, max a b] = L := ⟨_, rfl⟩
      have HLL := hid hL
      rw [hL] at HCNT
      have hxl := xC_le W H zs a b zs.length
      have hzl : zs.length ≤ 112 := by have h1 := valid_len hv; have h2 := inner_le (valid_sides hv).1 (valid_sides hv).2; omega
      obtain ⟨nb, nb2, nb3⟩ := nn_bd hv
      have hfew := tr_few hv
      have Hv := hid hv
      have hcl := crI_len zs zs.length
      obtain ⟨l, hll⟩ : ∃ l, crI zs zs.length = l := ⟨_, rfl⟩
      have HLI := hid hll
      rw [hll] at HCNT hcl
      obtain ⟨m, hm⟩ : ∃ m, l.length = m := ⟨_, rfl⟩
      have HM := hid hm
      rw [hm] at hcl
      clear hcc hv nb3 hL hll hm hab hC
      go_enter Try.func24, Try.ntmps24
      go_wp2_with fail
      have hlit := World.ownsRow_lit (base := w.heap.size) (e := 2) (size := 1) (w.alloc (.cells #[.int .i64 W, .int .i64 H, .slice A zs.length c] 30)) #[.int .i64 a, .int .i64 b] 2 (by simp) (by decide) rfl
      simp only [World.size_alloc] at hlit
      have HI : Hid (Ints ((w.alloc (.cells #[.int .i64 W, .int .i64 H, .slice A zs.length c] 30)).alloc (.cells #[.int .i64 a, .int .i64 b] 2)) ((w.alloc (.cells #[.int .i64 W, .int .i64 H, .slice A zs.length c] 30)).alloc (.cells #[.int .i64 a, .int .i64 b] 2)).heap.size (some ⟨w.heap.size + 1, 0, none⟩) [a, b]) := hid (OwnI.ints (B := w.heap.size) (n := 2) (c := 2) (zs := [a, b]) hlit)
      clear hlit
      refine (calls_i (curveCode_any W H A _ c 2 zs [a, b] _ ((hz.below (bal (bal (Below.refl _ _) _) _)).more (bal (bal (Below.refl _ _) _) _).size) hl HI.out (by simp)) HC.out).mono ?_
      rintro e w1 ⟨rfl, hb1⟩
      have KP1 := hid (Box.keep (Box.alloc (Box.new w 30 #[.int .i64 W, .int .i64 H, .slice A zs.length c]) _) hb1)
      have HB1 := hid (bbl (bal (bal (Below.refl _ _) _) _) hb1)
      clear hb1 HI
      obtain ⟨Pa, Pb, Pc⟩ := KP1.out.three
      have Pz := KP1.out.lt
      go_wp2_with fail
      refine (trace_any W H A c zs _ ((hz.below HB1.out).more HB1.out.size) hl Hv.out).mono ?_
      rintro e w2 ⟨⟨E1, d1, E2, d2, rfl, hne2, ho2⟩, hb2⟩
      have KP2 := hid (Box.keep KP1.out hb2)
      have HO2 := hid ho2
      have HB2 := hid (bbl HB1.out hb2)
      clear hne2 hb2 ho2 Pa Pb Pc Pz
      rcases Go.Joins.ownsRow_forms HO2.out with ⟨_, hn0⟩ | ⟨go, co, e7⟩
      · exact absurd hn0 (by omega)
      simp only [Value.slice.injEq] at e7
      obtain ⟨rfl, -, rfl⟩ := e7
      obtain ⟨Pa, Pb, Pc⟩ := KP2.out.three
      have Pz := KP2.out.lt
      go_wp2_with fail
      refine (crossings_any W H A c zs _ ((hz.below HB2.out).more HB2.out.size) Hv.out).mono ?_
      rintro e w3 ⟨⟨A3, c3, rfl, ho3⟩, hb3⟩
      rw [HLI.out, HM.out] at ho3 ⊢
      have KP3 := hid (Box.keep KP2.out hb3)
      have HO3 := hid (own_keep HO2.out hb3)
      have HX3 := hid ho3
      have HB3 := hid (bbl HB2.out hb3)
      clear hb3 ho3 Pa Pb Pc Pz
      go_wp2_with fail
      go_loopg [9, 33] m (fun g v i wr => ∃ j : Nat, j ≤ m ∧ v = .int .i64 (((l.take j).countP (hitB W H zs L) : Nat) : Int) ∧ i = .int .i64 j ∧ g = m - j ∧ Hid (Box wr w.heap.size 30 #[.int .i64 W, .int .i64 H, .slice A zs.length c]) ∧ Hid (wr.ownsRow w1.heap.size 2 1 (.slice (some ⟨go, 0, none⟩) (4 * W * H).toNat d2) (4 * W * H).toNat (vals (owL W H zs))) ∧ Hid (wr.ownsRow w2.heap.size 32 2 (.slice A3 m c3) m (crCells W H l)) ∧ Hid (Below w.heap.size w wr))
      case atStart => exact ⟨0, Nat.zero_le _, rfl, rfl, rfl, KP3, HO3, HX3, HB3⟩
      case round =>
        obtain ⟨j, hj, rfl, rfl, hg, KP, HO, HX, HB⟩ := hrel
        obtain ⟨ct, hct⟩ : ∃ ct, (l.take j).countP (hitB W H zs L) = ct := ⟨_, rfl⟩
        have HCT := hid hct
        have hctl : ct ≤ j := by rw [← hct]; exact Nat.le_trans List.countP_le_length (by simp; omega)
        simp only [hct]
        clear hct
        by_cases hlt : j < m
        · obtain ⟨k, hkj⟩ : ∃ k, l[j]? = some k := ⟨_, List.getElem?_eq_getElem (by have := HM.out; omega)⟩
          have hmem : k ∈ crI zs zs.length := by rw [HLI.out]; exact List.mem_of_getElem? hkj
          have hkz := (crI_mem hmem).1
          have HPC := hid (pt_code Hv.out hkz)
          have HST := hid (countP_take (p := hitB W H zs L) hkj)
          have hxy := crCells_at W H l j k hkj
          rcases Go.Joins.ownsRow_forms HX.out with ⟨_, hn0⟩ | ⟨gp, cp, ep⟩
          · exact absurd hlt (by omega)
          simp only [Value.slice.injEq] at ep
          obtain ⟨rfl, -, rfl⟩ := ep
          have hx0 : wr.cell? ⟨gp, j * 2, none⟩ = some (.int .i64 (ptX W H k)) := (HX.out.cellAt (j * 2) (by omega)).trans hxy.1
          have hx1 : wr.cell? ⟨gp, j * 2 + 1, none⟩ = some (.int .i64 (ptY W H k)) := (HX.out.cellAt (j * 2 + 1) (by omega)).trans hxy.2
          have HHIT : Hid (hitB W H zs L k = decide (ctF H (owL W H zs) (ptX W H k) (ptY W H k) = L)) := hid rfl
          obtain ⟨X, hX⟩ : ∃ X, ptX W H k = X := ⟨_, rfl⟩
          obtain ⟨Y, hY⟩ : ∃ Y, ptY W H k = Y := ⟨_, rfl⟩
          rw [hX] at hx0 HPC HHIT
          rw [hY] at hx1 HPC HHIT
          have hgp := (HX.out.lt gp rfl).2
          obtain ⟨Pa, Pb, Pc⟩ := KP.out.three
          have Pz := KP.out.lt
          clear hkj hxy hX hY hmem
          go_wp2_with fail
          refine (curvesAt_any W H X Y A c zs _ HPC.out Hv.out _ _ _ (owL W H zs) (owL_len Hv.out) (HO.out.alloc _)).mono ?_
          rintro e w5 ⟨⟨A5, c5, rfl, ho5⟩, hb5⟩
          have KP5 := hid (Box.keep (Box.alloc KP.out _) hb5)
          have HO5 := hid (own_keep (HO.out.alloc _) hb5)
          have HX5 := hid (own_keep (HX.out.alloc _) hb5)
          have HB5 := hid (bbl (bal HB.out _) hb5)
          obtain ⟨cs, hcs⟩ : ∃ cs, ctF H (owL W H zs) X Y = cs := ⟨_, rfl⟩
          rw [hcs] at ho5 HHIT ⊢
          have hcl5 : cs.length ≤ maxLen := own_max ho5
          have HR5 := hid ho5
          clear hb5 ho5 hcs Pa Pb Pc Pz hx0 hx1
          go_wp2_with fail
          have hlit2 := World.ownsRow_lit (base := w.heap.size) (e := 2) (size := 1) w5 #[.int .i64 (min a b), .int .i64 (max a b)] 2 HB5.out.size (by decide) rfl
          have HI2 : Hid (Ints (w5.alloc (.cells #[.int .i64 (min a b), .int .i64 (max a b)] 2)) (w5.alloc (.cells #[.int .i64 (min a b), .int .i64 (max a b)] 2)).heap.size (some ⟨w5.heap.size, 0, none⟩) [min a b, max a b]) := hid (OwnI.ints (B := w.heap.size) (n := 2) (c := 2) (zs := [min a b, max a b]) hlit2)
          clear hlit2
          cases hd : decide (cs = L)
          · have HD := hid hd
            have HDD : Hid (decide (cs = [min a b, max a b]) = false) := hid (by rw [HLL.out]; exact hd)
            clear hd
            refine (calls_bool (equalI_any _ _ c5 2 cs [min a b, max a b] _ (w5.heap.size + 1) ((OwnI.ints (B := wr.heap.size + 1) (zs := cs) (OwnI.alloc (B := wr.heap.size + 1) (by have h := HR5.out; simp only [World.size_alloc] at h; exact h) _)).more (by simp)) (HI2.out.more (by simp)) hcl5 (by simp [maxLen])) HDD.out).mono ?_
            rintro e w6 ⟨rfl, mm, rfl⟩
            clear HI2
            go_wp2_with fail
            go_roundg (m - (j + 1))
            case measure => omega
            case rel => exact ⟨j + 1, by omega, by rw [HST.out, HCT.out, HHIT.out, HD.out]; go_num, by go_num, rfl, hid (Box.alloc KP5.out _), hid (HO5.out.alloc _), hid (HX5.out.alloc _), hid (below_drewN (bal HB5.out _) _)⟩
          · have HD := hid hd
            have HDD : Hid (decide (cs = [min a b, max a b]) = true) := hid (by rw [HLL.out]; exact hd)
            clear hd
            refine (calls_bool (equalI_any _ _ c5 2 cs [min a b, max a b] _ (w5.heap.size + 1) ((OwnI.ints (B := wr.heap.size + 1) (zs := cs) (OwnI.alloc (B := wr.heap.size + 1) (by have h := HR5.out; simp only [World.size_alloc] at h; exact h) _)).more (by simp)) (HI2.out.more (by simp)) hcl5 (by simp [maxLen])) HDD.out).mono ?_
            rintro e w6 ⟨rfl, mm, rfl⟩
            clear HI2
            go_wp2_with fail
            go_roundg (m - (j + 1))
            case measure => omega
            case rel => exact ⟨j + 1, by omega, by rw [HST.out, HCT.out, HHIT.out, HD.out]; go_num, by go_num, rfl, hid (Box.alloc KP5.out _), hid (HO5.out.alloc _), hid (HX5.out.alloc _), hid (below_drewN (bal HB5.out _) _)⟩
        · obtain rfl : j = m := by omega
          have HF : Hid (ct = xC W H zs a b zs.length) := hid (by rw [← HCNT.out, ← HCT.out, List.take_of_length_le (by have := HM.out; omega)])
          go_wp2_with fail
          go_ret2
          exact ⟨ret_i2 (by rw [HV.out.1, HF.out]) HV.out.2.symm, HB.out⟩
  · have hne : (cc != 0) = true := by simp [hc0]
    have HV : Hid (cmR W H zs a b = 0 ∧ cmC W H zs a b = cc) := hid (by have h1 : cmC W H zs a b = cc := (by unfold cmC; rw [hcc, if_neg hc0]); exact ⟨by unfold cmR; rw [h1, if_neg hc0], h1⟩)
    clear hcc hc0
    go_enter Try.func24, Try.ntmps24
    go_wp2_with fail
    have hlit := World.ownsRow_lit (base := w.heap.size) (e := 2) (size := 1) (w.alloc (.cells #[.int .i64 W, .int .i64 H, .slice A zs.length c] 30)) #[.int .i64 a, .int .i64 b] 2 (by simp) (by decide) rfl
    simp only [World.size_alloc] at hlit
    have HI : Hid (Ints ((w.alloc (.cells #[.int .i64 W, .int .i64 H, .slice A zs.length c] 30)).alloc (.cells #[.int .i64 a, .int .i64 b] 2)) ((w.alloc (.cells #[.int .i64 W, .int .i64 H, .slice A zs.length c] 30)).alloc (.cells #[.int .i64 a, .int .i64 b] 2)).heap.size (some ⟨w.heap.size + 1, 0, none⟩) [a, b]) := hid (OwnI.ints (B := w.heap.size) (n := 2) (c := 2) (zs := [a, b]) hlit)
    clear hlit
    refine (calls_i (curveCode_any W H A _ c 2 zs [a, b] _ ((hz.below (bal (bal (Below.refl _ _) _) _)).more (bal (bal (Below.refl _ _) _) _).size) hl HI.out (by simp)) HC.out).mono ?_
    rintro e w1 ⟨rfl, hb1⟩
    have KP1 := hid (Box.keep (Box.alloc (Box.new w 30 #[.int .i64 W, .int .i64 H, .slice A zs.length c]) _) hb1)
    have HB1 := hid (bbl (bal (bal (Below.refl _ _) _) _) hb1)
    clear hb1 HI
    obtain ⟨Pa, Pb, Pc⟩ := KP1.out.three
    have Pz := KP1.out.lt
    go_wp2_with fail
    go_ret2
    exact ⟨ret_i2 HV.out.1.symm HV.out.2.symm, HB1.out⟩
end Go.Proofs.Ytbgigompkmnapaa

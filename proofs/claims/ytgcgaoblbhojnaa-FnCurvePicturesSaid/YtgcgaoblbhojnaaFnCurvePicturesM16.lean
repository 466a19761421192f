/- Merged texts: To, Cm. -/
import Derived.Test.YtgcgaoblbhojnaaFnCurvePicturesM13
import Derived.Test.YtgcgaoblbhojnaaBw
import Derived.WalkKit
import Derived.Test.YtgcgaoblbhojnaaFnCurvePicturesM15
import Derived.Maps.OwnOps
import Derived.Maps.Views
import Derived.WideKeyEntry
import Derived.BigRegion
import Derived.RegionTactic
namespace Go.Proofs.Ytgcgaoblbhojnaa
set_option linter.unusedSimpArgs false
set_option linter.unusedVariables false
open Go.ChangeShapes Go.WideShapes Go.ChangeAt Go.RowKit Go.Maps
def ncG (W H : Int) (zs : List Int) : Int := ((trS W H zs (4 * W * H).toNat).1.length : Int)
theorem calls_iG {p : Program} {f : Nat} {args : Array Value} {w : World} {P : World → Prop} {a b : Int} (h : Calls p f args w fun e w' => e = .returned (.int .i64 a) ∧ P w') (k : a = b) : Calls p f args w fun e w' => e = .returned (.int .i64 b) ∧ P w' := k ▸ h
theorem ret_iiG {a b c d : Int} (h : a = c) (k : b = d) : Ending.returned (.tuple #[.int .i64 a, .int .i64 b]) = .returned (.tuple #[.int .i64 c, .int .i64 d]) := by rw [h, k]
set_option maxRecDepth 100000 in
set_option maxHeartbeats 4000000 in
theorem curveCode1_any (W H : Int) (A A2 : Option Addr) (c c2 : Nat) (zs : List Int) (a : Int) (w : World) (hz : Ints w w.heap.size A zs) (hl : zs.length ≤ maxLen) (hk2 : Ints w w.heap.size A2 [a]) :
    Calls Try.prog 88 #[.agg #[.int .i64 W, .int .i64 H, .slice A zs.length c], .slice A2 1 c2] w fun e w' => e = .returned (.int .i64 (tcC W H zs a)) ∧ Below w.heap.size w w' := by
  cases hv : validB W H zs
  · have HV : Hid (tcC W H zs a = 1) := hid (by simp [tcC, hv])
    have Hv := hid hv
    clear hv
    go_enter Try.func88, Try.ntmps88
    go_wp2_with fail
    refine (calls_bool (validPanel_any W H A c zs _ ((hz.below (bal (Below.refl _ _) _)).more (bal (Below.refl _ _) _).size) hl) Hv.out).mono ?_
    rintro e w1 ⟨rfl, hb1⟩
    have KP1 := hid (Box.keep (Box.new w _ _) hb1)
    have HB1 : Hid (Below w.heap.size w w1) := hid (bstep (bal (Below.refl _ _) _) hb1)
    clear hb1
    obtain ⟨Pa, Pb, Pc⟩ := KP1.out.three
    have Pz := KP1.out.lt
    go_wp2_with fail
    go_ret
    exact ⟨ret_int HV.out.symm, HB1.out⟩
  · have HV : Hid (tcC W H zs a = if inR a 0 (((trS W H zs (4 * W * H).toNat).1.length : Int) - 1) then 0 else 2) := hid (by simp [tcC, hv])
    have hfew := tr_few hv
    have Hv := hid hv
    clear hv
    obtain ⟨bb, off, rfl, hbb, hcc⟩ := hk2 0 a rfl
    have hcc' : w.cell? ⟨bb, off, none⟩ = some (.int .i64 a) := by simpa using hcc
    have HCC := hid hcc'
    clear hcc hcc' hk2
    go_enter Try.func88, Try.ntmps88
    go_wp2_with fail
    refine (calls_bool (validPanel_any W H A c zs _ ((hz.below (bal (Below.refl _ _) _)).more (bal (Below.refl _ _) _).size) hl) Hv.out).mono ?_
    rintro e w1 ⟨rfl, hb1⟩
    have KP1 := hid (Box.keep (Box.new w _ _) hb1)
    have HB1 : Hid (Below w.heap.size w w1) := hid (bstep (bal (Below.refl _ _) _) hb1)
    clear hb1
    obtain ⟨Pa, Pb, Pc⟩ := KP1.out.three
    have Pz := KP1.out.lt
    go_wp2_with fail
    clear Pa Pb Pc Pz
    go_loopg [12] 1 (fun g i wr => ∃ k : Nat, k ≤ 1 ∧ i = .int .i64 k ∧ g = 1 - k ∧ Hid (k = 1 → inR a 0 (((trS W H zs (4 * W * H).toNat).1.length : Int) - 1) = true) ∧ Hid (Box wr w.heap.size 39 #[.int .i64 W, .int .i64 H, .slice A zs.length c]) ∧ Hid (Below w.heap.size w wr))
    case atStart => exact ⟨0, Nat.zero_le _, rfl, rfl, hid (fun h => by omega), KP1, HB1⟩
    case round =>
      obtain ⟨k, hk, rfl, hg, HA, KP, HB⟩ := hrel
      obtain ⟨Pa, Pb, Pc⟩ := KP.out.three
      have Pz := KP.out.lt
      by_cases hlt : k < 1
      · obtain rfl : k = 0 := by omega
        have hcc : wr.cell? ⟨bb, off, none⟩ = some (.int .i64 a) := (HB.out.cell (p := ⟨bb, off, none⟩) hbb).trans HCC.out
        have hbw : bb < wr.heap.size := by have := HB.out.size; omega
        obtain ⟨nc, hnc⟩ : ∃ z : Int, ((trS W H zs (4 * W * H).toNat).1.length : Int) = z := ⟨_, rfl⟩
        have HNC := hid hnc
        have hncb : 0 ≤ nc ∧ nc ≤ 256 := by omega
        obtain ⟨nc1, nc2⟩ := hncb
        rw [hnc] at HA HV
        clear hnc
        go_wp2_with fail
        refine (calls_iG (countCurves_any W H A c zs _ ((hz.below HB.out).more HB.out.size) hl Hv.out) HNC.out).mono ?_
        rintro e w2 ⟨rfl, hb2⟩
        have KP2 := hid (Box.keep KP.out hb2)
        have HB2 := hid (bbl HB.out hb2)
        clear hb2 Pa Pb Pc Pz
        go_wp2_with fail
        cases hr : inR a 0 (nc - 1)
        · have HR := hid hr
          have HE : Hid (tcC W H zs a = 2) := hid (by rw [HV.out, hr]; rfl)
          clear hr
          refine (calls_bool (inRange_any _ _ _ _) HR.out).mono ?_
          rintro e w' ⟨rfl, rfl⟩
          go_wp2_with fail
          go_ret
          exact ⟨ret_int HE.out.symm, HB2.out⟩
        · have HR := hid hr
          clear hr
          refine (calls_bool (inRange_any _ _ _ _) HR.out).mono ?_
          rintro e w' ⟨rfl, rfl⟩
          go_wp2_with fail
          go_roundg (1 - (0 + 1))
          case measure => omega
          case rel => exact ⟨1, by omega, by go_num, rfl, hid (fun _ => by rw [HNC.out]; exact HR.out), KP2, HB2⟩
      · obtain rfl : k = 1 := by omega
        have HE : Hid (tcC W H zs a = 0) := hid (by rw [HV.out, if_pos (HA.out rfl)])
        go_wp2_with fail
        go_ret
        exact ⟨ret_int HE.out.symm, HB.out⟩
theorem mapKeep {w w' : World} {P : Program} {k : TypeId} {R : Value → Option (DataW Unit × List MemPlace)} {b n : Nat} {D : DataW Unit} (h : w.ownsMap P k R b n D) (hb : Below w.heap.size w w') : w'.ownsMap P k R b n D :=
  h.kept (row := none) ⟨hb.os, hb.tape, hb.output, hb.size, fun k hk _ => hb.block k hk⟩ (by simp)
theorem ints_one (w : World) {b : Nat} {a : Int} (h : w.cell? ⟨b, 0, none⟩ = some (.int .i64 a)) (hb : b < w.heap.size) : Ints w w.heap.size (some ⟨b, 0, none⟩) [a] := by
  intro j z hj
  cases j with
  | zero => simp at hj; subst hj; exact ⟨b, 0, rfl, hb, h⟩
  | succ j => simp at hj
set_option maxRecDepth 100000 in
set_option maxHeartbeats 4000000 in
theorem implTouchesOf_any (W H : Int) (A : Option Addr) (c : Nat) (zs : List Int) (a : Int) (w : World) (hz : Ints w w.heap.size A zs) (hl : zs.length ≤ maxLen) (_ : (Lit.int .i64 a).wf = true) :
    Calls Try.prog 39 #[.agg #[.int .i64 W, .int .i64 H, .slice A zs.length c], .int .i64 a] w fun e w' => e = .returned (.tuple #[.int .i64 (tcR W H zs a), .int .i64 (tcC W H zs a)]) ∧ Below w.heap.size w w' := by
  have hmm := @run_makeMap Try.prog
  by_cases hc0 : tcC W H zs a = 0
  · have hv : validB W H zs = true := by
      cases hv : validB W H zs
      · simp [tcC, hv] at hc0
      · rfl
    have hr : inR a 0 (((trS W H zs (4 * W * H).toNat).1.length : Int) - 1) = true := by
      cases hr : inR a 0 (((trS W H zs (4 * W * H).toNat).1.length : Int) - 1)
      · simp [tcC, hv, hr] at hc0
      · rfl
    have hab : 0 ≤ a ∧ a < ((trS W H zs (4 * W * H).toNat).1.length : Int) := by simp [inR] at hr; omega
    obtain ⟨j, rfl⟩ : ∃ j : Nat, a = (j : Int) := ⟨a.toNat, by omega⟩
    obtain ⟨cj, hcj⟩ : ∃ cj, (trS W H zs (4 * W * H).toNat).1[j]? = some cj := ⟨_, List.getElem?_eq_getElem (by omega)⟩
    have HTR : Hid (tcR W H zs j = (tcn W H cj : Nat)) := hid (by simp [tcR, hv, hr, List.getD_eq_getElem?_getD, hcj])
    obtain ⟨s0, hs0, hcu⟩ := cur_of hv hcj
    have HSZ : Hid (Go.Maps.size (edgeSet W H cj) = tcn W H cj) := hid (by
      have h := edgeSet_size (W := W) (H := H) (c := cj) (by rw [hcu]; exact edge_apart hv hs0) cj.length (Nat.le_refl _)
      rwa [List.take_length] at h)
    have hfew := tr_few hv
    have hc256 := tr_cl hv j cj hcj
    have HOK : Hid (∀ s ∈ cj, okS W H s) := hid (by
      intro s hs
      rw [hcu] at hs
      simp only [curS, List.mem_map] at hs
      obtain ⟨i, _, rfl⟩ := hs
      exact okS_it hv hs0 i)
    have Hv := hid hv
    have HC0 := hid hc0
    have HCJ := hid hcj
    have hjc : j < (trS W H zs (4 * W * H).toNat).1.length := by omega
    clear hv hr hab hcj hcu hs0 hc0
    go_enter Try.func39, Try.ntmps39
    go_wp2_with fail
    refine (calls_iG (curveCode1_any W H A (some ⟨w.heap.size + 1, 0, none⟩) c 1 zs (j : Int) _ ((hz.below (bal (bal (Below.refl _ _) _) _)).more (bal (bal (Below.refl _ _) _) _).size) hl (ints_one _ (by simp [go_sem]) (by simp))) HC0.out).mono ?_
    rintro e w1 ⟨rfl, hb1⟩
    have KP1 : Hid (Box w1 w.heap.size 39 #[.int .i64 W, .int .i64 H, .slice A zs.length c]) := hid (Box.keep (Box.alloc (Box.new w _ _) _) hb1)
    have HB1 : Hid (Below w.heap.size w w1) := hid (bstep (bal (bal (Below.refl _ _) _) _) hb1)
    clear hb1
    obtain ⟨Pa, Pb, Pc⟩ := KP1.out.three
    have Pz := KP1.out.lt
    go_wp2_with fail
    refine (trace_any W H A c zs _ ((hz.below HB1.out).more HB1.out.size) hl Hv.out).mono ?_
    rintro e w2 ⟨⟨E1, d1, E2, d2, rfl, hne, hro⟩, hb2⟩
    have KP2 := hid (Box.keep KP1.out hb2)
    have HB2 := hid (bbl HB1.out hb2)
    clear hb2 Pa Pb Pc Pz hro
    obtain ⟨vs, hO, hI, hD⟩ := hne
    rw [curZ_length] at hO
    obtain ⟨vi, ni, hvi, hri⟩ := hI j (vals (flatW cj)) (by simp [curZ, HCJ.out])
    obtain rfl := cur_len hri
    obtain ⟨Ai, ci, rfl⟩ := own_form hri.1
    have hcl := own_max hri.1
    unfold maxLen at hcl
    obtain ⟨gq, cq, he⟩ := Go.Joins.ownsRow_form hO (by omega)
    simp only [Value.slice.injEq] at he
    obtain ⟨rfl, -, rfl⟩ := he
    have hca : w2.cell? ⟨gq, j, none⟩ = some (.slice Ai cj.length ci) := (World.ownsRow.cellAt hO j (by omega)).trans hvi
    have hgq := (World.ownsRow.lt hO gq rfl).2
    have HR2 : Hid (w2.ownsRow w1.heap.size 100 4 (.slice Ai cj.length ci) cj.length (vals (flatW cj))) := hid hri.1
    have HLT := hid (World.ownsRow.lt hri.1)
    obtain ⟨L, hL⟩ : ∃ L, (trS W H zs (4 * W * H).toNat).1.length = L := ⟨_, rfl⟩
    rw [hL] at hfew hjc ⊢
    clear hO hI hD hvi hri hL
    obtain ⟨Pa, Pb, Pc⟩ := KP2.out.three
    have Pz := KP2.out.lt
    go_wp2_with fail
    clear hca hgq Pa Pb Pc Pz
    go_loopg [30] cj.length (fun g i wr => ∃ k : Nat, k ≤ cj.length ∧ i = .int .i64 k ∧ g = cj.length - k ∧ Hid (wr.ownsMap Try.prog 69 (plainElem (H := Unit) Try.prog 4) w2.heap.size k (edgeSet W H (cj.take k))) ∧ Hid (wr.ownsRow w1.heap.size 100 4 (.slice Ai cj.length ci) cj.length (vals (flatW cj))) ∧ Hid (Box wr w.heap.size 39 #[.int .i64 W, .int .i64 H, .slice A zs.length c]) ∧ Hid (Below w.heap.size w wr))
    case atStart => exact ⟨0, Nat.zero_le _, rfl, rfl, hid (World.ownsMap_made _ _ _ _), hid (HR2.out.alloc _), hid (Box.alloc KP2.out _), hid (bal HB2.out _)⟩
    case round =>
      obtain ⟨k, hk, rfl, hg, HM, HR, KP, HB⟩ := hrel
      have hkp2 := KP2.out.lt
      obtain ⟨Pa, Pb, Pc⟩ := KP.out.three
      have Pz := KP.out.lt
      by_cases hlt : k < cj.length
      · obtain ⟨s, hs⟩ : ∃ s, cj[k]? = some s := ⟨_, List.getElem?_eq_getElem hlt⟩
        obtain ⟨f0, f1, f2, f3⟩ := flatW_at hs
        have hoks := HOK.out s (List.mem_of_getElem? hs)
        obtain ⟨x, y, u, v, hst⟩ : ∃ x y u v, s = (x, y, u, v) := ⟨_, _, _, _, rfl⟩
        subst hst
        dsimp only at f0 f1 f2 f3
        obtain ⟨bx1, bx2, by1, by2, -⟩ := wb_bd (show validWB W H zs x y u v = true by unfold validWB; rw [Hv.out]; exact hoks)
        obtain ⟨gi, cc, he⟩ := Go.Joins.ownsRow_form HR.out (by omega)
        simp only [Value.slice.injEq] at he
        obtain ⟨rfl, -, rfl⟩ := he
        have k0 : wr.cell? ⟨gi, k * 4, none⟩ = some (.int .i64 x) := (World.ownsRow.cellAt HR.out (k * 4) (by omega)).trans (by simp [vals, f0])
        have k1 : wr.cell? ⟨gi, k * 4 + 1, none⟩ = some (.int .i64 y) := (World.ownsRow.cellAt HR.out (k * 4 + 1) (by omega)).trans (by simp [vals, f1])
        have k2 : wr.cell? ⟨gi, k * 4 + 2, none⟩ = some (.int .i64 u) := (World.ownsRow.cellAt HR.out (k * 4 + 2) (by omega)).trans (by simp [vals, f2])
        have k3 : wr.cell? ⟨gi, k * 4 + 3, none⟩ = some (.int .i64 v) := (World.ownsRow.cellAt HR.out (k * 4 + 3) (by omega)).trans (by simp [vals, f3])
        have gz : gi < wr.heap.size := (HR.out.lt gi rfl).2
        have HGI := hid ((HLT.out gi rfl).2)
        have HKY := hid (keyPt_of (show (Lit.int .i64 x).wf = true by simp [Lit.wf, IntKind.min, IntKind.max, IntKind.bits, IntKind.signed]; omega) (show (Lit.int .i64 y).wf = true by simp [Lit.wf, IntKind.min, IntKind.max, IntKind.bits, IntKind.signed]; omega))
        have HS := hid hs
        clear f0 f1 f2 f3 hs hoks
        cases hed : edgeP W H x y
        · have HED := hid hed
          have HES := hid (edgeSet_same HS.out hed)
          clear hed
          go_wp2_with fail
          refine (calls_bool (isBorder_any W H x y A zs.length c _ (valid_sides Hv.out).1 (valid_sides Hv.out).2) HED.out).mono ?_
          rintro e w5 ⟨rfl, hb5⟩
          have hM5 := hid (mapKeep (HM.out.alloc _) hb5)
          have hR5 := hid (own_keep (HR.out.alloc _) hb5)
          have hP5 := hid (Box.keep (Box.alloc KP.out _) hb5)
          have hB5 : Hid (Below w.heap.size w w5) := hid (bbl (bal HB.out _) hb5)
          clear hb5 k0 k1 k2 k3 gz Pa Pb Pc Pz HM HR KP HB
          go_wp2_with fail
          go_roundg (cj.length - (k + 1))
          case measure => omega
          case rel => exact ⟨k + 1, by omega, by go_num, rfl, hid (by rw [HES.out]; exact hM5.out.mono (by omega)), hR5, hP5, hB5⟩
        · have HED := hid hed
          have HES := hid (edgeSet_take HS.out hed)
          clear hed
          go_wp2_with fail
          refine (calls_bool (isBorder_any W H x y A zs.length c _ (valid_sides Hv.out).1 (valid_sides Hv.out).2) HED.out).mono ?_
          rintro e w5 ⟨rfl, hb5⟩
          have hM5 := hid (mapKeep (HM.out.alloc _) hb5)
          have hR5 := hid (own_keep (HR.out.alloc _) hb5)
          have hP5 := hid (Box.keep (Box.alloc KP.out _) hb5)
          have hB5 : Hid (Below w.heap.size w w5) := hid (bbl (bal HB.out _) hb5)
          have hW5 : Hid (Box w5 wr.heap.size 100 #[.int .i64 x, .int .i64 y, .int .i64 u, .int .i64 v]) := hid (Box.keep (Box.new _ _ _) hb5)
          obtain ⟨Wa, Wb, Wc, Wd⟩ := hW5.out.four
          have Wz := hW5.out.lt
          clear hb5 k0 k1 k2 k3 gz Pa Pb Pc Pz HM HR KP HB
          go_wp2_with (at_mapUpdate; (refine wpList_mapUpdate_own _ rfl _ _ _ 97 rfl 69 4 ptKeyed Try.underlying97 (plainElem (H := Unit) Try.prog 4) w2.heap.size k _ rfl hM5.out (by unfold maxLen; omega) _ _ _ rfl rfl HKY.out _ [] (plainElem_bool Try.underlying4 true) ?_); intro w6 ho6 hg6)
          have HH := hid (And.intro ho6 hg6)
          clear ho6 hg6 Wa Wb Wc Wd Wz
          go_roundg (cj.length - (k + 1))
          case measure => omega
          case rel => exact ⟨k + 1, by omega, by go_num, rfl, hid (by rw [HES.out]; exact HH.out.1), hid (World.ownsRow.kept hR5.out HH.out.2 (.inr fun e => by have h1 := HGI.out; have h2 : gi = w2.heap.size := (by injection e); omega)), hid (Box.grew hP5.out HH.out.2 (fun q hq => by injection hq with hq; omega)), hid (bgrew (lo := w.heap.size) hB5.out HH.out.2 (fun q hq => by injection hq with hq; omega) (Nat.le_refl _))⟩
      · obtain rfl : k = cj.length := by omega
        have HF : Hid (wr.ownsMap Try.prog 69 (plainElem (H := Unit) Try.prog 4) w2.heap.size cj.length (edgeSet W H cj)) := hid (by have h := HM.out; rwa [List.take_length] at h)
        clear HM
        go_wp2_with (at_len; (refine wpList_len_own _ rfl _ 97 rfl 69 4 Try.underlying97 _ w2.heap.size cj.length _ rfl HF.out ?_))
        go_ret2
        exact ⟨ret_iiG (by rw [HTR.out, HSZ.out]) HC0.out.symm, HB.out⟩
  · have HTR : Hid (tcR W H zs a = 0) := hid (by
      unfold tcR
      rw [if_neg]
      intro h
      simp only [Bool.and_eq_true] at h
      exact hc0 (by simp [tcC, h.1, h.2]))
    obtain ⟨m, hm⟩ : ∃ m, tcC W H zs a = m := ⟨_, rfl⟩
    rw [hm] at hc0
    have HC := hid hm
    clear hm
    go_enter Try.func39, Try.ntmps39
    go_wp2_with fail
    refine (calls_iG (curveCode1_any W H A (some ⟨w.heap.size + 1, 0, none⟩) c 1 zs a _ ((hz.below (bal (bal (Below.refl _ _) _) _)).more (bal (bal (Below.refl _ _) _) _).size) hl (ints_one _ (by simp [go_sem]) (by simp))) HC.out).mono ?_
    rintro e w1 ⟨rfl, hb1⟩
    have HB1 : Hid (Below w.heap.size w w1) := hid (bstep (bal (bal (Below.refl _ _) _) _) hb1)
    clear hb1
    go_wp2_with fail
    go_ret2
    exact ⟨ret_iiG HTR.out.symm HC.out.symm, HB1.out⟩
set_option maxRecDepth 100000 in
set_option maxHeartbeats 4000000 in
theorem specTouchesOf_any (W H : Int) (A : Option Addr) (c : Nat) (zs : List Int) (a : Int) (w : World) (hz : Ints w w.heap.size A zs) (hl : zs.length ≤ maxLen) (_ : (Lit.int .i64 a).wf = true) :
    Calls Try.prog 38 #[.agg #[.int .i64 W, .int .i64 H, .slice A zs.length c], .int .i64 a] w fun e w' => e = .returned (.tuple #[.int .i64 (tcR W H zs a), .int .i64 (tcC W H zs a)]) ∧ Below w.heap.size w w' := by
  cases hv : validB W H zs
  · have HV : Hid (tcR W H zs a = 0 ∧ tcC W H zs a = 1) := hid (by simp [tcR, tcC, hv])
    have Hv := hid hv
    clear hv
    go_enter Try.func38, Try.ntmps38
    go_wp2_with fail
    refine (qb (calls_bool (l02Ok_any _ W H A c zs _ w.heap.size (Box.new' _ _ _ _ (by simp)) (hz.below (bal (Below.refl _ _) _)) hl) Hv.out)).mono ?_
    rintro e w1 ⟨rfl, hb1⟩
    have HB1 : Hid (Below w.heap.size w w1) := hid (bstep (bal (Below.refl _ _) _) hb1)
    clear hb1
    go_wp2_with fail
    go_ret2
    exact ⟨ret_iiG HV.out.1.symm HV.out.2.symm, HB1.out⟩
  · have hfew := tr_few hv
    have HCL := hid (tr_cl hv)
    have Hv := hid hv
    have HV1 : Hid (tcC W H zs a = if inR a 0 (((trS W H zs (4 * W * H).toNat).1.length : Int) - 1) then 0 else 2) := hid (by simp [tcC, hv])
    have HV2 : Hid (tcR W H zs a = if inR a 0 (((trS W H zs (4 * W * H).toNat).1.length : Int) - 1) then ((tcn W H ((trS W H zs (4 * W * H).toNat).1.getD a.toNat []) : Nat) : Int) else 0) := hid (by simp [tcR, hv])
    clear hv
    go_enter Try.func38, Try.ntmps38
    go_wp2_with fail
    refine (qb (calls_bool (l02Ok_any _ W H A c zs _ w.heap.size (Box.new' _ _ _ _ (by simp)) (hz.below (bal (Below.refl _ _) _)) hl) Hv.out)).mono ?_
    rintro e w1 ⟨rfl, hb1⟩
    have KP1 : Hid (Box w1 (w.heap.size) 39 #[.int .i64 W, .int .i64 H, .slice A zs.length c]) := hid (Box.keep (Box.new' _ _ _ _ (by simp)) hb1)
    have HB1 : Hid (Below w.heap.size w w1) := hid (bstep (bal (Below.refl _ _) _) hb1)
    clear hb1
    have Pz := KP1.out.lt
    go_wp2_with fail
    refine (l04All_any _ W H A c zs _ w.heap.size HB1.out.size KP1.out (hz.below HB1.out) hl Hv.out).mono ?_
    rintro e w2 ⟨⟨E1, d1, E2, d2, rfl, hne, hro⟩, hb2⟩
    clear Pz
    have KP2 := hid (Box.keep KP1.out hb2)
    have HB2 := hid (bbl HB1.out hb2)
    have HNE := hid hne
    clear hb2 hro hne
    obtain ⟨cs, hcs⟩ : ∃ cs, (trS W H zs (4 * W * H).toNat).1 = cs := ⟨_, rfl⟩
    rw [hcs] at hfew HCL HV1 HV2 HNE ⊢
    clear hcs
    obtain ⟨L, hL⟩ : ∃ L, cs.length = L := ⟨_, rfl⟩
    have hLb : L ≤ 256 := by omega
    rw [hL] at HNE HV1 HV2 ⊢
    have HL := hid hL
    clear hL hfew
    have ht1 : IntKind.i64.wrap ((L : Int) - 1) = (L : Int) - 1 := IntWalk.i64_in _ (by omega)
    go_wp2_with fail
    cases hr : inR a 0 ((L : Int) - 1)
    · have HR := hid hr
      have HT : Hid (tcR W H zs a = 0 ∧ tcC W H zs a = 2) := hid (by rw [HV1.out, HV2.out, hr]; exact ⟨rfl, rfl⟩)
      clear hr
      refine (calls_bool (l00In_any _ _ _ _) HR.out).mono ?_
      rintro e w' ⟨rfl, rfl⟩
      go_wp2_with fail
      go_ret2
      exact ⟨ret_iiG HT.out.1.symm HT.out.2.symm, HB2.out⟩
    · have HR := hid hr
      have hab : 0 ≤ a ∧ a < (L : Int) := by simp [inR] at hr; omega
      obtain ⟨j, rfl⟩ : ∃ j : Nat, a = (j : Int) := ⟨a.toNat, by omega⟩
      have hjL : j < L := by omega
      obtain ⟨cj, hcj⟩ : ∃ cj, cs[j]? = some cj := ⟨_, List.getElem?_eq_getElem (by have := HL.out; omega)⟩
      have HT : Hid (tcR W H zs j = (tcn W H cj : Nat) ∧ tcC W H zs j = 0) := hid (by rw [HV1.out, HV2.out, hr]; simp [List.getD_eq_getElem?_getD, hcj])
      have hc256 := HCL.out j cj hcj
      obtain ⟨vs, hO, hI, hD⟩ := HNE.out
      rw [curP_length, HL.out] at hO
      obtain ⟨vi, ni, hvi, hri⟩ := hI j (vals (flatP cj)) (by simp [curP, hcj])
      obtain rfl := curP_len hri
      obtain ⟨Ai, ci, rfl⟩ := own_form hri.1
      have hcl := own_max hri.1
      unfold maxLen at hcl
      obtain ⟨gq, cq, he⟩ := Go.Joins.ownsRow_form hO (by omega)
      simp only [Value.slice.injEq] at he
      obtain ⟨rfl, -, rfl⟩ := he
      have hca : w2.cell? ⟨gq, j, none⟩ = some (.slice Ai cj.length ci) := (World.ownsRow.cellAt hO j (by omega)).trans hvi
      have HCA := hid hca
      have hgq := (World.ownsRow.lt hO gq rfl).2
      have HGQ := hid hgq
      have HR2 : Hid (w2.ownsRow w1.heap.size 69 2 (.slice Ai cj.length ci) cj.length (vals (flatP cj))) := hid hri.1
      clear hO hI hD hvi hri hr hab hcj hca hgq HNE
      refine (calls_bool (l00In_any _ _ _ _) HR.out).mono ?_
      rintro e w' ⟨rfl, rfl⟩
      go_wp2_with fail
      go_loopg [8, 9] cj.length (fun g m i wr => ∃ k : Nat, k ≤ cj.length ∧ m = .int .i64 ((tcn W H (cj.take k) : Nat) : Int) ∧ i = .int .i64 k ∧ g = cj.length - k ∧ Hid (Below w2.heap.size w2 wr))
      case atStart => exact ⟨0, Nat.zero_le _, rfl, rfl, rfl, hid (Below.refl _ _)⟩
      case round =>
        obtain ⟨k, hk, rfl, rfl, hg, HBr⟩ := hrel
        have hca : wr.cell? ⟨gq, j, none⟩ = some (.slice Ai cj.length ci) := (HBr.out.cell (p := ⟨gq, j, none⟩) HGQ.out).trans HCA.out
        have hgz : gq < wr.heap.size := by have := HBr.out.size; have := HGQ.out; omega
        have HRr := hid (own_keep HR2.out HBr.out)
        have HPr := hid (Box.keep KP2.out HBr.out)
        have hpz := HPr.out.lt
        by_cases hlt : k < cj.length
        · obtain ⟨s, hs⟩ : ∃ s, cj[k]? = some s := ⟨_, List.getElem?_eq_getElem hlt⟩
          obtain ⟨x, y, u, v, hst⟩ : ∃ x y u v, s = (x, y, u, v) := ⟨_, _, _, _, rfl⟩
          subst hst
          have f := flatP_at hs
          have hle : tcn W H (cj.take k) ≤ 256 := Nat.le_trans List.countP_le_length (by simp; omega)
          obtain ⟨gi, cc, he⟩ := Go.Joins.ownsRow_form HRr.out (by omega)
          simp only [Value.slice.injEq] at he
          obtain ⟨rfl, -, rfl⟩ := he
          have k0 : wr.cell? ⟨gi, k * 2, none⟩ = some (.int .i64 x) := (World.ownsRow.cellAt HRr.out (k * 2) (by omega)).trans (by simp [vals, f.1])
          have k1 : wr.cell? ⟨gi, k * 2 + 1, none⟩ = some (.int .i64 y) := (World.ownsRow.cellAt HRr.out (k * 2 + 1) (by omega)).trans (by simp [vals, f.2])
          have gz : gi < wr.heap.size := (HRr.out.lt gi rfl).2
          have HTK := hid (tcn_take (W := W) (H := H) hs)
          clear f hs
          go_wp2_with fail
          cases hed : edgeP W H x y
          · have HED := hid hed
            have HES : Hid (tcn W H (cj.take (k + 1)) = tcn W H (cj.take k)) := hid (by have h := HTK.out; rw [hed] at h; simpa using h)
            clear hed
            refine (calls_bool (l02Edge_any _ W H x y _ _ HPr.out (valid_sides Hv.out).1 (valid_sides Hv.out).2) HED.out).mono ?_
            rintro e w5 ⟨rfl, hb5⟩
            have hB5 := hid (HBr.out.trans (hb5.mono HBr.out.size))
            clear hb5 k0 k1 gz hca hgz hpz
            go_wp2_with fail
            go_roundg (cj.length - (k + 1))
            case measure => omega
            case rel => exact ⟨k + 1, by omega, by rw [HES.out], by go_num, rfl, hB5⟩
          · have HED := hid hed
            have HES : Hid (tcn W H (cj.take (k + 1)) = tcn W H (cj.take k) + 1) := hid (by have h := HTK.out; rw [hed] at h; simpa using h)
            clear hed
            refine (calls_bool (l02Edge_any _ W H x y _ _ HPr.out (valid_sides Hv.out).1 (valid_sides Hv.out).2) HED.out).mono ?_
            rintro e w5 ⟨rfl, hb5⟩
            have hB5 := hid (HBr.out.trans (hb5.mono HBr.out.size))
            clear hb5 k0 k1 gz hca hgz hpz
            go_wp2_with fail
            go_roundg (cj.length - (k + 1))
            case measure => omega
            case rel => exact ⟨k + 1, by omega, by rw [HES.out]; go_num, by go_num, rfl, hB5⟩
        · obtain rfl : k = cj.length := by omega
          have HTT : Hid (tcn W H (cj.take cj.length) = tcn W H cj) := hid (by rw [List.take_length])
          go_wp2_with fail
          go_ret2
          exact ⟨ret_iiG (by rw [HTT.out, HT.out.1]) HT.out.2.symm, HB2.out.trans (HBr.out.mono HB2.out.size)⟩
end Go.Proofs.Ytgcgaoblbhojnaa
namespace Go.Proofs.Ytgcgaoblbhojnaa
set_option linter.unusedSimpArgs false
set_option linter.unusedVariables false
open Go.ChangeShapes Go.WideShapes Go.ChangeAt Go.RowKit
open Go.ChangeMaps Go.MapKept in
/-- 'm[k]++' of a map of the call's own, in whatever order its look-up and its entry come. -/
theorem bump_runs {P : Program} {k e t : TypeId} {q : IntKind} {w : World} {b n : Nat} {D : DataW Unit} (K : Go.WideMaps.KeyLaw P k) (ht : P.underlying t = some (.map k e)) (he : P.underlying e = some (.int q)) (hz : ∀ u : World, (zeroValue e).run P u = .ok (.int q 0) u)
    (h : w.ownsMap P k (plainElem (H := Unit) P e) b n D) (hn : n < maxLen) {key : Value} {kl : Lit} (hkey : keyOf P k key = some kl) :
    ∃ (c : Int) (v0 : Value) (st : Nat) (w1 : World), (Instr.lookup t (.map (some b)) key false).run P w = .ok (.int q c) w ∧ D.atKey kl (.lit (.int q 0)) = .lit (.int q c) ∧
      (Instr.mapEntry t (.map (some b)) key).run P w = .ok (.tuple #[v0, goInt st]) w1 ∧ (Instr.lookup t (.map (some b)) key false).run P w1 = .ok (.int q c) w1 ∧ w.grownBy w1 (some b) ∧
      ∀ c2, (Lit.int q c2).wf = true → ∃ w2, (Instr.entryStore t (.map (some b)) (goInt st) (.int q c2)).run P w1 = .ok () w2 ∧ w2.ownsMap P k (plainElem (H := Unit) P e) b (n + 1) (D.put kl (.lit (.int q c2))) ∧ w.grownBy w2 (some b) := by
  have KK := Go.Maps.Keyed.of_law K
  have hw0 : (Lit.int q 0).wf = true := by cases q <;> decide
  obtain ⟨c, hrun, hat, hwc⟩ := h.lookup_int KK ht he (hz w) hkey
  have h' := h
  obtain ⟨es, clock, hb, F, hs, hD⟩ := h'
  obtain ⟨v0, st, es1, clock1, hE, _, hSt⟩ := Go.WideElems.entry_then_store K ht hz hb F hkey
  have hb1 : (setBlock w b (.map es1 clock1)).heap[b]? = some (.map es1 clock1) := heap_setBlock_same hb _
  have hg1 : w.grownBy (setBlock w b (.map es1 clock1)) (some b) := ⟨rfl, rfl, rfl, by simp [setBlock], fun i _ hi => heap_setBlock_other hb _ (fun e => hi (by rw [e]))⟩
  have hl1 : (Instr.lookup t (.map (some b)) key false).run P (setBlock w b (.map es1 clock1)) = .ok (.int q c) (setBlock w b (.map es1 clock1)) := by
    rcases K.find w hkey es.toList F.keys with ⟨h1, h2⟩ | ⟨j, e0, h1, h2, h3⟩
    · have r1 : (Instr.mapEntry t (.map (some b)) key).run P w = .ok (.tuple #[.int q 0, goInt clock]) (setBlock w b (.map (es.push ⟨key, .int q 0, clock⟩) (clock + 1))) := by
        simp [Instr.mapEntry, run_underlying ht, MapKept.run_getObj_map hb, K.check w false hkey, h1, hz, MapKept.run_setObj_map _ hb, Result.andThen, setBlock]
      have r2 : (Instr.mapUpdate t (.map (some b)) key (.int q 0)).run P w = .ok () (setBlock w b (.map (es.push ⟨key, .int q 0, clock⟩) (clock + 1))) := by
        simp [Instr.mapUpdate, run_underlying ht, MapKept.run_getObj_map hb, K.check w false hkey, h1, MapKept.run_setObj_map _ hb, Result.andThen, setBlock]
      have r0 : (Instr.lookup t (.map (some b)) key false).run P w = .ok (.int q 0) w := by
        simp [Instr.lookup, run_underlying ht, MapKept.run_getObj_map hb, K.check w _ hkey, h1, hz, Result.andThen]
      rw [r0] at hrun
      have hc0 := (Value.int.inj (Result.ok.inj hrun).1).2
      subst hc0
      rw [r1] at hE
      have hEw := (Result.ok.inj hE).2
      obtain ⟨w', r3, o3, g3⟩ := h.update KK ht hn hkey (plainElem_int he hw0)
      rw [r2] at r3
      have r3 := (Result.ok.inj r3).2
      rw [← hEw, r3]
      obtain ⟨c', hrun', hat', _⟩ := o3.lookup_int KK ht he (hz w') hkey
      rw [Go.Maps.atKey_put_same (by rw [hD]; exact ⟨_, rfl⟩) (KK.key hkey)] at hat'
      have hat' := (Lit.int.inj (DataW.lit.inj hat')).2
      rw [hat']
      exact hrun'
    · have hj : es[j]? = some e0 := by simpa using h2
      have hsame : es.modify j (fun e => { e with key := key }) = es := by
        apply Array.ext'
        rw [Array.toList_modify, modify_eq_set _ _ _ _ h2]
        have : ({ e0 with key := key } : MapEntry) = e0 := by rw [← h3]
        rw [this]
        exact Go.WideElems.set_self _ _ _ h2
      have r1 : (Instr.mapEntry t (.map (some b)) key).run P w = .ok (.tuple #[e0.val, goInt e0.born]) (setBlock w b (.map es clock)) := by
        simp [Instr.mapEntry, run_underlying ht, MapKept.run_getObj_map hb, K.check w false hkey, h1, hj, h3, K.stays w hkey, hsame, MapKept.run_setObj_map _ hb, Result.andThen, setBlock]
      rw [r1] at hE
      have hEw := (Result.ok.inj hE).2
      have o3 : (setBlock w b (.map es clock)).ownsMap P k (plainElem (H := Unit) P e) b n D := ⟨es, clock, heap_setBlock_same hb _, F, hs, hD⟩
      obtain ⟨c', hrun', hat', _⟩ := o3.lookup_int KK ht he (hz _) hkey
      rw [hat] at hat'
      have hat' := (Lit.int.inj (DataW.lit.inj hat')).2
      rw [← hEw, hat']
      exact hrun'
  refine ⟨c, v0, st, _, hrun, hat, hE, hl1, hg1, fun c2 hw2 => ?_⟩
  obtain ⟨es', clock', s1, s2⟩ := hSt _ (.int q c2) hb1
  obtain ⟨w', r3, o3, g3⟩ := h.update KK ht hn hkey (plainElem_int he hw2)
  rw [s2] at r3
  have r3 := (Result.ok.inj r3).2
  have e : setBlock (setBlock w b (.map es1 clock1)) b (.map es' clock') = setBlock w b (.map es' clock') := by simp [setBlock]
  rw [e, r3] at s1
  exact ⟨w', s1, o3, g3⟩
/-- A map that counts the visits of some walkers. -/
def CntP (c : List Wkr) (D : DataW Unit) : Prop := Go.Maps.IsMap D ∧ ∀ x y : Int, (Lit.int .i64 x).wf = true → (Lit.int .i64 y).wf = true → D.atKey (keyPt x y) (.lit (.int .i64 0)) = .lit (.int .i64 (visN c x y : Nat))
theorem CntP.nil : CntP [] (.map [] : DataW Unit) := ⟨Go.Maps.isMap_empty, fun x y _ _ => rfl⟩
theorem box_one {w : World} {b : Nat} {T : TypeId} {x : Value} (h : Box w b T #[x]) : w.cell? ⟨b, 0, none⟩ = some x := h.cell 0
theorem wf64V {z : Int} (h1 : -9223372036854775808 ≤ z) (h2 : z ≤ 9223372036854775807) : (Lit.int .i64 z).wf = true := by
  simp [Lit.wf, IntKind.min, IntKind.max, IntKind.bits, IntKind.signed]; omega
theorem CntP.put {c : List Wkr} {k : Nat} {x y u v : Int} {D : DataW Unit} (h : CntP (c.take k) D) (hs : c[k]? = some (x, y, u, v)) (wx : (Lit.int .i64 x).wf = true) (wy : (Lit.int .i64 y).wf = true) :
    CntP (c.take (k + 1)) (D.put (keyPt x y) (.lit (.int .i64 ((visN (c.take k) x y : Nat) + 1)))) := by
  refine ⟨h.1.put _ _, fun x' y' wx' wy' => ?_⟩
  rw [visN_take hs]
  by_cases e : x' = x ∧ y' = y
  · obtain ⟨rfl, rfl⟩ := e
    have hvt : vtB x' y' (x', y', u, v) = true := vtB_iff.2 ⟨rfl, rfl⟩
    rw [Go.Maps.atKey_put_same h.1 (show WideAt.IsKeyLit (keyPt x' y') from trivial), if_pos hvt]
    rfl
  · rw [Go.Maps.atKey_put_other (fun hk => e (keyPt_inj wx' wy' wx wy hk)), h.2 x' y' wx' wy', if_neg (fun hk => by have := vtB_iff.1 hk; simp only at this; omega)]
    rfl
set_option maxRecDepth 100000 in
theorem ptLaw : Go.WideMaps.KeyLaw Try.prog 69 := deep_law_laid laidOutT (m := 2) (by omega) ptRow (by kernel_rfl) ptWide
theorem zeroInt (w : World) : (zeroValue 3).run Try.prog w = .ok (.int .i64 0) w := by kernel_rfl
theorem ret_u8 {a b : Int} (h : a = b) : Ending.returned (.int .u8 a) = .returned (.int .u8 b) := by rw [h]
theorem cp_zero {W H : Int} {zs : List Int} {a : Int} : cpB W H zs a = true ↔ tcC W H zs a = 0 := by
  unfold cpB tcC
  cases validB W H zs <;> cases inR a 0 ((trS W H zs (4 * W * H).toNat).1.length - 1) <;> simp
set_option maxRecDepth 100000 in
set_option maxHeartbeats 2000000 in
theorem cvMark_any (W' H' : Nat) (A : Option Addr) (c : Nat) (zs : List Int) (cj : List Wkr) (x y : Nat) (pv pp bm n : Nat) (D : DataW Unit) (w : World) (hz : Ints w w.heap.size A zs) (hl : zs.length ≤ maxLen) (hv : validB W' H' zs = true)
    (kv : Box w pv 101 #[.map (some bm)]) (kp : Box w pp 39 #[.int .i64 W', .int .i64 H', .slice A zs.length c]) (hm : w.ownsMap Try.prog 69 (plainElem (H := Unit) Try.prog 3) bm n D) (hD : CntP cj D) (h2 : visN cj x y ≤ 2) (hx : x ≤ 2 * W') (hy : y ≤ 2 * H') :
    Calls Try.prog 90 #[.agg #[.int .i64 x, .int .i64 y], .pointer (some ⟨pv, 0, none⟩), .pointer (some ⟨pp, 0, none⟩)] w fun e w' => e = .returned (.int .u8 (cvM W' H' zs cj x y)) ∧ Below w.heap.size w w' := by
  have s1 := side_bd (valid_sides hv).1
  have s2 := side_bd (valid_sides hv).2
  have wx : (Lit.int .i64 (x : Int)).wf = true := wf64V (by omega) (by omega)
  have wy : (Lit.int .i64 (y : Int)).wf = true := wf64V (by omega) (by omega)
  have HKY := hid (keyPt_of wx wy)
  have HCN := hid (hD.2 x y wx wy)
  have HPA := hid (pictureAt_any W' H' A c zs x y · · hl hv)
  have HZ := hid hz
  have HM := hid hm
  have KV := hid kv
  have KP := hid kp
  have hn3 : visN cj x y = 0 ∨ visN cj x y = 1 ∨ visN cj x y = 2 := by omega
  have Va := box_one kv
  have Vz := kv.lt
  obtain ⟨Pa, Pb, Pc⟩ := kp.three
  have Pz := kp.lt
  clear hz hl hv kv kp hm hD wx wy h2
  rcases hn3 with h0 | h0 | h0
  · have HE : Hid (cvM W' H' zs cj x y = paB W' H' zs x y) := hid (by simp [cvM, mkB, h0])
    rw [h0] at HCN
    clear h0
    go_enter Try.func90, Try.ntmps90
    go_wp2_with (at_lookup; refine wpList_lookup_own_int _ rfl _ _ 101 rfl 69 3 .i64 ptKeyed Try.underlying101 Try.underlying3 (zeroInt _) bm n D rfl (HM.out.alloc _) _ _ rfl HKY.out ?_; intro cc hat hwc; rw [HCN.out] at hat; have hat := (Lit.int.inj (DataW.lit.inj hat)).2; subst hat; clear hwc)
    refine (HPA.out _ ((HZ.out.below (bal (Below.refl _ _) _)).more (bal (Below.refl _ _) _).size)).mono ?_
    rintro e w1 ⟨rfl, hb1⟩
    have HB1 : Hid (Below w.heap.size w w1) := hid (bstep (bal (Below.refl _ _) _) hb1)
    clear hb1
    go_wp2_with fail
    go_ret
    exact ⟨ret_u8 HE.out.symm, HB1.out⟩
  · have HE : Hid (cvM W' H' zs cj x y = 111) := hid (by simp [cvM, mkB, h0])
    rw [h0] at HCN
    clear h0
    go_enter Try.func90, Try.ntmps90
    go_wp2_with (at_lookup; refine wpList_lookup_own_int _ rfl _ _ 101 rfl 69 3 .i64 ptKeyed Try.underlying101 Try.underlying3 (zeroInt _) bm n D rfl (HM.out.alloc _) _ _ rfl HKY.out ?_; intro cc hat hwc; rw [HCN.out] at hat; have hat := (Lit.int.inj (DataW.lit.inj hat)).2; subst hat; clear hwc)
    go_ret
    exact ⟨ret_u8 HE.out.symm, bal (Below.refl _ _) _⟩
  · have HE : Hid (cvM W' H' zs cj x y = 56) := hid (by simp [cvM, mkB, h0])
    rw [h0] at HCN
    clear h0
    go_enter Try.func90, Try.ntmps90
    go_wp2_with (at_lookup; refine wpList_lookup_own_int _ rfl _ _ 101 rfl 69 3 .i64 ptKeyed Try.underlying101 Try.underlying3 (zeroInt _) bm n D rfl (HM.out.alloc _) _ _ rfl HKY.out ?_; intro cc hat hwc; rw [HCN.out] at hat; have hat := (Lit.int.inj (DataW.lit.inj hat)).2; subst hat; clear hwc)
    go_ret
    exact ⟨ret_u8 HE.out.symm, bal (Below.refl _ _) _⟩
set_option maxRecDepth 100000 in
set_option maxHeartbeats 4000000 in
theorem pictureCV_any (W' H' : Nat) (A : Option Addr) (c : Nat) (zs : List Int) (pv pp : Nat) (mk : Nat → Nat → Int) (w : World) (hW : side (W' : Int) = true) (hH : side (H' : Int) = true)
    (hm : ∀ w', Below w.heap.size w w' → ∀ x y : Nat, x ≤ 2 * W' → y ≤ 2 * H' → Calls Try.prog 90 #[.agg #[.int .i64 x, .int .i64 y], .pointer (some ⟨pv, 0, none⟩), .pointer (some ⟨pp, 0, none⟩)] w' fun e w'' => e = .returned (.int .u8 (mk x y)) ∧ Below w'.heap.size w' w'') :
    Calls Try.prog 74 #[.agg #[.int .i64 W', .int .i64 H', .slice A zs.length c], .func (.func 90) #[] #[.pointer (some ⟨pv, 0, none⟩), .pointer (some ⟨pp, 0, none⟩)]] w fun e w' => (∃ g c', e = .returned (.slice (some ⟨g, 0, none⟩) (2 * H' + 1) c') ∧ w'.ownsRow w.heap.size 9 1 (.slice (some ⟨g, 0, none⟩) (2 * H' + 1) c') (2 * H' + 1) (strs (picS mk (2 * W' + 1) (2 * H' + 1)))) ∧ Below w.heap.size w w' := by
  obtain ⟨s3, s4⟩ := side_bd hW
  obtain ⟨s5, s6⟩ := side_bd hH
  have HM := hid hm
  clear hW hH hm
  obtain ⟨ub, hib, hb0, hb1, hb2⟩ := info_parts infoU8
  obtain ⟨us, his, hs0, hs1, hs2⟩ := info_parts infoStr
  go_enter Try.func74, Try.ntmps74
  go_wp2_with fail
  have ho1 := World.ownsRow_lit (base := w.heap.size + 1) (e := 9) (size := 1) (w.alloc (.cells #[.int .i64 W', .int .i64 H', .slice A zs.length c] 39)) #[] 0 (by simp) (Nat.zero_le _) rfl
  simp only [World.size_alloc] at ho1
  have HO1 := hid ho1
  clear ho1
  go_loopg [5, 14] (2 * H' + 1) (fun g v i wr => ∃ y : Nat, y ≤ 2 * H' + 1 ∧ i = .int .i64 y ∧ g = 2 * H' + 1 - y ∧ Hid (wr.ownsRow (w.heap.size + 1) 9 1 v y (strs (picS mk (2 * W' + 1) y))) ∧ Hid (Box wr w.heap.size 39 #[.int .i64 W', .int .i64 H', .slice A zs.length c]) ∧ Hid (Below w.heap.size w wr))
  case atStart => exact ⟨0, Nat.zero_le _, rfl, rfl, HO1, hid (Box.alloc (Box.new _ _ _) _), hid (bal (bal (Below.refl _ _) _) _)⟩
  case round =>
    obtain ⟨y, hy, rfl, hg, HO, KP, HBr⟩ := hrel
    obtain ⟨wo, rfl⟩ : ∃ z, z = wr := ⟨_, rfl⟩
    have Wz := KP.out.lt
    by_cases hlt : y < 2 * H' + 1
    · obtain ⟨Pa, Pb, Pc⟩ := KP.out.three
      have hoi := World.ownsRow_lit (base := wo.heap.size) (e := 5) (size := 1) wo #[] 0 (Nat.le_refl _) (Nat.zero_le _) rfl
      have HOI := hid hoi
      clear hoi
      go_wp2_with fail
      clear Pa Pb Pc
      go_loopg [7, 22] (2 * W' + 1) (fun g v i wx => ∃ x : Nat, x ≤ 2 * W' + 1 ∧ i = .int .i64 x ∧ g = 2 * W' + 1 - x ∧ Hid (wx.ownsRow wo.heap.size 5 1 v x (bytesV (mkRow mk y x))) ∧ Hid (Below wo.heap.size wo wx))
      case atStart => exact ⟨0, Nat.zero_le _, rfl, rfl, HOI, hid (bal (Below.refl _ _) _)⟩
      case round =>
        obtain ⟨x, hx, rfl, hg2, HOx, HBx⟩ := hrel
        have xz := HBx.out.size
        by_cases hxl : x < 2 * W' + 1
        · go_wp2_with fail
          refine (HM.out _ (bbl HBr.out HBx.out) x y (by omega) (by omega)).mono ?_
          rintro e w2 ⟨rfl, hb2⟩
          have HO2 := hid (own_keep HOx.out hb2)
          have HB2 := hid (bbl HBx.out hb2)
          have xz2 := HB2.out.size
          clear hb2
          obtain ⟨bt, hbt⟩ : ∃ q, mk x y = q := ⟨_, rfl⟩
          rw [hbt]
          have HE : Hid (mkRow mk y (x + 1) = mkRow mk y x ++ [bt]) := hid (by rw [mkRow_succ, hbt])
          clear hbt
          go_wp2_with (at_builtin; (refine wpList_append_own _ rfl _ _ 54 rfl (wo.heap.size) 5 ub (.int .u8 0) 1 1 Try.underlying54 hib hb0 hb1 hb2 rfl (by decide) _ (x) (bytesV (mkRow mk y x)) rfl (HO2.out.alloc _) ⟨w2.heap.size, 0, none⟩ 1 1 [.int .u8 bt] rfl rfl (World.news_of_block (cs := #[.int .u8 bt]) (t := 5) (fr := (0, 0)) (heap_alloc_new w2 _)) (by simp [Value.oneCell']) (by unfold maxLen; omega) (by omega) (by simp; omega) ?_; intro v' wz ho2 hgr _))
          have HH := hid (And.intro ho2 hgr)
          clear ho2 hgr
          go_roundg (2 * W' + 1 - (x + 1))
          case measure => omega
          case rel => exact ⟨x + 1, by omega, by go_num, rfl, hid (by rw [HE.out]; simpa [bytesV] using HH.out.1), hid (Below.grown (Below.alloc HB2.out xz2 _) HH.out.2 (by simp; omega) (fun q hq => (HO2.out.lt q hq).1))⟩
        · obtain rfl : x = 2 * W' + 1 := by omega
          rcases Go.Joins.ownsRow_forms HOx.out with ⟨rfl, hn0⟩ | ⟨gb, cap, rfl⟩
          · exfalso; omega
          have kc := conv_own HOx.out
          have HOo := hid (own_below HO.out HBx.out)
          have HOo' := hid (HO.out.lt)
          have KPx := hid (Box.below KP.out HBx.out Wz)
          go_wp2_with (at_builtin; (refine wpList_append_own _ rfl _ _ 27 rfl (w.heap.size + 1) 9 us (.string ⟨#[]⟩) 1 16 Try.underlying27 his hs0 hs1 hs2 rfl (by decide) _ (y) (strs (picS mk (2 * W' + 1) y)) rfl (HOo.out.alloc _) ⟨wr.heap.size, 0, none⟩ 1 1 [.string (strOfNums (mkRow mk y (2 * W' + 1)))] rfl rfl (World.news_of_block (cs := #[.string (strOfNums (mkRow mk y (2 * W' + 1)))]) (t := 9) (fr := (0, 0)) (heap_alloc_new wr _)) (by simp [Value.oneCell']) (by unfold maxLen; omega) (by omega) (by simp; omega) ?_; intro v' wz ho2 hgr _))
          have HH := hid (And.intro ho2 hgr)
          clear ho2 hgr
          go_roundg (2 * H' + 1 - (y + 1))
          case measure => omega
          case rel => exact ⟨y + 1, by omega, by go_num, rfl, hid (by rw [picS_succ]; simpa [strs] using HH.out.1), hid (Box.grew (Box.alloc KPx.out _) HH.out.2 (fun q hq => by have := (HOo'.out q hq).1; omega)), hid (bgrew (lo := w.heap.size + 1) (bal (bbl HBr.out HBx.out) _) HH.out.2 (fun q hq => (HOo'.out q hq).1) (by omega))⟩
    · obtain rfl : y = 2 * H' + 1 := by omega
      rcases Go.Joins.ownsRow_forms HO.out with ⟨rfl, hn0⟩ | ⟨gb, cap, rfl⟩
      · exfalso; omega
      go_wp2_with fail
      go_ret
      exact ⟨⟨_, _, rfl, Go.Joins.ownsRow_le HO.out (by omega)⟩, HBr.out⟩
set_option maxRecDepth 100000 in
set_option maxHeartbeats 4000000 in
theorem implCurvePicture_any (W H : Int) (A : Option Addr) (c : Nat) (zs : List Int) (a : Int) (w : World) (hz : Ints w w.heap.size A zs) (hl : zs.length ≤ maxLen) (_ : (Lit.int .i64 a).wf = true) :
    Calls Try.prog 41 #[.agg #[.int .i64 W, .int .i64 H, .slice A zs.length c], .int .i64 a] w fun e w' => (∃ A' c', e = .returned (.tuple #[.slice A' (cpN W H zs a) c', .int .i64 (tcC W H zs a)]) ∧ w'.ownsRow w.heap.size 9 1 (.slice A' (cpN W H zs a) c') (cpN W H zs a) (strs (cpL W H zs a))) ∧ Below w.heap.size w w' := by
  have hmm := @run_makeMap Try.prog
  by_cases hc0 : tcC W H zs a = 0
  · have hv : validB W H zs = true := by
      cases hv : validB W H zs
      · simp [tcC, hv] at hc0
      · rfl
    have hr : inR a 0 (((trS W H zs (4 * W * H).toNat).1.length : Int) - 1) = true := by
      cases hr : inR a 0 (((trS W H zs (4 * W * H).toNat).1.length : Int) - 1)
      · simp [tcC, hv, hr] at hc0
      · rfl
    have hab : 0 ≤ a ∧ a < ((trS W H zs (4 * W * H).toNat).1.length : Int) := by simp [inR] at hr; omega
    have Hs := hid (valid_sides hv)
    obtain ⟨s3, s4⟩ := side_bd Hs.out.1
    obtain ⟨s5, s6⟩ := side_bd Hs.out.2
    obtain ⟨W', rfl⟩ : ∃ n : Nat, W = n := ⟨W.toNat, by omega⟩
    obtain ⟨H', rfl⟩ : ∃ n : Nat, H = n := ⟨H.toNat, by omega⟩
    obtain ⟨j, rfl⟩ : ∃ j : Nat, a = (j : Int) := ⟨a.toNat, by omega⟩
    obtain ⟨cj, hcj⟩ : ∃ cj, (trS W' H' zs (4 * W' * H' : Int).toNat).1[j]? = some cj := ⟨_, List.getElem?_eq_getElem (by omega)⟩
    have hcb : cpB W' H' zs j = true := cp_zero.2 hc0
    have hcpj : cpJ W' H' zs j = cj := by simp [cpJ, List.getD_eq_getElem?_getD, hcj]
    have HV : Hid (cpN W' H' zs j = 2 * H' + 1 ∧ cpL W' H' zs j = picS (cvM W' H' zs cj) (2 * W' + 1) (2 * H' + 1) ∧ tcC W' H' zs j = 0) := hid (by
      refine ⟨?_, ?_, hc0⟩
      · unfold cpN; rw [if_pos hcb]; omega
      · unfold cpL; rw [if_pos hcb, hcpj, show (2 * (W' : Int) + 1).toNat = 2 * W' + 1 by omega, show (2 * (H' : Int) + 1).toNat = 2 * H' + 1 by omega])
    have HTWO := hid (fun x y : Int => vis_two hv hcj x y)
    have HIN := hid (cur_in hv hcj)
    have hfew := tr_few hv
    have hc256 := tr_cl hv j cj hcj
    have Hv := hid hv
    have HC0 := hid hc0
    have HCJ := hid hcj
    have hjc : j < (trS W' H' zs (4 * W' * H' : Int).toNat).1.length := by omega
    clear hv hr hab hcj hc0 hcb hcpj
    go_enter Try.func41, Try.ntmps41
    go_wp2_with fail
    refine (calls_iG (curveCode1_any W' H' A (some ⟨w.heap.size + 1, 0, none⟩) c 1 zs (j : Int) _ ((hz.below (bal (bal (Below.refl _ _) _) _)).more (bal (bal (Below.refl _ _) _) _).size) hl (ints_one _ (by simp [go_sem]) (by simp))) HC0.out).mono ?_
    rintro e w1 ⟨rfl, hb1⟩
    have KP1 : Hid (Box w1 w.heap.size 39 #[.int .i64 W', .int .i64 H', .slice A zs.length c]) := hid (Box.keep (Box.alloc (Box.new w _ _) _) hb1)
    have HB1 : Hid (Below w.heap.size w w1) := hid (bstep (bal (bal (Below.refl _ _) _) _) hb1)
    clear hb1
    obtain ⟨Pa, Pb, Pc⟩ := KP1.out.three
    have Pz := KP1.out.lt
    go_wp2_with fail
    refine (trace_any W' H' A c zs _ ((hz.below (bal (bal HB1.out _) _)).more (bal (bal HB1.out _) _).size) hl Hv.out).mono ?_
    rintro e w2 ⟨⟨E1, d1, E2, d2, rfl, hne, hro⟩, hb2⟩
    have KP2 := hid (Box.keep (Box.alloc (Box.alloc KP1.out _) _) hb2)
    have KV2 : Hid (Box w2 (w1.heap.size + 1) 101 #[.map (some w1.heap.size)]) := hid (Box.keep (Box.new' _ _ _ _ (by simp)) hb2)
    have HM2 : Hid (w2.ownsMap Try.prog 69 (plainElem (H := Unit) Try.prog 3) w1.heap.size 0 (.map [])) := hid (mapKeep ((World.ownsMap_made w1 _ _ _).alloc _) hb2)
    have HB2 : Hid (Below w.heap.size w w2) := hid (bbl (bal (bal HB1.out _) _) hb2)
    have hz12 : w1.heap.size + 2 ≤ w2.heap.size := by have := hb2.size; simpa using this
    have hz01 := HB1.out.size
    have hz02 : w.heap.size < w1.heap.size := KP1.out.lt
    clear hb2 Pa Pb Pc Pz hro
    obtain ⟨vs, hO, hI, hD⟩ := hne
    rw [curZ_length] at hO
    obtain ⟨vi, ni, hvi, hri⟩ := hI j (vals (flatW cj)) (by simp [curZ, HCJ.out])
    obtain rfl := cur_len hri
    obtain ⟨Ai, ci, rfl⟩ := own_form hri.1
    have hcl := own_max hri.1
    unfold maxLen at hcl
    obtain ⟨gq, cq, he⟩ := Go.Joins.ownsRow_form hO (by omega)
    simp only [Value.slice.injEq] at he
    obtain ⟨rfl, -, rfl⟩ := he
    have hca : w2.cell? ⟨gq, j, none⟩ = some (.slice Ai cj.length ci) := (World.ownsRow.cellAt hO j (by omega)).trans hvi
    have hgq := (World.ownsRow.lt hO gq rfl).2
    have HR2 : Hid (w2.ownsRow (w1.heap.size + 2) 100 4 (.slice Ai cj.length ci) cj.length (vals (flatW cj))) := hid (by have h := hri.1; simpa using h)
    obtain ⟨L, hL⟩ : ∃ L, (trS W' H' zs (4 * W' * H' : Int).toNat).1.length = L := ⟨_, rfl⟩
    rw [hL] at hfew hjc ⊢
    clear hO hI hD hvi hri hL
    obtain ⟨Pa, Pb, Pc⟩ := KP2.out.three
    have Pz := KP2.out.lt
    have Va := box_one KV2.out
    have Vz := KV2.out.lt
    go_wp2_with fail
    clear hca hgq Pa Pb Pc Pz Va Vz
    go_loopg [30] cj.length (fun g i wr => ∃ (k : Nat) (D : DataW Unit), k ≤ cj.length ∧ i = .int .i64 k ∧ g = cj.length - k ∧ Hid (CntP (cj.take k) D) ∧ Hid (wr.ownsMap Try.prog 69 (plainElem (H := Unit) Try.prog 3) w1.heap.size k D) ∧ Hid (wr.ownsRow (w1.heap.size + 2) 100 4 (.slice Ai cj.length ci) cj.length (vals (flatW cj))) ∧ Hid (Box wr w.heap.size 39 #[.int .i64 W', .int .i64 H', .slice A zs.length c]) ∧ Hid (Box wr (w1.heap.size + 1) 101 #[.map (some w1.heap.size)]) ∧ Hid (Below w.heap.size w wr))
    case atStart => exact ⟨0, .map [], Nat.zero_le _, rfl, rfl, hid CntP.nil, HM2, HR2, KP2, KV2, HB2⟩
    case round =>
      clear HM2 HR2 KV2
      obtain ⟨k, D, hk, rfl, hg, HD, HM, HR, KP, KV, HB⟩ := hrel
      have hkp2 := KP2.out.lt
      obtain ⟨Pa, Pb, Pc⟩ := KP.out.three
      have Pz := KP.out.lt
      have Va := box_one KV.out
      have Vz := KV.out.lt
      by_cases hlt : k < cj.length
      · obtain ⟨s, hs⟩ : ∃ s, cj[k]? = some s := ⟨_, List.getElem?_eq_getElem hlt⟩
        obtain ⟨f0, f1, f2, f3⟩ := flatW_at hs
        have hin := HIN.out s (List.mem_of_getElem? hs)
        obtain ⟨x, y, u, v, hst⟩ : ∃ x y u v, s = (x, y, u, v) := ⟨_, _, _, _, rfl⟩
        subst hst
        dsimp only at f0 f1 f2 f3 hin
        obtain ⟨bx1, bx2, by1, by2⟩ := hin
        obtain ⟨gi, cc, he⟩ := Go.Joins.ownsRow_form HR.out (by omega)
        simp only [Value.slice.injEq] at he
        obtain ⟨rfl, -, rfl⟩ := he
        have k0 : wr.cell? ⟨gi, k * 4, none⟩ = some (.int .i64 x) := (World.ownsRow.cellAt HR.out (k * 4) (by omega)).trans (by simp [vals, f0])
        have k1 : wr.cell? ⟨gi, k * 4 + 1, none⟩ = some (.int .i64 y) := (World.ownsRow.cellAt HR.out (k * 4 + 1) (by omega)).trans (by simp [vals, f1])
        have k2 : wr.cell? ⟨gi, k * 4 + 2, none⟩ = some (.int .i64 u) := (World.ownsRow.cellAt HR.out (k * 4 + 2) (by omega)).trans (by simp [vals, f2])
        have k3 : wr.cell? ⟨gi, k * 4 + 3, none⟩ = some (.int .i64 v) := (World.ownsRow.cellAt HR.out (k * 4 + 3) (by omega)).trans (by simp [vals, f3])
        have gz : gi < wr.heap.size := (HR.out.lt gi rfl).2
        have wx : (Lit.int .i64 x).wf = true := wf64V (by omega) (by omega)
        have wy : (Lit.int .i64 y).wf = true := wf64V (by omega) (by omega)
        have HKY := hid (keyPt_of wx wy)
        have hn2 := visN_take_le cj k x y
        have hn3 := HTWO.out x y
        have HCN := hid (HD.out.2 x y wx wy)
        have HPT := hid (HD.out.put hs wx wy)
        obtain ⟨n, hn⟩ : ∃ n, visN (cj.take k) x y = n := ⟨_, rfl⟩
        rw [hn] at hn2 HCN HPT
        have hnb : n ≤ 2 := by omega
        clear f0 f1 f2 f3 hs wx wy hn2 hn3 hn HD
        go_wp2_with fail
        obtain ⟨w3, hw3⟩ : ∃ zz : World, zz = wr.alloc (.cells #[.int .i64 x, .int .i64 y, .int .i64 u, .int .i64 v] 100) := ⟨_, rfl⟩
        rw [← hw3]
        have HM3 : Hid (w3.ownsMap Try.prog 69 (plainElem (H := Unit) Try.prog 3) w1.heap.size k D) := hid (by rw [hw3]; exact HM.out.alloc _)
        have HR3 : Hid (w3.ownsRow (w1.heap.size + 2) 100 4 (.slice (some ⟨gi, 0, none⟩) cj.length ci) cj.length (vals (flatW cj))) := hid (by rw [hw3]; exact HR.out.alloc _)
        have KP3 : Hid (Box w3 w.heap.size 39 #[.int .i64 W', .int .i64 H', .slice A zs.length c]) := hid (by rw [hw3]; exact Box.alloc KP.out _)
        have KV3 : Hid (Box w3 (w1.heap.size + 1) 101 #[.map (some w1.heap.size)]) := hid (by rw [hw3]; exact Box.alloc KV.out _)
        have HB3 : Hid (Below w.heap.size w w3) := hid (by rw [hw3]; exact bal HB.out _)
        obtain ⟨bw, hbw⟩ : ∃ b, b = wr.heap.size := ⟨_, rfl⟩
        have KW3 : Hid (Box w3 bw 100 #[.int .i64 x, .int .i64 y, .int .i64 u, .int .i64 v]) := hid (by rw [hw3, hbw]; exact Box.new _ _ _)
        rw [← hbw]
        have hbw2 : w1.heap.size + 1 < bw := by rw [hbw]; exact Vz
        clear hw3 hbw k0 k1 k2 k3 gz Pa Pb Pc Pz Va Vz HM HR KP KV HB
        obtain ⟨c0, v0, st, w4, hL, hat, hE, hL2, hg4, hS⟩ := bump_runs ptLaw Try.underlying101 Try.underlying3 zeroInt (w := w3.drew) HM3.out (by unfold maxLen; omega) HKY.out
        rw [HCN.out] at hat
        have hat := (Lit.int.inj (DataW.lit.inj hat)).2
        subst hat
        obtain ⟨w5, hS5, hM5, hg5⟩ := hS ((n : Int) + 1) (wf64V (by omega) (by omega))
        have hS6 : (Instr.entryStore 101 (.map (some w1.heap.size)) (.int .i64 (st : Int)) (.int .i64 ((n : Int) + 1))).run Try.prog w4 = .ok () w5 := hS5
        have hS7 : (Instr.entryStore 101 (.map (some w1.heap.size)) (.int .i64 (st : Int)) (.int .i64 (IntKind.i64.wrap ((n : Int) + 1)))).run Try.prog w4 = .ok () w5 := by rw [show IntKind.i64.wrap ((n : Int) + 1) = (n : Int) + 1 from IntWalk.i64_in _ (by omega)]; exact hS5
        have hE6 : (Instr.mapEntry 101 (.map (some w1.heap.size)) (.agg #[.int .i64 x, .int .i64 y])).run Try.prog w3.drew = .ok (.tuple #[v0, .int .i64 (st : Int)]) w4 := hE
        clear hS5 hE
        have HH := hid (And.intro hM5 hg5)
        have HG4 := hid hg4
        have Va := box_one KV3.out
        have Vz := KV3.out.lt
        obtain ⟨Wa, Wb, Wc, Wd⟩ := KW3.out.four
        have Wz := KW3.out.lt
        have KV4 := hid (Box.grew (w := w3.drew) (Box.drew KV3.out) hg4 (fun q hq => by injection hq with hq; omega))
        have KW4 := hid (Box.grew (w := w3.drew) (Box.drew KW3.out) hg4 (fun q hq => by injection hq with hq; omega))
        have Va4 := box_one KV4.out
        obtain ⟨Wa4, Wb4, Wc4, Wd4⟩ := KW4.out.four
        clear hM5 hg5 hg4 hS
        go_region
        all_goals
          go_wp2_with fail
          go_roundg (cj.length - (k + 1))
        all_goals (try (case measure => omega))
        all_goals exact ⟨k + 1, _, by omega, by go_num, rfl, HPT, HH.out.1, hid (World.ownsRow.kept (World.ownsRow.drew HR3.out) HH.out.2 (.inr fun e => by have h1 := (HR3.out.lt gi rfl).1; have h2 : gi = w1.heap.size := (by injection e); omega)), hid (Box.grew (Box.drew KP3.out) HH.out.2 (fun q hq => by injection hq with hq; omega)), hid (Box.grew (Box.drew KV3.out) HH.out.2 (fun q hq => by injection hq with hq; omega)), hid (bgrew (lo := w.heap.size) (Below.drew HB3.out) HH.out.2 (fun q hq => by injection hq with hq; omega) (Nat.le_refl _))⟩
      · obtain rfl : k = cj.length := by omega
        have HDD : Hid (CntP cj D) := hid (by have h := HD.out; rwa [List.take_length] at h)
        clear HD
        go_wp2_with fail
        refine (pictureCV_any W' H' A c zs (w1.heap.size + 1) w.heap.size (cvM W' H' zs cj) _ Hs.out.1 Hs.out.2 (fun w' hw' x y hx hy => cvMark_any W' H' A c zs cj x y (w1.heap.size + 1) w.heap.size w1.heap.size _ D w' ((hz.below (bbl HB.out hw')).more (bbl HB.out hw').size) hl Hv.out (Box.keep KV.out hw') (Box.keep KP.out hw') (mapKeep HM.out hw') HDD.out (HTWO.out x y) hx hy)).mono ?_
        rintro e w9 ⟨⟨g9, c9, rfl, ho9⟩, hb9⟩
        have HO9 := hid (Go.Joins.ownsRow_le ho9 HB.out.size)
        have HB9 := hid (bbl HB.out hb9)
        clear hb9 ho9 Pa Pb Pc Pz Va Vz
        go_wp2_with fail
        go_ret2
        refine ⟨⟨_, c9, by rw [HV.out.1, HV.out.2.2]; rfl, ?_⟩, HB9.out⟩
        rw [HV.out.1, HV.out.2.1]
        exact HO9.out
  · have hcb : cpB W H zs a = false := by
      cases h : cpB W H zs a
      · rfl
      · exact absurd (cp_zero.1 h) hc0
    have HTR : Hid (cpN W H zs a = 0 ∧ cpL W H zs a = []) := hid (by simp [cpN, cpL, hcb])
    obtain ⟨m, hm⟩ : ∃ m, tcC W H zs a = m := ⟨_, rfl⟩
    rw [hm] at hc0
    have HC := hid hm
    clear hm hcb
    go_enter Try.func41, Try.ntmps41
    go_wp2_with fail
    refine (calls_iG (curveCode1_any W H A (some ⟨w.heap.size + 1, 0, none⟩) c 1 zs a _ ((hz.below (bal (bal (Below.refl _ _) _) _)).more (bal (bal (Below.refl _ _) _) _).size) hl (ints_one _ (by simp [go_sem]) (by simp))) HC.out).mono ?_
    rintro e w1 ⟨rfl, hb1⟩
    have HB1 : Hid (Below w.heap.size w w1) := hid (bstep (bal (bal (Below.refl _ _) _) _) hb1)
    clear hb1
    go_wp2_with fail
    go_ret2
    exact ⟨⟨none, 0, by rw [HTR.out.1, HC.out] <;> rfl, by rw [HTR.out.1, HTR.out.2]; exact World.ownsRow_nil _ _ _ _⟩, HB1.out⟩
end Go.Proofs.Ytgcgaoblbhojnaa

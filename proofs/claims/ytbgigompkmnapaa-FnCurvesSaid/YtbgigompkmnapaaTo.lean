/- TouchesOf. -/
import Derived.Test.YtbgigompkmnapaaTq
import Derived.Test.YtbgigompkmnapaaBw
import Derived.WalkKit
namespace Go.Proofs.Ytbgigompkmnapaa
set_option linter.unusedSimpArgs false
set_option linter.unusedVariables false
open Go.ChangeShapes Go.WideShapes Go.ChangeAt Go.RowKit Go.Maps
def ncG (W H : Int) (zs : List Int) : Int := ((trS W H zs (4 * W * H).toNat).1.length : Int)
theorem calls_iG {p : Program} {f : Nat} {args : Array Value} {w : World} {P : World → Prop} {a b : Int} (h : Calls p f args w fun e w' => e = .returned (.int .i64 a) ∧ P w') (k : a = b) : Calls p f args w fun e w' => e = .returned (.int .i64 b) ∧ P w' := k ▸ h
theorem ret_iiG {a b c d : Int} (h : a = c) (k : b = d) : Ending.returned (.tuple #[.int .i64 a, .int .i64 b]) = .returned (.tuple #[.int .i64 c, .int .i64 d]) := by rw [h, k]
set_option maxRecDepth 100000 in
set_option maxHeartbeats 4000000 in
theorem curveCode1_any (W H : Int) (A A2 : Option Addr) (c c2 : Nat) (zs : List Int) (a : Int) (w : World) (hz : Ints w w.heap.size A zs) (hl : zs.length ≤ maxLen) (hk2 : Ints w w.heap.size A2 [a]) :
    Calls Try.prog 72 #[.agg #[.int .i64 W, .int .i64 H, .slice A zs.length c], .slice A2 1 c2] w fun e w' => e = .returned (.int .i64 (tcC W H zs a)) ∧ Below w.heap.size w w' := by
  cases hv : validB W H zs
  · have HV : Hid (tcC W H zs a = 1) := hid (by simp [tcC, hv])
    have Hv := hid hv
    clear hv
    go_enter Try.func72, Try.ntmps72
    go_wp2_with fail
    refine (calls_bool (validPanel_any W H A c zs _ ((hz.below (bal (Below.refl _ _) _)).more (bal (Below.refl _ _) _).size) hl) Hv.out).mono ?_
    rintro e w1 ⟨rfl, hb1⟩
    have KP1 := hid (Box.keep (Box.new w _ _) hb1)
    have HB1 : Hid (Below w.heap.size w w1) := hid (bstep (bal (Below.refl _ _) _) hb1)
    clear hb1
    obtain ⟨Pa, Pb, Pc⟩ := KP1.out.three
    have Pz := KP1.out.lt
    go_wp2_with fail
    go_ret
    exact ⟨ret_int HV.out.symm, HB1.out⟩
  · have HV : Hid (tcC W H zs a = if inR a 0 (((trS W H zs (4 * W * H).toNat).1.length : Int) - 1) then 0 else 2) := hid (by simp [tcC, hv])
    have hfew := tr_few hv
    have Hv := hid hv
    clear hv
    obtain ⟨bb, off, rfl, hbb, hcc⟩ := hk2 0 a rfl
    have hcc' : w.cell? ⟨bb, off, none⟩ = some (.int .i64 a) := by simpa using hcc
    have HCC := hid hcc'
    clear hcc hcc' hk2
    go_enter Try.func72, Try.ntmps72
    go_wp2_with fail
    refine (calls_bool (validPanel_any W H A c zs _ ((hz.below (bal (Below.refl _ _) _)).more (bal (Below.refl _ _) _).size) hl) Hv.out).mono ?_
    rintro e w1 ⟨rfl, hb1⟩
    have KP1 := hid (Box.keep (Box.new w _ _) hb1)
    have HB1 : Hid (Below w.heap.size w w1) := hid (bstep (bal (Below.refl _ _) _) hb1)
    clear hb1
    obtain ⟨Pa, Pb, Pc⟩ := KP1.out.three
    have Pz := KP1.out.lt
    go_wp2_with fail
    clear Pa Pb Pc Pz
    go_loopg [12] 1 (fun g i wr => ∃ k : Nat, k ≤ 1 ∧ i = .int .i64 k ∧ g = 1 - k ∧ Hid (k = 1 → inR a 0 (((trS W H zs (4 * W * H).toNat).1.length : Int) - 1) = true) ∧ Hid (Box wr w.heap.size 30 #[.int .i64 W, .int .i64 H, .slice A zs.length c]) ∧ Hid (Below w.heap.size w wr))
    case atStart => exact ⟨0, Nat.zero_le _, rfl, rfl, hid (fun h => by omega), KP1, HB1⟩
    case round =>
      obtain ⟨k, hk, rfl, hg, HA, KP, HB⟩ := hrel
      obtain ⟨Pa, Pb, Pc⟩ := KP.out.three
      have Pz := KP.out.lt
      by_cases hlt : k < 1
      · obtain rfl : k = 0 := by omega
        have hcc : wr.cell? ⟨bb, off, none⟩ = some (.int .i64 a) := (HB.out.cell (p := ⟨bb, off, none⟩) hbb).trans HCC.out
        have hbw : bb < wr.heap.size := by have := HB.out.size; omega
        obtain ⟨nc, hnc⟩ : ∃ z : Int, ((trS W H zs (4 * W * H).toNat).1.length : Int) = z := ⟨_, rfl⟩
        have HNC := hid hnc
        have hncb : 0 ≤ nc ∧ nc ≤ 256 := by omega
        obtain ⟨nc1, nc2⟩ := hncb
        rw [hnc] at HA HV
        clear hnc
        go_wp2_with fail
        refine (calls_iG (countCurves_any W H A c zs _ ((hz.below HB.out).more HB.out.size) hl Hv.out) HNC.out).mono ?_
        rintro e w2 ⟨rfl, hb2⟩
        have KP2 := hid (Box.keep KP.out hb2)
        have HB2 := hid (bbl HB.out hb2)
        clear hb2 Pa Pb Pc Pz
        go_wp2_with fail
        cases hr : inR a 0 (nc - 1)
        · have HR := hid hr
          have HE : Hid (tcC W H zs a = 2) := hid (by rw [HV.out, hr]; rfl)
          clear hr
          refine (calls_bool (inRange_any _ _ _ _) HR.out).mono ?_
          rintro e w' ⟨rfl, rfl⟩
          go_wp2_with fail
          go_ret
          exact ⟨ret_int HE.out.symm, HB2.out⟩
        · have HR := hid hr
          clear hr
          refine (calls_bool (inRange_any _ _ _ _) HR.out).mono ?_
          rintro e w' ⟨rfl, rfl⟩
          go_wp2_with fail
          go_roundg (1 - (0 + 1))
          case measure => omega
          case rel => exact ⟨1, by omega, by go_num, rfl, hid (fun _ => by rw [HNC.out]; exact HR.out), KP2, HB2⟩
      · obtain rfl : k = 1 := by omega
        have HE : Hid (tcC W H zs a = 0) := hid (by rw [HV.out, if_pos (HA.out rfl)])
        go_wp2_with fail
        go_ret
        exact ⟨ret_int HE.out.symm, HB.out⟩
theorem mapKeep {w w' : World} {P : Program} {k : TypeId} {R : Value → Option (DataW Unit × List MemPlace)} {b n : Nat} {D : DataW Unit} (h : w.ownsMap P k R b n D) (hb : Below w.heap.size w w') : w'.ownsMap P k R b n D :=
  h.kept (row := none) ⟨hb.os, hb.tape, hb.output, hb.size, fun k hk _ => hb.block k hk⟩ (by simp)
theorem ints_one (w : World) {b : Nat} {a : Int} (h : w.cell? ⟨b, 0, none⟩ = some (.int .i64 a)) (hb : b < w.heap.size) : Ints w w.heap.size (some ⟨b, 0, none⟩) [a] := by
  intro j z hj
  cases j with
  | zero => simp at hj; subst hj; exact ⟨b, 0, rfl, hb, h⟩
  | succ j => simp at hj
set_option maxRecDepth 100000 in
set_option maxHeartbeats 4000000 in
theorem implTouchesOf_any (W H : Int) (A : Option Addr) (c : Nat) (zs : List Int) (a : Int) (w : World) (hz : Ints w w.heap.size A zs) (hl : zs.length ≤ maxLen) (_ : (Lit.int .i64 a).wf = true) :
    Calls Try.prog 56 #[.agg #[.int .i64 W, .int .i64 H, .slice A zs.length c], .int .i64 a] w fun e w' => e = .returned (.tuple #[.int .i64 (tcR W H zs a), .int .i64 (tcC W H zs a)]) ∧ Below w.heap.size w w' := by
  have hmm := @run_makeMap Try.prog
  by_cases hc0 : tcC W H zs a = 0
  · have hv : validB W H zs = true := by
      cases hv : validB W H zs
      · simp [tcC, hv] at hc0
      · rfl
    have hr : inR a 0 (((trS W H zs (4 * W * H).toNat).1.length : Int) - 1) = true := by
      cases hr : inR a 0 (((trS W H zs (4 * W * H).toNat).1.length : Int) - 1)
      · simp [tcC, hv, hr] at hc0
      · rfl
    have hab : 0 ≤ a ∧ a < ((trS W H zs (4 * W * H).toNat).1.length : Int) := by simp [inR] at hr; omega
    obtain ⟨j, rfl⟩ : ∃ j : Nat, a = (j : Int) := ⟨a.toNat, by omega⟩
    obtain ⟨cj, hcj⟩ : ∃ cj, (trS W H zs (4 * W * H).toNat).1[j]? = some cj := ⟨_, List.getElem?_eq_getElem (by omega)⟩
    have HTR : Hid (tcR W H zs j = (tcn W H cj : Nat)) := hid (by simp [tcR, hv, hr, List.getD_eq_getElem?_getD, hcj])
    obtain ⟨s0, hs0, hcu⟩ := cur_of hv hcj
    have HSZ : Hid (Go.Maps.size (edgeSet W H cj) = tcn W H cj) := hid (by
      have h := edgeSet_size (W := W) (H := H) (c := cj) (by rw [hcu]; exact edge_apart hv hs0) cj.length (Nat.le_refl _)
      rwa [List.take_length] at h)
    have hfew := tr_few hv
    have hc256 := tr_cl hv j cj hcj
    have HOK : Hid (∀ s ∈ cj, okS W H s) := hid (by
      intro s hs
      rw [hcu] at hs
      simp only [curS, List.mem_map] at hs
      obtain ⟨i, _, rfl⟩ := hs
      exact okS_it hv hs0 i)
    have Hv := hid hv
    have HC0 := hid hc0
    have HCJ := hid hcj
    have hjc : j < (trS W H zs (4 * W * H).toNat).1.length := by omega
    clear hv hr hab hcj hcu hs0 hc0
    go_enter Try.func56, Try.ntmps56
    go_wp2_with fail
    refine (calls_iG (curveCode1_any W H A (some ⟨w.heap.size + 1, 0, none⟩) c 1 zs (j : Int) _ ((hz.below (bal (bal (Below.refl _ _) _) _)).more (bal (bal (Below.refl _ _) _) _).size) hl (ints_one _ (by simp [go_sem]) (by simp))) HC0.out).mono ?_
    rintro e w1 ⟨rfl, hb1⟩
    have KP1 : Hid (Box w1 w.heap.size 30 #[.int .i64 W, .int .i64 H, .slice A zs.length c]) := hid (Box.keep (Box.alloc (Box.new w _ _) _) hb1)
    have HB1 : Hid (Below w.heap.size w w1) := hid (bstep (bal (bal (Below.refl _ _) _) _) hb1)
    clear hb1
    obtain ⟨Pa, Pb, Pc⟩ := KP1.out.three
    have Pz := KP1.out.lt
    go_wp2_with fail
    refine (trace_any W H A c zs _ ((hz.below HB1.out).more HB1.out.size) hl Hv.out).mono ?_
    rintro e w2 ⟨⟨E1, d1, E2, d2, rfl, hne, hro⟩, hb2⟩
    have KP2 := hid (Box.keep KP1.out hb2)
    have HB2 := hid (bbl HB1.out hb2)
    clear hb2 Pa Pb Pc Pz hro
    obtain ⟨vs, hO, hI, hD⟩ := hne
    rw [curZ_length] at hO
    obtain ⟨vi, ni, hvi, hri⟩ := hI j (vals (flatW cj)) (by simp [curZ, HCJ.out])
    obtain rfl := cur_len hri
    obtain ⟨Ai, ci, rfl⟩ := own_form hri.1
    have hcl := own_max hri.1
    unfold maxLen at hcl
    obtain ⟨gq, cq, he⟩ := Go.Joins.ownsRow_form hO (by omega)
    simp only [Value.slice.injEq] at he
    obtain ⟨rfl, -, rfl⟩ := he
    have hca : w2.cell? ⟨gq, j, none⟩ = some (.slice Ai cj.length ci) := (World.ownsRow.cellAt hO j (by omega)).trans hvi
    have hgq := (World.ownsRow.lt hO gq rfl).2
    have HR2 : Hid (w2.ownsRow w1.heap.size 52 4 (.slice Ai cj.length ci) cj.length (vals (flatW cj))) := hid hri.1
    have HLT := hid (World.ownsRow.lt hri.1)
    obtain ⟨L, hL⟩ : ∃ L, (trS W H zs (4 * W * H).toNat).1.length = L := ⟨_, rfl⟩
    rw [hL] at hfew hjc ⊢
    clear hO hI hD hvi hri hL
    obtain ⟨Pa, Pb, Pc⟩ := KP2.out.three
    have Pz := KP2.out.lt
    go_wp2_with fail
    clear hca hgq Pa Pb Pc Pz
    go_loopg [30] cj.length (fun g i wr => ∃ k : Nat, k ≤ cj.length ∧ i = .int .i64 k ∧ g = cj.length - k ∧ Hid (wr.ownsMap Try.prog 32 (plainElem (H := Unit) Try.prog 4) w2.heap.size k (edgeSet W H (cj.take k))) ∧ Hid (wr.ownsRow w1.heap.size 52 4 (.slice Ai cj.length ci) cj.length (vals (flatW cj))) ∧ Hid (Box wr w.heap.size 30 #[.int .i64 W, .int .i64 H, .slice A zs.length c]) ∧ Hid (Below w.heap.size w wr))
    case atStart => exact ⟨0, Nat.zero_le _, rfl, rfl, hid (World.ownsMap_made _ _ _ _), hid (HR2.out.alloc _), hid (Box.alloc KP2.out _), hid (bal HB2.out _)⟩
    case round =>
      obtain ⟨k, hk, rfl, hg, HM, HR, KP, HB⟩ := hrel
      have hkp2 := KP2.out.lt
      obtain ⟨Pa, Pb, Pc⟩ := KP.out.three
      have Pz := KP.out.lt
      by_cases hlt : k < cj.length
      · obtain ⟨s, hs⟩ : ∃ s, cj[k]? = some s := ⟨_, List.getElem?_eq_getElem hlt⟩
        obtain ⟨f0, f1, f2, f3⟩ := flatW_at hs
        have hoks := HOK.out s (List.mem_of_getElem? hs)
        obtain ⟨x, y, u, v, hst⟩ : ∃ x y u v, s = (x, y, u, v) := ⟨_, _, _, _, rfl⟩
        subst hst
        dsimp only at f0 f1 f2 f3
        obtain ⟨bx1, bx2, by1, by2, -⟩ := wb_bd (show validWB W H zs x y u v = true by unfold validWB; rw [Hv.out]; exact hoks)
        obtain ⟨gi, cc, he⟩ := Go.Joins.ownsRow_form HR.out (by omega)
        simp only [Value.slice.injEq] at he
        obtain ⟨rfl, -, rfl⟩ := he
        have k0 : wr.cell? ⟨gi, k * 4, none⟩ = some (.int .i64 x) := (World.ownsRow.cellAt HR.out (k * 4) (by omega)).trans (by simp [vals, f0])
        have k1 : wr.cell? ⟨gi, k * 4 + 1, none⟩ = some (.int .i64 y) := (World.ownsRow.cellAt HR.out (k * 4 + 1) (by omega)).trans (by simp [vals, f1])
        have k2 : wr.cell? ⟨gi, k * 4 + 2, none⟩ = some (.int .i64 u) := (World.ownsRow.cellAt HR.out (k * 4 + 2) (by omega)).trans (by simp [vals, f2])
        have k3 : wr.cell? ⟨gi, k * 4 + 3, none⟩ = some (.int .i64 v) := (World.ownsRow.cellAt HR.out (k * 4 + 3) (by omega)).trans (by simp [vals, f3])
        have gz : gi < wr.heap.size := (HR.out.lt gi rfl).2
        have HGI := hid ((HLT.out gi rfl).2)
        have HKY := hid (keyPt_of (show (Lit.int .i64 x).wf = true by simp [Lit.wf, IntKind.min, IntKind.max, IntKind.bits, IntKind.signed]; omega) (show (Lit.int .i64 y).wf = true by simp [Lit.wf, IntKind.min, IntKind.max, IntKind.bits, IntKind.signed]; omega))
        have HS := hid hs
        clear f0 f1 f2 f3 hs hoks
        cases hed : edgeP W H x y
        · have HED := hid hed
          have HES := hid (edgeSet_same HS.out hed)
          clear hed
          go_wp2_with fail
          refine (calls_bool (isBorder_any W H x y A zs.length c _ (valid_sides Hv.out).1 (valid_sides Hv.out).2) HED.out).mono ?_
          rintro e w5 ⟨rfl, hb5⟩
          have hM5 := hid (mapKeep (HM.out.alloc _) hb5)
          have hR5 := hid (own_keep (HR.out.alloc _) hb5)
          have hP5 := hid (Box.keep (Box.alloc KP.out _) hb5)
          have hB5 : Hid (Below w.heap.size w w5) := hid (bbl (bal HB.out _) hb5)
          clear hb5 k0 k1 k2 k3 gz Pa Pb Pc Pz HM HR KP HB
          go_wp2_with fail
          go_roundg (cj.length - (k + 1))
          case measure => omega
          case rel => exact ⟨k + 1, by omega, by go_num, rfl, hid (by rw [HES.out]; exact hM5.out.mono (by omega)), hR5, hP5, hB5⟩
        · have HED := hid hed
          have HES := hid (edgeSet_take HS.out hed)
          clear hed
          go_wp2_with fail
          refine (calls_bool (isBorder_any W H x y A zs.length c _ (valid_sides Hv.out).1 (valid_sides Hv.out).2) HED.out).mono ?_
          rintro e w5 ⟨rfl, hb5⟩
          have hM5 := hid (mapKeep (HM.out.alloc _) hb5)
          have hR5 := hid (own_keep (HR.out.alloc _) hb5)
          have hP5 := hid (Box.keep (Box.alloc KP.out _) hb5)
          have hB5 : Hid (Below w.heap.size w w5) := hid (bbl (bal HB.out _) hb5)
          have hW5 : Hid (Box w5 wr.heap.size 52 #[.int .i64 x, .int .i64 y, .int .i64 u, .int .i64 v]) := hid (Box.keep (Box.new _ _ _) hb5)
          obtain ⟨Wa, Wb, Wc, Wd⟩ := hW5.out.four
          have Wz := hW5.out.lt
          clear hb5 k0 k1 k2 k3 gz Pa Pb Pc Pz HM HR KP HB
          go_wp2_with (at_mapUpdate; (refine wpList_mapUpdate_own _ rfl _ _ _ 122 rfl 32 4 ptKeyed Try.underlying122 (plainElem (H := Unit) Try.prog 4) w2.heap.size k _ rfl hM5.out (by unfold maxLen; omega) _ _ _ rfl rfl HKY.out _ [] (plainElem_bool Try.underlying4 true) ?_); intro w6 ho6 hg6)
          have HH := hid (And.intro ho6 hg6)
          clear ho6 hg6 Wa Wb Wc Wd Wz
          go_roundg (cj.length - (k + 1))
          case measure => omega
          case rel => exact ⟨k + 1, by omega, by go_num, rfl, hid (by rw [HES.out]; exact HH.out.1), hid (World.ownsRow.kept hR5.out HH.out.2 (.inr fun e => by have h1 := HGI.out; have h2 : gi = w2.heap.size := (by injection e); omega)), hid (Box.grew hP5.out HH.out.2 (fun q hq => by injection hq with hq; omega)), hid (bgrew (lo := w.heap.size) hB5.out HH.out.2 (fun q hq => by injection hq with hq; omega) (Nat.le_refl _))⟩
      · obtain rfl : k = cj.length := by omega
        have HF : Hid (wr.ownsMap Try.prog 32 (plainElem (H := Unit) Try.prog 4) w2.heap.size cj.length (edgeSet W H cj)) := hid (by have h := HM.out; rwa [List.take_length] at h)
        clear HM
        go_wp2_with (at_len; (refine wpList_len_own _ rfl _ 122 rfl 32 4 Try.underlying122 _ w2.heap.size cj.length _ rfl HF.out ?_))
        go_ret2
        exact ⟨ret_iiG (by rw [HTR.out, HSZ.out]) HC0.out.symm, HB.out⟩
  · have HTR : Hid (tcR W H zs a = 0) := hid (by
      unfold tcR
      rw [if_neg]
      intro h
      simp only [Bool.and_eq_true] at h
      exact hc0 (by simp [tcC, h.1, h.2]))
    obtain ⟨m, hm⟩ : ∃ m, tcC W H zs a = m := ⟨_, rfl⟩
    rw [hm] at hc0
    have HC := hid hm
    clear hm
    go_enter Try.func56, Try.ntmps56
    go_wp2_with fail
    refine (calls_iG (curveCode1_any W H A (some ⟨w.heap.size + 1, 0, none⟩) c 1 zs a _ ((hz.below (bal (bal (Below.refl _ _) _) _)).more (bal (bal (Below.refl _ _) _) _).size) hl (ints_one _ (by simp [go_sem]) (by simp))) HC.out).mono ?_
    rintro e w1 ⟨rfl, hb1⟩
    have HB1 : Hid (Below w.heap.size w w1) := hid (bstep (bal (bal (Below.refl _ _) _) _) hb1)
    clear hb1
    go_wp2_with fail
    go_ret2
    exact ⟨ret_iiG HTR.out.symm HC.out.symm, HB1.out⟩
end Go.Proofs.Ytbgigompkmnapaa

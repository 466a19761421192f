/- All curves of a panel, traced: the program's trace. -/
import Derived.Test.YtbgigompkmnapaaTp
import Derived.Test.YtbgigompkmnapaaNs
import Derived.Test.YtbgigompkmnapaaSt
import Derived.Test.YtbgigompkmnapaaSf
import Derived.OwnWalk
import Derived.Lib.SmallJoins
import Derived.Deep.AppendLies
namespace Go.Proofs.Ytbgigompkmnapaa
set_option linter.unusedSimpArgs false
set_option linter.unusedVariables false
open Go.ChangeShapes Go.WideShapes Go.ChangeAt Go.RowKit
/-- The numbers of walkers. -/
def wnum (s : Wkr) : List Int := [s.1, s.2.1, s.2.2.1, s.2.2.2]
def flatW (c : List Wkr) : List Int := c.flatMap wnum
def orbL (W H : Int) (zs : List Int) (s : Wkr) (i : Nat) : List Wkr := (List.range i).map fun j => itW W H zs j s
def curZ (cs : List (List Wkr)) : List (List Value) := cs.map fun c => vals (flatW c)
/-- Their points. -/
def pnum (s : Wkr) : List Int := [s.1, s.2.1]
def flatP (c : List Wkr) : List Int := c.flatMap pnum
def curP (cs : List (List Wkr)) : List (List Value) := cs.map fun c => vals (flatP c)
def segV (gs : List Nat) : List Int := gs.map fun (g : Nat) => (g : Int)
theorem infoWk2 : (Try.prog.info? 52).map (fun i => (i.zero, i.size, i.bytes)) = some (some (.agg #[.int .i64 0, .int .i64 0, .int .i64 0, .int .i64 0]), 4, 32) := by kernel_rfl
theorem flatW_length (cs : List Wkr) : (flatW cs).length = cs.length * 4 := by
  induction cs with
  | nil => rfl
  | cons a l ih => simp only [flatW, List.flatMap_cons, List.length_append, List.length_cons] at ih ⊢; rw [ih]; simp [wnum]; omega
theorem flatW_orb (W H : Int) (zs : List Int) (s : Wkr) (i : Nat) : flatW (orbL W H zs s (i + 1)) = flatW (orbL W H zs s i) ++ wnum (itW W H zs i s) := by
  simp [flatW, orbL, List.range_succ, List.flatMap_append]
theorem flatP_length (cs : List Wkr) : (flatP cs).length = cs.length * 2 := by
  induction cs with
  | nil => rfl
  | cons a l ih => simp only [flatP, List.flatMap_cons, List.length_append, List.length_cons] at ih ⊢; rw [ih]; simp [pnum]; omega
theorem flatP_orb (W H : Int) (zs : List Int) (s : Wkr) (i : Nat) : flatP (orbL W H zs s (i + 1)) = flatP (orbL W H zs s i) ++ pnum (itW W H zs i s) := by
  simp [flatP, orbL, List.range_succ, List.flatMap_append]
theorem segV_succ (W H : Int) (zs : List Int) (s : Wkr) (i : Nat) : segV (segsI W H zs s (i + 1)) = segV (segsI W H zs s i) ++ [(segN H (itW W H zs i s) : Int)] := by
  simp [segV, segsI_succ]
theorem curP_length (cs : List (List Wkr)) : (curP cs).length = cs.length := by simp [curP]
theorem curP_snoc (cs : List (List Wkr)) (c : List Wkr) : curP (cs ++ [c]) = curP cs ++ [vals (flatP c)] := by simp [curP]
theorem curZ_length (cs : List (List Wkr)) : (curZ cs).length = cs.length := by simp [curZ]
theorem curZ_snoc (cs : List (List Wkr)) (c : List Wkr) : curZ (cs ++ [c]) = curZ cs ++ [vals (flatW c)] := by simp [curZ]
theorem owner_at {W H : Int} {zs : List Int} (hv : validB W H zs = true) {o : List Int} {s : Wkr} (h : okS W H s) (hi : ∀ s, okS W H s → o[segN H s]? = o[segN H (stepW W H zs s)]?) (h0 : o[segN H s]? = some (-1)) {i : Nat} (hp : i < per W H zs s) (c : Int) :
    (putAll o (segsI W H zs s i) c)[segN H (itW W H zs i s)]? = some (-1) := by
  rw [putAll_out _ _ _ _ (seg_fresh hv h hp), inv_it hv hi h, h0]
theorem owner_end {W H : Int} {zs : List Int} (hv : validB W H zs = true) {o : List Int} {s : Wkr} (h : okS W H s) (hl : o.length = (4 * W * H).toNat) (c : Int) :
    (putAll o (segsI W H zs s (per W H zs s)) c)[segN H (itW W H zs (per W H zs s) s)]? = some c := by
  obtain ⟨p1, _, p3, _⟩ := per_spec hv h
  refine putAll_in _ _ _ _ (mem_segsI.2 ⟨0, by omega, by rw [p3]; rfl⟩) ?_
  rw [hl, p3]
  exact segN_lt hv h
theorem infoSWk : (Try.prog.info? 48).map (fun i => (i.zero, i.size, i.bytes)) = some (some (.slice none 0 0), 1, 24) := by kernel_rfl
set_option maxRecDepth 100000 in
set_option maxHeartbeats 8000000 in
theorem trace_any (W H : Int) (A : Option Addr) (c : Nat) (zs : List Int) (w : World) (hz : Ints w w.heap.size A zs) (hl : zs.length ≤ maxLen) (hv : validB W H zs = true) :
    Calls Try.prog 68 #[.agg #[.int .i64 W, .int .i64 H, .slice A zs.length c]] w fun e w' => (∃ A1 c1 A2 c2, e = .returned (.tuple #[.slice A1 (trS W H zs (4 * W * H).toNat).1.length c1, .slice A2 (4 * W * H).toNat c2]) ∧ Nest w' w.heap.size w'.heap.size 48 52 4 (.slice A1 (trS W H zs (4 * W * H).toNat).1.length c1) (curZ (trS W H zs (4 * W * H).toNat).1) ∧ w'.ownsRow w.heap.size 2 1 (.slice A2 (4 * W * H).toNat c2) (4 * W * H).toNat (vals (trS W H zs (4 * W * H).toNat).2)) ∧ Below w.heap.size w w' := by
  obtain ⟨n, hn⟩ : ∃ n : Nat, 4 * W * H = n := ⟨(4 * W * H).toNat, by have := segs_bd (valid_sides hv).1 (valid_sides hv).2; omega⟩
  have hN : (4 * W * H).toNat = n := by omega
  have HT : Hid (∀ k, k ≤ n → TInv W H zs k (trS W H zs k).1 (trS W H zs k).2) := hid (fun k hk => trS_inv hv k (by omega))
  have HT0 : Hid ((trS W H zs 0).1 = [] ∧ (trS W H zs 0).2 = List.replicate n (-1)) := hid (by rw [← hN]; exact ⟨rfl, rfl⟩)
  rw [hN]
  have Hs := hid (valid_sides hv)
  obtain ⟨s1, s2⟩ := segs_bd Hs.out.1 Hs.out.2
  rw [hn] at s1 s2
  have HV := hid hv
  have HNN := hid hN
  have HN := hid hn
  clear hv hn hN
  obtain ⟨i0, hi, hz0, hz1, hz2⟩ := info_parts infoI
  obtain ⟨j0, hj, jz0, jz1, jz2⟩ := info_parts infoWk2
  obtain ⟨m0, hm, mz0, mz1, mz2⟩ := info_parts infoSWk
  have hnn : ¬ ((n : Int) < 0) := by omega
  go_enter Try.func68, Try.ntmps68
  go_wp2_with fail
  refine (calls_int (segments_any W H _ _ _ _ Hs.out.1 Hs.out.2) HN.out).mono ?_
  rintro e w1 ⟨rfl, hb1⟩
  have KP1 : Hid (Box w1 w.heap.size 30 #[.int .i64 W, .int .i64 H, .slice A zs.length c]) := hid (Box.keep (Box.alloc (Box.new' _ _ _ _ (by simp)) _) hb1)
  have ho1 := World.ownsRow_lit (base := w.heap.size + 1) (e := 48) (size := 1) (w.alloc (.cells #[.int .i64 W, .int .i64 H, .slice A zs.length c] 30)) #[] 0 (by simp) (Nat.zero_le _) rfl
  simp only [World.size_alloc] at ho1
  have HE1 := hid (own_keep ho1 hb1)
  have HB1 : Hid (Below w.heap.size w w1) := hid (bstep (bal (bal (Below.refl _ _) _) _) hb1)
  have z1 : w.heap.size + 2 ≤ w1.heap.size := by have h := hb1.size; simp only [World.size_alloc] at h; omega
  clear hb1 ho1
  go_wp2_with (at_make; refine wpList_make_full _ rfl _ _ _ rfl (w.heap.size + 1) 2 i0 (.int .i64 0) 1 Try.underlying22 hi hz0 hz1 _ _ _ _ n rfl rfl rfl rfl (by rw [hz2]; omega) (by unfold maxLen; omega) (by omega) ?_; intro w2 hown hgr)
  have e0 := fillI_zero (List.replicate n (-1))
  rw [List.length_replicate] at e0
  rw [e0] at hown
  have hb2 : Below w1.heap.size w1 w2 := (Below.refl _ _).grown hgr (Nat.le_refl _) (by simp)
  have KP2 := hid (Box.keep KP1.out hb2)
  have HE2 := hid (own_keep HE1.out hb2)
  have HB2 := hid (bstep HB1.out hb2)
  have HO2 := hid hown
  clear hb2 hown hgr e0
  go_loopg [16] n (fun g i wr => ∃ k : Nat, k ≤ n ∧ i = .int .i64 k ∧ g = n - k ∧ Hid (wr.ownsRow (w.heap.size + 1) 2 1 (.slice (some ⟨w1.heap.size, 0, none⟩) n n) n (fillI (List.replicate n (-1)) k)) ∧ Hid (w2.grownBy wr (some w1.heap.size)))
  case atStart => exact ⟨0, Nat.zero_le _, rfl, rfl, HO2, hid ⟨rfl, rfl, rfl, Nat.le_refl _, fun _ _ _ => rfl⟩⟩
  case round =>
    obtain ⟨k, hk, rfl, hg, HO, HG⟩ := hrel
    by_cases hlt : k < n
    · obtain ⟨u, hu⟩ : ∃ u, (fillI (List.replicate n (-1)) k)[k]? = some u := ⟨_, List.getElem?_eq_getElem (by rw [HO.out.1]; omega)⟩
      have hc2 : wr.cell? ⟨w1.heap.size, k, none⟩ = some u := (World.ownsRow.cellAt HO.out k (by omega)).trans hu
      have hf2 := World.ownsRow.frozenAt HO.out k
      have hst := World.ownsRow.stored HO.out k (.int .i64 (-1))
      rw [fillI_set _ k (-1) (by simp [hlt])] at hst
      have HST := hid hst
      clear hu hst
      go_wp2_with fail
      go_roundg (n - (k + 1))
      case measure => omega
      case rel => exact ⟨k + 1, by omega, by go_num, rfl, hid HST.out.1, hid (grown_trans' HG.out HST.out.2)⟩
    · have hkn : k = n := by omega
      subst hkn
      obtain ⟨w3, rfl⟩ : ∃ z, z = wr := ⟨_, rfl⟩
      have HO3 : Hid (w3.ownsRow (w.heap.size + 1) 2 1 (.slice (some ⟨w1.heap.size, 0, none⟩) k k) k (vals (List.replicate k (-1)))) := hid (by have e := fillI_full (List.replicate k (-1)); rw [List.length_replicate] at e; rw [← e]; exact HO.out)
      have KP3 := hid (Box.grew KP2.out HG.out (fun q hq => by injection hq with hq; omega))
      have NE3 := hid ((Nest.nil (TI := 52) (s := 4) HE2.out w2.heap.size).other HO2.out HG.out (by decide) (by decide))
      have HB3 := hid (bgrew (lo := w.heap.size + 1) HB2.out HG.out (fun q hq => by injection hq with hq; omega) (by omega))
      have z3 := HG.out.size
      obtain ⟨n, rfl⟩ : ∃ z, z = k := ⟨_, rfl⟩
      clear HO HG
      obtain ⟨Pa, Pb, Pc⟩ := KP3.out.three
      have Pz := KP3.out.lt
      go_wp2_with fail
      refine (calls_int (segments_any W H _ _ _ _ Hs.out.1 Hs.out.2) HN.out).mono ?_
      rintro e w4 ⟨rfl, hb4⟩
      clear Pa Pb Pc Pz
      have z4 := hb4.size
      have KP4 := hid (Box.keep (KP3.out) hb4)
      have NE4 := hid (Nest.keep (NE3.out) hb4)
      have HO4 := hid (own_keep (HO3.out) hb4)
      have HB4 := hid (bstep (HB3.out) hb4)
      clear hb4
      go_wp2_with fail
      go_loopg [4, 25] n (fun g v i wr => ∃ k : Nat, k ≤ n ∧ i = .int .i64 k ∧ g = n - k ∧ Hid (Nest wr (w.heap.size + 1) wr.heap.size 48 52 4 v (curZ (trS W H zs k).1)) ∧ Hid (wr.ownsRow (w.heap.size + 1) 2 1 (.slice (some ⟨w1.heap.size, 0, none⟩) n n) n (vals (trS W H zs k).2)) ∧ Hid (Box wr w.heap.size 30 #[.int .i64 W, .int .i64 H, .slice A zs.length c]) ∧ Hid (Below w.heap.size w wr))
      case atStart => exact ⟨0, Nat.zero_le _, rfl, rfl, by rw [HT0.out.1]; exact hid (Nest.more NE4.out (by omega)), by rw [HT0.out.2]; exact HO4, KP4, HB4⟩
      case round =>
        clear KP1 HE1 HB1 KP2 HE2 HB2 HO2 KP3 NE3 HB3 HO3 KP4 NE4 HO4 HB4 HT0
        obtain ⟨k, hk, rfl, hg2, NE, HO, KP, HBr⟩ := hrel
        obtain ⟨wo, rfl⟩ : ∃ z, z = wr := ⟨_, rfl⟩
        have HI := hid (HT.out k hk)
        obtain ⟨cs, hcs⟩ : ∃ cs, cs = (trS W H zs k).1 := ⟨_, rfl⟩
        obtain ⟨ow, how⟩ : ∃ o, o = (trS W H zs k).2 := ⟨_, rfl⟩
        rw [← hcs] at NE HI
        rw [← how] at HO HI
        obtain ⟨vs0, hvs0⟩ := NE.out.outer
        rw [curZ_length] at hvs0
        obtain ⟨A4, c4, rfl⟩ := own_form hvs0
        clear hvs0
        have HVo := hid NE.out.lt
        have hob : w1.heap.size < wo.heap.size := (HO.out.lt _ rfl).2
        have hcl : cs.length ≤ 256 := by have := HI.out.few; omega
        obtain ⟨Pa, Pb, Pc⟩ := KP.out.three
        have Pz := KP.out.lt
        by_cases hlt : k < n
        · have hkl : k < ow.length := by rw [HI.out.len, HNN.out]; exact hlt
          obtain ⟨y, hy⟩ : ∃ y, ow[k]? = some y := ⟨_, List.getElem?_eq_getElem hkl⟩
          have hyd : ow.getD k 0 = y := by rw [List.getD_eq_getElem?_getD, hy]; rfl
          have hca : wo.cell? ⟨w1.heap.size, k, none⟩ = some (.int .i64 y) := (World.ownsRow.cellAt HO.out k (by omega)).trans (by simp [vals, hy])
          by_cases h0 : 0 ≤ y
          · have HE : Hid (trS W H zs (k + 1) = (cs, ow)) := hid (by rw [trS, ← how, hyd, if_pos h0, hcs, how])
            clear hyd hy hcs how hkl
            go_wp2_with fail
            go_roundg (n - (k + 1))
            case measure => omega
            case rel => exact ⟨k + 1, by omega, by go_num, rfl, by rw [HE.out]; exact NE, by rw [HE.out]; exact HO, KP, HBr⟩
          · have ym : y = -1 := by rcases HI.out.val k 0 y hy with h | h <;> omega
            subst ym
            have HE : Hid (trS W H zs (k + 1) = (cs ++ [curS W H zs (wkS H k)], putAll ow (segsI W H zs (wkS H k) (per W H zs (wkS H k))) cs.length)) := hid (by rw [trS, ← how, hyd, if_neg h0, hcs])
            have HK : Hid ((k : Int) < 4 * W * H) := hid (by rw [HN.out]; omega)
            have HOK := hid (wkS_ok Hs.out.1 Hs.out.2 HK.out)
            have HSG0 : Hid (ow[segN H (wkS H k)]? = some (-1)) := hid (by unfold segN; rw [wkS_seg Hs.out.1 Hs.out.2 HK.out, Int.toNat_natCast]; exact hy)
            have HP := hid (per_spec HV.out HOK.out)
            obtain ⟨s0, hs0⟩ : ∃ s, s = wkS H k := ⟨_, rfl⟩
            rw [← hs0] at HE HOK HSG0 HP
            have HS0 := hid hs0
            obtain ⟨p, hp⟩ : ∃ p, p = per W H zs s0 := ⟨_, rfl⟩
            have HPP := hid hp
            rw [← hp] at HE HP
            clear hyd hy hcs how hkl h0 hs0 hp
            have hp1 : 1 ≤ p := HP.out.1
            have hp2 : p ≤ 256 := HP.out.2.1
            have hoi := World.ownsRow_lit (base := wo.heap.size) (e := 52) (size := 4) wo #[] 0 (Nat.le_refl _) (Nat.zero_le _) rfl
            have HOI := hid hoi
            clear hoi
            go_wp2_with fail
            refine (walker_any W H k _ _ _ _ Hs.out.1 Hs.out.2 (by omega) HK.out).mono ?_
            rintro e w5 ⟨rfl, hb5⟩
            clear Pa Pb Pc Pz hca
            have z5 : wo.heap.size + 1 ≤ w5.heap.size := by have h := hb5.size; simp only [World.size_alloc] at h; omega
            have HC5 := hid (own_keep HOI.out hb5)
            have KP5 := hid (Box.keep (Box.alloc (KP.out) _) hb5)
            have NE5 := hid (Nest.keep (Nest.alloc (NE.out) _) hb5)
            have HO5 := hid (own_keep (World.ownsRow.alloc (HO.out) _) hb5)
            have HB5 := hid (bstep (bal (HBr.out) _) hb5)
            clear hb5
            go_wp2_with fail
            go_loopg [8, 9] p (fun g cv pv wr => ∃ i bb : Nat, i ≤ p ∧ pv = .pointer (some ⟨bb, 0, none⟩) ∧ g = p - i ∧ Hid (wr.ownsRow wo.heap.size 52 4 cv i (vals (flatW (orbL W H zs s0 i)))) ∧ Hid (wr.ownsRow (w.heap.size + 1) 2 1 (.slice (some ⟨w1.heap.size, 0, none⟩) n n) n (vals (putAll ow (segsI W H zs s0 i) cs.length))) ∧ Hid (Nest wr (w.heap.size + 1) wo.heap.size 48 52 4 (.slice A4 cs.length c4) (curZ cs)) ∧ Hid (Box wr bb 52 #[.int .i64 (itW W H zs i s0).1, .int .i64 (itW W H zs i s0).2.1, .int .i64 (itW W H zs i s0).2.2.1, .int .i64 (itW W H zs i s0).2.2.2]) ∧ Hid (Box wr w.heap.size 30 #[.int .i64 W, .int .i64 H, .slice A zs.length c]) ∧ Hid (Below w.heap.size w wr) ∧ Hid ((∀ q, cv.ownBlock = some q → q < bb) ∧ wo.heap.size ≤ bb))
            case atStart => exact ⟨0, w5.heap.size, Nat.zero_le _, rfl, rfl, hid (HC5.out.alloc _), hid (HO5.out.alloc _), hid (NE5.out.alloc _), hid (by rw [show itW W H zs 0 s0 = wkS H k from HS0.out]; exact Box.new _ _ _), hid (Box.alloc KP5.out _), hid (bal HB5.out _), hid ⟨fun q hq => by have := own_blk hq; omega, by omega⟩⟩
            case round =>
              clear HC5 KP5 NE5 HO5 HB5 NE HO KP HBr HOI
              obtain ⟨i, bb, hip, rfl, hg3, HC, HO, NE, KB, KP, HB, HQ⟩ := hrel
              have HWk := hid (okS_it HV.out HOK.out i)
              obtain ⟨x, y, u, v, hst⟩ : ∃ x y u v, itW W H zs i s0 = (x, y, u, v) := ⟨_, _, _, _, rfl⟩
              have HST := hid hst
              rw [hst] at KB HWk
              dsimp only at KB HWk
              clear hst
              have HW' : Hid (walkB W H x y u v = true) := hid HWk.out
              obtain ⟨sn, hsn⟩ : ∃ sn : Nat, sgF H x y u v = sn := ⟨(sgF H x y u v).toNat, by have := sgF_bd Hs.out.1 Hs.out.2 HW'.out; omega⟩
              have HSG : Hid (segN H (itW W H zs i s0) = sn) := hid (by rw [HST.out]; show (sgF H x y u v).toNat = sn; rw [hsn]; exact Int.toNat_natCast sn)
              have hsl : sn < n := by have h := sgF_bd Hs.out.1 Hs.out.2 HW'.out; rw [hsn, HN.out] at h; omega
              have HSN := hid hsn
              clear hsn
              have hq2 : wo.heap.size ≤ bb := HQ.out.2
              have hbo : ¬ (bb = w1.heap.size) := by omega
              have hbo' : ¬ (w1.heap.size = bb) := by omega
              obtain ⟨Pa, Pb, Pc⟩ := KP.out.three
              have Pz := KP.out.lt
              obtain ⟨Ka, Kb, Kc, Kd⟩ := KB.out.four
              have Kz := KB.out.lt
              by_cases hlp : i < p
              · have HCl : Hid ((putAll ow (segsI W H zs s0 i) cs.length)[sn]? = some (-1)) := hid (by rw [← HSG.out]; exact owner_at HV.out HOK.out HI.out.inv HSG0.out (by rw [← HPP.out]; exact hlp) _)
                go_wp2_with fail
                refine (calls_int (segment_any W H x y u v _ _ _ _ Hs.out.1 Hs.out.2 HW'.out) HSN.out).mono ?_
                rintro e w6 ⟨rfl, hb6⟩
                clear Pa Pb Pc Pz Ka Kb Kc Kd Kz
                have KP6 := hid (Box.keep (KP.out) hb6)
                have KB6 := hid (Box.keep (KB.out) hb6)
                have HC6 := hid (own_keep (HC.out) hb6)
                have HO6 := hid (own_keep (HO.out) hb6)
                have NE6 := hid (Nest.keep (NE.out) hb6)
                have HB6 := hid (bstep (HB.out) hb6)
                clear hb6
                obtain ⟨Pa, Pb, Pc⟩ := KP6.out.three
                have Pz := KP6.out.lt
                obtain ⟨Ka, Kb, Kc, Kd⟩ := KB6.out.four
                have Kz := KB6.out.lt
                have hc6 : w6.cell? ⟨w1.heap.size, sn, none⟩ = some (.int .i64 (-1)) := (World.ownsRow.cellAt HO6.out sn (by omega)).trans (by simp [vals, HCl.out])
                go_wp2_with fail
                refine (calls_int (segment_any W H x y u v _ _ _ _ Hs.out.1 Hs.out.2 HW'.out) HSN.out).mono ?_
                rintro e w7 ⟨rfl, hb7⟩
                clear Pa Pb Pc Pz Ka Kb Kc Kd Kz hc6
                have KP7 := hid (Box.keep (KP6.out) hb7)
                have KB7 := hid (Box.keep (KB6.out) hb7)
                have HC7 := hid (own_keep (HC6.out) hb7)
                have HO7 := hid (own_keep (HO6.out) hb7)
                have NE7 := hid (Nest.keep (NE6.out) hb7)
                have HB7 := hid (bstep (HB6.out) hb7)
                clear hb7
                clear KP6 KB6 HC6 HO6 NE6 HB6 KP KB HC HO NE HB
                obtain ⟨Pa, Pb, Pc⟩ := KP7.out.three
                have Pz := KP7.out.lt
                obtain ⟨Ka, Kb, Kc, Kd⟩ := KB7.out.four
                have Kz := KB7.out.lt
                have hc7 : w7.cell? ⟨w1.heap.size, sn, none⟩ = some (.int .i64 (-1)) := (World.ownsRow.cellAt HO7.out sn (by omega)).trans (by simp [vals, HCl.out])
                have hf7 := World.ownsRow.frozenAt HO7.out sn
                have st := World.ownsRow.stored HO7.out sn (.int .i64 cs.length)
                rw [show (vals (putAll ow (segsI W H zs s0 i) cs.length)).set sn (.int .i64 cs.length) = vals (putAll ow (segsI W H zs s0 (i + 1)) cs.length) by rw [segsI_succ, putAll_snoc, HSG.out]; simp [vals]] at st
                have HO8 := hid st.1
                have HC8 := hid (HC7.out.kept st.2 (own_ne HC7.out HO7.out (by decide)))
                have NE8 := hid (NE7.out.other HO7.out st.2 (by decide) (by decide))
                have KB8 := hid (Box.grew KB7.out st.2 (fun q hq => by injection hq with hq; omega))
                have KP8 := hid (Box.grew KP7.out st.2 (fun q hq => by injection hq with hq; omega))
                have HB8 := hid (bgrew (lo := w.heap.size + 1) HB7.out st.2 (fun q hq => by injection hq with hq; omega) (by omega))
                have HCU := hid HC7.out.lt
                have hsz : (w7.setCell ⟨w1.heap.size, sn, none⟩ (.int .i64 cs.length)).heap.size = w7.heap.size := by simp
                have hnews := World.news_of_block (heap_alloc_new (w7.setCell ⟨w1.heap.size, sn, none⟩ (.int .i64 cs.length)) (.cells #[.int .i64 x, .int .i64 y, .int .i64 u, .int .i64 v] 52))
                rw [hsz] at hnews
                have HNW := hid hnews
                have HSZ := hid hsz
                have z7 : wo.heap.size < w7.heap.size := by omega
                clear st hsz hnews KP7 KB7 HC7 HO7 NE7 HB7
                go_wp2_with (at_builtin; (refine wpList_append_lies _ rfl _ _ 48 rfl wo.heap.size 52 j0 (.agg #[.int .i64 0, .int .i64 0, .int .i64 0, .int .i64 0]) 4 32 Try.underlying48 hj jz0 jz1 jz2 rfl (by decide) _ i (vals (flatW (orbL W H zs s0 i))) rfl (HC8.out.alloc _) ⟨w7.heap.size, 0, none⟩ 1 1 [.int .i64 x, .int .i64 y, .int .i64 u, .int .i64 v] rfl rfl HNW.out (by simp [Value.oneCell']) (by decide) (by unfold maxLen; omega) (by omega) (by simp; omega) (w7.heap.size + 1) (by simp) ?_; intro gg cap wz ho2 hgr2 hat hlt2; have KBz := hid (Box.grew (Box.alloc KB8.out (.cells #[.int .i64 x, .int .i64 y, .int .i64 u, .int .i64 v] 52)) hgr2 (fun q hq => by have := HQ.out.1 q hq; omega)); have KPz := hid (Box.grew (Box.alloc KP8.out (.cells #[.int .i64 x, .int .i64 y, .int .i64 u, .int .i64 v] 52)) hgr2 (fun q hq => by have := (HCU.out q hq).1; omega)); have NEz := hid ((NE8.out.alloc (.cells #[.int .i64 x, .int .i64 y, .int .i64 u, .int .i64 v] 52)).curve (HC8.out.alloc (.cells #[.int .i64 x, .int .i64 y, .int .i64 u, .int .i64 v] 52)) hgr2 (by decide) (Nat.le_refl _)); have HOz := hid ((HO8.out.alloc (.cells #[.int .i64 x, .int .i64 y, .int .i64 u, .int .i64 v] 52)).kept hgr2 (own_ne (HO8.out.alloc (.cells #[.int .i64 x, .int .i64 y, .int .i64 u, .int .i64 v] 52)) (HC8.out.alloc (.cells #[.int .i64 x, .int .i64 y, .int .i64 u, .int .i64 v] 52)) (by decide))); have HBz := hid (bgrew (lo := wo.heap.size) (bal HB8.out (.cells #[.int .i64 x, .int .i64 y, .int .i64 u, .int .i64 v] 52)) hgr2 (fun q hq => (HCU.out q hq).1) (by omega)); have HCz := hid ho2; have HLz := hid hlt2; have HZz : Hid (w7.heap.size < wz.heap.size) := hid (by have h := hgr2.size; simp only [World.size_alloc, HSZ.out] at h; omega); clear ho2 hgr2 hat hlt2 Pa Pb Pc Pz Ka Kb Kc Kd Kz hc7 hf7; obtain ⟨Pa, Pb, Pc⟩ := KPz.out.three; have Pz := KPz.out.lt; obtain ⟨Ka, Kb, Kc, Kd⟩ := KBz.out.four; have Kz := KBz.out.lt))
                refine (step_any W H A c zs x y u v _ ((hz.below (bal HBz.out _)).more (bal HBz.out _).size) hl HV.out HW'.out).mono ?_
                rintro e w9 ⟨rfl, hb9⟩
                clear Pa Pb Pc Pz Ka Kb Kc Kd Kz
                have KB9 := hid (Box.keep (Box.new wz _ _) hb9)
                have KP9 := hid (Box.keep (Box.alloc (KPz.out) _) hb9)
                have HC9 := hid (own_keep (World.ownsRow.alloc (HCz.out) _) hb9)
                have HO9 := hid (own_keep (World.ownsRow.alloc (HOz.out) _) hb9)
                have NE9 := hid (Nest.keep (Nest.alloc (NEz.out) _) hb9)
                have HB9 := hid (bstep (bal (HBz.out) _) hb9)
                clear hb9
                have Kf := KB9.out.free
                obtain ⟨Ka, Kb, Kc, Kd⟩ := KB9.out.four
                have Kz := KB9.out.lt
                go_wp2_with fail
                have hzz : w7.heap.size < wz.heap.size := HZz.out
                go_roundg (p - (i + 1))
                case measure => omega
                case rel => exact ⟨i + 1, wz.heap.size, by omega, rfl, rfl, hid (by rw [flatW_orb, HST.out]; exact (own_set (own_set (own_set (own_set (by simpa [vals, wnum] using HC9.out) (fun q hq => by have := own_blk hq; have := HLz.out; simp; omega) _) (fun q hq => by have := own_blk hq; have := HLz.out; simp; omega) _) (fun q hq => by have := own_blk hq; have := HLz.out; simp; omega) _) (fun q hq => by have := own_blk hq; have := HLz.out; simp; omega) _)), hid (own_set (own_set (own_set (own_set HO9.out (fun q hq => by have := own_blk hq; simp; omega) _) (fun q hq => by have := own_blk hq; simp; omega) _) (fun q hq => by have := own_blk hq; simp; omega) _) (fun q hq => by have := own_blk hq; simp; omega) _), hid (Nest.setFar (Nest.setFar (Nest.setFar (Nest.setFar NE9.out (by simp; omega) (fun q hq => (HVo.out q hq).2) _) (by simp; omega) (fun q hq => (HVo.out q hq).2) _) (by simp; omega) (fun q hq => (HVo.out q hq).2) _) (by simp; omega) (fun q hq => (HVo.out q hq).2) _), hid (by simp only [itW, HST.out, stepW]; exact Box.put4 KB9.out), hid (Box.set (Box.set (Box.set (Box.set KP9.out (by simp <;> omega) _) (by simp <;> omega) _) (by simp <;> omega) _) (by simp <;> omega) _), hid (Below.setCell (Below.setCell (Below.setCell (Below.setCell HB9.out (by simp; omega) _) (by simp; omega) _) (by simp; omega) _) (by simp; omega) _), hid ⟨fun q hq => by have := own_blk hq; have := HLz.out; omega, by omega⟩⟩
              · obtain rfl : i = p := by omega
                have HCl : Hid ((putAll ow (segsI W H zs s0 i) cs.length)[sn]? = some (cs.length : Int)) := hid (by rw [← HSG.out, HPP.out]; exact owner_end HV.out HOK.out HI.out.len _)
                go_wp2_with fail
                refine (calls_int (segment_any W H x y u v _ _ _ _ Hs.out.1 Hs.out.2 HW'.out) HSN.out).mono ?_
                rintro e w6 ⟨rfl, hb6⟩
                clear Pa Pb Pc Pz Ka Kb Kc Kd Kz
                have z6 := hb6.size
                have z60 : wo.heap.size ≤ wr.heap.size := by have := KB.out.lt; omega
                have KP6 := hid (Box.keep (KP.out) hb6)
                have HC6 := hid (own_keep (HC.out) hb6)
                have HO6 := hid (own_keep (HO.out) hb6)
                have NE6 := hid (Nest.keep (NE.out) hb6)
                have HB6 := hid (bstep (HB.out) hb6)
                clear hb6
                have hc6 : w6.cell? ⟨w1.heap.size, sn, none⟩ = some (.int .i64 cs.length) := (World.ownsRow.cellAt HO6.out sn (by omega)).trans (by simp [vals, HCl.out])
                have hneg : ¬ ((cs.length : Int) < 0) := by omega
                rcases Go.Joins.ownsRow_forms HC6.out with ⟨rfl, hn0⟩ | ⟨gb, cap, rfl⟩
                · exfalso; omega
                have NEx := hid (NE6.out.alloc (.cells #[.slice (some ⟨gb, 0, none⟩) i cap] 48))
                obtain ⟨vs, hO, hI, hD⟩ := NEx.out
                rw [curZ_length] at hO
                have HNP := hid (And.intro hO (And.intro hI hD))
                clear hO hI hD
                go_wp2_with (at_builtin; (refine wpList_append_own _ rfl _ _ 88 rfl (w.heap.size + 1) 48 m0 (.slice none 0 0) 1 24 Try.underlying88 hm mz0 mz1 mz2 rfl (by decide) _ cs.length vs rfl HNP.out.1 ⟨w6.heap.size, 0, none⟩ 1 1 [.slice (some ⟨gb, 0, none⟩) i cap] rfl rfl (World.news_of_block (cs := #[.slice (some ⟨gb, 0, none⟩) i cap]) (t := 48) (fr := (0, 0)) (heap_alloc_new w6 _)) (by simp [Value.oneCell']) (by unfold maxLen; omega) (by omega) (by simp; omega) ?_; intro v' wz ho2 hgr _))
                have HH := hid (And.intro ho2 hgr)
                clear ho2 hgr
                go_roundg (n - (k + 1))
                case measure => omega
                case rel => exact ⟨k + 1, by omega, by go_num, rfl, by rw [HE.out, curZ_snoc]; exact hid (by rw [show curS W H zs s0 = orbL W H zs s0 i by rw [HPP.out]; rfl]; exact Nest.snoc (by rw [curZ_length]; exact HNP.out.1) HNP.out.2.1 HNP.out.2.2 (HC6.out.alloc _) (Nat.le_refl _) (by omega) (by rw [curZ_length]; exact HH.out.1) HH.out.2 (by decide) _ rfl), by rw [HE.out]; exact hid ((HO6.out.alloc _).kept HH.out.2 (own_ne (HO6.out.alloc _) HNP.out.1 (by decide))), hid (Box.grew (Box.alloc KP6.out _) HH.out.2 (fun q hq => by have := (HVo.out q hq).1; omega)), hid (bgrew (lo := w.heap.size + 1) (bal HB6.out _) HH.out.2 (fun q hq => (HVo.out q hq).1) (by omega))⟩
        · obtain rfl : k = n := by omega
          subst hcs how
          go_wp2_with fail
          go_ret2
          exact ⟨⟨A4, c4, _, _, rfl, NE.out.from' (by omega), Go.Joins.ownsRow_le HO.out (by omega)⟩, HBr.out⟩
end Go.Proofs.Ytbgigompkmnapaa

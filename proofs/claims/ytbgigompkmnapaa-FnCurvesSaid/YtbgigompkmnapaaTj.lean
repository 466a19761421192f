/- All curves of a panel, traced: the reference's l04Trace, l04All. -/
import Derived.Test.YtbgigompkmnapaaTi
import Derived.Test.YtbgigompkmnapaaPx
import Derived.Test.YtbgigompkmnapaaSs
import Derived.Test.YtbgigompkmnapaaNs
import Derived.Test.YtbgigompkmnapaaSt
import Derived.Test.YtbgigompkmnapaaSf
import Derived.OwnWalk
import Derived.Lib.SmallJoins
import Derived.Deep.AppendLies
namespace Go.Proofs.Ytbgigompkmnapaa
set_option linter.unusedSimpArgs false
set_option linter.unusedVariables false
open Go.ChangeShapes Go.WideShapes Go.ChangeAt Go.RowKit
theorem own_box {w : World} {lo s n b : Nat} {T T' : TypeId} {v : Value} {cs : List Value} {ds : Array Value} (h : w.ownsRow lo T s v n cs) (hb : Box w b T' ds) (hT : T ≠ T') : ∀ q, v.ownBlock = some q → b ≠ q := by
  intro q hq e
  subst e
  obtain ⟨c, f, h1⟩ := Go.Lib.ownsRow_kind h b hq
  unfold Box at hb
  rw [h1] at hb
  injection hb with hb
  injection hb with _ hb _
  exact hT hb
set_option maxRecDepth 100000 in
set_option maxHeartbeats 8000000 in
theorem l04Trace_any (pb : Nat) (W H : Int) (A : Option Addr) (c : Nat) (zs : List Int) (x0 y0 u0 v0 : Int) (w : World) (B : Nat) (hB : B ≤ w.heap.size) (hpp : PanP w pb W H (.slice A zs.length c)) (hz : Ints w B A zs) (hl : zs.length ≤ maxLen) (hv : validB W H zs = true) (h : okS W H (x0, y0, u0, v0)) :
    Calls Try.prog 110 #[.pointer (some ⟨pb, 0, none⟩), .agg #[.int .i64 x0, .int .i64 y0, .int .i64 u0, .int .i64 v0]] w fun e w' => (∃ A1 c1 A2 c2, e = .returned (.tuple #[.slice A1 (per W H zs (x0, y0, u0, v0)) c1, .slice A2 (per W H zs (x0, y0, u0, v0)) c2]) ∧ w'.ownsRow w.heap.size 32 2 (.slice A1 (per W H zs (x0, y0, u0, v0)) c1) (per W H zs (x0, y0, u0, v0)) (vals (flatP (orbL W H zs (x0, y0, u0, v0) (per W H zs (x0, y0, u0, v0))))) ∧ w'.ownsRow w.heap.size 2 1 (.slice A2 (per W H zs (x0, y0, u0, v0)) c2) (per W H zs (x0, y0, u0, v0)) (vals (segV (segsI W H zs (x0, y0, u0, v0) (per W H zs (x0, y0, u0, v0)))))) ∧ Below w.heap.size w w' := by
  obtain ⟨i0, hi, hz0, hz1, hz2⟩ := info_parts infoI
  obtain ⟨j0, hj, jz0, jz1, jz2⟩ := info_parts infoPt
  obtain ⟨s0, hs0⟩ : ∃ s : Wkr, s = (x0, y0, u0, v0) := ⟨_, rfl⟩
  rw [← hs0] at h
  rw [← hs0]
  obtain ⟨p, hp⟩ : ∃ p, p = per W H zs s0 := ⟨_, rfl⟩
  rw [← hp]
  have HP := hid (per_spec hv h)
  rw [← hp] at HP
  have hp1 : 1 ≤ p := HP.out.1
  have hp2 : p ≤ 256 := HP.out.2.1
  have Hs := hid (valid_sides hv)
  have HV := hid hv
  have HOK := hid h
  have HS0 := hid hs0
  have HPP := hid hp
  have HX := hid hpp
  have hpl := PanP.lt hpp
  clear hv h hs0 hp hpp
  have ho1 := World.ownsRow_lit (base := w.heap.size + 1) (e := 32) (size := 2) (w.alloc (.cells #[.int .i64 x0, .int .i64 y0, .int .i64 u0, .int .i64 v0] 52)) #[] 0 (by simp) (Nat.zero_le _) rfl
  have ho2 := World.ownsRow_lit (base := w.heap.size + 1) (e := 2) (size := 1) ((w.alloc (.cells #[.int .i64 x0, .int .i64 y0, .int .i64 u0, .int .i64 v0] 52)).alloc (.cells #[] 32)) #[] 0 (by simp) (Nat.zero_le _) rfl
  simp only [World.size_alloc] at ho1 ho2
  have HC0 := hid ho1
  have HE0 := hid ho2
  clear ho1 ho2
  go_enter Try.func110, Try.ntmps110
  go_wp2_with fail
  go_loopg [6, 7, 8] p (fun g cv ev pv wr => ∃ i bb : Nat, i ≤ p ∧ pv = .pointer (some ⟨bb, 0, none⟩) ∧ g = p - i ∧ Hid (wr.ownsRow (w.heap.size + 1) 32 2 cv i (vals (flatP (orbL W H zs s0 i)))) ∧ Hid (wr.ownsRow (w.heap.size + 1) 2 1 ev i (vals (segV (segsI W H zs s0 i)))) ∧ Hid (Box wr bb 52 #[.int .i64 (itW W H zs i s0).1, .int .i64 (itW W H zs i s0).2.1, .int .i64 (itW W H zs i s0).2.2.1, .int .i64 (itW W H zs i s0).2.2.2]) ∧ Hid (Box wr w.heap.size 52 #[.int .i64 x0, .int .i64 y0, .int .i64 u0, .int .i64 v0]) ∧ Hid (Below w.heap.size w wr) ∧ w.heap.size < bb)
  case atStart => exact ⟨0, w.heap.size + 3, Nat.zero_le _, rfl, rfl, hid ((HC0.out.alloc _).alloc _), hid (HE0.out.alloc _), hid (by rw [show itW W H zs 0 s0 = (x0, y0, u0, v0) from HS0.out]; exact Box.new' _ _ _ _ (by simp)), hid (Box.alloc (Box.alloc (Box.alloc (Box.new' _ _ _ _ (by simp)) _) _) _), hid (bal (bal (bal (bal (Below.refl _ _) _) _) _) _), by omega⟩
  case round =>
    clear HC0 HE0
    obtain ⟨i, bb, hip, rfl, hg3, HC, HE, KB, KX, HB, hbb⟩ := hrel
    have HWk := hid (okS_it HV.out HOK.out i)
    obtain ⟨x, y, u, v, hst⟩ : ∃ x y u v, itW W H zs i s0 = (x, y, u, v) := ⟨_, _, _, _, rfl⟩
    have HST := hid hst
    rw [hst] at KB HWk
    dsimp only at KB HWk
    clear hst
    have HW' : Hid (walkB W H x y u v = true) := hid HWk.out
    obtain ⟨sn, hsn⟩ : ∃ sn : Nat, sgF H x y u v = sn := ⟨(sgF H x y u v).toNat, by have := sgF_bd Hs.out.1 Hs.out.2 HW'.out; omega⟩
    have HSG : Hid (segN H (itW W H zs i s0) = sn) := hid (by rw [HST.out]; show (sgF H x y u v).toNat = sn; rw [hsn]; exact Int.toNat_natCast sn)
    have HSN := hid hsn
    clear hsn
    have KP := hid (Box.below HX.out HB.out hpl)
    obtain ⟨Pa, Pb, Pc⟩ := (Box.three KP.out)
    have Pz := Box.lt KP.out
    obtain ⟨Ka, Kb, Kc, Kd⟩ := KB.out.four
    have Kz := KB.out.lt
    obtain ⟨Xa, Xb, Xc, Xd⟩ := KX.out.four
    have Xz := KX.out.lt
    have bsz := HB.out.size
    obtain ⟨A6, c6, rfl⟩ := own_form HC.out
    have HCU := hid HC.out.lt
    have HEU := hid HE.out.lt
    by_cases hlp : i < p
    · have hcd : (((i : Int) == 0) = true) ∨ (((i : Int) == 0) = false ∧ ¬ x = x0) ∨ (((i : Int) == 0) = false ∧ x = x0 ∧ ¬ y = y0) ∨ (((i : Int) == 0) = false ∧ x = x0 ∧ y = y0 ∧ ¬ u = u0) ∨ (((i : Int) == 0) = false ∧ x = x0 ∧ y = y0 ∧ u = u0 ∧ ¬ v = v0) := by
        rcases Nat.eq_zero_or_pos i with h | h
        · exact .inl (by simp [h])
        · right
          have h1 : (x, y, u, v) ≠ (x0, y0, u0, v0) := by rw [← HST.out, ← HS0.out]; exact HP.out.2.2.2 i h hlp
          have h2 : ((i : Int) == 0) = false := by simp; omega
          simp only [ne_eq, Prod.mk.injEq] at h1
          simp only [h2, true_and]
          omega
      rcases hcd with hni | ⟨hni, hne⟩ | ⟨hni, rfl, hne⟩ | ⟨hni, rfl, rfl, hne⟩ | ⟨hni, rfl, rfl, rfl, hne⟩
      all_goals
        go_wp2_with (at_builtin; (refine wpList_append_lies _ rfl _ _ 79 rfl (w.heap.size + 1) 32 j0 (.agg #[.int .i64 0, .int .i64 0]) 2 16 Try.underlying79 hj jz0 jz1 jz2 rfl (by decide) _ i (vals (flatP (orbL W H zs s0 i))) rfl (HC.out.alloc _) ⟨wr.heap.size, 0, none⟩ 1 1 [.int .i64 x, .int .i64 y] rfl rfl (World.news_of_block (heap_alloc_new wr (.cells #[.int .i64 x, .int .i64 y] 32))) (by simp [Value.oneCell']) (by decide) (by unfold maxLen; omega) (by omega) (by simp; omega) (wr.heap.size + 1) (by simp) ?_; intro gg cap wz ho2 hgr2 hat hlt2; have KBz := hid (Box.grew (Box.alloc KB.out (.cells #[.int .i64 x, .int .i64 y] 32)) hgr2 (fun q hq => own_box HC.out KB.out (by decide) q hq)); have KXz := hid (Box.grew (Box.alloc KX.out (.cells #[.int .i64 x, .int .i64 y] 32)) hgr2 (fun q hq => own_box HC.out KX.out (by decide) q hq)); have HEz := hid ((HE.out.alloc (.cells #[.int .i64 x, .int .i64 y] 32)).kept hgr2 (own_ne (HE.out.alloc (.cells #[.int .i64 x, .int .i64 y] 32)) (HC.out.alloc (.cells #[.int .i64 x, .int .i64 y] 32)) (by decide))); have HBz := hid (bgrew (lo := w.heap.size + 1) (bal HB.out (.cells #[.int .i64 x, .int .i64 y] 32)) hgr2 (fun q hq => (HCU.out q hq).1) (by omega)); have HCz := hid ho2; have KPz := hid (Box.below HX.out HBz.out hpl); clear ho2 hgr2 hat hlt2 Pa Pb Pc Pz Ka Kb Kc Kd Kz Xa Xb Xc Xd Xz; obtain ⟨Pa, Pb, Pc⟩ := (Box.three KPz.out); have Pz := Box.lt KPz.out; obtain ⟨Ka, Kb, Kc, Kd⟩ := KBz.out.four; have Kz := KBz.out.lt; have wzs := HBz.out.size))
        refine (calls_int (l03Segment_any _ W H x y u v _ _ KPz.out Hs.out.1 Hs.out.2 HW'.out) HSN.out).mono ?_
        rintro e w7 ⟨rfl, hb7⟩
        clear Pa Pb Pc Pz Ka Kb Kc Kd Kz
        have z7 := hb7.size
        have KB7 := hid (Box.keep (KBz.out) hb7)
        have KX7 := hid (Box.keep (KXz.out) hb7)
        have HC7 := hid (own_keep (HCz.out) hb7)
        have HE7 := hid (own_keep (HEz.out) hb7)
        have HB7 := hid (bstep (HBz.out) hb7)
        clear hb7
        go_wp2_with (at_builtin; (refine wpList_append_lies _ rfl _ _ 22 rfl (w.heap.size + 1) 2 i0 (.int .i64 0) 1 8 Try.underlying22 hi hz0 hz1 hz2 rfl (by decide) _ i (vals (segV (segsI W H zs s0 i))) rfl (HE7.out.alloc _) ⟨w7.heap.size, 0, none⟩ 1 1 [.int .i64 sn] rfl rfl (World.news_of_block (heap_alloc_new w7 (.cells #[.int .i64 sn] 2))) (by simp [Value.oneCell']) (by decide) (by unfold maxLen; omega) (by omega) (by simp; omega) (w7.heap.size + 1) (by simp) ?_; intro ge cap' wy ho2 hgr2 hat hlt2; have KBy := hid (Box.grew (Box.alloc KB7.out (.cells #[.int .i64 sn] 2)) hgr2 (fun q hq => own_box HE7.out KB7.out (by decide) q hq)); have KXy := hid (Box.grew (Box.alloc KX7.out (.cells #[.int .i64 sn] 2)) hgr2 (fun q hq => own_box HE7.out KX7.out (by decide) q hq)); have HCy := hid ((HC7.out.alloc (.cells #[.int .i64 sn] 2)).kept hgr2 (own_ne (HC7.out.alloc (.cells #[.int .i64 sn] 2)) (HE7.out.alloc (.cells #[.int .i64 sn] 2)) (by decide))); have HBy := hid (bgrew (lo := w.heap.size + 1) (bal HB7.out (.cells #[.int .i64 sn] 2)) hgr2 (fun q hq => (HE7.out.lt q hq).1) (by omega)); have HEy := hid ho2; have KPy := hid (Box.below HX.out HBy.out hpl); clear ho2 hgr2 hat hlt2; obtain ⟨Pa, Pb, Pc⟩ := (Box.three KPy.out); have Pz := Box.lt KPy.out; obtain ⟨Ka, Kb, Kc, Kd⟩ := KBy.out.four; have Kz := KBy.out.lt; have wys := HBy.out.size))
        refine (l03Step_any _ W H A c zs x y u v _ B (Nat.le_trans hB (bal HBy.out _).size) (Box.alloc KPy.out _) (hz.below (Below.mono (bal HBy.out _) hB)) hl HV.out HW'.out).mono ?_
        rintro e w9 ⟨rfl, hb9⟩
        clear Pa Pb Pc Pz Ka Kb Kc Kd Kz
        have HCL := hid HCy.out.lt
        have HEL := hid HEy.out.lt
        have KB9 := hid (Box.keep (Box.new wy _ _) hb9)
        have KX9 := hid (Box.keep (Box.alloc (KXy.out) _) hb9)
        have HC9 := hid (own_keep (World.ownsRow.alloc (HCy.out) _) hb9)
        have HE9 := hid (own_keep (World.ownsRow.alloc (HEy.out) _) hb9)
        have HB9 := hid (bstep (bal (HBy.out) _) hb9)
        clear hb9
        have Kf := KB9.out.free
        obtain ⟨Ka, Kb, Kc, Kd⟩ := KB9.out.four
        have Kz := KB9.out.lt
        have kxl := KXy.out.lt
        go_wp2_with fail
        go_roundg (p - (i + 1))
        case measure => omega
        case rel => exact ⟨i + 1, wy.heap.size, by omega, rfl, rfl, hid (by rw [flatP_orb, HST.out]; exact (own_set (own_set (own_set (own_set (by simpa [vals, pnum] using HC9.out) (fun q hq => by have := HCL.out q hq; simp; omega) _) (fun q hq => by have := HCL.out q hq; simp; omega) _) (fun q hq => by have := HCL.out q hq; simp; omega) _) (fun q hq => by have := HCL.out q hq; simp; omega) _)), hid (by rw [segV_succ, HSG.out]; exact (own_set (own_set (own_set (own_set (by simpa [vals] using HE9.out) (fun q hq => by have := HEL.out q hq; simp; omega) _) (fun q hq => by have := HEL.out q hq; simp; omega) _) (fun q hq => by have := HEL.out q hq; simp; omega) _) (fun q hq => by have := HEL.out q hq; simp; omega) _)), hid (by simp only [itW, HST.out, stepW]; exact Box.put4 KB9.out), hid (Box.set (Box.set (Box.set (Box.set KX9.out (by simp <;> omega) _) (by simp <;> omega) _) (by simp <;> omega) _) (by simp <;> omega) _), hid (Below.setCell (Below.setCell (Below.setCell (Below.setCell HB9.out (by simp; omega) _) (by simp; omega) _) (by simp; omega) _) (by simp; omega) _), by omega⟩
    · obtain rfl : i = p := by omega
      have heq : Hid ((x, y, u, v) = (x0, y0, u0, v0)) := hid (by rw [← HST.out, ← HS0.out]; exact HP.out.2.2.1)
      have e1 := heq.out
      simp only [Prod.mk.injEq] at e1
      obtain ⟨rfl, rfl, rfl, rfl⟩ := e1
      clear heq
      have hni : ((i : Int) == 0) = false := by simp; omega
      rcases Go.Joins.ownsRow_forms HE.out with ⟨rfl, hn0⟩ | ⟨gb, cap, rfl⟩
      · exfalso; omega
      go_wp2_with fail
      go_ret2
      exact ⟨⟨_, _, _, _, rfl, Go.Joins.ownsRow_le HC.out (by omega), Go.Joins.ownsRow_le HE.out (by omega)⟩, HB.out⟩
theorem infoSQk : (Try.prog.info? 79).map (fun i => (i.zero, i.size, i.bytes)) = some (some (.slice none 0 0), 1, 24) := by kernel_rfl
set_option maxRecDepth 100000 in
set_option maxHeartbeats 8000000 in
theorem l04All_any (pb : Nat) (W H : Int) (A : Option Addr) (c : Nat) (zs : List Int) (w : World) (B : Nat) (hB : B ≤ w.heap.size) (hpp : PanP w pb W H (.slice A zs.length c)) (hz : Ints w B A zs) (hl : zs.length ≤ maxLen) (hv : validB W H zs = true) :
    Calls Try.prog 62 #[.pointer (some ⟨pb, 0, none⟩)] w fun e w' => (∃ A1 c1 A2 c2, e = .returned (.tuple #[.slice A1 (trS W H zs (4 * W * H).toNat).1.length c1, .slice A2 (4 * W * H).toNat c2]) ∧ Nest w' w.heap.size w'.heap.size 79 32 2 (.slice A1 (trS W H zs (4 * W * H).toNat).1.length c1) (curP (trS W H zs (4 * W * H).toNat).1) ∧ w'.ownsRow w.heap.size 2 1 (.slice A2 (4 * W * H).toNat c2) (4 * W * H).toNat (vals (trS W H zs (4 * W * H).toNat).2)) ∧ Below w.heap.size w w' := by
  obtain ⟨n, hn⟩ : ∃ n : Nat, 4 * W * H = n := ⟨(4 * W * H).toNat, by have := segs_bd (valid_sides hv).1 (valid_sides hv).2; omega⟩
  have hN : (4 * W * H).toNat = n := by omega
  have HT : Hid (∀ k, k ≤ n → TInv W H zs k (trS W H zs k).1 (trS W H zs k).2) := hid (fun k hk => trS_inv hv k (by omega))
  have HT0 : Hid ((trS W H zs 0).1 = [] ∧ (trS W H zs 0).2 = List.replicate n (-1)) := hid (by rw [← hN]; exact ⟨rfl, rfl⟩)
  rw [hN]
  have Hs := hid (valid_sides hv)
  obtain ⟨s1, s2⟩ := segs_bd Hs.out.1 Hs.out.2
  rw [hn] at s1 s2
  obtain ⟨s3, s4⟩ := side_bd Hs.out.1
  have t1 : IntKind.i64.wrap (4 * W) = 4 * W := IntWalk.i64_in _ (by omega)
  have t2 : IntKind.i64.wrap (4 * W * H) = n := by rw [hn]; exact IntWalk.i64_in _ (by omega)
  have HV := hid hv
  have HNN := hid hN
  have HN := hid hn
  have HX := hid hpp
  have hpl := PanP.lt hpp
  obtain ⟨Pa, Pb, Pc⟩ := (Box.three hpp)
  clear hv hn hN hpp
  obtain ⟨i0, hi, hz0, hz1, hz2⟩ := info_parts infoI
  obtain ⟨m0, hm, mz0, mz1, mz2⟩ := info_parts infoSQk
  have hnn : ¬ ((n : Int) < 0) := by omega
  go_enter Try.func62, Try.ntmps62
  go_wp2_with fail
  go_quiet (fail)
  obtain ⟨w1, hw1⟩ : ∃ z : World, z = w.drewN nq := ⟨_, rfl⟩
  rw [← hw1]
  have HB1 : Hid (Below w.heap.size w w1) := hid (hw1 ▸ below_drewN (Below.refl _ _) nq)
  have z1 : w.heap.size ≤ w1.heap.size := HB1.out.size
  clear hw1 Pa Pb Pc t1 t2
  go_wp2_with (at_make; refine wpList_make_full _ rfl _ _ _ rfl w.heap.size 2 i0 (.int .i64 0) 1 Try.underlying22 hi hz0 hz1 _ _ _ _ n rfl rfl rfl rfl (by rw [hz2]; omega) (by unfold maxLen; omega) (by omega) ?_; intro w2 hown hgr)
  have e0 := fillI_zero (List.replicate n (-1))
  rw [List.length_replicate] at e0
  rw [e0] at hown
  have hb2 : Below w1.heap.size w1 w2 := (Below.refl _ _).grown hgr (Nat.le_refl _) (by simp)
  have HB2 := hid (bstep HB1.out hb2)
  have HO2 := hid hown
  have z2 := hb2.size
  clear hb2 hown hgr e0
  go_loopg [6] n (fun g i wr => ∃ k : Nat, k ≤ n ∧ i = .int .i64 k ∧ g = n - k ∧ Hid (wr.ownsRow w.heap.size 2 1 (.slice (some ⟨w1.heap.size, 0, none⟩) n n) n (fillI (List.replicate n (-1)) k)) ∧ Hid (w2.grownBy wr (some w1.heap.size)))
  case atStart => exact ⟨0, Nat.zero_le _, rfl, rfl, HO2, hid ⟨rfl, rfl, rfl, Nat.le_refl _, fun _ _ _ => rfl⟩⟩
  case round =>
    obtain ⟨k, hk, rfl, hg, HO, HG⟩ := hrel
    by_cases hlt : k < n
    · obtain ⟨u, hu⟩ : ∃ u, (fillI (List.replicate n (-1)) k)[k]? = some u := ⟨_, List.getElem?_eq_getElem (by rw [HO.out.1]; omega)⟩
      have hc2 : wr.cell? ⟨w1.heap.size, k, none⟩ = some u := (World.ownsRow.cellAt HO.out k (by omega)).trans hu
      have hf2 := World.ownsRow.frozenAt HO.out k
      have hst := World.ownsRow.stored HO.out k (.int .i64 (-1))
      rw [fillI_set _ k (-1) (by simp [hlt])] at hst
      have HST := hid hst
      clear hu hst
      go_wp2_with fail
      go_roundg (n - (k + 1))
      case measure => omega
      case rel => exact ⟨k + 1, by omega, by go_num, rfl, hid HST.out.1, hid (grown_trans' HG.out HST.out.2)⟩
    · have hkn : k = n := by omega
      subst hkn
      obtain ⟨w3, rfl⟩ : ∃ z, z = wr := ⟨_, rfl⟩
      have HO3 : Hid (w3.ownsRow w.heap.size 2 1 (.slice (some ⟨w1.heap.size, 0, none⟩) k k) k (vals (List.replicate k (-1)))) := hid (by have e := fillI_full (List.replicate k (-1)); rw [List.length_replicate] at e; rw [← e]; exact HO.out)
      have HB3 := hid (bgrew (lo := w.heap.size) HB2.out HG.out (fun q hq => by injection hq with hq; omega) (Nat.le_refl _))
      have z3 := HG.out.size
      obtain ⟨n, rfl⟩ : ∃ z, z = k := ⟨_, rfl⟩
      clear HO HG
      have ho3 := World.ownsRow_lit (base := w.heap.size) (e := 79) (size := 1) w3 #[] 0 (by omega) (Nat.zero_le _) rfl
      have NE3 := hid (Nest.nil (TI := 32) (s := 2) ho3 w3.heap.size)
      clear ho3
      go_wp2_with fail
      go_loopg [7, 8] n (fun g v i wr => ∃ k : Nat, k ≤ n ∧ i = .int .i64 k ∧ g = n - k ∧ Hid (Nest wr w.heap.size wr.heap.size 79 32 2 v (curP (trS W H zs k).1)) ∧ Hid (wr.ownsRow w.heap.size 2 1 (.slice (some ⟨w1.heap.size, 0, none⟩) n n) n (vals (trS W H zs k).2)) ∧ Hid (Below w.heap.size w wr))
      case atStart => exact ⟨0, Nat.zero_le _, rfl, rfl, by rw [HT0.out.1]; exact hid (Nest.more NE3.out (by simp)), by rw [HT0.out.2]; exact hid (HO3.out.alloc _), hid (bal HB3.out _)⟩
      case round =>
        clear HB1 HB2 HO2 HB3 HO3 NE3 HT0
        obtain ⟨k, hk, rfl, hg2, NE, HO, HBr⟩ := hrel
        obtain ⟨wo, rfl⟩ : ∃ z, z = wr := ⟨_, rfl⟩
        have HI := hid (HT.out k hk)
        obtain ⟨cs, hcs⟩ : ∃ cs, cs = (trS W H zs k).1 := ⟨_, rfl⟩
        obtain ⟨ow, how⟩ : ∃ o, o = (trS W H zs k).2 := ⟨_, rfl⟩
        rw [← hcs] at NE HI
        rw [← how] at HO HI
        obtain ⟨vs0, hvs0⟩ := NE.out.outer
        rw [curP_length] at hvs0
        obtain ⟨A4, c4, rfl⟩ := own_form hvs0
        clear hvs0
        have HVo := hid NE.out.lt
        have hob : w1.heap.size < wo.heap.size := (HO.out.lt _ rfl).2
        have hcl : cs.length ≤ 256 := by have := HI.out.few; omega
        by_cases hlt : k < n
        · have hkl : k < ow.length := by rw [HI.out.len, HNN.out]; exact hlt
          obtain ⟨y, hy⟩ : ∃ y, ow[k]? = some y := ⟨_, List.getElem?_eq_getElem hkl⟩
          have hyd : ow.getD k 0 = y := by rw [List.getD_eq_getElem?_getD, hy]; rfl
          have hca : wo.cell? ⟨w1.heap.size, k, none⟩ = some (.int .i64 y) := (World.ownsRow.cellAt HO.out k (by omega)).trans (by simp [vals, hy])
          by_cases h0 : 0 ≤ y
          · have HE : Hid (trS W H zs (k + 1) = (cs, ow)) := hid (by rw [trS, ← how, hyd, if_pos h0, hcs, how])
            clear hyd hy hcs how hkl
            go_wp2_with fail
            go_roundg (n - (k + 1))
            case measure => omega
            case rel => exact ⟨k + 1, by omega, by go_num, rfl, by rw [HE.out]; exact NE, by rw [HE.out]; exact HO, HBr⟩
          · have ym : y = -1 := by rcases HI.out.val k 0 y hy with h | h <;> omega
            subst ym
            have HE : Hid (trS W H zs (k + 1) = (cs ++ [curS W H zs (wkS H k)], putAll ow (segsI W H zs (wkS H k) (per W H zs (wkS H k))) cs.length)) := hid (by rw [trS, ← how, hyd, if_neg h0, hcs])
            have HK : Hid ((k : Int) < 4 * W * H) := hid (by rw [HN.out]; omega)
            have HOK := hid (wkS_ok Hs.out.1 Hs.out.2 HK.out)
            have HP := hid (per_spec HV.out HOK.out)
            have HS4 := hid (show okS W H (wkX H k, wkY H k, 1, wkD H k) from HOK.out)
            obtain ⟨s0, hs0⟩ : ∃ s, s = wkS H k := ⟨_, rfl⟩
            rw [← hs0] at HE HOK HP
            have HS0 := hid (show s0 = (wkX H k, wkY H k, 1, wkD H k) from hs0)
            obtain ⟨p, hp⟩ : ∃ p, p = per W H zs s0 := ⟨_, rfl⟩
            have HPP := hid hp
            rw [← hp] at HE HP
            clear hyd hy hcs how hkl h0 hs0 hp
            have hp1 : 1 ≤ p := HP.out.1
            have hp2 : p ≤ 256 := HP.out.2.1
            have KP := hid (Box.below HX.out HBr.out hpl)
            go_wp2_with fail
            refine (l03Walker_any _ W H k _ _ KP.out Hs.out.1 Hs.out.2 (by omega) HK.out).mono ?_
            rintro e w5 ⟨rfl, hb5⟩
            clear hca
            have z5 := hb5.size
            have NE5 := hid (Nest.keep (NE.out) hb5)
            have HO5 := hid (own_keep (HO.out) hb5)
            have HB5 := hid (bstep (HBr.out) hb5)
            clear hb5
            have KP5 := Box.below HX.out HB5.out hpl
            have hl4 := l04Trace_any pb W H A c zs (wkX H k) (wkY H k) 1 (wkD H k) w5 B (Nat.le_trans hB HB5.out.size) KP5 (hz.below (Below.mono HB5.out hB)) hl HV.out HS4.out
            rw [← HS0.out, ← HPP.out] at hl4
            have HL4 := hid hl4
            clear hl4 KP5
            go_wp2_with fail
            refine HL4.out.mono ?_
            rintro e w6 ⟨⟨A9, c9, A10, c10, rfl, hr9, hr10⟩, hb6⟩
            have z6 := hb6.size
            clear HL4
            have HC6 := hid hr9
            have HS6 := hid hr10
            obtain ⟨gs, caps, he⟩ := Go.Joins.ownsRow_form hr10 hp1
            simp only [Value.slice.injEq] at he
            obtain ⟨rfl, -, rfl⟩ := he
            obtain ⟨g9, cap9, he⟩ := Go.Joins.ownsRow_form hr9 hp1
            simp only [Value.slice.injEq] at he
            obtain ⟨rfl, -, rfl⟩ := he
            clear hr9 hr10
            have NE6 := hid (Nest.keep (NE5.out) hb6)
            have HO6 := hid (own_keep (HO5.out) hb6)
            have HB6 := hid (bstep (HB5.out) hb6)
            clear hb6
            go_wp2_with fail
            go_loopg [11] p (fun g i wr => ∃ j : Nat, j ≤ p ∧ i = .int .i64 j ∧ g = p - j ∧ Hid (wr.ownsRow w.heap.size 2 1 (.slice (some ⟨w1.heap.size, 0, none⟩) n n) n (vals (putAll ow (segsI W H zs s0 j) cs.length))) ∧ Hid (w6.grownBy wr (some w1.heap.size)))
            case atStart => exact ⟨0, Nat.zero_le _, rfl, rfl, HO6, hid ⟨rfl, rfl, rfl, Nat.le_refl _, fun _ _ _ => rfl⟩⟩
            case round =>
              obtain ⟨j, hj, rfl, hg3, HOj, HG⟩ := hrel
              by_cases hlj : j < p
              · have HSj := hid (HS6.out.kept HG.out (.inr (fun e => by have h1 := (HS6.out.lt w1.heap.size e).1; omega)))
                obtain ⟨sn, hsn⟩ : ∃ sn, sn = segN H (itW W H zs j s0) := ⟨_, rfl⟩
                have hsl : sn < n := by have h := segN_lt HV.out (okS_it HV.out HOK.out j); rw [HNN.out, ← hsn] at h; exact h
                have hcs : wr.cell? ⟨gs, j, none⟩ = some (.int .i64 sn) := (World.ownsRow.cellAt HSj.out j (by omega)).trans (by simp [vals, segV, segsI, hlj, hsn])
                obtain ⟨u, hu⟩ : ∃ u, (vals (putAll ow (segsI W H zs s0 j) cs.length))[sn]? = some u := ⟨_, List.getElem?_eq_getElem (by rw [HOj.out.1]; omega)⟩
                have hc2 : wr.cell? ⟨w1.heap.size, sn, none⟩ = some u := (World.ownsRow.cellAt HOj.out sn (by omega)).trans hu
                have hf2 := World.ownsRow.frozenAt HOj.out sn
                have hst := World.ownsRow.stored HOj.out sn (.int .i64 cs.length)
                rw [show (vals (putAll ow (segsI W H zs s0 j) cs.length)).set sn (.int .i64 cs.length) = vals (putAll ow (segsI W H zs s0 (j + 1)) cs.length) by rw [segsI_succ, putAll_snoc, ← hsn]; simp [vals]] at hst
                have HST := hid hst
                clear hu hst hsn
                go_wp2_with fail
                go_roundg (p - (j + 1))
                case measure => omega
                case rel => exact ⟨j + 1, by omega, by go_num, rfl, hid HST.out.1, hid (grown_trans' HG.out HST.out.2)⟩
              · obtain rfl : j = p := by omega
                obtain ⟨w7, rfl⟩ : ∃ z, z = wr := ⟨_, rfl⟩
                have z7 := HG.out.size
                have HC7 := hid (HC6.out.kept HG.out (own_ne HC6.out HO6.out (by decide)))
                have NE7 := hid (NE6.out.other HO6.out HG.out (by decide) (by decide))
                have HB7 := hid (bgrew (lo := w.heap.size) HB6.out HG.out (fun q hq => by injection hq with hq; omega) (Nat.le_refl _))
                clear HG HO6 HC6 NE6 HB6 HS6
                have NEx := hid (NE7.out.alloc (.cells #[.slice (some ⟨g9, 0, none⟩) j c9] 79))
                obtain ⟨vs, hO, hI, hD⟩ := NEx.out
                rw [curP_length] at hO
                have HNP := hid (And.intro hO (And.intro hI hD))
                clear hO hI hD
                go_wp2_with (at_builtin; (refine wpList_append_own _ rfl _ _ 72 rfl w.heap.size 79 m0 (.slice none 0 0) 1 24 Try.underlying72 hm mz0 mz1 mz2 rfl (by decide) _ cs.length vs rfl HNP.out.1 ⟨w7.heap.size, 0, none⟩ 1 1 [.slice (some ⟨g9, 0, none⟩) j c9] rfl rfl (World.news_of_block (cs := #[.slice (some ⟨g9, 0, none⟩) j c9]) (t := 79) (fr := (0, 0)) (heap_alloc_new w7 _)) (by simp [Value.oneCell']) (by unfold maxLen; omega) (by omega) (by simp; omega) ?_; intro v' wz ho2 hgr _))
                have HH := hid (And.intro ho2 hgr)
                clear ho2 hgr
                go_roundg (n - (k + 1))
                case measure => omega
                case rel => exact ⟨k + 1, by omega, by go_num, rfl, by rw [HE.out, curP_snoc]; exact hid (by rw [show curS W H zs s0 = orbL W H zs s0 j by rw [HPP.out]; rfl]; exact Nest.snoc (by rw [curP_length]; exact HNP.out.1) HNP.out.2.1 HNP.out.2.2 (HC7.out.alloc _) (by omega) (by omega) (by rw [curP_length]; exact HH.out.1) HH.out.2 (by decide) _ rfl), by rw [HE.out]; exact hid ((HOj.out.alloc _).kept HH.out.2 (own_ne (HOj.out.alloc _) HNP.out.1 (by decide))), hid (bgrew (lo := w.heap.size) (bal HB7.out _) HH.out.2 (fun q hq => (HVo.out q hq).1) (Nat.le_refl _))⟩
        · obtain rfl : k = n := by omega
          subst hcs how
          go_wp2_with fail
          go_ret2
          exact ⟨⟨A4, c4, _, _, rfl, NE.out, HO.out⟩, HBr.out⟩
end Go.Proofs.Ytbgigompkmnapaa

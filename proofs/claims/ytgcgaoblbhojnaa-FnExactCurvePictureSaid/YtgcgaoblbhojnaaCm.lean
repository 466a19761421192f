/- CurvePicture: the program's contract. -/
import Derived.Test.YtgcgaoblbhojnaaCv
import Derived.Test.YtgcgaoblbhojnaaTo
import Derived.Maps.OwnOps
import Derived.Maps.Views
import Derived.WideKeyEntry
import Derived.BigRegion
import Derived.RegionTactic
namespace Go.Proofs.Ytgcgaoblbhojnaa
set_option linter.unusedSimpArgs false
set_option linter.unusedVariables false
open Go.ChangeShapes Go.WideShapes Go.ChangeAt Go.RowKit
open Go.ChangeMaps Go.MapKept in
/-- 'm[k]++' of a map of the call's own, in whatever order its look-up and its entry come. -/
theorem bump_runs {P : Program} {k e t : TypeId} {q : IntKind} {w : World} {b n : Nat} {D : DataW Unit} (K : Go.WideMaps.KeyLaw P k) (ht : P.underlying t = some (.map k e)) (he : P.underlying e = some (.int q)) (hz : ∀ u : World, (zeroValue e).run P u = .ok (.int q 0) u)
    (h : w.ownsMap P k (plainElem (H := Unit) P e) b n D) (hn : n < maxLen) {key : Value} {kl : Lit} (hkey : keyOf P k key = some kl) :
    ∃ (c : Int) (v0 : Value) (st : Nat) (w1 : World), (Instr.lookup t (.map (some b)) key false).run P w = .ok (.int q c) w ∧ D.atKey kl (.lit (.int q 0)) = .lit (.int q c) ∧
      (Instr.mapEntry t (.map (some b)) key).run P w = .ok (.tuple #[v0, goInt st]) w1 ∧ (Instr.lookup t (.map (some b)) key false).run P w1 = .ok (.int q c) w1 ∧ w.grownBy w1 (some b) ∧
      ∀ c2, (Lit.int q c2).wf = true → ∃ w2, (Instr.entryStore t (.map (some b)) (goInt st) (.int q c2)).run P w1 = .ok () w2 ∧ w2.ownsMap P k (plainElem (H := Unit) P e) b (n + 1) (D.put kl (.lit (.int q c2))) ∧ w.grownBy w2 (some b) := by
  have KK := Go.Maps.Keyed.of_law K
  have hw0 : (Lit.int q 0).wf = true := by cases q <;> decide
  obtain ⟨c, hrun, hat, hwc⟩ := h.lookup_int KK ht he (hz w) hkey
  have h' := h
  obtain ⟨es, clock, hb, F, hs, hD⟩ := h'
  obtain ⟨v0, st, es1, clock1, hE, _, hSt⟩ := Go.WideElems.entry_then_store K ht hz hb F hkey
  have hb1 : (setBlock w b (.map es1 clock1)).heap[b]? = some (.map es1 clock1) := heap_setBlock_same hb _
  have hg1 : w.grownBy (setBlock w b (.map es1 clock1)) (some b) := ⟨rfl, rfl, rfl, by simp [setBlock], fun i _ hi => heap_setBlock_other hb _ (fun e => hi (by rw [e]))⟩
  have hl1 : (Instr.lookup t (.map (some b)) key false).run P (setBlock w b (.map es1 clock1)) = .ok (.int q c) (setBlock w b (.map es1 clock1)) := by
    rcases K.find w hkey es.toList F.keys with ⟨h1, h2⟩ | ⟨j, e0, h1, h2, h3⟩
    · have r1 : (Instr.mapEntry t (.map (some b)) key).run P w = .ok (.tuple #[.int q 0, goInt clock]) (setBlock w b (.map (es.push ⟨key, .int q 0, clock⟩) (clock + 1))) := by
        simp [Instr.mapEntry, run_underlying ht, MapKept.run_getObj_map hb, K.check w false hkey, h1, hz, MapKept.run_setObj_map _ hb, Result.andThen, setBlock]
      have r2 : (Instr.mapUpdate t (.map (some b)) key (.int q 0)).run P w = .ok () (setBlock w b (.map (es.push ⟨key, .int q 0, clock⟩) (clock + 1))) := by
        simp [Instr.mapUpdate, run_underlying ht, MapKept.run_getObj_map hb, K.check w false hkey, h1, MapKept.run_setObj_map _ hb, Result.andThen, setBlock]
      have r0 : (Instr.lookup t (.map (some b)) key false).run P w = .ok (.int q 0) w := by
        simp [Instr.lookup, run_underlying ht, MapKept.run_getObj_map hb, K.check w _ hkey, h1, hz, Result.andThen]
      rw [r0] at hrun
      have hc0 := (Value.int.inj (Result.ok.inj hrun).1).2
      subst hc0
      rw [r1] at hE
      have hEw := (Result.ok.inj hE).2
      obtain ⟨w', r3, o3, g3⟩ := h.update KK ht hn hkey (plainElem_int he hw0)
      rw [r2] at r3
      have r3 := (Result.ok.inj r3).2
      rw [← hEw, r3]
      obtain ⟨c', hrun', hat', _⟩ := o3.lookup_int KK ht he (hz w') hkey
      rw [Go.Maps.atKey_put_same (by rw [hD]; exact ⟨_, rfl⟩) (KK.key hkey)] at hat'
      have hat' := (Lit.int.inj (DataW.lit.inj hat')).2
      rw [hat']
      exact hrun'
    · have hj : es[j]? = some e0 := by simpa using h2
      have hsame : es.modify j (fun e => { e with key := key }) = es := by
        apply Array.ext'
        rw [Array.toList_modify, modify_eq_set _ _ _ _ h2]
        have : ({ e0 with key := key } : MapEntry) = e0 := by rw [← h3]
        rw [this]
        exact Go.WideElems.set_self _ _ _ h2
      have r1 : (Instr.mapEntry t (.map (some b)) key).run P w = .ok (.tuple #[e0.val, goInt e0.born]) (setBlock w b (.map es clock)) := by
        simp [Instr.mapEntry, run_underlying ht, MapKept.run_getObj_map hb, K.check w false hkey, h1, hj, h3, K.stays w hkey, hsame, MapKept.run_setObj_map _ hb, Result.andThen, setBlock]
      rw [r1] at hE
      have hEw := (Result.ok.inj hE).2
      have o3 : (setBlock w b (.map es clock)).ownsMap P k (plainElem (H := Unit) P e) b n D := ⟨es, clock, heap_setBlock_same hb _, F, hs, hD⟩
      obtain ⟨c', hrun', hat', _⟩ := o3.lookup_int KK ht he (hz _) hkey
      rw [hat] at hat'
      have hat' := (Lit.int.inj (DataW.lit.inj hat')).2
      rw [← hEw, hat']
      exact hrun'
  refine ⟨c, v0, st, _, hrun, hat, hE, hl1, hg1, fun c2 hw2 => ?_⟩
  obtain ⟨es', clock', s1, s2⟩ := hSt _ (.int q c2) hb1
  obtain ⟨w', r3, o3, g3⟩ := h.update KK ht hn hkey (plainElem_int he hw2)
  rw [s2] at r3
  have r3 := (Result.ok.inj r3).2
  have e : setBlock (setBlock w b (.map es1 clock1)) b (.map es' clock') = setBlock w b (.map es' clock') := by simp [setBlock]
  rw [e, r3] at s1
  exact ⟨w', s1, o3, g3⟩
/-- A map that counts the visits of some walkers. -/
def CntP (c : List Wkr) (D : DataW Unit) : Prop := Go.Maps.IsMap D ∧ ∀ x y : Int, (Lit.int .i64 x).wf = true → (Lit.int .i64 y).wf = true → D.atKey (keyPt x y) (.lit (.int .i64 0)) = .lit (.int .i64 (visN c x y : Nat))
theorem CntP.nil : CntP [] (.map [] : DataW Unit) := ⟨Go.Maps.isMap_empty, fun x y _ _ => rfl⟩
theorem box_one {w : World} {b : Nat} {T : TypeId} {x : Value} (h : Box w b T #[x]) : w.cell? ⟨b, 0, none⟩ = some x := h.cell 0
theorem wf64V {z : Int} (h1 : -9223372036854775808 ≤ z) (h2 : z ≤ 9223372036854775807) : (Lit.int .i64 z).wf = true := by
  simp [Lit.wf, IntKind.min, IntKind.max, IntKind.bits, IntKind.signed]; omega
theorem CntP.put {c : List Wkr} {k : Nat} {x y u v : Int} {D : DataW Unit} (h : CntP (c.take k) D) (hs : c[k]? = some (x, y, u, v)) (wx : (Lit.int .i64 x).wf = true) (wy : (Lit.int .i64 y).wf = true) :
    CntP (c.take (k + 1)) (D.put (keyPt x y) (.lit (.int .i64 ((visN (c.take k) x y : Nat) + 1)))) := by
  refine ⟨h.1.put _ _, fun x' y' wx' wy' => ?_⟩
  rw [visN_take hs]
  by_cases e : x' = x ∧ y' = y
  · obtain ⟨rfl, rfl⟩ := e
    have hvt : vtB x' y' (x', y', u, v) = true := vtB_iff.2 ⟨rfl, rfl⟩
    rw [Go.Maps.atKey_put_same h.1 (show WideAt.IsKeyLit (keyPt x' y') from trivial), if_pos hvt]
    rfl
  · rw [Go.Maps.atKey_put_other (fun hk => e (keyPt_inj wx' wy' wx wy hk)), h.2 x' y' wx' wy', if_neg (fun hk => by have := vtB_iff.1 hk; simp only at this; omega)]
    rfl
set_option maxRecDepth 100000 in
theorem ptLaw : Go.WideMaps.KeyLaw Try.prog 69 := deep_law_laid laidOutT (m := 2) (by omega) ptRow (by kernel_rfl) ptWide
theorem zeroInt (w : World) : (zeroValue 3).run Try.prog w = .ok (.int .i64 0) w := by kernel_rfl
theorem ret_u8 {a b : Int} (h : a = b) : Ending.returned (.int .u8 a) = .returned (.int .u8 b) := by rw [h]
theorem cp_zero {W H : Int} {zs : List Int} {a : Int} : cpB W H zs a = true ↔ tcC W H zs a = 0 := by
  unfold cpB tcC
  cases validB W H zs <;> cases inR a 0 ((trS W H zs (4 * W * H).toNat).1.length - 1) <;> simp
set_option maxRecDepth 100000 in
set_option maxHeartbeats 2000000 in
theorem cvMark_any (W' H' : Nat) (A : Option Addr) (c : Nat) (zs : List Int) (cj : List Wkr) (x y : Nat) (pv pp bm n : Nat) (D : DataW Unit) (w : World) (hz : Ints w w.heap.size A zs) (hl : zs.length ≤ maxLen) (hv : validB W' H' zs = true)
    (kv : Box w pv 101 #[.map (some bm)]) (kp : Box w pp 39 #[.int .i64 W', .int .i64 H', .slice A zs.length c]) (hm : w.ownsMap Try.prog 69 (plainElem (H := Unit) Try.prog 3) bm n D) (hD : CntP cj D) (h2 : visN cj x y ≤ 2) (hx : x ≤ 2 * W') (hy : y ≤ 2 * H') :
    Calls Try.prog 90 #[.agg #[.int .i64 x, .int .i64 y], .pointer (some ⟨pv, 0, none⟩), .pointer (some ⟨pp, 0, none⟩)] w fun e w' => e = .returned (.int .u8 (cvM W' H' zs cj x y)) ∧ Below w.heap.size w w' := by
  have s1 := side_bd (valid_sides hv).1
  have s2 := side_bd (valid_sides hv).2
  have wx : (Lit.int .i64 (x : Int)).wf = true := wf64V (by omega) (by omega)
  have wy : (Lit.int .i64 (y : Int)).wf = true := wf64V (by omega) (by omega)
  have HKY := hid (keyPt_of wx wy)
  have HCN := hid (hD.2 x y wx wy)
  have HPA := hid (pictureAt_any W' H' A c zs x y · · hl hv)
  have HZ := hid hz
  have HM := hid hm
  have KV := hid kv
  have KP := hid kp
  have hn3 : visN cj x y = 0 ∨ visN cj x y = 1 ∨ visN cj x y = 2 := by omega
  have Va := box_one kv
  have Vz := kv.lt
  obtain ⟨Pa, Pb, Pc⟩ := kp.three
  have Pz := kp.lt
  clear hz hl hv kv kp hm hD wx wy h2
  rcases hn3 with h0 | h0 | h0
  · have HE : Hid (cvM W' H' zs cj x y = paB W' H' zs x y) := hid (by simp [cvM, mkB, h0])
    rw [h0] at HCN
    clear h0
    go_enter Try.func90, Try.ntmps90
    go_wp2_with (at_lookup; refine wpList_lookup_own_int _ rfl _ _ 101 rfl 69 3 .i64 ptKeyed Try.underlying101 Try.underlying3 (zeroInt _) bm n D rfl (HM.out.alloc _) _ _ rfl HKY.out ?_; intro cc hat hwc; rw [HCN.out] at hat; have hat := (Lit.int.inj (DataW.lit.inj hat)).2; subst hat; clear hwc)
    refine (HPA.out _ ((HZ.out.below (bal (Below.refl _ _) _)).more (bal (Below.refl _ _) _).size)).mono ?_
    rintro e w1 ⟨rfl, hb1⟩
    have HB1 : Hid (Below w.heap.size w w1) := hid (bstep (bal (Below.refl _ _) _) hb1)
    clear hb1
    go_wp2_with fail
    go_ret
    exact ⟨ret_u8 HE.out.symm, HB1.out⟩
  · have HE : Hid (cvM W' H' zs cj x y = 111) := hid (by simp [cvM, mkB, h0])
    rw [h0] at HCN
    clear h0
    go_enter Try.func90, Try.ntmps90
    go_wp2_with (at_lookup; refine wpList_lookup_own_int _ rfl _ _ 101 rfl 69 3 .i64 ptKeyed Try.underlying101 Try.underlying3 (zeroInt _) bm n D rfl (HM.out.alloc _) _ _ rfl HKY.out ?_; intro cc hat hwc; rw [HCN.out] at hat; have hat := (Lit.int.inj (DataW.lit.inj hat)).2; subst hat; clear hwc)
    go_ret
    exact ⟨ret_u8 HE.out.symm, bal (Below.refl _ _) _⟩
  · have HE : Hid (cvM W' H' zs cj x y = 56) := hid (by simp [cvM, mkB, h0])
    rw [h0] at HCN
    clear h0
    go_enter Try.func90, Try.ntmps90
    go_wp2_with (at_lookup; refine wpList_lookup_own_int _ rfl _ _ 101 rfl 69 3 .i64 ptKeyed Try.underlying101 Try.underlying3 (zeroInt _) bm n D rfl (HM.out.alloc _) _ _ rfl HKY.out ?_; intro cc hat hwc; rw [HCN.out] at hat; have hat := (Lit.int.inj (DataW.lit.inj hat)).2; subst hat; clear hwc)
    go_ret
    exact ⟨ret_u8 HE.out.symm, bal (Below.refl _ _) _⟩
set_option maxRecDepth 100000 in
set_option maxHeartbeats 4000000 in
theorem pictureCV_any (W' H' : Nat) (A : Option Addr) (c : Nat) (zs : List Int) (pv pp : Nat) (mk : Nat → Nat → Int) (w : World) (hW : side (W' : Int) = true) (hH : side (H' : Int) = true)
    (hm : ∀ w', Below w.heap.size w w' → ∀ x y : Nat, x ≤ 2 * W' → y ≤ 2 * H' → Calls Try.prog 90 #[.agg #[.int .i64 x, .int .i64 y], .pointer (some ⟨pv, 0, none⟩), .pointer (some ⟨pp, 0, none⟩)] w' fun e w'' => e = .returned (.int .u8 (mk x y)) ∧ Below w'.heap.size w' w'') :
    Calls Try.prog 74 #[.agg #[.int .i64 W', .int .i64 H', .slice A zs.length c], .func (.func 90) #[] #[.pointer (some ⟨pv, 0, none⟩), .pointer (some ⟨pp, 0, none⟩)]] w fun e w' => (∃ g c', e = .returned (.slice (some ⟨g, 0, none⟩) (2 * H' + 1) c') ∧ w'.ownsRow w.heap.size 9 1 (.slice (some ⟨g, 0, none⟩) (2 * H' + 1) c') (2 * H' + 1) (strs (picS mk (2 * W' + 1) (2 * H' + 1)))) ∧ Below w.heap.size w w' := by
  obtain ⟨s3, s4⟩ := side_bd hW
  obtain ⟨s5, s6⟩ := side_bd hH
  have HM := hid hm
  clear hW hH hm
  obtain ⟨ub, hib, hb0, hb1, hb2⟩ := info_parts infoU8
  obtain ⟨us, his, hs0, hs1, hs2⟩ := info_parts infoStr
  go_enter Try.func74, Try.ntmps74
  go_wp2_with fail
  have ho1 := World.ownsRow_lit (base := w.heap.size + 1) (e := 9) (size := 1) (w.alloc (.cells #[.int .i64 W', .int .i64 H', .slice A zs.length c] 39)) #[] 0 (by simp) (Nat.zero_le _) rfl
  simp only [World.size_alloc] at ho1
  have HO1 := hid ho1
  clear ho1
  go_loopg [5, 14] (2 * H' + 1) (fun g v i wr => ∃ y : Nat, y ≤ 2 * H' + 1 ∧ i = .int .i64 y ∧ g = 2 * H' + 1 - y ∧ Hid (wr.ownsRow (w.heap.size + 1) 9 1 v y (strs (picS mk (2 * W' + 1) y))) ∧ Hid (Box wr w.heap.size 39 #[.int .i64 W', .int .i64 H', .slice A zs.length c]) ∧ Hid (Below w.heap.size w wr))
  case atStart => exact ⟨0, Nat.zero_le _, rfl, rfl, HO1, hid (Box.alloc (Box.new _ _ _) _), hid (bal (bal (Below.refl _ _) _) _)⟩
  case round =>
    obtain ⟨y, hy, rfl, hg, HO, KP, HBr⟩ := hrel
    obtain ⟨wo, rfl⟩ : ∃ z, z = wr := ⟨_, rfl⟩
    have Wz := KP.out.lt
    by_cases hlt : y < 2 * H' + 1
    · obtain ⟨Pa, Pb, Pc⟩ := KP.out.three
      have hoi := World.ownsRow_lit (base := wo.heap.size) (e := 5) (size := 1) wo #[] 0 (Nat.le_refl _) (Nat.zero_le _) rfl
      have HOI := hid hoi
      clear hoi
      go_wp2_with fail
      clear Pa Pb Pc
      go_loopg [7, 22] (2 * W' + 1) (fun g v i wx => ∃ x : Nat, x ≤ 2 * W' + 1 ∧ i = .int .i64 x ∧ g = 2 * W' + 1 - x ∧ Hid (wx.ownsRow wo.heap.size 5 1 v x (bytesV (mkRow mk y x))) ∧ Hid (Below wo.heap.size wo wx))
      case atStart => exact ⟨0, Nat.zero_le _, rfl, rfl, HOI, hid (bal (Below.refl _ _) _)⟩
      case round =>
        obtain ⟨x, hx, rfl, hg2, HOx, HBx⟩ := hrel
        have xz := HBx.out.size
        by_cases hxl : x < 2 * W' + 1
        · go_wp2_with fail
          refine (HM.out _ (bbl HBr.out HBx.out) x y (by omega) (by omega)).mono ?_
          rintro e w2 ⟨rfl, hb2⟩
          have HO2 := hid (own_keep HOx.out hb2)
          have HB2 := hid (bbl HBx.out hb2)
          have xz2 := HB2.out.size
          clear hb2
          obtain ⟨bt, hbt⟩ : ∃ q, mk x y = q := ⟨_, rfl⟩
          rw [hbt]
          have HE : Hid (mkRow mk y (x + 1) = mkRow mk y x ++ [bt]) := hid (by rw [mkRow_succ, hbt])
          clear hbt
          go_wp2_with (at_builtin; (refine wpList_append_own _ rfl _ _ 54 rfl (wo.heap.size) 5 ub (.int .u8 0) 1 1 Try.underlying54 hib hb0 hb1 hb2 rfl (by decide) _ (x) (bytesV (mkRow mk y x)) rfl (HO2.out.alloc _) ⟨w2.heap.size, 0, none⟩ 1 1 [.int .u8 bt] rfl rfl (World.news_of_block (cs := #[.int .u8 bt]) (t := 5) (fr := (0, 0)) (heap_alloc_new w2 _)) (by simp [Value.oneCell']) (by unfold maxLen; omega) (by omega) (by simp; omega) ?_; intro v' wz ho2 hgr _))
          have HH := hid (And.intro ho2 hgr)
          clear ho2 hgr
          go_roundg (2 * W' + 1 - (x + 1))
          case measure => omega
          case rel => exact ⟨x + 1, by omega, by go_num, rfl, hid (by rw [HE.out]; simpa [bytesV] using HH.out.1), hid (Below.grown (Below.alloc HB2.out xz2 _) HH.out.2 (by simp; omega) (fun q hq => (HO2.out.lt q hq).1))⟩
        · obtain rfl : x = 2 * W' + 1 := by omega
          rcases Go.Joins.ownsRow_forms HOx.out with ⟨rfl, hn0⟩ | ⟨gb, cap, rfl⟩
          · exfalso; omega
          have kc := conv_own HOx.out
          have HOo := hid (own_below HO.out HBx.out)
          have HOo' := hid (HO.out.lt)
          have KPx := hid (Box.below KP.out HBx.out Wz)
          go_wp2_with (at_builtin; (refine wpList_append_own _ rfl _ _ 27 rfl (w.heap.size + 1) 9 us (.string ⟨#[]⟩) 1 16 Try.underlying27 his hs0 hs1 hs2 rfl (by decide) _ (y) (strs (picS mk (2 * W' + 1) y)) rfl (HOo.out.alloc _) ⟨wr.heap.size, 0, none⟩ 1 1 [.string (strOfNums (mkRow mk y (2 * W' + 1)))] rfl rfl (World.news_of_block (cs := #[.string (strOfNums (mkRow mk y (2 * W' + 1)))]) (t := 9) (fr := (0, 0)) (heap_alloc_new wr _)) (by simp [Value.oneCell']) (by unfold maxLen; omega) (by omega) (by simp; omega) ?_; intro v' wz ho2 hgr _))
          have HH := hid (And.intro ho2 hgr)
          clear ho2 hgr
          go_roundg (2 * H' + 1 - (y + 1))
          case measure => omega
          case rel => exact ⟨y + 1, by omega, by go_num, rfl, hid (by rw [picS_succ]; simpa [strs] using HH.out.1), hid (Box.grew (Box.alloc KPx.out _) HH.out.2 (fun q hq => by have := (HOo'.out q hq).1; omega)), hid (bgrew (lo := w.heap.size + 1) (bal (bbl HBr.out HBx.out) _) HH.out.2 (fun q hq => (HOo'.out q hq).1) (by omega))⟩
    · obtain rfl : y = 2 * H' + 1 := by omega
      rcases Go.Joins.ownsRow_forms HO.out with ⟨rfl, hn0⟩ | ⟨gb, cap, rfl⟩
      · exfalso; omega
      go_wp2_with fail
      go_ret
      exact ⟨⟨_, _, rfl, Go.Joins.ownsRow_le HO.out (by omega)⟩, HBr.out⟩
set_option maxRecDepth 100000 in
set_option maxHeartbeats 4000000 in
theorem implCurvePicture_any (W H : Int) (A : Option Addr) (c : Nat) (zs : List Int) (a : Int) (w : World) (hz : Ints w w.heap.size A zs) (hl : zs.length ≤ maxLen) (_ : (Lit.int .i64 a).wf = true) :
    Calls Try.prog 41 #[.agg #[.int .i64 W, .int .i64 H, .slice A zs.length c], .int .i64 a] w fun e w' => (∃ A' c', e = .returned (.tuple #[.slice A' (cpN W H zs a) c', .int .i64 (tcC W H zs a)]) ∧ w'.ownsRow w.heap.size 9 1 (.slice A' (cpN W H zs a) c') (cpN W H zs a) (strs (cpL W H zs a))) ∧ Below w.heap.size w w' := by
  have hmm := @run_makeMap Try.prog
  by_cases hc0 : tcC W H zs a = 0
  · have hv : validB W H zs = true := by
      cases hv : validB W H zs
      · simp [tcC, hv] at hc0
      · rfl
    have hr : inR a 0 (((trS W H zs (4 * W * H).toNat).1.length : Int) - 1) = true := by
      cases hr : inR a 0 (((trS W H zs (4 * W * H).toNat).1.length : Int) - 1)
      · simp [tcC, hv, hr] at hc0
      · rfl
    have hab : 0 ≤ a ∧ a < ((trS W H zs (4 * W * H).toNat).1.length : Int) := by simp [inR] at hr; omega
    have Hs := hid (valid_sides hv)
    obtain ⟨s3, s4⟩ := side_bd Hs.out.1
    obtain ⟨s5, s6⟩ := side_bd Hs.out.2
    obtain ⟨W', rfl⟩ : ∃ n : Nat, W = n := ⟨W.toNat, by omega⟩
    obtain ⟨H', rfl⟩ : ∃ n : Nat, H = n := ⟨H.toNat, by omega⟩
    obtain ⟨j, rfl⟩ : ∃ j : Nat, a = (j : Int) := ⟨a.toNat, by omega⟩
    obtain ⟨cj, hcj⟩ : ∃ cj, (trS W' H' zs (4 * W' * H' : Int).toNat).1[j]? = some cj := ⟨_, List.getElem?_eq_getElem (by omega)⟩
    have hcb : cpB W' H' zs j = true := cp_zero.2 hc0
    have hcpj : cpJ W' H' zs j = cj := by simp [cpJ, List.getD_eq_getElem?_getD, hcj]
    have HV : Hid (cpN W' H' zs j = 2 * H' + 1 ∧ cpL W' H' zs j = picS (cvM W' H' zs cj) (2 * W' + 1) (2 * H' + 1) ∧ tcC W' H' zs j = 0) := hid (by
      refine ⟨?_, ?_, hc0⟩
      · unfold cpN; rw [if_pos hcb]; omega
      · unfold cpL; rw [if_pos hcb, hcpj, show (2 * (W' : Int) + 1).toNat = 2 * W' + 1 by omega, show (2 * (H' : Int) + 1).toNat = 2 * H' + 1 by omega])
    have HTWO := hid (fun x y : Int => vis_two hv hcj x y)
    have HIN := hid (cur_in hv hcj)
    have hfew := tr_few hv
    have hc256 := tr_cl hv j cj hcj
    have Hv := hid hv
    have HC0 := hid hc0
    have HCJ := hid hcj
    have hjc : j < (trS W' H' zs (4 * W' * H' : Int).toNat).1.length := by omega
    clear hv hr hab hcj hc0 hcb hcpj
    go_enter Try.func41, Try.ntmps41
    go_wp2_with fail
    refine (calls_iG (curveCode1_any W' H' A (some ⟨w.heap.size + 1, 0, none⟩) c 1 zs (j : Int) _ ((hz.below (bal (bal (Below.refl _ _) _) _)).more (bal (bal (Below.refl _ _) _) _).size) hl (ints_one _ (by simp [go_sem]) (by simp))) HC0.out).mono ?_
    rintro e w1 ⟨rfl, hb1⟩
    have KP1 : Hid (Box w1 w.heap.size 39 #[.int .i64 W', .int .i64 H', .slice A zs.length c]) := hid (Box.keep (Box.alloc (Box.new w _ _) _) hb1)
    have HB1 : Hid (Below w.heap.size w w1) := hid (bstep (bal (bal (Below.refl _ _) _) _) hb1)
    clear hb1
    obtain ⟨Pa, Pb, Pc⟩ := KP1.out.three
    have Pz := KP1.out.lt
    go_wp2_with fail
    refine (trace_any W' H' A c zs _ ((hz.below (bal (bal HB1.out _) _)).more (bal (bal HB1.out _) _).size) hl Hv.out).mono ?_
    rintro e w2 ⟨⟨E1, d1, E2, d2, rfl, hne, hro⟩, hb2⟩
    have KP2 := hid (Box.keep (Box.alloc (Box.alloc KP1.out _) _) hb2)
    have KV2 : Hid (Box w2 (w1.heap.size + 1) 101 #[.map (some w1.heap.size)]) := hid (Box.keep (Box.new' _ _ _ _ (by simp)) hb2)
    have HM2 : Hid (w2.ownsMap Try.prog 69 (plainElem (H := Unit) Try.prog 3) w1.heap.size 0 (.map [])) := hid (mapKeep ((World.ownsMap_made w1 _ _ _).alloc _) hb2)
    have HB2 : Hid (Below w.heap.size w w2) := hid (bbl (bal (bal HB1.out _) _) hb2)
    have hz12 : w1.heap.size + 2 ≤ w2.heap.size := by have := hb2.size; simpa using this
    have hz01 := HB1.out.size
    have hz02 : w.heap.size < w1.heap.size := KP1.out.lt
    clear hb2 Pa Pb Pc Pz hro
    obtain ⟨vs, hO, hI, hD⟩ := hne
    rw [curZ_length] at hO
    obtain ⟨vi, ni, hvi, hri⟩ := hI j (vals (flatW cj)) (by simp [curZ, HCJ.out])
    obtain rfl := cur_len hri
    obtain ⟨Ai, ci, rfl⟩ := own_form hri.1
    have hcl := own_max hri.1
    unfold maxLen at hcl
    obtain ⟨gq, cq, he⟩ := Go.Joins.ownsRow_form hO (by omega)
    simp only [Value.slice.injEq] at he
    obtain ⟨rfl, -, rfl⟩ := he
    have hca : w2.cell? ⟨gq, j, none⟩ = some (.slice Ai cj.length ci) := (World.ownsRow.cellAt hO j (by omega)).trans hvi
    have hgq := (World.ownsRow.lt hO gq rfl).2
    have HR2 : Hid (w2.ownsRow (w1.heap.size + 2) 100 4 (.slice Ai cj.length ci) cj.length (vals (flatW cj))) := hid (by have h := hri.1; simpa using h)
    obtain ⟨L, hL⟩ : ∃ L, (trS W' H' zs (4 * W' * H' : Int).toNat).1.length = L := ⟨_, rfl⟩
    rw [hL] at hfew hjc ⊢
    clear hO hI hD hvi hri hL
    obtain ⟨Pa, Pb, Pc⟩ := KP2.out.three
    have Pz := KP2.out.lt
    have Va := box_one KV2.out
    have Vz := KV2.out.lt
    go_wp2_with fail
    clear hca hgq Pa Pb Pc Pz Va Vz
    go_loopg [30] cj.length (fun g i wr => ∃ (k : Nat) (D : DataW Unit), k ≤ cj.length ∧ i = .int .i64 k ∧ g = cj.length - k ∧ Hid (CntP (cj.take k) D) ∧ Hid (wr.ownsMap Try.prog 69 (plainElem (H := Unit) Try.prog 3) w1.heap.size k D) ∧ Hid (wr.ownsRow (w1.heap.size + 2) 100 4 (.slice Ai cj.length ci) cj.length (vals (flatW cj))) ∧ Hid (Box wr w.heap.size 39 #[.int .i64 W', .int .i64 H', .slice A zs.length c]) ∧ Hid (Box wr (w1.heap.size + 1) 101 #[.map (some w1.heap.size)]) ∧ Hid (Below w.heap.size w wr))
    case atStart => exact ⟨0, .map [], Nat.zero_le _, rfl, rfl, hid CntP.nil, HM2, HR2, KP2, KV2, HB2⟩
    case round =>
      clear HM2 HR2 KV2
      obtain ⟨k, D, hk, rfl, hg, HD, HM, HR, KP, KV, HB⟩ := hrel
      have hkp2 := KP2.out.lt
      obtain ⟨Pa, Pb, Pc⟩ := KP.out.three
      have Pz := KP.out.lt
      have Va := box_one KV.out
      have Vz := KV.out.lt
      by_cases hlt : k < cj.length
      · obtain ⟨s, hs⟩ : ∃ s, cj[k]? = some s := ⟨_, List.getElem?_eq_getElem hlt⟩
        obtain ⟨f0, f1, f2, f3⟩ := flatW_at hs
        have hin := HIN.out s (List.mem_of_getElem? hs)
        obtain ⟨x, y, u, v, hst⟩ : ∃ x y u v, s = (x, y, u, v) := ⟨_, _, _, _, rfl⟩
        subst hst
        dsimp only at f0 f1 f2 f3 hin
        obtain ⟨bx1, bx2, by1, by2⟩ := hin
        obtain ⟨gi, cc, he⟩ := Go.Joins.ownsRow_form HR.out (by omega)
        simp only [Value.slice.injEq] at he
        obtain ⟨rfl, -, rfl⟩ := he
        have k0 : wr.cell? ⟨gi, k * 4, none⟩ = some (.int .i64 x) := (World.ownsRow.cellAt HR.out (k * 4) (by omega)).trans (by simp [vals, f0])
        have k1 : wr.cell? ⟨gi, k * 4 + 1, none⟩ = some (.int .i64 y) := (World.ownsRow.cellAt HR.out (k * 4 + 1) (by omega)).trans (by simp [vals, f1])
        have k2 : wr.cell? ⟨gi, k * 4 + 2, none⟩ = some (.int .i64 u) := (World.ownsRow.cellAt HR.out (k * 4 + 2) (by omega)).trans (by simp [vals, f2])
        have k3 : wr.cell? ⟨gi, k * 4 + 3, none⟩ = some (.int .i64 v) := (World.ownsRow.cellAt HR.out (k * 4 + 3) (by omega)).trans (by simp [vals, f3])
        have gz : gi < wr.heap.size := (HR.out.lt gi rfl).2
        have wx : (Lit.int .i64 x).wf = true := wf64V (by omega) (by omega)
        have wy : (Lit.int .i64 y).wf = true := wf64V (by omega) (by omega)
        have HKY := hid (keyPt_of wx wy)
        have hn2 := visN_take_le cj k x y
        have hn3 := HTWO.out x y
        have HCN := hid (HD.out.2 x y wx wy)
        have HPT := hid (HD.out.put hs wx wy)
        obtain ⟨n, hn⟩ : ∃ n, visN (cj.take k) x y = n := ⟨_, rfl⟩
        rw [hn] at hn2 HCN HPT
        have hnb : n ≤ 2 := by omega
        clear f0 f1 f2 f3 hs wx wy hn2 hn3 hn HD
        go_wp2_with fail
        obtain ⟨w3, hw3⟩ : ∃ zz : World, zz = wr.alloc (.cells #[.int .i64 x, .int .i64 y, .int .i64 u, .int .i64 v] 100) := ⟨_, rfl⟩
        rw [← hw3]
        have HM3 : Hid (w3.ownsMap Try.prog 69 (plainElem (H := Unit) Try.prog 3) w1.heap.size k D) := hid (by rw [hw3]; exact HM.out.alloc _)
        have HR3 : Hid (w3.ownsRow (w1.heap.size + 2) 100 4 (.slice (some ⟨gi, 0, none⟩) cj.length ci) cj.length (vals (flatW cj))) := hid (by rw [hw3]; exact HR.out.alloc _)
        have KP3 : Hid (Box w3 w.heap.size 39 #[.int .i64 W', .int .i64 H', .slice A zs.length c]) := hid (by rw [hw3]; exact Box.alloc KP.out _)
        have KV3 : Hid (Box w3 (w1.heap.size + 1) 101 #[.map (some w1.heap.size)]) := hid (by rw [hw3]; exact Box.alloc KV.out _)
        have HB3 : Hid (Below w.heap.size w w3) := hid (by rw [hw3]; exact bal HB.out _)
        obtain ⟨bw, hbw⟩ : ∃ b, b = wr.heap.size := ⟨_, rfl⟩
        have KW3 : Hid (Box w3 bw 100 #[.int .i64 x, .int .i64 y, .int .i64 u, .int .i64 v]) := hid (by rw [hw3, hbw]; exact Box.new _ _ _)
        rw [← hbw]
        have hbw2 : w1.heap.size + 1 < bw := by rw [hbw]; exact Vz
        clear hw3 hbw k0 k1 k2 k3 gz Pa Pb Pc Pz Va Vz HM HR KP KV HB
        obtain ⟨c0, v0, st, w4, hL, hat, hE, hL2, hg4, hS⟩ := bump_runs ptLaw Try.underlying101 Try.underlying3 zeroInt (w := w3.drew) HM3.out (by unfold maxLen; omega) HKY.out
        rw [HCN.out] at hat
        have hat := (Lit.int.inj (DataW.lit.inj hat)).2
        subst hat
        obtain ⟨w5, hS5, hM5, hg5⟩ := hS ((n : Int) + 1) (wf64V (by omega) (by omega))
        have hS6 : (Instr.entryStore 101 (.map (some w1.heap.size)) (.int .i64 (st : Int)) (.int .i64 ((n : Int) + 1))).run Try.prog w4 = .ok () w5 := hS5
        have hS7 : (Instr.entryStore 101 (.map (some w1.heap.size)) (.int .i64 (st : Int)) (.int .i64 (IntKind.i64.wrap ((n : Int) + 1)))).run Try.prog w4 = .ok () w5 := by rw [show IntKind.i64.wrap ((n : Int) + 1) = (n : Int) + 1 from IntWalk.i64_in _ (by omega)]; exact hS5
        have hE6 : (Instr.mapEntry 101 (.map (some w1.heap.size)) (.agg #[.int .i64 x, .int .i64 y])).run Try.prog w3.drew = .ok (.tuple #[v0, .int .i64 (st : Int)]) w4 := hE
        clear hS5 hE
        have HH := hid (And.intro hM5 hg5)
        have HG4 := hid hg4
        have Va := box_one KV3.out
        have Vz := KV3.out.lt
        obtain ⟨Wa, Wb, Wc, Wd⟩ := KW3.out.four
        have Wz := KW3.out.lt
        have KV4 := hid (Box.grew (w := w3.drew) (Box.drew KV3.out) hg4 (fun q hq => by injection hq with hq; omega))
        have KW4 := hid (Box.grew (w := w3.drew) (Box.drew KW3.out) hg4 (fun q hq => by injection hq with hq; omega))
        have Va4 := box_one KV4.out
        obtain ⟨Wa4, Wb4, Wc4, Wd4⟩ := KW4.out.four
        clear hM5 hg5 hg4 hS
        go_region
        all_goals
          go_wp2_with fail
          go_roundg (cj.length - (k + 1))
        all_goals (try (case measure => omega))
        all_goals exact ⟨k + 1, _, by omega, by go_num, rfl, HPT, HH.out.1, hid (World.ownsRow.kept (World.ownsRow.drew HR3.out) HH.out.2 (.inr fun e => by have h1 := (HR3.out.lt gi rfl).1; have h2 : gi = w1.heap.size := (by injection e); omega)), hid (Box.grew (Box.drew KP3.out) HH.out.2 (fun q hq => by injection hq with hq; omega)), hid (Box.grew (Box.drew KV3.out) HH.out.2 (fun q hq => by injection hq with hq; omega)), hid (bgrew (lo := w.heap.size) (Below.drew HB3.out) HH.out.2 (fun q hq => by injection hq with hq; omega) (Nat.le_refl _))⟩
      · obtain rfl : k = cj.length := by omega
        have HDD : Hid (CntP cj D) := hid (by have h := HD.out; rwa [List.take_length] at h)
        clear HD
        go_wp2_with fail
        refine (pictureCV_any W' H' A c zs (w1.heap.size + 1) w.heap.size (cvM W' H' zs cj) _ Hs.out.1 Hs.out.2 (fun w' hw' x y hx hy => cvMark_any W' H' A c zs cj x y (w1.heap.size + 1) w.heap.size w1.heap.size _ D w' ((hz.below (bbl HB.out hw')).more (bbl HB.out hw').size) hl Hv.out (Box.keep KV.out hw') (Box.keep KP.out hw') (mapKeep HM.out hw') HDD.out (HTWO.out x y) hx hy)).mono ?_
        rintro e w9 ⟨⟨g9, c9, rfl, ho9⟩, hb9⟩
        have HO9 := hid (Go.Joins.ownsRow_le ho9 HB.out.size)
        have HB9 := hid (bbl HB.out hb9)
        clear hb9 ho9 Pa Pb Pc Pz Va Vz
        go_wp2_with fail
        go_ret2
        refine ⟨⟨_, c9, by rw [HV.out.1, HV.out.2.2]; rfl, ?_⟩, HB9.out⟩
        rw [HV.out.1, HV.out.2.1]
        exact HO9.out
  · have hcb : cpB W H zs a = false := by
      cases h : cpB W H zs a
      · rfl
      · exact absurd (cp_zero.1 h) hc0
    have HTR : Hid (cpN W H zs a = 0 ∧ cpL W H zs a = []) := hid (by simp [cpN, cpL, hcb])
    obtain ⟨m, hm⟩ : ∃ m, tcC W H zs a = m := ⟨_, rfl⟩
    rw [hm] at hc0
    have HC := hid hm
    clear hm hcb
    go_enter Try.func41, Try.ntmps41
    go_wp2_with fail
    refine (calls_iG (curveCode1_any W H A (some ⟨w.heap.size + 1, 0, none⟩) c 1 zs a _ ((hz.below (bal (bal (Below.refl _ _) _) _)).more (bal (bal (Below.refl _ _) _) _).size) hl (ints_one _ (by simp [go_sem]) (by simp))) HC.out).mono ?_
    rintro e w1 ⟨rfl, hb1⟩
    have HB1 : Hid (Below w.heap.size w w1) := hid (bstep (bal (bal (Below.refl _ _) _) _) hb1)
    clear hb1
    go_wp2_with fail
    go_ret2
    exact ⟨⟨none, 0, by rw [HTR.out.1, HC.out] <;> rfl, by rw [HTR.out.1, HTR.out.2]; exact World.ownsRow_nil _ _ _ _⟩, HB1.out⟩
end Go.Proofs.Ytgcgaoblbhojnaa

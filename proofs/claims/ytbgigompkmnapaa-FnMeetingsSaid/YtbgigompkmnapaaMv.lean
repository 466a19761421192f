/- Crossings: contracts. -/
import Derived.Test.YtbgigompkmnapaaMu
import Derived.Test.YtbgigompkmnapaaPx
import Derived.Test.YtbgigompkmnapaaSame
namespace Go.Proofs.Ytbgigompkmnapaa
set_option linter.unusedSimpArgs false
set_option linter.unusedVariables false
open Go.ChangeShapes Go.WideShapes Go.ChangeAt Go.RowKit
/-- The inner points without a break, by their numbers. -/
def crI (zs : List Int) (n : Nat) : List Nat := (List.range n).filter fun k => zs.getD k 0 == 0
theorem crI_succ (zs : List Int) (n : Nat) : crI zs (n + 1) = crI zs n ++ (if zs.getD n 0 == 0 then [n] else []) := by
  unfold crI
  rw [List.range_succ, List.filter_append]
  congr 1
  rw [List.filter_cons, List.filter_nil]
theorem crI_len (zs : List Int) (n : Nat) : (crI zs n).length ≤ n := by unfold crI; exact Nat.le_trans (List.length_filter_le _ _) (by simp)
theorem crI_mem {zs : List Int} {n k : Nat} (h : k ∈ crI zs n) : k < n ∧ zs.getD k 0 = 0 := by simpa [crI] using h
def crCells (W H : Int) (l : List Nat) : List Value := l.flatMap fun (k : Nat) => [Value.int .i64 (ptX W H (k : Int)), Value.int .i64 (ptY W H (k : Int))]
theorem crCells_snoc (W H : Int) (l : List Nat) (k : Nat) : crCells W H (l ++ [k]) = crCells W H l ++ [Value.int .i64 (ptX W H (k : Int)), Value.int .i64 (ptY W H (k : Int))] := by simp [crCells, List.flatMap_append]
theorem crCells_length (W H : Int) (l : List Nat) : (crCells W H l).length = l.length * 2 := by
  induction l with
  | nil => rfl
  | cons a l ih => rw [crCells, List.flatMap_cons, ← crCells, List.length_append, ih]; simp; omega
theorem crCells_at (W H : Int) (l : List Nat) : ∀ (j k : Nat), l[j]? = some k → (crCells W H l)[j * 2]? = some (Value.int .i64 (ptX W H k)) ∧ (crCells W H l)[j * 2 + 1]? = some (Value.int .i64 (ptY W H k)) := by
  induction l with
  | nil => intro j k h; simp at h
  | cons a l ih =>
    intro j k h
    rw [crCells, List.flatMap_cons, ← crCells]
    cases j with
    | zero => simp at h; subst h; exact ⟨rfl, rfl⟩
    | succ j =>
      have h2 := ih j k (by simpa using h)
      rw [show (j + 1) * 2 = j * 2 + 2 by omega]
      exact ⟨h2.1, h2.2⟩
theorem inner_codeM {W H : Int} {zs : List Int} {x y : Int} (hv : validB W H zs = true) (hh : hasP W H x y = true) (he : edgeP W H x y = false) : (codeP W H zs x y == 0) = true := by simp [codeP, hv, hh, he]
theorem pt_code {W H : Int} {zs : List Int} (hv : validB W H zs = true) {k : Nat} (hk : k < zs.length) : (codeP W H zs (ptX W H k) (ptY W H k) == 0) = true := by
  have hs := valid_sides hv
  have hl := valid_len hv
  have b := pt_bd hs.1 hs.2 (Int.natCast_nonneg k) (by omega)
  have b1 := side_bd hs.1
  have b2 := side_bd hs.2
  refine inner_codeM hv ?_ ?_
  · simp only [hasP, inR, Bool.and_eq_true, decide_eq_true_eq, beq_iff_eq]; omega
  · simp only [edgeP, Bool.or_eq_false_iff, beq_eq_false_iff_ne]; omega
theorem pt_brk {W H : Int} {zs : List Int} (hv : validB W H zs = true) {k : Nat} (hk : k < zs.length) : brkA W zs (ptX W H k) (ptY W H k) = zs.getD k 0 := by
  have hs := valid_sides hv
  have hl := valid_len hv
  have e := num_pt hs.1 hs.2 (Int.natCast_nonneg k) (by omega : (k : Int) < inner W H)
  unfold brkA
  rw [e, Int.toNat_natCast, List.getD_eq_getElem?_getD]
/-- The curves at point k that the reference looks at. -/
def mP (W H : Int) (zs : List Int) (k : Nat) : Int := ow H (owL W H zs) (ptX W H k) (ptY W H k) (-1) (-1)
def mQ (W H : Int) (zs : List Int) (k : Nat) : Int := ow H (owL W H zs) (ptX W H k) (ptY W H k) 1 (-1)
def xB (W H : Int) (zs : List Int) (a b : Int) (k : Nat) : Bool := (mP W H zs k == a && mQ W H zs k == b) || (mP W H zs k == b && mQ W H zs k == a)
/-- At how many of the first n inner points two curves cross. -/
def xC (W H : Int) (zs : List Int) (a b : Int) (n : Nat) : Nat := (List.range n).countP fun k => zs.getD k 0 == 0 && xB W H zs a b k
theorem xC_le (W H : Int) (zs : List Int) (a b : Int) (n : Nat) : xC W H zs a b n ≤ n := by unfold xC; exact Nat.le_trans List.countP_le_length (by simp)
theorem xC_succ (W H : Int) (zs : List Int) (a b : Int) (n : Nat) : xC W H zs a b (n + 1) = xC W H zs a b n + (if zs.getD n 0 == 0 && xB W H zs a b n then 1 else 0) := by
  unfold xC
  rw [List.range_succ, List.countP_append]
  simp [List.countP_cons]
def hitB (W H : Int) (zs L : List Int) (k : Nat) : Bool := decide (ctF H (owL W H zs) (ptX W H k) (ptY W H k) = L)
theorem ct_pq {W H : Int} {zs : List Int} (hv : validB W H zs = true) {k : Nat} (hk : k < zs.length) (h0 : zs.getD k 0 = 0) : ctF H (owL W H zs) (ptX W H k) (ptY W H k) = ctL (mP W H zs k) (mQ W H zs k) := by
  obtain ⟨p, q, h1, h2, h3⟩ := ct_two (pt_code hv hk)
  rw [pt_brk hv hk, h0] at h2
  rcases h2 with ⟨_, h4, h5, h6⟩ | ⟨h, _⟩ | ⟨h, _⟩
  · unfold mP mQ; rw [h1, h5]; exact h3
  · omega
  · omega
theorem hit_self {W H : Int} {zs : List Int} (hv : validB W H zs = true) {k : Nat} (hk : k < zs.length) (h0 : zs.getD k 0 = 0) (a : Int) : hitB W H zs [a] k = xB W H zs a a k := by
  unfold hitB xB
  rw [ct_pq hv hk h0]
  generalize mP W H zs k = p
  generalize mQ W H zs k = q
  unfold ctL
  rw [Bool.eq_iff_iff]
  by_cases e : p = q
  · subst e; simp
  · simp [e]; omega
theorem hit_two {W H : Int} {zs : List Int} (hv : validB W H zs = true) {k : Nat} (hk : k < zs.length) (h0 : zs.getD k 0 = 0) {a b : Int} (hab : a ≠ b) : hitB W H zs [min a b, max a b] k = xB W H zs a b k := by
  unfold hitB xB
  rw [ct_pq hv hk h0]
  generalize mP W H zs k = p
  generalize mQ W H zs k = q
  unfold ctL
  rw [Bool.eq_iff_iff]
  by_cases e : p = q
  · subst e; simp; omega
  · simp [e]; omega
theorem count_hits {W H : Int} {zs L : List Int} {a b : Int} (h : ∀ k, k < zs.length → zs.getD k 0 = 0 → hitB W H zs L k = xB W H zs a b k) : (crI zs zs.length).countP (hitB W H zs L) = xC W H zs a b zs.length := by
  unfold crI xC
  rw [List.countP_filter]
  refine List.countP_congr fun k hk => ?_
  have hk' : k < zs.length := by simpa using hk
  cases h0 : zs.getD k 0 == 0
  · simp
  · rw [h k hk' (by simpa using h0)]; simp
theorem countP_take {p : Nat → Bool} {l : List Nat} {j k : Nat} (h : l[j]? = some k) : (l.take (j + 1)).countP p = (l.take j).countP p + (if p k then 1 else 0) := by
  rw [List.take_add_one, h, List.countP_append]
  simp [List.countP_cons]
def ncF (W H : Int) (zs : List Int) : Int := ((trS W H zs (4 * W * H).toNat).1.length : Int)
/-- The code of a panel and of curves. -/
def ccF (W H : Int) (zs ks : List Int) : Int := if validB W H zs then (if ks.all (fun k => inR k 0 (ncF W H zs - 1)) then 0 else 2) else 1
theorem calls_i {p : Program} {f : Nat} {args : Array Value} {w : World} {P : World → Prop} {a b : Int} (h : Calls p f args w fun e w' => e = .returned (.int .i64 a) ∧ P w') (k : a = b) : Calls p f args w fun e w' => e = .returned (.int .i64 b) ∧ P w' := k ▸ h
theorem infoPtM : (Try.prog.info? 32).map (fun i => (i.zero, i.size, i.bytes)) = some (some (.agg #[.int .i64 0, .int .i64 0]), 2, 16) := by kernel_rfl
set_option maxRecDepth 100000 in
set_option maxHeartbeats 4000000 in
theorem crossings_any (W H : Int) (A : Option Addr) (c : Nat) (zs : List Int) (w : World) (hz : Ints w w.heap.size A zs) (hv : validB W H zs = true) :
    Calls Try.prog 73 #[.agg #[.int .i64 W, .int .i64 H, .slice A zs.length c]] w fun e w' => (∃ A' c', e = .returned (.slice A' (crI zs zs.length).length c') ∧ w'.ownsRow w.heap.size 32 2 (.slice A' (crI zs zs.length).length c') (crI zs zs.length).length (crCells W H (crI zs zs.length))) ∧ Below w.heap.size w w' := by
  have hL := valid_len hv
  have HS := hid (valid_sides hv)
  obtain ⟨i1, i2⟩ := inner_le HS.out.1 HS.out.2
  obtain ⟨n, hn⟩ : ∃ n, zs.length = n := ⟨_, rfl⟩
  have hNN : (inner W H).toNat = n := by omega
  have hn112 : n ≤ 112 := by omega
  rw [hn]
  have HN := hid hn
  have HNN := hid hNN
  have HZ := hid hz
  clear hL hn hNN hz hv i1 i2
  obtain ⟨i0, hi, hz0, hz1, hz2⟩ := info_parts infoPtM
  go_enter Try.func73, Try.ntmps73
  go_wp2_with fail
  have ho0 := World.ownsRow_lit (base := w.heap.size + 1) (e := 32) (size := 2) (w.alloc (.cells #[.int .i64 W, .int .i64 H, .slice A n c] 30)) #[] 0 (by simp) (Nat.zero_le _) rfl
  simp only [World.size_alloc] at ho0
  have HO0 := hid ho0
  clear ho0
  refine (points_any W H _ _ _ _ HS.out.1 HS.out.2).mono ?_
  rintro e w1 ⟨⟨A1, c1, rfl, ho1⟩, hb1⟩
  rw [HNN.out] at ho1 ⊢
  have KP1 := hid (Box.keep (Box.alloc (Box.new w 30 #[.int .i64 W, .int .i64 H, .slice A n c]) (.cells #[] 32)) hb1)
  have HO1 := hid (own_keep HO0.out hb1)
  have HP1 := hid ho1
  have HB1 := hid (bbl (bal (bal (Below.refl _ _) _) _) hb1)
  clear hb1 ho1 HO0
  have hz1' := KP1.out.lt
  go_wp2_with fail
  go_loopg [3, 10] n (fun g v i wr => ∃ k : Nat, k ≤ n ∧ i = .int .i64 k ∧ g = n - k ∧ Hid (wr.ownsRow (w.heap.size + 1) 32 2 v (crI zs k).length (crCells W H (crI zs k))) ∧ Hid (wr.ownsRow (w.heap.size + 2) 32 2 (.slice A1 n c1) n (ptCells W H n)) ∧ Hid (Box wr w.heap.size 30 #[.int .i64 W, .int .i64 H, .slice A n c]) ∧ Hid (Below w.heap.size w wr) ∧ Hid (∀ q, v.ownBlock = some q → (Value.slice A1 n c1).ownBlock ≠ some q))
  case atStart => exact ⟨0, Nat.zero_le _, rfl, rfl, HO1, hid (Go.Joins.ownsRow_le HP1.out (by simp)), KP1, HB1, hid (fun q hq e => by have h1 := own_blk hq; have h2 := (HP1.out.lt q e).1; simp at h2; omega)⟩
  case round =>
    obtain ⟨k, hk, rfl, hg, HO, HP, KP, HB, HD⟩ := hrel
    have kz := HB.out.size
    by_cases hlt : k < n
    · obtain ⟨zk, hzk⟩ : ∃ z, zs[k]? = some z := ⟨_, List.getElem?_eq_getElem (by have := HN.out; omega)⟩
      have HG : Hid (zs.getD k 0 = zk) := hid (by rw [List.getD_eq_getElem?_getD, hzk]; rfl)
      obtain ⟨bb, off, rfl, hbb, hcc0⟩ := (HZ.out.below HB.out) k zk hzk
      have hbw : bb < wr.heap.size := by omega
      rcases Go.Joins.ownsRow_forms HP.out with ⟨_, hn0⟩ | ⟨gp, cp, ep⟩
      · exact absurd hlt (by omega)
      simp only [Value.slice.injEq] at ep
      obtain ⟨rfl, -, rfl⟩ := ep
      have hx0 : wr.cell? ⟨gp, k * 2, none⟩ = some (.int .i64 (ptX W H k)) := (HP.out.cellAt (k * 2) (by omega)).trans (ptCells_at0 W H hlt)
      have hx1 : wr.cell? ⟨gp, k * 2 + 1, none⟩ = some (.int .i64 (ptY W H k)) := (HP.out.cellAt (k * 2 + 1) (by omega)).trans (ptCells_at1 W H hlt)
      obtain ⟨X, hX⟩ : ∃ X, ptX W H k = X := ⟨_, rfl⟩
      obtain ⟨Y, hY⟩ : ∃ Y, ptY W H k = Y := ⟨_, rfl⟩
      rw [hX] at hx0
      rw [hY] at hx1
      have HX := hid hX
      have HY := hid hY
      have hgp := (HP.out.lt gp rfl).2
      have hlen := crI_len zs k
      obtain ⟨m, hm⟩ : ∃ m, (crI zs k).length = m := ⟨_, rfl⟩
      have HM := hid hm
      rw [hm] at HO hlen
      obtain ⟨Pa, Pb, Pc⟩ := KP.out.three
      have Pz := KP.out.lt
      clear hzk hX hY hm
      by_cases h0 : zk = 0
      · have hb0 : (zk == 0) = true := by simp [h0]
        have HCR : Hid (crI zs (k + 1) = crI zs k ++ [k]) := hid (by rw [crI_succ, HG.out, hb0]; rfl)
        clear h0
        go_wp2_with (at_builtin; (refine wpList_append_lies _ rfl _ _ 79 rfl (w.heap.size + 1) 32 i0 (.agg #[.int .i64 0, .int .i64 0]) 2 16 Try.underlying79 hi hz0 hz1 hz2 rfl (by decide) _ m (crCells W H (crI zs k)) rfl ((HO.out.alloc _).alloc _) ⟨wr.heap.size + 1, 0, none⟩ 1 1 [.int .i64 X, .int .i64 Y] rfl rfl (World.news_of_block (cs := #[.int .i64 X, .int .i64 Y]) (t := 32) (fr := (0, 0)) (by have h := heap_alloc_new (wr.alloc (.cells #[.int .i64 X, .int .i64 Y] 32)) (.cells #[.int .i64 X, .int .i64 Y] 32); simpa using h)) (by simp [Value.oneCell']) (by decide) (by unfold maxLen; omega) (by omega) (by simp; omega) (wr.heap.size + 2) (by simp) ?_; intro gg cap wz ho2 hgr hat hlt2; have HHa := hid (And.intro ho2 (And.intro hgr (And.intro hat hlt2))); clear ho2 hgr hat hlt2))
        go_roundg (n - (k + 1))
        case measure => omega
        case rel =>
          have HHb := HHa.out
          refine ⟨k + 1, by omega, by go_num, rfl, hid ?_, hid ?_, hid ?_, hid ?_, hid ?_⟩
          · rw [HCR.out, List.length_append, HM.out, crCells_snoc, HX.out, HY.out]; exact HHb.1
          · refine World.ownsRow.kept ((HP.out.alloc _).alloc _) HHb.2.1 (.inr fun e => ?_)
            exact HD.out gp e.symm rfl
          · exact Box.grew (Box.alloc (Box.alloc KP.out _) _) HHb.2.1 (fun q hq => by have := (HO.out.lt q hq).1; omega)
          · exact bgrew (lo := w.heap.size + 1) (bal (bal HB.out _) _) HHb.2.1 (fun q hq => (HO.out.lt q hq).1) (by omega)
          · intro q hq e
            have e1 := own_blk hq
            subst e1
            rcases HHb.2.2.1 with h1 | h1
            · exact HD.out _ h1 e
            · have h3 := own_blk e; omega
      · have hb0 : (zk == 0) = false := by simp [h0]
        have HCR : Hid (crI zs (k + 1) = crI zs k) := hid (by rw [crI_succ, HG.out, hb0]; simp)
        clear h0
        go_wp2_with fail
        go_roundg (n - (k + 1))
        case measure => omega
        case rel => exact ⟨k + 1, by omega, by go_num, rfl, hid (by rw [HCR.out, HM.out]; exact HO.out.alloc _), hid (HP.out.alloc _), hid (Box.alloc KP.out _), hid (bal HB.out _), HD⟩
    · obtain rfl : k = n := by omega
      obtain ⟨A9, c9, e9⟩ := own_form HO.out
      subst e9
      go_wp2_with fail
      go_ret
      exact ⟨⟨A9, c9, rfl, Go.Joins.ownsRow_le HO.out (by omega)⟩, HB.out⟩
set_option maxRecDepth 100000 in
set_option maxHeartbeats 4000000 in
theorem curveCode_any (W H : Int) (A A2 : Option Addr) (c c2 : Nat) (zs ks : List Int) (w : World) (hz : Ints w w.heap.size A zs) (hl : zs.length ≤ maxLen) (hk2 : Ints w w.heap.size A2 ks) (hkl : ks.length ≤ 1000) :
    Calls Try.prog 72 #[.agg #[.int .i64 W, .int .i64 H, .slice A zs.length c], .slice A2 ks.length c2] w fun e w' => e = .returned (.int .i64 (ccF W H zs ks)) ∧ Below w.heap.size w w' := by
  obtain ⟨n, hn⟩ : ∃ n, ks.length = n := ⟨_, rfl⟩
  rw [hn] at hkl ⊢
  have HN := hid hn
  clear hn
  cases hv : validB W H zs
  · have HV : Hid (ccF W H zs ks = 1) := hid (by simp [ccF, hv])
    have Hv := hid hv
    clear hv
    go_enter Try.func72, Try.ntmps72
    go_wp2_with fail
    refine (calls_bool (validPanel_any W H A c zs _ ((hz.below (bal (Below.refl _ _) _)).more (bal (Below.refl _ _) _).size) hl) Hv.out).mono ?_
    rintro e w1 ⟨rfl, hb1⟩
    have KP1 := hid (Box.keep (Box.new w _ _) hb1)
    have HB1 : Hid (Below w.heap.size w w1) := hid (bstep (bal (Below.refl _ _) _) hb1)
    clear hb1
    obtain ⟨Pa, Pb, Pc⟩ := KP1.out.three
    have Pz := KP1.out.lt
    go_wp2_with fail
    go_ret
    exact ⟨ret_int HV.out.symm, HB1.out⟩
  · have HV : Hid (ccF W H zs ks = if ks.all (fun k => inR k 0 (ncF W H zs - 1)) then 0 else 2) := hid (by simp [ccF, hv])
    have hfew := tr_few hv
    have Hv := hid hv
    clear hv
    go_enter Try.func72, Try.ntmps72
    go_wp2_with fail
    refine (calls_bool (validPanel_any W H A c zs _ ((hz.below (bal (Below.refl _ _) _)).more (bal (Below.refl _ _) _).size) hl) Hv.out).mono ?_
    rintro e w1 ⟨rfl, hb1⟩
    have KP1 := hid (Box.keep (Box.new w _ _) hb1)
    have HB1 : Hid (Below w.heap.size w w1) := hid (bstep (bal (Below.refl _ _) _) hb1)
    clear hb1
    obtain ⟨Pa, Pb, Pc⟩ := KP1.out.three
    have Pz := KP1.out.lt
    go_wp2_with fail
    clear Pa Pb Pc Pz
    go_loopg [12] n (fun g i wr => ∃ k : Nat, k ≤ n ∧ i = .int .i64 k ∧ g = n - k ∧ Hid ((ks.take k).all (fun k => inR k 0 (ncF W H zs - 1)) = true) ∧ Hid (Box wr w.heap.size 30 #[.int .i64 W, .int .i64 H, .slice A zs.length c]) ∧ Hid (Below w.heap.size w wr))
    case atStart => exact ⟨0, Nat.zero_le _, rfl, rfl, hid rfl, KP1, HB1⟩
    case round =>
      obtain ⟨k, hk, rfl, hg, HA, KP, HB⟩ := hrel
      obtain ⟨Pa, Pb, Pc⟩ := KP.out.three
      have Pz := KP.out.lt
      by_cases hlt : k < n
      · obtain ⟨q, hq⟩ : ∃ z, ks[k]? = some z := ⟨_, List.getElem?_eq_getElem (by have := HN.out; omega)⟩
        obtain ⟨bb, off, rfl, hbb, hcc⟩ := (hk2.below HB.out) k q hq
        have HQ := hid hq
        clear hq
        obtain ⟨nc, hnc⟩ : ∃ z : Int, ((trS W H zs (4 * W * H).toNat).1.length : Int) = z := ⟨_, rfl⟩
        have HNC := hid hnc
        have hncb : 0 ≤ nc ∧ nc ≤ 256 := by omega
        obtain ⟨nc1, nc2⟩ := hncb
        clear hnc
        go_wp2_with fail
        refine (calls_i (countCurves_any W H A c zs _ ((hz.below HB.out).more HB.out.size) hl Hv.out) HNC.out).mono ?_
        rintro e w2 ⟨rfl, hb2⟩
        have KP2 := hid (Box.keep KP.out hb2)
        have HB2 := hid (bbl HB.out hb2)
        clear hb2 Pa Pb Pc Pz
        go_wp2_with fail
        cases hr : inR q 0 (nc - 1)
        · have HR := hid hr
          have HE : Hid (ccF W H zs ks = 2) := hid (by rw [HV.out, if_neg]; rw [List.all_eq_true]; intro h; have := h q (List.mem_of_getElem? HQ.out); unfold ncF at this; rw [HNC.out, hr] at this; cases this)
          clear hr
          refine (calls_bool (inRange_any _ _ _ _) HR.out).mono ?_
          rintro e w' ⟨rfl, rfl⟩
          go_wp2_with fail
          go_ret
          exact ⟨ret_int HE.out.symm, HB2.out⟩
        · have HR := hid hr
          have HE : Hid ((ks.take (k + 1)).all (fun k => inR k 0 (ncF W H zs - 1)) = true) := hid (by rw [List.take_add_one, HQ.out, List.all_append, HA.out]; simp only [Option.toList_some, List.all_cons, List.all_nil, Bool.and_true, Bool.true_and]; unfold ncF; rw [HNC.out]; exact hr)
          clear hr
          refine (calls_bool (inRange_any _ _ _ _) HR.out).mono ?_
          rintro e w' ⟨rfl, rfl⟩
          go_wp2_with fail
          go_roundg (n - (k + 1))
          case measure => omega
          case rel => exact ⟨k + 1, by omega, by go_num, rfl, HE, KP2, HB2⟩
      · obtain rfl : k = n := by omega
        have HE : Hid (ccF W H zs ks = 0) := hid (by rw [HV.out, if_pos]; have h := HA.out; rw [List.take_of_length_le (by have := HN.out; omega)] at h; exact h)
        go_wp2_with fail
        go_ret
        exact ⟨ret_int HE.out.symm, HB.out⟩
end Go.Proofs.Ytbgigompkmnapaa

/- CurvesOf. -/
import Derived.Test.YtbgigompkmnapaaCu
import Derived.Test.YtbgigompkmnapaaEn
import Derived.OwnWalk
import Derived.Lib.SmallJoins
namespace Go.Proofs.Ytbgigompkmnapaa
set_option linter.unusedSimpArgs false
set_option linter.unusedVariables false
open Go.ChangeShapes Go.WideShapes Go.ChangeAt Go.RowKit
/-- What CurvesOf answers. -/
def coL (W H : Int) (zs : List Int) : List (List Int) := if validB W H zs then (trS W H zs (4 * W * H).toNat).1.map flatP else []
def coM (W H : Int) (zs : List Int) : List Nat := if validB W H zs then (trS W H zs (4 * W * H).toNat).1.map List.length else []
theorem curP_map (cs : List (List Wkr)) : curP cs = (cs.map flatP).map vals := by simp [curP, Function.comp_def]
theorem coL_length (W H : Int) (zs : List Int) : (coL W H zs).length = clN W H zs := by
  unfold coL clN
  split <;> simp
theorem coM_length (W H : Int) (zs : List Int) : (coM W H zs).length = clN W H zs := by
  unfold coM clN
  split <;> simp
theorem coL_len (W H : Int) (zs : List Int) : ∀ (i : Nat) cs m, (coL W H zs)[i]? = some cs → (coM W H zs)[i]? = some m → cs.length = 2 * m := by
  intro i cs m h1 h2
  unfold coL at h1
  unfold coM at h2
  split at h1
  · rename_i hv
    rw [if_pos hv] at h2
    simp only [List.getElem?_map, Option.map_eq_some_iff] at h1 h2
    obtain ⟨c, hc, rfl⟩ := h1
    obtain ⟨c', hc', rfl⟩ := h2
    rw [hc] at hc'
    injection hc' with hc'
    subst hc'
    rw [flatP_length]; omega
  · simp at h1
theorem sum_take_le (ns : List Nat) (j : Nat) : (ns.take j).sum ≤ ns.sum := by
  induction ns generalizing j with
  | nil => simp
  | cons n ns ih =>
    cases j with
    | zero => simp
    | succ j => simp only [List.take_succ_cons, List.sum_cons]; have := ih j; omega
theorem sum_bd (ns : List Nat) (b : Nat) (h : ∀ x ∈ ns, x ≤ b) : ns.sum ≤ b * ns.length := by
  induction ns with
  | nil => simp
  | cons n ns ih =>
    have h1 := h n List.mem_cons_self
    have h2 := ih (fun x hx => h x (List.mem_cons_of_mem _ hx))
    simp only [List.sum_cons, List.length_cons, Nat.mul_succ]
    omega
theorem coM_mono (W H : Int) (zs : List Int) : ∀ j, sumN (coM W H zs) j ≤ sumN (coM W H zs) (clN W H zs) := by
  intro j
  unfold sumN
  rw [← coM_length, List.take_length]
  have := sum_take_le (coM W H zs) j
  omega
theorem coM_bd (W H : Int) (zs : List Int) : sumN (coM W H zs) (clN W H zs) ≤ 131072 := by
  unfold sumN
  rw [← coM_length, List.take_length]
  have h1 : ∀ x ∈ coM W H zs, x ≤ 256 := by
    intro x hx
    unfold coM at hx
    split at hx
    · rename_i hv
      simp only [List.mem_map] at hx
      obtain ⟨c, hc, rfl⟩ := hx
      obtain ⟨i, hi⟩ := List.mem_iff_getElem?.1 hc
      obtain ⟨s, hs, rfl, _⟩ := (trS_inv hv _ (Nat.le_refl _)).cur i c hi
      unfold curS
      rw [List.length_map, List.length_range]
      exact (per_spec hv hs).2.1
    · simp at hx
  have h2 := sum_bd _ 256 h1
  have h3 := clN_le W H zs
  rw [coM_length] at h2
  have : 256 * clN W H zs ≤ 65536 := by omega
  omega
theorem flatW_at {cs : List Wkr} {i : Nat} {s : Wkr} (h : cs[i]? = some s) : (flatW cs)[i * 4]? = some s.1 ∧ (flatW cs)[i * 4 + 1]? = some s.2.1 ∧ (flatW cs)[i * 4 + 2]? = some s.2.2.1 ∧ (flatW cs)[i * 4 + 3]? = some s.2.2.2 := by
  induction cs generalizing i with
  | nil => simp at h
  | cons a l ih =>
    cases i with
    | zero => simp at h; subst h; simp [flatW, wnum]
    | succ i =>
      simp only [List.getElem?_cons_succ] at h
      have := ih h
      have e : flatW (a :: l) = [a.1, a.2.1, a.2.2.1, a.2.2.2] ++ flatW l := rfl
      rw [e, show (i + 1) * 4 = i * 4 + 4 by omega]
      refine ⟨?_, ?_, ?_, ?_⟩
      · rw [List.getElem?_append_right (by simp)]; simpa using this.1
      · rw [List.getElem?_append_right (by simp)]; simpa using this.2.1
      · rw [List.getElem?_append_right (by simp)]; simpa using this.2.2.1
      · rw [List.getElem?_append_right (by simp)]; simpa using this.2.2.2
theorem tr_cl {W H : Int} {zs : List Int} (hv : validB W H zs = true) : ∀ (j : Nat) c, (trS W H zs (4 * W * H).toNat).1[j]? = some c → c.length ≤ 256 := by
  intro j c hc
  obtain ⟨s, hs, rfl, _⟩ := (trS_inv hv _ (Nat.le_refl _)).cur j c hc
  unfold curS
  rw [List.length_map, List.length_range]
  exact (per_spec hv hs).2.1
theorem flatP_take {cs : List Wkr} {i : Nat} {s : Wkr} (h : cs[i]? = some s) : flatP (cs.take (i + 1)) = flatP (cs.take i) ++ [s.1, s.2.1] := by
  rw [List.take_add_one, h]
  simp [flatP, pnum]
theorem curP_take {cs : List (List Wkr)} {j : Nat} {c : List Wkr} (h : cs[j]? = some c) : curP (cs.take (j + 1)) = curP (cs.take j) ++ [vals (flatP c)] := by
  rw [List.take_add_one, h]
  simp [curP]

set_option maxRecDepth 100000 in
set_option maxHeartbeats 4000000 in
theorem implCurvesOf_any (W H : Int) (A : Option Addr) (c : Nat) (zs : List Int) (w : World) (hz : Ints w w.heap.size A zs) (hl : zs.length ≤ maxLen) :
    Calls Try.prog 48 #[.agg #[.int .i64 W, .int .i64 H, .slice A zs.length c]] w fun e w' => (∃ A' c', e = .returned (.tuple #[.slice A' (clN W H zs) c', .int .i64 (ccC W H zs)]) ∧ Nest w' w.heap.size w'.heap.size 79 32 2 (.slice A' (clN W H zs) c') ((coL W H zs).map vals)) ∧ Below w.heap.size w w' := by
  cases hv : validB W H zs
  · have HV : Hid (clN W H zs = 0 ∧ coL W H zs = [] ∧ ccC W H zs = 1) := hid (by simp [clN, coL, ccC, hv])
    have Hv := hid hv
    clear hv
    go_enter Try.func48, Try.ntmps48
    go_wp2_with fail
    refine (calls_bool (validPanel_any W H A c zs _ ((hz.below (bal (Below.refl _ _) _)).more (bal (Below.refl _ _) _).size) hl) Hv.out).mono ?_
    rintro e w1 ⟨rfl, hb1⟩
    have KP1 : Hid (Box w1 (w.heap.size) 30 #[.int .i64 W, .int .i64 H, .slice A zs.length c]) := hid (Box.keep (Box.new' _ _ _ _ (by simp)) hb1)
    have HB1 : Hid (Below w.heap.size w w1) := hid (bstep (bal (Below.refl _ _) _) hb1)
    clear hb1
    obtain ⟨Pa, Pb, Pc⟩ := KP1.out.three
    have Pz := KP1.out.lt
    go_wp2_with fail
    go_ret2
    exact ⟨⟨none, 0, by rw [HV.out.1, HV.out.2.2] <;> rfl, by rw [HV.out.1, HV.out.2.1]; exact Nest.nil (World.ownsRow_nil _ _ _ _) _⟩, (HB1.out)⟩
  · have HV : Hid (clN W H zs = (trS W H zs (4 * W * H).toNat).1.length ∧ (coL W H zs).map vals = curP (trS W H zs (4 * W * H).toNat).1 ∧ ccC W H zs = 0) := hid ⟨by simp [clN, hv], by rw [curP_map]; simp [coL, hv], by simp [ccC, hv]⟩
    have hfew := tr_few hv
    have Hv := hid hv
    clear hv
    obtain ⟨i0, hi, hz0, hz1, hz2⟩ := info_parts infoPt
    obtain ⟨m0, hm, mz0, mz1, mz2⟩ := info_parts infoSQk
    go_enter Try.func48, Try.ntmps48
    go_wp2_with fail
    refine (calls_bool (validPanel_any W H A c zs _ ((hz.below (bal (Below.refl _ _) _)).more (bal (Below.refl _ _) _).size) hl) Hv.out).mono ?_
    rintro e w1 ⟨rfl, hb1⟩
    have KP1 : Hid (Box w1 (w.heap.size) 30 #[.int .i64 W, .int .i64 H, .slice A zs.length c]) := hid (Box.keep (Box.new' _ _ _ _ (by simp)) hb1)
    have HB1 : Hid (Below w.heap.size w w1) := hid (bstep (bal (Below.refl _ _) _) hb1)
    clear hb1
    obtain ⟨Pa, Pb, Pc⟩ := KP1.out.three
    have Pz := KP1.out.lt
    go_wp2_with fail
    have ho1 := World.ownsRow_lit (base := w.heap.size + 1) (e := 79) (size := 1) w1 #[] 0 (by have := KP1.out.lt; omega) (Nat.zero_le _) rfl
    have HO1 := hid (Nest.nil (TI := 32) (s := 2) ho1 w1.heap.size)
    clear ho1
    refine (trace_any W H A c zs _ ((hz.below (bal (HB1.out) _)).more (bal (HB1.out) _).size) hl Hv.out).mono ?_
    rintro e w2 ⟨⟨E1, d1, E2, d2, rfl, hne, hro⟩, hb2⟩
    have hz9 := hb2.size
    simp only [World.size_alloc] at hz9
    have HO2 := hid (HO1.out.keep hb2)
    have HNE := hid hne
    have HRO := hid hro
    clear hne hro
    clear Pa Pb Pc Pz
    have KP2 : Hid (Box w2 (w.heap.size) 30 #[.int .i64 W, .int .i64 H, .slice A zs.length c]) := hid (Box.keep (Box.alloc (KP1.out) _) hb2)
    have HB2 : Hid (Below w.heap.size w w2) := hid (bstep (bal (HB1.out) _) hb2)
    clear hb2
    obtain ⟨Pa, Pb, Pc⟩ := KP2.out.three
    have Pz := KP2.out.lt
    obtain ⟨cs, hcs⟩ : ∃ cs, cs = (trS W H zs (4 * W * H).toNat).1 := ⟨_, rfl⟩
    rw [← hcs] at HV hfew HNE
    rw [← hcs]
    have HCL : Hid (∀ (j : Nat) c, cs[j]? = some c → c.length ≤ 256) := hid (by rw [hcs]; exact tr_cl Hv.out)
    clear hcs
    have hkp := KP2.out.lt
    have HNE2 := hid HNE.out
    have hwz := HB2.out.size
    clear Pa Pb Pc Pz
    go_wp2_with fail
    go_loopg [4, 23] cs.length (fun g v i wr => ∃ j : Nat, j ≤ cs.length ∧ i = .int .i64 j ∧ g = cs.length - j ∧ Hid (Nest wr (w.heap.size + 1) wr.heap.size 79 32 2 v (curP (cs.take j))) ∧ Hid (Nest wr (w1.heap.size + 1) w2.heap.size 48 52 4 (.slice E1 cs.length d1) (curZ cs)) ∧ Hid (Below w.heap.size w wr) ∧ w2.heap.size ≤ wr.heap.size)
    case atStart => exact ⟨0, Nat.zero_le _, rfl, rfl, hid (by have h := Nest.more HO2.out (hi' := w2.heap.size) (by omega); simpa [curP] using h), hid (by simpa using HNE2.out), HB2, Nat.le_refl _⟩
    case round =>
      obtain ⟨j, hj, rfl, hg, NO, NE, HB, hw2⟩ := hrel
      obtain ⟨wo, rfl⟩ : ∃ z, z = wr := ⟨_, rfl⟩
      have hwo := HB.out.size
      by_cases hlt : j < cs.length
      · obtain ⟨cj, hcj⟩ : ∃ cj, cs[j]? = some cj := ⟨_, List.getElem?_eq_getElem hlt⟩
        obtain ⟨vs, hO, hI, hD⟩ := NE.out
        rw [curZ_length] at hO
        obtain ⟨vi, ni, hvi, hri⟩ := hI j (vals (flatW cj)) (by simp [curZ, hcj])
        obtain rfl := cur_len hri
        have HT : Hid (curP (cs.take (j + 1)) = curP (cs.take j) ++ [vals (flatP cj)]) := hid (curP_take hcj)
        have hc256 := HCL.out j cj hcj
        have HCR := hid hri.1
        have hcl := own_max hri.1
        unfold maxLen at hcl
        obtain ⟨Ai, ci, rfl⟩ := own_form hri.1
        obtain ⟨gq, cq, he⟩ := Go.Joins.ownsRow_form hO (by omega)
        simp only [Value.slice.injEq] at he
        obtain ⟨rfl, -, rfl⟩ := he
        have hca : wo.cell? ⟨gq, j, none⟩ = some (.slice Ai cj.length ci) := (World.ownsRow.cellAt hO j (by omega)).trans hvi
        have hoi := World.ownsRow_lit (base := wo.heap.size) (e := 32) (size := 2) wo #[] 0 (Nat.le_refl _) (Nat.zero_le _) rfl
        have HOI := hid hoi
        clear hO hI hD hvi hri hcj hoi
        go_wp2_with fail
        go_loopg [9, 30] cj.length (fun g v i wx => ∃ q : Nat, q ≤ cj.length ∧ i = .int .i64 q ∧ g = cj.length - q ∧ Hid (wx.ownsRow wo.heap.size 32 2 v q (vals (flatP (cj.take q)))) ∧ Hid (Below wo.heap.size wo wx))
        case atStart => exact ⟨0, Nat.zero_le _, rfl, rfl, hid (by simpa [flatP] using HOI.out), hid (bal (Below.refl _ _) _)⟩
        case round =>
          clear hca HOI
          obtain ⟨q, hq, rfl, hg3, HC, HBx⟩ := hrel
          have hwx := HBx.out.size
          by_cases hlq : q < cj.length
          · obtain ⟨s, hs⟩ : ∃ s, cj[q]? = some s := ⟨_, List.getElem?_eq_getElem hlq⟩
            obtain ⟨f0, f1, f2, f3⟩ := flatW_at hs
            have HFT := hid (flatP_take hs)
            have HCx := own_keep HCR.out HBx.out
            obtain ⟨gi, cc, he⟩ := Go.Joins.ownsRow_form HCx (by omega)
            simp only [Value.slice.injEq] at he
            obtain ⟨rfl, -, rfl⟩ := he
            obtain ⟨x, y, u, v, hst⟩ : ∃ x y u v, s = (x, y, u, v) := ⟨_, _, _, _, rfl⟩
            rw [hst] at f0 f1 f2 f3 HFT
            dsimp only at f0 f1 f2 f3 HFT
            have k0 : wr.cell? ⟨gi, q * 4, none⟩ = some (.int .i64 x) := (World.ownsRow.cellAt HCx (q * 4) (by omega)).trans (by simp [vals, f0])
            have k1 : wr.cell? ⟨gi, q * 4 + 1, none⟩ = some (.int .i64 y) := (World.ownsRow.cellAt HCx (q * 4 + 1) (by omega)).trans (by simp [vals, f1])
            have k2 : wr.cell? ⟨gi, q * 4 + 2, none⟩ = some (.int .i64 u) := (World.ownsRow.cellAt HCx (q * 4 + 2) (by omega)).trans (by simp [vals, f2])
            have k3 : wr.cell? ⟨gi, q * 4 + 3, none⟩ = some (.int .i64 v) := (World.ownsRow.cellAt HCx (q * 4 + 3) (by omega)).trans (by simp [vals, f3])
            have gz : gi < wr.heap.size := (HCx.lt gi rfl).2
            have hnw := World.news_of_block (heap_alloc_new (wr.alloc (.cells #[.int .i64 x, .int .i64 y, .int .i64 u, .int .i64 v] 52)) (.cells #[.int .i64 x, .int .i64 y] 32))
            rw [World.size_alloc] at hnw
            have HNW := hid hnw
            clear f0 f1 f2 f3 hs hst hnw HCx
            go_wp2_with (at_builtin; (refine wpList_append_own _ rfl _ _ 79 rfl wo.heap.size 32 i0 (.agg #[.int .i64 0, .int .i64 0]) 2 16 Try.underlying79 hi hz0 hz1 hz2 rfl (by decide) _ q (vals (flatP (cj.take q))) rfl ((HC.out.alloc (.cells #[.int .i64 x, .int .i64 y, .int .i64 u, .int .i64 v] 52)).alloc _) ⟨wr.heap.size + 1, 0, none⟩ 1 1 [.int .i64 x, .int .i64 y] rfl rfl HNW.out (by simp [Value.oneCell']) (by unfold maxLen; omega) (by omega) (by simp; omega) ?_; intro v' wz ho2 hgr _))
            have HH := hid (And.intro ho2 hgr)
            clear ho2 hgr
            go_roundg (cj.length - (q + 1))
            case measure => omega
            case rel => exact ⟨q + 1, by omega, by go_num, rfl, hid (by rw [HFT.out]; simpa [vals] using HH.out.1), hid (Below.grown (Below.alloc (Below.alloc HBx.out hwx _) (by simp; omega) _) HH.out.2 (by simp; omega) (fun k hk => (HC.out.lt k hk).1))⟩
          · obtain rfl : q = cj.length := by omega
            have HTT : Hid (flatP (cj.take cj.length) = flatP cj) := hid (by rw [List.take_length])
            rw [HTT.out] at HC
            have hmx := own_max HC.out
            obtain ⟨Ap, cp, rfl⟩ := own_form HC.out
            have NOx := hid ((NO.out.keep HBx.out).alloc (.cells #[.slice Ap cj.length cp] 79))
            have HNl := hid NOx.out.lt
            obtain ⟨vs, hO, hI, hD⟩ := NOx.out
            rw [show (curP (cs.take j)).length = j by simp [curP]; omega] at hO
            have HNP := hid (And.intro hO (And.intro hI hD))
            clear hO hI hD
            go_wp2_with (at_builtin; (refine wpList_append_own _ rfl _ _ 72 rfl (w.heap.size + 1) 79 m0 (.slice none 0 0) 1 24 Try.underlying72 hm mz0 mz1 mz2 rfl (by decide) _ j vs rfl HNP.out.1 ⟨wr.heap.size, 0, none⟩ 1 1 [.slice Ap cj.length cp] rfl rfl (World.news_of_block (cs := #[.slice Ap cj.length cp]) (t := 79) (fr := (0, 0)) (heap_alloc_new wr _)) (by simp [Value.oneCell']) (by unfold maxLen; omega) (by omega) (by simp; omega) ?_; intro v' wz ho2 hgr _))
            have HH := hid (And.intro ho2 hgr)
            clear ho2 hgr
            have hjl : (curP (cs.take j)).length = j := by simp [curP]; omega
            go_roundg (cs.length - (j + 1))
            case measure => omega
            case rel => exact ⟨j + 1, by omega, by go_num, rfl, hid (by rw [HT.out]; exact Nest.snoc (by rw [hjl]; exact HNP.out.1) HNP.out.2.1 HNP.out.2.2 (HC.out.alloc _) (Nat.le_refl _) (by omega) (by rw [hjl]; exact HH.out.1) HH.out.2 (by decide) _ rfl), hid (((NE.out.keep HBx.out).alloc _).other HNP.out.1 HH.out.2 (by decide) (by decide)), hid (bgrew (lo := w.heap.size + 1) (bal (bbl HB.out HBx.out) _) HH.out.2 (fun k hk => (HNl.out k hk).1) (by omega)), by have h := HH.out.2.size; simp only [World.size_alloc] at h; omega⟩
      · obtain rfl : j = cs.length := by omega
        have HTT : Hid (cs.take cs.length = cs) := hid (List.take_length)
        rw [HTT.out] at NO
        obtain ⟨vs, hO⟩ := NO.out.outer
        rw [curP_length] at hO
        obtain ⟨Ao, co, rfl⟩ := own_form hO
        clear hO
        go_wp2_with fail
        go_ret2
        exact ⟨⟨Ao, co, by rw [HV.out.1, HV.out.2.2] <;> rfl, by rw [HV.out.1, HV.out.2.1]; exact NO.out.from' (by omega)⟩, HB.out⟩
end Go.Proofs.Ytbgigompkmnapaa

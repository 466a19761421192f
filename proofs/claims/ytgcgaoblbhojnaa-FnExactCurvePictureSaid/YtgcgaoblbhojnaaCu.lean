/- Counting and listing curves. -/
import Derived.Test.YtgcgaoblbhojnaaTi
import Derived.Test.YtgcgaoblbhojnaaTj
import Derived.Test.YtgcgaoblbhojnaaEi
import Derived.OwnWalk
import Derived.Lib.SmallJoins
namespace Go.Proofs.Ytgcgaoblbhojnaa
set_option linter.unusedSimpArgs false
set_option linter.unusedVariables false
open Go.ChangeShapes Go.WideShapes Go.ChangeAt Go.RowKit
theorem tr_few {W H : Int} {zs : List Int} (hv : validB W H zs = true) : (trS W H zs (4 * W * H).toNat).1.length ≤ 256 := by
  have := (trS_inv hv (4 * W * H).toNat (Nat.le_refl _)).few
  have := segs_bd (valid_sides hv).1 (valid_sides hv).2
  omega
theorem tr_len {W H : Int} {zs : List Int} (hv : validB W H zs = true) : (trS W H zs (4 * W * H).toNat).2.length = (4 * W * H).toNat := (trS_inv hv (4 * W * H).toNat (Nat.le_refl _)).len
theorem nn_bd {W H : Int} {zs : List Int} (hv : validB W H zs = true) : 4 ≤ (4 * W * H).toNat ∧ (4 * W * H).toNat ≤ 256 ∧ ((4 * W * H).toNat : Int) = 4 * W * H := by
  have := segs_bd (valid_sides hv).1 (valid_sides hv).2
  omega
/-- What CountCurves, CurveAt, SegmentCurves, CurveLengths, IsSingle answer. -/
def ccR (W H : Int) (zs : List Int) : Int := if validB W H zs then ((trS W H zs (4 * W * H).toNat).1.length : Int) else 0
def ccC (W H : Int) (zs : List Int) : Int := if validB W H zs then 0 else 1
def siB (W H : Int) (zs : List Int) : Bool := validB W H zs && ((trS W H zs (4 * W * H).toNat).1.length : Int) == 1
def caR (W H : Int) (zs : List Int) (a : Int) : Int := if validB W H zs && inR a 0 (4 * W * H - 1) then (trS W H zs (4 * W * H).toNat).2.getD a.toNat 0 else 0
def caC (W H : Int) (zs : List Int) (a : Int) : Int := if validB W H zs then (if inR a 0 (4 * W * H - 1) then 0 else 2) else 1
def scL (W H : Int) (zs : List Int) : List Int := if validB W H zs then (trS W H zs (4 * W * H).toNat).2 else []
def scN (W H : Int) (zs : List Int) : Nat := if validB W H zs then (4 * W * H).toNat else 0
def lensL (cs : List (List Wkr)) : List Int := cs.map fun c => (c.length : Int)
def clL (W H : Int) (zs : List Int) : List Int := if validB W H zs then lensL (trS W H zs (4 * W * H).toNat).1 else []
def clN (W H : Int) (zs : List Int) : Nat := if validB W H zs then (trS W H zs (4 * W * H).toNat).1.length else 0
theorem scN_le (W H : Int) (zs : List Int) : scN W H zs ≤ 256 := by
  unfold scN
  split
  · rename_i h; exact (nn_bd h).2.1
  · omega
theorem clN_le (W H : Int) (zs : List Int) : clN W H zs ≤ 256 := by
  unfold clN
  split
  · rename_i h; exact tr_few h
  · omega
theorem ret_i2 {a b c d : Int} (h : a = c) (k : b = d) : Ending.returned (.tuple #[.int .i64 a, .int .i64 b]) = .returned (.tuple #[.int .i64 c, .int .i64 d]) := by rw [h, k]
theorem cur_len {w : World} {lo hi n : Nat} {vi : Value} {c : List Wkr} (h : Rgn w lo hi 100 4 vi n (vals (flatW c))) : n = c.length := by
  have := h.1.1
  simp only [vals, List.length_map, flatW_length] at this
  omega
theorem curP_len {w : World} {lo hi n : Nat} {vi : Value} {c : List Wkr} (h : Rgn w lo hi 69 2 vi n (vals (flatP c))) : n = c.length := by
  have := h.1.1
  simp only [vals, List.length_map, flatP_length] at this
  omega

set_option maxRecDepth 100000 in
set_option maxHeartbeats 2000000 in
theorem countCurves_any (W H : Int) (A : Option Addr) (c : Nat) (zs : List Int) (w : World) (hz : Ints w w.heap.size A zs) (hl : zs.length ≤ maxLen) (hv : validB W H zs = true) :
    Calls Try.prog 114 #[.agg #[.int .i64 W, .int .i64 H, .slice A zs.length c]] w fun e w' => e = .returned (.int .i64 ((trS W H zs (4 * W * H).toNat).1.length : Int)) ∧ Below w.heap.size w w' := by
  have hfew := tr_few hv
  have Hv := hid hv
  clear hv
  go_enter Try.func114, Try.ntmps114
  go_wp2_with fail
  refine (trace_any W H A c zs _ ((hz.below (bal (Below.refl _ _) _)).more (bal (Below.refl _ _) _).size) hl Hv.out).mono ?_
  rintro e w1 ⟨⟨E1, d1, E2, d2, rfl, hne, hro⟩, hb1⟩
  have HNE := hid hne
  have HRO := hid hro
  clear hne hro
  have KP1 : Hid (Box w1 (w.heap.size) 39 #[.int .i64 W, .int .i64 H, .slice A zs.length c]) := hid (Box.keep (Box.new' _ _ _ _ (by simp)) hb1)
  have HB1 : Hid (Below w.heap.size w w1) := hid (bstep (bal (Below.refl _ _) _) hb1)
  clear hb1
  obtain ⟨Pa, Pb, Pc⟩ := KP1.out.three
  have Pz := KP1.out.lt
  go_wp2_with fail
  go_ret
  exact ⟨rfl, (HB1.out)⟩
set_option maxRecDepth 100000 in
set_option maxHeartbeats 4000000 in
theorem specCurveLengths_any (W H : Int) (A : Option Addr) (c : Nat) (zs : List Int) (w : World) (hz : Ints w w.heap.size A zs) (hl : zs.length ≤ maxLen) :
    Calls Try.prog 55 #[.agg #[.int .i64 W, .int .i64 H, .slice A zs.length c]] w fun e w' => (∃ A' c', e = .returned (.tuple #[.slice A' (clN W H zs) c', .int .i64 (ccC W H zs)]) ∧ w'.ownsRow w.heap.size 2 1 (.slice A' (clN W H zs) c') (clN W H zs) (vals (clL W H zs))) ∧ Below w.heap.size w w' := by
  cases hv : validB W H zs
  · have HV : Hid (clN W H zs = 0 ∧ clL W H zs = [] ∧ ccC W H zs = 1) := hid (by simp [clN, clL, ccC, hv])
    have Hv := hid hv
    clear hv
    go_enter Try.func55, Try.ntmps55
    go_wp2_with fail
    refine (qb (calls_bool (l02Ok_any _ W H A c zs _ w.heap.size (Box.new' _ _ _ _ (by simp)) (hz.below (bal (Below.refl _ _) _)) hl) Hv.out)).mono ?_
    rintro e w1 ⟨rfl, hb1⟩
    have KP1 : Hid (Box w1 (w.heap.size) 39 #[.int .i64 W, .int .i64 H, .slice A zs.length c]) := hid (Box.keep (Box.new' _ _ _ _ (by simp)) hb1)
    have HB1 : Hid (Below w.heap.size w w1) := hid (bstep (bal (Below.refl _ _) _) hb1)
    clear hb1
    obtain ⟨Pa, Pb, Pc⟩ := KP1.out.three
    have Pz := KP1.out.lt
    go_wp2_with fail
    go_ret2
    exact ⟨⟨none, 0, by rw [HV.out.1, HV.out.2.2] <;> rfl, by rw [HV.out.1, HV.out.2.1]; exact World.ownsRow_nil _ _ _ _⟩, (HB1.out)⟩
  · have HV : Hid (clN W H zs = (trS W H zs (4 * W * H).toNat).1.length ∧ clL W H zs = lensL (trS W H zs (4 * W * H).toNat).1 ∧ ccC W H zs = 0) := hid (by simp [clN, clL, ccC, hv])
    have hfew := tr_few hv
    have Hv := hid hv
    clear hv
    obtain ⟨i0, hi, hz0, hz1, hz2⟩ := info_parts infoI
    go_enter Try.func55, Try.ntmps55
    go_wp2_with fail
    refine (qb (calls_bool (l02Ok_any _ W H A c zs _ w.heap.size (Box.new' _ _ _ _ (by simp)) (hz.below (bal (Below.refl _ _) _)) hl) Hv.out)).mono ?_
    rintro e w1 ⟨rfl, hb1⟩
    have KP1 : Hid (Box w1 (w.heap.size) 39 #[.int .i64 W, .int .i64 H, .slice A zs.length c]) := hid (Box.keep (Box.new' _ _ _ _ (by simp)) hb1)
    have HB1 : Hid (Below w.heap.size w w1) := hid (bstep (bal (Below.refl _ _) _) hb1)
    clear hb1
    obtain ⟨Pa, Pb, Pc⟩ := KP1.out.three
    have Pz := KP1.out.lt
    go_wp2_with fail
    have ho1 := World.ownsRow_lit (base := w.heap.size + 1) (e := 2) (size := 1) w1 #[] 0 (by have := KP1.out.lt; omega) (Nat.zero_le _) rfl
    have HO1 := hid ho1
    clear ho1
    refine (l04All_any _ W H A c zs _ w.heap.size (bal (HB1.out) _).size (Box.alloc (KP1.out) _) (hz.below (bal (HB1.out) _)) hl Hv.out).mono ?_
    rintro e w2 ⟨⟨E1, d1, E2, d2, rfl, hne, hro⟩, hb2⟩
    have HO2 := hid (own_keep HO1.out hb2)
    have HNE := hid hne
    have HRO := hid hro
    clear hne hro
    clear Pa Pb Pc Pz
    have KP2 : Hid (Box w2 (w.heap.size) 39 #[.int .i64 W, .int .i64 H, .slice A zs.length c]) := hid (Box.keep (Box.alloc (KP1.out) _) hb2)
    have HB2 : Hid (Below w.heap.size w w2) := hid (bstep (bal (HB1.out) _) hb2)
    clear hb2
    obtain ⟨Pa, Pb, Pc⟩ := KP2.out.three
    have Pz := KP2.out.lt
    obtain ⟨cs, hcs⟩ : ∃ cs, cs = (trS W H zs (4 * W * H).toNat).1 := ⟨_, rfl⟩
    rw [← hcs] at HV hfew HNE
    have HCS := hid hcs
    rw [← hcs]
    clear hcs
    have HNE2 := hid HNE.out
    obtain ⟨vs0, hvs0, -, -⟩ := HNE.out
    rw [curP_length] at hvs0
    have hwz := HB2.out.size
    clear Pa Pb Pc Pz
    go_wp2_with fail
    go_loopg [4, 7] cs.length (fun g v i wr => ∃ j : Nat, j ≤ cs.length ∧ i = .int .i64 j ∧ g = cs.length - j ∧ Hid (wr.ownsRow (w.heap.size + 1) 2 1 v j (vals ((lensL cs).take j))) ∧ Hid (Nest wr (w1.heap.size + 1) w2.heap.size 87 69 2 (.slice E1 cs.length d1) (curP cs)) ∧ Hid (Below w.heap.size w wr))
    case atStart => exact ⟨0, Nat.zero_le _, rfl, rfl, by simpa using HO2, hid (by simpa using HNE2.out), HB2⟩
    case round =>
      clear hvs0
      obtain ⟨j, hj, rfl, hg, HO, NE, HB⟩ := hrel
      by_cases hlt : j < cs.length
      · obtain ⟨cj, hcj⟩ : ∃ cj, cs[j]? = some cj := ⟨_, List.getElem?_eq_getElem hlt⟩
        obtain ⟨vs, hO, hI, hD⟩ := NE.out
        rw [curP_length] at hO
        obtain ⟨vi, ni, hvi, hri⟩ := hI j (vals (flatP cj)) (by simp [curP, hcj])
        obtain rfl := curP_len hri
        obtain ⟨Ai, ci, rfl⟩ := own_form hri.1
        have hcl := own_max hri.1
        unfold maxLen at hcl
        obtain ⟨gq, cq, he⟩ := Go.Joins.ownsRow_form hO (by omega)
        simp only [Value.slice.injEq] at he
        obtain ⟨rfl, -, rfl⟩ := he
        have hca : wr.cell? ⟨gq, j, none⟩ = some (.slice Ai cj.length ci) := (World.ownsRow.cellAt hO j (by omega)).trans hvi
        have HT : Hid ((lensL cs).take (j + 1) = (lensL cs).take j ++ [(cj.length : Int)]) := hid (by rw [List.take_add_one]; simp [lensL, hcj])
        have hz5 := HB.out.size
        have HOL := hid HO.out.lt
        clear hO hI hD hvi hri hcj
        go_wp2_with (at_builtin; (refine wpList_append_own _ rfl _ _ 34 rfl (w.heap.size + 1) 2 i0 (.int .i64 0) 1 8 Try.underlying34 hi hz0 hz1 hz2 rfl (by decide) _ j (vals ((lensL cs).take j)) rfl (HO.out.alloc _) ⟨wr.heap.size, 0, none⟩ 1 1 [.int .i64 cj.length] rfl rfl (World.news_of_block (cs := #[.int .i64 cj.length]) (t := 2) (fr := (0, 0)) (heap_alloc_new wr _)) (by simp [Value.oneCell']) (by unfold maxLen; omega) (by omega) (by simp; omega) ?_; intro v' wz ho2 hgr _))
        have HH := hid (And.intro ho2 hgr)
        clear ho2 hgr
        go_roundg (cs.length - (j + 1))
        case measure => omega
        case rel => exact ⟨j + 1, by omega, by go_num, rfl, hid (by rw [HT.out]; simpa [vals] using HH.out.1), hid ((NE.out.alloc _).other (HO.out.alloc _) HH.out.2 (by decide) (by decide)), hid (bgrew (lo := w.heap.size + 1) (bal HB.out _) HH.out.2 (fun q hq => (HOL.out q hq).1) (by omega))⟩
      · obtain rfl : j = cs.length := by omega
        have HT : Hid ((lensL cs).take cs.length = lensL cs) := hid (List.take_of_length_le (by simp [lensL]))
        obtain ⟨Ao, co, rfl⟩ := own_form HO.out
        go_wp2_with fail
        go_ret2
        refine ⟨⟨Ao, co, by rw [HV.out.1, HV.out.2.2] <;> rfl, ?_⟩, HB.out⟩
        rw [HV.out.1, HV.out.2.1, ← HT.out]
        exact Go.Joins.ownsRow_le HO.out (by omega)
end Go.Proofs.Ytgcgaoblbhojnaa

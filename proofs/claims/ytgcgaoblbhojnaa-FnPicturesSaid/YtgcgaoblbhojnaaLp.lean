/- LinesPicture. -/
import Derived.Test.YtgcgaoblbhojnaaNs
import Derived.Test.YtgcgaoblbhojnaaEs
import Derived.Test.YtgcgaoblbhojnaaVr
import Derived.Test.YtgcgaoblbhojnaaPa
import Derived.Test.YtgcgaoblbhojnaaPe
import Derived.Test.YtgcgaoblbhojnaaAu
import Derived.OwnWalk
namespace Go.Proofs.Ytgcgaoblbhojnaa
set_option linter.unusedSimpArgs false
set_option linter.unusedVariables false
open Go.ChangeShapes Go.WideShapes Go.ChangeAt Go.RowKit
theorem infoU8 : (Try.prog.info? 5).map (fun i => (i.zero, i.size, i.bytes)) = some (some (.int .u8 0), 1, 1) := by kernel_rfl
theorem infoStr : (Try.prog.info? 9).map (fun i => (i.zero, i.size, i.bytes)) = some (some (.string ⟨#[]⟩), 1, 16) := by kernel_rfl

abbrev bytesV (bs : List Int) : List Value := bs.map (Value.int .u8)
/-- 'string(b)' of a row of bytes of the call's own. -/
theorem conv_own {w : World} {B g cap : Nat} {bs : List Int} {n : Nat} (h : w.ownsRow B 5 1 (.slice (some ⟨g, 0, none⟩) n cap) n (bytesV bs)) : (convert 54 9 (.slice (some ⟨g, 0, none⟩) n cap)).run Try.prog w = .ok (.string (strOfNums bs)) w := by
  have hl : bs.length = n := by simpa [bytesV] using h.1
  refine run_convert_bytes_arg (P := Try.prog) _ 54 5 Try.underlying54 Try.underlying5 g 0 n cap bs hl ?_ 9 Try.underlying9
  intro i hi
  rw [Nat.zero_add, World.ownsRow.cellAt h i (by omega)]
  simp [bytesV, List.getElem?_eq_getElem (show i < bs.length by omega), List.getD_eq_getElem?_getD]
/-- The bytes of a line of the picture of the segments. -/
def lpB (y x : Nat) : Int := if (x + y) % 2 = 0 then 47 else 92
def lpRow (y x : Nat) : List Int := (List.range x).map (lpB y)
theorem lpRow_succ (y x : Nat) : lpRow y (x + 1) = lpRow y x ++ [lpB y x] := by simp [lpRow, List.range_succ]
theorem lpRow_length (y x : Nat) : (lpRow y x).length = x := by simp [lpRow]
def lpS (W : Nat) (y : Nat) : List ByteArray := (List.range y).map fun y => strOfNums (lpRow y W)
theorem lpS_succ (W y : Nat) : lpS W (y + 1) = lpS W y ++ [strOfNums (lpRow y W)] := by simp [lpS, List.range_succ]
theorem lpS_length (W y : Nat) : (lpS W y).length = y := by simp [lpS]
/-- What LinesPicture answers. -/
def lpL (W H : Int) (zs : List Int) : List ByteArray := if validB W H zs then lpS (2 * W).toNat (2 * H).toNat else []
def lpN (W H : Int) (zs : List Int) : Nat := if validB W H zs then (2 * H).toNat else 0
def lpC (W H : Int) (zs : List Int) : Int := if validB W H zs then 0 else 1
theorem lpN_le (W H : Int) (zs : List Int) : lpN W H zs ≤ 16 := by
  unfold lpN
  split
  · rename_i h
    have := side_bd (valid_sides h).2
    omega
  · omega

set_option maxRecDepth 100000 in
set_option maxHeartbeats 2000000 in
theorem implLinesPicture_any (W H : Int) (A : Option Addr) (c : Nat) (zs : List Int) (w : World) (hz : Ints w w.heap.size A zs) (hl : zs.length ≤ maxLen) :
    Calls Try.prog 51 #[.agg #[.int .i64 W, .int .i64 H, .slice A zs.length c]] w fun e w' => (∃ A' c', e = .returned (.tuple #[.slice A' (lpN W H zs) c', .int .i64 (lpC W H zs)]) ∧ w'.ownsRow w.heap.size 9 1 (.slice A' (lpN W H zs) c') (lpN W H zs) (strs (lpL W H zs))) ∧ Below w.heap.size w w' := by
  cases hv : validB W H zs
  · have HV : Hid (lpN W H zs = 0 ∧ lpL W H zs = [] ∧ lpC W H zs = 1) := hid (by simp [lpN, lpL, lpC, hv])
    have Hv := hid hv
    clear hv
    go_enter Try.func51, Try.ntmps51
    go_wp2_with fail
    refine (calls_bool (validPanel_any W H A c zs _ ((hz.below (bal (Below.refl _ _) _)).more (bal (Below.refl _ _) _).size) hl) Hv.out).mono ?_
    rintro e w1 ⟨rfl, hb1⟩
    have KP1 : Hid (Box w1 (w.heap.size) 39 #[.int .i64 W, .int .i64 H, .slice A zs.length c]) := hid (Box.keep (Box.new' _ _ _ _ (by simp)) hb1)
    have HB1 : Hid (Below w.heap.size w w1) := hid (bstep (bal (Below.refl _ _) _) hb1)
    clear hb1
    obtain ⟨Pa, Pb, Pc⟩ := KP1.out.three
    have Pz := KP1.out.lt
    go_wp2_with fail
    go_ret2
    exact ⟨⟨none, 0, by rw [HV.out.1, HV.out.2.2] <;> rfl, by rw [HV.out.1, HV.out.2.1]; exact World.ownsRow_nil _ _ _ _⟩, (HB1.out)⟩
  · have Hs := hid (valid_sides hv)
    obtain ⟨s3, s4⟩ := side_bd Hs.out.1
    obtain ⟨s5, s6⟩ := side_bd Hs.out.2
    obtain ⟨W', rfl⟩ : ∃ n : Nat, W = n := ⟨W.toNat, by omega⟩
    obtain ⟨H', rfl⟩ : ∃ n : Nat, H = n := ⟨H.toNat, by omega⟩
    have HV : Hid (lpN W' H' zs = 2 * H' ∧ lpL W' H' zs = lpS (2 * W') (2 * H') ∧ lpC W' H' zs = 0) := hid (by simp [lpN, lpL, lpC, hv, show (2 * (W' : Int)).toNat = 2 * W' by omega, show (2 * (H' : Int)).toNat = 2 * H' by omega])
    have Hv := hid hv
    clear hv
    obtain ⟨ub, hib, hb0, hb1, hb2⟩ := info_parts infoU8
    obtain ⟨us, his, hs0, hs1, hs2⟩ := info_parts infoStr
    have t1 : IntKind.i64.wrap (2 * (W' : Int)) = 2 * (W' : Int) := IntWalk.i64_in _ (by omega)
    have t2 : IntKind.i64.wrap (2 * (H' : Int)) = 2 * (H' : Int) := IntWalk.i64_in _ (by omega)
    go_enter Try.func51, Try.ntmps51
    go_wp2_with fail
    refine (calls_bool (validPanel_any W' H' A c zs _ ((hz.below (bal (Below.refl _ _) _)).more (bal (Below.refl _ _) _).size) hl) Hv.out).mono ?_
    rintro e w1 ⟨rfl, hb1⟩
    have KP1 : Hid (Box w1 (w.heap.size) 39 #[.int .i64 W', .int .i64 H', .slice A zs.length c]) := hid (Box.keep (Box.new' _ _ _ _ (by simp)) hb1)
    have HB1 : Hid (Below w.heap.size w w1) := hid (bstep (bal (Below.refl _ _) _) hb1)
    clear hb1
    obtain ⟨Pa, Pb, Pc⟩ := KP1.out.three
    have Pz := KP1.out.lt
    go_wp2_with fail
    have ho1 := World.ownsRow_lit (base := w.heap.size + 1) (e := 9) (size := 1) w1 #[] 0 (by have := KP1.out.lt; omega) (Nat.zero_le _) rfl
    have HO1 := hid ho1
    clear ho1
    clear Pa Pb Pc Pz
    go_loopg [4, 15] (2 * H') (fun g v i wr => ∃ y : Nat, y ≤ 2 * H' ∧ i = .int .i64 y ∧ g = 2 * H' - y ∧ Hid (wr.ownsRow (w.heap.size + 1) 9 1 v y (strs (lpS (2 * W') y))) ∧ Hid (Box wr w.heap.size 39 #[.int .i64 W', .int .i64 H', .slice A zs.length c]) ∧ Hid (Below w.heap.size w wr))
    case atStart => exact ⟨0, Nat.zero_le _, rfl, rfl, HO1, hid (Box.alloc KP1.out _), hid (bal HB1.out _)⟩
    case round =>
      obtain ⟨y, hy, rfl, hg, HO, KP, HBr⟩ := hrel
      obtain ⟨wo, rfl⟩ : ∃ z, z = wr := ⟨_, rfl⟩
      have Wz := KP.out.lt
      by_cases hlt : y < 2 * H'
      · obtain ⟨Pa, Pb, Pc⟩ := KP.out.three
        have hlt' : (y : Int) < 2 * (H' : Int) := by omega
        have hoi := World.ownsRow_lit (base := wo.heap.size) (e := 5) (size := 1) wo #[] 0 (Nat.le_refl _) (Nat.zero_le _) rfl
        have HOI := hid hoi
        clear hoi
        go_wp2_with fail
        clear Pa Pb Pc
        go_loopg [6, 22] (2 * W') (fun g v i wx => ∃ x : Nat, x ≤ 2 * W' ∧ i = .int .i64 x ∧ g = 2 * W' - x ∧ Hid (wx.ownsRow wo.heap.size 5 1 v x (bytesV (lpRow y x))) ∧ Hid (Below wo.heap.size wo wx))
        case atStart => exact ⟨0, Nat.zero_le _, rfl, rfl, HOI, hid (bal (Below.refl _ _) _)⟩
        case round =>
          obtain ⟨x, hx, rfl, hg2, HOx, HBx⟩ := hrel
          have KPx := hid (Box.below KP.out HBx.out Wz)
          have Xz := KPx.out.lt
          have xz := HBx.out.size
          by_cases hxl : x < 2 * W'
          · have hxl' : (x : Int) < 2 * (W' : Int) := by omega
            have tx : IntKind.i64.wrap ((x : Int) + (y : Int)) = (x : Int) + (y : Int) := IntWalk.i64_in _ (by omega)
            by_cases hp : (x + y) % 2 = 0
            · have hb : (((x : Int) + (y : Int)) % 2 == 0) = true := by simp; omega
              have HE : Hid (lpB y x = 47) := hid (by simp [lpB, hp])
              clear hp
              go_wp2_with (at_builtin; (refine wpList_append_own _ rfl _ _ 54 rfl (wo.heap.size) 5 ub (.int .u8 0) 1 1 Try.underlying54 hib hb0 hb1 hb2 rfl (by decide) _ (x) (bytesV (lpRow y x)) rfl (HOx.out.alloc _) ⟨wr.heap.size, 0, none⟩ 1 1 [.int .u8 47] rfl rfl (World.news_of_block (cs := #[.int .u8 47]) (t := 5) (fr := (0, 0)) (heap_alloc_new wr _)) (by simp [Value.oneCell']) (by unfold maxLen; omega) (by omega) (by simp; omega) ?_; intro v' wz ho2 hgr _))
              have HH := hid (And.intro ho2 hgr)
              clear ho2 hgr
              go_roundg (2 * W' - (x + 1))
              case measure => omega
              case rel => exact ⟨x + 1, by omega, by go_num, rfl, hid (by rw [lpRow_succ, HE.out]; simpa [bytesV] using HH.out.1), hid (Below.grown (Below.alloc HBx.out xz _) HH.out.2 (by simp; omega) (fun q hq => (HOx.out.lt q hq).1))⟩
            · have hb : (((x : Int) + (y : Int)) % 2 == 0) = false := by simp; omega
              have HE : Hid (lpB y x = 92) := hid (by simp [lpB, hp])
              clear hp
              go_wp2_with (at_builtin; (refine wpList_append_own _ rfl _ _ 54 rfl (wo.heap.size) 5 ub (.int .u8 0) 1 1 Try.underlying54 hib hb0 hb1 hb2 rfl (by decide) _ (x) (bytesV (lpRow y x)) rfl (HOx.out.alloc _) ⟨wr.heap.size, 0, none⟩ 1 1 [.int .u8 92] rfl rfl (World.news_of_block (cs := #[.int .u8 92]) (t := 5) (fr := (0, 0)) (heap_alloc_new wr _)) (by simp [Value.oneCell']) (by unfold maxLen; omega) (by omega) (by simp; omega) ?_; intro v' wz ho2 hgr _))
              have HH := hid (And.intro ho2 hgr)
              clear ho2 hgr
              go_roundg (2 * W' - (x + 1))
              case measure => omega
              case rel => exact ⟨x + 1, by omega, by go_num, rfl, hid (by rw [lpRow_succ, HE.out]; simpa [bytesV] using HH.out.1), hid (Below.grown (Below.alloc HBx.out xz _) HH.out.2 (by simp; omega) (fun q hq => (HOx.out.lt q hq).1))⟩
          · obtain rfl : x = 2 * W' := by omega
            rcases Go.Joins.ownsRow_forms HOx.out with ⟨rfl, hn0⟩ | ⟨gb, cap, rfl⟩
            · exfalso; omega
            have kc := conv_own HOx.out
            have HOo := hid (own_below HO.out HBx.out)
            have HOo' := hid (HO.out.lt)
            go_wp2_with (at_builtin; (refine wpList_append_own _ rfl _ _ 27 rfl (w.heap.size + 1) 9 us (.string ⟨#[]⟩) 1 16 Try.underlying27 his hs0 hs1 hs2 rfl (by decide) _ (y) (strs (lpS (2 * W') y)) rfl (HOo.out.alloc _) ⟨wr.heap.size, 0, none⟩ 1 1 [.string (strOfNums (lpRow y (2 * W')))] rfl rfl (World.news_of_block (cs := #[.string (strOfNums (lpRow y (2 * W')))]) (t := 9) (fr := (0, 0)) (heap_alloc_new wr _)) (by simp [Value.oneCell']) (by unfold maxLen; omega) (by omega) (by simp; omega) ?_; intro v' wz ho2 hgr _))
            have HH := hid (And.intro ho2 hgr)
            clear ho2 hgr
            go_roundg (2 * H' - (y + 1))
            case measure => omega
            case rel => exact ⟨y + 1, by omega, by go_num, rfl, hid (by rw [lpS_succ]; simpa [strs] using HH.out.1), hid (Box.grew (Box.alloc KPx.out _) HH.out.2 (fun q hq => by have := (HOo'.out q hq).1; omega)), hid (bgrew (lo := w.heap.size + 1) (bal (bbl HBr.out HBx.out) _) HH.out.2 (fun q hq => (HOo'.out q hq).1) (by omega))⟩
      · obtain rfl : y = 2 * H' := by omega
        rcases Go.Joins.ownsRow_forms HO.out with ⟨rfl, hn0⟩ | ⟨gb, cap, rfl⟩
        · exfalso; omega
        obtain ⟨Pa, Pb, Pc⟩ := KP.out.three
        go_wp2_with fail
        go_ret2
        refine ⟨⟨some ⟨gb, 0, none⟩, cap, by rw [HV.out.1, HV.out.2.2] <;> rfl, ?_⟩, HBr.out⟩
        rw [HV.out.1, HV.out.2.1]
        exact Go.Joins.ownsRow_le HO.out (by omega)
theorem conv_any {w : World} {B : Nat} {vi : Value} {bs : List Int} {n : Nat} (h : w.ownsRow B 5 1 vi n (bytesV bs)) : ∃ A c, vi = .slice A n c ∧ (convert 54 9 (.slice A n c)).run Try.prog w = .ok (.string (strOfNums bs)) w := by
  rcases Go.Joins.ownsRow_forms h with ⟨rfl, rfl⟩ | ⟨g, cap, rfl⟩
  · have hb : bs = [] := List.eq_nil_of_length_eq_zero (by simpa [bytesV] using h.1)
    subst hb
    exact ⟨none, 0, rfl, run_convert_bytes_nil (P := Try.prog) w 54 5 Try.underlying54 Try.underlying5 0 0 9 Try.underlying9⟩
  · exact ⟨_, _, rfl, conv_own h⟩
set_option maxRecDepth 100000 in
set_option maxHeartbeats 2000000 in
theorem l05Strings_any (A : Option Addr) (c n : Nat) (bss : List (List Int)) (w : World) (lo hi : Nat) (h : Nest w lo hi 54 5 1 (.slice A n c) (bss.map bytesV)) (hn : bss.length = n) (hm : n ≤ 1048576) :
    Calls Try.prog 72 #[.slice A n c] w fun e w' => (∃ A' c', e = .returned (.slice A' n c') ∧ w'.ownsRow w.heap.size 9 1 (.slice A' n c') n (strs (bss.map strOfNums))) ∧ Below w.heap.size w w' := by
  obtain ⟨us, his, hs0, hs1, hs2⟩ := info_parts infoStr
  obtain ⟨vs, hO, hI, hD⟩ := h
  rw [List.length_map] at hO
  rcases Nat.eq_zero_or_pos n with h0 | hp
  · subst h0
    have hbs : bss = [] := List.eq_nil_of_length_eq_zero hn
    subst hbs
    go_enter Try.func72, Try.ntmps72
    go_wp2_with fail
    refine wp_loop_rounds 1 ?_
    rw [rounds_succ]
    go_wp2_with fail
    go_ret
    exact ⟨⟨_, _, rfl, World.ownsRow_lit (base := w.heap.size) (e := 9) (size := 1) w #[] 0 (Nat.le_refl _) (Nat.zero_le _) rfl⟩, bal (Below.refl _ _) _⟩
  · obtain ⟨g, cap, he⟩ := Go.Joins.ownsRow_form hO (by omega)
    simp only [Value.slice.injEq] at he
    obtain ⟨rfl, -, rfl⟩ := he
    rw [hn] at hO
    have HN := hid hn
    clear hn
    have ho1 := World.ownsRow_lit (base := w.heap.size) (e := 9) (size := 1) w #[] 0 (Nat.le_refl _) (Nat.zero_le _) rfl
    have HO1 := hid ho1
    have HI := hid hI
    have Ho := hid hO
    clear ho1 hI hO hD
    go_enter Try.func72, Try.ntmps72
    go_wp2_with fail
    go_loopg [3, 4] n (fun gk v i wr => ∃ j : Nat, j ≤ n ∧ i = .int .i64 j ∧ gk = n - j ∧ Hid (wr.ownsRow w.heap.size 9 1 v j (strs ((bss.map strOfNums).take j))) ∧ Hid (Below w.heap.size w wr))
    case atStart => exact ⟨0, Nat.zero_le _, rfl, rfl, HO1, hid (bal (Below.refl _ _) _)⟩
    case round =>
      obtain ⟨j, hj, rfl, hg, HO, HB⟩ := hrel
      by_cases hlt : j < n
      · obtain ⟨bs, hbs⟩ : ∃ bs, bss[j]? = some bs := ⟨_, List.getElem?_eq_getElem (by have := HN.out; omega)⟩
        obtain ⟨vi, ni, hvi, hri⟩ := HI.out j (bytesV bs) (by simp [hbs])
        have hri2 := own_keep hri.1 HB.out
        obtain ⟨Ai, ci, rfl, kc⟩ := conv_any hri2
        have hca : wr.cell? ⟨g, j, none⟩ = some (.slice Ai ni ci) := (World.ownsRow.cellAt (own_keep Ho.out HB.out) j (by omega)).trans hvi
        have HT : Hid ((bss.map strOfNums).take (j + 1) = (bss.map strOfNums).take j ++ [strOfNums bs]) := hid (by rw [List.take_add_one]; simp [hbs])
        clear hbs hvi hri hri2
        have hz := HB.out.size
        go_wp2_with (at_builtin; (refine wpList_append_own _ rfl _ _ 27 rfl w.heap.size 9 us (.string ⟨#[]⟩) 1 16 Try.underlying27 his hs0 hs1 hs2 rfl (by decide) _ j (strs ((bss.map strOfNums).take j)) rfl (HO.out.alloc _) ⟨wr.heap.size, 0, none⟩ 1 1 [.string (strOfNums bs)] rfl rfl (World.news_of_block (cs := #[.string (strOfNums bs)]) (t := 9) (fr := (0, 0)) (heap_alloc_new wr _)) (by simp [Value.oneCell']) (by unfold maxLen; omega) (by omega) (by simp; omega) ?_; intro v' wz ho2 hgr _))
        have HH := hid (And.intro ho2 hgr)
        clear ho2 hgr
        go_roundg (n - (j + 1))
        case measure => omega
        case rel => exact ⟨j + 1, by omega, by go_num, rfl, hid (by rw [HT.out]; simpa [strs] using HH.out.1), hid (bgrew (lo := w.heap.size) (bal HB.out _) HH.out.2 (fun q hq => (HO.out.lt q hq).1) (Nat.le_refl _))⟩
      · obtain rfl : j = n := by omega
        have HT : Hid ((bss.map strOfNums).take j = bss.map strOfNums) := hid (List.take_of_length_le (by have := HN.out; rw [List.length_map]; omega))
        rcases Go.Joins.ownsRow_forms HO.out with ⟨rfl, hn0⟩ | ⟨gb, cap', rfl⟩
        · exfalso; omega
        go_wp2_with fail
        go_ret
        exact ⟨⟨_, _, rfl, by rw [← HT.out]; exact HO.out⟩, HB.out⟩
theorem lpS_map (W n : Nat) : ((List.range n).map fun y => lpRow y W).map strOfNums = lpS W n := by simp [lpS, Function.comp_def]
def lpZ (W n : Nat) : List (List Value) := ((List.range n).map fun y => lpRow y W).map bytesV
theorem lpZ_succ (W n : Nat) : lpZ W (n + 1) = lpZ W n ++ [bytesV (lpRow n W)] := by simp [lpZ, List.range_succ]
theorem lpZ_length (W n : Nat) : (lpZ W n).length = n := by simp [lpZ]
theorem infoBS : (Try.prog.info? 54).map (fun i => (i.zero, i.size, i.bytes)) = some (some (.slice none 0 0), 1, 24) := by kernel_rfl

set_option maxRecDepth 100000 in
set_option maxHeartbeats 2000000 in
theorem specLinesPicture_any (W H : Int) (A : Option Addr) (c : Nat) (zs : List Int) (w : World) (hz : Ints w w.heap.size A zs) (hl : zs.length ≤ maxLen) :
    Calls Try.prog 52 #[.agg #[.int .i64 W, .int .i64 H, .slice A zs.length c]] w fun e w' => (∃ A' c', e = .returned (.tuple #[.slice A' (lpN W H zs) c', .int .i64 (lpC W H zs)]) ∧ w'.ownsRow w.heap.size 9 1 (.slice A' (lpN W H zs) c') (lpN W H zs) (strs (lpL W H zs))) ∧ Below w.heap.size w w' := by
  cases hv : validB W H zs
  · have HV : Hid (lpN W H zs = 0 ∧ lpL W H zs = [] ∧ lpC W H zs = 1) := hid (by simp [lpN, lpL, lpC, hv])
    have Hv := hid hv
    clear hv
    go_enter Try.func52, Try.ntmps52
    go_wp2_with fail
    refine (qb (calls_bool (l02Ok_any _ W H A c zs _ w.heap.size (Box.new' _ _ _ _ (by simp)) (hz.below (bal (Below.refl _ _) _)) hl) Hv.out)).mono ?_
    rintro e w1 ⟨rfl, hb1⟩
    have KP1 : Hid (Box w1 (w.heap.size) 39 #[.int .i64 W, .int .i64 H, .slice A zs.length c]) := hid (Box.keep (Box.new' _ _ _ _ (by simp)) hb1)
    have HB1 : Hid (Below w.heap.size w w1) := hid (bstep (bal (Below.refl _ _) _) hb1)
    clear hb1
    obtain ⟨Pa, Pb, Pc⟩ := KP1.out.three
    have Pz := KP1.out.lt
    go_wp2_with fail
    go_ret2
    exact ⟨⟨none, 0, by rw [HV.out.1, HV.out.2.2] <;> rfl, by rw [HV.out.1, HV.out.2.1]; exact World.ownsRow_nil _ _ _ _⟩, (HB1.out)⟩
  · have Hs := hid (valid_sides hv)
    obtain ⟨s3, s4⟩ := side_bd Hs.out.1
    obtain ⟨s5, s6⟩ := side_bd Hs.out.2
    obtain ⟨W', rfl⟩ : ∃ n : Nat, W = n := ⟨W.toNat, by omega⟩
    obtain ⟨H', rfl⟩ : ∃ n : Nat, H = n := ⟨H.toNat, by omega⟩
    have HV : Hid (lpN W' H' zs = 2 * H' ∧ lpL W' H' zs = lpS (2 * W') (2 * H') ∧ lpC W' H' zs = 0) := hid (by simp [lpN, lpL, lpC, hv, show (2 * (W' : Int)).toNat = 2 * W' by omega, show (2 * (H' : Int)).toNat = 2 * H' by omega])
    have Hv := hid hv
    clear hv
    obtain ⟨ub, hib, hb0, hb1, hb2⟩ := info_parts infoU8
    obtain ⟨us, his, hs0, hs1, hs2⟩ := info_parts infoBS
    have t1 : IntKind.i64.wrap (2 * (W' : Int)) = 2 * (W' : Int) := IntWalk.i64_in _ (by omega)
    have t2 : IntKind.i64.wrap (2 * (H' : Int)) = 2 * (H' : Int) := IntWalk.i64_in _ (by omega)
    go_enter Try.func52, Try.ntmps52
    go_wp2_with fail
    refine (qb (calls_bool (l02Ok_any _ W' H' A c zs _ w.heap.size (Box.new' _ _ _ _ (by simp)) (hz.below (bal (Below.refl _ _) _)) hl) Hv.out)).mono ?_
    rintro e w1 ⟨rfl, hb1⟩
    have KP1 : Hid (Box w1 (w.heap.size) 39 #[.int .i64 W', .int .i64 H', .slice A zs.length c]) := hid (Box.keep (Box.new' _ _ _ _ (by simp)) hb1)
    have HB1 : Hid (Below w.heap.size w w1) := hid (bstep (bal (Below.refl _ _) _) hb1)
    clear hb1
    obtain ⟨Pa, Pb, Pc⟩ := KP1.out.three
    have Pz := KP1.out.lt
    go_wp2_with fail
    have ho1 := World.ownsRow_lit (base := w.heap.size + 1) (e := 54) (size := 1) w1 #[] 0 (by have := KP1.out.lt; omega) (Nat.zero_le _) rfl
    have HO1 := hid (Nest.nil (TI := 5) (s := 1) ho1 w1.heap.size)
    clear ho1
    clear Pa Pb Pc Pz
    go_loopg [4, 5] (2 * H') (fun g v i wr => ∃ y : Nat, y ≤ 2 * H' ∧ i = .int .i64 y ∧ g = 2 * H' - y ∧ Hid (Nest wr (w.heap.size + 1) wr.heap.size 54 5 1 v (lpZ (2 * W') y)) ∧ Hid (Box wr w.heap.size 39 #[.int .i64 W', .int .i64 H', .slice A zs.length c]) ∧ Hid (Below w.heap.size w wr))
    case atStart => exact ⟨0, Nat.zero_le _, rfl, rfl, hid (Nest.more HO1.out (by simp)), hid (Box.alloc KP1.out _), hid (bal HB1.out _)⟩
    case round =>
      obtain ⟨y, hy, rfl, hg, HO, KP, HBr⟩ := hrel
      obtain ⟨wo, rfl⟩ : ∃ z, z = wr := ⟨_, rfl⟩
      have Wz := KP.out.lt
      obtain ⟨Pa, Pb, Pc⟩ := KP.out.three
      by_cases hlt : y < 2 * H'
      · have hlt' : (y : Int) < 2 * (H' : Int) := by omega
        have hoi := World.ownsRow_lit (base := wo.heap.size) (e := 5) (size := 1) wo #[] 0 (Nat.le_refl _) (Nat.zero_le _) rfl
        have HOI := hid hoi
        clear hoi
        go_wp2_with fail
        clear Pa Pb Pc
        go_loopg [6, 7] (2 * W') (fun g v i wx => ∃ x : Nat, x ≤ 2 * W' ∧ i = .int .i64 x ∧ g = 2 * W' - x ∧ Hid (wx.ownsRow wo.heap.size 5 1 v x (bytesV (lpRow y x))) ∧ Hid (Below wo.heap.size wo wx))
        case atStart => exact ⟨0, Nat.zero_le _, rfl, rfl, HOI, hid (bal (Below.refl _ _) _)⟩
        case round =>
          obtain ⟨x, hx, rfl, hg2, HOx, HBx⟩ := hrel
          have KPx := hid (Box.below KP.out HBx.out Wz)
          have Xz := KPx.out.lt
          obtain ⟨Pa, Pb, Pc⟩ := KPx.out.three
          have xz := HBx.out.size
          by_cases hxl : x < 2 * W'
          · have hxl' : (x : Int) < 2 * (W' : Int) := by omega
            have tx : IntKind.i64.wrap ((x : Int) + (y : Int)) = (x : Int) + (y : Int) := IntWalk.i64_in _ (by omega)
            by_cases hp : (x + y) % 2 = 0
            · have hb : (((x : Int) + (y : Int)) % 2 == 0) = true := by simp; omega
              have HE : Hid (lpB y x = 47) := hid (by simp [lpB, hp])
              clear hp
              go_wp2_with (at_builtin; (refine wpList_append_own _ rfl _ _ 54 rfl (wo.heap.size) 5 ub (.int .u8 0) 1 1 Try.underlying54 hib hb0 hb1 hb2 rfl (by decide) _ (x) (bytesV (lpRow y x)) rfl (HOx.out.alloc _) ⟨wr.heap.size, 0, none⟩ 1 1 [.int .u8 47] rfl rfl (World.news_of_block (cs := #[.int .u8 47]) (t := 5) (fr := (0, 0)) (heap_alloc_new wr _)) (by simp [Value.oneCell']) (by unfold maxLen; omega) (by omega) (by simp; omega) ?_; intro v' wz ho2 hgr _))
              have HH := hid (And.intro ho2 hgr)
              clear ho2 hgr
              go_roundg (2 * W' - (x + 1))
              case measure => omega
              case rel => exact ⟨x + 1, by omega, by go_num, rfl, hid (by rw [lpRow_succ, HE.out]; simpa [bytesV] using HH.out.1), hid (Below.grown (Below.alloc HBx.out xz _) HH.out.2 (by simp; omega) (fun q hq => (HOx.out.lt q hq).1))⟩
            · have hb : (((x : Int) + (y : Int)) % 2 == 0) = false := by simp; omega
              have HE : Hid (lpB y x = 92) := hid (by simp [lpB, hp])
              clear hp
              go_wp2_with (at_builtin; (refine wpList_append_own _ rfl _ _ 54 rfl (wo.heap.size) 5 ub (.int .u8 0) 1 1 Try.underlying54 hib hb0 hb1 hb2 rfl (by decide) _ (x) (bytesV (lpRow y x)) rfl (HOx.out.alloc _) ⟨wr.heap.size, 0, none⟩ 1 1 [.int .u8 92] rfl rfl (World.news_of_block (cs := #[.int .u8 92]) (t := 5) (fr := (0, 0)) (heap_alloc_new wr _)) (by simp [Value.oneCell']) (by unfold maxLen; omega) (by omega) (by simp; omega) ?_; intro v' wz ho2 hgr _))
              have HH := hid (And.intro ho2 hgr)
              clear ho2 hgr
              go_roundg (2 * W' - (x + 1))
              case measure => omega
              case rel => exact ⟨x + 1, by omega, by go_num, rfl, hid (by rw [lpRow_succ, HE.out]; simpa [bytesV] using HH.out.1), hid (Below.grown (Below.alloc HBx.out xz _) HH.out.2 (by simp; omega) (fun q hq => (HOx.out.lt q hq).1))⟩
          · obtain rfl : x = 2 * W' := by omega
            rcases Go.Joins.ownsRow_forms HOx.out with ⟨rfl, hn0⟩ | ⟨gb, cap, rfl⟩
            · exfalso; omega
            have HNx := hid ((HO.out.keep HBx.out).alloc (.cells #[.slice (some ⟨gb, 0, none⟩) (2 * W') cap] 54))
            have HNl := hid HNx.out.lt
            obtain ⟨vs, hO, hI, hD⟩ := HNx.out
            rw [lpZ_length] at hO
            have HNP := hid (And.intro hO (And.intro hI hD))
            clear hO hI hD
            go_wp2_with (at_builtin; (refine wpList_append_own _ rfl _ _ 80 rfl (w.heap.size + 1) 54 us (.slice none 0 0) 1 24 Try.underlying80 his hs0 hs1 hs2 rfl (by decide) _ (y) (vs) rfl (HNP.out.1) ⟨wr.heap.size, 0, none⟩ 1 1 [.slice (some ⟨gb, 0, none⟩) (2 * W') cap] rfl rfl (World.news_of_block (cs := #[.slice (some ⟨gb, 0, none⟩) (2 * W') cap]) (t := 54) (fr := (0, 0)) (heap_alloc_new wr _)) (by simp [Value.oneCell']) (by unfold maxLen; omega) (by omega) (by simp; omega) ?_; intro v' wz ho2 hgr _))
            have HH := hid (And.intro ho2 hgr)
            clear ho2 hgr
            go_roundg (2 * H' - (y + 1))
            case measure => omega
            case rel => exact ⟨y + 1, by omega, by go_num, rfl, hid (by rw [lpZ_succ]; exact Nest.snoc (by rw [lpZ_length]; exact HNP.out.1) HNP.out.2.1 HNP.out.2.2 (HOx.out.alloc _) (Nat.le_refl _) (by omega) (by rw [lpZ_length]; exact HH.out.1) HH.out.2 (by decide) _ rfl), hid (Box.grew (Box.alloc KPx.out _) HH.out.2 (fun q hq => by have := (HNl.out q hq).1; omega)), hid (bgrew (lo := w.heap.size + 1) (bal (bbl HBr.out HBx.out) _) HH.out.2 (fun q hq => (HNl.out q hq).1) (by omega))⟩
      · obtain rfl : y = 2 * H' := by omega
        obtain ⟨vs, hO⟩ := HO.out.outer
        rw [lpZ_length] at hO
        rcases Go.Joins.ownsRow_forms hO with ⟨rfl, hn0⟩ | ⟨gb, cap, rfl⟩
        · exfalso; omega
        clear hO
        go_wp2_with fail
        refine (l05Strings_any _ _ (2 * H') ((List.range (2 * H')).map fun y => lpRow y (2 * W')) wo (w.heap.size + 1) wo.heap.size HO.out (by simp) (by omega)).mono ?_
        rintro e w9 ⟨⟨A9, c9, rfl, ho9⟩, hb9⟩
        rw [lpS_map] at ho9
        have H9 := hid (And.intro ho9 hb9)
        clear ho9 hb9
        go_wp2_with fail
        go_ret2
        refine ⟨⟨A9, c9, by rw [HV.out.1, HV.out.2.2] <;> rfl, ?_⟩, bbl HBr.out H9.out.2⟩
        rw [HV.out.1, HV.out.2.1]
        exact Go.Joins.ownsRow_le H9.out.1 HBr.out.size
end Go.Proofs.Ytgcgaoblbhojnaa

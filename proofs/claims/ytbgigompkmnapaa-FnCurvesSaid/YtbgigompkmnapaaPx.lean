/- The inner points by their numbers: l02Row, l02Point, points, PointAt. -/
import Derived.Test.YtbgigompkmnapaaCs
import Derived.OwnWalk
import Derived.Lib.SmallJoins
import Derived.Deep.AppendLies
namespace Go.Proofs.Ytbgigompkmnapaa
set_option linter.unusedSimpArgs false
set_option linter.unusedVariables false
open Go.ChangeShapes Go.WideShapes Go.ChangeAt Go.RowKit

set_option maxHeartbeats 800000 in
theorem l02Row_any (p : Nat) (W H y : Int) (s : Value) (w : World) (hp : PanP w p W H s) (hW : side W = true) (hy : 1 ≤ y) (hy2 : y ≤ 16) :
    Calls Try.prog 121 #[.pointer (some ⟨p, 0, none⟩), .int .i64 y] w fun e w' => e = .returned (.int .i64 (rowF W y)) ∧ w = w' := by
  obtain ⟨w1, w2⟩ := side_bd hW
  obtain ⟨p0, p1, p2⟩ := Box.three hp
  have HW := hid hW
  clear hW hp
  go_enter Try.func121, Try.ntmps121
  go_wp2_with fail
  go_loopg [5, 6] (y - 1).toNat (fun g n i wr => ∃ k : Int, 1 ≤ k ∧ k ≤ y ∧ i = .int .i64 k ∧ n = .int .i64 (rowF W k) ∧ g = (y - k).toNat ∧ w = wr)
  case atStart => exact ⟨1, by omega, hy, rfl, by rw [rowF_one], rfl, rfl⟩
  case round =>
    obtain ⟨k, k1, k2, rfl, rfl, hg, rfl⟩ := hrel
    obtain ⟨b1, b2⟩ := rowF_bd HW.out k1 (by omega : k ≤ 16)
    by_cases hlt : k < y
    · have HS := hid (rowF_succ HW.out k1)
      by_cases ho : k % 2 = 1
      · have hb : (k % 2 == 1) = true := by simp [ho]
        have HO := hid ho
        clear ho
        go_wp2_with fail
        go_roundg (y - (k + 1)).toNat
        case measure => omega
        case rel => exact ⟨k + 1, by omega, by omega, rfl, by rw [HS.out, HO.out], rfl, rfl⟩
      · have hb : (k % 2 == 1) = false := by simp; omega
        have HO : Hid (k % 2 = 0) := hid (by omega)
        clear ho
        go_wp2_with fail
        go_roundg (y - (k + 1)).toNat
        case measure => omega
        case rel => exact ⟨k + 1, by omega, by omega, rfl, by rw [HS.out, HO.out, Int.sub_zero], rfl, rfl⟩
    · obtain rfl : k = y := by omega
      go_wp2_with fail
      go_ret
      exact ⟨rfl, rfl⟩

theorem inner_le {W H : Int} (hW : side W = true) (hH : side H = true) : 0 ≤ inner W H ∧ inner W H ≤ 112 := by
  obtain ⟨a, b, c, d⟩ := inner_bd hW hH
  unfold inner
  omega

set_option maxHeartbeats 1600000 in
theorem l02Point_any (p : Nat) (W H k : Int) (s : Value) (w : World) (hp : PanP w p W H s) (hW : side W = true) (hH : side H = true) (h0 : 0 ≤ k) (hk : k < inner W H) :
    Calls Try.prog 102 #[.pointer (some ⟨p, 0, none⟩), .int .i64 k] w fun e w' => e = .returned (.agg #[.int .i64 (ptX W H k), .int .i64 (ptY W H k)]) ∧ Below w.heap.size w w' := by
  obtain ⟨w1, w2⟩ := side_bd hW
  obtain ⟨w3, w4⟩ := side_bd hH
  obtain ⟨i1, i2⟩ := inner_le hW hH
  obtain ⟨p0, p1, p2⟩ := Box.three hp
  have pz := PanP.lt hp
  have HP := hid hp
  have HW := hid hW
  have HH := hid hH
  obtain ⟨py1, py2, py3, py4⟩ := ptY_spec hW hH h0 hk
  have PY := hid (And.intro py3 py4)
  clear py3 py4
  clear hW hH hp
  go_enter Try.func102, Try.ntmps102
  go_wp2_with fail
  go_loopg [5] 16 (fun g i wr => ∃ y : Int, 1 ≤ y ∧ y ≤ 2 * H - 1 ∧ i = .int .i64 y ∧ 2 * H - 1 - y ≤ g ∧ Hid (rowOf W H k g y = ptY W H k) ∧ (w.alloc (.cells #[.int .i64 0, .int .i64 0] 32)) = wr)
  case atStart => exact ⟨1, by omega, by omega, rfl, by omega, hid rfl, rfl⟩
  case round =>
    obtain ⟨y, y1, y2, rfl, hg, HE, rfl⟩ := hrel
    obtain ⟨ry1, ry2⟩ := rowF_bd HW.out y1 (by omega : y ≤ 16)
    by_cases cc : y + 1 < 2 * H ∧ rowF W (y + 1) ≤ k
    · obtain ⟨c1, c2⟩ := cc
      obtain ⟨m, rfl⟩ : ∃ m, gk = m + 1 := ⟨gk - 1, by omega⟩
      have HE2 : Hid (rowOf W H k m (y + 1) = ptY W H k) := hid (by have := HE.out; rwa [rowOf, if_pos ⟨c1, c2⟩] at this)
      go_wp2_with (go_at_call 121; refine (l02Row_any _ W H _ _ _ (HP.out.alloc _) HW.out (by omega) (by omega)).mono ?_; rintro e w' ⟨rfl, rfl⟩)
      go_roundg m
      case measure => omega
      case rel => exact ⟨y + 1, by omega, by omega, rfl, by omega, HE2, rfl⟩
    · have HE2 : Hid (y = ptY W H k) := hid (by
        have := HE.out
        cases gk with
        | zero => exact this
        | succ n => rwa [rowOf, if_neg cc] at this)
      have ry3 : rowF W y ≤ k := by rw [HE2.out]; exact PY.out.1
      have EX : Hid (2 * (k - rowF W y) + 1 + y % 2 = ptX W H k) := hid (by rw [HE2.out]; rfl)
      by_cases c1 : y + 1 < 2 * H
      · have c2 : ¬ rowF W (y + 1) ≤ k := fun h => cc ⟨c1, h⟩
        clear cc
        go_wp2_with fail
        refine (l02Row_any _ W H _ _ _ (HP.out.alloc _) HW.out (by omega) (by omega)).mono ?_
        rintro e w' ⟨rfl, rfl⟩
        go_wp2_with fail
        refine (l02Row_any _ W H _ _ _ (HP.out.alloc _) HW.out (by omega) (by omega)).mono ?_
        rintro e w' ⟨rfl, rfl⟩
        go_wp2_with fail
        refine bodyPost_ret (v := .agg #[.int .i64 (2 * (k - rowF W y) + 1 + y % 2), .int .i64 y]) (by simp [results, Try.results102, go_sem]) rfl ⟨?_, (by (repeat (with_reducible first | exact Below.refl _ _ | assumption | refine below_drewN ?_ _ | refine Below.drew ?_ | refine Below.alloc ?_ ?_ _ | refine Below.setCell ?_ ?_ _)); all_goals (first | omega | (simp only [size_drewN, World.size_alloc, World.size_setCell, World.size_drew] at *; omega) | (simp; done) | (simp; omega)))⟩
        rw [EX.out, HE2.out]
      · clear cc
        go_wp2_with fail
        refine (l02Row_any _ W H _ _ _ (HP.out.alloc _) HW.out (by omega) (by omega)).mono ?_
        rintro e w' ⟨rfl, rfl⟩
        go_wp2_with fail
        refine bodyPost_ret (v := .agg #[.int .i64 (2 * (k - rowF W y) + 1 + y % 2), .int .i64 y]) (by simp [results, Try.results102, go_sem]) rfl ⟨?_, (by (repeat (with_reducible first | exact Below.refl _ _ | assumption | refine below_drewN ?_ _ | refine Below.drew ?_ | refine Below.alloc ?_ ?_ _ | refine Below.setCell ?_ ?_ _)); all_goals (first | omega | (simp only [size_drewN, World.size_alloc, World.size_setCell, World.size_drew] at *; omega) | (simp; done) | (simp; omega)))⟩
        rw [EX.out, HE2.out]

/-- The cells of the first n inner points. -/
def ptCells (W H : Int) (n : Nat) : List Value := (List.range n).flatMap fun (k : Nat) => [Value.int .i64 (ptX W H (k : Int)), Value.int .i64 (ptY W H (k : Int))]
theorem ptCells_succ (W H : Int) (n : Nat) : ptCells W H (n + 1) = ptCells W H n ++ [Value.int .i64 (ptX W H n), Value.int .i64 (ptY W H n)] := by
  simp [ptCells, List.range_succ, List.flatMap_append]
theorem ptCells_length (W H : Int) (n : Nat) : (ptCells W H n).length = n * 2 := by
  induction n with
  | zero => rfl
  | succ n ih => rw [ptCells_succ, List.length_append, ih]; simp; omega
theorem ptCells_at0 (W H : Int) {n m : Nat} (h : n < m) : (ptCells W H m)[n * 2]? = some (Value.int .i64 (ptX W H n)) := by
  induction m with
  | zero => omega
  | succ m ih =>
    rw [ptCells_succ]
    rcases Nat.lt_or_ge n m with hn | hn
    · rw [List.getElem?_append_left (by rw [ptCells_length]; omega)]
      exact ih hn
    · obtain rfl : n = m := by omega
      rw [List.getElem?_append_right (by rw [ptCells_length]; omega), ptCells_length, Nat.sub_self]
      rfl
theorem ptCells_at1 (W H : Int) {n m : Nat} (h : n < m) : (ptCells W H m)[n * 2 + 1]? = some (Value.int .i64 (ptY W H n)) := by
  induction m with
  | zero => omega
  | succ m ih =>
    rw [ptCells_succ]
    rcases Nat.lt_or_ge n m with hn | hn
    · rw [List.getElem?_append_left (by rw [ptCells_length]; omega)]
      exact ih hn
    · obtain rfl : n = m := by omega
      rw [List.getElem?_append_right (by rw [ptCells_length]; omega), ptCells_length, show n * 2 + 1 - n * 2 = 1 by omega]
      rfl
theorem hasIndex_any (k : Int) (n : Nat) (w : World) (hn : n ≤ 9223372036854775807) : Calls Try.prog 96 #[.int .i64 k, .int .i64 n] w fun e w' => e = .returned (.bool (inR k 0 ((n : Int) - 1))) ∧ w = w' := by
  go_enter Try.func96, Try.ntmps96
  go_wp2_with (go_at_call 81; refine (inRange_any _ _ _ _).mono ?_; rintro e w' ⟨rfl, rfl⟩)
  go_ret
  exact ⟨rfl, rfl⟩
theorem infoPt : (Try.prog.info? 32).map (fun i => (i.zero, i.size, i.bytes)) = some (some (.agg #[.int .i64 0, .int .i64 0]), 2, 16) := by kernel_rfl

theorem numF_start (W y : Int) : numF W (1 + y % 2) y = rowF W y := by
  unfold numF
  omega
theorem numF_next (W x y : Int) : numF W (x + 2) y = numF W x y + 1 := by
  unfold numF
  omega
theorem numF_last {W x y : Int} (hW : side W = true) (hy : 1 ≤ y) (h1 : 2 * W ≤ x) (h2 : x ≤ 2 * W + 1) (h3 : (x + y) % 2 = 1) : numF W x y = rowF W (y + 1) := by
  rw [rowF_succ hW hy]
  unfold numF
  omega
set_option maxRecDepth 100000 in
set_option maxHeartbeats 1600000 in
theorem points_any (W H : Int) (A : Option Addr) (n c : Nat) (w : World) (hW : side W = true) (hH : side H = true) :
    Calls Try.prog 97 #[.agg #[.int .i64 W, .int .i64 H, .slice A n c]] w fun e w' => (∃ A' c', e = .returned (.slice A' (inner W H).toNat c') ∧ w'.ownsRow w.heap.size 32 2 (.slice A' (inner W H).toNat c') (inner W H).toNat (ptCells W H (inner W H).toNat)) ∧ Below w.heap.size w w' := by
  obtain ⟨w1, w2⟩ := side_bd hW
  obtain ⟨w3, w4⟩ := side_bd hH
  obtain ⟨i1, i2⟩ := inner_le hW hH
  obtain ⟨i0, hi, hz0, hz1, hz2⟩ := info_parts infoPt
  have HW := hid hW
  have HH := hid hH
  clear hW hH
  go_enter Try.func97, Try.ntmps97
  go_wp2_with fail
  have ho0 := World.ownsRow_lit (base := w.heap.size + 1) (e := 32) (size := 2) (w.alloc (.cells #[.int .i64 W, .int .i64 H, .slice A n c] 30)) #[] 0 (by simp) (Nat.zero_le _) rfl
  simp only [World.size_alloc] at ho0
  have HO0 := hid ho0
  clear ho0
  go_loopg [3, 4] (2 * H - 1).toNat (fun g v i wr => ∃ y : Int, 1 ≤ y ∧ y ≤ 2 * H ∧ i = .int .i64 y ∧ g = (2 * H - y).toNat ∧ wr.ownsRow (w.heap.size + 1) 32 2 v (rowF W y).toNat (ptCells W H (rowF W y).toNat) ∧ Below (w.heap.size + 1) (w.alloc (.cells #[.int .i64 W, .int .i64 H, .slice A n c] 30)) wr)
  case atStart => exact ⟨1, by omega, by omega, rfl, rfl, by rw [rowF_one]; exact HO0.out, by exact (Below.refl _ _).alloc (by simp) _⟩
  case round =>
    obtain ⟨y, y1, y2, rfl, hg, ho, hb⟩ := hrel
    clear HO0
    obtain ⟨r1, r2⟩ := rowF_bd HW.out y1 (by omega : y ≤ 16)
    obtain ⟨p0, p1, p2⟩ := (Box.below (Box.new w _ _) hb (by simp)).three
    have pz := (Box.below (Box.new w _ _) hb (by simp)).lt
    have HB := hid hb
    have HO := hid ho
    clear hb ho
    by_cases hlt : y < 2 * H
    · go_wp2_with fail
      go_loopg [3, 5] 20 (fun g v i wx => ∃ x : Int, 1 + y % 2 ≤ x ∧ x ≤ 2 * W + 1 ∧ (x + y) % 2 = 1 ∧ i = .int .i64 x ∧ 2 * W + 1 - x ≤ g ∧ wx.ownsRow (w.heap.size + 1) 32 2 v (numF W x y).toNat (ptCells W H (numF W x y).toNat) ∧ Below (w.heap.size + 1) (w.alloc (.cells #[.int .i64 W, .int .i64 H, .slice A n c] 30)) wx)
      case atStart => exact ⟨1 + y % 2, by omega, by omega, by omega, rfl, by omega, by rw [numF_start]; exact HO.out, HB.out⟩
      case round =>
        obtain ⟨x, x1, x2, x3, rfl, hg2, ho, hb⟩ := hrel
        obtain ⟨v, rfl⟩ : ∃ v, v = u3 := ⟨_, rfl⟩
        clear p0 p1 p2 pz HO HB
        obtain ⟨p0, p1, p2⟩ := (Box.below (Box.new w _ _) hb (by simp)).three
        have pz := (Box.below (Box.new w _ _) hb (by simp)).lt
        by_cases hxl : x < 2 * W
        · have hn := numF_bd HW.out HH.out (by omega : 1 ≤ x) (by omega) y1 (by omega : y ≤ 2 * H - 1) (by omega)
          have hpn := pt_num HW.out HH.out (by omega : 1 ≤ x) (by omega) y1 (by omega : y ≤ 2 * H - 1) (by omega)
          obtain ⟨k, hk⟩ : ∃ k : Nat, numF W x y = k := ⟨(numF W x y).toNat, by omega⟩
          have hk2 : numF W (x + 2) y = ((k + 1 : Nat) : Int) := by rw [numF_next, hk]; rfl
          rw [hk, Int.toNat_natCast] at ho
          rw [hk] at hpn hn
          have HN := hid hpn
          have HK := hid hk2
          have hkl : k < 112 := by omega
          have hs := hb.size
          simp only [World.size_alloc] at hs
          have HB := hid hb
          have HX3 := hid x3
          have HR : Hid (∀ q, v.ownBlock = some q → w.heap.size + 1 ≤ q) := hid fun q hq => (ho.lt q hq).1
          clear hk hk2 hpn hn hb x3
          go_wp2_with (at_builtin; refine wpList_append_own _ rfl (.tmp 24) (.tmp 28) 79 rfl (w.heap.size + 1) 32 i0 (.agg #[.int .i64 0, .int .i64 0]) 2 16 Try.underlying79 hi hz0 hz1 hz2 rfl (by decide) _ k (ptCells W H k) rfl (ho.alloc _) ⟨wr.heap.size, 0, none⟩ 1 1 [.int .i64 x, .int .i64 y] rfl rfl (World.news_of_block (cs := #[.int .i64 x, .int .i64 y]) (t := 32) (fr := (0, 0)) (heap_alloc_new wr _)) (by simp [Value.oneCell']) (by unfold maxLen; omega) (by omega) (by simp; omega) ?_; intro v' wz ho2 hgr _)
          have HH2 := hid (And.intro ho2 hgr)
          clear ho2 hgr
          go_roundg (gk - 2)
          case measure => omega
          case rel => exact ⟨x + 2, by omega, by omega, by have := HX3.out; omega, rfl, by omega, by have h := HH2.out.1; rw [HK.out, Int.toNat_natCast, ptCells_succ, HN.out.1, HN.out.2]; exact h, (HB.out.alloc (by omega) _).grown HH2.out.2 (by simp; omega) HR.out⟩
        · have HL := hid (numF_last HW.out y1 (by omega : 2 * W ≤ x) x2 x3)
          have HOx := hid ho
          have HBx := hid hb
          clear ho hb x3
          go_wp2_with fail
          go_roundg (2 * H - (y + 1)).toNat
          case measure => omega
          case rel => exact ⟨y + 1, by omega, by omega, rfl, rfl, by rw [← HL.out]; exact HOx.out, HBx.out⟩
    · obtain rfl : y = 2 * H := by omega
      have ho := HO.out
      rw [rowF_end HW.out HH.out] at ho
      have HO' := hid ho
      rcases Go.Joins.ownsRow_forms ho with ⟨rfl, hn0⟩ | ⟨g, cap, rfl⟩
      · clear ho
        have HN0 := hid hn0
        clear hn0
        go_wp2_with fail
        go_ret
        refine ⟨⟨none, 0, by simp [HN0.out], ?_⟩, Below.trans (by (repeat (with_reducible first | exact Below.refl _ _ | assumption | refine below_drewN ?_ _ | refine Below.drew ?_ | refine Below.alloc ?_ ?_ _ | refine Below.setCell ?_ ?_ _)); all_goals (first | omega | (simp only [size_drewN, World.size_alloc, World.size_setCell, World.size_drew] at *; omega) | (simp; done) | (simp; omega))) (HB.out.mono (by omega))⟩
        have := HO'.out
        rw [HN0.out] at this ⊢
        exact Go.Joins.ownsRow_le this (by omega)
      · clear ho
        go_wp2_with fail
        go_ret
        exact ⟨⟨_, _, rfl, Go.Joins.ownsRow_le HO'.out (by omega)⟩, Below.trans (by (repeat (with_reducible first | exact Below.refl _ _ | assumption | refine below_drewN ?_ _ | refine Below.drew ?_ | refine Below.alloc ?_ ?_ _ | refine Below.setCell ?_ ?_ _)); all_goals (first | omega | (simp only [size_drewN, World.size_alloc, World.size_setCell, World.size_drew] at *; omega) | (simp; done) | (simp; omega))) (HB.out.mono (by omega))⟩
end Go.Proofs.Ytbgigompkmnapaa

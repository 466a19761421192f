/- Slices of int64 in memory of the law's own: copied, compared, marked, held. -/
import Derived.Test.YtbgigompkmnapaaVp
import Derived.OwnWalk
import Derived.Laws.OwnMore
namespace Go.Proofs.Ytbgigompkmnapaa
set_option linter.unusedSimpArgs false
set_option linter.unusedVariables false
open Go.ChangeShapes Go.WideShapes Go.ChangeAt Go.RowKit

theorem infoI : (Try.prog.info? 2).map (fun i => (i.zero, i.size, i.bytes)) = some (some (.int .i64 0), 1, 8) := by kernel_rfl

abbrev vals (zs : List Int) : List Value := zs.map (Value.int .i64)
/-- The slice value v owns, from block B on, the numbers zs. -/
def OwnI (w : World) (B : Nat) (v : Value) (zs : List Int) : Prop := w.ownsRow B 2 1 v zs.length (vals zs)

theorem OwnI.form {w : World} {B : Nat} {v : Value} {zs : List Int} (h : OwnI w B v zs) : ∃ A c, v = .slice A zs.length c ∧ Ints w w.heap.size A zs := by
  rcases h.2 with ⟨rfl, h0⟩ | ⟨g, cap, cur, rfl, _, hg, _⟩
  · refine ⟨none, 0, by rw [h0], fun j z hj => ?_⟩
    have hz : zs = [] := List.eq_nil_of_length_eq_zero h0
    subst hz
    simp at hj
  · refine ⟨_, _, rfl, fun j z hj => ⟨g, 0, rfl, (Array.getElem?_eq_some_iff.1 hg).1, ?_⟩⟩
    have hjl : j < zs.length := (List.getElem?_eq_some_iff.1 hj).1
    have := World.ownsRow.cellAt h j (by omega)
    rw [Nat.zero_add, this]
    simp [vals, hj]

theorem OwnI.below {w w' : World} {B B' : Nat} {v : Value} {zs : List Int} (h : OwnI w B v zs) (hb : Below B' w w') (hB : ∀ k, v.ownBlock = some k → k < B') : OwnI w' B v zs := by
  refine ⟨h.1, ?_⟩
  rcases h.2 with hn | ⟨g, cap, cur, rfl, hbg, hg, rest⟩
  · exact .inl hn
  · exact .inr ⟨g, cap, cur, rfl, hbg, (hb.block g (hB g rfl)).trans hg, rest⟩

theorem OwnI.setBelow {w : World} {B : Nat} {v : Value} {zs : List Int} (h : OwnI w B v zs) {a : Addr} (ha : a.block < B) (u : Value) : OwnI (w.setCell a u) B v zs := ownsRow_setCell_below h ha u
theorem OwnI.le {w : World} {B B' : Nat} {v : Value} {zs : List Int} (h : OwnI w B v zs) (hB : B' ≤ B) : OwnI w B' v zs := by
  refine ⟨h.1, ?_⟩
  rcases h.2 with hn | ⟨g, cap, cur, e, hb, rest⟩
  · exact .inl hn
  · exact .inr ⟨g, cap, cur, e, by omega, rest⟩
theorem OwnI.alloc {w : World} {B : Nat} {v : Value} {zs : List Int} (h : OwnI w B v zs) (o : Obj) : OwnI (w.alloc o) B v zs := World.ownsRow.alloc h o
theorem OwnI.drewN {w : World} {B : Nat} {v : Value} {zs : List Int} (h : OwnI w B v zs) (n : Nat) : OwnI (w.drewN n) B v zs := h
theorem OwnI.lt {w : World} {B : Nat} {v : Value} {zs : List Int} (h : OwnI w B v zs) : ∀ k, v.ownBlock = some k → B ≤ k ∧ k < w.heap.size := World.ownsRow.lt h
theorem OwnI.keep {w w' : World} {B : Nat} {v : Value} {zs : List Int} (h : OwnI w B v zs) (hb : Below w.heap.size w w') : OwnI w' B v zs := h.below hb fun k hk => (h.lt k hk).2

theorem OwnI.ints {w : World} {B n c : Nat} {A : Option Addr} {zs : List Int} (h : OwnI w B (.slice A n c) zs) : Ints w w.heap.size A zs := by
  obtain ⟨A', c', e, h'⟩ := h.form
  simp only [Value.slice.injEq] at e
  rw [e.1]; exact h'

def fillI (zs : List Int) (k : Nat) : List Value := vals (zs.take k ++ List.replicate (zs.length - k) 0)
theorem fillI_zero (zs : List Int) : (madeCells (Value.int .i64 0).cells (zs.length * 1)).toList = fillI zs 0 := by
  rw [Nat.mul_one]
  show (madeCells #[Value.int .i64 0] zs.length).toList = _
  rw [toList_madeCells_one]
  simp [fillI, vals]
theorem fillI_full (zs : List Int) : fillI zs zs.length = vals zs := by simp [fillI]
theorem fillI_set (zs : List Int) (k : Nat) (z : Int) (h : zs[k]? = some z) : (fillI zs k).set k (.int .i64 z) = fillI zs (k + 1) := by
  have hk : k < zs.length := (List.getElem?_eq_some_iff.1 h).1
  have e : List.replicate (zs.length - k) (0 : Int) = 0 :: List.replicate (zs.length - (k + 1)) 0 := by
    rw [show zs.length - k = (zs.length - (k + 1)) + 1 by omega]; rfl
  unfold fillI vals
  rw [e, List.map_append, List.map_append, List.set_append, List.take_add_one, h]
  simp only [List.length_map, List.length_take, Nat.min_eq_left (Nat.le_of_lt hk)]
  simp

theorem szInt64S_any (n : Nat) (A : Option Addr) (c : Nat) (l : Int) (w : World) (h : (n : Int) ≤ l) (hl : l ≤ 1048576) : Calls Try.prog 60 #[.slice A n c, .int .i64 l] w fun e w' => e = .returned (.int .i64 (l - n)) ∧ w = w' := by
  go_enter Try.func60, Try.ntmps60
  go_wp2
  go_ret
  exact ⟨rfl, rfl⟩
theorem szInt64S_big (n : Nat) (A : Option Addr) (c : Nat) (l : Int) (w : World) (h : l < (n : Int)) (h0 : 0 ≤ l) (hm : n ≤ maxLen) : Calls Try.prog 60 #[.slice A n c, .int .i64 l] w fun e w' => e = .returned (.int .i64 (-1)) ∧ w = w' := by
  unfold maxLen at hm
  go_enter Try.func60, Try.ntmps60
  go_wp2
  go_ret
  exact ⟨rfl, rfl⟩

set_option maxHeartbeats 400000 in
theorem toInt64S_any (A : Option Addr) (c : Nat) (zs : List Int) (w : World) (hz : Ints w w.heap.size A zs) (hl : zs.length ≤ 1048576) :
    Calls Try.prog 66 #[.slice A zs.length c] w fun e w' => (∃ A' c', e = .returned (.slice A' zs.length c') ∧ OwnI w' w.heap.size (.slice A' zs.length c') zs) ∧ Below w.heap.size w w' := by
  obtain ⟨i0, hi, hz0, hz1, hz2⟩ := info_parts infoI
  have hl' : zs.length ≤ 9223372036854775807 := by omega
  go_enter Try.func66, Try.ntmps66
  go_wp2_with (at_make; refine wpList_make_full _ rfl _ _ _ rfl w.heap.size 2 i0 (.int .i64 0) 1 Try.underlying22 hi hz0 hz1 _ _ _ _ zs.length rfl rfl rfl rfl (by rw [hz2]; omega) (by unfold maxLen; omega) (Nat.le_refl _) ?_; intro w1 hown hgr)
  rw [fillI_zero] at hown
  have hb1 : Below w.heap.size w w1 := (Below.refl _ _).grown hgr (Nat.le_refl _) (by simp)
  go_loopg [4] zs.length (fun g i wr => ∃ k : Nat, k ≤ zs.length ∧ i = .int .i64 k ∧ g = zs.length - k ∧ wr.ownsRow w.heap.size 2 1 (.slice (some ⟨w.heap.size, 0, none⟩) zs.length zs.length) zs.length (fillI zs k) ∧ Below w.heap.size w wr)
  case atStart => exact ⟨0, Nat.zero_le _, rfl, rfl, hown, hb1⟩
  case round =>
    obtain ⟨k, hk, rfl, hg, ho, hbl⟩ := hrel
    by_cases hlt : k < zs.length
    · obtain ⟨z, hzk⟩ : ∃ z, zs[k]? = some z := ⟨_, List.getElem?_eq_getElem hlt⟩
      obtain ⟨b, off, rfl, hb, hc⟩ := (hz.below hbl) k z hzk
      obtain ⟨u, hu⟩ : ∃ u, (fillI zs k)[k]? = some u := ⟨_, List.getElem?_eq_getElem (by rw [ho.1]; omega)⟩
      have hc2 : wr.cell? ⟨w.heap.size, k, none⟩ = some u := (World.ownsRow.cellAt ho k (by omega)).trans hu
      have hf2 := World.ownsRow.frozenAt ho k
      have hst := World.ownsRow.stored ho k (.int .i64 z)
      rw [fillI_set zs k z hzk] at hst
      have HST := hid hst
      clear hzk hu hst
      go_wp2_with fail
      go_roundg (zs.length - (k + 1))
      case measure => omega
      case rel => exact ⟨k + 1, by omega, by go_num, rfl, HST.out.1, hbl.setCell (Nat.le_refl _) _⟩
    · have hkl : k = zs.length := by omega
      subst hkl
      rw [fillI_full] at ho
      go_wp2_with fail
      go_ret
      exact ⟨⟨_, _, rfl, ho⟩, hbl⟩

theorem take_eq_succ {xs ys : List Int} {k : Nat} {x y : Int} (h : xs.take k = ys.take k) (hx : xs[k]? = some x) (hy : ys[k]? = some y) (e : x = y) : xs.take (k + 1) = ys.take (k + 1) := by
  rw [List.take_add_one, List.take_add_one, hx, hy, h, e]
theorem ne_of_at {xs ys : List Int} {k : Nat} {x y : Int} (hx : xs[k]? = some x) (hy : ys[k]? = some y) (e : x ≠ y) : decide (xs = ys) = false := by
  rw [decide_eq_false_iff_not]
  rintro rfl
  rw [hx] at hy
  exact e (by injection hy)

set_option maxHeartbeats 400000 in
theorem eqInt64S_any (A1 A2 : Option Addr) (c1 c2 : Nat) (xs ys : List Int) (w : World) (B : Nat) (h1 : Ints w B A1 xs) (h2 : Ints w B A2 ys) (hl : xs.length ≤ maxLen) (hl2 : ys.length ≤ maxLen) :
    Calls Try.prog 16 #[.slice A1 xs.length c1, .slice A2 ys.length c2] w fun e w' => e = .returned (.bool (decide (xs = ys))) ∧ ∃ m, w' = w.drewN m := by
  unfold maxLen at hl hl2
  by_cases hn : xs.length = ys.length
  · have hne : ((xs.length : Int) != (ys.length : Int)) = false := by simp [hn]
    have HN := hid hn
    clear hn
    go_enter Try.func16, Try.ntmps16
    go_wp2_with fail
    go_loopg [5] xs.length (fun g i wr => ∃ k : Nat, k ≤ xs.length ∧ i = .int .i64 k ∧ g = xs.length - k ∧ Hid (xs.take k = ys.take k) ∧ ∃ m, wr = w.drewN m)
    case atStart => exact ⟨0, Nat.zero_le _, rfl, rfl, hid (by simp), 0, rfl⟩
    case round =>
      obtain ⟨k, hk, rfl, hg, hall, m, rfl⟩ := hrel
      by_cases hlt : k < xs.length
      · obtain ⟨x, hx⟩ : ∃ z, xs[k]? = some z := ⟨_, List.getElem?_eq_getElem hlt⟩
        obtain ⟨y, hy⟩ : ∃ z, ys[k]? = some z := ⟨_, List.getElem?_eq_getElem (by have := HN.out; omega)⟩
        obtain ⟨b1, o1, rfl, hb1, hc1⟩ := h1 k x hx
        obtain ⟨b2, o2, rfl, hb2, hc2⟩ := h2 k y hy
        have hlt2 : k < ys.length := by have := HN.out; omega
        have Hx := hid hx
        have Hy := hid hy
        clear hx hy
        by_cases he : x = y
        · have hb : (x != y) = false := by simp [he]
          have HE := hid he
          clear he
          go_wp2_with fail
          go_quiet (fail)
          go_wp2_with fail
          go_roundg (xs.length - (k + 1))
          case measure => omega
          case rel => exact ⟨k + 1, by omega, by go_num, rfl, hid (take_eq_succ hall.out Hx.out Hy.out HE.out), _, rfl⟩
        · have hb : (x != y) = true := by simp [he]
          have HE := hid he
          clear he
          go_wp2_with fail
          go_quiet (fail)
          go_wp2_with fail
          go_ret
          exact ⟨ret_bool (ne_of_at Hx.out Hy.out HE.out).symm, _, World.drewN_drewN ..⟩
      · have HA : Hid (decide (xs = ys) = true) := hid (by
          have := hall.out
          rw [List.take_of_length_le (by omega), List.take_of_length_le (by have := HN.out; omega)] at this
          simp [this])
        go_wp2_with fail
        go_ret
        exact ⟨ret_bool HA.out.symm, _, rfl⟩
  · have hne : ((xs.length : Int) != (ys.length : Int)) = true := by simp; omega
    have HA : Hid (decide (xs = ys) = false) := hid (by rw [decide_eq_false_iff_not]; rintro rfl; exact hn rfl)
    clear hn
    go_enter Try.func16, Try.ntmps16
    go_wp2_with fail
    go_ret
    exact ⟨ret_bool HA.out.symm, 0, rfl⟩

/-- n numbers from k on. -/
def marks (k n : Nat) : List Int := (List.range n).map fun i => ((k + i : Nat) : Int)
theorem marks_length (k n : Nat) : (marks k n).length = n := by simp [marks]
theorem marks_at {k n i : Nat} (h : i < n) : (marks k n)[i]? = some ((k + i : Nat) : Int) := by simp [marks, h]
/-- What the row holds when j cells are marked. -/
def marked (zs : List Int) (k j : Nat) : List Int := marks k j ++ zs.drop j
theorem marked_zero (zs : List Int) (k : Nat) : marked zs k 0 = zs := by simp [marked, marks]
theorem marked_full (zs : List Int) (k : Nat) : marked zs k zs.length = marks k zs.length := by simp [marked]
theorem marked_length (zs : List Int) (k : Nat) {j : Nat} (h : j ≤ zs.length) : (marked zs k j).length = zs.length := by simp [marked, marks]; omega
theorem marked_set (zs : List Int) (k j : Nat) (h : j < zs.length) : (marked zs k j).set j ((k + j : Nat) : Int) = marked zs k (j + 1) := by
  unfold marked
  rw [List.set_append_right _ _ (by simp [marks]), marks_length, Nat.sub_self, List.drop_eq_getElem_cons h, List.set_cons_zero]
  simp [marks, List.range_succ]

set_option maxHeartbeats 400000 in
theorem markInt64S_any (v : Value) (zs : List Int) (k : Nat) (B : Nat) (w : World) (h : OwnI w B v zs) (hk : k + zs.length ≤ 4611686018427387904) :
    Calls Try.prog 19 #[v, .int .i64 k] w fun e w' => e = .returned (.int .i64 ((k + zs.length : Nat) : Int)) ∧ OwnI w' B v (marks k zs.length) ∧ w.grownBy w' v.ownBlock := by
  rcases Nat.eq_zero_or_pos zs.length with h0 | hp
  · have hz : zs = [] := List.eq_nil_of_length_eq_zero h0
    subst hz
    obtain ⟨A, c, rfl, _⟩ := h.form
    have HO := hid h
    clear h h0
    go_enter Try.func19, Try.ntmps19
    go_wp2_with fail
    refine wp_loop_rounds 1 ?_
    rw [rounds_succ]
    go_wp2_with fail
    go_ret
    exact ⟨by simp, by simpa [marks] using HO.out, ⟨rfl, rfl, rfl, Nat.le_refl _, fun _ _ _ => rfl⟩⟩
  · obtain ⟨g, cap, rfl⟩ : ∃ g cap, v = .slice (some ⟨g, 0, none⟩) zs.length cap := by
      rcases h.2 with ⟨_, h0⟩ | ⟨g, cap, cur, e, _⟩
      · omega
      · exact ⟨g, cap, e⟩
    go_enter Try.func19, Try.ntmps19
    go_wp2_with fail
    go_loopg [1, 5] zs.length (fun r q i wr => ∃ j : Nat, j ≤ zs.length ∧ q = .int .i64 ((k + j : Nat) : Int) ∧ i = .int .i64 j ∧ r = zs.length - j ∧ wr.ownsRow B 2 1 (.slice (some ⟨g, 0, none⟩) zs.length cap) zs.length (vals (marked zs k j)) ∧ w.grownBy wr (some g))
    case atStart => exact ⟨0, Nat.zero_le _, rfl, rfl, rfl, by rw [marked_zero]; exact h, ⟨rfl, rfl, rfl, Nat.le_refl _, fun _ _ _ => rfl⟩⟩
    case round =>
      obtain ⟨j, hj, rfl, rfl, hr, ho, hgr⟩ := hrel
      by_cases hlt : j < zs.length
      · obtain ⟨u, hu⟩ : ∃ u, (vals (marked zs k j))[j]? = some u := ⟨_, List.getElem?_eq_getElem (by rw [ho.1]; omega)⟩
        have hc2 : wr.cell? ⟨g, j, none⟩ = some u := (World.ownsRow.cellAt ho j (by omega)).trans hu
        have hf2 := World.ownsRow.frozenAt ho j
        have hst := World.ownsRow.stored ho j (.int .i64 ((k + j : Nat) : Int))
        rw [show (vals (marked zs k j)).set j (.int .i64 ((k + j : Nat) : Int)) = vals (marked zs k (j + 1)) by rw [← marked_set zs k j hlt]; simp [vals]] at hst
        have HST := hid hst
        clear hu hst
        go_wp2_with fail
        go_roundg (zs.length - (j + 1))
        case measure => omega
        case rel => exact ⟨j + 1, by omega, by go_num, by go_num, rfl, by simpa using HST.out.1, ⟨hgr.os, hgr.tape, hgr.output, Nat.le_trans hgr.size (by simp), fun i hi hne => (HST.out.2.block i (Nat.lt_of_lt_of_le hi hgr.size) hne).trans (hgr.block i hi hne)⟩⟩
      · have hkl : j = zs.length := by omega
        subst hkl
        rw [marked_full] at ho
        go_wp2_with fail
        go_ret
        exact ⟨rfl, by unfold OwnI; rw [marks_length]; exact ho, hgr⟩

set_option maxHeartbeats 400000 in
theorem heldInt64S_any (A : Option Addr) (c k n : Nat) (w : World) (h : Ints w w.heap.size A (marks k n)) (hk : k + n ≤ 4611686018427387904) :
    Calls Try.prog 20 #[.slice A n c, .int .i64 k] w fun e w' => e = .returned (.int .i64 ((k + n : Nat) : Int)) ∧ Below w.heap.size w w' := by
  go_enter Try.func20, Try.ntmps20
  go_wp2_with fail
  go_loopg [1, 5] n (fun r q i wr => ∃ j : Nat, j ≤ n ∧ q = .int .i64 ((k + j : Nat) : Int) ∧ i = .int .i64 j ∧ r = n - j ∧ Below w.heap.size w wr)
  case atStart => exact ⟨0, Nat.zero_le _, rfl, rfl, rfl, Below.refl _ _⟩
  case round =>
    obtain ⟨j, hj, rfl, rfl, hr, hbl⟩ := hrel
    by_cases hlt : j < n
    · obtain ⟨b, off, rfl, hb, hc⟩ := (h.below hbl) j _ (marks_at hlt)
      go_wp2_with fail
      go_roundg (n - (j + 1))
      case measure => omega
      case rel => exact ⟨j + 1, by omega, by go_num, by go_num, rfl, hbl⟩
    · have hkl : j = n := by omega
      subst hkl
      go_wp2_with fail
      go_ret
      exact ⟨rfl, hbl⟩
end Go.Proofs.Ytbgigompkmnapaa

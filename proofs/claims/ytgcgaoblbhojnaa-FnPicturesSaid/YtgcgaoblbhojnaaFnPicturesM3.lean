/- Merged texts: Same, Sp, Lb. -/
import Derived.Test.YtgcgaoblbhojnaaMem
import Derived.Test.YtgcgaoblbhojnaaPan
import Derived.Test.YtgcgaoblbhojnaaDd
import Derived.Test.YtgcgaoblbhojnaaPs
import Derived.Deep.AppendLies
import Derived.Deep.RegionLaw
namespace Go.Proofs.Ytgcgaoblbhojnaa
set_option linter.unusedSimpArgs false
set_option linter.unusedVariables false
open Go.ChangeShapes Go.WideShapes Go.ChangeAt Go.RowKit
set_option maxHeartbeats 400000 in
theorem l00Same_any (A1 A2 : Option Addr) (c1 c2 : Nat) (xs ys : List Int) (w : World) (B : Nat) (h1 : Ints w B A1 xs) (h2 : Ints w B A2 ys) (hl : xs.length ≤ maxLen) (hl2 : ys.length ≤ maxLen) :
    Calls Try.prog 121 #[.slice A1 xs.length c1, .slice A2 ys.length c2] w fun e w' => e = .returned (.bool (decide (xs = ys))) ∧ ∃ m, w' = w.drewN m := by
  unfold maxLen at hl hl2
  by_cases hn : xs.length = ys.length
  · have hne : ((xs.length : Int) != (ys.length : Int)) = false := by simp [hn]
    have HN := hid hn
    clear hn
    go_enter Try.func121, Try.ntmps121
    go_wp2_with fail
    go_loopg [5] xs.length (fun g i wr => ∃ k : Nat, k ≤ xs.length ∧ i = .int .i64 k ∧ g = xs.length - k ∧ Hid (xs.take k = ys.take k) ∧ ∃ m, wr = w.drewN m)
    case atStart => exact ⟨0, Nat.zero_le _, rfl, rfl, hid (by simp), 0, rfl⟩
    case round =>
      obtain ⟨k, hk, rfl, hg, hall, m, rfl⟩ := hrel
      by_cases hlt : k < xs.length
      · obtain ⟨x, hx⟩ : ∃ z, xs[k]? = some z := ⟨_, List.getElem?_eq_getElem hlt⟩
        obtain ⟨y, hy⟩ : ∃ z, ys[k]? = some z := ⟨_, List.getElem?_eq_getElem (by have := HN.out; omega)⟩
        obtain ⟨b1, o1, rfl, hb1, hc1⟩ := h1 k x hx
        obtain ⟨b2, o2, rfl, hb2, hc2⟩ := h2 k y hy
        have hlt2 : k < ys.length := by have := HN.out; omega
        have Hx := hid hx
        have Hy := hid hy
        clear hx hy
        by_cases he : x = y
        · have hb : (x != y) = false := by simp [he]
          have HE := hid he
          clear he
          go_wp2_with fail
          go_quiet (fail)
          go_wp2_with fail
          go_roundg (xs.length - (k + 1))
          case measure => omega
          case rel => exact ⟨k + 1, by omega, by go_num, rfl, hid (take_eq_succ hall.out Hx.out Hy.out HE.out), _, rfl⟩
        · have hb : (x != y) = true := by simp [he]
          have HE := hid he
          clear he
          go_wp2_with fail
          go_quiet (fail)
          go_wp2_with fail
          go_ret
          exact ⟨ret_bool (ne_of_at Hx.out Hy.out HE.out).symm, _, World.drewN_drewN ..⟩
      · have HA : Hid (decide (xs = ys) = true) := hid (by
          have := hall.out
          rw [List.take_of_length_le (by omega), List.take_of_length_le (by have := HN.out; omega)] at this
          simp [this])
        go_wp2_with fail
        go_ret
        exact ⟨ret_bool HA.out.symm, _, rfl⟩
  · have hne : ((xs.length : Int) != (ys.length : Int)) = true := by simp; omega
    have HA : Hid (decide (xs = ys) = false) := hid (by rw [decide_eq_false_iff_not]; rintro rfl; exact hn rfl)
    clear hn
    go_enter Try.func121, Try.ntmps121
    go_wp2_with fail
    go_ret
    exact ⟨ret_bool HA.out.symm, 0, rfl⟩

end Go.Proofs.Ytgcgaoblbhojnaa
namespace Go.Proofs.Ytgcgaoblbhojnaa
set_option linter.unusedSimpArgs false
set_option linter.unusedVariables false
open Go.ChangeShapes Go.WideShapes Go.ChangeAt Go.RowKit

/-- Two panels are equal. -/
def samB (W H W' H' : Int) (xs ys : List Int) : Bool := decide (W = W') && decide (H = H') && decide (xs = ys)

set_option maxHeartbeats 800000 in
theorem l02Same_any (p q : Nat) (W H W' H' : Int) (A1 A2 : Option Addr) (c1 c2 : Nat) (xs ys : List Int) (w : World) (B : Nat) (hp : PanP w p W H (.slice A1 xs.length c1)) (hq : PanP w q W' H' (.slice A2 ys.length c2)) (h1 : Ints w B A1 xs) (h2 : Ints w B A2 ys) (hl : xs.length ≤ maxLen) (hl2 : ys.length ≤ maxLen) :
    Calls Try.prog 97 #[.pointer (some ⟨p, 0, none⟩), .pointer (some ⟨q, 0, none⟩)] w fun e w' => e = .returned (.bool (samB W H W' H' xs ys)) ∧ ∃ m, w' = w.drewN m := by
  have p0 := hp.c0
  have p1 := hp.c1
  have p2 := hp.c2
  have q0 := hq.c0
  have q1 := hq.c1
  have q2 := hq.c2
  clear hp hq
  by_cases e1 : W = W'
  · have d1 : (W == W') = true := by simp [e1]
    by_cases e2 : H = H'
    · have d2 : (H == H') = true := by simp [e2]
      have HV : Hid (samB W H W' H' xs ys = decide (xs = ys)) := hid (by simp [samB, e1, e2])
      clear e1 e2
      go_enter Try.func97, Try.ntmps97
      go_wp2_with fail
      go_quiet ((go_at_call 121; exact Calls.quiet_of (l00Same_any _ _ _ _ xs ys _ B (h1.drewN _) (h2.drewN _) hl hl2)))
      go_wp2_with fail
      go_ret
      exact ⟨ret_bool HV.out.symm, _, rfl⟩
    · have d2 : (H == H') = false := by simp [e2]
      have HV : Hid (samB W H W' H' xs ys = false) := hid (by simp [samB, e2])
      clear e1 e2
      go_enter Try.func97, Try.ntmps97
      go_wp2_with fail
      go_quiet (fail)
      go_wp2_with fail
      go_ret
      exact ⟨ret_bool HV.out.symm, _, rfl⟩
  · have d1 : (W == W') = false := by simp [e1]
    have HV : Hid (samB W H W' H' xs ys = false) := hid (by simp [samB, e1])
    clear e1
    go_enter Try.func97, Try.ntmps97
    go_wp2_with fail
    go_quiet (fail)
    go_wp2_with fail
    go_ret
    exact ⟨ret_bool HV.out.symm, _, rfl⟩

theorem specSamePanel_any (W H W' H' : Int) (A1 A2 : Option Addr) (c1 c2 : Nat) (xs ys : List Int) (w : World) (h1 : Ints w w.heap.size A1 xs) (h2 : Ints w w.heap.size A2 ys) (hl : xs.length ≤ maxLen) (hl2 : ys.length ≤ maxLen) :
    Calls Try.prog 47 #[.agg #[.int .i64 W, .int .i64 H, .slice A1 xs.length c1], .agg #[.int .i64 W', .int .i64 H', .slice A2 ys.length c2]] w fun e w' => e = .returned (.bool (samB W H W' H' xs ys)) ∧ Below w.heap.size w w' := by
  go_enter Try.func47, Try.ntmps47
  go_wp2_with (go_at_call 97; refine (l02Same_any _ _ W H W' H' A1 A2 c1 c2 xs ys _ w.heap.size ((PanP.box _ _ _ _).alloc _) (PanP.box' _ _ (by (first | omega | (simp only [size_drewN, World.size_alloc, World.size_setCell, World.size_drew] at *; omega) | (simp; done) | (simp; omega))) _ _ _) (h1.below (by (repeat (with_reducible first | exact Below.refl _ _ | assumption | refine below_drewN ?_ _ | refine Below.drew ?_ | refine Below.alloc ?_ ?_ _ | refine Below.setCell ?_ ?_ _)); all_goals (first | omega | (simp only [size_drewN, World.size_alloc, World.size_setCell, World.size_drew] at *; omega) | (simp; done) | (simp; omega)))) (h2.below (by (repeat (with_reducible first | exact Below.refl _ _ | assumption | refine below_drewN ?_ _ | refine Below.drew ?_ | refine Below.alloc ?_ ?_ _ | refine Below.setCell ?_ ?_ _)); all_goals (first | omega | (simp only [size_drewN, World.size_alloc, World.size_setCell, World.size_drew] at *; omega) | (simp; done) | (simp; omega)))) hl hl2).mono ?_; rintro e w' ⟨rfl, m, rfl⟩)
  go_ret
  exact ⟨rfl, (by (repeat (with_reducible first | exact Below.refl _ _ | assumption | refine below_drewN ?_ _ | refine Below.drew ?_ | refine Below.alloc ?_ ?_ _ | refine Below.setCell ?_ ?_ _)); all_goals (first | omega | (simp only [size_drewN, World.size_alloc, World.size_setCell, World.size_drew] at *; omega) | (simp; done) | (simp; omega)))⟩

end Go.Proofs.Ytgcgaoblbhojnaa
namespace Go.Proofs.Ytgcgaoblbhojnaa
set_option linter.unusedSimpArgs false
set_option linter.unusedVariables false
open Go.ChangeShapes Go.WideShapes Go.ChangeAt Go.RowKit
/-- One cell of an inner row is written. -/
theorem Nest.put9 {w : World} {lo hi : Nat} {TO TI : TypeId} {v : Value} {css : List (List Value)} {vs : List Value} {Y X n gi ci : Nat} {cs : List Value} (u : Value) (hT : TO ≠ TI) (hO : w.ownsRow lo TO 1 v css.length vs)
    (hI : ∀ (i : Nat) cs, css[i]? = some cs → ∃ vi n, vs[i]? = some vi ∧ Rgn w lo hi TI 1 vi n cs) (hD : ∀ (i j : Nat) vi vj, i < j → vs[i]? = some vi → vs[j]? = some vj → vi.ownBlock = none ∨ vi.ownBlock ≠ vj.ownBlock)
    (hY : vs[Y]? = some (.slice (some ⟨gi, 0, none⟩) n ci)) (hr : Rgn w lo hi TI 1 (.slice (some ⟨gi, 0, none⟩) n ci) n cs) :
    Nest (w.setCell ⟨gi, X, none⟩ u) lo hi TO TI 1 v (css.set Y (cs.set X u)) := by
  obtain ⟨st, hg⟩ := World.ownsRow.stored hr.1 X u
  refine ⟨vs, by rw [List.length_set]; exact hO.kept hg (own_ne hO hr.1 hT), fun i c hi' => ?_, hD⟩
  by_cases e : Y = i
  · subst e
    have hjl : Y < css.length := by have := (List.getElem?_eq_some_iff.1 hi').1; rwa [List.length_set] at this
    rw [List.getElem?_set_self hjl] at hi'
    injection hi' with hi'
    subst hi'
    exact ⟨_, n, hY, st, hr.2⟩
  · rw [List.getElem?_set_ne e] at hi'
    obtain ⟨vi, m, h1, h2⟩ := hI i c hi'
    refine ⟨vi, m, h1, h2.kept hg ?_⟩
    rcases Nat.lt_or_gt_of_ne e with hlt | hlt
    · rcases hD Y i _ _ hlt hY h1 with h | h
      · simp [Value.ownBlock] at h
      · right; intro h3; exact h (by rw [h3]; rfl)
    · rcases hD i Y _ _ hlt h1 hY with h | h
      · exact .inl h
      · right; intro h3; exact h (by rw [h3]; rfl)
/-- A row of rows of bytes that can be read; two rows may lie in one block. -/
def RowsR (w : World) (lo : Nat) (v : Value) (bss : List (List Int)) : Prop :=
  ∃ vs : List Value, w.ownsRow lo 54 1 v bss.length vs ∧ ∀ (i : Nat) bs, bss[i]? = some bs → ∃ vi ni, vs[i]? = some vi ∧ w.ownsRow lo 5 1 vi ni (bytesV bs)
/-- A nest with its outer cells named. -/
def NestV (w : World) (lo hi : Nat) (v : Value) (vs : List Value) (bss : List (List Int)) : Prop :=
  w.ownsRow lo 54 1 v bss.length vs ∧ (∀ (i : Nat) bs, bss[i]? = some bs → ∃ vi n, vs[i]? = some vi ∧ Rgn w lo hi 5 1 vi n (bytesV bs)) ∧
    ∀ (i j : Nat) vi vj, i < j → vs[i]? = some vi → vs[j]? = some vj → vi.ownBlock = none ∨ vi.ownBlock ≠ vj.ownBlock
theorem nestV_of {w : World} {lo hi : Nat} {v : Value} {bss : List (List Int)} (h : Nest w lo hi 54 5 1 v (bss.map bytesV)) : ∃ vs, NestV w lo hi v vs bss := by
  obtain ⟨vs, h1, h2, h3⟩ := h
  rw [List.length_map] at h1
  exact ⟨vs, h1, fun i bs hb => h2 i (bytesV bs) (by simp [hb]), h3⟩
theorem NestV.nest {w : World} {lo hi : Nat} {v : Value} {vs : List Value} {bss : List (List Int)} (h : NestV w lo hi v vs bss) : Nest w lo hi 54 5 1 v (bss.map bytesV) :=
  ⟨vs, by rw [List.length_map]; exact h.1, fun i cs hc => by
    rw [List.getElem?_map] at hc
    cases hb : bss[i]? with
    | none => rw [hb] at hc; cases hc
    | some bs => rw [hb] at hc; injection hc with hc; subst hc; exact h.2.1 i bs hb, h.2.2⟩
theorem rowsR_of {w : World} {lo hi : Nat} {v : Value} {bss : List (List Int)} (h : Nest w lo hi 54 5 1 v (bss.map bytesV)) : RowsR w lo v bss := by
  obtain ⟨vs, h1, h2, _⟩ := nestV_of h
  exact ⟨vs, h1, fun i bs hb => by obtain ⟨vi, n, e, hr⟩ := h2 i bs hb; exact ⟨vi, n, e, hr.1⟩⟩
theorem ne_src {w : World} {lo b s n : Nat} {T : TypeId} {v : Value} {cs : List Value} (h : w.ownsRow lo T s v n cs) (hb : b < lo) : v.ownBlock = none ∨ v.ownBlock ≠ some b := by
  cases e : v.ownBlock with
  | none => exact .inl rfl
  | some g =>
    right
    intro he
    have h2 : g = b := by injection he
    have h1 := (h.lt g e).1
    omega
theorem NestV.src {w w' : World} {lo hi b : Nat} {v : Value} {vs : List Value} {bss : List (List Int)} (h : NestV w lo hi v vs bss) (hg : w.grownBy w' (some b)) (hb : b < lo) : NestV w' lo hi v vs bss :=
  ⟨h.1.kept hg (ne_src h.1 hb), fun i bs hbs => by obtain ⟨vi, n, e, hr⟩ := h.2.1 i bs hbs; exact ⟨vi, n, e, hr.kept hg (ne_src hr.1 hb)⟩, h.2.2⟩
theorem NestV.alloc {w : World} {lo hi : Nat} {v : Value} {vs : List Value} {bss : List (List Int)} (h : NestV w lo hi v vs bss) (o : Obj) : NestV (w.alloc o) lo hi v vs bss :=
  ⟨h.1.alloc o, fun i bs hbs => by obtain ⟨vi, n, e, hr⟩ := h.2.1 i bs hbs; exact ⟨vi, n, e, hr.alloc o⟩, h.2.2⟩
theorem RowsR.src {w w' : World} {lo b : Nat} {v : Value} {bss : List (List Int)} (h : RowsR w lo v bss) (hg : w.grownBy w' (some b)) (hb : b < lo) : RowsR w' lo v bss := by
  obtain ⟨vs, h1, h2⟩ := h
  exact ⟨vs, h1.kept hg (ne_src h1 hb), fun i bs hbs => by obtain ⟨vi, n, e, hr⟩ := h2 i bs hbs; exact ⟨vi, n, e, hr.kept hg (ne_src hr hb)⟩⟩
theorem RowsR.keep {w w' : World} {lo : Nat} {v : Value} {bss : List (List Int)} (h : RowsR w lo v bss) (hb : Below w.heap.size w w') : RowsR w' lo v bss := by
  obtain ⟨vs, h1, h2⟩ := h
  exact ⟨vs, own_keep h1 hb, fun i bs hbs => by obtain ⟨vi, n, e, hr⟩ := h2 i bs hbs; exact ⟨vi, n, e, own_keep hr hb⟩⟩
/-- A row's beginning. -/
theorem own_take {w : World} {lo g n k c : Nat} {T : TypeId} {cs : List Value} (h : w.ownsRow lo T 1 (.slice (some ⟨g, 0, none⟩) n c) n cs) (hk : k ≤ n) : w.ownsRow lo T 1 (.slice (some ⟨g, 0, none⟩) k c) k (cs.take k) := by
  have hl := h.1
  rcases h.2 with ⟨h', _⟩ | ⟨g', cap', cur, h', hb, hg, hnc, hcm, hcs, htake⟩
  · simp at h'
  · simp only [Value.slice.injEq, Option.some.injEq, Addr.mk.injEq, and_true, true_and] at h'
    obtain ⟨rfl, rfl⟩ := h'
    refine ⟨by rw [List.length_take]; omega, .inr ⟨g, c, cur, rfl, hb, hg, by omega, hcm, hcs, ?_⟩⟩
    rw [← htake, List.take_take]
    congr 1
    omega
theorem NestV.nest' {w : World} {lo hi : Nat} {v : Value} {vs : List Value} {bss : List (List Int)} (h : NestV w lo hi v vs bss) : ∀ (i : Nat) cs, (bss.map bytesV)[i]? = some cs → ∃ vi n, vs[i]? = some vi ∧ Rgn w lo hi 5 1 vi n cs := fun i cs hc => by
  rw [List.getElem?_map] at hc
  cases hb : bss[i]? with
  | none => rw [hb] at hc; cases hc
  | some bs => rw [hb] at hc; injection hc with hc; subst hc; exact h.2.1 i bs hb
theorem NestV.row {w : World} {lo hi g n c i : Nat} {vs : List Value} {bss : List (List Int)} {r : List Int} (h : NestV w lo hi (.slice (some ⟨g, 0, none⟩) n c) vs bss) (hr : bss[i]? = some r) (h0 : 0 < r.length) :
    ∃ gr cr, vs[i]? = some (.slice (some ⟨gr, 0, none⟩) r.length cr) ∧ Rgn w lo hi 5 1 (.slice (some ⟨gr, 0, none⟩) r.length cr) r.length (bytesV r) := by
  obtain ⟨vi, ni, e, hr2⟩ := h.2.1 i r hr
  have hl : ni = r.length := by have := hr2.1.1; simpa using this.symm
  subst hl
  obtain ⟨gr, cr, e2⟩ := Go.Joins.ownsRow_form hr2.1 h0
  subst e2
  exact ⟨gr, cr, e, hr2⟩
theorem cut_rows {bss : List (List Int)} {m : Nat} (h : ∀ r ∈ bss, r.length = m) (i : Nat) : ∀ r ∈ bss.take i, r.length ≤ m := fun r hr => Nat.le_of_eq (h r (List.mem_of_mem_take hr))
set_option maxRecDepth 100000 in
set_option maxHeartbeats 2000000 in
theorem l05StringsR_any (A : Option Addr) (c n : Nat) (bss : List (List Int)) (w : World) (lo : Nat) (h : RowsR w lo (.slice A n c) bss) (hn : bss.length = n) (hm : n ≤ 1048576) :
    Calls Try.prog 72 #[.slice A n c] w fun e w' => (∃ A' c', e = .returned (.slice A' n c') ∧ w'.ownsRow w.heap.size 9 1 (.slice A' n c') n (strs (bss.map strOfNums))) ∧ Below w.heap.size w w' := by
  obtain ⟨us, his, hs0, hs1, hs2⟩ := info_parts infoStr
  obtain ⟨vs, hO, hI⟩ := h
  rcases Nat.eq_zero_or_pos n with h0 | hp
  · subst h0
    have hbs : bss = [] := List.eq_nil_of_length_eq_zero hn
    subst hbs
    go_enter Try.func72, Try.ntmps72
    go_wp2_with fail
    refine wp_loop_rounds 1 ?_
    rw [rounds_succ]
    go_wp2_with fail
    go_ret
    exact ⟨⟨_, _, rfl, World.ownsRow_lit (base := w.heap.size) (e := 9) (size := 1) w #[] 0 (Nat.le_refl _) (Nat.zero_le _) rfl⟩, bal (Below.refl _ _) _⟩
  · obtain ⟨g, cap, he⟩ := Go.Joins.ownsRow_form hO (by omega)
    simp only [Value.slice.injEq] at he
    obtain ⟨rfl, -, rfl⟩ := he
    rw [hn] at hO
    have HN := hid hn
    clear hn
    have ho1 := World.ownsRow_lit (base := w.heap.size) (e := 9) (size := 1) w #[] 0 (Nat.le_refl _) (Nat.zero_le _) rfl
    have HO1 := hid ho1
    have HI := hid hI
    have Ho := hid hO
    clear ho1 hI hO
    go_enter Try.func72, Try.ntmps72
    go_wp2_with fail
    go_loopg [3, 4] n (fun gk v i wr => ∃ j : Nat, j ≤ n ∧ i = .int .i64 j ∧ gk = n - j ∧ Hid (wr.ownsRow w.heap.size 9 1 v j (strs ((bss.map strOfNums).take j))) ∧ Hid (Below w.heap.size w wr))
    case atStart => exact ⟨0, Nat.zero_le _, rfl, rfl, HO1, hid (bal (Below.refl _ _) _)⟩
    case round =>
      obtain ⟨j, hj, rfl, hg, HO, HB⟩ := hrel
      by_cases hlt : j < n
      · obtain ⟨bs, hbs⟩ : ∃ bs, bss[j]? = some bs := ⟨_, List.getElem?_eq_getElem (by have := HN.out; omega)⟩
        obtain ⟨vi, ni, hvi, hri⟩ := HI.out j bs hbs
        have hri2 := own_keep hri HB.out
        obtain ⟨Ai, ci, rfl, kc⟩ := conv_any hri2
        have hca : wr.cell? ⟨g, j, none⟩ = some (.slice Ai ni ci) := (World.ownsRow.cellAt (own_keep Ho.out HB.out) j (by omega)).trans hvi
        have HT : Hid ((bss.map strOfNums).take (j + 1) = (bss.map strOfNums).take j ++ [strOfNums bs]) := hid (by rw [List.take_add_one]; simp [hbs])
        clear hbs hvi hri hri2
        have hz := HB.out.size
        go_wp2_with (at_builtin; (refine wpList_append_own _ rfl _ _ 27 rfl w.heap.size 9 us (.string ⟨#[]⟩) 1 16 Try.underlying27 his hs0 hs1 hs2 rfl (by decide) _ j (strs ((bss.map strOfNums).take j)) rfl (HO.out.alloc _) ⟨wr.heap.size, 0, none⟩ 1 1 [.string (strOfNums bs)] rfl rfl (World.news_of_block (cs := #[.string (strOfNums bs)]) (t := 9) (fr := (0, 0)) (heap_alloc_new wr _)) (by simp [Value.oneCell']) (by unfold maxLen; omega) (by omega) (by simp; omega) ?_; intro v' wz ho2 hgr _))
        have HH := hid (And.intro ho2 hgr)
        clear ho2 hgr
        go_roundg (n - (j + 1))
        case measure => omega
        case rel => exact ⟨j + 1, by omega, by go_num, rfl, hid (by rw [HT.out]; simpa [strs] using HH.out.1), hid (bgrew (lo := w.heap.size) (bal HB.out _) HH.out.2 (fun q hq => (HO.out.lt q hq).1) (Nat.le_refl _))⟩
      · obtain rfl : j = n := by omega
        have HT : Hid ((bss.map strOfNums).take j = bss.map strOfNums) := hid (List.take_of_length_le (by have := HN.out; rw [List.length_map]; omega))
        rcases Go.Joins.ownsRow_forms HO.out with ⟨rfl, hn0⟩ | ⟨gb, cap', rfl⟩
        · exfalso; omega
        go_wp2_with fail
        go_ret
        exact ⟨⟨_, _, rfl, by rw [← HT.out]; exact HO.out⟩, HB.out⟩
/-- The rows of a picture, as rows of bytes. -/
theorem picZ_rows (mk : Nat → Nat → Int) (m n : Nat) : ∃ bss : List (List Int), bss.length = n ∧ (∀ r ∈ bss, r.length = m) ∧ picZ mk m n = bss.map bytesV :=
  ⟨(List.range n).map fun y => mkRow mk y m, by simp, fun r hr => by simp only [List.mem_map] at hr; obtain ⟨y, _, rfl⟩ := hr; exact mkRow_length mk y m, by simp [picZ]⟩
/-- What a bent draw of a picture hands back: some few short lines. -/
def BentL (w : World) (b K : Nat) (A : Option Addr) (n c : Nat) (e : Ending) (w' : World) : Prop :=
  (∃ (ss : List ByteArray) (A' : Option Addr) (c' : Nat), (ss.length ≤ 19 ∧ ∀ s ∈ ss, s.size ≤ 17) ∧ e = .returned (.slice A' ss.length c') ∧ w'.ownsRow w.heap.size 9 1 (.slice A' ss.length c') ss.length (strs ss)) ∧ SrcP w' b (K + 310) A n c ∧ w.grownBy w' (some b)
theorem size_nums (l : List Int) : (strOfNums l).size = l.length := by simp [strOfNums, ByteArray.size]
theorem lines_bd {bss : List (List Int)} (h : ∀ r ∈ bss, r.length ≤ 17) : ∀ s ∈ bss.map strOfNums, s.size ≤ 17 := by
  intro s hs
  obtain ⟨r, hr, rfl⟩ := List.mem_map.1 hs
  rw [size_nums]
  exact h r hr
theorem own_cap9 {w : World} {lo g n c : Nat} {T : TypeId} {sz : Nat} {cs : List Value} (h : w.ownsRow lo T sz (.slice (some ⟨g, 0, none⟩) n c) n cs) : n ≤ c := by
  rcases h.2 with ⟨h', _⟩ | ⟨g', cap', cur, h', hb, hg, hnc, hcm, hcs, htake⟩
  · simp at h'
  · simp only [Value.slice.injEq, Option.some.injEq, Addr.mk.injEq, and_true, true_and] at h'
    obtain ⟨rfl, rfl⟩ := h'
    exact hnc
theorem NestV.at {w : World} {lo hi i : Nat} {v u : Value} {vs : List Value} {bss : List (List Int)} {r : List Int} (h : NestV w lo hi v vs bss) (hr : bss[i]? = some r) (hv : vs[i]? = some u) : Rgn w lo hi 5 1 u r.length (bytesV r) := by
  obtain ⟨vi, ni, e, hr2⟩ := h.2.1 i r hr
  rw [hv] at e
  injection e with e
  subst e
  have hl : ni = r.length := by have := hr2.1.1; simpa using this.symm
  subst hl
  exact hr2
theorem len_set {bss : List (List Int)} {m i k : Nat} {r : List Int} {z : Int} (h : ∀ q ∈ bss, q.length ≤ m) (hr : r.length ≤ m) : ∀ q ∈ bss.set i (r.set k z), q.length ≤ m := by
  intro q hq
  rcases List.mem_or_eq_of_mem_set hq with h1 | h1
  · exact h q h1
  · subst h1; simpa using hr
theorem len_setT {bss : List (List Int)} {m i k : Nat} {r : List Int} (h : ∀ q ∈ bss, q.length ≤ m) (hr : r.length ≤ m) : ∀ q ∈ bss.set i (r.take k), q.length ≤ m := by
  intro q hq
  rcases List.mem_or_eq_of_mem_set hq with h1 | h1
  · exact h q h1
  · subst h1; rw [List.length_take]; omega
/-- A byte of a row is written. -/
theorem NestV.put {w : World} {lo hi g n c i k gr m cr : Nat} {vs : List Value} {bss : List (List Int)} {r : List Int} {z : Int} (h : NestV w lo hi (.slice (some ⟨g, 0, none⟩) n c) vs bss) (hr : bss[i]? = some r) (hv : vs[i]? = some (.slice (some ⟨gr, 0, none⟩) m cr)) (hm : r.length = m) :
    RowsR (w.setCell ⟨gr, k, none⟩ (.int .u8 z)) lo (.slice (some ⟨g, 0, none⟩) n c) (bss.set i (r.set k z)) := by
  have hri := h.at hr hv
  rw [hm] at hri
  have hp := Nest.put9 (TO := 54) (Y := i) (X := k) (.int .u8 z) (by decide) (by rw [List.length_map]; exact h.1) (h.nest' ) h.2.2 hv hri
  have e : (bss.map bytesV).set i ((bytesV r).set k (.int .u8 z)) = (bss.set i (r.set k z)).map bytesV := by simp [bytesV, List.map_set]
  rw [e] at hp
  exact rowsR_of hp
/-- A row is cut short in its place. -/
theorem NestV.cut {w : World} {lo hi g n c i k gr m cr : Nat} {vs : List Value} {bss : List (List Int)} {r : List Int} (h : NestV w lo hi (.slice (some ⟨g, 0, none⟩) n c) vs bss) (hn : bss.length = n) (hr : bss[i]? = some r) (hv : vs[i]? = some (.slice (some ⟨gr, 0, none⟩) m cr)) (hm : r.length = m) (hk : k ≤ m) :
    RowsR (w.setCell ⟨g, i, none⟩ (.slice (some ⟨gr, 0, none⟩) k cr)) lo (.slice (some ⟨g, 0, none⟩) n c) (bss.set i (r.take k)) := by
  have h1 := h.1
  rw [hn] at h1
  obtain ⟨st, hg⟩ := World.ownsRow.stored h1 i (.slice (some ⟨gr, 0, none⟩) k cr)
  refine ⟨vs.set i (.slice (some ⟨gr, 0, none⟩) k cr), by rw [List.length_set, hn]; exact st, fun j bs hj => ?_⟩
  by_cases e : i = j
  · subst e
    have hil : i < bss.length := by have := (List.getElem?_eq_some_iff.1 hj).1; rwa [List.length_set] at this
    rw [List.getElem?_set_self hil] at hj
    injection hj with hj
    subst hj
    have hvl : i < vs.length := (List.getElem?_eq_some_iff.1 hv).1
    have hri := h.at hr hv
    rw [hm] at hri
    refine ⟨_, k, List.getElem?_set_self hvl, ?_⟩
    have h2 := own_take (hri.1.kept hg (own_ne hri.1 h1 (by decide))) hk
    have e2 : (bytesV r).take k = bytesV (r.take k) := by simp [bytesV, List.map_take]
    rwa [e2] at h2
  · rw [List.getElem?_set_ne e] at hj
    obtain ⟨vi, ni, e3, hr3⟩ := h.2.1 j bs hj
    exact ⟨vi, ni, by rw [List.getElem?_set_ne e]; exact e3, hr3.1.kept hg (own_ne hr3.1 h1 (by decide))⟩
theorem NestV.rows {w : World} {lo hi : Nat} {v : Value} {vs : List Value} {bss : List (List Int)} (h : NestV w lo hi v vs bss) : RowsR w lo v bss := ⟨vs, h.1, fun i bs hb => by obtain ⟨vi, n, e, hr⟩ := h.2.1 i bs hb; exact ⟨vi, n, e, hr.1⟩⟩
/-- The first rows. -/
theorem RowsR.take {w : World} {lo g n c k : Nat} {bss : List (List Int)} (h : RowsR w lo (.slice (some ⟨g, 0, none⟩) n c) bss) (hn : bss.length = n) (hk : k ≤ n) : RowsR w lo (.slice (some ⟨g, 0, none⟩) k c) (bss.take k) := by
  obtain ⟨vs, h1, h2⟩ := h
  rw [hn] at h1
  have hl : (bss.take k).length = k := by rw [List.length_take]; omega
  refine ⟨vs.take k, by rw [hl]; exact own_take h1 hk, fun i bs hb => ?_⟩
  have hik : i < k := by have := (List.getElem?_eq_some_iff.1 hb).1; omega
  rw [List.getElem?_take, if_pos hik] at hb
  obtain ⟨vi, ni, e, hr⟩ := h2 i bs hb
  exact ⟨vi, ni, by rw [List.getElem?_take, if_pos hik]; exact e, hr⟩
/-- Two rows more, which lie there already. -/
theorem RowsR.twice {w w' : World} {lo : Nat} {v v' u : Value} {bss : List (List Int)} {r : List Int} (h : RowsR w lo v bss) {vs : List Value} (hO : w'.ownsRow lo 54 1 v' (bss.length + 2) (vs ++ [u, u]))
    (hvl : vs.length = bss.length) (hI : ∀ (i : Nat) bs, bss[i]? = some bs → ∃ vi ni, vs[i]? = some vi ∧ w'.ownsRow lo 5 1 vi ni (bytesV bs)) (h0 : bss[0]? = some r) (hv0 : vs[0]? = some u) : RowsR w' lo v' (bss ++ [r, r]) := by
  refine ⟨vs ++ [u, u], by rw [List.length_append]; exact hO, fun i bs hb => ?_⟩
  rcases Nat.lt_or_ge i bss.length with hlt | hge
  · rw [List.getElem?_append_left hlt] at hb
    obtain ⟨vi, ni, e, hr⟩ := hI i bs hb
    exact ⟨vi, ni, by rw [List.getElem?_append_left (by omega)]; exact e, hr⟩
  · obtain ⟨vi, ni, e, hr⟩ := hI 0 r h0
    rw [hv0] at e
    injection e with e
    subst e
    have hi2 : i - bss.length = 0 ∨ i - bss.length = 1 := by
      have := (List.getElem?_eq_some_iff.1 hb).1
      simp at this
      omega
    rw [List.getElem?_append_right hge] at hb
    refine ⟨u, ni, ?_, ?_⟩
    · rw [List.getElem?_append_right (by omega), hvl]
      rcases hi2 with e2 | e2 <;> rw [e2] <;> rfl
    · rcases hi2 with e2 | e2 <;> rw [e2] at hb <;> simp at hb <;> subst hb <;> exact hr
theorem l05Rows8_any (pb : Nat) (A : Option Addr) (c : Nat) (zs : List Int) (w : World) (B : Nat) (hB : B ≤ w.heap.size) (hpp : Box w pb 39 #[.int .i64 8, .int .i64 8, .slice A zs.length c]) (hz : Ints w B A zs) (hl : zs.length ≤ maxLen) (hv : validB 8 8 zs = true) :
    Calls Try.prog 73 #[.pointer (some ⟨pb, 0, none⟩)] w fun e w' => (∃ g c', e = .returned (.slice (some ⟨g, 0, none⟩) 17 c') ∧ Nest w' w.heap.size w'.heap.size 54 5 1 (.slice (some ⟨g, 0, none⟩) 17 c') (picZ (paM (8 : Nat) (8 : Nat) zs) 17 17)) ∧ Below w.heap.size w w' := by
  have e : ((8 : Nat) : Int) = 8 := rfl
  exact l05Rows_any pb 8 8 A c zs w B hB hpp hz hl hv
theorem NestV.app {w w' : World} {lo hi g n c : Nat} {vs : List Value} {bss : List (List Int)} {r : List Int} {u v' : Value} {o : Obj} (h : NestV w lo hi (.slice (some ⟨g, 0, none⟩) n c) vs bss) (hn : bss.length = n) (hO : w'.ownsRow lo 54 1 v' (n + 2) (vs ++ [u, u])) (hg : (w.alloc o).grownBy w' (Value.slice (some ⟨g, 0, none⟩) n c).ownBlock)
    (h0 : bss[0]? = some r) (hv0 : vs[0]? = some u) : RowsR w' lo v' (bss ++ [r, r]) := by
  refine RowsR.twice h.rows (by rw [hn]; exact hO) (by have := h.1.1; simpa using this) (fun i bs hb => ?_) h0 hv0
  obtain ⟨vi, ni, e, hr⟩ := h.2.1 i bs hb
  exact ⟨vi, ni, e, (hr.1.alloc o).kept hg (own_ne hr.1 h.1 (by decide))⟩
theorem infoBSq : (Try.prog.info? 54).map (fun i => (i.zero, i.size, i.bytes)) = some (some (.slice none 0 0), 1, 24) := by kernel_rfl
set_option maxRecDepth 100000 in
set_option maxHeartbeats 30000000 in
theorem l05Bent_any (b K : Nat) (A : Option Addr) (n c B : Nat) (bs : List Int) (w : World) (hn : bs.length = n) (h : SrcP w b K A n c) (hb : BytesR w B A bs) (hB : B ≤ b) (hK : K ≤ 800000) (hnl : n ≤ 5000) :
    Calls Try.prog 96 #[.pointer (some ⟨b, 0, none⟩)] w (BentL w b K A n c) := by
  have hbl := h.lt
  have HN := hid hn
  have HS := hid h
  have HBY := hid hb
  clear hn h hb
  go_enter Try.func96, Try.ntmps96
  go_wp2_with fail
  refine (l02Draw_any b K A n c B bs 4 w HN.out HS.out HBY.out hB (by omega) hnl (by omega) (by omega)).mono ?_
  rintro e w1 ⟨⟨W, H, zs, A1, c1, ⟨hv, hW4, hH4⟩, rfl, ho1⟩, hs1, hg1⟩
  have HO1 : Hid (OwnI w1 w.heap.size (.slice A1 zs.length c1) zs) := hid ho1
  have HS1 := hid hs1
  have HG1 := hid hg1
  have Hv := hid hv
  obtain ⟨s3, s4⟩ := side_bd (valid_sides hv).1
  obtain ⟨s5, s6⟩ := side_bd (valid_sides hv).2
  have hzl : zs.length ≤ maxLen := by
    have h1 := valid_len hv
    have h2 := inner_le (valid_sides hv).1 (valid_sides hv).2
    unfold maxLen
    omega
  obtain ⟨W', rfl⟩ : ∃ q : Nat, W = q := ⟨W.toNat, by omega⟩
  obtain ⟨H', rfl⟩ : ∃ q : Nat, H = q := ⟨H.toNat, by omega⟩
  have hz01 := hg1.size
  clear ho1 hs1 hg1 hv
  go_wp2_with fail
  refine (l05Rows_any _ W' H' A1 c1 zs _ _ (Nat.le_refl _) (Box.new w1 _ _) (OwnI.ints (OwnI.alloc HO1.out _)) hzl Hv.out).mono ?_
  rintro e w2 ⟨⟨g2, c2, rfl, ho2⟩, hb2⟩
  obtain ⟨css, hcl, hcr, hcz⟩ := picZ_rows (paM W' H' zs) (2 * W' + 1) (2 * H' + 1)
  rw [hcz] at ho2
  obtain ⟨vs, hnv⟩ := nestV_of (Nest.from' ho2 (show w.heap.size ≤ (w1.alloc (.cells #[.int .i64 W', .int .i64 H', .slice A1 zs.length c1] 39)).heap.size by simp; omega))
  obtain ⟨hi, hhi⟩ : ∃ q, q = w2.heap.size := ⟨_, rfl⟩
  rw [← hhi] at hnv
  obtain ⟨nn, hnn⟩ : ∃ q, 2 * H' + 1 = q := ⟨_, rfl⟩
  obtain ⟨mm, hmm⟩ : ∃ q, 2 * W' + 1 = q := ⟨_, rfl⟩
  rw [hnn] at hnv hcl ⊢
  rw [hmm] at hcr
  have hn9 : 3 ≤ nn ∧ nn ≤ 9 := by omega
  have hm9 : 3 ≤ mm ∧ mm ≤ 9 := by omega
  have NV2 := hid hnv
  have HCL := hid hcl
  have HCR := hid hcr
  have hle : ∀ q ∈ css, q.length ≤ 17 := fun q hq => by have := hcr q hq; omega
  have HLE := hid hle
  have HS2 := hid ((HS1.out.alloc (.cells #[.int .i64 W', .int .i64 H', .slice A1 zs.length c1] 39)).keep hb2)
  have HG2 := hid (grown_trans' HG1.out (grown_trans' (grown_of_below (bal (Below.refl w1.heap.size w1) (.cells #[.int .i64 W', .int .i64 H', .slice A1 zs.length c1] 39)) (some b)) (grown_of_below hb2 (some b))))
  clear ho2 hb2 hnv hhi hcz hnn hmm hcl hcr hle Hv HO1 HS1 s3 s4 s5 s6 hzl hW4 hH4
  go_wp2_with fail
  refine (pick_any b (K + 300) A n c B bs (nn : Int) _ HN.out HS2.out (src_bytes HBY.out HG2.out hB hbl) hB (by omega) hnl (by omega) (by omega)).mono ?_
  rintro e w3 ⟨⟨x, ⟨x1, x2⟩, rfl⟩, hs, hg⟩
  have NV3 := hid (NV2.out.src hg (show b < w.heap.size from hbl))
  have HS3 := hid hs
  have HG3 := hid (grown_trans' HG2.out hg)
  clear hs hg NV2 HS2
  obtain ⟨i, rfl⟩ : ∃ i : Nat, x = (i : Int) := ⟨x.toNat, by omega⟩
  have hin : i < nn := by omega
  have hin2 : (i : Int) < (nn : Int) := by omega
  obtain ⟨r, hr⟩ : ∃ r, css[i]? = some r := ⟨_, List.getElem?_eq_getElem (by have := HCL.out; omega)⟩
  have hrl : r.length = mm := HCR.out r (List.mem_of_getElem? hr)
  obtain ⟨gr, cr, hvi, hri⟩ := NV3.out.row hr (by omega)
  rw [hrl] at hvi hri
  have hcr2 := own_cap9 hri.1
  have hgr := (hri.1.lt gr rfl).1
  have ho := NV3.out.1
  rw [HCL.out] at ho
  have hc22 := own_cap9 ho
  have ka : w3.cell? ⟨g2, i, none⟩ = some (.slice (some ⟨gr, 0, none⟩) mm cr) := (World.ownsRow.cellAt ho i (by omega)).trans hvi
  have g2z := (ho.lt g2 rfl).2
  have hg2 := (ho.lt g2 rfl).1
  have HR := hid (And.intro hr (And.intro hvi hrl))
  clear ho hr hvi hri x1 x2
  go_wp2_with fail
  refine (pick_any b (K + 301) A n c B bs 9 _ HN.out HS3.out (src_bytes HBY.out HG3.out hB hbl) hB (by omega) hnl (by omega) (by omega)).mono ?_
  rintro e w4 ⟨⟨v, ⟨v1, v2⟩, rfl⟩, hs, hg⟩
  have NV4 := hid (NV3.out.src hg (show b < w.heap.size from hbl))
  have HS4 := hid hs
  have HG4 := hid (grown_trans' HG3.out hg)
  clear hs hg NV3 HS3 ka g2z
  by_cases e0 : v = 0
  · subst e0
    go_wp2_with fail
    refine (pick_any b (K + 302) A n c B bs (mm : Int) _ HN.out HS4.out (src_bytes HBY.out HG4.out hB hbl) hB (by omega) hnl (by omega) (by omega)).mono ?_
    rintro e w5 ⟨⟨x, ⟨x1, x2⟩, rfl⟩, hs, hg⟩
    have NV5 := hid (NV4.out.src hg (show b < w.heap.size from hbl))
    have HS5 := hid hs
    have HG5 := hid (grown_trans' HG4.out hg)
    clear hs hg NV4 HS4
    obtain ⟨k, rfl⟩ : ∃ i : Nat, x = (i : Int) := ⟨x.toNat, by omega⟩
    have hkm : k < mm := by omega
    have hkm2 : (k : Int) < (mm : Int) := by omega
    clear x1 x2
    have hb5 := HS5.out.lt
    go_wp2_with fail
    refine (among_any b (K + 303) A n c B bs w5.heap.size 6 6 [43, 124, 45, 46, 32, 120] _ HN.out (HS5.out.alloc _) ((src_bytes HBY.out HG5.out hB hbl).below ((Below.refl B w5).alloc (by omega) _)) hB (by omega) hnl rfl (by omega) (by omega) (by omega) (lit_cells (Box.new w5 2 #[.int .i64 43, .int .i64 124, .int .i64 45, .int .i64 46, .int .i64 32, .int .i64 120]) rfl)).mono ?_
    rintro e w6 ⟨⟨y, hy, rfl⟩, hs, hg⟩
    have hyb : 0 ≤ y ∧ y ≤ 255 := by simp only [List.mem_cons, List.not_mem_nil, or_false] at hy; omega
    have tw : IntKind.u8.wrap y = y := by rw [IntKind.wrap_u8]; omega
    have NV6 := hid ((NV5.out.alloc _).src hg (show b < w.heap.size from hbl))
    have HS6 := hid hs
    have HG6 := hid (grown_trans' HG5.out (grown_trans' (grown_of_below (bal (Below.refl _ _) _) (some b)) hg))
    clear hs hg hy NV5 HS5
    have hri := NV6.out.at HR.out.1 HR.out.2.1
    rw [HR.out.2.2] at hri
    obtain ⟨z, hz⟩ : ∃ z, r[k]? = some z := ⟨_, List.getElem?_eq_getElem (by have := HR.out.2.2; omega)⟩
    have kc : w6.cell? ⟨gr, k, none⟩ = some (.int .u8 z) := (World.ownsRow.cellAt hri.1 k (by omega)).trans (by simp [bytesV, hz])
    have kf := World.ownsRow.frozenAt hri.1 k
    have gz := (hri.1.lt gr rfl).2
    have R7 := hid (NV6.out.put (k := k) (z := y) HR.out.1 HR.out.2.1 HR.out.2.2)
    have HS7 := hid (HS6.out.set (a := ⟨gr, k, none⟩) (by show b ≠ gr; omega) (.int .u8 y))
    have HG7 := hid (grown_set HG6.out (a := ⟨gr, k, none⟩) (by show w.heap.size ≤ gr; omega) (.int .u8 y))
    have HLS := hid (len_set (i := i) (k := k) (z := y) HLE.out (show r.length ≤ 17 by have := HR.out.2.2; omega))
    have HLL : Hid ((css.set i (r.set k y)).length = nn) := hid (by rw [List.length_set]; exact HCL.out)
    clear hri hz NV6
    go_wp2_with fail
    refine (one_any b (K + 304) A n c B bs 24 _ HN.out HS7.out (src_bytes HBY.out HG7.out hB hbl) hB (by omega) hnl (by omega) (by omega)).mono ?_
    rintro e wa ⟨⟨tt, rfl⟩, hs, hg⟩
    have RA := hid (R7.out.src hg (show b < w.heap.size from hbl))
    have HSA := hid hs
    have HGA := hid (grown_trans' HG7.out hg)
    clear hs hg
    cases tt
    case false =>
      go_wp2_with fail
      refine (l05StringsR_any (some ⟨g2, 0, none⟩) c2 nn (css.set i (r.set k y)) _ w.heap.size RA.out HLL.out (by omega)).mono ?_
      rintro e w99 ⟨⟨A9, c9, rfl, ho9⟩, hb9⟩
      have HH := hid (And.intro ho9 hb9)
      have hzz := HGA.out.size
      clear ho9 hb9
      go_wp2_with fail
      go_ret
      refine ⟨⟨(css.set i (r.set k y)).map strOfNums, A9, c9, ⟨by rw [List.length_map, HLL.out]; omega, lines_bd HLS.out⟩, by (have e9 : ((css.set i (r.set k y)).map strOfNums).length = nn := by rw [List.length_map, HLL.out]); rw [e9] <;> rfl, ?_⟩, (HSA.out.keep HH.out.2).more (by omega), grown_trans' HGA.out (grown_of_below HH.out.2 (some b))⟩
      rw [List.length_map, HLL.out]
      exact Go.Joins.ownsRow_le HH.out.1 hzz
    case true =>
      clear RA
      go_wp2_with fail
      refine (l02New_any 8 8 _ (by decide) (by decide)).mono ?_
      rintro e wb ⟨⟨A3, c3, rfl, ho3⟩, hb3⟩
      obtain ⟨n3, hin⟩ : ∃ m, (inner 8 8).toNat = m := ⟨_, rfl⟩
      have hn3 : n3 = 112 := by rw [← hin]; decide
      have hn3b : n3 ≤ 200 := by omega
      rw [hin] at ho3 ⊢
      obtain ⟨z3, hz3l⟩ : ∃ z : List Int, z = List.replicate n3 0 := ⟨_, rfl⟩
      rw [← hz3l] at ho3
      have hl3 : z3.length = n3 := by rw [hz3l]; simp
      have hv8 : validB 8 8 z3 = true := by rw [hz3l, hn3]; decide
      subst hl3
      have HO3 := hid ho3
      have HV8 := hid hv8
      have HSB := hid (HSA.out.keep hb3)
      have HGB := hid (grown_trans' HGA.out (grown_of_below hb3 (some b)))
      clear hz3l ho3 hb3 hv8 hin hn3
      go_wp2_with fail
      refine (l05Rows8_any _ A3 c3 z3 _ _ (Nat.le_refl _) (Box.new wb _ _) (OwnI.ints (OwnI.alloc HO3.out _)) (by unfold maxLen; omega) HV8.out).mono ?_
      rintro e wc ⟨⟨g3, c9, rfl, ho9⟩, hb9⟩
      obtain ⟨bs9, hl9, hr9, hz9⟩ := picZ_rows (paM (8 : Nat) (8 : Nat) z3) 17 17
      rw [hz9] at ho9
      have hzb := HGB.out.size
      obtain ⟨vs9, hnv⟩ := nestV_of (Nest.from' ho9 (show w.heap.size ≤ (wb.alloc (.cells #[.int .i64 8, .int .i64 8, .slice A3 z3.length c3] 39)).heap.size by simp; omega))
      have NV := hid hnv
      have HSC := hid ((HSB.out.alloc (.cells #[.int .i64 8, .int .i64 8, .slice A3 z3.length c3] 39)).keep hb9)
      have HGC := hid (grown_trans' HGB.out (grown_trans' (grown_of_below (bal (Below.refl wb.heap.size wb) (.cells #[.int .i64 8, .int .i64 8, .slice A3 z3.length c3] 39)) (some b)) (grown_of_below hb9 (some b))))
      have hle9 : ∀ q ∈ bs9, q.length ≤ 17 := fun q hq => Nat.le_of_eq (hr9 q hq)
      have HLE := hid hle9
      have HR17 := hid hr9
      have HL9 := hid hl9
      clear ho9 hb9 hnv hz9 hr9 hle9 hl9 hzb
      go_wp2_with fail
      refine (one_any b (K + 305) A n c B bs 2 _ HN.out (HSC.out.more (by omega)) (src_bytes HBY.out HGC.out hB hbl) hB (by omega) hnl (by omega) (by omega)).mono ?_
      rintro e wd ⟨⟨t2, rfl⟩, hs, hg⟩
      have NVD := hid (NV.out.src hg (show b < w.heap.size from hbl))
      have HSD := hid hs
      have HGD := hid (grown_trans' HGC.out hg)
      clear hs hg NV
      cases t2
      case false =>
        have RD := hid NVD.out.rows
        go_wp2_with fail
        refine (l05StringsR_any (some ⟨g3, 0, none⟩) c9 17 bs9 _ w.heap.size RD.out HL9.out (by omega)).mono ?_
        rintro e w99 ⟨⟨A9, c9, rfl, ho9⟩, hb9⟩
        have HH := hid (And.intro ho9 hb9)
        have hzz := HGD.out.size
        clear ho9 hb9
        go_wp2_with fail
        go_ret
        refine ⟨⟨bs9.map strOfNums, A9, c9, ⟨by rw [List.length_map, HL9.out]; omega, lines_bd HLE.out⟩, by (have e9 : (bs9.map strOfNums).length = 17 := by rw [List.length_map, HL9.out]); rw [e9] <;> rfl, ?_⟩, (HSD.out.keep HH.out.2).more (by omega), grown_trans' HGD.out (grown_of_below HH.out.2 (some b))⟩
        rw [List.length_map, HL9.out]
        exact Go.Joins.ownsRow_le HH.out.1 hzz
      case true =>
        obtain ⟨r0, hr0⟩ : ∃ r, bs9[0]? = some r := ⟨_, List.getElem?_eq_getElem (by rw [HL9.out]; omega)⟩
        have hr17 := HR17.out r0 (List.mem_of_getElem? hr0)
        obtain ⟨gr9, cr9, hv9, hrg⟩ := NVD.out.row hr0 (by omega)
        rw [hr17] at hv9
        have ho := NVD.out.1
        rw [HL9.out] at ho
        have HO := hid ho
        have HR0 := hid (And.intro hr0 hv9)
        have k9 : wd.cell? ⟨g3, 0, none⟩ = some (.slice (some ⟨gr9, 0, none⟩) 17 cr9) := (World.ownsRow.cellAt ho 0 (by omega)).trans hv9
        have g3z := (ho.lt g3 rfl).2
        have hvs9 : vs9.length = 17 := by have := ho.1; simpa using this
        have HVS := hid hvs9
        have hzd := HGD.out.size
        obtain ⟨us, his, hs0, hs1, hs2⟩ := info_parts infoBSq
        clear ho hr0 hv9 hrg hvs9
        go_wp2_with fail
        go_region_law ((refine step_append_lies _ (by rfl) (.tmp 55) (.tmp 62) 80 (by rfl) w.heap.size 54 us (.slice none 0 0) 1 24 Try.underlying80 his hs0 hs1 hs2 rfl (by omega) _ 17 vs9 (by rfl) (HO.out.alloc _) ⟨wd.heap.size, 0, none⟩ 2 2 [.slice (some ⟨gr9, 0, none⟩) 17 cr9, .slice (some ⟨gr9, 0, none⟩) 17 cr9] (by rfl) rfl (World.news_of_block (cs := #[.slice (some ⟨gr9, 0, none⟩) 17 cr9, .slice (some ⟨gr9, 0, none⟩) 17 cr9]) (t := 54) (fr := (0, 0)) (heap_alloc_new wd _)) (by simp [Value.oneCell']) (by omega) (by unfold maxLen; omega) (by omega) (by simp; omega) (wd.heap.size + 1) (by simp) ?_; intro gg cap we hown5 hgrow5 hat5 hlt5; have HO5 := hid hown5; have HX5 := hid (gb_drew (w := wd.alloc (.cells #[.slice (some ⟨gr9, 0, none⟩) 17 cr9, .slice (some ⟨gr9, 0, none⟩) 17 cr9] 54)) hgrow5); clear hown5 hgrow5 hat5 hlt5))
        all_goals
          clear k9 g3z
          have RE := hid (NVD.out.app HL9.out HO5.out HX5.out HR0.out.1 HR0.out.2)
          have HSE := hid (SrcP.grew9 (HSD.out.alloc (.cells #[.slice (some ⟨gr9, 0, none⟩) 17 cr9, .slice (some ⟨gr9, 0, none⟩) 17 cr9] 54)) HX5.out (fun q hq => by have := (HO.out.lt q hq).1; omega))
          have HGE := hid (grown_join9 (grown_trans' HGD.out (grown_of_below (bal (Below.refl _ _) (.cells #[.slice (some ⟨gr9, 0, none⟩) 17 cr9, .slice (some ⟨gr9, 0, none⟩) 17 cr9] 54)) (some b))) HX5.out (fun q hq => (HO.out.lt q hq).1))
          have HLF : Hid ((bs9 ++ [r0, r0]).length = 19) := hid (by simp [HL9.out])
          have HLG : Hid (∀ q ∈ bs9 ++ [r0, r0], q.length ≤ 17) := hid (by intro q hq; rcases List.mem_append.1 hq with h1 | h1; exact HLE.out q h1; simp at h1; subst h1; omega)
          go_wp2_with fail
          refine (l05StringsR_any (some ⟨gg, 0, none⟩) cap 19 (bs9 ++ [r0, r0]) _ w.heap.size RE.out HLF.out (by omega)).mono ?_
          rintro e w99 ⟨⟨A9, c9, rfl, ho9⟩, hb9⟩
          have HH := hid (And.intro ho9 hb9)
          have hzz := HGE.out.size
          clear ho9 hb9
          go_wp2_with fail
          go_ret
          refine ⟨⟨(bs9 ++ [r0, r0]).map strOfNums, A9, c9, ⟨by rw [List.length_map, HLF.out]; omega, lines_bd HLG.out⟩, by (have e9 : ((bs9 ++ [r0, r0]).map strOfNums).length = 19 := by rw [List.length_map, HLF.out]); rw [e9] <;> rfl, ?_⟩, (HSE.out.keep HH.out.2).more (by omega), grown_trans' HGE.out (grown_of_below HH.out.2 (some b))⟩
          rw [List.length_map, HLF.out]
          exact Go.Joins.ownsRow_le HH.out.1 hzz
  by_cases e1 : v = 1
  · subst e1
    clear e0
    go_wp2_with fail
    refine (pick_any b (K + 302) A n c B bs (mm : Int) _ HN.out HS4.out (src_bytes HBY.out HG4.out hB hbl) hB (by omega) hnl (by omega) (by omega)).mono ?_
    rintro e w5 ⟨⟨x, ⟨x1, x2⟩, rfl⟩, hs, hg⟩
    have NV5 := hid (NV4.out.src hg (show b < w.heap.size from hbl))
    have HS5 := hid hs
    have HG5 := hid (grown_trans' HG4.out hg)
    clear hs hg NV4 HS4
    obtain ⟨k, rfl⟩ : ∃ i : Nat, x = (i : Int) := ⟨x.toNat, by omega⟩
    have hkm : k ≤ mm := by omega
    have hkc : (k : Int) ≤ (cr : Int) := by omega
    have hk0 : (0 : Int) ≤ (k : Int) := by omega
    clear x1 x2
    have ho := NV5.out.1
    rw [HCL.out] at ho
    have ka : w5.cell? ⟨g2, i, none⟩ = some (.slice (some ⟨gr, 0, none⟩) mm cr) := (World.ownsRow.cellAt ho i (by omega)).trans HR.out.2.1
    have kf := World.ownsRow.frozenAt ho i
    have g2z := (ho.lt g2 rfl).2
    have R7 := hid (NV5.out.cut (k := k) HCL.out HR.out.1 HR.out.2.1 HR.out.2.2 hkm)
    have HS7 := hid (HS5.out.set (a := ⟨g2, i, none⟩) (by show b ≠ g2; omega) (.slice (some ⟨gr, 0, none⟩) k cr))
    have HG7 := hid (grown_set HG5.out (a := ⟨g2, i, none⟩) (by show w.heap.size ≤ g2; omega) (.slice (some ⟨gr, 0, none⟩) k cr))
    have HLS := hid (len_setT (i := i) (k := k) HLE.out (show r.length ≤ 17 by have := HR.out.2.2; omega))
    have HLL : Hid ((css.set i (r.take k)).length = nn) := hid (by rw [List.length_set]; exact HCL.out)
    clear ho NV5
    go_wp2_with fail
    refine (one_any b (K + 303) A n c B bs 24 _ HN.out HS7.out (src_bytes HBY.out HG7.out hB hbl) hB (by omega) hnl (by omega) (by omega)).mono ?_
    rintro e wa ⟨⟨tt, rfl⟩, hs, hg⟩
    have RA := hid (R7.out.src hg (show b < w.heap.size from hbl))
    have HSA := hid hs
    have HGA := hid (grown_trans' HG7.out hg)
    clear hs hg
    cases tt
    case false =>
      go_wp2_with fail
      refine (l05StringsR_any (some ⟨g2, 0, none⟩) c2 nn (css.set i (r.take k)) _ w.heap.size RA.out HLL.out (by omega)).mono ?_
      rintro e w99 ⟨⟨A9, c9, rfl, ho9⟩, hb9⟩
      have HH := hid (And.intro ho9 hb9)
      have hzz := HGA.out.size
      clear ho9 hb9
      go_wp2_with fail
      go_ret
      refine ⟨⟨(css.set i (r.take k)).map strOfNums, A9, c9, ⟨by rw [List.length_map, HLL.out]; omega, lines_bd HLS.out⟩, by (have e9 : ((css.set i (r.take k)).map strOfNums).length = nn := by rw [List.length_map, HLL.out]); rw [e9] <;> rfl, ?_⟩, (HSA.out.keep HH.out.2).more (by omega), grown_trans' HGA.out (grown_of_below HH.out.2 (some b))⟩
      rw [List.length_map, HLL.out]
      exact Go.Joins.ownsRow_le HH.out.1 hzz
    case true =>
      clear RA
      go_wp2_with fail
      refine (l02New_any 8 8 _ (by decide) (by decide)).mono ?_
      rintro e wb ⟨⟨A3, c3, rfl, ho3⟩, hb3⟩
      obtain ⟨n3, hin⟩ : ∃ m, (inner 8 8).toNat = m := ⟨_, rfl⟩
      have hn3 : n3 = 112 := by rw [← hin]; decide
      have hn3b : n3 ≤ 200 := by omega
      rw [hin] at ho3 ⊢
      obtain ⟨z3, hz3l⟩ : ∃ z : List Int, z = List.replicate n3 0 := ⟨_, rfl⟩
      rw [← hz3l] at ho3
      have hl3 : z3.length = n3 := by rw [hz3l]; simp
      have hv8 : validB 8 8 z3 = true := by rw [hz3l, hn3]; decide
      subst hl3
      have HO3 := hid ho3
      have HV8 := hid hv8
      have HSB := hid (HSA.out.keep hb3)
      have HGB := hid (grown_trans' HGA.out (grown_of_below hb3 (some b)))
      clear hz3l ho3 hb3 hv8 hin hn3
      go_wp2_with fail
      refine (l05Rows8_any _ A3 c3 z3 _ _ (Nat.le_refl _) (Box.new wb _ _) (OwnI.ints (OwnI.alloc HO3.out _)) (by unfold maxLen; omega) HV8.out).mono ?_
      rintro e wc ⟨⟨g3, c9, rfl, ho9⟩, hb9⟩
      obtain ⟨bs9, hl9, hr9, hz9⟩ := picZ_rows (paM (8 : Nat) (8 : Nat) z3) 17 17
      rw [hz9] at ho9
      have hzb := HGB.out.size
      obtain ⟨vs9, hnv⟩ := nestV_of (Nest.from' ho9 (show w.heap.size ≤ (wb.alloc (.cells #[.int .i64 8, .int .i64 8, .slice A3 z3.length c3] 39)).heap.size by simp; omega))
      have NV := hid hnv
      have HSC := hid ((HSB.out.alloc (.cells #[.int .i64 8, .int .i64 8, .slice A3 z3.length c3] 39)).keep hb9)
      have HGC := hid (grown_trans' HGB.out (grown_trans' (grown_of_below (bal (Below.refl wb.heap.size wb) (.cells #[.int .i64 8, .int .i64 8, .slice A3 z3.length c3] 39)) (some b)) (grown_of_below hb9 (some b))))
      have hle9 : ∀ q ∈ bs9, q.length ≤ 17 := fun q hq => Nat.le_of_eq (hr9 q hq)
      have HLE := hid hle9
      have HR17 := hid hr9
      have HL9 := hid hl9
      clear ho9 hb9 hnv hz9 hr9 hle9 hl9 hzb
      go_wp2_with fail
      refine (one_any b (K + 304) A n c B bs 2 _ HN.out (HSC.out.more (by omega)) (src_bytes HBY.out HGC.out hB hbl) hB (by omega) hnl (by omega) (by omega)).mono ?_
      rintro e wd ⟨⟨t2, rfl⟩, hs, hg⟩
      have NVD := hid (NV.out.src hg (show b < w.heap.size from hbl))
      have HSD := hid hs
      have HGD := hid (grown_trans' HGC.out hg)
      clear hs hg NV
      cases t2
      case false =>
        have RD := hid NVD.out.rows
        go_wp2_with fail
        refine (l05StringsR_any (some ⟨g3, 0, none⟩) c9 17 bs9 _ w.heap.size RD.out HL9.out (by omega)).mono ?_
        rintro e w99 ⟨⟨A9, c9, rfl, ho9⟩, hb9⟩
        have HH := hid (And.intro ho9 hb9)
        have hzz := HGD.out.size
        clear ho9 hb9
        go_wp2_with fail
        go_ret
        refine ⟨⟨bs9.map strOfNums, A9, c9, ⟨by rw [List.length_map, HL9.out]; omega, lines_bd HLE.out⟩, by (have e9 : (bs9.map strOfNums).length = 17 := by rw [List.length_map, HL9.out]); rw [e9] <;> rfl, ?_⟩, (HSD.out.keep HH.out.2).more (by omega), grown_trans' HGD.out (grown_of_below HH.out.2 (some b))⟩
        rw [List.length_map, HL9.out]
        exact Go.Joins.ownsRow_le HH.out.1 hzz
      case true =>
        obtain ⟨r0, hr0⟩ : ∃ r, bs9[0]? = some r := ⟨_, List.getElem?_eq_getElem (by rw [HL9.out]; omega)⟩
        have hr17 := HR17.out r0 (List.mem_of_getElem? hr0)
        obtain ⟨gr9, cr9, hv9, hrg⟩ := NVD.out.row hr0 (by omega)
        rw [hr17] at hv9
        have ho := NVD.out.1
        rw [HL9.out] at ho
        have HO := hid ho
        have HR0 := hid (And.intro hr0 hv9)
        have k9 : wd.cell? ⟨g3, 0, none⟩ = some (.slice (some ⟨gr9, 0, none⟩) 17 cr9) := (World.ownsRow.cellAt ho 0 (by omega)).trans hv9
        have g3z := (ho.lt g3 rfl).2
        have hvs9 : vs9.length = 17 := by have := ho.1; simpa using this
        have HVS := hid hvs9
        have hzd := HGD.out.size
        obtain ⟨us, his, hs0, hs1, hs2⟩ := info_parts infoBSq
        clear ho hr0 hv9 hrg hvs9
        go_wp2_with fail
        go_region_law ((refine step_append_lies _ (by rfl) (.tmp 55) (.tmp 62) 80 (by rfl) w.heap.size 54 us (.slice none 0 0) 1 24 Try.underlying80 his hs0 hs1 hs2 rfl (by omega) _ 17 vs9 (by rfl) (HO.out.alloc _) ⟨wd.heap.size, 0, none⟩ 2 2 [.slice (some ⟨gr9, 0, none⟩) 17 cr9, .slice (some ⟨gr9, 0, none⟩) 17 cr9] (by rfl) rfl (World.news_of_block (cs := #[.slice (some ⟨gr9, 0, none⟩) 17 cr9, .slice (some ⟨gr9, 0, none⟩) 17 cr9]) (t := 54) (fr := (0, 0)) (heap_alloc_new wd _)) (by simp [Value.oneCell']) (by omega) (by unfold maxLen; omega) (by omega) (by simp; omega) (wd.heap.size + 1) (by simp) ?_; intro gg cap we hown5 hgrow5 hat5 hlt5; have HO5 := hid hown5; have HX5 := hid (gb_drew (w := wd.alloc (.cells #[.slice (some ⟨gr9, 0, none⟩) 17 cr9, .slice (some ⟨gr9, 0, none⟩) 17 cr9] 54)) hgrow5); clear hown5 hgrow5 hat5 hlt5))
        all_goals
          clear k9 g3z
          have RE := hid (NVD.out.app HL9.out HO5.out HX5.out HR0.out.1 HR0.out.2)
          have HSE := hid (SrcP.grew9 (HSD.out.alloc (.cells #[.slice (some ⟨gr9, 0, none⟩) 17 cr9, .slice (some ⟨gr9, 0, none⟩) 17 cr9] 54)) HX5.out (fun q hq => by have := (HO.out.lt q hq).1; omega))
          have HGE := hid (grown_join9 (grown_trans' HGD.out (grown_of_below (bal (Below.refl _ _) (.cells #[.slice (some ⟨gr9, 0, none⟩) 17 cr9, .slice (some ⟨gr9, 0, none⟩) 17 cr9] 54)) (some b))) HX5.out (fun q hq => (HO.out.lt q hq).1))
          have HLF : Hid ((bs9 ++ [r0, r0]).length = 19) := hid (by simp [HL9.out])
          have HLG : Hid (∀ q ∈ bs9 ++ [r0, r0], q.length ≤ 17) := hid (by intro q hq; rcases List.mem_append.1 hq with h1 | h1; exact HLE.out q h1; simp at h1; subst h1; omega)
          go_wp2_with fail
          refine (l05StringsR_any (some ⟨gg, 0, none⟩) cap 19 (bs9 ++ [r0, r0]) _ w.heap.size RE.out HLF.out (by omega)).mono ?_
          rintro e w99 ⟨⟨A9, c9, rfl, ho9⟩, hb9⟩
          have HH := hid (And.intro ho9 hb9)
          have hzz := HGE.out.size
          clear ho9 hb9
          go_wp2_with fail
          go_ret
          refine ⟨⟨(bs9 ++ [r0, r0]).map strOfNums, A9, c9, ⟨by rw [List.length_map, HLF.out]; omega, lines_bd HLG.out⟩, by (have e9 : ((bs9 ++ [r0, r0]).map strOfNums).length = 19 := by rw [List.length_map, HLF.out]); rw [e9] <;> rfl, ?_⟩, (HSE.out.keep HH.out.2).more (by omega), grown_trans' HGE.out (grown_of_below HH.out.2 (some b))⟩
          rw [List.length_map, HLF.out]
          exact Go.Joins.ownsRow_le HH.out.1 hzz
  by_cases e2 : v = 2
  · subst e2
    clear e0 e1
    have hic : (i : Int) ≤ (c2 : Int) := by omega
    have hi0 : (0 : Int) ≤ (i : Int) := by omega
    have R7 := hid (NV4.out.rows.take (k := i) HCL.out (by omega))
    have HLS := hid (fun q (hq : q ∈ css.take i) => HLE.out q (List.mem_of_mem_take hq))
    have HLL : Hid ((css.take i).length = i) := hid (by rw [List.length_take, HCL.out]; omega)
    clear NV4
    go_wp2_with fail
    refine (one_any b (K + 302) A n c B bs 24 _ HN.out HS4.out (src_bytes HBY.out HG4.out hB hbl) hB (by omega) hnl (by omega) (by omega)).mono ?_
    rintro e wa ⟨⟨tt, rfl⟩, hs, hg⟩
    have RA := hid (R7.out.src hg (show b < w.heap.size from hbl))
    have HSA := hid hs
    have HGA := hid (grown_trans' HG4.out hg)
    clear hs hg
    cases tt
    case false =>
      go_wp2_with fail
      refine (l05StringsR_any (some ⟨g2, 0, none⟩) c2 i (css.take i) _ w.heap.size RA.out HLL.out (by omega)).mono ?_
      rintro e w99 ⟨⟨A9, c9, rfl, ho9⟩, hb9⟩
      have HH := hid (And.intro ho9 hb9)
      have hzz := HGA.out.size
      clear ho9 hb9
      go_wp2_with fail
      go_ret
      refine ⟨⟨(css.take i).map strOfNums, A9, c9, ⟨by rw [List.length_map, HLL.out]; omega, lines_bd HLS.out⟩, by (have e9 : ((css.take i).map strOfNums).length = i := by rw [List.length_map, HLL.out]); rw [e9] <;> rfl, ?_⟩, (HSA.out.keep HH.out.2).more (by omega), grown_trans' HGA.out (grown_of_below HH.out.2 (some b))⟩
      rw [List.length_map, HLL.out]
      exact Go.Joins.ownsRow_le HH.out.1 hzz
    case true =>
      clear RA
      go_wp2_with fail
      refine (l02New_any 8 8 _ (by decide) (by decide)).mono ?_
      rintro e wb ⟨⟨A3, c3, rfl, ho3⟩, hb3⟩
      obtain ⟨n3, hin⟩ : ∃ m, (inner 8 8).toNat = m := ⟨_, rfl⟩
      have hn3 : n3 = 112 := by rw [← hin]; decide
      have hn3b : n3 ≤ 200 := by omega
      rw [hin] at ho3 ⊢
      obtain ⟨z3, hz3l⟩ : ∃ z : List Int, z = List.replicate n3 0 := ⟨_, rfl⟩
      rw [← hz3l] at ho3
      have hl3 : z3.length = n3 := by rw [hz3l]; simp
      have hv8 : validB 8 8 z3 = true := by rw [hz3l, hn3]; decide
      subst hl3
      have HO3 := hid ho3
      have HV8 := hid hv8
      have HSB := hid (HSA.out.keep hb3)
      have HGB := hid (grown_trans' HGA.out (grown_of_below hb3 (some b)))
      clear hz3l ho3 hb3 hv8 hin hn3
      go_wp2_with fail
      refine (l05Rows8_any _ A3 c3 z3 _ _ (Nat.le_refl _) (Box.new wb _ _) (OwnI.ints (OwnI.alloc HO3.out _)) (by unfold maxLen; omega) HV8.out).mono ?_
      rintro e wc ⟨⟨g3, c9, rfl, ho9⟩, hb9⟩
      obtain ⟨bs9, hl9, hr9, hz9⟩ := picZ_rows (paM (8 : Nat) (8 : Nat) z3) 17 17
      rw [hz9] at ho9
      have hzb := HGB.out.size
      obtain ⟨vs9, hnv⟩ := nestV_of (Nest.from' ho9 (show w.heap.size ≤ (wb.alloc (.cells #[.int .i64 8, .int .i64 8, .slice A3 z3.length c3] 39)).heap.size by simp; omega))
      have NV := hid hnv
      have HSC := hid ((HSB.out.alloc (.cells #[.int .i64 8, .int .i64 8, .slice A3 z3.length c3] 39)).keep hb9)
      have HGC := hid (grown_trans' HGB.out (grown_trans' (grown_of_below (bal (Below.refl wb.heap.size wb) (.cells #[.int .i64 8, .int .i64 8, .slice A3 z3.length c3] 39)) (some b)) (grown_of_below hb9 (some b))))
      have hle9 : ∀ q ∈ bs9, q.length ≤ 17 := fun q hq => Nat.le_of_eq (hr9 q hq)
      have HLE := hid hle9
      have HR17 := hid hr9
      have HL9 := hid hl9
      clear ho9 hb9 hnv hz9 hr9 hle9 hl9 hzb
      go_wp2_with fail
      refine (one_any b (K + 303) A n c B bs 2 _ HN.out (HSC.out.more (by omega)) (src_bytes HBY.out HGC.out hB hbl) hB (by omega) hnl (by omega) (by omega)).mono ?_
      rintro e wd ⟨⟨t2, rfl⟩, hs, hg⟩
      have NVD := hid (NV.out.src hg (show b < w.heap.size from hbl))
      have HSD := hid hs
      have HGD := hid (grown_trans' HGC.out hg)
      clear hs hg NV
      cases t2
      case false =>
        have RD := hid NVD.out.rows
        go_wp2_with fail
        refine (l05StringsR_any (some ⟨g3, 0, none⟩) c9 17 bs9 _ w.heap.size RD.out HL9.out (by omega)).mono ?_
        rintro e w99 ⟨⟨A9, c9, rfl, ho9⟩, hb9⟩
        have HH := hid (And.intro ho9 hb9)
        have hzz := HGD.out.size
        clear ho9 hb9
        go_wp2_with fail
        go_ret
        refine ⟨⟨bs9.map strOfNums, A9, c9, ⟨by rw [List.length_map, HL9.out]; omega, lines_bd HLE.out⟩, by (have e9 : (bs9.map strOfNums).length = 17 := by rw [List.length_map, HL9.out]); rw [e9] <;> rfl, ?_⟩, (HSD.out.keep HH.out.2).more (by omega), grown_trans' HGD.out (grown_of_below HH.out.2 (some b))⟩
        rw [List.length_map, HL9.out]
        exact Go.Joins.ownsRow_le HH.out.1 hzz
      case true =>
        obtain ⟨r0, hr0⟩ : ∃ r, bs9[0]? = some r := ⟨_, List.getElem?_eq_getElem (by rw [HL9.out]; omega)⟩
        have hr17 := HR17.out r0 (List.mem_of_getElem? hr0)
        obtain ⟨gr9, cr9, hv9, hrg⟩ := NVD.out.row hr0 (by omega)
        rw [hr17] at hv9
        have ho := NVD.out.1
        rw [HL9.out] at ho
        have HO := hid ho
        have HR0 := hid (And.intro hr0 hv9)
        have k9 : wd.cell? ⟨g3, 0, none⟩ = some (.slice (some ⟨gr9, 0, none⟩) 17 cr9) := (World.ownsRow.cellAt ho 0 (by omega)).trans hv9
        have g3z := (ho.lt g3 rfl).2
        have hvs9 : vs9.length = 17 := by have := ho.1; simpa using this
        have HVS := hid hvs9
        have hzd := HGD.out.size
        obtain ⟨us, his, hs0, hs1, hs2⟩ := info_parts infoBSq
        clear ho hr0 hv9 hrg hvs9
        go_wp2_with fail
        go_region_law ((refine step_append_lies _ (by rfl) (.tmp 55) (.tmp 62) 80 (by rfl) w.heap.size 54 us (.slice none 0 0) 1 24 Try.underlying80 his hs0 hs1 hs2 rfl (by omega) _ 17 vs9 (by rfl) (HO.out.alloc _) ⟨wd.heap.size, 0, none⟩ 2 2 [.slice (some ⟨gr9, 0, none⟩) 17 cr9, .slice (some ⟨gr9, 0, none⟩) 17 cr9] (by rfl) rfl (World.news_of_block (cs := #[.slice (some ⟨gr9, 0, none⟩) 17 cr9, .slice (some ⟨gr9, 0, none⟩) 17 cr9]) (t := 54) (fr := (0, 0)) (heap_alloc_new wd _)) (by simp [Value.oneCell']) (by omega) (by unfold maxLen; omega) (by omega) (by simp; omega) (wd.heap.size + 1) (by simp) ?_; intro gg cap we hown5 hgrow5 hat5 hlt5; have HO5 := hid hown5; have HX5 := hid (gb_drew (w := wd.alloc (.cells #[.slice (some ⟨gr9, 0, none⟩) 17 cr9, .slice (some ⟨gr9, 0, none⟩) 17 cr9] 54)) hgrow5); clear hown5 hgrow5 hat5 hlt5))
        all_goals
          clear k9 g3z
          have RE := hid (NVD.out.app HL9.out HO5.out HX5.out HR0.out.1 HR0.out.2)
          have HSE := hid (SrcP.grew9 (HSD.out.alloc (.cells #[.slice (some ⟨gr9, 0, none⟩) 17 cr9, .slice (some ⟨gr9, 0, none⟩) 17 cr9] 54)) HX5.out (fun q hq => by have := (HO.out.lt q hq).1; omega))
          have HGE := hid (grown_join9 (grown_trans' HGD.out (grown_of_below (bal (Below.refl _ _) (.cells #[.slice (some ⟨gr9, 0, none⟩) 17 cr9, .slice (some ⟨gr9, 0, none⟩) 17 cr9] 54)) (some b))) HX5.out (fun q hq => (HO.out.lt q hq).1))
          have HLF : Hid ((bs9 ++ [r0, r0]).length = 19) := hid (by simp [HL9.out])
          have HLG : Hid (∀ q ∈ bs9 ++ [r0, r0], q.length ≤ 17) := hid (by intro q hq; rcases List.mem_append.1 hq with h1 | h1; exact HLE.out q h1; simp at h1; subst h1; omega)
          go_wp2_with fail
          refine (l05StringsR_any (some ⟨gg, 0, none⟩) cap 19 (bs9 ++ [r0, r0]) _ w.heap.size RE.out HLF.out (by omega)).mono ?_
          rintro e w99 ⟨⟨A9, c9, rfl, ho9⟩, hb9⟩
          have HH := hid (And.intro ho9 hb9)
          have hzz := HGE.out.size
          clear ho9 hb9
          go_wp2_with fail
          go_ret
          refine ⟨⟨(bs9 ++ [r0, r0]).map strOfNums, A9, c9, ⟨by rw [List.length_map, HLF.out]; omega, lines_bd HLG.out⟩, by (have e9 : ((bs9 ++ [r0, r0]).map strOfNums).length = 19 := by rw [List.length_map, HLF.out]); rw [e9] <;> rfl, ?_⟩, (HSE.out.keep HH.out.2).more (by omega), grown_trans' HGE.out (grown_of_below HH.out.2 (some b))⟩
          rw [List.length_map, HLF.out]
          exact Go.Joins.ownsRow_le HH.out.1 hzz
  have n0 : (v == 0) = false := by simp [e0]
  have n1 : (v == 1) = false := by simp [e1]
  have n2 : (v == 2) = false := by simp [e2]
  have R7 := hid NV4.out.rows
  clear NV4
  go_wp2_with fail
  refine (one_any b (K + 302) A n c B bs 24 _ HN.out HS4.out (src_bytes HBY.out HG4.out hB hbl) hB (by omega) hnl (by omega) (by omega)).mono ?_
  rintro e wa ⟨⟨tt, rfl⟩, hs, hg⟩
  have RA := hid (R7.out.src hg (show b < w.heap.size from hbl))
  have HSA := hid hs
  have HGA := hid (grown_trans' HG4.out hg)
  clear hs hg
  cases tt
  case false =>
    go_wp2_with fail
    refine (l05StringsR_any (some ⟨g2, 0, none⟩) c2 nn css _ w.heap.size RA.out HCL.out (by omega)).mono ?_
    rintro e w99 ⟨⟨A9, c9, rfl, ho9⟩, hb9⟩
    have HH := hid (And.intro ho9 hb9)
    have hzz := HGA.out.size
    clear ho9 hb9
    go_wp2_with fail
    go_ret
    refine ⟨⟨css.map strOfNums, A9, c9, ⟨by rw [List.length_map, HCL.out]; omega, lines_bd HLE.out⟩, by (have e9 : (css.map strOfNums).length = nn := by rw [List.length_map, HCL.out]); rw [e9] <;> rfl, ?_⟩, (HSA.out.keep HH.out.2).more (by omega), grown_trans' HGA.out (grown_of_below HH.out.2 (some b))⟩
    rw [List.length_map, HCL.out]
    exact Go.Joins.ownsRow_le HH.out.1 hzz
  case true =>
    clear RA
    go_wp2_with fail
    refine (l02New_any 8 8 _ (by decide) (by decide)).mono ?_
    rintro e wb ⟨⟨A3, c3, rfl, ho3⟩, hb3⟩
    obtain ⟨n3, hin⟩ : ∃ m, (inner 8 8).toNat = m := ⟨_, rfl⟩
    have hn3 : n3 = 112 := by rw [← hin]; decide
    have hn3b : n3 ≤ 200 := by omega
    rw [hin] at ho3 ⊢
    obtain ⟨z3, hz3l⟩ : ∃ z : List Int, z = List.replicate n3 0 := ⟨_, rfl⟩
    rw [← hz3l] at ho3
    have hl3 : z3.length = n3 := by rw [hz3l]; simp
    have hv8 : validB 8 8 z3 = true := by rw [hz3l, hn3]; decide
    subst hl3
    have HO3 := hid ho3
    have HV8 := hid hv8
    have HSB := hid (HSA.out.keep hb3)
    have HGB := hid (grown_trans' HGA.out (grown_of_below hb3 (some b)))
    clear hz3l ho3 hb3 hv8 hin hn3
    go_wp2_with fail
    refine (l05Rows8_any _ A3 c3 z3 _ _ (Nat.le_refl _) (Box.new wb _ _) (OwnI.ints (OwnI.alloc HO3.out _)) (by unfold maxLen; omega) HV8.out).mono ?_
    rintro e wc ⟨⟨g3, c9, rfl, ho9⟩, hb9⟩
    obtain ⟨bs9, hl9, hr9, hz9⟩ := picZ_rows (paM (8 : Nat) (8 : Nat) z3) 17 17
    rw [hz9] at ho9
    have hzb := HGB.out.size
    obtain ⟨vs9, hnv⟩ := nestV_of (Nest.from' ho9 (show w.heap.size ≤ (wb.alloc (.cells #[.int .i64 8, .int .i64 8, .slice A3 z3.length c3] 39)).heap.size by simp; omega))
    have NV := hid hnv
    have HSC := hid ((HSB.out.alloc (.cells #[.int .i64 8, .int .i64 8, .slice A3 z3.length c3] 39)).keep hb9)
    have HGC := hid (grown_trans' HGB.out (grown_trans' (grown_of_below (bal (Below.refl wb.heap.size wb) (.cells #[.int .i64 8, .int .i64 8, .slice A3 z3.length c3] 39)) (some b)) (grown_of_below hb9 (some b))))
    have hle9 : ∀ q ∈ bs9, q.length ≤ 17 := fun q hq => Nat.le_of_eq (hr9 q hq)
    have HLE := hid hle9
    have HR17 := hid hr9
    have HL9 := hid hl9
    clear ho9 hb9 hnv hz9 hr9 hle9 hl9 hzb
    go_wp2_with fail
    refine (one_any b (K + 303) A n c B bs 2 _ HN.out (HSC.out.more (by omega)) (src_bytes HBY.out HGC.out hB hbl) hB (by omega) hnl (by omega) (by omega)).mono ?_
    rintro e wd ⟨⟨t2, rfl⟩, hs, hg⟩
    have NVD := hid (NV.out.src hg (show b < w.heap.size from hbl))
    have HSD := hid hs
    have HGD := hid (grown_trans' HGC.out hg)
    clear hs hg NV
    cases t2
    case false =>
      have RD := hid NVD.out.rows
      go_wp2_with fail
      refine (l05StringsR_any (some ⟨g3, 0, none⟩) c9 17 bs9 _ w.heap.size RD.out HL9.out (by omega)).mono ?_
      rintro e w99 ⟨⟨A9, c9, rfl, ho9⟩, hb9⟩
      have HH := hid (And.intro ho9 hb9)
      have hzz := HGD.out.size
      clear ho9 hb9
      go_wp2_with fail
      go_ret
      refine ⟨⟨bs9.map strOfNums, A9, c9, ⟨by rw [List.length_map, HL9.out]; omega, lines_bd HLE.out⟩, by (have e9 : (bs9.map strOfNums).length = 17 := by rw [List.length_map, HL9.out]); rw [e9] <;> rfl, ?_⟩, (HSD.out.keep HH.out.2).more (by omega), grown_trans' HGD.out (grown_of_below HH.out.2 (some b))⟩
      rw [List.length_map, HL9.out]
      exact Go.Joins.ownsRow_le HH.out.1 hzz
    case true =>
      obtain ⟨r0, hr0⟩ : ∃ r, bs9[0]? = some r := ⟨_, List.getElem?_eq_getElem (by rw [HL9.out]; omega)⟩
      have hr17 := HR17.out r0 (List.mem_of_getElem? hr0)
      obtain ⟨gr9, cr9, hv9, hrg⟩ := NVD.out.row hr0 (by omega)
      rw [hr17] at hv9
      have ho := NVD.out.1
      rw [HL9.out] at ho
      have HO := hid ho
      have HR0 := hid (And.intro hr0 hv9)
      have k9 : wd.cell? ⟨g3, 0, none⟩ = some (.slice (some ⟨gr9, 0, none⟩) 17 cr9) := (World.ownsRow.cellAt ho 0 (by omega)).trans hv9
      have g3z := (ho.lt g3 rfl).2
      have hvs9 : vs9.length = 17 := by have := ho.1; simpa using this
      have HVS := hid hvs9
      have hzd := HGD.out.size
      obtain ⟨us, his, hs0, hs1, hs2⟩ := info_parts infoBSq
      clear ho hr0 hv9 hrg hvs9
      go_wp2_with fail
      go_region_law ((refine step_append_lies _ (by rfl) (.tmp 55) (.tmp 62) 80 (by rfl) w.heap.size 54 us (.slice none 0 0) 1 24 Try.underlying80 his hs0 hs1 hs2 rfl (by omega) _ 17 vs9 (by rfl) (HO.out.alloc _) ⟨wd.heap.size, 0, none⟩ 2 2 [.slice (some ⟨gr9, 0, none⟩) 17 cr9, .slice (some ⟨gr9, 0, none⟩) 17 cr9] (by rfl) rfl (World.news_of_block (cs := #[.slice (some ⟨gr9, 0, none⟩) 17 cr9, .slice (some ⟨gr9, 0, none⟩) 17 cr9]) (t := 54) (fr := (0, 0)) (heap_alloc_new wd _)) (by simp [Value.oneCell']) (by omega) (by unfold maxLen; omega) (by omega) (by simp; omega) (wd.heap.size + 1) (by simp) ?_; intro gg cap we hown5 hgrow5 hat5 hlt5; have HO5 := hid hown5; have HX5 := hid (gb_drew (w := wd.alloc (.cells #[.slice (some ⟨gr9, 0, none⟩) 17 cr9, .slice (some ⟨gr9, 0, none⟩) 17 cr9] 54)) hgrow5); clear hown5 hgrow5 hat5 hlt5))
      all_goals
        clear k9 g3z
        have RE := hid (NVD.out.app HL9.out HO5.out HX5.out HR0.out.1 HR0.out.2)
        have HSE := hid (SrcP.grew9 (HSD.out.alloc (.cells #[.slice (some ⟨gr9, 0, none⟩) 17 cr9, .slice (some ⟨gr9, 0, none⟩) 17 cr9] 54)) HX5.out (fun q hq => by have := (HO.out.lt q hq).1; omega))
        have HGE := hid (grown_join9 (grown_trans' HGD.out (grown_of_below (bal (Below.refl _ _) (.cells #[.slice (some ⟨gr9, 0, none⟩) 17 cr9, .slice (some ⟨gr9, 0, none⟩) 17 cr9] 54)) (some b))) HX5.out (fun q hq => (HO.out.lt q hq).1))
        have HLF : Hid ((bs9 ++ [r0, r0]).length = 19) := hid (by simp [HL9.out])
        have HLG : Hid (∀ q ∈ bs9 ++ [r0, r0], q.length ≤ 17) := hid (by intro q hq; rcases List.mem_append.1 hq with h1 | h1; exact HLE.out q h1; simp at h1; subst h1; omega)
        go_wp2_with fail
        refine (l05StringsR_any (some ⟨gg, 0, none⟩) cap 19 (bs9 ++ [r0, r0]) _ w.heap.size RE.out HLF.out (by omega)).mono ?_
        rintro e w99 ⟨⟨A9, c9, rfl, ho9⟩, hb9⟩
        have HH := hid (And.intro ho9 hb9)
        have hzz := HGE.out.size
        clear ho9 hb9
        go_wp2_with fail
        go_ret
        refine ⟨⟨(bs9 ++ [r0, r0]).map strOfNums, A9, c9, ⟨by rw [List.length_map, HLF.out]; omega, lines_bd HLG.out⟩, by (have e9 : ((bs9 ++ [r0, r0]).map strOfNums).length = 19 := by rw [List.length_map, HLF.out]); rw [e9] <;> rfl, ?_⟩, (HSE.out.keep HH.out.2).more (by omega), grown_trans' HGE.out (grown_of_below HH.out.2 (some b))⟩
        rw [List.length_map, HLF.out]
        exact Go.Joins.ownsRow_le HH.out.1 hzz
end Go.Proofs.Ytgcgaoblbhojnaa

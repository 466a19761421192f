/- Rows of Points: compared, marked, held. -/
import Derived.Test.YtmhilafcgjgcoaaRg
import Derived.Test.YtmhilafcgjgcoaaLw
import Derived.Test.YtmhilafcgjgcoaaQm
import Derived.Lib.SmallJoins
import Derived.Deep.AppendLies
namespace Go.Proofs.Ytmhilafcgjgcoaa
set_option linter.unusedSimpArgs false
set_option linter.unusedVariables false
open Go.ChangeShapes Go.WideShapes Go.ChangeAt Go.RowKit
theorem row_formPoint {w : World} {B s n : Nat} {T : TypeId} {v : Value} {cs : List Value} (h : w.ownsRow B T s v n cs) : ∃ A c, v = .slice A n c := by
  rcases h.2 with ⟨rfl, h0⟩ | ⟨g, cap, cur, rfl, _⟩
  · exact ⟨none, 0, by rw [h0]⟩
  · exact ⟨_, _, rfl⟩
theorem vsetPoint (zs : List Int) (k i : Nat) (h : i < zs.length) : (vals (marked zs k i)).set i (.int .i64 ((k + i : Nat) : Int)) = vals (marked zs k (i + 1)) := by
  rw [← marked_set zs k i h]; simp [vals]

set_option maxRecDepth 100000 in
set_option maxHeartbeats 1000000 in
theorem eqPointS_any (v1 v2 : Value) (zs : List Int) (n B1 B2 : Nat) (w : World) (h1 : w.ownsRow B1 51 2 v1 n (vals zs)) (h2 : w.ownsRow B2 51 2 v2 n (vals zs)) (hn : n ≤ maxLen) :
    Calls Try.prog 94 #[v1, v2] w fun e w' => e = .returned (.bool true) ∧ Below w.heap.size w w' := by
  have hzl : zs.length = n * 2 := by simpa [vals] using h1.1
  unfold maxLen at hn
  rcases Nat.eq_zero_or_pos n with h0 | hp
  · subst h0
    obtain ⟨A1, c1, rfl⟩ := row_formPoint h1
    obtain ⟨A2, c2, rfl⟩ := row_formPoint h2
    clear h1 h2 hzl
    go_enter Try.func94, Try.ntmps94
    go_wp2_with fail
    refine wp_loop_rounds 1 ?_
    rw [rounds_succ]
    go_wp2_with fail
    go_ret
    exact ⟨rfl, Below.refl _ _⟩
  · obtain ⟨g1, p1, rfl⟩ := Go.Joins.ownsRow_form h1 hp
    obtain ⟨g2, p2, rfl⟩ := Go.Joins.ownsRow_form h2 hp
    have H1 := hid h1
    have H2 := hid h2
    clear h1 h2
    go_enter Try.func94, Try.ntmps94
    go_wp2_with fail
    go_loopg [5] n (fun g i wr => ∃ j : Nat, j ≤ n ∧ i = .int .i64 j ∧ g = n - j ∧ Hid (Below w.heap.size w wr))
    case atStart => exact ⟨0, Nat.zero_le _, rfl, rfl, hid (Below.refl _ _)⟩
    case round =>
      obtain ⟨j, hj, rfl, hg, HB⟩ := hrel
      by_cases hlt : j < n
      · have R1 := hid ((Rgn.of H1.out rfl rfl).keep HB.out)
        have R2 := hid ((Rgn.of H2.out rfl rfl).keep HB.out)
        obtain ⟨x0, hx0⟩ : ∃ z, zs[j * 2]? = some z := ⟨_, List.getElem?_eq_getElem (by omega)⟩
        have c10 : wr.cell? ⟨g1, j * 2, none⟩ = some (.int .i64 x0) := (World.ownsRow.cellAt R1.out.1 (j * 2) (by omega)).trans (by simp [vals, hx0])
        have c20 : wr.cell? ⟨g2, j * 2, none⟩ = some (.int .i64 x0) := (World.ownsRow.cellAt R2.out.1 (j * 2) (by omega)).trans (by simp [vals, hx0])
        obtain ⟨x1, hx1⟩ : ∃ z, zs[j * 2 + 1]? = some z := ⟨_, List.getElem?_eq_getElem (by omega)⟩
        have c11 : wr.cell? ⟨g1, j * 2 + 1, none⟩ = some (.int .i64 x1) := (World.ownsRow.cellAt R1.out.1 (j * 2 + 1) (by omega)).trans (by simp [vals, hx1])
        have c21 : wr.cell? ⟨g2, j * 2 + 1, none⟩ = some (.int .i64 x1) := (World.ownsRow.cellAt R2.out.1 (j * 2 + 1) (by omega)).trans (by simp [vals, hx1])
        have b1 : g1 < wr.heap.size := (R1.out.1.lt g1 rfl).2
        have b2 : g2 < wr.heap.size := (R2.out.1.lt g2 rfl).2
        clear hx0 hx1
        go_wp2_with fail
        refine wp_region_mix wr.heap.size (by kernel_rfl) (by kernel_rfl) ?_
        repeat (any_goals (go_big_quiet_step ((go_at_call 121; exact mix_call (Nat.le_refl _) (eqPoint_any x0 x1 _)))))
        refine wpQuiet_nil ?_
        intro w5 hx5
        have hb5 : Below _ _ w5 := mix_ex hx5
        clear hx5
        have HB5 := hid (bstep HB.out hb5)
        clear hb5 c10 c20 c11 c21 b1 b2
        go_wp2_with fail
        go_roundg (n - (j + 1))
        case measure => omega
        case rel => exact ⟨j + 1, by omega, by go_num, rfl, HB5⟩
      · have hkl : j = n := by omega
        subst hkl
        go_wp2_with fail
        go_ret
        exact ⟨rfl, HB.out⟩
set_option maxRecDepth 100000 in
set_option maxHeartbeats 1000000 in
theorem markPointS_any (v : Value) (zs : List Int) (n k lo hi : Nat) (w : World) (h : Rgn w lo hi 51 2 v n (vals zs)) (hk : k + 2 * n ≤ 4611686018427387904) :
    Calls Try.prog 95 #[v, .int .i64 k] w fun e w' => e = .returned (.int .i64 ((k + 2 * n : Nat) : Int)) ∧ Rgn w' lo hi 51 2 v n (vals (marks k (2 * n))) ∧ Chg w w' lo hi := by
  have hzl : zs.length = n * 2 := by simpa [vals] using h.1.1
  rcases Nat.eq_zero_or_pos n with h0 | hp
  · subst h0
    obtain ⟨A1, c1, rfl⟩ := row_formPoint h.1
    obtain rfl : zs = [] := List.eq_nil_of_length_eq_zero (by omega)
    have HO := hid h
    clear h hzl
    go_enter Try.func95, Try.ntmps95
    go_wp2_with fail
    refine wp_loop_rounds 1 ?_
    rw [rounds_succ]
    go_wp2_with fail
    go_ret
    exact ⟨by simp, by simpa [marks] using HO.out, Chg.refl _ _ _⟩
  · obtain ⟨g, cap, rfl⟩ := Go.Joins.ownsRow_form h.1 hp
    have HR := hid h.row
    have HU := hid h.2
    have h := h.1
    go_enter Try.func95, Try.ntmps95
    go_wp2_with fail
    go_loopg [1, 5] n (fun r q i wr => ∃ j : Nat, j ≤ n ∧ q = .int .i64 ((k + j * 2 : Nat) : Int) ∧ i = .int .i64 j ∧ r = n - j ∧ wr.ownsRow lo 51 2 (.slice (some ⟨g, 0, none⟩) n cap) n (vals (marked zs k (j * 2))) ∧ Hid (w.grownBy wr (some g)))
    case atStart => exact ⟨0, Nat.zero_le _, by simp, rfl, rfl, by rw [Nat.zero_mul, marked_zero]; exact h, hid ⟨rfl, rfl, rfl, Nat.le_refl _, fun _ _ _ => rfl⟩⟩
    case round =>
      obtain ⟨j, hj, rfl, rfl, hr, ho, hgr⟩ := hrel
      clear h
      by_cases hlt : j < n
      · obtain ⟨u0, hu0⟩ : ∃ u, (vals (marked zs k (j * 2)))[j * 2]? = some u := ⟨_, List.getElem?_eq_getElem (by rw [ho.1]; omega)⟩
        have ca0 : wr.cell? ⟨g, j * 2, none⟩ = some u0 := (World.ownsRow.cellAt ho (j * 2) (by omega)).trans hu0
        have fa0 := World.ownsRow.frozenAt ho (j * 2)
        have st0 := World.ownsRow.stored ho (j * 2) (.int .i64 ((k + (j * 2) : Nat) : Int))
        rw [vsetPoint zs k (j * 2) (by omega)] at st0
        obtain ⟨u1, hu1⟩ : ∃ u, (vals (marked zs k (j * 2)))[j * 2 + 1]? = some u := ⟨_, List.getElem?_eq_getElem (by rw [ho.1]; omega)⟩
        have ca1 : wr.cell? ⟨g, j * 2 + 1, none⟩ = some u1 := (World.ownsRow.cellAt ho (j * 2 + 1) (by omega)).trans hu1
        have fa1 := World.ownsRow.frozenAt ho (j * 2 + 1)
        have st1 := World.ownsRow.stored st0.1 (j * 2 + 1) (.int .i64 ((k + (j * 2 + 1) : Nat) : Int))
        rw [vsetPoint zs k (j * 2 + 1) (by omega)] at st1
        have HST := hid (And.intro st1.1 (grown_trans' hgr.out (grown_trans' st0.2 (st1.2))))
        clear hu0 st0 hu1 st1
        go_wp2_with fail
        go_roundg (n - (j + 1))
        case measure => omega
        case rel => exact ⟨j + 1, by omega, by go_num, by go_num, rfl, by rw [show (j + 1) * 2 = j * 2 + 2 by omega]; simpa [Int.add_assoc, Nat.add_assoc] using HST.out.1, hid (by simpa [Int.add_assoc, Nat.add_assoc] using HST.out.2)⟩
      · have hkl : j = n := by omega
        subst hkl
        rw [← hzl, marked_full, hzl] at ho
        go_wp2_with fail
        go_ret
        refine ⟨ret_int (by push_cast; omega), ⟨?_, HU.out⟩, Chg.of_grown hgr.out HR.out⟩
        rw [Nat.mul_comm]
        exact ho
set_option maxRecDepth 100000 in
set_option maxHeartbeats 1000000 in
theorem heldPointS_any (v : Value) (n k lo hi : Nat) (w : World) (h : Rgn w lo hi 51 2 v n (vals (marks k (2 * n)))) (hk : k + 2 * n ≤ 4611686018427387904) :
    Calls Try.prog 96 #[v, .int .i64 k] w fun e w' => e = .returned (.int .i64 ((k + 2 * n : Nat) : Int)) ∧ Below w.heap.size w w' := by
  rcases Nat.eq_zero_or_pos n with h0 | hp
  · subst h0
    obtain ⟨A1, c1, rfl⟩ := row_formPoint h.1
    clear h
    go_enter Try.func96, Try.ntmps96
    go_wp2_with fail
    refine wp_loop_rounds 1 ?_
    rw [rounds_succ]
    go_wp2_with fail
    go_ret
    exact ⟨by simp, Below.refl _ _⟩
  · obtain ⟨g, cap, rfl⟩ := Go.Joins.ownsRow_form h.1 hp
    have h := h.1
    go_enter Try.func96, Try.ntmps96
    go_wp2_with fail
    go_loopg [1, 5] n (fun r q i wr => ∃ j : Nat, j ≤ n ∧ q = .int .i64 ((k + j * 2 : Nat) : Int) ∧ i = .int .i64 j ∧ r = n - j ∧ w = wr)
    case atStart => exact ⟨0, Nat.zero_le _, by simp, rfl, rfl, rfl⟩
    case round =>
      obtain ⟨j, hj, rfl, rfl, hr, rfl⟩ := hrel
      by_cases hlt : j < n
      · have ca0 : w.cell? ⟨g, j * 2, none⟩ = some (.int .i64 ((k + (j * 2) : Nat) : Int)) := (World.ownsRow.cellAt h (j * 2) (by omega)).trans (by simp [vals, marks_at (show j * 2 < 2 * n by omega)])
        have ca1 : w.cell? ⟨g, j * 2 + 1, none⟩ = some (.int .i64 ((k + (j * 2 + 1) : Nat) : Int)) := (World.ownsRow.cellAt h (j * 2 + 1) (by omega)).trans (by simp [vals, marks_at (show j * 2 + 1 < 2 * n by omega)])
        go_wp2_with fail
        go_roundg (n - (j + 1))
        case measure => omega
        case rel => exact ⟨j + 1, by omega, by go_num, by go_num, rfl, rfl⟩
      · have hkl : j = n := by omega
        subst hkl
        go_wp2_with fail
        go_ret
        exact ⟨ret_int (by push_cast; omega), Below.refl _ _⟩
end Go.Proofs.Ytmhilafcgjgcoaa

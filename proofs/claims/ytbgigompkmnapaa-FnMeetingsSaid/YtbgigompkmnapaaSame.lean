/- Two slices of int64 compared: l00Same and slices.Equal. -/
import Derived.Test.YtbgigompkmnapaaMem
namespace Go.Proofs.Ytbgigompkmnapaa
set_option linter.unusedSimpArgs false
set_option linter.unusedVariables false
open Go.ChangeShapes Go.WideShapes Go.ChangeAt Go.RowKit
set_option maxHeartbeats 400000 in
theorem equalI_any (A1 A2 : Option Addr) (c1 c2 : Nat) (xs ys : List Int) (w : World) (B : Nat) (h1 : Ints w B A1 xs) (h2 : Ints w B A2 ys) (hl : xs.length ≤ maxLen) (hl2 : ys.length ≤ maxLen) :
    Calls Try.prog 74 #[.slice A1 xs.length c1, .slice A2 ys.length c2] w fun e w' => e = .returned (.bool (decide (xs = ys))) ∧ ∃ m, w' = w.drewN m := by
  unfold maxLen at hl hl2
  by_cases hn : xs.length = ys.length
  · have hne : ((xs.length : Int) != (ys.length : Int)) = false := by simp [hn]
    have HN := hid hn
    clear hn
    go_enter Try.func74, Try.ntmps74
    go_wp2_with fail
    go_loopg [13] xs.length (fun g i wr => ∃ k : Nat, k ≤ xs.length ∧ i = .int .i64 k ∧ g = xs.length - k ∧ Hid (xs.take k = ys.take k) ∧ ∃ m, wr = w.drewN m)
    case atStart => exact ⟨0, Nat.zero_le _, rfl, rfl, hid (by simp), 0, rfl⟩
    case round =>
      obtain ⟨k, hk, rfl, hg, hall, m, rfl⟩ := hrel
      by_cases hlt : k < xs.length
      · obtain ⟨x, hx⟩ : ∃ z, xs[k]? = some z := ⟨_, List.getElem?_eq_getElem hlt⟩
        obtain ⟨y, hy⟩ : ∃ z, ys[k]? = some z := ⟨_, List.getElem?_eq_getElem (by have := HN.out; omega)⟩
        obtain ⟨b1, o1, rfl, hb1, hc1⟩ := h1 k x hx
        obtain ⟨b2, o2, rfl, hb2, hc2⟩ := h2 k y hy
        have hlt2 : k < ys.length := by have := HN.out; omega
        have Hx := hid hx
        have Hy := hid hy
        clear hx hy
        by_cases he : x = y
        · have hb : (x != y) = false := by simp [he]
          have HE := hid he
          clear he
          go_wp2_with fail
          go_quiet (fail)
          go_wp2_with fail
          go_roundg (xs.length - (k + 1))
          case measure => omega
          case rel => exact ⟨k + 1, by omega, by go_num, rfl, hid (take_eq_succ hall.out Hx.out Hy.out HE.out), _, rfl⟩
        · have hb : (x != y) = true := by simp [he]
          have HE := hid he
          clear he
          go_wp2_with fail
          go_quiet (fail)
          go_wp2_with fail
          go_ret
          exact ⟨ret_bool (ne_of_at Hx.out Hy.out HE.out).symm, _, World.drewN_drewN ..⟩
      · have HA : Hid (decide (xs = ys) = true) := hid (by
          have := hall.out
          rw [List.take_of_length_le (by omega), List.take_of_length_le (by have := HN.out; omega)] at this
          simp [this])
        go_wp2_with fail
        go_ret
        exact ⟨ret_bool HA.out.symm, _, rfl⟩
  · have hne : ((xs.length : Int) != (ys.length : Int)) = true := by simp; omega
    have HA : Hid (decide (xs = ys) = false) := hid (by rw [decide_eq_false_iff_not]; rintro rfl; exact hn rfl)
    clear hn
    go_enter Try.func74, Try.ntmps74
    go_wp2_with fail
    go_ret
    exact ⟨ret_bool HA.out.symm, 0, rfl⟩

end Go.Proofs.Ytbgigompkmnapaa

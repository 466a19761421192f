/- Walkers along segments. -/
import Derived.Test.YtbgigompkmnapaaCs
namespace Go.Proofs.Ytbgigompkmnapaa
set_option linter.unusedSimpArgs false
set_option linter.unusedVariables false
open Go.ChangeShapes Go.WideShapes Go.ChangeAt Go.RowKit
/-- The walker along segment k to the right. -/
def wkX (H k : Int) : Int := k / (2 * H)
def wkY (H k : Int) : Int := if (k / (2 * H) + k % (2 * H)) % 2 = 1 then k % (2 * H) else k % (2 * H) + 1
def wkD (H k : Int) : Int := if (k / (2 * H) + k % (2 * H)) % 2 = 1 then 1 else -1
theorem wk_qr {W H k : Int} (hW : side W = true) (hH : side H = true) (h0 : 0 ≤ k) (hk : k < 4 * W * H) : 0 ≤ k / (2 * H) ∧ k / (2 * H) ≤ 2 * W - 1 ∧ 0 ≤ k % (2 * H) ∧ k % (2 * H) ≤ 2 * H - 1 := by
  have h := side_bd hW
  rcases side_cases hH with rfl | rfl | rfl | rfl | rfl | rfl | rfl | rfl <;> omega
theorem ret_w {a b c d a' b' c' d' : Int} (h1 : a = a') (h2 : b = b') (h3 : c = c') (h4 : d = d') : Ending.returned (.agg #[.int .i64 a, .int .i64 b, .int .i64 c, .int .i64 d]) = .returned (.agg #[.int .i64 a', .int .i64 b', .int .i64 c', .int .i64 d']) := by rw [h1, h2, h3, h4]

set_option maxHeartbeats 1600000 in
theorem walker_any (W H k : Int) (A : Option Addr) (n c : Nat) (w : World) (hW : side W = true) (hH : side H = true) (h0 : 0 ≤ k) (hk : k < 4 * W * H) :
    Calls Try.prog 79 #[.agg #[.int .i64 W, .int .i64 H, .slice A n c], .int .i64 k] w fun e w' => e = .returned (.agg #[.int .i64 (wkX H k), .int .i64 (wkY H k), .int .i64 1, .int .i64 (wkD H k)]) ∧ Below w.heap.size w w' := by
  obtain ⟨q1, q2, r1, r2⟩ := wk_qr hW hH h0 hk
  obtain ⟨w1, w2⟩ := side_bd hW
  obtain ⟨w3, w4⟩ := side_bd hH
  obtain ⟨s1, s2⟩ := segs_bd hW hH
  have t1 : IntKind.i64.wrap (2 * H) = 2 * H := IntWalk.i64_in _ (by omega)
  have hd : ((2 * H : Int) == 0) = false := by simp; omega
  by_cases hp : (k / (2 * H) + k % (2 * H)) % 2 = 1
  · have hb : ((k / (2 * H) + k % (2 * H)) % 2 == 1) = true := by simp [hp]
    have EY : Hid (wkY H k = k % (2 * H) ∧ wkD H k = 1) := hid (by simp [wkY, wkD, hp])
    have HW := hid hW
    have HH := hid hH
    clear hp hW hH
    go_enter Try.func79, Try.ntmps79
    go_wp2_with fail
    go_quiet (fail)
    clear t1
    go_wp2_with fail
    refine bodyPost_ret (v := .agg #[.int .i64 (k / (2 * H)), .int .i64 (k % (2 * H)), .int .i64 1, .int .i64 (1)]) (by simp [results, Try.results79, go_sem]) rfl ⟨ret_w rfl EY.out.1.symm rfl EY.out.2.symm, (by (repeat (with_reducible first | exact Below.refl _ _ | assumption | refine below_drewN ?_ _ | refine Below.drew ?_ | refine Below.alloc ?_ ?_ _ | refine Below.setCell ?_ ?_ _)); all_goals (first | omega | (simp only [size_drewN, World.size_alloc, World.size_setCell, World.size_drew] at *; omega) | (simp; done) | (simp; omega)))⟩
  · have hb : ((k / (2 * H) + k % (2 * H)) % 2 == 1) = false := by simp [hp]
    have EY : Hid (wkY H k = k % (2 * H) + 1 ∧ wkD H k = -1) := hid (by simp [wkY, wkD, hp])
    have HW := hid hW
    have HH := hid hH
    clear hp hW hH
    go_enter Try.func79, Try.ntmps79
    go_wp2_with fail
    go_quiet (fail)
    clear t1
    go_wp2_with fail
    refine bodyPost_ret (v := .agg #[.int .i64 (k / (2 * H)), .int .i64 (k % (2 * H) + 1), .int .i64 1, .int .i64 (-1)]) (by simp [results, Try.results79, go_sem]) rfl ⟨ret_w rfl EY.out.1.symm rfl EY.out.2.symm, (by (repeat (with_reducible first | exact Below.refl _ _ | assumption | refine below_drewN ?_ _ | refine Below.drew ?_ | refine Below.alloc ?_ ?_ _ | refine Below.setCell ?_ ?_ _)); all_goals (first | omega | (simp only [size_drewN, World.size_alloc, World.size_setCell, World.size_drew] at *; omega) | (simp; done) | (simp; omega)))⟩
set_option maxHeartbeats 1600000 in
theorem l03Walker_any (p : Nat) (W H k : Int) (s : Value) (w : World) (hp : PanP w p W H s) (hW : side W = true) (hH : side H = true) (h0 : 0 ≤ k) (hk : k < 4 * W * H) :
    Calls Try.prog 88 #[.pointer (some ⟨p, 0, none⟩), .int .i64 k] w fun e w' => e = .returned (.agg #[.int .i64 (wkX H k), .int .i64 (wkY H k), .int .i64 1, .int .i64 (wkD H k)]) ∧ Below w.heap.size w w' := by
  obtain ⟨q1, q2, r1, r2⟩ := wk_qr hW hH h0 hk
  obtain ⟨w1, w2⟩ := side_bd hW
  obtain ⟨w3, w4⟩ := side_bd hH
  obtain ⟨s1, s2⟩ := segs_bd hW hH
  obtain ⟨p0, p1, p2⟩ := Box.three hp
  have pz := PanP.lt hp
  clear hp
  have HW := hid hW
  have HH := hid hH
  clear hW hH
  by_cases hx : k / (2 * H) % 2 = 0
  · have hb : (k / (2 * H) % 2 == 0) = true := by simp [hx]
    have EY : Hid (k % (2 * H) / 2 * 2 + 1 = wkY H k ∧ 2 * (k % (2 * H) % 2) - 1 = wkD H k) := hid (by unfold wkY wkD; split <;> omega)
    clear hx
    go_enter Try.func88, Try.ntmps88
    go_wp2_with fail
    refine bodyPost_ret (v := .agg #[.int .i64 (k / (2 * H)), .int .i64 (k % (2 * H) / 2 * 2 + 1), .int .i64 1, .int .i64 (2 * (k % (2 * H) % 2) - 1)]) (by simp [results, Try.results88, go_sem]) rfl ⟨ret_w rfl EY.out.1 rfl EY.out.2, (by (repeat (with_reducible first | exact Below.refl _ _ | assumption | refine below_drewN ?_ _ | refine Below.drew ?_ | refine Below.alloc ?_ ?_ _ | refine Below.setCell ?_ ?_ _)); all_goals (first | omega | (simp only [size_drewN, World.size_alloc, World.size_setCell, World.size_drew] at *; omega) | (simp; done) | (simp; omega)))⟩
  · have hb : (k / (2 * H) % 2 == 0) = false := by simp [hx]
    have hm : k % (2 * H) % 2 = k % 2 := Int.emod_emod_of_dvd _ ⟨H, rfl⟩
    by_cases hr : k % 2 = 1
    · have hc : (k % 2 == 1) = true := by simp [hr]
      have EY : Hid ((k % (2 * H) + 1) / 2 * 2 = wkY H k ∧ -1 = wkD H k) := hid (by unfold wkY wkD; split <;> omega)
      clear hx hr hm
      go_enter Try.func88, Try.ntmps88
      go_wp2_with fail
      refine bodyPost_ret (v := .agg #[.int .i64 (k / (2 * H)), .int .i64 ((k % (2 * H) + 1) / 2 * 2), .int .i64 1, .int .i64 (-1)]) (by simp [results, Try.results88, go_sem]) rfl ⟨ret_w rfl EY.out.1 rfl EY.out.2, (by (repeat (with_reducible first | exact Below.refl _ _ | assumption | refine below_drewN ?_ _ | refine Below.drew ?_ | refine Below.alloc ?_ ?_ _ | refine Below.setCell ?_ ?_ _)); all_goals (first | omega | (simp only [size_drewN, World.size_alloc, World.size_setCell, World.size_drew] at *; omega) | (simp; done) | (simp; omega)))⟩
    · have hc : (k % 2 == 1) = false := by simp [hr]
      have EY : Hid ((k % (2 * H) + 1) / 2 * 2 = wkY H k ∧ 1 = wkD H k) := hid (by unfold wkY wkD; split <;> omega)
      clear hx hr hm
      go_enter Try.func88, Try.ntmps88
      go_wp2_with fail
      refine bodyPost_ret (v := .agg #[.int .i64 (k / (2 * H)), .int .i64 ((k % (2 * H) + 1) / 2 * 2), .int .i64 1, .int .i64 1]) (by simp [results, Try.results88, go_sem]) rfl ⟨ret_w rfl EY.out.1 rfl EY.out.2, (by (repeat (with_reducible first | exact Below.refl _ _ | assumption | refine below_drewN ?_ _ | refine Below.drew ?_ | refine Below.alloc ?_ ?_ _ | refine Below.setCell ?_ ?_ _)); all_goals (first | omega | (simp only [size_drewN, World.size_alloc, World.size_setCell, World.size_drew] at *; omega) | (simp; done) | (simp; omega)))⟩
end Go.Proofs.Ytbgigompkmnapaa

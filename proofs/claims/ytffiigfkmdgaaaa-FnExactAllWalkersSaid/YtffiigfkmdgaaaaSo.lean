/- Segments of walkers. -/
import Derived.Test.YtffiigfkmdgaaaaCs
import Derived.Test.YtffiigfkmdgaaaaVk
import Derived.Deep.RegionHeld3
namespace Go.Proofs.Ytffiigfkmdgaaaa
set_option linter.unusedSimpArgs false
set_option linter.unusedVariables false
open Go.ChangeShapes Go.WideShapes Go.ChangeAt Go.RowKit
/-- The number of a walker's segment. -/
def sgF (H x y dx dy : Int) : Int := (if dx = 1 then x else x + -1) * 2 * H + (if dy = 1 then y else y + -1)
theorem signB_cases {n : Int} (h : signB n = true) : n = 1 ∨ n = -1 := by
  simpa [signB] using h
theorem walk_parts {W H x y dx dy : Int} (h : walkB W H x y dx dy = true) : (dx = 1 ∨ dx = -1) ∧ (dy = 1 ∨ dy = -1) ∧ hasP W H x y = true ∧ hasP W H (x + dx) (y + dy) = true := by
  simp only [walkB, Bool.and_eq_true] at h
  exact ⟨signB_cases h.1, signB_cases h.2.1, h.2.2.1, h.2.2.2⟩
theorem mul_bd {H u : Int} (h : side H = true) (u1 : 0 ≤ u) (u2 : u ≤ 16) : 0 ≤ u * 2 * H ∧ u * 2 * H ≤ 256 := by
  rcases side_cases h with rfl | rfl | rfl | rfl | rfl | rfl | rfl | rfl <;> omega
/-- A valid walker's segment is one of the panel's. -/
theorem sgF_bd {W H x y dx dy : Int} (hW : side W = true) (hH : side H = true) (h : walkB W H x y dx dy = true) : 0 ≤ sgF H x y dx dy ∧ sgF H x y dx dy < 4 * W * H := by
  obtain ⟨h1, h2, h3, h4⟩ := walk_parts h
  obtain ⟨x1, x2, y1, y2⟩ := hasP_bd h3
  obtain ⟨x3, x4, y3, y4⟩ := hasP_bd h4
  unfold sgF
  rcases side_cases hH with rfl | rfl | rfl | rfl | rfl | rfl | rfl | rfl <;> rcases h1 with rfl | rfl <;> rcases h2 with rfl | rfl <;> simp <;> omega

set_option maxHeartbeats 1600000 in
theorem segment_any (W H x y dx dy : Int) (A : Option Addr) (n c : Nat) (w : World) (hW : side W = true) (hH : side H = true) (h : walkB W H x y dx dy = true) :
    Calls Try.prog 80 #[.agg #[.int .i64 W, .int .i64 H, .slice A n c], .agg #[.int .i64 x, .int .i64 y, .int .i64 dx, .int .i64 dy]] w fun e w' => e = .returned (.int .i64 (sgF H x y dx dy)) ∧ Below w.heap.size w w' := by
  have HF : Hid (sgF H x y dx dy = sgF H x y dx dy) := hid rfl
  obtain ⟨h1, h2, h3, h4⟩ := walk_parts h
  obtain ⟨x1, x2, y1, y2⟩ := hasP_bd h3
  obtain ⟨x3, x4, y3, y4⟩ := hasP_bd h4
  obtain ⟨w1, w2⟩ := side_bd hW
  obtain ⟨w3, w4⟩ := side_bd hH
  clear h h3 h4 HF
  rcases h1 with rfl | rfl
  · obtain ⟨m1, m2⟩ := mul_bd hH (u := x) (by omega) (by omega)
    have HW := hid hW
    have HH := hid hH
    clear hW hH
    rcases h2 with rfl | rfl
    · go_enter Try.func80, Try.ntmps80
      go_wp2_with fail
      refine (next_any x y (1) (1) _ (by omega) (by omega) (by omega) (by omega) (by omega) (by omega) (by omega) (by omega)).mono ?_
      rintro e w1 ⟨rfl, hb1⟩
      have KP1 : Hid (Box w1 (w.heap.size) 30 #[.int .i64 W, .int .i64 H, .slice A n c]) := hid (Box.keep (Box.alloc (Box.new' _ _ _ _ (by simp)) _) hb1)
      have KK1 : Hid (Box w1 (w.heap.size + 1) 44 #[.int .i64 x, .int .i64 y, .int .i64 1, .int .i64 1]) := hid (Box.keep (Box.new' _ _ _ _ (by simp)) hb1)
      have HB1 : Hid (Below w.heap.size w w1) := hid (bstep (bal (bal (Below.refl _ _) _) _) hb1)
      clear hb1
      obtain ⟨Pa, Pb, Pc⟩ := KP1.out.three
      have Pz := KP1.out.lt
      obtain ⟨Ka, Kb, Kc, Kd⟩ := KK1.out.four
      have Kz := KK1.out.lt
      go_wp2_with fail
      go_ret
      exact ⟨ret_int (by simp [sgF] <;> omega), (bal (HB1.out) _)⟩
    · go_enter Try.func80, Try.ntmps80
      go_wp2_with fail
      refine (next_any x y (1) (-1) _ (by omega) (by omega) (by omega) (by omega) (by omega) (by omega) (by omega) (by omega)).mono ?_
      rintro e w1 ⟨rfl, hb1⟩
      have KP1 : Hid (Box w1 (w.heap.size) 30 #[.int .i64 W, .int .i64 H, .slice A n c]) := hid (Box.keep (Box.alloc (Box.new' _ _ _ _ (by simp)) _) hb1)
      have KK1 : Hid (Box w1 (w.heap.size + 1) 44 #[.int .i64 x, .int .i64 y, .int .i64 1, .int .i64 (-1)]) := hid (Box.keep (Box.new' _ _ _ _ (by simp)) hb1)
      have HB1 : Hid (Below w.heap.size w w1) := hid (bstep (bal (bal (Below.refl _ _) _) _) hb1)
      clear hb1
      obtain ⟨Pa, Pb, Pc⟩ := KP1.out.three
      have Pz := KP1.out.lt
      obtain ⟨Ka, Kb, Kc, Kd⟩ := KK1.out.four
      have Kz := KK1.out.lt
      go_wp2_with fail
      go_ret
      exact ⟨ret_int (by simp [sgF] <;> omega), (bal (HB1.out) _)⟩
  · obtain ⟨m1, m2⟩ := mul_bd hH (u := x + -1) (by omega) (by omega)
    have HW := hid hW
    have HH := hid hH
    clear hW hH
    rcases h2 with rfl | rfl
    · go_enter Try.func80, Try.ntmps80
      go_wp2_with fail
      refine (next_any x y (-1) (1) _ (by omega) (by omega) (by omega) (by omega) (by omega) (by omega) (by omega) (by omega)).mono ?_
      rintro e w1 ⟨rfl, hb1⟩
      have KP1 : Hid (Box w1 (w.heap.size) 30 #[.int .i64 W, .int .i64 H, .slice A n c]) := hid (Box.keep (Box.alloc (Box.new' _ _ _ _ (by simp)) _) hb1)
      have KK1 : Hid (Box w1 (w.heap.size + 1) 44 #[.int .i64 x, .int .i64 y, .int .i64 (-1), .int .i64 1]) := hid (Box.keep (Box.new' _ _ _ _ (by simp)) hb1)
      have HB1 : Hid (Below w.heap.size w w1) := hid (bstep (bal (bal (Below.refl _ _) _) _) hb1)
      clear hb1
      obtain ⟨Pa, Pb, Pc⟩ := KP1.out.three
      have Pz := KP1.out.lt
      obtain ⟨Ka, Kb, Kc, Kd⟩ := KK1.out.four
      have Kz := KK1.out.lt
      go_wp2_with fail
      go_ret
      exact ⟨ret_int (by simp [sgF] <;> omega), (bal (HB1.out) _)⟩
    · go_enter Try.func80, Try.ntmps80
      go_wp2_with fail
      refine (next_any x y (-1) (-1) _ (by omega) (by omega) (by omega) (by omega) (by omega) (by omega) (by omega) (by omega)).mono ?_
      rintro e w1 ⟨rfl, hb1⟩
      have KP1 : Hid (Box w1 (w.heap.size) 30 #[.int .i64 W, .int .i64 H, .slice A n c]) := hid (Box.keep (Box.alloc (Box.new' _ _ _ _ (by simp)) _) hb1)
      have KK1 : Hid (Box w1 (w.heap.size + 1) 44 #[.int .i64 x, .int .i64 y, .int .i64 (-1), .int .i64 (-1)]) := hid (Box.keep (Box.new' _ _ _ _ (by simp)) hb1)
      have HB1 : Hid (Below w.heap.size w w1) := hid (bstep (bal (bal (Below.refl _ _) _) _) hb1)
      clear hb1
      obtain ⟨Pa, Pb, Pc⟩ := KP1.out.three
      have Pz := KP1.out.lt
      obtain ⟨Ka, Kb, Kc, Kd⟩ := KK1.out.four
      have Kz := KK1.out.lt
      go_wp2_with fail
      go_ret
      exact ⟨ret_int (by simp [sgF] <;> omega), (bal (HB1.out) _)⟩
def lfX (x dx : Int) : Int := if dx = 1 then x else x + -1
def lfY (y dx dy : Int) : Int := if dx = 1 then y else y + dy
def lfZ (y dx dy : Int) : Int := if dx = 1 then y + dy else y
theorem ret_q2' {a b c a' b' c' : Int} (h : a = a') (k : b = b') (l : c = c') : Ending.returned (.tuple #[.agg #[.int .i64 a, .int .i64 b], .int .i64 c]) = .returned (.tuple #[.agg #[.int .i64 a', .int .i64 b'], .int .i64 c']) := by rw [h, k, l]
/-- What a panel and a walker are: 0 or 1. -/
def codeW (W H : Int) (zs : List Int) (x y dx dy : Int) : Int := if validWB W H zs x y dx dy then 0 else 1
set_option maxHeartbeats 800000 in
theorem l03Code_any (p : Nat) (W H : Int) (A : Option Addr) (c : Nat) (zs : List Int) (x y dx dy : Int) (w : World) (B : Nat) (hB : B ≤ w.heap.size) (hpp : PanP w p W H (.slice A zs.length c)) (hz : Ints w B A zs) (hl : zs.length ≤ maxLen) :
    Calls Try.prog 77 #[.pointer (some ⟨p, 0, none⟩), .agg #[.int .i64 x, .int .i64 y, .int .i64 dx, .int .i64 dy]] w fun e w' => e = .returned (.int .i64 (codeW W H zs x y dx dy)) ∧ Below w.heap.size w w' := by
  have HPP := hid hpp
  clear hpp
  cases hv : validB W H zs
  · have HV : Hid (codeW W H zs x y dx dy = 1) := hid (by simp [codeW, validWB, hv])
    have Hv := hid hv
    clear hv
    go_enter Try.func77, Try.ntmps77
    go_wp2_with fail
    refine (qb (calls_bool (l02Ok_any _ W H A c zs _ B (Box.alloc (HPP.out) _) (hz.below (Below.mono (bal (Below.refl _ _) _) hB)) hl) Hv.out)).mono ?_
    rintro e w1 ⟨rfl, hb1⟩
    have KK1 : Hid (Box w1 (w.heap.size) 44 #[.int .i64 x, .int .i64 y, .int .i64 dx, .int .i64 dy]) := hid (Box.keep (Box.new' _ _ _ _ (by simp)) hb1)
    have KP1 : Hid (Box w1 (p) 30 #[.int .i64 W, .int .i64 H, .slice A zs.length c]) := hid (Box.keep (Box.alloc (HPP.out) _) hb1)
    have HB1 : Hid (Below w.heap.size w w1) := hid (bstep (bal (Below.refl _ _) _) hb1)
    clear hb1
    obtain ⟨Ka, Kb, Kc, Kd⟩ := KK1.out.four
    have Kz := KK1.out.lt
    obtain ⟨Pa, Pb, Pc⟩ := KP1.out.three
    have Pz := KP1.out.lt
    go_wp2_with fail
    go_ret
    exact ⟨ret_int HV.out.symm, (HB1.out)⟩
  · have Hs := hid (valid_sides hv)
    cases hh : walkB W H x y dx dy
    · have HV : Hid (codeW W H zs x y dx dy = 1) := hid (by simp [codeW, validWB, hv, hh])
      have Hv := hid hv
      have Hh := hid hh
      clear hv hh
      go_enter Try.func77, Try.ntmps77
      go_wp2_with fail
      refine (qb (calls_bool (l02Ok_any _ W H A c zs _ B (Box.alloc (HPP.out) _) (hz.below (Below.mono (bal (Below.refl _ _) _) hB)) hl) Hv.out)).mono ?_
      rintro e w1 ⟨rfl, hb1⟩
      have KK1 : Hid (Box w1 (w.heap.size) 44 #[.int .i64 x, .int .i64 y, .int .i64 dx, .int .i64 dy]) := hid (Box.keep (Box.new' _ _ _ _ (by simp)) hb1)
      have KP1 : Hid (Box w1 (p) 30 #[.int .i64 W, .int .i64 H, .slice A zs.length c]) := hid (Box.keep (Box.alloc (HPP.out) _) hb1)
      have HB1 : Hid (Below w.heap.size w w1) := hid (bstep (bal (Below.refl _ _) _) hb1)
      clear hb1
      obtain ⟨Ka, Kb, Kc, Kd⟩ := KK1.out.four
      have Kz := KK1.out.lt
      obtain ⟨Pa, Pb, Pc⟩ := KP1.out.three
      have Pz := KP1.out.lt
      go_wp2_with fail
      refine (calls_bool (l03Ok_any _ W H x y dx dy _ _ (KP1.out) Hs.out.1 Hs.out.2) Hh.out).mono ?_
      rintro e w2 ⟨rfl, hb2⟩
      clear Ka Kb Kc Kd Kz Pa Pb Pc Pz
      have KK2 : Hid (Box w2 (w.heap.size) 44 #[.int .i64 x, .int .i64 y, .int .i64 dx, .int .i64 dy]) := hid (Box.keep (KK1.out) hb2)
      have KP2 : Hid (Box w2 (p) 30 #[.int .i64 W, .int .i64 H, .slice A zs.length c]) := hid (Box.keep (KP1.out) hb2)
      have HB2 : Hid (Below w.heap.size w w2) := hid (bstep (HB1.out) hb2)
      clear hb2
      obtain ⟨Ka, Kb, Kc, Kd⟩ := KK2.out.four
      have Kz := KK2.out.lt
      obtain ⟨Pa, Pb, Pc⟩ := KP2.out.three
      have Pz := KP2.out.lt
      go_wp2_with fail
      go_ret
      exact ⟨ret_int HV.out.symm, (HB2.out)⟩
    · have HV : Hid (codeW W H zs x y dx dy = 0) := hid (by simp [codeW, validWB, hv, hh])
      have Hv := hid hv
      have Hh := hid hh
      clear hv hh
      go_enter Try.func77, Try.ntmps77
      go_wp2_with fail
      refine (qb (calls_bool (l02Ok_any _ W H A c zs _ B (Box.alloc (HPP.out) _) (hz.below (Below.mono (bal (Below.refl _ _) _) hB)) hl) Hv.out)).mono ?_
      rintro e w1 ⟨rfl, hb1⟩
      have KK1 : Hid (Box w1 (w.heap.size) 44 #[.int .i64 x, .int .i64 y, .int .i64 dx, .int .i64 dy]) := hid (Box.keep (Box.new' _ _ _ _ (by simp)) hb1)
      have KP1 : Hid (Box w1 (p) 30 #[.int .i64 W, .int .i64 H, .slice A zs.length c]) := hid (Box.keep (Box.alloc (HPP.out) _) hb1)
      have HB1 : Hid (Below w.heap.size w w1) := hid (bstep (bal (Below.refl _ _) _) hb1)
      clear hb1
      obtain ⟨Ka, Kb, Kc, Kd⟩ := KK1.out.four
      have Kz := KK1.out.lt
      obtain ⟨Pa, Pb, Pc⟩ := KP1.out.three
      have Pz := KP1.out.lt
      go_wp2_with fail
      refine (calls_bool (l03Ok_any _ W H x y dx dy _ _ (KP1.out) Hs.out.1 Hs.out.2) Hh.out).mono ?_
      rintro e w2 ⟨rfl, hb2⟩
      clear Ka Kb Kc Kd Kz Pa Pb Pc Pz
      have KK2 : Hid (Box w2 (w.heap.size) 44 #[.int .i64 x, .int .i64 y, .int .i64 dx, .int .i64 dy]) := hid (Box.keep (KK1.out) hb2)
      have KP2 : Hid (Box w2 (p) 30 #[.int .i64 W, .int .i64 H, .slice A zs.length c]) := hid (Box.keep (KP1.out) hb2)
      have HB2 : Hid (Below w.heap.size w w2) := hid (bstep (HB1.out) hb2)
      clear hb2
      obtain ⟨Ka, Kb, Kc, Kd⟩ := KK2.out.four
      have Kz := KK2.out.lt
      obtain ⟨Pa, Pb, Pc⟩ := KP2.out.three
      have Pz := KP2.out.lt
      go_wp2_with fail
      go_ret
      exact ⟨ret_int HV.out.symm, (HB2.out)⟩
end Go.Proofs.Ytffiigfkmdgaaaa

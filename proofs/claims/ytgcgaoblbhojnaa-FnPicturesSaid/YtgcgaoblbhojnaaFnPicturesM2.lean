/- Merged texts: Pf, Tl, Qt, Tx, Pl. -/
import Derived.Test.YtgcgaoblbhojnaaSz
import Derived.Test.YtgcgaoblbhojnaaPe
import Derived.Test.YtgcgaoblbhojnaaNp
import Derived.Test.YtgcgaoblbhojnaaFnPicturesM1
import Derived.Test.YtgcgaoblbhojnaaAu
import Derived.Test.YtgcgaoblbhojnaaLp
import Derived.Lib.ConvBytes
import Derived.Lib.FrozenHead
import Derived.Test.YtgcgaoblbhojnaaQm
import Derived.StillTail
import Derived.Test.YtgcgaoblbhojnaaPs
namespace Go.Proofs.Ytgcgaoblbhojnaa
set_option linter.unusedSimpArgs false
set_option linter.unusedVariables false
open Go.ChangeShapes Go.WideShapes Go.ChangeAt Go.RowKit
/-- The kind of a mark; -1: none. -/
def kdF (b : Int) : Int := if b = 43 then 0 else if b = 124 then 1 else if b = 45 then 2 else -1
theorem kdF_bd (b : Int) : -1 ≤ kdF b ∧ kdF b ≤ 2 := by unfold kdF; repeat (split <;> try omega)
/-- The fault of a byte at a place. -/
def chF (W H x y b : Int) : Int := if hasP W H x y = true then (if edgeP W H x y = true then (if b = 46 then 0 else 4) else (if kdF b < 0 then 3 else 0)) else (if b = 32 then 0 else 5)
def goodB (n : Nat) : Bool := decide (n % 2 = 1) && inR n 3 17
theorem good_bd {n : Nat} (h : goodB n = true) : n % 2 = 1 ∧ 3 ≤ n ∧ n ≤ 17 := by simp [goodB, inR] at h; omega
theorem good_side {n : Nat} (h : goodB n = true) : side ((n : Int) / 2) = true := by have := good_bd h; simp [side, inR]; omega
theorem good_not {n : Nat} (h : goodB n = false) : (n : Int) % 2 = 0 ∨ ((n : Int) % 2 = 1 ∧ side ((n : Int) / 2) = false) := by
  simp [goodB, inR] at h
  by_cases h2 : n % 2 = 1
  · right
    refine ⟨by omega, ?_⟩
    have := h h2
    simp [side, inR]
    omega
  · left; omega
/-- The first fault of a line. -/
def rowFlt (W H y : Int) : List Int → Nat → Option (Int × Nat)
  | [], _ => none
  | b :: bs, x => if chF W H x y b = 0 then rowFlt W H y bs (x + 1) else some (chF W H x y b, x)
/-- The first fault of lines. -/
def linFlt (W H : Int) (m : Nat) : List ByteArray → Nat → Option (Int × Nat × Nat)
  | [], _ => none
  | l :: ls, y => if l.size = m then (match rowFlt W H y (byteL l) 0 with | some (k, x) => some (k, y, x) | none => linFlt W H m ls (y + 1)) else some (2, y, 0)
def trip : Option (Int × Nat × Nat) → Int × Int × Int
  | none => (0, 0, 0)
  | some (k, y, x) => (k, y, x)
def fsz (ss : List ByteArray) : Nat := (ss.headD ⟨#[]⟩).size
def pfF (ss : List ByteArray) : Int × Int × Int := if goodB ss.length = true then (if goodB (fsz ss) = true then trip (linFlt ((fsz ss : Int) / 2) ((ss.length : Int) / 2) (fsz ss) ss 0) else (1, 0, 0)) else (1, 0, 0)
theorem rowFlt_step {W H y : Int} {bs : List Int} {x : Nat} {b : Int} (h : bs[x]? = some b) : rowFlt W H y (bs.drop x) x = if chF W H x y b = 0 then rowFlt W H y (bs.drop (x + 1)) (x + 1) else some (chF W H x y b, x) := by
  obtain ⟨hx, rfl⟩ := List.getElem?_eq_some_iff.1 h
  rw [List.drop_eq_getElem_cons hx, rowFlt]
theorem rowFlt_end {W H y : Int} {bs : List Int} {x : Nat} (h : bs.length ≤ x) : rowFlt W H y (bs.drop x) x = none := by rw [List.drop_eq_nil_of_le h]; rfl
theorem linFlt_step {W H : Int} {m : Nat} {ls : List ByteArray} {y : Nat} {l : ByteArray} (h : ls[y]? = some l) : linFlt W H m (ls.drop y) y = if l.size = m then (match rowFlt W H y (byteL l) 0 with | some (k, x) => some (k, y, x) | none => linFlt W H m (ls.drop (y + 1)) (y + 1)) else some (2, y, 0) := by
  obtain ⟨hy, rfl⟩ := List.getElem?_eq_some_iff.1 h
  rw [List.drop_eq_getElem_cons hy, linFlt]
theorem linFlt_end {W H : Int} {m : Nat} {ls : List ByteArray} {y : Nat} (h : ls.length ≤ y) : linFlt W H m (ls.drop y) y = none := by rw [List.drop_eq_nil_of_le h]; rfl
theorem lin_bad {W H : Int} {m : Nat} {ls : List ByteArray} {y : Nat} {l : ByteArray} {R : Option (Int × Nat × Nat)} (h : ls[y]? = some l) (hR : linFlt W H m (ls.drop y) y = R) (hs : ¬ l.size = m) : R = some (2, y, 0) := by
  rw [← hR, linFlt_step h, if_neg hs]
theorem lin_row {W H : Int} {m : Nat} {ls : List ByteArray} {y : Nat} {l : ByteArray} {R : Option (Int × Nat × Nat)} {k : Int} {x : Nat} (h : ls[y]? = some l) (hR : linFlt W H m (ls.drop y) y = R) (hs : l.size = m) (hr : rowFlt W H y (byteL l) 0 = some (k, x)) : R = some (k, y, x) := by
  rw [← hR, linFlt_step h, if_pos hs, hr]
theorem lin_next {W H : Int} {m : Nat} {ls : List ByteArray} {y : Nat} {l : ByteArray} {R : Option (Int × Nat × Nat)} (h : ls[y]? = some l) (hR : linFlt W H m (ls.drop y) y = R) (hs : l.size = m) (hr : rowFlt W H y (byteL l) 0 = none) : linFlt W H m (ls.drop (y + 1)) (y + 1) = R := by
  rw [← hR, linFlt_step h, if_pos hs, hr]
theorem ret_i3 {a b c d e f : Int} (h : a = d) (k : b = e) (l : c = f) : Ending.returned (.tuple #[.int .i64 a, .int .i64 b, .int .i64 c]) = .returned (.tuple #[.int .i64 d, .int .i64 e, .int .i64 f]) := by rw [h, k, l]
set_option maxHeartbeats 1000000 in
theorem markKind_any (b : Int) (w : World) : Calls Try.prog 64 #[.int .u8 b] w fun e w' => e = .returned (.int .i64 (kdF b)) ∧ w = w' := by
  go_enter Try.func64, Try.ntmps64
  go_wp2_with fail
  go_loopg [4] 3 (fun g i wr => ∃ k : Int, 0 ≤ k ∧ k ≤ 3 ∧ i = .int .i64 k ∧ g = (3 - k).toNat ∧ Hid (1 ≤ k → ¬ b = 43) ∧ Hid (2 ≤ k → ¬ b = 124) ∧ Hid (3 ≤ k → ¬ b = 45) ∧ w = wr)
  case atStart => exact ⟨0, by omega, by omega, rfl, rfl, hid (by omega), hid (by omega), hid (by omega), rfl⟩
  case round =>
    obtain ⟨k, k0, k3, rfl, hg, h1, h2, h3, rfl⟩ := hrel
    rcases (by omega : k = 0 ∨ k = 1 ∨ k = 2 ∨ k = 3) with rfl | rfl | rfl | rfl
    · by_cases hb : b = 43
      · have HV : Hid (kdF b = 0) := hid (by simp [kdF, hb])
        have hbb : ((((⟨#[43, 124, 45]⟩ : ByteArray)[0]'(by decide)).toNat : Int) == b) = true := by rw [hb]; rfl
        clear hb
        go_wp2_with fail
        go_ret
        exact ⟨ret_int HV.out.symm, rfl⟩
      · have hbb : ((((⟨#[43, 124, 45]⟩ : ByteArray)[0]'(by decide)).toNat : Int) == b) = false := by (have h0 : (((⟨#[43, 124, 45]⟩ : ByteArray)[0]'(by decide)).toNat : Int) = 43 := rfl); rw [h0]; simp; omega
        have HB := hid hb
        clear hb
        go_wp2_with fail
        go_roundg 2
        case measure => omega
        case rel => exact ⟨1, by omega, by omega, rfl, rfl, hid (fun _ => HB.out), hid (by omega), hid (by omega), rfl⟩
    · by_cases hb : b = 124
      · have HV : Hid (kdF b = 1) := hid (by simp [kdF, hb])
        have hbb : ((((⟨#[43, 124, 45]⟩ : ByteArray)[1]'(by decide)).toNat : Int) == b) = true := by rw [hb]; rfl
        clear hb
        go_wp2_with fail
        go_ret
        exact ⟨ret_int HV.out.symm, rfl⟩
      · have hbb : ((((⟨#[43, 124, 45]⟩ : ByteArray)[1]'(by decide)).toNat : Int) == b) = false := by (have h0 : (((⟨#[43, 124, 45]⟩ : ByteArray)[1]'(by decide)).toNat : Int) = 124 := rfl); rw [h0]; simp; omega
        have HB := hid hb
        clear hb
        go_wp2_with fail
        go_roundg 1
        case measure => omega
        case rel => exact ⟨2, by omega, by omega, rfl, rfl, hid (fun _ => h1.out (by omega)), hid (fun _ => HB.out), hid (by omega), rfl⟩
    · by_cases hb : b = 45
      · have HV : Hid (kdF b = 2) := hid (by simp [kdF, hb])
        have hbb : ((((⟨#[43, 124, 45]⟩ : ByteArray)[2]'(by decide)).toNat : Int) == b) = true := by rw [hb]; rfl
        clear hb
        go_wp2_with fail
        go_ret
        exact ⟨ret_int HV.out.symm, rfl⟩
      · have hbb : ((((⟨#[43, 124, 45]⟩ : ByteArray)[2]'(by decide)).toNat : Int) == b) = false := by (have h0 : (((⟨#[43, 124, 45]⟩ : ByteArray)[2]'(by decide)).toNat : Int) = 45 := rfl); rw [h0]; simp; omega
        have HB := hid hb
        clear hb
        go_wp2_with fail
        go_roundg 0
        case measure => omega
        case rel => exact ⟨3, by omega, by omega, rfl, rfl, hid (fun _ => h1.out (by omega)), hid (fun _ => h2.out (by omega)), hid (fun _ => HB.out), rfl⟩
    · have HV : Hid (kdF b = -1) := hid (by unfold kdF; rw [if_neg (h1.out (by omega)), if_neg (h2.out (by omega)), if_neg (h3.out (by omega))])
      go_wp2_with fail
      go_ret
      exact ⟨ret_int HV.out.symm, rfl⟩
set_option maxHeartbeats 1000000 in
theorem l05Kind_any (b : Int) (w : World) : Calls Try.prog 83 #[.int .u8 b] w fun e w' => e = .returned (.int .i64 (kdF b)) ∧ w = w' := by
  by_cases h1 : b = 43
  · subst h1
    go_enter Try.func83, Try.ntmps83
    go_wp2_with fail
    go_ret
    exact ⟨rfl, rfl⟩
  have e1 : (b == 43) = false := by simp; omega
  by_cases h2 : b = 124
  · subst h2
    go_enter Try.func83, Try.ntmps83
    go_wp2_with fail
    go_ret
    exact ⟨rfl, rfl⟩
  have e2 : (b == 124) = false := by simp; omega
  by_cases h3 : b = 45
  · subst h3
    go_enter Try.func83, Try.ntmps83
    go_wp2_with fail
    go_ret
    exact ⟨rfl, rfl⟩
  have e3 : (b == 45) = false := by simp; omega
  have HV : Hid (kdF b = -1) := hid (by unfold kdF; rw [if_neg h1, if_neg h2, if_neg h3])
  clear h1 h2 h3
  go_enter Try.func83, Try.ntmps83
  go_wp2_with fail
  go_ret
  exact ⟨ret_int HV.out.symm, rfl⟩
set_option maxHeartbeats 1000000 in
theorem l05Char_any (p : Nat) (W H x y b : Int) (s : Value) (w : World) (hp : PanP w p W H s) (hW : side W = true) (hH : side H = true) :
    Calls Try.prog 101 #[.pointer (some ⟨p, 0, none⟩), .agg #[.int .i64 x, .int .i64 y], .int .u8 b] w fun e w' => e = .returned (.int .i64 (chF W H x y b)) ∧ Below w.heap.size w w' := by
  have HP := hid hp
  have HW := hid hW
  have HH := hid hH
  clear hp hW hH
  cases hh : hasP W H x y
  · by_cases hb : b = 32
    · have HV : Hid (chF W H x y b = 0) := hid (by simp [chF, hh, hb])
      have hbn : (b != 32) = false := by simp [hb]
      have hh := hid hh
      clear hb
      go_enter Try.func101, Try.ntmps101
      go_wp2_with fail
      refine (calls_bool (l02Has_any _ W H x y _ _ (HP.out.alloc _) HW.out HH.out) hh.out).mono ?_
      rintro e w1 ⟨rfl, hb1⟩
      have KP1 := hid (Box.keep (Box.alloc HP.out _) hb1)
      have KQ1 := hid (Box.keep (Box.new w _ _) hb1)
      have HB1 := hid (bstep (bal (Below.refl _ _) _) hb1)
      clear hb1
      obtain ⟨Qa, Qb⟩ := KQ1.out.two
      have Qz := KQ1.out.lt
      go_wp2_with fail
      go_ret
      exact ⟨ret_int HV.out.symm, HB1.out⟩
    · have HV : Hid (chF W H x y b = 5) := hid (by simp [chF, hh, hb])
      have hbn : (b != 32) = true := by simp [hb]
      have hh := hid hh
      clear hb
      go_enter Try.func101, Try.ntmps101
      go_wp2_with fail
      refine (calls_bool (l02Has_any _ W H x y _ _ (HP.out.alloc _) HW.out HH.out) hh.out).mono ?_
      rintro e w1 ⟨rfl, hb1⟩
      have KP1 := hid (Box.keep (Box.alloc HP.out _) hb1)
      have KQ1 := hid (Box.keep (Box.new w _ _) hb1)
      have HB1 := hid (bstep (bal (Below.refl _ _) _) hb1)
      clear hb1
      obtain ⟨Qa, Qb⟩ := KQ1.out.two
      have Qz := KQ1.out.lt
      go_wp2_with fail
      go_ret
      exact ⟨ret_int HV.out.symm, HB1.out⟩
  · cases he : edgeP W H x y
    · by_cases hb : kdF b < 0
      · have HV : Hid (chF W H x y b = 3) := hid (by simp [chF, hh, he, hb])
        have hh := hid hh
        have he := hid he
        go_enter Try.func101, Try.ntmps101
        go_wp2_with fail
        refine (calls_bool (l02Has_any _ W H x y _ _ (HP.out.alloc _) HW.out HH.out) hh.out).mono ?_
        rintro e w1 ⟨rfl, hb1⟩
        have KP1 := hid (Box.keep (Box.alloc HP.out _) hb1)
        have KQ1 := hid (Box.keep (Box.new w _ _) hb1)
        have HB1 := hid (bstep (bal (Below.refl _ _) _) hb1)
        clear hb1
        obtain ⟨Qa, Qb⟩ := KQ1.out.two
        have Qz := KQ1.out.lt
        go_wp2_with fail
        refine (calls_bool (l02Edge_any _ W H x y _ _ KP1.out HW.out HH.out) he.out).mono ?_
        rintro e w2 ⟨rfl, hb2⟩
        have HB2 := hid (bstep HB1.out hb2)
        clear hb2 Qa Qb Qz
        go_wp2_with fail
        refine (l05Kind_any b _).mono ?_
        rintro e w' ⟨rfl, rfl⟩
        go_wp2_with fail
        go_ret
        exact ⟨ret_int HV.out.symm, HB2.out⟩
      · have HV : Hid (chF W H x y b = 0) := hid (by simp [chF, hh, he, hb])
        have hh := hid hh
        have he := hid he
        go_enter Try.func101, Try.ntmps101
        go_wp2_with fail
        refine (calls_bool (l02Has_any _ W H x y _ _ (HP.out.alloc _) HW.out HH.out) hh.out).mono ?_
        rintro e w1 ⟨rfl, hb1⟩
        have KP1 := hid (Box.keep (Box.alloc HP.out _) hb1)
        have KQ1 := hid (Box.keep (Box.new w _ _) hb1)
        have HB1 := hid (bstep (bal (Below.refl _ _) _) hb1)
        clear hb1
        obtain ⟨Qa, Qb⟩ := KQ1.out.two
        have Qz := KQ1.out.lt
        go_wp2_with fail
        refine (calls_bool (l02Edge_any _ W H x y _ _ KP1.out HW.out HH.out) he.out).mono ?_
        rintro e w2 ⟨rfl, hb2⟩
        have HB2 := hid (bstep HB1.out hb2)
        clear hb2 Qa Qb Qz
        go_wp2_with fail
        refine (l05Kind_any b _).mono ?_
        rintro e w' ⟨rfl, rfl⟩
        go_wp2_with fail
        go_ret
        exact ⟨ret_int HV.out.symm, HB2.out⟩
    · by_cases hb : b = 46
      · have HV : Hid (chF W H x y b = 0) := hid (by simp [chF, hh, he, hb])
        have hbn : (b != 46) = false := by simp [hb]
        have hh := hid hh
        have he := hid he
        clear hb
        go_enter Try.func101, Try.ntmps101
        go_wp2_with fail
        refine (calls_bool (l02Has_any _ W H x y _ _ (HP.out.alloc _) HW.out HH.out) hh.out).mono ?_
        rintro e w1 ⟨rfl, hb1⟩
        have KP1 := hid (Box.keep (Box.alloc HP.out _) hb1)
        have KQ1 := hid (Box.keep (Box.new w _ _) hb1)
        have HB1 := hid (bstep (bal (Below.refl _ _) _) hb1)
        clear hb1
        obtain ⟨Qa, Qb⟩ := KQ1.out.two
        have Qz := KQ1.out.lt
        go_wp2_with fail
        refine (calls_bool (l02Edge_any _ W H x y _ _ KP1.out HW.out HH.out) he.out).mono ?_
        rintro e w2 ⟨rfl, hb2⟩
        have HB2 := hid (bstep HB1.out hb2)
        clear hb2 Qa Qb Qz
        go_wp2_with fail
        go_ret
        exact ⟨ret_int HV.out.symm, HB2.out⟩
      · have HV : Hid (chF W H x y b = 4) := hid (by simp [chF, hh, he, hb])
        have hbn : (b != 46) = true := by simp [hb]
        have hh := hid hh
        have he := hid he
        clear hb
        go_enter Try.func101, Try.ntmps101
        go_wp2_with fail
        refine (calls_bool (l02Has_any _ W H x y _ _ (HP.out.alloc _) HW.out HH.out) hh.out).mono ?_
        rintro e w1 ⟨rfl, hb1⟩
        have KP1 := hid (Box.keep (Box.alloc HP.out _) hb1)
        have KQ1 := hid (Box.keep (Box.new w _ _) hb1)
        have HB1 := hid (bstep (bal (Below.refl _ _) _) hb1)
        clear hb1
        obtain ⟨Qa, Qb⟩ := KQ1.out.two
        have Qz := KQ1.out.lt
        go_wp2_with fail
        refine (calls_bool (l02Edge_any _ W H x y _ _ KP1.out HW.out HH.out) he.out).mono ?_
        rintro e w2 ⟨rfl, hb2⟩
        have HB2 := hid (bstep HB1.out hb2)
        clear hb2 Qa Qb Qz
        go_wp2_with fail
        go_ret
        exact ⟨ret_int HV.out.symm, HB2.out⟩
set_option maxHeartbeats 1000000 in
theorem goodC_any (n : Nat) (w : World) (hn : n ≤ 9223372036854775807) : Calls Try.prog 59 #[.int .i64 n] w fun e w' => e = .returned (.bool (goodB n)) ∧ w = w' := by
  by_cases h2 : n % 2 = 1
  · have hb : ((n : Int) % 2 == 1) = true := by simp; omega
    cases hi : inR n 3 17
    all_goals
      have HV := hid (show goodB n = inR n 3 17 by simp [goodB, h2])
      have HI := hid hi
      have HG := hid (HV.out.trans HI.out)
      clear h2 hi
      go_enter Try.func59, Try.ntmps59
      go_wp2_with (go_at_call 60; refine (calls_bool (inRange_any _ _ _ _) HI.out).mono ?_; rintro e w' ⟨rfl, rfl⟩)
      go_ret
      exact ⟨ret_bool HG.out.symm, rfl⟩
  · have hb : ((n : Int) % 2 == 1) = false := by simp; omega
    have HG : Hid (goodB n = false) := hid (by simp [goodB, h2])
    clear h2
    go_enter Try.func59, Try.ntmps59
    go_wp2_with fail
    go_ret
    exact ⟨ret_bool HG.out.symm, rfl⟩
set_option maxRecDepth 100000 in
set_option maxHeartbeats 8000000 in
theorem implPictureFault_any (A : Option Addr) (c : Nat) (ss : List ByteArray) (w : World) (hz : StrsR w w.heap.size A ss) (hl : ss.length ≤ 1048576) (hs : ∀ s ∈ ss, s.size ≤ 1048576) :
    Calls Try.prog 21 #[.slice A ss.length c] w fun e w' => e = .returned (.tuple #[.int .i64 (pfF ss).1, .int .i64 (pfF ss).2.1, .int .i64 (pfF ss).2.2]) ∧ Below w.heap.size w w' := by
  obtain ⟨n, hn⟩ : ∃ n, ss.length = n := ⟨_, rfl⟩
  rw [hn] at hl ⊢
  have HN := hid hn
  have HS := hid hs
  clear hn hs
  cases hg1 : goodB n
  · have HV : Hid (pfF ss = (1, 0, 0)) := hid (by unfold pfF; rw [HN.out, hg1]; rfl)
    have HG := hid hg1
    clear hg1
    go_enter Try.func21, Try.ntmps21
    go_wp2_with fail
    refine (calls_bool (goodC_any n _ (by omega)) HG.out).mono ?_
    rintro e w' ⟨rfl, rfl⟩
    go_wp2_with fail
    go_ret3
    exact ⟨ret_i3 (by rw [HV.out]) (by rw [HV.out]) (by rw [HV.out]), Below.refl _ _⟩
  have hgb := good_bd hg1
  obtain ⟨g1, g2, g3⟩ := hgb
  obtain ⟨s0, hs0⟩ : ∃ s, ss[0]? = some s := ⟨_, List.getElem?_eq_getElem (by have := HN.out; omega)⟩
  have hm0 := HS.out s0 (List.mem_of_getElem? hs0)
  obtain ⟨m, hm⟩ : ∃ m, s0.size = m := ⟨_, rfl⟩
  have HF : Hid (fsz ss = m) := hid (by rw [← hm]; unfold fsz; cases ss with | nil => simp at hs0 | cons a tl => (simp at hs0; subst hs0; rfl))
  obtain ⟨b, off, rfl, hbl, hc0⟩ := hz 0 s0 hs0
  rw [Nat.add_zero] at hc0
  rw [hm] at hm0
  have HG1 := hid hg1
  cases hg2 : goodB m
  · have HV : Hid (pfF ss = (1, 0, 0)) := hid (by unfold pfF; rw [HN.out, hg1, HF.out, hg2]; rfl)
    have HG := hid hg2
    clear hg1 hg2 hs0
    go_enter Try.func21, Try.ntmps21
    go_wp2_with fail
    refine (calls_bool (goodC_any n _ (by omega)) HG1.out).mono ?_
    rintro e w' ⟨rfl, rfl⟩
    go_wp2_with fail
    refine (calls_bool (goodC_any m _ (by omega)) HG.out).mono ?_
    rintro e w' ⟨rfl, rfl⟩
    go_wp2_with fail
    go_ret3
    exact ⟨ret_i3 (by rw [HV.out]) (by rw [HV.out]) (by rw [HV.out]), Below.refl _ _⟩
  obtain ⟨m1, m2, m3⟩ := good_bd hg2
  have HG := hid hg2
  have HSW := hid (good_side hg2)
  have HSH := hid (good_side hg1)
  have HV : Hid (pfF ss = trip (linFlt ((m : Int) / 2) ((n : Int) / 2) m ss 0)) := hid (by unfold pfF; rw [HN.out, hg1, HF.out, hg2]; rfl)
  have HS0 := hid hs0
  have HZ := hid hz
  clear hg1 hg2 hs0 hz
  have t1 : Int.tdiv (m : Int) 2 = (m : Int) / 2 := Int.tdiv_eq_ediv_of_nonneg (by omega)
  have t2 : Int.tdiv (n : Int) 2 = (n : Int) / 2 := Int.tdiv_eq_ediv_of_nonneg (by omega)
  obtain ⟨R, hR⟩ : ∃ R, linFlt ((m : Int) / 2) ((n : Int) / 2) m ss 0 = R := ⟨_, rfl⟩
  have HR := hid hR
  rw [hR] at HV
  clear hR
  go_enter Try.func21, Try.ntmps21
  go_wp2_with fail
  refine (calls_bool (goodC_any n _ (by omega)) HG1.out).mono ?_
  rintro e w' ⟨rfl, rfl⟩
  go_wp2_with fail
  refine (calls_bool (goodC_any m _ (by omega)) HG.out).mono ?_
  rintro e w' ⟨rfl, rfl⟩
  go_wp2_with fail
  refine (newPanel_any _ _ _ HSW.out HSH.out).mono ?_
  rintro e w1 ⟨⟨A1, c1, rfl, ho1⟩, hb1⟩
  have HB1 := hid hb1
  have hc1 : w1.cell? ⟨b, off, none⟩ = some (.string s0) := (hb1.cell (p := ⟨b, off, none⟩) hbl).trans hc0
  clear hb1 ho1 hc0
  obtain ⟨Wd, hWd⟩ : ∃ q, q = (m : Int) / 2 := ⟨_, rfl⟩
  obtain ⟨Hd, hHd⟩ : ∃ q, q = (n : Int) / 2 := ⟨_, rfl⟩
  rw [← hWd] at HSW HR ⊢
  rw [← hHd] at HSH HR ⊢
  obtain ⟨W1, W2⟩ := side_bd HSW.out
  obtain ⟨H1, H2⟩ := side_bd HSH.out
  have HWd := hid hWd
  have HHd := hid hHd
  clear hWd hHd t1 t2
  go_wp2_with fail
  go_loopg [36] n (fun g i wr => ∃ k : Nat, k ≤ n ∧ i = .int .i64 k ∧ g = n - k ∧ Hid (linFlt Wd Hd m (ss.drop k) k = R) ∧ Hid (Box wr w1.heap.size 39 #[.int .i64 Wd, .int .i64 Hd, .slice A1 (inner Wd Hd).toNat c1]) ∧ Hid (Below w.heap.size w wr))
  case atStart => exact ⟨0, Nat.zero_le _, rfl, rfl, HR, hid (Box.new w1 _ _), hid (bal HB1.out _)⟩
  case round =>
    obtain ⟨k, hk, rfl, hg, HL, KP, HB⟩ := hrel
    obtain ⟨wo, rfl⟩ : ∃ z, z = wr := ⟨_, rfl⟩
    by_cases hlt : k < n
    · obtain ⟨l, hlk⟩ : ∃ s, ss[k]? = some s := ⟨_, List.getElem?_eq_getElem (by have := HN.out; omega)⟩
      have HLK := hid hlk
      have hlm := HS.out l (List.mem_of_getElem? hlk)
      obtain ⟨b2, off2, e2, -, hck⟩ := (HZ.out.below HB.out) k l hlk
      obtain ⟨rfl, rfl⟩ : b = b2 ∧ off = off2 := by simpa using e2
      obtain ⟨b3, off3, e3, -, hck0⟩ := (HZ.out.below HB.out) 0 s0 HS0.out
      obtain ⟨rfl, rfl⟩ : b = b3 ∧ off = off3 := by simpa using e3
      rw [Nat.add_zero] at hck0
      obtain ⟨z, hlz⟩ : ∃ z, l.size = z := ⟨_, rfl⟩
      rw [hlz] at hlm
      clear e2 e3 hlk
      by_cases hzm : z = m
      · subst hzm
        have hne : ((z : Int) != (z : Int)) = false := by simp
        obtain ⟨r, hr⟩ : ∃ r, rowFlt Wd Hd k (byteL l) 0 = r := ⟨_, rfl⟩
        have HRR := hid hr
        clear hr
        go_wp2_with fail
        go_loopg [51] z (fun g i wx => ∃ x : Nat, x ≤ z ∧ i = .int .i64 x ∧ g = z - x ∧ Hid (rowFlt Wd Hd k ((byteL l).drop x) x = r) ∧ Hid (Box wx w1.heap.size 39 #[.int .i64 Wd, .int .i64 Hd, .slice A1 (inner Wd Hd).toNat c1]) ∧ Hid (Below w.heap.size w wx))
        case atStart => exact ⟨0, Nat.zero_le _, rfl, rfl, HRR, KP, HB⟩
        case round =>
          obtain ⟨x, hx, rfl, hg2, HX, KPx, HBx⟩ := hrel
          clear hck hck0 hc1
          by_cases hxl : x < z
          · have hxs : x < l.size := by omega
            obtain ⟨by', hby⟩ : ∃ b : Int, ((l[x]'hxs).toNat : Int) = b := ⟨_, rfl⟩
            have HBY : Hid ((byteL l)[x]? = some by') := hid (by rw [byte_at l x hxs, hby])
            have bd := byte_bd HBY.out
            have HST := hid (rowFlt_step (W := Wd) (H := Hd) (y := k) HBY.out)
            obtain ⟨Pa, Pb, Pc⟩ := KPx.out.three
            have Pz := KPx.out.lt
            cases hh : hasP Wd Hd x k
            · by_cases hb : by' = 32
              · skip
                have HE : Hid (rowFlt Wd Hd k ((byteL l).drop (x + 1)) (x + 1) = r) := hid (by have hc : chF Wd Hd x k by' = 0 := (by simp [chF, hh, hb]); have h1 := HX.out; rw [HST.out, if_pos hc] at h1; exact h1)
                have hbn : (by' != 32) = false := by simp [hb]
                have hh := hid hh
                clear hb
                go_wp2_with fail
                refine (calls_bool (isPoint_any Wd Hd x k _ _ _ _ HSW.out HSH.out) hh.out).mono ?_
                rintro e w2 ⟨rfl, hb2⟩
                have KP2 := hid (Box.keep (Box.alloc KPx.out _) hb2)
                have KQ2 := hid (Box.keep (Box.new wr _ _) hb2)
                have HB2 := hid (bbl (bal HBx.out _) hb2)
                clear hb2 Pa Pb Pc Pz
                obtain ⟨Pa, Pb, Pc⟩ := KP2.out.three
                have Pz := KP2.out.lt
                obtain ⟨Qa, Qb⟩ := KQ2.out.two
                have Qz := KQ2.out.lt
                go_wp2_with fail
                go_roundg (z - (x + 1))
                case measure => omega
                case rel => exact ⟨x + 1, by omega, by go_num, rfl, HE, KP2, HB2⟩
              · skip
                have HE : Hid (R = some (5, k, x)) := hid (by have hc : chF Wd Hd x k by' = 5 := (by simp [chF, hh, hb]); have h1 := HX.out; rw [HST.out, hc, if_neg (by decide)] at h1; exact lin_row HLK.out HL.out hlz (HRR.out.trans h1.symm))
                have hbn : (by' != 32) = true := by simp [hb]
                have hh := hid hh
                clear hb
                go_wp2_with fail
                refine (calls_bool (isPoint_any Wd Hd x k _ _ _ _ HSW.out HSH.out) hh.out).mono ?_
                rintro e w2 ⟨rfl, hb2⟩
                have KP2 := hid (Box.keep (Box.alloc KPx.out _) hb2)
                have KQ2 := hid (Box.keep (Box.new wr _ _) hb2)
                have HB2 := hid (bbl (bal HBx.out _) hb2)
                clear hb2 Pa Pb Pc Pz
                obtain ⟨Pa, Pb, Pc⟩ := KP2.out.three
                have Pz := KP2.out.lt
                obtain ⟨Qa, Qb⟩ := KQ2.out.two
                have Qz := KQ2.out.lt
                go_wp2_with fail
                go_quiet (fail)
                go_wp2_with fail
                go_ret3
                exact ⟨ret_i3 (by rw [HV.out, HE.out]; rfl) (by rw [HV.out, HE.out]; rfl) (by rw [HV.out, HE.out]; rfl), below_drewN HB2.out _⟩
            · cases he : edgeP Wd Hd x k
              · by_cases hb : kdF by' < 0
                · skip
                  have HE : Hid (R = some (3, k, x)) := hid (by have hc : chF Wd Hd x k by' = 3 := (by simp [chF, hh, he, hb]); have h1 := HX.out; rw [HST.out, hc, if_neg (by decide)] at h1; exact lin_row HLK.out HL.out hlz (HRR.out.trans h1.symm))
                  have hh := hid hh
                  have he := hid he
                  go_wp2_with fail
                  refine (calls_bool (isPoint_any Wd Hd x k _ _ _ _ HSW.out HSH.out) hh.out).mono ?_
                  rintro e w2 ⟨rfl, hb2⟩
                  have KP2 := hid (Box.keep (Box.alloc KPx.out _) hb2)
                  have KQ2 := hid (Box.keep (Box.new wr _ _) hb2)
                  have HB2 := hid (bbl (bal HBx.out _) hb2)
                  clear hb2 Pa Pb Pc Pz
                  obtain ⟨Pa, Pb, Pc⟩ := KP2.out.three
                  have Pz := KP2.out.lt
                  obtain ⟨Qa, Qb⟩ := KQ2.out.two
                  have Qz := KQ2.out.lt
                  go_wp2_with fail
                  refine (calls_bool (isBorder_any Wd Hd x k _ _ _ _ HSW.out HSH.out) he.out).mono ?_
                  rintro e w3 ⟨rfl, hb3⟩
                  have KP3 := hid (Box.keep KP2.out hb3)
                  have KQ3 := hid (Box.keep KQ2.out hb3)
                  have HB3 := hid (bbl HB2.out hb3)
                  clear hb3 Pa Pb Pc Pz Qa Qb Qz
                  obtain ⟨Pa, Pb, Pc⟩ := KP3.out.three
                  have Pz := KP3.out.lt
                  obtain ⟨Qa, Qb⟩ := KQ3.out.two
                  have Qz := KQ3.out.lt
                  go_wp2_with fail
                  refine (markKind_any by' _).mono ?_
                  rintro e w' ⟨rfl, rfl⟩
                  go_wp2_with fail
                  go_quiet (fail)
                  go_wp2_with fail
                  go_ret3
                  exact ⟨ret_i3 (by rw [HV.out, HE.out]; rfl) (by rw [HV.out, HE.out]; rfl) (by rw [HV.out, HE.out]; rfl), below_drewN HB3.out _⟩
                · skip
                  have HE : Hid (rowFlt Wd Hd k ((byteL l).drop (x + 1)) (x + 1) = r) := hid (by have hc : chF Wd Hd x k by' = 0 := (by simp [chF, hh, he, hb]); have h1 := HX.out; rw [HST.out, if_pos hc] at h1; exact h1)
                  have hh := hid hh
                  have he := hid he
                  go_wp2_with fail
                  refine (calls_bool (isPoint_any Wd Hd x k _ _ _ _ HSW.out HSH.out) hh.out).mono ?_
                  rintro e w2 ⟨rfl, hb2⟩
                  have KP2 := hid (Box.keep (Box.alloc KPx.out _) hb2)
                  have KQ2 := hid (Box.keep (Box.new wr _ _) hb2)
                  have HB2 := hid (bbl (bal HBx.out _) hb2)
                  clear hb2 Pa Pb Pc Pz
                  obtain ⟨Pa, Pb, Pc⟩ := KP2.out.three
                  have Pz := KP2.out.lt
                  obtain ⟨Qa, Qb⟩ := KQ2.out.two
                  have Qz := KQ2.out.lt
                  go_wp2_with fail
                  refine (calls_bool (isBorder_any Wd Hd x k _ _ _ _ HSW.out HSH.out) he.out).mono ?_
                  rintro e w3 ⟨rfl, hb3⟩
                  have KP3 := hid (Box.keep KP2.out hb3)
                  have KQ3 := hid (Box.keep KQ2.out hb3)
                  have HB3 := hid (bbl HB2.out hb3)
                  clear hb3 Pa Pb Pc Pz Qa Qb Qz
                  obtain ⟨Pa, Pb, Pc⟩ := KP3.out.three
                  have Pz := KP3.out.lt
                  obtain ⟨Qa, Qb⟩ := KQ3.out.two
                  have Qz := KQ3.out.lt
                  go_wp2_with fail
                  refine (markKind_any by' _).mono ?_
                  rintro e w' ⟨rfl, rfl⟩
                  go_wp2_with fail
                  go_roundg (z - (x + 1))
                  case measure => omega
                  case rel => exact ⟨x + 1, by omega, by go_num, rfl, HE, KP3, HB3⟩
              · by_cases hb : by' = 46
                · skip
                  have HE : Hid (rowFlt Wd Hd k ((byteL l).drop (x + 1)) (x + 1) = r) := hid (by have hc : chF Wd Hd x k by' = 0 := (by simp [chF, hh, he, hb]); have h1 := HX.out; rw [HST.out, if_pos hc] at h1; exact h1)
                  have hbn : (by' != 46) = false := by simp [hb]
                  have hh := hid hh
                  have he := hid he
                  clear hb
                  go_wp2_with fail
                  refine (calls_bool (isPoint_any Wd Hd x k _ _ _ _ HSW.out HSH.out) hh.out).mono ?_
                  rintro e w2 ⟨rfl, hb2⟩
                  have KP2 := hid (Box.keep (Box.alloc KPx.out _) hb2)
                  have KQ2 := hid (Box.keep (Box.new wr _ _) hb2)
                  have HB2 := hid (bbl (bal HBx.out _) hb2)
                  clear hb2 Pa Pb Pc Pz
                  obtain ⟨Pa, Pb, Pc⟩ := KP2.out.three
                  have Pz := KP2.out.lt
                  obtain ⟨Qa, Qb⟩ := KQ2.out.two
                  have Qz := KQ2.out.lt
                  go_wp2_with fail
                  refine (calls_bool (isBorder_any Wd Hd x k _ _ _ _ HSW.out HSH.out) he.out).mono ?_
                  rintro e w3 ⟨rfl, hb3⟩
                  have KP3 := hid (Box.keep KP2.out hb3)
                  have KQ3 := hid (Box.keep KQ2.out hb3)
                  have HB3 := hid (bbl HB2.out hb3)
                  clear hb3 Pa Pb Pc Pz Qa Qb Qz
                  obtain ⟨Pa, Pb, Pc⟩ := KP3.out.three
                  have Pz := KP3.out.lt
                  obtain ⟨Qa, Qb⟩ := KQ3.out.two
                  have Qz := KQ3.out.lt
                  go_wp2_with fail
                  go_roundg (z - (x + 1))
                  case measure => omega
                  case rel => exact ⟨x + 1, by omega, by go_num, rfl, HE, KP3, HB3⟩
                · skip
                  have HE : Hid (R = some (4, k, x)) := hid (by have hc : chF Wd Hd x k by' = 4 := (by simp [chF, hh, he, hb]); have h1 := HX.out; rw [HST.out, hc, if_neg (by decide)] at h1; exact lin_row HLK.out HL.out hlz (HRR.out.trans h1.symm))
                  have hbn : (by' != 46) = true := by simp [hb]
                  have hh := hid hh
                  have he := hid he
                  clear hb
                  go_wp2_with fail
                  refine (calls_bool (isPoint_any Wd Hd x k _ _ _ _ HSW.out HSH.out) hh.out).mono ?_
                  rintro e w2 ⟨rfl, hb2⟩
                  have KP2 := hid (Box.keep (Box.alloc KPx.out _) hb2)
                  have KQ2 := hid (Box.keep (Box.new wr _ _) hb2)
                  have HB2 := hid (bbl (bal HBx.out _) hb2)
                  clear hb2 Pa Pb Pc Pz
                  obtain ⟨Pa, Pb, Pc⟩ := KP2.out.three
                  have Pz := KP2.out.lt
                  obtain ⟨Qa, Qb⟩ := KQ2.out.two
                  have Qz := KQ2.out.lt
                  go_wp2_with fail
                  refine (calls_bool (isBorder_any Wd Hd x k _ _ _ _ HSW.out HSH.out) he.out).mono ?_
                  rintro e w3 ⟨rfl, hb3⟩
                  have KP3 := hid (Box.keep KP2.out hb3)
                  have KQ3 := hid (Box.keep KQ2.out hb3)
                  have HB3 := hid (bbl HB2.out hb3)
                  clear hb3 Pa Pb Pc Pz Qa Qb Qz
                  obtain ⟨Pa, Pb, Pc⟩ := KP3.out.three
                  have Pz := KP3.out.lt
                  obtain ⟨Qa, Qb⟩ := KQ3.out.two
                  have Qz := KQ3.out.lt
                  go_wp2_with fail
                  go_quiet (fail)
                  go_wp2_with fail
                  go_ret3
                  exact ⟨ret_i3 (by rw [HV.out, HE.out]; rfl) (by rw [HV.out, HE.out]; rfl) (by rw [HV.out, HE.out]; rfl), below_drewN HB3.out _⟩
          · obtain rfl : x = z := by omega
            have HE : Hid (linFlt Wd Hd x (ss.drop (k + 1)) (k + 1) = R) := hid (lin_next HLK.out HL.out hlz (by have h1 := HX.out; rw [rowFlt_end (by rw [byteL_length]; omega)] at h1; rw [HRR.out, ← h1]))
            go_wp2_with fail
            go_roundg (n - (k + 1))
            case measure => omega
            case rel => exact ⟨k + 1, by omega, by go_num, rfl, HE, KPx, HBx⟩
      · have hne : ((z : Int) != (m : Int)) = true := by simp; omega
        have HE := hid (lin_bad HLK.out HL.out (by omega))
        go_wp2_with fail
        go_ret3
        exact ⟨ret_i3 (by rw [HV.out, HE.out]; rfl) (by rw [HV.out, HE.out]; rfl) (by rw [HV.out, HE.out]; rfl), HB.out⟩
    · obtain rfl : k = n := by omega
      have HE : Hid (R = none) := hid (by rw [← HL.out]; exact linFlt_end (by have := HN.out; omega))
      go_wp2_with fail
      go_ret3
      exact ⟨ret_i3 (by rw [HV.out, HE.out]; rfl) (by rw [HV.out, HE.out]; rfl) (by rw [HV.out, HE.out]; rfl), HB.out⟩
end Go.Proofs.Ytgcgaoblbhojnaa
namespace Go.Proofs.Ytgcgaoblbhojnaa
set_option linter.unusedSimpArgs false
set_option linter.unusedVariables false
open Go.ChangeShapes Go.WideShapes Go.ChangeAt Go.RowKit
/-- The slice value owns the cells; what is frozen of its row lies behind them. -/
def OwnT (w : World) (base : Nat) (e : TypeId) (v : Value) (n : Nat) (xs : List Value) : Prop :=
  xs.length = n ∧ ∃ g cap cur fz, v = .slice (some ⟨g, 0, none⟩) n cap ∧ base ≤ g ∧ w.heap[g]? = some (.cells cur e fz) ∧ (fz.2 = 0 ∨ cur.size ≤ fz.1) ∧ n ≤ cap ∧ cap ≤ maxLen ∧ cur.size = cap ∧ cur.toList.take n = xs
theorem OwnT.lt {w : World} {base n : Nat} {e : TypeId} {v : Value} {xs : List Value} (h : OwnT w base e v n xs) : ∀ k, v.ownBlock = some k → base ≤ k ∧ k < w.heap.size := by
  intro k hk
  obtain ⟨_, g, cap, cur, fz, rfl, hb, hg, _⟩ := h
  simp [Value.ownBlock] at hk
  subst hk
  exact ⟨hb, (Array.getElem?_eq_some_iff.1 hg).1⟩
theorem OwnT.kept {w w' : World} {base n : Nat} {e : TypeId} {v : Value} {xs : List Value} {row : Option Nat} (h : OwnT w base e v n xs) (hg : w.grownBy w' row) (hne : v.ownBlock = none ∨ v.ownBlock ≠ row) : OwnT w' base e v n xs := by
  obtain ⟨hl, g, cap, cur, fz, rfl, hb, hgg, rest⟩ := h
  refine ⟨hl, g, cap, cur, fz, rfl, hb, ?_, rest⟩
  rw [hg.block g (Array.getElem?_eq_some_iff.1 hgg).1 (by simpa [Value.ownBlock] using hne)]
  exact hgg
theorem OwnT.keep {w w' : World} {base n : Nat} {e : TypeId} {v : Value} {xs : List Value} (h : OwnT w base e v n xs) (hb : Below w.heap.size w w') : OwnT w' base e v n xs := by
  obtain ⟨hl, g, cap, cur, fz, rfl, hbg, hgg, rest⟩ := h
  exact ⟨hl, g, cap, cur, fz, rfl, hbg, (hb.block g (Array.getElem?_eq_some_iff.1 hgg).1).trans hgg, rest⟩
theorem OwnT.alloc {w : World} {base n : Nat} {e : TypeId} {v : Value} {xs : List Value} (h : OwnT w base e v n xs) (o : Obj) : OwnT (w.alloc o) base e v n xs :=
  h.kept (World.grownBy_alloc w o none) (by cases hv : v.ownBlock <;> simp)
theorem OwnT.cell {w : World} {base n : Nat} {e : TypeId} {g c : Nat} {xs : List Value} (h : OwnT w base e (.slice (some ⟨g, 0, none⟩) n c) n xs) {j : Nat} {u : Value} (hu : xs[j]? = some u) : w.cell? ⟨g, j, none⟩ = some u := by
  obtain ⟨_, g', cap, cur, fz, ev, _, hgg, _, _, _, _, htake⟩ := h
  simp only [Value.slice.injEq, Option.some.injEq, Addr.mk.injEq] at ev
  obtain ⟨⟨rfl, _⟩, _, rfl⟩ := ev
  rw [cell_of_row w g j cur e fz hgg]
  rw [← htake, List.getElem?_take] at hu
  split at hu
  · simpa using hu
  · cases hu
theorem OwnT.le {w : World} {base base' n : Nat} {e : TypeId} {v : Value} {xs : List Value} (h : OwnT w base e v n xs) (hb : base' ≤ base) : OwnT w base' e v n xs := by
  obtain ⟨hl, g, cap, cur, fz, rfl, hbg, rest⟩ := h
  exact ⟨hl, g, cap, cur, fz, rfl, Nat.le_trans hb hbg, rest⟩
theorem OwnT.form {w : World} {base n : Nat} {e : TypeId} {v : Value} {xs : List Value} (h : OwnT w base e v n xs) : ∃ g c, v = .slice (some ⟨g, 0, none⟩) n c := by
  obtain ⟨_, g, cap, cur, fz, rfl, _⟩ := h
  exact ⟨_, _, rfl⟩
theorem run_storeT (P : Program) (g o : Nat) (t : TypeId) (fz : Nat × Nat) (u : Value) (cur : Array Value) (w : World) (hg : w.heap[g]? = some (.cells cur t fz)) (hfz : fz.2 = 0 ∨ cur.size ≤ fz.1) (hl : o < cur.size) (h1 : u.oneCell' = true) :
    (storeCells ⟨g, o, none⟩ [u] 0).run P w = .ok () (w.setRow g (cur.setIfInBounds o u)) := by
  have hadd : (⟨g, o, none⟩ : Addr).add 0 = ⟨g, o, none⟩ := by unfold Addr.add; split <;> simp_all
  have hcell : w.cell? ⟨g, o, none⟩ = some cur[o] := by simp [World.cell?, hg, hl]
  have hfro : w.frozen? ⟨g, o, none⟩ = false := by
    obtain ⟨lo, hi'⟩ := fz
    simp only [World.frozen?, hg, Bool.and_eq_false_iff, decide_eq_false_iff_not]
    simp only at hfz
    omega
  have hst : (store ((⟨g, o, none⟩ : Addr).add 0) u).run P w = .ok () (w.setRow g (cur.setIfInBounds o u)) := by
    rw [hadd, run_store P w _ u _ h1, hcell]
    simp [hfro, setCell_eq_setRow w g o cur t fz u hg]
  simp only [storeCells, Sem.run_bind, hst, Result.andThen_ok]
  rfl
/-- Append of one value. -/
theorem run_appendT {P : Program} (w : World) (base : Nat) (t ty e : TypeId) (i : TypeInfo) (z : Value) (bytes : Nat) (ht : P.underlying t = some (.slice e)) (hi : P.info? e = some i) (hz : i.zero = some z)
    (hsize : i.size = 1) (hby : i.bytes = bytes) (hzs : z.cells.size = 1)
    (v : Value) (n : Nat) (xs : List Value) (hown : OwnT w base e v n xs)
    (a : Addr) (c : Nat) (u : Value) (hu : w.cell? a = some u) (h1 : u.oneCell' = true)
    (h63 : n + 1 ≤ maxLen) (hbytes : (n + 1) * bytes ≤ 140737488355328) (hbase : base ≤ w.heap.size) :
    ∃ v' w', (Builtin.append_ #[t, t] ty #[v, .slice (some a) 1 c]).run P w = .ok v' w' ∧ OwnT w' base e v' (n + 1) (xs ++ [u]) ∧ w.grownBy w' v.ownBlock := by
  have hsmall : n + 1 ≤ 9223372036854775807 := by simp only [maxLen] at h63; omega
  have ha0 : a.add 0 = a := by unfold Addr.add; split <;> simp_all
  have hnews : ∀ (j : Nat) u', [u][j]? = some u' → w.cell? (a.add j) = some u' := by
    intro j u' hj
    cases j with
    | zero => rw [ha0, hu]; simpa using hj
    | succ j => simp at hj
  have hxl := hown.1
  have hlen : (xs ++ [u]).length = n + 1 := by simp [hxl]
  have hcells : ∀ g c', v = .slice (some ⟨g, 0, none⟩) n c' → ∀ (j : Nat) u', xs[j]? = some u' → w.cell? ((⟨g, 0, none⟩ : Addr).add j) = some u' := by
    intro g c' hv j u' hj
    subst hv
    have hadd : (⟨g, 0, none⟩ : Addr).add j = ⟨g, j, none⟩ := by unfold Addr.add; split <;> simp_all
    rw [hadd]
    exact hown.cell hj
  obtain ⟨_, g, cap, cur, fz, rfl, hbg, hg, hfz, hnc, hcm, hcs, htake⟩ := hown
  by_cases hroom : n + 1 ≤ cap
  · have hf := run_firstCells_some (P := P) w i.size 1 a 1 c [u] (by simp [hsize]) hnews
    have hst := run_storeT P g n e fz u cur w hg hfz (by omega) h1
    refine ⟨_, w.setRow g (cur.setIfInBounds n u), ?_, ⟨hlen, g, cap, _, fz, rfl, hbg, setRow_heap w g cur _ e _ hg, ?_, hroom, hcm, ?_, ?_⟩, ⟨rfl, rfl, rfl, by simp, fun k _ hk => setRow_other w g k _ (fun e => hk (by simp [Value.ownBlock, e]))⟩⟩
    · have hst' : (storeCells ⟨g, n * i.size, none⟩ [u] 0).run P w = .ok () (w.setRow g (cur.setIfInBounds n u)) := by rw [hsize, Nat.mul_one]; exact hst
      simp [Builtin.append_, run_underlying ht, sizeOf, typeInfo, hi, Builtin.lenOf, hroom, hf, Addr.add_lit, hst']
    · simpa using hfz
    · simpa using hcs
    · rw [← htake, Array.toList_setIfInBounds, List.take_add_one]
      have hnl : n < cur.toList.length := by simp; omega
      rw [List.getElem?_set_self hnl]
      simp [List.take_set_of_le]
  · have hr := run_append_grow (P := P) w t ty e i z ht hi hz ⟨g, 0, none⟩ n cap xs (by rw [hsize]; simpa using hxl) (hcells g cap rfl) a 1 c [u] (by simp [hsize]) hnews (by omega) (by omega) (growslice_fits (by omega) (by rw [hby]; exact hbytes))
    have hge := grownCap_ge w (n + 1) cap e
    have hcm2 : grownCap w (n + 1) cap e ≤ maxLen := grownCap_le_maxLen w (n + 1) cap e h63
    refine ⟨_, _, hr, ⟨hlen, w.heap.size, _, _, (0, 0), rfl, hbase, heap_alloc_new w.drew _, .inl rfl, hge, hcm2, ?_, ?_⟩, ⟨rfl, rfl, rfl, by simp, fun k hk _ => Below.heap_alloc w.drew _ k hk⟩⟩
    · simp only [Array.size_append, List.size_toArray, size_zeroCells, hzs, hxl, List.length_cons, List.length_nil]
      omega
    · simp only [Array.toList_append, List.append_assoc]
      rw [← List.append_assoc, ← hlen]
      exact List.take_left
theorem wpList_appendT {P : Program} (w : World) {ops : Array Oper} {rest : List Oper} {o : Oper} {a : Act} {Q : Exit → Act → World → Prop} (hgd : o.guard = none) (s x : Operand) (t : TypeId)
    (ho : o.op = .call { callee := .builtin .append, args := #[s, x], argTypes := #[t, t] })
    (base : Nat) (e : TypeId) (i : TypeInfo) (z : Value) (bytes : Nat) (ht : P.underlying t = some (.slice e)) (hi : P.info? e = some i) (hz : i.zero = some z)
    (hsize : i.size = 1) (hby : i.bytes = bytes) (hzs : z.cells.size = 1)
    (v : Value) (n : Nat) (xs : List Value) (hs : a.eval s = v) (hown : OwnT w base e v n xs)
    (ad : Addr) (c : Nat) (u : Value) (hx : a.eval x = .slice (some ad) 1 c) (hu : w.cell? ad = some u) (h1 : u.oneCell' = true)
    (h63 : n + 1 ≤ maxLen) (hbytes : (n + 1) * bytes ≤ 140737488355328) (hbase : base ≤ w.heap.size)
    (h : ∀ v' w', OwnT w' base e v' (n + 1) (xs ++ [u]) → w.grownBy w' v.ownBlock → wpList P ops Q rest (a.put o.dst v') w') : wpList P ops Q (o :: rest) a w := by
  refine wpList_plain hgd fun K hK => ?_
  obtain ⟨v', w', hr, h2, h3⟩ := run_appendT (P := P) w base t o.type e i z bytes ht hi hz hsize hby hzs v n xs hown ad c u hu h1 h63 hbytes hbase
  unfold Oper.wp execOp
  simp only [ho, resolve, invoke, builtin, Sem.run_bind, Sem.run_pure, Result.andThen_ok, List.map_toArray, List.map_cons, List.map_nil, hs, hx, hr]
  exact hK _ _ (h v' w' h2 h3)
theorem OwnT.conv {w : World} {B g cap n : Nat} {bs : List Int} (h : OwnT w B 5 (.slice (some ⟨g, 0, none⟩) n cap) n (bytesV bs)) : (convert 54 9 (.slice (some ⟨g, 0, none⟩) n cap)).run Try.prog w = .ok (.string (strOfNums bs)) w := by
  have hl : bs.length = n := by simpa [bytesV] using h.1
  refine run_convert_bytes_arg (P := Try.prog) _ 54 5 Try.underlying54 Try.underlying5 g 0 n cap bs hl ?_ 9 Try.underlying9
  intro i hi
  rw [Nat.zero_add, h.cell (j := i) (u := .int .u8 (bs.getD i 0)) (by simp [bytesV, List.getD_eq_getElem?_getD, List.getElem?_eq_getElem (show i < bs.length by omega)])]
/-- What []byte(s) leaves. -/
theorem bytes_ownT (w : World) (e : TypeId) (s : ByteArray) (hs : s.size ≤ maxLen) : OwnT (Go.Lib.bytesWorld w e s) w.heap.size e (.slice (some ⟨w.heap.size, 0, none⟩) s.size (grownCap w s.size 0 e)) s.size (s.data.toList.map fun b => Value.int .u8 b.toNat) := by
  have hge := grownCap_ge w s.size 0 e
  have hs' : s.data.size = s.size := rfl
  refine ⟨by simp [hs'], w.heap.size, _, _, _, rfl, Nat.le_refl _, Go.Lib.bytesWorld_at_new w e s, .inr (Nat.le_refl _), hge, grownCap_le_maxLen w _ 0 e hs, ?_, ?_⟩
  · simp only [Go.Lib.bytesCells, Array.size_append, Array.size_map, Array.size_replicate, hs']
    omega
  · simp only [Go.Lib.bytesCells, Array.toList_append, Array.toList_map]
    rw [List.take_append_of_le_length (by simp [hs'])]
    exact List.take_of_length_le (by simp [hs'])
theorem bytes_below (w : World) (e : TypeId) (s : ByteArray) : Below w.heap.size w (Go.Lib.bytesWorld w e s) :=
  ⟨rfl, rfl, rfl, by rw [Go.Lib.bytesWorld_size]; omega, fun k hk => Go.Lib.bytesWorld_at_old w e s k hk⟩
end Go.Proofs.Ytgcgaoblbhojnaa
namespace Go.Proofs.Ytgcgaoblbhojnaa
set_option linter.unusedSimpArgs false
set_option linter.unusedVariables false
section
variable {P : Program} {ops : Array Oper} {md : Region.Mode} {C : World → Prop}
/-- The first n operations in whatever order, each of one value in every world of the class. -/
def headQ (P : Program) (md : Region.Mode) (ops : Array Oper) (C : World → Prop) (n : Nat) (L : Array Bool → Act → Prop) : Nat → Array Bool → Act → Prop
  | 0, listed, a => L listed a
  | f + 1, listed, a => Region.ready md ops listed ≠ [] ∧ ∀ i ∈ Region.ready md ops listed, i < n ∧ qOp P ops C i (headQ P md ops C n L f (listed.setIfInBounds i true)) a
theorem any_of_headQ {n g : Nat} {L : Array Bool → Act → Prop} {Q' : Exit → Act → World → Prop} (hL : ∀ listed a w, C w → L listed a → wpAny P md ops Q' g listed a w) :
    ∀ (f : Nat) (listed : Array Bool) (a : Act) (w : World), C w → headQ P md ops C n L f listed a → wpAny P md ops Q' (f + g) listed a w
  | 0, listed, a, w, hw, h => by rw [Nat.zero_add]; exact hL _ _ _ hw h
  | f + 1, listed, a, w, hw, h => by
    rw [show f + 1 + g = (f + g) + 1 by omega]
    exact ⟨fun h0 => absurd h0 h.1, fun i hi => wpOp_of_qOp hw (fun a' w' hw' h' => any_of_headQ hL f _ a' w' hw' h') (h.2 i hi).2⟩
theorem headQ_first {n i : Nat} {oi : Oper} {v : Value} {L : Array Bool → Act → Prop} (hi : ops[i]? = some oi) (hsel : ∀ (j : Nat) (o : Oper) cs b, ops[j]? = some o → o.op ≠ .select cs b)
    (hs : Region.sinkB md ops n = true) (hc : Region.chainB md ops n = true) (hn : n < ops.size) (hin : i < n) (hdone : ∀ listed a, L listed a → ∀ j ∈ Region.ready md ops listed, n ≤ j) :
    ∀ (f : Nat) (listed : Array Bool) (a : Act), HeadInv md ops n listed →
      (∀ j oj, ops[j]? = some oj → j ≠ i → listed.getD j true = false → (∀ e ∈ oj.after, Region.binds md e = true → e.on ≠ i) → oi.apart ops oj = true) →
      i ∈ Region.ready md ops listed → YieldsIn P ops C oi v a → headQ P md ops C n L f (listed.setIfInBounds i true) (a.put oi.dst v) → headQ P md ops C n L (f + 1) listed a := by
  intro f
  induction f with
  | zero =>
    intro listed a inv _ hr hy H
    have hun := (mem_ready.1 hr).1
    refine ⟨fun h => (by rw [h] at hr; cases hr), fun j hj => ?_⟩
    have hjn : j < n := Nat.lt_of_not_le fun h => tail_waits hs hc hn inv _ i rfl hin hun j h hj
    refine ⟨hjn, ?_⟩
    by_cases hji : j = i
    · subst hji; exact hy.qOp hi H
    · have := hdone _ _ H j (ready_mono hj hji)
      omega
  | succ f ih =>
    intro listed a inv hfree hr hy H
    have hun := (mem_ready.1 hr).1
    refine ⟨fun h => (by rw [h] at hr; cases hr), fun j hj => ?_⟩
    have hjn : j < n := Nat.lt_of_not_le fun h => tail_waits hs hc hn inv _ i rfl hin hun j h hj
    refine ⟨hjn, ?_⟩
    by_cases hji : j = i
    · subst hji; exact hy.qOp hi H
    · have h1 := (H.2 j (ready_mono hj hji)).2
      obtain ⟨hjun, oj, hoj, hall⟩ := mem_ready.1 hj
      have hnot : ∀ e ∈ oj.after, Region.binds md e = true → e.on ≠ i := fun e he hb heq => by
        have h1 := hall e he hb
        rw [heq, getD_both hun] at h1
        cases h1
      have h2 := qOp_put hoj (hfree j oj hoj hji hjun hnot) (fun cs b => hsel i oi cs b hi) (fun cs b => hsel j oj cs b hoj) hy h1
      have hfree' : ∀ k ok, ops[k]? = some ok → k ≠ i → (listed.setIfInBounds j true).getD k true = false →
          (∀ e ∈ ok.after, Region.binds md e = true → e.on ≠ i) → oi.apart ops ok = true := fun k ok hk hki hun hno => by
        refine hfree k ok hk hki ?_ hno
        by_cases hjk : j = k
        · subst hjk; exact hjun
        · rw [getD_set_ne true hjk] at hun; exact hun
      refine qOp_mono (fun a' h3 => ih (listed.setIfInBounds j true) a' (inv.set hj hjn) hfree' (ready_mono hr (Ne.symm hji)) h3.1 ?_) h2
      rw [Array.setIfInBounds_comm _ _ hji]
      exact h3.2
theorem headQ_lex {n g : Nat} {Lq : Act → Prop} (hsel : Region.noSelect ops = true) (hs : Region.sinkB md ops n = true) (hc : Region.chainB md ops n = true) (hn : n < ops.size) :
    ∀ (l : List Oper) (k : Nat) (listed : Array Bool) (a : Act), (∀ j, j < l.length → l[j]? = ops[k + j]?) → k + l.length = n → HeadInv md ops n listed →
    Region.lexHead md ops g l.length k listed = true → wpQuiet P ops C Lq l a → headQ P md ops C n (fun listed' a' => Region.seqB md ops g n listed' = true ∧ Lq a') l.length listed a
  | [], k, listed, a, _, hk, _, hB, h => by
    have : k = n := by simpa using hk
    subst this
    exact ⟨by simpa [Region.lexHead] using hB, h⟩
  | o :: l, k, listed, a, hl, hk, inv, hB, h => by
    have h0 : ops[k]? = some o := by simpa using (hl 0 (by simp)).symm
    simp only [List.length_cons, Region.lexHead, Bool.and_eq_true] at hB
    obtain ⟨⟨hr, hf⟩, hB'⟩ := hB
    have hkn : k < n := by simp only [List.length_cons] at hk; omega
    have hr' : k ∈ Region.ready md ops listed := by simpa using hr
    have hst : qOp P ops C k (wpQuiet P ops C Lq l) a := by unfold qOp; simp only [h0]; exact h
    obtain ⟨v, hy, hK⟩ := yieldsIn_of_qOp h0 hst
    exact headQ_first h0 (Region.noSelect_spec hsel) hs hc hn hkn (fun listed' a' hL => seqB_ready hL.1) l.length listed a inv (Region.free_spec h0 hf) hr' hy
      (headQ_lex hsel hs hc hn l (k + 1) _ _ (fun j hj => by have := hl (j + 1) (by simp; omega); simpa [Nat.add_assoc, Nat.add_comm 1 j] using this) (by simp only [List.length_cons] at hk; omega) (inv.set hr' hkn) hB' hK)
end
/-- A region of reads and calls that ends in operations of one order. -/
theorem wp_region_mix_tail {P : Program} {id : Nat} {Q : Exit → Act → World → Prop} {a : Act} {w : World} {l : List Oper} (N n : Nat) (hm : P.follows .mixedOrders = true) (hB : Region.lexTailB .any l.toArray n = true)
    (h : wpQuiet P l.toArray (fun x => ∃ y, x = mix N w y) (fun a' => ∀ x, (∃ y, x = mix N w y) → wpList P l.toArray Q (l.drop n) a' x) (l.take n) a) : (Code.region id l.toArray true).wp P Q a w := by
  simp only [Region.lexTailB, Bool.and_eq_true, decide_eq_true_eq] at hB
  obtain ⟨⟨⟨⟨hsel, hn⟩, hs⟩, hc⟩, hlex⟩ := hB
  have hn' : n < l.length := by simpa using hn
  have htl : (l.take n).length = n := by simp; omega
  have hdl : (l.drop n).length = l.toArray.size - n := by simp
  have inv0 : HeadInv .any l.toArray n (Array.replicate l.toArray.size false) :=
    ⟨by simp, fun j oj _ hl => (by rw [getD_replicate_false] at hl; cases hl), fun t _ ht => getD_in (by simpa using ht) (getD_replicate_false _ _)⟩
  have H := headQ_lex (md := .any) (g := l.toArray.size - n) hsel hs hc hn (l.take n) 0 _ a (fun j hj => by
    have hj' : j < n := by rw [htl] at hj; exact hj
    simp [hj']) (by simpa using htl) inv0 (by rw [htl]; exact hlex) h
  refine wp_region_any hm ?_
  have := any_of_headQ (Q' := Q) (g := l.toArray.size - n) (fun listed a' w' hw hL => by
    have := wpAny_of_seq (md := .any) (Q' := Q) (l.drop n) n listed a' w' (fun j => by simp [List.getElem?_drop]) (by rw [hdl]; exact hL.1) (hL.2 w' hw)
    rwa [hdl] at this) _ _ _ { w with drawn := w.drawn + 1 } (mix_of (below_refl_drew N w)) H
  rw [htl, show n + (l.toArray.size - n) = l.toArray.size by omega] at this
  exact this
end Go.Proofs.Ytgcgaoblbhojnaa
namespace Go.Proofs.Ytgcgaoblbhojnaa
set_option linter.unusedSimpArgs false
set_option linter.unusedVariables false
open Go.ChangeShapes Go.WideShapes Go.ChangeAt Go.RowKit
theorem wf64T {z : Int} (h1 : -9223372036854775808 ≤ z) (h2 : z ≤ 9223372036854775807) : (Lit.int .i64 z).wf = true := by
  simp [Lit.wf, IntKind.min, IntKind.max, IntKind.bits, IntKind.signed]
  omega
theorem nums_app (a b : List Int) : strOfNums (a ++ b) = strOfNums a ++ strOfNums b := by
  simp only [strOfNums]
  apply ByteArray.ext
  simp
/-- The text of a panel, its first k marks. -/
def txH (W H : Int) : List Int := decL W ++ [120] ++ decL H ++ [58]
def txL (W H : Int) (zs : List Int) : List Int := txH W H ++ zs.map sgB
def txS (W H : Int) (zs : List Int) : ByteArray := strOfNums (txL W H zs)
theorem txH_str (W H : Int) : decS W ++ ⟨#[120]⟩ ++ decS H ++ ⟨#[58]⟩ = strOfNums (txH W H) := by
  unfold txH decS
  rw [nums_app, nums_app, nums_app]
  rfl
theorem tx_take {W H : Int} {zs : List Int} {k : Nat} {z : Int} (h : zs[k]? = some z) : strOfNums (txL W H (zs.take k)) ++ strOfNums [sgB z] = strOfNums (txL W H (zs.take (k + 1))) := by
  rw [← nums_app]
  congr 1
  unfold txL
  rw [List.take_add_one, h, List.map_append]
  simp
theorem tx_zero (W H : Int) (zs : List Int) : txL W H (zs.take 0) = txH W H := by simp [txL]
theorem tx_all (W H : Int) (zs : List Int) : txL W H (zs.take zs.length) = txL W H zs := by rw [List.take_length]
theorem dgL_len : ∀ (f q : Nat) (acc : List Int), (dgL f q acc).length ≤ acc.length + f := by
  intro f
  induction f with
  | zero => intro q acc; simp [dgL]
  | succ f ih =>
    intro q acc
    simp only [dgL]
    split
    · omega
    · have := ih (q / 10) ((48 + (q : Int) % 10) :: acc)
      simp only [List.length_cons] at this
      omega
theorem decL_len (n : Int) : (decL n).length ≤ 21 := by
  unfold decL
  split
  · simp
  · have := dgL_len 20 n.natAbs []
    simp only [List.length_nil] at this
    rw [List.length_append]
    split <;> simp <;> omega
theorem txH_len (W H : Int) : (txH W H).length ≤ 44 := by
  have := decL_len W
  have := decL_len H
  simp [txH]
  omega
theorem byte_num {b : Int} (h0 : 0 ≤ b) (h1 : b ≤ 255) : (((UInt8.ofNat b.toNat).toNat : Nat) : Int) = b := by
  simp [UInt8.toNat_ofNat']
  omega
theorem bytesV_nums {l : List Int} (h : ∀ b ∈ l, 0 ≤ b ∧ b ≤ 255) : ((strOfNums l).data.toList.map fun b => Value.int .u8 b.toNat) = bytesV l := by
  rw [strOfNums_data, List.map_map]
  unfold bytesV
  apply List.map_congr_left
  intro b hb
  obtain ⟨h0, h1⟩ := h b hb
  simp only [Function.comp]
  rw [byte_num h0 h1]
theorem dgL_bd : ∀ (f q : Nat) (acc : List Int), (∀ b ∈ acc, 0 ≤ b ∧ b ≤ 255) → ∀ b ∈ dgL f q acc, 0 ≤ b ∧ b ≤ 255 := by
  intro f
  induction f with
  | zero => intro q acc h; simpa [dgL] using h
  | succ f ih =>
    intro q acc h
    simp only [dgL]
    split
    · exact h
    · refine ih _ _ ?_
      intro b hb
      rcases List.mem_cons.1 hb with rfl | hb
      · omega
      · exact h b hb
theorem decL_bd (n : Int) : ∀ b ∈ decL n, 0 ≤ b ∧ b ≤ 255 := by
  unfold decL
  split
  · intro b hb; simp at hb; omega
  · intro b hb
    rcases List.mem_append.1 hb with hb | hb
    · split at hb
      · simp at hb; omega
      · simp at hb
    · exact dgL_bd _ _ _ (by simp) b hb
theorem sgB_bd (k : Int) : 0 ≤ sgB k ∧ sgB k ≤ 255 := by unfold sgB; repeat (split <;> try omega)
theorem txH_bd (W H : Int) : ∀ b ∈ txH W H, 0 ≤ b ∧ b ≤ 255 := by
  intro b hb
  simp only [txH, List.mem_append, List.mem_singleton] at hb
  rcases hb with ((hb | hb) | hb) | hb
  · exact decL_bd _ b hb
  · omega
  · exact decL_bd _ b hb
  · omega
theorem tx_sizes (W H : Int) : ¬ (9223372036854775807 < (decS W).size + (⟨#[120]⟩ : ByteArray).size) ∧ ¬ (9223372036854775807 < (decS W ++ ⟨#[120]⟩).size + (decS H).size) ∧ ¬ (9223372036854775807 < (decS W ++ ⟨#[120]⟩ ++ decS H).size + (⟨#[58]⟩ : ByteArray).size) := by
  have h1 : (decS W).size ≤ 21 := by unfold decS; rw [strOfNums_size]; exact decL_len W
  have h2 : (decS H).size ≤ 21 := by unfold decS; rw [strOfNums_size]; exact decL_len H
  have e1 : (⟨#[120]⟩ : ByteArray).size = 1 := rfl
  have e2 : (⟨#[58]⟩ : ByteArray).size = 1 := rfl
  simp only [ByteArray.size_append, e1, e2]
  omega
theorem tx_sizes2 (W H : Int) : ¬ (9223372036854775807 < (decS W).size + 1) ∧ ¬ (9223372036854775807 < (decS W).size + 1 + (decS H).size) ∧ ¬ (9223372036854775807 < (decS W).size + 1 + (decS H).size + 1) := by
  have h1 : (decS W).size ≤ 21 := by unfold decS; rw [strOfNums_size]; exact decL_len W
  have h2 : (decS H).size ≤ 21 := by unfold decS; rw [strOfNums_size]; exact decL_len H
  omega
theorem tx_size (W H : Int) (zs : List Int) (k : Nat) (h : zs.length ≤ 112) (z : Int) : ¬ (9223372036854775807 < (strOfNums (txL W H (zs.take k))).size + (strOfNums [z]).size) := by
  have := txH_len W H
  simp only [strOfNums_size, txL, List.length_append, List.length_map, List.length_take, List.length_cons, List.length_nil]
  omega
set_option maxRecDepth 100000 in
set_option maxHeartbeats 4000000 in
theorem panelText_any (W H : Int) (A : Option Addr) (c : Nat) (zs : List Int) (w : World) (hz : Ints w w.heap.size A zs) (hv : validB W H zs = true) :
    Calls Try.prog 70 #[.agg #[.int .i64 W, .int .i64 H, .slice A zs.length c]] w fun e w' => e = .returned (.string (txS W H zs)) ∧ Below w.heap.size w w' := by
  obtain ⟨w1, w2⟩ := side_bd (valid_sides hv).1
  obtain ⟨w3, w4⟩ := side_bd (valid_sides hv).2
  have hlen := valid_len hv
  have hile := inner_le (valid_sides hv).1 (valid_sides hv).2
  obtain ⟨n, hn⟩ : ∃ n, zs.length = n := ⟨_, rfl⟩
  have hn2 : n ≤ 112 := by omega
  have HN := hid hn
  have HZ := hid hz
  have HV := hid hv
  have HE := hid (txH_str W H)
  obtain ⟨ts1, ts2, ts3⟩ := tx_sizes W H
  have HSZ := hid (fun k z => tx_size W H zs k (by omega) z)
  rw [hn]
  clear hn hlen hile hz hv
  go_enter Try.func70, Try.ntmps70
  go_wp2_with fail
  obtain ⟨wp, hwp⟩ : ∃ zz : World, zz = w.alloc (.cells #[.int .i64 W, .int .i64 H, .slice A n c] 39) := ⟨_, rfl⟩
  rw [← hwp]
  have KP := hid (show Box wp w.heap.size 39 #[.int .i64 W, .int .i64 H, .slice A n c] by rw [hwp]; exact Box.new _ _ _)
  have HB := hid (show Below w.heap.size w wp by rw [hwp]; exact bal (Below.refl _ _) _)
  clear hwp
  obtain ⟨Pa, Pb, Pc⟩ := KP.out.three
  have Pz := KP.out.lt
  refine wp_region_mix wp.heap.size (by kernel_rfl) (by kernel_rfl) ?_
  repeat (any_goals (go_big_quiet_step (first | (go_at_call_of 15 W; exact mix_call (by simp) (implDecimal_any W _ (wf64T (by omega) (by omega)))) | (go_at_call_of 15 H; exact mix_call (by simp) (implDecimal_any H _ (wf64T (by omega) (by omega)))))))
  refine wpQuiet_nil ?_
  intro wq hx
  have hb := mix_ex hx
  clear hx
  have KQ := hid (Box.keep KP.out hb)
  have HQ := hid (bbl HB.out hb)
  clear hb KP HB Pa Pb Pc Pz
  obtain ⟨Pa, Pb, Pc⟩ := KQ.out.three
  have Pz := KQ.out.lt
  go_wp2_with fail
  go_loopg [3, 18] n (fun g s i wr => ∃ k : Nat, k ≤ n ∧ i = .int .i64 k ∧ g = n - k ∧ s = .string (strOfNums (txL W H (zs.take k))) ∧ Hid (Below w.heap.size w wr))
  case atStart => exact ⟨0, Nat.zero_le _, rfl, rfl, by rw [tx_zero, ← HE.out], HQ⟩
  case round =>
    clear Pa Pb Pc Pz
    obtain ⟨k, hk, rfl, hg, rfl, HBr⟩ := hrel
    by_cases hlt : k < n
    · obtain ⟨z, hzk⟩ : ∃ z, zs[k]? = some z := ⟨_, List.getElem?_eq_getElem (by have := HN.out; omega)⟩
      obtain ⟨b, off, rfl, hbl, hck⟩ := (HZ.out.below HBr.out) k z hzk
      have hkd := validB_kinds HV.out hzk
      have hbz := HBr.out.size
      have HS := hid (tx_take (W := W) (H := H) hzk)
      have hsz := HSZ.out k (sgB z)
      obtain ⟨S0, hS0⟩ : ∃ s, strOfNums (txL W H (zs.take k)) = s := ⟨_, rfl⟩
      rw [hS0] at HS hsz ⊢
      have hsz1 : ¬ (9223372036854775807 < S0.size + 1) := by rw [strOfNums_size] at hsz; simpa using hsz
      clear hzk hS0
      rcases hkd with rfl | rfl | rfl
      · go_wp2_with fail
        go_roundg (n - (k + 1))
        case measure => omega
        case rel => exact ⟨k + 1, by omega, by go_num, rfl, by rw [← HS.out]; rfl, HBr⟩
      · go_wp2_with fail
        go_roundg (n - (k + 1))
        case measure => omega
        case rel => exact ⟨k + 1, by omega, by go_num, rfl, by rw [← HS.out]; rfl, HBr⟩
      · go_wp2_with fail
        go_roundg (n - (k + 1))
        case measure => omega
        case rel => exact ⟨k + 1, by omega, by go_num, rfl, by rw [← HS.out]; rfl, HBr⟩
    · obtain rfl : k = n := by omega
      have HA : Hid (strOfNums (txL W H (zs.take k)) = txS W H zs) := hid (by rw [← HN.out, tx_all]; rfl)
      rw [HA.out]
      go_wp2_with fail
      go_ret
      exact ⟨rfl, HBr.out⟩
set_option maxRecDepth 100000 in
set_option maxHeartbeats 4000000 in
theorem l05Text_any (p : Nat) (W H : Int) (A : Option Addr) (c : Nat) (zs : List Int) (w : World) (B : Nat) (hB : B ≤ w.heap.size) (hp : PanP w p W H (.slice A zs.length c)) (hz : Ints w B A zs) (hv : validB W H zs = true) :
    Calls Try.prog 67 #[.pointer (some ⟨p, 0, none⟩)] w fun e w' => e = .returned (.string (txS W H zs)) ∧ Below w.heap.size w w' := by
  obtain ⟨ub, hib, hb0, hb1, hb2⟩ := info_parts infoU8
  obtain ⟨w1, w2⟩ := side_bd (valid_sides hv).1
  obtain ⟨w3, w4⟩ := side_bd (valid_sides hv).2
  have hlen := valid_len hv
  have hile := inner_le (valid_sides hv).1 (valid_sides hv).2
  obtain ⟨n, hn⟩ : ∃ n, zs.length = n := ⟨_, rfl⟩
  have hn2 : n ≤ 112 := by omega
  rw [hn] at hp
  have HN := hid hn
  have HZ := hid (show Ints w w.heap.size A zs from fun j z hj => by obtain ⟨b, off, e, h1, h2⟩ := hz j z hj; exact ⟨b, off, e, by omega, h2⟩)
  have HV := hid hv
  have KP : Hid (Box w p 39 #[.int .i64 W, .int .i64 H, .slice A n c]) := hid hp
  obtain ⟨m, hm⟩ : ∃ m, (txH W H).length = m := ⟨_, rfl⟩
  have hm44 : m ≤ 44 := by have := txH_len W H; omega
  have hms : (strOfNums (txH W H)).size = m := by rw [strOfNums_size, hm]
  have hml : (strOfNums (txH W H)).size ≤ maxLen := by rw [hms]; unfold maxLen; omega
  obtain ⟨ts1, ts2, ts3⟩ := tx_sizes2 W H
  have hconv : ∀ wz : World, (convert 9 54 (.string (decS W ++ ⟨#[120]⟩ ++ decS H ++ ⟨#[58]⟩))).run Try.prog wz = .ok (.slice (some ⟨wz.heap.size, 0, none⟩) m (grownCap wz m 0 5)) (Go.Lib.bytesWorld wz 5 (strOfNums (txH W H))) := by
    intro wz
    rw [txH_str]
    have h := Go.Lib.run_convert_string_bytes (P := Try.prog) wz 9 54 5 (strOfNums (txH W H)) Try.underlying9 Try.underlying54 Try.underlying5
    rw [hms] at h
    exact h
  have HOT : Hid (∀ wz : World, OwnT (Go.Lib.bytesWorld wz 5 (strOfNums (txH W H))) wz.heap.size 5 (.slice (some ⟨wz.heap.size, 0, none⟩) m (grownCap wz m 0 5)) m (bytesV (txH W H))) := hid (fun wz => by
    have h := bytes_ownT wz 5 (strOfNums (txH W H)) hml
    rw [bytesV_nums (txH_bd W H), hms] at h
    exact h)
  clear hn hlen hile hz hv hp hml hms
  have HM := hid hm
  clear hm
  go_enter Try.func67, Try.ntmps67
  obtain ⟨Pa, Pb, Pc⟩ := KP.out.three
  have Pz := KP.out.lt
  go_wp2_with fail
  refine wp_region_mix_tail w.heap.size 13 (by kernel_rfl) (by kernel_rfl) ?_
  simp only [List.take_succ_cons, List.take_zero, List.drop_succ_cons, List.drop_zero]
  repeat (any_goals (go_big_quiet_step (first | (go_at_call_of 56 W; exact mix_call (Nat.le_refl _) (l01Dec_any W _ (wf64T (by omega) (by omega)))) | (go_at_call_of 56 H; exact mix_call (Nat.le_refl _) (l01Dec_any H _ (wf64T (by omega) (by omega)))))))
  refine wpQuiet_nil ?_
  intro wx hx
  have hb := mix_ex hx
  clear hx Pa Pb Pc Pz
  have HBx := hid hb
  clear hb
  have hcx := hconv wx
  clear hconv
  have hox := HOT.out wx
  obtain ⟨w0, hw0⟩ : ∃ zz : World, zz = Go.Lib.bytesWorld wx 5 (strOfNums (txH W H)) := ⟨_, rfl⟩
  rw [← hw0] at hcx hox
  have HO0 := hid (OwnT.le hox HBx.out.size)
  have HB0 := hid (show Below w.heap.size w w0 by rw [hw0]; exact bstep HBx.out (bytes_below _ _ _))
  clear hw0 hox
  go_wp2_with fail
  go_loopg [3, 4] n (fun g v i wr => ∃ (k : Nat), k ≤ n ∧ i = .int .i64 k ∧ g = n - k ∧ Hid (OwnT wr w.heap.size 5 v (m + k) (bytesV (txL W H (zs.take k)))) ∧ Hid (Below w.heap.size w wr))
  case atStart => exact ⟨0, Nat.zero_le _, rfl, rfl, hid (by rw [tx_zero]; exact HO0.out), HB0⟩
  case round =>
    obtain ⟨k, hk, rfl, hg, HO, HBr⟩ := hrel
    have KPr := hid (Box.keep KP.out HBr.out)
    obtain ⟨Pa, Pb, Pc⟩ := KPr.out.three
    have Pz := KPr.out.lt
    have hwz := HBr.out.size
    by_cases hlt : k < n
    · obtain ⟨z, hzk⟩ : ∃ z, zs[k]? = some z := ⟨_, List.getElem?_eq_getElem (by have := HN.out; omega)⟩
      obtain ⟨b, off, rfl, hbl, hck⟩ := (HZ.out.below HBr.out) k z hzk
      have hbz : b < wr.heap.size := by omega
      have HZK := hid hzk
      obtain ⟨sb, hsb⟩ : ∃ q, sgB z = q := ⟨_, rfl⟩
      have HSB := hid hsb
      have HL2 : Hid (bytesV (txL W H (zs.take (k + 1))) = bytesV (txL W H (zs.take k)) ++ [.int .u8 sb]) := hid (by
        unfold txL bytesV
        rw [List.take_add_one, hzk, ← hsb]
        simp)
      clear hzk hsb
      go_wp2_with fail
      refine (calls_u8 (l05Sign_any z _) HSB.out).mono ?_
      rintro e w' ⟨rfl, rfl⟩
      clear hck hbl Pa Pb Pc Pz
      go_wp2_with (at_builtin; (refine wpList_appendT _ rfl _ _ 54 rfl w.heap.size 5 ub (.int .u8 0) 1 Try.underlying54 hib hb0 hb1 hb2 rfl _ (m + k) (bytesV (txL W H (zs.take k))) rfl (HO.out.alloc _) ⟨wr.heap.size, 0, none⟩ 1 (.int .u8 sb) rfl (by simp) rfl (by unfold maxLen; omega) (by omega) (by simp; omega) ?_; intro v' wz ho2 hgr))
      have HH := hid (And.intro ho2 hgr)
      clear ho2 hgr
      go_roundg (n - (k + 1))
      case measure => omega
      case rel => exact ⟨k + 1, by omega, by go_num, rfl, hid (by rw [HL2.out]; exact HH.out.1), hid (bgrew (lo := w.heap.size) (bal HBr.out _) HH.out.2 (fun q hq => (HO.out.lt q hq).1) (Nat.le_refl _))⟩
    · obtain rfl : k = n := by omega
      have HA : Hid (strOfNums (txL W H (zs.take k)) = txS W H zs) := hid (by rw [← HN.out, tx_all]; rfl)
      obtain ⟨g2, c2, e2⟩ := HO.out.form
      subst e2
      have kc := HO.out.conv
      rw [HA.out] at kc
      go_wp2_with fail
      go_ret
      exact ⟨rfl, HBr.out⟩
end Go.Proofs.Ytgcgaoblbhojnaa
namespace Go.Proofs.Ytgcgaoblbhojnaa
set_option linter.unusedSimpArgs false
set_option linter.unusedVariables false
theorem byteL_extract (s : ByteArray) (i j : Nat) : byteL (s.extract i j) = ((byteL s).drop i).take (j - i) := by
  unfold byteL
  rw [ByteArray.data_extract, Array.toList_extract, List.extract_eq_take_drop, List.map_take, List.map_drop]
theorem byteL_inj {a b : ByteArray} (h : byteL a = byteL b) : a = b := by
  apply ByteArray.ext
  apply Array.toList_inj.1
  unfold byteL at h
  exact (List.map_inj_right (fun x y hxy => by
    have : x.toNat = y.toNat := by omega
    exact UInt8.toNat_inj.1 this)).1 h
theorem byteL_app (a b : ByteArray) : byteL (a ++ b) = byteL a ++ byteL b := by
  unfold byteL
  rw [ByteArray.data_append, Array.toList_append, List.map_append]
theorem byteL_nums {l : List Int} (h : ∀ b ∈ l, 0 ≤ b ∧ b ≤ 255) : byteL (strOfNums l) = l := by
  unfold byteL
  rw [strOfNums_data, List.map_map]
  conv => rhs; rw [← List.map_id l]
  apply List.map_congr_left
  intro b hb
  obtain ⟨h0, h1⟩ := h b hb
  simp only [Function.comp]
  rw [byte_num h0 h1]
  rfl
/-- How many parts: one more than of the bytes. -/
theorem spS_count (s : ByteArray) (b : Int) : ∀ k, k ≤ s.size → (spS s b k).1.length = ((byteL s).take k).count b := by
  intro k
  induction k with
  | zero => intro _; simp [spS]
  | succ k ih =>
    intro hk
    have hkl : k < (byteL s).length := by rw [byteL_length]; omega
    rw [spS, List.take_add_one, List.getElem?_eq_getElem hkl, List.count_append]
    by_cases h : (byteL s)[k] = b
    · rw [if_pos (by rw [h]), List.length_append, ih (by omega)]
      simp [h]
    · rw [if_neg (by intro e; injection e with e; exact h e), ih (by omega)]
      simp [h]
theorem spL_count (s : ByteArray) (b : Int) : (spL s b).length = (byteL s).count b + 1 := by
  unfold spL
  rw [List.length_append, spS_count s b s.size (Nat.le_refl _), List.take_of_length_le (by rw [byteL_length]; exact Nat.le_refl _)]
  rfl
theorem idx_not {l : List Int} {b : Int} : ∀ {i : Nat}, i < l.idxOf b → l[i]? ≠ some b := by
  induction l with
  | nil => intro i hi; simp at hi
  | cons a l ih =>
    intro i hi
    rw [List.idxOf_cons] at hi
    by_cases h : a = b
    · subst h; simp at hi
    · have hb : (a == b) = false := beq_eq_false_iff_ne.2 h
      rw [hb] at hi
      cases i with
      | zero => simp [h]
      | succ i => simpa using ih (i := i) (by simpa using hi)
theorem idx_first {l : List Int} {b : Int} (h : l.count b ≠ 0) : l.idxOf b < l.length ∧ l[l.idxOf b]? = some b ∧ (∀ i, i < l.idxOf b → l[i]? ≠ some b) := by
  have hm : b ∈ l := by
    by_cases hc : b ∈ l
    · exact hc
    · exact absurd (List.count_eq_zero.2 hc) h
  have hlt := List.idxOf_lt_length_of_mem hm
  refine ⟨hlt, by rw [List.getElem?_eq_getElem hlt, List.getElem_idxOf], ?_⟩
  exact fun i hi => idx_not hi
theorem count_split {l : List Int} {b : Int} (h : l.count b ≠ 0) : l = l.take (l.idxOf b) ++ b :: l.drop (l.idxOf b + 1) ∧ b ∉ l.take (l.idxOf b) ∧ l.count b = (l.drop (l.idxOf b + 1)).count b + 1 := by
  obtain ⟨h1, h2, h3⟩ := idx_first h
  have e : l = l.take (l.idxOf b) ++ b :: l.drop (l.idxOf b + 1) := by
    conv => lhs; rw [← List.take_append_drop (l.idxOf b) l]
    congr 1
    rw [List.drop_eq_getElem_cons h1]
    congr 1
    rw [List.getElem?_eq_getElem h1] at h2
    injection h2
  have hn : b ∉ l.take (l.idxOf b) := by
    intro hm
    obtain ⟨i, hi, e2⟩ := List.getElem_of_mem hm
    rw [List.length_take] at hi
    refine h3 i (by omega) ?_
    rw [List.getElem_take] at e2
    rw [List.getElem?_eq_getElem (by omega), e2]
  refine ⟨e, hn, ?_⟩
  conv => lhs; rw [e]
  rw [List.count_append, List.count_eq_zero.2 hn, List.count_cons]
  simp
/-- A text with one mark has two parts. -/
theorem spS_one {s : ByteArray} {b : Int} (h : (byteL s).count b = 1) : ∀ k, k ≤ s.size → spS s b k = if (byteL s).idxOf b < k then ([s.extract 0 ((byteL s).idxOf b)], (byteL s).idxOf b + 1) else ([], 0) := by
  obtain ⟨h1, h2, h3⟩ := idx_first (l := byteL s) (b := b) (by omega)
  obtain ⟨e, hn, hc⟩ := count_split (l := byteL s) (b := b) (by omega)
  have hd : b ∉ (byteL s).drop ((byteL s).idxOf b + 1) := List.count_eq_zero.1 (by omega)
  intro k
  induction k with
  | zero => intro _; simp [spS]
  | succ k ih =>
    intro hk
    rw [spS, ih (by omega)]
    by_cases e1 : k = (byteL s).idxOf b
    · rw [if_pos (by rw [e1]; exact h2), if_neg (by omega), if_pos (by omega), e1]
      rfl
    · have hne : ¬ (byteL s)[k]? = some b := by
        intro hk2
        rcases Nat.lt_or_ge k ((byteL s).idxOf b) with hlt | hge
        · exact h3 k hlt hk2
        · apply hd
          refine List.mem_of_getElem? (i := k - ((byteL s).idxOf b + 1)) ?_
          rw [List.getElem?_drop, show (byteL s).idxOf b + 1 + (k - ((byteL s).idxOf b + 1)) = k by omega]
          exact hk2
      rw [if_neg hne]
      by_cases hlt : (byteL s).idxOf b < k
      · rw [if_pos hlt, if_pos (by omega)]
      · rw [if_neg hlt, if_neg (by omega)]
theorem spL_one {s : ByteArray} {b : Int} (h : (byteL s).count b = 1) : spL s b = [s.extract 0 ((byteL s).idxOf b), s.extract ((byteL s).idxOf b + 1) s.size] := by
  obtain ⟨h1, _, _⟩ := idx_first (l := byteL s) (b := b) (by omega)
  rw [byteL_length] at h1
  unfold spL
  rw [spS_one h s.size (Nat.le_refl _), if_pos h1]
  rfl
/-- The reference's parts of a text. -/
def prU (s : ByteArray) : ByteArray := s.extract 0 ((byteL s).idxOf 58)
def prV (s : ByteArray) : ByteArray := s.extract ((byteL s).idxOf 58 + 1) s.size
def prA (s : ByteArray) : ByteArray := (prU s).extract 0 ((byteL (prU s)).idxOf 120)
def prB (s : ByteArray) : ByteArray := (prU s).extract ((byteL (prU s)).idxOf 120 + 1) (prU s).size
def prZ (s : ByteArray) : List Int := (byteL (prV s)).map kdF
def prG (s : ByteArray) : Bool := (byteL s).count 58 == 1 && (byteL (prU s)).count 120 == 1
/-- What ReadPanel answers. -/
noncomputable def pnO (s : ByteArray) : Bool := prG s && (rdB (prA s) && rdB (prB s)) && validB (rdR (prA s)) (rdR (prB s)) (prZ s)
noncomputable def pnW (s : ByteArray) : Int := if pnO s then rdR (prA s) else 0
noncomputable def pnH (s : ByteArray) : Int := if pnO s then rdR (prB s) else 0
noncomputable def pnL (s : ByteArray) : List Int := if pnO s then prZ s else []
noncomputable def pnN (s : ByteArray) : Nat := (pnL s).length
/-- The program's. -/
def plI (s : ByteArray) (b : Int) : Int := if (byteL s).idxOf b < s.size then (byteL s).idxOf b else -1
def imA (s : ByteArray) : ByteArray := s.extract 0 (plI s 120).toNat
def imB (s : ByteArray) : ByteArray := s.extract ((plI s 120).toNat + 1) (plI s 58).toNat
def imZ (s : ByteArray) : List Int := ((byteL s).drop ((plI s 58).toNat + 1)).map kdF
def imP (s : ByteArray) : Prop := 0 ≤ plI s 120 ∧ plI s 120 ≤ plI s 58 ∧ (s.size : Int) - plI s 58 ≤ 129
def imQ (s : ByteArray) : Prop := rdB (imA s) = true ∧ rdB (imB s) = true ∧ validB (rdR (imA s)) (rdR (imB s)) (imZ s) = true ∧ txS (rdR (imA s)) (rdR (imB s)) (imZ s) = s
theorem idx_app {l m : List Int} {b : Int} (h : b ∈ l) : (l ++ m).idxOf b = l.idxOf b := by
  rw [List.idxOf_append, if_pos h]
theorem prU_bytes (s : ByteArray) : byteL (prU s) = (byteL s).take ((byteL s).idxOf 58) := by
  unfold prU
  rw [byteL_extract, List.drop_zero, Nat.sub_zero]
theorem prZ_eq (s : ByteArray) : prZ s = ((byteL s).drop ((byteL s).idxOf 58 + 1)).map kdF := by
  unfold prZ prV
  rw [byteL_extract, List.take_of_length_le (by rw [List.length_drop, byteL_length]; exact Nat.le_refl _)]
theorem prA_eq {s : ByteArray} (h : (byteL (prU s)).idxOf 120 ≤ (byteL s).idxOf 58) : prA s = s.extract 0 ((byteL (prU s)).idxOf 120) := by
  apply byteL_inj
  unfold prA
  rw [byteL_extract, byteL_extract, prU_bytes, List.drop_zero, List.drop_zero, Nat.sub_zero, List.take_take]
  rw [prU_bytes] at h
  rw [Nat.min_eq_left h]
theorem prB_eq {s : ByteArray} (hc : (byteL s).idxOf 58 ≤ s.size) : prB s = s.extract ((byteL (prU s)).idxOf 120 + 1) ((byteL s).idxOf 58) := by
  apply byteL_inj
  unfold prB
  rw [byteL_extract, byteL_extract, ← byteL_length (prU s), prU_bytes, List.drop_take, List.take_take, List.length_take, byteL_length]
  congr 1
  omega
theorem dgL_dig : ∀ (f q : Nat) (acc : List Int), (∀ b ∈ acc, 48 ≤ b ∧ b ≤ 57) → ∀ b ∈ dgL f q acc, 48 ≤ b ∧ b ≤ 57 := by
  intro f
  induction f with
  | zero => intro q acc h; simpa [dgL] using h
  | succ f ih =>
    intro q acc h
    simp only [dgL]
    split
    · exact h
    · refine ih _ _ ?_
      intro b hb
      rcases List.mem_cons.1 hb with rfl | hb
      · omega
      · exact h b hb
theorem decL_dig (n : Int) : ∀ b ∈ decL n, b = 45 ∨ (48 ≤ b ∧ b ≤ 57) := by
  unfold decL
  split
  · intro b hb; simp at hb; omega
  · intro b hb
    rcases List.mem_append.1 hb with hb | hb
    · split at hb
      · simp at hb; omega
      · simp at hb
    · exact .inr (dgL_dig _ _ _ (by simp) b hb)
theorem rd_bytes {s : ByteArray} (h : rdB s = true) : byteL s = decL (rdR s) := by
  by_cases hp : RdP s
  · rw [(rd_yes hp).1]
    conv => lhs; rw [← hp.2.2.2]
    unfold decS
    exact byteL_nums (decL_bd _)
  · rw [(rd_no hp).2] at h; cases h
theorem sg_kd {z : Int} (h : kdF z = 0 ∨ kdF z = 1 ∨ kdF z = 2) : sgB (kdF z) = z ∧ z ≠ 58 := by
  unfold kdF at h ⊢
  by_cases h1 : z = 43
  · subst h1; simp [sgB]
  · by_cases h2 : z = 124
    · subst h2; simp [sgB]
    · by_cases h3 : z = 45
      · subst h3; simp [sgB]
      · simp [h1, h2, h3] at h
theorem kinds_back {W H : Int} {l : List Int} (hv : validB W H (l.map kdF) = true) : (l.map kdF).map sgB = l ∧ (58 : Int) ∉ l := by
  have hk : ∀ z ∈ l, kdF z = 0 ∨ kdF z = 1 ∨ kdF z = 2 := by
    intro z hz
    obtain ⟨i, hi, e⟩ := List.getElem_of_mem hz
    exact validB_kinds hv (j := i) (by rw [List.getElem?_map, List.getElem?_eq_getElem hi, e]; rfl)
  refine ⟨?_, fun h58 => (sg_kd (hk _ h58)).2 rfl⟩
  rw [List.map_map]
  conv => rhs; rw [← List.map_id l]
  apply List.map_congr_left
  intro z hz
  exact (sg_kd (hk z hz)).1
theorem tx_bytes (W H : Int) (zs : List Int) : byteL (txS W H zs) = decL W ++ [120] ++ decL H ++ [58] ++ zs.map sgB := by
  unfold txS
  rw [byteL_nums]
  · rfl
  · intro b hb
    unfold txL at hb
    rcases List.mem_append.1 hb with hb | hb
    · exact txH_bd _ _ b hb
    · obtain ⟨z, _, rfl⟩ := List.mem_map.1 hb
      exact sgB_bd z
theorem pl_of {s : ByteArray} {b : Int} (h : (byteL s).count b ≠ 0) : plI s b = (byteL s).idxOf b := by
  have := (idx_first h).1
  rw [byteL_length] at this
  unfold plI
  rw [if_pos this]
/-- The text of what was read is the text. -/
theorem text_back {s : ByteArray} {x c : Nat} {W H : Int} {zs : List Int} (h58 : (byteL s).count 58 ≠ 0) (hc : (byteL s).idxOf 58 = c) (h120 : ((byteL s).take c).count 120 ≠ 0) (hx : ((byteL s).take c).idxOf 120 = x)
    (hA : byteL (s.extract 0 x) = decL W) (hB : byteL (s.extract (x + 1) c) = decL H) (hZ : zs.map sgB = (byteL s).drop (c + 1)) : txS W H zs = s := by
  apply byteL_inj
  obtain ⟨e1, _, _⟩ := count_split h58
  obtain ⟨e2, _, _⟩ := count_split h120
  rw [hc] at e1
  rw [hx] at e2
  have hxc : x < c := by
    have := (idx_first h120).1
    rw [hx, List.length_take] at this
    omega
  rw [byteL_extract, List.drop_zero, Nat.sub_zero] at hA
  rw [byteL_extract] at hB
  rw [List.take_take, Nat.min_eq_left (by omega), hA, List.drop_take, hB] at e2
  rw [e2] at e1
  rw [tx_bytes, hZ]
  conv => rhs; rw [e1]
  simp
/-- Both forms: the reference reads what the program reads. -/
theorem im_of_pn {s : ByteArray} (h : pnO s = true) : imP s ∧ imQ s ∧ imA s = prA s ∧ imB s = prB s ∧ imZ s = prZ s := by
  unfold pnO prG at h
  simp only [Bool.and_eq_true, beq_iff_eq] at h
  obtain ⟨⟨⟨h58, h120⟩, hA, hB⟩, hv⟩ := h
  obtain ⟨i1, _, _⟩ := idx_first (l := byteL s) (b := 58) (by omega)
  obtain ⟨j1, _, _⟩ := idx_first (l := byteL (prU s)) (b := 120) (by omega)
  obtain ⟨e58, _, _⟩ := count_split (l := byteL s) (b := 58) (by omega)
  have hm : (120 : Int) ∈ byteL (prU s) := by
    by_cases hmm : (120 : Int) ∈ byteL (prU s)
    · exact hmm
    · have := List.count_eq_zero.2 hmm; omega
  have hx : (byteL s).idxOf 120 = (byteL (prU s)).idxOf 120 := by
    conv => lhs; rw [e58]
    rw [prU_bytes] at hm ⊢
    exact idx_app hm
  have hul : (byteL (prU s)).length = (byteL s).idxOf 58 := by rw [prU_bytes, List.length_take]; omega
  rw [byteL_length] at i1
  have p58 : plI s 58 = (byteL s).idxOf 58 := pl_of (by omega)
  have p120 : plI s 120 = (byteL (prU s)).idxOf 120 := by
    unfold plI
    rw [hx, if_pos (by omega)]
  have eA := prA_eq (s := s) (by omega)
  have eB := prB_eq (s := s) (by omega)
  have eZ := prZ_eq s
  have iA : imA s = prA s := by unfold imA; rw [p120, eA, Int.toNat_natCast]
  have iB : imB s = prB s := by unfold imB; rw [p120, p58, eB, Int.toNat_natCast, Int.toNat_natCast]
  have iZ : imZ s = prZ s := by unfold imZ; rw [p58, eZ, Int.toNat_natCast]
  refine ⟨⟨by omega, by omega, ?_⟩, ⟨by rw [iA]; exact hA, by rw [iB]; exact hB, by rw [iA, iB, iZ]; exact hv, ?_⟩, iA, iB, iZ⟩
  · have hl := valid_len hv
    have hi := inner_le (valid_sides hv).1 (valid_sides hv).2
    rw [eZ, List.length_map, List.length_drop, byteL_length] at hl
    omega
  · rw [iA, iB, iZ]
    rw [eZ] at hv
    refine text_back (c := (byteL s).idxOf 58) (x := (byteL (prU s)).idxOf 120) (by omega) rfl (by rw [← prU_bytes]; omega) (by rw [prU_bytes]) ?_ ?_ ?_
    · rw [← eA]; exact rd_bytes hA
    · rw [← eB]; exact rd_bytes hB
    · rw [eZ]; exact (kinds_back hv).1
theorem pn_of_im {s : ByteArray} (hP : imP s) (hQ : imQ s) : pnO s = true := by
  obtain ⟨p1, p2, p3⟩ := hP
  obtain ⟨q1, q2, q3, q4⟩ := hQ
  have hx : (byteL s).idxOf 120 < s.size ∧ plI s 120 = (byteL s).idxOf 120 := by
    unfold plI at p1 ⊢
    split at p1
    · rename_i h; exact ⟨h, by rw [if_pos h]⟩
    · omega
  have hc : (byteL s).idxOf 58 < s.size ∧ plI s 58 = (byteL s).idxOf 58 := by
    have h : 0 ≤ plI s 58 := by omega
    unfold plI at h ⊢
    split at h
    · rename_i h2; exact ⟨h2, by rw [if_pos h2]⟩
    · omega
  have m58 : (byteL s).count 58 ≠ 0 := fun h0 => by
    have := List.idxOf_eq_length (List.count_eq_zero.1 h0)
    rw [byteL_length] at this
    omega
  have m120 : (byteL s).count 120 ≠ 0 := fun h0 => by
    have := List.idxOf_eq_length (List.count_eq_zero.1 h0)
    rw [byteL_length] at this
    omega
  obtain ⟨_, a58, _⟩ := idx_first m58
  obtain ⟨_, a120, _⟩ := idx_first m120
  obtain ⟨e58, _, c58⟩ := count_split m58
  have hne : (byteL s).idxOf 120 ≠ (byteL s).idxOf 58 := fun e => by rw [e, a58] at a120; injection a120 with a120; omega
  have hlt : (byteL s).idxOf 120 < (byteL s).idxOf 58 := by omega
  have hm : (120 : Int) ∈ byteL (prU s) := by
    rw [prU_bytes]
    exact List.mem_of_getElem? (i := (byteL s).idxOf 120) (by rw [List.getElem?_take, if_pos hlt]; exact a120)
  have hxu : (byteL (prU s)).idxOf 120 = (byteL s).idxOf 120 := by
    conv => rhs; rw [e58]
    rw [prU_bytes] at hm ⊢
    exact (idx_app hm).symm
  have mU : (byteL (prU s)).count 120 ≠ 0 := fun h0 => List.count_eq_zero.1 h0 hm
  obtain ⟨_, _, cU⟩ := count_split mU
  have eA := prA_eq (s := s) (by omega)
  have eB := prB_eq (s := s) (by omega)
  have eZ := prZ_eq s
  have iA : imA s = prA s := by unfold imA; rw [hx.2, eA, hxu, Int.toNat_natCast]
  have iB : imB s = prB s := by unfold imB; rw [hx.2, hc.2, eB, hxu, Int.toNat_natCast, Int.toNat_natCast]
  have iZ : imZ s = prZ s := by unfold imZ; rw [hc.2, eZ, Int.toNat_natCast]
  rw [iA] at q1
  rw [iB] at q2
  rw [iA, iB, iZ] at q3
  have hbB : byteL (prB s) = (byteL (prU s)).drop ((byteL (prU s)).idxOf 120 + 1) := by
    unfold prB
    rw [byteL_extract, List.take_of_length_le (by rw [List.length_drop, byteL_length]; exact Nat.le_refl _)]
  have n120 : (120 : Int) ∉ byteL (prB s) := by
    rw [rd_bytes q2]
    intro h
    have := decL_dig _ _ h
    omega
  have n58 : (58 : Int) ∉ (byteL s).drop ((byteL s).idxOf 58 + 1) := by
    rw [eZ] at q3
    exact (kinds_back q3).2
  rw [List.count_eq_zero.2 n58] at c58
  rw [hbB] at n120
  rw [List.count_eq_zero.2 n120] at cU
  unfold pnO prG
  rw [c58, cU, q1, q2, q3]
  rfl
end Go.Proofs.Ytgcgaoblbhojnaa

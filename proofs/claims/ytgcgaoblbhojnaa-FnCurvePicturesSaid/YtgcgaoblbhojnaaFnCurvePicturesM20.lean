/- Merged texts: Sl, Pf. -/
import Derived.Test.YtgcgaoblbhojnaaFnCurvePicturesM19
import Derived.Test.YtgcgaoblbhojnaaFnCurvePicturesM8
import Derived.Test.YtgcgaoblbhojnaaFnCurvePicturesM1
import Derived.OwnWalk
import Derived.Laws.Strings3
import Derived.Test.YtgcgaoblbhojnaaFnCurvePicturesM9
import Derived.Test.YtgcgaoblbhojnaaPe
import Derived.Test.YtgcgaoblbhojnaaFnCurvePicturesM2
import Derived.Test.YtgcgaoblbhojnaaAu
namespace Go.Proofs.Ytgcgaoblbhojnaa
set_option linter.unusedSimpArgs false
set_option linter.unusedVariables false
open Go.ChangeShapes Go.WideShapes Go.ChangeAt Go.RowKit
theorem infoStr2 : (Try.prog.info? 9).map (fun i => (i.zero, i.size, i.bytes)) = some (some (.string ⟨#[]⟩), 1, 16) := by kernel_rfl
/-- The parts that end before byte k, and where the next begins. -/
def spS (s : ByteArray) (b : Int) : Nat → List ByteArray × Nat
  | 0 => ([], 0)
  | k + 1 => if (byteL s)[k]? = some b then ((spS s b k).1 ++ [s.extract (spS s b k).2 k], k + 1) else spS s b k
def spL (s : ByteArray) (b : Int) : List ByteArray := (spS s b s.size).1 ++ [s.extract (spS s b s.size).2 s.size]
theorem spS_bd (s : ByteArray) (b : Int) : ∀ k, (spS s b k).1.length ≤ k ∧ (spS s b k).2 ≤ k := by
  intro k
  induction k with
  | zero => exact ⟨Nat.le_refl _, Nat.le_refl _⟩
  | succ k ih =>
    rw [spS]
    split
    · simp; omega
    · omega
theorem spL_len (s : ByteArray) (b : Int) : (spL s b).length ≤ s.size + 1 := by
  have := (spS_bd s b s.size).1
  simp [spL]
  omega
def full (x : ByteArray) : Bool := !x.toList.isEmpty
def swL (s : ByteArray) : List ByteArray := (spL s 32).filter full
theorem swL_len (s : ByteArray) : (swL s).length ≤ s.size + 1 := Nat.le_trans (List.length_filter_le _ _) (spL_len s 32)
theorem filter_take (ss : List ByteArray) (j : Nat) (x : ByteArray) (h : ss[j]? = some x) : (ss.take (j + 1)).filter full = (ss.take j).filter full ++ (if full x then [x] else []) := by
  rw [List.take_add_one, h, List.filter_append]
  cases hx : full x <;> simp [hx]
theorem filter_len (ss : List ByteArray) (j : Nat) : ((ss.take j).filter full).length ≤ j := Nat.le_trans (List.length_filter_le _ _) (by simp; omega)
set_option maxRecDepth 100000 in
set_option maxHeartbeats 2000000 in
theorem l01Split_any (s : ByteArray) (b : Int) (w : World) (hs : s.size ≤ 1048576) (hb0 : 0 ≤ b ∧ b ≤ 255) :
    Calls Try.prog 110 #[.string s, .int .u8 b] w fun e w' => (∃ A' c', e = .returned (.slice A' (spL s b).length c') ∧ w'.ownsRow w.heap.size 9 1 (.slice A' (spL s b).length c') (spL s b).length (strs (spL s b))) ∧ Below w.heap.size w w' := by
  obtain ⟨us, his, hs0, hs1, hs2⟩ := info_parts infoStr2
  obtain ⟨n, hn⟩ : ∃ n, s.size = n := ⟨_, rfl⟩
  have hn20 : n ≤ 1048576 := by omega
  have HL : Hid (spL s b = (spS s b n).1 ++ [s.extract (spS s b n).2 n]) := hid (by unfold spL; rw [hn])
  have ho1 := World.ownsRow_lit (base := w.heap.size) (e := 9) (size := 1) w #[] 0 (Nat.le_refl _) (Nat.zero_le _) rfl
  have HO1 := hid ho1
  clear ho1
  go_enter Try.func110, Try.ntmps110
  go_wp2_with fail
  go_loopg [5, 6, 7] n (fun g v f i wr => ∃ k : Nat, k ≤ n ∧ f = .int .i64 ((spS s b k).2 : Nat) ∧ i = .int .i64 k ∧ g = n - k ∧ Hid (wr.ownsRow w.heap.size 9 1 v (spS s b k).1.length (strs (spS s b k).1)) ∧ Hid (Below w.heap.size w wr))
  case atStart => exact ⟨0, Nat.zero_le _, rfl, rfl, rfl, HO1, hid (bal (Below.refl _ _) _)⟩
  case round =>
    obtain ⟨k, hk, rfl, rfl, hg, HO, HB⟩ := hrel
    obtain ⟨p1, p2⟩ := spS_bd s b k
    obtain ⟨ps, hps⟩ : ∃ ps, spS s b k = ps := ⟨_, rfl⟩
    have HPS := hid hps
    rw [hps] at HO p1 p2
    simp only [hps]
    clear hps
    obtain ⟨os, fr⟩ := ps
    dsimp only at HO p1 p2 ⊢
    have hz := HB.out.size
    by_cases hlt : k < n
    · have hks : k < s.size := by omega
      obtain ⟨c, hc⟩ : ∃ c : Int, ((s[k]'hks).toNat : Int) = c := ⟨_, rfl⟩
      have HBY : Hid ((byteL s)[k]? = some c) := hid (by rw [byte_at s k hks, hc])
      by_cases he : c = b
      · have hbb : (c == b) = true := by simp [he]
        have HE : Hid (spS s b (k + 1) = (os ++ [s.extract fr k], k + 1)) := hid (by rw [spS, HBY.out, if_pos (by rw [he]), HPS.out])
        clear he
        go_wp2_with (at_builtin; (refine wpList_append_own _ rfl _ _ 27 rfl w.heap.size 9 us (.string ⟨#[]⟩) 1 16 Try.underlying27 his hs0 hs1 hs2 rfl (by decide) _ (os.length) (strs os) rfl (HO.out.alloc _) ⟨wr.heap.size, 0, none⟩ 1 1 [.string (s.extract fr k)] rfl rfl (World.news_of_block (cs := #[.string (s.extract fr k)]) (t := 9) (fr := (0, 0)) (heap_alloc_new wr _)) (by simp [Value.oneCell']) (by unfold maxLen; omega) (by omega) (by simp; omega) ?_; intro v' wz ho2 hgr _))
        have HH := hid (And.intro ho2 hgr)
        clear ho2 hgr
        go_roundg (n - (k + 1))
        case measure => omega
        case rel => exact ⟨k + 1, by omega, by rw [HE.out]; go_num, by go_num, rfl, by rw [HE.out]; exact hid (by simpa [strs] using HH.out.1), hid (bgrew (lo := w.heap.size) (bal HB.out _) HH.out.2 (fun q hq => (HO.out.lt q hq).1) (Nat.le_refl _))⟩
      · have hbb : (c == b) = false := by simp [he]
        have HE : Hid (spS s b (k + 1) = (os, fr)) := hid (by rw [spS, HBY.out, if_neg (by intro h; injection h with h; exact he h), HPS.out])
        clear he
        go_wp2_with fail
        go_roundg (n - (k + 1))
        case measure => omega
        case rel => exact ⟨k + 1, by omega, by rw [HE.out], by go_num, rfl, by rw [HE.out]; exact HO, HB⟩
    · obtain rfl : k = n := by omega
      have HLL : Hid (spL s b = os ++ [s.extract fr k]) := hid (by rw [HL.out, HPS.out])
      go_wp2_with (at_builtin; (refine wpList_append_own _ rfl _ _ 27 rfl w.heap.size 9 us (.string ⟨#[]⟩) 1 16 Try.underlying27 his hs0 hs1 hs2 rfl (by decide) _ (os.length) (strs os) rfl (HO.out.alloc _) ⟨wr.heap.size, 0, none⟩ 1 1 [.string (s.extract fr k)] rfl rfl (World.news_of_block (cs := #[.string (s.extract fr k)]) (t := 9) (fr := (0, 0)) (heap_alloc_new wr _)) (by simp [Value.oneCell']) (by unfold maxLen; omega) (by omega) (by simp; omega) ?_; intro v' wz ho2 hgr _))
      have HH := hid (And.intro ho2 hgr)
      clear hgr
      obtain ⟨A9, c9, rfl⟩ := own_form ho2
      clear ho2
      go_wp2_with fail
      go_ret
      refine ⟨⟨A9, c9, by rw [HLL.out]; simp, ?_⟩, bgrew (lo := w.heap.size) (bal HB.out _) HH.out.2 (fun q hq => (HO.out.lt q hq).1) (Nat.le_refl _)⟩
      rw [HLL.out]
      simpa [strs] using HH.out.1
end Go.Proofs.Ytgcgaoblbhojnaa
namespace Go.Proofs.Ytgcgaoblbhojnaa
set_option linter.unusedSimpArgs false
set_option linter.unusedVariables false
open Go.ChangeShapes Go.WideShapes Go.ChangeAt Go.RowKit
/-- The kind of a mark; -1: none. -/
def kdF (b : Int) : Int := if b = 43 then 0 else if b = 124 then 1 else if b = 45 then 2 else -1
theorem kdF_bd (b : Int) : -1 ≤ kdF b ∧ kdF b ≤ 2 := by unfold kdF; repeat (split <;> try omega)
/-- The fault of a byte at a place. -/
def chF (W H x y b : Int) : Int := if hasP W H x y = true then (if edgeP W H x y = true then (if b = 46 then 0 else 4) else (if kdF b < 0 then 3 else 0)) else (if b = 32 then 0 else 5)
def goodB (n : Nat) : Bool := decide (n % 2 = 1) && inR n 3 17
theorem good_bd {n : Nat} (h : goodB n = true) : n % 2 = 1 ∧ 3 ≤ n ∧ n ≤ 17 := by simp [goodB, inR] at h; omega
theorem good_side {n : Nat} (h : goodB n = true) : side ((n : Int) / 2) = true := by have := good_bd h; simp [side, inR]; omega
theorem good_not {n : Nat} (h : goodB n = false) : (n : Int) % 2 = 0 ∨ ((n : Int) % 2 = 1 ∧ side ((n : Int) / 2) = false) := by
  simp [goodB, inR] at h
  by_cases h2 : n % 2 = 1
  · right
    refine ⟨by omega, ?_⟩
    have := h h2
    simp [side, inR]
    omega
  · left; omega
/-- The first fault of a line. -/
def rowFlt (W H y : Int) : List Int → Nat → Option (Int × Nat)
  | [], _ => none
  | b :: bs, x => if chF W H x y b = 0 then rowFlt W H y bs (x + 1) else some (chF W H x y b, x)
/-- The first fault of lines. -/
def linFlt (W H : Int) (m : Nat) : List ByteArray → Nat → Option (Int × Nat × Nat)
  | [], _ => none
  | l :: ls, y => if l.size = m then (match rowFlt W H y (byteL l) 0 with | some (k, x) => some (k, y, x) | none => linFlt W H m ls (y + 1)) else some (2, y, 0)
def trip : Option (Int × Nat × Nat) → Int × Int × Int
  | none => (0, 0, 0)
  | some (k, y, x) => (k, y, x)
def fsz (ss : List ByteArray) : Nat := (ss.headD ⟨#[]⟩).size
def pfF (ss : List ByteArray) : Int × Int × Int := if goodB ss.length = true then (if goodB (fsz ss) = true then trip (linFlt ((fsz ss : Int) / 2) ((ss.length : Int) / 2) (fsz ss) ss 0) else (1, 0, 0)) else (1, 0, 0)
theorem rowFlt_step {W H y : Int} {bs : List Int} {x : Nat} {b : Int} (h : bs[x]? = some b) : rowFlt W H y (bs.drop x) x = if chF W H x y b = 0 then rowFlt W H y (bs.drop (x + 1)) (x + 1) else some (chF W H x y b, x) := by
  obtain ⟨hx, rfl⟩ := List.getElem?_eq_some_iff.1 h
  rw [List.drop_eq_getElem_cons hx, rowFlt]
theorem rowFlt_end {W H y : Int} {bs : List Int} {x : Nat} (h : bs.length ≤ x) : rowFlt W H y (bs.drop x) x = none := by rw [List.drop_eq_nil_of_le h]; rfl
theorem linFlt_step {W H : Int} {m : Nat} {ls : List ByteArray} {y : Nat} {l : ByteArray} (h : ls[y]? = some l) : linFlt W H m (ls.drop y) y = if l.size = m then (match rowFlt W H y (byteL l) 0 with | some (k, x) => some (k, y, x) | none => linFlt W H m (ls.drop (y + 1)) (y + 1)) else some (2, y, 0) := by
  obtain ⟨hy, rfl⟩ := List.getElem?_eq_some_iff.1 h
  rw [List.drop_eq_getElem_cons hy, linFlt]
theorem linFlt_end {W H : Int} {m : Nat} {ls : List ByteArray} {y : Nat} (h : ls.length ≤ y) : linFlt W H m (ls.drop y) y = none := by rw [List.drop_eq_nil_of_le h]; rfl
theorem lin_bad {W H : Int} {m : Nat} {ls : List ByteArray} {y : Nat} {l : ByteArray} {R : Option (Int × Nat × Nat)} (h : ls[y]? = some l) (hR : linFlt W H m (ls.drop y) y = R) (hs : ¬ l.size = m) : R = some (2, y, 0) := by
  rw [← hR, linFlt_step h, if_neg hs]
theorem lin_row {W H : Int} {m : Nat} {ls : List ByteArray} {y : Nat} {l : ByteArray} {R : Option (Int × Nat × Nat)} {k : Int} {x : Nat} (h : ls[y]? = some l) (hR : linFlt W H m (ls.drop y) y = R) (hs : l.size = m) (hr : rowFlt W H y (byteL l) 0 = some (k, x)) : R = some (k, y, x) := by
  rw [← hR, linFlt_step h, if_pos hs, hr]
theorem lin_next {W H : Int} {m : Nat} {ls : List ByteArray} {y : Nat} {l : ByteArray} {R : Option (Int × Nat × Nat)} (h : ls[y]? = some l) (hR : linFlt W H m (ls.drop y) y = R) (hs : l.size = m) (hr : rowFlt W H y (byteL l) 0 = none) : linFlt W H m (ls.drop (y + 1)) (y + 1) = R := by
  rw [← hR, linFlt_step h, if_pos hs, hr]
theorem ret_i3 {a b c d e f : Int} (h : a = d) (k : b = e) (l : c = f) : Ending.returned (.tuple #[.int .i64 a, .int .i64 b, .int .i64 c]) = .returned (.tuple #[.int .i64 d, .int .i64 e, .int .i64 f]) := by rw [h, k, l]
set_option maxHeartbeats 1000000 in
theorem markKind_any (b : Int) (w : World) : Calls Try.prog 64 #[.int .u8 b] w fun e w' => e = .returned (.int .i64 (kdF b)) ∧ w = w' := by
  go_enter Try.func64, Try.ntmps64
  go_wp2_with fail
  go_loopg [4] 3 (fun g i wr => ∃ k : Int, 0 ≤ k ∧ k ≤ 3 ∧ i = .int .i64 k ∧ g = (3 - k).toNat ∧ Hid (1 ≤ k → ¬ b = 43) ∧ Hid (2 ≤ k → ¬ b = 124) ∧ Hid (3 ≤ k → ¬ b = 45) ∧ w = wr)
  case atStart => exact ⟨0, by omega, by omega, rfl, rfl, hid (by omega), hid (by omega), hid (by omega), rfl⟩
  case round =>
    obtain ⟨k, k0, k3, rfl, hg, h1, h2, h3, rfl⟩ := hrel
    rcases (by omega : k = 0 ∨ k = 1 ∨ k = 2 ∨ k = 3) with rfl | rfl | rfl | rfl
    · by_cases hb : b = 43
      · have HV : Hid (kdF b = 0) := hid (by simp [kdF, hb])
        have hbb : ((((⟨#[43, 124, 45]⟩ : ByteArray)[0]'(by decide)).toNat : Int) == b) = true := by rw [hb]; rfl
        clear hb
        go_wp2_with fail
        go_ret
        exact ⟨ret_int HV.out.symm, rfl⟩
      · have hbb : ((((⟨#[43, 124, 45]⟩ : ByteArray)[0]'(by decide)).toNat : Int) == b) = false := by (have h0 : (((⟨#[43, 124, 45]⟩ : ByteArray)[0]'(by decide)).toNat : Int) = 43 := rfl); rw [h0]; simp; omega
        have HB := hid hb
        clear hb
        go_wp2_with fail
        go_roundg 2
        case measure => omega
        case rel => exact ⟨1, by omega, by omega, rfl, rfl, hid (fun _ => HB.out), hid (by omega), hid (by omega), rfl⟩
    · by_cases hb : b = 124
      · have HV : Hid (kdF b = 1) := hid (by simp [kdF, hb])
        have hbb : ((((⟨#[43, 124, 45]⟩ : ByteArray)[1]'(by decide)).toNat : Int) == b) = true := by rw [hb]; rfl
        clear hb
        go_wp2_with fail
        go_ret
        exact ⟨ret_int HV.out.symm, rfl⟩
      · have hbb : ((((⟨#[43, 124, 45]⟩ : ByteArray)[1]'(by decide)).toNat : Int) == b) = false := by (have h0 : (((⟨#[43, 124, 45]⟩ : ByteArray)[1]'(by decide)).toNat : Int) = 124 := rfl); rw [h0]; simp; omega
        have HB := hid hb
        clear hb
        go_wp2_with fail
        go_roundg 1
        case measure => omega
        case rel => exact ⟨2, by omega, by omega, rfl, rfl, hid (fun _ => h1.out (by omega)), hid (fun _ => HB.out), hid (by omega), rfl⟩
    · by_cases hb : b = 45
      · have HV : Hid (kdF b = 2) := hid (by simp [kdF, hb])
        have hbb : ((((⟨#[43, 124, 45]⟩ : ByteArray)[2]'(by decide)).toNat : Int) == b) = true := by rw [hb]; rfl
        clear hb
        go_wp2_with fail
        go_ret
        exact ⟨ret_int HV.out.symm, rfl⟩
      · have hbb : ((((⟨#[43, 124, 45]⟩ : ByteArray)[2]'(by decide)).toNat : Int) == b) = false := by (have h0 : (((⟨#[43, 124, 45]⟩ : ByteArray)[2]'(by decide)).toNat : Int) = 45 := rfl); rw [h0]; simp; omega
        have HB := hid hb
        clear hb
        go_wp2_with fail
        go_roundg 0
        case measure => omega
        case rel => exact ⟨3, by omega, by omega, rfl, rfl, hid (fun _ => h1.out (by omega)), hid (fun _ => h2.out (by omega)), hid (fun _ => HB.out), rfl⟩
    · have HV : Hid (kdF b = -1) := hid (by unfold kdF; rw [if_neg (h1.out (by omega)), if_neg (h2.out (by omega)), if_neg (h3.out (by omega))])
      go_wp2_with fail
      go_ret
      exact ⟨ret_int HV.out.symm, rfl⟩
set_option maxHeartbeats 1000000 in
theorem l05Kind_any (b : Int) (w : World) : Calls Try.prog 83 #[.int .u8 b] w fun e w' => e = .returned (.int .i64 (kdF b)) ∧ w = w' := by
  by_cases h1 : b = 43
  · subst h1
    go_enter Try.func83, Try.ntmps83
    go_wp2_with fail
    go_ret
    exact ⟨rfl, rfl⟩
  have e1 : (b == 43) = false := by simp; omega
  by_cases h2 : b = 124
  · subst h2
    go_enter Try.func83, Try.ntmps83
    go_wp2_with fail
    go_ret
    exact ⟨rfl, rfl⟩
  have e2 : (b == 124) = false := by simp; omega
  by_cases h3 : b = 45
  · subst h3
    go_enter Try.func83, Try.ntmps83
    go_wp2_with fail
    go_ret
    exact ⟨rfl, rfl⟩
  have e3 : (b == 45) = false := by simp; omega
  have HV : Hid (kdF b = -1) := hid (by unfold kdF; rw [if_neg h1, if_neg h2, if_neg h3])
  clear h1 h2 h3
  go_enter Try.func83, Try.ntmps83
  go_wp2_with fail
  go_ret
  exact ⟨ret_int HV.out.symm, rfl⟩
set_option maxHeartbeats 1000000 in
theorem l05Char_any (p : Nat) (W H x y b : Int) (s : Value) (w : World) (hp : PanP w p W H s) (hW : side W = true) (hH : side H = true) :
    Calls Try.prog 101 #[.pointer (some ⟨p, 0, none⟩), .agg #[.int .i64 x, .int .i64 y], .int .u8 b] w fun e w' => e = .returned (.int .i64 (chF W H x y b)) ∧ Below w.heap.size w w' := by
  have HP := hid hp
  have HW := hid hW
  have HH := hid hH
  clear hp hW hH
  cases hh : hasP W H x y
  · by_cases hb : b = 32
    · have HV : Hid (chF W H x y b = 0) := hid (by simp [chF, hh, hb])
      have hbn : (b != 32) = false := by simp [hb]
      have hh := hid hh
      clear hb
      go_enter Try.func101, Try.ntmps101
      go_wp2_with fail
      refine (calls_bool (l02Has_any _ W H x y _ _ (HP.out.alloc _) HW.out HH.out) hh.out).mono ?_
      rintro e w1 ⟨rfl, hb1⟩
      have KP1 := hid (Box.keep (Box.alloc HP.out _) hb1)
      have KQ1 := hid (Box.keep (Box.new w _ _) hb1)
      have HB1 := hid (bstep (bal (Below.refl _ _) _) hb1)
      clear hb1
      obtain ⟨Qa, Qb⟩ := KQ1.out.two
      have Qz := KQ1.out.lt
      go_wp2_with fail
      go_ret
      exact ⟨ret_int HV.out.symm, HB1.out⟩
    · have HV : Hid (chF W H x y b = 5) := hid (by simp [chF, hh, hb])
      have hbn : (b != 32) = true := by simp [hb]
      have hh := hid hh
      clear hb
      go_enter Try.func101, Try.ntmps101
      go_wp2_with fail
      refine (calls_bool (l02Has_any _ W H x y _ _ (HP.out.alloc _) HW.out HH.out) hh.out).mono ?_
      rintro e w1 ⟨rfl, hb1⟩
      have KP1 := hid (Box.keep (Box.alloc HP.out _) hb1)
      have KQ1 := hid (Box.keep (Box.new w _ _) hb1)
      have HB1 := hid (bstep (bal (Below.refl _ _) _) hb1)
      clear hb1
      obtain ⟨Qa, Qb⟩ := KQ1.out.two
      have Qz := KQ1.out.lt
      go_wp2_with fail
      go_ret
      exact ⟨ret_int HV.out.symm, HB1.out⟩
  · cases he : edgeP W H x y
    · by_cases hb : kdF b < 0
      · have HV : Hid (chF W H x y b = 3) := hid (by simp [chF, hh, he, hb])
        have hh := hid hh
        have he := hid he
        go_enter Try.func101, Try.ntmps101
        go_wp2_with fail
        refine (calls_bool (l02Has_any _ W H x y _ _ (HP.out.alloc _) HW.out HH.out) hh.out).mono ?_
        rintro e w1 ⟨rfl, hb1⟩
        have KP1 := hid (Box.keep (Box.alloc HP.out _) hb1)
        have KQ1 := hid (Box.keep (Box.new w _ _) hb1)
        have HB1 := hid (bstep (bal (Below.refl _ _) _) hb1)
        clear hb1
        obtain ⟨Qa, Qb⟩ := KQ1.out.two
        have Qz := KQ1.out.lt
        go_wp2_with fail
        refine (calls_bool (l02Edge_any _ W H x y _ _ KP1.out HW.out HH.out) he.out).mono ?_
        rintro e w2 ⟨rfl, hb2⟩
        have HB2 := hid (bstep HB1.out hb2)
        clear hb2 Qa Qb Qz
        go_wp2_with fail
        refine (l05Kind_any b _).mono ?_
        rintro e w' ⟨rfl, rfl⟩
        go_wp2_with fail
        go_ret
        exact ⟨ret_int HV.out.symm, HB2.out⟩
      · have HV : Hid (chF W H x y b = 0) := hid (by simp [chF, hh, he, hb])
        have hh := hid hh
        have he := hid he
        go_enter Try.func101, Try.ntmps101
        go_wp2_with fail
        refine (calls_bool (l02Has_any _ W H x y _ _ (HP.out.alloc _) HW.out HH.out) hh.out).mono ?_
        rintro e w1 ⟨rfl, hb1⟩
        have KP1 := hid (Box.keep (Box.alloc HP.out _) hb1)
        have KQ1 := hid (Box.keep (Box.new w _ _) hb1)
        have HB1 := hid (bstep (bal (Below.refl _ _) _) hb1)
        clear hb1
        obtain ⟨Qa, Qb⟩ := KQ1.out.two
        have Qz := KQ1.out.lt
        go_wp2_with fail
        refine (calls_bool (l02Edge_any _ W H x y _ _ KP1.out HW.out HH.out) he.out).mono ?_
        rintro e w2 ⟨rfl, hb2⟩
        have HB2 := hid (bstep HB1.out hb2)
        clear hb2 Qa Qb Qz
        go_wp2_with fail
        refine (l05Kind_any b _).mono ?_
        rintro e w' ⟨rfl, rfl⟩
        go_wp2_with fail
        go_ret
        exact ⟨ret_int HV.out.symm, HB2.out⟩
    · by_cases hb : b = 46
      · have HV : Hid (chF W H x y b = 0) := hid (by simp [chF, hh, he, hb])
        have hbn : (b != 46) = false := by simp [hb]
        have hh := hid hh
        have he := hid he
        clear hb
        go_enter Try.func101, Try.ntmps101
        go_wp2_with fail
        refine (calls_bool (l02Has_any _ W H x y _ _ (HP.out.alloc _) HW.out HH.out) hh.out).mono ?_
        rintro e w1 ⟨rfl, hb1⟩
        have KP1 := hid (Box.keep (Box.alloc HP.out _) hb1)
        have KQ1 := hid (Box.keep (Box.new w _ _) hb1)
        have HB1 := hid (bstep (bal (Below.refl _ _) _) hb1)
        clear hb1
        obtain ⟨Qa, Qb⟩ := KQ1.out.two
        have Qz := KQ1.out.lt
        go_wp2_with fail
        refine (calls_bool (l02Edge_any _ W H x y _ _ KP1.out HW.out HH.out) he.out).mono ?_
        rintro e w2 ⟨rfl, hb2⟩
        have HB2 := hid (bstep HB1.out hb2)
        clear hb2 Qa Qb Qz
        go_wp2_with fail
        go_ret
        exact ⟨ret_int HV.out.symm, HB2.out⟩
      · have HV : Hid (chF W H x y b = 4) := hid (by simp [chF, hh, he, hb])
        have hbn : (b != 46) = true := by simp [hb]
        have hh := hid hh
        have he := hid he
        clear hb
        go_enter Try.func101, Try.ntmps101
        go_wp2_with fail
        refine (calls_bool (l02Has_any _ W H x y _ _ (HP.out.alloc _) HW.out HH.out) hh.out).mono ?_
        rintro e w1 ⟨rfl, hb1⟩
        have KP1 := hid (Box.keep (Box.alloc HP.out _) hb1)
        have KQ1 := hid (Box.keep (Box.new w _ _) hb1)
        have HB1 := hid (bstep (bal (Below.refl _ _) _) hb1)
        clear hb1
        obtain ⟨Qa, Qb⟩ := KQ1.out.two
        have Qz := KQ1.out.lt
        go_wp2_with fail
        refine (calls_bool (l02Edge_any _ W H x y _ _ KP1.out HW.out HH.out) he.out).mono ?_
        rintro e w2 ⟨rfl, hb2⟩
        have HB2 := hid (bstep HB1.out hb2)
        clear hb2 Qa Qb Qz
        go_wp2_with fail
        go_ret
        exact ⟨ret_int HV.out.symm, HB2.out⟩
set_option maxHeartbeats 1000000 in
theorem goodC_any (n : Nat) (w : World) (hn : n ≤ 9223372036854775807) : Calls Try.prog 59 #[.int .i64 n] w fun e w' => e = .returned (.bool (goodB n)) ∧ w = w' := by
  by_cases h2 : n % 2 = 1
  · have hb : ((n : Int) % 2 == 1) = true := by simp; omega
    cases hi : inR n 3 17
    all_goals
      have HV := hid (show goodB n = inR n 3 17 by simp [goodB, h2])
      have HI := hid hi
      have HG := hid (HV.out.trans HI.out)
      clear h2 hi
      go_enter Try.func59, Try.ntmps59
      go_wp2_with (go_at_call 60; refine (calls_bool (inRange_any _ _ _ _) HI.out).mono ?_; rintro e w' ⟨rfl, rfl⟩)
      go_ret
      exact ⟨ret_bool HG.out.symm, rfl⟩
  · have hb : ((n : Int) % 2 == 1) = false := by simp; omega
    have HG : Hid (goodB n = false) := hid (by simp [goodB, h2])
    clear h2
    go_enter Try.func59, Try.ntmps59
    go_wp2_with fail
    go_ret
    exact ⟨ret_bool HG.out.symm, rfl⟩
set_option maxRecDepth 100000 in
set_option maxHeartbeats 8000000 in
theorem implPictureFault_any (A : Option Addr) (c : Nat) (ss : List ByteArray) (w : World) (hz : StrsR w w.heap.size A ss) (hl : ss.length ≤ 1048576) (hs : ∀ s ∈ ss, s.size ≤ 1048576) :
    Calls Try.prog 21 #[.slice A ss.length c] w fun e w' => e = .returned (.tuple #[.int .i64 (pfF ss).1, .int .i64 (pfF ss).2.1, .int .i64 (pfF ss).2.2]) ∧ Below w.heap.size w w' := by
  obtain ⟨n, hn⟩ : ∃ n, ss.length = n := ⟨_, rfl⟩
  rw [hn] at hl ⊢
  have HN := hid hn
  have HS := hid hs
  clear hn hs
  cases hg1 : goodB n
  · have HV : Hid (pfF ss = (1, 0, 0)) := hid (by unfold pfF; rw [HN.out, hg1]; rfl)
    have HG := hid hg1
    clear hg1
    go_enter Try.func21, Try.ntmps21
    go_wp2_with fail
    refine (calls_bool (goodC_any n _ (by omega)) HG.out).mono ?_
    rintro e w' ⟨rfl, rfl⟩
    go_wp2_with fail
    go_ret3
    exact ⟨ret_i3 (by rw [HV.out]) (by rw [HV.out]) (by rw [HV.out]), Below.refl _ _⟩
  have hgb := good_bd hg1
  obtain ⟨g1, g2, g3⟩ := hgb
  obtain ⟨s0, hs0⟩ : ∃ s, ss[0]? = some s := ⟨_, List.getElem?_eq_getElem (by have := HN.out; omega)⟩
  have hm0 := HS.out s0 (List.mem_of_getElem? hs0)
  obtain ⟨m, hm⟩ : ∃ m, s0.size = m := ⟨_, rfl⟩
  have HF : Hid (fsz ss = m) := hid (by rw [← hm]; unfold fsz; cases ss with | nil => simp at hs0 | cons a tl => (simp at hs0; subst hs0; rfl))
  obtain ⟨b, off, rfl, hbl, hc0⟩ := hz 0 s0 hs0
  rw [Nat.add_zero] at hc0
  rw [hm] at hm0
  have HG1 := hid hg1
  cases hg2 : goodB m
  · have HV : Hid (pfF ss = (1, 0, 0)) := hid (by unfold pfF; rw [HN.out, hg1, HF.out, hg2]; rfl)
    have HG := hid hg2
    clear hg1 hg2 hs0
    go_enter Try.func21, Try.ntmps21
    go_wp2_with fail
    refine (calls_bool (goodC_any n _ (by omega)) HG1.out).mono ?_
    rintro e w' ⟨rfl, rfl⟩
    go_wp2_with fail
    refine (calls_bool (goodC_any m _ (by omega)) HG.out).mono ?_
    rintro e w' ⟨rfl, rfl⟩
    go_wp2_with fail
    go_ret3
    exact ⟨ret_i3 (by rw [HV.out]) (by rw [HV.out]) (by rw [HV.out]), Below.refl _ _⟩
  obtain ⟨m1, m2, m3⟩ := good_bd hg2
  have HG := hid hg2
  have HSW := hid (good_side hg2)
  have HSH := hid (good_side hg1)
  have HV : Hid (pfF ss = trip (linFlt ((m : Int) / 2) ((n : Int) / 2) m ss 0)) := hid (by unfold pfF; rw [HN.out, hg1, HF.out, hg2]; rfl)
  have HS0 := hid hs0
  have HZ := hid hz
  clear hg1 hg2 hs0 hz
  have t1 : Int.tdiv (m : Int) 2 = (m : Int) / 2 := Int.tdiv_eq_ediv_of_nonneg (by omega)
  have t2 : Int.tdiv (n : Int) 2 = (n : Int) / 2 := Int.tdiv_eq_ediv_of_nonneg (by omega)
  obtain ⟨R, hR⟩ : ∃ R, linFlt ((m : Int) / 2) ((n : Int) / 2) m ss 0 = R := ⟨_, rfl⟩
  have HR := hid hR
  rw [hR] at HV
  clear hR
  go_enter Try.func21, Try.ntmps21
  go_wp2_with fail
  refine (calls_bool (goodC_any n _ (by omega)) HG1.out).mono ?_
  rintro e w' ⟨rfl, rfl⟩
  go_wp2_with fail
  refine (calls_bool (goodC_any m _ (by omega)) HG.out).mono ?_
  rintro e w' ⟨rfl, rfl⟩
  go_wp2_with fail
  refine (newPanel_any _ _ _ HSW.out HSH.out).mono ?_
  rintro e w1 ⟨⟨A1, c1, rfl, ho1⟩, hb1⟩
  have HB1 := hid hb1
  have hc1 : w1.cell? ⟨b, off, none⟩ = some (.string s0) := (hb1.cell (p := ⟨b, off, none⟩) hbl).trans hc0
  clear hb1 ho1 hc0
  obtain ⟨Wd, hWd⟩ : ∃ q, q = (m : Int) / 2 := ⟨_, rfl⟩
  obtain ⟨Hd, hHd⟩ : ∃ q, q = (n : Int) / 2 := ⟨_, rfl⟩
  rw [← hWd] at HSW HR ⊢
  rw [← hHd] at HSH HR ⊢
  obtain ⟨W1, W2⟩ := side_bd HSW.out
  obtain ⟨H1, H2⟩ := side_bd HSH.out
  have HWd := hid hWd
  have HHd := hid hHd
  clear hWd hHd t1 t2
  go_wp2_with fail
  go_loopg [36] n (fun g i wr => ∃ k : Nat, k ≤ n ∧ i = .int .i64 k ∧ g = n - k ∧ Hid (linFlt Wd Hd m (ss.drop k) k = R) ∧ Hid (Box wr w1.heap.size 39 #[.int .i64 Wd, .int .i64 Hd, .slice A1 (inner Wd Hd).toNat c1]) ∧ Hid (Below w.heap.size w wr))
  case atStart => exact ⟨0, Nat.zero_le _, rfl, rfl, HR, hid (Box.new w1 _ _), hid (bal HB1.out _)⟩
  case round =>
    obtain ⟨k, hk, rfl, hg, HL, KP, HB⟩ := hrel
    obtain ⟨wo, rfl⟩ : ∃ z, z = wr := ⟨_, rfl⟩
    by_cases hlt : k < n
    · obtain ⟨l, hlk⟩ : ∃ s, ss[k]? = some s := ⟨_, List.getElem?_eq_getElem (by have := HN.out; omega)⟩
      have HLK := hid hlk
      have hlm := HS.out l (List.mem_of_getElem? hlk)
      obtain ⟨b2, off2, e2, -, hck⟩ := (HZ.out.below HB.out) k l hlk
      obtain ⟨rfl, rfl⟩ : b = b2 ∧ off = off2 := by simpa using e2
      obtain ⟨b3, off3, e3, -, hck0⟩ := (HZ.out.below HB.out) 0 s0 HS0.out
      obtain ⟨rfl, rfl⟩ : b = b3 ∧ off = off3 := by simpa using e3
      rw [Nat.add_zero] at hck0
      obtain ⟨z, hlz⟩ : ∃ z, l.size = z := ⟨_, rfl⟩
      rw [hlz] at hlm
      clear e2 e3 hlk
      by_cases hzm : z = m
      · subst hzm
        have hne : ((z : Int) != (z : Int)) = false := by simp
        obtain ⟨r, hr⟩ : ∃ r, rowFlt Wd Hd k (byteL l) 0 = r := ⟨_, rfl⟩
        have HRR := hid hr
        clear hr
        go_wp2_with fail
        go_loopg [51] z (fun g i wx => ∃ x : Nat, x ≤ z ∧ i = .int .i64 x ∧ g = z - x ∧ Hid (rowFlt Wd Hd k ((byteL l).drop x) x = r) ∧ Hid (Box wx w1.heap.size 39 #[.int .i64 Wd, .int .i64 Hd, .slice A1 (inner Wd Hd).toNat c1]) ∧ Hid (Below w.heap.size w wx))
        case atStart => exact ⟨0, Nat.zero_le _, rfl, rfl, HRR, KP, HB⟩
        case round =>
          obtain ⟨x, hx, rfl, hg2, HX, KPx, HBx⟩ := hrel
          clear hck hck0 hc1
          by_cases hxl : x < z
          · have hxs : x < l.size := by omega
            obtain ⟨by', hby⟩ : ∃ b : Int, ((l[x]'hxs).toNat : Int) = b := ⟨_, rfl⟩
            have HBY : Hid ((byteL l)[x]? = some by') := hid (by rw [byte_at l x hxs, hby])
            have bd := byte_bd HBY.out
            have HST := hid (rowFlt_step (W := Wd) (H := Hd) (y := k) HBY.out)
            obtain ⟨Pa, Pb, Pc⟩ := KPx.out.three
            have Pz := KPx.out.lt
            cases hh : hasP Wd Hd x k
            · by_cases hb : by' = 32
              · skip
                have HE : Hid (rowFlt Wd Hd k ((byteL l).drop (x + 1)) (x + 1) = r) := hid (by have hc : chF Wd Hd x k by' = 0 := (by simp [chF, hh, hb]); have h1 := HX.out; rw [HST.out, if_pos hc] at h1; exact h1)
                have hbn : (by' != 32) = false := by simp [hb]
                have hh := hid hh
                clear hb
                go_wp2_with fail
                refine (calls_bool (isPoint_any Wd Hd x k _ _ _ _ HSW.out HSH.out) hh.out).mono ?_
                rintro e w2 ⟨rfl, hb2⟩
                have KP2 := hid (Box.keep (Box.alloc KPx.out _) hb2)
                have KQ2 := hid (Box.keep (Box.new wr _ _) hb2)
                have HB2 := hid (bbl (bal HBx.out _) hb2)
                clear hb2 Pa Pb Pc Pz
                obtain ⟨Pa, Pb, Pc⟩ := KP2.out.three
                have Pz := KP2.out.lt
                obtain ⟨Qa, Qb⟩ := KQ2.out.two
                have Qz := KQ2.out.lt
                go_wp2_with fail
                go_roundg (z - (x + 1))
                case measure => omega
                case rel => exact ⟨x + 1, by omega, by go_num, rfl, HE, KP2, HB2⟩
              · skip
                have HE : Hid (R = some (5, k, x)) := hid (by have hc : chF Wd Hd x k by' = 5 := (by simp [chF, hh, hb]); have h1 := HX.out; rw [HST.out, hc, if_neg (by decide)] at h1; exact lin_row HLK.out HL.out hlz (HRR.out.trans h1.symm))
                have hbn : (by' != 32) = true := by simp [hb]
                have hh := hid hh
                clear hb
                go_wp2_with fail
                refine (calls_bool (isPoint_any Wd Hd x k _ _ _ _ HSW.out HSH.out) hh.out).mono ?_
                rintro e w2 ⟨rfl, hb2⟩
                have KP2 := hid (Box.keep (Box.alloc KPx.out _) hb2)
                have KQ2 := hid (Box.keep (Box.new wr _ _) hb2)
                have HB2 := hid (bbl (bal HBx.out _) hb2)
                clear hb2 Pa Pb Pc Pz
                obtain ⟨Pa, Pb, Pc⟩ := KP2.out.three
                have Pz := KP2.out.lt
                obtain ⟨Qa, Qb⟩ := KQ2.out.two
                have Qz := KQ2.out.lt
                go_wp2_with fail
                go_quiet (fail)
                go_wp2_with fail
                go_ret3
                exact ⟨ret_i3 (by rw [HV.out, HE.out]; rfl) (by rw [HV.out, HE.out]; rfl) (by rw [HV.out, HE.out]; rfl), below_drewN HB2.out _⟩
            · cases he : edgeP Wd Hd x k
              · by_cases hb : kdF by' < 0
                · skip
                  have HE : Hid (R = some (3, k, x)) := hid (by have hc : chF Wd Hd x k by' = 3 := (by simp [chF, hh, he, hb]); have h1 := HX.out; rw [HST.out, hc, if_neg (by decide)] at h1; exact lin_row HLK.out HL.out hlz (HRR.out.trans h1.symm))
                  have hh := hid hh
                  have he := hid he
                  go_wp2_with fail
                  refine (calls_bool (isPoint_any Wd Hd x k _ _ _ _ HSW.out HSH.out) hh.out).mono ?_
                  rintro e w2 ⟨rfl, hb2⟩
                  have KP2 := hid (Box.keep (Box.alloc KPx.out _) hb2)
                  have KQ2 := hid (Box.keep (Box.new wr _ _) hb2)
                  have HB2 := hid (bbl (bal HBx.out _) hb2)
                  clear hb2 Pa Pb Pc Pz
                  obtain ⟨Pa, Pb, Pc⟩ := KP2.out.three
                  have Pz := KP2.out.lt
                  obtain ⟨Qa, Qb⟩ := KQ2.out.two
                  have Qz := KQ2.out.lt
                  go_wp2_with fail
                  refine (calls_bool (isBorder_any Wd Hd x k _ _ _ _ HSW.out HSH.out) he.out).mono ?_
                  rintro e w3 ⟨rfl, hb3⟩
                  have KP3 := hid (Box.keep KP2.out hb3)
                  have KQ3 := hid (Box.keep KQ2.out hb3)
                  have HB3 := hid (bbl HB2.out hb3)
                  clear hb3 Pa Pb Pc Pz Qa Qb Qz
                  obtain ⟨Pa, Pb, Pc⟩ := KP3.out.three
                  have Pz := KP3.out.lt
                  obtain ⟨Qa, Qb⟩ := KQ3.out.two
                  have Qz := KQ3.out.lt
                  go_wp2_with fail
                  refine (markKind_any by' _).mono ?_
                  rintro e w' ⟨rfl, rfl⟩
                  go_wp2_with fail
                  go_quiet (fail)
                  go_wp2_with fail
                  go_ret3
                  exact ⟨ret_i3 (by rw [HV.out, HE.out]; rfl) (by rw [HV.out, HE.out]; rfl) (by rw [HV.out, HE.out]; rfl), below_drewN HB3.out _⟩
                · skip
                  have HE : Hid (rowFlt Wd Hd k ((byteL l).drop (x + 1)) (x + 1) = r) := hid (by have hc : chF Wd Hd x k by' = 0 := (by simp [chF, hh, he, hb]); have h1 := HX.out; rw [HST.out, if_pos hc] at h1; exact h1)
                  have hh := hid hh
                  have he := hid he
                  go_wp2_with fail
                  refine (calls_bool (isPoint_any Wd Hd x k _ _ _ _ HSW.out HSH.out) hh.out).mono ?_
                  rintro e w2 ⟨rfl, hb2⟩
                  have KP2 := hid (Box.keep (Box.alloc KPx.out _) hb2)
                  have KQ2 := hid (Box.keep (Box.new wr _ _) hb2)
                  have HB2 := hid (bbl (bal HBx.out _) hb2)
                  clear hb2 Pa Pb Pc Pz
                  obtain ⟨Pa, Pb, Pc⟩ := KP2.out.three
                  have Pz := KP2.out.lt
                  obtain ⟨Qa, Qb⟩ := KQ2.out.two
                  have Qz := KQ2.out.lt
                  go_wp2_with fail
                  refine (calls_bool (isBorder_any Wd Hd x k _ _ _ _ HSW.out HSH.out) he.out).mono ?_
                  rintro e w3 ⟨rfl, hb3⟩
                  have KP3 := hid (Box.keep KP2.out hb3)
                  have KQ3 := hid (Box.keep KQ2.out hb3)
                  have HB3 := hid (bbl HB2.out hb3)
                  clear hb3 Pa Pb Pc Pz Qa Qb Qz
                  obtain ⟨Pa, Pb, Pc⟩ := KP3.out.three
                  have Pz := KP3.out.lt
                  obtain ⟨Qa, Qb⟩ := KQ3.out.two
                  have Qz := KQ3.out.lt
                  go_wp2_with fail
                  refine (markKind_any by' _).mono ?_
                  rintro e w' ⟨rfl, rfl⟩
                  go_wp2_with fail
                  go_roundg (z - (x + 1))
                  case measure => omega
                  case rel => exact ⟨x + 1, by omega, by go_num, rfl, HE, KP3, HB3⟩
              · by_cases hb : by' = 46
                · skip
                  have HE : Hid (rowFlt Wd Hd k ((byteL l).drop (x + 1)) (x + 1) = r) := hid (by have hc : chF Wd Hd x k by' = 0 := (by simp [chF, hh, he, hb]); have h1 := HX.out; rw [HST.out, if_pos hc] at h1; exact h1)
                  have hbn : (by' != 46) = false := by simp [hb]
                  have hh := hid hh
                  have he := hid he
                  clear hb
                  go_wp2_with fail
                  refine (calls_bool (isPoint_any Wd Hd x k _ _ _ _ HSW.out HSH.out) hh.out).mono ?_
                  rintro e w2 ⟨rfl, hb2⟩
                  have KP2 := hid (Box.keep (Box.alloc KPx.out _) hb2)
                  have KQ2 := hid (Box.keep (Box.new wr _ _) hb2)
                  have HB2 := hid (bbl (bal HBx.out _) hb2)
                  clear hb2 Pa Pb Pc Pz
                  obtain ⟨Pa, Pb, Pc⟩ := KP2.out.three
                  have Pz := KP2.out.lt
                  obtain ⟨Qa, Qb⟩ := KQ2.out.two
                  have Qz := KQ2.out.lt
                  go_wp2_with fail
                  refine (calls_bool (isBorder_any Wd Hd x k _ _ _ _ HSW.out HSH.out) he.out).mono ?_
                  rintro e w3 ⟨rfl, hb3⟩
                  have KP3 := hid (Box.keep KP2.out hb3)
                  have KQ3 := hid (Box.keep KQ2.out hb3)
                  have HB3 := hid (bbl HB2.out hb3)
                  clear hb3 Pa Pb Pc Pz Qa Qb Qz
                  obtain ⟨Pa, Pb, Pc⟩ := KP3.out.three
                  have Pz := KP3.out.lt
                  obtain ⟨Qa, Qb⟩ := KQ3.out.two
                  have Qz := KQ3.out.lt
                  go_wp2_with fail
                  go_roundg (z - (x + 1))
                  case measure => omega
                  case rel => exact ⟨x + 1, by omega, by go_num, rfl, HE, KP3, HB3⟩
                · skip
                  have HE : Hid (R = some (4, k, x)) := hid (by have hc : chF Wd Hd x k by' = 4 := (by simp [chF, hh, he, hb]); have h1 := HX.out; rw [HST.out, hc, if_neg (by decide)] at h1; exact lin_row HLK.out HL.out hlz (HRR.out.trans h1.symm))
                  have hbn : (by' != 46) = true := by simp [hb]
                  have hh := hid hh
                  have he := hid he
                  clear hb
                  go_wp2_with fail
                  refine (calls_bool (isPoint_any Wd Hd x k _ _ _ _ HSW.out HSH.out) hh.out).mono ?_
                  rintro e w2 ⟨rfl, hb2⟩
                  have KP2 := hid (Box.keep (Box.alloc KPx.out _) hb2)
                  have KQ2 := hid (Box.keep (Box.new wr _ _) hb2)
                  have HB2 := hid (bbl (bal HBx.out _) hb2)
                  clear hb2 Pa Pb Pc Pz
                  obtain ⟨Pa, Pb, Pc⟩ := KP2.out.three
                  have Pz := KP2.out.lt
                  obtain ⟨Qa, Qb⟩ := KQ2.out.two
                  have Qz := KQ2.out.lt
                  go_wp2_with fail
                  refine (calls_bool (isBorder_any Wd Hd x k _ _ _ _ HSW.out HSH.out) he.out).mono ?_
                  rintro e w3 ⟨rfl, hb3⟩
                  have KP3 := hid (Box.keep KP2.out hb3)
                  have KQ3 := hid (Box.keep KQ2.out hb3)
                  have HB3 := hid (bbl HB2.out hb3)
                  clear hb3 Pa Pb Pc Pz Qa Qb Qz
                  obtain ⟨Pa, Pb, Pc⟩ := KP3.out.three
                  have Pz := KP3.out.lt
                  obtain ⟨Qa, Qb⟩ := KQ3.out.two
                  have Qz := KQ3.out.lt
                  go_wp2_with fail
                  go_quiet (fail)
                  go_wp2_with fail
                  go_ret3
                  exact ⟨ret_i3 (by rw [HV.out, HE.out]; rfl) (by rw [HV.out, HE.out]; rfl) (by rw [HV.out, HE.out]; rfl), below_drewN HB3.out _⟩
          · obtain rfl : x = z := by omega
            have HE : Hid (linFlt Wd Hd x (ss.drop (k + 1)) (k + 1) = R) := hid (lin_next HLK.out HL.out hlz (by have h1 := HX.out; rw [rowFlt_end (by rw [byteL_length]; omega)] at h1; rw [HRR.out, ← h1]))
            go_wp2_with fail
            go_roundg (n - (k + 1))
            case measure => omega
            case rel => exact ⟨k + 1, by omega, by go_num, rfl, HE, KPx, HBx⟩
      · have hne : ((z : Int) != (m : Int)) = true := by simp; omega
        have HE := hid (lin_bad HLK.out HL.out (by omega))
        go_wp2_with fail
        go_ret3
        exact ⟨ret_i3 (by rw [HV.out, HE.out]; rfl) (by rw [HV.out, HE.out]; rfl) (by rw [HV.out, HE.out]; rfl), HB.out⟩
    · obtain rfl : k = n := by omega
      have HE : Hid (R = none) := hid (by rw [← HL.out]; exact linFlt_end (by have := HN.out; omega))
      go_wp2_with fail
      go_ret3
      exact ⟨ret_i3 (by rw [HV.out, HE.out]; rfl) (by rw [HV.out, HE.out]; rfl) (by rw [HV.out, HE.out]; rfl), HB.out⟩
end Go.Proofs.Ytgcgaoblbhojnaa

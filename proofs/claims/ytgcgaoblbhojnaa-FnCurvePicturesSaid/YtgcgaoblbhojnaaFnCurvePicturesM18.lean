/- Merged texts: Dc, De. -/
import Derived.Test.YtgcgaoblbhojnaaFnCurvePicturesM8
import Derived.Test.YtgcgaoblbhojnaaFnCurvePicturesM1
import Derived.OwnWalk
import Derived.Laws.Slices
import Derived.Deep.WholeRow
import Derived.Test.YtgcgaoblbhojnaaAu
import Derived.Test.YtgcgaoblbhojnaaFnCurvePicturesM14
namespace Go.Proofs.Ytgcgaoblbhojnaa
set_option linter.unusedSimpArgs false
set_option linter.unusedVariables false
open Go.ChangeShapes Go.WideShapes Go.ChangeAt Go.RowKit
/-- The digits of q, put ahead of acc. -/
def dgL : Nat → Nat → List Int → List Int
  | 0, _, acc => acc
  | f + 1, q, acc => if q = 0 then acc else dgL f (q / 10) ((48 + (q : Int) % 10) :: acc)
theorem dgL_zero (f : Nat) (acc : List Int) : dgL f 0 acc = acc := by cases f <;> rfl
def decL (n : Int) : List Int := if n = 0 then [48] else (if n < 0 then [45] else []) ++ dgL 20 n.natAbs []
def decS (n : Int) : ByteArray := strOfNums (decL n)
theorem decS0 : decS 0 = ⟨#[48]⟩ := rfl
def arr20 (acc : List Int) : List Value := List.replicate (20 - acc.length) (Value.int .u8 0) ++ acc.map (Value.int .u8)
theorem arr20_length (acc : List Int) (h : acc.length ≤ 20) : (arr20 acc).length = 20 := by unfold arr20; rw [List.length_append, List.length_replicate, List.length_map]; omega
theorem arr20_set (acc : List Int) (d : Int) (h : acc.length < 20) : (arr20 acc).set (19 - acc.length) (.int .u8 d) = arr20 (d :: acc) := by
  unfold arr20
  have e : List.replicate (20 - acc.length) (Value.int .u8 0) = List.replicate (20 - (acc.length + 1)) (Value.int .u8 0) ++ [Value.int .u8 0] := by
    rw [show 20 - acc.length = (20 - (acc.length + 1)) + 1 by omega, List.replicate_succ']
  rw [e, List.append_assoc, List.set_append_right _ _ (by rw [List.length_replicate]; omega)]
  simp only [List.length_replicate]
  rw [show 19 - acc.length - (20 - (acc.length + 1)) = 0 by omega]
  simp
theorem arr20_at (acc : List Int) (h : acc.length ≤ 20) (i : Nat) (hi : i < acc.length) : (arr20 acc)[20 - acc.length + i]? = some (.int .u8 (acc.getD i 0)) := by
  unfold arr20
  rw [List.getElem?_append_right (by simp)]
  simp [List.getD_eq_getElem?_getD, List.getElem?_eq_getElem hi]
def z20 : Array Value := (arr20 []).toArray
theorem st20 (w : World) : (storeCells ⟨w.heap.size, 0, none⟩ z20.toList).run Try.prog (w.alloc (.cells z20 63)) = .ok () (w.alloc (.cells z20 63)) := run_storeCells_new w 63 z20 z20 (by kernel_rfl) rfl (by kernel_rfl)
theorem zv20 : ∀ w, (zeroValue 63).run Try.prog w = .ok (.agg z20) w := (zero_of_info (n := 20) (by kernel_rfl)).1
set_option maxRecDepth 100000 in
set_option maxHeartbeats 4000000 in
theorem implDecimal_any (n : Int) (w : World) (hn : (Lit.int .i64 n).wf = true) : Calls Try.prog 15 #[.int .i64 n] w fun e w' => e = .returned (.string (decS n)) ∧ Below w.heap.size w w' := by
  have hb : -9223372036854775808 ≤ n ∧ n ≤ 9223372036854775807 := by
    have := hn
    simp [Lit.wf, IntKind.min, IntKind.max, IntKind.bits, IntKind.signed] at this
    omega
  obtain ⟨b1, b2⟩ := hb
  clear hn
  have hzv := zv20
  have hst := st20 w
  by_cases h0 : n = 0
  · subst h0
    go_enter Try.func15, Try.ntmps15
    go_wp2_with fail
    go_ret
    exact ⟨rfl, Below.refl _ _⟩
  · have hn0 : (n == 0) = false := by simp [h0]
    by_cases hneg : n < 0
    · have u1 : IntKind.u64.wrap n = n + 18446744073709551616 := by rw [IntKind.wrap_u64]; omega
      have u2 : IntKind.u64.wrap (-(n + 18446744073709551616)) = n.natAbs := by rw [IntKind.wrap_u64]; omega
      go_enter Try.func15, Try.ntmps15
      go_wp2_with fail
      go_loopg [4, 5] 20 (fun g a r wr => ∃ (q : Nat) (acc : List Int), a = .int .i64 g ∧ r = .int .u64 q ∧ acc.length + g = 20 ∧ q * 10 < 10 ^ g ∧ q ≤ 9223372036854775808 ∧ 1 ≤ g ∧ (g = 20 → 0 < q) ∧ Hid (dgL g q acc = dgL 20 n.natAbs []) ∧ Hid (Box wr w.heap.size 63 (arr20 acc).toArray) ∧ Hid (Below w.heap.size w wr))
      case atStart => exact ⟨n.natAbs, [], rfl, rfl, rfl, by omega, by omega, by omega, by omega, hid rfl, hid (Box.new _ _ _), hid (bal (Below.refl _ _) _)⟩
      case round =>
        obtain ⟨q, acc, rfl, rfl, hacc, hq, hq2, hg1, hg0, HD, KB, HB⟩ := hrel
        have kz := KB.out.lt
        by_cases hz : q = 0
        · subst hz
          have HE : Hid (acc = dgL 20 n.natAbs []) := hid (by rw [← HD.out, dgL_zero])
          have HL := hid hacc
          obtain ⟨m, rfl⟩ : ∃ m, gk = m + 1 := ⟨gk - 1, by omega⟩
          have HV : Hid (decS n = strOfNums (45 :: acc)) := hid (by unfold decS decL; rw [if_neg h0, if_pos hneg, HE.out]; rfl)
          have hm20 : m < 20 := by omega
          have hm20i : (m : Int) < 20 := by omega
          obtain ⟨u, hu⟩ : ∃ u, (arr20 acc)[m]? = some u := ⟨_, List.getElem?_eq_getElem (by rw [arr20_length _ (by omega)]; exact hm20)⟩
          have hc : wr.cell? ⟨w.heap.size, m, none⟩ = some u := (KB.out.cell m).trans (by simpa using hu)
          have hf := KB.out.free m
          have KB2 := hid (Box.put KB.out m (.int .u8 45))
          have HAS : Hid ((arr20 acc).toArray.setIfInBounds m (.int .u8 45) = (arr20 (45 :: acc)).toArray) := hid (by have h := arr20_set acc 45 (by omega); rw [show 19 - acc.length = m by omega] at h; rw [← h]; simp)
          have ts : IntKind.i64.wrap (((m + 1 : Nat) : Int) - 1) = (m : Int) := by rw [IntWalk.i64_in _ (by omega)]; omega
          have kc : (convert 54 9 (.slice (some ⟨w.heap.size, m, none⟩) (20 - m) (20 - m))).run Try.prog (wr.setCell ⟨w.heap.size, m, none⟩ (.int .u8 45)) = .ok (.string (strOfNums (45 :: acc))) (wr.setCell ⟨w.heap.size, m, none⟩ (.int .u8 45)) := by
            refine run_convert_bytes_arg (P := Try.prog) _ 54 5 Try.underlying54 Try.underlying5 w.heap.size m (20 - m) (20 - m) (45 :: acc) (by simp; omega) ?_ 9 Try.underlying9
            intro i hi
            rw [KB2.out.cell (m + i), HAS.out]
            have := arr20_at (45 :: acc) (by simp; omega) i (by simp; omega)
            rw [show 20 - (45 :: acc).length = m by simp; omega] at this
            simpa using this
          have hg20 : (m : Int) ≤ 20 := by omega
          have hgne : ¬ (20 = m) := by omega
          clear hacc hq hu hg0
          go_wp2_with fail
          go_ret
          rw [HV.out]
          exact ⟨rfl, Below.setCell HB.out (Nat.le_refl _) _⟩
        · obtain ⟨m, rfl⟩ : ∃ m, gk = m + 1 := ⟨gk - 1, by omega⟩
          have hqm : q < 10 ^ m := by rw [Nat.pow_succ] at hq; omega
          have hm1 : 1 ≤ m := by cases m with | zero => (simp at hqm; omega) | succ m => omega
          have HN : Hid (q / 10 * 10 < 10 ^ m) := hid (by omega)
          have hm20 : m < 20 := by omega
          have hm20i : (m : Int) < 20 := by omega
          have hpos : (0 : Int) < q := by omega
          have HD2 : Hid (dgL m (q / 10) ((48 + (q : Int) % 10) :: acc) = dgL 20 n.natAbs []) := hid (by rw [← HD.out, dgL, if_neg hz])
          obtain ⟨u, hu⟩ : ∃ u, (arr20 acc)[m]? = some u := ⟨_, List.getElem?_eq_getElem (by rw [arr20_length _ (by omega)]; exact hm20)⟩
          have hc : wr.cell? ⟨w.heap.size, m, none⟩ = some u := (KB.out.cell m).trans (by simpa using hu)
          have hf := KB.out.free m
          have HL := hid hacc
          have HAS : Hid ((arr20 acc).toArray.setIfInBounds m (.int .u8 (48 + (q : Int) % 10)) = (arr20 ((48 + (q : Int) % 10) :: acc)).toArray) := hid (by have h := arr20_set acc (48 + (q : Int) % 10) (by omega); rw [show 19 - acc.length = m by omega] at h; rw [← h]; simp)
          have t1 : IntKind.u64.wrap (48 + (q : Int) % 10) = 48 + (q : Int) % 10 := by rw [IntKind.wrap_u64]; omega
          have t2 : IntKind.u8.wrap (48 + (q : Int) % 10) = 48 + (q : Int) % 10 := IntWalk.u8_in _ (by omega)
          have ts : IntKind.i64.wrap (((m + 1 : Nat) : Int) - 1) = (m : Int) := by rw [IntWalk.i64_in _ (by omega)]; omega
          clear hacc hq hqm hu hg0
          go_wp2_with fail
          go_roundg m
          case measure => omega
          case rel => exact ⟨q / 10, (48 + (q : Int) % 10) :: acc, by go_num, by go_num, by have := HL.out; simp; omega, HN.out, by omega, hm1, by omega, HD2, hid (by rw [← HAS.out]; exact Box.put KB.out m _), hid (Below.setCell HB.out (Nat.le_refl _) _)⟩
    · have u1 : IntKind.u64.wrap n = n.natAbs := by rw [IntKind.wrap_u64]; omega
      go_enter Try.func15, Try.ntmps15
      go_wp2_with fail
      go_loopg [4, 5] 20 (fun g a r wr => ∃ (q : Nat) (acc : List Int), a = .int .i64 g ∧ r = .int .u64 q ∧ acc.length + g = 20 ∧ q * 10 < 10 ^ g ∧ q ≤ 9223372036854775808 ∧ 1 ≤ g ∧ (g = 20 → 0 < q) ∧ Hid (dgL g q acc = dgL 20 n.natAbs []) ∧ Hid (Box wr w.heap.size 63 (arr20 acc).toArray) ∧ Hid (Below w.heap.size w wr))
      case atStart => exact ⟨n.natAbs, [], rfl, rfl, rfl, by omega, by omega, by omega, by omega, hid rfl, hid (Box.new _ _ _), hid (bal (Below.refl _ _) _)⟩
      case round =>
        obtain ⟨q, acc, rfl, rfl, hacc, hq, hq2, hg1, hg0, HD, KB, HB⟩ := hrel
        have kz := KB.out.lt
        by_cases hz : q = 0
        · subst hz
          have HE : Hid (acc = dgL 20 n.natAbs []) := hid (by rw [← HD.out, dgL_zero])
          have HL := hid hacc
          have HV : Hid (decS n = strOfNums acc) := hid (by unfold decS decL; rw [if_neg h0, if_neg (by omega), List.nil_append, HE.out])
          have kc : (convert 54 9 (.slice (some ⟨w.heap.size, gk, none⟩) (20 - gk) (20 - gk))).run Try.prog wr = .ok (.string (strOfNums acc)) wr := by
            refine run_convert_bytes_arg (P := Try.prog) _ 54 5 Try.underlying54 Try.underlying5 w.heap.size gk (20 - gk) (20 - gk) acc (by omega) ?_ 9 Try.underlying9
            intro i hi
            rw [KB.out.cell (gk + i)]
            have := arr20_at acc (by omega) i (by omega)
            rw [show 20 - acc.length = gk by omega] at this
            simpa using this
          have hg20 : (gk : Int) ≤ 20 := by omega
          have hgne : ¬ (20 = gk) := by omega
          clear hacc hq hg0
          go_wp2_with fail
          go_ret
          rw [HV.out]
          exact ⟨rfl, HB.out⟩
        · obtain ⟨m, rfl⟩ : ∃ m, gk = m + 1 := ⟨gk - 1, by omega⟩
          have hqm : q < 10 ^ m := by rw [Nat.pow_succ] at hq; omega
          have hm1 : 1 ≤ m := by cases m with | zero => (simp at hqm; omega) | succ m => omega
          have HN : Hid (q / 10 * 10 < 10 ^ m) := hid (by omega)
          have hm20 : m < 20 := by omega
          have hm20i : (m : Int) < 20 := by omega
          have hpos : (0 : Int) < q := by omega
          have HD2 : Hid (dgL m (q / 10) ((48 + (q : Int) % 10) :: acc) = dgL 20 n.natAbs []) := hid (by rw [← HD.out, dgL, if_neg hz])
          obtain ⟨u, hu⟩ : ∃ u, (arr20 acc)[m]? = some u := ⟨_, List.getElem?_eq_getElem (by rw [arr20_length _ (by omega)]; exact hm20)⟩
          have hc : wr.cell? ⟨w.heap.size, m, none⟩ = some u := (KB.out.cell m).trans (by simpa using hu)
          have hf := KB.out.free m
          have HL := hid hacc
          have HAS : Hid ((arr20 acc).toArray.setIfInBounds m (.int .u8 (48 + (q : Int) % 10)) = (arr20 ((48 + (q : Int) % 10) :: acc)).toArray) := hid (by have h := arr20_set acc (48 + (q : Int) % 10) (by omega); rw [show 19 - acc.length = m by omega] at h; rw [← h]; simp)
          have t1 : IntKind.u64.wrap (48 + (q : Int) % 10) = 48 + (q : Int) % 10 := by rw [IntKind.wrap_u64]; omega
          have t2 : IntKind.u8.wrap (48 + (q : Int) % 10) = 48 + (q : Int) % 10 := IntWalk.u8_in _ (by omega)
          have ts : IntKind.i64.wrap (((m + 1 : Nat) : Int) - 1) = (m : Int) := by rw [IntWalk.i64_in _ (by omega)]; omega
          clear hacc hq hqm hu hg0
          go_wp2_with fail
          go_roundg m
          case measure => omega
          case rel => exact ⟨q / 10, (48 + (q : Int) % 10) :: acc, by go_num, by go_num, by have := HL.out; simp; omega, HN.out, by omega, hm1, by omega, HD2, hid (by rw [← HAS.out]; exact Box.put KB.out m _), hid (Below.setCell HB.out (Nat.le_refl _) _)⟩
end Go.Proofs.Ytgcgaoblbhojnaa
namespace Go.Proofs.Ytgcgaoblbhojnaa
set_option linter.unusedSimpArgs false
set_option linter.unusedVariables false
open Go.ChangeShapes Go.WideShapes Go.ChangeAt Go.RowKit
theorem strOfNums_app (a : Int) (l : List Int) : strOfNums ([a] ++ l) = strOfNums [a] ++ strOfNums l := by
  simp only [strOfNums]
  apply ByteArray.ext
  simp
theorem news_own {w : World} {B g n cap : Nat} {bs : List Int} (h : w.ownsRow B 5 1 (.slice (some ⟨g, 0, none⟩) n cap) n (bytesV bs)) : ∀ j u, (bytesV bs)[j]? = some u → w.cell? ((⟨g, 0, none⟩ : Addr).add j) = some u := by
  intro j u hu
  have hj : j < n := by have h1 := (List.getElem?_eq_some_iff.1 hu).1; have h2 := h.1; omega
  rw [add_plain, Nat.zero_add, World.ownsRow.cellAt h j (by omega)]
  exact hu
set_option maxRecDepth 100000 in
set_option maxHeartbeats 4000000 in
theorem l01Dec_any (n : Int) (w : World) (hn : (Lit.int .i64 n).wf = true) : Calls Try.prog 56 #[.int .i64 n] w fun e w' => e = .returned (.string (decS n)) ∧ Below w.heap.size w w' := by
  have hb : -9223372036854775808 ≤ n ∧ n ≤ 9223372036854775807 := by
    have := hn
    simp [Lit.wf, IntKind.min, IntKind.max, IntKind.bits, IntKind.signed] at this
    omega
  obtain ⟨b1, b2⟩ := hb
  clear hn
  obtain ⟨ub, hib, hb0, hb1, hb2⟩ := info_parts infoU8
  by_cases h0 : n = 0
  · subst h0
    go_enter Try.func56, Try.ntmps56
    go_wp2_with fail
    refine wp_loop_rounds 1 ?_
    rw [rounds_succ]
    go_wp2_with fail
    go_ret
    exact ⟨rfl, bal (Below.refl _ _) _⟩
  have hn0 : (n == 0) = false := by simp [h0]
  by_cases hneg : n < 0
  · skip
    go_enter Try.func56, Try.ntmps56
    go_wp2_with fail
    go_loopg [3, 4] 20 (fun g o a wr => ∃ (q : Nat) (acc : List Int) (gb cap : Nat), o = .slice (some ⟨gb, 0, none⟩) acc.length cap ∧ a = .int .i64 (-(q : Int)) ∧ q < 10 ^ g ∧ q ≤ 9223372036854775808 ∧  acc.length + g = 20 ∧ (g = 20 → 0 < q) ∧ Hid (dgL g q acc = dgL 20 n.natAbs []) ∧ Hid (wr.ownsRow w.heap.size 5 1 (.slice (some ⟨gb, 0, none⟩) acc.length cap) acc.length (bytesV acc)) ∧ Hid (Below w.heap.size w wr))
    case atStart => exact ⟨n.natAbs, [], w.heap.size, 0, rfl, by congr 1; omega, by omega, by omega, rfl, by omega, hid rfl, hid (World.ownsRow_lit (base := w.heap.size) (e := 5) (size := 1) w #[] 0 (Nat.le_refl _) (Nat.zero_le _) rfl), hid (bal (Below.refl _ _) _)⟩
    case round =>
      obtain ⟨q, acc, gb, cap, rfl, rfl, hq, hq2, hacc, hg0, HD, HO, HB⟩ := hrel
      by_cases hz : q = 0
      · subst hz
        have HE : Hid (acc = dgL 20 n.natAbs []) := hid (by rw [← HD.out, dgL_zero])
        have hpos : 0 < acc.length := by omega
        have hpos2 : ¬ (acc.length = 0) := by omega
        have hal : acc.length ≤ 20 := by omega
        have kc := conv_own HO.out
        have HV : Hid (decS n = ⟨#[45]⟩ ++ strOfNums acc) := hid (by unfold decS decL; rw [if_neg h0, if_pos hneg, HE.out]; exact strOfNums_app _ _)
        have hs : ¬ (9223372036854775807 < (⟨#[45]⟩ : ByteArray).size + (strOfNums acc).size) := by rw [strOfNums_size, show (⟨#[45]⟩ : ByteArray).size = 1 from rfl]; omega
        clear hacc hq hg0
        go_wp2_with fail
        go_ret
        exact ⟨by rw [HV.out]; rfl, HB.out⟩
      · obtain ⟨m, rfl⟩ : ∃ m, gk = m + 1 := by
          cases gk with
          | zero => simp at hq; omega
          | succ m => exact ⟨m, rfl⟩
        have HQ : Hid (q / 10 < 10 ^ m) := hid (by rw [Nat.pow_succ] at hq; omega)
        have HD2 : Hid (dgL m (q / 10) ((48 + (q : Int) % 10) :: acc) = dgL 20 n.natAbs []) := hid (by rw [← HD.out, dgL, if_neg hz])
        have HL := hid hacc
        have hpos : (0 : Int) < q := by omega
        have hal : acc.length ≤ 19 := by omega
        have kz := HB.out.size
        have hkn : -(q : Int) ≠ 0 := by omega
        have t2 : IntKind.u8.wrap (48 + (q : Int) % 10) = 48 + (q : Int) % 10 := IntWalk.u8_in _ (by omega)
        clear hacc hq hg0
        have r1 : Int.tmod (-(q : Int)) 10 = -((q : Int) % 10) := by rw [Int.neg_tmod, Int.tmod_eq_emod_of_nonneg (by omega)]
        have r2 : Int.tdiv (-(q : Int)) 10 = -((q : Int) / 10) := by rw [Int.neg_tdiv, Int.tdiv_eq_ediv_of_nonneg (by omega)]
        by_cases hm : (q : Int) % 10 = 0
        · have hlt0 : ¬ (-((q : Int) % 10) < 0) := by omega
          have HM := hid hm
          rw [hm] at r1 hlt0 t2
          simp only [Int.neg_zero, Int.add_zero] at r1 hlt0 t2
          clear hm
          have hol := World.ownsRow_lit (base := wr.heap.size) (e := 5) (size := 1) wr #[.int .u8 (48)] 1 (Nat.le_refl _) (by decide) rfl
          have HLIT := hid hol
          have HNW : Hid (∀ j u, (bytesV acc)[j]? = some u → (wr.alloc (.cells #[.int .u8 (48)] 5)).cell? ((⟨gb, 0, none⟩ : Addr).add j) = some u) := hid (news_own (HO.out.alloc _))
          clear hol
          go_wp2_with (at_builtin; (refine wpList_append_own _ rfl _ _ 54 rfl wr.heap.size 5 ub (.int .u8 0) 1 1 Try.underlying54 hib hb0 hb1 hb2 rfl (by decide) _ 1 [.int .u8 (48)] rfl HLIT.out ⟨gb, 0, none⟩ acc.length cap (bytesV acc) rfl (by simp [bytesV]) HNW.out (by simp [bytesV, Value.oneCell']) (by unfold maxLen; omega) (by omega) (by simp) ?_; intro v' wz ho2 hgr _; rw [Nat.add_comm 1] at ho2; have HH := hid (And.intro ho2 hgr); clear hgr; obtain ⟨g2, cap2, rfl⟩ := Go.Joins.ownsRow_form ho2 (Nat.succ_pos _); clear ho2))
          go_roundg m
          case measure => omega
          case rel => exact ⟨q / 10, (48 + (q : Int) % 10) :: acc, g2, cap2, rfl, by go_num, HQ.out, by omega, by have := HL.out; simp; omega, by have := HL.out; omega, HD2, hid (Go.Joins.ownsRow_le (by rw [HM.out]; simpa [bytesV] using HH.out.1) kz), hid (bgrew (lo := wr.heap.size) (bal HB.out _) HH.out.2 (fun q hq => by have := own_blk hq; omega) kz)⟩
        · have hlt0 : -((q : Int) % 10) < 0 := by omega
          clear hm
          have hol := World.ownsRow_lit (base := wr.heap.size) (e := 5) (size := 1) wr #[.int .u8 (48 + (q : Int) % 10)] 1 (Nat.le_refl _) (by decide) rfl
          have HLIT := hid hol
          have HNW : Hid (∀ j u, (bytesV acc)[j]? = some u → (wr.alloc (.cells #[.int .u8 (48 + (q : Int) % 10)] 5)).cell? ((⟨gb, 0, none⟩ : Addr).add j) = some u) := hid (news_own (HO.out.alloc _))
          clear hol
          go_wp2_with (at_builtin; (refine wpList_append_own _ rfl _ _ 54 rfl wr.heap.size 5 ub (.int .u8 0) 1 1 Try.underlying54 hib hb0 hb1 hb2 rfl (by decide) _ 1 [.int .u8 (48 + (q : Int) % 10)] rfl HLIT.out ⟨gb, 0, none⟩ acc.length cap (bytesV acc) rfl (by simp [bytesV]) HNW.out (by simp [bytesV, Value.oneCell']) (by unfold maxLen; omega) (by omega) (by simp) ?_; intro v' wz ho2 hgr _; rw [Nat.add_comm 1] at ho2; have HH := hid (And.intro ho2 hgr); clear hgr; obtain ⟨g2, cap2, rfl⟩ := Go.Joins.ownsRow_form ho2 (Nat.succ_pos _); clear ho2))
          go_roundg m
          case measure => omega
          case rel => exact ⟨q / 10, (48 + (q : Int) % 10) :: acc, g2, cap2, rfl, by go_num, HQ.out, by omega, by have := HL.out; simp; omega, by have := HL.out; omega, HD2, hid (Go.Joins.ownsRow_le (by simpa [bytesV] using HH.out.1) kz), hid (bgrew (lo := wr.heap.size) (bal HB.out _) HH.out.2 (fun q hq => by have := own_blk hq; omega) kz)⟩
  · skip
    go_enter Try.func56, Try.ntmps56
    go_wp2_with fail
    go_loopg [3, 4] 20 (fun g o a wr => ∃ (q : Nat) (acc : List Int) (gb cap : Nat), o = .slice (some ⟨gb, 0, none⟩) acc.length cap ∧ a = .int .i64 ((q : Int)) ∧ q < 10 ^ g ∧ q ≤ 9223372036854775808 ∧ q ≤ 9223372036854775807 ∧ acc.length + g = 20 ∧ (g = 20 → 0 < q) ∧ Hid (dgL g q acc = dgL 20 n.natAbs []) ∧ Hid (wr.ownsRow w.heap.size 5 1 (.slice (some ⟨gb, 0, none⟩) acc.length cap) acc.length (bytesV acc)) ∧ Hid (Below w.heap.size w wr))
    case atStart => exact ⟨n.natAbs, [], w.heap.size, 0, rfl, by congr 1; omega, by omega, by omega, by omega, rfl, by omega, hid rfl, hid (World.ownsRow_lit (base := w.heap.size) (e := 5) (size := 1) w #[] 0 (Nat.le_refl _) (Nat.zero_le _) rfl), hid (bal (Below.refl _ _) _)⟩
    case round =>
      obtain ⟨q, acc, gb, cap, rfl, rfl, hq, hq2, hq3, hacc, hg0, HD, HO, HB⟩ := hrel
      by_cases hz : q = 0
      · subst hz
        have HE : Hid (acc = dgL 20 n.natAbs []) := hid (by rw [← HD.out, dgL_zero])
        have hpos : 0 < acc.length := by omega
        have hpos2 : ¬ (acc.length = 0) := by omega
        have hal : acc.length ≤ 20 := by omega
        have kc := conv_own HO.out
        have HV : Hid (decS n = strOfNums acc) := hid (by unfold decS decL; rw [if_neg h0, if_neg (by omega), List.nil_append, HE.out])
        clear hacc hq hg0
        go_wp2_with fail
        go_ret
        exact ⟨by rw [HV.out]; rfl, HB.out⟩
      · obtain ⟨m, rfl⟩ : ∃ m, gk = m + 1 := by
          cases gk with
          | zero => simp at hq; omega
          | succ m => exact ⟨m, rfl⟩
        have HQ : Hid (q / 10 < 10 ^ m) := hid (by rw [Nat.pow_succ] at hq; omega)
        have HD2 : Hid (dgL m (q / 10) ((48 + (q : Int) % 10) :: acc) = dgL 20 n.natAbs []) := hid (by rw [← HD.out, dgL, if_neg hz])
        have HL := hid hacc
        have hpos : (0 : Int) < q := by omega
        have hal : acc.length ≤ 19 := by omega
        have kz := HB.out.size
        have hkn : (q : Int) ≠ 0 := by omega
        have t2 : IntKind.u8.wrap (48 + (q : Int) % 10) = 48 + (q : Int) % 10 := IntWalk.u8_in _ (by omega)
        clear hacc hq hg0
        have hol := World.ownsRow_lit (base := wr.heap.size) (e := 5) (size := 1) wr #[.int .u8 (48 + (q : Int) % 10)] 1 (Nat.le_refl _) (by decide) rfl
        have HLIT := hid hol
        have HNW : Hid (∀ j u, (bytesV acc)[j]? = some u → (wr.alloc (.cells #[.int .u8 (48 + (q : Int) % 10)] 5)).cell? ((⟨gb, 0, none⟩ : Addr).add j) = some u) := hid (news_own (HO.out.alloc _))
        clear hol
        go_wp2_with (at_builtin; (refine wpList_append_own _ rfl _ _ 54 rfl wr.heap.size 5 ub (.int .u8 0) 1 1 Try.underlying54 hib hb0 hb1 hb2 rfl (by decide) _ 1 [.int .u8 (48 + (q : Int) % 10)] rfl HLIT.out ⟨gb, 0, none⟩ acc.length cap (bytesV acc) rfl (by simp [bytesV]) HNW.out (by simp [bytesV, Value.oneCell']) (by unfold maxLen; omega) (by omega) (by simp) ?_; intro v' wz ho2 hgr _; rw [Nat.add_comm 1] at ho2; have HH := hid (And.intro ho2 hgr); clear hgr; obtain ⟨g2, cap2, rfl⟩ := Go.Joins.ownsRow_form ho2 (Nat.succ_pos _); clear ho2))
        go_roundg m
        case measure => omega
        case rel => exact ⟨q / 10, (48 + (q : Int) % 10) :: acc, g2, cap2, rfl, by go_num, HQ.out, by omega, by omega, by have := HL.out; simp; omega, by have := HL.out; omega, HD2, hid (Go.Joins.ownsRow_le (by simpa [bytesV] using HH.out.1) kz), hid (bgrew (lo := wr.heap.size) (bal HB.out _) HH.out.2 (fun q hq => by have := own_blk hq; omega) kz)⟩
end Go.Proofs.Ytgcgaoblbhojnaa

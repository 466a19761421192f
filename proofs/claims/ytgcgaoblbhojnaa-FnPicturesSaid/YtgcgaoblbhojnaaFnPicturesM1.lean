/- Merged texts: Dc, De, Nm, Rd, Sl. -/
import Derived.Test.YtgcgaoblbhojnaaEs
import Derived.Test.YtgcgaoblbhojnaaNs
import Derived.OwnWalk
import Derived.Laws.Slices
import Derived.Deep.WholeRow
import Derived.Test.YtgcgaoblbhojnaaAu
import Derived.Test.YtgcgaoblbhojnaaLp
import Derived.Test.YtgcgaoblbhojnaaVp
import Derived.Laws.Strings
import Derived.Laws.BytesArg
import Derived.Laws.Strings3
namespace Go.Proofs.Ytgcgaoblbhojnaa
set_option linter.unusedSimpArgs false
set_option linter.unusedVariables false
open Go.ChangeShapes Go.WideShapes Go.ChangeAt Go.RowKit
/-- The digits of q, put ahead of acc. -/
def dgL : Nat → Nat → List Int → List Int
  | 0, _, acc => acc
  | f + 1, q, acc => if q = 0 then acc else dgL f (q / 10) ((48 + (q : Int) % 10) :: acc)
theorem dgL_zero (f : Nat) (acc : List Int) : dgL f 0 acc = acc := by cases f <;> rfl
def decL (n : Int) : List Int := if n = 0 then [48] else (if n < 0 then [45] else []) ++ dgL 20 n.natAbs []
def decS (n : Int) : ByteArray := strOfNums (decL n)
theorem decS0 : decS 0 = ⟨#[48]⟩ := rfl
def arr20 (acc : List Int) : List Value := List.replicate (20 - acc.length) (Value.int .u8 0) ++ acc.map (Value.int .u8)
theorem arr20_length (acc : List Int) (h : acc.length ≤ 20) : (arr20 acc).length = 20 := by unfold arr20; rw [List.length_append, List.length_replicate, List.length_map]; omega
theorem arr20_set (acc : List Int) (d : Int) (h : acc.length < 20) : (arr20 acc).set (19 - acc.length) (.int .u8 d) = arr20 (d :: acc) := by
  unfold arr20
  have e : List.replicate (20 - acc.length) (Value.int .u8 0) = List.replicate (20 - (acc.length + 1)) (Value.int .u8 0) ++ [Value.int .u8 0] := by
    rw [show 20 - acc.length = (20 - (acc.length + 1)) + 1 by omega, List.replicate_succ']
  rw [e, List.append_assoc, List.set_append_right _ _ (by rw [List.length_replicate]; omega)]
  simp only [List.length_replicate]
  rw [show 19 - acc.length - (20 - (acc.length + 1)) = 0 by omega]
  simp
theorem arr20_at (acc : List Int) (h : acc.length ≤ 20) (i : Nat) (hi : i < acc.length) : (arr20 acc)[20 - acc.length + i]? = some (.int .u8 (acc.getD i 0)) := by
  unfold arr20
  rw [List.getElem?_append_right (by simp)]
  simp [List.getD_eq_getElem?_getD, List.getElem?_eq_getElem hi]
def z20 : Array Value := (arr20 []).toArray
theorem st20 (w : World) : (storeCells ⟨w.heap.size, 0, none⟩ z20.toList).run Try.prog (w.alloc (.cells z20 63)) = .ok () (w.alloc (.cells z20 63)) := run_storeCells_new w 63 z20 z20 (by kernel_rfl) rfl (by kernel_rfl)
theorem zv20 : ∀ w, (zeroValue 63).run Try.prog w = .ok (.agg z20) w := (zero_of_info (n := 20) (by kernel_rfl)).1
set_option maxRecDepth 100000 in
set_option maxHeartbeats 4000000 in
theorem implDecimal_any (n : Int) (w : World) (hn : (Lit.int .i64 n).wf = true) : Calls Try.prog 15 #[.int .i64 n] w fun e w' => e = .returned (.string (decS n)) ∧ Below w.heap.size w w' := by
  have hb : -9223372036854775808 ≤ n ∧ n ≤ 9223372036854775807 := by
    have := hn
    simp [Lit.wf, IntKind.min, IntKind.max, IntKind.bits, IntKind.signed] at this
    omega
  obtain ⟨b1, b2⟩ := hb
  clear hn
  have hzv := zv20
  have hst := st20 w
  by_cases h0 : n = 0
  · subst h0
    go_enter Try.func15, Try.ntmps15
    go_wp2_with fail
    go_ret
    exact ⟨rfl, Below.refl _ _⟩
  · have hn0 : (n == 0) = false := by simp [h0]
    by_cases hneg : n < 0
    · have u1 : IntKind.u64.wrap n = n + 18446744073709551616 := by rw [IntKind.wrap_u64]; omega
      have u2 : IntKind.u64.wrap (-(n + 18446744073709551616)) = n.natAbs := by rw [IntKind.wrap_u64]; omega
      go_enter Try.func15, Try.ntmps15
      go_wp2_with fail
      go_loopg [4, 5] 20 (fun g a r wr => ∃ (q : Nat) (acc : List Int), a = .int .i64 g ∧ r = .int .u64 q ∧ acc.length + g = 20 ∧ q * 10 < 10 ^ g ∧ q ≤ 9223372036854775808 ∧ 1 ≤ g ∧ (g = 20 → 0 < q) ∧ Hid (dgL g q acc = dgL 20 n.natAbs []) ∧ Hid (Box wr w.heap.size 63 (arr20 acc).toArray) ∧ Hid (Below w.heap.size w wr))
      case atStart => exact ⟨n.natAbs, [], rfl, rfl, rfl, by omega, by omega, by omega, by omega, hid rfl, hid (Box.new _ _ _), hid (bal (Below.refl _ _) _)⟩
      case round =>
        obtain ⟨q, acc, rfl, rfl, hacc, hq, hq2, hg1, hg0, HD, KB, HB⟩ := hrel
        have kz := KB.out.lt
        by_cases hz : q = 0
        · subst hz
          have HE : Hid (acc = dgL 20 n.natAbs []) := hid (by rw [← HD.out, dgL_zero])
          have HL := hid hacc
          obtain ⟨m, rfl⟩ : ∃ m, gk = m + 1 := ⟨gk - 1, by omega⟩
          have HV : Hid (decS n = strOfNums (45 :: acc)) := hid (by unfold decS decL; rw [if_neg h0, if_pos hneg, HE.out]; rfl)
          have hm20 : m < 20 := by omega
          have hm20i : (m : Int) < 20 := by omega
          obtain ⟨u, hu⟩ : ∃ u, (arr20 acc)[m]? = some u := ⟨_, List.getElem?_eq_getElem (by rw [arr20_length _ (by omega)]; exact hm20)⟩
          have hc : wr.cell? ⟨w.heap.size, m, none⟩ = some u := (KB.out.cell m).trans (by simpa using hu)
          have hf := KB.out.free m
          have KB2 := hid (Box.put KB.out m (.int .u8 45))
          have HAS : Hid ((arr20 acc).toArray.setIfInBounds m (.int .u8 45) = (arr20 (45 :: acc)).toArray) := hid (by have h := arr20_set acc 45 (by omega); rw [show 19 - acc.length = m by omega] at h; rw [← h]; simp)
          have ts : IntKind.i64.wrap (((m + 1 : Nat) : Int) - 1) = (m : Int) := by rw [IntWalk.i64_in _ (by omega)]; omega
          have kc : (convert 54 9 (.slice (some ⟨w.heap.size, m, none⟩) (20 - m) (20 - m))).run Try.prog (wr.setCell ⟨w.heap.size, m, none⟩ (.int .u8 45)) = .ok (.string (strOfNums (45 :: acc))) (wr.setCell ⟨w.heap.size, m, none⟩ (.int .u8 45)) := by
            refine run_convert_bytes_arg (P := Try.prog) _ 54 5 Try.underlying54 Try.underlying5 w.heap.size m (20 - m) (20 - m) (45 :: acc) (by simp; omega) ?_ 9 Try.underlying9
            intro i hi
            rw [KB2.out.cell (m + i), HAS.out]
            have := arr20_at (45 :: acc) (by simp; omega) i (by simp; omega)
            rw [show 20 - (45 :: acc).length = m by simp; omega] at this
            simpa using this
          have hg20 : (m : Int) ≤ 20 := by omega
          have hgne : ¬ (20 = m) := by omega
          clear hacc hq hu hg0
          go_wp2_with fail
          go_ret
          rw [HV.out]
          exact ⟨rfl, Below.setCell HB.out (Nat.le_refl _) _⟩
        · obtain ⟨m, rfl⟩ : ∃ m, gk = m + 1 := ⟨gk - 1, by omega⟩
          have hqm : q < 10 ^ m := by rw [Nat.pow_succ] at hq; omega
          have hm1 : 1 ≤ m := by cases m with | zero => (simp at hqm; omega) | succ m => omega
          have HN : Hid (q / 10 * 10 < 10 ^ m) := hid (by omega)
          have hm20 : m < 20 := by omega
          have hm20i : (m : Int) < 20 := by omega
          have hpos : (0 : Int) < q := by omega
          have HD2 : Hid (dgL m (q / 10) ((48 + (q : Int) % 10) :: acc) = dgL 20 n.natAbs []) := hid (by rw [← HD.out, dgL, if_neg hz])
          obtain ⟨u, hu⟩ : ∃ u, (arr20 acc)[m]? = some u := ⟨_, List.getElem?_eq_getElem (by rw [arr20_length _ (by omega)]; exact hm20)⟩
          have hc : wr.cell? ⟨w.heap.size, m, none⟩ = some u := (KB.out.cell m).trans (by simpa using hu)
          have hf := KB.out.free m
          have HL := hid hacc
          have HAS : Hid ((arr20 acc).toArray.setIfInBounds m (.int .u8 (48 + (q : Int) % 10)) = (arr20 ((48 + (q : Int) % 10) :: acc)).toArray) := hid (by have h := arr20_set acc (48 + (q : Int) % 10) (by omega); rw [show 19 - acc.length = m by omega] at h; rw [← h]; simp)
          have t1 : IntKind.u64.wrap (48 + (q : Int) % 10) = 48 + (q : Int) % 10 := by rw [IntKind.wrap_u64]; omega
          have t2 : IntKind.u8.wrap (48 + (q : Int) % 10) = 48 + (q : Int) % 10 := IntWalk.u8_in _ (by omega)
          have ts : IntKind.i64.wrap (((m + 1 : Nat) : Int) - 1) = (m : Int) := by rw [IntWalk.i64_in _ (by omega)]; omega
          clear hacc hq hqm hu hg0
          go_wp2_with fail
          go_roundg m
          case measure => omega
          case rel => exact ⟨q / 10, (48 + (q : Int) % 10) :: acc, by go_num, by go_num, by have := HL.out; simp; omega, HN.out, by omega, hm1, by omega, HD2, hid (by rw [← HAS.out]; exact Box.put KB.out m _), hid (Below.setCell HB.out (Nat.le_refl _) _)⟩
    · have u1 : IntKind.u64.wrap n = n.natAbs := by rw [IntKind.wrap_u64]; omega
      go_enter Try.func15, Try.ntmps15
      go_wp2_with fail
      go_loopg [4, 5] 20 (fun g a r wr => ∃ (q : Nat) (acc : List Int), a = .int .i64 g ∧ r = .int .u64 q ∧ acc.length + g = 20 ∧ q * 10 < 10 ^ g ∧ q ≤ 9223372036854775808 ∧ 1 ≤ g ∧ (g = 20 → 0 < q) ∧ Hid (dgL g q acc = dgL 20 n.natAbs []) ∧ Hid (Box wr w.heap.size 63 (arr20 acc).toArray) ∧ Hid (Below w.heap.size w wr))
      case atStart => exact ⟨n.natAbs, [], rfl, rfl, rfl, by omega, by omega, by omega, by omega, hid rfl, hid (Box.new _ _ _), hid (bal (Below.refl _ _) _)⟩
      case round =>
        obtain ⟨q, acc, rfl, rfl, hacc, hq, hq2, hg1, hg0, HD, KB, HB⟩ := hrel
        have kz := KB.out.lt
        by_cases hz : q = 0
        · subst hz
          have HE : Hid (acc = dgL 20 n.natAbs []) := hid (by rw [← HD.out, dgL_zero])
          have HL := hid hacc
          have HV : Hid (decS n = strOfNums acc) := hid (by unfold decS decL; rw [if_neg h0, if_neg (by omega), List.nil_append, HE.out])
          have kc : (convert 54 9 (.slice (some ⟨w.heap.size, gk, none⟩) (20 - gk) (20 - gk))).run Try.prog wr = .ok (.string (strOfNums acc)) wr := by
            refine run_convert_bytes_arg (P := Try.prog) _ 54 5 Try.underlying54 Try.underlying5 w.heap.size gk (20 - gk) (20 - gk) acc (by omega) ?_ 9 Try.underlying9
            intro i hi
            rw [KB.out.cell (gk + i)]
            have := arr20_at acc (by omega) i (by omega)
            rw [show 20 - acc.length = gk by omega] at this
            simpa using this
          have hg20 : (gk : Int) ≤ 20 := by omega
          have hgne : ¬ (20 = gk) := by omega
          clear hacc hq hg0
          go_wp2_with fail
          go_ret
          rw [HV.out]
          exact ⟨rfl, HB.out⟩
        · obtain ⟨m, rfl⟩ : ∃ m, gk = m + 1 := ⟨gk - 1, by omega⟩
          have hqm : q < 10 ^ m := by rw [Nat.pow_succ] at hq; omega
          have hm1 : 1 ≤ m := by cases m with | zero => (simp at hqm; omega) | succ m => omega
          have HN : Hid (q / 10 * 10 < 10 ^ m) := hid (by omega)
          have hm20 : m < 20 := by omega
          have hm20i : (m : Int) < 20 := by omega
          have hpos : (0 : Int) < q := by omega
          have HD2 : Hid (dgL m (q / 10) ((48 + (q : Int) % 10) :: acc) = dgL 20 n.natAbs []) := hid (by rw [← HD.out, dgL, if_neg hz])
          obtain ⟨u, hu⟩ : ∃ u, (arr20 acc)[m]? = some u := ⟨_, List.getElem?_eq_getElem (by rw [arr20_length _ (by omega)]; exact hm20)⟩
          have hc : wr.cell? ⟨w.heap.size, m, none⟩ = some u := (KB.out.cell m).trans (by simpa using hu)
          have hf := KB.out.free m
          have HL := hid hacc
          have HAS : Hid ((arr20 acc).toArray.setIfInBounds m (.int .u8 (48 + (q : Int) % 10)) = (arr20 ((48 + (q : Int) % 10) :: acc)).toArray) := hid (by have h := arr20_set acc (48 + (q : Int) % 10) (by omega); rw [show 19 - acc.length = m by omega] at h; rw [← h]; simp)
          have t1 : IntKind.u64.wrap (48 + (q : Int) % 10) = 48 + (q : Int) % 10 := by rw [IntKind.wrap_u64]; omega
          have t2 : IntKind.u8.wrap (48 + (q : Int) % 10) = 48 + (q : Int) % 10 := IntWalk.u8_in _ (by omega)
          have ts : IntKind.i64.wrap (((m + 1 : Nat) : Int) - 1) = (m : Int) := by rw [IntWalk.i64_in _ (by omega)]; omega
          clear hacc hq hqm hu hg0
          go_wp2_with fail
          go_roundg m
          case measure => omega
          case rel => exact ⟨q / 10, (48 + (q : Int) % 10) :: acc, by go_num, by go_num, by have := HL.out; simp; omega, HN.out, by omega, hm1, by omega, HD2, hid (by rw [← HAS.out]; exact Box.put KB.out m _), hid (Below.setCell HB.out (Nat.le_refl _) _)⟩
end Go.Proofs.Ytgcgaoblbhojnaa
namespace Go.Proofs.Ytgcgaoblbhojnaa
set_option linter.unusedSimpArgs false
set_option linter.unusedVariables false
open Go.ChangeShapes Go.WideShapes Go.ChangeAt Go.RowKit
theorem strOfNums_app (a : Int) (l : List Int) : strOfNums ([a] ++ l) = strOfNums [a] ++ strOfNums l := by
  simp only [strOfNums]
  apply ByteArray.ext
  simp
theorem news_own {w : World} {B g n cap : Nat} {bs : List Int} (h : w.ownsRow B 5 1 (.slice (some ⟨g, 0, none⟩) n cap) n (bytesV bs)) : ∀ j u, (bytesV bs)[j]? = some u → w.cell? ((⟨g, 0, none⟩ : Addr).add j) = some u := by
  intro j u hu
  have hj : j < n := by have h1 := (List.getElem?_eq_some_iff.1 hu).1; have h2 := h.1; omega
  rw [add_plain, Nat.zero_add, World.ownsRow.cellAt h j (by omega)]
  exact hu
set_option maxRecDepth 100000 in
set_option maxHeartbeats 4000000 in
theorem l01Dec_any (n : Int) (w : World) (hn : (Lit.int .i64 n).wf = true) : Calls Try.prog 56 #[.int .i64 n] w fun e w' => e = .returned (.string (decS n)) ∧ Below w.heap.size w w' := by
  have hb : -9223372036854775808 ≤ n ∧ n ≤ 9223372036854775807 := by
    have := hn
    simp [Lit.wf, IntKind.min, IntKind.max, IntKind.bits, IntKind.signed] at this
    omega
  obtain ⟨b1, b2⟩ := hb
  clear hn
  obtain ⟨ub, hib, hb0, hb1, hb2⟩ := info_parts infoU8
  by_cases h0 : n = 0
  · subst h0
    go_enter Try.func56, Try.ntmps56
    go_wp2_with fail
    refine wp_loop_rounds 1 ?_
    rw [rounds_succ]
    go_wp2_with fail
    go_ret
    exact ⟨rfl, bal (Below.refl _ _) _⟩
  have hn0 : (n == 0) = false := by simp [h0]
  by_cases hneg : n < 0
  · skip
    go_enter Try.func56, Try.ntmps56
    go_wp2_with fail
    go_loopg [3, 4] 20 (fun g o a wr => ∃ (q : Nat) (acc : List Int) (gb cap : Nat), o = .slice (some ⟨gb, 0, none⟩) acc.length cap ∧ a = .int .i64 (-(q : Int)) ∧ q < 10 ^ g ∧ q ≤ 9223372036854775808 ∧  acc.length + g = 20 ∧ (g = 20 → 0 < q) ∧ Hid (dgL g q acc = dgL 20 n.natAbs []) ∧ Hid (wr.ownsRow w.heap.size 5 1 (.slice (some ⟨gb, 0, none⟩) acc.length cap) acc.length (bytesV acc)) ∧ Hid (Below w.heap.size w wr))
    case atStart => exact ⟨n.natAbs, [], w.heap.size, 0, rfl, by congr 1; omega, by omega, by omega, rfl, by omega, hid rfl, hid (World.ownsRow_lit (base := w.heap.size) (e := 5) (size := 1) w #[] 0 (Nat.le_refl _) (Nat.zero_le _) rfl), hid (bal (Below.refl _ _) _)⟩
    case round =>
      obtain ⟨q, acc, gb, cap, rfl, rfl, hq, hq2, hacc, hg0, HD, HO, HB⟩ := hrel
      by_cases hz : q = 0
      · subst hz
        have HE : Hid (acc = dgL 20 n.natAbs []) := hid (by rw [← HD.out, dgL_zero])
        have hpos : 0 < acc.length := by omega
        have hpos2 : ¬ (acc.length = 0) := by omega
        have hal : acc.length ≤ 20 := by omega
        have kc := conv_own HO.out
        have HV : Hid (decS n = ⟨#[45]⟩ ++ strOfNums acc) := hid (by unfold decS decL; rw [if_neg h0, if_pos hneg, HE.out]; exact strOfNums_app _ _)
        have hs : ¬ (9223372036854775807 < (⟨#[45]⟩ : ByteArray).size + (strOfNums acc).size) := by rw [strOfNums_size, show (⟨#[45]⟩ : ByteArray).size = 1 from rfl]; omega
        clear hacc hq hg0
        go_wp2_with fail
        go_ret
        exact ⟨by rw [HV.out]; rfl, HB.out⟩
      · obtain ⟨m, rfl⟩ : ∃ m, gk = m + 1 := by
          cases gk with
          | zero => simp at hq; omega
          | succ m => exact ⟨m, rfl⟩
        have HQ : Hid (q / 10 < 10 ^ m) := hid (by rw [Nat.pow_succ] at hq; omega)
        have HD2 : Hid (dgL m (q / 10) ((48 + (q : Int) % 10) :: acc) = dgL 20 n.natAbs []) := hid (by rw [← HD.out, dgL, if_neg hz])
        have HL := hid hacc
        have hpos : (0 : Int) < q := by omega
        have hal : acc.length ≤ 19 := by omega
        have kz := HB.out.size
        have hkn : -(q : Int) ≠ 0 := by omega
        have t2 : IntKind.u8.wrap (48 + (q : Int) % 10) = 48 + (q : Int) % 10 := IntWalk.u8_in _ (by omega)
        clear hacc hq hg0
        have r1 : Int.tmod (-(q : Int)) 10 = -((q : Int) % 10) := by rw [Int.neg_tmod, Int.tmod_eq_emod_of_nonneg (by omega)]
        have r2 : Int.tdiv (-(q : Int)) 10 = -((q : Int) / 10) := by rw [Int.neg_tdiv, Int.tdiv_eq_ediv_of_nonneg (by omega)]
        by_cases hm : (q : Int) % 10 = 0
        · have hlt0 : ¬ (-((q : Int) % 10) < 0) := by omega
          have HM := hid hm
          rw [hm] at r1 hlt0 t2
          simp only [Int.neg_zero, Int.add_zero] at r1 hlt0 t2
          clear hm
          have hol := World.ownsRow_lit (base := wr.heap.size) (e := 5) (size := 1) wr #[.int .u8 (48)] 1 (Nat.le_refl _) (by decide) rfl
          have HLIT := hid hol
          have HNW : Hid (∀ j u, (bytesV acc)[j]? = some u → (wr.alloc (.cells #[.int .u8 (48)] 5)).cell? ((⟨gb, 0, none⟩ : Addr).add j) = some u) := hid (news_own (HO.out.alloc _))
          clear hol
          go_wp2_with (at_builtin; (refine wpList_append_own _ rfl _ _ 54 rfl wr.heap.size 5 ub (.int .u8 0) 1 1 Try.underlying54 hib hb0 hb1 hb2 rfl (by decide) _ 1 [.int .u8 (48)] rfl HLIT.out ⟨gb, 0, none⟩ acc.length cap (bytesV acc) rfl (by simp [bytesV]) HNW.out (by simp [bytesV, Value.oneCell']) (by unfold maxLen; omega) (by omega) (by simp) ?_; intro v' wz ho2 hgr _; rw [Nat.add_comm 1] at ho2; have HH := hid (And.intro ho2 hgr); clear hgr; obtain ⟨g2, cap2, rfl⟩ := Go.Joins.ownsRow_form ho2 (Nat.succ_pos _); clear ho2))
          go_roundg m
          case measure => omega
          case rel => exact ⟨q / 10, (48 + (q : Int) % 10) :: acc, g2, cap2, rfl, by go_num, HQ.out, by omega, by have := HL.out; simp; omega, by have := HL.out; omega, HD2, hid (Go.Joins.ownsRow_le (by rw [HM.out]; simpa [bytesV] using HH.out.1) kz), hid (bgrew (lo := wr.heap.size) (bal HB.out _) HH.out.2 (fun q hq => by have := own_blk hq; omega) kz)⟩
        · have hlt0 : -((q : Int) % 10) < 0 := by omega
          clear hm
          have hol := World.ownsRow_lit (base := wr.heap.size) (e := 5) (size := 1) wr #[.int .u8 (48 + (q : Int) % 10)] 1 (Nat.le_refl _) (by decide) rfl
          have HLIT := hid hol
          have HNW : Hid (∀ j u, (bytesV acc)[j]? = some u → (wr.alloc (.cells #[.int .u8 (48 + (q : Int) % 10)] 5)).cell? ((⟨gb, 0, none⟩ : Addr).add j) = some u) := hid (news_own (HO.out.alloc _))
          clear hol
          go_wp2_with (at_builtin; (refine wpList_append_own _ rfl _ _ 54 rfl wr.heap.size 5 ub (.int .u8 0) 1 1 Try.underlying54 hib hb0 hb1 hb2 rfl (by decide) _ 1 [.int .u8 (48 + (q : Int) % 10)] rfl HLIT.out ⟨gb, 0, none⟩ acc.length cap (bytesV acc) rfl (by simp [bytesV]) HNW.out (by simp [bytesV, Value.oneCell']) (by unfold maxLen; omega) (by omega) (by simp) ?_; intro v' wz ho2 hgr _; rw [Nat.add_comm 1] at ho2; have HH := hid (And.intro ho2 hgr); clear hgr; obtain ⟨g2, cap2, rfl⟩ := Go.Joins.ownsRow_form ho2 (Nat.succ_pos _); clear ho2))
          go_roundg m
          case measure => omega
          case rel => exact ⟨q / 10, (48 + (q : Int) % 10) :: acc, g2, cap2, rfl, by go_num, HQ.out, by omega, by have := HL.out; simp; omega, by have := HL.out; omega, HD2, hid (Go.Joins.ownsRow_le (by simpa [bytesV] using HH.out.1) kz), hid (bgrew (lo := wr.heap.size) (bal HB.out _) HH.out.2 (fun q hq => by have := own_blk hq; omega) kz)⟩
  · skip
    go_enter Try.func56, Try.ntmps56
    go_wp2_with fail
    go_loopg [3, 4] 20 (fun g o a wr => ∃ (q : Nat) (acc : List Int) (gb cap : Nat), o = .slice (some ⟨gb, 0, none⟩) acc.length cap ∧ a = .int .i64 ((q : Int)) ∧ q < 10 ^ g ∧ q ≤ 9223372036854775808 ∧ q ≤ 9223372036854775807 ∧ acc.length + g = 20 ∧ (g = 20 → 0 < q) ∧ Hid (dgL g q acc = dgL 20 n.natAbs []) ∧ Hid (wr.ownsRow w.heap.size 5 1 (.slice (some ⟨gb, 0, none⟩) acc.length cap) acc.length (bytesV acc)) ∧ Hid (Below w.heap.size w wr))
    case atStart => exact ⟨n.natAbs, [], w.heap.size, 0, rfl, by congr 1; omega, by omega, by omega, by omega, rfl, by omega, hid rfl, hid (World.ownsRow_lit (base := w.heap.size) (e := 5) (size := 1) w #[] 0 (Nat.le_refl _) (Nat.zero_le _) rfl), hid (bal (Below.refl _ _) _)⟩
    case round =>
      obtain ⟨q, acc, gb, cap, rfl, rfl, hq, hq2, hq3, hacc, hg0, HD, HO, HB⟩ := hrel
      by_cases hz : q = 0
      · subst hz
        have HE : Hid (acc = dgL 20 n.natAbs []) := hid (by rw [← HD.out, dgL_zero])
        have hpos : 0 < acc.length := by omega
        have hpos2 : ¬ (acc.length = 0) := by omega
        have hal : acc.length ≤ 20 := by omega
        have kc := conv_own HO.out
        have HV : Hid (decS n = strOfNums acc) := hid (by unfold decS decL; rw [if_neg h0, if_neg (by omega), List.nil_append, HE.out])
        clear hacc hq hg0
        go_wp2_with fail
        go_ret
        exact ⟨by rw [HV.out]; rfl, HB.out⟩
      · obtain ⟨m, rfl⟩ : ∃ m, gk = m + 1 := by
          cases gk with
          | zero => simp at hq; omega
          | succ m => exact ⟨m, rfl⟩
        have HQ : Hid (q / 10 < 10 ^ m) := hid (by rw [Nat.pow_succ] at hq; omega)
        have HD2 : Hid (dgL m (q / 10) ((48 + (q : Int) % 10) :: acc) = dgL 20 n.natAbs []) := hid (by rw [← HD.out, dgL, if_neg hz])
        have HL := hid hacc
        have hpos : (0 : Int) < q := by omega
        have hal : acc.length ≤ 19 := by omega
        have kz := HB.out.size
        have hkn : (q : Int) ≠ 0 := by omega
        have t2 : IntKind.u8.wrap (48 + (q : Int) % 10) = 48 + (q : Int) % 10 := IntWalk.u8_in _ (by omega)
        clear hacc hq hg0
        have hol := World.ownsRow_lit (base := wr.heap.size) (e := 5) (size := 1) wr #[.int .u8 (48 + (q : Int) % 10)] 1 (Nat.le_refl _) (by decide) rfl
        have HLIT := hid hol
        have HNW : Hid (∀ j u, (bytesV acc)[j]? = some u → (wr.alloc (.cells #[.int .u8 (48 + (q : Int) % 10)] 5)).cell? ((⟨gb, 0, none⟩ : Addr).add j) = some u) := hid (news_own (HO.out.alloc _))
        clear hol
        go_wp2_with (at_builtin; (refine wpList_append_own _ rfl _ _ 54 rfl wr.heap.size 5 ub (.int .u8 0) 1 1 Try.underlying54 hib hb0 hb1 hb2 rfl (by decide) _ 1 [.int .u8 (48 + (q : Int) % 10)] rfl HLIT.out ⟨gb, 0, none⟩ acc.length cap (bytesV acc) rfl (by simp [bytesV]) HNW.out (by simp [bytesV, Value.oneCell']) (by unfold maxLen; omega) (by omega) (by simp) ?_; intro v' wz ho2 hgr _; rw [Nat.add_comm 1] at ho2; have HH := hid (And.intro ho2 hgr); clear hgr; obtain ⟨g2, cap2, rfl⟩ := Go.Joins.ownsRow_form ho2 (Nat.succ_pos _); clear ho2))
        go_roundg m
        case measure => omega
        case rel => exact ⟨q / 10, (48 + (q : Int) % 10) :: acc, g2, cap2, rfl, by go_num, HQ.out, by omega, by omega, by have := HL.out; simp; omega, by have := HL.out; omega, HD2, hid (Go.Joins.ownsRow_le (by simpa [bytesV] using HH.out.1) kz), hid (bgrew (lo := wr.heap.size) (bal HB.out _) HH.out.2 (fun q hq => by have := own_blk hq; omega) kz)⟩
end Go.Proofs.Ytgcgaoblbhojnaa
namespace Go.Proofs.Ytgcgaoblbhojnaa
set_option linter.unusedSimpArgs false
set_option linter.unusedVariables false
open Go.ChangeShapes Go.WideShapes Go.ChangeAt Go.RowKit
/-- A string's bytes, as numbers. -/
def byteL (s : ByteArray) : List Int := s.data.toList.map fun b => (b.toNat : Int)
theorem byteL_length (s : ByteArray) : (byteL s).length = s.size := by unfold byteL; rw [List.length_map, Array.length_toList]; rfl
theorem byte_at (s : ByteArray) (k : Nat) (h : k < s.size) : (byteL s)[k]? = some ((s[k]'h).toNat : Int) := by
  have h' : k < s.data.size := h
  simp only [byteL, List.getElem?_map, Array.getElem?_toList, Array.getElem?_eq_getElem h', Option.map_some]
  rfl
theorem byte_bd {s : ByteArray} {k : Nat} {b : Int} (h : (byteL s)[k]? = some b) : 0 ≤ b ∧ b ≤ 255 := by
  simp only [byteL, List.getElem?_map, Option.map_eq_some_iff] at h
  obtain ⟨c, _, rfl⟩ := h
  have := c.toNat_lt
  omega
def smallP (b : Int) : Prop := 97 ≤ b ∧ b ≤ 122
def digitP (b : Int) : Prop := 48 ≤ b ∧ b ≤ 57
def nameAt (i : Nat) (b : Int) : Prop := smallP b ∨ (i ≠ 0 ∧ (b = 45 ∨ digitP b))
def NameP (s : ByteArray) : Prop := 1 ≤ s.size ∧ s.size ≤ 12 ∧ ∀ (i : Nat) b, (byteL s)[i]? = some b → nameAt i b
open Classical in
/-- What IsName answers. -/
noncomputable def nmB (s : ByteArray) : Bool := decide (NameP s)
open Classical in
theorem nm_true {s : ByteArray} (h : NameP s) : nmB s = true := by unfold nmB; exact decide_eq_true h
open Classical in
theorem nm_false {s : ByteArray} (h : ¬ NameP s) : nmB s = false := by unfold nmB; exact decide_eq_false h
def smallB (b : Int) : Bool := decide (97 ≤ b) && decide (b ≤ 122)
def digitB (b : Int) : Bool := decide (48 ≤ b) && decide (b ≤ 57)

theorem l01Digit_any (b : Int) (w : World) : Calls Try.prog 99 #[.int .u8 b] w fun e w' => e = .returned (.bool (digitB b)) ∧ w = w' := by
  by_cases h1 : 48 ≤ b <;> by_cases h2 : b ≤ 57
  all_goals
    go_enter Try.func99, Try.ntmps99
    go_wp2
    go_ret
    exact ⟨ret_bool (by simp [digitB, h1, h2]), rfl⟩
theorem name_step {s : ByteArray} {k : Nat} {b : Int} (hA : ∀ (i : Nat) b, i < k → (byteL s)[i]? = some b → nameAt i b) (hb : (byteL s)[k]? = some b) : nameAt k b → ∀ (i : Nat) c, i < k + 1 → (byteL s)[i]? = some c → nameAt i c := by
  intro hn i c hi hc
  rcases Nat.lt_or_ge i k with h | h
  · exact hA i c h hc
  · obtain rfl : i = k := by omega
    rw [hb] at hc
    injection hc with hc
    subst hc
    exact hn
end Go.Proofs.Ytgcgaoblbhojnaa
namespace Go.Proofs.Ytgcgaoblbhojnaa
set_option linter.unusedSimpArgs false
set_option linter.unusedVariables false
open Go.ChangeShapes Go.WideShapes Go.ChangeAt Go.RowKit
/-- The number of some digits. -/
def rdN (l : List Int) : Int := l.foldl (fun n b => 10 * n + (b - 48)) 0
theorem rdN_snoc (l : List Int) (b : Int) : rdN (l ++ [b]) = 10 * rdN l + (b - 48) := by simp [rdN, List.foldl_append]
theorem rdN_bd (l : List Int) (h : ∀ b ∈ l, digitP b) : 0 ≤ rdN l ∧ rdN l < ((10 ^ l.length : Nat) : Int) := by
  obtain ⟨k, hk⟩ : ∃ k, l.length = k := ⟨_, rfl⟩
  induction k generalizing l with
  | zero => rw [List.eq_nil_of_length_eq_zero hk]; simp [rdN]
  | succ k ih =>
    obtain ⟨l', b, rfl⟩ : ∃ l' b, l = l' ++ [b] := by
      rcases List.eq_nil_or_concat l with h0 | ⟨l', b, h0⟩
      · rw [h0] at hk; simp at hk
      · exact ⟨l', b, by simpa using h0⟩
    have h1 := ih l' (fun b hb => h b (by simp [hb])) (by simpa using hk)
    have h2 := h b (by simp)
    unfold digitP at h2
    rw [rdN_snoc, List.length_append, List.length_singleton, Nat.pow_succ]
    omega
theorem rd_bd {l : List Int} {k : Nat} (h : ∀ (i : Nat) b, i < k → l[i]? = some b → digitP b) (hk : k ≤ 18) : 0 ≤ rdN (l.take k) ∧ rdN (l.take k) < 1000000000000000000 ∧ (k ≤ 17 → rdN (l.take k) < 100000000000000000) := by
  have h1 := rdN_bd (l.take k) (fun b hb => by
    obtain ⟨i, hi, rfl⟩ := List.getElem_of_mem hb
    have hik : i < k := by simp at hi; omega
    exact h i _ hik (by rw [← List.getElem?_take_of_lt hik]; exact List.getElem?_eq_getElem hi))
  have h2 : (l.take k).length ≤ k := List.length_take_le _ _
  have h3 : 10 ^ (l.take k).length ≤ 10 ^ 18 := Nat.pow_le_pow_right (by decide) (by omega)
  refine ⟨h1.1, by omega, fun h17 => ?_⟩
  have h4 : 10 ^ (l.take k).length ≤ 10 ^ 17 := Nat.pow_le_pow_right (by decide) (by omega)
  omega
theorem rd_step {l : List Int} {k : Nat} {b : Int} (hb : l[k]? = some b) : rdN (l.take (k + 1)) = 10 * rdN (l.take k) + (b - 48) := by
  rw [List.take_add_one, hb]; exact rdN_snoc _ _
theorem dg_step {l : List Int} {k : Nat} {b : Int} (hA : ∀ (i : Nat) b, i < k → l[i]? = some b → digitP b) (hb : l[k]? = some b) (hd : digitP b) : ∀ (i : Nat) c, i < k + 1 → l[i]? = some c → digitP c := by
  intro i c hi hc
  rcases Nat.lt_or_ge i k with h | h
  · exact hA i c h hc
  · obtain rfl : i = k := by omega
    rw [hb] at hc
    injection hc with hc
    subst hc
    exact hd
open Classical in
noncomputable def rdT (s : ByteArray) : ByteArray := if (byteL s)[0]? = some 45 then s.extract 1 s.size else s
open Classical in
noncomputable def rdV (s : ByteArray) : Int := if (byteL s)[0]? = some 45 then -rdN (byteL (rdT s)) else rdN (byteL (rdT s))
def RdP (s : ByteArray) : Prop := 1 ≤ (rdT s).size ∧ (rdT s).size ≤ 18 ∧ (∀ (i : Nat) b, (byteL (rdT s))[i]? = some b → digitP b) ∧ decS (rdV s) = s
open Classical in
/-- Whether a text is a number's, and the number. -/
noncomputable def rdB (s : ByteArray) : Bool := decide (RdP s)
open Classical in
noncomputable def rdR (s : ByteArray) : Int := if RdP s then rdV s else 0
open Classical in
theorem rd_yes {s : ByteArray} (h : RdP s) : rdR s = rdV s ∧ rdB s = true := by unfold rdR rdB; exact ⟨if_pos h, decide_eq_true h⟩
open Classical in
theorem rd_no {s : ByteArray} (h : ¬ RdP s) : rdR s = 0 ∧ rdB s = false := by unfold rdR rdB; exact ⟨if_neg h, decide_eq_false h⟩
theorem ext1_size (s : ByteArray) : (s.extract 1 s.size).size = s.size - 1 := by simp
theorem toList_inj {a b : ByteArray} (h : a.toList = b.toList) : a = b := by
  rw [ByteArray.toList_eq, ByteArray.toList_eq] at h
  cases a with | mk x => cases b with | mk y => (congr; exact Array.toList_inj.1 h)
theorem beq_of_eq {a b : ByteArray} (h : a = b) : (a.toList == b.toList) = true := by subst h; simp
theorem beq_of_ne {a b : ByteArray} (h : a ≠ b) : (a.toList == b.toList) = false := by
  rw [beq_eq_false_iff_ne]
  exact fun e => h (toList_inj e)
theorem ret_ib {a c : Int} {b d : Bool} (h : a = c) (k : b = d) : Ending.returned (.tuple #[.int .i64 a, .bool b]) = .returned (.tuple #[.int .i64 c, .bool d]) := by rw [h, k]
set_option maxRecDepth 100000 in
set_option maxHeartbeats 4000000 in
theorem implReadDecimal_any (s : ByteArray) (w : World) (hs : s.size ≤ 1048576) : Calls Try.prog 17 #[.string s] w fun e w' => e = .returned (.tuple #[.int .i64 (rdR s), .bool (rdB s)]) ∧ Below w.heap.size w w' := by
  obtain ⟨n, hn⟩ : ∃ n, s.size = n := ⟨_, rfl⟩
  have HN := hid hn
  rcases Nat.eq_zero_or_pos n with h0 | hp
  · have he : s = ⟨#[]⟩ := by cases s with | mk d => (have : d.size = 0 := by have h := hn; rw [h0] at h; exact h); congr; exact Array.eq_empty_of_size_eq_zero this
    subst he
    have HV := hid (rd_no (s := ⟨#[]⟩) (fun h => by have h1 := h.1; simp [rdT, byteL] at h1; exact absurd h1 (by decide)))
    clear hn HN h0
    go_enter Try.func17, Try.ntmps17
    go_wp2_with fail
    go_ret2
    exact ⟨ret_ib HV.out.1.symm HV.out.2.symm, Below.refl _ _⟩
  have hns : 0 < s.size := by omega
  obtain ⟨c0, hc0⟩ : ∃ b : Int, ((s[0]'hns).toNat : Int) = b := ⟨_, rfl⟩
  have HC0 : Hid ((byteL s)[0]? = some c0) := hid (by rw [byte_at s 0 hns, hc0])
  have bd0 := byte_bd HC0.out
  by_cases h45 : c0 = 45
  · have hb45 : (c0 == 45) = true := by simp [h45]
    have HT1 : Hid (rdT s = s.extract 1 s.size ∧ rdV s = -rdN (byteL (rdT s))) := hid (by unfold rdV; rw [if_pos (by rw [HC0.out, h45])]; unfold rdT; rw [if_pos (by rw [HC0.out, h45])]; exact ⟨rfl, rfl⟩)
    clear h45
    obtain ⟨t, ht⟩ : ∃ t, s.extract 1 n = t := ⟨_, rfl⟩
    obtain ⟨m, htz⟩ : ∃ m, t.size = m := ⟨_, rfl⟩
    have HMN : Hid (m + 1 = n) := hid (by rw [← htz, ← ht, ← hn, ext1_size]; omega)
    have HT : Hid (rdT s = t ∧ rdV s = -rdN (byteL t)) := hid (by have h2 : s.extract 1 s.size = t := (by rw [hn, ht]); have h := HT1.out; rw [h2] at h; refine ⟨h.1, ?_⟩; rw [h.2, h.1])
    have hmn := HMN.out
    have hmn1 : 1 ≤ n := hp
    have hlt2 : m < n := by omega
    clear hmn
    by_cases hm0 : m = 0
    · have HV := hid (rd_no (s := s) (fun h => by have h1 := h.1; rw [HT.out.1, htz] at h1; omega))
      subst hm0
      go_enter Try.func17, Try.ntmps17
      go_wp2_with fail
      go_ret2
      exact ⟨ret_ib HV.out.1.symm HV.out.2.symm, Below.refl _ _⟩
    by_cases h18 : 18 < m
    · have HV := hid (rd_no (s := s) (fun h => by have h1 := h.2.1; rw [HT.out.1, htz] at h1; omega))
      have hgr : (18 : Int) < m := by omega
      have hlr : ¬ ((m : Int) < 1) := by omega
      go_enter Try.func17, Try.ntmps17
      go_wp2_with fail
      go_ret2
      exact ⟨ret_ib HV.out.1.symm HV.out.2.symm, Below.refl _ _⟩
    have hlr : ¬ ((m : Int) < 1) := by omega
    have hgr : ¬ ((18 : Int) < m) := by omega
    go_enter Try.func17, Try.ntmps17
    go_wp2_with fail
    go_loopg [5, 28] m (fun g v i wr => ∃ k : Nat, k ≤ m ∧ v = .int .i64 (rdN ((byteL t).take k)) ∧ i = .int .i64 k ∧ g = m - k ∧ Hid (∀ (i : Nat) b, i < k → (byteL t)[i]? = some b → digitP b) ∧ w = wr)
    case atStart => exact ⟨0, Nat.zero_le _, rfl, rfl, rfl, hid (fun i b h => by omega), rfl⟩
    case round =>
      obtain ⟨k, hk, rfl, rfl, hg, HA, rfl⟩ := hrel
      have hbd := rd_bd HA.out (by omega)
      obtain ⟨v, hv⟩ : ∃ v, rdN ((byteL t).take k) = v := ⟨_, rfl⟩
      have HVV := hid hv
      rw [hv] at hbd
      simp only [hv]
      clear hv
      obtain ⟨v1, v2, v3⟩ := hbd
      by_cases hlt : k < m
      · have hks : k < t.size := by omega
        have v4 := v3 (by omega)
        clear v3
        obtain ⟨b, hb⟩ : ∃ b : Int, ((t[k]'hks).toNat : Int) = b := ⟨_, rfl⟩
        have HBY : Hid ((byteL t)[k]? = some b) := hid (by rw [byte_at t k hks, hb])
        have bd := byte_bd HBY.out
        by_cases hd : 48 ≤ b ∧ b ≤ 57
        · have HC := hid (dg_step HA.out HBY.out hd)
          have HST := hid (rd_step HBY.out)
          obtain ⟨d1, d2⟩ := hd
          have tw : IntKind.u8.wrap (b - 48) = b - 48 := IntWalk.u8_in _ (by omega)
          go_wp2_with fail
          go_roundg (m - (k + 1))
          case measure => omega
          case rel => exact ⟨k + 1, by omega, by rw [HST.out, HVV.out], by go_num, rfl, HC, rfl⟩
        · have HV := hid (rd_no (s := s) (fun h => by have h1 := h.2.2.1; rw [HT.out.1] at h1; have h2 := h1 k b HBY.out; unfold digitP at h2; exact hd h2))
          by_cases hd1 : b < 48
          · clear hd
            go_wp2_with fail
            go_ret2
            exact ⟨ret_ib HV.out.1.symm HV.out.2.symm, Below.refl _ _⟩
          · have hd2 : 57 < b := by omega
            clear hd
            go_wp2_with fail
            go_ret2
            exact ⟨ret_ib HV.out.1.symm HV.out.2.symm, Below.refl _ _⟩
      · obtain rfl : k = m := by omega
        have HVE : Hid (rdV s = -v) := hid (by rw [HT.out.2, ← HVV.out, List.take_of_length_le (by rw [byteL_length]; omega)])
        have hwf : (Lit.int .i64 (-v)).wf = true := by simp [Lit.wf, IntKind.min, IntKind.max, IntKind.bits, IntKind.signed]; omega
        have HALL : Hid (∀ (i : Nat) b, (byteL t)[i]? = some b → digitP b) := hid (fun i b h => HA.out i b (by have := (List.getElem?_eq_some_iff.1 h).1; rw [byteL_length] at this; omega) h)
        by_cases he : decS (-v) = s
        · have hbn : ((decS (-v)).toList == s.toList) = true := beq_of_eq he
          have HV := hid (rd_yes (s := s) ⟨by rw [HT.out.1]; omega, by rw [HT.out.1]; omega, by rw [HT.out.1]; exact HALL.out, by rw [HVE.out]; exact he⟩)
          clear he v3
          go_wp2_with fail
          refine (implDecimal_any (-v) _ hwf).mono ?_
          rintro e w1 ⟨rfl, hb1⟩
          have HB := hid hb1
          clear hb1
          go_wp2_with fail
          go_ret2
          exact ⟨ret_ib (by rw [HV.out.1, HVE.out]) HV.out.2.symm, HB.out⟩
        · have hbn : ((decS (-v)).toList == s.toList) = false := beq_of_ne he
          have HV := hid (rd_no (s := s) (fun h => he (by have h2 := h.2.2.2; rw [HVE.out] at h2; exact h2)))
          clear he v3
          go_wp2_with fail
          refine (implDecimal_any (-v) _ hwf).mono ?_
          rintro e w1 ⟨rfl, hb1⟩
          have HB := hid hb1
          clear hb1
          go_wp2_with fail
          go_ret2
          exact ⟨ret_ib HV.out.1.symm HV.out.2.symm, HB.out⟩
  · have hb45 : (c0 == 45) = false := by simp [h45]
    have HT1 : Hid (rdT s = s ∧ rdV s = rdN (byteL (rdT s))) := hid (by unfold rdV; rw [if_neg (by rw [HC0.out]; intro h; injection h with h; exact h45 h)]; unfold rdT; rw [if_neg (by rw [HC0.out]; intro h; injection h with h; exact h45 h)]; exact ⟨rfl, rfl⟩)
    clear h45
    have HT : Hid (rdT s = s ∧ rdV s = rdN (byteL s)) := hid (by have h := HT1.out; refine ⟨h.1, ?_⟩; rw [h.2, h.1])
    by_cases h18 : 18 < n
    · have HV := hid (rd_no (s := s) (fun h => by have h1 := h.2.1; rw [HT.out.1, hn] at h1; omega))
      have hgr : (18 : Int) < n := by omega
      have hlr : ¬ ((n : Int) < 1) := by omega
      go_enter Try.func17, Try.ntmps17
      go_wp2_with fail
      go_ret2
      exact ⟨ret_ib HV.out.1.symm HV.out.2.symm, Below.refl _ _⟩
    have hlr : ¬ ((n : Int) < 1) := by omega
    have hgr : ¬ ((18 : Int) < n) := by omega
    go_enter Try.func17, Try.ntmps17
    go_wp2_with fail
    go_loopg [5, 28] n (fun g v i wr => ∃ k : Nat, k ≤ n ∧ v = .int .i64 (rdN ((byteL s).take k)) ∧ i = .int .i64 k ∧ g = n - k ∧ Hid (∀ (i : Nat) b, i < k → (byteL s)[i]? = some b → digitP b) ∧ w = wr)
    case atStart => exact ⟨0, Nat.zero_le _, rfl, rfl, rfl, hid (fun i b h => by omega), rfl⟩
    case round =>
      obtain ⟨k, hk, rfl, rfl, hg, HA, rfl⟩ := hrel
      have hbd := rd_bd HA.out (by omega)
      obtain ⟨v, hv⟩ : ∃ v, rdN ((byteL s).take k) = v := ⟨_, rfl⟩
      have HVV := hid hv
      rw [hv] at hbd
      simp only [hv]
      clear hv
      obtain ⟨v1, v2, v3⟩ := hbd
      by_cases hlt : k < n
      · have hks : k < s.size := by omega
        have v4 := v3 (by omega)
        clear v3
        obtain ⟨b, hb⟩ : ∃ b : Int, ((s[k]'hks).toNat : Int) = b := ⟨_, rfl⟩
        have HBY : Hid ((byteL s)[k]? = some b) := hid (by rw [byte_at s k hks, hb])
        have bd := byte_bd HBY.out
        by_cases hd : 48 ≤ b ∧ b ≤ 57
        · have HC := hid (dg_step HA.out HBY.out hd)
          have HST := hid (rd_step HBY.out)
          obtain ⟨d1, d2⟩ := hd
          have tw : IntKind.u8.wrap (b - 48) = b - 48 := IntWalk.u8_in _ (by omega)
          go_wp2_with fail
          go_roundg (n - (k + 1))
          case measure => omega
          case rel => exact ⟨k + 1, by omega, by rw [HST.out, HVV.out], by go_num, rfl, HC, rfl⟩
        · have HV := hid (rd_no (s := s) (fun h => by have h1 := h.2.2.1; rw [HT.out.1] at h1; have h2 := h1 k b HBY.out; unfold digitP at h2; exact hd h2))
          by_cases hd1 : b < 48
          · clear hd
            go_wp2_with fail
            go_ret2
            exact ⟨ret_ib HV.out.1.symm HV.out.2.symm, Below.refl _ _⟩
          · have hd2 : 57 < b := by omega
            clear hd
            go_wp2_with fail
            go_ret2
            exact ⟨ret_ib HV.out.1.symm HV.out.2.symm, Below.refl _ _⟩
      · obtain rfl : k = n := by omega
        have HVE : Hid (rdV s = v) := hid (by rw [HT.out.2, ← HVV.out, List.take_of_length_le (by rw [byteL_length]; omega)])
        have hwf : (Lit.int .i64 (v)).wf = true := by simp [Lit.wf, IntKind.min, IntKind.max, IntKind.bits, IntKind.signed]; omega
        have HALL : Hid (∀ (i : Nat) b, (byteL s)[i]? = some b → digitP b) := hid (fun i b h => HA.out i b (by have := (List.getElem?_eq_some_iff.1 h).1; rw [byteL_length] at this; omega) h)
        by_cases he : decS (v) = s
        · have hbn : ((decS (v)).toList == s.toList) = true := beq_of_eq he
          have HV := hid (rd_yes (s := s) ⟨by rw [HT.out.1]; omega, by rw [HT.out.1]; omega, by rw [HT.out.1]; exact HALL.out, by rw [HVE.out]; exact he⟩)
          clear he v3
          go_wp2_with fail
          refine (implDecimal_any (v) _ hwf).mono ?_
          rintro e w1 ⟨rfl, hb1⟩
          have HB := hid hb1
          clear hb1
          go_wp2_with fail
          go_ret2
          exact ⟨ret_ib (by rw [HV.out.1, HVE.out]) HV.out.2.symm, HB.out⟩
        · have hbn : ((decS (v)).toList == s.toList) = false := beq_of_ne he
          have HV := hid (rd_no (s := s) (fun h => he (by have h2 := h.2.2.2; rw [HVE.out] at h2; exact h2)))
          clear he v3
          go_wp2_with fail
          refine (implDecimal_any (v) _ hwf).mono ?_
          rintro e w1 ⟨rfl, hb1⟩
          have HB := hid hb1
          clear hb1
          go_wp2_with fail
          go_ret2
          exact ⟨ret_ib HV.out.1.symm HV.out.2.symm, HB.out⟩
set_option maxRecDepth 100000 in
set_option maxHeartbeats 4000000 in
theorem l01Number_any (s : ByteArray) (w : World) (hs : s.size ≤ 1048576) : Calls Try.prog 57 #[.string s] w fun e w' => e = .returned (.tuple #[.int .i64 (rdR s), .bool (rdB s)]) ∧ Below w.heap.size w w' := by
  obtain ⟨n, hn⟩ : ∃ n, s.size = n := ⟨_, rfl⟩
  have HN := hid hn
  rcases Nat.eq_zero_or_pos n with h0 | hp
  · have he : s = ⟨#[]⟩ := by cases s with | mk d => (have : d.size = 0 := by have h := hn; rw [h0] at h; exact h); congr; exact Array.eq_empty_of_size_eq_zero this
    subst he
    have HV := hid (rd_no (s := ⟨#[]⟩) (fun h => by have h1 := h.1; simp [rdT, byteL] at h1; exact absurd h1 (by decide)))
    clear hn HN h0
    go_enter Try.func57, Try.ntmps57
    go_wp2_with fail
    go_ret2
    exact ⟨ret_ib HV.out.1.symm HV.out.2.symm, Below.refl _ _⟩
  have hns : 0 < s.size := by omega
  obtain ⟨c0, hc0⟩ : ∃ b : Int, ((s[0]'hns).toNat : Int) = b := ⟨_, rfl⟩
  have HC0 : Hid ((byteL s)[0]? = some c0) := hid (by rw [byte_at s 0 hns, hc0])
  have bd0 := byte_bd HC0.out
  have hne2 : ¬ s.toList = [] := by
    rw [ByteArray.toList_eq]
    exact fun h => by have h2 := congrArg List.length h; simp only [Array.length_toList, List.length_nil] at h2; have h4 : s.size = 0 := h2; omega
  have hne : s.toList.isEmpty = false := by simpa using hne2
  by_cases h45 : c0 = 45
  · have hb45 : (c0 == 45) = true := by simp [h45]
    have HT1 : Hid (rdT s = s.extract 1 s.size ∧ rdV s = -rdN (byteL (rdT s))) := hid (by unfold rdV; rw [if_pos (by rw [HC0.out, h45])]; unfold rdT; rw [if_pos (by rw [HC0.out, h45])]; exact ⟨rfl, rfl⟩)
    clear h45
    obtain ⟨t, ht⟩ : ∃ t, s.extract 1 n = t := ⟨_, rfl⟩
    obtain ⟨m, htz⟩ : ∃ m, t.size = m := ⟨_, rfl⟩
    have HMN : Hid (m + 1 = n) := hid (by rw [← htz, ← ht, ← hn, ext1_size]; omega)
    have HT : Hid (rdT s = t ∧ rdV s = -rdN (byteL t)) := hid (by have h2 : s.extract 1 s.size = t := (by rw [hn, ht]); have h := HT1.out; rw [h2] at h; refine ⟨h.1, ?_⟩; rw [h.2, h.1])
    have hmn := HMN.out
    have hmn1 : 1 ≤ n := hp
    have hlt2 : m < n := by omega
    clear hmn
    by_cases hm0 : m = 0
    · have HV := hid (rd_no (s := s) (fun h => by have h1 := h.1; rw [HT.out.1, htz] at h1; omega))
      subst hm0
      go_enter Try.func57, Try.ntmps57
      go_wp2_with fail
      go_ret2
      exact ⟨ret_ib HV.out.1.symm HV.out.2.symm, Below.refl _ _⟩
    by_cases h18 : 18 < m
    · have HV := hid (rd_no (s := s) (fun h => by have h1 := h.2.1; rw [HT.out.1, htz] at h1; omega))
      have hgr : (18 : Int) < m := by omega
      have hlr : ¬ ((m : Int) < 1) := by omega
      go_enter Try.func57, Try.ntmps57
      go_wp2_with fail
      go_ret2
      exact ⟨ret_ib HV.out.1.symm HV.out.2.symm, Below.refl _ _⟩
    have hlr : ¬ ((m : Int) < 1) := by omega
    have hgr : ¬ ((18 : Int) < m) := by omega
    go_enter Try.func57, Try.ntmps57
    go_wp2_with fail
    go_loopg [5, 6] m (fun g v i wr => ∃ k : Nat, k ≤ m ∧ v = .int .i64 (rdN ((byteL t).take k)) ∧ i = .int .i64 k ∧ g = m - k ∧ Hid (∀ (i : Nat) b, i < k → (byteL t)[i]? = some b → digitP b) ∧ w = wr)
    case atStart => exact ⟨0, Nat.zero_le _, rfl, rfl, rfl, hid (fun i b h => by omega), rfl⟩
    case round =>
      obtain ⟨k, hk, rfl, rfl, hg, HA, rfl⟩ := hrel
      have hbd := rd_bd HA.out (by omega)
      obtain ⟨v, hv⟩ : ∃ v, rdN ((byteL t).take k) = v := ⟨_, rfl⟩
      have HVV := hid hv
      rw [hv] at hbd
      simp only [hv]
      clear hv
      obtain ⟨v1, v2, v3⟩ := hbd
      by_cases hlt : k < m
      · have hks : k < t.size := by omega
        have v4 := v3 (by omega)
        clear v3
        obtain ⟨b, hb⟩ : ∃ b : Int, ((t[k]'hks).toNat : Int) = b := ⟨_, rfl⟩
        have HBY : Hid ((byteL t)[k]? = some b) := hid (by rw [byte_at t k hks, hb])
        have bd := byte_bd HBY.out
        by_cases hd : 48 ≤ b ∧ b ≤ 57
        · have HC := hid (dg_step HA.out HBY.out hd)
          have HST := hid (rd_step HBY.out)
          have HDG : Hid (digitB b = true) := hid (by simp [digitB]; omega)
          obtain ⟨d1, d2⟩ := hd
          have tw : IntKind.u8.wrap (b - 48) = b - 48 := IntWalk.u8_in _ (by omega)
          go_wp2_with fail
          refine (calls_bool (l01Digit_any b _) HDG.out).mono ?_
          rintro e w' ⟨rfl, rfl⟩
          go_wp2_with fail
          go_roundg (m - (k + 1))
          case measure => omega
          case rel => exact ⟨k + 1, by omega, by rw [HST.out, HVV.out], by go_num, rfl, HC, rfl⟩
        · have HV := hid (rd_no (s := s) (fun h => by have h1 := h.2.2.1; rw [HT.out.1] at h1; have h2 := h1 k b HBY.out; unfold digitP at h2; exact hd h2))
          have HDG : Hid (digitB b = false) := hid (by simp [digitB]; omega)
          clear hd
          go_wp2_with fail
          refine (calls_bool (l01Digit_any b _) HDG.out).mono ?_
          rintro e w' ⟨rfl, rfl⟩
          go_wp2_with fail
          go_ret2
          exact ⟨ret_ib HV.out.1.symm HV.out.2.symm, Below.refl _ _⟩
      · obtain rfl : k = m := by omega
        have HVE : Hid (rdV s = -v) := hid (by rw [HT.out.2, ← HVV.out, List.take_of_length_le (by rw [byteL_length]; omega)])
        have hwf : (Lit.int .i64 (-v)).wf = true := by simp [Lit.wf, IntKind.min, IntKind.max, IntKind.bits, IntKind.signed]; omega
        have HALL : Hid (∀ (i : Nat) b, (byteL t)[i]? = some b → digitP b) := hid (fun i b h => HA.out i b (by have := (List.getElem?_eq_some_iff.1 h).1; rw [byteL_length] at this; omega) h)
        by_cases he : decS (-v) = s
        · have hbn : ((decS (-v)).toList == s.toList) = true := beq_of_eq he
          have HV := hid (rd_yes (s := s) ⟨by rw [HT.out.1]; omega, by rw [HT.out.1]; omega, by rw [HT.out.1]; exact HALL.out, by rw [HVE.out]; exact he⟩)
          clear he v3
          go_wp2_with fail
          refine (l01Dec_any (-v) _ hwf).mono ?_
          rintro e w1 ⟨rfl, hb1⟩
          have HB := hid hb1
          clear hb1
          go_wp2_with fail
          go_ret2
          exact ⟨ret_ib (by rw [HV.out.1, HVE.out]) HV.out.2.symm, HB.out⟩
        · have hbn : ((decS (-v)).toList == s.toList) = false := beq_of_ne he
          have HV := hid (rd_no (s := s) (fun h => he (by have h2 := h.2.2.2; rw [HVE.out] at h2; exact h2)))
          clear he v3
          go_wp2_with fail
          refine (l01Dec_any (-v) _ hwf).mono ?_
          rintro e w1 ⟨rfl, hb1⟩
          have HB := hid hb1
          clear hb1
          go_wp2_with fail
          go_ret2
          exact ⟨ret_ib HV.out.1.symm HV.out.2.symm, HB.out⟩
  · have hb45 : (c0 == 45) = false := by simp [h45]
    have HT1 : Hid (rdT s = s ∧ rdV s = rdN (byteL (rdT s))) := hid (by unfold rdV; rw [if_neg (by rw [HC0.out]; intro h; injection h with h; exact h45 h)]; unfold rdT; rw [if_neg (by rw [HC0.out]; intro h; injection h with h; exact h45 h)]; exact ⟨rfl, rfl⟩)
    clear h45
    have HT : Hid (rdT s = s ∧ rdV s = rdN (byteL s)) := hid (by have h := HT1.out; refine ⟨h.1, ?_⟩; rw [h.2, h.1])
    by_cases h18 : 18 < n
    · have HV := hid (rd_no (s := s) (fun h => by have h1 := h.2.1; rw [HT.out.1, hn] at h1; omega))
      have hgr : (18 : Int) < n := by omega
      have hlr : ¬ ((n : Int) < 1) := by omega
      go_enter Try.func57, Try.ntmps57
      go_wp2_with fail
      go_ret2
      exact ⟨ret_ib HV.out.1.symm HV.out.2.symm, Below.refl _ _⟩
    have hlr : ¬ ((n : Int) < 1) := by omega
    have hgr : ¬ ((18 : Int) < n) := by omega
    go_enter Try.func57, Try.ntmps57
    go_wp2_with fail
    go_loopg [5, 6] n (fun g v i wr => ∃ k : Nat, k ≤ n ∧ v = .int .i64 (rdN ((byteL s).take k)) ∧ i = .int .i64 k ∧ g = n - k ∧ Hid (∀ (i : Nat) b, i < k → (byteL s)[i]? = some b → digitP b) ∧ w = wr)
    case atStart => exact ⟨0, Nat.zero_le _, rfl, rfl, rfl, hid (fun i b h => by omega), rfl⟩
    case round =>
      obtain ⟨k, hk, rfl, rfl, hg, HA, rfl⟩ := hrel
      have hbd := rd_bd HA.out (by omega)
      obtain ⟨v, hv⟩ : ∃ v, rdN ((byteL s).take k) = v := ⟨_, rfl⟩
      have HVV := hid hv
      rw [hv] at hbd
      simp only [hv]
      clear hv
      obtain ⟨v1, v2, v3⟩ := hbd
      by_cases hlt : k < n
      · have hks : k < s.size := by omega
        have v4 := v3 (by omega)
        clear v3
        obtain ⟨b, hb⟩ : ∃ b : Int, ((s[k]'hks).toNat : Int) = b := ⟨_, rfl⟩
        have HBY : Hid ((byteL s)[k]? = some b) := hid (by rw [byte_at s k hks, hb])
        have bd := byte_bd HBY.out
        by_cases hd : 48 ≤ b ∧ b ≤ 57
        · have HC := hid (dg_step HA.out HBY.out hd)
          have HST := hid (rd_step HBY.out)
          have HDG : Hid (digitB b = true) := hid (by simp [digitB]; omega)
          obtain ⟨d1, d2⟩ := hd
          have tw : IntKind.u8.wrap (b - 48) = b - 48 := IntWalk.u8_in _ (by omega)
          go_wp2_with fail
          refine (calls_bool (l01Digit_any b _) HDG.out).mono ?_
          rintro e w' ⟨rfl, rfl⟩
          go_wp2_with fail
          go_roundg (n - (k + 1))
          case measure => omega
          case rel => exact ⟨k + 1, by omega, by rw [HST.out, HVV.out], by go_num, rfl, HC, rfl⟩
        · have HV := hid (rd_no (s := s) (fun h => by have h1 := h.2.2.1; rw [HT.out.1] at h1; have h2 := h1 k b HBY.out; unfold digitP at h2; exact hd h2))
          have HDG : Hid (digitB b = false) := hid (by simp [digitB]; omega)
          clear hd
          go_wp2_with fail
          refine (calls_bool (l01Digit_any b _) HDG.out).mono ?_
          rintro e w' ⟨rfl, rfl⟩
          go_wp2_with fail
          go_ret2
          exact ⟨ret_ib HV.out.1.symm HV.out.2.symm, Below.refl _ _⟩
      · obtain rfl : k = n := by omega
        have HVE : Hid (rdV s = v) := hid (by rw [HT.out.2, ← HVV.out, List.take_of_length_le (by rw [byteL_length]; omega)])
        have hwf : (Lit.int .i64 (v)).wf = true := by simp [Lit.wf, IntKind.min, IntKind.max, IntKind.bits, IntKind.signed]; omega
        have HALL : Hid (∀ (i : Nat) b, (byteL s)[i]? = some b → digitP b) := hid (fun i b h => HA.out i b (by have := (List.getElem?_eq_some_iff.1 h).1; rw [byteL_length] at this; omega) h)
        by_cases he : decS (v) = s
        · have hbn : ((decS (v)).toList == s.toList) = true := beq_of_eq he
          have HV := hid (rd_yes (s := s) ⟨by rw [HT.out.1]; omega, by rw [HT.out.1]; omega, by rw [HT.out.1]; exact HALL.out, by rw [HVE.out]; exact he⟩)
          clear he v3
          go_wp2_with fail
          refine (l01Dec_any (v) _ hwf).mono ?_
          rintro e w1 ⟨rfl, hb1⟩
          have HB := hid hb1
          clear hb1
          go_wp2_with fail
          go_ret2
          exact ⟨ret_ib (by rw [HV.out.1, HVE.out]) HV.out.2.symm, HB.out⟩
        · have hbn : ((decS (v)).toList == s.toList) = false := beq_of_ne he
          have HV := hid (rd_no (s := s) (fun h => he (by have h2 := h.2.2.2; rw [HVE.out] at h2; exact h2)))
          clear he v3
          go_wp2_with fail
          refine (l01Dec_any (v) _ hwf).mono ?_
          rintro e w1 ⟨rfl, hb1⟩
          have HB := hid hb1
          clear hb1
          go_wp2_with fail
          go_ret2
          exact ⟨ret_ib HV.out.1.symm HV.out.2.symm, HB.out⟩
end Go.Proofs.Ytgcgaoblbhojnaa
namespace Go.Proofs.Ytgcgaoblbhojnaa
set_option linter.unusedSimpArgs false
set_option linter.unusedVariables false
open Go.ChangeShapes Go.WideShapes Go.ChangeAt Go.RowKit
theorem infoStr2 : (Try.prog.info? 9).map (fun i => (i.zero, i.size, i.bytes)) = some (some (.string ⟨#[]⟩), 1, 16) := by kernel_rfl
/-- The parts that end before byte k, and where the next begins. -/
def spS (s : ByteArray) (b : Int) : Nat → List ByteArray × Nat
  | 0 => ([], 0)
  | k + 1 => if (byteL s)[k]? = some b then ((spS s b k).1 ++ [s.extract (spS s b k).2 k], k + 1) else spS s b k
def spL (s : ByteArray) (b : Int) : List ByteArray := (spS s b s.size).1 ++ [s.extract (spS s b s.size).2 s.size]
theorem spS_bd (s : ByteArray) (b : Int) : ∀ k, (spS s b k).1.length ≤ k ∧ (spS s b k).2 ≤ k := by
  intro k
  induction k with
  | zero => exact ⟨Nat.le_refl _, Nat.le_refl _⟩
  | succ k ih =>
    rw [spS]
    split
    · simp; omega
    · omega
theorem spL_len (s : ByteArray) (b : Int) : (spL s b).length ≤ s.size + 1 := by
  have := (spS_bd s b s.size).1
  simp [spL]
  omega
def full (x : ByteArray) : Bool := !x.toList.isEmpty
def swL (s : ByteArray) : List ByteArray := (spL s 32).filter full
theorem swL_len (s : ByteArray) : (swL s).length ≤ s.size + 1 := Nat.le_trans (List.length_filter_le _ _) (spL_len s 32)
theorem filter_take (ss : List ByteArray) (j : Nat) (x : ByteArray) (h : ss[j]? = some x) : (ss.take (j + 1)).filter full = (ss.take j).filter full ++ (if full x then [x] else []) := by
  rw [List.take_add_one, h, List.filter_append]
  cases hx : full x <;> simp [hx]
theorem filter_len (ss : List ByteArray) (j : Nat) : ((ss.take j).filter full).length ≤ j := Nat.le_trans (List.length_filter_le _ _) (by simp; omega)
set_option maxRecDepth 100000 in
set_option maxHeartbeats 2000000 in
theorem l01Split_any (s : ByteArray) (b : Int) (w : World) (hs : s.size ≤ 1048576) (hb0 : 0 ≤ b ∧ b ≤ 255) :
    Calls Try.prog 110 #[.string s, .int .u8 b] w fun e w' => (∃ A' c', e = .returned (.slice A' (spL s b).length c') ∧ w'.ownsRow w.heap.size 9 1 (.slice A' (spL s b).length c') (spL s b).length (strs (spL s b))) ∧ Below w.heap.size w w' := by
  obtain ⟨us, his, hs0, hs1, hs2⟩ := info_parts infoStr2
  obtain ⟨n, hn⟩ : ∃ n, s.size = n := ⟨_, rfl⟩
  have hn20 : n ≤ 1048576 := by omega
  have HL : Hid (spL s b = (spS s b n).1 ++ [s.extract (spS s b n).2 n]) := hid (by unfold spL; rw [hn])
  have ho1 := World.ownsRow_lit (base := w.heap.size) (e := 9) (size := 1) w #[] 0 (Nat.le_refl _) (Nat.zero_le _) rfl
  have HO1 := hid ho1
  clear ho1
  go_enter Try.func110, Try.ntmps110
  go_wp2_with fail
  go_loopg [5, 6, 7] n (fun g v f i wr => ∃ k : Nat, k ≤ n ∧ f = .int .i64 ((spS s b k).2 : Nat) ∧ i = .int .i64 k ∧ g = n - k ∧ Hid (wr.ownsRow w.heap.size 9 1 v (spS s b k).1.length (strs (spS s b k).1)) ∧ Hid (Below w.heap.size w wr))
  case atStart => exact ⟨0, Nat.zero_le _, rfl, rfl, rfl, HO1, hid (bal (Below.refl _ _) _)⟩
  case round =>
    obtain ⟨k, hk, rfl, rfl, hg, HO, HB⟩ := hrel
    obtain ⟨p1, p2⟩ := spS_bd s b k
    obtain ⟨ps, hps⟩ : ∃ ps, spS s b k = ps := ⟨_, rfl⟩
    have HPS := hid hps
    rw [hps] at HO p1 p2
    simp only [hps]
    clear hps
    obtain ⟨os, fr⟩ := ps
    dsimp only at HO p1 p2 ⊢
    have hz := HB.out.size
    by_cases hlt : k < n
    · have hks : k < s.size := by omega
      obtain ⟨c, hc⟩ : ∃ c : Int, ((s[k]'hks).toNat : Int) = c := ⟨_, rfl⟩
      have HBY : Hid ((byteL s)[k]? = some c) := hid (by rw [byte_at s k hks, hc])
      by_cases he : c = b
      · have hbb : (c == b) = true := by simp [he]
        have HE : Hid (spS s b (k + 1) = (os ++ [s.extract fr k], k + 1)) := hid (by rw [spS, HBY.out, if_pos (by rw [he]), HPS.out])
        clear he
        go_wp2_with (at_builtin; (refine wpList_append_own _ rfl _ _ 27 rfl w.heap.size 9 us (.string ⟨#[]⟩) 1 16 Try.underlying27 his hs0 hs1 hs2 rfl (by decide) _ (os.length) (strs os) rfl (HO.out.alloc _) ⟨wr.heap.size, 0, none⟩ 1 1 [.string (s.extract fr k)] rfl rfl (World.news_of_block (cs := #[.string (s.extract fr k)]) (t := 9) (fr := (0, 0)) (heap_alloc_new wr _)) (by simp [Value.oneCell']) (by unfold maxLen; omega) (by omega) (by simp; omega) ?_; intro v' wz ho2 hgr _))
        have HH := hid (And.intro ho2 hgr)
        clear ho2 hgr
        go_roundg (n - (k + 1))
        case measure => omega
        case rel => exact ⟨k + 1, by omega, by rw [HE.out]; go_num, by go_num, rfl, by rw [HE.out]; exact hid (by simpa [strs] using HH.out.1), hid (bgrew (lo := w.heap.size) (bal HB.out _) HH.out.2 (fun q hq => (HO.out.lt q hq).1) (Nat.le_refl _))⟩
      · have hbb : (c == b) = false := by simp [he]
        have HE : Hid (spS s b (k + 1) = (os, fr)) := hid (by rw [spS, HBY.out, if_neg (by intro h; injection h with h; exact he h), HPS.out])
        clear he
        go_wp2_with fail
        go_roundg (n - (k + 1))
        case measure => omega
        case rel => exact ⟨k + 1, by omega, by rw [HE.out], by go_num, rfl, by rw [HE.out]; exact HO, HB⟩
    · obtain rfl : k = n := by omega
      have HLL : Hid (spL s b = os ++ [s.extract fr k]) := hid (by rw [HL.out, HPS.out])
      go_wp2_with (at_builtin; (refine wpList_append_own _ rfl _ _ 27 rfl w.heap.size 9 us (.string ⟨#[]⟩) 1 16 Try.underlying27 his hs0 hs1 hs2 rfl (by decide) _ (os.length) (strs os) rfl (HO.out.alloc _) ⟨wr.heap.size, 0, none⟩ 1 1 [.string (s.extract fr k)] rfl rfl (World.news_of_block (cs := #[.string (s.extract fr k)]) (t := 9) (fr := (0, 0)) (heap_alloc_new wr _)) (by simp [Value.oneCell']) (by unfold maxLen; omega) (by omega) (by simp; omega) ?_; intro v' wz ho2 hgr _))
      have HH := hid (And.intro ho2 hgr)
      clear hgr
      obtain ⟨A9, c9, rfl⟩ := own_form ho2
      clear ho2
      go_wp2_with fail
      go_ret
      refine ⟨⟨A9, c9, by rw [HLL.out]; simp, ?_⟩, bgrew (lo := w.heap.size) (bal HB.out _) HH.out.2 (fun q hq => (HO.out.lt q hq).1) (Nat.le_refl _)⟩
      rw [HLL.out]
      simpa [strs] using HH.out.1
end Go.Proofs.Ytgcgaoblbhojnaa

/- l01Dec. -/
import Derived.Test.YtgcgaoblbhojnaaDc
import Derived.Test.YtgcgaoblbhojnaaLp
namespace Go.Proofs.Ytgcgaoblbhojnaa
set_option linter.unusedSimpArgs false
set_option linter.unusedVariables false
open Go.ChangeShapes Go.WideShapes Go.ChangeAt Go.RowKit
theorem strOfNums_app (a : Int) (l : List Int) : strOfNums ([a] ++ l) = strOfNums [a] ++ strOfNums l := by
  simp only [strOfNums]
  apply ByteArray.ext
  simp
theorem news_own {w : World} {B g n cap : Nat} {bs : List Int} (h : w.ownsRow B 5 1 (.slice (some ⟨g, 0, none⟩) n cap) n (bytesV bs)) : ∀ j u, (bytesV bs)[j]? = some u → w.cell? ((⟨g, 0, none⟩ : Addr).add j) = some u := by
  intro j u hu
  have hj : j < n := by have h1 := (List.getElem?_eq_some_iff.1 hu).1; have h2 := h.1; omega
  rw [add_plain, Nat.zero_add, World.ownsRow.cellAt h j (by omega)]
  exact hu
set_option maxRecDepth 100000 in
set_option maxHeartbeats 4000000 in
theorem l01Dec_any (n : Int) (w : World) (hn : (Lit.int .i64 n).wf = true) : Calls Try.prog 56 #[.int .i64 n] w fun e w' => e = .returned (.string (decS n)) ∧ Below w.heap.size w w' := by
  have hb : -9223372036854775808 ≤ n ∧ n ≤ 9223372036854775807 := by
    have := hn
    simp [Lit.wf, IntKind.min, IntKind.max, IntKind.bits, IntKind.signed] at this
    omega
  obtain ⟨b1, b2⟩ := hb
  clear hn
  obtain ⟨ub, hib, hb0, hb1, hb2⟩ := info_parts infoU8
  by_cases h0 : n = 0
  · subst h0
    go_enter Try.func56, Try.ntmps56
    go_wp2_with fail
    refine wp_loop_rounds 1 ?_
    rw [rounds_succ]
    go_wp2_with fail
    go_ret
    exact ⟨rfl, bal (Below.refl _ _) _⟩
  have hn0 : (n == 0) = false := by simp [h0]
  by_cases hneg : n < 0
  · skip
    go_enter Try.func56, Try.ntmps56
    go_wp2_with fail
    go_loopg [3, 4] 20 (fun g o a wr => ∃ (q : Nat) (acc : List Int) (gb cap : Nat), o = .slice (some ⟨gb, 0, none⟩) acc.length cap ∧ a = .int .i64 (-(q : Int)) ∧ q < 10 ^ g ∧ q ≤ 9223372036854775808 ∧  acc.length + g = 20 ∧ (g = 20 → 0 < q) ∧ Hid (dgL g q acc = dgL 20 n.natAbs []) ∧ Hid (wr.ownsRow w.heap.size 5 1 (.slice (some ⟨gb, 0, none⟩) acc.length cap) acc.length (bytesV acc)) ∧ Hid (Below w.heap.size w wr))
    case atStart => exact ⟨n.natAbs, [], w.heap.size, 0, rfl, by congr 1; omega, by omega, by omega, rfl, by omega, hid rfl, hid (World.ownsRow_lit (base := w.heap.size) (e := 5) (size := 1) w #[] 0 (Nat.le_refl _) (Nat.zero_le _) rfl), hid (bal (Below.refl _ _) _)⟩
    case round =>
      obtain ⟨q, acc, gb, cap, rfl, rfl, hq, hq2, hacc, hg0, HD, HO, HB⟩ := hrel
      by_cases hz : q = 0
      · subst hz
        have HE : Hid (acc = dgL 20 n.natAbs []) := hid (by rw [← HD.out, dgL_zero])
        have hpos : 0 < acc.length := by omega
        have hpos2 : ¬ (acc.length = 0) := by omega
        have hal : acc.length ≤ 20 := by omega
        have kc := conv_own HO.out
        have HV : Hid (decS n = ⟨#[45]⟩ ++ strOfNums acc) := hid (by unfold decS decL; rw [if_neg h0, if_pos hneg, HE.out]; exact strOfNums_app _ _)
        have hs : ¬ (9223372036854775807 < (⟨#[45]⟩ : ByteArray).size + (strOfNums acc).size) := by rw [strOfNums_size, show (⟨#[45]⟩ : ByteArray).size = 1 from rfl]; omega
        clear hacc hq hg0
        go_wp2_with fail
        go_ret
        exact ⟨by rw [HV.out]; rfl, HB.out⟩
      · obtain ⟨m, rfl⟩ : ∃ m, gk = m + 1 := by
          cases gk with
          | zero => simp at hq; omega
          | succ m => exact ⟨m, rfl⟩
        have HQ : Hid (q / 10 < 10 ^ m) := hid (by rw [Nat.pow_succ] at hq; omega)
        have HD2 : Hid (dgL m (q / 10) ((48 + (q : Int) % 10) :: acc) = dgL 20 n.natAbs []) := hid (by rw [← HD.out, dgL, if_neg hz])
        have HL := hid hacc
        have hpos : (0 : Int) < q := by omega
        have hal : acc.length ≤ 19 := by omega
        have kz := HB.out.size
        have hkn : -(q : Int) ≠ 0 := by omega
        have t2 : IntKind.u8.wrap (48 + (q : Int) % 10) = 48 + (q : Int) % 10 := IntWalk.u8_in _ (by omega)
        clear hacc hq hg0
        have r1 : Int.tmod (-(q : Int)) 10 = -((q : Int) % 10) := by rw [Int.neg_tmod, Int.tmod_eq_emod_of_nonneg (by omega)]
        have r2 : Int.tdiv (-(q : Int)) 10 = -((q : Int) / 10) := by rw [Int.neg_tdiv, Int.tdiv_eq_ediv_of_nonneg (by omega)]
        by_cases hm : (q : Int) % 10 = 0
        · have hlt0 : ¬ (-((q : Int) % 10) < 0) := by omega
          have HM := hid hm
          rw [hm] at r1 hlt0 t2
          simp only [Int.neg_zero, Int.add_zero] at r1 hlt0 t2
          clear hm
          have hol := World.ownsRow_lit (base := wr.heap.size) (e := 5) (size := 1) wr #[.int .u8 (48)] 1 (Nat.le_refl _) (by decide) rfl
          have HLIT := hid hol
          have HNW : Hid (∀ j u, (bytesV acc)[j]? = some u → (wr.alloc (.cells #[.int .u8 (48)] 5)).cell? ((⟨gb, 0, none⟩ : Addr).add j) = some u) := hid (news_own (HO.out.alloc _))
          clear hol
          go_wp2_with (at_builtin; (refine wpList_append_own _ rfl _ _ 54 rfl wr.heap.size 5 ub (.int .u8 0) 1 1 Try.underlying54 hib hb0 hb1 hb2 rfl (by decide) _ 1 [.int .u8 (48)] rfl HLIT.out ⟨gb, 0, none⟩ acc.length cap (bytesV acc) rfl (by simp [bytesV]) HNW.out (by simp [bytesV, Value.oneCell']) (by unfold maxLen; omega) (by omega) (by simp) ?_; intro v' wz ho2 hgr _; rw [Nat.add_comm 1] at ho2; have HH := hid (And.intro ho2 hgr); clear hgr; obtain ⟨g2, cap2, rfl⟩ := Go.Joins.ownsRow_form ho2 (Nat.succ_pos _); clear ho2))
          go_roundg m
          case measure => omega
          case rel => exact ⟨q / 10, (48 + (q : Int) % 10) :: acc, g2, cap2, rfl, by go_num, HQ.out, by omega, by have := HL.out; simp; omega, by have := HL.out; omega, HD2, hid (Go.Joins.ownsRow_le (by rw [HM.out]; simpa [bytesV] using HH.out.1) kz), hid (bgrew (lo := wr.heap.size) (bal HB.out _) HH.out.2 (fun q hq => by have := own_blk hq; omega) kz)⟩
        · have hlt0 : -((q : Int) % 10) < 0 := by omega
          clear hm
          have hol := World.ownsRow_lit (base := wr.heap.size) (e := 5) (size := 1) wr #[.int .u8 (48 + (q : Int) % 10)] 1 (Nat.le_refl _) (by decide) rfl
          have HLIT := hid hol
          have HNW : Hid (∀ j u, (bytesV acc)[j]? = some u → (wr.alloc (.cells #[.int .u8 (48 + (q : Int) % 10)] 5)).cell? ((⟨gb, 0, none⟩ : Addr).add j) = some u) := hid (news_own (HO.out.alloc _))
          clear hol
          go_wp2_with (at_builtin; (refine wpList_append_own _ rfl _ _ 54 rfl wr.heap.size 5 ub (.int .u8 0) 1 1 Try.underlying54 hib hb0 hb1 hb2 rfl (by decide) _ 1 [.int .u8 (48 + (q : Int) % 10)] rfl HLIT.out ⟨gb, 0, none⟩ acc.length cap (bytesV acc) rfl (by simp [bytesV]) HNW.out (by simp [bytesV, Value.oneCell']) (by unfold maxLen; omega) (by omega) (by simp) ?_; intro v' wz ho2 hgr _; rw [Nat.add_comm 1] at ho2; have HH := hid (And.intro ho2 hgr); clear hgr; obtain ⟨g2, cap2, rfl⟩ := Go.Joins.ownsRow_form ho2 (Nat.succ_pos _); clear ho2))
          go_roundg m
          case measure => omega
          case rel => exact ⟨q / 10, (48 + (q : Int) % 10) :: acc, g2, cap2, rfl, by go_num, HQ.out, by omega, by have := HL.out; simp; omega, by have := HL.out; omega, HD2, hid (Go.Joins.ownsRow_le (by simpa [bytesV] using HH.out.1) kz), hid (bgrew (lo := wr.heap.size) (bal HB.out _) HH.out.2 (fun q hq => by have := own_blk hq; omega) kz)⟩
  · skip
    go_enter Try.func56, Try.ntmps56
    go_wp2_with fail
    go_loopg [3, 4] 20 (fun g o a wr => ∃ (q : Nat) (acc : List Int) (gb cap : Nat), o = .slice (some ⟨gb, 0, none⟩) acc.length cap ∧ a = .int .i64 ((q : Int)) ∧ q < 10 ^ g ∧ q ≤ 9223372036854775808 ∧ q ≤ 9223372036854775807 ∧ acc.length + g = 20 ∧ (g = 20 → 0 < q) ∧ Hid (dgL g q acc = dgL 20 n.natAbs []) ∧ Hid (wr.ownsRow w.heap.size 5 1 (.slice (some ⟨gb, 0, none⟩) acc.length cap) acc.length (bytesV acc)) ∧ Hid (Below w.heap.size w wr))
    case atStart => exact ⟨n.natAbs, [], w.heap.size, 0, rfl, by congr 1; omega, by omega, by omega, by omega, rfl, by omega, hid rfl, hid (World.ownsRow_lit (base := w.heap.size) (e := 5) (size := 1) w #[] 0 (Nat.le_refl _) (Nat.zero_le _) rfl), hid (bal (Below.refl _ _) _)⟩
    case round =>
      obtain ⟨q, acc, gb, cap, rfl, rfl, hq, hq2, hq3, hacc, hg0, HD, HO, HB⟩ := hrel
      by_cases hz : q = 0
      · subst hz
        have HE : Hid (acc = dgL 20 n.natAbs []) := hid (by rw [← HD.out, dgL_zero])
        have hpos : 0 < acc.length := by omega
        have hpos2 : ¬ (acc.length = 0) := by omega
        have hal : acc.length ≤ 20 := by omega
        have kc := conv_own HO.out
        have HV : Hid (decS n = strOfNums acc) := hid (by unfold decS decL; rw [if_neg h0, if_neg (by omega), List.nil_append, HE.out])
        clear hacc hq hg0
        go_wp2_with fail
        go_ret
        exact ⟨by rw [HV.out]; rfl, HB.out⟩
      · obtain ⟨m, rfl⟩ : ∃ m, gk = m + 1 := by
          cases gk with
          | zero => simp at hq; omega
          | succ m => exact ⟨m, rfl⟩
        have HQ : Hid (q / 10 < 10 ^ m) := hid (by rw [Nat.pow_succ] at hq; omega)
        have HD2 : Hid (dgL m (q / 10) ((48 + (q : Int) % 10) :: acc) = dgL 20 n.natAbs []) := hid (by rw [← HD.out, dgL, if_neg hz])
        have HL := hid hacc
        have hpos : (0 : Int) < q := by omega
        have hal : acc.length ≤ 19 := by omega
        have kz := HB.out.size
        have hkn : (q : Int) ≠ 0 := by omega
        have t2 : IntKind.u8.wrap (48 + (q : Int) % 10) = 48 + (q : Int) % 10 := IntWalk.u8_in _ (by omega)
        clear hacc hq hg0
        have hol := World.ownsRow_lit (base := wr.heap.size) (e := 5) (size := 1) wr #[.int .u8 (48 + (q : Int) % 10)] 1 (Nat.le_refl _) (by decide) rfl
        have HLIT := hid hol
        have HNW : Hid (∀ j u, (bytesV acc)[j]? = some u → (wr.alloc (.cells #[.int .u8 (48 + (q : Int) % 10)] 5)).cell? ((⟨gb, 0, none⟩ : Addr).add j) = some u) := hid (news_own (HO.out.alloc _))
        clear hol
        go_wp2_with (at_builtin; (refine wpList_append_own _ rfl _ _ 54 rfl wr.heap.size 5 ub (.int .u8 0) 1 1 Try.underlying54 hib hb0 hb1 hb2 rfl (by decide) _ 1 [.int .u8 (48 + (q : Int) % 10)] rfl HLIT.out ⟨gb, 0, none⟩ acc.length cap (bytesV acc) rfl (by simp [bytesV]) HNW.out (by simp [bytesV, Value.oneCell']) (by unfold maxLen; omega) (by omega) (by simp) ?_; intro v' wz ho2 hgr _; rw [Nat.add_comm 1] at ho2; have HH := hid (And.intro ho2 hgr); clear hgr; obtain ⟨g2, cap2, rfl⟩ := Go.Joins.ownsRow_form ho2 (Nat.succ_pos _); clear ho2))
        go_roundg m
        case measure => omega
        case rel => exact ⟨q / 10, (48 + (q : Int) % 10) :: acc, g2, cap2, rfl, by go_num, HQ.out, by omega, by omega, by have := HL.out; simp; omega, by have := HL.out; omega, HD2, hid (Go.Joins.ownsRow_le (by simpa [bytesV] using HH.out.1) kz), hid (bgrew (lo := wr.heap.size) (bal HB.out _) HH.out.2 (fun q hq => by have := own_blk hq; omega) kz)⟩
end Go.Proofs.Ytgcgaoblbhojnaa

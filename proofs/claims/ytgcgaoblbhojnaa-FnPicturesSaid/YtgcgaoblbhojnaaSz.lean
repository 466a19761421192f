/- Slices of strings that came in: sized and copied. -/
import Derived.Test.YtgcgaoblbhojnaaEs
import Derived.OwnWalk
import Derived.Laws.OwnMore
import Derived.SliceStrings
import Derived.Lib.SmallJoins
import Derived.ChangeOld
namespace Go.Proofs.Ytgcgaoblbhojnaa
set_option linter.unusedSimpArgs false
set_option linter.unusedVariables false
open Go.ChangeShapes Go.WideShapes Go.ChangeAt Go.RowKit
/-- A slice's strings can be read below block B. -/
def StrsR (w : World) (B : Nat) (A : Option Addr) (ss : List ByteArray) : Prop := ∀ (j : Nat) s, ss[j]? = some s → ∃ b off, A = some ⟨b, off, none⟩ ∧ b < B ∧ w.cell? ⟨b, off + j, none⟩ = some (.string s)
theorem StrsR.below {w w' : World} {B : Nat} {A : Option Addr} {ss : List ByteArray} (h : StrsR w B A ss) (hb : Below B w w') : StrsR w' B A ss := fun j s hj => by
  obtain ⟨b, off, e, hlt, hc⟩ := h j s hj
  exact ⟨b, off, e, hlt, (hb.cell (p := ⟨b, off + j, none⟩) hlt).trans hc⟩
theorem StrsR.more {w : World} {B B' : Nat} {A : Option Addr} {ss : List ByteArray} (h : StrsR w B A ss) (hB : B ≤ B') : StrsR w B' A ss := fun j s hj => by
  obtain ⟨b, off, e, hlt, hc⟩ := h j s hj
  exact ⟨b, off, e, by omega, hc⟩
/-- A call's own row of strings, read. -/
theorem StrsR.own {w : World} {B n c : Nat} {A : Option Addr} {ss : List ByteArray} (h : w.ownsRow B 9 1 (.slice A n c) n (strs ss)) : StrsR w w.heap.size A ss := fun j s hj => by
  have hl : ss.length = n := by simpa [strs] using h.1
  have hjn : j < n := by have := (List.getElem?_eq_some_iff.1 hj).1; omega
  rcases Go.Joins.ownsRow_forms h with ⟨e, h0⟩ | ⟨g, cap, e⟩
  · omega
  · simp only [Value.slice.injEq] at e
    obtain ⟨rfl, -, rfl⟩ := e
    refine ⟨g, 0, rfl, (h.lt g rfl).2, ?_⟩
    rw [Nat.zero_add, World.ownsRow.cellAt h j (by omega)]
    simp [strs, hj]
def sumS (ss : List ByteArray) (i : Nat) : Nat := ((ss.take i).map ByteArray.size).sum
def totS (ss : List ByteArray) : Nat := ss.length + sumS ss ss.length
theorem sumS_succ {ss : List ByteArray} {i : Nat} {s : ByteArray} (h : ss[i]? = some s) : sumS ss (i + 1) = sumS ss i + s.size := by
  unfold sumS
  rw [List.take_add_one, h]
  simp [List.map_append, List.sum_append]
theorem sumS_zero (ss : List ByteArray) : sumS ss 0 = 0 := rfl
theorem sumS_le (ss : List ByteArray) (i : Nat) : sumS ss i ≤ sumS ss ss.length := by
  unfold sumS
  rw [List.take_length]
  have h : ∀ (l : List Nat) (i : Nat), (l.take i).sum ≤ l.sum := by
    intro l
    induction l with
    | nil => intro i; simp
    | cons a l ih => intro i; cases i with
      | zero => simp
      | succ i => simp; exact ih i
  rw [List.map_take]
  exact h _ _
theorem size_le_tot {ss : List ByteArray} {s : ByteArray} {i : Nat} (h : ss[i]? = some s) : s.size ≤ totS ss := by
  have h1 := sumS_succ h
  have h2 := sumS_le ss (i + 1)
  unfold totS
  omega
set_option maxHeartbeats 1000000 in
theorem szStringS_any (A : Option Addr) (c : Nat) (ss : List ByteArray) (w : World) (hz : StrsR w w.heap.size A ss) (hl : totS ss ≤ 1048576) :
    Calls Try.prog 18 #[.slice A ss.length c, .int .i64 1048576] w fun e w' => e = .returned (.int .i64 (1048576 - (totS ss : Int))) ∧ w = w' := by
  obtain ⟨n, hn⟩ : ∃ n, ss.length = n := ⟨_, rfl⟩
  obtain ⟨t, ht⟩ : ∃ t, totS ss = t := ⟨_, rfl⟩
  have HT := hid ht
  have hnt : n ≤ t := by rw [← ht, ← hn]; unfold totS; omega
  rw [hn, ht]
  rw [ht] at hl
  have HN := hid hn
  clear hn ht
  go_enter Try.func18, Try.ntmps18
  go_wp2_with fail
  go_loopg [1, 5] n (fun g l i wr => ∃ k : Nat, k ≤ n ∧ i = .int .i64 k ∧ l = .int .i64 (1048576 - (n : Int) - (sumS ss k : Int)) ∧ g = n - k ∧ w = wr)
  case atStart => exact ⟨0, Nat.zero_le _, rfl, by rw [sumS_zero]; simp, rfl, rfl⟩
  case round =>
    obtain ⟨k, hk, rfl, rfl, hg, rfl⟩ := hrel
    have hsl : n + sumS ss k ≤ t := by have h1 := sumS_le ss k; have h2 := HT.out; have h3 := HN.out; unfold totS at h2; omega
    obtain ⟨u, hu⟩ : ∃ u, sumS ss k = u := ⟨_, rfl⟩
    have HU := hid hu
    rw [hu] at hsl
    simp only [hu]
    clear hu
    by_cases hlt : k < n
    · obtain ⟨s, hs⟩ : ∃ s, ss[k]? = some s := ⟨_, List.getElem?_eq_getElem (by have := HN.out; omega)⟩
      obtain ⟨b, off, rfl, hb, hc⟩ := hz k s hs
      have HS := hid (sumS_succ hs)
      have h4 : n + (u + s.size) ≤ t := by have h1 := sumS_le ss (k + 1); have h2 := HT.out; have h3 := HN.out; have h5 := HS.out; have h6 := HU.out; unfold totS at h2; omega
      obtain ⟨z, hz2⟩ : ∃ z, s.size = z := ⟨_, rfl⟩
      rw [hz2] at h4
      have HZ := hid hz2
      clear hs
      go_wp2_with fail
      go_roundg (n - (k + 1))
      case measure => omega
      case rel => exact ⟨k + 1, by omega, by go_num, by rw [HS.out, HZ.out, HU.out]; congr 1; omega, rfl, rfl⟩
    · obtain rfl : k = n := by omega
      have hut : k + u = t := by have h1 := HT.out; have h2 := HU.out; have h3 := HN.out; unfold totS at h1; rw [h3, h2] at h1; exact h1
      go_wp2_with fail
      go_ret
      exact ⟨ret_int (by omega), rfl⟩
set_option maxHeartbeats 1000000 in
theorem szStringS_big (A : Option Addr) (c : Nat) (ss : List ByteArray) (w : World) (hz : StrsR w w.heap.size A ss) (hl : 1048576 < totS ss) (hn0 : ss.length ≤ maxLen) (hw : ∀ s ∈ ss, s.size ≤ maxLen) :
    Calls Try.prog 18 #[.slice A ss.length c, .int .i64 1048576] w fun e w' => e = .returned (.int .i64 (-1)) ∧ w = w' := by
  unfold maxLen at hn0 hw
  obtain ⟨n, hn⟩ : ∃ n, ss.length = n := ⟨_, rfl⟩
  obtain ⟨t, ht⟩ : ∃ t, totS ss = t := ⟨_, rfl⟩
  have HT := hid ht
  rw [hn] at hn0 ⊢
  rw [ht] at hl
  have HN := hid hn
  have HW := hid hw
  clear hn ht hw
  by_cases hbig : 1048576 < n
  · go_enter Try.func18, Try.ntmps18
    go_wp2_with fail
    go_ret
    exact ⟨rfl, rfl⟩
  go_enter Try.func18, Try.ntmps18
  go_wp2_with fail
  go_loopg [1, 5] n (fun g l i wr => ∃ k : Nat, k ≤ n ∧ i = .int .i64 k ∧ l = .int .i64 (1048576 - (n : Int) - (sumS ss k : Int)) ∧ n + sumS ss k ≤ 1048576 ∧ g = n - k ∧ w = wr)
  case atStart => exact ⟨0, Nat.zero_le _, rfl, by rw [sumS_zero]; simp, by rw [sumS_zero]; omega, rfl, rfl⟩
  case round =>
    obtain ⟨k, hk, rfl, rfl, hsl, hg, rfl⟩ := hrel
    obtain ⟨u, hu⟩ : ∃ u, sumS ss k = u := ⟨_, rfl⟩
    have HU := hid hu
    rw [hu] at hsl
    simp only [hu]
    clear hu
    by_cases hlt : k < n
    · obtain ⟨s, hs⟩ : ∃ s, ss[k]? = some s := ⟨_, List.getElem?_eq_getElem (by have := HN.out; omega)⟩
      obtain ⟨b, off, rfl, hb, hc⟩ := hz k s hs
      have HS := hid (sumS_succ hs)
      have hsm := HW.out s (List.mem_of_getElem? hs)
      obtain ⟨z, hz2⟩ : ∃ z, s.size = z := ⟨_, rfl⟩
      rw [hz2] at hsm
      have HZ := hid hz2
      clear hs
      by_cases hneg : 1048576 < n + u + z
      · go_wp2_with fail
        go_ret
        exact ⟨rfl, rfl⟩
      · go_wp2_with fail
        go_roundg (n - (k + 1))
        case measure => omega
        case rel => exact ⟨k + 1, by omega, by go_num, by rw [HS.out, HZ.out, HU.out]; congr 1; omega, by rw [HS.out, HZ.out, HU.out]; omega, rfl, rfl⟩
    · obtain rfl : k = n := by omega
      exfalso
      have h1 := HT.out
      have h2 := HU.out
      have h3 := HN.out
      unfold totS at h1
      rw [h3, h2] at h1
      omega
def fillS (ss : List ByteArray) (k : Nat) : List Value := strs (ss.take k ++ List.replicate (ss.length - k) ⟨#[]⟩)
theorem fillS_zero (ss : List ByteArray) : (madeCells (Value.string ⟨#[]⟩).cells (ss.length * 1)).toList = fillS ss 0 := by
  rw [Nat.mul_one]
  show (madeCells #[Value.string ⟨#[]⟩] ss.length).toList = _
  rw [toList_madeCells_one]
  simp [fillS, strs]
theorem fillS_full (ss : List ByteArray) : fillS ss ss.length = strs ss := by simp [fillS]
theorem fillS_set (ss : List ByteArray) (k : Nat) (s : ByteArray) (h : ss[k]? = some s) : (fillS ss k).set k (.string s) = fillS ss (k + 1) := by
  have hk : k < ss.length := (List.getElem?_eq_some_iff.1 h).1
  have e : List.replicate (ss.length - k) (⟨#[]⟩ : ByteArray) = ⟨#[]⟩ :: List.replicate (ss.length - (k + 1)) ⟨#[]⟩ := by
    rw [show ss.length - k = (ss.length - (k + 1)) + 1 by omega]; rfl
  unfold fillS strs
  rw [e, List.map_append, List.map_append, List.set_append, List.take_add_one, h]
  simp only [List.length_map, List.length_take, Nat.min_eq_left (Nat.le_of_lt hk)]
  simp
theorem infoStrZ : (Try.prog.info? 9).map (fun i => (i.zero, i.size, i.bytes)) = some (some (.string ⟨#[]⟩), 1, 16) := by kernel_rfl
set_option maxHeartbeats 1000000 in
theorem toStringS_any (A : Option Addr) (c : Nat) (ss : List ByteArray) (w : World) (B : Nat) (hz : StrsR w B A ss) (hB : B ≤ w.heap.size) (hl : ss.length ≤ 1048576) :
    Calls Try.prog 20 #[.slice A ss.length c] w fun e w' => (∃ A' c', e = .returned (.slice A' ss.length c') ∧ w'.ownsRow w.heap.size 9 1 (.slice A' ss.length c') ss.length (strs ss)) ∧ Below w.heap.size w w' := by
  obtain ⟨i0, hi, hz0, hz1, hz2⟩ := info_parts infoStrZ
  have hl' : ss.length ≤ 9223372036854775807 := by omega
  go_enter Try.func20, Try.ntmps20
  go_wp2_with (at_make; refine wpList_make_full _ rfl _ _ _ rfl w.heap.size 9 i0 (.string ⟨#[]⟩) 1 Try.underlying27 hi hz0 hz1 _ _ _ _ ss.length rfl rfl rfl rfl (by rw [hz2]; omega) (by unfold maxLen; omega) (Nat.le_refl _) ?_; intro w1 hown hgr)
  rw [fillS_zero] at hown
  have hb1 : Below w.heap.size w w1 := (Below.refl _ _).grown hgr (Nat.le_refl _) (by simp)
  go_loopg [4] ss.length (fun g i wr => ∃ k : Nat, k ≤ ss.length ∧ i = .int .i64 k ∧ g = ss.length - k ∧ wr.ownsRow w.heap.size 9 1 (.slice (some ⟨w.heap.size, 0, none⟩) ss.length ss.length) ss.length (fillS ss k) ∧ Below w.heap.size w wr)
  case atStart => exact ⟨0, Nat.zero_le _, rfl, rfl, hown, hb1⟩
  case round =>
    obtain ⟨k, hk, rfl, hg, ho, hbl⟩ := hrel
    by_cases hlt : k < ss.length
    · obtain ⟨s, hsk⟩ : ∃ s, ss[k]? = some s := ⟨_, List.getElem?_eq_getElem hlt⟩
      obtain ⟨b, off, rfl, hb, hc⟩ := ((hz.more hB).below hbl) k s hsk
      obtain ⟨u, hu⟩ : ∃ u, (fillS ss k)[k]? = some u := ⟨_, List.getElem?_eq_getElem (by rw [ho.1]; omega)⟩
      have hc2 : wr.cell? ⟨w.heap.size, k, none⟩ = some u := (World.ownsRow.cellAt ho k (by omega)).trans hu
      have hf2 := World.ownsRow.frozenAt ho k
      have hst := World.ownsRow.stored ho k (.string s)
      rw [fillS_set ss k s hsk] at hst
      have HST := hid hst
      clear hsk hu hst
      go_wp2_with fail
      go_roundg (ss.length - (k + 1))
      case measure => omega
      case rel => exact ⟨k + 1, by omega, by go_num, rfl, HST.out.1, hbl.setCell (Nat.le_refl _) _⟩
    · have hkl : k = ss.length := by omega
      subst hkl
      rw [fillS_full] at ho
      go_wp2_with fail
      go_ret
      exact ⟨⟨_, _, rfl, ho⟩, hbl⟩
end Go.Proofs.Ytgcgaoblbhojnaa

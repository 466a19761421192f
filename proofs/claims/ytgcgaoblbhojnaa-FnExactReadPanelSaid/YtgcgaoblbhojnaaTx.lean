/- panelText: contracts. -/
import Derived.Test.YtgcgaoblbhojnaaTl
import Derived.Test.YtgcgaoblbhojnaaDe
import Derived.Test.YtgcgaoblbhojnaaPs
import Derived.Test.YtgcgaoblbhojnaaQt
import Derived.Test.YtgcgaoblbhojnaaAu
namespace Go.Proofs.Ytgcgaoblbhojnaa
set_option linter.unusedSimpArgs false
set_option linter.unusedVariables false
open Go.ChangeShapes Go.WideShapes Go.ChangeAt Go.RowKit
theorem wf64T {z : Int} (h1 : -9223372036854775808 ≤ z) (h2 : z ≤ 9223372036854775807) : (Lit.int .i64 z).wf = true := by
  simp [Lit.wf, IntKind.min, IntKind.max, IntKind.bits, IntKind.signed]
  omega
theorem nums_app (a b : List Int) : strOfNums (a ++ b) = strOfNums a ++ strOfNums b := by
  simp only [strOfNums]
  apply ByteArray.ext
  simp
/-- The text of a panel, its first k marks. -/
def txH (W H : Int) : List Int := decL W ++ [120] ++ decL H ++ [58]
def txL (W H : Int) (zs : List Int) : List Int := txH W H ++ zs.map sgB
def txS (W H : Int) (zs : List Int) : ByteArray := strOfNums (txL W H zs)
theorem txH_str (W H : Int) : decS W ++ ⟨#[120]⟩ ++ decS H ++ ⟨#[58]⟩ = strOfNums (txH W H) := by
  unfold txH decS
  rw [nums_app, nums_app, nums_app]
  rfl
theorem tx_take {W H : Int} {zs : List Int} {k : Nat} {z : Int} (h : zs[k]? = some z) : strOfNums (txL W H (zs.take k)) ++ strOfNums [sgB z] = strOfNums (txL W H (zs.take (k + 1))) := by
  rw [← nums_app]
  congr 1
  unfold txL
  rw [List.take_add_one, h, List.map_append]
  simp
theorem tx_zero (W H : Int) (zs : List Int) : txL W H (zs.take 0) = txH W H := by simp [txL]
theorem tx_all (W H : Int) (zs : List Int) : txL W H (zs.take zs.length) = txL W H zs := by rw [List.take_length]
theorem dgL_len : ∀ (f q : Nat) (acc : List Int), (dgL f q acc).length ≤ acc.length + f := by
  intro f
  induction f with
  | zero => intro q acc; simp [dgL]
  | succ f ih =>
    intro q acc
    simp only [dgL]
    split
    · omega
    · have := ih (q / 10) ((48 + (q : Int) % 10) :: acc)
      simp only [List.length_cons] at this
      omega
theorem decL_len (n : Int) : (decL n).length ≤ 21 := by
  unfold decL
  split
  · simp
  · have := dgL_len 20 n.natAbs []
    simp only [List.length_nil] at this
    rw [List.length_append]
    split <;> simp <;> omega
theorem txH_len (W H : Int) : (txH W H).length ≤ 44 := by
  have := decL_len W
  have := decL_len H
  simp [txH]
  omega
theorem byte_num {b : Int} (h0 : 0 ≤ b) (h1 : b ≤ 255) : (((UInt8.ofNat b.toNat).toNat : Nat) : Int) = b := by
  simp [UInt8.toNat_ofNat']
  omega
theorem bytesV_nums {l : List Int} (h : ∀ b ∈ l, 0 ≤ b ∧ b ≤ 255) : ((strOfNums l).data.toList.map fun b => Value.int .u8 b.toNat) = bytesV l := by
  rw [strOfNums_data, List.map_map]
  unfold bytesV
  apply List.map_congr_left
  intro b hb
  obtain ⟨h0, h1⟩ := h b hb
  simp only [Function.comp]
  rw [byte_num h0 h1]
theorem dgL_bd : ∀ (f q : Nat) (acc : List Int), (∀ b ∈ acc, 0 ≤ b ∧ b ≤ 255) → ∀ b ∈ dgL f q acc, 0 ≤ b ∧ b ≤ 255 := by
  intro f
  induction f with
  | zero => intro q acc h; simpa [dgL] using h
  | succ f ih =>
    intro q acc h
    simp only [dgL]
    split
    · exact h
    · refine ih _ _ ?_
      intro b hb
      rcases List.mem_cons.1 hb with rfl | hb
      · omega
      · exact h b hb
theorem decL_bd (n : Int) : ∀ b ∈ decL n, 0 ≤ b ∧ b ≤ 255 := by
  unfold decL
  split
  · intro b hb; simp at hb; omega
  · intro b hb
    rcases List.mem_append.1 hb with hb | hb
    · split at hb
      · simp at hb; omega
      · simp at hb
    · exact dgL_bd _ _ _ (by simp) b hb
theorem sgB_bd (k : Int) : 0 ≤ sgB k ∧ sgB k ≤ 255 := by unfold sgB; repeat (split <;> try omega)
theorem txH_bd (W H : Int) : ∀ b ∈ txH W H, 0 ≤ b ∧ b ≤ 255 := by
  intro b hb
  simp only [txH, List.mem_append, List.mem_singleton] at hb
  rcases hb with ((hb | hb) | hb) | hb
  · exact decL_bd _ b hb
  · omega
  · exact decL_bd _ b hb
  · omega
theorem tx_sizes (W H : Int) : ¬ (9223372036854775807 < (decS W).size + (⟨#[120]⟩ : ByteArray).size) ∧ ¬ (9223372036854775807 < (decS W ++ ⟨#[120]⟩).size + (decS H).size) ∧ ¬ (9223372036854775807 < (decS W ++ ⟨#[120]⟩ ++ decS H).size + (⟨#[58]⟩ : ByteArray).size) := by
  have h1 : (decS W).size ≤ 21 := by unfold decS; rw [strOfNums_size]; exact decL_len W
  have h2 : (decS H).size ≤ 21 := by unfold decS; rw [strOfNums_size]; exact decL_len H
  have e1 : (⟨#[120]⟩ : ByteArray).size = 1 := rfl
  have e2 : (⟨#[58]⟩ : ByteArray).size = 1 := rfl
  simp only [ByteArray.size_append, e1, e2]
  omega
theorem tx_sizes2 (W H : Int) : ¬ (9223372036854775807 < (decS W).size + 1) ∧ ¬ (9223372036854775807 < (decS W).size + 1 + (decS H).size) ∧ ¬ (9223372036854775807 < (decS W).size + 1 + (decS H).size + 1) := by
  have h1 : (decS W).size ≤ 21 := by unfold decS; rw [strOfNums_size]; exact decL_len W
  have h2 : (decS H).size ≤ 21 := by unfold decS; rw [strOfNums_size]; exact decL_len H
  omega
theorem tx_size (W H : Int) (zs : List Int) (k : Nat) (h : zs.length ≤ 112) (z : Int) : ¬ (9223372036854775807 < (strOfNums (txL W H (zs.take k))).size + (strOfNums [z]).size) := by
  have := txH_len W H
  simp only [strOfNums_size, txL, List.length_append, List.length_map, List.length_take, List.length_cons, List.length_nil]
  omega
set_option maxRecDepth 100000 in
set_option maxHeartbeats 4000000 in
theorem panelText_any (W H : Int) (A : Option Addr) (c : Nat) (zs : List Int) (w : World) (hz : Ints w w.heap.size A zs) (hv : validB W H zs = true) :
    Calls Try.prog 70 #[.agg #[.int .i64 W, .int .i64 H, .slice A zs.length c]] w fun e w' => e = .returned (.string (txS W H zs)) ∧ Below w.heap.size w w' := by
  obtain ⟨w1, w2⟩ := side_bd (valid_sides hv).1
  obtain ⟨w3, w4⟩ := side_bd (valid_sides hv).2
  have hlen := valid_len hv
  have hile := inner_le (valid_sides hv).1 (valid_sides hv).2
  obtain ⟨n, hn⟩ : ∃ n, zs.length = n := ⟨_, rfl⟩
  have hn2 : n ≤ 112 := by omega
  have HN := hid hn
  have HZ := hid hz
  have HV := hid hv
  have HE := hid (txH_str W H)
  obtain ⟨ts1, ts2, ts3⟩ := tx_sizes W H
  have HSZ := hid (fun k z => tx_size W H zs k (by omega) z)
  rw [hn]
  clear hn hlen hile hz hv
  go_enter Try.func70, Try.ntmps70
  go_wp2_with fail
  obtain ⟨wp, hwp⟩ : ∃ zz : World, zz = w.alloc (.cells #[.int .i64 W, .int .i64 H, .slice A n c] 39) := ⟨_, rfl⟩
  rw [← hwp]
  have KP := hid (show Box wp w.heap.size 39 #[.int .i64 W, .int .i64 H, .slice A n c] by rw [hwp]; exact Box.new _ _ _)
  have HB := hid (show Below w.heap.size w wp by rw [hwp]; exact bal (Below.refl _ _) _)
  clear hwp
  obtain ⟨Pa, Pb, Pc⟩ := KP.out.three
  have Pz := KP.out.lt
  refine wp_region_mix wp.heap.size (by kernel_rfl) (by kernel_rfl) ?_
  repeat (any_goals (go_big_quiet_step (first | (go_at_call_of 15 W; exact mix_call (by simp) (implDecimal_any W _ (wf64T (by omega) (by omega)))) | (go_at_call_of 15 H; exact mix_call (by simp) (implDecimal_any H _ (wf64T (by omega) (by omega)))))))
  refine wpQuiet_nil ?_
  intro wq hx
  have hb := mix_ex hx
  clear hx
  have KQ := hid (Box.keep KP.out hb)
  have HQ := hid (bbl HB.out hb)
  clear hb KP HB Pa Pb Pc Pz
  obtain ⟨Pa, Pb, Pc⟩ := KQ.out.three
  have Pz := KQ.out.lt
  go_wp2_with fail
  go_loopg [3, 18] n (fun g s i wr => ∃ k : Nat, k ≤ n ∧ i = .int .i64 k ∧ g = n - k ∧ s = .string (strOfNums (txL W H (zs.take k))) ∧ Hid (Below w.heap.size w wr))
  case atStart => exact ⟨0, Nat.zero_le _, rfl, rfl, by rw [tx_zero, ← HE.out], HQ⟩
  case round =>
    clear Pa Pb Pc Pz
    obtain ⟨k, hk, rfl, hg, rfl, HBr⟩ := hrel
    by_cases hlt : k < n
    · obtain ⟨z, hzk⟩ : ∃ z, zs[k]? = some z := ⟨_, List.getElem?_eq_getElem (by have := HN.out; omega)⟩
      obtain ⟨b, off, rfl, hbl, hck⟩ := (HZ.out.below HBr.out) k z hzk
      have hkd := validB_kinds HV.out hzk
      have hbz := HBr.out.size
      have HS := hid (tx_take (W := W) (H := H) hzk)
      have hsz := HSZ.out k (sgB z)
      obtain ⟨S0, hS0⟩ : ∃ s, strOfNums (txL W H (zs.take k)) = s := ⟨_, rfl⟩
      rw [hS0] at HS hsz ⊢
      have hsz1 : ¬ (9223372036854775807 < S0.size + 1) := by rw [strOfNums_size] at hsz; simpa using hsz
      clear hzk hS0
      rcases hkd with rfl | rfl | rfl
      · go_wp2_with fail
        go_roundg (n - (k + 1))
        case measure => omega
        case rel => exact ⟨k + 1, by omega, by go_num, rfl, by rw [← HS.out]; rfl, HBr⟩
      · go_wp2_with fail
        go_roundg (n - (k + 1))
        case measure => omega
        case rel => exact ⟨k + 1, by omega, by go_num, rfl, by rw [← HS.out]; rfl, HBr⟩
      · go_wp2_with fail
        go_roundg (n - (k + 1))
        case measure => omega
        case rel => exact ⟨k + 1, by omega, by go_num, rfl, by rw [← HS.out]; rfl, HBr⟩
    · obtain rfl : k = n := by omega
      have HA : Hid (strOfNums (txL W H (zs.take k)) = txS W H zs) := hid (by rw [← HN.out, tx_all]; rfl)
      rw [HA.out]
      go_wp2_with fail
      go_ret
      exact ⟨rfl, HBr.out⟩
set_option maxRecDepth 100000 in
set_option maxHeartbeats 4000000 in
theorem l05Text_any (p : Nat) (W H : Int) (A : Option Addr) (c : Nat) (zs : List Int) (w : World) (B : Nat) (hB : B ≤ w.heap.size) (hp : PanP w p W H (.slice A zs.length c)) (hz : Ints w B A zs) (hv : validB W H zs = true) :
    Calls Try.prog 67 #[.pointer (some ⟨p, 0, none⟩)] w fun e w' => e = .returned (.string (txS W H zs)) ∧ Below w.heap.size w w' := by
  obtain ⟨ub, hib, hb0, hb1, hb2⟩ := info_parts infoU8
  obtain ⟨w1, w2⟩ := side_bd (valid_sides hv).1
  obtain ⟨w3, w4⟩ := side_bd (valid_sides hv).2
  have hlen := valid_len hv
  have hile := inner_le (valid_sides hv).1 (valid_sides hv).2
  obtain ⟨n, hn⟩ : ∃ n, zs.length = n := ⟨_, rfl⟩
  have hn2 : n ≤ 112 := by omega
  rw [hn] at hp
  have HN := hid hn
  have HZ := hid (show Ints w w.heap.size A zs from fun j z hj => by obtain ⟨b, off, e, h1, h2⟩ := hz j z hj; exact ⟨b, off, e, by omega, h2⟩)
  have HV := hid hv
  have KP : Hid (Box w p 39 #[.int .i64 W, .int .i64 H, .slice A n c]) := hid hp
  obtain ⟨m, hm⟩ : ∃ m, (txH W H).length = m := ⟨_, rfl⟩
  have hm44 : m ≤ 44 := by have := txH_len W H; omega
  have hms : (strOfNums (txH W H)).size = m := by rw [strOfNums_size, hm]
  have hml : (strOfNums (txH W H)).size ≤ maxLen := by rw [hms]; unfold maxLen; omega
  obtain ⟨ts1, ts2, ts3⟩ := tx_sizes2 W H
  have hconv : ∀ wz : World, (convert 9 54 (.string (decS W ++ ⟨#[120]⟩ ++ decS H ++ ⟨#[58]⟩))).run Try.prog wz = .ok (.slice (some ⟨wz.heap.size, 0, none⟩) m (grownCap wz m 0 5)) (Go.Lib.bytesWorld wz 5 (strOfNums (txH W H))) := by
    intro wz
    rw [txH_str]
    have h := Go.Lib.run_convert_string_bytes (P := Try.prog) wz 9 54 5 (strOfNums (txH W H)) Try.underlying9 Try.underlying54 Try.underlying5
    rw [hms] at h
    exact h
  have HOT : Hid (∀ wz : World, OwnT (Go.Lib.bytesWorld wz 5 (strOfNums (txH W H))) wz.heap.size 5 (.slice (some ⟨wz.heap.size, 0, none⟩) m (grownCap wz m 0 5)) m (bytesV (txH W H))) := hid (fun wz => by
    have h := bytes_ownT wz 5 (strOfNums (txH W H)) hml
    rw [bytesV_nums (txH_bd W H), hms] at h
    exact h)
  clear hn hlen hile hz hv hp hml hms
  have HM := hid hm
  clear hm
  go_enter Try.func67, Try.ntmps67
  obtain ⟨Pa, Pb, Pc⟩ := KP.out.three
  have Pz := KP.out.lt
  go_wp2_with fail
  refine wp_region_mix_tail w.heap.size 13 (by kernel_rfl) (by kernel_rfl) ?_
  simp only [List.take_succ_cons, List.take_zero, List.drop_succ_cons, List.drop_zero]
  repeat (any_goals (go_big_quiet_step (first | (go_at_call_of 56 W; exact mix_call (Nat.le_refl _) (l01Dec_any W _ (wf64T (by omega) (by omega)))) | (go_at_call_of 56 H; exact mix_call (Nat.le_refl _) (l01Dec_any H _ (wf64T (by omega) (by omega)))))))
  refine wpQuiet_nil ?_
  intro wx hx
  have hb := mix_ex hx
  clear hx Pa Pb Pc Pz
  have HBx := hid hb
  clear hb
  have hcx := hconv wx
  clear hconv
  have hox := HOT.out wx
  obtain ⟨w0, hw0⟩ : ∃ zz : World, zz = Go.Lib.bytesWorld wx 5 (strOfNums (txH W H)) := ⟨_, rfl⟩
  rw [← hw0] at hcx hox
  have HO0 := hid (OwnT.le hox HBx.out.size)
  have HB0 := hid (show Below w.heap.size w w0 by rw [hw0]; exact bstep HBx.out (bytes_below _ _ _))
  clear hw0 hox
  go_wp2_with fail
  go_loopg [3, 4] n (fun g v i wr => ∃ (k : Nat), k ≤ n ∧ i = .int .i64 k ∧ g = n - k ∧ Hid (OwnT wr w.heap.size 5 v (m + k) (bytesV (txL W H (zs.take k)))) ∧ Hid (Below w.heap.size w wr))
  case atStart => exact ⟨0, Nat.zero_le _, rfl, rfl, hid (by rw [tx_zero]; exact HO0.out), HB0⟩
  case round =>
    obtain ⟨k, hk, rfl, hg, HO, HBr⟩ := hrel
    have KPr := hid (Box.keep KP.out HBr.out)
    obtain ⟨Pa, Pb, Pc⟩ := KPr.out.three
    have Pz := KPr.out.lt
    have hwz := HBr.out.size
    by_cases hlt : k < n
    · obtain ⟨z, hzk⟩ : ∃ z, zs[k]? = some z := ⟨_, List.getElem?_eq_getElem (by have := HN.out; omega)⟩
      obtain ⟨b, off, rfl, hbl, hck⟩ := (HZ.out.below HBr.out) k z hzk
      have hbz : b < wr.heap.size := by omega
      have HZK := hid hzk
      obtain ⟨sb, hsb⟩ : ∃ q, sgB z = q := ⟨_, rfl⟩
      have HSB := hid hsb
      have HL2 : Hid (bytesV (txL W H (zs.take (k + 1))) = bytesV (txL W H (zs.take k)) ++ [.int .u8 sb]) := hid (by
        unfold txL bytesV
        rw [List.take_add_one, hzk, ← hsb]
        simp)
      clear hzk hsb
      go_wp2_with fail
      refine (calls_u8 (l05Sign_any z _) HSB.out).mono ?_
      rintro e w' ⟨rfl, rfl⟩
      clear hck hbl Pa Pb Pc Pz
      go_wp2_with (at_builtin; (refine wpList_appendT _ rfl _ _ 54 rfl w.heap.size 5 ub (.int .u8 0) 1 Try.underlying54 hib hb0 hb1 hb2 rfl _ (m + k) (bytesV (txL W H (zs.take k))) rfl (HO.out.alloc _) ⟨wr.heap.size, 0, none⟩ 1 (.int .u8 sb) rfl (by simp) rfl (by unfold maxLen; omega) (by omega) (by simp; omega) ?_; intro v' wz ho2 hgr))
      have HH := hid (And.intro ho2 hgr)
      clear ho2 hgr
      go_roundg (n - (k + 1))
      case measure => omega
      case rel => exact ⟨k + 1, by omega, by go_num, rfl, hid (by rw [HL2.out]; exact HH.out.1), hid (bgrew (lo := w.heap.size) (bal HBr.out _) HH.out.2 (fun q hq => (HO.out.lt q hq).1) (Nat.le_refl _))⟩
    · obtain rfl : k = n := by omega
      have HA : Hid (strOfNums (txL W H (zs.take k)) = txS W H zs) := hid (by rw [← HN.out, tx_all]; rfl)
      obtain ⟨g2, c2, e2⟩ := HO.out.form
      subst e2
      have kc := HO.out.conv
      rw [HA.out] at kc
      go_wp2_with fail
      go_ret
      exact ⟨rfl, HBr.out⟩
end Go.Proofs.Ytgcgaoblbhojnaa

/- Merged texts: Tx, Pl. -/
import Derived.Test.YtgcgaoblbhojnaaFnCurvePicturesM21
import Derived.Test.YtgcgaoblbhojnaaFnCurvePicturesM18
import Derived.Test.YtgcgaoblbhojnaaFnCurvePicturesM17
import Derived.Test.YtgcgaoblbhojnaaAu
import Derived.Test.YtgcgaoblbhojnaaFnCurvePicturesM19
import Derived.Test.YtgcgaoblbhojnaaFnCurvePicturesM20
namespace Go.Proofs.Ytgcgaoblbhojnaa
set_option linter.unusedSimpArgs false
set_option linter.unusedVariables false
open Go.ChangeShapes Go.WideShapes Go.ChangeAt Go.RowKit
theorem wf64T {z : Int} (h1 : -9223372036854775808 ≤ z) (h2 : z ≤ 9223372036854775807) : (Lit.int .i64 z).wf = true := by
  simp [Lit.wf, IntKind.min, IntKind.max, IntKind.bits, IntKind.signed]
  omega
theorem nums_app (a b : List Int) : strOfNums (a ++ b) = strOfNums a ++ strOfNums b := by
  simp only [strOfNums]
  apply ByteArray.ext
  simp
/-- The text of a panel, its first k marks. -/
def txH (W H : Int) : List Int := decL W ++ [120] ++ decL H ++ [58]
def txL (W H : Int) (zs : List Int) : List Int := txH W H ++ zs.map sgB
def txS (W H : Int) (zs : List Int) : ByteArray := strOfNums (txL W H zs)
theorem txH_str (W H : Int) : decS W ++ ⟨#[120]⟩ ++ decS H ++ ⟨#[58]⟩ = strOfNums (txH W H) := by
  unfold txH decS
  rw [nums_app, nums_app, nums_app]
  rfl
theorem tx_take {W H : Int} {zs : List Int} {k : Nat} {z : Int} (h : zs[k]? = some z) : strOfNums (txL W H (zs.take k)) ++ strOfNums [sgB z] = strOfNums (txL W H (zs.take (k + 1))) := by
  rw [← nums_app]
  congr 1
  unfold txL
  rw [List.take_add_one, h, List.map_append]
  simp
theorem tx_zero (W H : Int) (zs : List Int) : txL W H (zs.take 0) = txH W H := by simp [txL]
theorem tx_all (W H : Int) (zs : List Int) : txL W H (zs.take zs.length) = txL W H zs := by rw [List.take_length]
theorem dgL_len : ∀ (f q : Nat) (acc : List Int), (dgL f q acc).length ≤ acc.length + f := by
  intro f
  induction f with
  | zero => intro q acc; simp [dgL]
  | succ f ih =>
    intro q acc
    simp only [dgL]
    split
    · omega
    · have := ih (q / 10) ((48 + (q : Int) % 10) :: acc)
      simp only [List.length_cons] at this
      omega
theorem decL_len (n : Int) : (decL n).length ≤ 21 := by
  unfold decL
  split
  · simp
  · have := dgL_len 20 n.natAbs []
    simp only [List.length_nil] at this
    rw [List.length_append]
    split <;> simp <;> omega
theorem txH_len (W H : Int) : (txH W H).length ≤ 44 := by
  have := decL_len W
  have := decL_len H
  simp [txH]
  omega
theorem byte_num {b : Int} (h0 : 0 ≤ b) (h1 : b ≤ 255) : (((UInt8.ofNat b.toNat).toNat : Nat) : Int) = b := by
  simp [UInt8.toNat_ofNat']
  omega
theorem bytesV_nums {l : List Int} (h : ∀ b ∈ l, 0 ≤ b ∧ b ≤ 255) : ((strOfNums l).data.toList.map fun b => Value.int .u8 b.toNat) = bytesV l := by
  rw [strOfNums_data, List.map_map]
  unfold bytesV
  apply List.map_congr_left
  intro b hb
  obtain ⟨h0, h1⟩ := h b hb
  simp only [Function.comp]
  rw [byte_num h0 h1]
theorem dgL_bd : ∀ (f q : Nat) (acc : List Int), (∀ b ∈ acc, 0 ≤ b ∧ b ≤ 255) → ∀ b ∈ dgL f q acc, 0 ≤ b ∧ b ≤ 255 := by
  intro f
  induction f with
  | zero => intro q acc h; simpa [dgL] using h
  | succ f ih =>
    intro q acc h
    simp only [dgL]
    split
    · exact h
    · refine ih _ _ ?_
      intro b hb
      rcases List.mem_cons.1 hb with rfl | hb
      · omega
      · exact h b hb
theorem decL_bd (n : Int) : ∀ b ∈ decL n, 0 ≤ b ∧ b ≤ 255 := by
  unfold decL
  split
  · intro b hb; simp at hb; omega
  · intro b hb
    rcases List.mem_append.1 hb with hb | hb
    · split at hb
      · simp at hb; omega
      · simp at hb
    · exact dgL_bd _ _ _ (by simp) b hb
theorem sgB_bd (k : Int) : 0 ≤ sgB k ∧ sgB k ≤ 255 := by unfold sgB; repeat (split <;> try omega)
theorem txH_bd (W H : Int) : ∀ b ∈ txH W H, 0 ≤ b ∧ b ≤ 255 := by
  intro b hb
  simp only [txH, List.mem_append, List.mem_singleton] at hb
  rcases hb with ((hb | hb) | hb) | hb
  · exact decL_bd _ b hb
  · omega
  · exact decL_bd _ b hb
  · omega
theorem tx_sizes (W H : Int) : ¬ (9223372036854775807 < (decS W).size + (⟨#[120]⟩ : ByteArray).size) ∧ ¬ (9223372036854775807 < (decS W ++ ⟨#[120]⟩).size + (decS H).size) ∧ ¬ (9223372036854775807 < (decS W ++ ⟨#[120]⟩ ++ decS H).size + (⟨#[58]⟩ : ByteArray).size) := by
  have h1 : (decS W).size ≤ 21 := by unfold decS; rw [strOfNums_size]; exact decL_len W
  have h2 : (decS H).size ≤ 21 := by unfold decS; rw [strOfNums_size]; exact decL_len H
  have e1 : (⟨#[120]⟩ : ByteArray).size = 1 := rfl
  have e2 : (⟨#[58]⟩ : ByteArray).size = 1 := rfl
  simp only [ByteArray.size_append, e1, e2]
  omega
theorem tx_sizes2 (W H : Int) : ¬ (9223372036854775807 < (decS W).size + 1) ∧ ¬ (9223372036854775807 < (decS W).size + 1 + (decS H).size) ∧ ¬ (9223372036854775807 < (decS W).size + 1 + (decS H).size + 1) := by
  have h1 : (decS W).size ≤ 21 := by unfold decS; rw [strOfNums_size]; exact decL_len W
  have h2 : (decS H).size ≤ 21 := by unfold decS; rw [strOfNums_size]; exact decL_len H
  omega
theorem tx_size (W H : Int) (zs : List Int) (k : Nat) (h : zs.length ≤ 112) (z : Int) : ¬ (9223372036854775807 < (strOfNums (txL W H (zs.take k))).size + (strOfNums [z]).size) := by
  have := txH_len W H
  simp only [strOfNums_size, txL, List.length_append, List.length_map, List.length_take, List.length_cons, List.length_nil]
  omega
set_option maxRecDepth 100000 in
set_option maxHeartbeats 4000000 in
theorem panelText_any (W H : Int) (A : Option Addr) (c : Nat) (zs : List Int) (w : World) (hz : Ints w w.heap.size A zs) (hv : validB W H zs = true) :
    Calls Try.prog 70 #[.agg #[.int .i64 W, .int .i64 H, .slice A zs.length c]] w fun e w' => e = .returned (.string (txS W H zs)) ∧ Below w.heap.size w w' := by
  obtain ⟨w1, w2⟩ := side_bd (valid_sides hv).1
  obtain ⟨w3, w4⟩ := side_bd (valid_sides hv).2
  have hlen := valid_len hv
  have hile := inner_le (valid_sides hv).1 (valid_sides hv).2
  obtain ⟨n, hn⟩ : ∃ n, zs.length = n := ⟨_, rfl⟩
  have hn2 : n ≤ 112 := by omega
  have HN := hid hn
  have HZ := hid hz
  have HV := hid hv
  have HE := hid (txH_str W H)
  obtain ⟨ts1, ts2, ts3⟩ := tx_sizes W H
  have HSZ := hid (fun k z => tx_size W H zs k (by omega) z)
  rw [hn]
  clear hn hlen hile hz hv
  go_enter Try.func70, Try.ntmps70
  go_wp2_with fail
  obtain ⟨wp, hwp⟩ : ∃ zz : World, zz = w.alloc (.cells #[.int .i64 W, .int .i64 H, .slice A n c] 39) := ⟨_, rfl⟩
  rw [← hwp]
  have KP := hid (show Box wp w.heap.size 39 #[.int .i64 W, .int .i64 H, .slice A n c] by rw [hwp]; exact Box.new _ _ _)
  have HB := hid (show Below w.heap.size w wp by rw [hwp]; exact bal (Below.refl _ _) _)
  clear hwp
  obtain ⟨Pa, Pb, Pc⟩ := KP.out.three
  have Pz := KP.out.lt
  refine wp_region_mix wp.heap.size (by kernel_rfl) (by kernel_rfl) ?_
  repeat (any_goals (go_big_quiet_step (first | (go_at_call_of 15 W; exact mix_call (by simp) (implDecimal_any W _ (wf64T (by omega) (by omega)))) | (go_at_call_of 15 H; exact mix_call (by simp) (implDecimal_any H _ (wf64T (by omega) (by omega)))))))
  refine wpQuiet_nil ?_
  intro wq hx
  have hb := mix_ex hx
  clear hx
  have KQ := hid (Box.keep KP.out hb)
  have HQ := hid (bbl HB.out hb)
  clear hb KP HB Pa Pb Pc Pz
  obtain ⟨Pa, Pb, Pc⟩ := KQ.out.three
  have Pz := KQ.out.lt
  go_wp2_with fail
  go_loopg [3, 18] n (fun g s i wr => ∃ k : Nat, k ≤ n ∧ i = .int .i64 k ∧ g = n - k ∧ s = .string (strOfNums (txL W H (zs.take k))) ∧ Hid (Below w.heap.size w wr))
  case atStart => exact ⟨0, Nat.zero_le _, rfl, rfl, by rw [tx_zero, ← HE.out], HQ⟩
  case round =>
    clear Pa Pb Pc Pz
    obtain ⟨k, hk, rfl, hg, rfl, HBr⟩ := hrel
    by_cases hlt : k < n
    · obtain ⟨z, hzk⟩ : ∃ z, zs[k]? = some z := ⟨_, List.getElem?_eq_getElem (by have := HN.out; omega)⟩
      obtain ⟨b, off, rfl, hbl, hck⟩ := (HZ.out.below HBr.out) k z hzk
      have hkd := validB_kinds HV.out hzk
      have hbz := HBr.out.size
      have HS := hid (tx_take (W := W) (H := H) hzk)
      have hsz := HSZ.out k (sgB z)
      obtain ⟨S0, hS0⟩ : ∃ s, strOfNums (txL W H (zs.take k)) = s := ⟨_, rfl⟩
      rw [hS0] at HS hsz ⊢
      have hsz1 : ¬ (9223372036854775807 < S0.size + 1) := by rw [strOfNums_size] at hsz; simpa using hsz
      clear hzk hS0
      rcases hkd with rfl | rfl | rfl
      · go_wp2_with fail
        go_roundg (n - (k + 1))
        case measure => omega
        case rel => exact ⟨k + 1, by omega, by go_num, rfl, by rw [← HS.out]; rfl, HBr⟩
      · go_wp2_with fail
        go_roundg (n - (k + 1))
        case measure => omega
        case rel => exact ⟨k + 1, by omega, by go_num, rfl, by rw [← HS.out]; rfl, HBr⟩
      · go_wp2_with fail
        go_roundg (n - (k + 1))
        case measure => omega
        case rel => exact ⟨k + 1, by omega, by go_num, rfl, by rw [← HS.out]; rfl, HBr⟩
    · obtain rfl : k = n := by omega
      have HA : Hid (strOfNums (txL W H (zs.take k)) = txS W H zs) := hid (by rw [← HN.out, tx_all]; rfl)
      rw [HA.out]
      go_wp2_with fail
      go_ret
      exact ⟨rfl, HBr.out⟩
set_option maxRecDepth 100000 in
set_option maxHeartbeats 4000000 in
theorem l05Text_any (p : Nat) (W H : Int) (A : Option Addr) (c : Nat) (zs : List Int) (w : World) (B : Nat) (hB : B ≤ w.heap.size) (hp : PanP w p W H (.slice A zs.length c)) (hz : Ints w B A zs) (hv : validB W H zs = true) :
    Calls Try.prog 67 #[.pointer (some ⟨p, 0, none⟩)] w fun e w' => e = .returned (.string (txS W H zs)) ∧ Below w.heap.size w w' := by
  obtain ⟨ub, hib, hb0, hb1, hb2⟩ := info_parts infoU8
  obtain ⟨w1, w2⟩ := side_bd (valid_sides hv).1
  obtain ⟨w3, w4⟩ := side_bd (valid_sides hv).2
  have hlen := valid_len hv
  have hile := inner_le (valid_sides hv).1 (valid_sides hv).2
  obtain ⟨n, hn⟩ : ∃ n, zs.length = n := ⟨_, rfl⟩
  have hn2 : n ≤ 112 := by omega
  rw [hn] at hp
  have HN := hid hn
  have HZ := hid (show Ints w w.heap.size A zs from fun j z hj => by obtain ⟨b, off, e, h1, h2⟩ := hz j z hj; exact ⟨b, off, e, by omega, h2⟩)
  have HV := hid hv
  have KP : Hid (Box w p 39 #[.int .i64 W, .int .i64 H, .slice A n c]) := hid hp
  obtain ⟨m, hm⟩ : ∃ m, (txH W H).length = m := ⟨_, rfl⟩
  have hm44 : m ≤ 44 := by have := txH_len W H; omega
  have hms : (strOfNums (txH W H)).size = m := by rw [strOfNums_size, hm]
  have hml : (strOfNums (txH W H)).size ≤ maxLen := by rw [hms]; unfold maxLen; omega
  obtain ⟨ts1, ts2, ts3⟩ := tx_sizes2 W H
  have hconv : ∀ wz : World, (convert 9 54 (.string (decS W ++ ⟨#[120]⟩ ++ decS H ++ ⟨#[58]⟩))).run Try.prog wz = .ok (.slice (some ⟨wz.heap.size, 0, none⟩) m (grownCap wz m 0 5)) (Go.Lib.bytesWorld wz 5 (strOfNums (txH W H))) := by
    intro wz
    rw [txH_str]
    have h := Go.Lib.run_convert_string_bytes (P := Try.prog) wz 9 54 5 (strOfNums (txH W H)) Try.underlying9 Try.underlying54 Try.underlying5
    rw [hms] at h
    exact h
  have HOT : Hid (∀ wz : World, OwnT (Go.Lib.bytesWorld wz 5 (strOfNums (txH W H))) wz.heap.size 5 (.slice (some ⟨wz.heap.size, 0, none⟩) m (grownCap wz m 0 5)) m (bytesV (txH W H))) := hid (fun wz => by
    have h := bytes_ownT wz 5 (strOfNums (txH W H)) hml
    rw [bytesV_nums (txH_bd W H), hms] at h
    exact h)
  clear hn hlen hile hz hv hp hml hms
  have HM := hid hm
  clear hm
  go_enter Try.func67, Try.ntmps67
  obtain ⟨Pa, Pb, Pc⟩ := KP.out.three
  have Pz := KP.out.lt
  go_wp2_with fail
  refine wp_region_mix_tail w.heap.size 13 (by kernel_rfl) (by kernel_rfl) ?_
  simp only [List.take_succ_cons, List.take_zero, List.drop_succ_cons, List.drop_zero]
  repeat (any_goals (go_big_quiet_step (first | (go_at_call_of 56 W; exact mix_call (Nat.le_refl _) (l01Dec_any W _ (wf64T (by omega) (by omega)))) | (go_at_call_of 56 H; exact mix_call (Nat.le_refl _) (l01Dec_any H _ (wf64T (by omega) (by omega)))))))
  refine wpQuiet_nil ?_
  intro wx hx
  have hb := mix_ex hx
  clear hx Pa Pb Pc Pz
  have HBx := hid hb
  clear hb
  have hcx := hconv wx
  clear hconv
  have hox := HOT.out wx
  obtain ⟨w0, hw0⟩ : ∃ zz : World, zz = Go.Lib.bytesWorld wx 5 (strOfNums (txH W H)) := ⟨_, rfl⟩
  rw [← hw0] at hcx hox
  have HO0 := hid (OwnT.le hox HBx.out.size)
  have HB0 := hid (show Below w.heap.size w w0 by rw [hw0]; exact bstep HBx.out (bytes_below _ _ _))
  clear hw0 hox
  go_wp2_with fail
  go_loopg [3, 4] n (fun g v i wr => ∃ (k : Nat), k ≤ n ∧ i = .int .i64 k ∧ g = n - k ∧ Hid (OwnT wr w.heap.size 5 v (m + k) (bytesV (txL W H (zs.take k)))) ∧ Hid (Below w.heap.size w wr))
  case atStart => exact ⟨0, Nat.zero_le _, rfl, rfl, hid (by rw [tx_zero]; exact HO0.out), HB0⟩
  case round =>
    obtain ⟨k, hk, rfl, hg, HO, HBr⟩ := hrel
    have KPr := hid (Box.keep KP.out HBr.out)
    obtain ⟨Pa, Pb, Pc⟩ := KPr.out.three
    have Pz := KPr.out.lt
    have hwz := HBr.out.size
    by_cases hlt : k < n
    · obtain ⟨z, hzk⟩ : ∃ z, zs[k]? = some z := ⟨_, List.getElem?_eq_getElem (by have := HN.out; omega)⟩
      obtain ⟨b, off, rfl, hbl, hck⟩ := (HZ.out.below HBr.out) k z hzk
      have hbz : b < wr.heap.size := by omega
      have HZK := hid hzk
      obtain ⟨sb, hsb⟩ : ∃ q, sgB z = q := ⟨_, rfl⟩
      have HSB := hid hsb
      have HL2 : Hid (bytesV (txL W H (zs.take (k + 1))) = bytesV (txL W H (zs.take k)) ++ [.int .u8 sb]) := hid (by
        unfold txL bytesV
        rw [List.take_add_one, hzk, ← hsb]
        simp)
      clear hzk hsb
      go_wp2_with fail
      refine (calls_u8 (l05Sign_any z _) HSB.out).mono ?_
      rintro e w' ⟨rfl, rfl⟩
      clear hck hbl Pa Pb Pc Pz
      go_wp2_with (at_builtin; (refine wpList_appendT _ rfl _ _ 54 rfl w.heap.size 5 ub (.int .u8 0) 1 Try.underlying54 hib hb0 hb1 hb2 rfl _ (m + k) (bytesV (txL W H (zs.take k))) rfl (HO.out.alloc _) ⟨wr.heap.size, 0, none⟩ 1 (.int .u8 sb) rfl (by simp) rfl (by unfold maxLen; omega) (by omega) (by simp; omega) ?_; intro v' wz ho2 hgr))
      have HH := hid (And.intro ho2 hgr)
      clear ho2 hgr
      go_roundg (n - (k + 1))
      case measure => omega
      case rel => exact ⟨k + 1, by omega, by go_num, rfl, hid (by rw [HL2.out]; exact HH.out.1), hid (bgrew (lo := w.heap.size) (bal HBr.out _) HH.out.2 (fun q hq => (HO.out.lt q hq).1) (Nat.le_refl _))⟩
    · obtain rfl : k = n := by omega
      have HA : Hid (strOfNums (txL W H (zs.take k)) = txS W H zs) := hid (by rw [← HN.out, tx_all]; rfl)
      obtain ⟨g2, c2, e2⟩ := HO.out.form
      subst e2
      have kc := HO.out.conv
      rw [HA.out] at kc
      go_wp2_with fail
      go_ret
      exact ⟨rfl, HBr.out⟩
end Go.Proofs.Ytgcgaoblbhojnaa
namespace Go.Proofs.Ytgcgaoblbhojnaa
set_option linter.unusedSimpArgs false
set_option linter.unusedVariables false
theorem byteL_extract (s : ByteArray) (i j : Nat) : byteL (s.extract i j) = ((byteL s).drop i).take (j - i) := by
  unfold byteL
  rw [ByteArray.data_extract, Array.toList_extract, List.extract_eq_take_drop, List.map_take, List.map_drop]
theorem byteL_inj {a b : ByteArray} (h : byteL a = byteL b) : a = b := by
  apply ByteArray.ext
  apply Array.toList_inj.1
  unfold byteL at h
  exact (List.map_inj_right (fun x y hxy => by
    have : x.toNat = y.toNat := by omega
    exact UInt8.toNat_inj.1 this)).1 h
theorem byteL_app (a b : ByteArray) : byteL (a ++ b) = byteL a ++ byteL b := by
  unfold byteL
  rw [ByteArray.data_append, Array.toList_append, List.map_append]
theorem byteL_nums {l : List Int} (h : ∀ b ∈ l, 0 ≤ b ∧ b ≤ 255) : byteL (strOfNums l) = l := by
  unfold byteL
  rw [strOfNums_data, List.map_map]
  conv => rhs; rw [← List.map_id l]
  apply List.map_congr_left
  intro b hb
  obtain ⟨h0, h1⟩ := h b hb
  simp only [Function.comp]
  rw [byte_num h0 h1]
  rfl
/-- How many parts: one more than of the bytes. -/
theorem spS_count (s : ByteArray) (b : Int) : ∀ k, k ≤ s.size → (spS s b k).1.length = ((byteL s).take k).count b := by
  intro k
  induction k with
  | zero => intro _; simp [spS]
  | succ k ih =>
    intro hk
    have hkl : k < (byteL s).length := by rw [byteL_length]; omega
    rw [spS, List.take_add_one, List.getElem?_eq_getElem hkl, List.count_append]
    by_cases h : (byteL s)[k] = b
    · rw [if_pos (by rw [h]), List.length_append, ih (by omega)]
      simp [h]
    · rw [if_neg (by intro e; injection e with e; exact h e), ih (by omega)]
      simp [h]
theorem spL_count (s : ByteArray) (b : Int) : (spL s b).length = (byteL s).count b + 1 := by
  unfold spL
  rw [List.length_append, spS_count s b s.size (Nat.le_refl _), List.take_of_length_le (by rw [byteL_length]; exact Nat.le_refl _)]
  rfl
theorem idx_not {l : List Int} {b : Int} : ∀ {i : Nat}, i < l.idxOf b → l[i]? ≠ some b := by
  induction l with
  | nil => intro i hi; simp at hi
  | cons a l ih =>
    intro i hi
    rw [List.idxOf_cons] at hi
    by_cases h : a = b
    · subst h; simp at hi
    · have hb : (a == b) = false := beq_eq_false_iff_ne.2 h
      rw [hb] at hi
      cases i with
      | zero => simp [h]
      | succ i => simpa using ih (i := i) (by simpa using hi)
theorem idx_first {l : List Int} {b : Int} (h : l.count b ≠ 0) : l.idxOf b < l.length ∧ l[l.idxOf b]? = some b ∧ (∀ i, i < l.idxOf b → l[i]? ≠ some b) := by
  have hm : b ∈ l := by
    by_cases hc : b ∈ l
    · exact hc
    · exact absurd (List.count_eq_zero.2 hc) h
  have hlt := List.idxOf_lt_length_of_mem hm
  refine ⟨hlt, by rw [List.getElem?_eq_getElem hlt, List.getElem_idxOf], ?_⟩
  exact fun i hi => idx_not hi
theorem count_split {l : List Int} {b : Int} (h : l.count b ≠ 0) : l = l.take (l.idxOf b) ++ b :: l.drop (l.idxOf b + 1) ∧ b ∉ l.take (l.idxOf b) ∧ l.count b = (l.drop (l.idxOf b + 1)).count b + 1 := by
  obtain ⟨h1, h2, h3⟩ := idx_first h
  have e : l = l.take (l.idxOf b) ++ b :: l.drop (l.idxOf b + 1) := by
    conv => lhs; rw [← List.take_append_drop (l.idxOf b) l]
    congr 1
    rw [List.drop_eq_getElem_cons h1]
    congr 1
    rw [List.getElem?_eq_getElem h1] at h2
    injection h2
  have hn : b ∉ l.take (l.idxOf b) := by
    intro hm
    obtain ⟨i, hi, e2⟩ := List.getElem_of_mem hm
    rw [List.length_take] at hi
    refine h3 i (by omega) ?_
    rw [List.getElem_take] at e2
    rw [List.getElem?_eq_getElem (by omega), e2]
  refine ⟨e, hn, ?_⟩
  conv => lhs; rw [e]
  rw [List.count_append, List.count_eq_zero.2 hn, List.count_cons]
  simp
/-- A text with one mark has two parts. -/
theorem spS_one {s : ByteArray} {b : Int} (h : (byteL s).count b = 1) : ∀ k, k ≤ s.size → spS s b k = if (byteL s).idxOf b < k then ([s.extract 0 ((byteL s).idxOf b)], (byteL s).idxOf b + 1) else ([], 0) := by
  obtain ⟨h1, h2, h3⟩ := idx_first (l := byteL s) (b := b) (by omega)
  obtain ⟨e, hn, hc⟩ := count_split (l := byteL s) (b := b) (by omega)
  have hd : b ∉ (byteL s).drop ((byteL s).idxOf b + 1) := List.count_eq_zero.1 (by omega)
  intro k
  induction k with
  | zero => intro _; simp [spS]
  | succ k ih =>
    intro hk
    rw [spS, ih (by omega)]
    by_cases e1 : k = (byteL s).idxOf b
    · rw [if_pos (by rw [e1]; exact h2), if_neg (by omega), if_pos (by omega), e1]
      rfl
    · have hne : ¬ (byteL s)[k]? = some b := by
        intro hk2
        rcases Nat.lt_or_ge k ((byteL s).idxOf b) with hlt | hge
        · exact h3 k hlt hk2
        · apply hd
          refine List.mem_of_getElem? (i := k - ((byteL s).idxOf b + 1)) ?_
          rw [List.getElem?_drop, show (byteL s).idxOf b + 1 + (k - ((byteL s).idxOf b + 1)) = k by omega]
          exact hk2
      rw [if_neg hne]
      by_cases hlt : (byteL s).idxOf b < k
      · rw [if_pos hlt, if_pos (by omega)]
      · rw [if_neg hlt, if_neg (by omega)]
theorem spL_one {s : ByteArray} {b : Int} (h : (byteL s).count b = 1) : spL s b = [s.extract 0 ((byteL s).idxOf b), s.extract ((byteL s).idxOf b + 1) s.size] := by
  obtain ⟨h1, _, _⟩ := idx_first (l := byteL s) (b := b) (by omega)
  rw [byteL_length] at h1
  unfold spL
  rw [spS_one h s.size (Nat.le_refl _), if_pos h1]
  rfl
/-- The reference's parts of a text. -/
def prU (s : ByteArray) : ByteArray := s.extract 0 ((byteL s).idxOf 58)
def prV (s : ByteArray) : ByteArray := s.extract ((byteL s).idxOf 58 + 1) s.size
def prA (s : ByteArray) : ByteArray := (prU s).extract 0 ((byteL (prU s)).idxOf 120)
def prB (s : ByteArray) : ByteArray := (prU s).extract ((byteL (prU s)).idxOf 120 + 1) (prU s).size
def prZ (s : ByteArray) : List Int := (byteL (prV s)).map kdF
def prG (s : ByteArray) : Bool := (byteL s).count 58 == 1 && (byteL (prU s)).count 120 == 1
/-- What ReadPanel answers. -/
noncomputable def pnO (s : ByteArray) : Bool := prG s && (rdB (prA s) && rdB (prB s)) && validB (rdR (prA s)) (rdR (prB s)) (prZ s)
noncomputable def pnW (s : ByteArray) : Int := if pnO s then rdR (prA s) else 0
noncomputable def pnH (s : ByteArray) : Int := if pnO s then rdR (prB s) else 0
noncomputable def pnL (s : ByteArray) : List Int := if pnO s then prZ s else []
noncomputable def pnN (s : ByteArray) : Nat := (pnL s).length
/-- The program's. -/
def plI (s : ByteArray) (b : Int) : Int := if (byteL s).idxOf b < s.size then (byteL s).idxOf b else -1
def imA (s : ByteArray) : ByteArray := s.extract 0 (plI s 120).toNat
def imB (s : ByteArray) : ByteArray := s.extract ((plI s 120).toNat + 1) (plI s 58).toNat
def imZ (s : ByteArray) : List Int := ((byteL s).drop ((plI s 58).toNat + 1)).map kdF
def imP (s : ByteArray) : Prop := 0 ≤ plI s 120 ∧ plI s 120 ≤ plI s 58 ∧ (s.size : Int) - plI s 58 ≤ 129
def imQ (s : ByteArray) : Prop := rdB (imA s) = true ∧ rdB (imB s) = true ∧ validB (rdR (imA s)) (rdR (imB s)) (imZ s) = true ∧ txS (rdR (imA s)) (rdR (imB s)) (imZ s) = s
theorem idx_app {l m : List Int} {b : Int} (h : b ∈ l) : (l ++ m).idxOf b = l.idxOf b := by
  rw [List.idxOf_append, if_pos h]
theorem prU_bytes (s : ByteArray) : byteL (prU s) = (byteL s).take ((byteL s).idxOf 58) := by
  unfold prU
  rw [byteL_extract, List.drop_zero, Nat.sub_zero]
theorem prZ_eq (s : ByteArray) : prZ s = ((byteL s).drop ((byteL s).idxOf 58 + 1)).map kdF := by
  unfold prZ prV
  rw [byteL_extract, List.take_of_length_le (by rw [List.length_drop, byteL_length]; exact Nat.le_refl _)]
theorem prA_eq {s : ByteArray} (h : (byteL (prU s)).idxOf 120 ≤ (byteL s).idxOf 58) : prA s = s.extract 0 ((byteL (prU s)).idxOf 120) := by
  apply byteL_inj
  unfold prA
  rw [byteL_extract, byteL_extract, prU_bytes, List.drop_zero, List.drop_zero, Nat.sub_zero, List.take_take]
  rw [prU_bytes] at h
  rw [Nat.min_eq_left h]
theorem prB_eq {s : ByteArray} (hc : (byteL s).idxOf 58 ≤ s.size) : prB s = s.extract ((byteL (prU s)).idxOf 120 + 1) ((byteL s).idxOf 58) := by
  apply byteL_inj
  unfold prB
  rw [byteL_extract, byteL_extract, ← byteL_length (prU s), prU_bytes, List.drop_take, List.take_take, List.length_take, byteL_length]
  congr 1
  omega
theorem dgL_dig : ∀ (f q : Nat) (acc : List Int), (∀ b ∈ acc, 48 ≤ b ∧ b ≤ 57) → ∀ b ∈ dgL f q acc, 48 ≤ b ∧ b ≤ 57 := by
  intro f
  induction f with
  | zero => intro q acc h; simpa [dgL] using h
  | succ f ih =>
    intro q acc h
    simp only [dgL]
    split
    · exact h
    · refine ih _ _ ?_
      intro b hb
      rcases List.mem_cons.1 hb with rfl | hb
      · omega
      · exact h b hb
theorem decL_dig (n : Int) : ∀ b ∈ decL n, b = 45 ∨ (48 ≤ b ∧ b ≤ 57) := by
  unfold decL
  split
  · intro b hb; simp at hb; omega
  · intro b hb
    rcases List.mem_append.1 hb with hb | hb
    · split at hb
      · simp at hb; omega
      · simp at hb
    · exact .inr (dgL_dig _ _ _ (by simp) b hb)
theorem rd_bytes {s : ByteArray} (h : rdB s = true) : byteL s = decL (rdR s) := by
  by_cases hp : RdP s
  · rw [(rd_yes hp).1]
    conv => lhs; rw [← hp.2.2.2]
    unfold decS
    exact byteL_nums (decL_bd _)
  · rw [(rd_no hp).2] at h; cases h
theorem sg_kd {z : Int} (h : kdF z = 0 ∨ kdF z = 1 ∨ kdF z = 2) : sgB (kdF z) = z ∧ z ≠ 58 := by
  unfold kdF at h ⊢
  by_cases h1 : z = 43
  · subst h1; simp [sgB]
  · by_cases h2 : z = 124
    · subst h2; simp [sgB]
    · by_cases h3 : z = 45
      · subst h3; simp [sgB]
      · simp [h1, h2, h3] at h
theorem kinds_back {W H : Int} {l : List Int} (hv : validB W H (l.map kdF) = true) : (l.map kdF).map sgB = l ∧ (58 : Int) ∉ l := by
  have hk : ∀ z ∈ l, kdF z = 0 ∨ kdF z = 1 ∨ kdF z = 2 := by
    intro z hz
    obtain ⟨i, hi, e⟩ := List.getElem_of_mem hz
    exact validB_kinds hv (j := i) (by rw [List.getElem?_map, List.getElem?_eq_getElem hi, e]; rfl)
  refine ⟨?_, fun h58 => (sg_kd (hk _ h58)).2 rfl⟩
  rw [List.map_map]
  conv => rhs; rw [← List.map_id l]
  apply List.map_congr_left
  intro z hz
  exact (sg_kd (hk z hz)).1
theorem tx_bytes (W H : Int) (zs : List Int) : byteL (txS W H zs) = decL W ++ [120] ++ decL H ++ [58] ++ zs.map sgB := by
  unfold txS
  rw [byteL_nums]
  · rfl
  · intro b hb
    unfold txL at hb
    rcases List.mem_append.1 hb with hb | hb
    · exact txH_bd _ _ b hb
    · obtain ⟨z, _, rfl⟩ := List.mem_map.1 hb
      exact sgB_bd z
theorem pl_of {s : ByteArray} {b : Int} (h : (byteL s).count b ≠ 0) : plI s b = (byteL s).idxOf b := by
  have := (idx_first h).1
  rw [byteL_length] at this
  unfold plI
  rw [if_pos this]
/-- The text of what was read is the text. -/
theorem text_back {s : ByteArray} {x c : Nat} {W H : Int} {zs : List Int} (h58 : (byteL s).count 58 ≠ 0) (hc : (byteL s).idxOf 58 = c) (h120 : ((byteL s).take c).count 120 ≠ 0) (hx : ((byteL s).take c).idxOf 120 = x)
    (hA : byteL (s.extract 0 x) = decL W) (hB : byteL (s.extract (x + 1) c) = decL H) (hZ : zs.map sgB = (byteL s).drop (c + 1)) : txS W H zs = s := by
  apply byteL_inj
  obtain ⟨e1, _, _⟩ := count_split h58
  obtain ⟨e2, _, _⟩ := count_split h120
  rw [hc] at e1
  rw [hx] at e2
  have hxc : x < c := by
    have := (idx_first h120).1
    rw [hx, List.length_take] at this
    omega
  rw [byteL_extract, List.drop_zero, Nat.sub_zero] at hA
  rw [byteL_extract] at hB
  rw [List.take_take, Nat.min_eq_left (by omega), hA, List.drop_take, hB] at e2
  rw [e2] at e1
  rw [tx_bytes, hZ]
  conv => rhs; rw [e1]
  simp
/-- Both forms: the reference reads what the program reads. -/
theorem im_of_pn {s : ByteArray} (h : pnO s = true) : imP s ∧ imQ s ∧ imA s = prA s ∧ imB s = prB s ∧ imZ s = prZ s := by
  unfold pnO prG at h
  simp only [Bool.and_eq_true, beq_iff_eq] at h
  obtain ⟨⟨⟨h58, h120⟩, hA, hB⟩, hv⟩ := h
  obtain ⟨i1, _, _⟩ := idx_first (l := byteL s) (b := 58) (by omega)
  obtain ⟨j1, _, _⟩ := idx_first (l := byteL (prU s)) (b := 120) (by omega)
  obtain ⟨e58, _, _⟩ := count_split (l := byteL s) (b := 58) (by omega)
  have hm : (120 : Int) ∈ byteL (prU s) := by
    by_cases hmm : (120 : Int) ∈ byteL (prU s)
    · exact hmm
    · have := List.count_eq_zero.2 hmm; omega
  have hx : (byteL s).idxOf 120 = (byteL (prU s)).idxOf 120 := by
    conv => lhs; rw [e58]
    rw [prU_bytes] at hm ⊢
    exact idx_app hm
  have hul : (byteL (prU s)).length = (byteL s).idxOf 58 := by rw [prU_bytes, List.length_take]; omega
  rw [byteL_length] at i1
  have p58 : plI s 58 = (byteL s).idxOf 58 := pl_of (by omega)
  have p120 : plI s 120 = (byteL (prU s)).idxOf 120 := by
    unfold plI
    rw [hx, if_pos (by omega)]
  have eA := prA_eq (s := s) (by omega)
  have eB := prB_eq (s := s) (by omega)
  have eZ := prZ_eq s
  have iA : imA s = prA s := by unfold imA; rw [p120, eA, Int.toNat_natCast]
  have iB : imB s = prB s := by unfold imB; rw [p120, p58, eB, Int.toNat_natCast, Int.toNat_natCast]
  have iZ : imZ s = prZ s := by unfold imZ; rw [p58, eZ, Int.toNat_natCast]
  refine ⟨⟨by omega, by omega, ?_⟩, ⟨by rw [iA]; exact hA, by rw [iB]; exact hB, by rw [iA, iB, iZ]; exact hv, ?_⟩, iA, iB, iZ⟩
  · have hl := valid_len hv
    have hi := inner_le (valid_sides hv).1 (valid_sides hv).2
    rw [eZ, List.length_map, List.length_drop, byteL_length] at hl
    omega
  · rw [iA, iB, iZ]
    rw [eZ] at hv
    refine text_back (c := (byteL s).idxOf 58) (x := (byteL (prU s)).idxOf 120) (by omega) rfl (by rw [← prU_bytes]; omega) (by rw [prU_bytes]) ?_ ?_ ?_
    · rw [← eA]; exact rd_bytes hA
    · rw [← eB]; exact rd_bytes hB
    · rw [eZ]; exact (kinds_back hv).1
theorem pn_of_im {s : ByteArray} (hP : imP s) (hQ : imQ s) : pnO s = true := by
  obtain ⟨p1, p2, p3⟩ := hP
  obtain ⟨q1, q2, q3, q4⟩ := hQ
  have hx : (byteL s).idxOf 120 < s.size ∧ plI s 120 = (byteL s).idxOf 120 := by
    unfold plI at p1 ⊢
    split at p1
    · rename_i h; exact ⟨h, by rw [if_pos h]⟩
    · omega
  have hc : (byteL s).idxOf 58 < s.size ∧ plI s 58 = (byteL s).idxOf 58 := by
    have h : 0 ≤ plI s 58 := by omega
    unfold plI at h ⊢
    split at h
    · rename_i h2; exact ⟨h2, by rw [if_pos h2]⟩
    · omega
  have m58 : (byteL s).count 58 ≠ 0 := fun h0 => by
    have := List.idxOf_eq_length (List.count_eq_zero.1 h0)
    rw [byteL_length] at this
    omega
  have m120 : (byteL s).count 120 ≠ 0 := fun h0 => by
    have := List.idxOf_eq_length (List.count_eq_zero.1 h0)
    rw [byteL_length] at this
    omega
  obtain ⟨_, a58, _⟩ := idx_first m58
  obtain ⟨_, a120, _⟩ := idx_first m120
  obtain ⟨e58, _, c58⟩ := count_split m58
  have hne : (byteL s).idxOf 120 ≠ (byteL s).idxOf 58 := fun e => by rw [e, a58] at a120; injection a120 with a120; omega
  have hlt : (byteL s).idxOf 120 < (byteL s).idxOf 58 := by omega
  have hm : (120 : Int) ∈ byteL (prU s) := by
    rw [prU_bytes]
    exact List.mem_of_getElem? (i := (byteL s).idxOf 120) (by rw [List.getElem?_take, if_pos hlt]; exact a120)
  have hxu : (byteL (prU s)).idxOf 120 = (byteL s).idxOf 120 := by
    conv => rhs; rw [e58]
    rw [prU_bytes] at hm ⊢
    exact (idx_app hm).symm
  have mU : (byteL (prU s)).count 120 ≠ 0 := fun h0 => List.count_eq_zero.1 h0 hm
  obtain ⟨_, _, cU⟩ := count_split mU
  have eA := prA_eq (s := s) (by omega)
  have eB := prB_eq (s := s) (by omega)
  have eZ := prZ_eq s
  have iA : imA s = prA s := by unfold imA; rw [hx.2, eA, hxu, Int.toNat_natCast]
  have iB : imB s = prB s := by unfold imB; rw [hx.2, hc.2, eB, hxu, Int.toNat_natCast, Int.toNat_natCast]
  have iZ : imZ s = prZ s := by unfold imZ; rw [hc.2, eZ, Int.toNat_natCast]
  rw [iA] at q1
  rw [iB] at q2
  rw [iA, iB, iZ] at q3
  have hbB : byteL (prB s) = (byteL (prU s)).drop ((byteL (prU s)).idxOf 120 + 1) := by
    unfold prB
    rw [byteL_extract, List.take_of_length_le (by rw [List.length_drop, byteL_length]; exact Nat.le_refl _)]
  have n120 : (120 : Int) ∉ byteL (prB s) := by
    rw [rd_bytes q2]
    intro h
    have := decL_dig _ _ h
    omega
  have n58 : (58 : Int) ∉ (byteL s).drop ((byteL s).idxOf 58 + 1) := by
    rw [eZ] at q3
    exact (kinds_back q3).2
  rw [List.count_eq_zero.2 n58] at c58
  rw [hbB] at n120
  rw [List.count_eq_zero.2 n120] at cU
  unfold pnO prG
  rw [c58, cU, q1, q2, q3]
  rfl
end Go.Proofs.Ytgcgaoblbhojnaa

/- Plain: ReadPanel: both forms read the same texts. -/
import Derived.Test.YtgcgaoblbhojnaaRd
import Derived.Test.YtgcgaoblbhojnaaSl
import Derived.Test.YtgcgaoblbhojnaaPf
import Derived.Test.YtgcgaoblbhojnaaTx
namespace Go.Proofs.Ytgcgaoblbhojnaa
set_option linter.unusedSimpArgs false
set_option linter.unusedVariables false
theorem byteL_extract (s : ByteArray) (i j : Nat) : byteL (s.extract i j) = ((byteL s).drop i).take (j - i) := by
  unfold byteL
  rw [ByteArray.data_extract, Array.toList_extract, List.extract_eq_take_drop, List.map_take, List.map_drop]
theorem byteL_inj {a b : ByteArray} (h : byteL a = byteL b) : a = b := by
  apply ByteArray.ext
  apply Array.toList_inj.1
  unfold byteL at h
  exact (List.map_inj_right (fun x y hxy => by
    have : x.toNat = y.toNat := by omega
    exact UInt8.toNat_inj.1 this)).1 h
theorem byteL_app (a b : ByteArray) : byteL (a ++ b) = byteL a ++ byteL b := by
  unfold byteL
  rw [ByteArray.data_append, Array.toList_append, List.map_append]
theorem byteL_nums {l : List Int} (h : ∀ b ∈ l, 0 ≤ b ∧ b ≤ 255) : byteL (strOfNums l) = l := by
  unfold byteL
  rw [strOfNums_data, List.map_map]
  conv => rhs; rw [← List.map_id l]
  apply List.map_congr_left
  intro b hb
  obtain ⟨h0, h1⟩ := h b hb
  simp only [Function.comp]
  rw [byte_num h0 h1]
  rfl
/-- How many parts: one more than of the bytes. -/
theorem spS_count (s : ByteArray) (b : Int) : ∀ k, k ≤ s.size → (spS s b k).1.length = ((byteL s).take k).count b := by
  intro k
  induction k with
  | zero => intro _; simp [spS]
  | succ k ih =>
    intro hk
    have hkl : k < (byteL s).length := by rw [byteL_length]; omega
    rw [spS, List.take_add_one, List.getElem?_eq_getElem hkl, List.count_append]
    by_cases h : (byteL s)[k] = b
    · rw [if_pos (by rw [h]), List.length_append, ih (by omega)]
      simp [h]
    · rw [if_neg (by intro e; injection e with e; exact h e), ih (by omega)]
      simp [h]
theorem spL_count (s : ByteArray) (b : Int) : (spL s b).length = (byteL s).count b + 1 := by
  unfold spL
  rw [List.length_append, spS_count s b s.size (Nat.le_refl _), List.take_of_length_le (by rw [byteL_length]; exact Nat.le_refl _)]
  rfl
theorem idx_not {l : List Int} {b : Int} : ∀ {i : Nat}, i < l.idxOf b → l[i]? ≠ some b := by
  induction l with
  | nil => intro i hi; simp at hi
  | cons a l ih =>
    intro i hi
    rw [List.idxOf_cons] at hi
    by_cases h : a = b
    · subst h; simp at hi
    · have hb : (a == b) = false := beq_eq_false_iff_ne.2 h
      rw [hb] at hi
      cases i with
      | zero => simp [h]
      | succ i => simpa using ih (i := i) (by simpa using hi)
theorem idx_first {l : List Int} {b : Int} (h : l.count b ≠ 0) : l.idxOf b < l.length ∧ l[l.idxOf b]? = some b ∧ (∀ i, i < l.idxOf b → l[i]? ≠ some b) := by
  have hm : b ∈ l := by
    by_cases hc : b ∈ l
    · exact hc
    · exact absurd (List.count_eq_zero.2 hc) h
  have hlt := List.idxOf_lt_length_of_mem hm
  refine ⟨hlt, by rw [List.getElem?_eq_getElem hlt, List.getElem_idxOf], ?_⟩
  exact fun i hi => idx_not hi
theorem count_split {l : List Int} {b : Int} (h : l.count b ≠ 0) : l = l.take (l.idxOf b) ++ b :: l.drop (l.idxOf b + 1) ∧ b ∉ l.take (l.idxOf b) ∧ l.count b = (l.drop (l.idxOf b + 1)).count b + 1 := by
  obtain ⟨h1, h2, h3⟩ := idx_first h
  have e : l = l.take (l.idxOf b) ++ b :: l.drop (l.idxOf b + 1) := by
    conv => lhs; rw [← List.take_append_drop (l.idxOf b) l]
    congr 1
    rw [List.drop_eq_getElem_cons h1]
    congr 1
    rw [List.getElem?_eq_getElem h1] at h2
    injection h2
  have hn : b ∉ l.take (l.idxOf b) := by
    intro hm
    obtain ⟨i, hi, e2⟩ := List.getElem_of_mem hm
    rw [List.length_take] at hi
    refine h3 i (by omega) ?_
    rw [List.getElem_take] at e2
    rw [List.getElem?_eq_getElem (by omega), e2]
  refine ⟨e, hn, ?_⟩
  conv => lhs; rw [e]
  rw [List.count_append, List.count_eq_zero.2 hn, List.count_cons]
  simp
/-- A text with one mark has two parts. -/
theorem spS_one {s : ByteArray} {b : Int} (h : (byteL s).count b = 1) : ∀ k, k ≤ s.size → spS s b k = if (byteL s).idxOf b < k then ([s.extract 0 ((byteL s).idxOf b)], (byteL s).idxOf b + 1) else ([], 0) := by
  obtain ⟨h1, h2, h3⟩ := idx_first (l := byteL s) (b := b) (by omega)
  obtain ⟨e, hn, hc⟩ := count_split (l := byteL s) (b := b) (by omega)
  have hd : b ∉ (byteL s).drop ((byteL s).idxOf b + 1) := List.count_eq_zero.1 (by omega)
  intro k
  induction k with
  | zero => intro _; simp [spS]
  | succ k ih =>
    intro hk
    rw [spS, ih (by omega)]
    by_cases e1 : k = (byteL s).idxOf b
    · rw [if_pos (by rw [e1]; exact h2), if_neg (by omega), if_pos (by omega), e1]
      rfl
    · have hne : ¬ (byteL s)[k]? = some b := by
        intro hk2
        rcases Nat.lt_or_ge k ((byteL s).idxOf b) with hlt | hge
        · exact h3 k hlt hk2
        · apply hd
          refine List.mem_of_getElem? (i := k - ((byteL s).idxOf b + 1)) ?_
          rw [List.getElem?_drop, show (byteL s).idxOf b + 1 + (k - ((byteL s).idxOf b + 1)) = k by omega]
          exact hk2
      rw [if_neg hne]
      by_cases hlt : (byteL s).idxOf b < k
      · rw [if_pos hlt, if_pos (by omega)]
      · rw [if_neg hlt, if_neg (by omega)]
theorem spL_one {s : ByteArray} {b : Int} (h : (byteL s).count b = 1) : spL s b = [s.extract 0 ((byteL s).idxOf b), s.extract ((byteL s).idxOf b + 1) s.size] := by
  obtain ⟨h1, _, _⟩ := idx_first (l := byteL s) (b := b) (by omega)
  rw [byteL_length] at h1
  unfold spL
  rw [spS_one h s.size (Nat.le_refl _), if_pos h1]
  rfl
/-- The reference's parts of a text. -/
def prU (s : ByteArray) : ByteArray := s.extract 0 ((byteL s).idxOf 58)
def prV (s : ByteArray) : ByteArray := s.extract ((byteL s).idxOf 58 + 1) s.size
def prA (s : ByteArray) : ByteArray := (prU s).extract 0 ((byteL (prU s)).idxOf 120)
def prB (s : ByteArray) : ByteArray := (prU s).extract ((byteL (prU s)).idxOf 120 + 1) (prU s).size
def prZ (s : ByteArray) : List Int := (byteL (prV s)).map kdF
def prG (s : ByteArray) : Bool := (byteL s).count 58 == 1 && (byteL (prU s)).count 120 == 1
/-- What ReadPanel answers. -/
noncomputable def pnO (s : ByteArray) : Bool := prG s && (rdB (prA s) && rdB (prB s)) && validB (rdR (prA s)) (rdR (prB s)) (prZ s)
noncomputable def pnW (s : ByteArray) : Int := if pnO s then rdR (prA s) else 0
noncomputable def pnH (s : ByteArray) : Int := if pnO s then rdR (prB s) else 0
noncomputable def pnL (s : ByteArray) : List Int := if pnO s then prZ s else []
noncomputable def pnN (s : ByteArray) : Nat := (pnL s).length
/-- The program's. -/
def plI (s : ByteArray) (b : Int) : Int := if (byteL s).idxOf b < s.size then (byteL s).idxOf b else -1
def imA (s : ByteArray) : ByteArray := s.extract 0 (plI s 120).toNat
def imB (s : ByteArray) : ByteArray := s.extract ((plI s 120).toNat + 1) (plI s 58).toNat
def imZ (s : ByteArray) : List Int := ((byteL s).drop ((plI s 58).toNat + 1)).map kdF
def imP (s : ByteArray) : Prop := 0 ≤ plI s 120 ∧ plI s 120 ≤ plI s 58 ∧ (s.size : Int) - plI s 58 ≤ 129
def imQ (s : ByteArray) : Prop := rdB (imA s) = true ∧ rdB (imB s) = true ∧ validB (rdR (imA s)) (rdR (imB s)) (imZ s) = true ∧ txS (rdR (imA s)) (rdR (imB s)) (imZ s) = s
theorem idx_app {l m : List Int} {b : Int} (h : b ∈ l) : (l ++ m).idxOf b = l.idxOf b := by
  rw [List.idxOf_append, if_pos h]
theorem prU_bytes (s : ByteArray) : byteL (prU s) = (byteL s).take ((byteL s).idxOf 58) := by
  unfold prU
  rw [byteL_extract, List.drop_zero, Nat.sub_zero]
theorem prZ_eq (s : ByteArray) : prZ s = ((byteL s).drop ((byteL s).idxOf 58 + 1)).map kdF := by
  unfold prZ prV
  rw [byteL_extract, List.take_of_length_le (by rw [List.length_drop, byteL_length]; exact Nat.le_refl _)]
theorem prA_eq {s : ByteArray} (h : (byteL (prU s)).idxOf 120 ≤ (byteL s).idxOf 58) : prA s = s.extract 0 ((byteL (prU s)).idxOf 120) := by
  apply byteL_inj
  unfold prA
  rw [byteL_extract, byteL_extract, prU_bytes, List.drop_zero, List.drop_zero, Nat.sub_zero, List.take_take]
  rw [prU_bytes] at h
  rw [Nat.min_eq_left h]
theorem prB_eq {s : ByteArray} (hc : (byteL s).idxOf 58 ≤ s.size) : prB s = s.extract ((byteL (prU s)).idxOf 120 + 1) ((byteL s).idxOf 58) := by
  apply byteL_inj
  unfold prB
  rw [byteL_extract, byteL_extract, ← byteL_length (prU s), prU_bytes, List.drop_take, List.take_take, List.length_take, byteL_length]
  congr 1
  omega
theorem dgL_dig : ∀ (f q : Nat) (acc : List Int), (∀ b ∈ acc, 48 ≤ b ∧ b ≤ 57) → ∀ b ∈ dgL f q acc, 48 ≤ b ∧ b ≤ 57 := by
  intro f
  induction f with
  | zero => intro q acc h; simpa [dgL] using h
  | succ f ih =>
    intro q acc h
    simp only [dgL]
    split
    · exact h
    · refine ih _ _ ?_
      intro b hb
      rcases List.mem_cons.1 hb with rfl | hb
      · omega
      · exact h b hb
theorem decL_dig (n : Int) : ∀ b ∈ decL n, b = 45 ∨ (48 ≤ b ∧ b ≤ 57) := by
  unfold decL
  split
  · intro b hb; simp at hb; omega
  · intro b hb
    rcases List.mem_append.1 hb with hb | hb
    · split at hb
      · simp at hb; omega
      · simp at hb
    · exact .inr (dgL_dig _ _ _ (by simp) b hb)
theorem rd_bytes {s : ByteArray} (h : rdB s = true) : byteL s = decL (rdR s) := by
  by_cases hp : RdP s
  · rw [(rd_yes hp).1]
    conv => lhs; rw [← hp.2.2.2]
    unfold decS
    exact byteL_nums (decL_bd _)
  · rw [(rd_no hp).2] at h; cases h
theorem sg_kd {z : Int} (h : kdF z = 0 ∨ kdF z = 1 ∨ kdF z = 2) : sgB (kdF z) = z ∧ z ≠ 58 := by
  unfold kdF at h ⊢
  by_cases h1 : z = 43
  · subst h1; simp [sgB]
  · by_cases h2 : z = 124
    · subst h2; simp [sgB]
    · by_cases h3 : z = 45
      · subst h3; simp [sgB]
      · simp [h1, h2, h3] at h
theorem kinds_back {W H : Int} {l : List Int} (hv : validB W H (l.map kdF) = true) : (l.map kdF).map sgB = l ∧ (58 : Int) ∉ l := by
  have hk : ∀ z ∈ l, kdF z = 0 ∨ kdF z = 1 ∨ kdF z = 2 := by
    intro z hz
    obtain ⟨i, hi, e⟩ := List.getElem_of_mem hz
    exact validB_kinds hv (j := i) (by rw [List.getElem?_map, List.getElem?_eq_getElem hi, e]; rfl)
  refine ⟨?_, fun h58 => (sg_kd (hk _ h58)).2 rfl⟩
  rw [List.map_map]
  conv => rhs; rw [← List.map_id l]
  apply List.map_congr_left
  intro z hz
  exact (sg_kd (hk z hz)).1
theorem tx_bytes (W H : Int) (zs : List Int) : byteL (txS W H zs) = decL W ++ [120] ++ decL H ++ [58] ++ zs.map sgB := by
  unfold txS
  rw [byteL_nums]
  · rfl
  · intro b hb
    unfold txL at hb
    rcases List.mem_append.1 hb with hb | hb
    · exact txH_bd _ _ b hb
    · obtain ⟨z, _, rfl⟩ := List.mem_map.1 hb
      exact sgB_bd z
theorem pl_of {s : ByteArray} {b : Int} (h : (byteL s).count b ≠ 0) : plI s b = (byteL s).idxOf b := by
  have := (idx_first h).1
  rw [byteL_length] at this
  unfold plI
  rw [if_pos this]
/-- The text of what was read is the text. -/
theorem text_back {s : ByteArray} {x c : Nat} {W H : Int} {zs : List Int} (h58 : (byteL s).count 58 ≠ 0) (hc : (byteL s).idxOf 58 = c) (h120 : ((byteL s).take c).count 120 ≠ 0) (hx : ((byteL s).take c).idxOf 120 = x)
    (hA : byteL (s.extract 0 x) = decL W) (hB : byteL (s.extract (x + 1) c) = decL H) (hZ : zs.map sgB = (byteL s).drop (c + 1)) : txS W H zs = s := by
  apply byteL_inj
  obtain ⟨e1, _, _⟩ := count_split h58
  obtain ⟨e2, _, _⟩ := count_split h120
  rw [hc] at e1
  rw [hx] at e2
  have hxc : x < c := by
    have := (idx_first h120).1
    rw [hx, List.length_take] at this
    omega
  rw [byteL_extract, List.drop_zero, Nat.sub_zero] at hA
  rw [byteL_extract] at hB
  rw [List.take_take, Nat.min_eq_left (by omega), hA, List.drop_take, hB] at e2
  rw [e2] at e1
  rw [tx_bytes, hZ]
  conv => rhs; rw [e1]
  simp
/-- Both forms: the reference reads what the program reads. -/
theorem im_of_pn {s : ByteArray} (h : pnO s = true) : imP s ∧ imQ s ∧ imA s = prA s ∧ imB s = prB s ∧ imZ s = prZ s := by
  unfold pnO prG at h
  simp only [Bool.and_eq_true, beq_iff_eq] at h
  obtain ⟨⟨⟨h58, h120⟩, hA, hB⟩, hv⟩ := h
  obtain ⟨i1, _, _⟩ := idx_first (l := byteL s) (b := 58) (by omega)
  obtain ⟨j1, _, _⟩ := idx_first (l := byteL (prU s)) (b := 120) (by omega)
  obtain ⟨e58, _, _⟩ := count_split (l := byteL s) (b := 58) (by omega)
  have hm : (120 : Int) ∈ byteL (prU s) := by
    by_cases hmm : (120 : Int) ∈ byteL (prU s)
    · exact hmm
    · have := List.count_eq_zero.2 hmm; omega
  have hx : (byteL s).idxOf 120 = (byteL (prU s)).idxOf 120 := by
    conv => lhs; rw [e58]
    rw [prU_bytes] at hm ⊢
    exact idx_app hm
  have hul : (byteL (prU s)).length = (byteL s).idxOf 58 := by rw [prU_bytes, List.length_take]; omega
  rw [byteL_length] at i1
  have p58 : plI s 58 = (byteL s).idxOf 58 := pl_of (by omega)
  have p120 : plI s 120 = (byteL (prU s)).idxOf 120 := by
    unfold plI
    rw [hx, if_pos (by omega)]
  have eA := prA_eq (s := s) (by omega)
  have eB := prB_eq (s := s) (by omega)
  have eZ := prZ_eq s
  have iA : imA s = prA s := by unfold imA; rw [p120, eA, Int.toNat_natCast]
  have iB : imB s = prB s := by unfold imB; rw [p120, p58, eB, Int.toNat_natCast, Int.toNat_natCast]
  have iZ : imZ s = prZ s := by unfold imZ; rw [p58, eZ, Int.toNat_natCast]
  refine ⟨⟨by omega, by omega, ?_⟩, ⟨by rw [iA]; exact hA, by rw [iB]; exact hB, by rw [iA, iB, iZ]; exact hv, ?_⟩, iA, iB, iZ⟩
  · have hl := valid_len hv
    have hi := inner_le (valid_sides hv).1 (valid_sides hv).2
    rw [eZ, List.length_map, List.length_drop, byteL_length] at hl
    omega
  · rw [iA, iB, iZ]
    rw [eZ] at hv
    refine text_back (c := (byteL s).idxOf 58) (x := (byteL (prU s)).idxOf 120) (by omega) rfl (by rw [← prU_bytes]; omega) (by rw [prU_bytes]) ?_ ?_ ?_
    · rw [← eA]; exact rd_bytes hA
    · rw [← eB]; exact rd_bytes hB
    · rw [eZ]; exact (kinds_back hv).1
theorem pn_of_im {s : ByteArray} (hP : imP s) (hQ : imQ s) : pnO s = true := by
  obtain ⟨p1, p2, p3⟩ := hP
  obtain ⟨q1, q2, q3, q4⟩ := hQ
  have hx : (byteL s).idxOf 120 < s.size ∧ plI s 120 = (byteL s).idxOf 120 := by
    unfold plI at p1 ⊢
    split at p1
    · rename_i h; exact ⟨h, by rw [if_pos h]⟩
    · omega
  have hc : (byteL s).idxOf 58 < s.size ∧ plI s 58 = (byteL s).idxOf 58 := by
    have h : 0 ≤ plI s 58 := by omega
    unfold plI at h ⊢
    split at h
    · rename_i h2; exact ⟨h2, by rw [if_pos h2]⟩
    · omega
  have m58 : (byteL s).count 58 ≠ 0 := fun h0 => by
    have := List.idxOf_eq_length (List.count_eq_zero.1 h0)
    rw [byteL_length] at this
    omega
  have m120 : (byteL s).count 120 ≠ 0 := fun h0 => by
    have := List.idxOf_eq_length (List.count_eq_zero.1 h0)
    rw [byteL_length] at this
    omega
  obtain ⟨_, a58, _⟩ := idx_first m58
  obtain ⟨_, a120, _⟩ := idx_first m120
  obtain ⟨e58, _, c58⟩ := count_split m58
  have hne : (byteL s).idxOf 120 ≠ (byteL s).idxOf 58 := fun e => by rw [e, a58] at a120; injection a120 with a120; omega
  have hlt : (byteL s).idxOf 120 < (byteL s).idxOf 58 := by omega
  have hm : (120 : Int) ∈ byteL (prU s) := by
    rw [prU_bytes]
    exact List.mem_of_getElem? (i := (byteL s).idxOf 120) (by rw [List.getElem?_take, if_pos hlt]; exact a120)
  have hxu : (byteL (prU s)).idxOf 120 = (byteL s).idxOf 120 := by
    conv => rhs; rw [e58]
    rw [prU_bytes] at hm ⊢
    exact (idx_app hm).symm
  have mU : (byteL (prU s)).count 120 ≠ 0 := fun h0 => List.count_eq_zero.1 h0 hm
  obtain ⟨_, _, cU⟩ := count_split mU
  have eA := prA_eq (s := s) (by omega)
  have eB := prB_eq (s := s) (by omega)
  have eZ := prZ_eq s
  have iA : imA s = prA s := by unfold imA; rw [hx.2, eA, hxu, Int.toNat_natCast]
  have iB : imB s = prB s := by unfold imB; rw [hx.2, hc.2, eB, hxu, Int.toNat_natCast, Int.toNat_natCast]
  have iZ : imZ s = prZ s := by unfold imZ; rw [hc.2, eZ, Int.toNat_natCast]
  rw [iA] at q1
  rw [iB] at q2
  rw [iA, iB, iZ] at q3
  have hbB : byteL (prB s) = (byteL (prU s)).drop ((byteL (prU s)).idxOf 120 + 1) := by
    unfold prB
    rw [byteL_extract, List.take_of_length_le (by rw [List.length_drop, byteL_length]; exact Nat.le_refl _)]
  have n120 : (120 : Int) ∉ byteL (prB s) := by
    rw [rd_bytes q2]
    intro h
    have := decL_dig _ _ h
    omega
  have n58 : (58 : Int) ∉ (byteL s).drop ((byteL s).idxOf 58 + 1) := by
    rw [eZ] at q3
    exact (kinds_back q3).2
  rw [List.count_eq_zero.2 n58] at c58
  rw [hbB] at n120
  rw [List.count_eq_zero.2 n120] at cU
  unfold pnO prG
  rw [c58, cU, q1, q2, q3]
  rfl
end Go.Proofs.Ytgcgaoblbhojnaa

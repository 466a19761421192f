/- Merged texts: Nm, Rd. -/
import Derived.Test.YtgcgaoblbhojnaaVp
import Derived.Laws.Strings
import Derived.Laws.BytesArg
import Derived.Test.YtgcgaoblbhojnaaFnCurvePicturesM18
import Derived.Laws.Strings3
namespace Go.Proofs.Ytgcgaoblbhojnaa
set_option linter.unusedSimpArgs false
set_option linter.unusedVariables false
open Go.ChangeShapes Go.WideShapes Go.ChangeAt Go.RowKit
/-- A string's bytes, as numbers. -/
def byteL (s : ByteArray) : List Int := s.data.toList.map fun b => (b.toNat : Int)
theorem byteL_length (s : ByteArray) : (byteL s).length = s.size := by unfold byteL; rw [List.length_map, Array.length_toList]; rfl
theorem byte_at (s : ByteArray) (k : Nat) (h : k < s.size) : (byteL s)[k]? = some ((s[k]'h).toNat : Int) := by
  have h' : k < s.data.size := h
  simp only [byteL, List.getElem?_map, Array.getElem?_toList, Array.getElem?_eq_getElem h', Option.map_some]
  rfl
theorem byte_bd {s : ByteArray} {k : Nat} {b : Int} (h : (byteL s)[k]? = some b) : 0 ≤ b ∧ b ≤ 255 := by
  simp only [byteL, List.getElem?_map, Option.map_eq_some_iff] at h
  obtain ⟨c, _, rfl⟩ := h
  have := c.toNat_lt
  omega
def smallP (b : Int) : Prop := 97 ≤ b ∧ b ≤ 122
def digitP (b : Int) : Prop := 48 ≤ b ∧ b ≤ 57
def nameAt (i : Nat) (b : Int) : Prop := smallP b ∨ (i ≠ 0 ∧ (b = 45 ∨ digitP b))
def NameP (s : ByteArray) : Prop := 1 ≤ s.size ∧ s.size ≤ 12 ∧ ∀ (i : Nat) b, (byteL s)[i]? = some b → nameAt i b
open Classical in
/-- What IsName answers. -/
noncomputable def nmB (s : ByteArray) : Bool := decide (NameP s)
open Classical in
theorem nm_true {s : ByteArray} (h : NameP s) : nmB s = true := by unfold nmB; exact decide_eq_true h
open Classical in
theorem nm_false {s : ByteArray} (h : ¬ NameP s) : nmB s = false := by unfold nmB; exact decide_eq_false h
def smallB (b : Int) : Bool := decide (97 ≤ b) && decide (b ≤ 122)
def digitB (b : Int) : Bool := decide (48 ≤ b) && decide (b ≤ 57)

theorem l01Digit_any (b : Int) (w : World) : Calls Try.prog 99 #[.int .u8 b] w fun e w' => e = .returned (.bool (digitB b)) ∧ w = w' := by
  by_cases h1 : 48 ≤ b <;> by_cases h2 : b ≤ 57
  all_goals
    go_enter Try.func99, Try.ntmps99
    go_wp2
    go_ret
    exact ⟨ret_bool (by simp [digitB, h1, h2]), rfl⟩
theorem name_step {s : ByteArray} {k : Nat} {b : Int} (hA : ∀ (i : Nat) b, i < k → (byteL s)[i]? = some b → nameAt i b) (hb : (byteL s)[k]? = some b) : nameAt k b → ∀ (i : Nat) c, i < k + 1 → (byteL s)[i]? = some c → nameAt i c := by
  intro hn i c hi hc
  rcases Nat.lt_or_ge i k with h | h
  · exact hA i c h hc
  · obtain rfl : i = k := by omega
    rw [hb] at hc
    injection hc with hc
    subst hc
    exact hn
end Go.Proofs.Ytgcgaoblbhojnaa
namespace Go.Proofs.Ytgcgaoblbhojnaa
set_option linter.unusedSimpArgs false
set_option linter.unusedVariables false
open Go.ChangeShapes Go.WideShapes Go.ChangeAt Go.RowKit
/-- The number of some digits. -/
def rdN (l : List Int) : Int := l.foldl (fun n b => 10 * n + (b - 48)) 0
theorem rdN_snoc (l : List Int) (b : Int) : rdN (l ++ [b]) = 10 * rdN l + (b - 48) := by simp [rdN, List.foldl_append]
theorem rdN_bd (l : List Int) (h : ∀ b ∈ l, digitP b) : 0 ≤ rdN l ∧ rdN l < ((10 ^ l.length : Nat) : Int) := by
  obtain ⟨k, hk⟩ : ∃ k, l.length = k := ⟨_, rfl⟩
  induction k generalizing l with
  | zero => rw [List.eq_nil_of_length_eq_zero hk]; simp [rdN]
  | succ k ih =>
    obtain ⟨l', b, rfl⟩ : ∃ l' b, l = l' ++ [b] := by
      rcases List.eq_nil_or_concat l with h0 | ⟨l', b, h0⟩
      · rw [h0] at hk; simp at hk
      · exact ⟨l', b, by simpa using h0⟩
    have h1 := ih l' (fun b hb => h b (by simp [hb])) (by simpa using hk)
    have h2 := h b (by simp)
    unfold digitP at h2
    rw [rdN_snoc, List.length_append, List.length_singleton, Nat.pow_succ]
    omega
theorem rd_bd {l : List Int} {k : Nat} (h : ∀ (i : Nat) b, i < k → l[i]? = some b → digitP b) (hk : k ≤ 18) : 0 ≤ rdN (l.take k) ∧ rdN (l.take k) < 1000000000000000000 ∧ (k ≤ 17 → rdN (l.take k) < 100000000000000000) := by
  have h1 := rdN_bd (l.take k) (fun b hb => by
    obtain ⟨i, hi, rfl⟩ := List.getElem_of_mem hb
    have hik : i < k := by simp at hi; omega
    exact h i _ hik (by rw [← List.getElem?_take_of_lt hik]; exact List.getElem?_eq_getElem hi))
  have h2 : (l.take k).length ≤ k := List.length_take_le _ _
  have h3 : 10 ^ (l.take k).length ≤ 10 ^ 18 := Nat.pow_le_pow_right (by decide) (by omega)
  refine ⟨h1.1, by omega, fun h17 => ?_⟩
  have h4 : 10 ^ (l.take k).length ≤ 10 ^ 17 := Nat.pow_le_pow_right (by decide) (by omega)
  omega
theorem rd_step {l : List Int} {k : Nat} {b : Int} (hb : l[k]? = some b) : rdN (l.take (k + 1)) = 10 * rdN (l.take k) + (b - 48) := by
  rw [List.take_add_one, hb]; exact rdN_snoc _ _
theorem dg_step {l : List Int} {k : Nat} {b : Int} (hA : ∀ (i : Nat) b, i < k → l[i]? = some b → digitP b) (hb : l[k]? = some b) (hd : digitP b) : ∀ (i : Nat) c, i < k + 1 → l[i]? = some c → digitP c := by
  intro i c hi hc
  rcases Nat.lt_or_ge i k with h | h
  · exact hA i c h hc
  · obtain rfl : i = k := by omega
    rw [hb] at hc
    injection hc with hc
    subst hc
    exact hd
open Classical in
noncomputable def rdT (s : ByteArray) : ByteArray := if (byteL s)[0]? = some 45 then s.extract 1 s.size else s
open Classical in
noncomputable def rdV (s : ByteArray) : Int := if (byteL s)[0]? = some 45 then -rdN (byteL (rdT s)) else rdN (byteL (rdT s))
def RdP (s : ByteArray) : Prop := 1 ≤ (rdT s).size ∧ (rdT s).size ≤ 18 ∧ (∀ (i : Nat) b, (byteL (rdT s))[i]? = some b → digitP b) ∧ decS (rdV s) = s
open Classical in
/-- Whether a text is a number's, and the number. -/
noncomputable def rdB (s : ByteArray) : Bool := decide (RdP s)
open Classical in
noncomputable def rdR (s : ByteArray) : Int := if RdP s then rdV s else 0
open Classical in
theorem rd_yes {s : ByteArray} (h : RdP s) : rdR s = rdV s ∧ rdB s = true := by unfold rdR rdB; exact ⟨if_pos h, decide_eq_true h⟩
open Classical in
theorem rd_no {s : ByteArray} (h : ¬ RdP s) : rdR s = 0 ∧ rdB s = false := by unfold rdR rdB; exact ⟨if_neg h, decide_eq_false h⟩
theorem ext1_size (s : ByteArray) : (s.extract 1 s.size).size = s.size - 1 := by simp
theorem toList_inj {a b : ByteArray} (h : a.toList = b.toList) : a = b := by
  rw [ByteArray.toList_eq, ByteArray.toList_eq] at h
  cases a with | mk x => cases b with | mk y => (congr; exact Array.toList_inj.1 h)
theorem beq_of_eq {a b : ByteArray} (h : a = b) : (a.toList == b.toList) = true := by subst h; simp
theorem beq_of_ne {a b : ByteArray} (h : a ≠ b) : (a.toList == b.toList) = false := by
  rw [beq_eq_false_iff_ne]
  exact fun e => h (toList_inj e)
theorem ret_ib {a c : Int} {b d : Bool} (h : a = c) (k : b = d) : Ending.returned (.tuple #[.int .i64 a, .bool b]) = .returned (.tuple #[.int .i64 c, .bool d]) := by rw [h, k]
set_option maxRecDepth 100000 in
set_option maxHeartbeats 4000000 in
theorem implReadDecimal_any (s : ByteArray) (w : World) (hs : s.size ≤ 1048576) : Calls Try.prog 17 #[.string s] w fun e w' => e = .returned (.tuple #[.int .i64 (rdR s), .bool (rdB s)]) ∧ Below w.heap.size w w' := by
  obtain ⟨n, hn⟩ : ∃ n, s.size = n := ⟨_, rfl⟩
  have HN := hid hn
  rcases Nat.eq_zero_or_pos n with h0 | hp
  · have he : s = ⟨#[]⟩ := by cases s with | mk d => (have : d.size = 0 := by have h := hn; rw [h0] at h; exact h); congr; exact Array.eq_empty_of_size_eq_zero this
    subst he
    have HV := hid (rd_no (s := ⟨#[]⟩) (fun h => by have h1 := h.1; simp [rdT, byteL] at h1; exact absurd h1 (by decide)))
    clear hn HN h0
    go_enter Try.func17, Try.ntmps17
    go_wp2_with fail
    go_ret2
    exact ⟨ret_ib HV.out.1.symm HV.out.2.symm, Below.refl _ _⟩
  have hns : 0 < s.size := by omega
  obtain ⟨c0, hc0⟩ : ∃ b : Int, ((s[0]'hns).toNat : Int) = b := ⟨_, rfl⟩
  have HC0 : Hid ((byteL s)[0]? = some c0) := hid (by rw [byte_at s 0 hns, hc0])
  have bd0 := byte_bd HC0.out
  by_cases h45 : c0 = 45
  · have hb45 : (c0 == 45) = true := by simp [h45]
    have HT1 : Hid (rdT s = s.extract 1 s.size ∧ rdV s = -rdN (byteL (rdT s))) := hid (by unfold rdV; rw [if_pos (by rw [HC0.out, h45])]; unfold rdT; rw [if_pos (by rw [HC0.out, h45])]; exact ⟨rfl, rfl⟩)
    clear h45
    obtain ⟨t, ht⟩ : ∃ t, s.extract 1 n = t := ⟨_, rfl⟩
    obtain ⟨m, htz⟩ : ∃ m, t.size = m := ⟨_, rfl⟩
    have HMN : Hid (m + 1 = n) := hid (by rw [← htz, ← ht, ← hn, ext1_size]; omega)
    have HT : Hid (rdT s = t ∧ rdV s = -rdN (byteL t)) := hid (by have h2 : s.extract 1 s.size = t := (by rw [hn, ht]); have h := HT1.out; rw [h2] at h; refine ⟨h.1, ?_⟩; rw [h.2, h.1])
    have hmn := HMN.out
    have hmn1 : 1 ≤ n := hp
    have hlt2 : m < n := by omega
    clear hmn
    by_cases hm0 : m = 0
    · have HV := hid (rd_no (s := s) (fun h => by have h1 := h.1; rw [HT.out.1, htz] at h1; omega))
      subst hm0
      go_enter Try.func17, Try.ntmps17
      go_wp2_with fail
      go_ret2
      exact ⟨ret_ib HV.out.1.symm HV.out.2.symm, Below.refl _ _⟩
    by_cases h18 : 18 < m
    · have HV := hid (rd_no (s := s) (fun h => by have h1 := h.2.1; rw [HT.out.1, htz] at h1; omega))
      have hgr : (18 : Int) < m := by omega
      have hlr : ¬ ((m : Int) < 1) := by omega
      go_enter Try.func17, Try.ntmps17
      go_wp2_with fail
      go_ret2
      exact ⟨ret_ib HV.out.1.symm HV.out.2.symm, Below.refl _ _⟩
    have hlr : ¬ ((m : Int) < 1) := by omega
    have hgr : ¬ ((18 : Int) < m) := by omega
    go_enter Try.func17, Try.ntmps17
    go_wp2_with fail
    go_loopg [5, 28] m (fun g v i wr => ∃ k : Nat, k ≤ m ∧ v = .int .i64 (rdN ((byteL t).take k)) ∧ i = .int .i64 k ∧ g = m - k ∧ Hid (∀ (i : Nat) b, i < k → (byteL t)[i]? = some b → digitP b) ∧ w = wr)
    case atStart => exact ⟨0, Nat.zero_le _, rfl, rfl, rfl, hid (fun i b h => by omega), rfl⟩
    case round =>
      obtain ⟨k, hk, rfl, rfl, hg, HA, rfl⟩ := hrel
      have hbd := rd_bd HA.out (by omega)
      obtain ⟨v, hv⟩ : ∃ v, rdN ((byteL t).take k) = v := ⟨_, rfl⟩
      have HVV := hid hv
      rw [hv] at hbd
      simp only [hv]
      clear hv
      obtain ⟨v1, v2, v3⟩ := hbd
      by_cases hlt : k < m
      · have hks : k < t.size := by omega
        have v4 := v3 (by omega)
        clear v3
        obtain ⟨b, hb⟩ : ∃ b : Int, ((t[k]'hks).toNat : Int) = b := ⟨_, rfl⟩
        have HBY : Hid ((byteL t)[k]? = some b) := hid (by rw [byte_at t k hks, hb])
        have bd := byte_bd HBY.out
        by_cases hd : 48 ≤ b ∧ b ≤ 57
        · have HC := hid (dg_step HA.out HBY.out hd)
          have HST := hid (rd_step HBY.out)
          obtain ⟨d1, d2⟩ := hd
          have tw : IntKind.u8.wrap (b - 48) = b - 48 := IntWalk.u8_in _ (by omega)
          go_wp2_with fail
          go_roundg (m - (k + 1))
          case measure => omega
          case rel => exact ⟨k + 1, by omega, by rw [HST.out, HVV.out], by go_num, rfl, HC, rfl⟩
        · have HV := hid (rd_no (s := s) (fun h => by have h1 := h.2.2.1; rw [HT.out.1] at h1; have h2 := h1 k b HBY.out; unfold digitP at h2; exact hd h2))
          by_cases hd1 : b < 48
          · clear hd
            go_wp2_with fail
            go_ret2
            exact ⟨ret_ib HV.out.1.symm HV.out.2.symm, Below.refl _ _⟩
          · have hd2 : 57 < b := by omega
            clear hd
            go_wp2_with fail
            go_ret2
            exact ⟨ret_ib HV.out.1.symm HV.out.2.symm, Below.refl _ _⟩
      · obtain rfl : k = m := by omega
        have HVE : Hid (rdV s = -v) := hid (by rw [HT.out.2, ← HVV.out, List.take_of_length_le (by rw [byteL_length]; omega)])
        have hwf : (Lit.int .i64 (-v)).wf = true := by simp [Lit.wf, IntKind.min, IntKind.max, IntKind.bits, IntKind.signed]; omega
        have HALL : Hid (∀ (i : Nat) b, (byteL t)[i]? = some b → digitP b) := hid (fun i b h => HA.out i b (by have := (List.getElem?_eq_some_iff.1 h).1; rw [byteL_length] at this; omega) h)
        by_cases he : decS (-v) = s
        · have hbn : ((decS (-v)).toList == s.toList) = true := beq_of_eq he
          have HV := hid (rd_yes (s := s) ⟨by rw [HT.out.1]; omega, by rw [HT.out.1]; omega, by rw [HT.out.1]; exact HALL.out, by rw [HVE.out]; exact he⟩)
          clear he v3
          go_wp2_with fail
          refine (implDecimal_any (-v) _ hwf).mono ?_
          rintro e w1 ⟨rfl, hb1⟩
          have HB := hid hb1
          clear hb1
          go_wp2_with fail
          go_ret2
          exact ⟨ret_ib (by rw [HV.out.1, HVE.out]) HV.out.2.symm, HB.out⟩
        · have hbn : ((decS (-v)).toList == s.toList) = false := beq_of_ne he
          have HV := hid (rd_no (s := s) (fun h => he (by have h2 := h.2.2.2; rw [HVE.out] at h2; exact h2)))
          clear he v3
          go_wp2_with fail
          refine (implDecimal_any (-v) _ hwf).mono ?_
          rintro e w1 ⟨rfl, hb1⟩
          have HB := hid hb1
          clear hb1
          go_wp2_with fail
          go_ret2
          exact ⟨ret_ib HV.out.1.symm HV.out.2.symm, HB.out⟩
  · have hb45 : (c0 == 45) = false := by simp [h45]
    have HT1 : Hid (rdT s = s ∧ rdV s = rdN (byteL (rdT s))) := hid (by unfold rdV; rw [if_neg (by rw [HC0.out]; intro h; injection h with h; exact h45 h)]; unfold rdT; rw [if_neg (by rw [HC0.out]; intro h; injection h with h; exact h45 h)]; exact ⟨rfl, rfl⟩)
    clear h45
    have HT : Hid (rdT s = s ∧ rdV s = rdN (byteL s)) := hid (by have h := HT1.out; refine ⟨h.1, ?_⟩; rw [h.2, h.1])
    by_cases h18 : 18 < n
    · have HV := hid (rd_no (s := s) (fun h => by have h1 := h.2.1; rw [HT.out.1, hn] at h1; omega))
      have hgr : (18 : Int) < n := by omega
      have hlr : ¬ ((n : Int) < 1) := by omega
      go_enter Try.func17, Try.ntmps17
      go_wp2_with fail
      go_ret2
      exact ⟨ret_ib HV.out.1.symm HV.out.2.symm, Below.refl _ _⟩
    have hlr : ¬ ((n : Int) < 1) := by omega
    have hgr : ¬ ((18 : Int) < n) := by omega
    go_enter Try.func17, Try.ntmps17
    go_wp2_with fail
    go_loopg [5, 28] n (fun g v i wr => ∃ k : Nat, k ≤ n ∧ v = .int .i64 (rdN ((byteL s).take k)) ∧ i = .int .i64 k ∧ g = n - k ∧ Hid (∀ (i : Nat) b, i < k → (byteL s)[i]? = some b → digitP b) ∧ w = wr)
    case atStart => exact ⟨0, Nat.zero_le _, rfl, rfl, rfl, hid (fun i b h => by omega), rfl⟩
    case round =>
      obtain ⟨k, hk, rfl, rfl, hg, HA, rfl⟩ := hrel
      have hbd := rd_bd HA.out (by omega)
      obtain ⟨v, hv⟩ : ∃ v, rdN ((byteL s).take k) = v := ⟨_, rfl⟩
      have HVV := hid hv
      rw [hv] at hbd
      simp only [hv]
      clear hv
      obtain ⟨v1, v2, v3⟩ := hbd
      by_cases hlt : k < n
      · have hks : k < s.size := by omega
        have v4 := v3 (by omega)
        clear v3
        obtain ⟨b, hb⟩ : ∃ b : Int, ((s[k]'hks).toNat : Int) = b := ⟨_, rfl⟩
        have HBY : Hid ((byteL s)[k]? = some b) := hid (by rw [byte_at s k hks, hb])
        have bd := byte_bd HBY.out
        by_cases hd : 48 ≤ b ∧ b ≤ 57
        · have HC := hid (dg_step HA.out HBY.out hd)
          have HST := hid (rd_step HBY.out)
          obtain ⟨d1, d2⟩ := hd
          have tw : IntKind.u8.wrap (b - 48) = b - 48 := IntWalk.u8_in _ (by omega)
          go_wp2_with fail
          go_roundg (n - (k + 1))
          case measure => omega
          case rel => exact ⟨k + 1, by omega, by rw [HST.out, HVV.out], by go_num, rfl, HC, rfl⟩
        · have HV := hid (rd_no (s := s) (fun h => by have h1 := h.2.2.1; rw [HT.out.1] at h1; have h2 := h1 k b HBY.out; unfold digitP at h2; exact hd h2))
          by_cases hd1 : b < 48
          · clear hd
            go_wp2_with fail
            go_ret2
            exact ⟨ret_ib HV.out.1.symm HV.out.2.symm, Below.refl _ _⟩
          · have hd2 : 57 < b := by omega
            clear hd
            go_wp2_with fail
            go_ret2
            exact ⟨ret_ib HV.out.1.symm HV.out.2.symm, Below.refl _ _⟩
      · obtain rfl : k = n := by omega
        have HVE : Hid (rdV s = v) := hid (by rw [HT.out.2, ← HVV.out, List.take_of_length_le (by rw [byteL_length]; omega)])
        have hwf : (Lit.int .i64 (v)).wf = true := by simp [Lit.wf, IntKind.min, IntKind.max, IntKind.bits, IntKind.signed]; omega
        have HALL : Hid (∀ (i : Nat) b, (byteL s)[i]? = some b → digitP b) := hid (fun i b h => HA.out i b (by have := (List.getElem?_eq_some_iff.1 h).1; rw [byteL_length] at this; omega) h)
        by_cases he : decS (v) = s
        · have hbn : ((decS (v)).toList == s.toList) = true := beq_of_eq he
          have HV := hid (rd_yes (s := s) ⟨by rw [HT.out.1]; omega, by rw [HT.out.1]; omega, by rw [HT.out.1]; exact HALL.out, by rw [HVE.out]; exact he⟩)
          clear he v3
          go_wp2_with fail
          refine (implDecimal_any (v) _ hwf).mono ?_
          rintro e w1 ⟨rfl, hb1⟩
          have HB := hid hb1
          clear hb1
          go_wp2_with fail
          go_ret2
          exact ⟨ret_ib (by rw [HV.out.1, HVE.out]) HV.out.2.symm, HB.out⟩
        · have hbn : ((decS (v)).toList == s.toList) = false := beq_of_ne he
          have HV := hid (rd_no (s := s) (fun h => he (by have h2 := h.2.2.2; rw [HVE.out] at h2; exact h2)))
          clear he v3
          go_wp2_with fail
          refine (implDecimal_any (v) _ hwf).mono ?_
          rintro e w1 ⟨rfl, hb1⟩
          have HB := hid hb1
          clear hb1
          go_wp2_with fail
          go_ret2
          exact ⟨ret_ib HV.out.1.symm HV.out.2.symm, HB.out⟩
set_option maxRecDepth 100000 in
set_option maxHeartbeats 4000000 in
theorem l01Number_any (s : ByteArray) (w : World) (hs : s.size ≤ 1048576) : Calls Try.prog 57 #[.string s] w fun e w' => e = .returned (.tuple #[.int .i64 (rdR s), .bool (rdB s)]) ∧ Below w.heap.size w w' := by
  obtain ⟨n, hn⟩ : ∃ n, s.size = n := ⟨_, rfl⟩
  have HN := hid hn
  rcases Nat.eq_zero_or_pos n with h0 | hp
  · have he : s = ⟨#[]⟩ := by cases s with | mk d => (have : d.size = 0 := by have h := hn; rw [h0] at h; exact h); congr; exact Array.eq_empty_of_size_eq_zero this
    subst he
    have HV := hid (rd_no (s := ⟨#[]⟩) (fun h => by have h1 := h.1; simp [rdT, byteL] at h1; exact absurd h1 (by decide)))
    clear hn HN h0
    go_enter Try.func57, Try.ntmps57
    go_wp2_with fail
    go_ret2
    exact ⟨ret_ib HV.out.1.symm HV.out.2.symm, Below.refl _ _⟩
  have hns : 0 < s.size := by omega
  obtain ⟨c0, hc0⟩ : ∃ b : Int, ((s[0]'hns).toNat : Int) = b := ⟨_, rfl⟩
  have HC0 : Hid ((byteL s)[0]? = some c0) := hid (by rw [byte_at s 0 hns, hc0])
  have bd0 := byte_bd HC0.out
  have hne2 : ¬ s.toList = [] := by
    rw [ByteArray.toList_eq]
    exact fun h => by have h2 := congrArg List.length h; simp only [Array.length_toList, List.length_nil] at h2; have h4 : s.size = 0 := h2; omega
  have hne : s.toList.isEmpty = false := by simpa using hne2
  by_cases h45 : c0 = 45
  · have hb45 : (c0 == 45) = true := by simp [h45]
    have HT1 : Hid (rdT s = s.extract 1 s.size ∧ rdV s = -rdN (byteL (rdT s))) := hid (by unfold rdV; rw [if_pos (by rw [HC0.out, h45])]; unfold rdT; rw [if_pos (by rw [HC0.out, h45])]; exact ⟨rfl, rfl⟩)
    clear h45
    obtain ⟨t, ht⟩ : ∃ t, s.extract 1 n = t := ⟨_, rfl⟩
    obtain ⟨m, htz⟩ : ∃ m, t.size = m := ⟨_, rfl⟩
    have HMN : Hid (m + 1 = n) := hid (by rw [← htz, ← ht, ← hn, ext1_size]; omega)
    have HT : Hid (rdT s = t ∧ rdV s = -rdN (byteL t)) := hid (by have h2 : s.extract 1 s.size = t := (by rw [hn, ht]); have h := HT1.out; rw [h2] at h; refine ⟨h.1, ?_⟩; rw [h.2, h.1])
    have hmn := HMN.out
    have hmn1 : 1 ≤ n := hp
    have hlt2 : m < n := by omega
    clear hmn
    by_cases hm0 : m = 0
    · have HV := hid (rd_no (s := s) (fun h => by have h1 := h.1; rw [HT.out.1, htz] at h1; omega))
      subst hm0
      go_enter Try.func57, Try.ntmps57
      go_wp2_with fail
      go_ret2
      exact ⟨ret_ib HV.out.1.symm HV.out.2.symm, Below.refl _ _⟩
    by_cases h18 : 18 < m
    · have HV := hid (rd_no (s := s) (fun h => by have h1 := h.2.1; rw [HT.out.1, htz] at h1; omega))
      have hgr : (18 : Int) < m := by omega
      have hlr : ¬ ((m : Int) < 1) := by omega
      go_enter Try.func57, Try.ntmps57
      go_wp2_with fail
      go_ret2
      exact ⟨ret_ib HV.out.1.symm HV.out.2.symm, Below.refl _ _⟩
    have hlr : ¬ ((m : Int) < 1) := by omega
    have hgr : ¬ ((18 : Int) < m) := by omega
    go_enter Try.func57, Try.ntmps57
    go_wp2_with fail
    go_loopg [5, 6] m (fun g v i wr => ∃ k : Nat, k ≤ m ∧ v = .int .i64 (rdN ((byteL t).take k)) ∧ i = .int .i64 k ∧ g = m - k ∧ Hid (∀ (i : Nat) b, i < k → (byteL t)[i]? = some b → digitP b) ∧ w = wr)
    case atStart => exact ⟨0, Nat.zero_le _, rfl, rfl, rfl, hid (fun i b h => by omega), rfl⟩
    case round =>
      obtain ⟨k, hk, rfl, rfl, hg, HA, rfl⟩ := hrel
      have hbd := rd_bd HA.out (by omega)
      obtain ⟨v, hv⟩ : ∃ v, rdN ((byteL t).take k) = v := ⟨_, rfl⟩
      have HVV := hid hv
      rw [hv] at hbd
      simp only [hv]
      clear hv
      obtain ⟨v1, v2, v3⟩ := hbd
      by_cases hlt : k < m
      · have hks : k < t.size := by omega
        have v4 := v3 (by omega)
        clear v3
        obtain ⟨b, hb⟩ : ∃ b : Int, ((t[k]'hks).toNat : Int) = b := ⟨_, rfl⟩
        have HBY : Hid ((byteL t)[k]? = some b) := hid (by rw [byte_at t k hks, hb])
        have bd := byte_bd HBY.out
        by_cases hd : 48 ≤ b ∧ b ≤ 57
        · have HC := hid (dg_step HA.out HBY.out hd)
          have HST := hid (rd_step HBY.out)
          have HDG : Hid (digitB b = true) := hid (by simp [digitB]; omega)
          obtain ⟨d1, d2⟩ := hd
          have tw : IntKind.u8.wrap (b - 48) = b - 48 := IntWalk.u8_in _ (by omega)
          go_wp2_with fail
          refine (calls_bool (l01Digit_any b _) HDG.out).mono ?_
          rintro e w' ⟨rfl, rfl⟩
          go_wp2_with fail
          go_roundg (m - (k + 1))
          case measure => omega
          case rel => exact ⟨k + 1, by omega, by rw [HST.out, HVV.out], by go_num, rfl, HC, rfl⟩
        · have HV := hid (rd_no (s := s) (fun h => by have h1 := h.2.2.1; rw [HT.out.1] at h1; have h2 := h1 k b HBY.out; unfold digitP at h2; exact hd h2))
          have HDG : Hid (digitB b = false) := hid (by simp [digitB]; omega)
          clear hd
          go_wp2_with fail
          refine (calls_bool (l01Digit_any b _) HDG.out).mono ?_
          rintro e w' ⟨rfl, rfl⟩
          go_wp2_with fail
          go_ret2
          exact ⟨ret_ib HV.out.1.symm HV.out.2.symm, Below.refl _ _⟩
      · obtain rfl : k = m := by omega
        have HVE : Hid (rdV s = -v) := hid (by rw [HT.out.2, ← HVV.out, List.take_of_length_le (by rw [byteL_length]; omega)])
        have hwf : (Lit.int .i64 (-v)).wf = true := by simp [Lit.wf, IntKind.min, IntKind.max, IntKind.bits, IntKind.signed]; omega
        have HALL : Hid (∀ (i : Nat) b, (byteL t)[i]? = some b → digitP b) := hid (fun i b h => HA.out i b (by have := (List.getElem?_eq_some_iff.1 h).1; rw [byteL_length] at this; omega) h)
        by_cases he : decS (-v) = s
        · have hbn : ((decS (-v)).toList == s.toList) = true := beq_of_eq he
          have HV := hid (rd_yes (s := s) ⟨by rw [HT.out.1]; omega, by rw [HT.out.1]; omega, by rw [HT.out.1]; exact HALL.out, by rw [HVE.out]; exact he⟩)
          clear he v3
          go_wp2_with fail
          refine (l01Dec_any (-v) _ hwf).mono ?_
          rintro e w1 ⟨rfl, hb1⟩
          have HB := hid hb1
          clear hb1
          go_wp2_with fail
          go_ret2
          exact ⟨ret_ib (by rw [HV.out.1, HVE.out]) HV.out.2.symm, HB.out⟩
        · have hbn : ((decS (-v)).toList == s.toList) = false := beq_of_ne he
          have HV := hid (rd_no (s := s) (fun h => he (by have h2 := h.2.2.2; rw [HVE.out] at h2; exact h2)))
          clear he v3
          go_wp2_with fail
          refine (l01Dec_any (-v) _ hwf).mono ?_
          rintro e w1 ⟨rfl, hb1⟩
          have HB := hid hb1
          clear hb1
          go_wp2_with fail
          go_ret2
          exact ⟨ret_ib HV.out.1.symm HV.out.2.symm, HB.out⟩
  · have hb45 : (c0 == 45) = false := by simp [h45]
    have HT1 : Hid (rdT s = s ∧ rdV s = rdN (byteL (rdT s))) := hid (by unfold rdV; rw [if_neg (by rw [HC0.out]; intro h; injection h with h; exact h45 h)]; unfold rdT; rw [if_neg (by rw [HC0.out]; intro h; injection h with h; exact h45 h)]; exact ⟨rfl, rfl⟩)
    clear h45
    have HT : Hid (rdT s = s ∧ rdV s = rdN (byteL s)) := hid (by have h := HT1.out; refine ⟨h.1, ?_⟩; rw [h.2, h.1])
    by_cases h18 : 18 < n
    · have HV := hid (rd_no (s := s) (fun h => by have h1 := h.2.1; rw [HT.out.1, hn] at h1; omega))
      have hgr : (18 : Int) < n := by omega
      have hlr : ¬ ((n : Int) < 1) := by omega
      go_enter Try.func57, Try.ntmps57
      go_wp2_with fail
      go_ret2
      exact ⟨ret_ib HV.out.1.symm HV.out.2.symm, Below.refl _ _⟩
    have hlr : ¬ ((n : Int) < 1) := by omega
    have hgr : ¬ ((18 : Int) < n) := by omega
    go_enter Try.func57, Try.ntmps57
    go_wp2_with fail
    go_loopg [5, 6] n (fun g v i wr => ∃ k : Nat, k ≤ n ∧ v = .int .i64 (rdN ((byteL s).take k)) ∧ i = .int .i64 k ∧ g = n - k ∧ Hid (∀ (i : Nat) b, i < k → (byteL s)[i]? = some b → digitP b) ∧ w = wr)
    case atStart => exact ⟨0, Nat.zero_le _, rfl, rfl, rfl, hid (fun i b h => by omega), rfl⟩
    case round =>
      obtain ⟨k, hk, rfl, rfl, hg, HA, rfl⟩ := hrel
      have hbd := rd_bd HA.out (by omega)
      obtain ⟨v, hv⟩ : ∃ v, rdN ((byteL s).take k) = v := ⟨_, rfl⟩
      have HVV := hid hv
      rw [hv] at hbd
      simp only [hv]
      clear hv
      obtain ⟨v1, v2, v3⟩ := hbd
      by_cases hlt : k < n
      · have hks : k < s.size := by omega
        have v4 := v3 (by omega)
        clear v3
        obtain ⟨b, hb⟩ : ∃ b : Int, ((s[k]'hks).toNat : Int) = b := ⟨_, rfl⟩
        have HBY : Hid ((byteL s)[k]? = some b) := hid (by rw [byte_at s k hks, hb])
        have bd := byte_bd HBY.out
        by_cases hd : 48 ≤ b ∧ b ≤ 57
        · have HC := hid (dg_step HA.out HBY.out hd)
          have HST := hid (rd_step HBY.out)
          have HDG : Hid (digitB b = true) := hid (by simp [digitB]; omega)
          obtain ⟨d1, d2⟩ := hd
          have tw : IntKind.u8.wrap (b - 48) = b - 48 := IntWalk.u8_in _ (by omega)
          go_wp2_with fail
          refine (calls_bool (l01Digit_any b _) HDG.out).mono ?_
          rintro e w' ⟨rfl, rfl⟩
          go_wp2_with fail
          go_roundg (n - (k + 1))
          case measure => omega
          case rel => exact ⟨k + 1, by omega, by rw [HST.out, HVV.out], by go_num, rfl, HC, rfl⟩
        · have HV := hid (rd_no (s := s) (fun h => by have h1 := h.2.2.1; rw [HT.out.1] at h1; have h2 := h1 k b HBY.out; unfold digitP at h2; exact hd h2))
          have HDG : Hid (digitB b = false) := hid (by simp [digitB]; omega)
          clear hd
          go_wp2_with fail
          refine (calls_bool (l01Digit_any b _) HDG.out).mono ?_
          rintro e w' ⟨rfl, rfl⟩
          go_wp2_with fail
          go_ret2
          exact ⟨ret_ib HV.out.1.symm HV.out.2.symm, Below.refl _ _⟩
      · obtain rfl : k = n := by omega
        have HVE : Hid (rdV s = v) := hid (by rw [HT.out.2, ← HVV.out, List.take_of_length_le (by rw [byteL_length]; omega)])
        have hwf : (Lit.int .i64 (v)).wf = true := by simp [Lit.wf, IntKind.min, IntKind.max, IntKind.bits, IntKind.signed]; omega
        have HALL : Hid (∀ (i : Nat) b, (byteL s)[i]? = some b → digitP b) := hid (fun i b h => HA.out i b (by have := (List.getElem?_eq_some_iff.1 h).1; rw [byteL_length] at this; omega) h)
        by_cases he : decS (v) = s
        · have hbn : ((decS (v)).toList == s.toList) = true := beq_of_eq he
          have HV := hid (rd_yes (s := s) ⟨by rw [HT.out.1]; omega, by rw [HT.out.1]; omega, by rw [HT.out.1]; exact HALL.out, by rw [HVE.out]; exact he⟩)
          clear he v3
          go_wp2_with fail
          refine (l01Dec_any (v) _ hwf).mono ?_
          rintro e w1 ⟨rfl, hb1⟩
          have HB := hid hb1
          clear hb1
          go_wp2_with fail
          go_ret2
          exact ⟨ret_ib (by rw [HV.out.1, HVE.out]) HV.out.2.symm, HB.out⟩
        · have hbn : ((decS (v)).toList == s.toList) = false := beq_of_ne he
          have HV := hid (rd_no (s := s) (fun h => he (by have h2 := h.2.2.2; rw [HVE.out] at h2; exact h2)))
          clear he v3
          go_wp2_with fail
          refine (l01Dec_any (v) _ hwf).mono ?_
          rintro e w1 ⟨rfl, hb1⟩
          have HB := hid hb1
          clear hb1
          go_wp2_with fail
          go_ret2
          exact ⟨ret_ib HV.out.1.symm HV.out.2.symm, HB.out⟩
end Go.Proofs.Ytgcgaoblbhojnaa

/- IsName. -/
import Derived.Test.YthcoimlbjhdjcaaVp
import Derived.Laws.Strings
import Derived.Laws.BytesArg
namespace Go.Proofs.Ythcoimlbjhdjcaa
set_option linter.unusedSimpArgs false
set_option linter.unusedVariables false
open Go.ChangeShapes Go.WideShapes Go.ChangeAt Go.RowKit
/-- A string's bytes, as numbers. -/
def byteL (s : ByteArray) : List Int := s.data.toList.map fun b => (b.toNat : Int)
theorem byteL_length (s : ByteArray) : (byteL s).length = s.size := by unfold byteL; rw [List.length_map, Array.length_toList]; rfl
theorem byte_at (s : ByteArray) (k : Nat) (h : k < s.size) : (byteL s)[k]? = some ((s[k]'h).toNat : Int) := by
  have h' : k < s.data.size := h
  simp only [byteL, List.getElem?_map, Array.getElem?_toList, Array.getElem?_eq_getElem h', Option.map_some]
  rfl
theorem byte_bd {s : ByteArray} {k : Nat} {b : Int} (h : (byteL s)[k]? = some b) : 0 ≤ b ∧ b ≤ 255 := by
  simp only [byteL, List.getElem?_map, Option.map_eq_some_iff] at h
  obtain ⟨c, _, rfl⟩ := h
  have := c.toNat_lt
  omega
def smallP (b : Int) : Prop := 97 ≤ b ∧ b ≤ 122
def digitP (b : Int) : Prop := 48 ≤ b ∧ b ≤ 57
def nameAt (i : Nat) (b : Int) : Prop := smallP b ∨ (i ≠ 0 ∧ (b = 45 ∨ digitP b))
def NameP (s : ByteArray) : Prop := 1 ≤ s.size ∧ s.size ≤ 12 ∧ ∀ (i : Nat) b, (byteL s)[i]? = some b → nameAt i b
open Classical in
/-- What IsName answers. -/
noncomputable def nmB (s : ByteArray) : Bool := decide (NameP s)
open Classical in
theorem nm_true {s : ByteArray} (h : NameP s) : nmB s = true := by unfold nmB; exact decide_eq_true h
open Classical in
theorem nm_false {s : ByteArray} (h : ¬ NameP s) : nmB s = false := by unfold nmB; exact decide_eq_false h
def smallB (b : Int) : Bool := decide (97 ≤ b) && decide (b ≤ 122)
def digitB (b : Int) : Bool := decide (48 ≤ b) && decide (b ≤ 57)

theorem l01Small_any (b : Int) (w : World) : Calls Try.prog 59 #[.int .u8 b] w fun e w' => e = .returned (.bool (smallB b)) ∧ w = w' := by
  by_cases h1 : 97 ≤ b <;> by_cases h2 : b ≤ 122
  all_goals
    go_enter Try.func59, Try.ntmps59
    go_wp2
    go_ret
    exact ⟨ret_bool (by simp [smallB, h1, h2]), rfl⟩
theorem l01Digit_any (b : Int) (w : World) : Calls Try.prog 60 #[.int .u8 b] w fun e w' => e = .returned (.bool (digitB b)) ∧ w = w' := by
  by_cases h1 : 48 ≤ b <;> by_cases h2 : b ≤ 57
  all_goals
    go_enter Try.func60, Try.ntmps60
    go_wp2
    go_ret
    exact ⟨ret_bool (by simp [digitB, h1, h2]), rfl⟩
theorem name_step {s : ByteArray} {k : Nat} {b : Int} (hA : ∀ (i : Nat) b, i < k → (byteL s)[i]? = some b → nameAt i b) (hb : (byteL s)[k]? = some b) : nameAt k b → ∀ (i : Nat) c, i < k + 1 → (byteL s)[i]? = some c → nameAt i c := by
  intro hn i c hi hc
  rcases Nat.lt_or_ge i k with h | h
  · exact hA i c h hc
  · obtain rfl : i = k := by omega
    rw [hb] at hc
    injection hc with hc
    subst hc
    exact hn
set_option maxRecDepth 100000 in
set_option maxHeartbeats 4000000 in
theorem implIsName_any (s : ByteArray) (w : World) (hs : s.size ≤ 9223372036854775807) : Calls Try.prog 20 #[.string s] w fun e w' => e = .returned (.bool (nmB s)) ∧ w = w' := by
  obtain ⟨n, hn⟩ : ∃ n, s.size = n := ⟨_, rfl⟩
  have HN := hid hn
  rcases Nat.eq_zero_or_pos n with h0 | hp
  · have HV := hid (nm_false (s := s) (fun h => by have := h.1; omega))
    subst h0
    go_enter Try.func20, Try.ntmps20
    go_wp2_with fail
    go_ret
    exact ⟨ret_bool HV.out.symm, rfl⟩
  · by_cases h12 : n ≤ 12
    · have hlr : ¬ ((n : Int) < 1) := by omega
      go_enter Try.func20, Try.ntmps20
      go_wp2_with fail
      go_loopg [15] n (fun g i wr => ∃ k : Nat, k ≤ n ∧ i = .int .i64 k ∧ g = n - k ∧ Hid (∀ (i : Nat) b, i < k → (byteL s)[i]? = some b → nameAt i b) ∧ w = wr)
      case atStart => exact ⟨0, Nat.zero_le _, rfl, rfl, hid (fun i b h => by omega), rfl⟩
      case round =>
        obtain ⟨k, hk, rfl, hg, HA, rfl⟩ := hrel
        by_cases hlt : k < n
        · have hks : k < s.size := by omega
          obtain ⟨b, hb⟩ : ∃ b : Int, ((s[k]'hks).toNat : Int) = b := ⟨_, rfl⟩
          have HBY : Hid ((byteL s)[k]? = some b) := hid (by rw [byte_at s k hks, hb])
          have bd := byte_bd HBY.out
          have HC : Hid (nameAt k b → ∀ (i : Nat) c, i < k + 1 → (byteL s)[i]? = some c → nameAt i c) := hid (name_step HA.out HBY.out)
          have HF : Hid (¬ nameAt k b → nmB s = false) := hid (fun hn => nm_false fun h => hn (h.2.2 k b HBY.out))
          have hcase : (97 ≤ b ∧ b ≤ 122) ∨ (122 < b ∧ k = 0) ∨ (122 < b ∧ k ≠ 0) ∨ (b < 97 ∧ k = 0) ∨ (b = 45 ∧ k ≠ 0) ∨ (b < 48 ∧ b ≠ 45 ∧ k ≠ 0) ∨ (48 ≤ b ∧ b ≤ 57 ∧ k ≠ 0) ∨ (57 < b ∧ b < 97 ∧ k ≠ 0) := by omega
          rcases hcase with hcase | hcase
          · have c45 : (b != 45) = true := by simp; omega
            have e2 : 97 ≤ b := by omega
            have e3 : b ≤ 122 := by omega
            have e4 : ¬ (b < 48) := by omega
            have e5 : 57 < b := by omega
            have HCA := hid hcase
            clear hcase
            go_wp2_with fail
            go_roundg (n - (k + 1))
            case measure => omega
            case rel => exact ⟨k + 1, by omega, by go_num, rfl, hid (HC.out (by have := HCA.out; unfold nameAt smallP digitP; omega)), rfl⟩
          rcases hcase with hcase | hcase
          · have ck : ((k : Int) == 0) = true := by simp; omega
            have e2 : 97 ≤ b := by omega
            have e3 : ¬ (b ≤ 122) := by omega
            have e4 : ¬ (b < 48) := by omega
            have e5 : 57 < b := by omega
            have HCA := hid hcase
            clear hcase
            go_wp2_with fail
            go_ret
            exact ⟨ret_bool (HF.out (by have := HCA.out; unfold nameAt smallP digitP; omega)).symm, rfl⟩
          rcases hcase with hcase | hcase
          · have c45 : (b != 45) = true := by simp; omega
            have ck : ((k : Int) == 0) = false := by simp; omega
            have e3 : 97 ≤ b := by omega
            have e4 : ¬ (b ≤ 122) := by omega
            have e5 : ¬ (b < 48) := by omega
            have e6 : 57 < b := by omega
            have HCA := hid hcase
            clear hcase
            go_wp2_with fail
            go_ret
            exact ⟨ret_bool (HF.out (by have := HCA.out; unfold nameAt smallP digitP; omega)).symm, rfl⟩
          rcases hcase with hcase | hcase
          · have ck : ((k : Int) == 0) = true := by simp; omega
            have e2 : ¬ (97 ≤ b) := by omega
            have HCA := hid hcase
            clear hcase
            go_wp2_with fail
            go_ret
            exact ⟨ret_bool (HF.out (by have := HCA.out; unfold nameAt smallP digitP; omega)).symm, rfl⟩
          rcases hcase with hcase | hcase
          · have c45 : (b != 45) = false := by simp; omega
            have ck : ((k : Int) == 0) = false := by simp; omega
            have e3 : ¬ (97 ≤ b) := by omega
            have e4 : b ≤ 122 := by omega
            have e5 : b < 48 := by omega
            have e6 : ¬ (57 < b) := by omega
            have HCA := hid hcase
            clear hcase
            go_wp2_with fail
            go_roundg (n - (k + 1))
            case measure => omega
            case rel => exact ⟨k + 1, by omega, by go_num, rfl, hid (HC.out (by have := HCA.out; unfold nameAt smallP digitP; omega)), rfl⟩
          rcases hcase with hcase | hcase
          · have c45 : (b != 45) = true := by simp; omega
            have ck : ((k : Int) == 0) = false := by simp; omega
            have e3 : ¬ (97 ≤ b) := by omega
            have e4 : b ≤ 122 := by omega
            have e5 : b < 48 := by omega
            have e6 : ¬ (57 < b) := by omega
            have HCA := hid hcase
            clear hcase
            go_wp2_with fail
            go_ret
            exact ⟨ret_bool (HF.out (by have := HCA.out; unfold nameAt smallP digitP; omega)).symm, rfl⟩
          rcases hcase with hcase | hcase
          · have c45 : (b != 45) = true := by simp; omega
            have ck : ((k : Int) == 0) = false := by simp; omega
            have e3 : ¬ (97 ≤ b) := by omega
            have e4 : b ≤ 122 := by omega
            have e5 : ¬ (b < 48) := by omega
            have e6 : ¬ (57 < b) := by omega
            have HCA := hid hcase
            clear hcase
            go_wp2_with fail
            go_roundg (n - (k + 1))
            case measure => omega
            case rel => exact ⟨k + 1, by omega, by go_num, rfl, hid (HC.out (by have := HCA.out; unfold nameAt smallP digitP; omega)), rfl⟩
          have c45 : (b != 45) = true := by simp; omega
          have ck : ((k : Int) == 0) = false := by simp; omega
          have e3 : ¬ (97 ≤ b) := by omega
          have e4 : b ≤ 122 := by omega
          have e5 : ¬ (b < 48) := by omega
          have e6 : 57 < b := by omega
          have HCA := hid hcase
          clear hcase
          go_wp2_with fail
          go_ret
          exact ⟨ret_bool (HF.out (by have := HCA.out; unfold nameAt smallP digitP; omega)).symm, rfl⟩
        · obtain rfl : k = n := by omega
          have HV := hid (nm_true (s := s) ⟨by omega, by omega, fun i b h => HA.out i b (by have := (List.getElem?_eq_some_iff.1 h).1; rw [byteL_length] at this; omega) h⟩)
          go_wp2_with fail
          go_ret
          exact ⟨ret_bool HV.out.symm, rfl⟩
    · have HV := hid (nm_false (s := s) (fun h => by have := h.2.1; omega))
      have hgr : (12 : Int) < n := by omega
      have hlr : ¬ ((n : Int) < 1) := by omega
      go_enter Try.func20, Try.ntmps20
      go_wp2_with fail
      go_ret
      exact ⟨ret_bool HV.out.symm, rfl⟩
set_option maxRecDepth 100000 in
set_option maxHeartbeats 4000000 in
theorem specIsName_any (s : ByteArray) (w : World) (hs : s.size ≤ 9223372036854775807) : Calls Try.prog 19 #[.string s] w fun e w' => e = .returned (.bool (nmB s)) ∧ w = w' := by
  obtain ⟨n, hn⟩ : ∃ n, s.size = n := ⟨_, rfl⟩
  have HN := hid hn
  rcases Nat.eq_zero_or_pos n with h0 | hp
  · have HV := hid (nm_false (s := s) (fun h => by have := h.1; omega))
    have he : s = ⟨#[]⟩ := by cases s with | mk d => (have : d.size = 0 := by have h := hn; rw [h0] at h; exact h); congr; exact Array.eq_empty_of_size_eq_zero this
    subst he
    clear hn
    go_enter Try.func19, Try.ntmps19
    go_wp2_with fail
    go_ret
    exact ⟨ret_bool HV.out.symm, rfl⟩
  · by_cases h12 : n ≤ 12
    · have hlr : ¬ ((n : Int) < 1) := by omega
      have hne2 : ¬ s.toList = [] := by
        rw [ByteArray.toList_eq]
        exact fun h => by have h2 := congrArg List.length h; simp only [Array.length_toList, List.length_nil] at h2; have h4 : s.size = 0 := h2; omega
      have hne : s.toList.isEmpty = false := by simpa using hne2
      obtain ⟨b0, hb0⟩ : ∃ b : Int, ((s[0]'(by omega)).toNat : Int) = b := ⟨_, rfl⟩
      have HB0 : Hid ((byteL s)[0]? = some b0) := hid (by rw [byte_at s 0 (by omega), hb0])
      have bd0 := byte_bd HB0.out
      cases hsm : smallB b0
      · have HV := hid (nm_false (s := s) (fun h => by have h1 := h.2.2 0 b0 HB0.out; simp only [nameAt, smallP, ne_eq, not_true_eq_false, false_and, or_false] at h1; simp [smallB] at hsm; omega))
        have HS := hid hsm
        clear hsm
        go_enter Try.func19, Try.ntmps19
        go_wp2_with fail
        refine (calls_bool (l01Small_any b0 _) HS.out).mono ?_
        rintro e w' ⟨rfl, rfl⟩
        go_wp2_with fail
        go_ret
        exact ⟨ret_bool HV.out.symm, rfl⟩
      · have HS := hid hsm
        clear hsm
        go_enter Try.func19, Try.ntmps19
        go_wp2_with fail
        refine (calls_bool (l01Small_any b0 _) HS.out).mono ?_
        rintro e w' ⟨rfl, rfl⟩
        go_wp2_with fail
        go_loopg [3] n (fun g i wr => ∃ k : Nat, k ≤ n ∧ i = .int .i64 k ∧ g = n - k ∧ Hid (∀ (i : Nat) b, i < k → (byteL s)[i]? = some b → nameAt i b) ∧ w = wr)
        case atStart => exact ⟨0, Nat.zero_le _, rfl, rfl, hid (fun i b h => by omega), rfl⟩
        case round =>
          obtain ⟨k, hk, rfl, hg, HA, rfl⟩ := hrel
          by_cases hlt : k < n
          · have hks : k < s.size := by omega
            obtain ⟨b, hb⟩ : ∃ b : Int, ((s[k]'hks).toNat : Int) = b := ⟨_, rfl⟩
            have HBY : Hid ((byteL s)[k]? = some b) := hid (by rw [byte_at s k hks, hb])
            have bd := byte_bd HBY.out
            have HC : Hid (nameAt k b → ∀ (i : Nat) c, i < k + 1 → (byteL s)[i]? = some c → nameAt i c) := hid (name_step HA.out HBY.out)
            have HF : Hid (¬ nameAt k b → nmB s = false) := hid (fun hn => nm_false fun h => hn (h.2.2 k b HBY.out))
            have hz0 : k = 0 → (97 ≤ b ∧ b ≤ 122) := fun h => by subst h; have h1 := HBY.out; rw [HB0.out] at h1; injection h1 with h1; subst h1; have h2 := HS.out; simp [smallB] at h2; exact h2
            have hcase : (97 ≤ b ∧ b ≤ 122) ∨ (48 ≤ b ∧ b ≤ 57 ∧ k ≠ 0) ∨ (b = 45 ∧ k ≠ 0) ∨ ((b < 48 ∨ 57 < b) ∧ (b < 97 ∨ 122 < b) ∧ b ≠ 45) := by omega
            clear hz0
            rcases hcase with hcase | hcase
            · have HSM : Hid (smallB b = true) := hid (by simp [smallB]; omega)
              have c45 : (b != 45) = true := by simp; omega
              have HCA := hid hcase
              clear hcase
              go_wp2_with fail
              refine (calls_bool (l01Small_any b _) HSM.out).mono ?_
              rintro e w' ⟨rfl, rfl⟩
              go_wp2_with fail
              go_roundg (n - (k + 1))
              case measure => omega
              case rel => exact ⟨k + 1, by omega, by go_num, rfl, hid (HC.out (by have := HCA.out; unfold nameAt smallP digitP; omega)), rfl⟩
            rcases hcase with hcase | hcase
            · have HSM : Hid (smallB b = false) := hid (by simp [smallB]; omega)
              have HDG : Hid (digitB b = true) := hid (by simp [digitB]; omega)
              have c45 : (b != 45) = true := by simp; omega
              have ck : ((k : Int) == 0) = false := by simp; omega
              have HCA := hid hcase
              clear hcase
              go_wp2_with fail
              refine (calls_bool (l01Small_any b _) HSM.out).mono ?_
              rintro e w' ⟨rfl, rfl⟩
              go_wp2_with fail
              refine (calls_bool (l01Digit_any b _) HDG.out).mono ?_
              rintro e w' ⟨rfl, rfl⟩
              go_wp2_with fail
              go_roundg (n - (k + 1))
              case measure => omega
              case rel => exact ⟨k + 1, by omega, by go_num, rfl, hid (HC.out (by have := HCA.out; unfold nameAt smallP digitP; omega)), rfl⟩
            rcases hcase with hcase | hcase
            · have HSM : Hid (smallB b = false) := hid (by simp [smallB]; omega)
              have HDG : Hid (digitB b = false) := hid (by simp [digitB]; omega)
              have c45 : (b != 45) = false := by simp; omega
              have ck : ((k : Int) == 0) = false := by simp; omega
              have HCA := hid hcase
              clear hcase
              go_wp2_with fail
              refine (calls_bool (l01Small_any b _) HSM.out).mono ?_
              rintro e w' ⟨rfl, rfl⟩
              go_wp2_with fail
              refine (calls_bool (l01Digit_any b _) HDG.out).mono ?_
              rintro e w' ⟨rfl, rfl⟩
              go_wp2_with fail
              go_roundg (n - (k + 1))
              case measure => omega
              case rel => exact ⟨k + 1, by omega, by go_num, rfl, hid (HC.out (by have := HCA.out; unfold nameAt smallP digitP; omega)), rfl⟩
            have HSM : Hid (smallB b = false) := hid (by simp [smallB]; omega)
            have HDG : Hid (digitB b = false) := hid (by simp [digitB]; omega)
            have c45 : (b != 45) = true := by simp; omega
            have HCA := hid hcase
            clear hcase
            go_wp2_with fail
            refine (calls_bool (l01Small_any b _) HSM.out).mono ?_
            rintro e w' ⟨rfl, rfl⟩
            go_wp2_with fail
            refine (calls_bool (l01Digit_any b _) HDG.out).mono ?_
            rintro e w' ⟨rfl, rfl⟩
            go_wp2_with fail
            go_ret
            exact ⟨ret_bool (HF.out (by have := HCA.out; unfold nameAt smallP digitP; omega)).symm, rfl⟩
          · obtain rfl : k = n := by omega
            have HV := hid (nm_true (s := s) ⟨by omega, by omega, fun i b h => HA.out i b (by have := (List.getElem?_eq_some_iff.1 h).1; rw [byteL_length] at this; omega) h⟩)
            go_wp2_with fail
            go_ret
            exact ⟨ret_bool HV.out.symm, rfl⟩
    · have HV := hid (nm_false (s := s) (fun h => by have := h.2.1; omega))
      have hgr : (12 : Int) < n := by omega
      have hlr : ¬ ((n : Int) < 1) := by omega
      have hne2 : ¬ s.toList = [] := by
        rw [ByteArray.toList_eq]
        exact fun h => by have h2 := congrArg List.length h; simp only [Array.length_toList, List.length_nil] at h2; have h4 : s.size = 0 := h2; omega
      have hne : s.toList.isEmpty = false := by simpa using hne2
      go_enter Try.func19, Try.ntmps19
      go_wp2_with fail
      go_ret
      exact ⟨ret_bool HV.out.symm, rfl⟩
end Go.Proofs.Ythcoimlbjhdjcaa

/- IsName. -/
import Derived.Test.YtgcgaoblbhojnaaVp
import Derived.Laws.Strings
import Derived.Laws.BytesArg
namespace Go.Proofs.Ytgcgaoblbhojnaa
set_option linter.unusedSimpArgs false
set_option linter.unusedVariables false
open Go.ChangeShapes Go.WideShapes Go.ChangeAt Go.RowKit
/-- A string's bytes, as numbers. -/
def byteL (s : ByteArray) : List Int := s.data.toList.map fun b => (b.toNat : Int)
theorem byteL_length (s : ByteArray) : (byteL s).length = s.size := by unfold byteL; rw [List.length_map, Array.length_toList]; rfl
theorem byte_at (s : ByteArray) (k : Nat) (h : k < s.size) : (byteL s)[k]? = some ((s[k]'h).toNat : Int) := by
  have h' : k < s.data.size := h
  simp only [byteL, List.getElem?_map, Array.getElem?_toList, Array.getElem?_eq_getElem h', Option.map_some]
  rfl
theorem byte_bd {s : ByteArray} {k : Nat} {b : Int} (h : (byteL s)[k]? = some b) : 0 ≤ b ∧ b ≤ 255 := by
  simp only [byteL, List.getElem?_map, Option.map_eq_some_iff] at h
  obtain ⟨c, _, rfl⟩ := h
  have := c.toNat_lt
  omega
def smallP (b : Int) : Prop := 97 ≤ b ∧ b ≤ 122
def digitP (b : Int) : Prop := 48 ≤ b ∧ b ≤ 57
def nameAt (i : Nat) (b : Int) : Prop := smallP b ∨ (i ≠ 0 ∧ (b = 45 ∨ digitP b))
def NameP (s : ByteArray) : Prop := 1 ≤ s.size ∧ s.size ≤ 12 ∧ ∀ (i : Nat) b, (byteL s)[i]? = some b → nameAt i b
open Classical in
/-- What IsName answers. -/
noncomputable def nmB (s : ByteArray) : Bool := decide (NameP s)
open Classical in
theorem nm_true {s : ByteArray} (h : NameP s) : nmB s = true := by unfold nmB; exact decide_eq_true h
open Classical in
theorem nm_false {s : ByteArray} (h : ¬ NameP s) : nmB s = false := by unfold nmB; exact decide_eq_false h
def smallB (b : Int) : Bool := decide (97 ≤ b) && decide (b ≤ 122)
def digitB (b : Int) : Bool := decide (48 ≤ b) && decide (b ≤ 57)

theorem l01Digit_any (b : Int) (w : World) : Calls Try.prog 99 #[.int .u8 b] w fun e w' => e = .returned (.bool (digitB b)) ∧ w = w' := by
  by_cases h1 : 48 ≤ b <;> by_cases h2 : b ≤ 57
  all_goals
    go_enter Try.func99, Try.ntmps99
    go_wp2
    go_ret
    exact ⟨ret_bool (by simp [digitB, h1, h2]), rfl⟩
theorem name_step {s : ByteArray} {k : Nat} {b : Int} (hA : ∀ (i : Nat) b, i < k → (byteL s)[i]? = some b → nameAt i b) (hb : (byteL s)[k]? = some b) : nameAt k b → ∀ (i : Nat) c, i < k + 1 → (byteL s)[i]? = some c → nameAt i c := by
  intro hn i c hi hc
  rcases Nat.lt_or_ge i k with h | h
  · exact hA i c h hc
  · obtain rfl : i = k := by omega
    rw [hb] at hc
    injection hc with hc
    subst hc
    exact hn
end Go.Proofs.Ytgcgaoblbhojnaa

/- NumberOf, BreakAt. -/
import Derived.Test.YtgcgaoblbhojnaaNu
import Derived.Test.YtgcgaoblbhojnaaCs
namespace Go.Proofs.Ytgcgaoblbhojnaa
set_option linter.unusedSimpArgs false
set_option linter.unusedVariables false
open Go.ChangeShapes Go.WideShapes Go.ChangeAt Go.RowKit
/-- What NumberOf and BreakAt answer. -/
def nuR (W H : Int) (zs : List Int) (x y : Int) : Int := if codeP W H zs x y == 0 then numF W x y else 0
def brkA (W : Int) (zs : List Int) (x y : Int) : Int := zs[(numF W x y).toNat]?.getD 0
def brR (W H : Int) (zs : List Int) (x y : Int) : Int := if codeP W H zs x y == 0 then brkA W zs x y else 0
theorem valid_len {W H : Int} {zs : List Int} (h : validB W H zs = true) : (zs.length : Int) = inner W H := by
  simp only [validB, Bool.and_eq_true, decide_eq_true_eq] at h
  exact h.1.2
theorem codeP_parts {W H : Int} {zs : List Int} {x y : Int} (h : (codeP W H zs x y == 0) = true) : side W = true ∧ side H = true ∧ (zs.length : Int) = inner W H ∧ 1 ≤ x ∧ x ≤ 2 * W - 1 ∧ 1 ≤ y ∧ y ≤ 2 * H - 1 ∧ (x + y) % 2 = 1 := by
  unfold codeP at h
  cases hv : validB W H zs
  · simp [hv] at h
  cases hh : hasP W H x y
  · simp [hv, hh] at h
  cases he : edgeP W H x y
  · exact ⟨(valid_sides hv).1, (valid_sides hv).2, valid_len hv, inner_of hh he⟩
  · simp [hv, hh, he] at h
theorem Ints.at {w : World} {B b off : Nat} {zs : List Int} (h : Ints w B (some ⟨b, off, none⟩) zs) {j : Nat} {z : Int} (hj : zs[j]? = some z) : b < B ∧ w.cell? ⟨b, off + j, none⟩ = some (.int .i64 z) := by
  obtain ⟨b', off', e, hb, hc⟩ := h j z hj
  cases e
  exact ⟨hb, hc⟩
theorem Ints.isSome {w : World} {B : Nat} {A : Option Addr} {zs : List Int} (h : Ints w B A zs) {j : Nat} {z : Int} (hj : zs[j]? = some z) : ∃ b off, A = some ⟨b, off, none⟩ := by
  obtain ⟨b', off', e, hb, hc⟩ := h j z hj
  exact ⟨b', off', e⟩
/-- An inner point's number, and what stands there. -/
theorem brk_at {W H : Int} {zs : List Int} {x y : Int} (h : (zs.length : Int) = inner W H) (n1 : 0 ≤ numF W x y) (n2 : numF W x y < inner W H) : ∃ k : Nat, numF W x y = (k : Int) ∧ k < zs.length ∧ zs[k]? = some (brkA W zs x y) := by
  obtain ⟨k, hk⟩ := Int.eq_ofNat_of_zero_le n1
  have hkl : k < zs.length := by omega
  refine ⟨k, hk, hkl, ?_⟩
  simp [brkA, hk, hkl]
theorem ret_two' {a b c d : Int} (h : a = c) (k : b = d) : Ending.returned (.tuple #[.int .i64 a, .int .i64 b]) = .returned (.tuple #[.int .i64 c, .int .i64 d]) := by rw [h, k]

theorem calls_int0 {p : Program} {f : Nat} {args : Array Value} {w : World} {P : World → Prop} {a b : Int} (h : Calls p f args w fun e w' => e = .returned (.int .i64 a) ∧ P w') (k : a = b) : Calls p f args w fun e w' => e = .returned (.int .i64 b) ∧ P w' := k ▸ h
end Go.Proofs.Ytgcgaoblbhojnaa

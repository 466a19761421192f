/- A2Panel and its kin; slices of bytes that came in. -/
import Derived.Test.YtgcgaoblbhojnaaDr
import Derived.Lib.SmallJoins
import Derived.ChangeOld
namespace Go.Proofs.Ytgcgaoblbhojnaa
set_option linter.unusedSimpArgs false
set_option linter.unusedVariables false
open Go.ChangeShapes Go.WideShapes Go.ChangeAt Go.RowKit
theorem below_src {w0 w w' : World} {b : Nat} (h : Below w0.heap.size w0 w) (hg : w.grownBy w' (some b)) (hb : w0.heap.size ≤ b) : Below w0.heap.size w0 w' :=
  bgrew (lo := w0.heap.size) h hg (fun q hq => by injection hq with hq; omega) (Nat.le_refl _)
theorem src_new (w : World) (A : Option Addr) (n c : Nat) : SrcP (w.alloc (.cells #[.slice A n c, .int .i64 0, .int .u64 0] 130)) w.heap.size 0 A n c := ⟨0, 0, Nat.le_refl _, by omega, Box.new _ _ _⟩
theorem l00From_any (A : Option Addr) (n c : Nat) (w : World) :
    Calls Try.prog 92 #[.slice A n c] w fun e w' => e = .returned (.pointer (some ⟨w.heap.size, 0, none⟩)) ∧ w' = w.alloc (.cells #[.slice A n c, .int .i64 0, .int .u64 0] 130) := by
  go_enter Try.func92, Try.ntmps92
  go_wp2_with fail
  go_ret
  exact ⟨rfl, rfl⟩
/-- What A2Panel hands back: a valid panel of small sides, in memory of its own. -/
def A2P (w : World) (most : Int) (e : Ending) (w' : World) : Prop :=
  ∃ (W H : Int) (zs : List Int) (A' : Option Addr) (c' : Nat), (validB W H zs = true ∧ W ≤ most ∧ H ≤ most) ∧ e = .returned (.agg #[.int .i64 W, .int .i64 H, .slice A' zs.length c']) ∧ w'.ownsRow w.heap.size 2 1 (.slice A' zs.length c') zs.length (vals zs) ∧ Below w.heap.size w w'
theorem cellsU8 : Try.prog.cellsOf 5 = 1 := by kernel_rfl
theorem u8_wf {z : Int} (h : (Lit.int .u8 z).wf = true) : 0 ≤ z ∧ z ≤ 255 := by
  simp [Lit.wf, IntKind.min, IntKind.max, IntKind.bits, IntKind.signed] at h
  omega
section
variable {H : Type} {enc : TypeId × Value → H} {W : World} {base : Nat} {sp : Nat → Bool} {held : Bool}
set_option maxRecDepth 100000 in
/-- A slice of bytes that came in. -/
theorem bytes_open {b0 : Nat} {r : Reach} {v : Value} {d : DataW H} {ps : List MemPlace} (hv : Value.okWide Try.prog W r b0 54 v) (h : DataW.Trod enc Try.prog W base sp held 54 v d ps) :
    ∃ A c bs, v = .slice A bs.length c ∧ bs.length ≤ maxLen ∧ BytesR W W.heap.size A bs ∧ True := by
  obtain ⟨a1, len1, cap1, rfl⟩ := okWide_slice Try.underlying54 hv
  obtain ⟨fuel, hf⟩ := h
  have hc := open_ints Try.underlying54 Try.underlying5 cellsU8 hf
  rcases hc with ⟨hcs, _⟩ | ⟨a, len, cap, zs, hcs, _, hl, hm, hz, _, hcell, hwz⟩
  · simp [Value.cells] at hcs
    obtain ⟨rfl, rfl, rfl⟩ := hcs
    exact ⟨none, 0, [], rfl, Nat.zero_le _, fun j z h => by simp at h, trivial⟩
  · simp [Value.cells] at hcs
    obtain ⟨rfl, rfl, rfl⟩ := hcs
    have hlen : len1 ≤ zs.length := by rw [hz]; split <;> omega
    have e : (zs.take len1).length = len1 := by rw [List.length_take]; omega
    refine ⟨some a, cap1, zs.take len1, by rw [e], by omega, ?_, trivial⟩
    intro j z hj
    have hjl : j < len1 := by have := (List.getElem?_eq_some_iff.1 hj).1; omega
    have hzj : zs[j]? = some z := by rwa [List.getElem?_take, if_pos hjl] at hj
    obtain ⟨b, off, rfl, hc⟩ := ints_at hcell (by omega)
    have h1 := hc j (by omega)
    exact ⟨u8_wf (hwz z (List.mem_of_getElem? hzj)), b, off, rfl, World.block_lt_of_cell? W _ h1, by rw [h1, List.getD_eq_getElem?_getD, hzj]; rfl⟩
end
/-- Some bytes are too many. -/
def lgB (n m : Nat) : Bool := decide (3000 < (n : Int)) || decide (3000 < (m : Int))
theorem lg_no {n m : Nat} (h : lgB n m = false) : n ≤ 3000 ∧ m ≤ 3000 := by simp [lgB] at h; omega
end Go.Proofs.Ytgcgaoblbhojnaa

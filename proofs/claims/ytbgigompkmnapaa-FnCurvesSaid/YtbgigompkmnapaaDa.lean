/- A2Panel and its kin; slices of bytes that came in. -/
import Derived.Test.YtbgigompkmnapaaDr
import Derived.Lib.SmallJoins
import Derived.ChangeOld
namespace Go.Proofs.Ytbgigompkmnapaa
set_option linter.unusedSimpArgs false
set_option linter.unusedVariables false
open Go.ChangeShapes Go.WideShapes Go.ChangeAt Go.RowKit
theorem below_src {w0 w w' : World} {b : Nat} (h : Below w0.heap.size w0 w) (hg : w.grownBy w' (some b)) (hb : w0.heap.size ≤ b) : Below w0.heap.size w0 w' :=
  bgrew (lo := w0.heap.size) h hg (fun q hq => by injection hq with hq; omega) (Nat.le_refl _)
theorem src_new (w : World) (A : Option Addr) (n c : Nat) : SrcP (w.alloc (.cells #[.slice A n c, .int .i64 0, .int .u64 0] 132)) w.heap.size 0 A n c := ⟨0, 0, Nat.le_refl _, by omega, Box.new _ _ _⟩
theorem l00From_any (A : Option Addr) (n c : Nat) (w : World) :
    Calls Try.prog 76 #[.slice A n c] w fun e w' => e = .returned (.pointer (some ⟨w.heap.size, 0, none⟩)) ∧ w' = w.alloc (.cells #[.slice A n c, .int .i64 0, .int .u64 0] 132) := by
  go_enter Try.func76, Try.ntmps76
  go_wp2_with fail
  go_ret
  exact ⟨rfl, rfl⟩
/-- What A2Panel hands back: a valid panel of small sides, in memory of its own. -/
def A2P (w : World) (most : Int) (e : Ending) (w' : World) : Prop :=
  ∃ (W H : Int) (zs : List Int) (A' : Option Addr) (c' : Nat), (validB W H zs = true ∧ W ≤ most ∧ H ≤ most) ∧ e = .returned (.agg #[.int .i64 W, .int .i64 H, .slice A' zs.length c']) ∧ w'.ownsRow w.heap.size 2 1 (.slice A' zs.length c') zs.length (vals zs) ∧ Below w.heap.size w w'
set_option maxHeartbeats 2000000 in
theorem A2Panel_any (A : Option Addr) (n c : Nat) (bs : List Int) (w : World) (hn : bs.length = n) (hb : BytesR w w.heap.size A bs) (hnl : n ≤ 5000) :
    Calls Try.prog 26 #[.slice A n c] w (A2P w 5) := by
  have HN := hid hn
  have HBY := hid hb
  clear hn hb
  go_enter Try.func26, Try.ntmps26
  go_wp2_with fail
  refine (l00From_any A n c _).mono ?_
  rintro e w1 ⟨rfl, hw1⟩
  have HB1 : Hid (Below w.heap.size w w1) := hid (by rw [hw1]; exact bal (bal (Below.refl _ _) _) _)
  have KR1 : Hid (Box w1 w.heap.size 30 #[.int .i64 0, .int .i64 0, .slice none 0 0]) := hid (by rw [hw1]; exact Box.alloc (Box.new w _ _) _)
  have HS1 : Hid (SrcP w1 (w.heap.size + 1) 0 A n c) := hid (by rw [hw1]; have h := src_new (w.alloc (.cells #[.int .i64 0, .int .i64 0, .slice none 0 0] 30)) A n c; simpa only [World.size_alloc] using h)
  clear hw1
  have hz1 := HS1.out.lt
  go_wp2_with fail
  refine (l02Draw_any (w.heap.size + 1) 0 A n c w.heap.size bs 5 w1 HN.out HS1.out (HBY.out.below HB1.out) (by omega) (by omega) hnl (by omega) (by omega)).mono ?_
  rintro e w2 ⟨⟨W, H, zs, A2, c2, hok, rfl, ho2⟩, hs2, hg2⟩
  have HOK := hid hok
  have HB2 := hid (below_src HB1.out hg2 (by omega))
  have KR2 := hid (Box.grew KR1.out hg2 (fun q hq => by injection hq with hq; omega))
  have HO2 := hid (Go.Joins.ownsRow_le ho2 (show w.heap.size + 1 ≤ w1.heap.size by omega))
  clear hok ho2 hs2 hg2
  obtain ⟨Ra, Rb, Rc⟩ := KR2.out.three
  have Rz := KR2.out.lt
  have Rf := KR2.out.free
  go_wp2_with fail
  have hE := HB2.out
  refine bodyPost_ret (v := .agg #[.int .i64 W, .int .i64 H, .slice A2 zs.length c2]) (by simp [results, Try.results26, go_sem, *]) rfl ⟨W, H, zs, A2, c2, HOK.out, rfl, ?_, ?_⟩
  · refine Go.Joins.ownsRow_le (base := w.heap.size + 1) ?_ (by omega)
    repeat (refine ownsRow_setCell_below ?_ (by simp) _)
    exact HO2.out
  · repeat (refine Below.setCell ?_ (by simp) _)
    exact hE
theorem cellsU8 : Try.prog.cellsOf 5 = 1 := by kernel_rfl
theorem u8_wf {z : Int} (h : (Lit.int .u8 z).wf = true) : 0 ≤ z ∧ z ≤ 255 := by
  simp [Lit.wf, IntKind.min, IntKind.max, IntKind.bits, IntKind.signed] at h
  omega
section
variable {H : Type} {enc : TypeId × Value → H} {W : World} {base : Nat} {sp : Nat → Bool} {held : Bool}
set_option maxRecDepth 100000 in
/-- A slice of bytes that came in. -/
theorem bytes_open {b0 : Nat} {r : Reach} {v : Value} {d : DataW H} {ps : List MemPlace} (hv : Value.okWide Try.prog W r b0 44 v) (h : DataW.Trod enc Try.prog W base sp held 44 v d ps) :
    ∃ A c bs, v = .slice A bs.length c ∧ bs.length ≤ maxLen ∧ BytesR W W.heap.size A bs ∧ True := by
  obtain ⟨a1, len1, cap1, rfl⟩ := okWide_slice Try.underlying44 hv
  obtain ⟨fuel, hf⟩ := h
  have hc := open_ints Try.underlying44 Try.underlying5 cellsU8 hf
  rcases hc with ⟨hcs, _⟩ | ⟨a, len, cap, zs, hcs, _, hl, hm, hz, _, hcell, hwz⟩
  · simp [Value.cells] at hcs
    obtain ⟨rfl, rfl, rfl⟩ := hcs
    exact ⟨none, 0, [], rfl, Nat.zero_le _, fun j z h => by simp at h, trivial⟩
  · simp [Value.cells] at hcs
    obtain ⟨rfl, rfl, rfl⟩ := hcs
    have hlen : len1 ≤ zs.length := by rw [hz]; split <;> omega
    have e : (zs.take len1).length = len1 := by rw [List.length_take]; omega
    refine ⟨some a, cap1, zs.take len1, by rw [e], by omega, ?_, trivial⟩
    intro j z hj
    have hjl : j < len1 := by have := (List.getElem?_eq_some_iff.1 hj).1; omega
    have hzj : zs[j]? = some z := by rwa [List.getElem?_take, if_pos hjl] at hj
    obtain ⟨b, off, rfl, hc⟩ := ints_at hcell (by omega)
    have h1 := hc j (by omega)
    exact ⟨u8_wf (hwz z (List.mem_of_getElem? hzj)), b, off, rfl, World.block_lt_of_cell? W _ h1, by rw [h1, List.getD_eq_getElem?_getD, hzj]; rfl⟩
end
/-- Some bytes are too many. -/
def lgB (n m : Nat) : Bool := decide (3000 < (n : Int)) || decide (3000 < (m : Int))
theorem lg_no {n m : Nat} (h : lgB n m = false) : n ≤ 3000 ∧ m ≤ 3000 := by simp [lgB] at h; omega
set_option maxHeartbeats 1000000 in
theorem a2Long_any (A1 A2 : Option Addr) (n m c1 c2 : Nat) (w : World) (hn : n ≤ maxLen) (hm : m ≤ maxLen) : Calls Try.prog 25 #[.slice A1 n c1, .slice A2 m c2] w fun e w' => e = .returned (.bool (lgB n m)) ∧ w = w' := by
  unfold maxLen at hn hm
  by_cases h1 : (3000 : Int) < n
  · have HV : Hid (lgB n m = true) := hid (by simp [lgB]; omega)
    go_enter Try.func25, Try.ntmps25
    go_wp2_with fail
    go_ret
    exact ⟨by rw [HV.out]; rfl, rfl⟩
  · have HV : Hid (lgB n m = decide (3000 < (m : Int))) := hid (by simp [lgB]; omega)
    go_enter Try.func25, Try.ntmps25
    go_wp2_with fail
    go_ret
    exact ⟨by rw [HV.out]; rfl, rfl⟩
end Go.Proofs.Ytbgigompkmnapaa

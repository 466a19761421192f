/- Rows of the law's own, told with the blocks between which they lie; what a callee changes there alone. -/
import Derived.Test.YtbgigompkmnapaaPan
namespace Go.Proofs.Ytbgigompkmnapaa
set_option linter.unusedSimpArgs false
set_option linter.unusedVariables false
open Go.ChangeShapes Go.WideShapes Go.ChangeAt Go.RowKit

/-- From w to w' just blocks from lo on and before hi, and new ones, are changed. -/
structure Chg (w w' : World) (lo hi : Nat) : Prop where
  os : w'.os = w.os
  tape : w'.tape = w.tape
  output : w'.output = w.output
  size : w.heap.size ≤ w'.heap.size
  block : ∀ i, i < w.heap.size → (i < lo ∨ hi ≤ i) → w'.heap[i]? = w.heap[i]?
theorem Chg.refl (w : World) (lo hi : Nat) : Chg w w lo hi := ⟨rfl, rfl, rfl, Nat.le_refl _, fun _ _ _ => rfl⟩
theorem Chg.of_below {w w' : World} (h : Below w.heap.size w w') (lo hi : Nat) : Chg w w' lo hi := ⟨h.os, h.tape, h.output, h.size, fun i hi _ => h.block i hi⟩
theorem Chg.of_grown {w w' : World} {row : Option Nat} {lo hi : Nat} (h : w.grownBy w' row) (hr : ∀ k, row = some k → lo ≤ k ∧ k < hi) : Chg w w' lo hi :=
  ⟨h.os, h.tape, h.output, h.size, fun i hi' hd => h.block i hi' fun e => by have := hr i e.symm; omega⟩
theorem Chg.trans {a b c : World} {lo hi : Nat} (h : Chg a b lo hi) (k : Chg b c lo hi) : Chg a c lo hi :=
  ⟨k.os.trans h.os, k.tape.trans h.tape, k.output.trans h.output, Nat.le_trans h.size k.size, fun i hi hd => (k.block i (Nat.lt_of_lt_of_le hi h.size) hd).trans (h.block i hi hd)⟩
theorem Below.chg {B : Nat} {w0 w w' : World} {lo hi : Nat} (h : Below B w0 w) (k : Chg w w' lo hi) (hB : B ≤ lo) (h0 : B ≤ w0.heap.size) : Below B w0 w' :=
  ⟨k.os.trans h.os, k.tape.trans h.tape, k.output.trans h.output, Nat.le_trans h.size k.size, fun i hi => (k.block i (by have := h.size; omega) (.inl (by omega))).trans (h.block i hi)⟩
theorem bchg {w0 w w' : World} {lo hi : Nat} (h : Below w0.heap.size w0 w) (k : Chg w w' lo hi) (hB : w0.heap.size ≤ lo) : Below w0.heap.size w0 w' := Below.chg h k hB (Nat.le_refl _)
theorem Box.chg {w w' : World} {b : Nat} {T : TypeId} {cs : Array Value} {lo hi : Nat} (h : Box w b T cs) (k : Chg w w' lo hi) (hd : b < lo ∨ hi ≤ b) : Box w' b T cs := (k.block b h.lt hd).trans h

/-- The slice value v owns, in a block from lo on and before hi, n elements of s cells each; the cells are cs. -/
def Rgn (w : World) (lo hi : Nat) (T : TypeId) (s : Nat) (v : Value) (n : Nat) (cs : List Value) : Prop := w.ownsRow lo T s v n cs ∧ ∀ k, v.ownBlock = some k → k < hi
section
variable {w w' : World} {lo hi : Nat} {T : TypeId} {s : Nat} {v : Value} {n : Nat} {cs : List Value}
theorem Rgn.of {B : Nat} (h : w.ownsRow B T s v n cs) (e : lo = B) (e2 : hi = w.heap.size) : Rgn w lo hi T s v n cs := by subst e e2; exact ⟨h, fun k hk => (h.lt k hk).2⟩
theorem Rgn.own (h : Rgn w lo hi T s v n cs) : w.ownsRow lo T s v n cs := h.1
theorem Rgn.row (h : Rgn w lo hi T s v n cs) : ∀ k, v.ownBlock = some k → lo ≤ k ∧ k < hi := fun k hk => ⟨(h.1.lt k hk).1, h.2 k hk⟩
theorem Rgn.chg {l2 h2 : Nat} (h : Rgn w lo hi T s v n cs) (k : Chg w w' l2 h2) (hd : hi ≤ l2 ∨ h2 ≤ lo) : Rgn w' lo hi T s v n cs := by
  refine ⟨⟨h.1.1, ?_⟩, h.2⟩
  rcases h.1.2 with hn | ⟨g, cap, cur, rfl, hb, hg, rest⟩
  · exact .inl hn
  · exact .inr ⟨g, cap, cur, rfl, hb, (k.block g (Array.getElem?_eq_some_iff.1 hg).1 (by have := h.2 g rfl; omega)).trans hg, rest⟩
theorem Rgn.keep (h : Rgn w lo hi T s v n cs) (k : Below w.heap.size w w') : Rgn w' lo hi T s v n cs := h.chg (l2 := hi) (h2 := hi) (Chg.of_below k _ _) (.inl (Nat.le_refl _))
theorem Rgn.alloc (h : Rgn w lo hi T s v n cs) (o : Obj) : Rgn (w.alloc o) lo hi T s v n cs := ⟨h.1.alloc o, h.2⟩
theorem Rgn.drew (h : Rgn w lo hi T s v n cs) : Rgn w.drew lo hi T s v n cs := h
theorem Rgn.set (h : Rgn w lo hi T s v n cs) {a : Addr} (ha : a.block < lo ∨ hi ≤ a.block) (u : Value) : Rgn (w.setCell a u) lo hi T s v n cs := by
  refine ⟨⟨h.1.1, ?_⟩, h.2⟩
  rcases h.1.2 with hn | ⟨g, cap, cur, rfl, hb, hg, rest⟩
  · exact .inl hn
  · exact .inr ⟨g, cap, cur, rfl, hb, (Below.heap_setCell w a u g (by have := h.2 g rfl; omega)).trans hg, rest⟩
theorem Rgn.drewN (h : Rgn w lo hi T s v n cs) (m : Nat) : Rgn (w.drewN m) lo hi T s v n cs := h
end
theorem Rgn.ints {w : World} {lo hi c : Nat} {A : Option Addr} {zs : List Int} (h : Rgn w lo hi 2 1 (.slice A zs.length c) zs.length (vals zs)) : Ints w w.heap.size A zs := OwnI.ints (B := lo) h.1

theorem own_keep {w w' : World} {lo : Nat} {T : TypeId} {s : Nat} {v : Value} {n : Nat} {cs : List Value} (h : w.ownsRow lo T s v n cs) (k : Below w.heap.size w w') : w'.ownsRow lo T s v n cs := ((Rgn.of h rfl rfl).keep k).1
theorem Box.grew {w w' : World} {b : Nat} {T : TypeId} {cs : Array Value} {row : Option Nat} (h : Box w b T cs) (hg : w.grownBy w' row) (hr : ∀ q, row = some q → b ≠ q) : Box w' b T cs := (hg.block b h.lt fun e => hr b e.symm rfl).trans h
theorem bgrew {w0 w w' : World} {row : Option Nat} {lo : Nat} (h : Below w0.heap.size w0 w) (hg : w.grownBy w' row) (hr : ∀ q, row = some q → lo ≤ q) (hlo : w0.heap.size ≤ lo) : Below w0.heap.size w0 w' := h.grown hg h.size fun q hq => Nat.le_trans hlo (hr q hq)
end Go.Proofs.Ytbgigompkmnapaa

/- Panels: boxed, copied, compared, marked, held. -/
import Derived.Test.YtbgigompkmnapaaMem
namespace Go.Proofs.Ytbgigompkmnapaa
set_option linter.unusedSimpArgs false
set_option linter.unusedVariables false
open Go.ChangeShapes Go.WideShapes Go.ChangeAt Go.RowKit

/-- Block b is a box of these cells. -/
def Box (w : World) (b : Nat) (T : TypeId) (cs : Array Value) : Prop := w.heap[b]? = some (.cells cs T (0, 0))
section
variable {w w' : World} {b : Nat} {T : TypeId} {cs : Array Value}
theorem Box.lt (h : Box w b T cs) : b < w.heap.size := (Array.getElem?_eq_some_iff.1 h).1
theorem Box.new (w : World) (T : TypeId) (cs : Array Value) : Box (w.alloc (.cells cs T)) w.heap.size T cs := heap_alloc_new w _
theorem Box.new' (w : World) (T : TypeId) (cs : Array Value) (n : Nat) (hn : n = w.heap.size) : Box (w.alloc (.cells cs T)) n T cs := by subst hn; exact heap_alloc_new w _
theorem Box.alloc (h : Box w b T cs) (o : Obj) : Box (w.alloc o) b T cs := (Below.heap_alloc w o b h.lt).trans h
theorem Box.drewN (h : Box w b T cs) (n : Nat) : Box (w.drewN n) b T cs := h
theorem Box.below {B : Nat} (h : Box w b T cs) (hb : Below B w w') (hB : b < B) : Box w' b T cs := (hb.block b hB).trans h
theorem Box.keep (h : Box w b T cs) (hb : Below w.heap.size w w') : Box w' b T cs := h.below hb h.lt
theorem Box.set (h : Box w b T cs) {a : Addr} (ha : b ≠ a.block) (v : Value) : Box (w.setCell a v) b T cs := (Below.heap_setCell w a v b ha).trans h
theorem Box.cell (h : Box w b T cs) (i : Nat) : w.cell? ⟨b, i, none⟩ = cs[i]? := cell_of_row w b i _ _ _ h
theorem Box.free (h : Box w b T cs) (i : Nat) : w.frozen? ⟨b, i, none⟩ = false := frozen_of_row w b i _ _ h
theorem Box.two {x y : Value} (h : Box w b T #[x, y]) : w.cell? ⟨b, 0, none⟩ = some x ∧ w.cell? ⟨b, 1, none⟩ = some y := ⟨h.cell 0, h.cell 1⟩
theorem Box.three {x y z : Value} (h : Box w b T #[x, y, z]) : w.cell? ⟨b, 0, none⟩ = some x ∧ w.cell? ⟨b, 1, none⟩ = some y ∧ w.cell? ⟨b, 2, none⟩ = some z := ⟨h.cell 0, h.cell 1, h.cell 2⟩
theorem Box.four {x y z u : Value} (h : Box w b T #[x, y, z, u]) : w.cell? ⟨b, 0, none⟩ = some x ∧ w.cell? ⟨b, 1, none⟩ = some y ∧ w.cell? ⟨b, 2, none⟩ = some z ∧ w.cell? ⟨b, 3, none⟩ = some u := ⟨h.cell 0, h.cell 1, h.cell 2, h.cell 3⟩
end
/-- Block b is a panel's three cells. -/
def PanP (w : World) (b : Nat) (W H : Int) (s : Value) : Prop := w.heap[b]? = some (.cells #[.int .i64 W, .int .i64 H, s] 30 (0, 0))
section
variable {w w' : World} {b : Nat} {W H : Int} {s : Value}
theorem PanP.lt (h : PanP w b W H s) : b < w.heap.size := (Array.getElem?_eq_some_iff.1 h).1
theorem PanP.c0 (h : PanP w b W H s) : w.cell? ⟨b, 0, none⟩ = some (.int .i64 W) := by rw [cell_of_row w b 0 _ _ _ h]; rfl
theorem PanP.c1 (h : PanP w b W H s) : w.cell? ⟨b, 1, none⟩ = some (.int .i64 H) := by rw [cell_of_row w b 1 _ _ _ h]; rfl
theorem PanP.c2 (h : PanP w b W H s) : w.cell? ⟨b, 2, none⟩ = some s := by rw [cell_of_row w b 2 _ _ _ h]; rfl
theorem PanP.below {B : Nat} (h : PanP w b W H s) (hb : Below B w w') (hB : b < B) : PanP w' b W H s := (hb.block b hB).trans h
theorem PanP.alloc (h : PanP w b W H s) (o : Obj) : PanP (w.alloc o) b W H s := (Below.heap_alloc w o b h.lt).trans h
theorem PanP.drewN (h : PanP w b W H s) (n : Nat) : PanP (w.drewN n) b W H s := h
theorem PanP.box (w : World) (W H : Int) (s : Value) : PanP (w.alloc (.cells #[.int .i64 W, .int .i64 H, s] 30)) w.heap.size W H s := heap_alloc_new w _
theorem PanP.box' (w : World) (n : Nat) (hn : n = w.heap.size) (W H : Int) (s : Value) : PanP (w.alloc (.cells #[.int .i64 W, .int .i64 H, s] 30)) n W H s := by subst hn; exact heap_alloc_new w _
end
theorem Ints.alloc {w : World} {B : Nat} {A : Option Addr} {zs : List Int} (h : Ints w B A zs) (hB : B ≤ w.heap.size) (o : Obj) : Ints (w.alloc o) B A zs := h.below ((Below.refl _ _).alloc hB o)
theorem Ints.drewN {w : World} {B : Nat} {A : Option Addr} {zs : List Int} (h : Ints w B A zs) (n : Nat) : Ints (w.drewN n) B A zs := h
theorem Ints.more {w : World} {B B' : Nat} {A : Option Addr} {zs : List Int} (h : Ints w B A zs) (hB : B ≤ B') : Ints w B' A zs := fun j z hj => by
  obtain ⟨b, off, e, hb, hc⟩ := h j z hj
  exact ⟨b, off, e, by omega, hc⟩
theorem below_of_draws {w w' : World} (h : ∃ m, w' = w.drewN m) (B : Nat) : Below B w w' := by obtain ⟨m, rfl⟩ := h; exact below_drewN (Below.refl _ _) m

theorem szPanel_any (W H : Int) (n : Nat) (A : Option Addr) (c : Nat) (l : Int) (w : World) (h : (n : Int) ≤ l) (hl : l ≤ 1048576) :
    Calls Try.prog 11 #[.agg #[.int .i64 W, .int .i64 H, .slice A n c], .int .i64 l] w fun e w' => e = .returned (.int .i64 (l - n)) ∧ Below w.heap.size w w' := by
  go_enter Try.func11, Try.ntmps11
  go_wp2_with (go_at_call 60; refine (szInt64S_any _ _ _ _ _ h hl).mono ?_; rintro e w' ⟨rfl, rfl⟩)
  go_ret
  exact ⟨rfl, (Below.refl _ _).alloc (Nat.le_refl _) _⟩
theorem szPanel_big (W H : Int) (n : Nat) (A : Option Addr) (c : Nat) (l : Int) (w : World) (h : l < (n : Int)) (h0 : 0 ≤ l) (hm : n ≤ maxLen) :
    Calls Try.prog 11 #[.agg #[.int .i64 W, .int .i64 H, .slice A n c], .int .i64 l] w fun e w' => e = .returned (.int .i64 (-1)) ∧ Below w.heap.size w w' := by
  go_enter Try.func11, Try.ntmps11
  go_wp2_with (go_at_call 60; refine (szInt64S_big _ _ _ _ _ h h0 hm).mono ?_; rintro e w' ⟨rfl, rfl⟩)
  go_ret
  exact ⟨rfl, (Below.refl _ _).alloc (Nat.le_refl _) _⟩

set_option maxHeartbeats 400000 in
theorem toPanel_any (W H : Int) (A : Option Addr) (c : Nat) (zs : List Int) (w : World) (B : Nat) (hz : Ints w B A zs) (hB : B ≤ w.heap.size) (hl : zs.length ≤ 1048576) :
    Calls Try.prog 13 #[.agg #[.int .i64 W, .int .i64 H, .slice A zs.length c]] w fun e w' => (∃ A' c', e = .returned (.agg #[.int .i64 W, .int .i64 H, .slice A' zs.length c']) ∧ OwnI w' w.heap.size (.slice A' zs.length c') zs) ∧ Below w.heap.size w w' := by
  go_enter Try.func13, Try.ntmps13
  go_wp2_with fail
  have hz := hz.more hB
  clear hB
  refine (toInt64S_any _ _ _ _ ((hz.below (by (repeat (with_reducible first | exact Below.refl _ _ | assumption | refine below_drewN ?_ _ | refine Below.drew ?_ | refine Below.alloc ?_ ?_ _ | refine Below.setCell ?_ ?_ _)); all_goals (first | omega | (simp only [size_drewN, World.size_alloc, World.size_setCell, World.size_drew] at *; omega) | (simp; done) | (simp; omega)))).more (by (first | omega | (simp only [size_drewN, World.size_alloc, World.size_setCell, World.size_drew] at *; omega) | (simp; done) | (simp; omega)))) hl).mono ?_
  rintro e w1 ⟨⟨A', c', rfl, ho⟩, hb⟩
  obtain ⟨hc, hf⟩ := bcell hb
  have hz1 := hb.size
  simp only [World.size_alloc, World.size_setCell] at hz1
  have HO := hid ho
  have HB := hid hb
  clear ho hb
  go_wp2_with fail
  refine bodyPost_ret (v := .agg #[.int .i64 W, .int .i64 H, .slice A' zs.length c']) (by simp [results, Try.results13, go_sem, hc, hz1]) rfl ⟨⟨A', c', rfl, ?_⟩, ?_⟩
  · refine OwnI.le (B := w.heap.size + 3) ?_ (by omega)
    have h3 := HO.out.le (B' := w.heap.size + 3) (by simp)
    (repeat (with_reducible first | assumption | refine OwnI.setBelow ?_ ?_ _ | refine OwnI.drewN ?_ _ | refine OwnI.alloc ?_ _)); all_goals (first | omega | (simp only [size_drewN, World.size_alloc, World.size_setCell, World.size_drew] at *; omega) | (simp; done) | (simp; omega))
  · have h3 : Below w.heap.size w w1 := Below.trans (by (repeat (with_reducible first | exact Below.refl _ _ | assumption | refine below_drewN ?_ _ | refine Below.drew ?_ | refine Below.alloc ?_ ?_ _ | refine Below.setCell ?_ ?_ _)); all_goals (first | omega | (simp only [size_drewN, World.size_alloc, World.size_setCell, World.size_drew] at *; omega) | (simp; done) | (simp; omega))) (HB.out.mono (by (first | omega | (simp only [size_drewN, World.size_alloc, World.size_setCell, World.size_drew] at *; omega) | (simp; done) | (simp; omega))))
    exact (by (repeat (with_reducible first | exact Below.refl _ _ | assumption | refine below_drewN ?_ _ | refine Below.drew ?_ | refine Below.alloc ?_ ?_ _ | refine Below.setCell ?_ ?_ _)); all_goals (first | omega | (simp only [size_drewN, World.size_alloc, World.size_setCell, World.size_drew] at *; omega) | (simp; done) | (simp; omega)))

set_option maxHeartbeats 400000 in
theorem eqPanel_any (W H W' H' : Int) (A1 A2 : Option Addr) (c1 c2 : Nat) (xs ys : List Int) (w : World) (h1 : Ints w w.heap.size A1 xs) (h2 : Ints w w.heap.size A2 ys) (hl : xs.length ≤ maxLen) (hl2 : ys.length ≤ maxLen) (e1 : W = W') (e2 : H = H') (e3 : xs = ys) :
    Calls Try.prog 17 #[.agg #[.int .i64 W, .int .i64 H, .slice A1 xs.length c1], .agg #[.int .i64 W', .int .i64 H', .slice A2 ys.length c2]] w fun e w' => e = .returned (.bool true) ∧ Below w.heap.size w w' := by
  subst e1 e2
  have HE := hid e3
  clear e3
  go_enter Try.func17, Try.ntmps17
  go_wp2_with (go_at_call 16; refine (calls_bool (eqInt64S_any _ _ _ _ _ _ _ w.heap.size (h1.below (by (repeat (with_reducible first | exact Below.refl _ _ | assumption | refine below_drewN ?_ _ | refine Below.drew ?_ | refine Below.alloc ?_ ?_ _ | refine Below.setCell ?_ ?_ _)); all_goals (first | omega | (simp only [size_drewN, World.size_alloc, World.size_setCell, World.size_drew] at *; omega) | (simp; done) | (simp; omega)))) (h2.below (by (repeat (with_reducible first | exact Below.refl _ _ | assumption | refine below_drewN ?_ _ | refine Below.drew ?_ | refine Below.alloc ?_ ?_ _ | refine Below.setCell ?_ ?_ _)); all_goals (first | omega | (simp only [size_drewN, World.size_alloc, World.size_setCell, World.size_drew] at *; omega) | (simp; done) | (simp; omega)))) hl hl2) (decide_eq_true HE.out)).mono ?_; rintro e w' ⟨rfl, m, rfl⟩)
  go_ret
  exact ⟨rfl, (by (repeat (with_reducible first | exact Below.refl _ _ | assumption | refine below_drewN ?_ _ | refine Below.drew ?_ | refine Below.alloc ?_ ?_ _ | refine Below.setCell ?_ ?_ _)); all_goals (first | omega | (simp only [size_drewN, World.size_alloc, World.size_setCell, World.size_drew] at *; omega) | (simp; done) | (simp; omega)))⟩

theorem grown_of_below {w w' : World} (h : Below w.heap.size w w') (row : Option Nat) : w.grownBy w' row := ⟨h.os, h.tape, h.output, h.size, fun i hi _ => h.block i hi⟩
theorem grown_trans' {a b c : World} {row : Option Nat} (h : a.grownBy b row) (k : b.grownBy c row) : a.grownBy c row :=
  ⟨k.os.trans h.os, k.tape.trans h.tape, k.output.trans h.output, Nat.le_trans h.size k.size, fun i hi hne => (k.block i (Nat.lt_of_lt_of_le hi h.size) hne).trans (h.block i hi hne)⟩

end Go.Proofs.Ytbgigompkmnapaa

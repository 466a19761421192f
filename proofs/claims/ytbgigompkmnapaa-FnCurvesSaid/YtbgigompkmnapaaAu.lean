/- Words that find a box, an owned row, or that nothing below was changed, by what the context knows of the worlds on the way. -/
import Derived.Test.YtbgigompkmnapaaLw
import Derived.Deep.RegionHeld3
import Derived.Deep.DeepCutAuto
namespace Go.Proofs.Ytbgigompkmnapaa
set_option linter.unusedSimpArgs false
set_option linter.unusedVariables false
open Go.ChangeShapes Go.WideShapes Go.ChangeAt Go.RowKit
theorem Box.drew {w : World} {b : Nat} {T : TypeId} {cs : Array Value} (h : Box w b T cs) : Box w.drew b T cs := h
theorem OwnI.drew {w : World} {B : Nat} {v : Value} {zs : List Int} (h : OwnI w B v zs) : OwnI w.drew B v zs := h
theorem Box.put {w : World} {b : Nat} {T : TypeId} {cs : Array Value} (h : Box w b T cs) (i : Nat) (v : Value) : Box (w.setCell ⟨b, i, none⟩ v) b T (cs.setIfInBounds i v) := by
  unfold Box at *
  simp [World.setCell, Array.getElem?_modify, h]
theorem Box.put2 {w : World} {b : Nat} {T : TypeId} {x y u v : Value} (h : Box w b T #[x, y]) : Box ((w.setCell ⟨b, 0, none⟩ u).setCell ⟨b, 1, none⟩ v) b T #[u, v] := (h.put 0 u).put 1 v
theorem Box.put3 {w : World} {b : Nat} {T : TypeId} {x y z u v s : Value} (h : Box w b T #[x, y, z]) : Box (((w.setCell ⟨b, 0, none⟩ u).setCell ⟨b, 1, none⟩ v).setCell ⟨b, 2, none⟩ s) b T #[u, v, s] := ((h.put 0 u).put 1 v).put 2 s
theorem Box.put4 {w : World} {b : Nat} {T : TypeId} {x y z q u v s t : Value} (h : Box w b T #[x, y, z, q]) : Box ((((w.setCell ⟨b, 0, none⟩ u).setCell ⟨b, 1, none⟩ v).setCell ⟨b, 2, none⟩ s).setCell ⟨b, 3, none⟩ t) b T #[u, v, s, t] := (((h.put 0 u).put 1 v).put 2 s).put 3 t
theorem bel_set {B : Nat} {w w' : World} {b i : Nat} (h : Below B w w') (hB : B ≤ b) (v : Value) : Below B w (w'.setCell ⟨b, i, none⟩ v) := Below.setCell h hB v
theorem own_low {w X y : World} {v : Value} {zs : List Int} (h : OwnI y X.heap.size v zs) (hb : Below w.heap.size w X) : OwnI y w.heap.size v zs := h.le hb.size
theorem own_ints {w y : World} {n c : Nat} {A : Option Addr} {zs : List Int} (h : OwnI y w.heap.size (.slice A n c) zs) : Ints y y.heap.size A zs := h.ints
theorem box_of_alloc {X y : World} {T : TypeId} {cs : Array Value} (h : Below (X.alloc (.cells cs T)).heap.size (X.alloc (.cells cs T)) y) : Box y X.heap.size T cs := (Box.new _ _ _).keep h
theorem box_of_alloc' {X y : World} {T : TypeId} {cs : Array Value} (h : Below (X.alloc (.cells cs T)).drew.heap.size (X.alloc (.cells cs T)).drew y) : Box y X.heap.size T cs := (Box.new _ _ _).drew.keep h
theorem Box.far {w y : World} {b : Nat} {T : TypeId} {cs : Array Value} (h : Box w b T cs) (l : Box y b T cs) (i : Nat) (v : Value) : Box (w.setCell ⟨y.heap.size, i, none⟩ v) b T cs := h.set (Nat.ne_of_lt l.lt) v
theorem bel_far {w x y : World} (h : Below w.heap.size w x) (l : Below w.heap.size w y) (i : Nat) (v : Value) : Below w.heap.size w (x.setCell ⟨y.heap.size, i, none⟩ v) := Below.setCell h l.size v
theorem OwnI.far {w y : World} {B : Nat} {v : Value} {zs : List Int} (h : OwnI w B v zs) (l : OwnI y B v zs) (i : Nat) (u : Value) : OwnI (w.setCell ⟨y.heap.size, i, none⟩ u) B v zs :=
  h.below (B' := y.heap.size) (Below.setCell (p := ⟨y.heap.size, i, none⟩) (Below.refl y.heap.size w) (Nat.le_refl y.heap.size) u) fun k hk => (l.lt k hk).2
end Go.Proofs.Ytbgigompkmnapaa

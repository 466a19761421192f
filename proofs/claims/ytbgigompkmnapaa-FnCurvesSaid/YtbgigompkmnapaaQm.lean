/- A region that draws its order, whose callees may make memory but answer one value: one walk of the lexical order. -/
import Derived.Test.YtbgigompkmnapaaBase
namespace Go.Proofs.Ytbgigompkmnapaa
set_option linter.unusedSimpArgs false
set_option linter.unusedVariables false
open Go.ChangeShapes Go.WideShapes Go.ChangeAt Go.RowKit

open Classical in
/-- y, if it leaves what lies below block N as w has it; w else. -/
noncomputable def mix (N : Nat) (w y : World) : World := if Below N w y then y else w
theorem mix_below (N : Nat) (w y : World) : Below N w (mix N w y) := by
  unfold mix
  split
  · assumption
  · exact Below.refl N w
theorem mix_of {N : Nat} {w x : World} (h : Below N w x) : ∃ y, x = mix N w y := ⟨x, by unfold mix; rw [if_pos h]⟩
theorem mix_ex {N : Nat} {w x : World} (h : ∃ y, x = mix N w y) : Below N w x := by obtain ⟨y, rfl⟩ := h; exact mix_below N w y
@[go_sem] theorem mix_cell (N : Nat) (w y : World) (b o : Nat) (h : b < N) : (mix N w y).cell? ⟨b, o, none⟩ = w.cell? ⟨b, o, none⟩ := (mix_below N w y).cell (p := ⟨b, o, none⟩) h
theorem mix_call {P : Program} {f : FuncId} {args : Array Value} {N : Nat} {w y : World} {v : Value} (hN : N ≤ w.heap.size) (h : Calls P f args (mix N w y) fun e w' => e = .returned v ∧ Below (mix N w y).heap.size (mix N w y) w') :
    Calls P f args (mix N w y) fun e w'' => e = .returned v ∧ ∃ y', w'' = mix N w y' :=
  h.mono fun _ _ ⟨he, hb⟩ => ⟨he, mix_of ((mix_below N w y).trans (hb.mono (Nat.le_trans hN (mix_below N w y).size)))⟩
theorem mix_same {P : Program} {f : FuncId} {args : Array Value} {N : Nat} {w y : World} {v : Value} (h : Calls P f args (mix N w y) fun e w' => e = .returned v ∧ mix N w y = w') :
    Calls P f args (mix N w y) fun e w'' => e = .returned v ∧ ∃ y', w'' = mix N w y' :=
  h.mono fun _ _ ⟨he, hb⟩ => ⟨he, y, hb.symm⟩
theorem below_eq {A B : Nat} {w w' : World} (e : A = B) (h : Below B w w') : Below A w w' := e ▸ h
theorem wp_region_mix {P : Program} {id : Nat} {Q : Exit → Act → World → Prop} {a : Act} {w : World} {l : List Oper} (N : Nat) (hm : P.follows .mixedOrders = true) (hB : Region.lexB .any l.toArray = true)
    (h : wpQuiet P l.toArray (fun x => ∃ y, x = mix N w y) (fun a' => ∀ x, (∃ y, x = mix N w y) → Q .normal a' x) l a) : (Code.region id l.toArray true).wp P Q a w :=
  wp_region_quiet (C := fun x => ∃ y, x = mix N w y) hm hB (mix_of (below_refl_drew N w)) (by simpa using h)
end Go.Proofs.Ytbgigompkmnapaa

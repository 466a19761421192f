/- Contracts of the smallest functions, over the seat's translation. -/
import Derived.Test.YthcoimlbjhdjcaaRows
import Derived.WalkKit
import Derived.ProofKit
import Derived.OpenShut
import Derived.WalkSpells
import Derived.WalkLawsBesides
import Derived.Outline
import Derived.Deep.RegionWith
import Derived.BigQuiet
import Derived.Deep.QuietTactic
namespace Go.Proofs.Ythcoimlbjhdjcaa
open Go.ChangeShapes Go.WideShapes Go.ChangeAt Go.RowKit

/-- x lies from a to b. -/
def inR (x a b : Int) : Bool := decide (a ≤ x ∧ x ≤ b)

theorem hid {p : Prop} (h : p) : Hid p := h
theorem _root_.Go.RowKit.Below.drewN {B : Nat} {a w : World} (h : Below B a w) (n : Nat) : Below B a (w.drewN n) := below_drewN h n
/-- A quiet callee that answers the bool b, known to be b', in a region that draws. -/
theorem quiet_bool {P : Program} {f : FuncId} {args : Array Value} {w : World} {n : Nat} {b b' : Bool} (h : Calls P f args (w.drewN n) fun e w' => e = .returned (.bool b) ∧ w.drewN n = w') (hb : b = b') :
    Calls P f args (w.drewN n) fun e w'' => e = .returned (.bool b') ∧ ∃ m, w'' = w.drewN m :=
  h.mono fun _ _ ⟨he, hw⟩ => ⟨by rw [he, hb], n, hw.symm⟩
theorem quiet_left {P : Program} {f : FuncId} {args : Array Value} {w : World} {n : Nat} {v : Value} (h : Calls P f args (w.drewN n) fun e w' => e = .returned v ∧ w.drewN n = w') :
    Calls P f args (w.drewN n) fun e w'' => e = .returned v ∧ ∃ m, w'' = w.drewN m :=
  h.mono fun _ _ ⟨he, hw⟩ => ⟨he, n, hw.symm⟩
/-- A callee that answers the bool b, known to be b'. -/
theorem calls_bool {P : Program} {f : FuncId} {args : Array Value} {w : World} {b b' : Bool} {R : World → Prop} (h : Calls P f args w fun e w' => e = .returned (.bool b) ∧ R w') (hb : b = b') :
    Calls P f args w fun e w' => e = .returned (.bool b') ∧ R w' :=
  h.mono fun _ _ ⟨he, hw⟩ => ⟨by rw [he, hb], hw⟩
theorem ret_bool {a b : Bool} (h : a = b) : Ending.returned (.bool a) = .returned (.bool b) := by rw [h]
theorem ret_int {k : IntKind} {a b : Int} (h : a = b) : Ending.returned (.int k a) = .returned (.int k b) := by rw [h]

theorem inRange_any (x a b : Int) (w : World) : Calls Try.prog 80 #[.int .i64 x, .int .i64 a, .int .i64 b] w fun e w' => e = .returned (.bool (inR x a b)) ∧ w = w' := by
  by_cases h1 : a ≤ x <;> by_cases h2 : x ≤ b
  all_goals
    go_enter Try.func80, Try.ntmps80
    go_wp2
    go_ret
    exact ⟨ret_bool (by simp [inR, h1, h2]), rfl⟩

theorem l00In_any (x a b : Int) (w : World) : Calls Try.prog 58 #[.int .i64 x, .int .i64 a, .int .i64 b] w fun e w' => e = .returned (.bool (inR x a b)) ∧ w = w' := by
  by_cases h1 : a ≤ x <;> by_cases h2 : x ≤ b
  all_goals
    go_enter Try.func58, Try.ntmps58
    go_wp2
    go_ret
    exact ⟨ret_bool (by simp [inR, h1, h2]), rfl⟩
end Go.Proofs.Ythcoimlbjhdjcaa

/- markPanel, for seats without heldPanel. -/
import Derived.Test.YtbgigompkmnapaaRg
namespace Go.Proofs.Ytbgigompkmnapaa
set_option linter.unusedSimpArgs false
set_option linter.unusedVariables false
open Go.ChangeShapes Go.WideShapes Go.ChangeAt Go.RowKit
set_option maxHeartbeats 400000 in
theorem markPanel_any (W H : Int) (A : Option Addr) (c : Nat) (zs : List Int) (k B : Nat) (w : World) (h : OwnI w B (.slice A zs.length c) zs) (hk : k + zs.length ≤ 4611686018427387904) :
    Calls Try.prog 18 #[.agg #[.int .i64 W, .int .i64 H, .slice A zs.length c], .int .i64 k] w fun e w' => e = .returned (.int .i64 ((k + zs.length : Nat) : Int)) ∧ OwnI w' B (.slice A zs.length c) (marks k zs.length) ∧ w.grownBy w' (Value.slice A zs.length c).ownBlock := by
  go_enter Try.func18, Try.ntmps18
  go_wp2_with fail
  refine (markInt64S_any _ zs _ B _ (h.alloc _) hk).mono ?_
  rintro e w1 ⟨rfl, ho, hg⟩
  have HO := hid ho
  have HG := hid hg
  clear ho hg h
  go_wp2_with fail
  go_ret
  exact ⟨rfl, HO.out, grown_trans' (World.grownBy_alloc w _ _) HG.out⟩

theorem markPanelR_any (W H : Int) (A : Option Addr) (c : Nat) (zs : List Int) (n k lo hi : Nat) (w : World) (h : Rgn w lo hi 2 1 (.slice A n c) n (vals zs)) (hk : k + n ≤ 4611686018427387904) :
    Calls Try.prog 18 #[.agg #[.int .i64 W, .int .i64 H, .slice A n c], .int .i64 k] w fun e w' => e = .returned (.int .i64 ((k + n : Nat) : Int)) ∧ Rgn w' lo hi 2 1 (.slice A n c) n (vals (marks k n)) ∧ Chg w w' lo hi := by
  obtain rfl : n = zs.length := by have := h.1.1; simp [vals] at this; omega
  refine (markPanel_any W H A c zs k lo w h.1 hk).mono ?_
  rintro e w' ⟨rfl, ho, hg⟩
  refine ⟨rfl, ⟨?_, h.2⟩, Chg.of_grown hg h.row⟩
  have := ho
  unfold OwnI at this
  rwa [marks_length] at this
end Go.Proofs.Ytbgigompkmnapaa

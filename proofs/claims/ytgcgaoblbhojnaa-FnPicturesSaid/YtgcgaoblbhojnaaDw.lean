/- A2Walker: a valid walker in a valid panel. -/
import Derived.Test.YtgcgaoblbhojnaaDa
import Derived.Test.YtgcgaoblbhojnaaFs
import Derived.Test.YtgcgaoblbhojnaaBk
import Derived.RegionTactic
import Derived.BigRegion
namespace Go.Proofs.Ytgcgaoblbhojnaa
set_option linter.unusedSimpArgs false
set_option linter.unusedVariables false
open Go.ChangeShapes Go.WideShapes Go.ChangeAt Go.RowKit
theorem grown_set1 (w : World) (b i : Nat) (v : Value) : w.grownBy (w.setCell ⟨b, i, none⟩ v) (some b) :=
  ⟨rfl, rfl, rfl, by simp, fun k _ hne => Below.heap_setCell _ _ _ k (fun e => hne (by rw [e]))⟩
set_option maxHeartbeats 1000000 in
theorem one_any (b K : Nat) (A : Option Addr) (n c B : Nat) (bs : List Int) (m : Int) (w : World) (hn : bs.length = n) (h : SrcP w b K A n c) (hb : BytesR w B A bs) (hB : B ≤ b) (hK : K ≤ 1000000) (hnl : n ≤ 5000) (hm : 1 ≤ m) (hm2 : m ≤ 200) :
    Calls Try.prog 94 #[.pointer (some ⟨b, 0, none⟩), .int .i64 m] w fun e w' => (∃ t : Bool, e = .returned (.bool t)) ∧ SrcP w' b (K + 1) A n c ∧ w.grownBy w' (some b) := by
  have HN := hid hn
  have HS := hid h
  have HBY := hid hb
  clear hn h hb
  go_enter Try.func94, Try.ntmps94
  go_wp2_with fail
  refine (pick_any b K A n c B bs m _ HN.out HS.out HBY.out hB hK hnl hm hm2).mono ?_
  rintro e w1 ⟨⟨x, ⟨x1, x2⟩, rfl⟩, hs1, hg1⟩
  have HS1 := hid hs1
  have HG1 := hid hg1
  clear hs1 hg1
  go_wp2_with fail
  go_ret
  exact ⟨⟨_, rfl⟩, HS1.out, HG1.out⟩
theorem own_setother {w : World} {lo n p s : Nat} {v : Value} {T T' : TypeId} {cs : List Value} {ds : Array Value} (h : w.ownsRow lo T s v n cs) (hb : Box w p T' ds) (hT : T ≠ T') (i : Nat) (u : Value) : (w.setCell ⟨p, i, none⟩ u).ownsRow lo T s v n cs := by
  refine World.ownsRow.kept h (grown_set1 w p i u) ?_
  cases e : v.ownBlock with
  | none => exact .inl rfl
  | some g =>
    right
    intro he
    have e' : g = p := by injection he
    subst e'
    obtain ⟨c, f, h1⟩ := Go.Lib.ownsRow_kind h g e
    have h2 : w.heap[g]? = _ := hb
    rw [h1] at h2
    injection h2 with h2
    injection h2 with _ h2 _
    exact hT h2
/-- What A2Walker hands back. -/
def A2W (w : World) (most : Int) (e : Ending) (w' : World) : Prop :=
  ∃ (W H : Int) (zs : List Int) (A' : Option Addr) (c' : Nat) (x y u v : Int), (validB W H zs = true ∧ W ≤ most ∧ H ≤ most ∧ okS W H (x, y, u, v)) ∧ e = .returned (.tuple #[.agg #[.int .i64 W, .int .i64 H, .slice A' zs.length c'], .agg #[.int .i64 x, .int .i64 y, .int .i64 u, .int .i64 v]]) ∧ w'.ownsRow w.heap.size 2 1 (.slice A' zs.length c') zs.length (vals zs) ∧ Below w.heap.size w w'
end Go.Proofs.Ytgcgaoblbhojnaa

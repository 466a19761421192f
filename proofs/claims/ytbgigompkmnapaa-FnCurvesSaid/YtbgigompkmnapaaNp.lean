/- NewPanel. -/
import Derived.Test.YtbgigompkmnapaaEi
import Derived.OwnWalk
import Derived.Laws.OwnMore
namespace Go.Proofs.Ytbgigompkmnapaa
set_option linter.unusedSimpArgs false
set_option linter.unusedVariables false
open Go.ChangeShapes Go.WideShapes Go.ChangeAt Go.RowKit
/-- What NewPanel answers. -/
def npB (a b : Int) : Bool := side a && side b
def npW (a b : Int) : Int := if npB a b then a else 0
def npH (a b : Int) : Int := if npB a b then b else 0
def npN (a b : Int) : Nat := if npB a b then (inner a b).toNat else 0
def npC (a b : Int) : Int := if npB a b then 0 else 2
def npL (a b : Int) : List Int := List.replicate (npN a b) 0
theorem npN_le (a b : Int) : npN a b ≤ 112 := by
  unfold npN npB
  split
  · rename_i h
    simp only [Bool.and_eq_true] at h
    have := inner_bd h.1 h.2
    unfold inner
    omega
  · omega
theorem npL_len (a b : Int) : (npL a b).length = npN a b := by simp [npL]
theorem made0 (n : Nat) : (madeCells (Value.int .i64 0).cells (n * 1)).toList = vals (List.replicate n 0) := by
  rw [Nat.mul_one]
  show (madeCells #[Value.int .i64 0] n).toList = _
  rw [toList_madeCells_one]
  simp [vals]
set_option maxHeartbeats 800000 in
theorem l02New_any (a b : Int) (w : World) (ha : side a = true) (hb : side b = true) :
    Calls Try.prog 114 #[.int .i64 a, .int .i64 b] w fun e w' => (∃ A' c', e = .returned (.agg #[.int .i64 a, .int .i64 b, .slice A' (inner a b).toNat c']) ∧ w'.ownsRow w.heap.size 2 1 (.slice A' (inner a b).toNat c') (inner a b).toNat (vals (List.replicate (inner a b).toNat 0))) ∧ Below w.heap.size w w' := by
  obtain ⟨i0, hi, hz0, hz1, hz2⟩ := info_parts infoI
  have hib : 0 ≤ inner a b ∧ inner a b ≤ 112 := by have := inner_bd ha hb; unfold inner; omega
  obtain ⟨n, hn⟩ : ∃ n : Nat, inner a b = n := ⟨(inner a b).toNat, by omega⟩
  have hN : (inner a b).toNat = n := by omega
  rw [hN]
  have hnl : n ≤ 112 := by omega
  have HN := hid hn
  clear hib hn hN
  go_enter Try.func114, Try.ntmps114
  go_wp2_with fail
  refine (l02Inner_any a b _ ha hb).mono ?_
  rintro e w' ⟨rfl, rfl⟩
  rw [HN.out]
  go_wp2_with (at_make; refine wpList_make_full _ rfl _ _ _ rfl (w.heap.size + 1) 2 i0 (.int .i64 0) 1 Try.underlying22 hi hz0 hz1 _ _ _ _ n rfl rfl rfl rfl (by rw [hz2]; omega) (by unfold maxLen; omega) (by simp) ?_; intro w2 hown hgr; have hb2 : Below w.heap.size w w2 := Below.trans (bal (Below.refl _ _) _) (((Below.refl _ _).grown hgr (Nat.le_refl _) (by simp)).mono (by simp)); have KR := Box.keep (Box.new w _ _) ((Below.refl _ _).grown hgr (Nat.le_refl _) (by simp)); have HB := hid hb2; have HK := hid KR; have HO := hid hown; clear hb2 KR hown hgr; have kz := HK.out.lt; obtain ⟨k0, k1, k2⟩ := HK.out.three; have kf := HK.out.free)
  have hbE := HB.out
  have ho := HO.out
  rw [made0] at ho
  refine bodyPost_ret (v := .agg #[.int .i64 a, .int .i64 b, .slice (some ⟨w.heap.size + 1, 0, none⟩) n n]) (by simp [results, Try.results114, go_sem, *]) rfl ⟨⟨_, _, rfl, ?_⟩, ?_⟩
  · refine Go.Joins.ownsRow_le (base := w.heap.size + 1) ?_ (by omega)
    repeat (refine ownsRow_setCell_below ?_ (by simp) _)
    simpa using ho
  · exact Below.setCell (Below.setCell (Below.setCell hbE (by simp) _) (by simp) _) (by simp) _
theorem eqPanelR_any (W H : Int) (A1 A2 : Option Addr) (c1 c2 : Nat) (zs : List Int) (n B1 B2 : Nat) (w : World) (h1 : w.ownsRow B1 2 1 (.slice A1 n c1) n (vals zs)) (h2 : w.ownsRow B2 2 1 (.slice A2 n c2) n (vals zs)) (hn : n ≤ maxLen) :
    Calls Try.prog 17 #[.agg #[.int .i64 W, .int .i64 H, .slice A1 n c1], .agg #[.int .i64 W, .int .i64 H, .slice A2 n c2]] w fun e w' => e = .returned (.bool true) ∧ Below w.heap.size w w' := by
  obtain rfl := own_len h1
  exact eqPanel_any W H W H A1 A2 c1 c2 zs zs w (OwnI.ints (own_I h1)) (OwnI.ints (own_I h2)) hn hn rfl rfl rfl
end Go.Proofs.Ytbgigompkmnapaa

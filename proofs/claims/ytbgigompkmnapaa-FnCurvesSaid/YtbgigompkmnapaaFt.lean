/- a2At; what FnSteps meets. -/
import Derived.Test.YtbgigompkmnapaaDw
import Derived.Test.YtbgigompkmnapaaSw
import Derived.Test.YtbgigompkmnapaaWk
namespace Go.Proofs.Ytbgigompkmnapaa
set_option linter.unusedSimpArgs false
set_option linter.unusedVariables false
open Go.ChangeShapes Go.WideShapes Go.ChangeAt Go.RowKit
set_option maxHeartbeats 1000000 in
theorem a2At_any (A : Option Addr) (n c B : Nat) (bs : List Int) (at' m : Int) (w : World) (hn : bs.length = n) (hb : BytesR w B A bs) (h0 : 0 ≤ at') (h1 : at' ≤ 1000) (hm : 1 ≤ m) (hm2 : m ≤ 1000000) :
    Calls Try.prog 37 #[.slice A n c, .int .i64 at', .int .i64 m] w fun e w' => (∃ r : Int, (0 ≤ r ∧ r ≤ m - 1) ∧ e = .returned (.int .i64 r)) ∧ w = w' := by
  obtain ⟨i, rfl⟩ : ∃ i : Nat, at' = (i : Int) := ⟨at'.toNat, by omega⟩
  have HN := hid hn
  clear hn
  by_cases hlt : i < n
  · obtain ⟨z, hz⟩ : ∃ z, bs[i]? = some z := ⟨_, List.getElem?_eq_getElem (by have := HN.out; omega)⟩
    obtain ⟨⟨z0, z1⟩, bb, off, rfl, hbb, hcc⟩ := hb i z hz
    clear hz hb
    have hmod : 0 ≤ z % m ∧ z % m ≤ m - 1 := ⟨Int.emod_nonneg _ (by omega), by have := Int.emod_lt_of_pos z (show 0 < m by omega); omega⟩
    obtain ⟨r, hr⟩ : ∃ r, z % m = r := ⟨_, rfl⟩
    have hr2 : Int.tmod z m = r := by rw [Int.tmod_eq_emod_of_nonneg z0]; exact hr
    rw [hr] at hmod
    obtain ⟨r1, r2⟩ := hmod
    have hm0 : ¬ (m = 0) := by omega
    clear hr
    go_enter Try.func37, Try.ntmps37
    go_wp2_with fail
    go_ret
    exact ⟨⟨r, ⟨r1, r2⟩, rfl⟩, rfl⟩
  · go_enter Try.func37, Try.ntmps37
    go_wp2_with fail
    go_ret
    exact ⟨⟨0, ⟨by omega, by omega⟩, rfl⟩, rfl⟩
theorem ok_wb {W H : Int} {zs : List Int} (hv : validB W H zs = true) {x y u v : Int} (h : okS W H (x, y, u, v)) : validWB W H zs x y u v = true := by unfold validWB; rw [hv]; exact h
theorem ok_bd {W H : Int} {zs : List Int} (hv : validB W H zs = true) {x y u v : Int} (h : okS W H (x, y, u, v)) : 0 ≤ x ∧ x ≤ 16 ∧ 0 ≤ y ∧ y ≤ 16 ∧ -1 ≤ u ∧ u ≤ 1 ∧ -1 ≤ v ∧ v ≤ 1 := wb_bd (ok_wb hv h)
theorem stp_facts {W H : Int} {zs : List Int} (hv : validB W H zs = true) {x y u v : Int} (hs : okS W H (x, y, u, v)) : ∃ (x1 y1 u1 v1 x2 y2 u2 v2 x3 y3 u3 v3 : Int) (t : Bool),
    ((0 ≤ x1 ∧ x1 ≤ 16 ∧ 0 ≤ y1 ∧ y1 ≤ 16 ∧ -1 ≤ u1 ∧ u1 ≤ 1 ∧ -1 ≤ v1 ∧ v1 ≤ 1) ∧ (0 ≤ x2 ∧ x2 ≤ 16 ∧ 0 ≤ y2 ∧ y2 ≤ 16 ∧ -1 ≤ u2 ∧ u2 ≤ 1 ∧ -1 ≤ v2 ∧ v2 ≤ 1) ∧ (0 ≤ x3 ∧ x3 ≤ 16 ∧ 0 ≤ y3 ∧ y3 ≤ 16 ∧ -1 ≤ u3 ∧ u3 ≤ 1 ∧ -1 ≤ v3 ∧ v3 ≤ 1)) ∧
    (swX W H zs x y u v = x1 ∧ swY W H zs x y u v = y1 ∧ swU W H zs x y u v = u1 ∧ swV W H zs x y u v = v1 ∧ codeW W H zs x y u v = 0) ∧
    (validWB W H zs x y u v = true ∧ validWB W H zs x1 y1 u1 v1 = true ∧ validWB W H zs x2 y2 u2 v2 = true) ∧
    (bwX W H zs x1 y1 u1 v1 = x2 ∧ bwY W H zs x1 y1 u1 v1 = y2 ∧ bwU W H zs x1 y1 u1 v1 = u2 ∧ bwV W H zs x1 y1 u1 v1 = v2 ∧ codeW W H zs x1 y1 u1 v1 = 0) ∧
    (bwX W H zs x y u v = x3 ∧ bwY W H zs x y u v = y3 ∧ bwU W H zs x y u v = u3 ∧ bwV W H zs x y u v = v3) ∧
    turnR W H zs x y u v = t ∧
    (swX W H zs x2 y2 u2 v2 = x3 ∧ swY W H zs x2 y2 u2 v2 = y3 ∧ swU W H zs x2 y2 u2 v2 = u3 ∧ swV W H zs x2 y2 u2 v2 = v3 ∧ codeW W H zs x2 y2 u2 v2 = 0) ∧
    (x1 - x = u ∧ y1 - y = v) ∧ ((u1 = u ∧ v1 = v ∧ t = false) ∨ (u1 = u ∧ v1 ≠ v ∧ t = true) ∨ (u1 ≠ u ∧ t = true)) := by
  have h1 := okS_step hv hs
  have h2 := okS_back h1
  have h3 := okS_back hs
  have e := step_back (W := W) (H := H) (zs := zs) (x, y, u, v)
  obtain ⟨x1, y1, u1, v1, hst⟩ : ∃ a b c d, stepW W H zs (x, y, u, v) = (a, b, c, d) := ⟨_, _, _, _, rfl⟩
  obtain ⟨x2, y2, u2, v2, hbk⟩ : ∃ a b c d, backS (x1, y1, u1, v1) = (a, b, c, d) := ⟨_, _, _, _, rfl⟩
  obtain ⟨x3, y3, u3, v3, hbs⟩ : ∃ a b c d, backS (x, y, u, v) = (a, b, c, d) := ⟨_, _, _, _, rfl⟩
  rw [hst, hbk, hbs] at e
  rw [hst] at h1
  rw [hst, hbk] at h2
  rw [hbs] at h3
  have v0 := ok_wb hv hs
  have v1' := ok_wb hv h1
  have v2' := ok_wb hv h2
  have hst' := hst
  have hbk' := hbk
  have hbs' := hbs
  have e' := e
  simp only [stepW, Prod.mk.injEq] at hst' e'
  simp only [backS, Prod.mk.injEq] at hbk' hbs'
  obtain ⟨s1, s2, s3, s4⟩ := hst'
  obtain ⟨k1, k2, k3, k4⟩ := hbk'
  obtain ⟨b1, b2, b3, b4⟩ := hbs'
  obtain ⟨r1, r2, r3, r4⟩ := e'
  refine ⟨x1, y1, u1, v1, x2, y2, u2, v2, x3, y3, u3, v3, (u1 != u || v1 != v), ⟨ok_bd hv h1, ok_bd hv h2, ok_bd hv h3⟩, ?_, ⟨v0, v1', v2'⟩, ?_, ?_, ?_, ?_, ?_, ?_⟩
  · simp only [swX, swY, swU, swV, codeW, v0, if_true]; exact ⟨s1, s2, s3, s4, trivial⟩
  · simp only [bwX, bwY, bwU, bwV, codeW, v1', if_true]; exact ⟨k1, k2, k3, k4, trivial⟩
  · simp only [bwX, bwY, bwU, bwV, v0, if_true]; exact ⟨b1, b2, b3, b4⟩
  · simp only [turnR, v0, s3, s4, Bool.true_and]
  · simp only [swX, swY, swU, swV, codeW, v2', if_true]; exact ⟨r1, r2, r3, r4, trivial⟩
  · omega
  · by_cases e1 : u1 = u
    · by_cases e2 : v1 = v
      · left; simp [e1, e2]
      · right; left; simp [e1, e2]
    · right; right; simp [e1]
theorem wlk_facts {W H : Int} {zs : List Int} (hv : validB W H zs = true) {x y u v a : Int} (hs : okS W H (x, y, u, v)) (h0 : 0 ≤ a) (h1 : a ≤ 1000) : ∃ (x1 y1 u1 v1 : Int),
    (0 ≤ x1 ∧ x1 ≤ 16 ∧ 0 ≤ y1 ∧ y1 ≤ 16 ∧ -1 ≤ u1 ∧ u1 ≤ 1 ∧ -1 ≤ v1 ∧ v1 ≤ 1) ∧ okS W H (x1, y1, u1, v1) ∧ itW W H zs a.toNat (x, y, u, v) = (x1, y1, u1, v1) ∧ validWB W H zs x1 y1 u1 v1 = true ∧
    ((wsS W H zs x y u v a).1 = x1 ∧ (wsS W H zs x y u v a).2.1 = y1 ∧ (wsS W H zs x y u v a).2.2.1 = u1 ∧ (wsS W H zs x y u v a).2.2.2 = v1 ∧ wsC W H zs x y u v a = 0) := by
  have h2 := okS_it hv hs a.toNat
  obtain ⟨x1, y1, u1, v1, hst⟩ : ∃ a' b c d, itW W H zs a.toNat (x, y, u, v) = (a', b, c, d) := ⟨_, _, _, _, rfl⟩
  rw [hst] at h2
  have hr : inR a 0 10000 = true := by simp [inR]; omega
  have hw : wsS W H zs x y u v a = (x1, y1, u1, v1) := by simp [wsS, ok_wb hv hs, hr, hst]
  refine ⟨x1, y1, u1, v1, ok_bd hv h2, h2, hst, ok_wb hv h2, ?_⟩
  rw [hw]
  exact ⟨rfl, rfl, rfl, rfl, by simp [wsC, ok_wb hv hs, hr]⟩
end Go.Proofs.Ytbgigompkmnapaa

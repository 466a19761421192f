/- Plain: what the walk of FnMeetings meets. -/
import Derived.Test.YtbgigompkmnapaaMb
import Derived.Test.YtbgigompkmnapaaMw
import Derived.Test.YtbgigompkmnapaaCu
import Derived.Test.YtbgigompkmnapaaCb
import Derived.Test.YtbgigompkmnapaaPa
namespace Go.Proofs.Ytbgigompkmnapaa
set_option linter.unusedSimpArgs false
set_option linter.unusedVariables false
theorem ok_wbM {W H : Int} {zs : List Int} (hv : validB W H zs = true) {x y u v : Int} (h : okS W H (x, y, u, v)) : validWB W H zs x y u v = true := by unfold validWB; rw [hv]; exact h
theorem wf64M {z : Int} (h1 : -9223372036854775808 ≤ z) (h2 : z ≤ 9223372036854775807) : (Lit.int .i64 z).wf = true := by
  simp [Lit.wf, IntKind.min, IntKind.max, IntKind.bits, IntKind.signed]
  omega
theorem pairS_le (f : Nat → Nat → Nat) {a n : Nat} (h : a ≤ n) : pairS f a ≤ pairS f n := by
  induction n with
  | zero => rw [Nat.le_zero.1 h]; exact Nat.le_refl _
  | succ n ih =>
    rcases Nat.lt_or_ge n a with e | e
    · rw [show a = n + 1 by omega]; exact Nat.le_refl _
    · have := ih e
      simp only [pairS]
      omega
theorem rowS_le (f : Nat → Nat → Nat) (a : Nat) {b n : Nat} (h : b ≤ n) : rowS f a b ≤ rowS f a n := by
  induction n with
  | zero => rw [Nat.le_zero.1 h]; exact Nat.le_refl _
  | succ n ih =>
    rcases Nat.lt_or_ge n b with e | e
    · rw [show b = n + 1 by omega]; exact Nat.le_refl _
    · have := ih e
      simp only [rowS]
      omega
theorem part_le (f : Nat → Nat → Nat) {a b n : Nat} (h : a < n) (hb : b ≤ a) : pairS f a + f a a + rowS f a b ≤ pairS f n := by
  have h1 := pairS_le f (show a + 1 ≤ n by omega)
  have h2 := rowS_le f a hb
  simp only [pairS] at h1
  omega
theorem own_bd {W H : Int} {zs : List Int} (hv : validB W H zs = true) {g : Nat} (hg : g < (4 * W * H).toNat) : ∃ z : Nat, (owL W H zs)[g]? = some (z : Int) ∧ z < (trS W H zs (4 * W * H).toNat).1.length := by
  have I := trS_inv hv _ (Nat.le_refl _)
  obtain ⟨y, hy, h0⟩ := I.done g hg
  rcases I.val g 0 y hy with e | ⟨_, e⟩
  · omega
  · exact ⟨y.toNat, by unfold owL; rw [hy]; congr 1; omega, by omega⟩
theorem ow_bd {W H : Int} {zs : List Int} (hv : validB W H zs = true) {x y u v : Int} (h : okS W H (x, y, u, v)) : 0 ≤ ow H (owL W H zs) x y u v ∧ ow H (owL W H zs) x y u v < (trS W H zs (4 * W * H).toNat).1.length := by
  obtain ⟨z, hz, hl⟩ := own_bd hv (segN_lt hv h)
  have := ow_some hv (owL_len hv) h
  rw [hz] at this
  injection this with this
  omega
theorem cnt_range (k : Int) : ∀ zs : List Int, cntK k zs = (List.range zs.length).countP fun j => zs.getD j 0 == k := by
  intro zs
  have e : zs = (List.range zs.length).map fun j => zs.getD j 0 := by
    apply List.ext_getElem
    · simp
    · intro i h1 h2
      simp [List.getD_eq_getElem?_getD, List.getElem?_eq_getElem h1]
  unfold cntK
  conv => lhs; rw [e]
  rw [← List.countP_eq_length_filter, List.countP_map]
  rfl
/-- What the walk of FnMeetings needs to know. -/
def MeetP (W H : Int) (zs : List Int) (N : Nat) (f : Nat → Nat → Nat) : Prop :=
  (ccR W H zs = N ∧ ccC W H zs = 0 ∧ cntR W H zs 0 = (pairS f N : Nat) ∧ cntC W H zs 0 = 0) ∧ (N ≤ 256 ∧ pairS f N ≤ 200) ∧
  (∀ a : Nat, a < N → slR W H zs a = (f a a : Nat) ∧ ccF W H zs [(a : Int)] = 0) ∧
  (∀ a b : Nat, a < N → b < a → cmR W H zs a b = (f a b : Nat) ∧ cmC W H zs a b = 0 ∧ f a b % 2 = 0)
theorem meet_facts {W H : Int} {zs : List Int} (hv : validB W H zs = true) : ∃ N f, MeetP W H zs N f := by
  have hs := valid_sides hv
  have hl := valid_len hv
  have hile := inner_le hs.1 hs.2
  obtain ⟨N, hN⟩ : ∃ N, (trS W H zs (4 * W * H).toNat).1.length = N := ⟨_, rfl⟩
  have hf := tr_few hv
  have hsum := cross_sum (W := W) (H := H) (zs := zs) N (by
    intro k hk h0
    have hc := pt_code hv hk
    have b1 := ow_bd hv (okS_inner hc (.inr rfl) (.inr rfl)).1
    have b2 := ow_bd hv (okS_inner hc (.inl rfl) (.inr rfl)).1
    rw [hN] at b1 b2
    exact ⟨b1, b2⟩) zs.length (Nat.le_refl _)
  rw [← cnt_range] at hsum
  have hcl := cntK_le 0 zs
  have hin : ∀ a : Nat, a < N → inR a 0 (ncF W H zs - 1) = true := by intro a ha; unfold ncF; rw [hN]; simp [inR]; omega
  have h1 : ∀ a : Nat, a < N → ccF W H zs [(a : Int)] = 0 := by intro a ha; simp [ccF, hv, hin a ha]
  refine ⟨N, fun a b => xC W H zs a b zs.length, ⟨by simp [ccR, hv, hN], by simp [ccC, hv], ?_, by simp [cntC, hv]; rfl⟩, ⟨by omega, by omega⟩, fun a ha => ⟨by unfold slR; rw [if_pos (h1 a ha)], h1 a ha⟩, ?_⟩
  · rw [hsum]; simp [cntR, hv]; intro h; exact absurd h (by decide)
  · intro a b ha hb
    have h2 : ccF W H zs [(a : Int), (b : Int)] = 0 := by simp [ccF, hv, hin a ha, hin b (by omega)]
    have h3 : cmC W H zs a b = 0 := by unfold cmC; rw [if_pos h2, if_neg (by omega)]
    exact ⟨by unfold cmR; rw [if_pos h3], h3, xC_even hv (by omega)⟩
/-- What is met at a point. -/
def AtP (W H : Int) (zs : List Int) (k : Int) : Prop :=
  ∃ x y g d : Int, (0 ≤ x ∧ x ≤ 16 ∧ 0 ≤ y ∧ y ≤ 16 ∧ 0 ≤ g ∧ g ≤ 256 ∧ 0 ≤ d ∧ d ≤ 256) ∧ (ptRX W H zs k = x ∧ ptRY W H zs k = y ∧ ptRC W H zs k = 0) ∧ codeP W H zs x y = 0 ∧ (sgR W H zs x y 1 1 = g ∧ codeW W H zs x y 1 1 = 0) ∧ (caR W H zs g = d ∧ caC W H zs g = 0) ∧
    (thL W H zs x y = [d] ∨ (∃ e : Int, e ≤ 256 ∧ d < e ∧ thL W H zs x y = [d, e]) ∨ ∃ e : Int, 0 ≤ e ∧ e < d ∧ thL W H zs x y = [e, d])
theorem at_facts {W H : Int} {zs : List Int} (hv : validB W H zs = true) {k : Int} (h0 : 0 ≤ k) (h1 : k ≤ (zs.length : Int) - 1) : AtP W H zs k := by
  obtain ⟨n, rfl⟩ : ∃ n : Nat, k = n := ⟨k.toNat, by omega⟩
  have hk : n < zs.length := by omega
  have hs := valid_sides hv
  have hl := valid_len hv
  have hf := tr_few hv
  have b1 := side_bd hs.1
  have b2 := side_bd hs.2
  have hc := pt_code hv hk
  have pb := pt_bd hs.1 hs.2 h0 (by omega)
  have hr : inR n 0 ((zs.length : Int) - 1) = true := by simp [inR]; omega
  obtain ⟨x, hx⟩ : ∃ x, ptX W H n = x := ⟨_, rfl⟩
  obtain ⟨y, hy⟩ : ∃ y, ptY W H n = y := ⟨_, rfl⟩
  rw [hx, hy] at hc pb
  have ok := (okS_inner hc (.inl rfl) (.inl rfl)).1
  have vw := ok_wbM hv ok
  have sb := segS_bd hv ok
  have sl := segN_lt hv ok
  have hsg := segs_bd hs.1 hs.2
  obtain ⟨p, q, e0, e1, e2⟩ := ct_two hc
  have ob1 := ow_bd hv ok
  have ob2 := ow_bd hv (okS_inner hc (.inr rfl) (.inr rfl)).1
  have ob3 := ow_bd hv (okS_inner hc (.inr rfl) (.inl rfl)).1
  have ob4 := ow_bd hv (okS_inner hc (.inl rfl) (.inr rfl)).1
  have hr2 : inR (segS H (x, y, 1, 1)) 0 (4 * W * H - 1) = true := by simp [inR]; omega
  have th : thL W H zs x y = ctL p q := by unfold thL; rw [hc, if_pos rfl, e2]
  refine ⟨x, y, segS H (x, y, 1, 1), ow H (owL W H zs) x y 1 1, ⟨by omega, by omega, by omega, by omega, by omega, by omega, by omega, by omega⟩, ⟨by simp [ptRX, hv, hr, hx], by simp [ptRY, hv, hr, hy], by simp [ptRC, hv, hr]⟩, by simpa using hc, ⟨by simp [sgR, vw, segS], by simp [codeW, vw]⟩, ⟨by simp [caR, hv, hr2, ow, owL, segN], by simp [caC, hv, hr2]⟩, ?_⟩
  rw [th]
  obtain ⟨d, hd⟩ : ∃ d, ow H (owL W H zs) x y 1 1 = d := ⟨_, rfl⟩
  rw [hd] at ob1 ⊢
  rw [e0] at ob2
  have hor : (d = p ∨ d = q) ∧ (0 ≤ q ∧ q ≤ 256) := by
    rcases e1 with ⟨_, k1, k2, k3⟩ | ⟨_, k1, k2, k3⟩ | ⟨_, k1, k2, k3⟩ <;> omega
  unfold ctL
  by_cases epq : p = q
  · left; rw [if_pos epq]; congr 1; omega
  · rw [if_neg epq]
    right
    by_cases hlt : d = min p q
    · left; exact ⟨max p q, by omega, by omega, by rw [hlt]⟩
    · right; exact ⟨min p q, by omega, by omega, by rw [show d = max p q by omega]⟩
end Go.Proofs.Ytbgigompkmnapaa

/- What FnPoints meets. -/
import Derived.Test.YtbgigompkmnapaaFt
import Derived.Test.YtbgigompkmnapaaCb
import Derived.Test.YtbgigompkmnapaaPa
import Derived.Test.YtbgigompkmnapaaNo
import Derived.Test.YtbgigompkmnapaaPe
import Derived.Test.YtbgigompkmnapaaIb
import Derived.Test.YtbgigompkmnapaaSb
import Derived.Test.YtbgigompkmnapaaMk
namespace Go.Proofs.Ytbgigompkmnapaa
set_option linter.unusedSimpArgs false
set_option linter.unusedVariables false
open Go.ChangeShapes Go.WideShapes Go.ChangeAt Go.RowKit
theorem innerPoints_yes (x y : Int) (w : World) (hx : side x = true) (hy : side y = true) : Calls Try.prog 39 #[.int .i64 x, .int .i64 y] w fun e w' => e = .returned (.tuple #[.int .i64 (inner x y), .int .i64 0]) ∧ w = w' := by
  have H : Hid ((side x && side y) = true) := hid (by simp [hx, hy])
  have HX := hid hx
  have HY := hid hy
  clear hx hy
  go_enter Try.func39, Try.ntmps39
  go_wp2_with (first | (go_at_call 93; refine (calls_bool (validSize_any _ _ _) H.out).mono ?_; rintro e w' ⟨rfl, rfl⟩) | (go_at_call 94; refine (innerPoints_any _ _ _ HX.out HY.out).mono ?_; rintro e w' ⟨rfl, rfl⟩))
  go_ret2
  exact ⟨rfl, rfl⟩
theorem cnt_sum (zs : List Int) (h : ∀ z ∈ zs, kindOk z = true) : cntK 0 zs + cntK 1 zs + cntK 2 zs = zs.length := by
  unfold cntK
  induction zs with
  | nil => rfl
  | cons z zs ih =>
    have h0 := ih (fun z hz => h z (List.mem_cons_of_mem _ hz))
    have h1 : 0 ≤ z ∧ z ≤ 2 := by have := h z List.mem_cons_self; simpa [kindOk, inR] using this
    have h2 : z = 0 ∨ z = 1 ∨ z = 2 := by omega
    rcases h2 with rfl | rfl | rfl <;> simp [List.filter_cons] <;> omega
theorem valid_kindsF {W H : Int} {zs : List Int} (h : validB W H zs = true) : ∀ z ∈ zs, kindOk z = true := by
  simp only [validB, Bool.and_eq_true, List.all_eq_true] at h
  exact h.2
theorem cnt_sums (zs : List Int) (h : ∀ z ∈ zs, kindOk z = true) : ∃ S : Nat → Nat, S 0 = 0 ∧ (∀ k : Nat, k < 3 → S (k + 1) = S k + cntK k zs) ∧ S 3 = zs.length ∧ ∀ k : Nat, k ≤ 3 → S k ≤ zs.length := by
  have hs := cnt_sum zs h
  refine ⟨fun k => (if 0 < k then cntK 0 zs else 0) + (if 1 < k then cntK 1 zs else 0) + (if 2 < k then cntK 2 zs else 0), rfl, ?_, ?_, ?_⟩
  · intro k hk
    have h3 : k = 0 ∨ k = 1 ∨ k = 2 := by omega
    rcases h3 with rfl | rfl | rfl <;> simp
  · simp; omega
  · intro k hk
    have h3 : k = 0 ∨ k = 1 ∨ k = 2 ∨ k = 3 := by omega
    rcases h3 with rfl | rfl | rfl | rfl <;> simp <;> omega
theorem rowF_le {W : Int} (hW : side W = true) {y z : Int} (hy : 1 ≤ y) (h : y ≤ z) : rowF W y ≤ rowF W z := by
  unfold rowF
  rcases side_cases hW with rfl | rfl | rfl | rfl | rfl | rfl | rfl | rfl <;> omega
/-- Points lie by rows. -/
theorem pt_next {W H k : Int} (hW : side W = true) (hH : side H = true) (h0 : 0 ≤ k) (hk : k + 1 < inner W H) : ptY W H k < ptY W H (k + 1) ∨ (ptY W H (k + 1) = ptY W H k ∧ ptX W H k < ptX W H (k + 1)) := by
  obtain ⟨h1, h2, h3, h4⟩ := ptY_spec hW hH h0 (by omega : k < inner W H)
  obtain ⟨k1, k2, k3, k4⟩ := ptY_spec hW hH (by omega : 0 ≤ k + 1) hk
  by_cases e : ptY W H (k + 1) = ptY W H k
  · right
    refine ⟨e, ?_⟩
    unfold ptX
    rw [e]
    omega
  · by_cases g : ptY W H k < ptY W H (k + 1)
    · exact .inl g
    · have := rowF_le hW (by omega : 1 ≤ ptY W H (k + 1) + 1) (by omega : ptY W H (k + 1) + 1 ≤ ptY W H k)
      omega
theorem pnt_facts {W H : Int} {zs : List Int} (hv : validB W H zs = true) {k : Nat} (hk : k < zs.length) : ∃ X Y : Int,
    (1 ≤ X ∧ X ≤ 15 ∧ 1 ≤ Y ∧ Y ≤ 15) ∧ (ptX W H k = X ∧ ptY W H k = Y) ∧ (ptRX W H zs k = X ∧ ptRY W H zs k = Y ∧ ptRC W H zs k = 0) ∧ (nuR W H zs X Y = k ∧ codeP W H zs X Y = 0) ∧ brR W H zs X Y = zs.getD k 0 ∧ isPointB W H zs X Y = true ∧ isBorderB W H zs X Y = false ∧ numF W X Y = k := by
  obtain ⟨hW, hH⟩ := valid_sides hv
  have hl := valid_len hv
  have b := pt_bd hW hH (Int.natCast_nonneg k) (by omega)
  have b1 := side_bd hW
  have b2 := side_bd hH
  have en := num_pt hW hH (Int.natCast_nonneg k) (by omega : (k : Int) < inner W H)
  have hp : hasP W H (ptX W H k) (ptY W H k) = true := by simp only [hasP, inR, Bool.and_eq_true, decide_eq_true_eq, beq_iff_eq]; omega
  have he : edgeP W H (ptX W H k) (ptY W H k) = false := by simp only [edgeP, Bool.or_eq_false_iff, beq_eq_false_iff_ne]; omega
  have hc : codeP W H zs (ptX W H k) (ptY W H k) = 0 := by simp [codeP, hv, hp, he]
  have hr : inR k 0 ((zs.length : Int) - 1) = true := by simp [inR]; omega
  refine ⟨_, _, by omega, ⟨rfl, rfl⟩, ⟨by simp [ptRX, hv, hr], by simp [ptRY, hv, hr], by simp [ptRC, hv, hr]⟩, ⟨by simp [nuR, hc, en], hc⟩, ?_, by simp [isPointB, hv, hp], by simp [isBorderB, isPointB, hv, hp, he], en⟩
  unfold brR brkA
  rw [hc, en, Int.toNat_natCast, List.getD_eq_getElem?_getD]
  rfl
theorem set_facts {W H : Int} {zs : List Int} (hv : validB W H zs = true) {k : Nat} (hk : k < zs.length) {X Y m : Int} (hm : 0 ≤ m ∧ m ≤ 2) (hX : ptX W H k = X) (hY : ptY W H k = Y) :
    sbW W H zs X Y m = W ∧ sbH W H zs X Y m = H ∧ sbC W H zs X Y m = 0 ∧ sbN W H zs X Y m = zs.length ∧ sbL W H zs X Y m = zs.set k m := by
  obtain ⟨hW, hH⟩ := valid_sides hv
  have hl := valid_len hv
  have b := pt_bd hW hH (Int.natCast_nonneg k) (by omega)
  have b1 := side_bd hW
  have b2 := side_bd hH
  have en := num_pt hW hH (Int.natCast_nonneg k) (by omega : (k : Int) < inner W H)
  subst hX hY
  have hp : hasP W H (ptX W H k) (ptY W H k) = true := by simp only [hasP, inR, Bool.and_eq_true, decide_eq_true_eq, beq_iff_eq]; omega
  have he : edgeP W H (ptX W H k) (ptY W H k) = false := by simp only [edgeP, Bool.or_eq_false_iff, beq_eq_false_iff_ne]; omega
  have hk2 : kindOk m = true := by simp [kindOk, inR]; omega
  have hc : sbC W H zs (ptX W H k) (ptY W H k) m = 0 := by simp [sbC, hv, hp, he, hk2]
  have ho : sbO W H zs (ptX W H k) (ptY W H k) m = true := by simp [sbO, hc]
  refine ⟨by simp [sbW, ho], by simp [sbH, ho], hc, by simp [sbN, ho], by simp [sbL, ho, en]⟩
end Go.Proofs.Ytbgigompkmnapaa

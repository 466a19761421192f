/- Plain: orbits of steps. A step is undone by going back; no walker comes back reversed; the way is closed. -/
import Derived.Test.YtbgigompkmnapaaWk
namespace Go.Proofs.Ytbgigompkmnapaa
set_option linter.unusedSimpArgs false
set_option linter.unusedVariables false
abbrev Wkr := Int × Int × Int × Int
def okS (W H : Int) (s : Wkr) : Prop := walkB W H s.1 s.2.1 s.2.2.1 s.2.2.2 = true
def backS (s : Wkr) : Wkr := (s.1 + s.2.2.1, s.2.1 + s.2.2.2, -s.2.2.1, -s.2.2.2)
def segS (H : Int) (s : Wkr) : Int := sgF H s.1 s.2.1 s.2.2.1 s.2.2.2
theorem wkr_ext {s t : Wkr} (h1 : s.1 = t.1) (h2 : s.2.1 = t.2.1) (h3 : s.2.2.1 = t.2.2.1) (h4 : s.2.2.2 = t.2.2.2) : s = t := by
  obtain ⟨a, b, c, d⟩ := s
  obtain ⟨a', b', c', d'⟩ := t
  simp_all
theorem back_back (s : Wkr) : backS (backS s) = s := by
  apply wkr_ext <;> simp only [backS] <;> omega
theorem okS_back {W H : Int} {s : Wkr} (h : okS W H s) : okS W H (backS s) := by
  obtain ⟨h1, h2, h3, h4⟩ := walk_parts h
  unfold okS
  simp only [backS, walkB, Bool.and_eq_true]
  rw [show s.1 + s.2.2.1 + -s.2.2.1 = s.1 by omega, show s.2.1 + s.2.2.2 + -s.2.2.2 = s.2.1 by omega]
  refine ⟨?_, ?_, h4, h3⟩
  · rcases h1 with e | e <;> rw [e] <;> rfl
  · rcases h2 with e | e <;> rw [e] <;> rfl
section
variable {W H : Int} {zs : List Int}
theorem okS_step (hv : validB W H zs = true) {s : Wkr} (h : okS W H s) : okS W H (stepW W H zs s) := walkB_step hv h
theorem step_back (s : Wkr) : stepW W H zs (backS (stepW W H zs s)) = backS s := by
  obtain ⟨x, y, u, v⟩ := s
  have hx : x + u + stU W H zs x y u v + -stU W H zs x y u v = x + u := by omega
  have hy : y + v + stV W H zs x y u v + -stV W H zs x y u v = y + v := by omega
  apply wkr_ext
  · simp only [stepW, backS]; exact hx
  · simp only [stepW, backS]; exact hy
  · simp only [stepW, backS]
    rw [stU, hx, hy]
    unfold stU
    split <;> simp
  · simp only [stepW, backS]
    rw [stV, hx, hy]
    unfold stV
    split <;> simp
theorem step_inj {s t : Wkr} (h : stepW W H zs s = stepW W H zs t) : s = t := by
  have := (step_back (W := W) (H := H) (zs := zs) s).symm.trans ((congrArg (fun z => stepW W H zs (backS z)) h).trans (step_back t))
  rw [← back_back s, this, back_back]
theorem it_succ (n : Nat) (s : Wkr) : itW W H zs (n + 1) s = itW W H zs n (stepW W H zs s) := by
  induction n with
  | zero => rfl
  | succ n ih => rw [itW, ih, itW]
theorem it_add (m n : Nat) (s : Wkr) : itW W H zs (m + n) s = itW W H zs m (itW W H zs n s) := by
  induction m with
  | zero => rw [Nat.zero_add]; rfl
  | succ m ih => rw [Nat.succ_add, itW, ih]; rfl
theorem it_inj {n : Nat} {s t : Wkr} (h : itW W H zs n s = itW W H zs n t) : s = t := by
  induction n with
  | zero => exact h
  | succ n ih => exact ih (step_inj h)
theorem it_back (n : Nat) (s : Wkr) : itW W H zs n (backS (itW W H zs n s)) = backS s := by
  induction n with
  | zero => rfl
  | succ n ih =>
    rw [it_succ, itW, step_back]
    exact ih
theorem okS_it (hv : validB W H zs = true) {s : Wkr} (h : okS W H s) (n : Nat) : okS W H (itW W H zs n s) := by
  induction n with
  | zero => exact h
  | succ n ih => exact okS_step hv ih
/-- At no point is a walker turned right round. -/
theorem not_round (hv : validB W H zs = true) {s : Wkr} (h : okS W H s) : stepW W H zs s ≠ backS s := by
  intro e
  obtain ⟨x, y, u, v⟩ := s
  obtain ⟨h1, h2, h3, h4⟩ := walk_parts h
  have e3 : stU W H zs x y u v = -u := congrArg (fun z => z.2.2.1) e
  have e4 : stV W H zs x y u v = -v := congrArg (fun z => z.2.2.2) e
  simp only [okS] at h
  simp only at h1 h2
  have n1 : ¬ -u = u := by omega
  have n2 : ¬ -v = v := by omega
  have c1 : (x + u == 0 || x + u == 2 * W || stK W H zs (x + u) (y + v) == 1) = true := by
    unfold stU at e3; split at e3
    · assumption
    · exact absurd e3.symm n1
  have c2 : (y + v == 0 || y + v == 2 * H || stK W H zs (x + u) (y + v) == 2) = true := by
    unfold stV at e4; split at e4
    · assumption
    · exact absurd e4.symm n2
  simp only [Bool.or_eq_true, beq_iff_eq] at c1 c2
  have hp := h4
  simp only [hasP, Bool.and_eq_true, beq_iff_eq] at hp
  have hb := hasP_bd h4
  simp only at hb hp
  have ek : ∀ X Y : Int, (X = 0 ∨ X = 2 * W ∨ Y = 0 ∨ Y = 2 * H) → stK W H zs X Y = 0 := by
    intro X Y hXY
    have : edgeP W H X Y = true := by
      simp only [edgeP, Bool.or_eq_true, beq_iff_eq]
      omega
    simp [stK, this]
  by_cases hX : x + u = 0 ∨ x + u = 2 * W
  · have := ek (x + u) (y + v) (by omega)
    omega
  · by_cases hY : y + v = 0 ∨ y + v = 2 * H
    · have := ek (x + u) (y + v) (by omega)
      omega
    · omega
/-- No walker comes back reversed. -/
theorem no_back (hv : validB W H zs = true) {s : Wkr} (h : okS W H s) (n : Nat) : itW W H zs n s ≠ backS s := by
  intro e
  rcases Nat.mod_two_eq_zero_or_one n with h0 | h1
  · obtain ⟨m, rfl⟩ : ∃ m, n = m + m := ⟨n / 2, by omega⟩
    rw [it_add, ← it_back m s] at e
    have e2 := it_inj e
    have := congrArg (fun z => z.2.2.1) e2
    obtain ⟨c1, _⟩ := walk_parts (okS_it hv h m)
    simp only [backS] at this
    omega
  · obtain ⟨m, rfl⟩ : ∃ m, n = m + (m + 1) := ⟨n / 2, by omega⟩
    rw [it_add, ← it_back m s] at e
    exact not_round hv (okS_it hv h m) (it_inj e)
/-- Two walkers of one segment are one, or go against each other. -/
theorem seg_eq (hH : side H = true) {s t : Wkr} (hs : okS W H s) (ht : okS W H t) (h : segS H s = segS H t) : s = t ∨ s = backS t := by
  obtain ⟨x, y, u, v⟩ := s
  obtain ⟨x', y', u', v'⟩ := t
  obtain ⟨a1, a2, a3, a4⟩ := walk_parts hs
  obtain ⟨b1, b2, b3, b4⟩ := walk_parts ht
  simp only at a1 a2 a3 a4 b1 b2 b3 b4
  have p1 := hasP_bd a3
  have p2 := hasP_bd a4
  have p3 := hasP_bd b3
  have p4 := hasP_bd b4
  simp only [hasP, Bool.and_eq_true, beq_iff_eq] at a3 b3
  obtain ⟨a3, a3', q1⟩ := a3
  obtain ⟨b3, b3', q2⟩ := b3
  have key : ∀ a b c d : Int, 0 ≤ b → b ≤ 2 * H - 1 → 0 ≤ d → d ≤ 2 * H - 1 → a * 2 * H + b = c * 2 * H + d → a = c ∧ b = d := by
    intro a b c d hb1 hb2 hd1 hd2 he
    rcases side_cases hH with rfl | rfl | rfl | rfl | rfl | rfl | rfl | rfl <;> omega
  simp only [segS, sgF] at h
  have hk := key (if u = 1 then x else x + -1) (if v = 1 then y else y + -1) (if u' = 1 then x' else x' + -1) (if v' = 1 then y' else y' + -1)
    (by rcases a2 with rfl | rfl <;> simp <;> omega) (by rcases a2 with rfl | rfl <;> simp <;> omega) (by rcases b2 with rfl | rfl <;> simp <;> omega) (by rcases b2 with rfl | rfl <;> simp <;> omega) h
  obtain ⟨k1, k2⟩ := hk
  rcases a1 with rfl | rfl <;> rcases a2 with rfl | rfl <;> rcases b1 with rfl | rfl <;> rcases b2 with rfl | rfl <;> simp at k1 k2 <;>
    first
    | (left; apply wkr_ext <;> simp <;> omega)
    | (right; apply wkr_ext <;> simp [backS] <;> omega)
    | (exfalso; omega)
theorem seg_back {s : Wkr} (h : okS W H s) : segS H (backS s) = segS H s := by
  obtain ⟨x, y, u, v⟩ := s
  obtain ⟨a1, a2, a3, a4⟩ := walk_parts h
  simp only at a1 a2
  rcases a1 with rfl | rfl <;> rcases a2 with rfl | rfl <;> simp [segS, backS, sgF] <;> congr 2 <;> omega
theorem segS_bd (hv : validB W H zs = true) {s : Wkr} (h : okS W H s) : 0 ≤ segS H s ∧ segS H s < 4 * W * H := sgF_bd (valid_sides hv).1 (valid_sides hv).2 h
/-- Walkers of one orbit on one segment are one. -/
theorem orb_seg (hv : validB W H zs = true) {s : Wkr} (h : okS W H s) {i j : Nat} (e : segS H (itW W H zs i s) = segS H (itW W H zs j s)) : itW W H zs i s = itW W H zs j s := by
  rcases seg_eq (valid_sides hv).2 (okS_it hv h i) (okS_it hv h j) e with e1 | e1
  · exact e1
  · exfalso
    rcases Nat.le_total i j with hij | hij
    · obtain ⟨d, rfl⟩ : ∃ d, j = d + i := ⟨j - i, by omega⟩
      rw [it_add] at e1
      have e2 : itW W H zs d (itW W H zs i s) = backS (itW W H zs i s) := by rw [e1, back_back, ← e1]
      exact no_back hv (okS_it hv h i) d e2
    · obtain ⟨d, rfl⟩ : ∃ d, i = d + j := ⟨i - j, by omega⟩
      rw [it_add] at e1
      exact no_back hv (okS_it hv h j) d e1
end
theorem pigeon : ∀ (N : Nat) (f : Nat → Nat), (∀ i, i ≤ N → f i < N) → ∃ i j, i < j ∧ j ≤ N ∧ f i = f j := by
  intro N
  induction N with
  | zero => intro f h; exact absurd (h 0 (Nat.le_refl _)) (by omega)
  | succ N ih =>
    intro f h
    by_cases hex : ∃ i, i ≤ N ∧ f i = f (N + 1)
    · obtain ⟨i, hi, he⟩ := hex
      exact ⟨i, N + 1, by omega, by omega, he⟩
    · have hne : ∀ i, i ≤ N → f i ≠ f (N + 1) := fun i hi he => hex ⟨i, hi, he⟩
      obtain ⟨i, j, hij, hj, he⟩ := ih (fun i => if f i = N then f (N + 1) else f i) (by
        intro i hi
        have h1 := h i (by omega)
        have h2 := h (N + 1) (Nat.le_refl _)
        have h3 := hne i hi
        try simp only
        split <;> omega)
      refine ⟨i, j, hij, by omega, ?_⟩
      have h1 := hne i (by omega)
      have h2 := hne j hj
      try simp only at he
      split at he <;> split at he <;> omega
section
variable {W H : Int} {zs : List Int}
theorem closes (hv : validB W H zs = true) {s : Wkr} (h : okS W H s) : ∃ n, 1 ≤ n ∧ n ≤ 256 ∧ itW W H zs n s = s := by
  have hN := segs_bd (valid_sides hv).1 (valid_sides hv).2
  obtain ⟨i, j, hij, hj, he⟩ := pigeon (4 * W * H).toNat (fun i => (segS H (itW W H zs i s)).toNat) (by
    intro i _
    have := segS_bd hv (okS_it hv h i)
    try simp only
    omega)
  have b1 := segS_bd hv (okS_it hv h i)
  have b2 := segS_bd hv (okS_it hv h j)
  try simp only at he
  have e := orb_seg hv h (i := i) (j := j) (by omega)
  obtain ⟨d, rfl⟩ : ∃ d, j = d + i := ⟨j - i, by omega⟩
  refine ⟨d, by omega, by omega, ?_⟩
  rw [Nat.add_comm, it_add] at e
  exact (it_inj e).symm
end
/-- The first n from which on, tried f times, the orbit is back at s. -/
def perF (W H : Int) (zs : List Int) (s : Wkr) : Nat → Nat → Nat
  | 0, n => n
  | f + 1, n => if itW W H zs n s = s then n else perF W H zs s f (n + 1)
def per (W H : Int) (zs : List Int) (s : Wkr) : Nat := perF W H zs s 256 1
section
variable {W H : Int} {zs : List Int}
theorem perF_spec (s : Wkr) : ∀ (f n : Nat), (∃ m, n ≤ m ∧ m < n + f ∧ itW W H zs m s = s) →
    n ≤ perF W H zs s f n ∧ perF W H zs s f n < n + f ∧ itW W H zs (perF W H zs s f n) s = s ∧ ∀ m, n ≤ m → m < perF W H zs s f n → itW W H zs m s ≠ s := by
  intro f
  induction f with
  | zero => intro n ⟨m, h1, h2, _⟩; omega
  | succ f ih =>
    intro n ⟨m, h1, h2, h3⟩
    rw [perF]
    split
    · rename_i he
      exact ⟨Nat.le_refl _, by omega, he, fun m a b => by omega⟩
    · rename_i he
      have hm : m ≠ n := by rintro rfl; exact he h3
      obtain ⟨a, b, c, d⟩ := ih (n + 1) ⟨m, by omega, by omega, h3⟩
      refine ⟨by omega, by omega, c, fun q hq hq2 => ?_⟩
      rcases Nat.eq_or_lt_of_le hq with rfl | hlt
      · exact he
      · exact d q hlt hq2
theorem per_spec (hv : validB W H zs = true) {s : Wkr} (h : okS W H s) : 1 ≤ per W H zs s ∧ per W H zs s ≤ 256 ∧ itW W H zs (per W H zs s) s = s ∧ ∀ m, 1 ≤ m → m < per W H zs s → itW W H zs m s ≠ s := by
  obtain ⟨n, h1, h2, h3⟩ := closes hv h
  obtain ⟨a, b, c, d⟩ := perF_spec (W := W) (H := H) (zs := zs) s 256 1 ⟨n, h1, by omega, h3⟩
  exact ⟨a, by unfold per; omega, c, d⟩
/-- Within the period the segments differ. -/
theorem per_seg (hv : validB W H zs = true) {s : Wkr} (h : okS W H s) {i j : Nat} (hij : i < j) (hj : j < per W H zs s) : segS H (itW W H zs i s) ≠ segS H (itW W H zs j s) := by
  intro e
  have e2 := orb_seg hv h e
  obtain ⟨d, rfl⟩ : ∃ d, j = d + i := ⟨j - i, by omega⟩
  rw [Nat.add_comm, it_add] at e2
  exact (per_spec hv h).2.2.2 d (by omega) (by omega) (it_inj e2).symm
end
end Go.Proofs.Ytbgigompkmnapaa

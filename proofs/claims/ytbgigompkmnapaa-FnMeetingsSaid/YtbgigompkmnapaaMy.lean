/- Plain: all crossings, counted by pairs of curves, are the points without a break. -/
import Derived.Test.YtbgigompkmnapaaMv
namespace Go.Proofs.Ytbgigompkmnapaa
set_option linter.unusedSimpArgs false
set_option linter.unusedVariables false
/-- The sum over b below a. -/
def rowS (f : Nat → Nat → Nat) (a : Nat) : Nat → Nat
  | 0 => 0
  | b + 1 => rowS f a b + f a b
/-- The sum over all a below n of f a a and of f a b for b below a. -/
def pairS (f : Nat → Nat → Nat) : Nat → Nat
  | 0 => 0
  | a + 1 => pairS f a + f a a + rowS f a a
theorem rowS_add (f g h : Nat → Nat → Nat) (e : ∀ a b, h a b = f a b + g a b) (a : Nat) : ∀ b, rowS h a b = rowS f a b + rowS g a b := by
  intro b
  induction b with
  | zero => rfl
  | succ b ih => simp only [rowS, ih, e]; omega
theorem pairS_add (f g h : Nat → Nat → Nat) (e : ∀ a b, h a b = f a b + g a b) : ∀ n, pairS h n = pairS f n + pairS g n := by
  intro n
  induction n with
  | zero => rfl
  | succ n ih => simp only [pairS, ih, e, rowS_add f g h e]; omega
theorem rowS_zero (f : Nat → Nat → Nat) (a : Nat) : ∀ b, (∀ c, c < b → f a c = 0) → rowS f a b = 0 := by
  intro b
  induction b with
  | zero => intro _; rfl
  | succ b ih => intro h; simp only [rowS, ih (fun c hc => h c (by omega)), h b (by omega)]
theorem pairS_zero (f : Nat → Nat → Nat) : ∀ n, (∀ a b, a < n → b ≤ a → f a b = 0) → pairS f n = 0 := by
  intro n
  induction n with
  | zero => intro _; rfl
  | succ n ih => intro h; simp only [pairS, ih (fun a b ha hb => h a b (by omega) hb), h n n (by omega) (Nat.le_refl _), rowS_zero f n n (fun c hc => h n c (by omega) (by omega))]
theorem rowS_one (f : Nat → Nat → Nat) (a q : Nat) (h1 : f a q = 1) (h0 : ∀ c, c ≠ q → f a c = 0) : ∀ b, rowS f a b = if q < b then 1 else 0 := by
  intro b
  induction b with
  | zero => rfl
  | succ b ih =>
    simp only [rowS, ih]
    by_cases e : b = q
    · subst e; simp [h1]
    · rw [h0 b e]
      split <;> split <;> omega
/-- One pair is met once. -/
theorem pairS_one (f : Nat → Nat → Nat) (p q : Nat) (hqp : q ≤ p) (h1 : f p q = 1) (h0 : ∀ a b, b ≤ a → ¬ (a = p ∧ b = q) → f a b = 0) : ∀ n, pairS f n = if p < n then 1 else 0 := by
  intro n
  induction n with
  | zero => rfl
  | succ n ih =>
    simp only [pairS, ih]
    by_cases e : n = p
    · subst e
      have hr : ∀ b, b ≤ n → rowS f n b = if q < b then 1 else 0 := by
        intro b
        induction b with
        | zero => intro _; rfl
        | succ b ihb =>
          intro hb
          simp only [rowS, ihb (by omega)]
          by_cases e2 : b = q
          · subst e2; simp [h1]
          · rw [h0 n b (by omega) (fun h => e2 h.2)]
            split <;> split <;> omega
      rw [hr n (Nat.le_refl _)]
      by_cases e3 : q = n
      · subst e3; simp [h1]
      · rw [h0 n n (Nat.le_refl _) (fun h => e3 h.2.symm)]
        have : q < n := by omega
        simp [this]
    · rw [h0 n n (Nat.le_refl _) (fun h => e h.1), rowS_zero f n n (fun c hc => h0 n c (by omega) (fun h => e h.1))]
      split <;> split <;> omega
/-- All crossings of curves with themselves and with others are all points without a break. -/
theorem cross_sum {W H : Int} {zs : List Int} (N : Nat) (hb : ∀ k, k < zs.length → zs.getD k 0 = 0 → (0 ≤ mP W H zs k ∧ mP W H zs k < N) ∧ (0 ≤ mQ W H zs k ∧ mQ W H zs k < N)) :
    ∀ n, n ≤ zs.length → pairS (fun a b => xC W H zs a b n) N = (List.range n).countP fun k => zs.getD k 0 == 0 := by
  intro n
  induction n with
  | zero => intro _; exact pairS_zero _ _ (fun a b _ _ => by simp [xC])
  | succ n ih =>
    intro hn
    rw [pairS_add (fun a b => xC W H zs a b n) (fun a b => if zs.getD n 0 == 0 && xB W H zs a b n then 1 else 0) (fun a b => xC W H zs a b (n + 1)) (fun a b => xC_succ W H zs a b n), ih (by omega), List.range_succ, List.countP_append, List.countP_cons, List.countP_nil, Nat.zero_add]
    congr 1
    by_cases h0 : zs.getD n 0 = 0
    · have hz : (zs.getD n 0 == 0) = true := beq_iff_eq.2 h0
      obtain ⟨⟨p0, p1⟩, q0, q1⟩ := hb n (by omega) h0
      obtain ⟨p, hp⟩ : ∃ p : Nat, mP W H zs n = p := ⟨(mP W H zs n).toNat, by omega⟩
      obtain ⟨q, hq⟩ : ∃ q : Nat, mQ W H zs n = q := ⟨(mQ W H zs n).toNat, by omega⟩
      rw [hz, if_pos rfl]
      have hx : ∀ a b : Nat, xB W H zs a b n = ((p == a && q == b) || (p == b && q == a)) := by
        intro a b
        unfold xB
        rw [hp, hq, Bool.eq_iff_iff]
        simp
        omega
      rw [pairS_one _ (max p q) (min p q) (by omega) (by simp only [hx]; simp; omega) (fun a b hba hne => by
        simp only [hx]
        simp
        omega)]
      rw [if_pos (by omega)]
    · have hz : (zs.getD n 0 == 0) = false := beq_eq_false_iff_ne.2 h0
      rw [hz, if_neg (by simp)]
      exact pairS_zero _ _ (fun a b _ _ => by simp)
end Go.Proofs.Ytbgigompkmnapaa

/- Plain: two curves of a panel cross an even number of times. -/
import Derived.Test.YtbgigompkmnapaaMy
import Derived.Test.YtbgigompkmnapaaMu
namespace Go.Proofs.Ytbgigompkmnapaa
set_option linter.unusedSimpArgs false
set_option linter.unusedVariables false
/-- The parity of the first n. -/
def xr (h : Nat → Bool) : Nat → Bool
  | 0 => false
  | n + 1 => xor (xr h n) (h n)
/-- The parity of the squares of curve b to the left. -/
def FB (O : Nat → Nat → Int) (b : Int) (j : Nat) (x : Nat) : Bool := xr (fun i => O i j == b) x
/-- The parity of the squares of curve a at which the colour is odd. -/
def RB (O : Nat → Nat → Int) (a b : Int) (j : Nat) (n : Nat) : Bool := xr (fun i => (O i j == a) && FB O b j i) n
/-- Do the curves a and b cross at the point right below square (x, y)? -/
def XB (K O : Nat → Nat → Int) (a b : Int) (y x : Nat) : Bool := K x y == 0 && ((O x y == a && O (x + 1) y == b) || (O x y == b && O (x + 1) y == a))
def ParP (M L : Nat) (K O : Nat → Nat → Int) : Prop :=
  (∀ x y, x + 1 < M → y + 1 < L → (x + y) % 2 = 1 → (K x y = 0 ∧ O x y = O (x + 1) (y + 1) ∧ O (x + 1) y = O x (y + 1)) ∨ (K x y ≠ 0 ∧ ((O x y = O x (y + 1) ∧ O (x + 1) y = O (x + 1) (y + 1)) ∨ (O x y = O (x + 1) y ∧ O x (y + 1) = O (x + 1) (y + 1))))) ∧
  (∀ y, y + 1 < L → y % 2 = 0 → O 0 y = O 0 (y + 1) ∧ O (M - 1) y = O (M - 1) (y + 1)) ∧
  (∀ x, x + 1 < M → x % 2 = 0 → O x 0 = O (x + 1) 0 ∧ O x (L - 1) = O (x + 1) (L - 1))
theorem xr_two (h : Nat → Bool) (n : Nat) : xr h (n + 2) = xor (xor (xr h n) (h n)) (h (n + 1)) := rfl
section
variable {M L : Nat} {K O : Nat → Nat → Int} {a b : Int}
theorem col (hP : ParP M L K O) (b : Int) {y : Nat} (hy : y + 1 < L) : ∀ m, (y + 1) % 2 + 2 * m < M → FB O b y ((y + 1) % 2 + 2 * m) = FB O b (y + 1) ((y + 1) % 2 + 2 * m) := by
  intro m
  induction m with
  | zero =>
    intro _
    rcases Nat.mod_two_eq_zero_or_one (y + 1) with e | e <;> rw [e]
    · rfl
    · have := (hP.2.1 y hy (by omega)).1
      simp only [FB, xr, Nat.mul_zero, Nat.add_zero, this]
  | succ m ih =>
    intro hm
    have h := ih (by omega)
    obtain ⟨x, hx⟩ : ∃ x, (y + 1) % 2 + 2 * m = x := ⟨_, rfl⟩
    rw [show (y + 1) % 2 + 2 * (m + 1) = x + 2 by omega]
    rw [hx] at h
    have hi := hP.1 x y (by omega) hy (by omega)
    unfold FB at h ⊢
    rw [xr_two, xr_two, h]
    rcases hi with ⟨_, e1, e2⟩ | ⟨_, ⟨e1, e2⟩ | ⟨e1, e2⟩⟩
    · rw [e1, e2]
      cases xr (fun i => O i (y + 1) == b) x <;> cases O (x + 1) (y + 1) == b <;> cases O x (y + 1) == b <;> rfl
    · rw [e1, e2]
    · rw [e1, e2]
      cases xr (fun i => O i (y + 1) == b) x <;> cases O (x + 1) (y + 1) == b <;> cases O (x + 1) y == b <;> rfl
theorem not_both (hab : a ≠ b) (z : Int) : (z == a && z == b) = false := by
  by_cases h : z = a
  · subst h; simp; exact hab
  · simp [h]
theorem line (hP : ParP M L K O) (hab : a ≠ b) {y : Nat} (hy : y + 1 < L) : ∀ m, (y + 1) % 2 + 2 * m ≤ M → xor (RB O a b y ((y + 1) % 2 + 2 * m)) (RB O a b (y + 1) ((y + 1) % 2 + 2 * m)) = xr (fun t => XB K O a b y ((y + 1) % 2 + 2 * t)) m := by
  intro m
  induction m with
  | zero =>
    intro _
    rcases Nat.mod_two_eq_zero_or_one (y + 1) with e | e <;> rw [e]
    · rfl
    · simp [RB, FB, xr]
  | succ m ih =>
    intro hm
    have h := ih (by omega)
    have hc := col hP b hy m (by omega)
    obtain ⟨x, hx⟩ : ∃ x, (y + 1) % 2 + 2 * m = x := ⟨_, rfl⟩
    show _ = xor (xr (fun t => XB K O a b y ((y + 1) % 2 + 2 * t)) m) (XB K O a b y ((y + 1) % 2 + 2 * m))
    rw [← h, show (y + 1) % 2 + 2 * (m + 1) = x + 2 by omega, hx]
    rw [hx] at hc
    have hi := hP.1 x y (by omega) hy (by omega)
    have e1 : ∀ j, RB O a b j (x + 2) = xor (xor (RB O a b j x) ((O x j == a) && FB O b j x)) ((O (x + 1) j == a) && xor (FB O b j x) (O x j == b)) := fun j => rfl
    rw [e1, e1, hc]
    have n1 := not_both hab (O x y)
    have n2 := not_both hab (O (x + 1) y)
    have n3 := not_both hab (O x (y + 1))
    have n4 := not_both hab (O (x + 1) (y + 1))
    unfold XB
    generalize RB O a b y x = r1
    generalize RB O a b (y + 1) x = r2
    generalize FB O b (y + 1) x = φ
    rcases hi with ⟨hk, q1, q2⟩ | ⟨hk, hq⟩
    · rw [hk]
      rw [q1, q2] at *
      revert n3 n4
      generalize (O (x + 1) (y + 1) == a) = p1
      generalize (O (x + 1) (y + 1) == b) = p2
      generalize (O x (y + 1) == a) = p3
      generalize (O x (y + 1) == b) = p4
      cases r1 <;> cases r2 <;> cases φ <;> cases p1 <;> cases p2 <;> cases p3 <;> cases p4 <;> simp
    · have hk' : (K x y == 0) = false := beq_eq_false_iff_ne.2 hk
      rw [hk']
      rcases hq with ⟨q1, q2⟩ | ⟨q1, q2⟩
      · rw [q1, q2] at *
        revert n3 n4
        generalize (O (x + 1) (y + 1) == a) = p1
        generalize (O (x + 1) (y + 1) == b) = p2
        generalize (O x (y + 1) == a) = p3
        generalize (O x (y + 1) == b) = p4
        cases r1 <;> cases r2 <;> cases φ <;> cases p1 <;> cases p2 <;> cases p3 <;> cases p4 <;> simp
      · rw [q1, q2] at *
        revert n2 n4
        generalize (O (x + 1) (y + 1) == a) = p1
        generalize (O (x + 1) (y + 1) == b) = p2
        generalize (O (x + 1) y == a) = p3
        generalize (O (x + 1) y == b) = p4
        cases r1 <;> cases r2 <;> cases φ <;> cases p1 <;> cases p2 <;> cases p3 <;> cases p4 <;> simp
theorem line_full (hP : ParP M L K O) (hab : a ≠ b) {y : Nat} (hy : y + 1 < L) (hM : M % 2 = 0) (hM2 : 2 ≤ M) : xor (RB O a b y M) (RB O a b (y + 1) M) = xr (fun t => XB K O a b y ((y + 1) % 2 + 2 * t)) (M / 2 - (y + 1) % 2) := by
  have h := line hP hab hy (M / 2 - (y + 1) % 2) (by omega)
  rcases Nat.mod_two_eq_zero_or_one (y + 1) with e | e
  · rw [e] at h ⊢
    rw [show 0 + 2 * (M / 2 - 0) = M by omega] at h
    exact h
  · rw [e] at h ⊢
    have hc := col hP b hy (M / 2 - 1) (by omega)
    rw [e] at hc
    obtain ⟨k, hk⟩ : ∃ k, M = k + 1 := ⟨M - 1, by omega⟩
    rw [show 1 + 2 * (M / 2 - 1) = k by omega] at h hc
    have hr := (hP.2.1 y hy (by omega)).2
    rw [show M - 1 = k by omega] at hr
    rw [← h]
    conv => lhs; rw [hk]
    show xor (xor (RB O a b y k) ((O k y == a) && FB O b y k)) (xor (RB O a b (y + 1) k) ((O k (y + 1) == a) && FB O b (y + 1) k)) = _
    rw [hr, hc]
    generalize RB O a b y k = r1
    generalize RB O a b (y + 1) k = r2
    generalize ((O k (y + 1) == a) && FB O b (y + 1) k) = φ
    cases r1 <;> cases r2 <;> cases φ <;> rfl
theorem edge_zero (hab : a ≠ b) {j : Nat} (hj : ∀ x, x + 1 < M → x % 2 = 0 → O x j = O (x + 1) j) : ∀ m, 2 * m ≤ M → RB O a b j (2 * m) = false := by
  intro m
  induction m with
  | zero => intro _; rfl
  | succ m ih =>
    intro hm
    have h := ih (by omega)
    have e := hj (2 * m) (by omega) (by omega)
    show xor (xor (RB O a b j (2 * m)) ((O (2 * m) j == a) && FB O b j (2 * m))) ((O (2 * m + 1) j == a) && xor (FB O b j (2 * m)) (O (2 * m) j == b)) = false
    rw [h, e]
    have n := not_both hab (O (2 * m + 1) j)
    revert n
    generalize FB O b j (2 * m) = φ
    generalize (O (2 * m + 1) j == a) = p1
    generalize (O (2 * m + 1) j == b) = p2
    cases φ <;> cases p1 <;> cases p2 <;> simp
end
/-- The curve of a square. -/
def sqO (H : Int) (o : List Int) (i j : Nat) : Int := o.getD ((i : Int) * 2 * H + (j : Int)).toNat 0
theorem ow_nw (H : Int) (o : List Int) (x y : Nat) : ow H o ((x : Int) + 1) ((y : Int) + 1) (-1) (-1) = sqO H o x y := by
  simp [ow, sqO, segN, segS, sgF, Int.add_assoc]
theorem ow_ne (H : Int) (o : List Int) (x y : Nat) : ow H o ((x : Int) + 1) ((y : Int) + 1) 1 (-1) = sqO H o (x + 1) y := by
  simp [ow, sqO, segN, segS, sgF, Int.add_assoc]
theorem ow_sw (H : Int) (o : List Int) (x y : Nat) : ow H o ((x : Int) + 1) ((y : Int) + 1) (-1) 1 = sqO H o x (y + 1) := by
  simp [ow, sqO, segN, segS, sgF, Int.add_assoc]
theorem ow_se (H : Int) (o : List Int) (x y : Nat) : ow H o ((x : Int) + 1) ((y : Int) + 1) 1 1 = sqO H o (x + 1) (y + 1) := by
  simp [ow, sqO, segN, segS, sgF, Int.add_assoc]
def K0 (W : Int) (zs : List Int) (x y : Nat) : Int := brkA W zs ((x : Int) + 1) ((y : Int) + 1)
/-- What a walker's way says of two squares. -/
theorem sq_step {W H : Int} {zs : List Int} (hv : validB W H zs = true) {x y u v : Int} {i j i' j' : Nat} (h : okS W H (x, y, u, v))
    (e1 : (if u = 1 then x else x + -1) = i) (e2 : (if v = 1 then y else y + -1) = j) (u' v' : Int) (hu : stU W H zs x y u v = u') (hv' : stV W H zs x y u v = v')
    (e3 : (if u' = 1 then x + u else x + u + -1) = i') (e4 : (if v' = 1 then y + v else y + v + -1) = j') : sqO H (owL W H zs) i j = sqO H (owL W H zs) i' j' := by
  have hs := owL_inv hv _ h
  simp only [stepW, segN, segS, sgF, hu, hv', e1, e2, e3, e4] at hs
  unfold sqO
  rw [List.getD_eq_getElem?_getD, List.getD_eq_getElem?_getD, hs]
theorem stk_edge {W H : Int} {zs : List Int} {x y : Int} (h : x = 0 ∨ x = 2 * W ∨ y = 0 ∨ y = 2 * H) : stK W H zs x y = 0 := by
  have : edgeP W H x y = true := by simp [edgeP]; omega
  simp [stK, this]
theorem ok_of {W H x y u v : Int} (hu : u = 1 ∨ u = -1) (hv : v = 1 ∨ v = -1) (hp : (x + y) % 2 = 1) (x0 : 0 ≤ x) (x1 : x ≤ 2 * W) (y0 : 0 ≤ y) (y1 : y ≤ 2 * H) (x2 : 0 ≤ x + u) (x3 : x + u ≤ 2 * W) (y2 : 0 ≤ y + v) (y3 : y + v ≤ 2 * H) : okS W H (x, y, u, v) := by
  have hs : signB u = true := by rcases hu with rfl | rfl <;> rfl
  have ht : signB v = true := by rcases hv with rfl | rfl <;> rfl
  unfold okS walkB
  rw [hs, ht]
  simp only [hasP, inR, Bool.true_and, Bool.and_eq_true, decide_eq_true_eq, beq_iff_eq]
  refine ⟨⟨?_, ?_⟩, ?_, ?_⟩ <;> omega
theorem parP {W H : Int} {zs : List Int} (hv : validB W H zs = true) : ParP (2 * W).toNat (2 * H).toNat (K0 W zs) (sqO H (owL W H zs)) := by
  have b1 := side_bd (valid_sides hv).1
  have b2 := side_bd (valid_sides hv).2
  refine ⟨?_, ?_, ?_⟩
  · intro x y hx hy hp
    have hc : (codeP W H zs ((x : Int) + 1) ((y : Int) + 1) == 0) = true := inner_codeM hv (by simp only [hasP, inR, Bool.and_eq_true, decide_eq_true_eq, beq_iff_eq]; omega) (by simp only [edgeP, Bool.or_eq_false_iff, beq_eq_false_iff_ne]; omega)
    obtain ⟨p, q, h1, h2, -⟩ := ct_two hc
    rw [ow_nw] at h1
    rw [ow_sw, ow_ne, ow_se] at h2
    unfold K0
    rcases h2 with ⟨k, h3, h4, h5⟩ | ⟨k, h3, h4, h5⟩ | ⟨k, h3, h4, h5⟩
    · left; exact ⟨k, by rw [h1, h5], by rw [h4, h3]⟩
    · right; exact ⟨by omega, .inl ⟨by rw [h1, h3], by rw [h4, h5]⟩⟩
    · right; exact ⟨by omega, .inr ⟨by rw [h1, h4], by rw [h3, h5]⟩⟩
  · intro y hy hp
    have k1 : stK W H zs 0 ((y : Int) + 1) = 0 := stk_edge (by omega)
    have k2 : stK W H zs (2 * W) ((y : Int) + 1) = 0 := stk_edge (by omega)
    refine ⟨?_, ?_⟩
    · refine sq_step (x := 1) (y := (y : Int)) (u := -1) (v := 1) hv (ok_of (.inr rfl) (.inl rfl) ?_ ?_ ?_ ?_ ?_ ?_ ?_ ?_ ?_) (by simp) (by simp) 1 1 ?_ ?_ (by simp) (by simp) <;> try omega
      · simp [stU]
      · have a1 : ¬ ((y : Int) + 1 = 0) := by omega
        have a2 : ¬ ((y : Int) + 1 = 2 * H) := by omega
        simp [stV, a1, a2, k1]
    · refine sq_step (x := 2 * W - 1) (y := (y : Int)) (u := 1) (v := 1) hv (ok_of (.inl rfl) (.inl rfl) ?_ ?_ ?_ ?_ ?_ ?_ ?_ ?_ ?_) (by simp; omega) (by simp) (-1) 1 ?_ ?_ (by simp; omega) (by simp) <;> try omega
      · simp [stU]
      · have a1 : ¬ ((y : Int) + 1 = 0) := by omega
        have a2 : ¬ ((y : Int) + 1 = 2 * H) := by omega
        simp [stV, a1, a2, k2]
  · intro x hx hp
    have k1 : stK W H zs ((x : Int) + 1) 0 = 0 := stk_edge (by omega)
    have k2 : stK W H zs ((x : Int) + 1) (2 * H) = 0 := stk_edge (by omega)
    have a1 : ¬ ((x : Int) + 1 = 0) := by omega
    have a2 : ¬ ((x : Int) + 1 = 2 * W) := by omega
    refine ⟨?_, ?_⟩
    · refine sq_step (x := (x : Int)) (y := 1) (u := 1) (v := -1) hv (ok_of (.inl rfl) (.inr rfl) ?_ ?_ ?_ ?_ ?_ ?_ ?_ ?_ ?_) (by simp) (by simp) 1 1 ?_ ?_ (by simp) (by simp) <;> try omega
      · simp [stU, a1, a2, k1]
      · simp [stV]
    · refine sq_step (x := (x : Int)) (y := 2 * H - 1) (u := 1) (v := 1) hv (ok_of (.inl rfl) (.inl rfl) ?_ ?_ ?_ ?_ ?_ ?_ ?_ ?_ ?_) (by simp) (by simp; omega) 1 (-1) ?_ ?_ (by simp) (by simp; omega) <;> try omega
      · simp [stU, a1, a2, k2]
      · simp [stV]
def bp (n : Nat) : Bool := n % 2 == 1
theorem bp_add (n : Nat) (c : Bool) : bp (n + if c then 1 else 0) = xor (bp n) c := by
  unfold bp
  rcases Nat.mod_two_eq_zero_or_one n with e | e <;> cases c <;> simp [e, Nat.add_mod]
theorem xC_line {W H : Int} {zs : List Int} (hv : validB W H zs = true) (a b : Int) {y : Nat} (hy : (y : Int) + 1 < 2 * H) : ∀ t : Nat, (t : Int) ≤ W - ((y : Int) + 1) % 2 →
    bp (xC W H zs a b ((rowF W ((y : Int) + 1)).toNat + t)) = xor (bp (xC W H zs a b (rowF W ((y : Int) + 1)).toNat)) (xr (fun t => XB (K0 W zs) (sqO H (owL W H zs)) a b y ((y + 1) % 2 + 2 * t)) t) := by
  have hs := valid_sides hv
  have hl := valid_len hv
  intro t
  induction t with
  | zero => intro _; simp [xr]
  | succ t ih =>
    intro ht
    have h := ih (by omega)
    obtain ⟨k, hk⟩ : ∃ k, (rowF W ((y : Int) + 1)).toNat + t = k := ⟨_, rfl⟩
    show bp (xC W H zs a b ((rowF W ((y : Int) + 1)).toNat + t + 1)) = xor _ (xor (xr _ t) _)
    rw [hk] at h ⊢
    rw [xC_succ, bp_add, h, Bool.xor_assoc]
    congr 2
    have r0 := (rowF_bd hs.1 (by omega : 1 ≤ (y : Int) + 1) (by have := side_bd hs.2; omega)).1
    have r1 := rowF_succ hs.1 (by omega : 1 ≤ (y : Int) + 1)
    have hke : (k : Int) = rowF W ((y : Int) + 1) + t := by omega
    have hkI : (k : Int) < inner W H := by
      rw [← rowF_end hs.1 hs.2]
      have : rowF W ((y : Int) + 1 + 1) ≤ rowF W (2 * H) := by
        have mono : ∀ n : Nat, rowF W ((y : Int) + 1 + 1) ≤ rowF W ((y : Int) + 1 + 1 + n) := by
          intro n
          induction n with
          | zero => simp
          | succ n ihn =>
            have := rowF_mono hs.1 (by omega : 1 ≤ (y : Int) + 1 + 1 + n)
            have e : (y : Int) + 1 + 1 + ((n + 1 : Nat) : Int) = (y : Int) + 1 + 1 + n + 1 := by omega
            rw [e]; omega
        have := mono (2 * H - ((y : Int) + 1 + 1)).toNat
        rwa [show (y : Int) + 1 + 1 + ((2 * H - ((y : Int) + 1 + 1)).toNat : Int) = 2 * H by omega] at this
      omega
    have hkz : k < zs.length := by omega
    obtain ⟨y1, y2, y3, y4⟩ := ptY_spec hs.1 hs.2 (Int.natCast_nonneg k) hkI
    have hyk : ptY W H k = (y : Int) + 1 := row_unique hs.1 y1 (by omega) y3 y4 (by omega) (by omega)
    have hxk : ptX W H k = (((y + 1) % 2 + 2 * t : Nat) : Int) + 1 := by
      unfold ptX
      rw [hyk]
      omega
    have hb := pt_brk hv hkz
    rw [hxk, hyk] at hb
    unfold XB xB mP mQ K0
    rw [hxk, hyk, ow_nw, ow_ne, ← hb]
theorem xC_par {W H : Int} {zs : List Int} (hv : validB W H zs = true) {a b : Int} (hab : a ≠ b) : ∀ y : Nat, y < (2 * H).toNat → bp (xC W H zs a b (rowF W ((y : Int) + 1)).toNat) = RB (sqO H (owL W H zs)) a b y (2 * W).toNat := by
  have hP := parP hv
  have hs := valid_sides hv
  have b1 := side_bd hs.1
  intro y
  induction y with
  | zero =>
    intro _
    have h := edge_zero (M := (2 * W).toNat) (O := sqO H (owL W H zs)) hab (j := 0) (fun x h1 h2 => (hP.2.2 x h1 h2).1) W.toNat (by omega)
    rw [show 2 * W.toNat = (2 * W).toNat by omega] at h
    rw [h]
    simp [rowF_one, xC, bp]
  | succ y ih =>
    intro hy
    have h := ih (by omega)
    have hl := line_full hP hab (y := y) (by omega) (by omega) (by omega)
    have hx := xC_line hv a b (y := y) (by omega) (W - ((y : Int) + 1) % 2).toNat (by omega)
    have r0 := (rowF_bd hs.1 (by omega : 1 ≤ (y : Int) + 1) (by have := side_bd hs.2; omega)).1
    have r1 := rowF_succ hs.1 (by omega : 1 ≤ (y : Int) + 1)
    rw [show (rowF W ((y : Int) + 1)).toNat + (W - ((y : Int) + 1) % 2).toNat = (rowF W (((y + 1 : Nat) : Int) + 1)).toNat by
      rw [show ((y + 1 : Nat) : Int) + 1 = (y : Int) + 1 + 1 by omega, r1]; omega] at hx
    rw [hx, h, show (W - ((y : Int) + 1) % 2).toNat = (2 * W).toNat / 2 - (y + 1) % 2 by omega, ← hl]
    generalize RB _ a b y _ = r1
    generalize RB _ a b (y + 1) _ = r2
    cases r1 <;> cases r2 <;> rfl
/-- Two curves cross an even number of times. -/
theorem xC_even {W H : Int} {zs : List Int} (hv : validB W H zs = true) {a b : Int} (hab : a ≠ b) : xC W H zs a b zs.length % 2 = 0 := by
  have hP := parP hv
  have hs := valid_sides hv
  have b1 := side_bd hs.1
  have b2 := side_bd hs.2
  have h := xC_par hv hab ((2 * H).toNat - 1) (by omega)
  have he := edge_zero (M := (2 * W).toNat) (O := sqO H (owL W H zs)) hab (j := (2 * H).toNat - 1) (fun x h1 h2 => (hP.2.2 x h1 h2).2) W.toNat (by omega)
  rw [show 2 * W.toNat = (2 * W).toNat by omega] at he
  rw [he, show ((((2 * H).toNat - 1 : Nat) : Int) + 1) = 2 * H by omega, rowF_end hs.1 hs.2, ← valid_len hv, Int.toNat_natCast] at h
  unfold bp at h
  have := beq_eq_false_iff_ne.1 h
  omega
end Go.Proofs.Ytbgigompkmnapaa

/- Plain: all curves of a panel, and the curve of each segment. -/
import Derived.Test.YtbgigompkmnapaaTr
import Derived.Test.YtbgigompkmnapaaSg
namespace Go.Proofs.Ytbgigompkmnapaa
set_option linter.unusedSimpArgs false
set_option linter.unusedVariables false
/-- The walker along segment k to the right. -/
def wkS (H : Int) (k : Nat) : Wkr := (wkX H k, wkY H k, 1, wkD H k)
theorem wk_form (H : Int) (k : Nat) : (wkY H k = k % (2 * H) ∧ wkD H k = 1 ∧ (wkX H k + k % (2 * H)) % 2 = 1) ∨ (wkY H k = k % (2 * H) + 1 ∧ wkD H k = -1 ∧ (wkX H k + k % (2 * H)) % 2 = 0) := by
  by_cases hp : ((k : Int) / (2 * H) + k % (2 * H)) % 2 = 1
  · exact .inl ⟨by simp [wkY, hp], by simp [wkD, hp], hp⟩
  · exact .inr ⟨by simp [wkY, hp], by simp [wkD, hp], by unfold wkX; omega⟩
theorem wkS_ok {W H : Int} (hW : side W = true) (hH : side H = true) {k : Nat} (hk : (k : Int) < 4 * W * H) : okS W H (wkS H k) := by
  obtain ⟨q1, q2, r1, r2⟩ := wk_qr hW hH (Int.natCast_nonneg k) hk
  have b1 := side_bd hW
  have b2 := side_bd hH
  have f := wk_form H k
  have hx : wkX H k = k / (2 * H) := rfl
  unfold okS
  show walkB W H (wkX H k) (wkY H k) 1 (wkD H k) = true
  obtain ⟨X, hX⟩ : ∃ X, X = wkX H k := ⟨_, rfl⟩
  obtain ⟨Y, hY⟩ : ∃ Y, Y = wkY H k := ⟨_, rfl⟩
  obtain ⟨D, hD⟩ : ∃ D, D = wkD H k := ⟨_, rfl⟩
  obtain ⟨r, hr⟩ : ∃ r, r = (k : Int) % (2 * H) := ⟨_, rfl⟩
  rw [← hX, ← hY, ← hD, ← hr] at f
  rw [← hX] at hx
  rw [← hx] at q1 q2
  rw [← hr] at r1 r2
  rw [← hX, ← hY, ← hD]
  clear hX hY hD hr hx
  simp only [walkB, hasP, inR, Bool.and_eq_true, decide_eq_true_eq, beq_iff_eq]
  refine ⟨by decide, ?_, ?_, ?_⟩
  · rcases f with ⟨_, e, _⟩ | ⟨_, e, _⟩ <;> rw [e] <;> rfl
  · omega
  · omega
theorem wkS_seg {W H : Int} (hW : side W = true) (hH : side H = true) {k : Nat} (hk : (k : Int) < 4 * W * H) : segS H (wkS H k) = k := by
  have f := wk_form H k
  have hx : wkX H k = k / (2 * H) := rfl
  have e := Int.mul_ediv_add_emod (k : Int) (2 * H)
  have e2 : wkX H k * 2 * H = 2 * H * ((k : Int) / (2 * H)) := by rw [hx, Int.mul_assoc, Int.mul_comm]
  show sgF H (wkX H k) (wkY H k) 1 (wkD H k) = k
  unfold sgF
  rw [if_pos rfl, e2]
  rcases f with ⟨f1, f2, _⟩ | ⟨f1, f2, _⟩
  · rw [if_pos f2, f1]; exact e
  · rw [if_neg (by omega), f1]; omega
def segN (H : Int) (s : Wkr) : Nat := (segS H s).toNat
def curS (W H : Int) (zs : List Int) (s : Wkr) : List Wkr := (List.range (per W H zs s)).map fun i => itW W H zs i s
/-- The first i segments of an orbit. -/
def segsI (W H : Int) (zs : List Int) (s : Wkr) (i : Nat) : List Nat := (List.range i).map fun j => segN H (itW W H zs j s)
def putAll (o : List Int) (gs : List Nat) (c : Int) : List Int := gs.foldl (fun o g => o.set g c) o
theorem putAll_length (gs : List Nat) (c : Int) : ∀ o : List Int, (putAll o gs c).length = o.length := by
  induction gs with
  | nil => intro o; rfl
  | cons g gs ih => intro o; rw [putAll, List.foldl_cons, ← putAll, ih, List.length_set]
theorem putAll_snoc (o : List Int) (gs : List Nat) (g : Nat) (c : Int) : putAll o (gs ++ [g]) c = (putAll o gs c).set g c := by
  simp [putAll, List.foldl_append]
theorem putAll_in (gs : List Nat) (c : Int) : ∀ (o : List Int) (g : Nat), g ∈ gs → g < o.length → (putAll o gs c)[g]? = some c := by
  induction gs with
  | nil => intro o g h; cases h
  | cons a gs ih =>
    intro o g h hl
    rw [putAll, List.foldl_cons, ← putAll]
    by_cases hm : g ∈ gs
    · exact ih _ g hm (by rw [List.length_set]; exact hl)
    · have : g = a := by simpa [hm] using h
      subst this
      clear ih h
      have : ∀ (gs : List Nat) (o : List Int), g ∉ gs → (putAll o gs c)[g]? = o[g]? := by
        intro gs
        induction gs with
        | nil => intro o _; rfl
        | cons b gs ih =>
          intro o hn
          rw [putAll, List.foldl_cons, ← putAll, ih _ (fun h => hn (List.mem_cons_of_mem _ h)), List.getElem?_set_ne]
          rintro rfl
          exact hn List.mem_cons_self
      rw [this gs _ hm, List.getElem?_set_self hl]
theorem putAll_out (gs : List Nat) (c : Int) : ∀ (o : List Int) (g : Nat), g ∉ gs → (putAll o gs c)[g]? = o[g]? := by
  induction gs with
  | nil => intro o g _; rfl
  | cons b gs ih =>
    intro o g hn
    rw [putAll, List.foldl_cons, ← putAll, ih _ _ (fun h => hn (List.mem_cons_of_mem _ h)), List.getElem?_set_ne]
    rintro rfl
    exact hn List.mem_cons_self
theorem segsI_succ (W H : Int) (zs : List Int) (s : Wkr) (i : Nat) : segsI W H zs s (i + 1) = segsI W H zs s i ++ [segN H (itW W H zs i s)] := by
  simp [segsI, List.range_succ]
theorem mem_segsI {W H : Int} {zs : List Int} {s : Wkr} {i g : Nat} : g ∈ segsI W H zs s i ↔ ∃ j, j < i ∧ segN H (itW W H zs j s) = g := by
  simp [segsI]
/-- The curves that the first k segments give, and the curve of each segment so far (-1: none yet). -/
def trS (W H : Int) (zs : List Int) : Nat → List (List Wkr) × List Int
  | 0 => ([], List.replicate (4 * W * H).toNat (-1))
  | k + 1 => if 0 ≤ (trS W H zs k).2.getD k 0 then trS W H zs k
    else ((trS W H zs k).1 ++ [curS W H zs (wkS H k)], putAll (trS W H zs k).2 (segsI W H zs (wkS H k) (per W H zs (wkS H k))) (trS W H zs k).1.length)
/-- What is known of it. -/
structure TInv (W H : Int) (zs : List Int) (k : Nat) (cs : List (List Wkr)) (o : List Int) : Prop where
  len : o.length = (4 * W * H).toNat
  few : cs.length ≤ k
  val : ∀ g z : Nat, ∀ y : Int, o[g]? = some y → y = -1 ∨ (0 ≤ y ∧ y < cs.length)
  inv : ∀ s, okS W H s → o[segN H s]? = o[segN H (stepW W H zs s)]?
  done : ∀ g, g < k → ∃ y : Int, o[g]? = some y ∧ 0 ≤ y
  cur : ∀ (z : Nat) c, cs[z]? = some c → ∃ s, okS W H s ∧ c = curS W H zs s ∧ ∀ i, o[segN H (itW W H zs i s)]? = some (z : Int)
  own : ∀ (g z : Nat), o[g]? = some (z : Int) → ∃ s, okS W H s ∧ cs[z]? = some (curS W H zs s) ∧ ∃ i, i < per W H zs s ∧ segN H (itW W H zs i s) = g
section
variable {W H : Int} {zs : List Int}
theorem segN_lt (hv : validB W H zs = true) {s : Wkr} (h : okS W H s) : segN H s < (4 * W * H).toNat := by
  have := segS_bd hv h
  unfold segN
  omega
theorem segN_eq (hv : validB W H zs = true) {s t : Wkr} (hs : okS W H s) (ht : okS W H t) (h : segN H s = segN H t) : s = t ∨ s = backS t := by
  have := segS_bd hv hs
  have := segS_bd hv ht
  unfold segN at h
  exact seg_eq (valid_sides hv).2 hs ht (by omega)
theorem inv_it {o : List Int} (hv : validB W H zs = true) (hi : ∀ s, okS W H s → o[segN H s]? = o[segN H (stepW W H zs s)]?) {s : Wkr} (h : okS W H s) (i : Nat) : o[segN H (itW W H zs i s)]? = o[segN H s]? := by
  induction i with
  | zero => rfl
  | succ i ih => rw [itW, ← hi _ (okS_it hv h i)]; exact ih
/-- An orbit's place by its number within the period. -/
theorem it_mod (hv : validB W H zs = true) {s : Wkr} (h : okS W H s) (i : Nat) : ∃ j, j < per W H zs s ∧ itW W H zs j s = itW W H zs i s := by
  obtain ⟨p1, _, p3, _⟩ := per_spec hv h
  induction i with
  | zero => exact ⟨0, by omega, rfl⟩
  | succ i ih =>
    obtain ⟨j, hj, e⟩ := ih
    by_cases hl : j + 1 < per W H zs s
    · exact ⟨j + 1, hl, by rw [itW, e]; rfl⟩
    · refine ⟨0, by omega, ?_⟩
      have : j + 1 = per W H zs s := by omega
      have e2 : itW W H zs (j + 1) s = itW W H zs (i + 1) s := by rw [itW, e]; rfl
      rw [← e2, this, p3]
      rfl
theorem seg_fresh (hv : validB W H zs = true) {s : Wkr} (h : okS W H s) {i : Nat} (hi : i < per W H zs s) : segN H (itW W H zs i s) ∉ segsI W H zs s i := by
  rw [mem_segsI]
  rintro ⟨j, hj, e⟩
  have b1 := segS_bd hv (okS_it hv h i)
  have b2 := segS_bd hv (okS_it hv h j)
  unfold segN at e
  exact per_seg hv h hj hi (by omega)
/-- The segments of an orbit, told without the period. -/
theorem mem_orb (hv : validB W H zs = true) {s : Wkr} (h : okS W H s) {g : Nat} : g ∈ segsI W H zs s (per W H zs s) ↔ ∃ i, segN H (itW W H zs i s) = g := by
  rw [mem_segsI]
  constructor
  · rintro ⟨j, _, e⟩; exact ⟨j, e⟩
  · rintro ⟨i, e⟩
    obtain ⟨j, hj, e2⟩ := it_mod hv h i
    exact ⟨j, hj, by rw [e2, e]⟩
/-- Whether a segment is an orbit's is kept by steps of whatever walker. -/
theorem orb_step (hv : validB W H zs = true) {s t : Wkr} (h : okS W H s) (ht : okS W H t) : (∃ i, segN H (itW W H zs i s) = segN H t) ↔ ∃ i, segN H (itW W H zs i s) = segN H (stepW W H zs t) := by
  obtain ⟨p1, _, p3, _⟩ := per_spec hv h
  have hback : ∀ t, okS W H t → segN H (backS t) = segN H t := fun t ht => by unfold segN; rw [seg_back ht]
  have hpred : ∀ i, ∃ j, stepW W H zs (itW W H zs j s) = itW W H zs i s := by
    intro i
    cases i with
    | zero => exact ⟨per W H zs s - 1, by have : itW W H zs (per W H zs s - 1 + 1) s = s := by rw [Nat.sub_add_cancel p1]; exact p3
                                          exact this⟩
    | succ i => exact ⟨i, rfl⟩
  constructor
  · rintro ⟨i, e⟩
    rcases segN_eq hv (okS_it hv h i) ht e with e1 | e1
    · exact ⟨i + 1, by rw [itW, e1]⟩
    · obtain ⟨j, hj⟩ := hpred i
      refine ⟨j, ?_⟩
      have : t = backS (itW W H zs i s) := by rw [e1, back_back]
      rw [this, ← hj, step_back, hback _ (okS_it hv h j)]
  · rintro ⟨i, e⟩
    rcases segN_eq hv (okS_it hv h i) (okS_step hv ht) e with e1 | e1
    · obtain ⟨j, hj⟩ := hpred i
      exact ⟨j, by rw [step_inj (hj.trans e1)]⟩
    · refine ⟨i + 1, ?_⟩
      have : stepW W H zs (backS (stepW W H zs t)) = backS t := step_back t
      rw [← e1] at this
      rw [itW, this, hback _ ht]
theorem trS_inv (hv : validB W H zs = true) : ∀ k, k ≤ (4 * W * H).toNat → TInv W H zs k (trS W H zs k).1 (trS W H zs k).2 := by
  intro k
  induction k with
  | zero =>
    intro _
    refine ⟨by simp [trS], by simp [trS], ?_, ?_, fun g h => by omega, ?_, ?_⟩
    · intro g z y h
      simp only [trS, List.getElem?_replicate] at h
      split at h
      · left; injection h with h; exact h.symm
      · cases h
    · intro s hs
      simp only [trS, List.getElem?_replicate]
      rw [if_pos (segN_lt hv hs), if_pos (segN_lt hv (okS_step hv hs))]
    · intro z c h; simp [trS] at h
    · intro g z h
      simp only [trS, List.getElem?_replicate] at h
      split at h
      · injection h with h; omega
      · cases h
  | succ k ih =>
    intro hk
    have I := ih (by omega)
    rw [trS]
    have hkl : k < (trS W H zs k).2.length := by rw [I.len]; omega
    obtain ⟨y, hy⟩ : ∃ y, (trS W H zs k).2[k]? = some y := ⟨_, List.getElem?_eq_getElem hkl⟩
    have hyd : (trS W H zs k).2.getD k 0 = y := by rw [List.getD_eq_getElem?_getD, hy]; rfl
    rw [hyd]
    split
    · rename_i h0
      refine ⟨I.len, Nat.le_succ_of_le I.few, I.val, I.inv, fun g hg => ?_, I.cur, I.own⟩
      rcases Nat.lt_or_ge g k with h1 | h1
      · exact I.done g h1
      · obtain rfl : g = k := by omega
        exact ⟨y, hy, h0⟩
    · rename_i h0
      have ym : y = -1 := by rcases I.val k 0 y hy with h | h <;> omega
      subst ym
      have hW := (valid_sides hv).1
      have hH := (valid_sides hv).2
      have hkN : (k : Int) < 4 * W * H := by have := segs_bd hW hH; omega
      have hs := wkS_ok hW hH hkN
      have hsg : segN H (wkS H k) = k := by unfold segN; rw [wkS_seg hW hH hkN]; exact Int.toNat_natCast k
      obtain ⟨s, rfl⟩ : ∃ s, s = wkS H k := ⟨_, rfl⟩
      obtain ⟨cs, ecs⟩ : ∃ cs, cs = (trS W H zs k).1 := ⟨_, rfl⟩
      obtain ⟨o, eo⟩ : ∃ o, o = (trS W H zs k).2 := ⟨_, rfl⟩
      rw [← ecs, ← eo] at I ⊢
      rw [← eo] at hy hkl
      have mo := @mem_orb W H zs hv (wkS H k) hs
      have hin : ∀ g, (∃ i, segN H (itW W H zs i (wkS H k)) = g) → (putAll o (segsI W H zs (wkS H k) (per W H zs (wkS H k))) cs.length)[g]? = some (cs.length : Int) := by
        rintro g ⟨i, hi⟩
        refine putAll_in _ _ _ _ (mo.2 ⟨i, hi⟩) ?_
        rw [← hi, I.len]
        exact segN_lt hv (okS_it hv hs i)
      have hout : ∀ g, (¬ ∃ i, segN H (itW W H zs i (wkS H k)) = g) → (putAll o (segsI W H zs (wkS H k) (per W H zs (wkS H k))) cs.length)[g]? = o[g]? := fun g hn => putAll_out _ _ _ _ fun hm => hn (mo.1 hm)
      have hold : ∀ g, (∃ i, segN H (itW W H zs i (wkS H k)) = g) → o[g]? = some (-1) := by
        rintro g ⟨i, rfl⟩
        rw [inv_it hv I.inv hs, hsg]
        exact hy
      refine ⟨by rw [putAll_length]; exact I.len, by have := I.few; simp; omega, ?_, ?_, ?_, ?_, ?_⟩
      · intro g z y h
        by_cases hg : ∃ i, segN H (itW W H zs i (wkS H k)) = g
        · rw [hin g hg] at h
          injection h with h
          right
          simp
          omega
        · rw [hout g hg] at h
          rcases I.val g 0 y h with h1 | h1
          · exact .inl h1
          · right; simp; omega
      · intro t ht
        have hos := orb_step hv hs ht
        by_cases hg : ∃ i, segN H (itW W H zs i (wkS H k)) = segN H t
        · rw [hin _ hg, hin _ (hos.1 hg)]
        · rw [hout _ hg, hout _ (fun h => hg (hos.2 h))]
          exact I.inv t ht
      · intro g hg
        by_cases hgo : ∃ i, segN H (itW W H zs i (wkS H k)) = g
        · exact ⟨_, hin g hgo, by omega⟩
        · rw [hout g hgo]
          rcases Nat.lt_or_ge g k with h1 | h1
          · exact I.done g h1
          · obtain rfl : g = k := by omega
            exact absurd ⟨0, hsg⟩ hgo
      · intro z c h
        rcases Nat.lt_or_ge z cs.length with hz | hz
        · rw [List.getElem?_append_left hz] at h
          obtain ⟨t, ht, e, ho⟩ := I.cur z c h
          refine ⟨t, ht, e, fun i => ?_⟩
          by_cases hg : ∃ j, segN H (itW W H zs j (wkS H k)) = segN H (itW W H zs i t)
          · have h1 := hold _ hg
            rw [ho i] at h1
            injection h1 with h1
            omega
          · rw [hout _ hg]; exact ho i
        · rw [List.getElem?_append_right hz] at h
          have hz0 : z - cs.length = 0 := by
            rcases Nat.eq_zero_or_pos (z - cs.length) with h2 | h2
            · exact h2
            · rw [List.getElem?_eq_none (by simp; omega)] at h; cases h
          rw [hz0] at h
          simp at h
          obtain rfl : z = cs.length := by omega
          exact ⟨wkS H k, hs, h.symm, fun i => hin _ ⟨i, rfl⟩⟩
      · intro g z h
        by_cases hg : ∃ i, segN H (itW W H zs i (wkS H k)) = g
        · rw [hin g hg] at h
          injection h with h
          have hzl : z = cs.length := by omega
          subst hzl
          obtain ⟨i, e⟩ := hg
          obtain ⟨j, hj, e2⟩ := it_mod hv hs i
          exact ⟨wkS H k, hs, by simp, j, hj, by rw [e2, e]⟩
        · rw [hout g hg] at h
          obtain ⟨t, ht, e, r⟩ := I.own g z h
          exact ⟨t, ht, by rw [List.getElem?_append_left (List.getElem?_eq_some_iff.1 e).1]; exact e, r⟩
end
end Go.Proofs.Ytbgigompkmnapaa

/- Rows of rows of points: compared, marked, held. -/
import Derived.Test.YtbgigompkmnapaaNs
import Derived.Test.YtbgigompkmnapaaEp
namespace Go.Proofs.Ytbgigompkmnapaa
set_option linter.unusedSimpArgs false
set_option linter.unusedVariables false
open Go.ChangeShapes Go.WideShapes Go.ChangeAt Go.RowKit
/-- A nest whose outer row, too, lies before block hi. -/
def NestR (w : World) (lo hi : Nat) (TO TI : TypeId) (s : Nat) (v : Value) (css : List (List Value)) : Prop := Nest w lo hi TO TI s v css ∧ ∀ k, v.ownBlock = some k → k < hi
section
variable {w w' : World} {lo hi : Nat} {TO TI T : TypeId} {s : Nat} {v : Value} {css : List (List Value)}
theorem NestR.of {B hi' : Nat} (h : Nest w B hi' TO TI s v css) (e : lo = B) (e1 : hi' = w.heap.size) (e2 : hi = w.heap.size) : NestR w lo hi TO TI s v css := by
  subst e e1 e2; exact ⟨h, fun k hk => (h.lt k hk).2⟩
theorem NestR.chg {l2 h2 : Nat} (h : NestR w lo hi TO TI s v css) (k : Chg w w' l2 h2) (hd : hi ≤ l2 ∨ h2 ≤ lo) : NestR w' lo hi TO TI s v css := by
  obtain ⟨⟨vs, h1, h3, h4⟩, hu⟩ := h
  refine ⟨⟨vs, (Rgn.chg (⟨h1, hu⟩ : Rgn w lo hi TO 1 v css.length vs) k hd).1, fun i cs hc => ?_, h4⟩, hu⟩
  obtain ⟨vi, n, e, hr⟩ := h3 i cs hc
  exact ⟨vi, n, e, hr.chg k hd⟩
theorem NestR.keep (h : NestR w lo hi TO TI s v css) (k : Below w.heap.size w w') : NestR w' lo hi TO TI s v css := h.chg (l2 := hi) (h2 := hi) (Chg.of_below k _ _) (.inl (Nat.le_refl _))
theorem NestR.alloc (h : NestR w lo hi TO TI s v css) (o : Obj) : NestR (w.alloc o) lo hi TO TI s v css := h.keep ((Below.refl _ _).alloc (Nat.le_refl _) o)
/-- A row told by its own block alone. -/
theorem tight {n : Nat} {cs : List Value} (h : w.ownsRow lo T s v n cs) : ∃ a b, Rgn w a b T s v n cs ∧ (∀ k, a ≤ k → k < b → v.ownBlock = some k) ∧ (v.ownBlock = none ∨ lo ≤ a) := by
  rcases h.2 with ⟨rfl, h0⟩ | ⟨g, cap, cur, rfl, hb, rest⟩
  · exact ⟨0, 0, ⟨⟨h.1, .inl ⟨rfl, h0⟩⟩, fun k hk => by simp [Value.ownBlock] at hk⟩, fun k _ hk => by omega, .inl rfl⟩
  · refine ⟨g, g + 1, ⟨⟨h.1, .inr ⟨g, cap, cur, rfl, Nat.le_refl _, rest⟩⟩, fun k hk => by have := own_blk hk; omega⟩, fun k h1 h2 => ?_, .inr hb⟩
    have : k = g := by omega
    subst this
    rfl
/-- One inner row is written. -/
theorem Nest.upd {j a b n : Nat} {vs : List Value} {vi : Value} {cs' : List Value} (hT : TI ≠ TO) (hO : w.ownsRow lo TO 1 v css.length vs) (hI : ∀ (i : Nat) cs, css[i]? = some cs → ∃ vi n, vs[i]? = some vi ∧ Rgn w lo hi TI s vi n cs)
    (hD : ∀ (i j : Nat) vi vj, i < j → vs[i]? = some vi → vs[j]? = some vj → vi.ownBlock = none ∨ vi.ownBlock ≠ vj.ownBlock)
    (hj : vs[j]? = some vi) {T' : Nat} {cs : List Value} (hr : Rgn w lo hi TI s vi n cs) (ht : ∀ k, a ≤ k → k < b → vi.ownBlock = some k) (hc : Chg w w' a b) (hr' : Rgn w' a b TI s vi n cs') (hla : vi.ownBlock = none ∨ lo ≤ a) :
    Nest w' lo hi TO TI s v (css.set j cs') := by
  have keepo : ∀ {T2 : TypeId} {s2 n2 : Nat} {u : Value} {ds : List Value}, w.ownsRow lo T2 s2 u n2 ds → (u.ownBlock = none ∨ u.ownBlock ≠ vi.ownBlock) → w'.ownsRow lo T2 s2 u n2 ds := by
    intro T2 s2 n2 u ds h hne
    refine ⟨h.1, ?_⟩
    rcases h.2 with hn | ⟨g, cap, cur, rfl, hb, hg, rest⟩
    · exact .inl hn
    · refine .inr ⟨g, cap, cur, rfl, hb, ?_, rest⟩
      rw [hc.block g (Array.getElem?_eq_some_iff.1 hg).1 ?_]
      · exact hg
      · rcases Nat.lt_or_ge g a with h1 | h1
        · exact .inl h1
        · rcases Nat.lt_or_ge g b with h2 | h2
          · have e := ht g h1 h2
            rcases hne with h3 | h3
            · simp [Value.ownBlock] at h3
            · exact absurd e.symm h3
          · exact .inr h2
  refine ⟨vs, by rw [List.length_set]; exact keepo hO (own_ne hO hr.1 (fun e => hT e.symm)), fun i c hi' => ?_, hD⟩
  by_cases hij : j = i
  · subst hij
    have hjl : j < css.length := by have := (List.getElem?_eq_some_iff.1 hi').1; rwa [List.length_set] at this
    rw [List.getElem?_set_self hjl] at hi'
    injection hi' with hi'
    subst hi'
    refine ⟨vi, n, hj, ?_, hr.2⟩
    rcases hr'.1.2 with hn | ⟨g, cap, cur, rfl, hb, rest⟩
    · exact ⟨hr'.1.1, .inl hn⟩
    · exact ⟨hr'.1.1, .inr ⟨g, cap, cur, rfl, (hr.1.lt g rfl).1, rest⟩⟩
  · rw [List.getElem?_set_ne hij] at hi'
    obtain ⟨vk, m, e, hk⟩ := hI i c hi'
    refine ⟨vk, m, e, keepo hk.1 ?_, hk.2⟩
    rcases Nat.lt_or_ge i j with h1 | h1
    · exact hD i j vk vi h1 e hj
    · have h2 := hD j i vi vk (by omega) hj e
      rcases h2 with h2 | h2
      · rw [h2]
        cases vk.ownBlock <;> simp
      · exact .inr (fun e => h2 e.symm)
end
theorem ret_int' {a b : Int} (h : a = b) : Value.int .i64 a = .int .i64 b := by rw [h]
/-- Rows of marks, of ns points each. -/
def mss : Nat → List Nat → List (List Value)
  | _, [] => []
  | k, n :: ns => vals (marks k (2 * n)) :: mss (k + 2 * n) ns
theorem mss_length (ns : List Nat) : ∀ k, (mss k ns).length = ns.length := by
  induction ns with
  | nil => intro k; rfl
  | cons n ns ih => intro k; simp [mss, ih]
def sumN (ns : List Nat) (j : Nat) : Nat := 2 * (ns.take j).sum
theorem sumN_succ (ns : List Nat) (j n : Nat) (h : ns[j]? = some n) : sumN ns (j + 1) = sumN ns j + 2 * n := by
  unfold sumN
  rw [List.take_add_one, h]
  simp [List.sum_append]
  omega
theorem mss_at (ns : List Nat) : ∀ (k j n : Nat), ns[j]? = some n → (mss k ns)[j]? = some (vals (marks (k + sumN ns j) (2 * n))) := by
  induction ns with
  | nil => intro k j n h; simp at h
  | cons m ns ih =>
    intro k j n h
    cases j with
    | zero => simp at h; subst h; simp [mss, sumN]
    | succ j =>
      simp only [List.getElem?_cons_succ] at h
      simp only [mss, List.getElem?_cons_succ]
      rw [ih (k + 2 * m) j n h]
      have : k + 2 * m + sumN ns j = k + sumN (m :: ns) (j + 1) := by simp [sumN]; omega
      rw [this]
/-- The first j rows are marked. -/
def mixS (css : List (List Value)) (k : Nat) (ns : List Nat) (j : Nat) : List (List Value) := (mss k ns).take j ++ css.drop j
theorem mixS_zero (css : List (List Value)) (k : Nat) (ns : List Nat) : mixS css k ns 0 = css := by simp [mixS]
theorem mixS_length (css : List (List Value)) (k : Nat) (ns : List Nat) (j : Nat) (h : css.length = ns.length) : (mixS css k ns j).length = css.length := by
  simp [mixS, mss_length]
  omega
theorem mixS_full (css : List (List Value)) (k : Nat) (ns : List Nat) (h : css.length = ns.length) : mixS css k ns ns.length = mss k ns := by
  unfold mixS
  rw [List.take_of_length_le (by rw [mss_length]; exact Nat.le_refl _), List.drop_of_length_le (by omega)]
  simp
theorem mixS_at (css : List (List Value)) (k : Nat) (ns : List Nat) (j : Nat) (h : css.length = ns.length) (hj : j ≤ ns.length) : (mixS css k ns j)[j]? = css[j]? := by
  unfold mixS
  have hl : ((mss k ns).take j).length = j := by rw [List.length_take, mss_length]; omega
  rw [List.getElem?_append_right (by omega), hl, Nat.sub_self, List.getElem?_drop, Nat.add_zero]
theorem mixS_set (css : List (List Value)) (k : Nat) (ns : List Nat) (j n : Nat) (h : css.length = ns.length) (hn : ns[j]? = some n) : (mixS css k ns j).set j (vals (marks (k + sumN ns j) (2 * n))) = mixS css k ns (j + 1) := by
  have hj : j < ns.length := (List.getElem?_eq_some_iff.1 hn).1
  have hl : ((mss k ns).take j).length = j := by rw [List.length_take, mss_length]; omega
  unfold mixS
  rw [List.set_append_right _ _ (by omega), hl, Nat.sub_self, List.drop_eq_getElem_cons (show j < css.length by omega), List.set_cons_zero, List.take_add_one, mss_at ns k j n hn]
  simp
end Go.Proofs.Ytbgigompkmnapaa

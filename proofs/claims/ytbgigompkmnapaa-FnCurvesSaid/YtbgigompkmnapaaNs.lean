/- Rows of rows. -/
import Derived.Test.YtbgigompkmnapaaRg
import Derived.Lib.OwnKind
import Derived.OneCell
import Derived.Lib.SmallJoins
namespace Go.Proofs.Ytbgigompkmnapaa
set_option linter.unusedSimpArgs false
set_option linter.unusedVariables false
open Go.ChangeShapes Go.WideShapes Go.ChangeAt Go.RowKit
section
variable {w w' : World} {lo lo' hi : Nat} {T T' TO TI : TypeId} {s s' : Nat} {v v' : Value} {n n' : Nat} {cs cs' : List Value} {css : List (List Value)}
/-- Rows of different kinds lie in different blocks. -/
theorem own_ne (h : w.ownsRow lo T s v n cs) (h' : w.ownsRow lo' T' s' v' n' cs') (hT : T ≠ T') : v.ownBlock = none ∨ v.ownBlock ≠ v'.ownBlock := by
  cases e : v.ownBlock with
  | none => exact .inl rfl
  | some g =>
    right
    intro he
    obtain ⟨c, f, h1⟩ := Go.Lib.ownsRow_kind h g e
    obtain ⟨c', f', h2⟩ := Go.Lib.ownsRow_kind h' g he.symm
    rw [h1] at h2
    injection h2 with h2
    injection h2 with _ h2 _
    exact hT h2
/-- A row that begins behind another's blocks. -/
theorem own_far (h : w.ownsRow lo T s v n cs) (hu : ∀ k, v.ownBlock = some k → k < hi) (h' : w.ownsRow lo' T' s' v' n' cs') (hl : hi ≤ lo') : v.ownBlock = none ∨ v.ownBlock ≠ v'.ownBlock := by
  cases e : v.ownBlock with
  | none => exact .inl rfl
  | some g =>
    right
    intro he
    have h1 := hu g e
    have h2 := (h'.lt g he.symm).1
    omega
theorem Rgn.kept {row : Option Nat} (h : Rgn w lo hi T s v n cs) (hg : w.grownBy w' row) (hne : v.ownBlock = none ∨ v.ownBlock ≠ row) : Rgn w' lo hi T s v n cs := ⟨h.1.kept hg hne, h.2⟩
theorem Rgn.more {hi' : Nat} (h : Rgn w lo hi T s v n cs) (e : hi ≤ hi') : Rgn w lo hi' T s v n cs := ⟨h.1, fun k hk => Nat.lt_of_lt_of_le (h.2 k hk) e⟩
theorem Rgn.from' (h : Rgn w lo hi T s v n cs) (e : lo' ≤ lo) : Rgn w lo' hi T s v n cs := ⟨Go.Joins.ownsRow_le h.1 e, h.2⟩

theorem own_below (h : w.ownsRow lo T s v n cs) (hb : Below w.heap.size w w') : w'.ownsRow lo T s v n cs := own_keep h hb
theorem bbl {w0 w w' : World} (h : Below w0.heap.size w0 w) (k : Below w.heap.size w w') : Below w0.heap.size w0 w' := bstep h k
/-- v owns a row of slices, each of which owns a row of its own; the inner ones lie before block hi, in blocks of their own. -/
def Nest (w : World) (lo hi : Nat) (TO TI : TypeId) (s : Nat) (v : Value) (css : List (List Value)) : Prop :=
  ∃ vs : List Value, w.ownsRow lo TO 1 v css.length vs ∧ (∀ (i : Nat) cs, css[i]? = some cs → ∃ vi n, vs[i]? = some vi ∧ Rgn w lo hi TI s vi n cs) ∧
    ∀ (i j : Nat) vi vj, i < j → vs[i]? = some vi → vs[j]? = some vj → vi.ownBlock = none ∨ vi.ownBlock ≠ vj.ownBlock
theorem Nest.nil (h : w.ownsRow lo TO 1 v 0 []) (hi : Nat) : Nest w lo hi TO TI s v [] := ⟨[], h, fun i cs h => by simp at h, fun i j vi vj _ h => by simp at h⟩
theorem Nest.kept {row : Option Nat} (h : Nest w lo hi TO TI s v css) (hg : w.grownBy w' row) (ho : ∀ vs, w.ownsRow lo TO 1 v css.length vs → v.ownBlock = none ∨ v.ownBlock ≠ row)
    (hi' : ∀ vi n cs, Rgn w lo hi TI s vi n cs → vi.ownBlock = none ∨ vi.ownBlock ≠ row) : Nest w' lo hi TO TI s v css := by
  obtain ⟨vs, h1, h2, h3⟩ := h
  refine ⟨vs, h1.kept hg (ho vs h1), fun i cs hc => ?_, h3⟩
  obtain ⟨vi, n, e, hr⟩ := h2 i cs hc
  exact ⟨vi, n, e, hr.kept hg (hi' vi n cs hr)⟩
theorem Nest.other (h : Nest w lo hi TO TI s v css) (h' : w.ownsRow lo' T' s' v' n' cs') (hg : w.grownBy w' v'.ownBlock) (hO : TO ≠ T') (hI : TI ≠ T') : Nest w' lo hi TO TI s v css :=
  h.kept hg (fun _ hv => own_ne hv h' hO) (fun _ _ _ hr => own_ne hr.1 h' hI)
theorem Nest.curve (h : Nest w lo hi TO TI s v css) (h' : w.ownsRow lo' T' s' v' n' cs') (hg : w.grownBy w' v'.ownBlock) (hO : TO ≠ T') (hl : hi ≤ lo') : Nest w' lo hi TO TI s v css :=
  h.kept hg (fun _ hv => own_ne hv h' hO) (fun _ _ _ hr => own_far hr.1 hr.2 h' hl)
theorem Nest.keep (h : Nest w lo hi TO TI s v css) (hb : Below w.heap.size w w') : Nest w' lo hi TO TI s v css := by
  have hg := grown_of_below hb none
  exact h.kept hg (fun _ _ => by cases v.ownBlock <;> simp) (fun vi _ _ _ => by cases vi.ownBlock <;> simp)
theorem Nest.alloc (h : Nest w lo hi TO TI s v css) (o : Obj) : Nest (w.alloc o) lo hi TO TI s v css := h.keep ((Below.refl _ _).alloc (Nat.le_refl _) o)
theorem Nest.more {hi' : Nat} (h : Nest w lo hi TO TI s v css) (e : hi ≤ hi') : Nest w lo hi' TO TI s v css := by
  obtain ⟨vs, h1, h2, h3⟩ := h
  refine ⟨vs, h1, fun i cs hc => ?_, h3⟩
  obtain ⟨vi, n, e', hr⟩ := h2 i cs hc
  exact ⟨vi, n, e', hr.more e⟩
theorem Nest.setBelow (h : Nest w lo hi TO TI s v css) {a : Addr} (ha : a.block < lo) (u : Value) : Nest (w.setCell a u) lo hi TO TI s v css := by
  obtain ⟨vs, h1, h2, h3⟩ := h
  refine ⟨vs, ownsRow_setCell_below h1 ha u, fun i cs hc => ?_, h3⟩
  obtain ⟨vi, n, e', hr⟩ := h2 i cs hc
  exact ⟨vi, n, e', ownsRow_setCell_below hr.1 ha u, hr.2⟩
theorem Nest.from' (h : Nest w lo hi TO TI s v css) (e : lo' ≤ lo) : Nest w lo' hi TO TI s v css := by
  obtain ⟨vs, h1, h2, h3⟩ := h
  refine ⟨vs, Go.Joins.ownsRow_le h1 e, fun i cs hc => ?_, h3⟩
  obtain ⟨vi, n, e', hr⟩ := h2 i cs hc
  exact ⟨vi, n, e', hr.from' e⟩
theorem own_set (h : w.ownsRow lo T s v n cs) {a : Addr} (ha : ∀ k, v.ownBlock = some k → k < a.block) (u : Value) : (w.setCell a u).ownsRow lo T s v n cs := ownsRow_setCell_other h (fun e => Nat.lt_irrefl _ (ha _ e)) u
theorem Nest.setFar (h : Nest w lo hi TO TI s v css) {a : Addr} (ha : hi ≤ a.block) (hv : ∀ k, v.ownBlock = some k → k < hi) (u : Value) : Nest (w.setCell a u) lo hi TO TI s v css := by
  obtain ⟨vs, h1, h2, h3⟩ := h
  refine ⟨vs, own_set h1 (fun k hk => Nat.lt_of_lt_of_le (hv k hk) ha) u, fun i cs hc => ?_, h3⟩
  obtain ⟨vi, n, e', hr⟩ := h2 i cs hc
  exact ⟨vi, n, e', own_set hr.1 (fun k hk => Nat.lt_of_lt_of_le (hr.2 k hk) ha) u, hr.2⟩
theorem own_blk {g o n c q : Nat} (h : (Value.slice (some ⟨g, o, none⟩) n c).ownBlock = some q) : g = q := by simpa [Value.ownBlock] using h
theorem own_max (h : w.ownsRow lo T s v n cs) : n ≤ maxLen := by
  rcases h.2 with ⟨_, h0⟩ | ⟨g, cap, cur, _, _, _, h1, h2, _⟩
  · omega
  · omega
theorem own_form (h : w.ownsRow lo T s v n cs) : ∃ A c, v = .slice A n c := by
  rcases h.2 with ⟨rfl, h0⟩ | ⟨g, cap, cur, rfl, _⟩
  · exact ⟨none, 0, by rw [h0]⟩
  · exact ⟨_, _, rfl⟩
theorem Nest.outer (h : Nest w lo hi TO TI s v css) : ∃ vs, w.ownsRow lo TO 1 v css.length vs := by obtain ⟨vs, h1, _⟩ := h; exact ⟨vs, h1⟩
theorem Nest.lt (h : Nest w lo hi TO TI s v css) : ∀ k, v.ownBlock = some k → lo ≤ k ∧ k < w.heap.size := by obtain ⟨vs, h1, _⟩ := h; exact h1.lt
/-- One more inner row, which begins behind the others. -/
theorem Nest.snoc {vs : List Value} {vi : Value} (hO : w.ownsRow lo TO 1 v css.length vs) (hI : ∀ (i : Nat) cs, css[i]? = some cs → ∃ vi n, vs[i]? = some vi ∧ Rgn w lo hi TI s vi n cs)
    (hD : ∀ (i j : Nat) vi vj, i < j → vs[i]? = some vi → vs[j]? = some vj → vi.ownBlock = none ∨ vi.ownBlock ≠ vj.ownBlock)
    (hr : w.ownsRow lo' TI s vi n cs) (hl : hi ≤ lo') (hlo : lo ≤ lo') (ho : w'.ownsRow lo TO 1 v' (css.length + 1) (vs ++ [vi])) (hg : w.grownBy w' v.ownBlock) (hT : TI ≠ TO) (h2 : Nat) (hh : h2 = w'.heap.size) :
    Nest w' lo h2 TO TI s v' (css ++ [cs]) := by
  subst hh
  have hvl : vs.length = css.length := by simpa using hO.1
  have hik : ∀ vi n cs, w.ownsRow lo TI s vi n cs → w'.ownsRow lo TI s vi n cs := fun vi n cs h => h.kept hg (own_ne h hO hT)
  have hnew := hik vi n cs (Go.Joins.ownsRow_le hr hlo)
  refine ⟨vs ++ [vi], by simpa using ho, fun i c hc => ?_, fun i j a b hij ha hb => ?_⟩
  · rcases Nat.lt_or_ge i css.length with h1 | h1
    · rw [List.getElem?_append_left h1] at hc
      obtain ⟨vi', n', e, hr'⟩ := hI i c hc
      exact ⟨vi', n', by rw [List.getElem?_append_left (by omega)]; exact e, hik _ _ _ hr'.1, fun k hk => ((hik _ _ _ hr'.1).lt k hk).2⟩
    · rw [List.getElem?_append_right h1] at hc
      have h0 : i - css.length = 0 := by
        rcases Nat.eq_zero_or_pos (i - css.length) with h2 | h2
        · exact h2
        · rw [List.getElem?_eq_none (by simp; omega)] at hc; cases hc
      rw [h0] at hc
      simp at hc
      subst hc
      refine ⟨vi, n, ?_, hnew, fun k hk => (hnew.lt k hk).2⟩
      rw [List.getElem?_append_right (by omega), show i - vs.length = 0 by omega]
      rfl
  · rcases Nat.lt_or_ge j vs.length with h1 | h1
    · rw [List.getElem?_append_left h1] at hb
      rw [List.getElem?_append_left (by omega)] at ha
      exact hD i j a b hij ha hb
    · rw [List.getElem?_append_right h1] at hb
      have h0 : j - vs.length = 0 := by
        rcases Nat.eq_zero_or_pos (j - vs.length) with h2 | h2
        · exact h2
        · rw [List.getElem?_eq_none (by simp; omega)] at hb; cases hb
      rw [h0] at hb
      simp at hb
      subst hb
      rw [List.getElem?_append_left (by omega)] at ha
      obtain ⟨c, hc⟩ : ∃ c, css[i]? = some c := ⟨_, List.getElem?_eq_getElem (by omega)⟩
      obtain ⟨vi', n', e, hr'⟩ := hI i c hc
      rw [ha] at e
      injection e with e
      subst e
      exact own_far hr'.1 hr'.2 hr hl
end
end Go.Proofs.Ytbgigompkmnapaa

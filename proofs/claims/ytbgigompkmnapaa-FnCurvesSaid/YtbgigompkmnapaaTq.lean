/- Plain: a curve meets a border point once at most; sets of points as maps. -/
import Derived.Test.YtbgigompkmnapaaCo
import Derived.Test.YtbgigompkmnapaaPe
import Derived.Maps.OwnSet
import Derived.DeepKeys4
namespace Go.Proofs.Ytbgigompkmnapaa
set_option linter.unusedSimpArgs false
set_option linter.unusedVariables false
open Go.ChangeShapes Go.WideShapes Go.ChangeAt Go.RowKit
/-- Two walkers of a curve at one border point are one. -/
theorem edge_prev {W H : Int} {zs : List Int} (hv : validB W H zs = true) {p b : Wkr} (hp : okS W H p) (hb : okS W H b) (he : edgeP W H b.1 b.2.1 = true) (h1 : (stepW W H zs p).1 = b.1) (h2 : (stepW W H zs p).2.1 = b.2.1) : b = stepW W H zs p ∨ b = backS p := by
  obtain ⟨x, y, u, v⟩ := p
  obtain ⟨x', y', u', v'⟩ := b
  have ha := okS_step hv hp
  obtain ⟨a1, a2, a3, a4⟩ := walk_parts hp
  obtain ⟨b1, b2, b3, b4⟩ := walk_parts hb
  obtain ⟨c1, c2, c3, c4⟩ := walk_parts ha
  simp only [stepW] at h1 h2 c1 c2 c3 c4
  simp only at a1 a2 a3 a4 b1 b2 b3 b4 he
  have p1 := hasP_bd a3
  have p2 := hasP_bd a4
  have p3 := hasP_bd b3
  have p4 := hasP_bd b4
  have p5 := hasP_bd c4
  have q : (x' + y') % 2 = 1 := by simp only [hasP, Bool.and_eq_true, beq_iff_eq] at b3; exact b3.2.2
  have q2 := valid_sides hv
  have w1 := side_bd q2.1
  have w2 := side_bd q2.2
  have hE : edgeP W H (x + u) (y + v) = true := by rw [h1, h2]; exact he
  have hK : stK W H zs (x + u) (y + v) = 0 := by simp [stK, hE]
  have hU : stU W H zs x y u v = if (x + u == 0 || x + u == 2 * W) then -u else u := by simp [stU, hK]
  have hV : stV W H zs x y u v = if (y + v == 0 || y + v == 2 * H) then -v else v := by simp [stV, hK]
  have he2 : x' = 0 ∨ x' = 2 * W ∨ y' = 0 ∨ y' = 2 * H := by simpa [edgeP] using he
  simp only [stepW, backS, Prod.mk.injEq, hU, hV]
  subst h1 h2
  by_cases hx : x + u = 0 ∨ x + u = 2 * W
  · have hy : ¬ (y + v = 0 ∨ y + v = 2 * H) := by omega
    have e1 : (x + u == 0 || x + u == 2 * W) = true := by simpa using hx
    have e2 : (y + v == 0 || y + v == 2 * H) = false := by simpa using hy
    simp only [e1, e2, if_true, Bool.false_eq_true, if_false, true_and]
    rcases a1 with rfl | rfl <;> rcases a2 with rfl | rfl <;> rcases b1 with rfl | rfl <;> rcases b2 with rfl | rfl <;> first | (left; omega) | (right; omega) | (exfalso; omega) | omega
  · have hy : (y + v = 0 ∨ y + v = 2 * H) := by omega
    have e1 : (x + u == 0 || x + u == 2 * W) = false := by simpa using hx
    have e2 : (y + v == 0 || y + v == 2 * H) = true := by simpa using hy
    simp only [e1, e2, if_true, Bool.false_eq_true, if_false, true_and]
    rcases a1 with rfl | rfl <;> rcases a2 with rfl | rfl <;> rcases b1 with rfl | rfl <;> rcases b2 with rfl | rfl <;> first | (left; omega) | (right; omega) | (exfalso; omega) | omega
theorem edge_once {W H : Int} {zs : List Int} (hv : validB W H zs = true) {s : Wkr} (hs : okS W H s) {i j : Nat} (hij : i < j) (hj : j < per W H zs s) (he : edgeP W H (itW W H zs i s).1 (itW W H zs i s).2.1 = true)
    (h1 : (itW W H zs j s).1 = (itW W H zs i s).1) (h2 : (itW W H zs j s).2.1 = (itW W H zs i s).2.1) : False := by
  obtain ⟨m, rfl⟩ : ∃ m, j = m + 1 := ⟨j - 1, by omega⟩
  rcases edge_prev hv (okS_it hv hs m) (okS_it hv hs i) he h1 h2 with e | e
  · exact per_seg hv hs hij hj (congrArg (segS H) e)
  · have e2 : segS H (itW W H zs i s) = segS H (itW W H zs m s) := by rw [e]; exact seg_back (okS_it hv hs m)
    have e3 := orb_seg hv hs e2
    rw [e3] at e
    exact no_back hv (okS_it hv hs m) 0 e
theorem flatP_at {cs : List Wkr} {i : Nat} {s : Wkr} (h : cs[i]? = some s) : (flatP cs)[i * 2]? = some s.1 ∧ (flatP cs)[i * 2 + 1]? = some s.2.1 := by
  induction cs generalizing i with
  | nil => simp at h
  | cons a l ih =>
    cases i with
    | zero => simp at h; subst h; simp [flatP, pnum]
    | succ i =>
      simp only [List.getElem?_cons_succ] at h
      have := ih h
      have e : flatP (a :: l) = [a.1, a.2.1] ++ flatP l := rfl
      rw [e, show (i + 1) * 2 = i * 2 + 2 by omega]
      refine ⟨?_, ?_⟩
      · rw [List.getElem?_append_right (by simp)]; simpa using this.1
      · rw [List.getElem?_append_right (by simp)]; simpa using this.2
/-- How many points of a curve lie on the border. -/
def tcn (W H : Int) (c : List Wkr) : Nat := c.countP fun s => edgeP W H s.1 s.2.1
def tcR (W H : Int) (zs : List Int) (a : Int) : Int := if validB W H zs && inR a 0 ((trS W H zs (4 * W * H).toNat).1.length - 1) then (tcn W H ((trS W H zs (4 * W * H).toNat).1.getD a.toNat []) : Nat) else 0
def tcC (W H : Int) (zs : List Int) (a : Int) : Int := if validB W H zs then (if inR a 0 ((trS W H zs (4 * W * H).toNat).1.length - 1) then 0 else 2) else 1
theorem tcn_take {W H : Int} {c : List Wkr} {k : Nat} {s : Wkr} (h : c[k]? = some s) : tcn W H (c.take (k + 1)) = tcn W H (c.take k) + (if edgeP W H s.1 s.2.1 then 1 else 0) := by
  unfold tcn
  rw [List.take_add_one, h, List.countP_append]
  simp [List.countP_cons]
/-- A point as a key. -/
def keyPt (x y : Int) : Lit := .string (keyBytes [.int .i64 x, .int .i64 y])
theorem ptWide : (match Try.prog.underlying 32 with | some (.array _ _) | some (.struct _) => true | _ => false) = true := by kernel_rfl
theorem ptRow : (32 : TypeId) < Try.prog.types.size := of_decide_eq_true (by kernel_rfl)
theorem laidOutT : laidOutB Try.prog = true := by kernel_rfl
set_option maxRecDepth 100000 in
theorem ptKeyed : Go.Maps.Keyed Try.prog 32 := Go.Maps.Keyed.of_law (deep_law_laid laidOutT (m := 2) (by omega) ptRow (by kernel_rfl) ptWide)
theorem ptcN : Try.prog.cellsOf 32 = 2 := by kernel_rfl
theorem ptI64 : Try.prog.cellsOf 2 = 1 := by kernel_rfl
theorem ptType : Try.prog.keyType 32 = true := by kernel_rfl
set_option maxRecDepth 100000 in
theorem ptSize : ∃ m, Try.prog.types.size + 1 = m + 2 := ⟨Try.prog.types.size - 1, by have h : (0 : Nat) < Try.prog.types.size := Nat.lt_of_le_of_lt (Nat.zero_le _) ptRow; omega⟩
theorem keyPt_of {x y : Int} (hx : (Lit.int .i64 x).wf = true) (hy : (Lit.int .i64 y).wf = true) : keyOf Try.prog 32 (.agg #[.int .i64 x, .int .i64 y]) = some (keyPt x y) := by
  obtain ⟨m, hm⟩ := ptSize
  have hf : (Value.agg #[.int .i64 x, .int .i64 y]).formed Try.prog 32 = true := by simp [Value.formed, Try.underlying32, ptcN]
  have hc : (Value.agg #[.int .i64 x, .int .i64 y]).cells.toList = [.int .i64 x, .int .i64 y] := by simp [Value.cells]
  unfold keyOf
  simp only [Try.underlying32, ptType, hf, hm, hc, Bool.and_self, if_true]
  simp [Program.keyLits, Try.underlying32, Try.underlying2, ptcN, ptI64, hx, hy, keyPt]
theorem keyPt_inj {x y x' y' : Int} (hx : (Lit.int .i64 x).wf = true) (hy : (Lit.int .i64 y).wf = true) (hx' : (Lit.int .i64 x').wf = true) (hy' : (Lit.int .i64 y').wf = true) (h : keyPt x y = keyPt x' y') : x = x' ∧ y = y' := by
  have e := ptKeyed.inj (keyPt_of hx hy) (h ▸ keyPt_of hx' hy')
  simpa using e
/-- The set of the border points among some walkers'. -/
def edgeKeys (W H : Int) (c : List Wkr) : List Lit := (c.filter fun s => edgeP W H s.1 s.2.1).map fun s => keyPt s.1 s.2.1
def edgeSet (W H : Int) (c : List Wkr) : DataW Unit := Go.Maps.setOf (.lit (.bool true)) (edgeKeys W H c)
theorem edgeKeys_take {W H : Int} {c : List Wkr} {k : Nat} {s : Wkr} (h : c[k]? = some s) : edgeKeys W H (c.take (k + 1)) = edgeKeys W H (c.take k) ++ (if edgeP W H s.1 s.2.1 then [keyPt s.1 s.2.1] else []) := by
  unfold edgeKeys
  rw [List.take_add_one, h, List.filter_append, List.map_append]
  simp only [Option.toList_some, List.filter_cons, List.filter_nil]
  split <;> simp
theorem edgeSet_take {W H : Int} {c : List Wkr} {k : Nat} {s : Wkr} (h : c[k]? = some s) (he : edgeP W H s.1 s.2.1 = true) : edgeSet W H (c.take (k + 1)) = (edgeSet W H (c.take k)).put (keyPt s.1 s.2.1) (.lit (.bool true)) := by
  unfold edgeSet
  rw [edgeKeys_take h, if_pos he, Go.Maps.setOf_snoc]
theorem edgeSet_same {W H : Int} {c : List Wkr} {k : Nat} {s : Wkr} (h : c[k]? = some s) (he : edgeP W H s.1 s.2.1 = false) : edgeSet W H (c.take (k + 1)) = edgeSet W H (c.take k) := by
  unfold edgeSet
  rw [edgeKeys_take h, if_neg (by simp [he]), List.append_nil]
theorem edgeKeys_lit (W H : Int) (c : List Wkr) : ∀ x ∈ edgeKeys W H c, WideAt.IsKeyLit x := by
  intro x hx
  simp only [edgeKeys, List.mem_map] at hx
  obtain ⟨s, _, rfl⟩ := hx
  trivial
/-- The set has as many points as the curve has on the border. -/
theorem edgeSet_size {W H : Int} {c : List Wkr} (hd : ∀ (i j : Nat) s t, i < j → c[i]? = some s → c[j]? = some t → edgeP W H s.1 s.2.1 = true → keyPt s.1 s.2.1 ≠ keyPt t.1 t.2.1) :
    ∀ k, k ≤ c.length → Go.Maps.size (edgeSet W H (c.take k)) = tcn W H (c.take k) := by
  intro k
  induction k with
  | zero => intro _; rfl
  | succ k ih =>
    intro hk
    obtain ⟨s, hs⟩ : ∃ s, c[k]? = some s := ⟨_, List.getElem?_eq_getElem (by omega)⟩
    have h0 := ih (by omega)
    cases he : edgeP W H s.1 s.2.1
    · rw [edgeSet_same hs he, tcn_take hs, he, h0]; rfl
    · have ht0 : Go.Maps.Tidy (edgeSet W H (c.take k)) := Go.Maps.tidy_setOf _ _ (edgeKeys_lit W H _)
      rw [edgeSet_take hs he, Go.Maps.size_put ht0, tcn_take hs, he]
      have hno : Go.Maps.has (edgeSet W H (c.take k)) (keyPt s.1 s.2.1) = false := by
        unfold edgeSet
        rw [Go.Maps.has_setOf _ _ _ (edgeKeys_lit W H _), List.any_eq_false]
        intro x hx hsk
        have e := WideAt.sameKey_eq hsk
        simp only [edgeKeys, List.mem_map, List.mem_filter] at hx
        obtain ⟨t, ⟨ht, hte⟩, rfl⟩ := hx
        obtain ⟨i, hi⟩ := List.mem_iff_getElem?.1 ht
        rw [List.getElem?_take] at hi
        split at hi
        · exact hd i k t s (by assumption) hi hs hte e
        · cases hi
      rw [hno, h0]; rfl
theorem edge_apart {W H : Int} {zs : List Int} (hv : validB W H zs = true) {s0 : Wkr} (hs0 : okS W H s0) : ∀ (i j : Nat) s t, i < j → (curS W H zs s0)[i]? = some s → (curS W H zs s0)[j]? = some t → edgeP W H s.1 s.2.1 = true → keyPt s.1 s.2.1 ≠ keyPt t.1 t.2.1 := by
  intro i j s t hij hs ht he hk
  simp only [curS, List.getElem?_map, Option.map_eq_some_iff] at hs ht
  obtain ⟨i', hi, rfl⟩ := hs
  obtain ⟨j', hj, rfl⟩ := ht
  obtain ⟨hi1, hi2⟩ := List.getElem?_eq_some_iff.1 hi
  obtain ⟨hj1, hj2⟩ := List.getElem?_eq_some_iff.1 hj
  simp at hi1 hi2 hj1 hj2
  subst hi2 hj2
  have bd : ∀ n, (Lit.int .i64 (itW W H zs n s0).1).wf = true ∧ (Lit.int .i64 (itW W H zs n s0).2.1).wf = true := by
    intro n
    have h := okS_it hv hs0 n
    obtain ⟨_, _, h3, _⟩ := walk_parts h
    have h4 := hasP_bd h3
    have w1 := side_bd (valid_sides hv).1
    have w2 := side_bd (valid_sides hv).2
    constructor <;> (simp [Lit.wf, IntKind.min, IntKind.max, IntKind.bits, IntKind.signed]; omega)
  obtain ⟨e1, e2⟩ := keyPt_inj (bd _).1 (bd _).2 (bd _).1 (bd _).2 hk
  exact edge_once hv hs0 hij hj1 he e1.symm e2.symm
/-- A curve of a panel by its number. -/
theorem cur_of {W H : Int} {zs : List Int} (hv : validB W H zs = true) {j : Nat} {c : List Wkr} (h : (trS W H zs (4 * W * H).toNat).1[j]? = some c) : ∃ s, okS W H s ∧ c = curS W H zs s := by
  obtain ⟨s, hs, e, _⟩ := (trS_inv hv _ (Nat.le_refl _)).cur j c h
  exact ⟨s, hs, e⟩
end Go.Proofs.Ytbgigompkmnapaa

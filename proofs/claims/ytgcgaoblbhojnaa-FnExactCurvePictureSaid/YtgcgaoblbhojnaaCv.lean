/- Plain: how often a curve comes to a point (at most twice), and the picture with the marks of a curve. -/
import Derived.Test.YtgcgaoblbhojnaaTq
import Derived.Test.YtgcgaoblbhojnaaPp
namespace Go.Proofs.Ytgcgaoblbhojnaa
set_option linter.unusedSimpArgs false
set_option linter.unusedVariables false
open Go.ChangeShapes Go.WideShapes Go.ChangeAt Go.RowKit
section
variable {W H : Int} {zs : List Int}
/-- In its orbit every walker has one before it. -/
theorem it_pred (hv : validB W H zs = true) {s : Wkr} (h : okS W H s) (i : Nat) : ∃ m, itW W H zs i s = stepW W H zs (itW W H zs m s) := by
  obtain ⟨p1, p2, p3, _⟩ := per_spec hv h
  refine ⟨i + (per W H zs s - 1), ?_⟩
  have e : itW W H zs (i + per W H zs s) s = itW W H zs i s := by rw [it_add, p3]
  rw [← e, show i + per W H zs s = (i + (per W H zs s - 1)) + 1 by omega]
  rfl
/-- No walker of an orbit goes back on the segment by which another came. -/
theorem orb_avoid (hv : validB W H zs = true) {s : Wkr} (h : okS W H s) (m j : Nat) : itW W H zs j s ≠ backS (itW W H zs m s) := by
  intro e
  have h1 := okS_it hv h m
  have e2 : segS H (itW W H zs j s) = segS H (itW W H zs m s) := by rw [e]; exact seg_back h1
  have e3 := orb_seg hv h e2
  rw [e3] at e
  exact no_back hv h1 0 e
theorem inner_turn {p : Wkr} (he : edgeP W H (stepW W H zs p).1 (stepW W H zs p).2.1 = false) :
    (stK W H zs (stepW W H zs p).1 (stepW W H zs p).2.1 = 1 ∧ (backS p).2.2.1 = (stepW W H zs p).2.2.1 ∧ (backS p).2.2.2 = -(stepW W H zs p).2.2.2) ∨
    (stK W H zs (stepW W H zs p).1 (stepW W H zs p).2.1 = 2 ∧ (backS p).2.2.1 = -(stepW W H zs p).2.2.1 ∧ (backS p).2.2.2 = (stepW W H zs p).2.2.2) ∨
    (stK W H zs (stepW W H zs p).1 (stepW W H zs p).2.1 ≠ 1 ∧ stK W H zs (stepW W H zs p).1 (stepW W H zs p).2.1 ≠ 2 ∧ (backS p).2.2.1 = -(stepW W H zs p).2.2.1 ∧ (backS p).2.2.2 = -(stepW W H zs p).2.2.2) := by
  obtain ⟨x, y, u, v⟩ := p
  simp only [stepW, backS] at he ⊢
  obtain ⟨K, hK⟩ : ∃ K, stK W H zs (x + u) (y + v) = K := ⟨_, rfl⟩
  have he2 : ¬ (x + u = 0) ∧ ¬ (x + u = 2 * W) ∧ ¬ (y + v = 0) ∧ ¬ (y + v = 2 * H) := by
    simp only [edgeP, Bool.or_eq_false_iff, beq_eq_false_iff_ne, ne_eq] at he
    omega
  have hU : stU W H zs x y u v = if K = 1 then -u else u := by simp [stU, hK, he2.1, he2.2.1]
  have hV : stV W H zs x y u v = if K = 2 then -v else v := by simp [stV, hK, he2.2.2.1, he2.2.2.2]
  rw [hU, hV, hK]
  by_cases h1 : K = 1
  · left; subst h1; simp
  · by_cases h2 : K = 2
    · right; left; subst h2; simp
    · right; right; simp [h1, h2]
theorem no_three (hv : validB W H zs = true) {s : Wkr} (h : okS W H s) {i j k : Nat} {X Y : Int} (he : edgeP W H X Y = false)
    (ia : (itW W H zs i s).1 = X ∧ (itW W H zs i s).2.1 = Y) (ja : (itW W H zs j s).1 = X ∧ (itW W H zs j s).2.1 = Y) (ka : (itW W H zs k s).1 = X ∧ (itW W H zs k s).2.1 = Y)
    (hij : itW W H zs i s ≠ itW W H zs j s) (hik : itW W H zs i s ≠ itW W H zs k s) (hjk : itW W H zs j s ≠ itW W H zs k s) : False := by
  have A : ∀ i j : Nat, (itW W H zs i s).1 = X ∧ (itW W H zs i s).2.1 = Y → (itW W H zs j s).1 = X ∧ (itW W H zs j s).2.1 = Y →
      (stK W H zs X Y = 1 → ¬ ((itW W H zs j s).2.2.1 = (itW W H zs i s).2.2.1 ∧ (itW W H zs j s).2.2.2 = -(itW W H zs i s).2.2.2)) ∧
      (stK W H zs X Y = 2 → ¬ ((itW W H zs j s).2.2.1 = -(itW W H zs i s).2.2.1 ∧ (itW W H zs j s).2.2.2 = (itW W H zs i s).2.2.2)) ∧
      (stK W H zs X Y ≠ 1 → stK W H zs X Y ≠ 2 → ¬ ((itW W H zs j s).2.2.1 = -(itW W H zs i s).2.2.1 ∧ (itW W H zs j s).2.2.2 = -(itW W H zs i s).2.2.2)) := by
    intro i j ia ja
    obtain ⟨m, hm⟩ := it_pred hv h i
    have av := orb_avoid hv h m j
    have hb1 : (backS (itW W H zs m s)).1 = X := by rw [← ia.1, hm]; simp [backS, stepW]
    have hb2 : (backS (itW W H zs m s)).2.1 = Y := by rw [← ia.2, hm]; simp [backS, stepW]
    have hin := inner_turn (W := W) (H := H) (zs := zs) (p := itW W H zs m s) (by rw [← hm, ia.1, ia.2]; exact he)
    rw [← hm, ia.1, ia.2] at hin
    have key : ∀ q1 q2 : Int, (backS (itW W H zs m s)).2.2.1 = q1 → (backS (itW W H zs m s)).2.2.2 = q2 → ¬ ((itW W H zs j s).2.2.1 = q1 ∧ (itW W H zs j s).2.2.2 = q2) := by
      intro q1 q2 e1 e2 ⟨e3, e4⟩
      exact av (wkr_ext (ja.1.trans hb1.symm) (ja.2.trans hb2.symm) (e3.trans e1.symm) (e4.trans e2.symm))
    refine ⟨fun hk => ?_, fun hk => ?_, fun hk hk2 => ?_⟩
    · rcases hin with ⟨_, q1, q2⟩ | ⟨q, _, _⟩ | ⟨q, _, _⟩
      · exact key _ _ q1 q2
      · omega
      · exact absurd hk q
    · rcases hin with ⟨q, _, _⟩ | ⟨_, q1, q2⟩ | ⟨_, q, _⟩
      · omega
      · exact key _ _ q1 q2
      · exact absurd hk q
    · rcases hin with ⟨q, _, _⟩ | ⟨q, _, _⟩ | ⟨_, _, q1, q2⟩
      · exact absurd q hk
      · exact absurd q hk2
      · exact key _ _ q1 q2
  have n1 := A i j ia ja
  have n2 := A i k ia ka
  have n3 := A j k ja ka
  obtain ⟨a1, a2, _, _⟩ := walk_parts (okS_it hv h i)
  obtain ⟨b1, b2, _, _⟩ := walk_parts (okS_it hv h j)
  obtain ⟨c1, c2, _, _⟩ := walk_parts (okS_it hv h k)
  have d1 : ¬ ((itW W H zs i s).2.2.1 = (itW W H zs j s).2.2.1 ∧ (itW W H zs i s).2.2.2 = (itW W H zs j s).2.2.2) := fun ⟨e1, e2⟩ => hij (wkr_ext (ia.1.trans ja.1.symm) (ia.2.trans ja.2.symm) e1 e2)
  have d2 : ¬ ((itW W H zs i s).2.2.1 = (itW W H zs k s).2.2.1 ∧ (itW W H zs i s).2.2.2 = (itW W H zs k s).2.2.2) := fun ⟨e1, e2⟩ => hik (wkr_ext (ia.1.trans ka.1.symm) (ia.2.trans ka.2.symm) e1 e2)
  have d3 : ¬ ((itW W H zs j s).2.2.1 = (itW W H zs k s).2.2.1 ∧ (itW W H zs j s).2.2.2 = (itW W H zs k s).2.2.2) := fun ⟨e1, e2⟩ => hjk (wkr_ext (ja.1.trans ka.1.symm) (ja.2.trans ka.2.symm) e1 e2)
  generalize stK W H zs X Y = K at n1 n2 n3
  generalize (itW W H zs i s).2.2.1 = p1 at *
  generalize (itW W H zs i s).2.2.2 = p2 at *
  generalize (itW W H zs j s).2.2.1 = q1 at *
  generalize (itW W H zs j s).2.2.2 = q2 at *
  generalize (itW W H zs k s).2.2.1 = r1 at *
  generalize (itW W H zs k s).2.2.2 = r2 at *
  clear ia ja ka hij hik hjk A
  by_cases h1 : K = 1
  · have m1 := n1.1 h1; have m2 := n2.1 h1; have m3 := n3.1 h1
    clear n1 n2 n3
    rcases a1 with rfl | rfl <;> rcases a2 with rfl | rfl <;> rcases b1 with rfl | rfl <;> rcases b2 with rfl | rfl <;> simp at m1 d1 <;> omega
  · by_cases h2 : K = 2
    · have m1 := n1.2.1 h2; have m2 := n2.2.1 h2; have m3 := n3.2.1 h2
      clear n1 n2 n3
      rcases a1 with rfl | rfl <;> rcases a2 with rfl | rfl <;> rcases b1 with rfl | rfl <;> rcases b2 with rfl | rfl <;> simp at m1 d1 <;> omega
    · have m1 := n1.2.2 h1 h2; have m2 := n2.2.2 h1 h2; have m3 := n3.2.2 h1 h2
      clear n1 n2 n3
      rcases a1 with rfl | rfl <;> rcases a2 with rfl | rfl <;> rcases b1 with rfl | rfl <;> rcases b2 with rfl | rfl <;> simp at m1 d1 <;> omega
end
def vtB (x y : Int) (s : Wkr) : Bool := s.1 == x && s.2.1 == y
/-- How often a curve comes to a point. -/
def visN (c : List Wkr) (x y : Int) : Nat := c.countP (vtB x y)
theorem visN_take {c : List Wkr} {k : Nat} {s : Wkr} (h : c[k]? = some s) (x y : Int) : visN (c.take (k + 1)) x y = visN (c.take k) x y + (if vtB x y s then 1 else 0) := by
  unfold visN
  rw [List.take_add_one, h, List.countP_append]
  simp [List.countP_cons]
theorem visN_take_le (c : List Wkr) (k : Nat) (x y : Int) : visN (c.take k) x y ≤ visN c x y := by
  unfold visN
  exact (List.take_sublist k c).countP_le
theorem vtB_iff {x y : Int} {s : Wkr} : vtB x y s = true ↔ s.1 = x ∧ s.2.1 = y := by simp [vtB]
section
variable {W H : Int} {zs : List Int}
theorem curS_nodup (hv : validB W H zs = true) {s : Wkr} (h : okS W H s) : (curS W H zs s).Pairwise (· ≠ ·) := by
  unfold curS
  rw [List.pairwise_map]
  refine List.Pairwise.imp_of_mem ?_ List.pairwise_lt_range
  intro a b ha hb hab e
  exact per_seg hv h hab (List.mem_range.1 hb) (congrArg (segS H) e)
theorem curS_mem {s t : Wkr} (h : t ∈ curS W H zs s) : ∃ i, i < per W H zs s ∧ itW W H zs i s = t := by
  simp only [curS, List.mem_map, List.mem_range] at h
  exact h
theorem visN_two (hv : validB W H zs = true) {s : Wkr} (h : okS W H s) (X Y : Int) : visN (curS W H zs s) X Y ≤ 2 := by
  unfold visN
  rw [List.countP_eq_length_filter]
  have hn := (curS_nodup hv h).filter (vtB X Y)
  match hf : (curS W H zs s).filter (vtB X Y), hn with
  | [], _ => simp
  | [_], _ => simp
  | [_, _], _ => simp
  | a :: b :: c :: t, hn =>
    exfalso
    have ma : ∀ q ∈ a :: b :: c :: t, ∃ i, i < per W H zs s ∧ itW W H zs i s = q ∧ ((itW W H zs i s).1 = X ∧ (itW W H zs i s).2.1 = Y) := by
      intro q hq
      rw [← hf, List.mem_filter] at hq
      obtain ⟨i, hi, e⟩ := curS_mem hq.1
      exact ⟨i, hi, e, by rw [e]; exact vtB_iff.1 hq.2⟩
    obtain ⟨i, hi, ea, pa⟩ := ma a (by simp)
    obtain ⟨j, hj, eb, pb⟩ := ma b (by simp)
    obtain ⟨k, hk, ec, pc⟩ := ma c (by simp)
    simp only [List.pairwise_cons, List.mem_cons] at hn
    have dab : a ≠ b := hn.1 b (by simp)
    have dac : a ≠ c := hn.1 c (by simp)
    have dbc : b ≠ c := hn.2.1 c (by simp)
    cases he : edgeP W H X Y
    · exact no_three hv h he pa pb pc (by rw [ea, eb]; exact dab) (by rw [ea, ec]; exact dac) (by rw [eb, ec]; exact dbc)
    · rcases Nat.lt_trichotomy i j with hij | hij | hij
      · exact edge_once hv h hij hj (by rw [pa.1, pa.2]; exact he) (pb.1.trans pa.1.symm) (pb.2.trans pa.2.symm)
      · exact dab (by rw [← ea, ← eb, hij])
      · exact edge_once hv h hij hi (by rw [pb.1, pb.2]; exact he) (pa.1.trans pb.1.symm) (pa.2.trans pb.2.symm)
theorem vis_two (hv : validB W H zs = true) {j : Nat} {cj : List Wkr} (h : (trS W H zs (4 * W * H).toNat).1[j]? = some cj) (X Y : Int) : visN cj X Y ≤ 2 := by
  obtain ⟨s, hs, rfl⟩ := cur_of hv h
  exact visN_two hv hs X Y
/-- The points of a curve lie in the picture. -/
theorem cur_in (hv : validB W H zs = true) {j : Nat} {cj : List Wkr} (h : (trS W H zs (4 * W * H).toNat).1[j]? = some cj) : ∀ s ∈ cj, 0 ≤ s.1 ∧ s.1 ≤ 2 * W ∧ 0 ≤ s.2.1 ∧ s.2.1 ≤ 2 * H := by
  obtain ⟨s0, hs, rfl⟩ := cur_of hv h
  intro t ht
  obtain ⟨i, _, e⟩ := curS_mem ht
  have h1 := okS_it hv hs i
  rw [e] at h1
  obtain ⟨_, _, h3, _⟩ := walk_parts h1
  have := hasP_bd h3
  omega
end
/-- The byte of a point that is visited n times. -/
def mkB (n : Nat) (b : Int) : Int := if n = 1 then 111 else if n = 2 then 56 else b
/-- The bytes of a picture with the points of some walkers. -/
def cvM (W H : Int) (zs : List Int) (c : List Wkr) (x y : Nat) : Int := mkB (visN c x y) (paB W H zs x y)
theorem cvM_nil (W H : Int) (zs : List Int) : cvM W H zs [] = paM W H zs := by funext x y; simp [cvM, paM, visN, mkB]
theorem paB_not (W H : Int) (zs : List Int) (x y : Int) : paB W H zs x y ≠ 111 ∧ paB W H zs x y ≠ 56 := by
  unfold paB sgB
  repeat' split
  all_goals omega
/-- The byte behind a visit. -/
def nxB (b : Int) : Int := if b = 111 then 56 else 111
theorem cvM_put {W H : Int} {zs : List Int} {c : List Wkr} {k : Nat} {X Y : Nat} {u v : Int} (hs : c[k]? = some ((X : Int), (Y : Int), u, v)) (h2 : visN c X Y ≤ 2) (x y : Nat) :
    cvM W H zs (c.take (k + 1)) x y = if x = X ∧ y = Y then nxB (cvM W H zs (c.take k) X Y) else cvM W H zs (c.take k) x y := by
  unfold cvM
  rw [visN_take hs]
  by_cases e : x = X ∧ y = Y
  · obtain ⟨rfl, rfl⟩ := e
    have hvt : vtB (x : Int) (y : Int) ((x : Int), (y : Int), u, v) = true := vtB_iff.2 ⟨rfl, rfl⟩
    rw [if_pos hvt, if_pos (show x = x ∧ y = y from ⟨rfl, rfl⟩)]
    have h3 := visN_take_le c (k + 1) (x : Int) (y : Int)
    rw [visN_take hs, if_pos hvt] at h3
    have h4 := (paB_not W H zs x y).1
    generalize visN (c.take k) (x : Int) (y : Int) = n at h3 ⊢
    have h5 : n = 0 ∨ n = 1 := by omega
    rcases h5 with rfl | rfl
    · simp [mkB, nxB, h4]
    · simp [mkB, nxB]
  · rw [if_neg e, if_neg (by intro h; have := vtB_iff.1 h; simp only at this; omega)]
    rfl
/-- One byte of rows of bytes is written. -/
theorem picZ_set {mk mk' : Nat → Nat → Int} {m n X Y : Nat} {b : Int} (hX : X < m) (hY : Y < n) (h : ∀ x y, mk' x y = if x = X ∧ y = Y then b else mk x y) :
    (picZ mk m n).set Y ((bytesV (mkRow mk Y m)).set X (.int .u8 b)) = picZ mk' m n := by
  apply List.ext_getElem?
  intro i
  rw [List.getElem?_set]
  have lz := picZ_length mk m n
  by_cases hi : i < n
  · by_cases e : Y = i
    · subst e
      rw [if_pos rfl, if_pos (by rw [lz]; exact hi)]
      simp only [picZ, List.getElem?_map, List.getElem?_range hi, Option.map_some]
      congr 1
      apply List.ext_getElem?
      intro j
      rw [List.getElem?_set]
      by_cases hj : j < m
      · by_cases e2 : X = j
        · subst e2
          rw [if_pos rfl, if_pos (by simp [mkRow]; exact hj)]
          simp [bytesV, mkRow, List.getElem?_range hj, h]
        · rw [if_neg e2]
          simp [bytesV, mkRow, List.getElem?_range hj, h, show ¬ (j = X) by omega]
      · rw [List.getElem?_eq_none (l := bytesV (mkRow mk' Y m)) (by simp [mkRow]; omega)]
        by_cases e2 : X = j
        · omega
        · rw [if_neg e2, List.getElem?_eq_none (by simp [mkRow]; omega)]
    · rw [if_neg e]
      simp only [picZ, List.getElem?_map, List.getElem?_range hi, Option.map_some]
      congr 2
      simp only [mkRow]
      apply List.map_congr_left
      intro j _
      rw [h, if_neg (by omega)]
  · rw [List.getElem?_eq_none (l := picZ mk' m n) (by rw [picZ_length]; omega)]
    by_cases e : Y = i
    · omega
    · rw [if_neg e, List.getElem?_eq_none (by rw [lz]; omega)]
/-- What CurvePicture answers. -/
def cpB (W H : Int) (zs : List Int) (a : Int) : Bool := validB W H zs && inR a 0 ((trS W H zs (4 * W * H).toNat).1.length - 1)
def cpJ (W H : Int) (zs : List Int) (a : Int) : List Wkr := (trS W H zs (4 * W * H).toNat).1.getD a.toNat []
def cpL (W H : Int) (zs : List Int) (a : Int) : List ByteArray := if cpB W H zs a then picS (cvM W H zs (cpJ W H zs a)) (2 * W + 1).toNat (2 * H + 1).toNat else []
def cpN (W H : Int) (zs : List Int) (a : Int) : Nat := if cpB W H zs a then (2 * H + 1).toNat else 0
theorem cpN_le (W H : Int) (zs : List Int) (a : Int) : cpN W H zs a ≤ 17 := by
  unfold cpN
  split
  · rename_i h
    simp only [cpB, Bool.and_eq_true] at h
    have := side_bd (valid_sides h.1).2
    omega
  · omega
theorem cpL_length (W H : Int) (zs : List Int) (a : Int) : (cpL W H zs a).length = cpN W H zs a := by
  unfold cpL cpN; split <;> simp [picS_length]
/-- The marks of the rows of a picture. -/
def rowV (c : List Wkr) (y : Nat) : Nat → Nat
  | 0 => 0
  | x + 1 => rowV c y x + visN c (x : Int) (y : Int)
def allV (c : List Wkr) (m : Nat) : Nat → Nat
  | 0 => 0
  | y + 1 => allV c m y + rowV c y m
theorem visN_cons (s : Wkr) (c : List Wkr) (x y : Int) : visN (s :: c) x y = visN c x y + (if vtB x y s then 1 else 0) := by
  unfold visN; rw [List.countP_cons]
theorem rowV_nil (y n : Nat) : rowV [] y n = 0 := by
  induction n with
  | zero => rfl
  | succ n ih => simp [rowV, ih, visN]
theorem allV_nil (m n : Nat) : allV [] m n = 0 := by
  induction n with
  | zero => rfl
  | succ n ih => simp [allV, ih, rowV_nil]
theorem rowV_cons (X Y : Nat) (u v : Int) (c : List Wkr) (y n : Nat) : rowV (((X : Int), (Y : Int), u, v) :: c) y n = rowV c y n + (if Y = y ∧ X < n then 1 else 0) := by
  induction n with
  | zero => simp [rowV]
  | succ n ih =>
    rw [rowV, rowV, ih, visN_cons]
    have e : vtB (n : Int) (y : Int) ((X : Int), (Y : Int), u, v) = decide (X = n ∧ Y = y) := by
      rw [Bool.eq_iff_iff, vtB_iff]
      simp only [decide_eq_true_eq]
      omega
    rw [e]
    by_cases h1 : X = n ∧ Y = y
    · have e1 : (if decide (X = n ∧ Y = y) = true then 1 else 0) = 1 := by rw [decide_eq_true h1]; rfl
      rw [e1, if_neg (show ¬ (Y = y ∧ X < n) by omega), if_pos (show Y = y ∧ X < n + 1 by omega)]
      omega
    · have e1 : (if decide (X = n ∧ Y = y) = true then 1 else 0) = 0 := by rw [decide_eq_false h1]; rfl
      rw [e1]
      by_cases h2 : Y = y ∧ X < n
      · rw [if_pos h2, if_pos (show Y = y ∧ X < n + 1 by omega)]; omega
      · rw [if_neg h2, if_neg (show ¬ (Y = y ∧ X < n + 1) by omega)]; omega
theorem allV_cons (X Y : Nat) (u v : Int) (c : List Wkr) (m n : Nat) : allV (((X : Int), (Y : Int), u, v) :: c) m n = allV c m n + (if Y < n ∧ X < m then 1 else 0) := by
  induction n with
  | zero => simp [allV]
  | succ n ih =>
    rw [allV, allV, ih, rowV_cons]
    by_cases h1 : Y = n ∧ X < m
    · rw [if_pos h1, if_neg (by omega), if_pos (by omega)]; omega
    · rw [if_neg h1]
      by_cases h2 : Y < n ∧ X < m
      · rw [if_pos h2, if_pos (by omega)]; omega
      · rw [if_neg h2, if_neg (by omega)]; omega
/-- The marks of a whole picture are the visits of the curve. -/
theorem allV_all {m n : Nat} : ∀ c : List Wkr, (∀ s ∈ c, 0 ≤ s.1 ∧ s.1 < (m : Int) ∧ 0 ≤ s.2.1 ∧ s.2.1 < (n : Int)) → allV c m n = c.length := by
  intro c
  induction c with
  | nil => intro _; exact allV_nil m n
  | cons s c ih =>
    intro h
    have h1 := h s (by simp)
    obtain ⟨x, y, u, v⟩ := s
    simp only at h1
    obtain ⟨X, rfl⟩ : ∃ X : Nat, x = (X : Int) := ⟨x.toNat, by omega⟩
    obtain ⟨Y, rfl⟩ : ∃ Y : Nat, y = (Y : Int) := ⟨y.toNat, by omega⟩
    rw [allV_cons, ih (fun s hs => h s (by simp [hs])), if_pos (by omega)]
    rfl
end Go.Proofs.Ytgcgaoblbhojnaa

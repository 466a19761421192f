/- A2Walker: a valid walker in a valid panel. -/
import Derived.Test.YtbgigompkmnapaaDa
import Derived.Test.YtbgigompkmnapaaFs
import Derived.Test.YtbgigompkmnapaaBk
import Derived.RegionTactic
import Derived.BigRegion
namespace Go.Proofs.Ytbgigompkmnapaa
set_option linter.unusedSimpArgs false
set_option linter.unusedVariables false
open Go.ChangeShapes Go.WideShapes Go.ChangeAt Go.RowKit
theorem grown_set1 (w : World) (b i : Nat) (v : Value) : w.grownBy (w.setCell ⟨b, i, none⟩ v) (some b) :=
  ⟨rfl, rfl, rfl, by simp, fun k _ hne => Below.heap_setCell _ _ _ k (fun e => hne (by rw [e]))⟩
set_option maxHeartbeats 1000000 in
theorem one_any (b K : Nat) (A : Option Addr) (n c B : Nat) (bs : List Int) (m : Int) (w : World) (hn : bs.length = n) (h : SrcP w b K A n c) (hb : BytesR w B A bs) (hB : B ≤ b) (hK : K ≤ 1000000) (hnl : n ≤ 5000) (hm : 1 ≤ m) (hm2 : m ≤ 200) :
    Calls Try.prog 90 #[.pointer (some ⟨b, 0, none⟩), .int .i64 m] w fun e w' => (∃ t : Bool, e = .returned (.bool t)) ∧ SrcP w' b (K + 1) A n c ∧ w.grownBy w' (some b) := by
  have HN := hid hn
  have HS := hid h
  have HBY := hid hb
  clear hn h hb
  go_enter Try.func90, Try.ntmps90
  go_wp2_with fail
  refine (pick_any b K A n c B bs m _ HN.out HS.out HBY.out hB hK hnl hm hm2).mono ?_
  rintro e w1 ⟨⟨x, ⟨x1, x2⟩, rfl⟩, hs1, hg1⟩
  have HS1 := hid hs1
  have HG1 := hid hg1
  clear hs1 hg1
  go_wp2_with fail
  go_ret
  exact ⟨⟨_, rfl⟩, HS1.out, HG1.out⟩
theorem own_setother {w : World} {lo n p s : Nat} {v : Value} {T T' : TypeId} {cs : List Value} {ds : Array Value} (h : w.ownsRow lo T s v n cs) (hb : Box w p T' ds) (hT : T ≠ T') (i : Nat) (u : Value) : (w.setCell ⟨p, i, none⟩ u).ownsRow lo T s v n cs := by
  refine World.ownsRow.kept h (grown_set1 w p i u) ?_
  cases e : v.ownBlock with
  | none => exact .inl rfl
  | some g =>
    right
    intro he
    have e' : g = p := by injection he
    subst e'
    obtain ⟨c, f, h1⟩ := Go.Lib.ownsRow_kind h g e
    have h2 : w.heap[g]? = _ := hb
    rw [h1] at h2
    injection h2 with h2
    injection h2 with _ h2 _
    exact hT h2
/-- What A2Walker hands back. -/
def A2W (w : World) (most : Int) (e : Ending) (w' : World) : Prop :=
  ∃ (W H : Int) (zs : List Int) (A' : Option Addr) (c' : Nat) (x y u v : Int), (validB W H zs = true ∧ W ≤ most ∧ H ≤ most ∧ okS W H (x, y, u, v)) ∧ e = .returned (.tuple #[.agg #[.int .i64 W, .int .i64 H, .slice A' zs.length c'], .agg #[.int .i64 x, .int .i64 y, .int .i64 u, .int .i64 v]]) ∧ w'.ownsRow w.heap.size 2 1 (.slice A' zs.length c') zs.length (vals zs) ∧ Below w.heap.size w w'
set_option maxRecDepth 100000 in
set_option maxHeartbeats 1000000 in
theorem A2Walker_any (A : Option Addr) (n c : Nat) (bs : List Int) (w : World) (hn : bs.length = n) (hb : BytesR w w.heap.size A bs) (hnl : n ≤ 5000) :
    Calls Try.prog 33 #[.slice A n c] w (A2W w 5) := by
  have HN := hid hn
  have HBY := hid hb
  clear hn hb
  go_enter Try.func33, Try.ntmps33
  go_wp2_with fail
  refine (l00From_any A n c _).mono ?_
  rintro e w1 ⟨rfl, hw1⟩
  have HB1 : Hid (Below w.heap.size w w1) := hid (by rw [hw1]; exact bal (bal (bal (Below.refl _ _) _) _) _)
  have KR1 : Hid (Box w1 w.heap.size 30 #[.int .i64 0, .int .i64 0, .slice none 0 0]) := hid (by rw [hw1]; exact Box.alloc (Box.alloc (Box.new w _ _) _) _)
  have KQ1 : Hid (Box w1 (w.heap.size + 1) 52 #[.int .i64 0, .int .i64 0, .int .i64 0, .int .i64 0]) := hid (by rw [hw1]; exact Box.alloc (Box.new' _ _ _ _ (by simp)) _)
  have HS1 : Hid (SrcP w1 (w.heap.size + 2) 0 A n c) := hid (by rw [hw1]; have h := src_new ((w.alloc (.cells #[.int .i64 0, .int .i64 0, .slice none 0 0] 30)).alloc (.cells #[.int .i64 0, .int .i64 0, .int .i64 0, .int .i64 0] 52)) A n c; simpa only [World.size_alloc] using h)
  clear hw1
  have hz1 := HS1.out.lt
  go_wp2_with fail
  refine (l02Draw_any (w.heap.size + 2) 0 A n c w.heap.size bs 5 w1 HN.out HS1.out (HBY.out.below HB1.out) (by omega) (by omega) hnl (by omega) (by omega)).mono ?_
  rintro e w2 ⟨⟨W, H, zs, A2, c2, hok, rfl, ho2⟩, hs2, hg2⟩
  obtain ⟨K, hK⟩ : ∃ K, 0 + 300 = K := ⟨_, rfl⟩
  rw [hK] at hs2
  have hK2 : K ≤ 400 := by omega
  clear hK
  obtain ⟨hv, hW5, hH5⟩ := hok
  obtain ⟨sW, sH⟩ := valid_sides hv
  have HV := hid hv
  have HSW := hid (And.intro sW sH)
  have hsb := segs_bd sW sH
  have hwb := side_bd sW
  have hhb := side_bd sH
  have HB2 := hid (below_src HB1.out hg2 (by omega))
  have KR2 := hid (Box.grew KR1.out hg2 (fun q hq => by injection hq with hq; omega))
  have KQ2 := hid (Box.grew KQ1.out hg2 (fun q hq => by injection hq with hq; omega))
  have HO2 := hid (Go.Joins.ownsRow_le ho2 (show w.heap.size + 3 ≤ w1.heap.size by omega))
  have HS2 := hid hs2
  have hz2 := hs2.lt
  clear hv sW sH ho2 hs2 hg2
  go_wp2_with fail
  obtain ⟨w3, hw3⟩ : ∃ zz : World, zz = w2.alloc (.cells #[.int .i64 W, .int .i64 H, .slice A2 zs.length c2] 30) := ⟨_, rfl⟩
  rw [← hw3]
  have KR3 := hid (Box.alloc KR2.out (.cells #[.int .i64 W, .int .i64 H, .slice A2 zs.length c2] 30))
  rw [← hw3] at KR3
  have KQ3 := hid (Box.alloc KQ2.out (.cells #[.int .i64 W, .int .i64 H, .slice A2 zs.length c2] 30))
  rw [← hw3] at KQ3
  have HO3 : Hid (w3.ownsRow (w.heap.size + 3) 2 1 (.slice A2 zs.length c2) zs.length (vals zs)) := hid (by rw [hw3]; exact HO2.out.alloc _)
  have HS3 : Hid (SrcP w3 (w.heap.size + 2) K A n c) := hid (by rw [hw3]; exact HS2.out.alloc _)
  have HB3 : Hid (Below w.heap.size w w3) := hid (by rw [hw3]; exact bal HB2.out _)
  have KP3 : Hid (Box w3 w2.heap.size 30 #[.int .i64 W, .int .i64 H, .slice A2 zs.length c2]) := hid (by rw [hw3]; exact Box.new _ _ _)
  have hz3 : w3.heap.size = w2.heap.size + 1 := by rw [hw3]; simp
  obtain ⟨bp, hbp⟩ : ∃ b, b = w2.heap.size := ⟨_, rfl⟩
  rw [← hbp] at KP3 hz2 hz3 ⊢
  clear hw3 KR2 KQ2 HO2 HS2 HB2 hbp
  obtain ⟨Pa, Pb, Pc⟩ := KP3.out.three
  have Pz := KP3.out.lt
  have hSW : 1 ≤ 4 * W * H ∧ 4 * W * H ≤ 100 := by obtain ⟨a1, a2⟩ := hwb; obtain ⟨b1, b2⟩ := hhb; have : 1 * 1 ≤ W * H := Int.mul_le_mul a1 b1 (by omega) (by omega); have : W * H ≤ 5 * 5 := Int.mul_le_mul hW5 hH5 (by omega) (by omega); rw [Int.mul_assoc]; omega
  obtain ⟨M, hM⟩ : ∃ M : Int, 4 * W * H = M := ⟨_, rfl⟩
  rw [hM] at hSW
  have HM := hid hM
  have t1 : IntKind.i64.wrap (4 * W) = 4 * W := IntWalk.i64_in _ (by omega)
  have t2 : IntKind.i64.wrap (4 * W * H) = M := by rw [hM]; exact IntWalk.i64_in _ (by omega)
  clear hM hsb
  go_wp2_with fail
  rw [HM.out]
  refine (pick_any (w.heap.size + 2) K A n c w.heap.size bs M w3 HN.out HS3.out (HBY.out.below HB3.out) (by omega) (by omega) hnl (by omega) (by omega)).mono ?_
  rintro e w4 ⟨⟨k, ⟨k1, k2⟩, rfl⟩, hs4, hg4⟩
  have HB4 := hid (below_src HB3.out hg4 (by omega))
  have KR4 := hid (Box.grew KR3.out hg4 (fun q hq => by injection hq with hq; omega))
  have KQ4 := hid (Box.grew KQ3.out hg4 (fun q hq => by injection hq with hq; omega))
  have KP4 := hid (Box.grew KP3.out hg4 (fun q hq => by injection hq with hq; omega))
  have HO4 := hid (srow_kept HO3.out hg4 (by omega))
  have HS4 := hid hs4
  clear hs4 hg4 KR3 KQ3 KP3 HO3 HS3 HB3 Pa Pb Pc Pz
  obtain ⟨Pa, Pb, Pc⟩ := KP4.out.three
  have Pz := KP4.out.lt
  go_wp2_with fail
  refine (l03Walker_any bp W H k (.slice A2 zs.length c2) w4 KP4.out HSW.out.1 HSW.out.2 k1 (by rw [HM.out]; omega)).mono ?_
  rintro e w5 ⟨rfl, hb5⟩
  have hok : okS W H (wkX H k, wkY H k, 1, wkD H k) := by have h := wkS_ok HSW.out.1 HSW.out.2 (k := k.toNat) (by rw [HM.out]; omega); unfold wkS at h; rw [Int.toNat_of_nonneg k1] at h; exact h
  have hwk := wk_bd HSW.out.1 HSW.out.2 k1 (by rw [HM.out]; omega)
  obtain ⟨x, hx⟩ : ∃ z, wkX H k = z := ⟨_, rfl⟩
  obtain ⟨y, hy⟩ : ∃ z, wkY H k = z := ⟨_, rfl⟩
  obtain ⟨v, hvv⟩ : ∃ z, wkD H k = z := ⟨_, rfl⟩
  rw [hx, hy, hvv] at hok hwk ⊢
  have HOK := hid hok
  clear hx hy hvv hok
  have KR5 := hid (Box.keep KR4.out hb5)
  have KQ5 := hid (Box.keep KQ4.out hb5)
  have KP5 := hid (Box.keep KP4.out hb5)
  have HO5 := hid (own_keep HO4.out hb5)
  have HS5 := hid (HS4.out.keep hb5)
  have HB5 := hid (bbl HB4.out hb5)
  clear hb5 KR4 KQ4 KP4 HO4 HS4 HB4 Pa Pb Pc Pz
  obtain ⟨Pa, Pb, Pc⟩ := KP5.out.three
  have Pz := KP5.out.lt
  go_wp2_with fail
  obtain ⟨w6, hw6⟩ : ∃ zz : World, zz = w5.alloc (.cells #[.int .i64 x, .int .i64 y, .int .i64 1, .int .i64 v] 52) := ⟨_, rfl⟩
  rw [← hw6]
  have KR6 := hid (Box.alloc KR5.out (.cells #[.int .i64 x, .int .i64 y, .int .i64 1, .int .i64 v] 52))
  rw [← hw6] at KR6
  have KQ6 := hid (Box.alloc KQ5.out (.cells #[.int .i64 x, .int .i64 y, .int .i64 1, .int .i64 v] 52))
  rw [← hw6] at KQ6
  have KP6 := hid (Box.alloc KP5.out (.cells #[.int .i64 x, .int .i64 y, .int .i64 1, .int .i64 v] 52))
  rw [← hw6] at KP6
  have HO6 : Hid (w6.ownsRow (w.heap.size + 3) 2 1 (.slice A2 zs.length c2) zs.length (vals zs)) := hid (by rw [hw6]; exact HO5.out.alloc _)
  have HS6 : Hid (SrcP w6 (w.heap.size + 2) (K + 1) A n c) := hid (by rw [hw6]; exact HS5.out.alloc _)
  have HB6 : Hid (Below w.heap.size w w6) := hid (by rw [hw6]; exact bal HB5.out _)
  have KW6 : Hid (Box w6 w5.heap.size 52 #[.int .i64 x, .int .i64 y, .int .i64 1, .int .i64 v]) := hid (by rw [hw6]; exact Box.new _ _ _)
  obtain ⟨bw, hbw⟩ : ∃ b, b = w5.heap.size := ⟨_, rfl⟩
  rw [← hbw] at KW6 Pz ⊢
  have hz6 : w6.heap.size = bw + 1 := by rw [hw6, hbw]; simp
  clear hw6 hbw KR5 KQ5 KP5 HO5 HS5 HB5 Pa Pb Pc
  have hz7 := HB6.out.size
  obtain ⟨Wa, Wb, Wc, Wd⟩ := KW6.out.four
  have Wz := KW6.out.lt
  go_wp2_with fail
  refine (one_any (w.heap.size + 2) (K + 1) A n c w.heap.size bs 2 w6 HN.out HS6.out (HBY.out.below HB6.out) (by omega) (by omega) hnl (by omega) (by omega)).mono ?_
  rintro e w7 ⟨⟨t, rfl⟩, hs7, hg7⟩
  have HB7 := hid (below_src HB6.out hg7 (by omega))
  have KR7 := hid (Box.grew KR6.out hg7 (fun q hq => by injection hq with hq; omega))
  have KQ7 := hid (Box.grew KQ6.out hg7 (fun q hq => by injection hq with hq; omega))
  have KP7 := hid (Box.grew KP6.out hg7 (fun q hq => by injection hq with hq; omega))
  have KW7 := hid (Box.grew KW6.out hg7 (fun q hq => by injection hq with hq; omega))
  have HO7 := hid (srow_kept HO6.out hg7 (by omega))
  clear hs7 hg7 KR6 KQ6 KP6 KW6 HO6 HS6 HB6 Wa Wb Wc Wd Wz
  obtain ⟨Ra, Rb, Rc⟩ := KR7.out.three
  have Rz := KR7.out.lt
  have Rf := KR7.out.free
  obtain ⟨Qa, Qb, Qc, Qd⟩ := KQ7.out.four
  have Qz := KQ7.out.lt
  have Qf := KQ7.out.free
  obtain ⟨Pa, Pb, Pc⟩ := KP7.out.three
  have Pz' := KP7.out.lt
  obtain ⟨Wa, Wb, Wc, Wd⟩ := KW7.out.four
  have Wz := KW7.out.lt
  have Wf := KW7.out.free
  cases t
  · go_wp2_with fail
    go_region
    go_wp2_with fail
    have hE := HB7.out
    refine bodyPost_ret (v := .tuple #[.agg #[.int .i64 W, .int .i64 H, .slice A2 zs.length c2], .agg #[.int .i64 x, .int .i64 y, .int .i64 1, .int .i64 v]]) (by simp [results, Try.results33, go_sem, *]) rfl ⟨W, H, zs, A2, c2, x, y, 1, v, ⟨HV.out, hW5, hH5, HOK.out⟩, rfl, ?_, ?_⟩
    · have hO : OwnI w7 (w.heap.size + 3) (.slice A2 zs.length c2) zs := HO7.out
      refine OwnI.le (B := w.heap.size + 3) (OwnI.drew ?_) (by omega)
      (repeat (with_reducible first | assumption | refine OwnI.setBelow ?_ ?_ _ | refine OwnI.drewN ?_ _ | refine OwnI.alloc ?_ _)); all_goals (first | omega | (simp only [size_drewN, World.size_alloc, World.size_setCell, World.size_drew] at *; omega) | (simp; done) | (simp; omega))
    · exact (by (repeat (with_reducible first | exact Below.refl _ _ | assumption | refine below_drewN ?_ _ | refine Below.drew ?_ | refine Below.alloc ?_ ?_ _ | refine Below.setCell ?_ ?_ _)); all_goals (first | omega | (simp only [size_drewN, World.size_alloc, World.size_setCell, World.size_drew] at *; omega) | (simp; done) | (simp; omega)))
  · have HOK2 : Hid (okS W H (x + 1, y + v, -1, -v)) := hid (okS_back HOK.out)
    go_wp2_with fail
    refine (l03Back_any x y 1 v w7 (by omega) (by omega) (by omega) (by omega) (by omega) (by omega) (by omega) (by omega)).mono ?_
    rintro e w8 ⟨rfl, hb8⟩
    have KR8 := hid (Box.keep KR7.out hb8)
    have KQ8 := hid (Box.keep KQ7.out hb8)
    have KP8 := hid (Box.keep KP7.out hb8)
    have KW8 := hid (Box.keep KW7.out hb8)
    have HO8 := hid (own_keep HO7.out hb8)
    have HB8 := hid (bbl HB7.out hb8)
    clear hb8 KR7 KQ7 KP7 KW7 HO7 HB7
    clear Ra Rb Rc Rz Rf Qa Qb Qc Qd Qz Qf Pa Pb Pc Pz' Wa Wb Wc Wd Wz Wf
    obtain ⟨Pa, Pb, Pc⟩ := KP8.out.three
    have Pz' := KP8.out.lt
    obtain ⟨Wa, Wb, Wc, Wd⟩ := KW8.out.four
    have Wz := KW8.out.lt
    have Wf := KW8.out.free
    go_wp2_with fail
    obtain ⟨w9, hw9⟩ : ∃ zz : World, zz = (((w8.setCell ⟨bw, 0, none⟩ (.int .i64 (x + 1))).setCell ⟨bw, 1, none⟩ (.int .i64 (y + v))).setCell ⟨bw, 2, none⟩ (.int .i64 (-1))).setCell ⟨bw, 3, none⟩ (.int .i64 (-v)) := ⟨_, rfl⟩
    rw [← hw9]
    have KW9 : Hid (Box w9 bw 52 #[.int .i64 (x + 1), .int .i64 (y + v), .int .i64 (-1), .int .i64 (-v)]) := hid (by rw [hw9]; exact Box.put4 KW8.out)
    have KR9 : Hid (Box w9 w.heap.size 30 #[.int .i64 0, .int .i64 0, .slice none 0 0]) := hid (by rw [hw9]; refine Box.set (Box.set (Box.set (Box.set ?_ (by simp <;> omega) _) (by simp <;> omega) _) (by simp <;> omega) _) (by simp <;> omega) _; exact KR8.out)
    have KQ9 : Hid (Box w9 (w.heap.size + 1) 52 #[.int .i64 0, .int .i64 0, .int .i64 0, .int .i64 0]) := hid (by rw [hw9]; refine Box.set (Box.set (Box.set (Box.set ?_ (by simp <;> omega) _) (by simp <;> omega) _) (by simp <;> omega) _) (by simp <;> omega) _; exact KQ8.out)
    have KP9 : Hid (Box w9 bp 30 #[.int .i64 W, .int .i64 H, .slice A2 zs.length c2]) := hid (by rw [hw9]; refine Box.set (Box.set (Box.set (Box.set ?_ (by simp <;> omega) _) (by simp <;> omega) _) (by simp <;> omega) _) (by simp <;> omega) _; exact KP8.out)
    have HB9 : Hid (Below w.heap.size w w9) := hid (by rw [hw9]; have hE := HB8.out; refine Below.setCell (Below.setCell (Below.setCell (Below.setCell hE (by simp <;> omega) _) (by simp <;> omega) _) (by simp <;> omega) _) (by simp <;> omega) _)
    have HO9 : Hid (w9.ownsRow (w.heap.size + 3) 2 1 (.slice A2 zs.length c2) zs.length (vals zs)) := hid (by rw [hw9]; exact own_setother (own_setother (own_setother (own_setother HO8.out KW8.out (by decide) 0 _) (KW8.out.put 0 _) (by decide) 1 _) ((KW8.out.put 0 _).put 1 _) (by decide) 2 _) (((KW8.out.put 0 _).put 1 _).put 2 _) (by decide) 3 _)
    clear hw9 KR8 KQ8 KP8 KW8 HO8 HB8 Pa Pb Pc Pz' Wa Wb Wc Wd Wz Wf
    obtain ⟨Ra, Rb, Rc⟩ := KR9.out.three
    have Rz := KR9.out.lt
    have Rf := KR9.out.free
    obtain ⟨Qa, Qb, Qc, Qd⟩ := KQ9.out.four
    have Qz := KQ9.out.lt
    have Qf := KQ9.out.free
    obtain ⟨Pa, Pb, Pc⟩ := KP9.out.three
    have Pz' := KP9.out.lt
    obtain ⟨Wa, Wb, Wc, Wd⟩ := KW9.out.four
    have Wz := KW9.out.lt
    have Wf := KW9.out.free
    go_wp2_with fail
    go_region
    go_wp2_with fail
    have hE := HB9.out
    refine bodyPost_ret (v := .tuple #[.agg #[.int .i64 W, .int .i64 H, .slice A2 zs.length c2], .agg #[.int .i64 (x + 1), .int .i64 (y + v), .int .i64 (-1), .int .i64 (-v)]]) (by simp [results, Try.results33, go_sem, *]) rfl ⟨W, H, zs, A2, c2, x + 1, y + v, -1, -v, ⟨HV.out, hW5, hH5, HOK2.out⟩, rfl, ?_, ?_⟩
    · have hO : OwnI w9 (w.heap.size + 3) (.slice A2 zs.length c2) zs := HO9.out
      refine OwnI.le (B := w.heap.size + 3) (OwnI.drew ?_) (by omega)
      (repeat (with_reducible first | assumption | refine OwnI.setBelow ?_ ?_ _ | refine OwnI.drewN ?_ _ | refine OwnI.alloc ?_ _)); all_goals (first | omega | (simp only [size_drewN, World.size_alloc, World.size_setCell, World.size_drew] at *; omega) | (simp; done) | (simp; omega))
    · exact (by (repeat (with_reducible first | exact Below.refl _ _ | assumption | refine below_drewN ?_ _ | refine Below.drew ?_ | refine Below.alloc ?_ ?_ _ | refine Below.setCell ?_ ?_ _)); all_goals (first | omega | (simp only [size_drewN, World.size_alloc, World.size_setCell, World.size_drew] at *; omega) | (simp; done) | (simp; omega)))
end Go.Proofs.Ytbgigompkmnapaa

/- Draws of the laws of pictures; names of faults; texts compared. -/
import Derived.Test.YtgcgaoblbhojnaaDb
import Derived.Test.YtgcgaoblbhojnaaEs
namespace Go.Proofs.Ytgcgaoblbhojnaa
set_option linter.unusedSimpArgs false
set_option linter.unusedVariables false
open Go.ChangeShapes Go.WideShapes Go.ChangeAt Go.RowKit
/-- What a law's bent panel is. -/
def DrwP (w : World) (e : Ending) (w' : World) : Prop :=
  ∃ (W H : Int) (zs : List Int) (A' : Option Addr) (c' : Nat), ((Lit.int .i64 W).wf = true ∧ (Lit.int .i64 H).wf = true ∧ zs.length ≤ 200) ∧ e = .returned (.agg #[.int .i64 W, .int .i64 H, .slice A' zs.length c']) ∧ w'.ownsRow w.heap.size 2 1 (.slice A' zs.length c') zs.length (vals zs) ∧ Below w.heap.size w w'
set_option maxHeartbeats 2000000 in
theorem DrawPanelPicture_any (A : Option Addr) (n c : Nat) (bs : List Int) (w : World) (hn : bs.length = n) (hb : BytesR w w.heap.size A bs) (hnl : n ≤ 5000) :
    Calls Try.prog 43 #[.slice A n c] w (DrwP w) := by
  have HN := hid hn
  have HBY := hid hb
  clear hn hb
  go_enter Try.func43, Try.ntmps43
  go_wp2_with fail
  refine (l00From_any A n c _).mono ?_
  rintro e w1 ⟨rfl, hw1⟩
  have HB1 : Hid (Below w.heap.size w w1) := hid (by rw [hw1]; exact bal (bal (Below.refl _ _) _) _)
  have KR1 : Hid (Box w1 w.heap.size 39 #[.int .i64 0, .int .i64 0, .slice none 0 0]) := hid (by rw [hw1]; exact Box.alloc (Box.new w _ _) _)
  have HS1 : Hid (SrcP w1 (w.heap.size + 1) 0 A n c) := hid (by rw [hw1]; have h := src_new (w.alloc (.cells #[.int .i64 0, .int .i64 0, .slice none 0 0] 39)) A n c; simpa only [World.size_alloc] using h)
  clear hw1
  have hz1 := HS1.out.lt
  go_wp2_with fail
  refine (l02Bent_any (w.heap.size + 1) 0 A n c w.heap.size bs w1 HN.out HS1.out (HBY.out.below HB1.out) (by omega) (by omega) hnl).mono ?_
  rintro e w2 ⟨⟨W, H, zs, A2, c2, hok, rfl, ho2⟩, hs2, hg2⟩
  have HOK := hid hok
  have HB2 := hid (below_src HB1.out hg2 (by omega))
  have KR2 := hid (Box.grew KR1.out hg2 (fun q hq => by injection hq with hq; omega))
  have HO2 := hid (Go.Joins.ownsRow_le ho2 (show w.heap.size + 1 ≤ w1.heap.size by omega))
  clear hok ho2 hs2 hg2
  obtain ⟨Ra, Rb, Rc⟩ := KR2.out.three
  have Rz := KR2.out.lt
  have Rf := KR2.out.free
  go_wp2_with fail
  have hE := HB2.out
  refine bodyPost_ret (v := .agg #[.int .i64 W, .int .i64 H, .slice A2 zs.length c2]) (by simp [results, Try.results43, go_sem, *]) rfl ⟨W, H, zs, A2, c2, HOK.out, rfl, ?_, ?_⟩
  · refine Go.Joins.ownsRow_le (base := w.heap.size + 1) ?_ (by omega)
    iterate 3 (refine ownsRow_setCell_below ?_ (by simp) _)
    exact HO2.out
  · iterate 3 (refine Below.setCell ?_ (by simp) _)
    exact hE
set_option maxHeartbeats 2000000 in
theorem DrawLinesPicture_any (A : Option Addr) (n c : Nat) (bs : List Int) (w : World) (hn : bs.length = n) (hb : BytesR w w.heap.size A bs) (hnl : n ≤ 5000) :
    Calls Try.prog 50 #[.slice A n c] w (DrwP w) := by
  have HN := hid hn
  have HBY := hid hb
  clear hn hb
  go_enter Try.func50, Try.ntmps50
  go_wp2_with fail
  refine (l00From_any A n c _).mono ?_
  rintro e w1 ⟨rfl, hw1⟩
  have HB1 : Hid (Below w.heap.size w w1) := hid (by rw [hw1]; exact bal (bal (Below.refl _ _) _) _)
  have KR1 : Hid (Box w1 w.heap.size 39 #[.int .i64 0, .int .i64 0, .slice none 0 0]) := hid (by rw [hw1]; exact Box.alloc (Box.new w _ _) _)
  have HS1 : Hid (SrcP w1 (w.heap.size + 1) 0 A n c) := hid (by rw [hw1]; have h := src_new (w.alloc (.cells #[.int .i64 0, .int .i64 0, .slice none 0 0] 39)) A n c; simpa only [World.size_alloc] using h)
  clear hw1
  have hz1 := HS1.out.lt
  go_wp2_with fail
  refine (l02Bent_any (w.heap.size + 1) 0 A n c w.heap.size bs w1 HN.out HS1.out (HBY.out.below HB1.out) (by omega) (by omega) hnl).mono ?_
  rintro e w2 ⟨⟨W, H, zs, A2, c2, hok, rfl, ho2⟩, hs2, hg2⟩
  have HOK := hid hok
  have HB2 := hid (below_src HB1.out hg2 (by omega))
  have KR2 := hid (Box.grew KR1.out hg2 (fun q hq => by injection hq with hq; omega))
  have HO2 := hid (Go.Joins.ownsRow_le ho2 (show w.heap.size + 1 ≤ w1.heap.size by omega))
  clear hok ho2 hs2 hg2
  obtain ⟨Ra, Rb, Rc⟩ := KR2.out.three
  have Rz := KR2.out.lt
  have Rf := KR2.out.free
  go_wp2_with fail
  have hE := HB2.out
  refine bodyPost_ret (v := .agg #[.int .i64 W, .int .i64 H, .slice A2 zs.length c2]) (by simp [results, Try.results50, go_sem, *]) rfl ⟨W, H, zs, A2, c2, HOK.out, rfl, ?_, ?_⟩
  · refine Go.Joins.ownsRow_le (base := w.heap.size + 1) ?_ (by omega)
    iterate 3 (refine ownsRow_setCell_below ?_ (by simp) _)
    exact HO2.out
  · iterate 3 (refine Below.setCell ?_ (by simp) _)
    exact hE
set_option maxRecDepth 100000 in
set_option maxHeartbeats 4000000 in
theorem DrawCurvePicture_any (A : Option Addr) (n c : Nat) (bs : List Int) (w : World) (hn : bs.length = n) (hb : BytesR w w.heap.size A bs) (hnl : n ≤ 5000) :
    Calls Try.prog 49 #[.slice A n c] w fun e w' => ∃ (W H : Int) (zs : List Int) (A' : Option Addr) (c' : Nat) (a : Int), (((Lit.int .i64 W).wf = true ∧ (Lit.int .i64 H).wf = true ∧ zs.length ≤ 200) ∧ -1 ≤ a ∧ a ≤ 4) ∧ e = .returned (.tuple #[.agg #[.int .i64 W, .int .i64 H, .slice A' zs.length c'], .int .i64 a]) ∧ w'.ownsRow w.heap.size 2 1 (.slice A' zs.length c') zs.length (vals zs) ∧ Below w.heap.size w w' := by
  have HN := hid hn
  have HBY := hid hb
  clear hn hb
  go_enter Try.func49, Try.ntmps49
  go_wp2_with fail
  refine (l00From_any A n c _).mono ?_
  rintro e w1 ⟨rfl, hw1⟩
  have HB1 : Hid (Below w.heap.size w w1) := hid (by rw [hw1]; exact bal (bal (Below.refl _ _) _) _)
  have KR1 : Hid (Box w1 w.heap.size 39 #[.int .i64 0, .int .i64 0, .slice none 0 0]) := hid (by rw [hw1]; exact Box.alloc (Box.new w _ _) _)
  have HS1 : Hid (SrcP w1 (w.heap.size + 1) 0 A n c) := hid (by rw [hw1]; have h := src_new (w.alloc (.cells #[.int .i64 0, .int .i64 0, .slice none 0 0] 39)) A n c; simpa only [World.size_alloc] using h)
  clear hw1
  have hz1 := HS1.out.lt
  go_wp2_with fail
  refine (l02Bent_any (w.heap.size + 1) 0 A n c w.heap.size bs w1 HN.out HS1.out (HBY.out.below HB1.out) (by omega) (by omega) hnl).mono ?_
  rintro e w2 ⟨⟨W, H, zs, A2, c2, hok, rfl, ho2⟩, hs2, hg2⟩
  have HOK := hid hok
  have HB2 := hid (below_src HB1.out hg2 (by omega))
  have KR2 := hid (Box.grew KR1.out hg2 (fun q hq => by injection hq with hq; omega))
  have ho2' := hid ho2
  have HS2 := hid hs2
  have hz2 : w1.heap.size ≤ w2.heap.size := hg2.size
  have HO2 := hid True.intro
  clear hok ho2 hs2 hg2 HS1 KR1
  go_wp2_with fail
  obtain ⟨w3, hw3⟩ : ∃ zz : World, zz = w2.alloc (.cells #[.int .i64 W, .int .i64 H, .slice A2 zs.length c2] 39) := ⟨_, rfl⟩
  rw [← hw3]
  have KP3 : Hid (Box w3 w2.heap.size 39 #[.int .i64 W, .int .i64 H, .slice A2 zs.length c2]) := hid (by rw [hw3]; exact Box.new _ _ _)
  have KR3 : Hid (Box w3 w.heap.size 39 #[.int .i64 0, .int .i64 0, .slice none 0 0]) := hid (by rw [hw3]; exact Box.alloc KR2.out _)
  have HS3 : Hid (SrcP w3 (w.heap.size + 1) 303 A n c) := hid (by rw [hw3]; exact (HS2.out.more (by omega)).alloc _)
  have HO3 : Hid (w3.ownsRow (w.heap.size + 2) 2 1 (.slice A2 zs.length c2) zs.length (vals zs)) := hid (by rw [hw3]; exact World.ownsRow.alloc (Go.Joins.ownsRow_le ho2'.out (by omega)) _)
  have HB3 : Hid (Below w.heap.size w w3) := hid (by rw [hw3]; exact bal HB2.out _)
  obtain ⟨Pa, Pb, Pc⟩ := KP3.out.three
  have Pz := KP3.out.lt
  obtain ⟨Ra, Rb, Rc⟩ := KR3.out.three
  have Rz := KR3.out.lt
  have Rf := KR3.out.free
  clear hw3 KR2 HS2 HO2 HB2 ho2'
  have hne9 : w2.heap.size ≠ w.heap.size := by omega
  go_region_held3 (fun zz => zz.cell? ⟨w2.heap.size, 0, none⟩ = some (.int .i64 W) ∧ zz.cell? ⟨w2.heap.size, 1, none⟩ = some (.int .i64 H) ∧ zz.cell? ⟨w2.heap.size, 2, none⟩ = some (.slice A2 zs.length c2))
    (first | (with_reducible exact Box.three KP5.out) | (exact Box.three (Box.set (Box.set (Box.set KP5.out hne9 _) hne9 _) hne9 _)) | (with_reducible exact Box.three KP4.out) | (with_reducible exact Box.three KP3.out) | exact Box.three (Box.drew KP3.out))
    (first
      | (go_at_call 98; refine (pick_any (w.heap.size + 1) 304 A n c w.heap.size bs 12 w4 HN.out HS4.out (HBY.out.below HB4.out) (by omega) (by omega) hnl (by omega) (by omega)).mono ?_; rintro e w5 ⟨⟨v2, ⟨v21, v22⟩, rfl⟩, hs5, hg5⟩; have KP5 := hid (Box.grew KP4.out hg5 (fun q hq => by injection hq with hq; omega)); have KR5 := hid (Box.grew KR4.out hg5 (fun q hq => by injection hq with hq; omega)); have HO5 := hid (srow_kept HO4.out hg5 (show w.heap.size + 1 < w.heap.size + 2 by omega)); have HB5 := hid (below_src HB4.out hg5 (by omega)); clear hs5 hg5; obtain ⟨d, hd⟩ : ∃ d, Int.tdiv v2 11 = d := ⟨_, rfl⟩; have hdb : 0 ≤ d ∧ d ≤ 1 := (by rw [← hd, Int.tdiv_eq_ediv_of_nonneg v21]; omega); have tdd : IntKind.i64.wrap (v1 - d) = v1 - d := IntWalk.i64_in _ (by omega); have tdw : IntKind.i64.wrap d = d := IntWalk.i64_in _ (by omega); obtain ⟨Ra5, Rb5, Rc5⟩ := KR5.out.three; have Rz5 := KR5.out.lt; have Rf5 := KR5.out.free)
      | (go_at_call 98; refine (pick_any (w.heap.size + 1) 303 A n c w.heap.size bs 5 w3.drew HN.out HS3.out.drew (HBY.out.below (Below.drew HB3.out)) (by omega) (by omega) hnl (by omega) (by omega)).mono ?_; rintro e w4 ⟨⟨v1, ⟨v11, v12⟩, rfl⟩, hs4, hg4⟩; have HS4 := hid hs4; have KP4 := hid (Box.grew (Box.drew KP3.out) hg4 (fun q hq => by injection hq with hq; omega)); have KR4 := hid (Box.grew (Box.drew KR3.out) hg4 (fun q hq => by injection hq with hq; omega)); have HO4 := hid (srow_kept (own_drewD HO3.out) hg4 (show w.heap.size + 1 < w.heap.size + 2 by omega)); have HB4 := hid (below_src (Below.drew HB3.out) hg4 (by omega)); clear hs4 hg4))
  all_goals
    go_wp2_with fail
    have hE := HB5.out
    refine bodyPost_ret (v := .tuple #[.agg #[.int .i64 W, .int .i64 H, .slice A2 zs.length c2], .int .i64 (v1 - d)]) (by simp [results, Try.results49, go_sem, *]) rfl ⟨W, H, zs, A2, c2, v1 - d, ⟨HOK.out, by omega, by omega⟩, rfl, ?_, ?_⟩
    · refine Go.Joins.ownsRow_le (base := w.heap.size + 2) ?_ (by omega)
      iterate 3 (refine ownsRow_setCell_below ?_ (by simp) _)
      exact HO5.out
    · iterate 3 (refine Below.setCell ?_ (by simp) _)
      exact hE
set_option maxHeartbeats 1000000 in
theorem DrawPictureFaultName_any (A : Option Addr) (n c : Nat) (bs : List Int) (w : World) (hn : bs.length = n) (hb : BytesR w w.heap.size A bs) (hnl : n ≤ 5000) :
    Calls Try.prog 53 #[.slice A n c] w fun e w' => (∃ a : Int, (-1 ≤ a ∧ a ≤ 7) ∧ e = .returned (.int .i64 a)) ∧ Below w.heap.size w w' := by
  have HN := hid hn
  have HBY := hid hb
  clear hn hb
  go_enter Try.func53, Try.ntmps53
  go_wp2_with fail
  refine (l00From_any A n c _).mono ?_
  rintro e w1 ⟨rfl, hw1⟩
  have HB1 : Hid (Below w.heap.size w w1) := hid (by rw [hw1]; exact bal (Below.refl _ _) _)
  have HS1 : Hid (SrcP w1 w.heap.size 0 A n c) := hid (by rw [hw1]; exact src_new w A n c)
  clear hw1
  go_wp2_with fail
  refine (pick_any w.heap.size 0 A n c w.heap.size bs 9 w1 HN.out HS1.out (HBY.out.below HB1.out) (by omega) (by omega) hnl (by omega) (by omega)).mono ?_
  rintro e w2 ⟨⟨v, ⟨v1, v2⟩, rfl⟩, hs2, hg2⟩
  have HB2 := hid (below_src HB1.out hg2 (Nat.le_refl _))
  clear hs2 hg2
  have tw : IntKind.i64.wrap (v - 1) = v - 1 := IntWalk.i64_in _ (by omega)
  go_wp2_with fail
  go_ret
  exact ⟨⟨v - 1, ⟨by omega, by omega⟩, rfl⟩, HB2.out⟩
/-- The name of a fault. -/
def fnm (a : Int) : ByteArray := if a = 0 then ⟨#[110, 111, 110, 101]⟩ else if a = 1 then ⟨#[115, 105, 122, 101]⟩ else if a = 2 then ⟨#[108, 101, 110, 103, 116, 104]⟩ else if a = 3 then ⟨#[105, 110, 110, 101, 114]⟩ else if a = 4 then ⟨#[98, 111, 114, 100, 101, 114]⟩ else if a = 5 then ⟨#[98, 108, 97, 110, 107]⟩ else ⟨#[]⟩
set_option maxHeartbeats 2000000 in
theorem implPFN_any (a : Int) (w : World) (h : -1 ≤ a ∧ a ≤ 7) : Calls Try.prog 48 #[.int .i64 a] w fun e w' => e = .returned (.string (fnm a)) ∧ Below w.heap.size w w' := by
  have h' : a = -1 ∨ a = 0 ∨ a = 1 ∨ a = 2 ∨ a = 3 ∨ a = 4 ∨ a = 5 ∨ a = 6 ∨ a = 7 := by omega
  rcases h' with rfl | rfl | rfl | rfl | rfl | rfl | rfl | rfl | rfl
  all_goals
    go_enter Try.func48, Try.ntmps48
    go_wp2
    go_ret
    exact ⟨rfl, by repeat (first | exact Below.refl _ _ | exact (Below.refl _ _).alloc (Nat.le_refl _) _)⟩
set_option maxHeartbeats 2000000 in
theorem specPFN_any (a : Int) (w : World) (h : -1 ≤ a ∧ a ≤ 7) : Calls Try.prog 54 #[.int .i64 a] w fun e w' => e = .returned (.string (fnm a)) ∧ Below w.heap.size w w' := by
  have h' : a = -1 ∨ a = 0 ∨ a = 1 ∨ a = 2 ∨ a = 3 ∨ a = 4 ∨ a = 5 ∨ a = 6 ∨ a = 7 := by omega
  rcases h' with rfl | rfl | rfl | rfl | rfl | rfl | rfl | rfl | rfl
  all_goals
    go_enter Try.func54, Try.ntmps54
    go_wp2
    go_ret
    exact ⟨rfl, by repeat (first | exact Below.refl _ _ | exact (Below.refl _ _).alloc (Nat.le_refl _) _)⟩
set_option maxHeartbeats 1000000 in
theorem f6big_any (A : Option Addr) (n c : Nat) (w : World) (hn : n ≤ maxLen) : Calls Try.prog 42 #[.slice A n c] w fun e w' => e = .returned (.bool (decide (4096 < (n : Int)))) ∧ w = w' := by
  unfold maxLen at hn
  go_enter Try.func42, Try.ntmps42
  go_wp2_with fail
  go_ret
  exact ⟨rfl, rfl⟩
set_option maxRecDepth 100000 in
set_option maxHeartbeats 2000000 in
theorem f6texts_any (A1 A2 : Option Addr) (c1 c2 n : Nat) (ss : List ByteArray) (w : World) (hz1 : StrsR w w.heap.size A1 ss) (hz2 : StrsR w w.heap.size A2 ss) (hl : ss.length = n) (hn : n ≤ 1000) :
    Calls Try.prog 46 #[.slice A1 n c1, .slice A2 n c2] w fun e w' => e = .returned (.bool true) ∧ Below w.heap.size w w' := by
  have H1 := hid hz1
  have H2 := hid hz2
  have HL := hid hl
  clear hz1 hz2 hl
  go_enter Try.func46, Try.ntmps46
  go_wp2_with fail
  go_loopg [5] n (fun g i wr => ∃ j : Nat, j ≤ n ∧ i = .int .i64 j ∧ g = n - j ∧ ∃ m, wr = w.drewN m)
  case atStart => exact ⟨0, Nat.zero_le _, rfl, rfl, 0, rfl⟩
  case round =>
    obtain ⟨j, hj, rfl, hg, m, rfl⟩ := hrel
    by_cases hlt : j < n
    · obtain ⟨x, hx⟩ : ∃ z, ss[j]? = some z := ⟨_, List.getElem?_eq_getElem (by have := HL.out; omega)⟩
      obtain ⟨b1, o1, rfl, hb1, c1⟩ := H1.out j x hx
      obtain ⟨b2, o2, rfl, hb2, c2⟩ := H2.out j x hx
      have hb : (x != x) = false := bne_str x
      clear hx
      go_wp2_with fail
      go_quiet (fail)
      go_wp2_with fail
      go_roundg (n - (j + 1))
      case measure => omega
      case rel => exact ⟨j + 1, by omega, by go_num, rfl, _, rfl⟩
    · have hkl : j = n := by omega
      subst hkl
      go_wp2_with fail
      go_ret
      exact ⟨rfl, below_drewN (Below.refl _ _) m⟩
end Go.Proofs.Ytgcgaoblbhojnaa

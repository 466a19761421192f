/- The curves at a point: contracts. -/
import Derived.Test.YtbgigompkmnapaaMp
import Derived.Test.YtbgigompkmnapaaSh
import Derived.Test.YtbgigompkmnapaaTi
import Derived.Test.YtbgigompkmnapaaTj
import Derived.Test.YtbgigompkmnapaaEi
namespace Go.Proofs.Ytbgigompkmnapaa
set_option linter.unusedSimpArgs false
set_option linter.unusedVariables false
open Go.ChangeShapes Go.WideShapes Go.ChangeAt Go.RowKit
open Go.Sort (Holds putRow grow putCells)
theorem own_holds {w : World} {B g cap n : Nat} {zs : List Int} (h : w.ownsRow B 2 1 (.slice (some ⟨g, 0, none⟩) n cap) n (vals zs)) : n = zs.length ∧ g < w.heap.size ∧ B ≤ g ∧ n ≤ cap ∧ cap ≤ maxLen ∧ ∃ cur, w.heap[g]? = some (.cells cur 2 (0, 0)) ∧ cur.size = cap * 1 ∧ Holds (Value.int .i64) w g 0 zs.toArray := by
  have hn : n = zs.length := by have := h.1; simp [vals] at this; omega
  subst hn
  rcases h.2 with ⟨e, _⟩ | ⟨g', cap', cur, e, hB, hg, h1, h2, h3, h4⟩
  · cases e
  · cases e
    exact ⟨rfl, (Array.getElem?_eq_some_iff.1 hg).1, hB, h1, h2, cur, hg, h3, holds_of_blockI hg (by rw [Nat.mul_one] at h4; exact h4)⟩
theorem sort_own {w : World} {B g cap n : Nat} {zs : List Int} (h : w.ownsRow B 2 1 (.slice (some ⟨g, 0, none⟩) n cap) n (vals zs)) (hn : n ≤ 1048576) :
    Calls Try.prog 112 #[.slice (some ⟨g, 0, none⟩) n cap] w fun e w' => e = .returned (.tuple #[]) ∧ w'.ownsRow B 2 1 (.slice (some ⟨g, 0, none⟩) n cap) n (vals (zs.mergeSort fun x y => decide (x ≤ y))) ∧ w.grownBy w' (some g) := by
  obtain ⟨rfl, hg, hB, h1, h2, cur, hcur, hsz, hH⟩ := own_holds h
  refine (slices_Sort_int g 0 cap zs w hH hg (by omega)).mono ?_
  rintro e w' ⟨rfl, n1, os, rfl⟩
  exact ⟨rfl, ownsRow_sortedI (ts := zs.mergeSort fun x y => decide (x ≤ y)) (ss := zs) (by simp) hB hcur h1 h2 hsz, grownBy_sortedI _⟩
theorem grow_nil (w : World) : grow w #[] = w := by simp [grow]
theorem compact_own {w : World} {B g cap n : Nat} {zs : List Int} (h : w.ownsRow B 2 1 (.slice (some ⟨g, 0, none⟩) n cap) n (vals zs)) (hn : n ≤ 1048576) :
    Calls Try.prog 113 #[.slice (some ⟨g, 0, none⟩) n cap] w fun e w' => e = .returned (.slice (some ⟨g, 0, none⟩) (Go.Lib.compactUpTo zs.toArray zs.length).length cap) ∧ w'.ownsRow B 2 1 (.slice (some ⟨g, 0, none⟩) (Go.Lib.compactUpTo zs.toArray zs.length).length cap) (Go.Lib.compactUpTo zs.toArray zs.length).length (vals (Go.Lib.compactUpTo zs.toArray zs.length)) ∧ w.grownBy w' (some g) := by
  obtain ⟨rfl, hg, hB, h1, h2, cur, hcur, hsz, hH⟩ := own_holds h
  have hd : zs.toArray.size = zs.length := by simp
  have hc := slices_Compact (Value.int .i64) (fun _ => rfl) (Go.Proofs.EqlAt.intD _ _ _) (Go.Proofs.NeqAt.intD _ _ _) 0 Try.zeroValue2 g 0 cap zs.toArray w hH (by rw [hd]; omega) (by rw [hd]; exact h1)
  rw [hd] at hc
  refine hc.mono ?_
  rintro e w' ⟨rfl, q, rfl⟩
  obtain ⟨cs, hcs⟩ : ∃ cs, Go.Lib.compactUpTo zs.toArray zs.length = cs := ⟨_, rfl⟩
  have hle : cs.length ≤ zs.length := by
    rw [← hcs]
    unfold Go.Lib.compactUpTo
    rw [List.length_map]
    exact Nat.le_trans (List.length_filter_le _ _) (by simp)
  rw [hcs]
  have h4 := ownsRow_sortedI (w := w) (base := B) (n := q) (os := #[]) (ts := cs ++ List.replicate (zs.length - cs.length) 0) (ss := zs) (by simp; omega) hB hcur h1 h2 hsz
  have h5 := grownBy_sortedI (w := w) (n := q) (os := #[]) (g := g) (cs ++ List.replicate (zs.length - cs.length) 0).toArray
  rw [grow_nil] at h4 h5
  refine ⟨rfl, ⟨by simp, .inr ?_⟩, h5⟩
  rcases h4.2 with ⟨e, _⟩ | ⟨g', cap', cur', e, hB', hg', k1, k2, k3, k4⟩
  · cases e
  · cases e
    refine ⟨g, cap, cur', rfl, hB', hg', by omega, k2, k3, ?_⟩
    rw [Nat.mul_one] at k4 ⊢
    have h6 := congrArg (List.take cs.length) k4
    rw [List.take_take, Nat.min_eq_left hle] at h6
    rw [h6]
    simp
/-- The array of segments, k of which are known. -/
def arA (s0 s1 s2 s3 : Int) (k : Int) : Array Value := #[.int .i64 (if 1 ≤ k then s0 else 0), .int .i64 (if 2 ≤ k then s1 else 0), .int .i64 (if 3 ≤ k then s2 else 0), .int .i64 (if 4 ≤ k then s3 else 0)]
theorem nn_bdS {W H : Int} {zs : List Int} (hv : validB W H zs = true) : 4 ≤ (4 * W * H).toNat ∧ (4 * W * H).toNat ≤ 256 ∧ ((4 * W * H).toNat : Int) = 4 * W * H := by
  have := segs_bd (valid_sides hv).1 (valid_sides hv).2
  omega
set_option maxRecDepth 100000 in
set_option maxHeartbeats 4000000 in
theorem around_any (W H x y : Int) (A : Option Addr) (c : Nat) (zs : List Int) (w : World) (h : (codeP W H zs x y == 0) = true) :
    Calls Try.prog 111 #[.agg #[.int .i64 W, .int .i64 H, .slice A zs.length c], .agg #[.int .i64 x, .int .i64 y]] w fun e w' => e = .returned (.agg #[.int .i64 (sgF H x y (-1) (-1)), .int .i64 (sgF H x y (-1) (1)), .int .i64 (sgF H x y (1) (-1)), .int .i64 (sgF H x y (1) (1))]) ∧ Below w.heap.size w w' := by
  have HK0 : Hid (walkB W H x y (-1) (-1) = true) := hid (okS_inner h (.inr rfl) (.inr rfl)).1
  obtain ⟨s0, hs0⟩ : ∃ s, sgF H x y (-1) (-1) = s := ⟨_, rfl⟩
  have HS0 := hid hs0
  have HK1 : Hid (walkB W H x y (-1) (1) = true) := hid (okS_inner h (.inr rfl) (.inl rfl)).1
  obtain ⟨s1, hs1⟩ : ∃ s, sgF H x y (-1) (1) = s := ⟨_, rfl⟩
  have HS1 := hid hs1
  have HK2 : Hid (walkB W H x y (1) (-1) = true) := hid (okS_inner h (.inl rfl) (.inr rfl)).1
  obtain ⟨s2, hs2⟩ : ∃ s, sgF H x y (1) (-1) = s := ⟨_, rfl⟩
  have HS2 := hid hs2
  have HK3 : Hid (walkB W H x y (1) (1) = true) := hid (okS_inner h (.inl rfl) (.inl rfl)).1
  obtain ⟨s3, hs3⟩ : ∃ s, sgF H x y (1) (1) = s := ⟨_, rfl⟩
  have HS3 := hid hs3
  rw [hs0, hs1, hs2, hs3]
  clear hs0 hs1 hs2 hs3
  obtain ⟨hW, hH, _, x1, x2, y1, y2, hp⟩ := codeP_parts h
  have HW := hid hW
  have HH := hid hH
  clear hW hH h hp
  have ix0 : ∀ w : World, (Instr.index 138 (.agg #[.int .i64 (-1), .int .i64 (-1), .int .i64 (-1), .int .i64 (1), .int .i64 (1), .int .i64 (-1), .int .i64 (1), .int .i64 (1)]) (.int .i64 0)).run Try.prog w = .ok (.agg #[.int .i64 (-1), .int .i64 (-1)]) w := fun _ => by kernel_rfl
  have ix1 : ∀ w : World, (Instr.index 138 (.agg #[.int .i64 (-1), .int .i64 (-1), .int .i64 (-1), .int .i64 (1), .int .i64 (1), .int .i64 (-1), .int .i64 (1), .int .i64 (1)]) (.int .i64 1)).run Try.prog w = .ok (.agg #[.int .i64 (-1), .int .i64 (1)]) w := fun _ => by kernel_rfl
  have ix2 : ∀ w : World, (Instr.index 138 (.agg #[.int .i64 (-1), .int .i64 (-1), .int .i64 (-1), .int .i64 (1), .int .i64 (1), .int .i64 (-1), .int .i64 (1), .int .i64 (1)]) (.int .i64 2)).run Try.prog w = .ok (.agg #[.int .i64 (1), .int .i64 (-1)]) w := fun _ => by kernel_rfl
  have ix3 : ∀ w : World, (Instr.index 138 (.agg #[.int .i64 (-1), .int .i64 (-1), .int .i64 (-1), .int .i64 (1), .int .i64 (1), .int .i64 (-1), .int .i64 (1), .int .i64 (1)]) (.int .i64 3)).run Try.prog w = .ok (.agg #[.int .i64 (1), .int .i64 (1)]) w := fun _ => by kernel_rfl
  go_enter Try.func111, Try.ntmps111
  go_wp2_with fail
  go_loopg [14] 4 (fun g i wr => ∃ k : Int, 0 ≤ k ∧ k ≤ 4 ∧ i = .int .i64 k ∧ g = (4 - k).toNat ∧ Hid (Box wr w.heap.size 30 #[.int .i64 W, .int .i64 H, .slice A zs.length c]) ∧ Hid (Box wr (w.heap.size + 1) 32 #[.int .i64 x, .int .i64 y]) ∧ Hid (Box wr (w.heap.size + 2) 126 #[.int .i64 0, .int .i64 0, .int .i64 0, .int .i64 0]) ∧ Hid (Box wr (w.heap.size + 3) 126 (arA s0 s1 s2 s3 k)) ∧ Hid (Below w.heap.size w wr))
  case atStart => exact ⟨0, by omega, by omega, rfl, rfl, hid (Box.alloc (Box.alloc (Box.alloc (Box.new _ _ _) _) _) _), hid (Box.alloc (Box.alloc (Box.new' _ _ _ _ (by simp)) _) _), hid (Box.alloc (Box.new' _ _ _ _ (by simp)) _), hid (Box.new' _ _ _ _ (by simp)), hid (bal (bal (bal (bal (Below.refl _ _) _) _) _) _)⟩
  case round =>
    obtain ⟨k, k0, k4, rfl, hg, KP, KQ, KR, KO, HB⟩ := hrel
    rcases (by omega : k = 0 ∨ k = 1 ∨ k = 2 ∨ k = 3 ∨ k = 4) with rfl | rfl | rfl | rfl | rfl
    · have KO' : Hid (Box wr (w.heap.size + 3) 126 #[.int .i64 0, .int .i64 0, .int .i64 0, .int .i64 0]) := hid KO.out
      clear KO
      obtain ⟨Pa, Pb, Pc⟩ := KP.out.three
      have Pz := KP.out.lt
      obtain ⟨Qa, Qb⟩ := KQ.out.two
      have Qz := KQ.out.lt
      have Oz := KO'.out.lt
      go_wp2_with fail
      refine (calls_int0 (segment_any W H x y (-1) (-1) A zs.length c _ HW.out HH.out HK0.out) HS0.out).mono ?_
      rintro e w2 ⟨rfl, hb2⟩
      have K2P := hid (Box.keep (Box.alloc KP.out _) hb2)
      have K2Q := hid (Box.keep (Box.alloc KQ.out _) hb2)
      have K2R := hid (Box.keep (Box.alloc KR.out _) hb2)
      have K2O := hid (Box.keep (Box.alloc KO'.out _) hb2)
      have HB2 := hid (bbl (bal HB.out _) hb2)
      clear hb2 Pa Pb Pc Pz Qa Qb Qz Oz
      obtain ⟨Oa, Ob, Oc, Od⟩ := K2O.out.four
      have Oz := K2O.out.lt
      have Of := K2O.out.free
      go_wp2_with fail
      go_roundg 3
      case measure => omega
      case rel => exact ⟨1, by omega, by omega, rfl, rfl, hid (Box.set K2P.out (by simp <;> omega) _), hid (Box.set K2Q.out (by simp <;> omega) _), hid (Box.set K2R.out (by simp <;> omega) _), hid (Box.put K2O.out 0 (.int .i64 s0)), hid (Below.setCell HB2.out (by simp <;> omega) _)⟩
    · have KO' : Hid (Box wr (w.heap.size + 3) 126 #[.int .i64 s0, .int .i64 0, .int .i64 0, .int .i64 0]) := hid KO.out
      clear KO
      obtain ⟨Pa, Pb, Pc⟩ := KP.out.three
      have Pz := KP.out.lt
      obtain ⟨Qa, Qb⟩ := KQ.out.two
      have Qz := KQ.out.lt
      have Oz := KO'.out.lt
      go_wp2_with fail
      refine (calls_int0 (segment_any W H x y (-1) (1) A zs.length c _ HW.out HH.out HK1.out) HS1.out).mono ?_
      rintro e w2 ⟨rfl, hb2⟩
      have K2P := hid (Box.keep (Box.alloc KP.out _) hb2)
      have K2Q := hid (Box.keep (Box.alloc KQ.out _) hb2)
      have K2R := hid (Box.keep (Box.alloc KR.out _) hb2)
      have K2O := hid (Box.keep (Box.alloc KO'.out _) hb2)
      have HB2 := hid (bbl (bal HB.out _) hb2)
      clear hb2 Pa Pb Pc Pz Qa Qb Qz Oz
      obtain ⟨Oa, Ob, Oc, Od⟩ := K2O.out.four
      have Oz := K2O.out.lt
      have Of := K2O.out.free
      go_wp2_with fail
      go_roundg 2
      case measure => omega
      case rel => exact ⟨2, by omega, by omega, rfl, rfl, hid (Box.set K2P.out (by simp <;> omega) _), hid (Box.set K2Q.out (by simp <;> omega) _), hid (Box.set K2R.out (by simp <;> omega) _), hid (Box.put K2O.out 1 (.int .i64 s1)), hid (Below.setCell HB2.out (by simp <;> omega) _)⟩
    · have KO' : Hid (Box wr (w.heap.size + 3) 126 #[.int .i64 s0, .int .i64 s1, .int .i64 0, .int .i64 0]) := hid KO.out
      clear KO
      obtain ⟨Pa, Pb, Pc⟩ := KP.out.three
      have Pz := KP.out.lt
      obtain ⟨Qa, Qb⟩ := KQ.out.two
      have Qz := KQ.out.lt
      have Oz := KO'.out.lt
      go_wp2_with fail
      refine (calls_int0 (segment_any W H x y (1) (-1) A zs.length c _ HW.out HH.out HK2.out) HS2.out).mono ?_
      rintro e w2 ⟨rfl, hb2⟩
      have K2P := hid (Box.keep (Box.alloc KP.out _) hb2)
      have K2Q := hid (Box.keep (Box.alloc KQ.out _) hb2)
      have K2R := hid (Box.keep (Box.alloc KR.out _) hb2)
      have K2O := hid (Box.keep (Box.alloc KO'.out _) hb2)
      have HB2 := hid (bbl (bal HB.out _) hb2)
      clear hb2 Pa Pb Pc Pz Qa Qb Qz Oz
      obtain ⟨Oa, Ob, Oc, Od⟩ := K2O.out.four
      have Oz := K2O.out.lt
      have Of := K2O.out.free
      go_wp2_with fail
      go_roundg 1
      case measure => omega
      case rel => exact ⟨3, by omega, by omega, rfl, rfl, hid (Box.set K2P.out (by simp <;> omega) _), hid (Box.set K2Q.out (by simp <;> omega) _), hid (Box.set K2R.out (by simp <;> omega) _), hid (Box.put K2O.out 2 (.int .i64 s2)), hid (Below.setCell HB2.out (by simp <;> omega) _)⟩
    · have KO' : Hid (Box wr (w.heap.size + 3) 126 #[.int .i64 s0, .int .i64 s1, .int .i64 s2, .int .i64 0]) := hid KO.out
      clear KO
      obtain ⟨Pa, Pb, Pc⟩ := KP.out.three
      have Pz := KP.out.lt
      obtain ⟨Qa, Qb⟩ := KQ.out.two
      have Qz := KQ.out.lt
      have Oz := KO'.out.lt
      go_wp2_with fail
      refine (calls_int0 (segment_any W H x y (1) (1) A zs.length c _ HW.out HH.out HK3.out) HS3.out).mono ?_
      rintro e w2 ⟨rfl, hb2⟩
      have K2P := hid (Box.keep (Box.alloc KP.out _) hb2)
      have K2Q := hid (Box.keep (Box.alloc KQ.out _) hb2)
      have K2R := hid (Box.keep (Box.alloc KR.out _) hb2)
      have K2O := hid (Box.keep (Box.alloc KO'.out _) hb2)
      have HB2 := hid (bbl (bal HB.out _) hb2)
      clear hb2 Pa Pb Pc Pz Qa Qb Qz Oz
      obtain ⟨Oa, Ob, Oc, Od⟩ := K2O.out.four
      have Oz := K2O.out.lt
      have Of := K2O.out.free
      go_wp2_with fail
      go_roundg 0
      case measure => omega
      case rel => exact ⟨4, by omega, by omega, rfl, rfl, hid (Box.set K2P.out (by simp <;> omega) _), hid (Box.set K2Q.out (by simp <;> omega) _), hid (Box.set K2R.out (by simp <;> omega) _), hid (Box.put K2O.out 3 (.int .i64 s3)), hid (Below.setCell HB2.out (by simp <;> omega) _)⟩
    · have KO' : Hid (Box wr (w.heap.size + 3) 126 #[.int .i64 s0, .int .i64 s1, .int .i64 s2, .int .i64 s3]) := hid KO.out
      clear KO
      obtain ⟨Oa, Ob, Oc, Od⟩ := KO'.out.four
      have Oz := KO'.out.lt
      obtain ⟨Ra, Rb, Rc, Rd⟩ := KR.out.four
      have Rz := KR.out.lt
      have Rf := KR.out.free
      go_wp2_with fail
      have hbE := HB.out
      refine bodyPost_ret (v := .agg #[.int .i64 s0, .int .i64 s1, .int .i64 s2, .int .i64 s3]) (by simp [results, Try.results111, go_sem, *]) rfl ⟨rfl, ?_⟩
      repeat (refine Below.setCell ?_ (by first | omega | (simp <;> omega)) _)
      exact hbE
set_option maxRecDepth 100000 in
set_option maxHeartbeats 4000000 in
theorem curvesAt_any (W H x y : Int) (A : Option Addr) (c : Nat) (zs : List Int) (w : World) (h : (codeP W H zs x y == 0) = true) (hv : validB W H zs = true) (go co B0 : Nat) (o : List Int) (hol : o.length = (4 * W * H).toNat) (ho : w.ownsRow B0 2 1 (.slice (some ⟨go, 0, none⟩) (4 * W * H).toNat co) (4 * W * H).toNat (vals o)) :
    Calls Try.prog 69 #[.agg #[.int .i64 W, .int .i64 H, .slice A zs.length c], .slice (some ⟨go, 0, none⟩) (4 * W * H).toNat co, .agg #[.int .i64 x, .int .i64 y]] w fun e w' => (∃ A' c', e = .returned (.slice A' (ctF H o x y).length c') ∧ w'.ownsRow w.heap.size 2 1 (.slice A' (ctF H o x y).length c') (ctF H o x y).length (vals (ctF H o x y))) ∧ Below w.heap.size w w' := by
  obtain ⟨nb, nb2, nb3⟩ := nn_bdS hv
  obtain ⟨N, hN⟩ : ∃ N, (4 * W * H).toNat = N := ⟨_, rfl⟩
  rw [hN] at hol ho nb nb2 nb3 ⊢
  have ok0 := (okS_inner h (.inr rfl) (.inr rfl) : okS W H (x, y, -1, -1) ∧ _).1
  have lt0 := segN_lt hv ok0
  rw [hN] at lt0
  have sm0 := ow_some (o := o) hv (by rw [hN]; exact hol) ok0
  have bd0 := segS_bd hv ok0
  have sc0 : sgF H x y (-1) (-1) = (segN H (x, y, -1, -1) : Int) := by have hb := bd0.1; show segS H (x, y, -1, -1) = _; unfold segN; omega
  obtain ⟨g0, hg0⟩ : ∃ g, segN H (x, y, -1, -1) = g := ⟨_, rfl⟩
  obtain ⟨z0, hz0⟩ : ∃ z, ow H o x y (-1) (-1) = z := ⟨_, rfl⟩
  rw [hg0] at lt0 sm0 sc0
  rw [hz0] at sm0
  have SM0 := hid sm0
  have SC0 := hid sc0
  have ok1 := (okS_inner h (.inr rfl) (.inl rfl) : okS W H (x, y, -1, 1) ∧ _).1
  have lt1 := segN_lt hv ok1
  rw [hN] at lt1
  have sm1 := ow_some (o := o) hv (by rw [hN]; exact hol) ok1
  have bd1 := segS_bd hv ok1
  have sc1 : sgF H x y (-1) (1) = (segN H (x, y, -1, 1) : Int) := by have hb := bd1.1; show segS H (x, y, -1, 1) = _; unfold segN; omega
  obtain ⟨g1, hg1⟩ : ∃ g, segN H (x, y, -1, 1) = g := ⟨_, rfl⟩
  obtain ⟨z1, hz1⟩ : ∃ z, ow H o x y (-1) (1) = z := ⟨_, rfl⟩
  rw [hg1] at lt1 sm1 sc1
  rw [hz1] at sm1
  have SM1 := hid sm1
  have SC1 := hid sc1
  have ok2 := (okS_inner h (.inl rfl) (.inr rfl) : okS W H (x, y, 1, -1) ∧ _).1
  have lt2 := segN_lt hv ok2
  rw [hN] at lt2
  have sm2 := ow_some (o := o) hv (by rw [hN]; exact hol) ok2
  have bd2 := segS_bd hv ok2
  have sc2 : sgF H x y (1) (-1) = (segN H (x, y, 1, -1) : Int) := by have hb := bd2.1; show segS H (x, y, 1, -1) = _; unfold segN; omega
  obtain ⟨g2, hg2⟩ : ∃ g, segN H (x, y, 1, -1) = g := ⟨_, rfl⟩
  obtain ⟨z2, hz2⟩ : ∃ z, ow H o x y (1) (-1) = z := ⟨_, rfl⟩
  rw [hg2] at lt2 sm2 sc2
  rw [hz2] at sm2
  have SM2 := hid sm2
  have SC2 := hid sc2
  have ok3 := (okS_inner h (.inl rfl) (.inl rfl) : okS W H (x, y, 1, 1) ∧ _).1
  have lt3 := segN_lt hv ok3
  rw [hN] at lt3
  have sm3 := ow_some (o := o) hv (by rw [hN]; exact hol) ok3
  have bd3 := segS_bd hv ok3
  have sc3 : sgF H x y (1) (1) = (segN H (x, y, 1, 1) : Int) := by have hb := bd3.1; show segS H (x, y, 1, 1) = _; unfold segN; omega
  obtain ⟨g3, hg3⟩ : ∃ g, segN H (x, y, 1, 1) = g := ⟨_, rfl⟩
  obtain ⟨z3, hz3⟩ : ∃ z, ow H o x y (1) (1) = z := ⟨_, rfl⟩
  rw [hg3] at lt3 sm3 sc3
  rw [hz3] at sm3
  have SM3 := hid sm3
  have SC3 := hid sc3
  have HCT : Hid (ctF H o x y = socL [z0, z1, z2, z3]) := hid (by unfold ctF; rw [hz0, hz1, hz2, hz3])
  obtain ⟨L, hL⟩ : ∃ L, ctF H o x y = L := ⟨_, rfl⟩
  rw [hL] at HCT ⊢
  have HO := hid ho
  have HC := hid h
  obtain ⟨i0, hi, hi0, hi1, hi2⟩ := info_parts infoI
  clear ho h hL hN hol hv sm0 sc0 bd0 hg0 hz0 ok0 sm1 sc1 bd1 hg1 hz1 ok1 sm2 sc2 bd2 hg2 hz2 ok2 sm3 sc3 bd3 hg3 hz3 ok3
  go_enter Try.func69, Try.ntmps69
  go_wp2_with fail
  have ho1 := World.ownsRow_lit (base := w.heap.size) (e := 2) (size := 1) ((w.alloc (.cells #[.int .i64 W, .int .i64 H, .slice A zs.length c] 30)).alloc (.cells #[.int .i64 x, .int .i64 y] 32)) #[] 0 (by simp <;> omega) (Nat.zero_le _) rfl
  simp only [World.size_alloc] at ho1
  have HO1 := hid ho1
  clear ho1
  refine (around_any W H x y A c zs _ HC.out).mono ?_
  rintro e w1 ⟨rfl, hb1⟩
  rw [SC0.out, SC1.out, SC2.out, SC3.out]
  have HR1 := hid (own_keep HO1.out hb1)
  have HB1 := hid (bbl (bal (bal (bal (Below.refl _ _) _) _) _) hb1)
  clear hb1 HO1
  have HO1 := hid (own_keep HO.out HB1.out)
  go_wp2_with fail
  have ix0 : ∀ w : World, (Instr.index 126 (.agg #[.int .i64 (g0 : Int), .int .i64 (g1 : Int), .int .i64 (g2 : Int), .int .i64 (g3 : Int)]) (.int .i64 0)).run Try.prog w = .ok (.int .i64 (g0 : Int)) w := fun _ => by kernel_rfl
  have ix1 : ∀ w : World, (Instr.index 126 (.agg #[.int .i64 (g0 : Int), .int .i64 (g1 : Int), .int .i64 (g2 : Int), .int .i64 (g3 : Int)]) (.int .i64 1)).run Try.prog w = .ok (.int .i64 (g1 : Int)) w := fun _ => by kernel_rfl
  have ix2 : ∀ w : World, (Instr.index 126 (.agg #[.int .i64 (g0 : Int), .int .i64 (g1 : Int), .int .i64 (g2 : Int), .int .i64 (g3 : Int)]) (.int .i64 2)).run Try.prog w = .ok (.int .i64 (g2 : Int)) w := fun _ => by kernel_rfl
  have ix3 : ∀ w : World, (Instr.index 126 (.agg #[.int .i64 (g0 : Int), .int .i64 (g1 : Int), .int .i64 (g2 : Int), .int .i64 (g3 : Int)]) (.int .i64 3)).run Try.prog w = .ok (.int .i64 (g3 : Int)) w := fun _ => by kernel_rfl
  go_loopg [7, 14] 4 (fun g v i wr => ∃ k : Int, 0 ≤ k ∧ k ≤ 4 ∧ i = .int .i64 k ∧ g = (4 - k).toNat ∧ Hid (wr.ownsRow w.heap.size 2 1 v k.toNat (vals (([z0, z1, z2, z3] : List Int).take k.toNat))) ∧ Hid (Below w.heap.size w wr))
  case atStart => exact ⟨0, by omega, by omega, rfl, rfl, hid (Go.Joins.ownsRow_le HR1.out (by omega)), HB1⟩
  case round =>
    obtain ⟨k, k0, k4, rfl, hg, HR, HB⟩ := hrel
    have HOk := hid (own_keep HO.out HB.out)
    have kz := HB.out.size
    rcases (by omega : k = 0 ∨ k = 1 ∨ k = 2 ∨ k = 3 ∨ k = 4) with rfl | rfl | rfl | rfl | rfl
    · have HRk : Hid (wr.ownsRow w.heap.size 2 1 u7 0 (vals [])) := hid HR.out
      have hcell : wr.cell? ⟨go, g0, none⟩ = some (.int .i64 z0) := (World.ownsRow.cellAt HOk.out g0 (by omega)).trans (by simp [vals, SM0.out])
      clear HR
      go_wp2_with (at_builtin; (refine wpList_append_own _ rfl _ _ 22 rfl w.heap.size 2 i0 (.int .i64 0) 1 8 Try.underlying22 hi hi0 hi1 hi2 rfl (by decide) _ 0 (vals []) rfl (HRk.out.alloc _) ⟨wr.heap.size, 0, none⟩ 1 1 [.int .i64 z0] rfl rfl (World.news_of_block (cs := #[.int .i64 z0]) (t := 2) (fr := (0, 0)) (heap_alloc_new wr _)) (by simp [Value.oneCell']) (by unfold maxLen; omega) (by omega) (by simp; omega) ?_; intro v' wz ho2 hgr _))
      have HH := hid (And.intro ho2 hgr)
      clear ho2 hgr
      go_roundg 3
      case measure => omega
      case rel => exact ⟨1, by omega, by omega, rfl, rfl, hid HH.out.1, hid (bgrew (lo := w.heap.size) (bal HB.out _) HH.out.2 (fun q hq => (HRk.out.lt q hq).1) (Nat.le_refl _))⟩
    · have HRk : Hid (wr.ownsRow w.heap.size 2 1 u7 1 (vals [z0])) := hid HR.out
      have hcell : wr.cell? ⟨go, g1, none⟩ = some (.int .i64 z1) := (World.ownsRow.cellAt HOk.out g1 (by omega)).trans (by simp [vals, SM1.out])
      clear HR
      go_wp2_with (at_builtin; (refine wpList_append_own _ rfl _ _ 22 rfl w.heap.size 2 i0 (.int .i64 0) 1 8 Try.underlying22 hi hi0 hi1 hi2 rfl (by decide) _ 1 (vals [z0]) rfl (HRk.out.alloc _) ⟨wr.heap.size, 0, none⟩ 1 1 [.int .i64 z1] rfl rfl (World.news_of_block (cs := #[.int .i64 z1]) (t := 2) (fr := (0, 0)) (heap_alloc_new wr _)) (by simp [Value.oneCell']) (by unfold maxLen; omega) (by omega) (by simp; omega) ?_; intro v' wz ho2 hgr _))
      have HH := hid (And.intro ho2 hgr)
      clear ho2 hgr
      go_roundg 2
      case measure => omega
      case rel => exact ⟨2, by omega, by omega, rfl, rfl, hid HH.out.1, hid (bgrew (lo := w.heap.size) (bal HB.out _) HH.out.2 (fun q hq => (HRk.out.lt q hq).1) (Nat.le_refl _))⟩
    · have HRk : Hid (wr.ownsRow w.heap.size 2 1 u7 2 (vals [z0, z1])) := hid HR.out
      have hcell : wr.cell? ⟨go, g2, none⟩ = some (.int .i64 z2) := (World.ownsRow.cellAt HOk.out g2 (by omega)).trans (by simp [vals, SM2.out])
      clear HR
      go_wp2_with (at_builtin; (refine wpList_append_own _ rfl _ _ 22 rfl w.heap.size 2 i0 (.int .i64 0) 1 8 Try.underlying22 hi hi0 hi1 hi2 rfl (by decide) _ 2 (vals [z0, z1]) rfl (HRk.out.alloc _) ⟨wr.heap.size, 0, none⟩ 1 1 [.int .i64 z2] rfl rfl (World.news_of_block (cs := #[.int .i64 z2]) (t := 2) (fr := (0, 0)) (heap_alloc_new wr _)) (by simp [Value.oneCell']) (by unfold maxLen; omega) (by omega) (by simp; omega) ?_; intro v' wz ho2 hgr _))
      have HH := hid (And.intro ho2 hgr)
      clear ho2 hgr
      go_roundg 1
      case measure => omega
      case rel => exact ⟨3, by omega, by omega, rfl, rfl, hid HH.out.1, hid (bgrew (lo := w.heap.size) (bal HB.out _) HH.out.2 (fun q hq => (HRk.out.lt q hq).1) (Nat.le_refl _))⟩
    · have HRk : Hid (wr.ownsRow w.heap.size 2 1 u7 3 (vals [z0, z1, z2])) := hid HR.out
      have hcell : wr.cell? ⟨go, g3, none⟩ = some (.int .i64 z3) := (World.ownsRow.cellAt HOk.out g3 (by omega)).trans (by simp [vals, SM3.out])
      clear HR
      go_wp2_with (at_builtin; (refine wpList_append_own _ rfl _ _ 22 rfl w.heap.size 2 i0 (.int .i64 0) 1 8 Try.underlying22 hi hi0 hi1 hi2 rfl (by decide) _ 3 (vals [z0, z1, z2]) rfl (HRk.out.alloc _) ⟨wr.heap.size, 0, none⟩ 1 1 [.int .i64 z3] rfl rfl (World.news_of_block (cs := #[.int .i64 z3]) (t := 2) (fr := (0, 0)) (heap_alloc_new wr _)) (by simp [Value.oneCell']) (by unfold maxLen; omega) (by omega) (by simp; omega) ?_; intro v' wz ho2 hgr _))
      have HH := hid (And.intro ho2 hgr)
      clear ho2 hgr
      go_roundg 0
      case measure => omega
      case rel => exact ⟨4, by omega, by omega, rfl, rfl, hid HH.out.1, hid (bgrew (lo := w.heap.size) (bal HB.out _) HH.out.2 (fun q hq => (HRk.out.lt q hq).1) (Nat.le_refl _))⟩
    · have HRk : Hid (wr.ownsRow w.heap.size 2 1 u7 4 (vals [z0, z1, z2, z3])) := hid HR.out
      clear HR
      rcases Go.Joins.ownsRow_forms HRk.out with ⟨_, hn0⟩ | ⟨gb, cap, e7⟩
      · exact absurd hn0 (by decide)
      subst e7
      go_wp2_with fail
      refine (sort_own HRk.out (by decide)).mono ?_
      rintro e w2 ⟨rfl, ho2, hg2⟩
      have HS2 := hid ho2
      have HB2 := hid (bgrew (lo := w.heap.size) HB.out hg2 (fun q hq => (HRk.out.lt q (by simpa [Value.ownBlock] using hq)).1) (Nat.le_refl _))
      clear ho2 hg2
      go_wp2_with fail
      refine (compact_own HS2.out (by decide)).mono ?_
      rintro e w3 ⟨rfl, ho3, hg3⟩
      have HE : Hid (Go.Lib.compactUpTo (([z0, z1, z2, z3] : List Int).mergeSort fun x y => decide (x ≤ y)).toArray (([z0, z1, z2, z3] : List Int).mergeSort fun x y => decide (x ≤ y)).length = L) := hid HCT.out.symm
      rw [HE.out] at ho3 ⊢
      have HS3 := hid ho3
      have HB3 := hid (bgrew (lo := w.heap.size) HB2.out hg3 (fun q hq => (HS2.out.lt q (by simpa [Value.ownBlock] using hq)).1) (Nat.le_refl _))
      clear ho3 hg3
      go_wp2_with fail
      go_ret
      exact ⟨⟨_, _, rfl, HS3.out⟩, HB3.out⟩
set_option maxRecDepth 100000 in
set_option maxHeartbeats 4000000 in
theorem l04Meet_any (pb : Nat) (W H x y : Int) (s : Value) (zs : List Int) (w : World) (hp : PanP w pb W H s) (h : (codeP W H zs x y == 0) = true) (hv : validB W H zs = true) (go co B0 : Nat) (o : List Int) (hol : o.length = (4 * W * H).toNat) (ho : w.ownsRow B0 2 1 (.slice (some ⟨go, 0, none⟩) (4 * W * H).toNat co) (4 * W * H).toNat (vals o)) :
    Calls Try.prog 63 #[.pointer (some ⟨pb, 0, none⟩), .slice (some ⟨go, 0, none⟩) (4 * W * H).toNat co, .agg #[.int .i64 x, .int .i64 y]] w fun e w' => (∃ g c', e = .returned (.slice (some ⟨g, 0, none⟩) 4 c') ∧ w'.ownsRow w.heap.size 2 1 (.slice (some ⟨g, 0, none⟩) 4 c') 4 (vals [ow H o x y (-1) (-1), ow H o x y 1 (-1), ow H o x y (-1) 1, ow H o x y 1 1])) ∧ Below w.heap.size w w' := by
  obtain ⟨nb, nb2, nb3⟩ := nn_bdS hv
  obtain ⟨N, hN⟩ : ∃ N, (4 * W * H).toNat = N := ⟨_, rfl⟩
  rw [hN] at hol ho nb nb2 nb3 ⊢
  have ok0 := (okS_inner h (.inr rfl) (.inr rfl) : okS W H (x, y, -1, -1) ∧ _).1
  have HK0 : Hid (walkB W H x y (-1) (-1) = true) := hid ok0
  have lt0 := segN_lt hv ok0
  rw [hN] at lt0
  have sm0 := ow_some (o := o) hv (by rw [hN]; exact hol) ok0
  have bd0 := segS_bd hv ok0
  have sc0 : sgF H x y (-1) (-1) = (segN H (x, y, -1, -1) : Int) := by have hb := bd0.1; show segS H (x, y, -1, -1) = _; unfold segN; omega
  obtain ⟨g0, hg0⟩ : ∃ g, segN H (x, y, -1, -1) = g := ⟨_, rfl⟩
  obtain ⟨z0, hz0⟩ : ∃ z, ow H o x y (-1) (-1) = z := ⟨_, rfl⟩
  rw [hg0] at lt0 sm0 sc0
  rw [hz0] at sm0
  have SM0 := hid sm0
  have SC0 := hid sc0
  have ok1 := (okS_inner h (.inl rfl) (.inr rfl) : okS W H (x, y, 1, -1) ∧ _).1
  have HK1 : Hid (walkB W H x y (1) (-1) = true) := hid ok1
  have lt1 := segN_lt hv ok1
  rw [hN] at lt1
  have sm1 := ow_some (o := o) hv (by rw [hN]; exact hol) ok1
  have bd1 := segS_bd hv ok1
  have sc1 : sgF H x y (1) (-1) = (segN H (x, y, 1, -1) : Int) := by have hb := bd1.1; show segS H (x, y, 1, -1) = _; unfold segN; omega
  obtain ⟨g1, hg1⟩ : ∃ g, segN H (x, y, 1, -1) = g := ⟨_, rfl⟩
  obtain ⟨z1, hz1⟩ : ∃ z, ow H o x y (1) (-1) = z := ⟨_, rfl⟩
  rw [hg1] at lt1 sm1 sc1
  rw [hz1] at sm1
  have SM1 := hid sm1
  have SC1 := hid sc1
  have ok2 := (okS_inner h (.inr rfl) (.inl rfl) : okS W H (x, y, -1, 1) ∧ _).1
  have HK2 : Hid (walkB W H x y (-1) (1) = true) := hid ok2
  have lt2 := segN_lt hv ok2
  rw [hN] at lt2
  have sm2 := ow_some (o := o) hv (by rw [hN]; exact hol) ok2
  have bd2 := segS_bd hv ok2
  have sc2 : sgF H x y (-1) (1) = (segN H (x, y, -1, 1) : Int) := by have hb := bd2.1; show segS H (x, y, -1, 1) = _; unfold segN; omega
  obtain ⟨g2, hg2⟩ : ∃ g, segN H (x, y, -1, 1) = g := ⟨_, rfl⟩
  obtain ⟨z2, hz2⟩ : ∃ z, ow H o x y (-1) (1) = z := ⟨_, rfl⟩
  rw [hg2] at lt2 sm2 sc2
  rw [hz2] at sm2
  have SM2 := hid sm2
  have SC2 := hid sc2
  have ok3 := (okS_inner h (.inl rfl) (.inl rfl) : okS W H (x, y, 1, 1) ∧ _).1
  have HK3 : Hid (walkB W H x y (1) (1) = true) := hid ok3
  have lt3 := segN_lt hv ok3
  rw [hN] at lt3
  have sm3 := ow_some (o := o) hv (by rw [hN]; exact hol) ok3
  have bd3 := segS_bd hv ok3
  have sc3 : sgF H x y (1) (1) = (segN H (x, y, 1, 1) : Int) := by have hb := bd3.1; show segS H (x, y, 1, 1) = _; unfold segN; omega
  obtain ⟨g3, hg3⟩ : ∃ g, segN H (x, y, 1, 1) = g := ⟨_, rfl⟩
  obtain ⟨z3, hz3⟩ : ∃ z, ow H o x y (1) (1) = z := ⟨_, rfl⟩
  rw [hg3] at lt3 sm3 sc3
  rw [hz3] at sm3
  have SM3 := hid sm3
  have SC3 := hid sc3
  rw [hz0, hz1, hz2, hz3]
  obtain ⟨hW, hH, _, x1, x2, y1, y2, hpar⟩ := codeP_parts h
  have HW := hid hW
  have HH := hid hH
  have HO := hid ho
  have HP := hid hp
  obtain ⟨i0, hi, hi0, hi1, hi2⟩ := info_parts infoI
  clear ho h hN hol hv hW hH hpar hp sm0 sc0 bd0 hg0 hz0 ok0 sm1 sc1 bd1 hg1 hz1 ok1 sm2 sc2 bd2 hg2 hz2 ok2 sm3 sc3 bd3 hg3 hz3 ok3
  go_enter Try.func63, Try.ntmps63
  go_wp2_with fail
  have ho1 := World.ownsRow_lit (base := w.heap.size) (e := 2) (size := 1) (w.alloc (.cells #[.int .i64 x, .int .i64 y] 32)) #[] 0 (by simp <;> omega) (Nat.zero_le _) rfl
  simp only [World.size_alloc] at ho1
  have HO1 := hid ho1
  clear ho1
  go_loopg [7, 8] 4 (fun g v i wr => ∃ k : Int, 0 ≤ k ∧ k ≤ 4 ∧ i = .int .i64 k ∧ g = (4 - k).toNat ∧ Hid (wr.ownsRow w.heap.size 2 1 v k.toNat (vals (([z0, z1, z2, z3] : List Int).take k.toNat))) ∧ Hid (Box wr w.heap.size 32 #[.int .i64 x, .int .i64 y]) ∧ Hid (Below w.heap.size w wr))
  case atStart => exact ⟨0, by omega, by omega, rfl, rfl, HO1, hid (Box.alloc (Box.new _ _ _) _), hid (bal (bal (Below.refl _ _) _) _)⟩
  case round =>
    obtain ⟨k, k0, k4, rfl, hg, HR, KQ, HB⟩ := hrel
    have kz := HB.out.size
    obtain ⟨Qa, Qb⟩ := KQ.out.two
    have Qz := KQ.out.lt
    rcases (by omega : k = 0 ∨ k = 1 ∨ k = 2 ∨ k = 3 ∨ k = 4) with rfl | rfl | rfl | rfl | rfl
    · have HRk : Hid (wr.ownsRow w.heap.size 2 1 u7 0 (vals [])) := hid HR.out
      clear HR
      go_wp2_with fail
      refine (calls_int0 (l03Segment_any pb W H x y (-1) (-1) s _ (Box.alloc (HP.out.below HB.out HP.out.lt) _) HW.out HH.out HK0.out) SC0.out).mono ?_
      rintro e w2 ⟨rfl, hb2⟩
      have KQ2 := hid (Box.keep (Box.alloc KQ.out _) hb2)
      have HB2 := hid (bbl (bal HB.out _) hb2)
      have HR2 := hid (own_keep (HRk.out.alloc _) hb2)
      clear hb2 Qa Qb Qz
      have HO2 := hid (own_keep HO.out HB2.out)
      have kz2 := HB2.out.size
      have hcell : w2.cell? ⟨go, g0, none⟩ = some (.int .i64 z0) := (World.ownsRow.cellAt HO2.out g0 (by omega)).trans (by simp [vals, SM0.out])
      go_wp2_with (at_builtin; (refine wpList_append_own _ rfl _ _ 22 rfl w.heap.size 2 i0 (.int .i64 0) 1 8 Try.underlying22 hi hi0 hi1 hi2 rfl (by decide) _ 0 (vals []) rfl (HR2.out.alloc _) ⟨w2.heap.size, 0, none⟩ 1 1 [.int .i64 z0] rfl rfl (World.news_of_block (cs := #[.int .i64 z0]) (t := 2) (fr := (0, 0)) (heap_alloc_new w2 _)) (by simp [Value.oneCell']) (by unfold maxLen; omega) (by omega) (by simp; omega) ?_; intro v' wz ho2 hgr _))
      have HH2 := hid (And.intro ho2 hgr)
      clear ho2 hgr
      go_roundg 3
      case measure => omega
      case rel => exact ⟨1, by omega, by omega, rfl, rfl, hid HH2.out.1, hid (Box.grew (Box.alloc KQ2.out _) HH2.out.2 (own_box (HR2.out.alloc (.cells #[.int .i64 z0] 2)) (Box.alloc KQ2.out (.cells #[.int .i64 z0] 2)) (by decide))), hid (bgrew (lo := w.heap.size) (bal HB2.out _) HH2.out.2 (fun q hq => (HR2.out.lt q hq).1) (Nat.le_refl _))⟩
    · have HRk : Hid (wr.ownsRow w.heap.size 2 1 u7 1 (vals [z0])) := hid HR.out
      clear HR
      go_wp2_with fail
      refine (calls_int0 (l03Segment_any pb W H x y (1) (-1) s _ (Box.alloc (HP.out.below HB.out HP.out.lt) _) HW.out HH.out HK1.out) SC1.out).mono ?_
      rintro e w2 ⟨rfl, hb2⟩
      have KQ2 := hid (Box.keep (Box.alloc KQ.out _) hb2)
      have HB2 := hid (bbl (bal HB.out _) hb2)
      have HR2 := hid (own_keep (HRk.out.alloc _) hb2)
      clear hb2 Qa Qb Qz
      have HO2 := hid (own_keep HO.out HB2.out)
      have kz2 := HB2.out.size
      have hcell : w2.cell? ⟨go, g1, none⟩ = some (.int .i64 z1) := (World.ownsRow.cellAt HO2.out g1 (by omega)).trans (by simp [vals, SM1.out])
      go_wp2_with (at_builtin; (refine wpList_append_own _ rfl _ _ 22 rfl w.heap.size 2 i0 (.int .i64 0) 1 8 Try.underlying22 hi hi0 hi1 hi2 rfl (by decide) _ 1 (vals [z0]) rfl (HR2.out.alloc _) ⟨w2.heap.size, 0, none⟩ 1 1 [.int .i64 z1] rfl rfl (World.news_of_block (cs := #[.int .i64 z1]) (t := 2) (fr := (0, 0)) (heap_alloc_new w2 _)) (by simp [Value.oneCell']) (by unfold maxLen; omega) (by omega) (by simp; omega) ?_; intro v' wz ho2 hgr _))
      have HH2 := hid (And.intro ho2 hgr)
      clear ho2 hgr
      go_roundg 2
      case measure => omega
      case rel => exact ⟨2, by omega, by omega, rfl, rfl, hid HH2.out.1, hid (Box.grew (Box.alloc KQ2.out _) HH2.out.2 (own_box (HR2.out.alloc (.cells #[.int .i64 z1] 2)) (Box.alloc KQ2.out (.cells #[.int .i64 z1] 2)) (by decide))), hid (bgrew (lo := w.heap.size) (bal HB2.out _) HH2.out.2 (fun q hq => (HR2.out.lt q hq).1) (Nat.le_refl _))⟩
    · have HRk : Hid (wr.ownsRow w.heap.size 2 1 u7 2 (vals [z0, z1])) := hid HR.out
      clear HR
      go_wp2_with fail
      refine (calls_int0 (l03Segment_any pb W H x y (-1) (1) s _ (Box.alloc (HP.out.below HB.out HP.out.lt) _) HW.out HH.out HK2.out) SC2.out).mono ?_
      rintro e w2 ⟨rfl, hb2⟩
      have KQ2 := hid (Box.keep (Box.alloc KQ.out _) hb2)
      have HB2 := hid (bbl (bal HB.out _) hb2)
      have HR2 := hid (own_keep (HRk.out.alloc _) hb2)
      clear hb2 Qa Qb Qz
      have HO2 := hid (own_keep HO.out HB2.out)
      have kz2 := HB2.out.size
      have hcell : w2.cell? ⟨go, g2, none⟩ = some (.int .i64 z2) := (World.ownsRow.cellAt HO2.out g2 (by omega)).trans (by simp [vals, SM2.out])
      go_wp2_with (at_builtin; (refine wpList_append_own _ rfl _ _ 22 rfl w.heap.size 2 i0 (.int .i64 0) 1 8 Try.underlying22 hi hi0 hi1 hi2 rfl (by decide) _ 2 (vals [z0, z1]) rfl (HR2.out.alloc _) ⟨w2.heap.size, 0, none⟩ 1 1 [.int .i64 z2] rfl rfl (World.news_of_block (cs := #[.int .i64 z2]) (t := 2) (fr := (0, 0)) (heap_alloc_new w2 _)) (by simp [Value.oneCell']) (by unfold maxLen; omega) (by omega) (by simp; omega) ?_; intro v' wz ho2 hgr _))
      have HH2 := hid (And.intro ho2 hgr)
      clear ho2 hgr
      go_roundg 1
      case measure => omega
      case rel => exact ⟨3, by omega, by omega, rfl, rfl, hid HH2.out.1, hid (Box.grew (Box.alloc KQ2.out _) HH2.out.2 (own_box (HR2.out.alloc (.cells #[.int .i64 z2] 2)) (Box.alloc KQ2.out (.cells #[.int .i64 z2] 2)) (by decide))), hid (bgrew (lo := w.heap.size) (bal HB2.out _) HH2.out.2 (fun q hq => (HR2.out.lt q hq).1) (Nat.le_refl _))⟩
    · have HRk : Hid (wr.ownsRow w.heap.size 2 1 u7 3 (vals [z0, z1, z2])) := hid HR.out
      clear HR
      go_wp2_with fail
      refine (calls_int0 (l03Segment_any pb W H x y (1) (1) s _ (Box.alloc (HP.out.below HB.out HP.out.lt) _) HW.out HH.out HK3.out) SC3.out).mono ?_
      rintro e w2 ⟨rfl, hb2⟩
      have KQ2 := hid (Box.keep (Box.alloc KQ.out _) hb2)
      have HB2 := hid (bbl (bal HB.out _) hb2)
      have HR2 := hid (own_keep (HRk.out.alloc _) hb2)
      clear hb2 Qa Qb Qz
      have HO2 := hid (own_keep HO.out HB2.out)
      have kz2 := HB2.out.size
      have hcell : w2.cell? ⟨go, g3, none⟩ = some (.int .i64 z3) := (World.ownsRow.cellAt HO2.out g3 (by omega)).trans (by simp [vals, SM3.out])
      go_wp2_with (at_builtin; (refine wpList_append_own _ rfl _ _ 22 rfl w.heap.size 2 i0 (.int .i64 0) 1 8 Try.underlying22 hi hi0 hi1 hi2 rfl (by decide) _ 3 (vals [z0, z1, z2]) rfl (HR2.out.alloc _) ⟨w2.heap.size, 0, none⟩ 1 1 [.int .i64 z3] rfl rfl (World.news_of_block (cs := #[.int .i64 z3]) (t := 2) (fr := (0, 0)) (heap_alloc_new w2 _)) (by simp [Value.oneCell']) (by unfold maxLen; omega) (by omega) (by simp; omega) ?_; intro v' wz ho2 hgr _))
      have HH2 := hid (And.intro ho2 hgr)
      clear ho2 hgr
      go_roundg 0
      case measure => omega
      case rel => exact ⟨4, by omega, by omega, rfl, rfl, hid HH2.out.1, hid (Box.grew (Box.alloc KQ2.out _) HH2.out.2 (own_box (HR2.out.alloc (.cells #[.int .i64 z3] 2)) (Box.alloc KQ2.out (.cells #[.int .i64 z3] 2)) (by decide))), hid (bgrew (lo := w.heap.size) (bal HB2.out _) HH2.out.2 (fun q hq => (HR2.out.lt q hq).1) (Nat.le_refl _))⟩
    · have HRk : Hid (wr.ownsRow w.heap.size 2 1 u7 4 (vals [z0, z1, z2, z3])) := hid HR.out
      clear HR
      rcases Go.Joins.ownsRow_forms HRk.out with ⟨_, hn0⟩ | ⟨gb, cap, e7⟩
      · exact absurd hn0 (by decide)
      subst e7
      go_wp2_with fail
      go_ret
      exact ⟨⟨_, _, rfl, HRk.out⟩, HB.out⟩
end Go.Proofs.Ytbgigompkmnapaa

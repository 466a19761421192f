/- AllWalkers. -/
import Derived.Test.YtbgigompkmnapaaWt
import Derived.Test.YtbgigompkmnapaaBk
import Derived.Test.YtbgigompkmnapaaSf
import Derived.Test.YtbgigompkmnapaaRg
import Derived.Test.YtbgigompkmnapaaAu
import Derived.OwnWalk
import Derived.Lib.SmallJoins
import Derived.Deep.AppendLies
namespace Go.Proofs.Ytbgigompkmnapaa
set_option linter.unusedSimpArgs false
set_option linter.unusedVariables false
open Go.ChangeShapes Go.WideShapes Go.ChangeAt Go.RowKit
/-- The numbers of the two walkers along segment k, and of those along the first n. -/
def awZ (H : Int) (k : Nat) : List Int := [wkX H k, wkY H k, 1, wkD H k, wkX H k + 1, wkY H k + wkD H k, -1, -(wkD H k)]
def awF (H : Int) (n : Nat) : List Int := (List.range n).flatMap (awZ H)
theorem awF_succ (H : Int) (n : Nat) : awF H (n + 1) = awF H n ++ awZ H n := by simp [awF, List.range_succ, List.flatMap_append]
theorem awF_length (H : Int) (n : Nat) : (awF H n).length = n * 8 := by
  induction n with
  | zero => rfl
  | succ n ih => rw [awF_succ, List.length_append, ih]; simp [awZ]; omega
/-- What AllWalkers answers. -/
def awL (W H : Int) (zs : List Int) : List Int := if validB W H zs then awF H (4 * W * H).toNat else []
def awN (W H : Int) (zs : List Int) : Nat := if validB W H zs then (4 * W * H).toNat * 2 else 0
def awC (W H : Int) (zs : List Int) : Int := if validB W H zs then 0 else 1
theorem awL_length (W H : Int) (zs : List Int) : (awL W H zs).length = awN W H zs * 4 := by
  unfold awL awN
  split
  · rw [awF_length]; omega
  · rfl
theorem awN_le (W H : Int) (zs : List Int) : awN W H zs ≤ 512 := by
  unfold awN
  split
  · rename_i h
    obtain ⟨h1, h2⟩ := valid_sides h
    have := segs_bd h1 h2
    omega
  · omega
theorem wk_bd {W H k : Int} (hW : side W = true) (hH : side H = true) (h0 : 0 ≤ k) (hk : k < 4 * W * H) : 0 ≤ wkX H k ∧ wkX H k ≤ 15 ∧ 0 ≤ wkY H k ∧ wkY H k ≤ 16 ∧ (-1 : Int) ≤ wkD H k ∧ wkD H k ≤ 1 := by
  obtain ⟨q1, q2, r1, r2⟩ := wk_qr hW hH h0 hk
  have b1 := side_bd hW
  have b2 := side_bd hH
  have hx : wkX H k = k / (2 * H) := rfl
  unfold wkY wkD
  split <;> omega
theorem infoWk : (Try.prog.info? 52).map (fun i => (i.zero, i.size, i.bytes)) = some (some (.agg #[.int .i64 0, .int .i64 0, .int .i64 0, .int .i64 0]), 4, 32) := by kernel_rfl

set_option maxRecDepth 100000 in
set_option maxHeartbeats 2000000 in
theorem implAllWalkers_any (W H : Int) (A : Option Addr) (c : Nat) (zs : List Int) (w : World) (hz : Ints w w.heap.size A zs) (hl : zs.length ≤ maxLen) :
    Calls Try.prog 28 #[.agg #[.int .i64 W, .int .i64 H, .slice A zs.length c]] w fun e w' => (∃ A' c', e = .returned (.tuple #[.slice A' (awN W H zs) c', .int .i64 (awC W H zs)]) ∧ w'.ownsRow w.heap.size 52 4 (.slice A' (awN W H zs) c') (awN W H zs) (vals (awL W H zs))) ∧ Below w.heap.size w w' := by
  cases hv : validB W H zs
  · have HV : Hid (awN W H zs = 0 ∧ awL W H zs = [] ∧ awC W H zs = 1) := hid (by simp [awN, awL, awC, hv])
    have Hv := hid hv
    clear hv
    go_enter Try.func28, Try.ntmps28
    go_wp2_with fail
    refine (calls_bool (validPanel_any W H A c zs _ ((hz.below (bal (Below.refl _ _) _)).more (bal (Below.refl _ _) _).size) hl) Hv.out).mono ?_
    rintro e w1 ⟨rfl, hb1⟩
    have KP1 : Hid (Box w1 (w.heap.size) 30 #[.int .i64 W, .int .i64 H, .slice A zs.length c]) := hid (Box.keep (Box.new' _ _ _ _ (by simp)) hb1)
    have HB1 : Hid (Below w.heap.size w w1) := hid (bstep (bal (Below.refl _ _) _) hb1)
    clear hb1
    obtain ⟨Pa, Pb, Pc⟩ := KP1.out.three
    have Pz := KP1.out.lt
    go_wp2_with fail
    go_ret2
    exact ⟨⟨none, 0, by rw [HV.out.1, HV.out.2.2] <;> rfl, by rw [HV.out.1, HV.out.2.1]; exact World.ownsRow_nil _ _ _ _⟩, (HB1.out)⟩
  · have Hs := hid (valid_sides hv)
    obtain ⟨s1, s2⟩ := segs_bd Hs.out.1 Hs.out.2
    obtain ⟨s3, s4⟩ := side_bd Hs.out.1
    obtain ⟨s5, s6⟩ := side_bd Hs.out.2
    obtain ⟨n, hn⟩ : ∃ n : Nat, 4 * W * H = n := ⟨(4 * W * H).toNat, by omega⟩
    have HV : Hid (awN W H zs = n * 2 ∧ awL W H zs = awF H n ∧ awC W H zs = 0) := hid (by simp [awN, awL, awC, hv, hn])
    have Hv := hid hv
    clear hv
    obtain ⟨i0, hi, hz0, hz1, hz2⟩ := info_parts infoWk
    have HN := hid hn
    rw [hn] at s1 s2
    clear hn
    go_enter Try.func28, Try.ntmps28
    go_wp2_with fail
    refine (calls_bool (validPanel_any W H A c zs _ ((hz.below (bal (Below.refl _ _) _)).more (bal (Below.refl _ _) _).size) hl) Hv.out).mono ?_
    rintro e w1 ⟨rfl, hb1⟩
    have KP1 : Hid (Box w1 (w.heap.size) 30 #[.int .i64 W, .int .i64 H, .slice A zs.length c]) := hid (Box.keep (Box.new' _ _ _ _ (by simp)) hb1)
    have HB1 : Hid (Below w.heap.size w w1) := hid (bstep (bal (Below.refl _ _) _) hb1)
    clear hb1
    obtain ⟨Pa, Pb, Pc⟩ := KP1.out.three
    have Pz := KP1.out.lt
    go_wp2_with fail
    have ho1 := World.ownsRow_lit (base := w.heap.size + 1) (e := 52) (size := 4) w1 #[] 0 (by have := KP1.out.lt; omega) (Nat.zero_le _) rfl
    have HO1 := hid ho1
    clear ho1
    clear Pa Pb Pc Pz
    refine (calls_int (segments_any W H _ _ _ _ Hs.out.1 Hs.out.2) HN.out).mono ?_
    rintro e w2 ⟨rfl, hb2⟩
    have KP2 : Hid (Box w2 (w.heap.size) 30 #[.int .i64 W, .int .i64 H, .slice A zs.length c]) := hid (Box.keep (Box.alloc (KP1.out) _) hb2)
    have HB2 : Hid (Below w.heap.size w w2) := hid (bstep (bal (HB1.out) _) hb2)
    have HO2 := hid (own_keep HO1.out hb2)
    clear hb2
    obtain ⟨Pa, Pb, Pc⟩ := KP2.out.three
    have Pz := KP2.out.lt
    go_wp2_with fail
    clear Pa Pb Pc Pz
    go_loopg [4, 13] n (fun g v i wr => ∃ k : Nat, k ≤ n ∧ i = .int .i64 k ∧ g = n - k ∧ Hid (wr.ownsRow (w.heap.size + 1) 52 4 v (k * 2) (vals (awF H k))) ∧ Hid (Box wr w.heap.size 30 #[.int .i64 W, .int .i64 H, .slice A zs.length c]) ∧ Hid (Below w.heap.size w wr))
    case atStart => exact ⟨0, Nat.zero_le _, rfl, rfl, HO2, KP2, HB2⟩
    case round =>
      obtain ⟨k, hk, rfl, hg, HO, KP, HBr⟩ := hrel
      by_cases hlt : k < n
      · have hlt' : (k : Int) < n := by omega
        have HK : Hid ((k : Int) < 4 * W * H) := hid (by rw [HN.out]; exact hlt')
        obtain ⟨k1, k2, k3, k4, k5, k6⟩ := wk_bd Hs.out.1 Hs.out.2 (by omega : (0 : Int) ≤ k) HK.out
        obtain ⟨Pa, Pb, Pc⟩ := KP.out.three
        have Pz := KP.out.lt
        go_wp2_with fail
        refine (walker_any W H k _ _ _ _ Hs.out.1 Hs.out.2 (by omega) HK.out).mono ?_
        rintro e w7 ⟨rfl, hb7⟩
        clear Pa Pb Pc Pz
        have KP7 := hid (Box.keep KP.out hb7)
        have HO7 := hid (own_keep HO.out hb7)
        have HB7 := hid (bstep HBr.out hb7)
        clear hb7
        have Pz := KP7.out.lt
        go_wp2_with fail
        obtain ⟨w8, hw8⟩ : ∃ zz : World, zz = w7.alloc (.cells #[.int .i64 (wkX H k), .int .i64 (wkY H k), .int .i64 1, .int .i64 (wkD H k)] 52) := ⟨_, rfl⟩
        have hb8 : Below (w7.alloc (.cells #[.int .i64 (wkX H k), .int .i64 (wkY H k), .int .i64 1, .int .i64 (wkD H k)] 52)).heap.size (w7.alloc (.cells #[.int .i64 (wkX H k), .int .i64 (wkY H k), .int .i64 1, .int .i64 (wkD H k)] 52)) w8 := hw8 ▸ Below.refl _ _
        rw [← hw8]
        have KP8 := hid (Box.keep (Box.alloc KP7.out _) hb8)
        have KW8 := hid (Box.keep (Box.new w7 _ _) hb8)
        have HO8 := hid (own_keep (HO7.out.alloc _) hb8)
        have HB8 := hid (bstep (bal HB7.out _) hb8)
        have HR8 := hid (fun q (hq : Value.ownBlock _ = some q) => HO7.out.lt q hq)
        clear hb8 hw8
        have Wz := KW8.out.lt
        have ag : w.heap.size < w7.heap.size := Pz
        go_region_held3 (fun zz => zz.cell? ⟨w7.heap.size, 0, none⟩ = some (.int .i64 (wkX H k)) ∧ zz.cell? ⟨w7.heap.size, 1, none⟩ = some (.int .i64 (wkY H k)) ∧ zz.cell? ⟨w7.heap.size, 2, none⟩ = some (.int .i64 1) ∧ zz.cell? ⟨w7.heap.size, 3, none⟩ = some (.int .i64 (wkD H k)))
          (first | (with_reducible exact ⟨(Box.four KW10.out).1, (Box.four KW10.out).2.1, (Box.four KW10.out).2.2.1, (Box.four KW10.out).2.2.2⟩) | (with_reducible exact ⟨(Box.four (Box.alloc KW9.out _)).1, (Box.four (Box.alloc KW9.out _)).2.1, (Box.four (Box.alloc KW9.out _)).2.2.1, (Box.four (Box.alloc KW9.out _)).2.2.2⟩) | (with_reducible exact ⟨(Box.four KW9.out).1, (Box.four KW9.out).2.1, (Box.four KW9.out).2.2.1, (Box.four KW9.out).2.2.2⟩) | exact ⟨(Box.four KW8.out).1, (Box.four KW8.out).2.1, (Box.four KW8.out).2.2.1, (Box.four KW8.out).2.2.2⟩)
          (first | (go_at_call 80; refine (back_any (wkX H k) (wkY H k) 1 (wkD H k) _ (by omega) (by omega) (by omega) (by omega) (by omega) (by omega) (by omega) (by omega)).mono ?_; rintro e w9 ⟨rfl, hb9⟩; have hc9 := Below.trans (below_refl_drew _ _) hb9; have KP9 := hid (Box.keep KP8.out hc9); have KW9 := hid (Box.keep KW8.out hc9); have HO9 := hid (own_keep HO8.out hc9); have HB9 := hid (bstep HB8.out hc9); have ZZ9 := hid hc9.size; clear hb9 hc9) | (refine step_append_lies _ (by rfl) _ _ _ (by rfl) (w.heap.size + 1) 52 i0 (.agg #[.int .i64 0, .int .i64 0, .int .i64 0, .int .i64 0]) 4 32 Try.underlying48 hi hz0 hz1 hz2 rfl (by omega) _ (k * 2) (vals (awF H k)) (by rfl) (HO9.out.alloc _) ⟨w9.heap.size, 0, none⟩ 2 2 [.int .i64 (wkX H k), .int .i64 (wkY H k), .int .i64 1, .int .i64 (wkD H k), .int .i64 (wkX H k + 1), .int .i64 (wkY H k + wkD H k), .int .i64 (-1), .int .i64 (-(wkD H k))] (by rfl) (by rfl) (World.news_of_block (cs := #[.int .i64 (wkX H k), .int .i64 (wkY H k), .int .i64 1, .int .i64 (wkD H k), .int .i64 (wkX H k + 1), .int .i64 (wkY H k + wkD H k), .int .i64 (-1), .int .i64 (-(wkD H k))]) (t := 52) (fr := (0, 0)) (heap_alloc_new w9 _)) (by simp [Value.oneCell']) (by omega) (by unfold maxLen; omega) (by omega) (by have := ZZ9.out; simp; omega) (w9.heap.size + 1) (by simp) ?_; intro gg cap w10 hown10 hgrow10 hat10 hlt10; have KP10 := hid (Box.grew (Box.alloc KP9.out _) hgrow10 (fun q hq => by have := HR8.out q hq; omega)); have KW10 := hid (Box.grew (Box.alloc KW9.out _) hgrow10 (fun q hq => by have := HR8.out q hq; omega)); have HB10 := hid (bgrew (lo := w.heap.size + 1) (bal HB9.out _) hgrow10 (fun q hq => (HR8.out q hq).1) (by omega)); have HO10 := hid hown10; clear hown10 hgrow10 hat10 hlt10))
        go_wp2_with fail
        go_roundg (n - (k + 1))
        case measure => omega
        case rel => exact ⟨k + 1, by omega, by go_num, rfl, hid (by rw [show (k + 1) * 2 = k * 2 + 2 by omega, awF_succ]; simpa [vals, awZ] using HO10.out), KP10, HB10⟩
      · obtain rfl : k = n := by omega
        have HO' := HO
        rcases Go.Joins.ownsRow_forms HO.out with ⟨rfl, hn0⟩ | ⟨gb, cap, rfl⟩
        · exfalso; omega
        · clear HO
          go_wp2_with fail
          go_ret2
          refine ⟨⟨some ⟨gb, 0, none⟩, cap, by rw [HV.out.1, HV.out.2.2] <;> rfl, ?_⟩, HBr.out⟩
          rw [HV.out.1, HV.out.2.1]
          exact Go.Joins.ownsRow_le HO'.out (by omega)
end Go.Proofs.Ytbgigompkmnapaa

/- The walk of FnSegments. -/
import Derived.Test.YtbgigompkmnapaaFs
import Derived.Test.YtbgigompkmnapaaCs
import Derived.Test.YtbgigompkmnapaaVk
import Derived.Test.YtbgigompkmnapaaSf
import Derived.Test.YtbgigompkmnapaaAu
import Derived.Test.YtbgigompkmnapaaQm
import Derived.Test.YtbgigompkmnapaaRg
namespace Go.Proofs.Ytbgigompkmnapaa
set_option linter.unusedSimpArgs false
set_option linter.unusedVariables false
open Go.ChangeShapes Go.WideShapes Go.ChangeAt Go.RowKit
theorem calls_t2 {p : Program} {f : Nat} {args : Array Value} {w : World} {P : World → Prop} {a b c d : Int} (h : Calls p f args w fun e w' => e = .returned (.tuple #[.int .i64 a, .int .i64 c]) ∧ P w') (k : a = b) (l : c = d) : Calls p f args w fun e w' => e = .returned (.tuple #[.int .i64 b, .int .i64 d]) ∧ P w' := k ▸ l ▸ h
theorem own_belowT {w w' : World} {lo : Nat} {T : TypeId} {s : Nat} {v : Value} {n N : Nat} {cs : List Value} (h : w.ownsRow lo T s v n cs) (k : Below N w w') (hN : w.heap.size ≤ N) : w'.ownsRow lo T s v n cs := own_keep h (k.mono hN)
set_option maxRecDepth 100000 in
set_option maxHeartbeats 4000000 in
theorem fnSegments_walk (w : World) (A0 : Option Addr) (c0 : Nat) (bs0 : List Int) (hl0 : bs0.length ≤ maxLen) (hz0 : BytesR w w.heap.size A0 bs0) (_ : True) :
    Calls Try.prog 6 #[.slice A0 bs0.length c0] w fun e w' => e = .returned (.bool true) ∧ Below w.heap.size w w' := by
  obtain ⟨n0, hn0⟩ : ∃ n, bs0.length = n := ⟨_, rfl⟩
  rw [hn0] at hl0 ⊢
  have HN0 := hid hn0
  have HZ0 := hid hz0
  clear hn0 hz0
  cases hlg : lgB n0 0
  case true =>
    have HLG := hid hlg
    clear hlg
    go_enter Try.func6, Try.ntmps6
    go_wp2_with fail
    refine (calls_bool (a2Long_any A0 none n0 0 c0 0 w hl0 (by unfold maxLen; omega)) HLG.out).mono ?_
    rintro e w' ⟨rfl, rfl⟩
    go_wp2_with fail
    go_ret
    exact ⟨rfl, Below.refl _ _⟩
  have HLG := hid hlg
  have hn5 : n0 ≤ 3000 := (lg_no hlg).1
  clear hlg
  go_enter Try.func6, Try.ntmps6
  go_wp2_with fail
  refine (calls_bool (a2Long_any A0 none n0 0 c0 0 w hl0 (by unfold maxLen; omega)) HLG.out).mono ?_
  rintro e w' ⟨rfl, rfl⟩
  go_wp2_with fail
  refine (A2Panel_any A0 n0 c0 bs0 w HN0.out HZ0.out (by omega)).mono ?_
  rintro e w1 ⟨W, H, zs, A, c, ⟨hv, hW5, hH5⟩, rfl, ho1, hb1⟩
  have HV := hid hv
  obtain ⟨sW, sH⟩ := valid_sides hv
  have hsb := segs_bd sW sH
  have hwb := side_bd sW
  have hhb := side_bd sH
  have hlz : zs.length ≤ maxLen := by have := valid_len hv; have := inner_le sW sH; unfold maxLen; omega
  obtain ⟨N, hN⟩ : ∃ N : Nat, (4 * W * H).toNat = N := ⟨_, rfl⟩
  have hNI : 4 * W * H = (N : Int) := by omega
  have hNl : N ≤ 256 := by omega
  have HN := hid hN
  have HNI := hid hNI
  have t1 : IntKind.i64.wrap (4 * W) = 4 * W := IntWalk.i64_in _ (by omega)
  have t2 : IntKind.i64.wrap (4 * W * H) = N := by rw [hNI]; exact IntWalk.i64_in _ (by omega)
  have HO1 : Hid (OwnI w1 w.heap.size (.slice A zs.length c) zs) := hid ho1
  have HB1 := hid hb1
  clear hv hsb sW sH hN hNI ho1 hb1
  go_wp2_with fail
  refine (implCountSegments_any W H A c zs _ (OwnI.ints (OwnI.alloc HO1.out _)) hlz).mono ?_
  rintro e w2 ⟨he, hb2⟩
  rw [show segsR W H zs = (N : Int) by simp [segsR, HV.out, HNI.out], show okR W H zs = 0 by simp [okR, HV.out]] at he
  subst he
  have KP2 : Hid (Box w2 w1.heap.size 30 #[.int .i64 W, .int .i64 H, .slice A zs.length c]) := hid (Box.keep (Box.new' _ _ _ _ (by simp)) hb2)
  have HO2 := hid (OwnI.keep (OwnI.alloc HO1.out _) hb2)
  have HB2 : Hid (Below w.heap.size w w2) := hid (bstep (bal HB1.out _) hb2)
  clear hb2
  obtain ⟨Pa, Pb, Pc⟩ := KP2.out.three
  have Pz := KP2.out.lt
  go_wp2_with fail
  refine (implAllWalkers_any W H A c zs _ (OwnI.ints HO2.out) hlz).mono ?_
  rintro e w3 ⟨⟨A3, c3, he, ho3⟩, hb3⟩
  rw [show awN W H zs = 2 * N by simp [awN, HV.out, HN.out]; omega, show awC W H zs = 0 by simp [awC, HV.out]] at he
  rw [show awN W H zs = 2 * N by simp [awN, HV.out, HN.out]; omega, show awL W H zs = awF H N by simp [awL, HV.out, HN.out]] at ho3
  subst he
  have KP3 := hid (Box.keep KP2.out hb3)
  have HO3 := hid (OwnI.keep HO2.out hb3)
  have HR3 := hid (Go.Joins.ownsRow_le ho3 (by exact HB2.out.size : w.heap.size ≤ w2.heap.size))
  have HB3 := hid (bbl HB2.out hb3)
  clear hb3 ho3 Pa Pb Pc Pz KP2 HO2
  obtain ⟨Pa, Pb, Pc⟩ := KP3.out.three
  have Pz := KP3.out.lt
  have t3 : IntKind.i64.wrap (2 * (N : Int)) = ((2 * N : Nat) : Int) := by rw [show (2 * (N : Int)) = ((2 * N : Nat) : Int) by omega]; exact IntWalk.i64_in _ (by omega)
  go_wp2_with fail
  clear Pa Pb Pc Pz
  go_loopg [8] N (fun g i wr => ∃ k : Nat, k ≤ N ∧ i = .int .i64 k ∧ g = N - k ∧ Hid (Box wr w1.heap.size 30 #[.int .i64 W, .int .i64 H, .slice A zs.length c]) ∧ Hid (OwnI wr w.heap.size (.slice A zs.length c) zs) ∧ Hid (wr.ownsRow w.heap.size 52 4 (.slice A3 (2 * N) c3) (2 * N) (vals (awF H N))) ∧ Hid (Below w.heap.size w wr))
  case atStart => exact ⟨0, Nat.zero_le _, rfl, rfl, KP3, HO3, HR3, HB3⟩
  case round =>
    obtain ⟨k, hk, rfl, hg, KP, HO, HR, HB⟩ := hrel
    clear KP3 HO3 HR3 HB3
    by_cases hlt : k < N
    · obtain ⟨X, Y, D, X2, Y2, D2, ⟨x1, x2, y1, y2, d1, d2, x21, x22, y21, y22, d21, d22⟩, hxy, hwt, hvw, hbw, hs1, hc2, hs2⟩ := seg_facts HV.out (k := k) (by rw [HNI.out]; omega)
      have HXY := hid hxy
      have HWT := hid hwt
      have HVW := hid hvw
      have HBW := hid hbw
      have HS1 := hid (And.intro hs1 (And.intro hc2 hs2))
      clear hxy hwt hvw hbw hs1 hc2 hs2
      obtain ⟨Pa, Pb, Pc⟩ := KP.out.three
      have Pz := KP.out.lt
      have u1 : IntKind.i64.wrap (2 * (k : Int)) = ((2 * k : Nat) : Int) := by rw [show (2 * (k : Int)) = ((2 * k : Nat) : Int) by omega]; exact IntWalk.i64_in _ (by omega)
      have u2 : IntKind.i64.wrap (((2 * k : Nat) : Int) + 1) = ((2 * k + 1 : Nat) : Int) := by rw [show (((2 * k : Nat) : Int) + 1) = ((2 * k + 1 : Nat) : Int) by omega]; exact IntWalk.i64_in _ (by omega)
      go_wp2_with fail
      refine (implWalkerAt_any W H A c zs (k : Int) _ (OwnI.ints HO.out) hlz (wf64 (by omega) (by omega))).mono ?_
      rintro e w4 ⟨he, hb4⟩
      obtain ⟨g1, g2, g3, g4, g5⟩ := HWT.out
      rw [g1, g2, g3, g4, g5] at he
      clear g1 g2 g3 g4 g5
      subst he
      have KP4 := hid (Box.keep KP.out hb4)
      have HO4 := hid (OwnI.keep HO.out hb4)
      have HR4 := hid (own_keep HR.out hb4)
      have HB4 := hid (bbl HB.out hb4)
      clear hb4 Pa Pb Pc Pz KP HO HR HB
      go_wp2_with fail
      obtain ⟨w5, hw5⟩ : ∃ zz : World, zz = w4.alloc (.cells #[.int .i64 X, .int .i64 Y, .int .i64 1, .int .i64 D] 52) := ⟨_, rfl⟩
      rw [← hw5]
      have KP5 : Hid (Box w5 w1.heap.size 30 #[.int .i64 W, .int .i64 H, .slice A zs.length c]) := hid (by rw [hw5]; exact Box.alloc KP4.out _)
      have KW5 : Hid (Box w5 w4.heap.size 52 #[.int .i64 X, .int .i64 Y, .int .i64 1, .int .i64 D]) := hid (by rw [hw5]; exact Box.new _ _ _)
      have HO5 : Hid (OwnI w5 w.heap.size (.slice A zs.length c) zs) := hid (by rw [hw5]; exact OwnI.alloc HO4.out _)
      have HR5 : Hid (w5.ownsRow w.heap.size 52 4 (.slice A3 (2 * N) c3) (2 * N) (vals (awF H N))) := hid (by rw [hw5]; exact HR4.out.alloc _)
      have HB5 : Hid (Below w.heap.size w w5) := hid (by rw [hw5]; exact bal HB4.out _)
      obtain ⟨b4, hb4⟩ : ∃ b, b = w4.heap.size := ⟨_, rfl⟩
      rw [← hb4] at KW5 ⊢
      clear hw5 KP4 HO4 HR4 HB4 hb4
      obtain ⟨Pa, Pb, Pc⟩ := KP5.out.three
      have Pz := KP5.out.lt
      obtain ⟨Wa, Wb, Wc, Wd⟩ := KW5.out.four
      have Wz := KW5.out.lt
      rcases Go.Joins.ownsRow_forms HR5.out with ⟨_, hn00⟩ | ⟨gp, cp, ep⟩
      · exact absurd hlt (by omega)
      simp only [Value.slice.injEq] at ep
      obtain ⟨rfl, -, rfl⟩ := ep
      obtain ⟨⟨a0, a1, a2, a3⟩, b0, b1, b2, b3⟩ := awF_cells H N k hlt HR5.out rfl
      have hgp := (HR5.out.lt gp rfl).2
      obtain ⟨g1, g2, g3, g4, g5, g6⟩ := HXY.out
      rw [g1] at a0
      rw [g2] at a1
      rw [g3] at a3
      rw [g4] at b0
      rw [g5] at b1
      rw [g6] at b3
      clear g1 g2 g3 g4 g5 g6 b0 b1 b2 b3
      refine wp_region_mix w5.heap.size (by kernel_rfl) (by kernel_rfl) ?_
      repeat (any_goals (go_big_quiet_step (first | (go_at_call 30; exact mix_call (by simp) (calls_bool (specValidWalker_any W H A c zs X Y 1 D _ (OwnI.ints (OwnI.keep HO5.out (mix_below _ _ _))) hlz (wf64 (by omega) (by omega)) (wf64 (by omega) (by omega)) (wf64 (by omega) (by omega)) (wf64 (by omega) (by omega))) HVW.out)))))
      refine wpQuiet_nil ?_
      intro w6 hx6
      have hb6 : Below _ _ w6 := mix_ex hx6
      clear hx6
      clear Pa Pb Pc Pz Wa Wb Wc Wd Wz
      clear a0 a1 a2 a3 hgp
      have KP6 : Hid (Box w6 w1.heap.size 30 #[.int .i64 W, .int .i64 H, .slice A zs.length c]) := hid (Box.keep KP5.out hb6)
      have KW6 : Hid (Box w6 b4 52 #[.int .i64 X, .int .i64 Y, .int .i64 1, .int .i64 D]) := hid (Box.keep KW5.out hb6)
      have HO6 : Hid (OwnI w6 w.heap.size (.slice A zs.length c) zs) := hid (OwnI.keep HO5.out hb6)
      have HR6 : Hid (w6.ownsRow w.heap.size 52 4 (.slice (some ⟨gp, 0, none⟩) (2 * N) c3) (2 * N) (vals (awF H N))) := hid (own_keep HR5.out hb6)
      have HB6 : Hid (Below w.heap.size w w6) := hid (bbl HB5.out hb6)
      clear hb6 KP5 KW5 HO5 HR5 HB5
      obtain ⟨Pa, Pb, Pc⟩ := KP6.out.three
      have Pz := KP6.out.lt
      obtain ⟨Wa, Wb, Wc, Wd⟩ := KW6.out.four
      have Wz := KW6.out.lt
      go_wp2_with fail
      refine (specBackWalker_any W H A c zs X Y 1 D _ (OwnI.ints HO6.out) hlz (wf64 (by omega) (by omega)) (wf64 (by omega) (by omega)) (wf64 (by omega) (by omega)) (wf64 (by omega) (by omega))).mono ?_
      rintro e w7 ⟨he, hb7⟩
      obtain ⟨g1, g2, g3, g4, g5⟩ := HBW.out
      rw [g1, g2, g3, g4, g5] at he
      clear g1 g2 g3 g4 g5
      subst he
      clear Pa Pb Pc Pz Wa Wb Wc Wd Wz
      have KP7 : Hid (Box w7 w1.heap.size 30 #[.int .i64 W, .int .i64 H, .slice A zs.length c]) := hid (Box.keep KP6.out hb7)
      have KW7 : Hid (Box w7 b4 52 #[.int .i64 X, .int .i64 Y, .int .i64 1, .int .i64 D]) := hid (Box.keep KW6.out hb7)
      have HO7 : Hid (OwnI w7 w.heap.size (.slice A zs.length c) zs) := hid (OwnI.keep HO6.out hb7)
      have HR7 : Hid (w7.ownsRow w.heap.size 52 4 (.slice (some ⟨gp, 0, none⟩) (2 * N) c3) (2 * N) (vals (awF H N))) := hid (own_keep HR6.out hb7)
      have HB7 : Hid (Below w.heap.size w w7) := hid (bbl HB6.out hb7)
      clear hb7 KP6 KW6 HO6 HR6 HB6
      obtain ⟨Pa, Pb, Pc⟩ := KP7.out.three
      have Pz := KP7.out.lt
      obtain ⟨Wa, Wb, Wc, Wd⟩ := KW7.out.four
      have Wz := KW7.out.lt
      go_wp2_with fail
      obtain ⟨w8, hw8⟩ : ∃ zz : World, zz = w7.alloc (.cells #[.int .i64 X2, .int .i64 Y2, .int .i64 (-1), .int .i64 D2] 52) := ⟨_, rfl⟩
      rw [← hw8]
      have KP8 : Hid (Box w8 w1.heap.size 30 #[.int .i64 W, .int .i64 H, .slice A zs.length c]) := hid (by rw [hw8]; exact Box.alloc KP7.out _)
      have KW8 : Hid (Box w8 b4 52 #[.int .i64 X, .int .i64 Y, .int .i64 1, .int .i64 D]) := hid (by rw [hw8]; exact Box.alloc KW7.out _)
      have KV8 : Hid (Box w8 w7.heap.size 52 #[.int .i64 X2, .int .i64 Y2, .int .i64 (-1), .int .i64 D2]) := hid (by rw [hw8]; exact Box.new _ _ _)
      have HO8 : Hid (OwnI w8 w.heap.size (.slice A zs.length c) zs) := hid (by rw [hw8]; exact OwnI.alloc HO7.out _)
      have HR8 : Hid (w8.ownsRow w.heap.size 52 4 (.slice (some ⟨gp, 0, none⟩) (2 * N) c3) (2 * N) (vals (awF H N))) := hid (by rw [hw8]; exact HR7.out.alloc _)
      have HB8 : Hid (Below w.heap.size w w8) := hid (by rw [hw8]; exact bal HB7.out _)
      obtain ⟨b7, hb7⟩ : ∃ b, b = w7.heap.size := ⟨_, rfl⟩
      rw [← hb7] at KV8 ⊢
      clear Pa Pb Pc Pz Wa Wb Wc Wd Wz
      clear hw8 KP7 KW7 HO7 HR7 HB7 hb7
      obtain ⟨Pa, Pb, Pc⟩ := KP8.out.three
      have Pz := KP8.out.lt
      obtain ⟨Wa, Wb, Wc, Wd⟩ := KW8.out.four
      have Wz := KW8.out.lt
      obtain ⟨Va, Vb, Vc, Vd⟩ := KV8.out.four
      have Vz := KV8.out.lt
      go_wp2_with fail
      refine (implSegmentOf_any W H A c zs X Y 1 D _ (OwnI.ints HO8.out) hlz (wf64 (by omega) (by omega)) (wf64 (by omega) (by omega)) (wf64 (by omega) (by omega)) (wf64 (by omega) (by omega))).mono ?_
      rintro e w9 ⟨he, hb9⟩
      rw [HS1.out.1, HBW.out.2.2.2.2] at he
      subst he
      clear Pa Pb Pc Pz Wa Wb Wc Wd Wz Va Vb Vc Vd Vz
      have KP9 : Hid (Box w9 w1.heap.size 30 #[.int .i64 W, .int .i64 H, .slice A zs.length c]) := hid (Box.keep KP8.out hb9)
      have KW9 : Hid (Box w9 b4 52 #[.int .i64 X, .int .i64 Y, .int .i64 1, .int .i64 D]) := hid (Box.keep KW8.out hb9)
      have KV9 : Hid (Box w9 b7 52 #[.int .i64 X2, .int .i64 Y2, .int .i64 (-1), .int .i64 D2]) := hid (Box.keep KV8.out hb9)
      have HO9 : Hid (OwnI w9 w.heap.size (.slice A zs.length c) zs) := hid (OwnI.keep HO8.out hb9)
      have HR9 : Hid (w9.ownsRow w.heap.size 52 4 (.slice (some ⟨gp, 0, none⟩) (2 * N) c3) (2 * N) (vals (awF H N))) := hid (own_keep HR8.out hb9)
      have HB9 : Hid (Below w.heap.size w w9) := hid (bbl HB8.out hb9)
      clear hb9 KP8 KW8 KV8 HO8 HR8 HB8
      obtain ⟨Pa, Pb, Pc⟩ := KP9.out.three
      have Pz := KP9.out.lt
      obtain ⟨Wa, Wb, Wc, Wd⟩ := KW9.out.four
      have Wz := KW9.out.lt
      obtain ⟨Va, Vb, Vc, Vd⟩ := KV9.out.four
      have Vz := KV9.out.lt
      obtain ⟨⟨a0, a1, a2, a3⟩, b0, b1, b2, b3⟩ := awF_cells H N k hlt HR9.out rfl
      have hgp := (HR9.out.lt gp rfl).2
      obtain ⟨g1, g2, g3, g4, g5, g6⟩ := HXY.out
      rw [g1] at a0
      rw [g2] at a1
      rw [g3] at a3
      rw [g4] at b0
      rw [g5] at b1
      rw [g6] at b3
      clear g1 g2 g3 g4 g5 g6
      go_wp2_with fail
      refine wp_region_mix w9.heap.size (by kernel_rfl) (by kernel_rfl) ?_
      repeat (any_goals (go_big_quiet_step (first | (go_at_call 32; exact mix_call (by simp) (calls_t2 (implSegmentOf_any W H A c zs X2 Y2 (-1) D2 _ (OwnI.ints (OwnI.keep HO9.out (mix_below _ _ _))) hlz (wf64 (by omega) (by omega)) (wf64 (by omega) (by omega)) (wf64 (by omega) (by omega)) (wf64 (by omega) (by omega))) HS1.out.2.2 HS1.out.2.1)))))
      refine wpQuiet_nil ?_
      intro w10 hx10
      have hb10 : Below _ _ w10 := mix_ex hx10
      clear hx10
      clear Pa Pb Pc Pz Wa Wb Wc Wd Wz Va Vb Vc Vd Vz
      clear a0 a1 a2 a3 hgp b0 b1 b2 b3
      have KP10 : Hid (Box w10 w1.heap.size 30 #[.int .i64 W, .int .i64 H, .slice A zs.length c]) := hid (Box.keep KP9.out hb10)
      have KW10 : Hid (Box w10 b4 52 #[.int .i64 X, .int .i64 Y, .int .i64 1, .int .i64 D]) := hid (Box.keep KW9.out hb10)
      have KV10 : Hid (Box w10 b7 52 #[.int .i64 X2, .int .i64 Y2, .int .i64 (-1), .int .i64 D2]) := hid (Box.keep KV9.out hb10)
      have HO10 : Hid (OwnI w10 w.heap.size (.slice A zs.length c) zs) := hid (OwnI.keep HO9.out hb10)
      have HR10 : Hid (w10.ownsRow w.heap.size 52 4 (.slice (some ⟨gp, 0, none⟩) (2 * N) c3) (2 * N) (vals (awF H N))) := hid (own_keep HR9.out hb10)
      have HB10 : Hid (Below w.heap.size w w10) := hid (bbl HB9.out hb10)
      clear hb10 KP9 KW9 KV9 HO9 HR9 HB9
      obtain ⟨Pa, Pb, Pc⟩ := KP10.out.three
      have Pz := KP10.out.lt
      obtain ⟨Wa, Wb, Wc, Wd⟩ := KW10.out.four
      have Wz := KW10.out.lt
      obtain ⟨Va, Vb, Vc, Vd⟩ := KV10.out.four
      have Vz := KV10.out.lt
      obtain ⟨⟨a0, a1, a2, a3⟩, b0, b1, b2, b3⟩ := awF_cells H N k hlt HR10.out rfl
      have hgp := (HR10.out.lt gp rfl).2
      obtain ⟨g1, g2, g3, g4, g5, g6⟩ := HXY.out
      rw [g1] at a0
      rw [g2] at a1
      rw [g3] at a3
      rw [g4] at b0
      rw [g5] at b1
      rw [g6] at b3
      clear g1 g2 g3 g4 g5 g6
      go_wp2_with fail
      refine wp_region_mix w10.heap.size (by kernel_rfl) (by kernel_rfl) ?_
      repeat (any_goals (go_big_quiet_step (fail)))
      refine wpQuiet_nil ?_
      intro w11 hx11
      have hb11 : Below _ _ w11 := mix_ex hx11
      clear hx11
      clear Pa Pb Pc Pz Wa Wb Wc Wd Wz Va Vb Vc Vd Vz
      clear a0 a1 a2 a3 hgp b0 b1 b2 b3
      have KP11 : Hid (Box w11 w1.heap.size 30 #[.int .i64 W, .int .i64 H, .slice A zs.length c]) := hid (Box.keep KP10.out hb11)
      have HO11 : Hid (OwnI w11 w.heap.size (.slice A zs.length c) zs) := hid (OwnI.keep HO10.out hb11)
      have HR11 : Hid (w11.ownsRow w.heap.size 52 4 (.slice (some ⟨gp, 0, none⟩) (2 * N) c3) (2 * N) (vals (awF H N))) := hid (own_keep HR10.out hb11)
      have HB11 : Hid (Below w.heap.size w w11) := hid (bbl HB10.out hb11)
      clear hb11 KP10 KW10 KV10 HO10 HR10 HB10
      go_wp2_with fail
      go_roundg (N - (k + 1))
      case measure => omega
      case rel => exact ⟨k + 1, by omega, by go_num, rfl, KP11, HO11, HR11, HB11⟩
    · obtain rfl : k = N := by omega
      go_wp2_with fail
      go_ret
      exact ⟨rfl, HB.out⟩
end Go.Proofs.Ytbgigompkmnapaa

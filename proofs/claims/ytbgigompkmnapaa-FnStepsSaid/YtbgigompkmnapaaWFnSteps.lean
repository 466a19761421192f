/- The walk of FnSteps. -/
import Derived.Test.YtbgigompkmnapaaFt
import Derived.Test.YtbgigompkmnapaaSw
import Derived.Test.YtbgigompkmnapaaWk
import Derived.Test.YtbgigompkmnapaaVk
import Derived.Test.YtbgigompkmnapaaBw
import Derived.Test.YtbgigompkmnapaaAu
import Derived.Test.YtbgigompkmnapaaQm
import Derived.Test.YtbgigompkmnapaaRg
namespace Go.Proofs.Ytbgigompkmnapaa
set_option linter.unusedSimpArgs false
set_option linter.unusedVariables false
open Go.ChangeShapes Go.WideShapes Go.ChangeAt Go.RowKit
set_option maxRecDepth 100000 in
set_option maxHeartbeats 8000000 in
theorem fnSteps_walk (w : World) (A0 : Option Addr) (c0 : Nat) (bs0 : List Int) (hl0 : bs0.length ≤ maxLen) (hz0 : BytesR w w.heap.size A0 bs0) (_ : True)
    (A1 : Option Addr) (c1 : Nat) (bs1 : List Int) (hl1 : bs1.length ≤ maxLen) (hz1 : BytesR w w.heap.size A1 bs1) (_ : True) :
    Calls Try.prog 7 #[.slice A0 bs0.length c0, .slice A1 bs1.length c1] w fun e w' => e = .returned (.bool true) ∧ Below w.heap.size w w' := by
  obtain ⟨n0, hn0⟩ : ∃ n, bs0.length = n := ⟨_, rfl⟩
  obtain ⟨n1, hn1⟩ : ∃ n, bs1.length = n := ⟨_, rfl⟩
  rw [hn0] at hl0 ⊢
  rw [hn1] at hl1 ⊢
  have HN0 := hid hn0
  have HZ0 := hid hz0
  have HN1 := hid hn1
  have HZ1 := hid hz1
  clear hn0 hz0 hn1 hz1
  cases hlg : lgB n0 n1
  case true =>
    have HLG := hid hlg
    clear hlg
    go_enter Try.func7, Try.ntmps7
    go_wp2_with fail
    refine (calls_bool (a2Long_any A0 A1 n0 n1 c0 c1 w hl0 hl1) HLG.out).mono ?_
    rintro e w' ⟨rfl, rfl⟩
    go_wp2_with fail
    go_ret
    exact ⟨rfl, Below.refl _ _⟩
  have HLG := hid hlg
  have hn5 := lg_no hlg
  clear hlg
  go_enter Try.func7, Try.ntmps7
  go_wp2_with fail
  refine (calls_bool (a2Long_any A0 A1 n0 n1 c0 c1 w hl0 hl1) HLG.out).mono ?_
  rintro e w' ⟨rfl, rfl⟩
  go_wp2_with fail
  refine (A2Walker_any A0 n0 c0 bs0 w HN0.out HZ0.out (by omega)).mono ?_
  rintro e w1 ⟨W, H, zs, A, c, x0, y0, u0, v0, ⟨hv, hW5, hH5, hok⟩, rfl, ho1, hb1⟩
  have HV := hid hv
  have HOK := hid hok
  have hlz : zs.length ≤ maxLen := by have := valid_len hv; have := inner_le (valid_sides hv).1 (valid_sides hv).2; unfold maxLen; omega
  obtain ⟨p1, p2, p3, p4, p5, p6, p7, p8⟩ := ok_bd hv hok
  obtain ⟨x1, y1, u1, v1, x2, y2, u2, v2, x3, y3, u3, v3, t, hbd, hsw, hvw, hbw, hhm, htu, hag, hxy, htt⟩ := stp_facts hv hok
  obtain ⟨⟨q1, q2, q3, q4, q5, q6, q7, q8⟩, ⟨r1, r2, r3, r4, r5, r6, r7, r8⟩, s1, s2, s3, s4, s5, s6, s7, s8⟩ := hbd
  have HSW := hid hsw
  have HVW := hid hvw
  have HBW := hid hbw
  have HHM := hid hhm
  have HTU := hid htu
  have HAG := hid hag
  obtain ⟨hx1, hy1⟩ := hxy
  have z1 : IntKind.i64.wrap (x1 - x0) = u0 := by rw [hx1]; exact IntWalk.i64_in _ (by omega)
  have z2 : IntKind.i64.wrap (y1 - y0) = v0 := by rw [hy1]; exact IntWalk.i64_in _ (by omega)
  have HO1 : Hid (OwnI w1 w.heap.size (.slice A zs.length c) zs) := hid ho1
  have HB1 := hid hb1
  clear hv hok ho1 hb1 hsw hvw hbw hhm htu hag
  go_wp2_with fail
  obtain ⟨w2, hw2⟩ : ∃ zz : World, zz = (w1.alloc (.cells #[.int .i64 W, .int .i64 H, .slice A zs.length c] 30)).alloc (.cells #[.int .i64 x0, .int .i64 y0, .int .i64 u0, .int .i64 v0] 52) := ⟨_, rfl⟩
  rw [← hw2]
  have KP2 : Hid (Box w2 w1.heap.size 30 #[.int .i64 W, .int .i64 H, .slice A zs.length c]) := hid (by rw [hw2]; exact Box.alloc (Box.new _ _ _) _)
  have KW2 : Hid (Box w2 (w1.heap.size + 1) 52 #[.int .i64 x0, .int .i64 y0, .int .i64 u0, .int .i64 v0]) := hid (by rw [hw2]; exact Box.new' _ _ _ _ (by simp))
  have HO2 : Hid (OwnI w2 w.heap.size (.slice A zs.length c) zs) := hid (by rw [hw2]; exact (HO1.out.alloc _).alloc _)
  have HB2 : Hid (Below w.heap.size w w2) := hid (by rw [hw2]; exact bal (bal HB1.out _) _)
  clear hw2 HO1 HB1
  obtain ⟨Pa, Pb, Pc⟩ := KP2.out.three
  have Pz := KP2.out.lt
  obtain ⟨Wa, Wb, Wc, Wd⟩ := KW2.out.four
  have Wz := KW2.out.lt
  refine (implStepWalker_any W H A c zs x0 y0 u0 v0  _ (OwnI.ints HO2.out) hlz (wf64 (by omega) (by omega)) (wf64 (by omega) (by omega)) (wf64 (by omega) (by omega)) (wf64 (by omega) (by omega)) ).mono ?_
  rintro e w3 ⟨he, hb3⟩
  rw [HSW.out.1, HSW.out.2.1, HSW.out.2.2.1, HSW.out.2.2.2.1, HSW.out.2.2.2.2] at he
  subst he
  clear Pa Pb Pc Pz Wa Wb Wc Wd Wz
  have KP3 : Hid (Box w3 w1.heap.size 30 #[.int .i64 W, .int .i64 H, .slice A zs.length c]) := hid (Box.keep KP2.out hb3)
  have KW3 : Hid (Box w3 (w1.heap.size + 1) 52 #[.int .i64 x0, .int .i64 y0, .int .i64 u0, .int .i64 v0]) := hid (Box.keep KW2.out hb3)
  have HO3 : Hid (OwnI w3 w.heap.size (.slice A zs.length c) zs) := hid (OwnI.keep HO2.out hb3)
  have HB3 : Hid (Below w.heap.size w w3) := hid (bbl HB2.out hb3)
  clear hb3 KP2 KW2 HO2 HB2
  obtain ⟨Pa, Pb, Pc⟩ := KP3.out.three
  have Pz := KP3.out.lt
  obtain ⟨Wa, Wb, Wc, Wd⟩ := KW3.out.four
  have Wz := KW3.out.lt
  go_wp2_with fail
  obtain ⟨w4, hw4⟩ : ∃ zz : World, zz = w3.alloc (.cells #[.int .i64 x1, .int .i64 y1, .int .i64 u1, .int .i64 v1] 52) := ⟨_, rfl⟩
  rw [← hw4]
  have KP4 : Hid (Box w4 w1.heap.size 30 #[.int .i64 W, .int .i64 H, .slice A zs.length c]) := hid (by rw [hw4]; exact Box.alloc KP3.out _)
  have KW4 : Hid (Box w4 (w1.heap.size + 1) 52 #[.int .i64 x0, .int .i64 y0, .int .i64 u0, .int .i64 v0]) := hid (by rw [hw4]; exact Box.alloc KW3.out _)
  have HO4 : Hid (OwnI w4 w.heap.size (.slice A zs.length c) zs) := hid (by rw [hw4]; exact HO3.out.alloc _)
  have HB4 : Hid (Below w.heap.size w w4) := hid (by rw [hw4]; exact bal HB3.out _)
  have KV4 : Hid (Box w4 w3.heap.size 52 #[.int .i64 x1, .int .i64 y1, .int .i64 u1, .int .i64 v1]) := hid (by rw [hw4]; exact Box.new _ _ _)
  obtain ⟨bk4, hbk4⟩ : ∃ b, b = w3.heap.size := ⟨_, rfl⟩
  rw [← hbk4] at KV4 ⊢
  clear Pa Pb Pc Pz Wa Wb Wc Wd Wz
  clear hw4 hbk4 KP3 KW3 HO3 HB3
  obtain ⟨Pa, Pb, Pc⟩ := KP4.out.three
  have Pz := KP4.out.lt
  obtain ⟨Wa, Wb, Wc, Wd⟩ := KW4.out.four
  have Wz := KW4.out.lt
  obtain ⟨Va, Vb, Vc, Vd⟩ := KV4.out.four
  have Vz := KV4.out.lt
  refine (implBackWalker_any W H A c zs x1 y1 u1 v1  _ (OwnI.ints HO4.out) hlz (wf64 (by omega) (by omega)) (wf64 (by omega) (by omega)) (wf64 (by omega) (by omega)) (wf64 (by omega) (by omega)) ).mono ?_
  rintro e w5 ⟨he, hb5⟩
  rw [HBW.out.1, HBW.out.2.1, HBW.out.2.2.1, HBW.out.2.2.2.1, HBW.out.2.2.2.2] at he
  subst he
  clear Pa Pb Pc Pz Wa Wb Wc Wd Wz Va Vb Vc Vd Vz
  have KP5 : Hid (Box w5 w1.heap.size 30 #[.int .i64 W, .int .i64 H, .slice A zs.length c]) := hid (Box.keep KP4.out hb5)
  have KW5 : Hid (Box w5 (w1.heap.size + 1) 52 #[.int .i64 x0, .int .i64 y0, .int .i64 u0, .int .i64 v0]) := hid (Box.keep KW4.out hb5)
  have KV5 : Hid (Box w5 bk4 52 #[.int .i64 x1, .int .i64 y1, .int .i64 u1, .int .i64 v1]) := hid (Box.keep KV4.out hb5)
  have HO5 : Hid (OwnI w5 w.heap.size (.slice A zs.length c) zs) := hid (OwnI.keep HO4.out hb5)
  have HB5 : Hid (Below w.heap.size w w5) := hid (bbl HB4.out hb5)
  clear hb5 KP4 KW4 KV4 HO4 HB4
  obtain ⟨Pa, Pb, Pc⟩ := KP5.out.three
  have Pz := KP5.out.lt
  obtain ⟨Wa, Wb, Wc, Wd⟩ := KW5.out.four
  have Wz := KW5.out.lt
  obtain ⟨Va, Vb, Vc, Vd⟩ := KV5.out.four
  have Vz := KV5.out.lt
  go_wp2_with fail
  obtain ⟨w6, hw6⟩ : ∃ zz : World, zz = w5.alloc (.cells #[.int .i64 x2, .int .i64 y2, .int .i64 u2, .int .i64 v2] 52) := ⟨_, rfl⟩
  rw [← hw6]
  have KP6 : Hid (Box w6 w1.heap.size 30 #[.int .i64 W, .int .i64 H, .slice A zs.length c]) := hid (by rw [hw6]; exact Box.alloc KP5.out _)
  have KW6 : Hid (Box w6 (w1.heap.size + 1) 52 #[.int .i64 x0, .int .i64 y0, .int .i64 u0, .int .i64 v0]) := hid (by rw [hw6]; exact Box.alloc KW5.out _)
  have KV6 : Hid (Box w6 bk4 52 #[.int .i64 x1, .int .i64 y1, .int .i64 u1, .int .i64 v1]) := hid (by rw [hw6]; exact Box.alloc KV5.out _)
  have HO6 : Hid (OwnI w6 w.heap.size (.slice A zs.length c) zs) := hid (by rw [hw6]; exact HO5.out.alloc _)
  have HB6 : Hid (Below w.heap.size w w6) := hid (by rw [hw6]; exact bal HB5.out _)
  have KB6 : Hid (Box w6 w5.heap.size 52 #[.int .i64 x2, .int .i64 y2, .int .i64 u2, .int .i64 v2]) := hid (by rw [hw6]; exact Box.new _ _ _)
  obtain ⟨bk6, hbk6⟩ : ∃ b, b = w5.heap.size := ⟨_, rfl⟩
  rw [← hbk6] at KB6 ⊢
  clear Pa Pb Pc Pz Wa Wb Wc Wd Wz Va Vb Vc Vd Vz
  clear hw6 hbk6 KP5 KW5 KV5 HO5 HB5
  obtain ⟨Pa, Pb, Pc⟩ := KP6.out.three
  have Pz := KP6.out.lt
  obtain ⟨Wa, Wb, Wc, Wd⟩ := KW6.out.four
  have Wz := KW6.out.lt
  obtain ⟨Va, Vb, Vc, Vd⟩ := KV6.out.four
  have Vz := KV6.out.lt
  obtain ⟨Ba, Bb, Bc, Bd⟩ := KB6.out.four
  have Bz := KB6.out.lt
  refine (implBackWalker_any W H A c zs x0 y0 u0 v0  _ (OwnI.ints HO6.out) hlz (wf64 (by omega) (by omega)) (wf64 (by omega) (by omega)) (wf64 (by omega) (by omega)) (wf64 (by omega) (by omega)) ).mono ?_
  rintro e w7 ⟨he, hb7⟩
  rw [HHM.out.1, HHM.out.2.1, HHM.out.2.2.1, HHM.out.2.2.2, HSW.out.2.2.2.2] at he
  subst he
  clear Pa Pb Pc Pz Wa Wb Wc Wd Wz Va Vb Vc Vd Vz Ba Bb Bc Bd Bz
  have KP7 : Hid (Box w7 w1.heap.size 30 #[.int .i64 W, .int .i64 H, .slice A zs.length c]) := hid (Box.keep KP6.out hb7)
  have KW7 : Hid (Box w7 (w1.heap.size + 1) 52 #[.int .i64 x0, .int .i64 y0, .int .i64 u0, .int .i64 v0]) := hid (Box.keep KW6.out hb7)
  have KV7 : Hid (Box w7 bk4 52 #[.int .i64 x1, .int .i64 y1, .int .i64 u1, .int .i64 v1]) := hid (Box.keep KV6.out hb7)
  have KB7 : Hid (Box w7 bk6 52 #[.int .i64 x2, .int .i64 y2, .int .i64 u2, .int .i64 v2]) := hid (Box.keep KB6.out hb7)
  have HO7 : Hid (OwnI w7 w.heap.size (.slice A zs.length c) zs) := hid (OwnI.keep HO6.out hb7)
  have HB7 : Hid (Below w.heap.size w w7) := hid (bbl HB6.out hb7)
  clear hb7 KP6 KW6 KV6 KB6 HO6 HB6
  obtain ⟨Pa, Pb, Pc⟩ := KP7.out.three
  have Pz := KP7.out.lt
  obtain ⟨Wa, Wb, Wc, Wd⟩ := KW7.out.four
  have Wz := KW7.out.lt
  obtain ⟨Va, Vb, Vc, Vd⟩ := KV7.out.four
  have Vz := KV7.out.lt
  obtain ⟨Ba, Bb, Bc, Bd⟩ := KB7.out.four
  have Bz := KB7.out.lt
  go_wp2_with fail
  obtain ⟨w8, hw8⟩ : ∃ zz : World, zz = w7.alloc (.cells #[.int .i64 x3, .int .i64 y3, .int .i64 u3, .int .i64 v3] 52) := ⟨_, rfl⟩
  rw [← hw8]
  have KP8 : Hid (Box w8 w1.heap.size 30 #[.int .i64 W, .int .i64 H, .slice A zs.length c]) := hid (by rw [hw8]; exact Box.alloc KP7.out _)
  have KW8 : Hid (Box w8 (w1.heap.size + 1) 52 #[.int .i64 x0, .int .i64 y0, .int .i64 u0, .int .i64 v0]) := hid (by rw [hw8]; exact Box.alloc KW7.out _)
  have KV8 : Hid (Box w8 bk4 52 #[.int .i64 x1, .int .i64 y1, .int .i64 u1, .int .i64 v1]) := hid (by rw [hw8]; exact Box.alloc KV7.out _)
  have KB8 : Hid (Box w8 bk6 52 #[.int .i64 x2, .int .i64 y2, .int .i64 u2, .int .i64 v2]) := hid (by rw [hw8]; exact Box.alloc KB7.out _)
  have HO8 : Hid (OwnI w8 w.heap.size (.slice A zs.length c) zs) := hid (by rw [hw8]; exact HO7.out.alloc _)
  have HB8 : Hid (Below w.heap.size w w8) := hid (by rw [hw8]; exact bal HB7.out _)
  have KH8 : Hid (Box w8 w7.heap.size 52 #[.int .i64 x3, .int .i64 y3, .int .i64 u3, .int .i64 v3]) := hid (by rw [hw8]; exact Box.new _ _ _)
  obtain ⟨bk8, hbk8⟩ : ∃ b, b = w7.heap.size := ⟨_, rfl⟩
  rw [← hbk8] at KH8 ⊢
  clear Pa Pb Pc Pz Wa Wb Wc Wd Wz Va Vb Vc Vd Vz Ba Bb Bc Bd Bz
  clear hw8 hbk8 KP7 KW7 KV7 KB7 HO7 HB7
  obtain ⟨Pa, Pb, Pc⟩ := KP8.out.three
  have Pz := KP8.out.lt
  obtain ⟨Wa, Wb, Wc, Wd⟩ := KW8.out.four
  have Wz := KW8.out.lt
  obtain ⟨Va, Vb, Vc, Vd⟩ := KV8.out.four
  have Vz := KV8.out.lt
  obtain ⟨Ba, Bb, Bc, Bd⟩ := KB8.out.four
  have Bz := KB8.out.lt
  obtain ⟨Ha, Hb, Hc, Hd⟩ := KH8.out.four
  have Hz := KH8.out.lt
  refine (implTurnsOf_any W H A c zs x0 y0 u0 v0  _ (OwnI.ints HO8.out) hlz (wf64 (by omega) (by omega)) (wf64 (by omega) (by omega)) (wf64 (by omega) (by omega)) (wf64 (by omega) (by omega)) ).mono ?_
  rintro e w9 ⟨he, hb9⟩
  rw [HTU.out, HSW.out.2.2.2.2] at he
  subst he
  clear Pa Pb Pc Pz Wa Wb Wc Wd Wz Va Vb Vc Vd Vz Ba Bb Bc Bd Bz Ha Hb Hc Hd Hz
  have KP9 : Hid (Box w9 w1.heap.size 30 #[.int .i64 W, .int .i64 H, .slice A zs.length c]) := hid (Box.keep KP8.out hb9)
  have KW9 : Hid (Box w9 (w1.heap.size + 1) 52 #[.int .i64 x0, .int .i64 y0, .int .i64 u0, .int .i64 v0]) := hid (Box.keep KW8.out hb9)
  have KV9 : Hid (Box w9 bk4 52 #[.int .i64 x1, .int .i64 y1, .int .i64 u1, .int .i64 v1]) := hid (Box.keep KV8.out hb9)
  have KB9 : Hid (Box w9 bk6 52 #[.int .i64 x2, .int .i64 y2, .int .i64 u2, .int .i64 v2]) := hid (Box.keep KB8.out hb9)
  have KH9 : Hid (Box w9 bk8 52 #[.int .i64 x3, .int .i64 y3, .int .i64 u3, .int .i64 v3]) := hid (Box.keep KH8.out hb9)
  have HO9 : Hid (OwnI w9 w.heap.size (.slice A zs.length c) zs) := hid (OwnI.keep HO8.out hb9)
  have HB9 : Hid (Below w.heap.size w w9) := hid (bbl HB8.out hb9)
  clear hb9 KP8 KW8 KV8 KB8 KH8 HO8 HB8
  obtain ⟨Pa, Pb, Pc⟩ := KP9.out.three
  have Pz := KP9.out.lt
  obtain ⟨Wa, Wb, Wc, Wd⟩ := KW9.out.four
  have Wz := KW9.out.lt
  obtain ⟨Va, Vb, Vc, Vd⟩ := KV9.out.four
  have Vz := KV9.out.lt
  obtain ⟨Ba, Bb, Bc, Bd⟩ := KB9.out.four
  have Bz := KB9.out.lt
  obtain ⟨Ha, Hb, Hc, Hd⟩ := KH9.out.four
  have Hz := KH9.out.lt
  go_wp2_with fail
  refine (calls_bool (specValidWalker_any W H A c zs x1 y1 u1 v1  _ (OwnI.ints HO9.out) hlz (wf64 (by omega) (by omega)) (wf64 (by omega) (by omega)) (wf64 (by omega) (by omega)) (wf64 (by omega) (by omega)) ) HVW.out.2.1).mono ?_
  rintro e w10 ⟨he, hb10⟩
  subst he
  clear Pa Pb Pc Pz Wa Wb Wc Wd Wz Va Vb Vc Vd Vz Ba Bb Bc Bd Bz Ha Hb Hc Hd Hz
  have KP10 : Hid (Box w10 w1.heap.size 30 #[.int .i64 W, .int .i64 H, .slice A zs.length c]) := hid (Box.keep KP9.out hb10)
  have KW10 : Hid (Box w10 (w1.heap.size + 1) 52 #[.int .i64 x0, .int .i64 y0, .int .i64 u0, .int .i64 v0]) := hid (Box.keep KW9.out hb10)
  have KV10 : Hid (Box w10 bk4 52 #[.int .i64 x1, .int .i64 y1, .int .i64 u1, .int .i64 v1]) := hid (Box.keep KV9.out hb10)
  have KB10 : Hid (Box w10 bk6 52 #[.int .i64 x2, .int .i64 y2, .int .i64 u2, .int .i64 v2]) := hid (Box.keep KB9.out hb10)
  have KH10 : Hid (Box w10 bk8 52 #[.int .i64 x3, .int .i64 y3, .int .i64 u3, .int .i64 v3]) := hid (Box.keep KH9.out hb10)
  have HO10 : Hid (OwnI w10 w.heap.size (.slice A zs.length c) zs) := hid (OwnI.keep HO9.out hb10)
  have HB10 : Hid (Below w.heap.size w w10) := hid (bbl HB9.out hb10)
  clear hb10 KP9 KW9 KV9 KB9 KH9 HO9 HB9
  obtain ⟨Pa, Pb, Pc⟩ := KP10.out.three
  have Pz := KP10.out.lt
  obtain ⟨Wa, Wb, Wc, Wd⟩ := KW10.out.four
  have Wz := KW10.out.lt
  obtain ⟨Va, Vb, Vc, Vd⟩ := KV10.out.four
  have Vz := KV10.out.lt
  obtain ⟨Ba, Bb, Bc, Bd⟩ := KB10.out.four
  have Bz := KB10.out.lt
  obtain ⟨Ha, Hb, Hc, Hd⟩ := KH10.out.four
  have Hz := KH10.out.lt
  go_wp2_with fail
  refine (calls_bool (specValidWalker_any W H A c zs x2 y2 u2 v2  _ (OwnI.ints HO10.out) hlz (wf64 (by omega) (by omega)) (wf64 (by omega) (by omega)) (wf64 (by omega) (by omega)) (wf64 (by omega) (by omega)) ) HVW.out.2.2).mono ?_
  rintro e w11 ⟨he, hb11⟩
  subst he
  clear Pa Pb Pc Pz Wa Wb Wc Wd Wz Va Vb Vc Vd Vz Ba Bb Bc Bd Bz Ha Hb Hc Hd Hz
  have KP11 : Hid (Box w11 w1.heap.size 30 #[.int .i64 W, .int .i64 H, .slice A zs.length c]) := hid (Box.keep KP10.out hb11)
  have KW11 : Hid (Box w11 (w1.heap.size + 1) 52 #[.int .i64 x0, .int .i64 y0, .int .i64 u0, .int .i64 v0]) := hid (Box.keep KW10.out hb11)
  have KV11 : Hid (Box w11 bk4 52 #[.int .i64 x1, .int .i64 y1, .int .i64 u1, .int .i64 v1]) := hid (Box.keep KV10.out hb11)
  have KB11 : Hid (Box w11 bk6 52 #[.int .i64 x2, .int .i64 y2, .int .i64 u2, .int .i64 v2]) := hid (Box.keep KB10.out hb11)
  have KH11 : Hid (Box w11 bk8 52 #[.int .i64 x3, .int .i64 y3, .int .i64 u3, .int .i64 v3]) := hid (Box.keep KH10.out hb11)
  have HO11 : Hid (OwnI w11 w.heap.size (.slice A zs.length c) zs) := hid (OwnI.keep HO10.out hb11)
  have HB11 : Hid (Below w.heap.size w w11) := hid (bbl HB10.out hb11)
  clear hb11 KP10 KW10 KV10 KB10 KH10 HO10 HB10
  obtain ⟨Pa, Pb, Pc⟩ := KP11.out.three
  have Pz := KP11.out.lt
  obtain ⟨Wa, Wb, Wc, Wd⟩ := KW11.out.four
  have Wz := KW11.out.lt
  obtain ⟨Va, Vb, Vc, Vd⟩ := KV11.out.four
  have Vz := KV11.out.lt
  obtain ⟨Ba, Bb, Bc, Bd⟩ := KB11.out.four
  have Bz := KB11.out.lt
  obtain ⟨Ha, Hb, Hc, Hd⟩ := KH11.out.four
  have Hz := KH11.out.lt
  go_wp2_with fail
  rcases htt with ⟨rfl, rfl, rfl⟩ | ⟨rfl, hne, rfl⟩ | ⟨hne, rfl⟩
  · have hvv : (!false == (v1 != v1)) = false := by simp
    refine (implStepWalker_any W H A c zs x2 y2 u2 v2  _ (OwnI.ints HO11.out) hlz (wf64 (by omega) (by omega)) (wf64 (by omega) (by omega)) (wf64 (by omega) (by omega)) (wf64 (by omega) (by omega)) ).mono ?_
    rintro e w12 ⟨he, hb12⟩
    rw [HAG.out.1, HAG.out.2.1, HAG.out.2.2.1, HAG.out.2.2.2.1, HAG.out.2.2.2.2] at he
    subst he
    clear Pa Pb Pc Pz Wa Wb Wc Wd Wz Va Vb Vc Vd Vz Ba Bb Bc Bd Bz Ha Hb Hc Hd Hz
    have KP12 : Hid (Box w12 w1.heap.size 30 #[.int .i64 W, .int .i64 H, .slice A zs.length c]) := hid (Box.keep KP11.out hb12)
    have KW12 : Hid (Box w12 (w1.heap.size + 1) 52 #[.int .i64 x0, .int .i64 y0, .int .i64 u1, .int .i64 v1]) := hid (Box.keep KW11.out hb12)
    have KV12 : Hid (Box w12 bk4 52 #[.int .i64 x1, .int .i64 y1, .int .i64 u1, .int .i64 v1]) := hid (Box.keep KV11.out hb12)
    have KB12 : Hid (Box w12 bk6 52 #[.int .i64 x2, .int .i64 y2, .int .i64 u2, .int .i64 v2]) := hid (Box.keep KB11.out hb12)
    have KH12 : Hid (Box w12 bk8 52 #[.int .i64 x3, .int .i64 y3, .int .i64 u3, .int .i64 v3]) := hid (Box.keep KH11.out hb12)
    have HO12 : Hid (OwnI w12 w.heap.size (.slice A zs.length c) zs) := hid (OwnI.keep HO11.out hb12)
    have HB12 : Hid (Below w.heap.size w w12) := hid (bbl HB11.out hb12)
    clear hb12 KP11 KW11 KV11 KB11 KH11 HO11 HB11
    obtain ⟨Pa, Pb, Pc⟩ := KP12.out.three
    have Pz := KP12.out.lt
    obtain ⟨Wa, Wb, Wc, Wd⟩ := KW12.out.four
    have Wz := KW12.out.lt
    obtain ⟨Va, Vb, Vc, Vd⟩ := KV12.out.four
    have Vz := KV12.out.lt
    obtain ⟨Ba, Bb, Bc, Bd⟩ := KB12.out.four
    have Bz := KB12.out.lt
    obtain ⟨Ha, Hb, Hc, Hd⟩ := KH12.out.four
    have Hz := KH12.out.lt
    go_wp2_with fail
    obtain ⟨w13, hw13⟩ : ∃ zz : World, zz = w12.alloc (.cells #[.int .i64 x3, .int .i64 y3, .int .i64 u3, .int .i64 v3] 52) := ⟨_, rfl⟩
    rw [← hw13]
    have KP13 : Hid (Box w13 w1.heap.size 30 #[.int .i64 W, .int .i64 H, .slice A zs.length c]) := hid (by rw [hw13]; exact Box.alloc KP12.out _)
    have KW13 : Hid (Box w13 (w1.heap.size + 1) 52 #[.int .i64 x0, .int .i64 y0, .int .i64 u1, .int .i64 v1]) := hid (by rw [hw13]; exact Box.alloc KW12.out _)
    have KV13 : Hid (Box w13 bk4 52 #[.int .i64 x1, .int .i64 y1, .int .i64 u1, .int .i64 v1]) := hid (by rw [hw13]; exact Box.alloc KV12.out _)
    have KB13 : Hid (Box w13 bk6 52 #[.int .i64 x2, .int .i64 y2, .int .i64 u2, .int .i64 v2]) := hid (by rw [hw13]; exact Box.alloc KB12.out _)
    have KH13 : Hid (Box w13 bk8 52 #[.int .i64 x3, .int .i64 y3, .int .i64 u3, .int .i64 v3]) := hid (by rw [hw13]; exact Box.alloc KH12.out _)
    have HO13 : Hid (OwnI w13 w.heap.size (.slice A zs.length c) zs) := hid (by rw [hw13]; exact HO12.out.alloc _)
    have HB13 : Hid (Below w.heap.size w w13) := hid (by rw [hw13]; exact bal HB12.out _)
    have KG13 : Hid (Box w13 w12.heap.size 52 #[.int .i64 x3, .int .i64 y3, .int .i64 u3, .int .i64 v3]) := hid (by rw [hw13]; exact Box.new _ _ _)
    obtain ⟨bk13, hbk13⟩ : ∃ b, b = w12.heap.size := ⟨_, rfl⟩
    rw [← hbk13] at KG13 ⊢
    clear Pa Pb Pc Pz Wa Wb Wc Wd Wz Va Vb Vc Vd Vz Ba Bb Bc Bd Bz Ha Hb Hc Hd Hz
    clear hw13 hbk13 KP12 KW12 KV12 KB12 KH12 HO12 HB12
    obtain ⟨Pa, Pb, Pc⟩ := KP13.out.three
    have Pz := KP13.out.lt
    obtain ⟨Wa, Wb, Wc, Wd⟩ := KW13.out.four
    have Wz := KW13.out.lt
    obtain ⟨Va, Vb, Vc, Vd⟩ := KV13.out.four
    have Vz := KV13.out.lt
    obtain ⟨Ba, Bb, Bc, Bd⟩ := KB13.out.four
    have Bz := KB13.out.lt
    obtain ⟨Ha, Hb, Hc, Hd⟩ := KH13.out.four
    have Hz := KH13.out.lt
    obtain ⟨Ga, Gb, Gc, Gd⟩ := KG13.out.four
    have Gz := KG13.out.lt
    refine (a2At_any A1 n1 c1 w.heap.size bs1 0 30 _ HN1.out (HZ1.out.below HB13.out) (by omega) (by omega) (by omega) (by omega)).mono ?_
    rintro e w' ⟨⟨na, ⟨na1, na2⟩, rfl⟩, rfl⟩
    go_wp2_with fail
    refine (a2At_any A1 n1 c1 w.heap.size bs1 1 30 _ HN1.out (HZ1.out.below HB13.out) (by omega) (by omega) (by omega) (by omega)).mono ?_
    rintro e w' ⟨⟨nb, ⟨nb1, nb2⟩, rfl⟩, rfl⟩
    go_wp2_with fail
    obtain ⟨x4, y4, u4, v4, ⟨f1, f2, f3, f4, f5, f6, f7, f8⟩, hok4, hit4, hv4, hws4⟩ := wlk_facts HV.out HOK.out na1 (by omega)
    obtain ⟨x5, y5, u5, v5, ⟨g1, g2, g3, g4, g5, g6, g7, g8⟩, hok5, hit5, hv5, hws5⟩ := wlk_facts HV.out hok4 nb1 (by omega)
    have hab : IntKind.i64.wrap (na + nb) = na + nb := IntWalk.i64_in _ (by omega)
    obtain ⟨x6, y6, u6, v6, ⟨e1, e2, e3, e4, e5, e6, e7, e8⟩, hok6, hit6, hv6, hws6⟩ := wlk_facts (a := na + nb) HV.out HOK.out (by omega) (by omega)
    have hE : (x6, y6, u6, v6) = (x5, y5, u5, v5) := by rw [← hit6, ← hit5, ← hit4, ← it_add, show (na + nb).toNat = nb.toNat + na.toNat by omega]
    simp only [Prod.mk.injEq] at hE
    obtain ⟨rfl, rfl, rfl, rfl⟩ := hE
    have HW4 := hid hws4
    have HV4 := hid hv4
    have HW5 := hid hws5
    have HW6 := hid hws6
    clear hok4 hok5 hok6 hit4 hit5 hit6 hv4 hv5 hv6 hws4 hws5 hws6
    refine (implWalkSteps_any W H A c zs x0 y0 u1 v1 na _ (OwnI.ints HO13.out) hlz (wf64 (by omega) (by omega)) (wf64 (by omega) (by omega)) (wf64 (by omega) (by omega)) (wf64 (by omega) (by omega)) (wf64 (by omega) (by omega))).mono ?_
    rintro e w14 ⟨he, hb14⟩
    rw [HW4.out.1, HW4.out.2.1, HW4.out.2.2.1, HW4.out.2.2.2.1, HW4.out.2.2.2.2] at he
    subst he
    clear Pa Pb Pc Pz Wa Wb Wc Wd Wz Va Vb Vc Vd Vz Ba Bb Bc Bd Bz Ha Hb Hc Hd Hz Ga Gb Gc Gd Gz
    have KP14 : Hid (Box w14 w1.heap.size 30 #[.int .i64 W, .int .i64 H, .slice A zs.length c]) := hid (Box.keep KP13.out hb14)
    have KW14 : Hid (Box w14 (w1.heap.size + 1) 52 #[.int .i64 x0, .int .i64 y0, .int .i64 u1, .int .i64 v1]) := hid (Box.keep KW13.out hb14)
    have KV14 : Hid (Box w14 bk4 52 #[.int .i64 x1, .int .i64 y1, .int .i64 u1, .int .i64 v1]) := hid (Box.keep KV13.out hb14)
    have KB14 : Hid (Box w14 bk6 52 #[.int .i64 x2, .int .i64 y2, .int .i64 u2, .int .i64 v2]) := hid (Box.keep KB13.out hb14)
    have KH14 : Hid (Box w14 bk8 52 #[.int .i64 x3, .int .i64 y3, .int .i64 u3, .int .i64 v3]) := hid (Box.keep KH13.out hb14)
    have KG14 : Hid (Box w14 bk13 52 #[.int .i64 x3, .int .i64 y3, .int .i64 u3, .int .i64 v3]) := hid (Box.keep KG13.out hb14)
    have HO14 : Hid (OwnI w14 w.heap.size (.slice A zs.length c) zs) := hid (OwnI.keep HO13.out hb14)
    have HB14 : Hid (Below w.heap.size w w14) := hid (bbl HB13.out hb14)
    clear hb14 KP13 KW13 KV13 KB13 KH13 KG13 HO13 HB13
    obtain ⟨Pa, Pb, Pc⟩ := KP14.out.three
    have Pz := KP14.out.lt
    obtain ⟨Wa, Wb, Wc, Wd⟩ := KW14.out.four
    have Wz := KW14.out.lt
    obtain ⟨Va, Vb, Vc, Vd⟩ := KV14.out.four
    have Vz := KV14.out.lt
    obtain ⟨Ba, Bb, Bc, Bd⟩ := KB14.out.four
    have Bz := KB14.out.lt
    obtain ⟨Ha, Hb, Hc, Hd⟩ := KH14.out.four
    have Hz := KH14.out.lt
    obtain ⟨Ga, Gb, Gc, Gd⟩ := KG14.out.four
    have Gz := KG14.out.lt
    go_wp2_with fail
    obtain ⟨w15, hw15⟩ : ∃ zz : World, zz = w14.alloc (.cells #[.int .i64 x4, .int .i64 y4, .int .i64 u4, .int .i64 v4] 52) := ⟨_, rfl⟩
    rw [← hw15]
    have KP15 : Hid (Box w15 w1.heap.size 30 #[.int .i64 W, .int .i64 H, .slice A zs.length c]) := hid (by rw [hw15]; exact Box.alloc KP14.out _)
    have KW15 : Hid (Box w15 (w1.heap.size + 1) 52 #[.int .i64 x0, .int .i64 y0, .int .i64 u1, .int .i64 v1]) := hid (by rw [hw15]; exact Box.alloc KW14.out _)
    have KV15 : Hid (Box w15 bk4 52 #[.int .i64 x1, .int .i64 y1, .int .i64 u1, .int .i64 v1]) := hid (by rw [hw15]; exact Box.alloc KV14.out _)
    have KB15 : Hid (Box w15 bk6 52 #[.int .i64 x2, .int .i64 y2, .int .i64 u2, .int .i64 v2]) := hid (by rw [hw15]; exact Box.alloc KB14.out _)
    have KH15 : Hid (Box w15 bk8 52 #[.int .i64 x3, .int .i64 y3, .int .i64 u3, .int .i64 v3]) := hid (by rw [hw15]; exact Box.alloc KH14.out _)
    have KG15 : Hid (Box w15 bk13 52 #[.int .i64 x3, .int .i64 y3, .int .i64 u3, .int .i64 v3]) := hid (by rw [hw15]; exact Box.alloc KG14.out _)
    have HO15 : Hid (OwnI w15 w.heap.size (.slice A zs.length c) zs) := hid (by rw [hw15]; exact HO14.out.alloc _)
    have HB15 : Hid (Below w.heap.size w w15) := hid (by rw [hw15]; exact bal HB14.out _)
    have KX15 : Hid (Box w15 w14.heap.size 52 #[.int .i64 x4, .int .i64 y4, .int .i64 u4, .int .i64 v4]) := hid (by rw [hw15]; exact Box.new _ _ _)
    obtain ⟨bk15, hbk15⟩ : ∃ b, b = w14.heap.size := ⟨_, rfl⟩
    rw [← hbk15] at KX15 ⊢
    clear Pa Pb Pc Pz Wa Wb Wc Wd Wz Va Vb Vc Vd Vz Ba Bb Bc Bd Bz Ha Hb Hc Hd Hz Ga Gb Gc Gd Gz
    clear hw15 hbk15 KP14 KW14 KV14 KB14 KH14 KG14 HO14 HB14
    obtain ⟨Pa, Pb, Pc⟩ := KP15.out.three
    have Pz := KP15.out.lt
    obtain ⟨Wa, Wb, Wc, Wd⟩ := KW15.out.four
    have Wz := KW15.out.lt
    obtain ⟨Va, Vb, Vc, Vd⟩ := KV15.out.four
    have Vz := KV15.out.lt
    obtain ⟨Ba, Bb, Bc, Bd⟩ := KB15.out.four
    have Bz := KB15.out.lt
    obtain ⟨Ha, Hb, Hc, Hd⟩ := KH15.out.four
    have Hz := KH15.out.lt
    obtain ⟨Ga, Gb, Gc, Gd⟩ := KG15.out.four
    have Gz := KG15.out.lt
    obtain ⟨Xa, Xb, Xc, Xd⟩ := KX15.out.four
    have Xz := KX15.out.lt
    refine (calls_bool (specValidWalker_any W H A c zs x4 y4 u4 v4  _ (OwnI.ints HO15.out) hlz (wf64 (by omega) (by omega)) (wf64 (by omega) (by omega)) (wf64 (by omega) (by omega)) (wf64 (by omega) (by omega)) ) HV4.out).mono ?_
    rintro e w16 ⟨he, hb16⟩
    subst he
    clear Pa Pb Pc Pz Wa Wb Wc Wd Wz Va Vb Vc Vd Vz Ba Bb Bc Bd Bz Ha Hb Hc Hd Hz Ga Gb Gc Gd Gz Xa Xb Xc Xd Xz
    have KP16 : Hid (Box w16 w1.heap.size 30 #[.int .i64 W, .int .i64 H, .slice A zs.length c]) := hid (Box.keep KP15.out hb16)
    have KW16 : Hid (Box w16 (w1.heap.size + 1) 52 #[.int .i64 x0, .int .i64 y0, .int .i64 u1, .int .i64 v1]) := hid (Box.keep KW15.out hb16)
    have KV16 : Hid (Box w16 bk4 52 #[.int .i64 x1, .int .i64 y1, .int .i64 u1, .int .i64 v1]) := hid (Box.keep KV15.out hb16)
    have KB16 : Hid (Box w16 bk6 52 #[.int .i64 x2, .int .i64 y2, .int .i64 u2, .int .i64 v2]) := hid (Box.keep KB15.out hb16)
    have KH16 : Hid (Box w16 bk8 52 #[.int .i64 x3, .int .i64 y3, .int .i64 u3, .int .i64 v3]) := hid (Box.keep KH15.out hb16)
    have KG16 : Hid (Box w16 bk13 52 #[.int .i64 x3, .int .i64 y3, .int .i64 u3, .int .i64 v3]) := hid (Box.keep KG15.out hb16)
    have KX16 : Hid (Box w16 bk15 52 #[.int .i64 x4, .int .i64 y4, .int .i64 u4, .int .i64 v4]) := hid (Box.keep KX15.out hb16)
    have HO16 : Hid (OwnI w16 w.heap.size (.slice A zs.length c) zs) := hid (OwnI.keep HO15.out hb16)
    have HB16 : Hid (Below w.heap.size w w16) := hid (bbl HB15.out hb16)
    clear hb16 KP15 KW15 KV15 KB15 KH15 KG15 KX15 HO15 HB15
    obtain ⟨Pa, Pb, Pc⟩ := KP16.out.three
    have Pz := KP16.out.lt
    obtain ⟨Wa, Wb, Wc, Wd⟩ := KW16.out.four
    have Wz := KW16.out.lt
    obtain ⟨Va, Vb, Vc, Vd⟩ := KV16.out.four
    have Vz := KV16.out.lt
    obtain ⟨Ba, Bb, Bc, Bd⟩ := KB16.out.four
    have Bz := KB16.out.lt
    obtain ⟨Ha, Hb, Hc, Hd⟩ := KH16.out.four
    have Hz := KH16.out.lt
    obtain ⟨Ga, Gb, Gc, Gd⟩ := KG16.out.four
    have Gz := KG16.out.lt
    obtain ⟨Xa, Xb, Xc, Xd⟩ := KX16.out.four
    have Xz := KX16.out.lt
    go_wp2_with fail
    refine (implWalkSteps_any W H A c zs x4 y4 u4 v4 nb _ (OwnI.ints HO16.out) hlz (wf64 (by omega) (by omega)) (wf64 (by omega) (by omega)) (wf64 (by omega) (by omega)) (wf64 (by omega) (by omega)) (wf64 (by omega) (by omega))).mono ?_
    rintro e w17 ⟨he, hb17⟩
    rw [HW5.out.1, HW5.out.2.1, HW5.out.2.2.1, HW5.out.2.2.2.1, HW5.out.2.2.2.2] at he
    subst he
    clear Pa Pb Pc Pz Wa Wb Wc Wd Wz Va Vb Vc Vd Vz Ba Bb Bc Bd Bz Ha Hb Hc Hd Hz Ga Gb Gc Gd Gz Xa Xb Xc Xd Xz
    have KP17 : Hid (Box w17 w1.heap.size 30 #[.int .i64 W, .int .i64 H, .slice A zs.length c]) := hid (Box.keep KP16.out hb17)
    have KW17 : Hid (Box w17 (w1.heap.size + 1) 52 #[.int .i64 x0, .int .i64 y0, .int .i64 u1, .int .i64 v1]) := hid (Box.keep KW16.out hb17)
    have KV17 : Hid (Box w17 bk4 52 #[.int .i64 x1, .int .i64 y1, .int .i64 u1, .int .i64 v1]) := hid (Box.keep KV16.out hb17)
    have KB17 : Hid (Box w17 bk6 52 #[.int .i64 x2, .int .i64 y2, .int .i64 u2, .int .i64 v2]) := hid (Box.keep KB16.out hb17)
    have KH17 : Hid (Box w17 bk8 52 #[.int .i64 x3, .int .i64 y3, .int .i64 u3, .int .i64 v3]) := hid (Box.keep KH16.out hb17)
    have KG17 : Hid (Box w17 bk13 52 #[.int .i64 x3, .int .i64 y3, .int .i64 u3, .int .i64 v3]) := hid (Box.keep KG16.out hb17)
    have KX17 : Hid (Box w17 bk15 52 #[.int .i64 x4, .int .i64 y4, .int .i64 u4, .int .i64 v4]) := hid (Box.keep KX16.out hb17)
    have HO17 : Hid (OwnI w17 w.heap.size (.slice A zs.length c) zs) := hid (OwnI.keep HO16.out hb17)
    have HB17 : Hid (Below w.heap.size w w17) := hid (bbl HB16.out hb17)
    clear hb17 KP16 KW16 KV16 KB16 KH16 KG16 KX16 HO16 HB16
    obtain ⟨Pa, Pb, Pc⟩ := KP17.out.three
    have Pz := KP17.out.lt
    obtain ⟨Wa, Wb, Wc, Wd⟩ := KW17.out.four
    have Wz := KW17.out.lt
    obtain ⟨Va, Vb, Vc, Vd⟩ := KV17.out.four
    have Vz := KV17.out.lt
    obtain ⟨Ba, Bb, Bc, Bd⟩ := KB17.out.four
    have Bz := KB17.out.lt
    obtain ⟨Ha, Hb, Hc, Hd⟩ := KH17.out.four
    have Hz := KH17.out.lt
    obtain ⟨Ga, Gb, Gc, Gd⟩ := KG17.out.four
    have Gz := KG17.out.lt
    obtain ⟨Xa, Xb, Xc, Xd⟩ := KX17.out.four
    have Xz := KX17.out.lt
    go_wp2_with fail
    obtain ⟨w18, hw18⟩ : ∃ zz : World, zz = w17.alloc (.cells #[.int .i64 x6, .int .i64 y6, .int .i64 u6, .int .i64 v6] 52) := ⟨_, rfl⟩
    rw [← hw18]
    have KP18 : Hid (Box w18 w1.heap.size 30 #[.int .i64 W, .int .i64 H, .slice A zs.length c]) := hid (by rw [hw18]; exact Box.alloc KP17.out _)
    have KW18 : Hid (Box w18 (w1.heap.size + 1) 52 #[.int .i64 x0, .int .i64 y0, .int .i64 u1, .int .i64 v1]) := hid (by rw [hw18]; exact Box.alloc KW17.out _)
    have KV18 : Hid (Box w18 bk4 52 #[.int .i64 x1, .int .i64 y1, .int .i64 u1, .int .i64 v1]) := hid (by rw [hw18]; exact Box.alloc KV17.out _)
    have KB18 : Hid (Box w18 bk6 52 #[.int .i64 x2, .int .i64 y2, .int .i64 u2, .int .i64 v2]) := hid (by rw [hw18]; exact Box.alloc KB17.out _)
    have KH18 : Hid (Box w18 bk8 52 #[.int .i64 x3, .int .i64 y3, .int .i64 u3, .int .i64 v3]) := hid (by rw [hw18]; exact Box.alloc KH17.out _)
    have KG18 : Hid (Box w18 bk13 52 #[.int .i64 x3, .int .i64 y3, .int .i64 u3, .int .i64 v3]) := hid (by rw [hw18]; exact Box.alloc KG17.out _)
    have KX18 : Hid (Box w18 bk15 52 #[.int .i64 x4, .int .i64 y4, .int .i64 u4, .int .i64 v4]) := hid (by rw [hw18]; exact Box.alloc KX17.out _)
    have HO18 : Hid (OwnI w18 w.heap.size (.slice A zs.length c) zs) := hid (by rw [hw18]; exact HO17.out.alloc _)
    have HB18 : Hid (Below w.heap.size w w18) := hid (by rw [hw18]; exact bal HB17.out _)
    have KY18 : Hid (Box w18 w17.heap.size 52 #[.int .i64 x6, .int .i64 y6, .int .i64 u6, .int .i64 v6]) := hid (by rw [hw18]; exact Box.new _ _ _)
    obtain ⟨bk18, hbk18⟩ : ∃ b, b = w17.heap.size := ⟨_, rfl⟩
    rw [← hbk18] at KY18 ⊢
    clear Pa Pb Pc Pz Wa Wb Wc Wd Wz Va Vb Vc Vd Vz Ba Bb Bc Bd Bz Ha Hb Hc Hd Hz Ga Gb Gc Gd Gz Xa Xb Xc Xd Xz
    clear hw18 hbk18 KP17 KW17 KV17 KB17 KH17 KG17 KX17 HO17 HB17
    obtain ⟨Pa, Pb, Pc⟩ := KP18.out.three
    have Pz := KP18.out.lt
    obtain ⟨Wa, Wb, Wc, Wd⟩ := KW18.out.four
    have Wz := KW18.out.lt
    obtain ⟨Va, Vb, Vc, Vd⟩ := KV18.out.four
    have Vz := KV18.out.lt
    obtain ⟨Ba, Bb, Bc, Bd⟩ := KB18.out.four
    have Bz := KB18.out.lt
    obtain ⟨Ha, Hb, Hc, Hd⟩ := KH18.out.four
    have Hz := KH18.out.lt
    obtain ⟨Ga, Gb, Gc, Gd⟩ := KG18.out.four
    have Gz := KG18.out.lt
    obtain ⟨Xa, Xb, Xc, Xd⟩ := KX18.out.four
    have Xz := KX18.out.lt
    obtain ⟨Ya, Yb, Yc, Yd⟩ := KY18.out.four
    have Yz := KY18.out.lt
    refine (implWalkSteps_any W H A c zs x0 y0 u1 v1 (na + nb) _ (OwnI.ints HO18.out) hlz (wf64 (by omega) (by omega)) (wf64 (by omega) (by omega)) (wf64 (by omega) (by omega)) (wf64 (by omega) (by omega)) (wf64 (by omega) (by omega))).mono ?_
    rintro e w19 ⟨he, hb19⟩
    rw [HW6.out.1, HW6.out.2.1, HW6.out.2.2.1, HW6.out.2.2.2.1, HW6.out.2.2.2.2] at he
    subst he
    clear Pa Pb Pc Pz Wa Wb Wc Wd Wz Va Vb Vc Vd Vz Ba Bb Bc Bd Bz Ha Hb Hc Hd Hz Ga Gb Gc Gd Gz Xa Xb Xc Xd Xz Ya Yb Yc Yd Yz
    have KP19 : Hid (Box w19 w1.heap.size 30 #[.int .i64 W, .int .i64 H, .slice A zs.length c]) := hid (Box.keep KP18.out hb19)
    have KW19 : Hid (Box w19 (w1.heap.size + 1) 52 #[.int .i64 x0, .int .i64 y0, .int .i64 u1, .int .i64 v1]) := hid (Box.keep KW18.out hb19)
    have KV19 : Hid (Box w19 bk4 52 #[.int .i64 x1, .int .i64 y1, .int .i64 u1, .int .i64 v1]) := hid (Box.keep KV18.out hb19)
    have KB19 : Hid (Box w19 bk6 52 #[.int .i64 x2, .int .i64 y2, .int .i64 u2, .int .i64 v2]) := hid (Box.keep KB18.out hb19)
    have KH19 : Hid (Box w19 bk8 52 #[.int .i64 x3, .int .i64 y3, .int .i64 u3, .int .i64 v3]) := hid (Box.keep KH18.out hb19)
    have KG19 : Hid (Box w19 bk13 52 #[.int .i64 x3, .int .i64 y3, .int .i64 u3, .int .i64 v3]) := hid (Box.keep KG18.out hb19)
    have KX19 : Hid (Box w19 bk15 52 #[.int .i64 x4, .int .i64 y4, .int .i64 u4, .int .i64 v4]) := hid (Box.keep KX18.out hb19)
    have KY19 : Hid (Box w19 bk18 52 #[.int .i64 x6, .int .i64 y6, .int .i64 u6, .int .i64 v6]) := hid (Box.keep KY18.out hb19)
    have HO19 : Hid (OwnI w19 w.heap.size (.slice A zs.length c) zs) := hid (OwnI.keep HO18.out hb19)
    have HB19 : Hid (Below w.heap.size w w19) := hid (bbl HB18.out hb19)
    clear hb19 KP18 KW18 KV18 KB18 KH18 KG18 KX18 KY18 HO18 HB18
    obtain ⟨Pa, Pb, Pc⟩ := KP19.out.three
    have Pz := KP19.out.lt
    obtain ⟨Wa, Wb, Wc, Wd⟩ := KW19.out.four
    have Wz := KW19.out.lt
    obtain ⟨Va, Vb, Vc, Vd⟩ := KV19.out.four
    have Vz := KV19.out.lt
    obtain ⟨Ba, Bb, Bc, Bd⟩ := KB19.out.four
    have Bz := KB19.out.lt
    obtain ⟨Ha, Hb, Hc, Hd⟩ := KH19.out.four
    have Hz := KH19.out.lt
    obtain ⟨Ga, Gb, Gc, Gd⟩ := KG19.out.four
    have Gz := KG19.out.lt
    obtain ⟨Xa, Xb, Xc, Xd⟩ := KX19.out.four
    have Xz := KX19.out.lt
    obtain ⟨Ya, Yb, Yc, Yd⟩ := KY19.out.four
    have Yz := KY19.out.lt
    go_wp2_with fail
    go_ret
    exact ⟨rfl, bal HB19.out _⟩
  · have hvv : (!(v1 != v0)) = false := by simp [hne]
    have hne' : ¬ (v1 = v0) := hne
    refine (implStepWalker_any W H A c zs x2 y2 u2 v2  _ (OwnI.ints HO11.out) hlz (wf64 (by omega) (by omega)) (wf64 (by omega) (by omega)) (wf64 (by omega) (by omega)) (wf64 (by omega) (by omega)) ).mono ?_
    rintro e w12 ⟨he, hb12⟩
    rw [HAG.out.1, HAG.out.2.1, HAG.out.2.2.1, HAG.out.2.2.2.1, HAG.out.2.2.2.2] at he
    subst he
    clear Pa Pb Pc Pz Wa Wb Wc Wd Wz Va Vb Vc Vd Vz Ba Bb Bc Bd Bz Ha Hb Hc Hd Hz
    have KP12 : Hid (Box w12 w1.heap.size 30 #[.int .i64 W, .int .i64 H, .slice A zs.length c]) := hid (Box.keep KP11.out hb12)
    have KW12 : Hid (Box w12 (w1.heap.size + 1) 52 #[.int .i64 x0, .int .i64 y0, .int .i64 u1, .int .i64 v0]) := hid (Box.keep KW11.out hb12)
    have KV12 : Hid (Box w12 bk4 52 #[.int .i64 x1, .int .i64 y1, .int .i64 u1, .int .i64 v1]) := hid (Box.keep KV11.out hb12)
    have KB12 : Hid (Box w12 bk6 52 #[.int .i64 x2, .int .i64 y2, .int .i64 u2, .int .i64 v2]) := hid (Box.keep KB11.out hb12)
    have KH12 : Hid (Box w12 bk8 52 #[.int .i64 x3, .int .i64 y3, .int .i64 u3, .int .i64 v3]) := hid (Box.keep KH11.out hb12)
    have HO12 : Hid (OwnI w12 w.heap.size (.slice A zs.length c) zs) := hid (OwnI.keep HO11.out hb12)
    have HB12 : Hid (Below w.heap.size w w12) := hid (bbl HB11.out hb12)
    clear hb12 KP11 KW11 KV11 KB11 KH11 HO11 HB11
    obtain ⟨Pa, Pb, Pc⟩ := KP12.out.three
    have Pz := KP12.out.lt
    obtain ⟨Wa, Wb, Wc, Wd⟩ := KW12.out.four
    have Wz := KW12.out.lt
    obtain ⟨Va, Vb, Vc, Vd⟩ := KV12.out.four
    have Vz := KV12.out.lt
    obtain ⟨Ba, Bb, Bc, Bd⟩ := KB12.out.four
    have Bz := KB12.out.lt
    obtain ⟨Ha, Hb, Hc, Hd⟩ := KH12.out.four
    have Hz := KH12.out.lt
    go_wp2_with fail
    obtain ⟨w13, hw13⟩ : ∃ zz : World, zz = w12.alloc (.cells #[.int .i64 x3, .int .i64 y3, .int .i64 u3, .int .i64 v3] 52) := ⟨_, rfl⟩
    rw [← hw13]
    have KP13 : Hid (Box w13 w1.heap.size 30 #[.int .i64 W, .int .i64 H, .slice A zs.length c]) := hid (by rw [hw13]; exact Box.alloc KP12.out _)
    have KW13 : Hid (Box w13 (w1.heap.size + 1) 52 #[.int .i64 x0, .int .i64 y0, .int .i64 u1, .int .i64 v0]) := hid (by rw [hw13]; exact Box.alloc KW12.out _)
    have KV13 : Hid (Box w13 bk4 52 #[.int .i64 x1, .int .i64 y1, .int .i64 u1, .int .i64 v1]) := hid (by rw [hw13]; exact Box.alloc KV12.out _)
    have KB13 : Hid (Box w13 bk6 52 #[.int .i64 x2, .int .i64 y2, .int .i64 u2, .int .i64 v2]) := hid (by rw [hw13]; exact Box.alloc KB12.out _)
    have KH13 : Hid (Box w13 bk8 52 #[.int .i64 x3, .int .i64 y3, .int .i64 u3, .int .i64 v3]) := hid (by rw [hw13]; exact Box.alloc KH12.out _)
    have HO13 : Hid (OwnI w13 w.heap.size (.slice A zs.length c) zs) := hid (by rw [hw13]; exact HO12.out.alloc _)
    have HB13 : Hid (Below w.heap.size w w13) := hid (by rw [hw13]; exact bal HB12.out _)
    have KG13 : Hid (Box w13 w12.heap.size 52 #[.int .i64 x3, .int .i64 y3, .int .i64 u3, .int .i64 v3]) := hid (by rw [hw13]; exact Box.new _ _ _)
    obtain ⟨bk13, hbk13⟩ : ∃ b, b = w12.heap.size := ⟨_, rfl⟩
    rw [← hbk13] at KG13 ⊢
    clear Pa Pb Pc Pz Wa Wb Wc Wd Wz Va Vb Vc Vd Vz Ba Bb Bc Bd Bz Ha Hb Hc Hd Hz
    clear hw13 hbk13 KP12 KW12 KV12 KB12 KH12 HO12 HB12
    obtain ⟨Pa, Pb, Pc⟩ := KP13.out.three
    have Pz := KP13.out.lt
    obtain ⟨Wa, Wb, Wc, Wd⟩ := KW13.out.four
    have Wz := KW13.out.lt
    obtain ⟨Va, Vb, Vc, Vd⟩ := KV13.out.four
    have Vz := KV13.out.lt
    obtain ⟨Ba, Bb, Bc, Bd⟩ := KB13.out.four
    have Bz := KB13.out.lt
    obtain ⟨Ha, Hb, Hc, Hd⟩ := KH13.out.four
    have Hz := KH13.out.lt
    obtain ⟨Ga, Gb, Gc, Gd⟩ := KG13.out.four
    have Gz := KG13.out.lt
    refine (a2At_any A1 n1 c1 w.heap.size bs1 0 30 _ HN1.out (HZ1.out.below HB13.out) (by omega) (by omega) (by omega) (by omega)).mono ?_
    rintro e w' ⟨⟨na, ⟨na1, na2⟩, rfl⟩, rfl⟩
    go_wp2_with fail
    refine (a2At_any A1 n1 c1 w.heap.size bs1 1 30 _ HN1.out (HZ1.out.below HB13.out) (by omega) (by omega) (by omega) (by omega)).mono ?_
    rintro e w' ⟨⟨nb, ⟨nb1, nb2⟩, rfl⟩, rfl⟩
    go_wp2_with fail
    obtain ⟨x4, y4, u4, v4, ⟨f1, f2, f3, f4, f5, f6, f7, f8⟩, hok4, hit4, hv4, hws4⟩ := wlk_facts HV.out HOK.out na1 (by omega)
    obtain ⟨x5, y5, u5, v5, ⟨g1, g2, g3, g4, g5, g6, g7, g8⟩, hok5, hit5, hv5, hws5⟩ := wlk_facts HV.out hok4 nb1 (by omega)
    have hab : IntKind.i64.wrap (na + nb) = na + nb := IntWalk.i64_in _ (by omega)
    obtain ⟨x6, y6, u6, v6, ⟨e1, e2, e3, e4, e5, e6, e7, e8⟩, hok6, hit6, hv6, hws6⟩ := wlk_facts (a := na + nb) HV.out HOK.out (by omega) (by omega)
    have hE : (x6, y6, u6, v6) = (x5, y5, u5, v5) := by rw [← hit6, ← hit5, ← hit4, ← it_add, show (na + nb).toNat = nb.toNat + na.toNat by omega]
    simp only [Prod.mk.injEq] at hE
    obtain ⟨rfl, rfl, rfl, rfl⟩ := hE
    have HW4 := hid hws4
    have HV4 := hid hv4
    have HW5 := hid hws5
    have HW6 := hid hws6
    clear hok4 hok5 hok6 hit4 hit5 hit6 hv4 hv5 hv6 hws4 hws5 hws6
    refine (implWalkSteps_any W H A c zs x0 y0 u1 v0 na _ (OwnI.ints HO13.out) hlz (wf64 (by omega) (by omega)) (wf64 (by omega) (by omega)) (wf64 (by omega) (by omega)) (wf64 (by omega) (by omega)) (wf64 (by omega) (by omega))).mono ?_
    rintro e w14 ⟨he, hb14⟩
    rw [HW4.out.1, HW4.out.2.1, HW4.out.2.2.1, HW4.out.2.2.2.1, HW4.out.2.2.2.2] at he
    subst he
    clear Pa Pb Pc Pz Wa Wb Wc Wd Wz Va Vb Vc Vd Vz Ba Bb Bc Bd Bz Ha Hb Hc Hd Hz Ga Gb Gc Gd Gz
    have KP14 : Hid (Box w14 w1.heap.size 30 #[.int .i64 W, .int .i64 H, .slice A zs.length c]) := hid (Box.keep KP13.out hb14)
    have KW14 : Hid (Box w14 (w1.heap.size + 1) 52 #[.int .i64 x0, .int .i64 y0, .int .i64 u1, .int .i64 v0]) := hid (Box.keep KW13.out hb14)
    have KV14 : Hid (Box w14 bk4 52 #[.int .i64 x1, .int .i64 y1, .int .i64 u1, .int .i64 v1]) := hid (Box.keep KV13.out hb14)
    have KB14 : Hid (Box w14 bk6 52 #[.int .i64 x2, .int .i64 y2, .int .i64 u2, .int .i64 v2]) := hid (Box.keep KB13.out hb14)
    have KH14 : Hid (Box w14 bk8 52 #[.int .i64 x3, .int .i64 y3, .int .i64 u3, .int .i64 v3]) := hid (Box.keep KH13.out hb14)
    have KG14 : Hid (Box w14 bk13 52 #[.int .i64 x3, .int .i64 y3, .int .i64 u3, .int .i64 v3]) := hid (Box.keep KG13.out hb14)
    have HO14 : Hid (OwnI w14 w.heap.size (.slice A zs.length c) zs) := hid (OwnI.keep HO13.out hb14)
    have HB14 : Hid (Below w.heap.size w w14) := hid (bbl HB13.out hb14)
    clear hb14 KP13 KW13 KV13 KB13 KH13 KG13 HO13 HB13
    obtain ⟨Pa, Pb, Pc⟩ := KP14.out.three
    have Pz := KP14.out.lt
    obtain ⟨Wa, Wb, Wc, Wd⟩ := KW14.out.four
    have Wz := KW14.out.lt
    obtain ⟨Va, Vb, Vc, Vd⟩ := KV14.out.four
    have Vz := KV14.out.lt
    obtain ⟨Ba, Bb, Bc, Bd⟩ := KB14.out.four
    have Bz := KB14.out.lt
    obtain ⟨Ha, Hb, Hc, Hd⟩ := KH14.out.four
    have Hz := KH14.out.lt
    obtain ⟨Ga, Gb, Gc, Gd⟩ := KG14.out.four
    have Gz := KG14.out.lt
    go_wp2_with fail
    obtain ⟨w15, hw15⟩ : ∃ zz : World, zz = w14.alloc (.cells #[.int .i64 x4, .int .i64 y4, .int .i64 u4, .int .i64 v4] 52) := ⟨_, rfl⟩
    rw [← hw15]
    have KP15 : Hid (Box w15 w1.heap.size 30 #[.int .i64 W, .int .i64 H, .slice A zs.length c]) := hid (by rw [hw15]; exact Box.alloc KP14.out _)
    have KW15 : Hid (Box w15 (w1.heap.size + 1) 52 #[.int .i64 x0, .int .i64 y0, .int .i64 u1, .int .i64 v0]) := hid (by rw [hw15]; exact Box.alloc KW14.out _)
    have KV15 : Hid (Box w15 bk4 52 #[.int .i64 x1, .int .i64 y1, .int .i64 u1, .int .i64 v1]) := hid (by rw [hw15]; exact Box.alloc KV14.out _)
    have KB15 : Hid (Box w15 bk6 52 #[.int .i64 x2, .int .i64 y2, .int .i64 u2, .int .i64 v2]) := hid (by rw [hw15]; exact Box.alloc KB14.out _)
    have KH15 : Hid (Box w15 bk8 52 #[.int .i64 x3, .int .i64 y3, .int .i64 u3, .int .i64 v3]) := hid (by rw [hw15]; exact Box.alloc KH14.out _)
    have KG15 : Hid (Box w15 bk13 52 #[.int .i64 x3, .int .i64 y3, .int .i64 u3, .int .i64 v3]) := hid (by rw [hw15]; exact Box.alloc KG14.out _)
    have HO15 : Hid (OwnI w15 w.heap.size (.slice A zs.length c) zs) := hid (by rw [hw15]; exact HO14.out.alloc _)
    have HB15 : Hid (Below w.heap.size w w15) := hid (by rw [hw15]; exact bal HB14.out _)
    have KX15 : Hid (Box w15 w14.heap.size 52 #[.int .i64 x4, .int .i64 y4, .int .i64 u4, .int .i64 v4]) := hid (by rw [hw15]; exact Box.new _ _ _)
    obtain ⟨bk15, hbk15⟩ : ∃ b, b = w14.heap.size := ⟨_, rfl⟩
    rw [← hbk15] at KX15 ⊢
    clear Pa Pb Pc Pz Wa Wb Wc Wd Wz Va Vb Vc Vd Vz Ba Bb Bc Bd Bz Ha Hb Hc Hd Hz Ga Gb Gc Gd Gz
    clear hw15 hbk15 KP14 KW14 KV14 KB14 KH14 KG14 HO14 HB14
    obtain ⟨Pa, Pb, Pc⟩ := KP15.out.three
    have Pz := KP15.out.lt
    obtain ⟨Wa, Wb, Wc, Wd⟩ := KW15.out.four
    have Wz := KW15.out.lt
    obtain ⟨Va, Vb, Vc, Vd⟩ := KV15.out.four
    have Vz := KV15.out.lt
    obtain ⟨Ba, Bb, Bc, Bd⟩ := KB15.out.four
    have Bz := KB15.out.lt
    obtain ⟨Ha, Hb, Hc, Hd⟩ := KH15.out.four
    have Hz := KH15.out.lt
    obtain ⟨Ga, Gb, Gc, Gd⟩ := KG15.out.four
    have Gz := KG15.out.lt
    obtain ⟨Xa, Xb, Xc, Xd⟩ := KX15.out.four
    have Xz := KX15.out.lt
    refine (calls_bool (specValidWalker_any W H A c zs x4 y4 u4 v4  _ (OwnI.ints HO15.out) hlz (wf64 (by omega) (by omega)) (wf64 (by omega) (by omega)) (wf64 (by omega) (by omega)) (wf64 (by omega) (by omega)) ) HV4.out).mono ?_
    rintro e w16 ⟨he, hb16⟩
    subst he
    clear Pa Pb Pc Pz Wa Wb Wc Wd Wz Va Vb Vc Vd Vz Ba Bb Bc Bd Bz Ha Hb Hc Hd Hz Ga Gb Gc Gd Gz Xa Xb Xc Xd Xz
    have KP16 : Hid (Box w16 w1.heap.size 30 #[.int .i64 W, .int .i64 H, .slice A zs.length c]) := hid (Box.keep KP15.out hb16)
    have KW16 : Hid (Box w16 (w1.heap.size + 1) 52 #[.int .i64 x0, .int .i64 y0, .int .i64 u1, .int .i64 v0]) := hid (Box.keep KW15.out hb16)
    have KV16 : Hid (Box w16 bk4 52 #[.int .i64 x1, .int .i64 y1, .int .i64 u1, .int .i64 v1]) := hid (Box.keep KV15.out hb16)
    have KB16 : Hid (Box w16 bk6 52 #[.int .i64 x2, .int .i64 y2, .int .i64 u2, .int .i64 v2]) := hid (Box.keep KB15.out hb16)
    have KH16 : Hid (Box w16 bk8 52 #[.int .i64 x3, .int .i64 y3, .int .i64 u3, .int .i64 v3]) := hid (Box.keep KH15.out hb16)
    have KG16 : Hid (Box w16 bk13 52 #[.int .i64 x3, .int .i64 y3, .int .i64 u3, .int .i64 v3]) := hid (Box.keep KG15.out hb16)
    have KX16 : Hid (Box w16 bk15 52 #[.int .i64 x4, .int .i64 y4, .int .i64 u4, .int .i64 v4]) := hid (Box.keep KX15.out hb16)
    have HO16 : Hid (OwnI w16 w.heap.size (.slice A zs.length c) zs) := hid (OwnI.keep HO15.out hb16)
    have HB16 : Hid (Below w.heap.size w w16) := hid (bbl HB15.out hb16)
    clear hb16 KP15 KW15 KV15 KB15 KH15 KG15 KX15 HO15 HB15
    obtain ⟨Pa, Pb, Pc⟩ := KP16.out.three
    have Pz := KP16.out.lt
    obtain ⟨Wa, Wb, Wc, Wd⟩ := KW16.out.four
    have Wz := KW16.out.lt
    obtain ⟨Va, Vb, Vc, Vd⟩ := KV16.out.four
    have Vz := KV16.out.lt
    obtain ⟨Ba, Bb, Bc, Bd⟩ := KB16.out.four
    have Bz := KB16.out.lt
    obtain ⟨Ha, Hb, Hc, Hd⟩ := KH16.out.four
    have Hz := KH16.out.lt
    obtain ⟨Ga, Gb, Gc, Gd⟩ := KG16.out.four
    have Gz := KG16.out.lt
    obtain ⟨Xa, Xb, Xc, Xd⟩ := KX16.out.four
    have Xz := KX16.out.lt
    go_wp2_with fail
    refine (implWalkSteps_any W H A c zs x4 y4 u4 v4 nb _ (OwnI.ints HO16.out) hlz (wf64 (by omega) (by omega)) (wf64 (by omega) (by omega)) (wf64 (by omega) (by omega)) (wf64 (by omega) (by omega)) (wf64 (by omega) (by omega))).mono ?_
    rintro e w17 ⟨he, hb17⟩
    rw [HW5.out.1, HW5.out.2.1, HW5.out.2.2.1, HW5.out.2.2.2.1, HW5.out.2.2.2.2] at he
    subst he
    clear Pa Pb Pc Pz Wa Wb Wc Wd Wz Va Vb Vc Vd Vz Ba Bb Bc Bd Bz Ha Hb Hc Hd Hz Ga Gb Gc Gd Gz Xa Xb Xc Xd Xz
    have KP17 : Hid (Box w17 w1.heap.size 30 #[.int .i64 W, .int .i64 H, .slice A zs.length c]) := hid (Box.keep KP16.out hb17)
    have KW17 : Hid (Box w17 (w1.heap.size + 1) 52 #[.int .i64 x0, .int .i64 y0, .int .i64 u1, .int .i64 v0]) := hid (Box.keep KW16.out hb17)
    have KV17 : Hid (Box w17 bk4 52 #[.int .i64 x1, .int .i64 y1, .int .i64 u1, .int .i64 v1]) := hid (Box.keep KV16.out hb17)
    have KB17 : Hid (Box w17 bk6 52 #[.int .i64 x2, .int .i64 y2, .int .i64 u2, .int .i64 v2]) := hid (Box.keep KB16.out hb17)
    have KH17 : Hid (Box w17 bk8 52 #[.int .i64 x3, .int .i64 y3, .int .i64 u3, .int .i64 v3]) := hid (Box.keep KH16.out hb17)
    have KG17 : Hid (Box w17 bk13 52 #[.int .i64 x3, .int .i64 y3, .int .i64 u3, .int .i64 v3]) := hid (Box.keep KG16.out hb17)
    have KX17 : Hid (Box w17 bk15 52 #[.int .i64 x4, .int .i64 y4, .int .i64 u4, .int .i64 v4]) := hid (Box.keep KX16.out hb17)
    have HO17 : Hid (OwnI w17 w.heap.size (.slice A zs.length c) zs) := hid (OwnI.keep HO16.out hb17)
    have HB17 : Hid (Below w.heap.size w w17) := hid (bbl HB16.out hb17)
    clear hb17 KP16 KW16 KV16 KB16 KH16 KG16 KX16 HO16 HB16
    obtain ⟨Pa, Pb, Pc⟩ := KP17.out.three
    have Pz := KP17.out.lt
    obtain ⟨Wa, Wb, Wc, Wd⟩ := KW17.out.four
    have Wz := KW17.out.lt
    obtain ⟨Va, Vb, Vc, Vd⟩ := KV17.out.four
    have Vz := KV17.out.lt
    obtain ⟨Ba, Bb, Bc, Bd⟩ := KB17.out.four
    have Bz := KB17.out.lt
    obtain ⟨Ha, Hb, Hc, Hd⟩ := KH17.out.four
    have Hz := KH17.out.lt
    obtain ⟨Ga, Gb, Gc, Gd⟩ := KG17.out.four
    have Gz := KG17.out.lt
    obtain ⟨Xa, Xb, Xc, Xd⟩ := KX17.out.four
    have Xz := KX17.out.lt
    go_wp2_with fail
    obtain ⟨w18, hw18⟩ : ∃ zz : World, zz = w17.alloc (.cells #[.int .i64 x6, .int .i64 y6, .int .i64 u6, .int .i64 v6] 52) := ⟨_, rfl⟩
    rw [← hw18]
    have KP18 : Hid (Box w18 w1.heap.size 30 #[.int .i64 W, .int .i64 H, .slice A zs.length c]) := hid (by rw [hw18]; exact Box.alloc KP17.out _)
    have KW18 : Hid (Box w18 (w1.heap.size + 1) 52 #[.int .i64 x0, .int .i64 y0, .int .i64 u1, .int .i64 v0]) := hid (by rw [hw18]; exact Box.alloc KW17.out _)
    have KV18 : Hid (Box w18 bk4 52 #[.int .i64 x1, .int .i64 y1, .int .i64 u1, .int .i64 v1]) := hid (by rw [hw18]; exact Box.alloc KV17.out _)
    have KB18 : Hid (Box w18 bk6 52 #[.int .i64 x2, .int .i64 y2, .int .i64 u2, .int .i64 v2]) := hid (by rw [hw18]; exact Box.alloc KB17.out _)
    have KH18 : Hid (Box w18 bk8 52 #[.int .i64 x3, .int .i64 y3, .int .i64 u3, .int .i64 v3]) := hid (by rw [hw18]; exact Box.alloc KH17.out _)
    have KG18 : Hid (Box w18 bk13 52 #[.int .i64 x3, .int .i64 y3, .int .i64 u3, .int .i64 v3]) := hid (by rw [hw18]; exact Box.alloc KG17.out _)
    have KX18 : Hid (Box w18 bk15 52 #[.int .i64 x4, .int .i64 y4, .int .i64 u4, .int .i64 v4]) := hid (by rw [hw18]; exact Box.alloc KX17.out _)
    have HO18 : Hid (OwnI w18 w.heap.size (.slice A zs.length c) zs) := hid (by rw [hw18]; exact HO17.out.alloc _)
    have HB18 : Hid (Below w.heap.size w w18) := hid (by rw [hw18]; exact bal HB17.out _)
    have KY18 : Hid (Box w18 w17.heap.size 52 #[.int .i64 x6, .int .i64 y6, .int .i64 u6, .int .i64 v6]) := hid (by rw [hw18]; exact Box.new _ _ _)
    obtain ⟨bk18, hbk18⟩ : ∃ b, b = w17.heap.size := ⟨_, rfl⟩
    rw [← hbk18] at KY18 ⊢
    clear Pa Pb Pc Pz Wa Wb Wc Wd Wz Va Vb Vc Vd Vz Ba Bb Bc Bd Bz Ha Hb Hc Hd Hz Ga Gb Gc Gd Gz Xa Xb Xc Xd Xz
    clear hw18 hbk18 KP17 KW17 KV17 KB17 KH17 KG17 KX17 HO17 HB17
    obtain ⟨Pa, Pb, Pc⟩ := KP18.out.three
    have Pz := KP18.out.lt
    obtain ⟨Wa, Wb, Wc, Wd⟩ := KW18.out.four
    have Wz := KW18.out.lt
    obtain ⟨Va, Vb, Vc, Vd⟩ := KV18.out.four
    have Vz := KV18.out.lt
    obtain ⟨Ba, Bb, Bc, Bd⟩ := KB18.out.four
    have Bz := KB18.out.lt
    obtain ⟨Ha, Hb, Hc, Hd⟩ := KH18.out.four
    have Hz := KH18.out.lt
    obtain ⟨Ga, Gb, Gc, Gd⟩ := KG18.out.four
    have Gz := KG18.out.lt
    obtain ⟨Xa, Xb, Xc, Xd⟩ := KX18.out.four
    have Xz := KX18.out.lt
    obtain ⟨Ya, Yb, Yc, Yd⟩ := KY18.out.four
    have Yz := KY18.out.lt
    refine (implWalkSteps_any W H A c zs x0 y0 u1 v0 (na + nb) _ (OwnI.ints HO18.out) hlz (wf64 (by omega) (by omega)) (wf64 (by omega) (by omega)) (wf64 (by omega) (by omega)) (wf64 (by omega) (by omega)) (wf64 (by omega) (by omega))).mono ?_
    rintro e w19 ⟨he, hb19⟩
    rw [HW6.out.1, HW6.out.2.1, HW6.out.2.2.1, HW6.out.2.2.2.1, HW6.out.2.2.2.2] at he
    subst he
    clear Pa Pb Pc Pz Wa Wb Wc Wd Wz Va Vb Vc Vd Vz Ba Bb Bc Bd Bz Ha Hb Hc Hd Hz Ga Gb Gc Gd Gz Xa Xb Xc Xd Xz Ya Yb Yc Yd Yz
    have KP19 : Hid (Box w19 w1.heap.size 30 #[.int .i64 W, .int .i64 H, .slice A zs.length c]) := hid (Box.keep KP18.out hb19)
    have KW19 : Hid (Box w19 (w1.heap.size + 1) 52 #[.int .i64 x0, .int .i64 y0, .int .i64 u1, .int .i64 v0]) := hid (Box.keep KW18.out hb19)
    have KV19 : Hid (Box w19 bk4 52 #[.int .i64 x1, .int .i64 y1, .int .i64 u1, .int .i64 v1]) := hid (Box.keep KV18.out hb19)
    have KB19 : Hid (Box w19 bk6 52 #[.int .i64 x2, .int .i64 y2, .int .i64 u2, .int .i64 v2]) := hid (Box.keep KB18.out hb19)
    have KH19 : Hid (Box w19 bk8 52 #[.int .i64 x3, .int .i64 y3, .int .i64 u3, .int .i64 v3]) := hid (Box.keep KH18.out hb19)
    have KG19 : Hid (Box w19 bk13 52 #[.int .i64 x3, .int .i64 y3, .int .i64 u3, .int .i64 v3]) := hid (Box.keep KG18.out hb19)
    have KX19 : Hid (Box w19 bk15 52 #[.int .i64 x4, .int .i64 y4, .int .i64 u4, .int .i64 v4]) := hid (Box.keep KX18.out hb19)
    have KY19 : Hid (Box w19 bk18 52 #[.int .i64 x6, .int .i64 y6, .int .i64 u6, .int .i64 v6]) := hid (Box.keep KY18.out hb19)
    have HO19 : Hid (OwnI w19 w.heap.size (.slice A zs.length c) zs) := hid (OwnI.keep HO18.out hb19)
    have HB19 : Hid (Below w.heap.size w w19) := hid (bbl HB18.out hb19)
    clear hb19 KP18 KW18 KV18 KB18 KH18 KG18 KX18 KY18 HO18 HB18
    obtain ⟨Pa, Pb, Pc⟩ := KP19.out.three
    have Pz := KP19.out.lt
    obtain ⟨Wa, Wb, Wc, Wd⟩ := KW19.out.four
    have Wz := KW19.out.lt
    obtain ⟨Va, Vb, Vc, Vd⟩ := KV19.out.four
    have Vz := KV19.out.lt
    obtain ⟨Ba, Bb, Bc, Bd⟩ := KB19.out.four
    have Bz := KB19.out.lt
    obtain ⟨Ha, Hb, Hc, Hd⟩ := KH19.out.four
    have Hz := KH19.out.lt
    obtain ⟨Ga, Gb, Gc, Gd⟩ := KG19.out.four
    have Gz := KG19.out.lt
    obtain ⟨Xa, Xb, Xc, Xd⟩ := KX19.out.four
    have Xz := KX19.out.lt
    obtain ⟨Ya, Yb, Yc, Yd⟩ := KY19.out.four
    have Yz := KY19.out.lt
    go_wp2_with fail
    go_ret
    exact ⟨rfl, bal HB19.out _⟩
  · have hvv : (!true == (u1 != u0)) = false := by simp [hne]
    have hne' : ¬ (u1 = u0) := hne
    refine (implStepWalker_any W H A c zs x2 y2 u2 v2  _ (OwnI.ints HO11.out) hlz (wf64 (by omega) (by omega)) (wf64 (by omega) (by omega)) (wf64 (by omega) (by omega)) (wf64 (by omega) (by omega)) ).mono ?_
    rintro e w12 ⟨he, hb12⟩
    rw [HAG.out.1, HAG.out.2.1, HAG.out.2.2.1, HAG.out.2.2.2.1, HAG.out.2.2.2.2] at he
    subst he
    clear Pa Pb Pc Pz Wa Wb Wc Wd Wz Va Vb Vc Vd Vz Ba Bb Bc Bd Bz Ha Hb Hc Hd Hz
    have KP12 : Hid (Box w12 w1.heap.size 30 #[.int .i64 W, .int .i64 H, .slice A zs.length c]) := hid (Box.keep KP11.out hb12)
    have KW12 : Hid (Box w12 (w1.heap.size + 1) 52 #[.int .i64 x0, .int .i64 y0, .int .i64 u0, .int .i64 v0]) := hid (Box.keep KW11.out hb12)
    have KV12 : Hid (Box w12 bk4 52 #[.int .i64 x1, .int .i64 y1, .int .i64 u1, .int .i64 v1]) := hid (Box.keep KV11.out hb12)
    have KB12 : Hid (Box w12 bk6 52 #[.int .i64 x2, .int .i64 y2, .int .i64 u2, .int .i64 v2]) := hid (Box.keep KB11.out hb12)
    have KH12 : Hid (Box w12 bk8 52 #[.int .i64 x3, .int .i64 y3, .int .i64 u3, .int .i64 v3]) := hid (Box.keep KH11.out hb12)
    have HO12 : Hid (OwnI w12 w.heap.size (.slice A zs.length c) zs) := hid (OwnI.keep HO11.out hb12)
    have HB12 : Hid (Below w.heap.size w w12) := hid (bbl HB11.out hb12)
    clear hb12 KP11 KW11 KV11 KB11 KH11 HO11 HB11
    obtain ⟨Pa, Pb, Pc⟩ := KP12.out.three
    have Pz := KP12.out.lt
    obtain ⟨Wa, Wb, Wc, Wd⟩ := KW12.out.four
    have Wz := KW12.out.lt
    obtain ⟨Va, Vb, Vc, Vd⟩ := KV12.out.four
    have Vz := KV12.out.lt
    obtain ⟨Ba, Bb, Bc, Bd⟩ := KB12.out.four
    have Bz := KB12.out.lt
    obtain ⟨Ha, Hb, Hc, Hd⟩ := KH12.out.four
    have Hz := KH12.out.lt
    go_wp2_with fail
    obtain ⟨w13, hw13⟩ : ∃ zz : World, zz = w12.alloc (.cells #[.int .i64 x3, .int .i64 y3, .int .i64 u3, .int .i64 v3] 52) := ⟨_, rfl⟩
    rw [← hw13]
    have KP13 : Hid (Box w13 w1.heap.size 30 #[.int .i64 W, .int .i64 H, .slice A zs.length c]) := hid (by rw [hw13]; exact Box.alloc KP12.out _)
    have KW13 : Hid (Box w13 (w1.heap.size + 1) 52 #[.int .i64 x0, .int .i64 y0, .int .i64 u0, .int .i64 v0]) := hid (by rw [hw13]; exact Box.alloc KW12.out _)
    have KV13 : Hid (Box w13 bk4 52 #[.int .i64 x1, .int .i64 y1, .int .i64 u1, .int .i64 v1]) := hid (by rw [hw13]; exact Box.alloc KV12.out _)
    have KB13 : Hid (Box w13 bk6 52 #[.int .i64 x2, .int .i64 y2, .int .i64 u2, .int .i64 v2]) := hid (by rw [hw13]; exact Box.alloc KB12.out _)
    have KH13 : Hid (Box w13 bk8 52 #[.int .i64 x3, .int .i64 y3, .int .i64 u3, .int .i64 v3]) := hid (by rw [hw13]; exact Box.alloc KH12.out _)
    have HO13 : Hid (OwnI w13 w.heap.size (.slice A zs.length c) zs) := hid (by rw [hw13]; exact HO12.out.alloc _)
    have HB13 : Hid (Below w.heap.size w w13) := hid (by rw [hw13]; exact bal HB12.out _)
    have KG13 : Hid (Box w13 w12.heap.size 52 #[.int .i64 x3, .int .i64 y3, .int .i64 u3, .int .i64 v3]) := hid (by rw [hw13]; exact Box.new _ _ _)
    obtain ⟨bk13, hbk13⟩ : ∃ b, b = w12.heap.size := ⟨_, rfl⟩
    rw [← hbk13] at KG13 ⊢
    clear Pa Pb Pc Pz Wa Wb Wc Wd Wz Va Vb Vc Vd Vz Ba Bb Bc Bd Bz Ha Hb Hc Hd Hz
    clear hw13 hbk13 KP12 KW12 KV12 KB12 KH12 HO12 HB12
    obtain ⟨Pa, Pb, Pc⟩ := KP13.out.three
    have Pz := KP13.out.lt
    obtain ⟨Wa, Wb, Wc, Wd⟩ := KW13.out.four
    have Wz := KW13.out.lt
    obtain ⟨Va, Vb, Vc, Vd⟩ := KV13.out.four
    have Vz := KV13.out.lt
    obtain ⟨Ba, Bb, Bc, Bd⟩ := KB13.out.four
    have Bz := KB13.out.lt
    obtain ⟨Ha, Hb, Hc, Hd⟩ := KH13.out.four
    have Hz := KH13.out.lt
    obtain ⟨Ga, Gb, Gc, Gd⟩ := KG13.out.four
    have Gz := KG13.out.lt
    refine (a2At_any A1 n1 c1 w.heap.size bs1 0 30 _ HN1.out (HZ1.out.below HB13.out) (by omega) (by omega) (by omega) (by omega)).mono ?_
    rintro e w' ⟨⟨na, ⟨na1, na2⟩, rfl⟩, rfl⟩
    go_wp2_with fail
    refine (a2At_any A1 n1 c1 w.heap.size bs1 1 30 _ HN1.out (HZ1.out.below HB13.out) (by omega) (by omega) (by omega) (by omega)).mono ?_
    rintro e w' ⟨⟨nb, ⟨nb1, nb2⟩, rfl⟩, rfl⟩
    go_wp2_with fail
    obtain ⟨x4, y4, u4, v4, ⟨f1, f2, f3, f4, f5, f6, f7, f8⟩, hok4, hit4, hv4, hws4⟩ := wlk_facts HV.out HOK.out na1 (by omega)
    obtain ⟨x5, y5, u5, v5, ⟨g1, g2, g3, g4, g5, g6, g7, g8⟩, hok5, hit5, hv5, hws5⟩ := wlk_facts HV.out hok4 nb1 (by omega)
    have hab : IntKind.i64.wrap (na + nb) = na + nb := IntWalk.i64_in _ (by omega)
    obtain ⟨x6, y6, u6, v6, ⟨e1, e2, e3, e4, e5, e6, e7, e8⟩, hok6, hit6, hv6, hws6⟩ := wlk_facts (a := na + nb) HV.out HOK.out (by omega) (by omega)
    have hE : (x6, y6, u6, v6) = (x5, y5, u5, v5) := by rw [← hit6, ← hit5, ← hit4, ← it_add, show (na + nb).toNat = nb.toNat + na.toNat by omega]
    simp only [Prod.mk.injEq] at hE
    obtain ⟨rfl, rfl, rfl, rfl⟩ := hE
    have HW4 := hid hws4
    have HV4 := hid hv4
    have HW5 := hid hws5
    have HW6 := hid hws6
    clear hok4 hok5 hok6 hit4 hit5 hit6 hv4 hv5 hv6 hws4 hws5 hws6
    refine (implWalkSteps_any W H A c zs x0 y0 u0 v0 na _ (OwnI.ints HO13.out) hlz (wf64 (by omega) (by omega)) (wf64 (by omega) (by omega)) (wf64 (by omega) (by omega)) (wf64 (by omega) (by omega)) (wf64 (by omega) (by omega))).mono ?_
    rintro e w14 ⟨he, hb14⟩
    rw [HW4.out.1, HW4.out.2.1, HW4.out.2.2.1, HW4.out.2.2.2.1, HW4.out.2.2.2.2] at he
    subst he
    clear Pa Pb Pc Pz Wa Wb Wc Wd Wz Va Vb Vc Vd Vz Ba Bb Bc Bd Bz Ha Hb Hc Hd Hz Ga Gb Gc Gd Gz
    have KP14 : Hid (Box w14 w1.heap.size 30 #[.int .i64 W, .int .i64 H, .slice A zs.length c]) := hid (Box.keep KP13.out hb14)
    have KW14 : Hid (Box w14 (w1.heap.size + 1) 52 #[.int .i64 x0, .int .i64 y0, .int .i64 u0, .int .i64 v0]) := hid (Box.keep KW13.out hb14)
    have KV14 : Hid (Box w14 bk4 52 #[.int .i64 x1, .int .i64 y1, .int .i64 u1, .int .i64 v1]) := hid (Box.keep KV13.out hb14)
    have KB14 : Hid (Box w14 bk6 52 #[.int .i64 x2, .int .i64 y2, .int .i64 u2, .int .i64 v2]) := hid (Box.keep KB13.out hb14)
    have KH14 : Hid (Box w14 bk8 52 #[.int .i64 x3, .int .i64 y3, .int .i64 u3, .int .i64 v3]) := hid (Box.keep KH13.out hb14)
    have KG14 : Hid (Box w14 bk13 52 #[.int .i64 x3, .int .i64 y3, .int .i64 u3, .int .i64 v3]) := hid (Box.keep KG13.out hb14)
    have HO14 : Hid (OwnI w14 w.heap.size (.slice A zs.length c) zs) := hid (OwnI.keep HO13.out hb14)
    have HB14 : Hid (Below w.heap.size w w14) := hid (bbl HB13.out hb14)
    clear hb14 KP13 KW13 KV13 KB13 KH13 KG13 HO13 HB13
    obtain ⟨Pa, Pb, Pc⟩ := KP14.out.three
    have Pz := KP14.out.lt
    obtain ⟨Wa, Wb, Wc, Wd⟩ := KW14.out.four
    have Wz := KW14.out.lt
    obtain ⟨Va, Vb, Vc, Vd⟩ := KV14.out.four
    have Vz := KV14.out.lt
    obtain ⟨Ba, Bb, Bc, Bd⟩ := KB14.out.four
    have Bz := KB14.out.lt
    obtain ⟨Ha, Hb, Hc, Hd⟩ := KH14.out.four
    have Hz := KH14.out.lt
    obtain ⟨Ga, Gb, Gc, Gd⟩ := KG14.out.four
    have Gz := KG14.out.lt
    go_wp2_with fail
    obtain ⟨w15, hw15⟩ : ∃ zz : World, zz = w14.alloc (.cells #[.int .i64 x4, .int .i64 y4, .int .i64 u4, .int .i64 v4] 52) := ⟨_, rfl⟩
    rw [← hw15]
    have KP15 : Hid (Box w15 w1.heap.size 30 #[.int .i64 W, .int .i64 H, .slice A zs.length c]) := hid (by rw [hw15]; exact Box.alloc KP14.out _)
    have KW15 : Hid (Box w15 (w1.heap.size + 1) 52 #[.int .i64 x0, .int .i64 y0, .int .i64 u0, .int .i64 v0]) := hid (by rw [hw15]; exact Box.alloc KW14.out _)
    have KV15 : Hid (Box w15 bk4 52 #[.int .i64 x1, .int .i64 y1, .int .i64 u1, .int .i64 v1]) := hid (by rw [hw15]; exact Box.alloc KV14.out _)
    have KB15 : Hid (Box w15 bk6 52 #[.int .i64 x2, .int .i64 y2, .int .i64 u2, .int .i64 v2]) := hid (by rw [hw15]; exact Box.alloc KB14.out _)
    have KH15 : Hid (Box w15 bk8 52 #[.int .i64 x3, .int .i64 y3, .int .i64 u3, .int .i64 v3]) := hid (by rw [hw15]; exact Box.alloc KH14.out _)
    have KG15 : Hid (Box w15 bk13 52 #[.int .i64 x3, .int .i64 y3, .int .i64 u3, .int .i64 v3]) := hid (by rw [hw15]; exact Box.alloc KG14.out _)
    have HO15 : Hid (OwnI w15 w.heap.size (.slice A zs.length c) zs) := hid (by rw [hw15]; exact HO14.out.alloc _)
    have HB15 : Hid (Below w.heap.size w w15) := hid (by rw [hw15]; exact bal HB14.out _)
    have KX15 : Hid (Box w15 w14.heap.size 52 #[.int .i64 x4, .int .i64 y4, .int .i64 u4, .int .i64 v4]) := hid (by rw [hw15]; exact Box.new _ _ _)
    obtain ⟨bk15, hbk15⟩ : ∃ b, b = w14.heap.size := ⟨_, rfl⟩
    rw [← hbk15] at KX15 ⊢
    clear Pa Pb Pc Pz Wa Wb Wc Wd Wz Va Vb Vc Vd Vz Ba Bb Bc Bd Bz Ha Hb Hc Hd Hz Ga Gb Gc Gd Gz
    clear hw15 hbk15 KP14 KW14 KV14 KB14 KH14 KG14 HO14 HB14
    obtain ⟨Pa, Pb, Pc⟩ := KP15.out.three
    have Pz := KP15.out.lt
    obtain ⟨Wa, Wb, Wc, Wd⟩ := KW15.out.four
    have Wz := KW15.out.lt
    obtain ⟨Va, Vb, Vc, Vd⟩ := KV15.out.four
    have Vz := KV15.out.lt
    obtain ⟨Ba, Bb, Bc, Bd⟩ := KB15.out.four
    have Bz := KB15.out.lt
    obtain ⟨Ha, Hb, Hc, Hd⟩ := KH15.out.four
    have Hz := KH15.out.lt
    obtain ⟨Ga, Gb, Gc, Gd⟩ := KG15.out.four
    have Gz := KG15.out.lt
    obtain ⟨Xa, Xb, Xc, Xd⟩ := KX15.out.four
    have Xz := KX15.out.lt
    refine (calls_bool (specValidWalker_any W H A c zs x4 y4 u4 v4  _ (OwnI.ints HO15.out) hlz (wf64 (by omega) (by omega)) (wf64 (by omega) (by omega)) (wf64 (by omega) (by omega)) (wf64 (by omega) (by omega)) ) HV4.out).mono ?_
    rintro e w16 ⟨he, hb16⟩
    subst he
    clear Pa Pb Pc Pz Wa Wb Wc Wd Wz Va Vb Vc Vd Vz Ba Bb Bc Bd Bz Ha Hb Hc Hd Hz Ga Gb Gc Gd Gz Xa Xb Xc Xd Xz
    have KP16 : Hid (Box w16 w1.heap.size 30 #[.int .i64 W, .int .i64 H, .slice A zs.length c]) := hid (Box.keep KP15.out hb16)
    have KW16 : Hid (Box w16 (w1.heap.size + 1) 52 #[.int .i64 x0, .int .i64 y0, .int .i64 u0, .int .i64 v0]) := hid (Box.keep KW15.out hb16)
    have KV16 : Hid (Box w16 bk4 52 #[.int .i64 x1, .int .i64 y1, .int .i64 u1, .int .i64 v1]) := hid (Box.keep KV15.out hb16)
    have KB16 : Hid (Box w16 bk6 52 #[.int .i64 x2, .int .i64 y2, .int .i64 u2, .int .i64 v2]) := hid (Box.keep KB15.out hb16)
    have KH16 : Hid (Box w16 bk8 52 #[.int .i64 x3, .int .i64 y3, .int .i64 u3, .int .i64 v3]) := hid (Box.keep KH15.out hb16)
    have KG16 : Hid (Box w16 bk13 52 #[.int .i64 x3, .int .i64 y3, .int .i64 u3, .int .i64 v3]) := hid (Box.keep KG15.out hb16)
    have KX16 : Hid (Box w16 bk15 52 #[.int .i64 x4, .int .i64 y4, .int .i64 u4, .int .i64 v4]) := hid (Box.keep KX15.out hb16)
    have HO16 : Hid (OwnI w16 w.heap.size (.slice A zs.length c) zs) := hid (OwnI.keep HO15.out hb16)
    have HB16 : Hid (Below w.heap.size w w16) := hid (bbl HB15.out hb16)
    clear hb16 KP15 KW15 KV15 KB15 KH15 KG15 KX15 HO15 HB15
    obtain ⟨Pa, Pb, Pc⟩ := KP16.out.three
    have Pz := KP16.out.lt
    obtain ⟨Wa, Wb, Wc, Wd⟩ := KW16.out.four
    have Wz := KW16.out.lt
    obtain ⟨Va, Vb, Vc, Vd⟩ := KV16.out.four
    have Vz := KV16.out.lt
    obtain ⟨Ba, Bb, Bc, Bd⟩ := KB16.out.four
    have Bz := KB16.out.lt
    obtain ⟨Ha, Hb, Hc, Hd⟩ := KH16.out.four
    have Hz := KH16.out.lt
    obtain ⟨Ga, Gb, Gc, Gd⟩ := KG16.out.four
    have Gz := KG16.out.lt
    obtain ⟨Xa, Xb, Xc, Xd⟩ := KX16.out.four
    have Xz := KX16.out.lt
    go_wp2_with fail
    refine (implWalkSteps_any W H A c zs x4 y4 u4 v4 nb _ (OwnI.ints HO16.out) hlz (wf64 (by omega) (by omega)) (wf64 (by omega) (by omega)) (wf64 (by omega) (by omega)) (wf64 (by omega) (by omega)) (wf64 (by omega) (by omega))).mono ?_
    rintro e w17 ⟨he, hb17⟩
    rw [HW5.out.1, HW5.out.2.1, HW5.out.2.2.1, HW5.out.2.2.2.1, HW5.out.2.2.2.2] at he
    subst he
    clear Pa Pb Pc Pz Wa Wb Wc Wd Wz Va Vb Vc Vd Vz Ba Bb Bc Bd Bz Ha Hb Hc Hd Hz Ga Gb Gc Gd Gz Xa Xb Xc Xd Xz
    have KP17 : Hid (Box w17 w1.heap.size 30 #[.int .i64 W, .int .i64 H, .slice A zs.length c]) := hid (Box.keep KP16.out hb17)
    have KW17 : Hid (Box w17 (w1.heap.size + 1) 52 #[.int .i64 x0, .int .i64 y0, .int .i64 u0, .int .i64 v0]) := hid (Box.keep KW16.out hb17)
    have KV17 : Hid (Box w17 bk4 52 #[.int .i64 x1, .int .i64 y1, .int .i64 u1, .int .i64 v1]) := hid (Box.keep KV16.out hb17)
    have KB17 : Hid (Box w17 bk6 52 #[.int .i64 x2, .int .i64 y2, .int .i64 u2, .int .i64 v2]) := hid (Box.keep KB16.out hb17)
    have KH17 : Hid (Box w17 bk8 52 #[.int .i64 x3, .int .i64 y3, .int .i64 u3, .int .i64 v3]) := hid (Box.keep KH16.out hb17)
    have KG17 : Hid (Box w17 bk13 52 #[.int .i64 x3, .int .i64 y3, .int .i64 u3, .int .i64 v3]) := hid (Box.keep KG16.out hb17)
    have KX17 : Hid (Box w17 bk15 52 #[.int .i64 x4, .int .i64 y4, .int .i64 u4, .int .i64 v4]) := hid (Box.keep KX16.out hb17)
    have HO17 : Hid (OwnI w17 w.heap.size (.slice A zs.length c) zs) := hid (OwnI.keep HO16.out hb17)
    have HB17 : Hid (Below w.heap.size w w17) := hid (bbl HB16.out hb17)
    clear hb17 KP16 KW16 KV16 KB16 KH16 KG16 KX16 HO16 HB16
    obtain ⟨Pa, Pb, Pc⟩ := KP17.out.three
    have Pz := KP17.out.lt
    obtain ⟨Wa, Wb, Wc, Wd⟩ := KW17.out.four
    have Wz := KW17.out.lt
    obtain ⟨Va, Vb, Vc, Vd⟩ := KV17.out.four
    have Vz := KV17.out.lt
    obtain ⟨Ba, Bb, Bc, Bd⟩ := KB17.out.four
    have Bz := KB17.out.lt
    obtain ⟨Ha, Hb, Hc, Hd⟩ := KH17.out.four
    have Hz := KH17.out.lt
    obtain ⟨Ga, Gb, Gc, Gd⟩ := KG17.out.four
    have Gz := KG17.out.lt
    obtain ⟨Xa, Xb, Xc, Xd⟩ := KX17.out.four
    have Xz := KX17.out.lt
    go_wp2_with fail
    obtain ⟨w18, hw18⟩ : ∃ zz : World, zz = w17.alloc (.cells #[.int .i64 x6, .int .i64 y6, .int .i64 u6, .int .i64 v6] 52) := ⟨_, rfl⟩
    rw [← hw18]
    have KP18 : Hid (Box w18 w1.heap.size 30 #[.int .i64 W, .int .i64 H, .slice A zs.length c]) := hid (by rw [hw18]; exact Box.alloc KP17.out _)
    have KW18 : Hid (Box w18 (w1.heap.size + 1) 52 #[.int .i64 x0, .int .i64 y0, .int .i64 u0, .int .i64 v0]) := hid (by rw [hw18]; exact Box.alloc KW17.out _)
    have KV18 : Hid (Box w18 bk4 52 #[.int .i64 x1, .int .i64 y1, .int .i64 u1, .int .i64 v1]) := hid (by rw [hw18]; exact Box.alloc KV17.out _)
    have KB18 : Hid (Box w18 bk6 52 #[.int .i64 x2, .int .i64 y2, .int .i64 u2, .int .i64 v2]) := hid (by rw [hw18]; exact Box.alloc KB17.out _)
    have KH18 : Hid (Box w18 bk8 52 #[.int .i64 x3, .int .i64 y3, .int .i64 u3, .int .i64 v3]) := hid (by rw [hw18]; exact Box.alloc KH17.out _)
    have KG18 : Hid (Box w18 bk13 52 #[.int .i64 x3, .int .i64 y3, .int .i64 u3, .int .i64 v3]) := hid (by rw [hw18]; exact Box.alloc KG17.out _)
    have KX18 : Hid (Box w18 bk15 52 #[.int .i64 x4, .int .i64 y4, .int .i64 u4, .int .i64 v4]) := hid (by rw [hw18]; exact Box.alloc KX17.out _)
    have HO18 : Hid (OwnI w18 w.heap.size (.slice A zs.length c) zs) := hid (by rw [hw18]; exact HO17.out.alloc _)
    have HB18 : Hid (Below w.heap.size w w18) := hid (by rw [hw18]; exact bal HB17.out _)
    have KY18 : Hid (Box w18 w17.heap.size 52 #[.int .i64 x6, .int .i64 y6, .int .i64 u6, .int .i64 v6]) := hid (by rw [hw18]; exact Box.new _ _ _)
    obtain ⟨bk18, hbk18⟩ : ∃ b, b = w17.heap.size := ⟨_, rfl⟩
    rw [← hbk18] at KY18 ⊢
    clear Pa Pb Pc Pz Wa Wb Wc Wd Wz Va Vb Vc Vd Vz Ba Bb Bc Bd Bz Ha Hb Hc Hd Hz Ga Gb Gc Gd Gz Xa Xb Xc Xd Xz
    clear hw18 hbk18 KP17 KW17 KV17 KB17 KH17 KG17 KX17 HO17 HB17
    obtain ⟨Pa, Pb, Pc⟩ := KP18.out.three
    have Pz := KP18.out.lt
    obtain ⟨Wa, Wb, Wc, Wd⟩ := KW18.out.four
    have Wz := KW18.out.lt
    obtain ⟨Va, Vb, Vc, Vd⟩ := KV18.out.four
    have Vz := KV18.out.lt
    obtain ⟨Ba, Bb, Bc, Bd⟩ := KB18.out.four
    have Bz := KB18.out.lt
    obtain ⟨Ha, Hb, Hc, Hd⟩ := KH18.out.four
    have Hz := KH18.out.lt
    obtain ⟨Ga, Gb, Gc, Gd⟩ := KG18.out.four
    have Gz := KG18.out.lt
    obtain ⟨Xa, Xb, Xc, Xd⟩ := KX18.out.four
    have Xz := KX18.out.lt
    obtain ⟨Ya, Yb, Yc, Yd⟩ := KY18.out.four
    have Yz := KY18.out.lt
    refine (implWalkSteps_any W H A c zs x0 y0 u0 v0 (na + nb) _ (OwnI.ints HO18.out) hlz (wf64 (by omega) (by omega)) (wf64 (by omega) (by omega)) (wf64 (by omega) (by omega)) (wf64 (by omega) (by omega)) (wf64 (by omega) (by omega))).mono ?_
    rintro e w19 ⟨he, hb19⟩
    rw [HW6.out.1, HW6.out.2.1, HW6.out.2.2.1, HW6.out.2.2.2.1, HW6.out.2.2.2.2] at he
    subst he
    clear Pa Pb Pc Pz Wa Wb Wc Wd Wz Va Vb Vc Vd Vz Ba Bb Bc Bd Bz Ha Hb Hc Hd Hz Ga Gb Gc Gd Gz Xa Xb Xc Xd Xz Ya Yb Yc Yd Yz
    have KP19 : Hid (Box w19 w1.heap.size 30 #[.int .i64 W, .int .i64 H, .slice A zs.length c]) := hid (Box.keep KP18.out hb19)
    have KW19 : Hid (Box w19 (w1.heap.size + 1) 52 #[.int .i64 x0, .int .i64 y0, .int .i64 u0, .int .i64 v0]) := hid (Box.keep KW18.out hb19)
    have KV19 : Hid (Box w19 bk4 52 #[.int .i64 x1, .int .i64 y1, .int .i64 u1, .int .i64 v1]) := hid (Box.keep KV18.out hb19)
    have KB19 : Hid (Box w19 bk6 52 #[.int .i64 x2, .int .i64 y2, .int .i64 u2, .int .i64 v2]) := hid (Box.keep KB18.out hb19)
    have KH19 : Hid (Box w19 bk8 52 #[.int .i64 x3, .int .i64 y3, .int .i64 u3, .int .i64 v3]) := hid (Box.keep KH18.out hb19)
    have KG19 : Hid (Box w19 bk13 52 #[.int .i64 x3, .int .i64 y3, .int .i64 u3, .int .i64 v3]) := hid (Box.keep KG18.out hb19)
    have KX19 : Hid (Box w19 bk15 52 #[.int .i64 x4, .int .i64 y4, .int .i64 u4, .int .i64 v4]) := hid (Box.keep KX18.out hb19)
    have KY19 : Hid (Box w19 bk18 52 #[.int .i64 x6, .int .i64 y6, .int .i64 u6, .int .i64 v6]) := hid (Box.keep KY18.out hb19)
    have HO19 : Hid (OwnI w19 w.heap.size (.slice A zs.length c) zs) := hid (OwnI.keep HO18.out hb19)
    have HB19 : Hid (Below w.heap.size w w19) := hid (bbl HB18.out hb19)
    clear hb19 KP18 KW18 KV18 KB18 KH18 KG18 KX18 KY18 HO18 HB18
    obtain ⟨Pa, Pb, Pc⟩ := KP19.out.three
    have Pz := KP19.out.lt
    obtain ⟨Wa, Wb, Wc, Wd⟩ := KW19.out.four
    have Wz := KW19.out.lt
    obtain ⟨Va, Vb, Vc, Vd⟩ := KV19.out.four
    have Vz := KV19.out.lt
    obtain ⟨Ba, Bb, Bc, Bd⟩ := KB19.out.four
    have Bz := KB19.out.lt
    obtain ⟨Ha, Hb, Hc, Hd⟩ := KH19.out.four
    have Hz := KH19.out.lt
    obtain ⟨Ga, Gb, Gc, Gd⟩ := KG19.out.four
    have Gz := KG19.out.lt
    obtain ⟨Xa, Xb, Xc, Xd⟩ := KX19.out.four
    have Xz := KX19.out.lt
    obtain ⟨Ya, Yb, Yc, Yd⟩ := KY19.out.four
    have Yz := KY19.out.lt
    go_wp2_with fail
    go_ret
    exact ⟨rfl, bal HB19.out _⟩
end Go.Proofs.Ytbgigompkmnapaa

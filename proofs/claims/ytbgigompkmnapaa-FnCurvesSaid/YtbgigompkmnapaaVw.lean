/- validWalker. -/
import Derived.Test.YtbgigompkmnapaaWa
import Derived.Test.YtbgigompkmnapaaQm
namespace Go.Proofs.Ytbgigompkmnapaa
set_option linter.unusedSimpArgs false
set_option linter.unusedVariables false
open Go.ChangeShapes Go.WideShapes Go.ChangeAt Go.RowKit
set_option maxHeartbeats 4000000 in
theorem validWalker_any (W H : Int) (A : Option Addr) (c : Nat) (zs : List Int) (x y dx dy : Int) (w : World) (hW : side W = true) (hH : side H = true) :
    Calls Try.prog 119 #[.agg #[.int .i64 W, .int .i64 H, .slice A zs.length c], .agg #[.int .i64 x, .int .i64 y, .int .i64 dx, .int .i64 dy]] w fun e w' => e = .returned (.bool (walkB W H x y dx dy)) ∧ Below w.heap.size w w' := by
  obtain ⟨sw1, sw2⟩ := side_bd hW
  obtain ⟨sh1, sh2⟩ := side_bd hH
  have HW := hid hW
  have HH := hid hH
  clear hW hH
  by_cases e1 : dx = 1
  · have e1b : (dx == 1) = true := by simp [e1]
    have e1s : Hid (signB dx = true) := hid (by simp [signB, e1])
    have e1l : -1 ≤ dx ∧ dx ≤ 1 := by omega
    obtain ⟨e1l, e1m⟩ := e1l
    clear e1
    by_cases f1 : dy = 1
    · have f1b : (dy == 1) = true := by simp [f1]
      have f1s : Hid (signB dy = true) := hid (by simp [signB, f1])
      have f1l : -1 ≤ dy ∧ dy ≤ 1 := by omega
      obtain ⟨f1l, f1m⟩ := f1l
      clear f1
      cases hp : hasP W H x y
      · have HV : Hid (walkB W H x y dx dy = false) := hid (by simp [walkB, hp])
        have HP := hid hp
        clear hp
        go_enter Try.func119, Try.ntmps119
        go_wp2_with fail
        refine wp_region_mix (w.heap.size + 2) (by kernel_rfl) (by kernel_rfl) ?_
        repeat (any_goals (go_big_quiet_step ((first | (go_at_call 99; exact mix_call (by simp) (calls_bool (isPoint_any W H x y _ _ _ _ HW.out HH.out) HP.out))))))
        refine wpQuiet_nil ?_
        intro w1 hx1
        have hb1 : Below _ _ w1 := mix_ex hx1
        clear hx1
        have KP1 : Hid (Box w1 (w.heap.size) 30 #[.int .i64 W, .int .i64 H, .slice A zs.length c]) := hid (Box.keep (Box.alloc (Box.new' _ _ _ _ (by simp)) _) (below_eq (by simp) hb1))
        have KK1 : Hid (Box w1 (w.heap.size + 1) 52 #[.int .i64 x, .int .i64 y, .int .i64 dx, .int .i64 dy]) := hid (Box.keep (Box.new' _ _ _ _ (by simp)) (below_eq (by simp) hb1))
        have HB1 : Hid (Below w.heap.size w w1) := hid (bstep (bal (bal (Below.refl _ _) _) _) (below_eq (by simp) hb1))
        clear hb1
        obtain ⟨Pa, Pb, Pc⟩ := KP1.out.three
        have Pz := KP1.out.lt
        obtain ⟨Ka, Kb, Kc, Kd⟩ := KK1.out.four
        have Kz := KK1.out.lt
        go_wp2_with fail
        go_ret
        exact ⟨ret_bool HV.out.symm, (HB1.out)⟩
      · have HV : Hid (walkB W H x y dx dy = hasP W H (x + dx) (y + dy)) := hid (by simp [walkB, hp, e1s.out, f1s.out])
        obtain ⟨x1, x2, y1, y2⟩ := hasP_bd hp
        have HP := hid hp
        clear hp
        go_enter Try.func119, Try.ntmps119
        go_wp2_with fail
        refine wp_region_mix (w.heap.size + 2) (by kernel_rfl) (by kernel_rfl) ?_
        repeat (any_goals (go_big_quiet_step ((first | (go_at_call_of 99 (Value.agg #[Value.int .i64 x, Value.int .i64 y]); exact mix_call (by simp) (calls_bool (isPoint_any W H x y _ _ _ _ HW.out HH.out) HP.out)) | (go_at_call 92; exact mix_call (by simp) (next_any x y dx dy _ (by omega) (by omega) (by omega) (by omega) e1l e1m f1l f1m)) | (go_at_call 99; exact mix_call (by simp) (isPoint_any W H (x + dx) (y + dy) _ _ _ _ HW.out HH.out))))))
        refine wpQuiet_nil ?_
        intro w1 hx1
        have hb1 : Below _ _ w1 := mix_ex hx1
        clear hx1
        have KP1 : Hid (Box w1 (w.heap.size) 30 #[.int .i64 W, .int .i64 H, .slice A zs.length c]) := hid (Box.keep (Box.alloc (Box.new' _ _ _ _ (by simp)) _) (below_eq (by simp) hb1))
        have KK1 : Hid (Box w1 (w.heap.size + 1) 52 #[.int .i64 x, .int .i64 y, .int .i64 dx, .int .i64 dy]) := hid (Box.keep (Box.new' _ _ _ _ (by simp)) (below_eq (by simp) hb1))
        have HB1 : Hid (Below w.heap.size w w1) := hid (bstep (bal (bal (Below.refl _ _) _) _) (below_eq (by simp) hb1))
        clear hb1
        obtain ⟨Pa, Pb, Pc⟩ := KP1.out.three
        have Pz := KP1.out.lt
        obtain ⟨Ka, Kb, Kc, Kd⟩ := KK1.out.four
        have Kz := KK1.out.lt
        go_wp2_with fail
        go_ret
        exact ⟨ret_bool HV.out.symm, (HB1.out)⟩
    · by_cases f2 : dy = -1
      · have f1b : (dy == 1) = false := by simp [f1]
        have f2b : (dy == -1) = true := by simp [f2]
        have f1s : Hid (signB dy = true) := hid (by simp [signB, f2])
        have f1l : -1 ≤ dy ∧ dy ≤ 1 := by omega
        obtain ⟨f1l, f1m⟩ := f1l
        clear f1 f2
        cases hp : hasP W H x y
        · have HV : Hid (walkB W H x y dx dy = false) := hid (by simp [walkB, hp])
          have HP := hid hp
          clear hp
          go_enter Try.func119, Try.ntmps119
          go_wp2_with fail
          refine wp_region_mix (w.heap.size + 2) (by kernel_rfl) (by kernel_rfl) ?_
          repeat (any_goals (go_big_quiet_step ((first | (go_at_call 99; exact mix_call (by simp) (calls_bool (isPoint_any W H x y _ _ _ _ HW.out HH.out) HP.out))))))
          refine wpQuiet_nil ?_
          intro w1 hx1
          have hb1 : Below _ _ w1 := mix_ex hx1
          clear hx1
          have KP1 : Hid (Box w1 (w.heap.size) 30 #[.int .i64 W, .int .i64 H, .slice A zs.length c]) := hid (Box.keep (Box.alloc (Box.new' _ _ _ _ (by simp)) _) (below_eq (by simp) hb1))
          have KK1 : Hid (Box w1 (w.heap.size + 1) 52 #[.int .i64 x, .int .i64 y, .int .i64 dx, .int .i64 dy]) := hid (Box.keep (Box.new' _ _ _ _ (by simp)) (below_eq (by simp) hb1))
          have HB1 : Hid (Below w.heap.size w w1) := hid (bstep (bal (bal (Below.refl _ _) _) _) (below_eq (by simp) hb1))
          clear hb1
          obtain ⟨Pa, Pb, Pc⟩ := KP1.out.three
          have Pz := KP1.out.lt
          obtain ⟨Ka, Kb, Kc, Kd⟩ := KK1.out.four
          have Kz := KK1.out.lt
          go_wp2_with fail
          go_ret
          exact ⟨ret_bool HV.out.symm, (HB1.out)⟩
        · have HV : Hid (walkB W H x y dx dy = hasP W H (x + dx) (y + dy)) := hid (by simp [walkB, hp, e1s.out, f1s.out])
          obtain ⟨x1, x2, y1, y2⟩ := hasP_bd hp
          have HP := hid hp
          clear hp
          go_enter Try.func119, Try.ntmps119
          go_wp2_with fail
          refine wp_region_mix (w.heap.size + 2) (by kernel_rfl) (by kernel_rfl) ?_
          repeat (any_goals (go_big_quiet_step ((first | (go_at_call_of 99 (Value.agg #[Value.int .i64 x, Value.int .i64 y]); exact mix_call (by simp) (calls_bool (isPoint_any W H x y _ _ _ _ HW.out HH.out) HP.out)) | (go_at_call 92; exact mix_call (by simp) (next_any x y dx dy _ (by omega) (by omega) (by omega) (by omega) e1l e1m f1l f1m)) | (go_at_call 99; exact mix_call (by simp) (isPoint_any W H (x + dx) (y + dy) _ _ _ _ HW.out HH.out))))))
          refine wpQuiet_nil ?_
          intro w1 hx1
          have hb1 : Below _ _ w1 := mix_ex hx1
          clear hx1
          have KP1 : Hid (Box w1 (w.heap.size) 30 #[.int .i64 W, .int .i64 H, .slice A zs.length c]) := hid (Box.keep (Box.alloc (Box.new' _ _ _ _ (by simp)) _) (below_eq (by simp) hb1))
          have KK1 : Hid (Box w1 (w.heap.size + 1) 52 #[.int .i64 x, .int .i64 y, .int .i64 dx, .int .i64 dy]) := hid (Box.keep (Box.new' _ _ _ _ (by simp)) (below_eq (by simp) hb1))
          have HB1 : Hid (Below w.heap.size w w1) := hid (bstep (bal (bal (Below.refl _ _) _) _) (below_eq (by simp) hb1))
          clear hb1
          obtain ⟨Pa, Pb, Pc⟩ := KP1.out.three
          have Pz := KP1.out.lt
          obtain ⟨Ka, Kb, Kc, Kd⟩ := KK1.out.four
          have Kz := KK1.out.lt
          go_wp2_with fail
          go_ret
          exact ⟨ret_bool HV.out.symm, (HB1.out)⟩
      · have f1b : (dy == 1) = false := by simp [f1]
        have f2b : (dy == -1) = false := by simp [f2]
        have f1s : Hid (signB dy = false) := hid (by simp [signB, f1, f2])
        clear f1 f2
        have HV : Hid (walkB W H x y dx dy = false) := hid (by simp [walkB, f1s.out])
        go_enter Try.func119, Try.ntmps119
        go_wp2_with fail
        refine wp_region_mix (w.heap.size + 2) (by kernel_rfl) (by kernel_rfl) ?_
        repeat (any_goals (go_big_quiet_step (fail)))
        refine wpQuiet_nil ?_
        intro w1 hx1
        have hb1 : Below _ _ w1 := mix_ex hx1
        clear hx1
        have KP1 : Hid (Box w1 (w.heap.size) 30 #[.int .i64 W, .int .i64 H, .slice A zs.length c]) := hid (Box.keep (Box.alloc (Box.new' _ _ _ _ (by simp)) _) (below_eq (by simp) hb1))
        have KK1 : Hid (Box w1 (w.heap.size + 1) 52 #[.int .i64 x, .int .i64 y, .int .i64 dx, .int .i64 dy]) := hid (Box.keep (Box.new' _ _ _ _ (by simp)) (below_eq (by simp) hb1))
        have HB1 : Hid (Below w.heap.size w w1) := hid (bstep (bal (bal (Below.refl _ _) _) _) (below_eq (by simp) hb1))
        clear hb1
        obtain ⟨Pa, Pb, Pc⟩ := KP1.out.three
        have Pz := KP1.out.lt
        obtain ⟨Ka, Kb, Kc, Kd⟩ := KK1.out.four
        have Kz := KK1.out.lt
        go_wp2_with fail
        go_ret
        exact ⟨ret_bool HV.out.symm, (HB1.out)⟩
  · by_cases e2 : dx = -1
    · have e1b : (dx == 1) = false := by simp [e1]
      have e2b : (dx == -1) = true := by simp [e2]
      have e1s : Hid (signB dx = true) := hid (by simp [signB, e2])
      have e1l : -1 ≤ dx ∧ dx ≤ 1 := by omega
      obtain ⟨e1l, e1m⟩ := e1l
      clear e1 e2
      by_cases f1 : dy = 1
      · have f1b : (dy == 1) = true := by simp [f1]
        have f1s : Hid (signB dy = true) := hid (by simp [signB, f1])
        have f1l : -1 ≤ dy ∧ dy ≤ 1 := by omega
        obtain ⟨f1l, f1m⟩ := f1l
        clear f1
        cases hp : hasP W H x y
        · have HV : Hid (walkB W H x y dx dy = false) := hid (by simp [walkB, hp])
          have HP := hid hp
          clear hp
          go_enter Try.func119, Try.ntmps119
          go_wp2_with fail
          refine wp_region_mix (w.heap.size + 2) (by kernel_rfl) (by kernel_rfl) ?_
          repeat (any_goals (go_big_quiet_step ((first | (go_at_call 99; exact mix_call (by simp) (calls_bool (isPoint_any W H x y _ _ _ _ HW.out HH.out) HP.out))))))
          refine wpQuiet_nil ?_
          intro w1 hx1
          have hb1 : Below _ _ w1 := mix_ex hx1
          clear hx1
          have KP1 : Hid (Box w1 (w.heap.size) 30 #[.int .i64 W, .int .i64 H, .slice A zs.length c]) := hid (Box.keep (Box.alloc (Box.new' _ _ _ _ (by simp)) _) (below_eq (by simp) hb1))
          have KK1 : Hid (Box w1 (w.heap.size + 1) 52 #[.int .i64 x, .int .i64 y, .int .i64 dx, .int .i64 dy]) := hid (Box.keep (Box.new' _ _ _ _ (by simp)) (below_eq (by simp) hb1))
          have HB1 : Hid (Below w.heap.size w w1) := hid (bstep (bal (bal (Below.refl _ _) _) _) (below_eq (by simp) hb1))
          clear hb1
          obtain ⟨Pa, Pb, Pc⟩ := KP1.out.three
          have Pz := KP1.out.lt
          obtain ⟨Ka, Kb, Kc, Kd⟩ := KK1.out.four
          have Kz := KK1.out.lt
          go_wp2_with fail
          go_ret
          exact ⟨ret_bool HV.out.symm, (HB1.out)⟩
        · have HV : Hid (walkB W H x y dx dy = hasP W H (x + dx) (y + dy)) := hid (by simp [walkB, hp, e1s.out, f1s.out])
          obtain ⟨x1, x2, y1, y2⟩ := hasP_bd hp
          have HP := hid hp
          clear hp
          go_enter Try.func119, Try.ntmps119
          go_wp2_with fail
          refine wp_region_mix (w.heap.size + 2) (by kernel_rfl) (by kernel_rfl) ?_
          repeat (any_goals (go_big_quiet_step ((first | (go_at_call_of 99 (Value.agg #[Value.int .i64 x, Value.int .i64 y]); exact mix_call (by simp) (calls_bool (isPoint_any W H x y _ _ _ _ HW.out HH.out) HP.out)) | (go_at_call 92; exact mix_call (by simp) (next_any x y dx dy _ (by omega) (by omega) (by omega) (by omega) e1l e1m f1l f1m)) | (go_at_call 99; exact mix_call (by simp) (isPoint_any W H (x + dx) (y + dy) _ _ _ _ HW.out HH.out))))))
          refine wpQuiet_nil ?_
          intro w1 hx1
          have hb1 : Below _ _ w1 := mix_ex hx1
          clear hx1
          have KP1 : Hid (Box w1 (w.heap.size) 30 #[.int .i64 W, .int .i64 H, .slice A zs.length c]) := hid (Box.keep (Box.alloc (Box.new' _ _ _ _ (by simp)) _) (below_eq (by simp) hb1))
          have KK1 : Hid (Box w1 (w.heap.size + 1) 52 #[.int .i64 x, .int .i64 y, .int .i64 dx, .int .i64 dy]) := hid (Box.keep (Box.new' _ _ _ _ (by simp)) (below_eq (by simp) hb1))
          have HB1 : Hid (Below w.heap.size w w1) := hid (bstep (bal (bal (Below.refl _ _) _) _) (below_eq (by simp) hb1))
          clear hb1
          obtain ⟨Pa, Pb, Pc⟩ := KP1.out.three
          have Pz := KP1.out.lt
          obtain ⟨Ka, Kb, Kc, Kd⟩ := KK1.out.four
          have Kz := KK1.out.lt
          go_wp2_with fail
          go_ret
          exact ⟨ret_bool HV.out.symm, (HB1.out)⟩
      · by_cases f2 : dy = -1
        · have f1b : (dy == 1) = false := by simp [f1]
          have f2b : (dy == -1) = true := by simp [f2]
          have f1s : Hid (signB dy = true) := hid (by simp [signB, f2])
          have f1l : -1 ≤ dy ∧ dy ≤ 1 := by omega
          obtain ⟨f1l, f1m⟩ := f1l
          clear f1 f2
          cases hp : hasP W H x y
          · have HV : Hid (walkB W H x y dx dy = false) := hid (by simp [walkB, hp])
            have HP := hid hp
            clear hp
            go_enter Try.func119, Try.ntmps119
            go_wp2_with fail
            refine wp_region_mix (w.heap.size + 2) (by kernel_rfl) (by kernel_rfl) ?_
            repeat (any_goals (go_big_quiet_step ((first | (go_at_call 99; exact mix_call (by simp) (calls_bool (isPoint_any W H x y _ _ _ _ HW.out HH.out) HP.out))))))
            refine wpQuiet_nil ?_
            intro w1 hx1
            have hb1 : Below _ _ w1 := mix_ex hx1
            clear hx1
            have KP1 : Hid (Box w1 (w.heap.size) 30 #[.int .i64 W, .int .i64 H, .slice A zs.length c]) := hid (Box.keep (Box.alloc (Box.new' _ _ _ _ (by simp)) _) (below_eq (by simp) hb1))
            have KK1 : Hid (Box w1 (w.heap.size + 1) 52 #[.int .i64 x, .int .i64 y, .int .i64 dx, .int .i64 dy]) := hid (Box.keep (Box.new' _ _ _ _ (by simp)) (below_eq (by simp) hb1))
            have HB1 : Hid (Below w.heap.size w w1) := hid (bstep (bal (bal (Below.refl _ _) _) _) (below_eq (by simp) hb1))
            clear hb1
            obtain ⟨Pa, Pb, Pc⟩ := KP1.out.three
            have Pz := KP1.out.lt
            obtain ⟨Ka, Kb, Kc, Kd⟩ := KK1.out.four
            have Kz := KK1.out.lt
            go_wp2_with fail
            go_ret
            exact ⟨ret_bool HV.out.symm, (HB1.out)⟩
          · have HV : Hid (walkB W H x y dx dy = hasP W H (x + dx) (y + dy)) := hid (by simp [walkB, hp, e1s.out, f1s.out])
            obtain ⟨x1, x2, y1, y2⟩ := hasP_bd hp
            have HP := hid hp
            clear hp
            go_enter Try.func119, Try.ntmps119
            go_wp2_with fail
            refine wp_region_mix (w.heap.size + 2) (by kernel_rfl) (by kernel_rfl) ?_
            repeat (any_goals (go_big_quiet_step ((first | (go_at_call_of 99 (Value.agg #[Value.int .i64 x, Value.int .i64 y]); exact mix_call (by simp) (calls_bool (isPoint_any W H x y _ _ _ _ HW.out HH.out) HP.out)) | (go_at_call 92; exact mix_call (by simp) (next_any x y dx dy _ (by omega) (by omega) (by omega) (by omega) e1l e1m f1l f1m)) | (go_at_call 99; exact mix_call (by simp) (isPoint_any W H (x + dx) (y + dy) _ _ _ _ HW.out HH.out))))))
            refine wpQuiet_nil ?_
            intro w1 hx1
            have hb1 : Below _ _ w1 := mix_ex hx1
            clear hx1
            have KP1 : Hid (Box w1 (w.heap.size) 30 #[.int .i64 W, .int .i64 H, .slice A zs.length c]) := hid (Box.keep (Box.alloc (Box.new' _ _ _ _ (by simp)) _) (below_eq (by simp) hb1))
            have KK1 : Hid (Box w1 (w.heap.size + 1) 52 #[.int .i64 x, .int .i64 y, .int .i64 dx, .int .i64 dy]) := hid (Box.keep (Box.new' _ _ _ _ (by simp)) (below_eq (by simp) hb1))
            have HB1 : Hid (Below w.heap.size w w1) := hid (bstep (bal (bal (Below.refl _ _) _) _) (below_eq (by simp) hb1))
            clear hb1
            obtain ⟨Pa, Pb, Pc⟩ := KP1.out.three
            have Pz := KP1.out.lt
            obtain ⟨Ka, Kb, Kc, Kd⟩ := KK1.out.four
            have Kz := KK1.out.lt
            go_wp2_with fail
            go_ret
            exact ⟨ret_bool HV.out.symm, (HB1.out)⟩
        · have f1b : (dy == 1) = false := by simp [f1]
          have f2b : (dy == -1) = false := by simp [f2]
          have f1s : Hid (signB dy = false) := hid (by simp [signB, f1, f2])
          clear f1 f2
          have HV : Hid (walkB W H x y dx dy = false) := hid (by simp [walkB, f1s.out])
          go_enter Try.func119, Try.ntmps119
          go_wp2_with fail
          refine wp_region_mix (w.heap.size + 2) (by kernel_rfl) (by kernel_rfl) ?_
          repeat (any_goals (go_big_quiet_step (fail)))
          refine wpQuiet_nil ?_
          intro w1 hx1
          have hb1 : Below _ _ w1 := mix_ex hx1
          clear hx1
          have KP1 : Hid (Box w1 (w.heap.size) 30 #[.int .i64 W, .int .i64 H, .slice A zs.length c]) := hid (Box.keep (Box.alloc (Box.new' _ _ _ _ (by simp)) _) (below_eq (by simp) hb1))
          have KK1 : Hid (Box w1 (w.heap.size + 1) 52 #[.int .i64 x, .int .i64 y, .int .i64 dx, .int .i64 dy]) := hid (Box.keep (Box.new' _ _ _ _ (by simp)) (below_eq (by simp) hb1))
          have HB1 : Hid (Below w.heap.size w w1) := hid (bstep (bal (bal (Below.refl _ _) _) _) (below_eq (by simp) hb1))
          clear hb1
          obtain ⟨Pa, Pb, Pc⟩ := KP1.out.three
          have Pz := KP1.out.lt
          obtain ⟨Ka, Kb, Kc, Kd⟩ := KK1.out.four
          have Kz := KK1.out.lt
          go_wp2_with fail
          go_ret
          exact ⟨ret_bool HV.out.symm, (HB1.out)⟩
    · have e1b : (dx == 1) = false := by simp [e1]
      have e2b : (dx == -1) = false := by simp [e2]
      have e1s : Hid (signB dx = false) := hid (by simp [signB, e1, e2])
      clear e1 e2
      have HV : Hid (walkB W H x y dx dy = false) := hid (by simp [walkB, e1s.out])
      go_enter Try.func119, Try.ntmps119
      go_wp2_with fail
      refine wp_region_mix (w.heap.size + 2) (by kernel_rfl) (by kernel_rfl) ?_
      repeat (any_goals (go_big_quiet_step (fail)))
      refine wpQuiet_nil ?_
      intro w1 hx1
      have hb1 : Below _ _ w1 := mix_ex hx1
      clear hx1
      have KP1 : Hid (Box w1 (w.heap.size) 30 #[.int .i64 W, .int .i64 H, .slice A zs.length c]) := hid (Box.keep (Box.alloc (Box.new' _ _ _ _ (by simp)) _) (below_eq (by simp) hb1))
      have KK1 : Hid (Box w1 (w.heap.size + 1) 52 #[.int .i64 x, .int .i64 y, .int .i64 dx, .int .i64 dy]) := hid (Box.keep (Box.new' _ _ _ _ (by simp)) (below_eq (by simp) hb1))
      have HB1 : Hid (Below w.heap.size w w1) := hid (bstep (bal (bal (Below.refl _ _) _) _) (below_eq (by simp) hb1))
      clear hb1
      obtain ⟨Pa, Pb, Pc⟩ := KP1.out.three
      have Pz := KP1.out.lt
      obtain ⟨Ka, Kb, Kc, Kd⟩ := KK1.out.four
      have Kz := KK1.out.lt
      go_wp2_with fail
      go_ret
      exact ⟨ret_bool HV.out.symm, (HB1.out)⟩
end Go.Proofs.Ytbgigompkmnapaa

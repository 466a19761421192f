/- l02Ok and the reference's ValidPanel. -/
import Derived.Test.YtbgigompkmnapaaVq
import Derived.Test.YtbgigompkmnapaaPan
namespace Go.Proofs.Ytbgigompkmnapaa
set_option linter.unusedSimpArgs false
set_option linter.unusedVariables false
open Go.ChangeShapes Go.WideShapes Go.ChangeAt Go.RowKit

set_option maxHeartbeats 800000 in
theorem l02Ok_any (p : Nat) (W H : Int) (A : Option Addr) (c : Nat) (zs : List Int) (w : World) (B : Nat) (hp : PanP w p W H (.slice A zs.length c)) (hz : Ints w B A zs) (hl : zs.length ≤ maxLen) :
    Calls Try.prog 82 #[.pointer (some ⟨p, 0, none⟩)] w fun e w' => e = .returned (.bool (validB W H zs)) ∧ ∃ m, w' = w.drewN m := by
  unfold maxLen at hl
  have p0 := hp.c0
  have p1 := hp.c1
  have p2 := hp.c2
  clear hp
  cases hW : side W
  · have HV : Hid (validB W H zs = false) := hid (by simp [validB, hW])
    have HW := hid hW
    clear hW
    go_enter Try.func82, Try.ntmps82
    go_wp2_with fail
    go_quiet ((go_at_call 115; exact quiet_bool (l02Side_any _ _) HW.out))
    go_wp2_with fail
    go_ret
    exact ⟨ret_bool HV.out.symm, _, rfl⟩
  · cases hH : side H
    · have HV : Hid (validB W H zs = false) := hid (by simp [validB, hH])
      have HW := hid hW
      have HH := hid hH
      clear hW hH
      go_enter Try.func82, Try.ntmps82
      go_wp2_with fail
      go_quiet ((first | (go_at_call_of 115 W; exact quiet_bool (l02Side_any _ _) HW.out) | (go_at_call_of 115 H; exact quiet_bool (l02Side_any _ _) HH.out)))
      go_wp2_with fail
      go_ret
      exact ⟨ret_bool HV.out.symm, _, rfl⟩
    · by_cases hn : (zs.length : Int) = inner W H
      · have hn' : ((zs.length : Int) != inner W H) = false := by simpa using hn
        have HV : Hid (validB W H zs = zs.all kindOk) := hid (by simp [validB, hW, hH, hn])
        have HW := hid hW
        have HH := hid hH
        clear hn hW hH
        go_enter Try.func82, Try.ntmps82
        go_wp2_with fail
        go_quiet ((first | (go_at_call_of 115 W; exact quiet_bool (l02Side_any _ _) HW.out) | (go_at_call_of 115 H; exact quiet_bool (l02Side_any _ _) HH.out) | (go_at_call 116; exact quiet_left (l02Inner_any _ _ _ HW.out HH.out))))
        go_wp2_with fail
        go_loopg [3] zs.length (fun g i wr => ∃ k : Nat, k ≤ zs.length ∧ i = .int .i64 k ∧ g = zs.length - k ∧ Hid ((zs.take k).all kindOk = true) ∧ ∃ m, wr = w.drewN m)
        case atStart => exact ⟨0, Nat.zero_le _, rfl, rfl, hid (by simp), _, rfl⟩
        case round =>
          obtain ⟨k, hk, rfl, hg, hall, m, rfl⟩ := hrel
          by_cases hlt : k < zs.length
          · obtain ⟨z, hzk⟩ : ∃ z, zs[k]? = some z := ⟨_, List.getElem?_eq_getElem hlt⟩
            obtain ⟨b, off, rfl, hb, hc⟩ := hz k z hzk
            have Hzk := hid hzk
            clear hzk
            cases hkz : kindOk z
            · have HK := hid hkz
              clear hkz
              go_wp2_with (go_at_call 101; refine (calls_bool (l00In_any _ _ _ _) HK.out).mono ?_; rintro e w' ⟨rfl, rfl⟩)
              go_ret
              exact ⟨ret_bool (by rw [HV.out, all_false Hzk.out HK.out]), _, rfl⟩
            · have HK := hid hkz
              clear hkz
              go_wp2_with (go_at_call 101; refine (calls_bool (l00In_any _ _ _ _) HK.out).mono ?_; rintro e w' ⟨rfl, rfl⟩)
              go_roundg (zs.length - (k + 1))
              case measure => omega
              case rel => exact ⟨k + 1, by omega, by go_num, rfl, hid (all_take_succ hall.out Hzk.out HK.out), _, rfl⟩
          · have hkl : k = zs.length := by omega
            have HA := hid (show zs.all kindOk = true by have := hall.out; rwa [List.take_of_length_le (by omega)] at this)
            go_wp2_with fail
            go_ret
            exact ⟨ret_bool (by rw [HV.out, HA.out]), _, rfl⟩
      · have hn' : ((zs.length : Int) != inner W H) = true := by simpa using hn
        have HV : Hid (validB W H zs = false) := hid (by simp [validB, hn])
        have HW := hid hW
        have HH := hid hH
        clear hn hW hH
        go_enter Try.func82, Try.ntmps82
        go_wp2_with fail
        go_quiet ((first | (go_at_call_of 115 W; exact quiet_bool (l02Side_any _ _) HW.out) | (go_at_call_of 115 H; exact quiet_bool (l02Side_any _ _) HH.out) | (go_at_call 116; exact quiet_left (l02Inner_any _ _ _ HW.out HH.out))))
        go_wp2_with fail
        go_ret
        exact ⟨ret_bool (by rw [HV.out]), _, rfl⟩

end Go.Proofs.Ytbgigompkmnapaa

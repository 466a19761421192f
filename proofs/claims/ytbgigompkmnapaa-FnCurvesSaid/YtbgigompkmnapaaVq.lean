/- ValidPanel and l02Ok. -/
import Derived.Test.YtbgigompkmnapaaVp
namespace Go.Proofs.Ytbgigompkmnapaa
set_option linter.unusedSimpArgs false
set_option linter.unusedVariables false
open Go.ChangeShapes Go.WideShapes Go.ChangeAt Go.RowKit

theorem all_take_succ {p : Int → Bool} {zs : List Int} {k : Nat} {z : Int} (h : (zs.take k).all p = true) (hz : zs[k]? = some z) (hp : p z = true) : (zs.take (k + 1)).all p = true := by
  rw [List.take_add_one, hz, List.all_append, h]; simp [hp]
theorem all_false {p : Int → Bool} {zs : List Int} {k : Nat} {z : Int} (hz : zs[k]? = some z) (hp : p z = false) : zs.all p = false := by
  rw [List.all_eq_false]
  exact ⟨z, List.mem_of_getElem? hz, by simp [hp]⟩

set_option maxHeartbeats 400000 in
theorem validPanel_any (W H : Int) (A : Option Addr) (c : Nat) (zs : List Int) (w : World) (hz : Ints w w.heap.size A zs) (hl : zs.length ≤ maxLen) :
    Calls Try.prog 77 #[.agg #[.int .i64 W, .int .i64 H, .slice A zs.length c]] w fun e w' => e = .returned (.bool (validB W H zs)) ∧ Below w.heap.size w w' := by
  unfold maxLen at hl
  by_cases hs : (side W && side H) = true
  · obtain ⟨hW, hH⟩ : side W = true ∧ side H = true := by simpa using hs
    by_cases hn : (zs.length : Int) = inner W H
    · have hn' : ((zs.length : Int) != inner W H) = false := by simpa using hn
      have HV : Hid (validB W H zs = zs.all kindOk) := hid (by simp [validB, hW, hH, hn])
      have HS := hid hs
      have HW := hid hW
      have HH := hid hH
      clear hn hs hW hH
      go_enter Try.func77, Try.ntmps77
      go_wp2_with fail
      go_quiet ((first | (go_at_call 93; exact quiet_bool (validSize_any _ _ _) HS.out) | (go_at_call 94; exact quiet_left (innerPoints_any _ _ _ HW.out HH.out))))
      go_wp2_with fail
      go_loopg [25] zs.length (fun g i wr => ∃ k : Nat, k ≤ zs.length ∧ i = .int .i64 k ∧ g = zs.length - k ∧ Hid ((zs.take k).all kindOk = true) ∧ Below w.heap.size w wr)
      case atStart => exact ⟨0, Nat.zero_le _, rfl, rfl, hid (by simp), below_drewN ((Below.refl _ _).alloc (Nat.le_refl _) _) _⟩
      case round =>
        obtain ⟨k, hk, rfl, hg, hall, hbl⟩ := hrel
        by_cases hlt : k < zs.length
        · obtain ⟨z, hzk⟩ : ∃ z, zs[k]? = some z := ⟨_, List.getElem?_eq_getElem hlt⟩
          obtain ⟨b, off, rfl, hb, hc⟩ := (hz.below hbl) k z hzk
          have Hzk := hid hzk
          clear hzk
          cases hkz : kindOk z
          · have HK := hid hkz
            clear hkz
            go_wp2_with (go_at_call 95; refine (calls_bool (validBreak_any _ _) HK.out).mono ?_; rintro e w' ⟨rfl, rfl⟩)
            go_ret
            exact ⟨ret_bool (by rw [HV.out, all_false Hzk.out HK.out]), hbl⟩
          · have HK := hid hkz
            clear hkz
            go_wp2_with (go_at_call 95; refine (calls_bool (validBreak_any _ _) HK.out).mono ?_; rintro e w' ⟨rfl, rfl⟩)
            go_roundg (zs.length - (k + 1))
            case measure => omega
            case rel => exact ⟨k + 1, by omega, by go_num, rfl, hid (all_take_succ hall.out Hzk.out HK.out), hbl⟩
        · have hkl : k = zs.length := by omega
          have HA := hid (show zs.all kindOk = true by have := hall.out; rwa [List.take_of_length_le (by omega)] at this)
          go_wp2_with fail
          go_ret
          exact ⟨ret_bool (by rw [HV.out, HA.out]), hbl⟩
    · have hn' : ((zs.length : Int) != inner W H) = true := by simpa using hn
      have HV : Hid (validB W H zs = false) := hid (by simp [validB, hn])
      have HS := hid hs
      have HW := hid hW
      have HH := hid hH
      clear hn hs hW hH
      go_enter Try.func77, Try.ntmps77
      go_wp2_with fail
      go_quiet ((first | (go_at_call 93; exact quiet_bool (validSize_any _ _ _) HS.out) | (go_at_call 94; exact quiet_left (innerPoints_any _ _ _ HW.out HH.out))))
      go_wp2_with fail
      go_ret
      exact ⟨ret_bool (by rw [HV.out]), below_drewN ((Below.refl _ _).alloc (Nat.le_refl _) _) _⟩
  · have hs' : (side W && side H) = false := by simpa using hs
    have HV : Hid (validB W H zs = false) := hid (by simp [validB, hs'])
    have HS := hid hs'
    clear hs hs'
    go_enter Try.func77, Try.ntmps77
    go_wp2_with fail
    go_quiet ((go_at_call 93; exact quiet_bool (validSize_any _ _ _) HS.out))
    go_wp2_with fail
    go_ret
    exact ⟨ret_bool (by rw [HV.out]), below_drewN ((Below.refl _ _).alloc (Nat.le_refl _) _) _⟩
end Go.Proofs.Ytbgigompkmnapaa

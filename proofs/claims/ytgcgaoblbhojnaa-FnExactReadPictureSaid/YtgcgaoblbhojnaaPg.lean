/- l05Fault: the reference's contract. -/
import Derived.Test.YtgcgaoblbhojnaaPf
import Derived.Test.YtgcgaoblbhojnaaNu
import Derived.Test.YtgcgaoblbhojnaaNo
import Derived.Test.YtgcgaoblbhojnaaNp
import Derived.Test.YtgcgaoblbhojnaaNm
import Derived.Test.YtgcgaoblbhojnaaAu
namespace Go.Proofs.Ytgcgaoblbhojnaa
set_option linter.unusedSimpArgs false
set_option linter.unusedVariables false
open Go.ChangeShapes Go.WideShapes Go.ChangeAt Go.RowKit
set_option maxRecDepth 100000 in
set_option maxHeartbeats 8000000 in
theorem l05Fault_any (A : Option Addr) (c : Nat) (ss : List ByteArray) (w : World) (hz : StrsR w w.heap.size A ss) (hl : ss.length ≤ 1048576) (hs : ∀ s ∈ ss, s.size ≤ 1048576) :
    Calls Try.prog 58 #[.slice A ss.length c] w fun e w' => e = .returned (.tuple #[.int .i64 (pfF ss).1, .int .i64 (pfF ss).2.1, .int .i64 (pfF ss).2.2]) ∧ Below w.heap.size w w' := by
  obtain ⟨n, hn⟩ : ∃ n, ss.length = n := ⟨_, rfl⟩
  rw [hn] at hl ⊢
  have HN := hid hn
  have HS := hid hs
  clear hn hs
  cases hg : goodB n
  · have HV : Hid (pfF ss = (1, 0, 0)) := hid (by unfold pfF; rw [HN.out, hg]; rfl)
    rcases good_not hg with hp | ⟨hp, hsd⟩
    · have hb : (((n : Nat) : Int) % 2 == 0) = true := by simp; omega
      clear hg hp
      go_enter Try.func58, Try.ntmps58
      go_wp2_with fail
      go_ret3
      exact ⟨ret_i3 (by rw [HV.out]) (by rw [HV.out]) (by rw [HV.out]), Below.refl _ _⟩
    · have hb : (((n : Nat) : Int) % 2 == 0) = false := by simp; omega
      have HSD := hid hsd
      clear hg hp hsd
      go_enter Try.func58, Try.ntmps58
      go_wp2_with fail
      refine (calls_bool (l02Side_any _ _) HSD.out).mono ?_
      rintro e w' ⟨rfl, rfl⟩
      go_wp2_with fail
      go_ret3
      exact ⟨ret_i3 (by rw [HV.out]) (by rw [HV.out]) (by rw [HV.out]), Below.refl _ _⟩
  have hgb := good_bd hg
  obtain ⟨g1, g2, g3⟩ := hgb
  obtain ⟨s0, hs0⟩ : ∃ s, ss[0]? = some s := ⟨_, List.getElem?_eq_getElem (by have := HN.out; omega)⟩
  have hm0 := HS.out s0 (List.mem_of_getElem? hs0)
  obtain ⟨m, hm⟩ : ∃ m, s0.size = m := ⟨_, rfl⟩
  have HF : Hid (fsz ss = m) := hid (by rw [← hm]; unfold fsz; cases ss with | nil => simp at hs0 | cons a tl => (simp at hs0; subst hs0; rfl))
  obtain ⟨b, off, rfl, hbl, hc0⟩ := hz 0 s0 hs0
  rw [Nat.add_zero] at hc0
  rw [hm] at hm0
  have HSH := hid (good_side hg)
  have hbn : (((n : Nat) : Int) % 2 == 0) = false := by simp; omega
  have HG1 := hid hg
  clear hg
  cases hg : goodB m
  · have HV : Hid (pfF ss = (1, 0, 0)) := hid (by unfold pfF; rw [HN.out, HG1.out, HF.out, hg]; rfl)
    clear hs0
    rcases good_not hg with hp | ⟨hp, hsd⟩
    · have hb : (((m : Nat) : Int) % 2 == 0) = true := by simp; omega
      clear hg hp
      go_enter Try.func58, Try.ntmps58
      go_wp2_with fail
      refine (calls_bool (l02Side_any _ _) HSH.out).mono ?_
      rintro e w' ⟨rfl, rfl⟩
      go_wp2_with fail
      go_ret3
      exact ⟨ret_i3 (by rw [HV.out]) (by rw [HV.out]) (by rw [HV.out]), Below.refl _ _⟩
    · have hb : (((m : Nat) : Int) % 2 == 0) = false := by simp; omega
      have HSD := hid hsd
      clear hg hp hsd
      go_enter Try.func58, Try.ntmps58
      go_wp2_with fail
      refine (calls_bool (l02Side_any _ _) HSH.out).mono ?_
      rintro e w' ⟨rfl, rfl⟩
      go_wp2_with fail
      refine (calls_bool (l02Side_any _ _) HSD.out).mono ?_
      rintro e w' ⟨rfl, rfl⟩
      go_wp2_with fail
      go_ret3
      exact ⟨ret_i3 (by rw [HV.out]) (by rw [HV.out]) (by rw [HV.out]), Below.refl _ _⟩
  obtain ⟨m1, m2, m3⟩ := good_bd hg
  have hbm : (((m : Nat) : Int) % 2 == 0) = false := by simp; omega
  have HSW := hid (good_side hg)
  have HV : Hid (pfF ss = trip (linFlt ((m : Int) / 2) ((n : Int) / 2) m ss 0)) := hid (by unfold pfF; rw [HN.out, HG1.out, HF.out, hg]; rfl)
  have HS0 := hid hs0
  have HZ := hid hz
  clear hg hs0 hz
  obtain ⟨R, hR⟩ : ∃ R, linFlt ((m : Int) / 2) ((n : Int) / 2) m ss 0 = R := ⟨_, rfl⟩
  have HR := hid hR
  rw [hR] at HV
  clear hR
  go_enter Try.func58, Try.ntmps58
  go_wp2_with fail
  refine (calls_bool (l02Side_any _ _) HSH.out).mono ?_
  rintro e w' ⟨rfl, rfl⟩
  go_wp2_with fail
  refine (calls_bool (l02Side_any _ _) HSW.out).mono ?_
  rintro e w' ⟨rfl, rfl⟩
  obtain ⟨Wd, hWd⟩ : ∃ q, q = (m : Int) / 2 := ⟨_, rfl⟩
  obtain ⟨Hd, hHd⟩ : ∃ q, q = (n : Int) / 2 := ⟨_, rfl⟩
  rw [← hWd] at HSW HR
  rw [← hHd] at HSH HR
  obtain ⟨W1, W2⟩ := side_bd HSW.out
  obtain ⟨H1, H2⟩ := side_bd HSH.out
  have hWd' := hWd.symm
  have hHd' := hHd.symm
  clear hWd hHd
  go_wp2_with fail
  clear hWd' hHd'
  go_loopg [8] n (fun g i wr => ∃ k : Nat, k ≤ n ∧ i = .int .i64 k ∧ g = n - k ∧ Hid (linFlt Wd Hd m (ss.drop k) k = R) ∧ Hid (Box wr w.heap.size 39 #[.int .i64 Wd, .int .i64 Hd, .slice none 0 0]) ∧ Hid (Below w.heap.size w wr))
  case atStart => exact ⟨0, Nat.zero_le _, rfl, rfl, HR, hid (Box.new w _ _), hid (bal (Below.refl _ _) _)⟩
  case round =>
    obtain ⟨k, hk, rfl, hg, HL, KP, HB⟩ := hrel
    obtain ⟨wo, rfl⟩ : ∃ z, z = wr := ⟨_, rfl⟩
    by_cases hlt : k < n
    · obtain ⟨l, hlk⟩ : ∃ s, ss[k]? = some s := ⟨_, List.getElem?_eq_getElem (by have := HN.out; omega)⟩
      have HLK := hid hlk
      have hlm := HS.out l (List.mem_of_getElem? hlk)
      obtain ⟨b2, off2, e2, -, hck⟩ := (HZ.out.below HB.out) k l hlk
      obtain ⟨rfl, rfl⟩ : b = b2 ∧ off = off2 := by simpa using e2
      obtain ⟨z, hlz⟩ : ∃ z, l.size = z := ⟨_, rfl⟩
      rw [hlz] at hlm
      clear e2 hlk hc0
      by_cases hzm : z = m
      · subst hzm
        have hne : ((z : Int) != (z : Int)) = false := by simp
        obtain ⟨r, hr⟩ : ∃ r, rowFlt Wd Hd k (byteL l) 0 = r := ⟨_, rfl⟩
        have HRR := hid hr
        clear hr
        go_wp2_with fail
        go_loopg [9] z (fun g i wx => ∃ x : Nat, x ≤ z ∧ i = .int .i64 x ∧ g = z - x ∧ Hid (rowFlt Wd Hd k ((byteL l).drop x) x = r) ∧ Hid (Box wx w.heap.size 39 #[.int .i64 Wd, .int .i64 Hd, .slice none 0 0]) ∧ Hid (Below w.heap.size w wx))
        case atStart => exact ⟨0, Nat.zero_le _, rfl, rfl, HRR, KP, HB⟩
        case round =>
          obtain ⟨x, hx, rfl, hg2, HX, KPx, HBx⟩ := hrel
          clear hck
          by_cases hxl : x < z
          · have hxs : x < l.size := by omega
            obtain ⟨by', hby⟩ : ∃ b : Int, ((l[x]'hxs).toNat : Int) = b := ⟨_, rfl⟩
            have HBY : Hid ((byteL l)[x]? = some by') := hid (by rw [byte_at l x hxs, hby])
            have bd := byte_bd HBY.out
            have HST := hid (rowFlt_step (W := Wd) (H := Hd) (y := k) HBY.out)
            obtain ⟨b3, off3, e3, -, hck3⟩ := (HZ.out.below HBx.out) k l HLK.out
            obtain ⟨rfl, rfl⟩ : b = b3 ∧ off = off3 := by simpa using e3
            clear e3
            have Pz := KPx.out.lt
            by_cases hc : chF Wd Hd x k by' = 0
            · skip
              have HE : Hid (rowFlt Wd Hd k ((byteL l).drop (x + 1)) (x + 1) = r) := hid (by have h1 := HX.out; rw [HST.out, if_pos hc] at h1; exact h1)
              obtain ⟨f, hf⟩ : ∃ f, chF Wd Hd x k by' = f := ⟨_, rfl⟩
              rw [hf] at hc
              have HFF := hid hf
              have hfb : (f != 0) = false := by simp [hc]
              clear hf hc
              go_wp2_with fail
              refine (calls_int0 (l05Char_any _ Wd Hd x k by' _ _ KPx.out HSW.out HSH.out) HFF.out).mono ?_
              rintro e w2 ⟨rfl, hb2⟩
              have KP2 := hid (Box.keep KPx.out hb2)
              have HB2 := hid (bbl HBx.out hb2)
              clear hb2 hck3 Pz
              go_wp2_with fail
              go_roundg (z - (x + 1))
              case measure => omega
              case rel => exact ⟨x + 1, by omega, by go_num, rfl, HE, KP2, HB2⟩
            · skip
              have HE : Hid (R = some (chF Wd Hd x k by', k, x)) := hid (by have h1 := HX.out; rw [HST.out, if_neg hc] at h1; exact lin_row HLK.out HL.out hlz (HRR.out.trans h1.symm))
              obtain ⟨f, hf⟩ : ∃ f, chF Wd Hd x k by' = f := ⟨_, rfl⟩
              rw [hf] at hc HE
              have HFF := hid hf
              have hfb : (f != 0) = true := by simp [hc]
              clear hf hc
              go_wp2_with fail
              refine (calls_int0 (l05Char_any _ Wd Hd x k by' _ _ KPx.out HSW.out HSH.out) HFF.out).mono ?_
              rintro e w2 ⟨rfl, hb2⟩
              have KP2 := hid (Box.keep KPx.out hb2)
              have HB2 := hid (bbl HBx.out hb2)
              clear hb2 hck3 Pz
              go_wp2_with fail
              go_ret3
              exact ⟨ret_i3 (by rw [HV.out, HE.out]; rfl) (by rw [HV.out, HE.out]; rfl) (by rw [HV.out, HE.out]; rfl), HB2.out⟩
          · obtain rfl : x = z := by omega
            have HE : Hid (linFlt Wd Hd x (ss.drop (k + 1)) (k + 1) = R) := hid (lin_next HLK.out HL.out hlz (by have h1 := HX.out; rw [rowFlt_end (by rw [byteL_length]; omega)] at h1; rw [HRR.out, ← h1]))
            go_wp2_with fail
            go_roundg (n - (k + 1))
            case measure => omega
            case rel => exact ⟨k + 1, by omega, by go_num, rfl, HE, KPx, HBx⟩
      · have hne : ((z : Int) != (m : Int)) = true := by simp; omega
        have HE := hid (lin_bad HLK.out HL.out (by omega))
        go_wp2_with fail
        go_ret3
        exact ⟨ret_i3 (by rw [HV.out, HE.out]; rfl) (by rw [HV.out, HE.out]; rfl) (by rw [HV.out, HE.out]; rfl), HB.out⟩
    · obtain rfl : k = n := by omega
      have HE : Hid (R = none) := hid (by rw [← HL.out]; exact linFlt_end (by have := HN.out; omega))
      go_wp2_with fail
      go_ret3
      exact ⟨ret_i3 (by rw [HV.out, HE.out]; rfl) (by rw [HV.out, HE.out]; rfl) (by rw [HV.out, HE.out]; rfl), HB.out⟩
end Go.Proofs.Ytgcgaoblbhojnaa

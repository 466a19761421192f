/- Merged texts: Pg, Rp, Fq, WPictureFault. -/
import Derived.Test.YtgcgaoblbhojnaaFnPicturesM2
import Derived.Test.YtgcgaoblbhojnaaNu
import Derived.Test.YtgcgaoblbhojnaaNo
import Derived.Test.YtgcgaoblbhojnaaNp
import Derived.Test.YtgcgaoblbhojnaaFnPicturesM1
import Derived.Test.YtgcgaoblbhojnaaAu
import Derived.Test.YtgcgaoblbhojnaaPx
import Derived.Deep.RegionHeld3
import Derived.Lib.OwnKind
import Derived.Test.YtgcgaoblbhojnaaPp
namespace Go.Proofs.Ytgcgaoblbhojnaa
set_option linter.unusedSimpArgs false
set_option linter.unusedVariables false
open Go.ChangeShapes Go.WideShapes Go.ChangeAt Go.RowKit
set_option maxRecDepth 100000 in
set_option maxHeartbeats 8000000 in
theorem l05Fault_any (A : Option Addr) (c : Nat) (ss : List ByteArray) (w : World) (hz : StrsR w w.heap.size A ss) (hl : ss.length ≤ 1048576) (hs : ∀ s ∈ ss, s.size ≤ 1048576) :
    Calls Try.prog 58 #[.slice A ss.length c] w fun e w' => e = .returned (.tuple #[.int .i64 (pfF ss).1, .int .i64 (pfF ss).2.1, .int .i64 (pfF ss).2.2]) ∧ Below w.heap.size w w' := by
  obtain ⟨n, hn⟩ : ∃ n, ss.length = n := ⟨_, rfl⟩
  rw [hn] at hl ⊢
  have HN := hid hn
  have HS := hid hs
  clear hn hs
  cases hg : goodB n
  · have HV : Hid (pfF ss = (1, 0, 0)) := hid (by unfold pfF; rw [HN.out, hg]; rfl)
    rcases good_not hg with hp | ⟨hp, hsd⟩
    · have hb : (((n : Nat) : Int) % 2 == 0) = true := by simp; omega
      clear hg hp
      go_enter Try.func58, Try.ntmps58
      go_wp2_with fail
      go_ret3
      exact ⟨ret_i3 (by rw [HV.out]) (by rw [HV.out]) (by rw [HV.out]), Below.refl _ _⟩
    · have hb : (((n : Nat) : Int) % 2 == 0) = false := by simp; omega
      have HSD := hid hsd
      clear hg hp hsd
      go_enter Try.func58, Try.ntmps58
      go_wp2_with fail
      refine (calls_bool (l02Side_any _ _) HSD.out).mono ?_
      rintro e w' ⟨rfl, rfl⟩
      go_wp2_with fail
      go_ret3
      exact ⟨ret_i3 (by rw [HV.out]) (by rw [HV.out]) (by rw [HV.out]), Below.refl _ _⟩
  have hgb := good_bd hg
  obtain ⟨g1, g2, g3⟩ := hgb
  obtain ⟨s0, hs0⟩ : ∃ s, ss[0]? = some s := ⟨_, List.getElem?_eq_getElem (by have := HN.out; omega)⟩
  have hm0 := HS.out s0 (List.mem_of_getElem? hs0)
  obtain ⟨m, hm⟩ : ∃ m, s0.size = m := ⟨_, rfl⟩
  have HF : Hid (fsz ss = m) := hid (by rw [← hm]; unfold fsz; cases ss with | nil => simp at hs0 | cons a tl => (simp at hs0; subst hs0; rfl))
  obtain ⟨b, off, rfl, hbl, hc0⟩ := hz 0 s0 hs0
  rw [Nat.add_zero] at hc0
  rw [hm] at hm0
  have HSH := hid (good_side hg)
  have hbn : (((n : Nat) : Int) % 2 == 0) = false := by simp; omega
  have HG1 := hid hg
  clear hg
  cases hg : goodB m
  · have HV : Hid (pfF ss = (1, 0, 0)) := hid (by unfold pfF; rw [HN.out, HG1.out, HF.out, hg]; rfl)
    clear hs0
    rcases good_not hg with hp | ⟨hp, hsd⟩
    · have hb : (((m : Nat) : Int) % 2 == 0) = true := by simp; omega
      clear hg hp
      go_enter Try.func58, Try.ntmps58
      go_wp2_with fail
      refine (calls_bool (l02Side_any _ _) HSH.out).mono ?_
      rintro e w' ⟨rfl, rfl⟩
      go_wp2_with fail
      go_ret3
      exact ⟨ret_i3 (by rw [HV.out]) (by rw [HV.out]) (by rw [HV.out]), Below.refl _ _⟩
    · have hb : (((m : Nat) : Int) % 2 == 0) = false := by simp; omega
      have HSD := hid hsd
      clear hg hp hsd
      go_enter Try.func58, Try.ntmps58
      go_wp2_with fail
      refine (calls_bool (l02Side_any _ _) HSH.out).mono ?_
      rintro e w' ⟨rfl, rfl⟩
      go_wp2_with fail
      refine (calls_bool (l02Side_any _ _) HSD.out).mono ?_
      rintro e w' ⟨rfl, rfl⟩
      go_wp2_with fail
      go_ret3
      exact ⟨ret_i3 (by rw [HV.out]) (by rw [HV.out]) (by rw [HV.out]), Below.refl _ _⟩
  obtain ⟨m1, m2, m3⟩ := good_bd hg
  have hbm : (((m : Nat) : Int) % 2 == 0) = false := by simp; omega
  have HSW := hid (good_side hg)
  have HV : Hid (pfF ss = trip (linFlt ((m : Int) / 2) ((n : Int) / 2) m ss 0)) := hid (by unfold pfF; rw [HN.out, HG1.out, HF.out, hg]; rfl)
  have HS0 := hid hs0
  have HZ := hid hz
  clear hg hs0 hz
  obtain ⟨R, hR⟩ : ∃ R, linFlt ((m : Int) / 2) ((n : Int) / 2) m ss 0 = R := ⟨_, rfl⟩
  have HR := hid hR
  rw [hR] at HV
  clear hR
  go_enter Try.func58, Try.ntmps58
  go_wp2_with fail
  refine (calls_bool (l02Side_any _ _) HSH.out).mono ?_
  rintro e w' ⟨rfl, rfl⟩
  go_wp2_with fail
  refine (calls_bool (l02Side_any _ _) HSW.out).mono ?_
  rintro e w' ⟨rfl, rfl⟩
  obtain ⟨Wd, hWd⟩ : ∃ q, q = (m : Int) / 2 := ⟨_, rfl⟩
  obtain ⟨Hd, hHd⟩ : ∃ q, q = (n : Int) / 2 := ⟨_, rfl⟩
  rw [← hWd] at HSW HR
  rw [← hHd] at HSH HR
  obtain ⟨W1, W2⟩ := side_bd HSW.out
  obtain ⟨H1, H2⟩ := side_bd HSH.out
  have hWd' := hWd.symm
  have hHd' := hHd.symm
  clear hWd hHd
  go_wp2_with fail
  clear hWd' hHd'
  go_loopg [8] n (fun g i wr => ∃ k : Nat, k ≤ n ∧ i = .int .i64 k ∧ g = n - k ∧ Hid (linFlt Wd Hd m (ss.drop k) k = R) ∧ Hid (Box wr w.heap.size 39 #[.int .i64 Wd, .int .i64 Hd, .slice none 0 0]) ∧ Hid (Below w.heap.size w wr))
  case atStart => exact ⟨0, Nat.zero_le _, rfl, rfl, HR, hid (Box.new w _ _), hid (bal (Below.refl _ _) _)⟩
  case round =>
    obtain ⟨k, hk, rfl, hg, HL, KP, HB⟩ := hrel
    obtain ⟨wo, rfl⟩ : ∃ z, z = wr := ⟨_, rfl⟩
    by_cases hlt : k < n
    · obtain ⟨l, hlk⟩ : ∃ s, ss[k]? = some s := ⟨_, List.getElem?_eq_getElem (by have := HN.out; omega)⟩
      have HLK := hid hlk
      have hlm := HS.out l (List.mem_of_getElem? hlk)
      obtain ⟨b2, off2, e2, -, hck⟩ := (HZ.out.below HB.out) k l hlk
      obtain ⟨rfl, rfl⟩ : b = b2 ∧ off = off2 := by simpa using e2
      obtain ⟨z, hlz⟩ : ∃ z, l.size = z := ⟨_, rfl⟩
      rw [hlz] at hlm
      clear e2 hlk hc0
      by_cases hzm : z = m
      · subst hzm
        have hne : ((z : Int) != (z : Int)) = false := by simp
        obtain ⟨r, hr⟩ : ∃ r, rowFlt Wd Hd k (byteL l) 0 = r := ⟨_, rfl⟩
        have HRR := hid hr
        clear hr
        go_wp2_with fail
        go_loopg [9] z (fun g i wx => ∃ x : Nat, x ≤ z ∧ i = .int .i64 x ∧ g = z - x ∧ Hid (rowFlt Wd Hd k ((byteL l).drop x) x = r) ∧ Hid (Box wx w.heap.size 39 #[.int .i64 Wd, .int .i64 Hd, .slice none 0 0]) ∧ Hid (Below w.heap.size w wx))
        case atStart => exact ⟨0, Nat.zero_le _, rfl, rfl, HRR, KP, HB⟩
        case round =>
          obtain ⟨x, hx, rfl, hg2, HX, KPx, HBx⟩ := hrel
          clear hck
          by_cases hxl : x < z
          · have hxs : x < l.size := by omega
            obtain ⟨by', hby⟩ : ∃ b : Int, ((l[x]'hxs).toNat : Int) = b := ⟨_, rfl⟩
            have HBY : Hid ((byteL l)[x]? = some by') := hid (by rw [byte_at l x hxs, hby])
            have bd := byte_bd HBY.out
            have HST := hid (rowFlt_step (W := Wd) (H := Hd) (y := k) HBY.out)
            obtain ⟨b3, off3, e3, -, hck3⟩ := (HZ.out.below HBx.out) k l HLK.out
            obtain ⟨rfl, rfl⟩ : b = b3 ∧ off = off3 := by simpa using e3
            clear e3
            have Pz := KPx.out.lt
            by_cases hc : chF Wd Hd x k by' = 0
            · skip
              have HE : Hid (rowFlt Wd Hd k ((byteL l).drop (x + 1)) (x + 1) = r) := hid (by have h1 := HX.out; rw [HST.out, if_pos hc] at h1; exact h1)
              obtain ⟨f, hf⟩ : ∃ f, chF Wd Hd x k by' = f := ⟨_, rfl⟩
              rw [hf] at hc
              have HFF := hid hf
              have hfb : (f != 0) = false := by simp [hc]
              clear hf hc
              go_wp2_with fail
              refine (calls_int0 (l05Char_any _ Wd Hd x k by' _ _ KPx.out HSW.out HSH.out) HFF.out).mono ?_
              rintro e w2 ⟨rfl, hb2⟩
              have KP2 := hid (Box.keep KPx.out hb2)
              have HB2 := hid (bbl HBx.out hb2)
              clear hb2 hck3 Pz
              go_wp2_with fail
              go_roundg (z - (x + 1))
              case measure => omega
              case rel => exact ⟨x + 1, by omega, by go_num, rfl, HE, KP2, HB2⟩
            · skip
              have HE : Hid (R = some (chF Wd Hd x k by', k, x)) := hid (by have h1 := HX.out; rw [HST.out, if_neg hc] at h1; exact lin_row HLK.out HL.out hlz (HRR.out.trans h1.symm))
              obtain ⟨f, hf⟩ : ∃ f, chF Wd Hd x k by' = f := ⟨_, rfl⟩
              rw [hf] at hc HE
              have HFF := hid hf
              have hfb : (f != 0) = true := by simp [hc]
              clear hf hc
              go_wp2_with fail
              refine (calls_int0 (l05Char_any _ Wd Hd x k by' _ _ KPx.out HSW.out HSH.out) HFF.out).mono ?_
              rintro e w2 ⟨rfl, hb2⟩
              have KP2 := hid (Box.keep KPx.out hb2)
              have HB2 := hid (bbl HBx.out hb2)
              clear hb2 hck3 Pz
              go_wp2_with fail
              go_ret3
              exact ⟨ret_i3 (by rw [HV.out, HE.out]; rfl) (by rw [HV.out, HE.out]; rfl) (by rw [HV.out, HE.out]; rfl), HB2.out⟩
          · obtain rfl : x = z := by omega
            have HE : Hid (linFlt Wd Hd x (ss.drop (k + 1)) (k + 1) = R) := hid (lin_next HLK.out HL.out hlz (by have h1 := HX.out; rw [rowFlt_end (by rw [byteL_length]; omega)] at h1; rw [HRR.out, ← h1]))
            go_wp2_with fail
            go_roundg (n - (k + 1))
            case measure => omega
            case rel => exact ⟨k + 1, by omega, by go_num, rfl, HE, KPx, HBx⟩
      · have hne : ((z : Int) != (m : Int)) = true := by simp; omega
        have HE := hid (lin_bad HLK.out HL.out (by omega))
        go_wp2_with fail
        go_ret3
        exact ⟨ret_i3 (by rw [HV.out, HE.out]; rfl) (by rw [HV.out, HE.out]; rfl) (by rw [HV.out, HE.out]; rfl), HB.out⟩
    · obtain rfl : k = n := by omega
      have HE : Hid (R = none) := hid (by rw [← HL.out]; exact linFlt_end (by have := HN.out; omega))
      go_wp2_with fail
      go_ret3
      exact ⟨ret_i3 (by rw [HV.out, HE.out]; rfl) (by rw [HV.out, HE.out]; rfl) (by rw [HV.out, HE.out]; rfl), HB.out⟩
end Go.Proofs.Ytgcgaoblbhojnaa
namespace Go.Proofs.Ytgcgaoblbhojnaa
set_option linter.unusedSimpArgs false
set_option linter.unusedVariables false
open Go.ChangeShapes Go.WideShapes Go.ChangeAt Go.RowKit
/-- The byte at a place of lines. -/
def atB (ss : List ByteArray) (x y : Int) : Int := (byteL (ss.getD y.toNat ⟨#[]⟩)).getD x.toNat 0
def zsP (W H : Int) (ss : List ByteArray) (n : Nat) : List Int := (List.range n).map fun (k : Nat) => kdF (atB ss (ptX W H k) (ptY W H k))
theorem zsP_length (W H : Int) (ss : List ByteArray) (n : Nat) : (zsP W H ss n).length = n := by simp [zsP]
/-- What ReadPicture answers. -/
def rpW (ss : List ByteArray) : Int := if (pfF ss).1 = 0 then (fsz ss : Int) / 2 else 0
def rpH (ss : List ByteArray) : Int := if (pfF ss).1 = 0 then (ss.length : Int) / 2 else 0
def rpN (ss : List ByteArray) : Nat := if (pfF ss).1 = 0 then (inner ((fsz ss : Int) / 2) ((ss.length : Int) / 2)).toNat else 0
def rpL (ss : List ByteArray) : List Int := if (pfF ss).1 = 0 then zsP ((fsz ss : Int) / 2) ((ss.length : Int) / 2) ss (inner ((fsz ss : Int) / 2) ((ss.length : Int) / 2)).toNat else []
def rpC (ss : List ByteArray) : Int := if (pfF ss).1 = 0 then 0 else 8
theorem rp_yes {ss : List ByteArray} (h : (pfF ss).1 = 0) : rpW ss = (fsz ss : Int) / 2 ∧ rpH ss = (ss.length : Int) / 2 ∧ rpN ss = (inner ((fsz ss : Int) / 2) ((ss.length : Int) / 2)).toNat ∧ rpL ss = zsP ((fsz ss : Int) / 2) ((ss.length : Int) / 2) ss (inner ((fsz ss : Int) / 2) ((ss.length : Int) / 2)).toNat ∧ rpC ss = 0 := by simp [rpW, rpH, rpN, rpL, rpC, h]
theorem rp_no {ss : List ByteArray} (h : ¬ (pfF ss).1 = 0) : rpW ss = 0 ∧ rpH ss = 0 ∧ rpN ss = 0 ∧ rpL ss = [] ∧ rpC ss = 8 := by simp [rpW, rpH, rpN, rpL, rpC, h]
theorem rpL_length (ss : List ByteArray) : (rpL ss).length = rpN ss := by
  unfold rpL rpN
  split
  · exact zsP_length _ _ _ _
  · rfl
theorem row_not {W H y : Int} : ∀ (bs : List Int) (x : Nat) k z, rowFlt W H y bs x = some (k, z) → k ≠ 0 := by
  intro bs
  induction bs with
  | nil => intro x k z h; simp [rowFlt] at h
  | cons b bs ih =>
    intro x k z h
    rw [rowFlt] at h
    split at h
    · exact ih _ _ _ h
    · rename_i hne
      injection h with h
      injection h with h1 h2
      omega
theorem row_none {W H y : Int} : ∀ (bs : List Int) (x : Nat), rowFlt W H y bs x = none → ∀ (i : Nat) b, bs[i]? = some b → chF W H ((x + i : Nat) : Int) y b = 0 := by
  intro bs
  induction bs with
  | nil => intro x h i b hi; simp at hi
  | cons a bs ih =>
    intro x h i b hi
    rw [rowFlt] at h
    split at h
    · rename_i h0
      cases i with
      | zero => simp at hi; subst hi; simpa using h0
      | succ i =>
        have := ih (x + 1) h i b (by simpa using hi)
        rwa [show x + 1 + i = x + (i + 1) by omega] at this
    · cases h
theorem lin_not {W H : Int} {m : Nat} : ∀ (ls : List ByteArray) (y : Nat) k q x, linFlt W H m ls y = some (k, q, x) → k ≠ 0 := by
  intro ls
  induction ls with
  | nil => intro y k q x h; simp [linFlt] at h
  | cons l ls ih =>
    intro y k q x h
    rw [linFlt] at h
    split at h
    · split at h
      · rename_i hr
        injection h with h
        injection h with h1 h2
        subst h1
        exact row_not _ _ _ _ hr
      · exact ih _ _ _ _ h
    · injection h with h
      injection h with h1 h2
      omega
theorem lin_none {W H : Int} {m : Nat} : ∀ (ls : List ByteArray) (y : Nat), linFlt W H m ls y = none → ∀ (i : Nat) l, ls[i]? = some l → l.size = m ∧ rowFlt W H ((y + i : Nat) : Int) (byteL l) 0 = none := by
  intro ls
  induction ls with
  | nil => intro y h i l hi; simp at hi
  | cons a ls ih =>
    intro y h i l hi
    rw [linFlt] at h
    split at h
    · rename_i hs
      split at h
      · cases h
      · rename_i hr
        cases i with
        | zero => simp at hi; subst hi; exact ⟨hs, by simpa using hr⟩
        | succ i =>
          have := ih (y + 1) h i l (by simpa using hi)
          rwa [show y + 1 + i = y + (i + 1) by omega] at this
    · cases h
/-- A picture without a fault. -/
theorem pf_ok {ss : List ByteArray} (h : (pfF ss).1 = 0) : goodB ss.length = true ∧ goodB (fsz ss) = true ∧ ∀ (y : Nat) l, ss[y]? = some l → l.size = fsz ss ∧ ∀ (x : Nat) b, (byteL l)[x]? = some b → chF ((fsz ss : Int) / 2) ((ss.length : Int) / 2) x y b = 0 := by
  unfold pfF at h
  cases h1 : goodB ss.length
  · rw [h1] at h; simp at h
  cases h2 : goodB (fsz ss)
  · rw [h1, h2] at h; simp at h
  rw [h1, h2] at h
  simp only [if_true] at h
  refine ⟨rfl, rfl, ?_⟩
  cases hl : linFlt ((fsz ss : Int) / 2) ((ss.length : Int) / 2) (fsz ss) ss 0 with
  | some t =>
    obtain ⟨k, q, x⟩ := t
    rw [hl] at h
    exact absurd h (lin_not _ _ _ _ _ hl)
  | none =>
    intro y l hy
    obtain ⟨e1, e2⟩ := lin_none _ _ hl y l hy
    refine ⟨e1, fun x b hb => ?_⟩
    have := row_none _ _ e2 x b hb
    rwa [Nat.zero_add, Nat.zero_add] at this
theorem rpN_le (ss : List ByteArray) : rpN ss ≤ 112 := by
  unfold rpN
  split
  · rename_i h
    obtain ⟨g1, g2, -⟩ := pf_ok h
    have := inner_le (good_side g2) (good_side g1)
    omega
  · omega
/-- The breaks read so far. -/
def rpRow (W H : Int) (ss : List ByteArray) (N k : Nat) : List Int := zsP W H ss k ++ List.replicate (N - k) 0
theorem rpRow_zero (W H : Int) (ss : List ByteArray) (N : Nat) : rpRow W H ss N 0 = List.replicate N 0 := by simp [rpRow, zsP]
theorem rpRow_full (W H : Int) (ss : List ByteArray) (N : Nat) : rpRow W H ss N N = zsP W H ss N := by simp [rpRow]
theorem rpRow_set {W H : Int} {ss : List ByteArray} {N k : Nat} (h : k < N) : (vals (rpRow W H ss N k)).set k (.int .i64 (kdF (atB ss (ptX W H k) (ptY W H k)))) = vals (rpRow W H ss N (k + 1)) := by
  have e : List.replicate (N - k) (0 : Int) = 0 :: List.replicate (N - (k + 1)) 0 := by
    rw [show N - k = (N - (k + 1)) + 1 by omega]; rfl
  have e2 : zsP W H ss (k + 1) = zsP W H ss k ++ [kdF (atB ss (ptX W H k) (ptY W H k))] := by simp [zsP, List.range_succ]
  unfold rpRow vals
  rw [e, e2]
  simp [List.set_append, zsP_length, List.append_assoc]
theorem rpRow_length (W H : Int) (ss : List ByteArray) {N k : Nat} (h : k ≤ N) : (rpRow W H ss N k).length = N := by simp [rpRow, zsP_length]; omega
/-- A point's byte. -/
theorem at_point {ss : List ByteArray} (h : (pfF ss).1 = 0) {k : Nat} (hk : (k : Int) < inner ((fsz ss : Int) / 2) ((ss.length : Int) / 2)) : ∃ (X Y : Nat) (l : ByteArray) (z : Int), ptX ((fsz ss : Int) / 2) ((ss.length : Int) / 2) k = X ∧ ptY ((fsz ss : Int) / 2) ((ss.length : Int) / 2) k = Y ∧ ss[Y]? = some l ∧ (byteL l)[X]? = some z ∧ X < l.size ∧ X ≤ 16 ∧ Y ≤ 16 ∧ Y < ss.length ∧ atB ss (ptX ((fsz ss : Int) / 2) ((ss.length : Int) / 2) k) (ptY ((fsz ss : Int) / 2) ((ss.length : Int) / 2) k) = z ∧ 0 ≤ kdF z := by
  obtain ⟨g1, g2, hl⟩ := pf_ok h
  have hW := good_side g2
  have hH := good_side g1
  obtain ⟨a1, a2, a3⟩ := good_bd g1
  obtain ⟨b1, b2, b3⟩ := good_bd g2
  have pb := pt_bd hW hH (Int.natCast_nonneg k) hk
  obtain ⟨X, hX⟩ : ∃ X : Nat, ptX ((fsz ss : Int) / 2) ((ss.length : Int) / 2) k = X := ⟨(ptX ((fsz ss : Int) / 2) ((ss.length : Int) / 2) k).toNat, by omega⟩
  obtain ⟨Y, hY⟩ : ∃ Y : Nat, ptY ((fsz ss : Int) / 2) ((ss.length : Int) / 2) k = Y := ⟨(ptY ((fsz ss : Int) / 2) ((ss.length : Int) / 2) k).toNat, by omega⟩
  rw [hX, hY] at pb ⊢
  have hyl : Y < ss.length := by omega
  obtain ⟨l, hly⟩ : ∃ l, ss[Y]? = some l := ⟨_, List.getElem?_eq_getElem hyl⟩
  obtain ⟨e1, e2⟩ := hl Y l hly
  have hxl : X < l.size := by omega
  have hbx : X < (byteL l).length := by rw [byteL_length]; exact hxl
  obtain ⟨z, hz⟩ : ∃ z, (byteL l)[X]? = some z := ⟨_, List.getElem?_eq_getElem hbx⟩
  have hc := e2 X z hz
  refine ⟨X, Y, l, z, rfl, rfl, hly, hz, hxl, by omega, by omega, hyl, ?_, ?_⟩
  · simp [atB, List.getD_eq_getElem?_getD, hly, hz]
  · have hh : hasP ((fsz ss : Int) / 2) ((ss.length : Int) / 2) X Y = true := by simp only [hasP, inR, Bool.and_eq_true, decide_eq_true_eq, beq_iff_eq]; omega
    have he : edgeP ((fsz ss : Int) / 2) ((ss.length : Int) / 2) X Y = false := by simp only [edgeP, Bool.or_eq_false_iff, beq_eq_false_iff_ne]; omega
    unfold chF at hc
    rw [hh, he] at hc
    simp only [if_true, Bool.false_eq_true, if_false] at hc
    by_cases hk : kdF z < 0
    · rw [if_pos hk] at hc; omega
    · omega
theorem own_setboxP {w : World} {lo n g cap p : Nat} {T T' : TypeId} {cs : List Value} {ds : Array Value} (hb : Box w p T' ds) (h : w.ownsRow lo T 1 (.slice (some ⟨g, 0, none⟩) n cap) n cs) (hT : T ≠ T') (i : Nat) (v : Value) : Box (w.setCell ⟨g, i, none⟩ v) p T' ds := by
  refine Box.set hb (fun e => ?_) v
  have e' : p = g := e
  subst e'
  obtain ⟨c, f, h1⟩ := Go.Lib.ownsRow_kind h p rfl
  have h2 : w.heap[p]? = _ := hb
  rw [h1] at h2
  injection h2 with h2
  injection h2 with _ h2 _
  exact hT h2
theorem own_drewP {w : World} {lo s n : Nat} {T : TypeId} {v : Value} {cs : List Value} (h : w.ownsRow lo T s v n cs) : w.drew.ownsRow lo T s v n cs := h
theorem own_asideP {w w' : World} {lo lo' s s' n n' : Nat} {T T' : TypeId} {v v' : Value} {cs cs' : List Value} (h : w.ownsRow lo T s v n cs) (h' : w.ownsRow lo' T' s' v' n' cs') (hg : w.grownBy w' v'.ownBlock) (hT : T ≠ T') : w'.ownsRow lo T s v n cs := World.ownsRow.kept h hg (own_ne h h' hT)
set_option maxRecDepth 100000 in
set_option maxHeartbeats 8000000 in
theorem implReadPicture_any (A : Option Addr) (c : Nat) (ss : List ByteArray) (w : World) (hz : StrsR w w.heap.size A ss) (hl : ss.length ≤ 1048576) (hs : ∀ s ∈ ss, s.size ≤ 1048576) :
    Calls Try.prog 37 #[.slice A ss.length c] w fun e w' => (∃ A' c', e = .returned (.tuple #[.agg #[.int .i64 (rpW ss), .int .i64 (rpH ss), .slice A' (rpN ss) c'], .int .i64 (rpC ss)]) ∧ w'.ownsRow w.heap.size 2 1 (.slice A' (rpN ss) c') (rpN ss) (vals (rpL ss))) ∧ Below w.heap.size w w' := by
  have HS := hid hs
  have HZ := hid hz
  obtain ⟨fk, hfk⟩ : ∃ k, (pfF ss).1 = k := ⟨_, rfl⟩
  obtain ⟨fy, hfy⟩ : ∃ k, (pfF ss).2.1 = k := ⟨_, rfl⟩
  obtain ⟨fx, hfx⟩ : ∃ k, (pfF ss).2.2 = k := ⟨_, rfl⟩
  have HF := hid (And.intro hfk (And.intro hfy hfx))
  obtain ⟨n, hn⟩ : ∃ n, ss.length = n := ⟨_, rfl⟩
  have HN := hid hn
  have HPF : Hid (∀ wx : World, StrsR wx wx.heap.size A ss → Calls Try.prog 21 #[.slice A n c] wx fun e w' => e = .returned (.tuple #[.int .i64 fk, .int .i64 fy, .int .i64 fx]) ∧ Below wx.heap.size wx w') := hid (fun wx h => by have := implPictureFault_any A c ss wx h hl hs; rw [hfk, hfy, hfx, hn] at this; exact this)
  rw [hn] at hl ⊢
  by_cases h0 : ¬ (fk = 0)
  · have HV := hid (rp_no (ss := ss) (by rw [hfk]; exact h0))
    clear hfk hfy hfx hz hs hn
    go_enter Try.func37, Try.ntmps37
    go_wp2_with fail
    refine (HPF.out _ ((HZ.out.below (bal (Below.refl _ _) _)).more (by simp))).mono ?_
    rintro e w1 ⟨rfl, hb1⟩
    have KR := hid (Box.keep (Box.new w 39 #[.int .i64 0, .int .i64 0, .slice none 0 0]) hb1)
    have HB := hid (bstep (bal (Below.refl _ _) _) hb1)
    clear hb1
    obtain ⟨Ra, Rb, Rc⟩ := KR.out.three
    have Rz := KR.out.lt
    have Rf := KR.out.free
    go_wp2_with fail
    have hE := HB.out
    refine bodyPost_ret (v := .tuple #[.agg #[.int .i64 0, .int .i64 0, .slice none 0 0], .int .i64 8]) (by simp [results, Try.results37, go_sem, *]) rfl ⟨⟨none, 0, by rw [HV.out.1, HV.out.2.1, HV.out.2.2.1, HV.out.2.2.2.2], by rw [HV.out.2.2.1, HV.out.2.2.2.1]; exact World.ownsRow_nil _ _ _ _⟩, ?_⟩
    repeat (refine Below.setCell ?_ (by simp) _)
    exact hE
  have h0' : fk = 0 := Decidable.not_not.1 h0
  clear h0
  subst h0'
  obtain ⟨g1, g2, -⟩ := pf_ok hfk
  have HPT := hid (fun k hk => at_point hfk (k := k) hk)
  have HV := hid (rp_yes hfk)
  have hgb := good_bd g1
  have hgm := good_bd g2
  obtain ⟨m, hm⟩ : ∃ m, fsz ss = m := ⟨_, rfl⟩
  rw [hn] at hgb HV HPT g1
  rw [hm] at hgm g2 HV HPT
  obtain ⟨n1, n2, n3⟩ := hgb
  obtain ⟨m1, m2, m3⟩ := hgm
  obtain ⟨s0, hs0⟩ : ∃ s, ss[0]? = some s := ⟨_, List.getElem?_eq_getElem (by omega)⟩
  have hm0 : s0.size = m := by rw [← hm]; unfold fsz; cases ss with | nil => simp at hs0 | cons a tl => (simp at hs0; subst hs0; rfl)
  obtain ⟨b, off, rfl, hbl, hc0⟩ := hz 0 s0 hs0
  have HSW := hid (good_side g2)
  have HSH := hid (good_side g1)
  have t1 : Int.tdiv (m : Int) 2 = (m : Int) / 2 := Int.tdiv_eq_ediv_of_nonneg (by omega)
  have t2 : Int.tdiv (n : Int) 2 = (n : Int) / 2 := Int.tdiv_eq_ediv_of_nonneg (by omega)
  rw [Nat.add_zero] at hc0
  have HC0 := hid hc0
  clear hfk hfy hfx hz hs hn hm hs0 g1 g2 hc0 HS
  go_enter Try.func37, Try.ntmps37
  go_wp2_with fail
  refine (HPF.out _ ((HZ.out.below (bal (Below.refl _ _) _)).more (by simp))).mono ?_
  rintro e w1 ⟨rfl, hb1⟩
  have KR1 := hid (Box.keep (Box.new w 39 #[.int .i64 0, .int .i64 0, .slice none 0 0]) hb1)
  have HB1 := hid (bstep (bal (Below.refl _ _) _) hb1)
  have hc1 : w1.cell? ⟨b, off, none⟩ = some (.string s0) := (HB1.out.cell (p := ⟨b, off, none⟩) hbl).trans HC0.out
  have hbz : b < w1.heap.size := by have := HB1.out.size; omega
  clear hb1
  go_wp2_with fail
  refine (newPanel_any _ _ _ HSW.out HSH.out).mono ?_
  rintro e w2 ⟨⟨A2, c2, rfl, ho2⟩, hb2⟩
  have KR2 := hid (Box.keep KR1.out hb2)
  have HB2 := hid (bbl HB1.out hb2)
  have hz1 := KR1.out.lt
  have HO2 := hid (Go.Joins.ownsRow_le ho2 (show w.heap.size + 1 ≤ w1.heap.size from hz1) : w2.ownsRow (w.heap.size + 1) 2 1 _ _ _)
  have hz2 := hb2.size
  obtain ⟨Wd, hWd⟩ : ∃ q, (m : Int) / 2 = q := ⟨_, rfl⟩
  obtain ⟨Hd, hHd⟩ : ∃ q, (n : Int) / 2 = q := ⟨_, rfl⟩
  rw [hWd, hHd] at HPT HV HO2 ⊢
  rw [hWd] at HSW
  rw [hHd] at HSH
  obtain ⟨W1, W2⟩ := side_bd HSW.out
  obtain ⟨H1, H2⟩ := side_bd HSH.out
  have hib := inner_le HSW.out HSH.out
  obtain ⟨N, hN⟩ : ∃ N : Nat, inner Wd Hd = N := ⟨(inner Wd Hd).toNat, by omega⟩
  have hN112 : N ≤ 112 := by omega
  rw [hN, Int.toNat_natCast] at HO2 HV ⊢
  rw [hN] at HPT
  have HIN := hid hN
  clear hb2 ho2 hc1 hbz t1 t2 hWd hHd hib hN KR1 HB1
  go_wp2_with fail
  refine (points_any Wd Hd A2 N c2 _ HSW.out HSH.out).mono ?_
  rintro e w3 ⟨⟨A3, c3, rfl, ho3⟩, hb3⟩
  have KR3 := hid (Box.keep (Box.alloc KR2.out _) hb3)
  have KP3 := hid (Box.keep (Box.new w2 39 #[.int .i64 Wd, .int .i64 Hd, .slice A2 N c2]) hb3)
  have HB3 := hid (bbl (bal HB2.out _) hb3)
  have HO3 := hid (own_keep (HO2.out.alloc _) hb3)
  have hz3 := HB2.out.size
  rw [HIN.out, Int.toNat_natCast] at ho3
  have HQ3 := hid (Go.Joins.ownsRow_le ho3 (show w.heap.size + 1 ≤ _ by simp; omega) : w3.ownsRow (w.heap.size + 1) 69 2 _ _ _)
  clear hb3 ho3 HB2 KR2 HO2
  rw [HIN.out, Int.toNat_natCast]
  go_wp2_with fail
  go_loopg [31] N (fun g i wr => ∃ k : Nat, k ≤ N ∧ i = .int .i64 k ∧ g = N - k ∧ Hid (wr.ownsRow (w.heap.size + 1) 2 1 (.slice A2 N c2) N (vals (rpRow Wd Hd ss N k))) ∧ Hid (wr.ownsRow (w.heap.size + 1) 69 2 (.slice A3 N c3) N (ptCells Wd Hd N)) ∧ Hid (Box wr w.heap.size 39 #[.int .i64 0, .int .i64 0, .slice none 0 0]) ∧ Hid (Box wr w2.heap.size 39 #[.int .i64 Wd, .int .i64 Hd, .slice A2 N c2]) ∧ Hid (Below w.heap.size w wr))
  case atStart => exact ⟨0, Nat.zero_le _, rfl, rfl, by rw [rpRow_zero]; exact HO3, HQ3, KR3, KP3, HB3⟩
  case round =>
    clear KR3 KP3 HB3 HO3 HQ3
    obtain ⟨k, hk, rfl, hg, HO, HQ, KR, KP, HB⟩ := hrel
    obtain ⟨Pa, Pb, Pc⟩ := KP.out.three
    have Pz := KP.out.lt
    have hwz := HB.out.size
    by_cases hlt : k < N
    · obtain ⟨X, Y, l, z, hX, hY, hly, hlz, hxl, x16, y16, hyl, hat, hkz⟩ := HPT.out k (by omega)
      obtain ⟨b2, off2, e2, -, hcl⟩ := (HZ.out.below HB.out) Y l hly
      obtain ⟨rfl, rfl⟩ : b = b2 ∧ off = off2 := by simpa using e2
      have hbz : b < wr.heap.size := by omega
      obtain ⟨z', hz'⟩ : ∃ q : Int, ((l[X]'hxl).toNat : Int) = q := ⟨_, rfl⟩
      have hzz : z' = z := by have := byte_at l X hxl; rw [hlz, hz'] at this; injection this with this; exact this.symm
      subst hzz
      have hnl : Y < n := hyl
      have HXY := hid (And.intro hX hY)
      have HAT := hid hat
      have HCL := hid hcl
      clear hX hY hly hlz hat e2 hyl hcl
      rcases Go.Joins.ownsRow_forms HO.out with ⟨_, hn0⟩ | ⟨g2, cp, ep⟩
      · exact absurd hlt (by omega)
      simp only [Value.slice.injEq] at ep
      obtain ⟨rfl, -, rfl⟩ := ep
      rcases Go.Joins.ownsRow_forms HQ.out with ⟨_, hn0⟩ | ⟨g3, cq, eq3⟩
      · exact absurd hlt (by omega)
      simp only [Value.slice.injEq] at eq3
      obtain ⟨rfl, -, rfl⟩ := eq3
      have q1 := ptCells_at0 Wd Hd hlt
      have q2 := ptCells_at1 Wd Hd hlt
      rw [HXY.out.1] at q1
      rw [HXY.out.2] at q2
      have hq0 : wr.cell? ⟨g3, k * 2, none⟩ = some (.int .i64 X) := (World.ownsRow.cellAt HQ.out (k * 2) (by omega)).trans q1
      have hq1 : wr.cell? ⟨g3, k * 2 + 1, none⟩ = some (.int .i64 Y) := (World.ownsRow.cellAt HQ.out (k * 2 + 1) (by omega)).trans q2
      have hgq := (World.ownsRow.lt HQ.out g3 rfl).2
      clear q1 q2
      go_wp2_with fail
      obtain ⟨w5, hw5⟩ : ∃ zz : World, zz = wr.alloc (.cells #[.int .i64 X, .int .i64 Y] 69) := ⟨_, rfl⟩
      rw [← hw5]
      have KT := hid (show Box w5 wr.heap.size 69 #[.int .i64 X, .int .i64 Y] by rw [hw5]; exact Box.new _ _ _)
      have hb5 : Below wr.heap.size wr w5 := hw5 ▸ bal (Below.refl _ _) _
      have hb55 := hid hb5
      clear hw5 hq0 hq1 hgq Pa Pb Pc Pz
      have KR5 := hid (Box.keep KR.out hb5)
      have KP5 := hid (Box.keep KP.out hb5)
      have HB5 := hid (bbl HB.out hb5)
      have HO5 := hid (own_keep HO.out hb5)
      have hcl5 : w5.cell? ⟨b, off + Y, none⟩ = some (.string l) := (hb5.cell (p := ⟨b, off + Y, none⟩) (by show b < _; omega)).trans HCL.out
      have HCL5 := hid hcl5
      have hbz5 := hb5.size
      clear hb5 HB KR KP HO HCL hcl5
      obtain ⟨Pa, Pb, Pc⟩ := KP5.out.three
      have Pz := KP5.out.lt
      obtain ⟨Ta, Tb⟩ := KT.out.two
      have Tz := KT.out.lt
      have hcl5 := HCL5.out
      have hbz' : b < w5.heap.size := by omega
      have hst := World.ownsRow.stored HO5.out k (.int .i64 (kdF z'))
      have hfro := World.ownsRow.frozenAt HO5.out k
      obtain ⟨hg1, hg2⟩ := HO5.out.lt g2 rfl
      have hck : w5.cell? ⟨g2, k, none⟩ = some ((vals (rpRow Wd Hd ss N k)).getD k (.int .i64 0)) := (World.ownsRow.cellAt HO5.out k (by omega)).trans (by
        have hlk : k < (vals (rpRow Wd Hd ss N k)).length := by simp [vals, rpRow_length Wd Hd ss hk]; omega
        rw [List.getD_eq_getElem?_getD, List.getElem?_eq_getElem hlk]; rfl)
      obtain ⟨v0, hv0⟩ : ∃ v0, (vals (rpRow Wd Hd ss N k)).getD k (.int .i64 0) = v0 := ⟨_, rfl⟩
      rw [hv0] at hck
      have HST := hid hst
      clear hst hv0
      have hgw : w.heap.size + 1 ≤ g2 := hg1
      go_region_held3 (fun zz => zz.cell? ⟨w2.heap.size, 2, none⟩ = some (.slice (some ⟨g2, 0, none⟩) N c2) ∧ zz.cell? ⟨b, off + Y, none⟩ = some (.string l) ∧ zz.cell? ⟨wr.heap.size, 0, none⟩ = some (.int .i64 X) ∧ zz.cell? ⟨wr.heap.size, 1, none⟩ = some (.int .i64 Y))
        (first | exact ⟨(Box.three KP5.out).2.2, HCL5.out, (Box.two KT.out).1, (Box.two KT.out).2⟩ | exact ⟨(Box.three (Box.drew (own_setboxP KP5.out HO5.out (by decide) _ _))).2.2, ((Below.setCell (Below.refl w.heap.size w5) (show w.heap.size ≤ g2 by omega) _).drew.cell (p := ⟨b, off + Y, none⟩) hbl).trans HCL5.out, (Box.two (Box.drew (own_setboxP KT.out HO5.out (by decide) _ _))).1, (Box.two (Box.drew (own_setboxP KT.out HO5.out (by decide) _ _))).2⟩)
        (first | (go_at_call 64; refine (markKind_any z' _).mono ?_; rintro e w' ⟨rfl, rfl⟩))
      go_wp2_with fail
      go_roundg (N - (k + 1))
      case measure => omega
      case rel =>
        have h1 := HST.out.1
        have h2 : (vals (rpRow Wd Hd ss N k)).set k (.int .i64 (kdF z')) = vals (rpRow Wd Hd ss N (k + 1)) := by rw [← HAT.out]; exact rpRow_set hlt
        rw [h2] at h1
        exact ⟨k + 1, by omega, by go_num, rfl, hid (own_drewP h1), hid (own_drewP (own_asideP (own_keep HQ.out hb55.out) HO5.out HST.out.2 (by decide))), hid (Box.drew (own_setboxP KR5.out HO5.out (by decide) _ _)), hid (Box.drew (own_setboxP KP5.out HO5.out (by decide) _ _)), hid (Below.setCell HB5.out (by show w.heap.size ≤ g2; omega) _).drew⟩
    · obtain rfl : k = N := by omega
      obtain ⟨Ra, Rb, Rc⟩ := KR.out.three
      have Rz := KR.out.lt
      have Rf := KR.out.free
      go_wp2_with fail
      have hE := HB.out
      have ho := HO.out
      rw [rpRow_full] at ho
      refine bodyPost_ret (v := .tuple #[.agg #[.int .i64 Wd, .int .i64 Hd, .slice A2 k c2], .int .i64 0]) (by simp [results, Try.results37, go_sem, *]) rfl ⟨⟨A2, c2, by rw [HV.out.1, HV.out.2.1, HV.out.2.2.1, HV.out.2.2.2.2], ?_⟩, ?_⟩
      · rw [HV.out.2.2.1, HV.out.2.2.2.1]
        refine Go.Joins.ownsRow_le (base := w.heap.size + 1) ?_ (by omega)
        repeat (refine ownsRow_setCell_below ?_ (by simp) _)
        exact ho
      · repeat (refine Below.setCell ?_ (by simp) _)
        exact hE
set_option maxRecDepth 100000 in
set_option maxHeartbeats 8000000 in
theorem specReadPicture_any (A : Option Addr) (c : Nat) (ss : List ByteArray) (w : World) (hz : StrsR w w.heap.size A ss) (hl : ss.length ≤ 1048576) (hs : ∀ s ∈ ss, s.size ≤ 1048576) :
    Calls Try.prog 36 #[.slice A ss.length c] w fun e w' => (∃ A' c', e = .returned (.tuple #[.agg #[.int .i64 (rpW ss), .int .i64 (rpH ss), .slice A' (rpN ss) c'], .int .i64 (rpC ss)]) ∧ w'.ownsRow w.heap.size 2 1 (.slice A' (rpN ss) c') (rpN ss) (vals (rpL ss))) ∧ Below w.heap.size w w' := by
  have HS := hid hs
  have HZ := hid hz
  obtain ⟨fk, hfk⟩ : ∃ k, (pfF ss).1 = k := ⟨_, rfl⟩
  obtain ⟨fy, hfy⟩ : ∃ k, (pfF ss).2.1 = k := ⟨_, rfl⟩
  obtain ⟨fx, hfx⟩ : ∃ k, (pfF ss).2.2 = k := ⟨_, rfl⟩
  have HF := hid (And.intro hfk (And.intro hfy hfx))
  obtain ⟨n, hn⟩ : ∃ n, ss.length = n := ⟨_, rfl⟩
  have HN := hid hn
  have HPF : Hid (∀ wx : World, StrsR wx wx.heap.size A ss → Calls Try.prog 58 #[.slice A n c] wx fun e w' => e = .returned (.tuple #[.int .i64 fk, .int .i64 fy, .int .i64 fx]) ∧ Below wx.heap.size wx w') := hid (fun wx h => by have := l05Fault_any A c ss wx h hl hs; rw [hfk, hfy, hfx, hn] at this; exact this)
  rw [hn] at hl ⊢
  by_cases h0 : ¬ (fk = 0)
  · have HV := hid (rp_no (ss := ss) (by rw [hfk]; exact h0))
    clear hfk hfy hfx hz hs hn
    go_enter Try.func36, Try.ntmps36
    go_wp2_with fail
    refine (HPF.out _ ((HZ.out.below (bal (Below.refl _ _) _)).more (by simp))).mono ?_
    rintro e w1 ⟨rfl, hb1⟩
    have KR := hid (Box.keep (Box.new w 39 #[.int .i64 0, .int .i64 0, .slice none 0 0]) hb1)
    have HB := hid (bstep (bal (Below.refl _ _) _) hb1)
    clear hb1
    obtain ⟨Ra, Rb, Rc⟩ := KR.out.three
    have Rz := KR.out.lt
    have Rf := KR.out.free
    go_wp2_with fail
    have hE := HB.out
    refine bodyPost_ret (v := .tuple #[.agg #[.int .i64 0, .int .i64 0, .slice none 0 0], .int .i64 8]) (by simp [results, Try.results36, go_sem, *]) rfl ⟨⟨none, 0, by rw [HV.out.1, HV.out.2.1, HV.out.2.2.1, HV.out.2.2.2.2], by rw [HV.out.2.2.1, HV.out.2.2.2.1]; exact World.ownsRow_nil _ _ _ _⟩, ?_⟩
    repeat (refine Below.setCell ?_ (by simp) _)
    exact hE
  have h0' : fk = 0 := Decidable.not_not.1 h0
  clear h0
  subst h0'
  obtain ⟨g1, g2, -⟩ := pf_ok hfk
  have HPT := hid (fun k hk => at_point hfk (k := k) hk)
  have HV := hid (rp_yes hfk)
  have hgb := good_bd g1
  have hgm := good_bd g2
  obtain ⟨m, hm⟩ : ∃ m, fsz ss = m := ⟨_, rfl⟩
  rw [hn] at hgb HV HPT g1
  rw [hm] at hgm g2 HV HPT
  obtain ⟨n1, n2, n3⟩ := hgb
  obtain ⟨m1, m2, m3⟩ := hgm
  obtain ⟨s0, hs0⟩ : ∃ s, ss[0]? = some s := ⟨_, List.getElem?_eq_getElem (by omega)⟩
  have hm0 : s0.size = m := by rw [← hm]; unfold fsz; cases ss with | nil => simp at hs0 | cons a tl => (simp at hs0; subst hs0; rfl)
  obtain ⟨b, off, rfl, hbl, hc0⟩ := hz 0 s0 hs0
  have HSW := hid (good_side g2)
  have HSH := hid (good_side g1)
  have t1 : Int.tdiv (m : Int) 2 = (m : Int) / 2 := Int.tdiv_eq_ediv_of_nonneg (by omega)
  have t2 : Int.tdiv (n : Int) 2 = (n : Int) / 2 := Int.tdiv_eq_ediv_of_nonneg (by omega)
  rw [Nat.add_zero] at hc0
  have HC0 := hid hc0
  clear hfk hfy hfx hz hs hn hm hs0 g1 g2 hc0 HS
  go_enter Try.func36, Try.ntmps36
  go_wp2_with fail
  refine (HPF.out _ ((HZ.out.below (bal (Below.refl _ _) _)).more (by simp))).mono ?_
  rintro e w1 ⟨rfl, hb1⟩
  have KR1 := hid (Box.keep (Box.new w 39 #[.int .i64 0, .int .i64 0, .slice none 0 0]) hb1)
  have HB1 := hid (bstep (bal (Below.refl _ _) _) hb1)
  have hc1 : w1.cell? ⟨b, off, none⟩ = some (.string s0) := (HB1.out.cell (p := ⟨b, off, none⟩) hbl).trans HC0.out
  have hbz : b < w1.heap.size := by have := HB1.out.size; omega
  clear hb1
  go_wp2_with fail
  refine (l02New_any _ _ _ HSW.out HSH.out).mono ?_
  rintro e w2 ⟨⟨A2, c2, rfl, ho2⟩, hb2⟩
  have KR2 := hid (Box.keep KR1.out hb2)
  have HB2 := hid (bbl HB1.out hb2)
  have hz1 := KR1.out.lt
  have HO2 := hid (Go.Joins.ownsRow_le ho2 (show w.heap.size + 1 ≤ w1.heap.size from hz1) : w2.ownsRow (w.heap.size + 1) 2 1 _ _ _)
  have hz2 := hb2.size
  obtain ⟨Wd, hWd⟩ : ∃ q, (m : Int) / 2 = q := ⟨_, rfl⟩
  obtain ⟨Hd, hHd⟩ : ∃ q, (n : Int) / 2 = q := ⟨_, rfl⟩
  rw [hWd, hHd] at HPT HV HO2 ⊢
  rw [hWd] at HSW
  rw [hHd] at HSH
  obtain ⟨W1, W2⟩ := side_bd HSW.out
  obtain ⟨H1, H2⟩ := side_bd HSH.out
  have hib := inner_le HSW.out HSH.out
  obtain ⟨N, hN⟩ : ∃ N : Nat, inner Wd Hd = N := ⟨(inner Wd Hd).toNat, by omega⟩
  have hN112 : N ≤ 112 := by omega
  rw [hN, Int.toNat_natCast] at HO2 HV ⊢
  rw [hN] at HPT
  have HIN := hid hN
  clear hb2 ho2 hc1 hbz t1 t2 hWd hHd hib hN KR1 HB1
  go_wp2_with fail
  have KR3 := hid (Box.alloc KR2.out (.cells #[.int .i64 Wd, .int .i64 Hd, .slice A2 N c2] 39))
  have KP3 := hid (Box.new w2 39 #[.int .i64 Wd, .int .i64 Hd, .slice A2 N c2])
  have HB3 := hid (bal HB2.out (.cells #[.int .i64 Wd, .int .i64 Hd, .slice A2 N c2] 39))
  have HO3 := hid (HO2.out.alloc (.cells #[.int .i64 Wd, .int .i64 Hd, .slice A2 N c2] 39))
  clear HB2 KR2 HO2
  go_loopg [8] N (fun g i wr => ∃ k : Nat, k ≤ N ∧ i = .int .i64 k ∧ g = N - k ∧ Hid (wr.ownsRow (w.heap.size + 1) 2 1 (.slice A2 N c2) N (vals (rpRow Wd Hd ss N k))) ∧ Hid (Box wr w.heap.size 39 #[.int .i64 0, .int .i64 0, .slice none 0 0]) ∧ Hid (Box wr w2.heap.size 39 #[.int .i64 Wd, .int .i64 Hd, .slice A2 N c2]) ∧ Hid (Below w.heap.size w wr))
  case atStart => exact ⟨0, Nat.zero_le _, rfl, rfl, by rw [rpRow_zero]; exact HO3, KR3, KP3, HB3⟩
  case round =>
    clear KR3 KP3 HB3 HO3
    obtain ⟨k, hk, rfl, hg, HO, KR, KP, HB⟩ := hrel
    obtain ⟨Pa, Pb, Pc⟩ := KP.out.three
    have Pz := KP.out.lt
    have hwz := HB.out.size
    by_cases hlt : k < N
    · obtain ⟨X, Y, l, z, hX, hY, hly, hlz, hxl, x16, y16, hyl, hat, hkz⟩ := HPT.out k (by omega)
      obtain ⟨b2, off2, e2, -, hcl⟩ := (HZ.out.below HB.out) Y l hly
      obtain ⟨rfl, rfl⟩ : b = b2 ∧ off = off2 := by simpa using e2
      have hbz : b < wr.heap.size := by omega
      obtain ⟨z', hz'⟩ : ∃ q : Int, ((l[X]'hxl).toNat : Int) = q := ⟨_, rfl⟩
      have hzz : z' = z := by have := byte_at l X hxl; rw [hlz, hz'] at this; injection this with this; exact this.symm
      subst hzz
      have hnl : Y < n := hyl
      have HXY := hid (And.intro hX hY)
      have HAT := hid hat
      have HCL := hid hcl
      clear hX hY hly hlz hat e2 hyl hcl
      rcases Go.Joins.ownsRow_forms HO.out with ⟨_, hn0⟩ | ⟨g2, cp, ep⟩
      · exact absurd hlt (by omega)
      simp only [Value.slice.injEq] at ep
      obtain ⟨rfl, -, rfl⟩ := ep
      go_wp2_with fail
      refine (l02Point_any w2.heap.size Wd Hd k _ wr KP.out HSW.out HSH.out (by omega) (by rw [HIN.out]; omega)).mono ?_
      rintro e w4 ⟨rfl, hb4⟩
      rw [HXY.out.1, HXY.out.2]
      have KR4 := hid (Box.keep KR.out hb4)
      have KP4 := hid (Box.keep KP.out hb4)
      have HB4 := hid (bbl HB.out hb4)
      have HO4 := hid (own_keep HO.out hb4)
      have HCL4 := hid ((hb4.cell (p := ⟨b, off + Y, none⟩) hbz).trans HCL.out)
      have hbz4 := hb4.size
      clear hb4 Pa Pb Pc Pz HB KR KP HO HCL
      obtain ⟨Pa, Pb, Pc⟩ := KP4.out.three
      have Pz := KP4.out.lt
      go_wp2_with fail
      obtain ⟨w5, hw5⟩ : ∃ zz : World, zz = w4.alloc (.cells #[.int .i64 X, .int .i64 Y] 69) := ⟨_, rfl⟩
      rw [← hw5]
      have KT := hid (show Box w5 w4.heap.size 69 #[.int .i64 X, .int .i64 Y] by rw [hw5]; exact Box.new _ _ _)
      have hb5 : Below w4.heap.size w4 w5 := hw5 ▸ bal (Below.refl _ _) _
      have HCL := HCL4
      have HB := HB4
      have KR := KR4
      have KP := KP4
      have HO := HO4
      clear hw5 Pa Pb Pc Pz HB4 KR4 KP4 HO4 HCL4
      have KR5 := hid (Box.keep KR.out hb5)
      have KP5 := hid (Box.keep KP.out hb5)
      have HB5 := hid (bbl HB.out hb5)
      have HO5 := hid (own_keep HO.out hb5)
      have hcl5 : w5.cell? ⟨b, off + Y, none⟩ = some (.string l) := (hb5.cell (p := ⟨b, off + Y, none⟩) (by show b < _; omega)).trans HCL.out
      have HCL5 := hid hcl5
      have hbz5 := hb5.size
      clear hb5 HB KR KP HO HCL hcl5
      obtain ⟨Pa, Pb, Pc⟩ := KP5.out.three
      have Pz := KP5.out.lt
      obtain ⟨Ta, Tb⟩ := KT.out.two
      have Tz := KT.out.lt
      have hcl5 := HCL5.out
      have hbz' : b < w5.heap.size := by omega
      have hst := World.ownsRow.stored HO5.out k (.int .i64 (kdF z'))
      have hfro := World.ownsRow.frozenAt HO5.out k
      obtain ⟨hg1, hg2⟩ := HO5.out.lt g2 rfl
      have hck : w5.cell? ⟨g2, k, none⟩ = some ((vals (rpRow Wd Hd ss N k)).getD k (.int .i64 0)) := (World.ownsRow.cellAt HO5.out k (by omega)).trans (by
        have hlk : k < (vals (rpRow Wd Hd ss N k)).length := by simp [vals, rpRow_length Wd Hd ss hk]; omega
        rw [List.getD_eq_getElem?_getD, List.getElem?_eq_getElem hlk]; rfl)
      obtain ⟨v0, hv0⟩ : ∃ v0, (vals (rpRow Wd Hd ss N k)).getD k (.int .i64 0) = v0 := ⟨_, rfl⟩
      rw [hv0] at hck
      have HST := hid hst
      clear hst hv0
      have hgw : w.heap.size + 1 ≤ g2 := hg1
      go_region_held3 (fun zz => zz.cell? ⟨w2.heap.size, 2, none⟩ = some (.slice (some ⟨g2, 0, none⟩) N c2) ∧ zz.cell? ⟨b, off + Y, none⟩ = some (.string l) ∧ zz.cell? ⟨w4.heap.size, 0, none⟩ = some (.int .i64 X) ∧ zz.cell? ⟨w4.heap.size, 1, none⟩ = some (.int .i64 Y))
        (first | exact ⟨(Box.three KP5.out).2.2, HCL5.out, (Box.two KT.out).1, (Box.two KT.out).2⟩ | exact ⟨(Box.three (Box.drew (own_setboxP KP5.out HO5.out (by decide) _ _))).2.2, ((Below.setCell (Below.refl w.heap.size w5) (show w.heap.size ≤ g2 by omega) _).drew.cell (p := ⟨b, off + Y, none⟩) hbl).trans HCL5.out, (Box.two (Box.drew (own_setboxP KT.out HO5.out (by decide) _ _))).1, (Box.two (Box.drew (own_setboxP KT.out HO5.out (by decide) _ _))).2⟩)
        (first | (go_at_call 83; refine (l05Kind_any z' _).mono ?_; rintro e w' ⟨rfl, rfl⟩))
      go_wp2_with fail
      go_roundg (N - (k + 1))
      case measure => omega
      case rel =>
        have h1 := HST.out.1
        have h2 : (vals (rpRow Wd Hd ss N k)).set k (.int .i64 (kdF z')) = vals (rpRow Wd Hd ss N (k + 1)) := by rw [← HAT.out]; exact rpRow_set hlt
        rw [h2] at h1
        exact ⟨k + 1, by omega, by go_num, rfl, hid (own_drewP h1), hid (Box.drew (own_setboxP KR5.out HO5.out (by decide) _ _)), hid (Box.drew (own_setboxP KP5.out HO5.out (by decide) _ _)), hid (Below.setCell HB5.out (by show w.heap.size ≤ g2; omega) _).drew⟩
    · obtain rfl : k = N := by omega
      obtain ⟨Ra, Rb, Rc⟩ := KR.out.three
      have Rz := KR.out.lt
      have Rf := KR.out.free
      go_wp2_with fail
      have hE := HB.out
      have ho := HO.out
      rw [rpRow_full] at ho
      refine bodyPost_ret (v := .tuple #[.agg #[.int .i64 Wd, .int .i64 Hd, .slice A2 k c2], .int .i64 0]) (by simp [results, Try.results36, go_sem, *]) rfl ⟨⟨A2, c2, by rw [HV.out.1, HV.out.2.1, HV.out.2.2.1, HV.out.2.2.2.2], ?_⟩, ?_⟩
      · rw [HV.out.2.2.1, HV.out.2.2.2.1]
        refine Go.Joins.ownsRow_le (base := w.heap.size + 1) ?_ (by omega)
        repeat (refine ownsRow_setCell_below ?_ (by simp) _)
        exact ho
      · repeat (refine Below.setCell ?_ (by simp) _)
        exact hE
end Go.Proofs.Ytgcgaoblbhojnaa
namespace Go.Proofs.Ytgcgaoblbhojnaa
set_option linter.unusedSimpArgs false
set_option linter.unusedVariables false
open Go.ChangeShapes Go.WideShapes Go.ChangeAt Go.RowKit
theorem kd_sg {k : Int} (h : k = 0 ∨ k = 1 ∨ k = 2) : kdF (sgB k) = k := by
  rcases h with rfl | rfl | rfl <;> rfl
theorem decL_side {n : Int} (h : side n = true) : decL n = [48 + n] := by
  rcases side_cases h with rfl | rfl | rfl | rfl | rfl | rfl | rfl | rfl <;> decide
theorem byteL_dec {n : Int} (h : side n = true) : byteL (decS n) = [48 + n] := by
  unfold decS
  rw [byteL_nums (decL_bd n), decL_side h]
theorem dec_side {n : Int} (h : side n = true) : rdB (decS n) = true ∧ rdR (decS n) = n := by
  have hb := byteL_dec h
  have hn := side_bd h
  have h45 : ¬ (byteL (decS n))[0]? = some 45 := by rw [hb]; simp; omega
  have hT : rdT (decS n) = decS n := by unfold rdT; rw [if_neg h45]
  have hV : rdV (decS n) = n := by unfold rdV; rw [if_neg h45, hT, hb]; simp [rdN]; omega
  have hsz : (decS n).size = 1 := by rw [← byteL_length, hb]; rfl
  have hp : RdP (decS n) := by
    unfold RdP
    rw [hT, hV, hsz, hb]
    refine ⟨by omega, by omega, ?_, rfl⟩
    intro i b hi
    cases i with
    | zero => simp at hi; unfold digitP; omega
    | succ i => simp at hi
  exact ⟨(rd_yes hp).2, (rd_yes hp).1.trans hV⟩
/-- The text of a valid panel is read back. -/
theorem text_read {W H : Int} {zs : List Int} (hv : validB W H zs = true) : pnO (txS W H zs) = true ∧ pnW (txS W H zs) = W ∧ pnH (txS W H zs) = H ∧ pnL (txS W H zs) = zs ∧ pnN (txS W H zs) = zs.length := by
  have hs := valid_sides hv
  have w1 := side_bd hs.1
  have w2 := side_bd hs.2
  have hb : byteL (txS W H zs) = (48 + W) :: 120 :: (48 + H) :: 58 :: zs.map sgB := by
    rw [tx_bytes, decL_side hs.1, decL_side hs.2]; rfl
  have hl := valid_len hv
  have hi := inner_le hs.1 hs.2
  have hsz : (txS W H zs).size = zs.length + 4 := by rw [← byteL_length, hb]; simp
  obtain ⟨s, hsd⟩ : ∃ s, txS W H zs = s := ⟨_, rfl⟩
  rw [hsd] at hb hsz ⊢
  have i120 : (byteL s).idxOf 120 = 1 := by
    rw [hb]
    have e : ((48 + W) == 120) = false := by simp; omega
    simp [List.idxOf_cons, e]
  have i58 : (byteL s).idxOf 58 = 3 := by
    rw [hb]
    have e : ((48 + W) == 58) = false := by simp; omega
    have e2 : ((48 + H) == 58) = false := by simp; omega
    simp [List.idxOf_cons, e, e2]
  have p120 : plI s 120 = 1 := by unfold plI; rw [i120, if_pos (by omega)]; rfl
  have p58 : plI s 58 = 3 := by unfold plI; rw [i58, if_pos (by omega)]; rfl
  have eA : imA s = decS W := by
    apply byteL_inj
    unfold imA
    rw [byteL_extract, hb, p120, byteL_dec hs.1]
    rfl
  have eB : imB s = decS H := by
    apply byteL_inj
    unfold imB
    rw [byteL_extract, hb, p120, p58, byteL_dec hs.2]
    rfl
  have eZ : imZ s = zs := by
    unfold imZ
    rw [hb, p58]
    show ((zs.map sgB).map kdF) = zs
    rw [List.map_map]
    conv => rhs; rw [← List.map_id zs]
    apply List.map_congr_left
    intro z hz
    obtain ⟨i, hi2, e⟩ := List.getElem_of_mem hz
    exact kd_sg (validB_kinds hv (j := i) (by rw [List.getElem?_eq_getElem hi2, e]))
  obtain ⟨dA1, dA2⟩ := dec_side hs.1
  obtain ⟨dB1, dB2⟩ := dec_side hs.2
  have hP : imP s := ⟨by omega, by omega, by omega⟩
  have hQ : imQ s := by
    unfold imQ
    rw [eA, eB, eZ, dA2, dB2]
    exact ⟨dA1, dB1, hv, hsd⟩
  have hO := pn_of_im hP hQ
  obtain ⟨_, _, qA, qB, qZ⟩ := im_of_pn hO
  have hL : pnL s = zs := by unfold pnL; rw [if_pos hO, ← qZ, eZ]
  refine ⟨hO, ?_, ?_, hL, by unfold pnN; rw [hL]⟩
  · unfold pnW; rw [if_pos hO, ← qA, eA, dA2]
  · unfold pnH; rw [if_pos hO, ← qB, eB, dB2]
theorem row_all {W H y : Int} : ∀ (bs : List Int) (x : Nat), (∀ (i : Nat) b, bs[i]? = some b → chF W H ((x + i : Nat) : Int) y b = 0) → rowFlt W H y bs x = none := by
  intro bs
  induction bs with
  | nil => intro x _; rfl
  | cons a bs ih =>
    intro x h
    rw [rowFlt, if_pos (by simpa using h 0 a (by simp))]
    refine ih _ (fun i b hb => ?_)
    have := h (i + 1) b (by simpa using hb)
    rwa [show x + (i + 1) = x + 1 + i by omega] at this
theorem lin_all {W H : Int} {m : Nat} : ∀ (ls : List ByteArray) (y : Nat), (∀ (i : Nat) l, ls[i]? = some l → l.size = m ∧ ∀ (x : Nat) b, (byteL l)[x]? = some b → chF W H (x : Int) ((y + i : Nat) : Int) b = 0) → linFlt W H m ls y = none := by
  intro ls
  induction ls with
  | nil => intro y _; rfl
  | cons a ls ih =>
    intro y h
    obtain ⟨h1, h2⟩ := h 0 a (by simp)
    have hr : rowFlt W H y (byteL a) 0 = none := row_all _ _ (fun i b hb => by
      have := h2 i b hb
      rw [Nat.zero_add]
      simpa using this)
    rw [linFlt, if_pos h1, hr]
    refine ih _ (fun i l hl => ?_)
    have := h (i + 1) l (by simpa using hl)
    rwa [show y + (i + 1) = y + 1 + i by omega] at this
theorem brk_kind {W H : Int} {zs : List Int} {x y : Int} (hv : validB W H zs = true) (hh : hasP W H x y = true) (he : edgeP W H x y = false) : brkA W zs x y = 0 ∨ brkA W zs x y = 1 ∨ brkA W zs x y = 2 := by
  obtain ⟨s1, s2, s3, x1, x2, y1, y2, hp⟩ := codeP_parts (inner_code hv hh he)
  obtain ⟨n1, n2⟩ := numF_bd s1 s2 x1 x2 y1 y2 hp
  obtain ⟨k, hk, hkl, hkz⟩ := brk_at s3 n1 n2
  exact validB_kinds hv hkz
theorem ch_pa {W H : Int} {zs : List Int} (hv : validB W H zs = true) (x y : Int) : chF W H x y (paB W H zs x y) = 0 := by
  unfold chF paB
  cases hh : hasP W H x y
  · simp
  · cases he : edgeP W H x y
    · have := brk_kind hv hh he
      have e := kd_sg this
      simp only [if_true, Bool.false_eq_true, if_false]
      rw [e, if_neg (by omega)]
    · simp
theorem paB_bd (W H : Int) (zs : List Int) (x y : Int) : 0 ≤ paB W H zs x y ∧ paB W H zs x y ≤ 255 := by
  unfold paB sgB
  repeat' split
  all_goals omega
theorem mkRow_at {mk : Nat → Nat → Int} {y n x : Nat} {b : Int} (h : (mkRow mk y n)[x]? = some b) : x < n ∧ mk x y = b := by
  have hx : x < n := by have := (List.getElem?_eq_some_iff.1 h).1; rwa [mkRow_length] at this
  simp only [mkRow, List.getElem?_map, List.getElem?_range hx, Option.map_some] at h
  exact ⟨hx, by injection h⟩
theorem byteL_row {mk : Nat → Nat → Int} (hb : ∀ x y, 0 ≤ mk x y ∧ mk x y ≤ 255) (y n : Nat) : byteL (strOfNums (mkRow mk y n)) = mkRow mk y n := by
  apply byteL_nums
  intro b hm
  obtain ⟨i, hi, e⟩ := List.getElem_of_mem hm
  obtain ⟨_, e2⟩ := mkRow_at (b := b) (by rw [List.getElem?_eq_getElem hi, e])
  rw [← e2]
  exact hb _ _
theorem picS_at {mk : Nat → Nat → Int} {m n y : Nat} {l : ByteArray} (h : (picS mk m n)[y]? = some l) : y < n ∧ strOfNums (mkRow mk y m) = l := by
  have hy : y < n := by have := (List.getElem?_eq_some_iff.1 h).1; rwa [picS_length] at this
  simp only [picS, List.getElem?_map, List.getElem?_range hy, Option.map_some] at h
  exact ⟨hy, by injection h⟩
theorem ptbrk {W H : Int} {zs : List Int} (hv : validB W H zs = true) {k : Nat} (hk : k < zs.length) : brkA W zs (ptX W H k) (ptY W H k) = zs.getD k 0 ∧ hasP W H (ptX W H k) (ptY W H k) = true ∧ edgeP W H (ptX W H k) (ptY W H k) = false := by
  have hs := valid_sides hv
  have hl := valid_len hv
  have b := pt_bd hs.1 hs.2 (Int.natCast_nonneg k) (by omega)
  have b1 := side_bd hs.1
  have b2 := side_bd hs.2
  have e := num_pt hs.1 hs.2 (Int.natCast_nonneg k) (by omega : (k : Int) < inner W H)
  refine ⟨by unfold brkA; rw [e, Int.toNat_natCast, List.getD_eq_getElem?_getD], ?_, ?_⟩
  · simp only [hasP, inR, Bool.and_eq_true, decide_eq_true_eq, beq_iff_eq]; omega
  · simp only [edgeP, Bool.or_eq_false_iff, beq_eq_false_iff_ne]; omega
/-- The picture of a valid panel is read back. -/
theorem pic_read {W H : Int} {zs : List Int} (hv : validB W H zs = true) : pfF (ppL W H zs) = (0, 0, 0) ∧ rpW (ppL W H zs) = W ∧ rpH (ppL W H zs) = H ∧ rpN (ppL W H zs) = zs.length ∧ rpL (ppL W H zs) = zs ∧ rpC (ppL W H zs) = 0 := by
  have hs := valid_sides hv
  have w1 := side_bd hs.1
  have w2 := side_bd hs.2
  have hl := valid_len hv
  obtain ⟨W', rfl⟩ : ∃ n : Nat, W = n := ⟨W.toNat, by omega⟩
  obtain ⟨H', rfl⟩ : ∃ n : Nat, H = n := ⟨H.toNat, by omega⟩
  have hb : ∀ x y, 0 ≤ paM W' H' zs x y ∧ paM W' H' zs x y ≤ 255 := fun x y => paB_bd _ _ _ _ _
  have hpp : ppL W' H' zs = picS (paM W' H' zs) (2 * W' + 1) (2 * H' + 1) := by
    unfold ppL; rw [if_pos hv, show (2 * (W' : Int) + 1).toNat = 2 * W' + 1 by omega, show (2 * (H' : Int) + 1).toNat = 2 * H' + 1 by omega]
  have hsize : ∀ y, (strOfNums (mkRow (paM W' H' zs) y (2 * W' + 1))).size = 2 * W' + 1 := fun y => by rw [← byteL_length, byteL_row hb, mkRow_length]
  obtain ⟨ss, hss⟩ : ∃ ss, ppL W' H' zs = ss := ⟨_, rfl⟩
  have hlen : ss.length = 2 * H' + 1 := by rw [← hss, hpp, picS_length]
  have hfs : fsz ss = 2 * W' + 1 := by
    have h0 : ss[0]? = some (strOfNums (mkRow (paM W' H' zs) 0 (2 * W' + 1))) := by
      rw [← hss, hpp]
      simp only [picS, List.getElem?_map, List.getElem?_range (show 0 < 2 * H' + 1 by omega), Option.map_some]
    unfold fsz
    rw [List.headD_eq_head?_getD, List.head?_eq_getElem?, h0]
    exact hsize 0
  have hW2 : ((fsz ss : Int)) / 2 = W' := by rw [hfs]; omega
  have hH2 : ((ss.length : Int)) / 2 = H' := by rw [hlen]; omega
  have g1 : goodB ss.length = true := by rw [hlen]; simp [goodB, inR]; omega
  have g2 : goodB (fsz ss) = true := by rw [hfs]; simp [goodB, inR]; omega
  have hlin : linFlt W' H' (2 * W' + 1) ss 0 = none := by
    apply lin_all
    intro i l hi
    rw [← hss, hpp] at hi
    obtain ⟨hy, rfl⟩ := picS_at hi
    refine ⟨hsize i, fun x b hx => ?_⟩
    rw [byteL_row hb] at hx
    obtain ⟨_, rfl⟩ := mkRow_at hx
    rw [Nat.zero_add]
    exact ch_pa hv _ _
  have hpf : pfF ss = (0, 0, 0) := by
    unfold pfF
    rw [if_pos g1, if_pos g2, hW2, hH2, hfs, hlin]
    rfl
  rw [hss]
  have h0 : (pfF ss).1 = 0 := by rw [hpf]
  obtain ⟨r1, r2, r3, r4, r5⟩ := rp_yes h0
  rw [hW2] at r1 r3 r4
  rw [hH2] at r2 r3 r4
  have hin : (inner (W' : Int) H').toNat = zs.length := by rw [← hl]; simp
  rw [hin] at r3 r4
  refine ⟨hpf, r1, r2, r3, ?_, r5⟩
  rw [r4]
  apply List.ext_getElem?
  intro k
  by_cases hk : k < zs.length
  · obtain ⟨X, Y, l, z, e1, e2, e3, e4, e5, e6, e7, e8, e9, e10⟩ := at_point h0 (k := k) (by rw [hW2, hH2]; omega)
    rw [hW2, hH2] at e1 e2 e9
    have e3' := e3
    rw [← hss, hpp] at e3'
    obtain ⟨_, rfl⟩ := picS_at e3'
    rw [byteL_row hb] at e4
    obtain ⟨_, e11⟩ := mkRow_at e4
    obtain ⟨q1, q2, q3⟩ := ptbrk hv hk
    have hkind := brk_kind hv q2 q3
    simp only [zsP, List.getElem?_map, List.getElem?_range hk, Option.map_some]
    rw [e9, ← e11]
    unfold paM paB
    rw [e1, e2] at q1 q2 q3 hkind
    rw [if_pos q2, q3]
    simp only [Bool.false_eq_true, if_false]
    rw [kd_sg hkind, q1, List.getD_eq_getElem?_getD, List.getElem?_eq_getElem hk]
    rfl
  · rw [List.getElem?_eq_none (by rw [zsP_length]; omega), List.getElem?_eq_none (by omega)]
/-- The picture of what a faultless picture is read to is that picture. -/
theorem read_pic {ss : List ByteArray} (h : (pfF ss).1 = 0) : validB (rpW ss) (rpH ss) (rpL ss) = true ∧ ppL (rpW ss) (rpH ss) (rpL ss) = ss ∧ ppC (rpW ss) (rpH ss) (rpL ss) = 0 := by
  obtain ⟨g1, g2, hl⟩ := pf_ok h
  obtain ⟨r1, r2, r3, r4, r5⟩ := rp_yes h
  have hW := good_side g2
  have hH := good_side g1
  have b1 := good_bd g1
  have b2 := good_bd g2
  have hin := inner_le hW hH
  rw [r1, r2, r4]
  obtain ⟨W, hWd⟩ : ∃ W, (fsz ss : Int) / 2 = W := ⟨_, rfl⟩
  obtain ⟨H, hHd⟩ : ∃ H, (ss.length : Int) / 2 = H := ⟨_, rfl⟩
  have hap := @at_point ss h
  rw [hWd] at hW hin hl hap ⊢
  rw [hHd] at hH hin hl hap ⊢
  obtain ⟨N, hN⟩ : ∃ N, (inner W H).toNat = N := ⟨_, rfl⟩
  rw [hN]
  have hv : validB W H (zsP W H ss N) = true := by
    simp only [validB, hW, hH, Bool.true_and, Bool.and_eq_true, decide_eq_true_eq, List.all_eq_true]
    refine ⟨by rw [zsP_length]; omega, ?_⟩
    intro z hz
    simp only [zsP, List.mem_map, List.mem_range] at hz
    obtain ⟨k, hk, rfl⟩ := hz
    obtain ⟨X, Y, l, z, e1, e2, e3, e4, e5, e6, e7, e8, e9, e10⟩ := hap (k := k) (by omega)
    rw [e9]
    have := kdF_bd z
    simp only [kindOk, inR, decide_eq_true_eq]
    omega
  refine ⟨hv, ?_, by unfold ppC; rw [if_pos hv]⟩
  have eW : (2 * W + 1).toNat = fsz ss := by omega
  have eH : (2 * H + 1).toNat = ss.length := by omega
  unfold ppL
  rw [if_pos hv, eW, eH]
  apply List.ext_getElem?
  intro y
  by_cases hy : y < ss.length
  · obtain ⟨l, hly⟩ : ∃ l, ss[y]? = some l := ⟨_, List.getElem?_eq_getElem hy⟩
    obtain ⟨e1, e2⟩ := hl y l hly
    rw [hly]
    simp only [picS, List.getElem?_map, List.getElem?_range hy, Option.map_some]
    congr 1
    apply byteL_inj
    rw [byteL_row (mk := paM W H (zsP W H ss N)) (fun x y => paB_bd _ _ _ _ _)]
    apply List.ext_getElem?
    intro x
    by_cases hx : x < fsz ss
    · obtain ⟨b, hb⟩ : ∃ b, (byteL l)[x]? = some b := ⟨_, List.getElem?_eq_getElem (by rw [byteL_length]; omega)⟩
      have hc := e2 x b hb
      rw [hb]
      simp only [mkRow, List.getElem?_map, List.getElem?_range hx, Option.map_some]
      congr 1
      unfold paM paB
      unfold chF at hc
      cases hh : hasP W H x y
      · rw [hh] at hc
        simp only [Bool.false_eq_true, if_false] at hc ⊢
        by_cases hq : b = 32
        · exact hq.symm
        · rw [if_neg hq] at hc; omega
      · cases he : edgeP W H x y
        · rw [hh, he] at hc
          simp only [if_true, Bool.false_eq_true, if_false] at hc ⊢
          obtain ⟨s1, s2, s3, x1, x2, y1, y2, hp⟩ := codeP_parts (inner_code hv hh he)
          obtain ⟨n1, n2⟩ := numF_bd s1 s2 x1 x2 y1 y2 hp
          obtain ⟨k, hk, hkl, hkz⟩ := brk_at s3 n1 n2
          rw [zsP_length] at hkl
          obtain ⟨p1, p2⟩ := pt_num s1 s2 x1 x2 y1 y2 hp
          rw [hk] at p1 p2
          have hbz : brkA W (zsP W H ss N) x y = kdF b := by
            have e : (zsP W H ss N)[k]? = some (kdF (atB ss (ptX W H k) (ptY W H k))) := by simp [zsP, hkl]
            rw [hkz] at e
            injection e with e
            rw [e, p1, p2]
            congr 1
            simp [atB, List.getD_eq_getElem?_getD, hly, hb]
          rw [hbz]
          have hkb := kdF_bd b
          by_cases hneg : kdF b < 0
          · rw [if_pos hneg] at hc; omega
          · exact (sg_kd (by omega)).1
        · rw [hh, he] at hc
          simp only [if_true] at hc ⊢
          by_cases hq : b = 46
          · exact hq.symm
          · rw [if_neg hq] at hc; omega
    · rw [List.getElem?_eq_none (by rw [mkRow_length]; omega), List.getElem?_eq_none (by rw [byteL_length]; omega)]
  · rw [List.getElem?_eq_none (by rw [picS_length]; omega), List.getElem?_eq_none (by omega)]
/-- The kinds of faults. -/
theorem row_kind {W H y : Int} : ∀ (bs : List Int) (x : Nat) k z, rowFlt W H y bs x = some (k, z) → 0 ≤ k ∧ k ≤ 5 := by
  intro bs
  induction bs with
  | nil => intro x k z h; simp [rowFlt] at h
  | cons b bs ih =>
    intro x k z h
    rw [rowFlt] at h
    split at h
    · exact ih _ _ _ h
    · injection h with h
      injection h with h1 h2
      subst h1
      unfold chF
      repeat' split
      all_goals omega
theorem lin_kind {W H : Int} {m : Nat} : ∀ (ls : List ByteArray) (y : Nat) k q x, linFlt W H m ls y = some (k, q, x) → 0 ≤ k ∧ k ≤ 5 := by
  intro ls
  induction ls with
  | nil => intro y k q x h; simp [linFlt] at h
  | cons l ls ih =>
    intro y k q x h
    rw [linFlt] at h
    split at h
    · split at h
      · rename_i hr
        injection h with h
        injection h with h1 h2
        subst h1
        exact row_kind _ _ _ _ hr
      · exact ih _ _ _ _ h
    · injection h with h
      injection h with h1 h2
      omega
theorem pf_kind (ss : List ByteArray) : 0 ≤ (pfF ss).1 ∧ (pfF ss).1 ≤ 5 := by
  unfold pfF
  split
  · split
    · cases hl : linFlt ((fsz ss : Int) / 2) ((ss.length : Int) / 2) (fsz ss) ss 0 with
      | none => simp [trip]
      | some t =>
        obtain ⟨k, q, x⟩ := t
        exact lin_kind _ _ _ _ _ hl
    · simp
  · simp
end Go.Proofs.Ytgcgaoblbhojnaa
namespace Go.Proofs.Ytgcgaoblbhojnaa
set_option linter.unusedSimpArgs false
set_option linter.unusedVariables false
open Go.ChangeShapes Go.WideShapes Go.ChangeAt Go.RowKit
theorem specPictureFault_any (A : Option Addr) (c : Nat) (ss : List ByteArray) (w : World) (hz : StrsR w w.heap.size A ss) (hl : ss.length ≤ 1048576) (hs : ∀ s ∈ ss, s.size ≤ 1048576) :
    Calls Try.prog 19 #[.slice A ss.length c] w fun e w' => e = .returned (.tuple #[.int .i64 (pfF ss).1, .int .i64 (pfF ss).2.1, .int .i64 (pfF ss).2.2]) ∧ Below w.heap.size w w' := by
  go_enter Try.func19, Try.ntmps19
  go_wp2_with fail
  refine (l05Fault_any A c ss _ hz hl hs).mono ?_
  rintro e w1 ⟨rfl, hb1⟩
  have HB := hid hb1
  clear hb1
  go_wp2_with fail
  go_ret3
  exact ⟨rfl, HB.out⟩
set_option maxHeartbeats 2000000 in
set_option maxRecDepth 100000 in
theorem fnExactPictureFault_walk (w : World) (A0 : Option Addr) (c0 : Nat) (ss0 : List ByteArray) (hl0 : ss0.length ≤ maxLen) (hz0 : StrsR w w.heap.size A0 ss0) (hw0 : ∀ s ∈ ss0, s.size ≤ maxLen) :
    Calls Try.prog 5 #[.slice A0 ss0.length c0] w fun e w' => e = .returned (.bool true) ∧ Below w.heap.size w w' := by
  by_cases ht : totS ss0 ≤ 1048576
  · have hn : ss0.length ≤ 1048576 := by unfold totS at ht; omega
    have hs : ∀ s ∈ ss0, s.size ≤ 1048576 := fun s hm => by
      obtain ⟨i, hi, rfl⟩ := List.getElem_of_mem hm
      have := size_le_tot (List.getElem?_eq_getElem hi)
      omega
    have HS := hid hs
    have HT := hid ht
    have hng : ¬ (1048576 - (totS ss0 : Int) < 0) := by omega
    clear hs ht
    have e1 : ((pfF ss0).1 != (pfF ss0).1) = false := by simp
    have e2 : ((pfF ss0).2.1 != (pfF ss0).2.1) = false := by simp
    have e3 : ((pfF ss0).2.2 != (pfF ss0).2.2) = false := by simp
    have hml : ss0.length ≤ maxLen := hl0
    go_enter Try.func5, Try.ntmps5
    go_wp2_with fail
    refine (szStringS_any A0 c0 ss0 _ hz0 HT.out).mono ?_
    rintro e w' ⟨rfl, rfl⟩
    go_wp2_with fail
    refine (toStringS_any A0 c0 ss0 _ w.heap.size hz0 (Nat.le_refl _) hn).mono ?_
    rintro e w1 ⟨⟨A1, c1, rfl, ho1⟩, hb1⟩
    have HO1 := hid ho1
    have HB1 := hid hb1
    clear ho1 hb1
    go_wp2_with fail
    refine (specPictureFault_any A1 c1 ss0 _ (StrsR.own HO1.out) hn HS.out).mono ?_
    rintro e w2 ⟨rfl, hb2⟩
    have HB2 := hid (bbl HB1.out hb2)
    clear hb2
    go_wp2_with fail
    refine (toStringS_any A0 c0 ss0 _ w.heap.size (hz0.below HB2.out) HB2.out.size hn).mono ?_
    rintro e w3 ⟨⟨A3, c3, rfl, ho3⟩, hb3⟩
    have HO3 := hid ho3
    have HB3 := hid (bbl HB2.out hb3)
    clear ho3 hb3
    go_wp2_with fail
    refine (implPictureFault_any A3 c3 ss0 _ (StrsR.own HO3.out) hn HS.out).mono ?_
    rintro e w4 ⟨rfl, hb4⟩
    have HO4 := hid (own_keep HO3.out hb4)
    have HB4 := hid (bbl HB3.out hb4)
    clear hb4
    go_wp2_with fail
    refine (toStringS_any A0 c0 ss0 _ w.heap.size (hz0.below HB4.out) HB4.out.size hn).mono ?_
    rintro e w5 ⟨⟨A5, c5, rfl, ho5⟩, hb5⟩
    have HO5 := hid (own_keep HO4.out hb5)
    have HP5 := hid ho5
    have HB5 := hid (bbl HB4.out hb5)
    clear ho5 hb5
    go_wp2_with fail
    refine (eqStringS_any _ _ ss0 ss0.length _ _ _ HO5.out HP5.out hml).mono ?_
    rintro e w6 ⟨rfl, hb6⟩
    have HB6 := hid (bbl HB5.out hb6)
    clear hb6
    go_wp2_with fail
    go_ret
    exact ⟨rfl, HB6.out⟩
  · have ht' : 1048576 < totS ss0 := by omega
    clear ht
    go_enter Try.func5, Try.ntmps5
    go_wp2_with fail
    refine (szStringS_big A0 c0 ss0 _ hz0 ht' hl0 hw0).mono ?_
    rintro e w' ⟨rfl, rfl⟩
    go_wp2_with fail
    go_ret
    exact ⟨rfl, Below.refl _ _⟩
end Go.Proofs.Ytgcgaoblbhojnaa

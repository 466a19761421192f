/- Merged texts: Pg, Rp. -/
import Derived.Test.YtgcgaoblbhojnaaFnCurvePicturesM20
import Derived.Test.YtgcgaoblbhojnaaNu
import Derived.Test.YtgcgaoblbhojnaaNo
import Derived.Test.YtgcgaoblbhojnaaFnCurvePicturesM2
import Derived.Test.YtgcgaoblbhojnaaFnCurvePicturesM19
import Derived.Test.YtgcgaoblbhojnaaAu
import Derived.Test.YtgcgaoblbhojnaaPx
import Derived.Deep.RegionHeld3
import Derived.Lib.OwnKind
namespace Go.Proofs.Ytgcgaoblbhojnaa
set_option linter.unusedSimpArgs false
set_option linter.unusedVariables false
open Go.ChangeShapes Go.WideShapes Go.ChangeAt Go.RowKit
set_option maxRecDepth 100000 in
set_option maxHeartbeats 8000000 in
theorem l05Fault_any (A : Option Addr) (c : Nat) (ss : List ByteArray) (w : World) (hz : StrsR w w.heap.size A ss) (hl : ss.length ≤ 1048576) (hs : ∀ s ∈ ss, s.size ≤ 1048576) :
    Calls Try.prog 58 #[.slice A ss.length c] w fun e w' => e = .returned (.tuple #[.int .i64 (pfF ss).1, .int .i64 (pfF ss).2.1, .int .i64 (pfF ss).2.2]) ∧ Below w.heap.size w w' := by
  obtain ⟨n, hn⟩ : ∃ n, ss.length = n := ⟨_, rfl⟩
  rw [hn] at hl ⊢
  have HN := hid hn
  have HS := hid hs
  clear hn hs
  cases hg : goodB n
  · have HV : Hid (pfF ss = (1, 0, 0)) := hid (by unfold pfF; rw [HN.out, hg]; rfl)
    rcases good_not hg with hp | ⟨hp, hsd⟩
    · have hb : (((n : Nat) : Int) % 2 == 0) = true := by simp; omega
      clear hg hp
      go_enter Try.func58, Try.ntmps58
      go_wp2_with fail
      go_ret3
      exact ⟨ret_i3 (by rw [HV.out]) (by rw [HV.out]) (by rw [HV.out]), Below.refl _ _⟩
    · have hb : (((n : Nat) : Int) % 2 == 0) = false := by simp; omega
      have HSD := hid hsd
      clear hg hp hsd
      go_enter Try.func58, Try.ntmps58
      go_wp2_with fail
      refine (calls_bool (l02Side_any _ _) HSD.out).mono ?_
      rintro e w' ⟨rfl, rfl⟩
      go_wp2_with fail
      go_ret3
      exact ⟨ret_i3 (by rw [HV.out]) (by rw [HV.out]) (by rw [HV.out]), Below.refl _ _⟩
  have hgb := good_bd hg
  obtain ⟨g1, g2, g3⟩ := hgb
  obtain ⟨s0, hs0⟩ : ∃ s, ss[0]? = some s := ⟨_, List.getElem?_eq_getElem (by have := HN.out; omega)⟩
  have hm0 := HS.out s0 (List.mem_of_getElem? hs0)
  obtain ⟨m, hm⟩ : ∃ m, s0.size = m := ⟨_, rfl⟩
  have HF : Hid (fsz ss = m) := hid (by rw [← hm]; unfold fsz; cases ss with | nil => simp at hs0 | cons a tl => (simp at hs0; subst hs0; rfl))
  obtain ⟨b, off, rfl, hbl, hc0⟩ := hz 0 s0 hs0
  rw [Nat.add_zero] at hc0
  rw [hm] at hm0
  have HSH := hid (good_side hg)
  have hbn : (((n : Nat) : Int) % 2 == 0) = false := by simp; omega
  have HG1 := hid hg
  clear hg
  cases hg : goodB m
  · have HV : Hid (pfF ss = (1, 0, 0)) := hid (by unfold pfF; rw [HN.out, HG1.out, HF.out, hg]; rfl)
    clear hs0
    rcases good_not hg with hp | ⟨hp, hsd⟩
    · have hb : (((m : Nat) : Int) % 2 == 0) = true := by simp; omega
      clear hg hp
      go_enter Try.func58, Try.ntmps58
      go_wp2_with fail
      refine (calls_bool (l02Side_any _ _) HSH.out).mono ?_
      rintro e w' ⟨rfl, rfl⟩
      go_wp2_with fail
      go_ret3
      exact ⟨ret_i3 (by rw [HV.out]) (by rw [HV.out]) (by rw [HV.out]), Below.refl _ _⟩
    · have hb : (((m : Nat) : Int) % 2 == 0) = false := by simp; omega
      have HSD := hid hsd
      clear hg hp hsd
      go_enter Try.func58, Try.ntmps58
      go_wp2_with fail
      refine (calls_bool (l02Side_any _ _) HSH.out).mono ?_
      rintro e w' ⟨rfl, rfl⟩
      go_wp2_with fail
      refine (calls_bool (l02Side_any _ _) HSD.out).mono ?_
      rintro e w' ⟨rfl, rfl⟩
      go_wp2_with fail
      go_ret3
      exact ⟨ret_i3 (by rw [HV.out]) (by rw [HV.out]) (by rw [HV.out]), Below.refl _ _⟩
  obtain ⟨m1, m2, m3⟩ := good_bd hg
  have hbm : (((m : Nat) : Int) % 2 == 0) = false := by simp; omega
  have HSW := hid (good_side hg)
  have HV : Hid (pfF ss = trip (linFlt ((m : Int) / 2) ((n : Int) / 2) m ss 0)) := hid (by unfold pfF; rw [HN.out, HG1.out, HF.out, hg]; rfl)
  have HS0 := hid hs0
  have HZ := hid hz
  clear hg hs0 hz
  obtain ⟨R, hR⟩ : ∃ R, linFlt ((m : Int) / 2) ((n : Int) / 2) m ss 0 = R := ⟨_, rfl⟩
  have HR := hid hR
  rw [hR] at HV
  clear hR
  go_enter Try.func58, Try.ntmps58
  go_wp2_with fail
  refine (calls_bool (l02Side_any _ _) HSH.out).mono ?_
  rintro e w' ⟨rfl, rfl⟩
  go_wp2_with fail
  refine (calls_bool (l02Side_any _ _) HSW.out).mono ?_
  rintro e w' ⟨rfl, rfl⟩
  obtain ⟨Wd, hWd⟩ : ∃ q, q = (m : Int) / 2 := ⟨_, rfl⟩
  obtain ⟨Hd, hHd⟩ : ∃ q, q = (n : Int) / 2 := ⟨_, rfl⟩
  rw [← hWd] at HSW HR
  rw [← hHd] at HSH HR
  obtain ⟨W1, W2⟩ := side_bd HSW.out
  obtain ⟨H1, H2⟩ := side_bd HSH.out
  have hWd' := hWd.symm
  have hHd' := hHd.symm
  clear hWd hHd
  go_wp2_with fail
  clear hWd' hHd'
  go_loopg [8] n (fun g i wr => ∃ k : Nat, k ≤ n ∧ i = .int .i64 k ∧ g = n - k ∧ Hid (linFlt Wd Hd m (ss.drop k) k = R) ∧ Hid (Box wr w.heap.size 39 #[.int .i64 Wd, .int .i64 Hd, .slice none 0 0]) ∧ Hid (Below w.heap.size w wr))
  case atStart => exact ⟨0, Nat.zero_le _, rfl, rfl, HR, hid (Box.new w _ _), hid (bal (Below.refl _ _) _)⟩
  case round =>
    obtain ⟨k, hk, rfl, hg, HL, KP, HB⟩ := hrel
    obtain ⟨wo, rfl⟩ : ∃ z, z = wr := ⟨_, rfl⟩
    by_cases hlt : k < n
    · obtain ⟨l, hlk⟩ : ∃ s, ss[k]? = some s := ⟨_, List.getElem?_eq_getElem (by have := HN.out; omega)⟩
      have HLK := hid hlk
      have hlm := HS.out l (List.mem_of_getElem? hlk)
      obtain ⟨b2, off2, e2, -, hck⟩ := (HZ.out.below HB.out) k l hlk
      obtain ⟨rfl, rfl⟩ : b = b2 ∧ off = off2 := by simpa using e2
      obtain ⟨z, hlz⟩ : ∃ z, l.size = z := ⟨_, rfl⟩
      rw [hlz] at hlm
      clear e2 hlk hc0
      by_cases hzm : z = m
      · subst hzm
        have hne : ((z : Int) != (z : Int)) = false := by simp
        obtain ⟨r, hr⟩ : ∃ r, rowFlt Wd Hd k (byteL l) 0 = r := ⟨_, rfl⟩
        have HRR := hid hr
        clear hr
        go_wp2_with fail
        go_loopg [9] z (fun g i wx => ∃ x : Nat, x ≤ z ∧ i = .int .i64 x ∧ g = z - x ∧ Hid (rowFlt Wd Hd k ((byteL l).drop x) x = r) ∧ Hid (Box wx w.heap.size 39 #[.int .i64 Wd, .int .i64 Hd, .slice none 0 0]) ∧ Hid (Below w.heap.size w wx))
        case atStart => exact ⟨0, Nat.zero_le _, rfl, rfl, HRR, KP, HB⟩
        case round =>
          obtain ⟨x, hx, rfl, hg2, HX, KPx, HBx⟩ := hrel
          clear hck
          by_cases hxl : x < z
          · have hxs : x < l.size := by omega
            obtain ⟨by', hby⟩ : ∃ b : Int, ((l[x]'hxs).toNat : Int) = b := ⟨_, rfl⟩
            have HBY : Hid ((byteL l)[x]? = some by') := hid (by rw [byte_at l x hxs, hby])
            have bd := byte_bd HBY.out
            have HST := hid (rowFlt_step (W := Wd) (H := Hd) (y := k) HBY.out)
            obtain ⟨b3, off3, e3, -, hck3⟩ := (HZ.out.below HBx.out) k l HLK.out
            obtain ⟨rfl, rfl⟩ : b = b3 ∧ off = off3 := by simpa using e3
            clear e3
            have Pz := KPx.out.lt
            by_cases hc : chF Wd Hd x k by' = 0
            · skip
              have HE : Hid (rowFlt Wd Hd k ((byteL l).drop (x + 1)) (x + 1) = r) := hid (by have h1 := HX.out; rw [HST.out, if_pos hc] at h1; exact h1)
              obtain ⟨f, hf⟩ : ∃ f, chF Wd Hd x k by' = f := ⟨_, rfl⟩
              rw [hf] at hc
              have HFF := hid hf
              have hfb : (f != 0) = false := by simp [hc]
              clear hf hc
              go_wp2_with fail
              refine (calls_int0 (l05Char_any _ Wd Hd x k by' _ _ KPx.out HSW.out HSH.out) HFF.out).mono ?_
              rintro e w2 ⟨rfl, hb2⟩
              have KP2 := hid (Box.keep KPx.out hb2)
              have HB2 := hid (bbl HBx.out hb2)
              clear hb2 hck3 Pz
              go_wp2_with fail
              go_roundg (z - (x + 1))
              case measure => omega
              case rel => exact ⟨x + 1, by omega, by go_num, rfl, HE, KP2, HB2⟩
            · skip
              have HE : Hid (R = some (chF Wd Hd x k by', k, x)) := hid (by have h1 := HX.out; rw [HST.out, if_neg hc] at h1; exact lin_row HLK.out HL.out hlz (HRR.out.trans h1.symm))
              obtain ⟨f, hf⟩ : ∃ f, chF Wd Hd x k by' = f := ⟨_, rfl⟩
              rw [hf] at hc HE
              have HFF := hid hf
              have hfb : (f != 0) = true := by simp [hc]
              clear hf hc
              go_wp2_with fail
              refine (calls_int0 (l05Char_any _ Wd Hd x k by' _ _ KPx.out HSW.out HSH.out) HFF.out).mono ?_
              rintro e w2 ⟨rfl, hb2⟩
              have KP2 := hid (Box.keep KPx.out hb2)
              have HB2 := hid (bbl HBx.out hb2)
              clear hb2 hck3 Pz
              go_wp2_with fail
              go_ret3
              exact ⟨ret_i3 (by rw [HV.out, HE.out]; rfl) (by rw [HV.out, HE.out]; rfl) (by rw [HV.out, HE.out]; rfl), HB2.out⟩
          · obtain rfl : x = z := by omega
            have HE : Hid (linFlt Wd Hd x (ss.drop (k + 1)) (k + 1) = R) := hid (lin_next HLK.out HL.out hlz (by have h1 := HX.out; rw [rowFlt_end (by rw [byteL_length]; omega)] at h1; rw [HRR.out, ← h1]))
            go_wp2_with fail
            go_roundg (n - (k + 1))
            case measure => omega
            case rel => exact ⟨k + 1, by omega, by go_num, rfl, HE, KPx, HBx⟩
      · have hne : ((z : Int) != (m : Int)) = true := by simp; omega
        have HE := hid (lin_bad HLK.out HL.out (by omega))
        go_wp2_with fail
        go_ret3
        exact ⟨ret_i3 (by rw [HV.out, HE.out]; rfl) (by rw [HV.out, HE.out]; rfl) (by rw [HV.out, HE.out]; rfl), HB.out⟩
    · obtain rfl : k = n := by omega
      have HE : Hid (R = none) := hid (by rw [← HL.out]; exact linFlt_end (by have := HN.out; omega))
      go_wp2_with fail
      go_ret3
      exact ⟨ret_i3 (by rw [HV.out, HE.out]; rfl) (by rw [HV.out, HE.out]; rfl) (by rw [HV.out, HE.out]; rfl), HB.out⟩
end Go.Proofs.Ytgcgaoblbhojnaa
namespace Go.Proofs.Ytgcgaoblbhojnaa
set_option linter.unusedSimpArgs false
set_option linter.unusedVariables false
open Go.ChangeShapes Go.WideShapes Go.ChangeAt Go.RowKit
/-- The byte at a place of lines. -/
def atB (ss : List ByteArray) (x y : Int) : Int := (byteL (ss.getD y.toNat ⟨#[]⟩)).getD x.toNat 0
def zsP (W H : Int) (ss : List ByteArray) (n : Nat) : List Int := (List.range n).map fun (k : Nat) => kdF (atB ss (ptX W H k) (ptY W H k))
theorem zsP_length (W H : Int) (ss : List ByteArray) (n : Nat) : (zsP W H ss n).length = n := by simp [zsP]
/-- What ReadPicture answers. -/
def rpW (ss : List ByteArray) : Int := if (pfF ss).1 = 0 then (fsz ss : Int) / 2 else 0
def rpH (ss : List ByteArray) : Int := if (pfF ss).1 = 0 then (ss.length : Int) / 2 else 0
def rpN (ss : List ByteArray) : Nat := if (pfF ss).1 = 0 then (inner ((fsz ss : Int) / 2) ((ss.length : Int) / 2)).toNat else 0
def rpL (ss : List ByteArray) : List Int := if (pfF ss).1 = 0 then zsP ((fsz ss : Int) / 2) ((ss.length : Int) / 2) ss (inner ((fsz ss : Int) / 2) ((ss.length : Int) / 2)).toNat else []
def rpC (ss : List ByteArray) : Int := if (pfF ss).1 = 0 then 0 else 8
theorem rp_yes {ss : List ByteArray} (h : (pfF ss).1 = 0) : rpW ss = (fsz ss : Int) / 2 ∧ rpH ss = (ss.length : Int) / 2 ∧ rpN ss = (inner ((fsz ss : Int) / 2) ((ss.length : Int) / 2)).toNat ∧ rpL ss = zsP ((fsz ss : Int) / 2) ((ss.length : Int) / 2) ss (inner ((fsz ss : Int) / 2) ((ss.length : Int) / 2)).toNat ∧ rpC ss = 0 := by simp [rpW, rpH, rpN, rpL, rpC, h]
theorem rp_no {ss : List ByteArray} (h : ¬ (pfF ss).1 = 0) : rpW ss = 0 ∧ rpH ss = 0 ∧ rpN ss = 0 ∧ rpL ss = [] ∧ rpC ss = 8 := by simp [rpW, rpH, rpN, rpL, rpC, h]
theorem rpL_length (ss : List ByteArray) : (rpL ss).length = rpN ss := by
  unfold rpL rpN
  split
  · exact zsP_length _ _ _ _
  · rfl
theorem row_not {W H y : Int} : ∀ (bs : List Int) (x : Nat) k z, rowFlt W H y bs x = some (k, z) → k ≠ 0 := by
  intro bs
  induction bs with
  | nil => intro x k z h; simp [rowFlt] at h
  | cons b bs ih =>
    intro x k z h
    rw [rowFlt] at h
    split at h
    · exact ih _ _ _ h
    · rename_i hne
      injection h with h
      injection h with h1 h2
      omega
theorem row_none {W H y : Int} : ∀ (bs : List Int) (x : Nat), rowFlt W H y bs x = none → ∀ (i : Nat) b, bs[i]? = some b → chF W H ((x + i : Nat) : Int) y b = 0 := by
  intro bs
  induction bs with
  | nil => intro x h i b hi; simp at hi
  | cons a bs ih =>
    intro x h i b hi
    rw [rowFlt] at h
    split at h
    · rename_i h0
      cases i with
      | zero => simp at hi; subst hi; simpa using h0
      | succ i =>
        have := ih (x + 1) h i b (by simpa using hi)
        rwa [show x + 1 + i = x + (i + 1) by omega] at this
    · cases h
theorem lin_not {W H : Int} {m : Nat} : ∀ (ls : List ByteArray) (y : Nat) k q x, linFlt W H m ls y = some (k, q, x) → k ≠ 0 := by
  intro ls
  induction ls with
  | nil => intro y k q x h; simp [linFlt] at h
  | cons l ls ih =>
    intro y k q x h
    rw [linFlt] at h
    split at h
    · split at h
      · rename_i hr
        injection h with h
        injection h with h1 h2
        subst h1
        exact row_not _ _ _ _ hr
      · exact ih _ _ _ _ h
    · injection h with h
      injection h with h1 h2
      omega
theorem lin_none {W H : Int} {m : Nat} : ∀ (ls : List ByteArray) (y : Nat), linFlt W H m ls y = none → ∀ (i : Nat) l, ls[i]? = some l → l.size = m ∧ rowFlt W H ((y + i : Nat) : Int) (byteL l) 0 = none := by
  intro ls
  induction ls with
  | nil => intro y h i l hi; simp at hi
  | cons a ls ih =>
    intro y h i l hi
    rw [linFlt] at h
    split at h
    · rename_i hs
      split at h
      · cases h
      · rename_i hr
        cases i with
        | zero => simp at hi; subst hi; exact ⟨hs, by simpa using hr⟩
        | succ i =>
          have := ih (y + 1) h i l (by simpa using hi)
          rwa [show y + 1 + i = y + (i + 1) by omega] at this
    · cases h
/-- A picture without a fault. -/
theorem pf_ok {ss : List ByteArray} (h : (pfF ss).1 = 0) : goodB ss.length = true ∧ goodB (fsz ss) = true ∧ ∀ (y : Nat) l, ss[y]? = some l → l.size = fsz ss ∧ ∀ (x : Nat) b, (byteL l)[x]? = some b → chF ((fsz ss : Int) / 2) ((ss.length : Int) / 2) x y b = 0 := by
  unfold pfF at h
  cases h1 : goodB ss.length
  · rw [h1] at h; simp at h
  cases h2 : goodB (fsz ss)
  · rw [h1, h2] at h; simp at h
  rw [h1, h2] at h
  simp only [if_true] at h
  refine ⟨rfl, rfl, ?_⟩
  cases hl : linFlt ((fsz ss : Int) / 2) ((ss.length : Int) / 2) (fsz ss) ss 0 with
  | some t =>
    obtain ⟨k, q, x⟩ := t
    rw [hl] at h
    exact absurd h (lin_not _ _ _ _ _ hl)
  | none =>
    intro y l hy
    obtain ⟨e1, e2⟩ := lin_none _ _ hl y l hy
    refine ⟨e1, fun x b hb => ?_⟩
    have := row_none _ _ e2 x b hb
    rwa [Nat.zero_add, Nat.zero_add] at this
theorem rpN_le (ss : List ByteArray) : rpN ss ≤ 112 := by
  unfold rpN
  split
  · rename_i h
    obtain ⟨g1, g2, -⟩ := pf_ok h
    have := inner_le (good_side g2) (good_side g1)
    omega
  · omega
/-- The breaks read so far. -/
def rpRow (W H : Int) (ss : List ByteArray) (N k : Nat) : List Int := zsP W H ss k ++ List.replicate (N - k) 0
theorem rpRow_zero (W H : Int) (ss : List ByteArray) (N : Nat) : rpRow W H ss N 0 = List.replicate N 0 := by simp [rpRow, zsP]
theorem rpRow_full (W H : Int) (ss : List ByteArray) (N : Nat) : rpRow W H ss N N = zsP W H ss N := by simp [rpRow]
theorem rpRow_set {W H : Int} {ss : List ByteArray} {N k : Nat} (h : k < N) : (vals (rpRow W H ss N k)).set k (.int .i64 (kdF (atB ss (ptX W H k) (ptY W H k)))) = vals (rpRow W H ss N (k + 1)) := by
  have e : List.replicate (N - k) (0 : Int) = 0 :: List.replicate (N - (k + 1)) 0 := by
    rw [show N - k = (N - (k + 1)) + 1 by omega]; rfl
  have e2 : zsP W H ss (k + 1) = zsP W H ss k ++ [kdF (atB ss (ptX W H k) (ptY W H k))] := by simp [zsP, List.range_succ]
  unfold rpRow vals
  rw [e, e2]
  simp [List.set_append, zsP_length, List.append_assoc]
theorem rpRow_length (W H : Int) (ss : List ByteArray) {N k : Nat} (h : k ≤ N) : (rpRow W H ss N k).length = N := by simp [rpRow, zsP_length]; omega
/-- A point's byte. -/
theorem at_point {ss : List ByteArray} (h : (pfF ss).1 = 0) {k : Nat} (hk : (k : Int) < inner ((fsz ss : Int) / 2) ((ss.length : Int) / 2)) : ∃ (X Y : Nat) (l : ByteArray) (z : Int), ptX ((fsz ss : Int) / 2) ((ss.length : Int) / 2) k = X ∧ ptY ((fsz ss : Int) / 2) ((ss.length : Int) / 2) k = Y ∧ ss[Y]? = some l ∧ (byteL l)[X]? = some z ∧ X < l.size ∧ X ≤ 16 ∧ Y ≤ 16 ∧ Y < ss.length ∧ atB ss (ptX ((fsz ss : Int) / 2) ((ss.length : Int) / 2) k) (ptY ((fsz ss : Int) / 2) ((ss.length : Int) / 2) k) = z ∧ 0 ≤ kdF z := by
  obtain ⟨g1, g2, hl⟩ := pf_ok h
  have hW := good_side g2
  have hH := good_side g1
  obtain ⟨a1, a2, a3⟩ := good_bd g1
  obtain ⟨b1, b2, b3⟩ := good_bd g2
  have pb := pt_bd hW hH (Int.natCast_nonneg k) hk
  obtain ⟨X, hX⟩ : ∃ X : Nat, ptX ((fsz ss : Int) / 2) ((ss.length : Int) / 2) k = X := ⟨(ptX ((fsz ss : Int) / 2) ((ss.length : Int) / 2) k).toNat, by omega⟩
  obtain ⟨Y, hY⟩ : ∃ Y : Nat, ptY ((fsz ss : Int) / 2) ((ss.length : Int) / 2) k = Y := ⟨(ptY ((fsz ss : Int) / 2) ((ss.length : Int) / 2) k).toNat, by omega⟩
  rw [hX, hY] at pb ⊢
  have hyl : Y < ss.length := by omega
  obtain ⟨l, hly⟩ : ∃ l, ss[Y]? = some l := ⟨_, List.getElem?_eq_getElem hyl⟩
  obtain ⟨e1, e2⟩ := hl Y l hly
  have hxl : X < l.size := by omega
  have hbx : X < (byteL l).length := by rw [byteL_length]; exact hxl
  obtain ⟨z, hz⟩ : ∃ z, (byteL l)[X]? = some z := ⟨_, List.getElem?_eq_getElem hbx⟩
  have hc := e2 X z hz
  refine ⟨X, Y, l, z, rfl, rfl, hly, hz, hxl, by omega, by omega, hyl, ?_, ?_⟩
  · simp [atB, List.getD_eq_getElem?_getD, hly, hz]
  · have hh : hasP ((fsz ss : Int) / 2) ((ss.length : Int) / 2) X Y = true := by simp only [hasP, inR, Bool.and_eq_true, decide_eq_true_eq, beq_iff_eq]; omega
    have he : edgeP ((fsz ss : Int) / 2) ((ss.length : Int) / 2) X Y = false := by simp only [edgeP, Bool.or_eq_false_iff, beq_eq_false_iff_ne]; omega
    unfold chF at hc
    rw [hh, he] at hc
    simp only [if_true, Bool.false_eq_true, if_false] at hc
    by_cases hk : kdF z < 0
    · rw [if_pos hk] at hc; omega
    · omega
theorem own_setboxP {w : World} {lo n g cap p : Nat} {T T' : TypeId} {cs : List Value} {ds : Array Value} (hb : Box w p T' ds) (h : w.ownsRow lo T 1 (.slice (some ⟨g, 0, none⟩) n cap) n cs) (hT : T ≠ T') (i : Nat) (v : Value) : Box (w.setCell ⟨g, i, none⟩ v) p T' ds := by
  refine Box.set hb (fun e => ?_) v
  have e' : p = g := e
  subst e'
  obtain ⟨c, f, h1⟩ := Go.Lib.ownsRow_kind h p rfl
  have h2 : w.heap[p]? = _ := hb
  rw [h1] at h2
  injection h2 with h2
  injection h2 with _ h2 _
  exact hT h2
theorem own_drewP {w : World} {lo s n : Nat} {T : TypeId} {v : Value} {cs : List Value} (h : w.ownsRow lo T s v n cs) : w.drew.ownsRow lo T s v n cs := h
theorem own_asideP {w w' : World} {lo lo' s s' n n' : Nat} {T T' : TypeId} {v v' : Value} {cs cs' : List Value} (h : w.ownsRow lo T s v n cs) (h' : w.ownsRow lo' T' s' v' n' cs') (hg : w.grownBy w' v'.ownBlock) (hT : T ≠ T') : w'.ownsRow lo T s v n cs := World.ownsRow.kept h hg (own_ne h h' hT)
set_option maxRecDepth 100000 in
set_option maxHeartbeats 8000000 in
theorem implReadPicture_any (A : Option Addr) (c : Nat) (ss : List ByteArray) (w : World) (hz : StrsR w w.heap.size A ss) (hl : ss.length ≤ 1048576) (hs : ∀ s ∈ ss, s.size ≤ 1048576) :
    Calls Try.prog 37 #[.slice A ss.length c] w fun e w' => (∃ A' c', e = .returned (.tuple #[.agg #[.int .i64 (rpW ss), .int .i64 (rpH ss), .slice A' (rpN ss) c'], .int .i64 (rpC ss)]) ∧ w'.ownsRow w.heap.size 2 1 (.slice A' (rpN ss) c') (rpN ss) (vals (rpL ss))) ∧ Below w.heap.size w w' := by
  have HS := hid hs
  have HZ := hid hz
  obtain ⟨fk, hfk⟩ : ∃ k, (pfF ss).1 = k := ⟨_, rfl⟩
  obtain ⟨fy, hfy⟩ : ∃ k, (pfF ss).2.1 = k := ⟨_, rfl⟩
  obtain ⟨fx, hfx⟩ : ∃ k, (pfF ss).2.2 = k := ⟨_, rfl⟩
  have HF := hid (And.intro hfk (And.intro hfy hfx))
  obtain ⟨n, hn⟩ : ∃ n, ss.length = n := ⟨_, rfl⟩
  have HN := hid hn
  have HPF : Hid (∀ wx : World, StrsR wx wx.heap.size A ss → Calls Try.prog 21 #[.slice A n c] wx fun e w' => e = .returned (.tuple #[.int .i64 fk, .int .i64 fy, .int .i64 fx]) ∧ Below wx.heap.size wx w') := hid (fun wx h => by have := implPictureFault_any A c ss wx h hl hs; rw [hfk, hfy, hfx, hn] at this; exact this)
  rw [hn] at hl ⊢
  by_cases h0 : ¬ (fk = 0)
  · have HV := hid (rp_no (ss := ss) (by rw [hfk]; exact h0))
    clear hfk hfy hfx hz hs hn
    go_enter Try.func37, Try.ntmps37
    go_wp2_with fail
    refine (HPF.out _ ((HZ.out.below (bal (Below.refl _ _) _)).more (by simp))).mono ?_
    rintro e w1 ⟨rfl, hb1⟩
    have KR := hid (Box.keep (Box.new w 39 #[.int .i64 0, .int .i64 0, .slice none 0 0]) hb1)
    have HB := hid (bstep (bal (Below.refl _ _) _) hb1)
    clear hb1
    obtain ⟨Ra, Rb, Rc⟩ := KR.out.three
    have Rz := KR.out.lt
    have Rf := KR.out.free
    go_wp2_with fail
    have hE := HB.out
    refine bodyPost_ret (v := .tuple #[.agg #[.int .i64 0, .int .i64 0, .slice none 0 0], .int .i64 8]) (by simp [results, Try.results37, go_sem, *]) rfl ⟨⟨none, 0, by rw [HV.out.1, HV.out.2.1, HV.out.2.2.1, HV.out.2.2.2.2], by rw [HV.out.2.2.1, HV.out.2.2.2.1]; exact World.ownsRow_nil _ _ _ _⟩, ?_⟩
    repeat (refine Below.setCell ?_ (by simp) _)
    exact hE
  have h0' : fk = 0 := Decidable.not_not.1 h0
  clear h0
  subst h0'
  obtain ⟨g1, g2, -⟩ := pf_ok hfk
  have HPT := hid (fun k hk => at_point hfk (k := k) hk)
  have HV := hid (rp_yes hfk)
  have hgb := good_bd g1
  have hgm := good_bd g2
  obtain ⟨m, hm⟩ : ∃ m, fsz ss = m := ⟨_, rfl⟩
  rw [hn] at hgb HV HPT g1
  rw [hm] at hgm g2 HV HPT
  obtain ⟨n1, n2, n3⟩ := hgb
  obtain ⟨m1, m2, m3⟩ := hgm
  obtain ⟨s0, hs0⟩ : ∃ s, ss[0]? = some s := ⟨_, List.getElem?_eq_getElem (by omega)⟩
  have hm0 : s0.size = m := by rw [← hm]; unfold fsz; cases ss with | nil => simp at hs0 | cons a tl => (simp at hs0; subst hs0; rfl)
  obtain ⟨b, off, rfl, hbl, hc0⟩ := hz 0 s0 hs0
  have HSW := hid (good_side g2)
  have HSH := hid (good_side g1)
  have t1 : Int.tdiv (m : Int) 2 = (m : Int) / 2 := Int.tdiv_eq_ediv_of_nonneg (by omega)
  have t2 : Int.tdiv (n : Int) 2 = (n : Int) / 2 := Int.tdiv_eq_ediv_of_nonneg (by omega)
  rw [Nat.add_zero] at hc0
  have HC0 := hid hc0
  clear hfk hfy hfx hz hs hn hm hs0 g1 g2 hc0 HS
  go_enter Try.func37, Try.ntmps37
  go_wp2_with fail
  refine (HPF.out _ ((HZ.out.below (bal (Below.refl _ _) _)).more (by simp))).mono ?_
  rintro e w1 ⟨rfl, hb1⟩
  have KR1 := hid (Box.keep (Box.new w 39 #[.int .i64 0, .int .i64 0, .slice none 0 0]) hb1)
  have HB1 := hid (bstep (bal (Below.refl _ _) _) hb1)
  have hc1 : w1.cell? ⟨b, off, none⟩ = some (.string s0) := (HB1.out.cell (p := ⟨b, off, none⟩) hbl).trans HC0.out
  have hbz : b < w1.heap.size := by have := HB1.out.size; omega
  clear hb1
  go_wp2_with fail
  refine (newPanel_any _ _ _ HSW.out HSH.out).mono ?_
  rintro e w2 ⟨⟨A2, c2, rfl, ho2⟩, hb2⟩
  have KR2 := hid (Box.keep KR1.out hb2)
  have HB2 := hid (bbl HB1.out hb2)
  have hz1 := KR1.out.lt
  have HO2 := hid (Go.Joins.ownsRow_le ho2 (show w.heap.size + 1 ≤ w1.heap.size from hz1) : w2.ownsRow (w.heap.size + 1) 2 1 _ _ _)
  have hz2 := hb2.size
  obtain ⟨Wd, hWd⟩ : ∃ q, (m : Int) / 2 = q := ⟨_, rfl⟩
  obtain ⟨Hd, hHd⟩ : ∃ q, (n : Int) / 2 = q := ⟨_, rfl⟩
  rw [hWd, hHd] at HPT HV HO2 ⊢
  rw [hWd] at HSW
  rw [hHd] at HSH
  obtain ⟨W1, W2⟩ := side_bd HSW.out
  obtain ⟨H1, H2⟩ := side_bd HSH.out
  have hib := inner_le HSW.out HSH.out
  obtain ⟨N, hN⟩ : ∃ N : Nat, inner Wd Hd = N := ⟨(inner Wd Hd).toNat, by omega⟩
  have hN112 : N ≤ 112 := by omega
  rw [hN, Int.toNat_natCast] at HO2 HV ⊢
  rw [hN] at HPT
  have HIN := hid hN
  clear hb2 ho2 hc1 hbz t1 t2 hWd hHd hib hN KR1 HB1
  go_wp2_with fail
  refine (points_any Wd Hd A2 N c2 _ HSW.out HSH.out).mono ?_
  rintro e w3 ⟨⟨A3, c3, rfl, ho3⟩, hb3⟩
  have KR3 := hid (Box.keep (Box.alloc KR2.out _) hb3)
  have KP3 := hid (Box.keep (Box.new w2 39 #[.int .i64 Wd, .int .i64 Hd, .slice A2 N c2]) hb3)
  have HB3 := hid (bbl (bal HB2.out _) hb3)
  have HO3 := hid (own_keep (HO2.out.alloc _) hb3)
  have hz3 := HB2.out.size
  rw [HIN.out, Int.toNat_natCast] at ho3
  have HQ3 := hid (Go.Joins.ownsRow_le ho3 (show w.heap.size + 1 ≤ _ by simp; omega) : w3.ownsRow (w.heap.size + 1) 69 2 _ _ _)
  clear hb3 ho3 HB2 KR2 HO2
  rw [HIN.out, Int.toNat_natCast]
  go_wp2_with fail
  go_loopg [31] N (fun g i wr => ∃ k : Nat, k ≤ N ∧ i = .int .i64 k ∧ g = N - k ∧ Hid (wr.ownsRow (w.heap.size + 1) 2 1 (.slice A2 N c2) N (vals (rpRow Wd Hd ss N k))) ∧ Hid (wr.ownsRow (w.heap.size + 1) 69 2 (.slice A3 N c3) N (ptCells Wd Hd N)) ∧ Hid (Box wr w.heap.size 39 #[.int .i64 0, .int .i64 0, .slice none 0 0]) ∧ Hid (Box wr w2.heap.size 39 #[.int .i64 Wd, .int .i64 Hd, .slice A2 N c2]) ∧ Hid (Below w.heap.size w wr))
  case atStart => exact ⟨0, Nat.zero_le _, rfl, rfl, by rw [rpRow_zero]; exact HO3, HQ3, KR3, KP3, HB3⟩
  case round =>
    clear KR3 KP3 HB3 HO3 HQ3
    obtain ⟨k, hk, rfl, hg, HO, HQ, KR, KP, HB⟩ := hrel
    obtain ⟨Pa, Pb, Pc⟩ := KP.out.three
    have Pz := KP.out.lt
    have hwz := HB.out.size
    by_cases hlt : k < N
    · obtain ⟨X, Y, l, z, hX, hY, hly, hlz, hxl, x16, y16, hyl, hat, hkz⟩ := HPT.out k (by omega)
      obtain ⟨b2, off2, e2, -, hcl⟩ := (HZ.out.below HB.out) Y l hly
      obtain ⟨rfl, rfl⟩ : b = b2 ∧ off = off2 := by simpa using e2
      have hbz : b < wr.heap.size := by omega
      obtain ⟨z', hz'⟩ : ∃ q : Int, ((l[X]'hxl).toNat : Int) = q := ⟨_, rfl⟩
      have hzz : z' = z := by have := byte_at l X hxl; rw [hlz, hz'] at this; injection this with this; exact this.symm
      subst hzz
      have hnl : Y < n := hyl
      have HXY := hid (And.intro hX hY)
      have HAT := hid hat
      have HCL := hid hcl
      clear hX hY hly hlz hat e2 hyl hcl
      rcases Go.Joins.ownsRow_forms HO.out with ⟨_, hn0⟩ | ⟨g2, cp, ep⟩
      · exact absurd hlt (by omega)
      simp only [Value.slice.injEq] at ep
      obtain ⟨rfl, -, rfl⟩ := ep
      rcases Go.Joins.ownsRow_forms HQ.out with ⟨_, hn0⟩ | ⟨g3, cq, eq3⟩
      · exact absurd hlt (by omega)
      simp only [Value.slice.injEq] at eq3
      obtain ⟨rfl, -, rfl⟩ := eq3
      have q1 := ptCells_at0 Wd Hd hlt
      have q2 := ptCells_at1 Wd Hd hlt
      rw [HXY.out.1] at q1
      rw [HXY.out.2] at q2
      have hq0 : wr.cell? ⟨g3, k * 2, none⟩ = some (.int .i64 X) := (World.ownsRow.cellAt HQ.out (k * 2) (by omega)).trans q1
      have hq1 : wr.cell? ⟨g3, k * 2 + 1, none⟩ = some (.int .i64 Y) := (World.ownsRow.cellAt HQ.out (k * 2 + 1) (by omega)).trans q2
      have hgq := (World.ownsRow.lt HQ.out g3 rfl).2
      clear q1 q2
      go_wp2_with fail
      obtain ⟨w5, hw5⟩ : ∃ zz : World, zz = wr.alloc (.cells #[.int .i64 X, .int .i64 Y] 69) := ⟨_, rfl⟩
      rw [← hw5]
      have KT := hid (show Box w5 wr.heap.size 69 #[.int .i64 X, .int .i64 Y] by rw [hw5]; exact Box.new _ _ _)
      have hb5 : Below wr.heap.size wr w5 := hw5 ▸ bal (Below.refl _ _) _
      have hb55 := hid hb5
      clear hw5 hq0 hq1 hgq Pa Pb Pc Pz
      have KR5 := hid (Box.keep KR.out hb5)
      have KP5 := hid (Box.keep KP.out hb5)
      have HB5 := hid (bbl HB.out hb5)
      have HO5 := hid (own_keep HO.out hb5)
      have hcl5 : w5.cell? ⟨b, off + Y, none⟩ = some (.string l) := (hb5.cell (p := ⟨b, off + Y, none⟩) (by show b < _; omega)).trans HCL.out
      have HCL5 := hid hcl5
      have hbz5 := hb5.size
      clear hb5 HB KR KP HO HCL hcl5
      obtain ⟨Pa, Pb, Pc⟩ := KP5.out.three
      have Pz := KP5.out.lt
      obtain ⟨Ta, Tb⟩ := KT.out.two
      have Tz := KT.out.lt
      have hcl5 := HCL5.out
      have hbz' : b < w5.heap.size := by omega
      have hst := World.ownsRow.stored HO5.out k (.int .i64 (kdF z'))
      have hfro := World.ownsRow.frozenAt HO5.out k
      obtain ⟨hg1, hg2⟩ := HO5.out.lt g2 rfl
      have hck : w5.cell? ⟨g2, k, none⟩ = some ((vals (rpRow Wd Hd ss N k)).getD k (.int .i64 0)) := (World.ownsRow.cellAt HO5.out k (by omega)).trans (by
        have hlk : k < (vals (rpRow Wd Hd ss N k)).length := by simp [vals, rpRow_length Wd Hd ss hk]; omega
        rw [List.getD_eq_getElem?_getD, List.getElem?_eq_getElem hlk]; rfl)
      obtain ⟨v0, hv0⟩ : ∃ v0, (vals (rpRow Wd Hd ss N k)).getD k (.int .i64 0) = v0 := ⟨_, rfl⟩
      rw [hv0] at hck
      have HST := hid hst
      clear hst hv0
      have hgw : w.heap.size + 1 ≤ g2 := hg1
      go_region_held3 (fun zz => zz.cell? ⟨w2.heap.size, 2, none⟩ = some (.slice (some ⟨g2, 0, none⟩) N c2) ∧ zz.cell? ⟨b, off + Y, none⟩ = some (.string l) ∧ zz.cell? ⟨wr.heap.size, 0, none⟩ = some (.int .i64 X) ∧ zz.cell? ⟨wr.heap.size, 1, none⟩ = some (.int .i64 Y))
        (first | exact ⟨(Box.three KP5.out).2.2, HCL5.out, (Box.two KT.out).1, (Box.two KT.out).2⟩ | exact ⟨(Box.three (Box.drew (own_setboxP KP5.out HO5.out (by decide) _ _))).2.2, ((Below.setCell (Below.refl w.heap.size w5) (show w.heap.size ≤ g2 by omega) _).drew.cell (p := ⟨b, off + Y, none⟩) hbl).trans HCL5.out, (Box.two (Box.drew (own_setboxP KT.out HO5.out (by decide) _ _))).1, (Box.two (Box.drew (own_setboxP KT.out HO5.out (by decide) _ _))).2⟩)
        (first | (go_at_call 64; refine (markKind_any z' _).mono ?_; rintro e w' ⟨rfl, rfl⟩))
      go_wp2_with fail
      go_roundg (N - (k + 1))
      case measure => omega
      case rel =>
        have h1 := HST.out.1
        have h2 : (vals (rpRow Wd Hd ss N k)).set k (.int .i64 (kdF z')) = vals (rpRow Wd Hd ss N (k + 1)) := by rw [← HAT.out]; exact rpRow_set hlt
        rw [h2] at h1
        exact ⟨k + 1, by omega, by go_num, rfl, hid (own_drewP h1), hid (own_drewP (own_asideP (own_keep HQ.out hb55.out) HO5.out HST.out.2 (by decide))), hid (Box.drew (own_setboxP KR5.out HO5.out (by decide) _ _)), hid (Box.drew (own_setboxP KP5.out HO5.out (by decide) _ _)), hid (Below.setCell HB5.out (by show w.heap.size ≤ g2; omega) _).drew⟩
    · obtain rfl : k = N := by omega
      obtain ⟨Ra, Rb, Rc⟩ := KR.out.three
      have Rz := KR.out.lt
      have Rf := KR.out.free
      go_wp2_with fail
      have hE := HB.out
      have ho := HO.out
      rw [rpRow_full] at ho
      refine bodyPost_ret (v := .tuple #[.agg #[.int .i64 Wd, .int .i64 Hd, .slice A2 k c2], .int .i64 0]) (by simp [results, Try.results37, go_sem, *]) rfl ⟨⟨A2, c2, by rw [HV.out.1, HV.out.2.1, HV.out.2.2.1, HV.out.2.2.2.2], ?_⟩, ?_⟩
      · rw [HV.out.2.2.1, HV.out.2.2.2.1]
        refine Go.Joins.ownsRow_le (base := w.heap.size + 1) ?_ (by omega)
        repeat (refine ownsRow_setCell_below ?_ (by simp) _)
        exact ho
      · repeat (refine Below.setCell ?_ (by simp) _)
        exact hE
set_option maxRecDepth 100000 in
set_option maxHeartbeats 8000000 in
theorem specReadPicture_any (A : Option Addr) (c : Nat) (ss : List ByteArray) (w : World) (hz : StrsR w w.heap.size A ss) (hl : ss.length ≤ 1048576) (hs : ∀ s ∈ ss, s.size ≤ 1048576) :
    Calls Try.prog 36 #[.slice A ss.length c] w fun e w' => (∃ A' c', e = .returned (.tuple #[.agg #[.int .i64 (rpW ss), .int .i64 (rpH ss), .slice A' (rpN ss) c'], .int .i64 (rpC ss)]) ∧ w'.ownsRow w.heap.size 2 1 (.slice A' (rpN ss) c') (rpN ss) (vals (rpL ss))) ∧ Below w.heap.size w w' := by
  have HS := hid hs
  have HZ := hid hz
  obtain ⟨fk, hfk⟩ : ∃ k, (pfF ss).1 = k := ⟨_, rfl⟩
  obtain ⟨fy, hfy⟩ : ∃ k, (pfF ss).2.1 = k := ⟨_, rfl⟩
  obtain ⟨fx, hfx⟩ : ∃ k, (pfF ss).2.2 = k := ⟨_, rfl⟩
  have HF := hid (And.intro hfk (And.intro hfy hfx))
  obtain ⟨n, hn⟩ : ∃ n, ss.length = n := ⟨_, rfl⟩
  have HN := hid hn
  have HPF : Hid (∀ wx : World, StrsR wx wx.heap.size A ss → Calls Try.prog 58 #[.slice A n c] wx fun e w' => e = .returned (.tuple #[.int .i64 fk, .int .i64 fy, .int .i64 fx]) ∧ Below wx.heap.size wx w') := hid (fun wx h => by have := l05Fault_any A c ss wx h hl hs; rw [hfk, hfy, hfx, hn] at this; exact this)
  rw [hn] at hl ⊢
  by_cases h0 : ¬ (fk = 0)
  · have HV := hid (rp_no (ss := ss) (by rw [hfk]; exact h0))
    clear hfk hfy hfx hz hs hn
    go_enter Try.func36, Try.ntmps36
    go_wp2_with fail
    refine (HPF.out _ ((HZ.out.below (bal (Below.refl _ _) _)).more (by simp))).mono ?_
    rintro e w1 ⟨rfl, hb1⟩
    have KR := hid (Box.keep (Box.new w 39 #[.int .i64 0, .int .i64 0, .slice none 0 0]) hb1)
    have HB := hid (bstep (bal (Below.refl _ _) _) hb1)
    clear hb1
    obtain ⟨Ra, Rb, Rc⟩ := KR.out.three
    have Rz := KR.out.lt
    have Rf := KR.out.free
    go_wp2_with fail
    have hE := HB.out
    refine bodyPost_ret (v := .tuple #[.agg #[.int .i64 0, .int .i64 0, .slice none 0 0], .int .i64 8]) (by simp [results, Try.results36, go_sem, *]) rfl ⟨⟨none, 0, by rw [HV.out.1, HV.out.2.1, HV.out.2.2.1, HV.out.2.2.2.2], by rw [HV.out.2.2.1, HV.out.2.2.2.1]; exact World.ownsRow_nil _ _ _ _⟩, ?_⟩
    repeat (refine Below.setCell ?_ (by simp) _)
    exact hE
  have h0' : fk = 0 := Decidable.not_not.1 h0
  clear h0
  subst h0'
  obtain ⟨g1, g2, -⟩ := pf_ok hfk
  have HPT := hid (fun k hk => at_point hfk (k := k) hk)
  have HV := hid (rp_yes hfk)
  have hgb := good_bd g1
  have hgm := good_bd g2
  obtain ⟨m, hm⟩ : ∃ m, fsz ss = m := ⟨_, rfl⟩
  rw [hn] at hgb HV HPT g1
  rw [hm] at hgm g2 HV HPT
  obtain ⟨n1, n2, n3⟩ := hgb
  obtain ⟨m1, m2, m3⟩ := hgm
  obtain ⟨s0, hs0⟩ : ∃ s, ss[0]? = some s := ⟨_, List.getElem?_eq_getElem (by omega)⟩
  have hm0 : s0.size = m := by rw [← hm]; unfold fsz; cases ss with | nil => simp at hs0 | cons a tl => (simp at hs0; subst hs0; rfl)
  obtain ⟨b, off, rfl, hbl, hc0⟩ := hz 0 s0 hs0
  have HSW := hid (good_side g2)
  have HSH := hid (good_side g1)
  have t1 : Int.tdiv (m : Int) 2 = (m : Int) / 2 := Int.tdiv_eq_ediv_of_nonneg (by omega)
  have t2 : Int.tdiv (n : Int) 2 = (n : Int) / 2 := Int.tdiv_eq_ediv_of_nonneg (by omega)
  rw [Nat.add_zero] at hc0
  have HC0 := hid hc0
  clear hfk hfy hfx hz hs hn hm hs0 g1 g2 hc0 HS
  go_enter Try.func36, Try.ntmps36
  go_wp2_with fail
  refine (HPF.out _ ((HZ.out.below (bal (Below.refl _ _) _)).more (by simp))).mono ?_
  rintro e w1 ⟨rfl, hb1⟩
  have KR1 := hid (Box.keep (Box.new w 39 #[.int .i64 0, .int .i64 0, .slice none 0 0]) hb1)
  have HB1 := hid (bstep (bal (Below.refl _ _) _) hb1)
  have hc1 : w1.cell? ⟨b, off, none⟩ = some (.string s0) := (HB1.out.cell (p := ⟨b, off, none⟩) hbl).trans HC0.out
  have hbz : b < w1.heap.size := by have := HB1.out.size; omega
  clear hb1
  go_wp2_with fail
  refine (l02New_any _ _ _ HSW.out HSH.out).mono ?_
  rintro e w2 ⟨⟨A2, c2, rfl, ho2⟩, hb2⟩
  have KR2 := hid (Box.keep KR1.out hb2)
  have HB2 := hid (bbl HB1.out hb2)
  have hz1 := KR1.out.lt
  have HO2 := hid (Go.Joins.ownsRow_le ho2 (show w.heap.size + 1 ≤ w1.heap.size from hz1) : w2.ownsRow (w.heap.size + 1) 2 1 _ _ _)
  have hz2 := hb2.size
  obtain ⟨Wd, hWd⟩ : ∃ q, (m : Int) / 2 = q := ⟨_, rfl⟩
  obtain ⟨Hd, hHd⟩ : ∃ q, (n : Int) / 2 = q := ⟨_, rfl⟩
  rw [hWd, hHd] at HPT HV HO2 ⊢
  rw [hWd] at HSW
  rw [hHd] at HSH
  obtain ⟨W1, W2⟩ := side_bd HSW.out
  obtain ⟨H1, H2⟩ := side_bd HSH.out
  have hib := inner_le HSW.out HSH.out
  obtain ⟨N, hN⟩ : ∃ N : Nat, inner Wd Hd = N := ⟨(inner Wd Hd).toNat, by omega⟩
  have hN112 : N ≤ 112 := by omega
  rw [hN, Int.toNat_natCast] at HO2 HV ⊢
  rw [hN] at HPT
  have HIN := hid hN
  clear hb2 ho2 hc1 hbz t1 t2 hWd hHd hib hN KR1 HB1
  go_wp2_with fail
  have KR3 := hid (Box.alloc KR2.out (.cells #[.int .i64 Wd, .int .i64 Hd, .slice A2 N c2] 39))
  have KP3 := hid (Box.new w2 39 #[.int .i64 Wd, .int .i64 Hd, .slice A2 N c2])
  have HB3 := hid (bal HB2.out (.cells #[.int .i64 Wd, .int .i64 Hd, .slice A2 N c2] 39))
  have HO3 := hid (HO2.out.alloc (.cells #[.int .i64 Wd, .int .i64 Hd, .slice A2 N c2] 39))
  clear HB2 KR2 HO2
  go_loopg [8] N (fun g i wr => ∃ k : Nat, k ≤ N ∧ i = .int .i64 k ∧ g = N - k ∧ Hid (wr.ownsRow (w.heap.size + 1) 2 1 (.slice A2 N c2) N (vals (rpRow Wd Hd ss N k))) ∧ Hid (Box wr w.heap.size 39 #[.int .i64 0, .int .i64 0, .slice none 0 0]) ∧ Hid (Box wr w2.heap.size 39 #[.int .i64 Wd, .int .i64 Hd, .slice A2 N c2]) ∧ Hid (Below w.heap.size w wr))
  case atStart => exact ⟨0, Nat.zero_le _, rfl, rfl, by rw [rpRow_zero]; exact HO3, KR3, KP3, HB3⟩
  case round =>
    clear KR3 KP3 HB3 HO3
    obtain ⟨k, hk, rfl, hg, HO, KR, KP, HB⟩ := hrel
    obtain ⟨Pa, Pb, Pc⟩ := KP.out.three
    have Pz := KP.out.lt
    have hwz := HB.out.size
    by_cases hlt : k < N
    · obtain ⟨X, Y, l, z, hX, hY, hly, hlz, hxl, x16, y16, hyl, hat, hkz⟩ := HPT.out k (by omega)
      obtain ⟨b2, off2, e2, -, hcl⟩ := (HZ.out.below HB.out) Y l hly
      obtain ⟨rfl, rfl⟩ : b = b2 ∧ off = off2 := by simpa using e2
      have hbz : b < wr.heap.size := by omega
      obtain ⟨z', hz'⟩ : ∃ q : Int, ((l[X]'hxl).toNat : Int) = q := ⟨_, rfl⟩
      have hzz : z' = z := by have := byte_at l X hxl; rw [hlz, hz'] at this; injection this with this; exact this.symm
      subst hzz
      have hnl : Y < n := hyl
      have HXY := hid (And.intro hX hY)
      have HAT := hid hat
      have HCL := hid hcl
      clear hX hY hly hlz hat e2 hyl hcl
      rcases Go.Joins.ownsRow_forms HO.out with ⟨_, hn0⟩ | ⟨g2, cp, ep⟩
      · exact absurd hlt (by omega)
      simp only [Value.slice.injEq] at ep
      obtain ⟨rfl, -, rfl⟩ := ep
      go_wp2_with fail
      refine (l02Point_any w2.heap.size Wd Hd k _ wr KP.out HSW.out HSH.out (by omega) (by rw [HIN.out]; omega)).mono ?_
      rintro e w4 ⟨rfl, hb4⟩
      rw [HXY.out.1, HXY.out.2]
      have KR4 := hid (Box.keep KR.out hb4)
      have KP4 := hid (Box.keep KP.out hb4)
      have HB4 := hid (bbl HB.out hb4)
      have HO4 := hid (own_keep HO.out hb4)
      have HCL4 := hid ((hb4.cell (p := ⟨b, off + Y, none⟩) hbz).trans HCL.out)
      have hbz4 := hb4.size
      clear hb4 Pa Pb Pc Pz HB KR KP HO HCL
      obtain ⟨Pa, Pb, Pc⟩ := KP4.out.three
      have Pz := KP4.out.lt
      go_wp2_with fail
      obtain ⟨w5, hw5⟩ : ∃ zz : World, zz = w4.alloc (.cells #[.int .i64 X, .int .i64 Y] 69) := ⟨_, rfl⟩
      rw [← hw5]
      have KT := hid (show Box w5 w4.heap.size 69 #[.int .i64 X, .int .i64 Y] by rw [hw5]; exact Box.new _ _ _)
      have hb5 : Below w4.heap.size w4 w5 := hw5 ▸ bal (Below.refl _ _) _
      have HCL := HCL4
      have HB := HB4
      have KR := KR4
      have KP := KP4
      have HO := HO4
      clear hw5 Pa Pb Pc Pz HB4 KR4 KP4 HO4 HCL4
      have KR5 := hid (Box.keep KR.out hb5)
      have KP5 := hid (Box.keep KP.out hb5)
      have HB5 := hid (bbl HB.out hb5)
      have HO5 := hid (own_keep HO.out hb5)
      have hcl5 : w5.cell? ⟨b, off + Y, none⟩ = some (.string l) := (hb5.cell (p := ⟨b, off + Y, none⟩) (by show b < _; omega)).trans HCL.out
      have HCL5 := hid hcl5
      have hbz5 := hb5.size
      clear hb5 HB KR KP HO HCL hcl5
      obtain ⟨Pa, Pb, Pc⟩ := KP5.out.three
      have Pz := KP5.out.lt
      obtain ⟨Ta, Tb⟩ := KT.out.two
      have Tz := KT.out.lt
      have hcl5 := HCL5.out
      have hbz' : b < w5.heap.size := by omega
      have hst := World.ownsRow.stored HO5.out k (.int .i64 (kdF z'))
      have hfro := World.ownsRow.frozenAt HO5.out k
      obtain ⟨hg1, hg2⟩ := HO5.out.lt g2 rfl
      have hck : w5.cell? ⟨g2, k, none⟩ = some ((vals (rpRow Wd Hd ss N k)).getD k (.int .i64 0)) := (World.ownsRow.cellAt HO5.out k (by omega)).trans (by
        have hlk : k < (vals (rpRow Wd Hd ss N k)).length := by simp [vals, rpRow_length Wd Hd ss hk]; omega
        rw [List.getD_eq_getElem?_getD, List.getElem?_eq_getElem hlk]; rfl)
      obtain ⟨v0, hv0⟩ : ∃ v0, (vals (rpRow Wd Hd ss N k)).getD k (.int .i64 0) = v0 := ⟨_, rfl⟩
      rw [hv0] at hck
      have HST := hid hst
      clear hst hv0
      have hgw : w.heap.size + 1 ≤ g2 := hg1
      go_region_held3 (fun zz => zz.cell? ⟨w2.heap.size, 2, none⟩ = some (.slice (some ⟨g2, 0, none⟩) N c2) ∧ zz.cell? ⟨b, off + Y, none⟩ = some (.string l) ∧ zz.cell? ⟨w4.heap.size, 0, none⟩ = some (.int .i64 X) ∧ zz.cell? ⟨w4.heap.size, 1, none⟩ = some (.int .i64 Y))
        (first | exact ⟨(Box.three KP5.out).2.2, HCL5.out, (Box.two KT.out).1, (Box.two KT.out).2⟩ | exact ⟨(Box.three (Box.drew (own_setboxP KP5.out HO5.out (by decide) _ _))).2.2, ((Below.setCell (Below.refl w.heap.size w5) (show w.heap.size ≤ g2 by omega) _).drew.cell (p := ⟨b, off + Y, none⟩) hbl).trans HCL5.out, (Box.two (Box.drew (own_setboxP KT.out HO5.out (by decide) _ _))).1, (Box.two (Box.drew (own_setboxP KT.out HO5.out (by decide) _ _))).2⟩)
        (first | (go_at_call 83; refine (l05Kind_any z' _).mono ?_; rintro e w' ⟨rfl, rfl⟩))
      go_wp2_with fail
      go_roundg (N - (k + 1))
      case measure => omega
      case rel =>
        have h1 := HST.out.1
        have h2 : (vals (rpRow Wd Hd ss N k)).set k (.int .i64 (kdF z')) = vals (rpRow Wd Hd ss N (k + 1)) := by rw [← HAT.out]; exact rpRow_set hlt
        rw [h2] at h1
        exact ⟨k + 1, by omega, by go_num, rfl, hid (own_drewP h1), hid (Box.drew (own_setboxP KR5.out HO5.out (by decide) _ _)), hid (Box.drew (own_setboxP KP5.out HO5.out (by decide) _ _)), hid (Below.setCell HB5.out (by show w.heap.size ≤ g2; omega) _).drew⟩
    · obtain rfl : k = N := by omega
      obtain ⟨Ra, Rb, Rc⟩ := KR.out.three
      have Rz := KR.out.lt
      have Rf := KR.out.free
      go_wp2_with fail
      have hE := HB.out
      have ho := HO.out
      rw [rpRow_full] at ho
      refine bodyPost_ret (v := .tuple #[.agg #[.int .i64 Wd, .int .i64 Hd, .slice A2 k c2], .int .i64 0]) (by simp [results, Try.results36, go_sem, *]) rfl ⟨⟨A2, c2, by rw [HV.out.1, HV.out.2.1, HV.out.2.2.1, HV.out.2.2.2.2], ?_⟩, ?_⟩
      · rw [HV.out.2.2.1, HV.out.2.2.2.1]
        refine Go.Joins.ownsRow_le (base := w.heap.size + 1) ?_ (by omega)
        repeat (refine ownsRow_setCell_below ?_ (by simp) _)
        exact ho
      · repeat (refine Below.setCell ?_ (by simp) _)
        exact hE
end Go.Proofs.Ytgcgaoblbhojnaa

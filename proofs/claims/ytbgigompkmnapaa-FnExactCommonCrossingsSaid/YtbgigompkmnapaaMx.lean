/- SelfCrossings, CommonCrossings: the reference's contracts. -/
import Derived.Test.YtbgigompkmnapaaMw
namespace Go.Proofs.Ytbgigompkmnapaa
set_option linter.unusedSimpArgs false
set_option linter.unusedVariables false
open Go.ChangeShapes Go.WideShapes Go.ChangeAt Go.RowKit
theorem cc_one {W H : Int} {zs : List Int} {a : Int} (hv : validB W H zs = true) : ccF W H zs [a] = if inR a 0 (ncF W H zs - 1) = true then 0 else 2 := by simp [ccF, hv]
set_option maxRecDepth 100000 in
set_option maxHeartbeats 4000000 in
theorem l04Code_no (pb : Nat) (W H : Int) (A : Option Addr) (c : Nat) (zs : List Int) (a cc : Int) (w : World) (B : Nat) (hB : B ≤ w.heap.size) (hpp : PanP w pb W H (.slice A zs.length c)) (hz : Ints w B A zs) (hl : zs.length ≤ maxLen) (hc : ccF W H zs [a] = cc) (h0 : ¬ cc = 0) :
    Calls Try.prog 70 #[.pointer (some ⟨pb, 0, none⟩), .int .i64 a] w fun e w' => e = .returned (.tuple #[.slice none 0 0, .int .i64 cc]) ∧ Below w.heap.size w w' := by
  have HP := hid hpp
  clear hpp
  cases hv : validB W H zs
  · have HV : Hid (cc = 1) := hid (by rw [← hc]; simp [ccF, hv])
    have Hv := hid hv
    clear hv hc h0
    go_enter Try.func70, Try.ntmps70
    go_wp2_with fail
    refine (qb (calls_bool (l02Ok_any pb W H A c zs _ B HP.out hz hl) Hv.out)).mono ?_
    rintro e w1 ⟨rfl, hb1⟩
    have KP1 := hid (Box.keep HP.out hb1)
    have HB1 := hid hb1
    clear hb1
    go_wp2_with fail
    go_ret2
    exact ⟨by rw [HV.out]; rfl, HB1.out⟩
  · have hr : inR a 0 (ncF W H zs - 1) = false := by cases h : inR a 0 (ncF W H zs - 1); rfl; rw [cc_one hv, if_pos h] at hc; omega
    have HV : Hid (cc = 2) := hid (by rw [← hc, cc_one hv, if_neg (by rw [hr]; decide)])
    have Hv := hid hv
    have HR := hid hr
    clear hv hr hc h0
    have hfew := tr_few Hv.out
    obtain ⟨nb, nb2, nb3⟩ := nn_bd Hv.out
    clear nb3
    go_enter Try.func70, Try.ntmps70
    go_wp2_with fail
    refine (qb (calls_bool (l02Ok_any pb W H A c zs _ B HP.out hz hl) Hv.out)).mono ?_
    rintro e w1 ⟨rfl, hb1⟩
    have KP1 := hid (Box.keep HP.out hb1)
    have HB1 := hid hb1
    clear hb1
    go_wp2_with fail
    refine (l04All_any pb W H A c zs _ B (Nat.le_trans hB HB1.out.size) KP1.out (hz.below (Below.mono HB1.out hB)) hl Hv.out).mono ?_
    rintro e w2 ⟨⟨E1, d1, E2, d2, rfl, hne2, ho2⟩, hb2⟩
    have HO2 := hid ho2
    have HB2 := hid (bbl HB1.out hb2)
    clear hne2 hb2 ho2
    rcases Go.Joins.ownsRow_forms HO2.out with ⟨_, hn0⟩ | ⟨go, co, e7⟩
    · exact absurd hn0 (by omega)
    simp only [Value.slice.injEq] at e7
    obtain ⟨rfl, -, rfl⟩ := e7
    obtain ⟨nc, hnc⟩ : ∃ z : Nat, (trS W H zs (4 * W * H).toNat).1.length = z := ⟨_, rfl⟩
    have hr : inR a 0 ((nc : Int) - 1) = false := by have h := HR.out; unfold ncF at h; rw [hnc] at h; exact h
    rw [hnc] at hfew ⊢
    have HRR := hid hr
    clear hnc hr
    go_wp2_with fail
    refine (calls_bool (l00In_any _ _ _ _) HRR.out).mono ?_
    rintro e w' ⟨rfl, rfl⟩
    go_wp2_with fail
    go_ret2
    exact ⟨by rw [HV.out]; rfl, HB2.out⟩
set_option maxRecDepth 100000 in
set_option maxHeartbeats 4000000 in
theorem l04Code_ok (pb : Nat) (W H : Int) (A : Option Addr) (c : Nat) (zs : List Int) (a cc : Int) (w : World) (B : Nat) (hB : B ≤ w.heap.size) (hpp : PanP w pb W H (.slice A zs.length c)) (hz : Ints w B A zs) (hl : zs.length ≤ maxLen) (hc : ccF W H zs [a] = cc) (h0 : cc = 0) :
    Calls Try.prog 70 #[.pointer (some ⟨pb, 0, none⟩), .int .i64 a] w fun e w' => (∃ go co, e = .returned (.tuple #[.slice (some ⟨go, 0, none⟩) (4 * W * H).toNat co, .int .i64 0]) ∧ w'.ownsRow w.heap.size 2 1 (.slice (some ⟨go, 0, none⟩) (4 * W * H).toNat co) (4 * W * H).toNat (vals (owL W H zs))) ∧ Below w.heap.size w w' := by
  have HP := hid hpp
  clear hpp
  have hv := cc_valid (hc.trans h0)
  have hr : inR a 0 (ncF W H zs - 1) = true := by rw [cc_one hv] at hc; by_cases h : inR a 0 (ncF W H zs - 1) = true; exact h; rw [if_neg h] at hc; omega
  have Hv := hid hv
  have HR := hid hr
  clear hv hr hc h0
  have hfew := tr_few Hv.out
  obtain ⟨nb, nb2, nb3⟩ := nn_bd Hv.out
  clear nb3
  go_enter Try.func70, Try.ntmps70
  go_wp2_with fail
  refine (qb (calls_bool (l02Ok_any pb W H A c zs _ B HP.out hz hl) Hv.out)).mono ?_
  rintro e w1 ⟨rfl, hb1⟩
  have KP1 := hid (Box.keep HP.out hb1)
  have HB1 := hid hb1
  clear hb1
  go_wp2_with fail
  refine (l04All_any pb W H A c zs _ B (Nat.le_trans hB HB1.out.size) KP1.out (hz.below (Below.mono HB1.out hB)) hl Hv.out).mono ?_
  rintro e w2 ⟨⟨E1, d1, E2, d2, rfl, hne2, ho2⟩, hb2⟩
  have HO2 := hid ho2
  have HB2 := hid (bbl HB1.out hb2)
  clear hne2 hb2 ho2
  rcases Go.Joins.ownsRow_forms HO2.out with ⟨_, hn0⟩ | ⟨go, co, e7⟩
  · exact absurd hn0 (by omega)
  simp only [Value.slice.injEq] at e7
  obtain ⟨rfl, -, rfl⟩ := e7
  obtain ⟨nc, hnc⟩ : ∃ z : Nat, (trS W H zs (4 * W * H).toNat).1.length = z := ⟨_, rfl⟩
  have hr : inR a 0 ((nc : Int) - 1) = true := by have h := HR.out; unfold ncF at h; rw [hnc] at h; exact h
  rw [hnc] at hfew ⊢
  have HRR := hid hr
  clear hnc hr
  go_wp2_with fail
  refine (calls_bool (l00In_any _ _ _ _) HRR.out).mono ?_
  rintro e w' ⟨rfl, rfl⟩
  go_wp2_with fail
  go_ret2
  exact ⟨⟨_, _, rfl, Go.Joins.ownsRow_le HO2.out HB1.out.size⟩, HB2.out⟩
set_option maxRecDepth 100000 in
set_option maxHeartbeats 8000000 in
theorem l04Cross_any (pb : Nat) (W H : Int) (A : Option Addr) (c : Nat) (zs : List Int) (a b : Int) (w : World) (B : Nat) (hB : B ≤ w.heap.size) (hpp : PanP w pb W H (.slice A zs.length c)) (hz : Ints w B A zs) (hv : validB W H zs = true) (go co B0 : Nat) (ho : w.ownsRow B0 2 1 (.slice (some ⟨go, 0, none⟩) (4 * W * H).toNat co) (4 * W * H).toNat (vals (owL W H zs))) :
    Calls Try.prog 71 #[.pointer (some ⟨pb, 0, none⟩), .slice (some ⟨go, 0, none⟩) (4 * W * H).toNat co, .int .i64 a, .int .i64 b] w fun e w' => e = .returned (.int .i64 (xC W H zs a b zs.length : Int)) ∧ Below w.heap.size w w' := by
  have hzl : zs.length ≤ 112 := by have h1 := valid_len hv; have h2 := inner_le (valid_sides hv).1 (valid_sides hv).2; omega
  obtain ⟨n, hn⟩ : ∃ n, zs.length = n := ⟨_, rfl⟩
  have HP := hid hpp
  rw [hn] at hzl HP ⊢
  have HN := hid hn
  have HO := hid ho
  have HZ := hid hz
  have Hv := hid hv
  clear hpp hn ho hz hv
  go_enter Try.func71, Try.ntmps71
  go_wp2_with fail
  go_loopg [9, 10] n (fun g v i wr => ∃ k : Nat, k ≤ n ∧ v = .int .i64 ((xC W H zs a b k : Nat) : Int) ∧ i = .int .i64 k ∧ g = n - k ∧ Hid (Below w.heap.size w wr))
  case atStart => exact ⟨0, Nat.zero_le _, rfl, rfl, rfl, hid (Below.refl _ _)⟩
  case round =>
    obtain ⟨k, hk, rfl, rfl, hg, HB⟩ := hrel
    have hxl := xC_le W H zs a b k
    have HX := hid (xC_succ W H zs a b k)
    obtain ⟨ct, hct⟩ : ∃ q, xC W H zs a b k = q := ⟨_, rfl⟩
    rw [hct] at hxl HX
    simp only [hct]
    have HCT := hid hct
    clear hct
    have KP := hid (Box.keep HP.out HB.out)
    obtain ⟨Pa, Pb, Pc⟩ := KP.out.three
    have Pz := KP.out.lt
    have kz := HB.out.size
    by_cases hlt : k < n
    · obtain ⟨zk, hzk⟩ : ∃ z, zs[k]? = some z := ⟨_, List.getElem?_eq_getElem (by have := HN.out; omega)⟩
      have HG : Hid (zs.getD k 0 = zk) := hid (by rw [List.getD_eq_getElem?_getD, hzk]; rfl)
      obtain ⟨bb, off, rfl, hbb, hcc0⟩ := ((HZ.out.more hB).below HB.out) k zk hzk
      have hbw : bb < wr.heap.size := by omega
      clear hzk
      by_cases h0 : zk = 0
      · have hb0 : (zk != 0) = false := by simp [h0]
        have HPC := hid (pt_code Hv.out (by have := HN.out; omega : k < zs.length))
        have hin : (k : Int) < inner W H := by have := valid_len Hv.out; have := HN.out; omega
        have HXS : Hid (xC W H zs a b (k + 1) = ct + if xB W H zs a b k = true then 1 else 0) := hid (by rw [HX.out, HG.out, h0]; simp)
        have HXB : Hid (xB W H zs a b k = ((mP W H zs k == a && mQ W H zs k == b) || (mP W H zs k == b && mQ W H zs k == a))) := hid rfl
        have HPQ : Hid (mP W H zs k = ow H (owL W H zs) (ptX W H k) (ptY W H k) (-1) (-1) ∧ mQ W H zs k = ow H (owL W H zs) (ptX W H k) (ptY W H k) 1 (-1)) := hid ⟨rfl, rfl⟩
        obtain ⟨p, hp⟩ : ∃ q, mP W H zs k = q := ⟨_, rfl⟩
        obtain ⟨q, hq⟩ : ∃ q, mQ W H zs k = q := ⟨_, rfl⟩
        rw [hp, hq] at HXB HPQ
        clear h0 hp hq HX
        go_wp2_with fail
        refine (l02Point_any pb W H k _ _ KP.out (valid_sides Hv.out).1 (valid_sides Hv.out).2 (by omega) hin).mono ?_
        rintro e w2 ⟨rfl, hb2⟩
        have KP2 := hid (Box.keep KP.out hb2)
        have HB2 := hid (bbl HB.out hb2)
        have HO2 := hid (own_keep HO.out HB2.out)
        clear hb2 Pa Pb Pc Pz hcc0
        obtain ⟨X, hX⟩ : ∃ X, ptX W H k = X := ⟨_, rfl⟩
        obtain ⟨Y, hY⟩ : ∃ Y, ptY W H k = Y := ⟨_, rfl⟩
        rw [hX, hY] at HPC HPQ ⊢
        clear hX hY
        go_wp2_with fail
        refine (l04Meet_any pb W H X Y _ zs _ KP2.out HPC.out Hv.out _ _ _ (owL W H zs) (owL_len Hv.out) HO2.out).mono ?_
        rintro e w3 ⟨⟨g9, c9, rfl, ho3⟩, hb3⟩
        rw [← HPQ.out.1, ← HPQ.out.2] at ho3
        have HB3 := hid (bbl HB2.out hb3)
        have hc0 : w3.cell? ⟨g9, 0, none⟩ = some (.int .i64 p) := (World.ownsRow.cellAt ho3 0 (by decide)).trans rfl
        have hc1 : w3.cell? ⟨g9, 1, none⟩ = some (.int .i64 q) := (World.ownsRow.cellAt ho3 1 (by decide)).trans rfl
        clear hb3 ho3
        by_cases hpa : p = a
        · by_cases hqb : q = b
          · skip
            have HE : Hid (xC W H zs a b (k + 1) = ct + 1) := hid (by rw [HXS.out, HXB.out]; simp [hpa, hqb] <;> (intros; omega))
            try (have bpa : (p == a) = true := by simp [hpa])
            try (have bpa : (p == a) = false := by simp [hpa])
            try (have bqb : (q == b) = true := by simp [hqb])
            try (have bqb : (q == b) = false := by simp [hqb])
            try (have bpb : (p == b) = true := by simp [hpb])
            try (have bpb : (p == b) = false := by simp [hpb])
            try (have bqa : (q == a) = true := by simp [hqa])
            try (have bqa : (q == a) = false := by simp [hqa])
            clear hpa hqb
            go_wp2_with fail
            go_roundg (n - (k + 1))
            case measure => omega
            case rel => exact ⟨k + 1, by omega, by rw [HE.out]; go_num, by go_num, rfl, HB3⟩
          · by_cases hpb : p = b
            · by_cases hqa : q = a
              · skip
                have HE : Hid (xC W H zs a b (k + 1) = ct + 1) := hid (by rw [HXS.out, HXB.out]; simp [hpb, hqa, hpa, hqb] <;> (intros; omega))
                try (have bpa : (p == a) = true := by simp [hpa])
                try (have bpa : (p == a) = false := by simp [hpa])
                try (have bqb : (q == b) = true := by simp [hqb])
                try (have bqb : (q == b) = false := by simp [hqb])
                try (have bpb : (p == b) = true := by simp [hpb])
                try (have bpb : (p == b) = false := by simp [hpb])
                try (have bqa : (q == a) = true := by simp [hqa])
                try (have bqa : (q == a) = false := by simp [hqa])
                clear hpb hqa hpa hqb
                go_wp2_with fail
                go_roundg (n - (k + 1))
                case measure => omega
                case rel => exact ⟨k + 1, by omega, by rw [HE.out]; go_num, by go_num, rfl, HB3⟩
              · skip
                have HE : Hid (xC W H zs a b (k + 1) = ct + 0) := hid (by rw [HXS.out, HXB.out]; simp [hqa, hqb, hpa, hpb] <;> (intros; omega))
                try (have bpa : (p == a) = true := by simp [hpa])
                try (have bpa : (p == a) = false := by simp [hpa])
                try (have bqb : (q == b) = true := by simp [hqb])
                try (have bqb : (q == b) = false := by simp [hqb])
                try (have bpb : (p == b) = true := by simp [hpb])
                try (have bpb : (p == b) = false := by simp [hpb])
                try (have bqa : (q == a) = true := by simp [hqa])
                try (have bqa : (q == a) = false := by simp [hqa])
                clear hqa hqb hpa hpb
                go_wp2_with fail
                go_roundg (n - (k + 1))
                case measure => omega
                case rel => exact ⟨k + 1, by omega, by rw [HE.out]; go_num, by go_num, rfl, HB3⟩
            · skip
              have HE : Hid (xC W H zs a b (k + 1) = ct + 0) := hid (by rw [HXS.out, HXB.out]; simp [hpb, hqb, hpa] <;> (intros; omega))
              try (have bpa : (p == a) = true := by simp [hpa])
              try (have bpa : (p == a) = false := by simp [hpa])
              try (have bqb : (q == b) = true := by simp [hqb])
              try (have bqb : (q == b) = false := by simp [hqb])
              try (have bpb : (p == b) = true := by simp [hpb])
              try (have bpb : (p == b) = false := by simp [hpb])
              try (have bqa : (q == a) = true := by simp [hqa])
              try (have bqa : (q == a) = false := by simp [hqa])
              clear hpb hqb hpa
              go_wp2_with fail
              go_roundg (n - (k + 1))
              case measure => omega
              case rel => exact ⟨k + 1, by omega, by rw [HE.out]; go_num, by go_num, rfl, HB3⟩
        · by_cases hpb : p = b
          · by_cases hqa : q = a
            · skip
              have HE : Hid (xC W H zs a b (k + 1) = ct + 1) := hid (by rw [HXS.out, HXB.out]; simp [hpb, hqa, hpa] <;> (intros; omega))
              try (have bpa : (p == a) = true := by simp [hpa])
              try (have bpa : (p == a) = false := by simp [hpa])
              try (have bqb : (q == b) = true := by simp [hqb])
              try (have bqb : (q == b) = false := by simp [hqb])
              try (have bpb : (p == b) = true := by simp [hpb])
              try (have bpb : (p == b) = false := by simp [hpb])
              try (have bqa : (q == a) = true := by simp [hqa])
              try (have bqa : (q == a) = false := by simp [hqa])
              clear hpb hqa hpa
              go_wp2_with fail
              go_roundg (n - (k + 1))
              case measure => omega
              case rel => exact ⟨k + 1, by omega, by rw [HE.out]; go_num, by go_num, rfl, HB3⟩
            · skip
              have HE : Hid (xC W H zs a b (k + 1) = ct + 0) := hid (by rw [HXS.out, HXB.out]; simp [hqa, hpa, hpb] <;> (intros; omega))
              try (have bpa : (p == a) = true := by simp [hpa])
              try (have bpa : (p == a) = false := by simp [hpa])
              try (have bqb : (q == b) = true := by simp [hqb])
              try (have bqb : (q == b) = false := by simp [hqb])
              try (have bpb : (p == b) = true := by simp [hpb])
              try (have bpb : (p == b) = false := by simp [hpb])
              try (have bqa : (q == a) = true := by simp [hqa])
              try (have bqa : (q == a) = false := by simp [hqa])
              clear hqa hpa hpb
              go_wp2_with fail
              go_roundg (n - (k + 1))
              case measure => omega
              case rel => exact ⟨k + 1, by omega, by rw [HE.out]; go_num, by go_num, rfl, HB3⟩
          · skip
            have HE : Hid (xC W H zs a b (k + 1) = ct + 0) := hid (by rw [HXS.out, HXB.out]; simp [hpa, hpb] <;> (intros; omega))
            try (have bpa : (p == a) = true := by simp [hpa])
            try (have bpa : (p == a) = false := by simp [hpa])
            try (have bqb : (q == b) = true := by simp [hqb])
            try (have bqb : (q == b) = false := by simp [hqb])
            try (have bpb : (p == b) = true := by simp [hpb])
            try (have bpb : (p == b) = false := by simp [hpb])
            try (have bqa : (q == a) = true := by simp [hqa])
            try (have bqa : (q == a) = false := by simp [hqa])
            clear hpa hpb
            go_wp2_with fail
            go_roundg (n - (k + 1))
            case measure => omega
            case rel => exact ⟨k + 1, by omega, by rw [HE.out]; go_num, by go_num, rfl, HB3⟩
      · have hb0 : (zk != 0) = true := by simp [h0]
        have HXS : Hid (xC W H zs a b (k + 1) = ct) := hid (by rw [HX.out, HG.out]; simp [h0])
        clear h0
        go_wp2_with fail
        go_roundg (n - (k + 1))
        case measure => omega
        case rel => exact ⟨k + 1, by omega, by rw [HXS.out], by go_num, rfl, HB⟩
    · obtain rfl : k = n := by omega
      have HE : Hid (xC W H zs a b k = ct) := hid HCT.out
      go_wp2_with fail
      go_ret
      exact ⟨ret_int (by rw [HE.out]), HB.out⟩
set_option maxRecDepth 100000 in
set_option maxHeartbeats 8000000 in
theorem specSelfCrossings_any (W H : Int) (A : Option Addr) (c : Nat) (zs : List Int) (a : Int) (w : World) (hz : Ints w w.heap.size A zs) (hl : zs.length ≤ maxLen) (_ : (Lit.int .i64 a).wf = true) :
    Calls Try.prog 21 #[.agg #[.int .i64 W, .int .i64 H, .slice A zs.length c], .int .i64 a] w fun e w' => e = .returned (.tuple #[.int .i64 (slR W H zs a), .int .i64 (ccF W H zs [a])]) ∧ Below w.heap.size w w' := by
  obtain ⟨cc, hcc⟩ : ∃ cc, ccF W H zs [a] = cc := ⟨_, rfl⟩
  have HC := hid hcc
  by_cases hc0 : cc = 0
  · have HC0 := hid hc0
    have hv := cc_valid (hcc.trans hc0)
    have Hv := hid hv
    have HV : Hid (slR W H zs a = (xC W H zs a a zs.length : Int) ∧ ccF W H zs [a] = 0) := hid ⟨by unfold slR; rw [if_pos (hcc.trans hc0)], hcc.trans hc0⟩
    clear hcc hc0 hv
    go_enter Try.func21, Try.ntmps21
    go_wp2_with fail
    refine (l04Code_ok _ W H A c zs a _ _ w.heap.size (bal (Below.refl _ _) _).size (Box.new' _ _ _ _ (by simp)) (hz.below (bal (Below.refl _ _) _)) hl HC.out HC0.out).mono ?_
    rintro e w1 ⟨⟨go1, co1, rfl, ho1⟩, hb1⟩
    have HO1 := hid ho1
    clear ho1
    have KP1 : Hid (Box w1 w.heap.size 30 #[.int .i64 W, .int .i64 H, .slice A zs.length c]) := hid (Box.keep (Box.new' _ _ _ _ (by simp)) hb1)
    have HB1 : Hid (Below w.heap.size w w1) := hid (bstep (bal (Below.refl _ _) _) hb1)
    clear hb1
    go_wp2_with fail
    refine (l04Cross_any _ W H A c zs a a _ w.heap.size HB1.out.size KP1.out (hz.below HB1.out) Hv.out _ _ _ HO1.out).mono ?_
    rintro e w9 ⟨rfl, hb9⟩
    have HB9 := hid (bbl HB1.out hb9)
    clear hb9
    go_wp2_with fail
    go_ret2
    exact ⟨ret_i2 HV.out.1.symm HV.out.2.symm, HB9.out⟩
  · have HCN := hid hc0
    have hne : (cc != 0) = true := by simp [hc0]
    have hneq : (cc == 0) = false := by simp [hc0]
    have HV : Hid (slR W H zs a = 0 ∧ ccF W H zs [a] = cc) := hid ⟨by unfold slR; rw [hcc, if_neg hc0], hcc⟩
    clear hcc hc0
    go_enter Try.func21, Try.ntmps21
    go_wp2_with fail
    refine (l04Code_no _ W H A c zs a _ _ w.heap.size (bal (Below.refl _ _) _).size (Box.new' _ _ _ _ (by simp)) (hz.below (bal (Below.refl _ _) _)) hl HC.out HCN.out).mono ?_
    rintro e w1 ⟨rfl, hb1⟩
    have KP1 : Hid (Box w1 w.heap.size 30 #[.int .i64 W, .int .i64 H, .slice A zs.length c]) := hid (Box.keep (Box.new' _ _ _ _ (by simp)) hb1)
    have HB1 : Hid (Below w.heap.size w w1) := hid (bstep (bal (Below.refl _ _) _) hb1)
    clear hb1
    go_wp2_with fail
    go_ret2
    exact ⟨ret_i2 HV.out.1.symm HV.out.2.symm, HB1.out⟩
set_option maxRecDepth 100000 in
set_option maxHeartbeats 8000000 in
theorem specCommonCrossings_any (W H : Int) (A : Option Addr) (c : Nat) (zs : List Int) (a b : Int) (w : World) (hz : Ints w w.heap.size A zs) (hl : zs.length ≤ maxLen) (_ : (Lit.int .i64 a).wf = true) (_ : (Lit.int .i64 b).wf = true) :
    Calls Try.prog 23 #[.agg #[.int .i64 W, .int .i64 H, .slice A zs.length c], .int .i64 a, .int .i64 b] w fun e w' => e = .returned (.tuple #[.int .i64 (cmR W H zs a b), .int .i64 (cmC W H zs a b)]) ∧ Below w.heap.size w w' := by
  obtain ⟨cc, hcc⟩ : ∃ cc, ccF W H zs [a] = cc := ⟨_, rfl⟩
  have HC := hid hcc
  by_cases hc0 : cc = 0
  · have HC0 := hid hc0
    have hv := cc_valid (hcc.trans hc0)
    have Hv := hid hv
    have h2 := (cc_two (W := W) (H := H) (zs := zs) (a := a) (b := b)).1 (hcc.trans hc0)
    obtain ⟨cb, hcb⟩ : ∃ cb, ccF W H zs [b] = cb := ⟨_, rfl⟩
    have HCB := hid hcb
    rw [hcb] at h2
    by_cases hb0 : cb = 0
    · have HCB0 := hid hb0
      by_cases hab : a = b
      · have HV : Hid (cmR W H zs a b = 0 ∧ cmC W H zs a b = 6) := hid (by have h1 : cmC W H zs a b = 6 := (by unfold cmC; rw [if_pos (h2.trans hb0), if_pos hab]); exact ⟨by unfold cmR; rw [h1]; rfl, h1⟩)
        have heq : (a == b) = true := by simp [hab]
        clear hcc hc0 hv h2 hcb hb0 hab
        go_enter Try.func23, Try.ntmps23
        go_wp2_with fail
        refine (l04Code_ok _ W H A c zs a _ _ w.heap.size (bal (Below.refl _ _) _).size (Box.new' _ _ _ _ (by simp)) (hz.below (bal (Below.refl _ _) _)) hl HC.out HC0.out).mono ?_
        rintro e w1 ⟨⟨go1, co1, rfl, ho1⟩, hb1⟩
        have HO1 := hid ho1
        clear ho1
        have KP1 : Hid (Box w1 w.heap.size 30 #[.int .i64 W, .int .i64 H, .slice A zs.length c]) := hid (Box.keep (Box.new' _ _ _ _ (by simp)) hb1)
        have HB1 : Hid (Below w.heap.size w w1) := hid (bstep (bal (Below.refl _ _) _) hb1)
        clear hb1
        go_wp2_with fail
        refine (l04Code_ok _ W H A c zs b _ _ w.heap.size HB1.out.size KP1.out (hz.below HB1.out) hl HCB.out HCB0.out).mono ?_
        rintro e w2 ⟨⟨go2, co2, rfl, ho2⟩, hb2⟩
        have HO2 := hid ho2
        clear ho2
        have KP2 : Hid (Box w2 w.heap.size 30 #[.int .i64 W, .int .i64 H, .slice A zs.length c]) := hid (Box.keep KP1.out hb2)
        have HB2 : Hid (Below w.heap.size w w2) := hid (bstep HB1.out hb2)
        have HO21 := hid (own_keep HO1.out hb2)
        clear hb2
        go_wp2_with fail
        go_ret2
        exact ⟨ret_i2 HV.out.1.symm HV.out.2.symm, HB2.out⟩
      · have hC : cmC W H zs a b = 0 := by unfold cmC; rw [if_pos (h2.trans hb0), if_neg hab]
        have HV : Hid (cmR W H zs a b = (xC W H zs a b zs.length : Int) ∧ cmC W H zs a b = 0) := hid ⟨by unfold cmR; rw [if_pos hC], hC⟩
        have heq : (a == b) = false := by simp [hab]
        clear hcc hc0 hv h2 hcb hb0 hab hC
        go_enter Try.func23, Try.ntmps23
        go_wp2_with fail
        refine (l04Code_ok _ W H A c zs a _ _ w.heap.size (bal (Below.refl _ _) _).size (Box.new' _ _ _ _ (by simp)) (hz.below (bal (Below.refl _ _) _)) hl HC.out HC0.out).mono ?_
        rintro e w1 ⟨⟨go1, co1, rfl, ho1⟩, hb1⟩
        have HO1 := hid ho1
        clear ho1
        have KP1 : Hid (Box w1 w.heap.size 30 #[.int .i64 W, .int .i64 H, .slice A zs.length c]) := hid (Box.keep (Box.new' _ _ _ _ (by simp)) hb1)
        have HB1 : Hid (Below w.heap.size w w1) := hid (bstep (bal (Below.refl _ _) _) hb1)
        clear hb1
        go_wp2_with fail
        refine (l04Code_ok _ W H A c zs b _ _ w.heap.size HB1.out.size KP1.out (hz.below HB1.out) hl HCB.out HCB0.out).mono ?_
        rintro e w2 ⟨⟨go2, co2, rfl, ho2⟩, hb2⟩
        have HO2 := hid ho2
        clear ho2
        have KP2 : Hid (Box w2 w.heap.size 30 #[.int .i64 W, .int .i64 H, .slice A zs.length c]) := hid (Box.keep KP1.out hb2)
        have HB2 : Hid (Below w.heap.size w w2) := hid (bstep HB1.out hb2)
        have HO21 := hid (own_keep HO1.out hb2)
        clear hb2
        go_wp2_with fail
        refine (l04Cross_any _ W H A c zs a b _ w.heap.size HB2.out.size KP2.out (hz.below HB2.out) Hv.out _ _ _ HO21.out).mono ?_
        rintro e w9 ⟨rfl, hb9⟩
        have HB9 := hid (bbl HB2.out hb9)
        clear hb9
        go_wp2_with fail
        go_ret2
        exact ⟨ret_i2 HV.out.1.symm HV.out.2.symm, HB9.out⟩
    · have HCBN : Hid (¬ cb = 0) := hid hb0
      have HV : Hid (cmR W H zs a b = 0 ∧ cmC W H zs a b = cb) := hid (by have h1 : cmC W H zs a b = cb := (by unfold cmC; rw [h2, if_neg hb0]); exact ⟨by unfold cmR; rw [h1, if_neg hb0], h1⟩)
      have hbq : (cb == 0) = false := by simp [hb0]
      have hbn : (cb != 0) = true := by simp [hb0]
      clear hcc hc0 hv h2 hcb hb0
      go_enter Try.func23, Try.ntmps23
      go_wp2_with fail
      refine (l04Code_ok _ W H A c zs a _ _ w.heap.size (bal (Below.refl _ _) _).size (Box.new' _ _ _ _ (by simp)) (hz.below (bal (Below.refl _ _) _)) hl HC.out HC0.out).mono ?_
      rintro e w1 ⟨⟨go1, co1, rfl, ho1⟩, hb1⟩
      have HO1 := hid ho1
      clear ho1
      have KP1 : Hid (Box w1 w.heap.size 30 #[.int .i64 W, .int .i64 H, .slice A zs.length c]) := hid (Box.keep (Box.new' _ _ _ _ (by simp)) hb1)
      have HB1 : Hid (Below w.heap.size w w1) := hid (bstep (bal (Below.refl _ _) _) hb1)
      clear hb1
      go_wp2_with fail
      refine (l04Code_no _ W H A c zs b _ _ w.heap.size HB1.out.size KP1.out (hz.below HB1.out) hl HCB.out HCBN.out).mono ?_
      rintro e w2 ⟨rfl, hb2⟩
      have KP2 : Hid (Box w2 w.heap.size 30 #[.int .i64 W, .int .i64 H, .slice A zs.length c]) := hid (Box.keep KP1.out hb2)
      have HB2 : Hid (Below w.heap.size w w2) := hid (bstep HB1.out hb2)
      have HO21 := hid (own_keep HO1.out hb2)
      clear hb2
      go_wp2_with fail
      go_ret2
      exact ⟨ret_i2 HV.out.1.symm HV.out.2.symm, HB2.out⟩
  · have HCN := hid hc0
    have hne : (cc != 0) = true := by simp [hc0]
    have hneq : (cc == 0) = false := by simp [hc0]
    have HV : Hid (cmR W H zs a b = 0 ∧ cmC W H zs a b = cc) := hid (by have h2 := (cc_two (W := W) (H := H) (zs := zs) (a := a) (b := b)).2 (by rw [hcc]; exact hc0); rw [hcc] at h2; have h1 : cmC W H zs a b = cc := (by unfold cmC; rw [h2, if_neg hc0]); exact ⟨by unfold cmR; rw [h1, if_neg hc0], h1⟩)
    clear hcc hc0
    go_enter Try.func23, Try.ntmps23
    go_wp2_with fail
    refine (l04Code_no _ W H A c zs a _ _ w.heap.size (bal (Below.refl _ _) _).size (Box.new' _ _ _ _ (by simp)) (hz.below (bal (Below.refl _ _) _)) hl HC.out HCN.out).mono ?_
    rintro e w1 ⟨rfl, hb1⟩
    have KP1 : Hid (Box w1 w.heap.size 30 #[.int .i64 W, .int .i64 H, .slice A zs.length c]) := hid (Box.keep (Box.new' _ _ _ _ (by simp)) hb1)
    have HB1 : Hid (Below w.heap.size w w1) := hid (bstep (bal (Below.refl _ _) _) hb1)
    clear hb1
    go_wp2_with fail
    go_ret2
    exact ⟨ret_i2 HV.out.1.symm HV.out.2.symm, HB1.out⟩
end Go.Proofs.Ytbgigompkmnapaa

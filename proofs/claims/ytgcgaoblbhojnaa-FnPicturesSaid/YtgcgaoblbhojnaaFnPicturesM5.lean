/- Merged texts: Ty, Sq, Pq, Pm. -/
import Derived.Test.YtgcgaoblbhojnaaFnPicturesM2
import Derived.Test.YtgcgaoblbhojnaaFnPicturesM4
import Derived.Test.YtgcgaoblbhojnaaFnPicturesM3
import Derived.Test.YtgcgaoblbhojnaaNp
import Derived.Deep.RegionLaw
import Derived.Deep.AppendLies
import Derived.BigRegion
import Derived.RegionTactic
import Derived.Lib.OwnKind
namespace Go.Proofs.Ytgcgaoblbhojnaa
set_option linter.unusedSimpArgs false
set_option linter.unusedVariables false
open Go.ChangeShapes Go.WideShapes Go.ChangeAt Go.RowKit
/-- What PanelText answers. -/
def ptxS (W H : Int) (zs : List Int) : ByteArray := if validB W H zs then txS W H zs else ⟨#[]⟩
set_option maxRecDepth 100000 in
set_option maxHeartbeats 1000000 in
theorem implPanelText_any (W H : Int) (A : Option Addr) (c : Nat) (zs : List Int) (w : World) (hz : Ints w w.heap.size A zs) (hl : zs.length ≤ maxLen) :
    Calls Try.prog 26 #[.agg #[.int .i64 W, .int .i64 H, .slice A zs.length c]] w fun e w' => e = .returned (.string (ptxS W H zs)) ∧ Below w.heap.size w w' := by
  have HZ := hid hz
  cases hv : validB W H zs
  · have HV : Hid (ptxS W H zs = ⟨#[]⟩) := hid (by simp [ptxS, hv])
    have Hv := hid hv
    clear hv hz
    rw [HV.out]
    go_enter Try.func26, Try.ntmps26
    go_wp2_with fail
    refine (calls_bool (validPanel_any W H A c zs _ ((HZ.out.below (bal (Below.refl _ _) _)).more (bal (Below.refl _ _) _).size) hl) Hv.out).mono ?_
    rintro e w1 ⟨rfl, hb1⟩
    have KP1 : Hid (Box w1 (w.heap.size) 39 #[.int .i64 W, .int .i64 H, .slice A zs.length c]) := hid (Box.keep (Box.new' _ _ _ _ (by simp)) hb1)
    have HB1 : Hid (Below w.heap.size w w1) := hid (bstep (bal (Below.refl _ _) _) hb1)
    clear hb1
    obtain ⟨Pa, Pb, Pc⟩ := KP1.out.three
    have Pz := KP1.out.lt
    go_wp2_with fail
    go_ret
    exact ⟨rfl, HB1.out⟩
  · have HV : Hid (ptxS W H zs = txS W H zs) := hid (by simp [ptxS, hv])
    have Hv := hid hv
    clear hv hz
    obtain ⟨S, hS⟩ : ∃ S, txS W H zs = S := ⟨_, rfl⟩
    have HS := hid hS
    rw [hS] at HV
    clear hS
    rw [HV.out]
    go_enter Try.func26, Try.ntmps26
    go_wp2_with fail
    refine (calls_bool (validPanel_any W H A c zs _ ((HZ.out.below (bal (Below.refl _ _) _)).more (bal (Below.refl _ _) _).size) hl) Hv.out).mono ?_
    rintro e w1 ⟨rfl, hb1⟩
    have KP1 : Hid (Box w1 (w.heap.size) 39 #[.int .i64 W, .int .i64 H, .slice A zs.length c]) := hid (Box.keep (Box.new' _ _ _ _ (by simp)) hb1)
    have HB1 : Hid (Below w.heap.size w w1) := hid (bstep (bal (Below.refl _ _) _) hb1)
    clear hb1
    obtain ⟨Pa, Pb, Pc⟩ := KP1.out.three
    have Pz := KP1.out.lt
    go_wp2_with fail
    refine (panelText_any W H A c zs w1 ((HZ.out.below HB1.out).more HB1.out.size) Hv.out).mono ?_
    rintro e w2 ⟨he, hb2⟩
    rw [HS.out] at he
    subst he
    have HB2 : Hid (Below w.heap.size w w2) := hid (bbl HB1.out hb2)
    clear hb2
    go_wp2_with fail
    go_ret
    exact ⟨rfl, HB2.out⟩
set_option maxRecDepth 100000 in
set_option maxHeartbeats 1000000 in
theorem specPanelText_any (W H : Int) (A : Option Addr) (c : Nat) (zs : List Int) (w : World) (hz : Ints w w.heap.size A zs) (hl : zs.length ≤ maxLen) :
    Calls Try.prog 24 #[.agg #[.int .i64 W, .int .i64 H, .slice A zs.length c]] w fun e w' => e = .returned (.string (ptxS W H zs)) ∧ Below w.heap.size w w' := by
  have HZ := hid hz
  cases hv : validB W H zs
  · have HV : Hid (ptxS W H zs = ⟨#[]⟩) := hid (by simp [ptxS, hv])
    have Hv := hid hv
    clear hv hz
    rw [HV.out]
    go_enter Try.func24, Try.ntmps24
    go_wp2_with fail
    refine (qb (calls_bool (l02Ok_any _ W H A c zs _ w.heap.size (Box.new' _ _ _ _ (by simp)) (HZ.out.below (bal (Below.refl _ _) _)) hl) Hv.out)).mono ?_
    rintro e w1 ⟨rfl, hb1⟩
    have KP1 : Hid (Box w1 (w.heap.size) 39 #[.int .i64 W, .int .i64 H, .slice A zs.length c]) := hid (Box.keep (Box.new' _ _ _ _ (by simp)) hb1)
    have HB1 : Hid (Below w.heap.size w w1) := hid (bstep (bal (Below.refl _ _) _) hb1)
    clear hb1
    obtain ⟨Pa, Pb, Pc⟩ := KP1.out.three
    have Pz := KP1.out.lt
    go_wp2_with fail
    go_ret
    exact ⟨rfl, HB1.out⟩
  · have HV : Hid (ptxS W H zs = txS W H zs) := hid (by simp [ptxS, hv])
    have Hv := hid hv
    clear hv hz
    obtain ⟨S, hS⟩ : ∃ S, txS W H zs = S := ⟨_, rfl⟩
    have HS := hid hS
    rw [hS] at HV
    clear hS
    rw [HV.out]
    go_enter Try.func24, Try.ntmps24
    go_wp2_with fail
    refine (qb (calls_bool (l02Ok_any _ W H A c zs _ w.heap.size (Box.new' _ _ _ _ (by simp)) (HZ.out.below (bal (Below.refl _ _) _)) hl) Hv.out)).mono ?_
    rintro e w1 ⟨rfl, hb1⟩
    have KP1 : Hid (Box w1 (w.heap.size) 39 #[.int .i64 W, .int .i64 H, .slice A zs.length c]) := hid (Box.keep (Box.new' _ _ _ _ (by simp)) hb1)
    have HB1 : Hid (Below w.heap.size w w1) := hid (bstep (bal (Below.refl _ _) _) hb1)
    clear hb1
    obtain ⟨Pa, Pb, Pc⟩ := KP1.out.three
    have Pz := KP1.out.lt
    go_wp2_with fail
    refine (l05Text_any _ W H A c zs w1 w.heap.size HB1.out.size KP1.out (HZ.out.below HB1.out) Hv.out).mono ?_
    rintro e w2 ⟨he, hb2⟩
    rw [HS.out] at he
    subst he
    have HB2 : Hid (Below w.heap.size w w2) := hid (bbl HB1.out hb2)
    clear hb2
    go_wp2_with fail
    go_ret
    exact ⟨rfl, HB2.out⟩
end Go.Proofs.Ytgcgaoblbhojnaa
namespace Go.Proofs.Ytgcgaoblbhojnaa
set_option linter.unusedSimpArgs false
set_option linter.unusedVariables false
open Go.ChangeShapes Go.WideShapes Go.ChangeAt Go.RowKit
set_option maxHeartbeats 1000000 in
theorem DrawPictureFault_any (A : Option Addr) (n c : Nat) (bs : List Int) (w : World) (hn : bs.length = n) (hb : BytesR w w.heap.size A bs) (hnl : n ≤ 5000) :
    Calls Try.prog 45 #[.slice A n c] w fun e w' => (∃ (ss : List ByteArray) (A' : Option Addr) (c' : Nat), (ss.length ≤ 19 ∧ ∀ s ∈ ss, s.size ≤ 17) ∧ e = .returned (.slice A' ss.length c') ∧ w'.ownsRow w.heap.size 9 1 (.slice A' ss.length c') ss.length (strs ss)) ∧ Below w.heap.size w w' := by
  have HN := hid hn
  have HBY := hid hb
  clear hn hb
  go_enter Try.func45, Try.ntmps45
  go_wp2_with fail
  refine (l00From_any A n c _).mono ?_
  rintro e w1 ⟨rfl, hw1⟩
  have HB1 : Hid (Below w.heap.size w w1) := hid (by rw [hw1]; exact bal (Below.refl _ _) _)
  have HS1 : Hid (SrcP w1 w.heap.size 0 A n c) := hid (by rw [hw1]; exact src_new w A n c)
  clear hw1
  go_wp2_with fail
  refine (l05Bent_any w.heap.size 0 A n c w.heap.size bs w1 HN.out HS1.out (HBY.out.below HB1.out) (by omega) (by omega) hnl).mono ?_
  rintro e w2 ⟨⟨ss, A2, c2, hss, rfl, ho2⟩, hs2, hg2⟩
  have HSS := hid hss
  have HB2 := hid (below_src HB1.out hg2 (Nat.le_refl _))
  have HO2 := hid (Go.Joins.ownsRow_le ho2 HB1.out.size)
  clear hss ho2 hs2 hg2
  go_wp2_with fail
  go_ret
  exact ⟨⟨ss, A2, c2, HSS.out, rfl, HO2.out⟩, HB2.out⟩
theorem lit_texts {w : World} {g : Nat} {T : TypeId} {ls : List ByteArray} {cs : Array Value} (h : Box w g T cs) (e : cs = (ls.map Value.string).toArray) : ∀ (i : Nat) z, ls[i]? = some z → w.cell? ⟨g, i, none⟩ = some (.string z) := by
  intro i z hz
  subst e
  have hi : i < ls.length := (List.getElem?_eq_some_iff.1 hz).1
  rw [cell_of_row w g i _ _ _ h]
  simp [hz]
set_option maxHeartbeats 1000000 in
theorem text_any (b K : Nat) (A : Option Addr) (n c B : Nat) (bs : List Int) (g cl m : Nat) (ls : List ByteArray) (w : World) (hn : bs.length = n) (h : SrcP w b K A n c) (hb : BytesR w B A bs) (hB : B ≤ b) (hK : K ≤ 1000000) (hnl : n ≤ 5000) (hm : ls.length = m) (hm1 : 1 ≤ m) (hm2 : m ≤ 200) (hgb : b < g) (hc : ∀ (i : Nat) z, ls[i]? = some z → w.cell? ⟨g, i, none⟩ = some (.string z)) :
    Calls Try.prog 120 #[.pointer (some ⟨b, 0, none⟩), .slice (some ⟨g, 0, none⟩) m cl] w fun e w' => (∃ x, x ∈ ls ∧ e = .returned (.string x)) ∧ SrcP w' b (K + 1) A n c ∧ w.grownBy w' (some b) := by
  have HN := hid hn
  have HS := hid h
  have HBY := hid hb
  have HC := hid hc
  have HM := hid hm
  clear hn h hb hc hm
  go_enter Try.func120, Try.ntmps120
  go_wp2_with fail
  refine (pick_any b K A n c B bs (m : Int) _ HN.out HS.out HBY.out hB hK hnl (by omega) (by omega)).mono ?_
  rintro e w1 ⟨⟨x, ⟨x1, x2⟩, rfl⟩, hs1, hg1⟩
  have HS1 := hid hs1
  have HG1 := hid hg1
  obtain ⟨i, rfl⟩ : ∃ i : Nat, x = (i : Int) := ⟨x.toNat, by omega⟩
  have him : i < m := by omega
  obtain ⟨z, hz⟩ : ∃ z, ls[i]? = some z := ⟨_, List.getElem?_eq_getElem (by have := HM.out; omega)⟩
  have hc0 := HC.out i z hz
  have hgz : g < w.heap.size := World.block_lt_of_cell? w _ hc0
  have hcc : w1.cell? ⟨g, i, none⟩ = some (.string z) := by
    have h1 := hg1.block g hgz (by intro e2; injection e2 with e2; omega)
    unfold World.cell? at hc0 ⊢
    rw [h1]
    exact hc0
  have hgz1 : g < w1.heap.size := Nat.lt_of_lt_of_le hgz hg1.size
  have HZ := hid (List.mem_of_getElem? hz)
  clear hs1 hg1 hc0 hz x1 x2
  go_wp2_with fail
  go_ret
  exact ⟨⟨z, HZ.out, rfl⟩, HS1.out, HG1.out⟩
theorem isEmpty_ne {t : ByteArray} (h : t ≠ ⟨#[]⟩) : t.toList.isEmpty = false := by
  cases hh : t.toList.isEmpty
  · rfl
  · exact absurd (toList_inj (by rw [List.isEmpty_iff.1 hh]; simp)) h
theorem beq_ne9 {a b : ByteArray} (h : a ≠ b) : (a == b) = false := by
  cases hh : (a == b)
  · rfl
  · exfalso
    apply h
    have h1 : a.data = b.data := by
      have : (a.data == b.data) = true := hh
      simpa using this
    cases a; cases b; simp_all
theorem bne_ne9 {a b : ByteArray} (h : a ≠ b) : (a != b) = true := by
  unfold bne
  rw [beq_ne9 h]
  rfl
theorem byteL_inj9 {a b : ByteArray} (h : byteL a = byteL b) : a = b := byteL_inj h
theorem grown_drewN {w w' : World} {r : Option Nat} (h : w.grownBy w' r) (n : Nat) : w.grownBy (w'.drewN n) r := ⟨h.os, h.tape, h.output, h.size, h.block⟩
/-- A text of some few bytes, and the source goes on. -/
def SpoilP (w : World) (b K : Nat) (A : Option Addr) (n c m : Nat) (e : Ending) (w' : World) : Prop :=
  (∃ t : ByteArray, t.size ≤ m ∧ e = .returned (.string t)) ∧ SrcP w' b (K + 3) A n c ∧ w.grownBy w' (some b)
set_option maxRecDepth 100000 in
set_option maxHeartbeats 8000000 in
theorem l01Spoil_any (b K : Nat) (A : Option Addr) (n c B : Nat) (bs : List Int) (t : ByteArray) (w : World) (hn : bs.length = n) (h : SrcP w b K A n c) (hb : BytesR w B A bs) (hB : B ≤ b) (hK : K ≤ 900000) (hnl : n ≤ 5000) (ht : t.size ≤ 190) :
    Calls Try.prog 95 #[.pointer (some ⟨b, 0, none⟩), .string t] w (SpoilP w b K A n c 191) := by
  have hbl := h.lt
  have HN := hid hn
  have HS := hid h
  have HBY := hid hb
  obtain ⟨m, hm⟩ : ∃ m, t.size = m := ⟨_, rfl⟩
  rw [hm] at ht
  clear hn h hb
  go_enter Try.func95, Try.ntmps95
  go_wp2_with fail
  refine (pick_any b K A n c B bs 5 _ HN.out HS.out HBY.out hB (by omega) hnl (by omega) (by omega)).mono ?_
  rintro e w1 ⟨⟨v, ⟨v1, v2⟩, rfl⟩, hs1, hg1⟩
  have HS1 := hid hs1
  have HG1 := hid hg1
  clear hs1 hg1
  by_cases e0 : v = 0
  · subst e0
    go_wp2_with fail
    refine (pick_any b (K + 1) A n c B bs ((m : Int) + 1) _ HN.out HS1.out (src_bytes HBY.out HG1.out hB hbl) hB (by omega) hnl (by omega) (by omega)).mono ?_
    rintro e w2 ⟨⟨x, ⟨x1, x2⟩, rfl⟩, hs2, hg2⟩
    have HS2 := hid hs2
    have HG2 := hid (grown_trans' HG1.out hg2)
    clear hs2 hg2 HS1
    obtain ⟨i, rfl⟩ : ∃ i : Nat, x = (i : Int) := ⟨x.toNat, by omega⟩
    have him : i ≤ m := by omega
    have him2 : (i : Int) ≤ (m : Int) := by omega
    have him3 : (0 : Int) ≤ (i : Int) := by omega
    have hbl2 := HS2.out.lt
    have q1 : (t.extract 0 i).size = i := by simp; omega
    have q2 : (t.extract i m).size = m - i := by simp; omega
    clear x1 x2
    go_wp2_with fail
    go_region_held3 (fun zz => True)
      (trivial)
      (first
        | (go_at_call 120; refine (text_any b (K + 2) A n c B bs w2.heap.size 7 7 [⟨#[32]⟩, ⟨#[48]⟩, ⟨#[45]⟩, ⟨#[120]⟩, ⟨#[49]⟩, ⟨#[57]⟩, ⟨#[46]⟩] _ HN.out (SrcP.drew (HS2.out.alloc _)) (src_bytes HBY.out (gb_drewR (grown_trans' HG2.out (grown_of_below (bal (Below.refl _ _) _) (some b)))) hB hbl) hB (by omega) hnl rfl (by omega) (by omega) (by omega) (lit_texts (Box.drew (Box.new w2 9 #[.string ⟨#[32]⟩, .string ⟨#[48]⟩, .string ⟨#[45]⟩, .string ⟨#[120]⟩, .string ⟨#[49]⟩, .string ⟨#[57]⟩, .string ⟨#[46]⟩])) rfl)).mono ?_; rintro e w3 ⟨⟨y, hy, rfl⟩, hs3, hg3⟩; have hy1 : y.size = 1 := (by simp only [List.mem_cons, List.not_mem_nil, or_false] at hy; rcases hy with rfl | rfl | rfl | rfl | rfl | rfl | rfl <;> rfl); have HS3 := hid hs3; have HG3 := hid (grown_trans' (gb_drewR (grown_trans' HG2.out (grown_of_below (bal (Below.refl _ _) _) (some b)))) hg3); have q3 : (t.extract 0 i ++ y).size = i + 1 := (by rw [ByteArray.size_append]; omega); have q4 : ¬ (9223372036854775807 < (t.extract 0 i).size + y.size) := (by omega); have q5 : ¬ (9223372036854775807 < (t.extract 0 i ++ y).size + (t.extract i m).size) := (by omega); have q6 : ¬ (9223372036854775807 < i + 1) := (by omega); have q7 : ¬ (9223372036854775807 < i + 1 + (m - i)) := (by omega); have HQ := hid (And.intro q2 q3); clear hs3 hg3 hy))
    all_goals
      go_wp2_with fail
      go_ret
      exact ⟨⟨_, by have h1 := HQ.out.1; have h2 := HQ.out.2; first | (rw [ByteArray.size_append]; omega) | (simp; omega), rfl⟩, HS3.out, HG3.out⟩
  by_cases e1 : v = 1
  · subst e1
    clear e0
    by_cases h0 : m = 0
    · have ht0 : t = ⟨#[]⟩ := by
        apply byteL_inj9
        have h1 : (byteL t).length = 0 := by rw [byteL_length]; omega
        rw [List.eq_nil_of_length_eq_zero h1]
        rfl
      subst ht0
      go_wp2_with fail
      go_ret
      exact ⟨⟨_, by omega, rfl⟩, HS1.out.more (by omega), HG1.out⟩
    · have hne : t ≠ ⟨#[]⟩ := fun h1 => by rw [h1] at hm; exact h0 hm.symm
      have hem := isEmpty_ne hne
      have hnb := beq_ne9 hne
      have hnb2 := bne_ne9 hne
      clear hne
      go_wp2_with fail
      refine (pick_any b (K + 1) A n c B bs (m : Int) _ HN.out HS1.out (src_bytes HBY.out HG1.out hB hbl) hB (by omega) hnl (by omega) (by omega)).mono ?_
      rintro e w2 ⟨⟨x, ⟨x1, x2⟩, rfl⟩, hs2, hg2⟩
      have HS2 := hid hs2
      have HG2 := hid (grown_trans' HG1.out hg2)
      clear hs2 hg2 HS1
      obtain ⟨i, rfl⟩ : ∃ i : Nat, x = (i : Int) := ⟨x.toNat, by omega⟩
      have him : i + 1 ≤ m := by omega
      have him2 : (i : Int) ≤ (m : Int) := by omega
      have him3 : (0 : Int) ≤ (i : Int) := by omega
      have him4 : (i : Int) + 1 ≤ (m : Int) := by omega
      have him5 : (0 : Int) ≤ (i : Int) + 1 := by omega
      have q1 : (t.extract 0 i).size = i := by simp; omega
      have q2 : (t.extract (i + 1) m).size = m - (i + 1) := by simp; omega
      have q5 : ¬ (9223372036854775807 < (t.extract 0 i).size + (t.extract (i + 1) m).size) := by omega
      have q6 : ¬ (9223372036854775807 < i + (m - (i + 1))) := by omega
      have HQ := hid (And.intro q1 q2)
      clear x1 x2
      go_wp2_with fail
      go_quiet (fail)
      go_wp2_with fail
      go_ret
      exact ⟨⟨_, by have h1 := HQ.out.1; have h2 := HQ.out.2; first | (rw [ByteArray.size_append]; omega) | (simp; omega), rfl⟩, (HS2.out.keep (below_drewN (Below.refl _ _) _)).more (by omega), grown_drewN HG2.out _⟩
  have n0 : (v == 0) = false := by simp [e0]
  have n1 : (v == 1) = false := by simp [e1]
  go_wp2_with fail
  go_ret
  exact ⟨⟨t, by omega, rfl⟩, HS1.out.more (by omega), HG1.out⟩
set_option maxRecDepth 100000 in
set_option maxHeartbeats 4000000 in
theorem DrawReadPanel_any (A : Option Addr) (n c : Nat) (bs : List Int) (w : World) (hn : bs.length = n) (hb : BytesR w w.heap.size A bs) (hnl : n ≤ 5000) :
    Calls Try.prog 44 #[.slice A n c] w fun e w' => (∃ t : ByteArray, t.size ≤ 191 ∧ e = .returned (.string t)) ∧ Below w.heap.size w w' := by
  have HN := hid hn
  have HBY := hid hb
  clear hn hb
  go_enter Try.func44, Try.ntmps44
  go_wp2_with fail
  refine (l00From_any A n c _).mono ?_
  rintro e w1 ⟨rfl, hw1⟩
  have HB1 : Hid (Below w.heap.size w w1) := hid (by rw [hw1]; exact bal (Below.refl _ _) _)
  have HS1 : Hid (SrcP w1 w.heap.size 0 A n c) := hid (by rw [hw1]; exact src_new w A n c)
  clear hw1
  have hz1 := HS1.out.lt
  go_wp2_with fail
  refine (l02Draw_any w.heap.size 0 A n c w.heap.size bs 4 w1 HN.out HS1.out (HBY.out.below HB1.out) (by omega) (by omega) hnl (by omega) (by omega)).mono ?_
  rintro e w2 ⟨⟨W, H, zs, A2, c2, ⟨hv, hW4, hH4⟩, rfl, ho2⟩, hs2, hg2⟩
  have Hv := hid hv
  have HB2 := hid (below_src HB1.out hg2 (Nat.le_refl _))
  have HO2 : Hid (OwnI w2 w1.heap.size (.slice A2 zs.length c2) zs) := hid ho2
  have HS2 := hid hs2
  have htl : (txS W H zs).size ≤ 190 := by
    rw [← byteL_length, tx_bytes, List.length_append, List.length_append, List.length_append, List.length_append, List.length_map]
    have h1 := valid_len hv
    have h2 := inner_le (valid_sides hv).1 (valid_sides hv).2
    have h3 := decL_len W
    have h4 := decL_len H
    simp
    omega
  obtain ⟨t, htd⟩ : ∃ t, txS W H zs = t := ⟨_, rfl⟩
  have HT := hid htd
  rw [htd] at htl
  clear hv ho2 hs2 hg2 HS1 htd
  go_wp2_with fail
  refine (l05Text_any _ W H A2 c2 zs _ _ (Nat.le_refl _) (Box.new w2 _ _) (OwnI.ints (OwnI.alloc HO2.out _)) Hv.out).mono ?_
  rintro e w3 ⟨he, hb3⟩
  rw [HT.out] at he
  subst he
  have HS3 := hid ((HS2.out.alloc (.cells #[.int .i64 W, .int .i64 H, .slice A2 zs.length c2] 39)).keep hb3)
  have HB3 := hid (bbl (bal HB2.out (.cells #[.int .i64 W, .int .i64 H, .slice A2 zs.length c2] 39)) hb3)
  clear hb3 HS2 HB2
  go_wp2_with fail
  refine (one_any w.heap.size 300 A n c w.heap.size bs 3 _ HN.out HS3.out (HBY.out.below HB3.out) (by omega) (by omega) hnl (by omega) (by omega)).mono ?_
  rintro e w4 ⟨⟨tt, rfl⟩, hs4, hg4⟩
  have HS4 := hid hs4
  have HB4 := hid (below_src HB3.out hg4 (Nat.le_refl _))
  clear hs4 hg4
  cases tt
  case false =>
    go_wp2_with fail
    go_ret
    exact ⟨⟨t, by omega, rfl⟩, HB4.out⟩
  case true =>
    go_wp2_with fail
    refine (l01Spoil_any w.heap.size 301 A n c w.heap.size bs t _ HN.out HS4.out (HBY.out.below HB4.out) (by omega) (by omega) hnl htl).mono ?_
    rintro e w5 ⟨⟨t2, ht2, rfl⟩, hs5, hg5⟩
    have HB5 := hid (below_src HB4.out hg5 (Nat.le_refl _))
    clear hs5 hg5
    go_wp2_with fail
    go_ret
    exact ⟨⟨t2, ht2, rfl⟩, HB5.out⟩
end Go.Proofs.Ytgcgaoblbhojnaa
namespace Go.Proofs.Ytgcgaoblbhojnaa
set_option linter.unusedSimpArgs false
set_option linter.unusedVariables false
open Go.ChangeShapes Go.WideShapes Go.ChangeAt Go.RowKit
theorem idx_is {l : List Int} {b : Int} {k : Nat} (h0 : ∀ j, j < k → l[j]? ≠ some b) (h : l[k]? = some b) : l.idxOf b = k := by
  have hm : l.count b ≠ 0 := fun hc => List.count_eq_zero.1 hc (List.mem_of_getElem? h)
  obtain ⟨h1, h2, h3⟩ := idx_first hm
  rcases Nat.lt_trichotomy (l.idxOf b) k with hlt | he | hgt
  · exact absurd h2 (h0 _ hlt)
  · exact he
  · exact absurd h (h3 k hgt)
theorem idx_none {l : List Int} {b : Int} (h0 : ∀ j, j < l.length → l[j]? ≠ some b) : l.idxOf b = l.length := by
  refine List.idxOf_eq_length fun hm => ?_
  obtain ⟨i, hi, e⟩ := List.getElem_of_mem hm
  exact h0 i hi (by rw [List.getElem?_eq_getElem hi, e])
set_option maxHeartbeats 1000000 in
theorem placeOf_any (s : ByteArray) (b : Int) (w : World) (hs : s.size ≤ 1048576) : Calls Try.prog 79 #[.string s, .int .u8 b, .int .i64 0] w fun e w' => e = .returned (.int .i64 (plI s b)) ∧ w = w' := by
  obtain ⟨n, hn⟩ : ∃ n, s.size = n := ⟨_, rfl⟩
  have hn20 : n ≤ 1048576 := by omega
  go_enter Try.func79, Try.ntmps79
  go_wp2_with fail
  go_loopg [7] n (fun g i wr => ∃ k : Nat, k ≤ n ∧ i = .int .i64 k ∧ g = n - k ∧ Hid (∀ j, j < k → (byteL s)[j]? ≠ some b) ∧ w = wr)
  case atStart => exact ⟨0, Nat.zero_le _, rfl, rfl, hid (fun j hj => by omega), rfl⟩
  case round =>
    obtain ⟨k, hk, rfl, hg, HN, rfl⟩ := hrel
    by_cases hlt : k < n
    · have hks : k < s.size := by omega
      obtain ⟨c, hc⟩ : ∃ c : Int, ((s[k]'hks).toNat : Int) = c := ⟨_, rfl⟩
      have HBY : Hid ((byteL s)[k]? = some c) := hid (by rw [byte_at s k hks, hc])
      by_cases he : c = b
      · have hbb : (c == b) = true := by simp [he]
        have HE : Hid (plI s b = (k : Int)) := hid (by
          have := idx_is HN.out (by rw [HBY.out, he])
          unfold plI
          rw [this, if_pos hks])
        clear he
        go_wp2_with fail
        go_ret
        exact ⟨ret_int HE.out.symm, rfl⟩
      · have hbb : (c == b) = false := by simp [he]
        have HE : Hid (∀ j, j < k + 1 → (byteL s)[j]? ≠ some b) := hid (fun j hj => by
          rcases Nat.lt_or_ge j k with h | h
          · exact HN.out j h
          · obtain rfl : j = k := by omega
            rw [HBY.out]
            intro h
            injection h with h
            exact he h)
        clear he
        go_wp2_with fail
        go_roundg (n - (k + 1))
        case measure => omega
        case rel => exact ⟨k + 1, by omega, by go_num, rfl, HE, rfl⟩
    · obtain rfl : k = n := by omega
      have HE : Hid (plI s b = -1) := hid (by
        have h1 : (byteL s).idxOf b = (byteL s).length := idx_none (fun j hj => HN.out j (by rw [byteL_length] at hj; omega))
        unfold plI
        rw [h1, byteL_length, if_neg (by omega)])
      go_wp2_with fail
      go_ret
      exact ⟨ret_int HE.out.symm, rfl⟩
theorem own_boxQ {w : World} {lo s n b : Nat} {T T' : TypeId} {v : Value} {cs : List Value} {ds : Array Value} (h : w.ownsRow lo T s v n cs) (hb : Box w b T' ds) (hT : T ≠ T') : ∀ q, v.ownBlock = some q → b ≠ q := by
  rintro q hq rfl
  obtain ⟨c, f, h1⟩ := Go.Lib.ownsRow_kind h _ hq
  have h2 : w.heap[b]? = _ := hb
  rw [h1] at h2
  injection h2 with h2
  injection h2 with _ h2 _
  exact hT h2
theorem gb_drewQ {w w' : World} {r : Option Nat} (h : w.drew.grownBy w' r) : w.grownBy w' r := ⟨h.os, h.tape, h.output, h.size, h.block⟩
theorem own_setbQ {w : World} {lo n p : Nat} {T T' : TypeId} {sz : Nat} {v : Value} {cs : List Value} {ds : Array Value} (h : w.ownsRow lo T sz v n cs) (hb : Box w p T' ds) (hT : T ≠ T') (i : Nat) (u : Value) : (w.setCell ⟨p, i, none⟩ u).ownsRow lo T sz v n cs :=
  h.kept (row := some p) ⟨rfl, rfl, rfl, by simp, fun k _ hk => Below.heap_setCell _ _ _ _ (fun e => hk (by rw [e]))⟩ (by
    cases hv : v.ownBlock with
    | none => exact .inl rfl
    | some q => exact .inr (fun e => own_boxQ h hb hT q hv (by injection e with e; exact e.symm)))
theorem Box.putL {w : World} {b : Nat} {T : TypeId} {x y z u : Value} (h : Box w b T #[x, y, z]) : Box (w.setCell ⟨b, 2, none⟩ u) b T #[x, y, u] := h.put 2 u
theorem ints_of {w : World} {lo n c : Nat} {A : Option Addr} {zs : List Int} (h : w.ownsRow lo 2 1 (.slice A n c) n (vals zs)) : Ints w w.heap.size A zs := by
  have hl : zs.length = n := by simpa [vals] using h.1
  subst hl
  exact Rgn.ints (Rgn.of h rfl rfl)
theorem imZ_at {l : List Int} {i : Nat} {z : Int} (h : l[i]? = some z) : vals ((l.take (i + 1)).map kdF) = vals ((l.take i).map kdF) ++ [.int .i64 (kdF z)] := by
  rw [List.take_add_one, h, List.map_append, vals, List.map_append]
  rfl
set_option maxRecDepth 100000 in
set_option maxHeartbeats 4000000 in
theorem implReadPanel_any (s : ByteArray) (w : World) (hs : s.size ≤ 1048576) :
    Calls Try.prog 34 #[.string s] w fun e w' => (∃ A' c', e = .returned (.tuple #[.agg #[.int .i64 (pnW s), .int .i64 (pnH s), .slice A' (pnN s) c'], .bool (pnO s)]) ∧ w'.ownsRow w.heap.size 2 1 (.slice A' (pnN s) c') (pnN s) (vals (pnL s))) ∧ Below w.heap.size w w' := by
  obtain ⟨i0, hi0, hz0, hz1, hz2⟩ := info_parts infoI
  obtain ⟨n, hn⟩ : ∃ n, s.size = n := ⟨_, rfl⟩
  have hn20 : n ≤ 1048576 := by omega
  have HNO : Hid (pnO s = false → pnW s = 0 ∧ pnH s = 0 ∧ pnN s = 0 ∧ pnL s = [] ∧ pnO s = false) := hid (fun h => by simp [pnW, pnH, pnN, pnL, h])
  have hxb : -1 ≤ plI s 120 ∧ plI s 120 < n := by unfold plI; split <;> omega
  have hcb : -1 ≤ plI s 58 ∧ plI s 58 < n ∨ n = 0 := by unfold plI; split <;> omega
  have HPX := hid (placeOf_any s 120 · hs)
  have HPC := hid (placeOf_any s 58 · hs)
  obtain ⟨X, hX⟩ : ∃ X, plI s 120 = X := ⟨_, rfl⟩
  obtain ⟨C, hC⟩ : ∃ C, plI s 58 = C := ⟨_, rfl⟩
  have hcb2 : -1 ≤ C ∧ C ≤ n := by rw [← hC]; unfold plI; split <;> omega
  rw [hX] at hxb HPX
  rw [hC] at HPC
  have HX := hid hX
  have HC := hid hC
  have HS := hid hs
  have HNN := hid hn
  obtain ⟨hxb1, hxb2⟩ := hxb
  obtain ⟨hcb1, hcb2⟩ := hcb2
  have tsub : IntKind.i64.wrap ((n : Int) - C) = (n : Int) - C := IntWalk.i64_in _ (by omega)
  have tsub2 : wrap64 ((n : Int) - C) = (n : Int) - C := IntWalk.wrap64_in _ (by omega)
  clear hX hC hs hcb
  have KR0 := hid (Box.new w 39 #[.int .i64 0, .int .i64 0, .slice none 0 0])
  have HB0 : Hid (Below w.heap.size w (w.alloc (.cells #[.int .i64 0, .int .i64 0, .slice none 0 0] 39))) := hid (bal (Below.refl _ _) _)
  by_cases hpre : ¬ (0 ≤ X ∧ X ≤ C ∧ (n : Int) - C ≤ 129)
  · have HV := hid (HNO.out (by
      cases h : pnO s
      · rfl
      · obtain ⟨⟨p1, p2, p3⟩, _⟩ := im_of_pn h
        rw [HX.out] at p1 p2
        rw [HC.out] at p2 p3
        rw [HNN.out] at p3
        exact absurd ⟨p1, p2, p3⟩ hpre))
    by_cases h1 : X < 0
    · clear hpre
      go_enter Try.func34, Try.ntmps34
      go_wp2_with fail
      refine (HPX.out _).mono ?_
      rintro e w' ⟨rfl, rfl⟩
      go_wp2_with fail
      refine (HPC.out _).mono ?_
      rintro e w' ⟨rfl, rfl⟩
      obtain ⟨Ra, Rb, Rc⟩ := KR0.out.three
      have Rz := KR0.out.lt
      have Rf := KR0.out.free
      go_wp2_with fail
      have hE := HB0.out
      refine bodyPost_ret (v := .tuple #[.agg #[.int .i64 0, .int .i64 0, .slice none 0 0], .bool false]) (by simp [results, Try.results34, go_sem, *]) rfl ⟨⟨none, 0, by rw [HV.out.1, HV.out.2.1, HV.out.2.2.1, HV.out.2.2.2.2], by rw [HV.out.2.2.1, HV.out.2.2.2.1]; exact World.ownsRow_nil _ _ _ _⟩, ?_⟩
      repeat (refine Below.setCell ?_ (by simp) _)
      exact hE
    by_cases h2 : C < X
    · clear hpre
      go_enter Try.func34, Try.ntmps34
      go_wp2_with fail
      refine (HPX.out _).mono ?_
      rintro e w' ⟨rfl, rfl⟩
      go_wp2_with fail
      refine (HPC.out _).mono ?_
      rintro e w' ⟨rfl, rfl⟩
      obtain ⟨Ra, Rb, Rc⟩ := KR0.out.three
      have Rz := KR0.out.lt
      have Rf := KR0.out.free
      go_wp2_with fail
      have hE := HB0.out
      refine bodyPost_ret (v := .tuple #[.agg #[.int .i64 0, .int .i64 0, .slice none 0 0], .bool false]) (by simp [results, Try.results34, go_sem, *]) rfl ⟨⟨none, 0, by rw [HV.out.1, HV.out.2.1, HV.out.2.2.1, HV.out.2.2.2.2], by rw [HV.out.2.2.1, HV.out.2.2.2.1]; exact World.ownsRow_nil _ _ _ _⟩, ?_⟩
      repeat (refine Below.setCell ?_ (by simp) _)
      exact hE
    have h3 : (129 : Int) < (n : Int) - C := by omega
    clear hpre
    go_enter Try.func34, Try.ntmps34
    go_wp2_with fail
    refine (HPX.out _).mono ?_
    rintro e w' ⟨rfl, rfl⟩
    go_wp2_with fail
    refine (HPC.out _).mono ?_
    rintro e w' ⟨rfl, rfl⟩
    obtain ⟨Ra, Rb, Rc⟩ := KR0.out.three
    have Rz := KR0.out.lt
    have Rf := KR0.out.free
    go_wp2_with fail
    have hE := HB0.out
    refine bodyPost_ret (v := .tuple #[.agg #[.int .i64 0, .int .i64 0, .slice none 0 0], .bool false]) (by simp [results, Try.results34, go_sem, *]) rfl ⟨⟨none, 0, by rw [HV.out.1, HV.out.2.1, HV.out.2.2.1, HV.out.2.2.2.2], by rw [HV.out.2.2.1, HV.out.2.2.2.1]; exact World.ownsRow_nil _ _ _ _⟩, ?_⟩
    repeat (refine Below.setCell ?_ (by simp) _)
    exact hE
  have hpre' : 0 ≤ X ∧ X ≤ C ∧ (n : Int) - C ≤ 129 := Decidable.not_not.1 hpre
  clear hpre
  obtain ⟨x, rfl⟩ : ∃ x : Nat, X = (x : Int) := ⟨X.toNat, by omega⟩
  obtain ⟨c, rfl⟩ : ∃ c : Nat, C = (c : Int) := ⟨C.toNat, by omega⟩
  obtain ⟨q1, q2, q3⟩ := hpre'
  have hcn : c < n := by
    have h := HC.out
    unfold plI at h
    split at h <;> omega
  have hxc : x < c := by
    have h1 := HX.out
    have h2 := HC.out
    unfold plI at h1 h2
    split at h1
    · split at h2
      · rename_i e1 e2
        obtain ⟨_, a1, _⟩ := idx_first (l := byteL s) (b := 58) (fun h0 => by have := List.idxOf_eq_length (List.count_eq_zero.1 h0); rw [byteL_length] at this; omega)
        obtain ⟨_, a2, _⟩ := idx_first (l := byteL s) (b := 120) (fun h0 => by have := List.idxOf_eq_length (List.count_eq_zero.1 h0); rw [byteL_length] at this; omega)
        have e3 : (byteL s).idxOf 58 = c := by omega
        have e4 : (byteL s).idxOf 120 = x := by omega
        rw [e3] at a1
        rw [e4] at a2
        have : x ≠ c := fun e => by rw [e, a1] at a2; injection a2 with a2; omega
        omega
      · omega
    · omega
  have HP : Hid (imP s) := hid ⟨by rw [HX.out]; omega, by rw [HX.out, HC.out]; omega, by rw [HC.out, HNN.out]; omega⟩
  have hA : imA s = s.extract 0 x := by unfold imA; rw [HX.out, Int.toNat_natCast]
  have hB : imB s = s.extract (x + 1) c := by unfold imB; rw [HX.out, HC.out, Int.toNat_natCast, Int.toNat_natCast]
  have hZ : imZ s = ((byteL s).drop (c + 1)).map kdF := by unfold imZ; rw [HC.out, Int.toNat_natCast]
  have HIA := hid (And.intro hA (And.intro hB hZ))
  clear hA hB hZ
  obtain ⟨W, hW⟩ : ∃ W, rdR (s.extract 0 x) = W := ⟨_, rfl⟩
  obtain ⟨b1, hb1⟩ : ∃ b, rdB (s.extract 0 x) = b := ⟨_, rfl⟩
  obtain ⟨H, hH⟩ : ∃ H, rdR (s.extract (x + 1) c) = H := ⟨_, rfl⟩
  obtain ⟨b2, hb2⟩ : ∃ b, rdB (s.extract (x + 1) c) = b := ⟨_, rfl⟩
  have HR1 := hid (And.intro hW hb1)
  have HR2 := hid (And.intro hH hb2)
  have HSZ1 : Hid ((s.extract 0 x).size ≤ 1048576) := hid (by rw [ByteArray.size_extract]; have := HNN.out; omega)
  have HSZ2 : Hid ((s.extract (x + 1) c).size ≤ 1048576) := hid (by rw [ByteArray.size_extract]; have := HNN.out; omega)
  obtain ⟨m, hm⟩ : ∃ m, n = c + 1 + m := ⟨n - (c + 1), by omega⟩
  have hm128 : m ≤ 128 := by omega
  obtain ⟨L, hL⟩ : ∃ L, (byteL s).drop (c + 1) = L := ⟨_, rfl⟩
  have HLL : Hid (L.length = m) := hid (by rw [← hL, List.length_drop, byteL_length]; have := HNN.out; omega)
  have HLE := hid hL
  rw [hL] at HIA
  have t1 : IntKind.i64.wrap ((x : Int) + 1) = (x : Int) + 1 := IntWalk.i64_in _ (by omega)
  have t2 : IntKind.i64.wrap ((c : Int) + 1) = (c : Int) + 1 := IntWalk.i64_in _ (by omega)
  have g1 : ¬ ((x : Int) < 0) := by omega
  have g2 : ¬ ((c : Int) < (x : Int)) := by omega
  have g3 : ¬ ((129 : Int) < (n : Int) - (c : Int)) := by omega
  clear hW hb1 hH hb2 hL
  go_enter Try.func34, Try.ntmps34
  go_wp2_with fail
  refine (HPX.out _).mono ?_
  rintro e w' ⟨rfl, rfl⟩
  go_wp2_with fail
  refine (HPC.out _).mono ?_
  rintro e w' ⟨rfl, rfl⟩
  go_wp2_with fail
  refine (implReadDecimal_any (s.extract 0 x) _ HSZ1.out).mono ?_
  rintro e w1 ⟨he, hb1⟩
  rw [HR1.out.1, HR1.out.2] at he
  subst he
  have KR1 := hid (Box.keep KR0.out hb1)
  have HB1 := hid (bbl HB0.out hb1)
  clear hb1
  go_wp2_with fail
  refine (implReadDecimal_any (s.extract (x + 1) c) _ HSZ2.out).mono ?_
  rintro e w2 ⟨he, hb2⟩
  rw [HR2.out.1, HR2.out.2] at he
  subst he
  have KR2 := hid (Box.keep KR1.out hb2)
  have HB2 := hid (bbl HB1.out hb2)
  clear hb2 KR1 HB1
  go_wp2_with fail
  obtain ⟨w3, hw3⟩ : ∃ zz : World, zz = w2.alloc (.cells #[.int .i64 W, .int .i64 H, .slice none 0 0] 39) := ⟨_, rfl⟩
  rw [← hw3]
  have KR3 := hid (show Box w3 w.heap.size 39 #[.int .i64 0, .int .i64 0, .slice none 0 0] by rw [hw3]; exact Box.alloc KR2.out _)
  have KP3 := hid (show Box w3 w2.heap.size 39 #[.int .i64 W, .int .i64 H, .slice none 0 0] by rw [hw3]; exact Box.new _ _ _)
  have HB3 := hid (show Below w.heap.size w w3 by rw [hw3]; exact bal HB2.out _)
  have hwp := KR2.out.lt
  obtain ⟨pb, hpb⟩ : ∃ b, b = w2.heap.size := ⟨_, rfl⟩
  rw [← hpb] at hwp KP3 ⊢
  clear hw3 hpb KR2 HB2
  go_loopg [11] m (fun g i wr => ∃ (k : Nat) (v : Value), k ≤ m ∧ i = .int .i64 (c + 1 + k : Nat) ∧ g = m - k ∧ Hid (wr.ownsRow (w.heap.size + 1) 2 1 v k (vals ((L.take k).map kdF))) ∧ Hid (Box wr pb 39 #[.int .i64 W, .int .i64 H, v]) ∧ Hid (Box wr w.heap.size 39 #[.int .i64 0, .int .i64 0, .slice none 0 0]) ∧ Hid (Below w.heap.size w wr))
  case atStart => exact ⟨0, .slice none 0 0, Nat.zero_le _, by go_num, rfl, hid (World.ownsRow_nil _ _ _ _), KP3, KR3, HB3⟩
  case round =>
    clear KP3 KR3 HB3
    obtain ⟨k, v, hk, rfl, hg, HO, KP, KR, HB⟩ := hrel
    obtain ⟨Pa, Pb, Pc⟩ := KP.out.three
    have Pz := KP.out.lt
    have Pf := KP.out.free
    have hwz := HB.out.size
    by_cases hlt : k < m
    · obtain ⟨j, hj⟩ : ∃ j, c + 1 + k = j := ⟨_, rfl⟩
      have hjs : j < s.size := by omega
      obtain ⟨z, hz⟩ : ∃ q : Int, ((s[j]'hjs).toNat : Int) = q := ⟨_, rfl⟩
      have HLZ : Hid (L[k]? = some z) := hid (by rw [← HLE.out, List.getElem?_drop, hj, byte_at s j hjs, hz])
      have HST := hid (imZ_at HLZ.out)
      have HJ := hid hj
      rw [hj]
      have hjn : j < n := by omega
      clear hj
      go_wp2_with fail
      go_region_law (first | (go_simp; go_at_call 64; refine (markKind_any z _).mono ?_; rintro e w' ⟨rfl, rfl⟩) | (refine step_append_lies _ (by rfl) (.tmp 59) (.tmp 64) 34 (by rfl) (w.heap.size + 1) 2 i0 (.int .i64 0) 1 8 Try.underlying34 hi0 hz0 hz1 hz2 rfl (by omega) v k (vals ((L.take k).map kdF)) (by rfl) (HO.out.alloc _) ⟨wr.heap.size, 0, none⟩ 1 1 [.int .i64 (kdF z)] (by rfl) rfl (World.news_of_block (cs := #[.int .i64 (kdF z)]) (t := 2) (fr := (0, 0)) (heap_alloc_new wr _)) (by simp [Value.oneCell']) (by omega) (by unfold maxLen; omega) (by omega) (by simp; omega) (wr.heap.size + 1) (by simp) ?_; intro gg cap w5 hown5 hgrow5' hat5 hlt5; have hgrow5 := gb_drewQ hgrow5'; have KP5 := hid (Box.grew (Box.alloc KP.out (.cells #[.int .i64 (kdF z)] 2)) hgrow5 (own_boxQ (HO.out.alloc (.cells #[.int .i64 (kdF z)] 2)) (Box.alloc KP.out (.cells #[.int .i64 (kdF z)] 2)) (by decide))); have KR5 := hid (Box.grew (Box.alloc KR.out (.cells #[.int .i64 (kdF z)] 2)) hgrow5 (own_boxQ (HO.out.alloc (.cells #[.int .i64 (kdF z)] 2)) (Box.alloc KR.out (.cells #[.int .i64 (kdF z)] 2)) (by decide))); have HB5 := hid (bgrew (lo := w.heap.size + 1) (bal HB.out (.cells #[.int .i64 (kdF z)] 2)) hgrow5 (fun q hq => (HO.out.lt q hq).1) (by omega)); have HO5 := hid hown5; clear hown5 hgrow5 hgrow5' hat5 hlt5; have c5 := (Box.three KP5.out).2.2; have f5 := KP5.out.free; have z5 := KP5.out.lt))
      all_goals (go_wp2_with fail)
      all_goals (go_roundg (m - (k + 1)))
      all_goals (first | (case measure => omega) | skip)
      all_goals (first | (case rel => exact ⟨k + 1, .slice (some ⟨gg, 0, none⟩) (k + 1) cap, by omega, congrArg (Value.int .i64) (by have := HJ.out; omega), rfl, hid (HST.out ▸ own_setbQ HO5.out KP5.out (by decide) 2 _), hid (Box.putL KP5.out), hid (Box.set KR5.out (by show w.heap.size ≠ pb; omega) _), hid (Below.setCell HB5.out (by show w.heap.size ≤ pb; omega) _)⟩) | skip)
    · obtain rfl : k = m := by omega
      obtain ⟨A9, c9, rfl⟩ := own_form HO.out
      obtain ⟨zs, hzs⟩ : ∃ zs, L.map kdF = zs := ⟨_, rfl⟩
      have hzl : zs.length = k := by rw [← hzs, List.length_map, HLL.out]
      have HO2 : Hid (wr.ownsRow (w.heap.size + 1) 2 1 (.slice A9 k c9) k (vals zs)) := hid (by have h := HO.out; rw [List.take_of_length_le (by rw [HLL.out]; exact Nat.le_refl _), hzs] at h; exact h)
      have HZS := hid hzs
      have HVP : Hid (∀ wx, Ints wx wx.heap.size A9 zs → Calls Try.prog 69 #[.agg #[.int .i64 W, .int .i64 H, .slice A9 k c9]] wx fun e w' => e = .returned (.bool (validB W H zs)) ∧ Below wx.heap.size wx w') := hid (fun wx hz => by have h := validPanel_any W H A9 c9 zs wx hz (by rw [hzl]; unfold maxLen; omega); rw [hzl] at h; exact h)
      have HTX : Hid (∀ wx, Ints wx wx.heap.size A9 zs → validB W H zs = true → Calls Try.prog 70 #[.agg #[.int .i64 W, .int .i64 H, .slice A9 k c9]] wx fun e w' => e = .returned (.string (txS W H zs)) ∧ Below wx.heap.size wx w') := hid (fun wx hz hv => by have h := panelText_any W H A9 c9 zs wx hz hv; rw [hzl] at h; exact h)
      have HIZ : Hid (imZ s = zs) := hid (by rw [HIA.out.2.2, hzs])
      have HZL := hid hzl
      clear HO hzs hzl
      obtain ⟨Ra, Rb, Rc⟩ := KR.out.three
      have Rz := KR.out.lt
      have Rf := KR.out.free
      cases b1 with
      | false =>
        have HV := hid (HNO.out (by
          cases h : pnO s
          · rfl
          · obtain ⟨_, ⟨q, _⟩, _⟩ := im_of_pn h
            rw [HIA.out.1, HR1.out.2] at q
            cases q))
        go_wp2_with fail
        have hE := HB.out
        refine bodyPost_ret (v := .tuple #[.agg #[.int .i64 0, .int .i64 0, .slice none 0 0], .bool false]) (by simp [results, Try.results34, go_sem, *]) rfl ⟨⟨none, 0, by rw [HV.out.1, HV.out.2.1, HV.out.2.2.1, HV.out.2.2.2.2], by rw [HV.out.2.2.1, HV.out.2.2.2.1]; exact World.ownsRow_nil _ _ _ _⟩, ?_⟩
        repeat (refine Below.setCell ?_ (by simp) _)
        exact hE
      | true =>
        cases b2 with
        | false =>
          have HV := hid (HNO.out (by
            cases h : pnO s
            · rfl
            · obtain ⟨_, ⟨_, q, _⟩, _⟩ := im_of_pn h
              rw [HIA.out.2.1, HR2.out.2] at q
              cases q))
          go_wp2_with fail
          have hE := HB.out
          refine bodyPost_ret (v := .tuple #[.agg #[.int .i64 0, .int .i64 0, .slice none 0 0], .bool false]) (by simp [results, Try.results34, go_sem, *]) rfl ⟨⟨none, 0, by rw [HV.out.1, HV.out.2.1, HV.out.2.2.1, HV.out.2.2.2.2], by rw [HV.out.2.2.1, HV.out.2.2.2.1]; exact World.ownsRow_nil _ _ _ _⟩, ?_⟩
          repeat (refine Below.setCell ?_ (by simp) _)
          exact hE
        | true =>
          obtain ⟨bv, hbv⟩ : ∃ b, validB W H zs = b := ⟨_, rfl⟩
          rw [hbv] at HVP HTX
          have HBV := hid hbv
          clear hbv
          go_wp2_with fail
          refine (HVP.out _ (ints_of HO2.out)).mono ?_
          rintro e w6 ⟨rfl, hb6⟩
          have KP6 := hid (Box.keep KP.out hb6)
          have KR6 := hid (Box.keep KR.out hb6)
          have HB6 := hid (bbl HB.out hb6)
          have HO6 := hid (own_keep HO2.out hb6)
          clear hb6 Pa Pb Pc Pz Pf Ra Rb Rc Rz Rf KP KR HB HO2
          obtain ⟨Pa, Pb, Pc⟩ := KP6.out.three
          have Pz := KP6.out.lt
          cases bv with
          | false =>
            have HV := hid (HNO.out (by
              cases h : pnO s
              · rfl
              · obtain ⟨_, ⟨_, _, q, _⟩, _⟩ := im_of_pn h
                rw [HIA.out.1, HIA.out.2.1, HR1.out.1, HR2.out.1, HIZ.out, HBV.out] at q
                cases q))
            obtain ⟨Ra, Rb, Rc⟩ := KR6.out.three
            have Rz := KR6.out.lt
            have Rf := KR6.out.free
            go_wp2_with fail
            have hE := HB6.out
            refine bodyPost_ret (v := .tuple #[.agg #[.int .i64 0, .int .i64 0, .slice none 0 0], .bool false]) (by simp [results, Try.results34, go_sem, *]) rfl ⟨⟨none, 0, by rw [HV.out.1, HV.out.2.1, HV.out.2.2.1, HV.out.2.2.2.2], by rw [HV.out.2.2.1, HV.out.2.2.2.1]; exact World.ownsRow_nil _ _ _ _⟩, ?_⟩
            repeat (refine Below.setCell ?_ (by simp) _)
            exact hE
          | true =>
            obtain ⟨TS, hTS⟩ : ∃ t, txS W H zs = t := ⟨_, rfl⟩
            rw [hTS] at HTX
            have HTS := hid hTS
            clear hTS
            go_wp2_with fail
            refine (HTX.out _ (ints_of HO6.out) trivial).mono ?_
            rintro e w7 ⟨rfl, hb7⟩
            have KP7 := hid (Box.keep KP6.out hb7)
            have KR7 := hid (Box.keep KR6.out hb7)
            have HB7 := hid (bbl HB6.out hb7)
            have HO7 := hid (own_keep HO6.out hb7)
            clear hb7 Pa Pb Pc Pz KP6 KR6 HB6 HO6
            obtain ⟨Pa, Pb, Pc⟩ := KP7.out.three
            have Pz := KP7.out.lt
            obtain ⟨Ra, Rb, Rc⟩ := KR7.out.three
            have Rz := KR7.out.lt
            have Rf := KR7.out.free
            by_cases heq : TS = s
            · have hbq := beq_of_eq heq
              have hOK : pnO s = true := pn_of_im HP.out ⟨by rw [HIA.out.1, HR1.out.2], by rw [HIA.out.2.1, HR2.out.2], by rw [HIA.out.1, HIA.out.2.1, HR1.out.1, HR2.out.1, HIZ.out, HBV.out], by rw [HIA.out.1, HIA.out.2.1, HR1.out.1, HR2.out.1, HIZ.out, HTS.out, heq]⟩
              have HV : Hid (pnW s = W ∧ pnH s = H ∧ pnN s = k ∧ pnL s = zs ∧ pnO s = true) := hid (by
                obtain ⟨_, _, e1, e2, e3⟩ := im_of_pn hOK
                rw [HIZ.out] at e3
                unfold pnN pnW pnH pnL
                rw [hOK, ← e1, ← e2, ← e3, HIA.out.1, HIA.out.2.1, HR1.out.1, HR2.out.1]
                exact ⟨rfl, rfl, HZL.out, rfl, rfl⟩)
              clear heq hOK
              go_wp2_with fail
              have hE := HB7.out
              have ho := HO7.out
              refine bodyPost_ret (v := .tuple #[.agg #[.int .i64 W, .int .i64 H, .slice A9 k c9], .bool true]) (by simp [results, Try.results34, go_sem, *]) rfl ⟨⟨A9, c9, by rw [HV.out.1, HV.out.2.1, HV.out.2.2.1, HV.out.2.2.2.2], ?_⟩, ?_⟩
              · rw [HV.out.2.2.1, HV.out.2.2.2.1]
                refine Go.Joins.ownsRow_le (base := w.heap.size + 1) ?_ (by omega)
                repeat (refine ownsRow_setCell_below ?_ (by simp) _)
                exact ho
              · repeat (refine Below.setCell ?_ (by simp) _)
                exact hE
            · have hbq := beq_of_ne heq
              have HV := hid (HNO.out (by
                cases h : pnO s
                · rfl
                · obtain ⟨_, ⟨_, _, _, q⟩, _⟩ := im_of_pn h
                  rw [HIA.out.1, HIA.out.2.1, HR1.out.1, HR2.out.1, HIZ.out, HTS.out] at q
                  exact absurd q heq))
              clear heq
              go_wp2_with fail
              have hE := HB7.out
              refine bodyPost_ret (v := .tuple #[.agg #[.int .i64 0, .int .i64 0, .slice none 0 0], .bool false]) (by simp [results, Try.results34, go_sem, *]) rfl ⟨⟨none, 0, by rw [HV.out.1, HV.out.2.1, HV.out.2.2.1, HV.out.2.2.2.2], by rw [HV.out.2.2.1, HV.out.2.2.2.1]; exact World.ownsRow_nil _ _ _ _⟩, ?_⟩
              repeat (refine Below.setCell ?_ (by simp) _)
              exact hE
end Go.Proofs.Ytgcgaoblbhojnaa
namespace Go.Proofs.Ytgcgaoblbhojnaa
set_option linter.unusedSimpArgs false
set_option linter.unusedVariables false
open Go.ChangeShapes Go.WideShapes Go.ChangeAt Go.RowKit
noncomputable def l5B (s : ByteArray) : Bool := prG s && (rdB (prA s) && rdB (prB s))
noncomputable def l5W (s : ByteArray) : Int := if prG s then rdR (prA s) else 0
noncomputable def l5H (s : ByteArray) : Int := if prG s then rdR (prB s) else 0
def l5Z (s : ByteArray) : List Int := if prG s then prZ s else []
def l5N (s : ByteArray) : Nat := (l5Z s).length
theorem l5_no {s : ByteArray} (h : prG s = false) : l5W s = 0 ∧ l5H s = 0 ∧ l5N s = 0 ∧ l5Z s = [] ∧ l5B s = false := by simp [l5W, l5H, l5N, l5Z, l5B, h]
theorem l5_yes {s : ByteArray} (h : prG s = true) : l5W s = rdR (prA s) ∧ l5H s = rdR (prB s) ∧ l5N s = (prZ s).length ∧ l5Z s = prZ s ∧ l5B s = (rdB (prA s) && rdB (prB s)) := by simp [l5W, l5H, l5N, l5Z, l5B, h]
theorem prZ_len (s : ByteArray) : (prZ s).length ≤ s.size := by
  rw [prZ_eq, List.length_map, List.length_drop, byteL_length]
  omega
theorem strs_cell {w : World} {lo g c n : Nat} {ss : List ByteArray} (h : w.ownsRow lo 9 1 (.slice (some ⟨g, 0, none⟩) n c) n (strs ss)) {i : Nat} {x : ByteArray} (hi : ss[i]? = some x) : w.cell? ⟨g, i, none⟩ = some (.string x) := by
  have hl : ss.length = n := by simpa [strs] using h.1
  have hil := (List.getElem?_eq_some_iff.1 hi).1
  rw [World.ownsRow.cellAt h i (by omega)]
  simp [strs, hi]
set_option maxRecDepth 100000 in
set_option maxHeartbeats 4000000 in
theorem l05Read_any (s : ByteArray) (w : World) (hs : s.size ≤ 1048576) :
    Calls Try.prog 78 #[.string s] w fun e w' => (∃ A' c', e = .returned (.tuple #[.agg #[.int .i64 (l5W s), .int .i64 (l5H s), .slice A' (l5N s) c'], .bool (l5B s)]) ∧ w'.ownsRow w.heap.size 2 1 (.slice A' (l5N s) c') (l5N s) (vals (l5Z s))) ∧ Below w.heap.size w w' := by
  obtain ⟨i0, hi0, hz0, hz1, hz2⟩ := info_parts infoI
  have HS := hid hs
  have KR0 := hid (Box.new w 39 #[.int .i64 0, .int .i64 0, .slice none 0 0])
  have HB0 : Hid (Below w.heap.size w (w.alloc (.cells #[.int .i64 0, .int .i64 0, .slice none 0 0] 39))) := hid (bal (Below.refl _ _) _)
  clear hs
  by_cases h58 : ¬ (byteL s).count 58 = 1
  · have HV := hid (l5_no (s := s) (by unfold prG; rw [beq_eq_false_iff_ne.2 h58]; rfl))
    obtain ⟨n, hn⟩ : ∃ n, (spL s 58).length = n := ⟨_, rfl⟩
    have hn2 : ¬ ((n : Int) = 2) := by have := spL_count s 58; omega
    have HSP : Hid (∀ wx : World, Calls Try.prog 110 #[.string s, .int .u8 58] wx fun e w' => (∃ A' c', e = .returned (.slice A' n c') ∧ w'.ownsRow wx.heap.size 9 1 (.slice A' n c') n (strs (spL s 58))) ∧ Below wx.heap.size wx w') := hid (fun wx => by have h := l01Split_any s 58 wx HS.out ⟨by omega, by omega⟩; rw [hn] at h; exact h)
    clear hn h58
    go_enter Try.func78, Try.ntmps78
    go_wp2_with fail
    refine (HSP.out _).mono ?_
    rintro e w1 ⟨⟨A1, c1, rfl, -⟩, hb1⟩
    have KR1 := hid (Box.keep KR0.out hb1)
    have HB1 := hid (bbl HB0.out hb1)
    clear hb1
    obtain ⟨Ra, Rb, Rc⟩ := KR1.out.three
    have Rz := KR1.out.lt
    have Rf := KR1.out.free
    go_wp2_with fail
    have hE := HB1.out
    refine bodyPost_ret (v := .tuple #[.agg #[.int .i64 0, .int .i64 0, .slice none 0 0], .bool false]) (by simp [results, Try.results78, go_sem, *]) rfl ⟨⟨none, 0, by rw [HV.out.1, HV.out.2.1, HV.out.2.2.1, HV.out.2.2.2.2], by rw [HV.out.2.2.1, HV.out.2.2.2.1]; exact World.ownsRow_nil _ _ _ _⟩, ?_⟩
    repeat (refine Below.setCell ?_ (by simp) _)
    exact hE
  have h58' := Decidable.not_not.1 h58
  clear h58
  have hsp := spL_one h58'
  change spL s 58 = [prU s, prV s] at hsp
  have HSP : Hid (∀ wx : World, Calls Try.prog 110 #[.string s, .int .u8 58] wx fun e w' => (∃ A' c', e = .returned (.slice A' 2 c') ∧ w'.ownsRow wx.heap.size 9 1 (.slice A' 2 c') 2 (strs [prU s, prV s])) ∧ Below wx.heap.size wx w') := hid (fun wx => by have h := l01Split_any s 58 wx HS.out ⟨by omega, by omega⟩; rw [hsp] at h; exact h)
  have hUs : (prU s).size ≤ 1048576 := by have := HS.out; unfold prU; rw [ByteArray.size_extract]; omega
  have hG : prG s = ((byteL (prU s)).count 120 == 1) := by unfold prG; rw [h58']; rfl
  obtain ⟨U, hU⟩ : ∃ U, prU s = U := ⟨_, rfl⟩
  obtain ⟨V, hV⟩ : ∃ V, prV s = V := ⟨_, rfl⟩
  have hAB : prA s = U.extract 0 ((byteL U).idxOf 120) ∧ prB s = U.extract ((byteL U).idxOf 120 + 1) U.size := by unfold prA prB; rw [hU]; exact ⟨rfl, rfl⟩
  have hZ : prZ s = (byteL V).map kdF := by unfold prZ; rw [hV]
  have hVs : V.size ≤ 1048576 := by have := HS.out; rw [← hV]; unfold prV; rw [ByteArray.size_extract]; omega
  rw [hU, hV] at HSP
  rw [hU] at hUs hG
  have HZ := hid hZ
  have HUV := hid (And.intro hU hV)
  clear hsp hZ hU hV h58'
  by_cases h120 : ¬ (byteL U).count 120 = 1
  · have HV := hid (l5_no (s := s) (by rw [hG]; exact beq_eq_false_iff_ne.2 h120))
    obtain ⟨n, hn⟩ : ∃ n, (spL U 120).length = n := ⟨_, rfl⟩
    have hn2 : ¬ ((n : Int) = 2) := by have := spL_count U 120; omega
    have HSQ : Hid (∀ wx : World, Calls Try.prog 110 #[.string U, .int .u8 120] wx fun e w' => (∃ A' c', e = .returned (.slice A' n c') ∧ w'.ownsRow wx.heap.size 9 1 (.slice A' n c') n (strs (spL U 120))) ∧ Below wx.heap.size wx w') := hid (fun wx => by have h := l01Split_any U 120 wx hUs ⟨by omega, by omega⟩; rw [hn] at h; exact h)
    clear hn h120 hG hAB
    go_enter Try.func78, Try.ntmps78
    go_wp2_with fail
    refine (HSP.out _).mono ?_
    rintro e w1 ⟨⟨A1, c1, rfl, ho1⟩, hb1⟩
    have KR1 := hid (Box.keep KR0.out hb1)
    have HB1 := hid (bbl HB0.out hb1)
    obtain ⟨g1, cq1, e1⟩ := Go.Joins.ownsRow_form ho1 (by omega)
    simp only [Value.slice.injEq] at e1
    obtain ⟨rfl, -, rfl⟩ := e1
    have hc0 := strs_cell ho1 (i := 0) rfl
    have hg1 := (World.ownsRow.lt ho1 g1 rfl).2
    clear hb1 ho1
    go_wp2_with fail
    refine (HSQ.out _).mono ?_
    rintro e w2 ⟨⟨A2, c2, rfl, -⟩, hb2⟩
    have KR2 := hid (Box.keep KR1.out hb2)
    have HB2 := hid (bbl HB1.out hb2)
    clear hb2 hc0 hg1 KR1 HB1
    obtain ⟨Ra, Rb, Rc⟩ := KR2.out.three
    have Rz := KR2.out.lt
    have Rf := KR2.out.free
    go_wp2_with fail
    have hE := HB2.out
    refine bodyPost_ret (v := .tuple #[.agg #[.int .i64 0, .int .i64 0, .slice none 0 0], .bool false]) (by simp [results, Try.results78, go_sem, *]) rfl ⟨⟨none, 0, by rw [HV.out.1, HV.out.2.1, HV.out.2.2.1, HV.out.2.2.2.2], by rw [HV.out.2.2.1, HV.out.2.2.2.1]; exact World.ownsRow_nil _ _ _ _⟩, ?_⟩
    repeat (refine Below.setCell ?_ (by simp) _)
    exact hE
  have h120' := Decidable.not_not.1 h120
  clear h120
  have hsq := spL_one h120'
  rw [← hAB.1, ← hAB.2] at hsq
  have hAs : (prA s).size ≤ 1048576 := by rw [hAB.1, ByteArray.size_extract]; omega
  have hBs : (prB s).size ≤ 1048576 := by rw [hAB.2, ByteArray.size_extract]; omega
  obtain ⟨a, ha⟩ : ∃ a, prA s = a := ⟨_, rfl⟩
  obtain ⟨b, hb⟩ : ∃ b, prB s = b := ⟨_, rfl⟩
  have HYE := hid (l5_yes (s := s) (by rw [hG, h120']; rfl))
  rw [ha] at hAs hsq HYE
  rw [hb] at hBs hsq HYE
  have HSQ : Hid (∀ wx : World, Calls Try.prog 110 #[.string U, .int .u8 120] wx fun e w' => (∃ A' c', e = .returned (.slice A' 2 c') ∧ w'.ownsRow wx.heap.size 9 1 (.slice A' 2 c') 2 (strs [a, b])) ∧ Below wx.heap.size wx w') := hid (fun wx => by have h := l01Split_any U 120 wx hUs ⟨by omega, by omega⟩; rw [hsq] at h; exact h)
  obtain ⟨W, hW⟩ : ∃ W, rdR a = W := ⟨_, rfl⟩
  obtain ⟨b1, hb1⟩ : ∃ q, rdB a = q := ⟨_, rfl⟩
  obtain ⟨H, hH⟩ : ∃ H, rdR b = H := ⟨_, rfl⟩
  obtain ⟨b2, hb2⟩ : ∃ q, rdB b = q := ⟨_, rfl⟩
  rw [hW, hH, hb1, hb2, HZ.out] at HYE
  have HR1 := hid (And.intro hW hb1)
  have HR2 := hid (And.intro hH hb2)
  obtain ⟨m, hm⟩ : ∃ m, V.size = m := ⟨_, rfl⟩
  have hm20 : m ≤ 1048576 := by omega
  have HLL : Hid ((byteL V).length = m) := hid (by rw [byteL_length, hm])
  have HAS := hid (And.intro hAs hBs)
  clear hsq hAB ha hb hG hW hH hb1 hb2 hUs h120' hVs hAs hBs
  go_enter Try.func78, Try.ntmps78
  go_wp2_with fail
  refine (HSP.out _).mono ?_
  rintro e w1 ⟨⟨A1, c1, rfl, ho1⟩, hb1⟩
  have KR1 := hid (Box.keep KR0.out hb1)
  have HB1 := hid (bbl HB0.out hb1)
  obtain ⟨g1, cq1, e1⟩ := Go.Joins.ownsRow_form ho1 (by omega)
  simp only [Value.slice.injEq] at e1
  obtain ⟨rfl, -, rfl⟩ := e1
  have hc0 := strs_cell ho1 (i := 0) rfl
  have hg1 := (World.ownsRow.lt ho1 g1 rfl).2
  have HO1 := hid ho1
  clear hb1 ho1
  go_wp2_with fail
  refine (HSQ.out _).mono ?_
  rintro e w2 ⟨⟨A2, c2, rfl, ho2⟩, hb2⟩
  have KR2 := hid (Box.keep KR1.out hb2)
  have HB2 := hid (bbl HB1.out hb2)
  have HO2 := hid (own_keep HO1.out hb2)
  obtain ⟨g2, cq2, e2⟩ := Go.Joins.ownsRow_form ho2 (by omega)
  simp only [Value.slice.injEq] at e2
  obtain ⟨rfl, -, rfl⟩ := e2
  have HQ2 := hid ho2
  clear hb2 ho2 hc0 hg1 KR1 HB1 HO1
  have hd0 := strs_cell HQ2.out (i := 0) rfl
  have hg2 := (World.ownsRow.lt HQ2.out g2 rfl).2
  go_wp2_with fail
  refine (l01Number_any a _ HAS.out.1).mono ?_
  rintro e w3 ⟨he, hb3⟩
  rw [HR1.out.1, HR1.out.2] at he
  subst he
  have KR3 := hid (Box.keep KR2.out hb3)
  have HB3 := hid (bbl HB2.out hb3)
  have HO3 := hid (own_keep HO2.out hb3)
  have HQ3 := hid (own_keep HQ2.out hb3)
  clear hb3 hd0 hg2 KR2 HB2 HO2 HQ2
  have hd1 := strs_cell HQ3.out (i := 1) rfl
  have hg2 := (World.ownsRow.lt HQ3.out g2 rfl).2
  go_wp2_with fail
  refine (l01Number_any b _ HAS.out.2).mono ?_
  rintro e w4 ⟨he, hb4⟩
  rw [HR2.out.1, HR2.out.2] at he
  subst he
  have KR4 := hid (Box.keep KR3.out hb4)
  have HB4 := hid (bbl HB3.out hb4)
  have HO4 := hid (own_keep HO3.out hb4)
  clear hb4 hd1 hg2 KR3 HB3 HO3 HQ3
  go_wp2_with fail
  obtain ⟨w5, hw5⟩ : ∃ zz : World, zz = w4.alloc (.cells #[.int .i64 W, .int .i64 H, .slice none 0 0] 39) := ⟨_, rfl⟩
  rw [← hw5]
  obtain ⟨pb, hpb⟩ : ∃ b, b = w4.heap.size := ⟨_, rfl⟩
  have KP5 := hid (show Box w5 pb 39 #[.int .i64 W, .int .i64 H, .slice none 0 0] by rw [hw5, hpb]; exact Box.new _ _ _)
  have HB5 := hid (show Below w4.heap.size w4 w5 by rw [hw5]; exact bal (Below.refl _ _) _)
  have HG1 := hid (strs_cell HO4.out (i := 1) rfl)
  have hg1 := (World.ownsRow.lt HO4.out g1 rfl).2
  have hz4 := HB4.out.size
  have hr4 := KR4.out.lt
  rw [← hpb] at hg1 hz4 hr4 HB5 ⊢
  have HPB := hid hpb
  clear hw5 HO4 hpb
  go_loopg [11] m (fun g i wr => ∃ (k : Nat) (v : Value), k ≤ m ∧ i = .int .i64 k ∧ g = m - k ∧ Hid (wr.ownsRow (pb + 1) 2 1 v k (vals (((byteL V).take k).map kdF))) ∧ Hid (Box wr pb 39 #[.int .i64 W, .int .i64 H, v]) ∧ Hid (Below pb w4 wr))
  case atStart => exact ⟨0, .slice none 0 0, Nat.zero_le _, rfl, rfl, hid (World.ownsRow_nil _ _ _ _), KP5, HB5⟩
  case round =>
    clear KP5 HB5
    obtain ⟨k, v, hk, rfl, hg, HO, KP, HB⟩ := hrel
    obtain ⟨Pa, Pb, Pc⟩ := KP.out.three
    have Pz := KP.out.lt
    have Pf := KP.out.free
    have hcv : wr.cell? ⟨g1, 1, none⟩ = some (.string V) := (HB.out.cell (p := ⟨g1, 1, none⟩) hg1).trans HG1.out
    have hgw : g1 < wr.heap.size := by omega
    by_cases hlt : k < m
    · have hjs : k < V.size := by omega
      obtain ⟨z, hz⟩ : ∃ q : Int, ((V[k]'hjs).toNat : Int) = q := ⟨_, rfl⟩
      have HLZ : Hid ((byteL V)[k]? = some z) := hid (by rw [byte_at V k hjs, hz])
      have HST := hid (imZ_at HLZ.out)
      go_wp2_with fail
      go_region_law (first | (go_simp; go_at_call 83; refine (l05Kind_any z _).mono ?_; rintro e w' ⟨rfl, rfl⟩) | (refine step_append_lies _ (by rfl) (.tmp 52) (.tmp 59) 34 (by rfl) (pb + 1) 2 i0 (.int .i64 0) 1 8 Try.underlying34 hi0 hz0 hz1 hz2 rfl (by omega) v k (vals (((byteL V).take k).map kdF)) (by rfl) (HO.out.alloc _) ⟨wr.heap.size, 0, none⟩ 1 1 [.int .i64 (kdF z)] (by rfl) rfl (World.news_of_block (cs := #[.int .i64 (kdF z)]) (t := 2) (fr := (0, 0)) (heap_alloc_new wr _)) (by simp [Value.oneCell']) (by omega) (by unfold maxLen; omega) (by omega) (by simp; omega) (wr.heap.size + 1) (by simp) ?_; intro gg cap w5 hown5 hgrow5' hat5 hlt5; have hgrow5 := gb_drewQ hgrow5'; have KP5 := hid (Box.grew (Box.alloc KP.out (.cells #[.int .i64 (kdF z)] 2)) hgrow5 (own_boxQ (HO.out.alloc (.cells #[.int .i64 (kdF z)] 2)) (Box.alloc KP.out (.cells #[.int .i64 (kdF z)] 2)) (by decide))); have HB5 := hid (Below.grown (Below.alloc HB.out (by omega) (.cells #[.int .i64 (kdF z)] 2)) hgrow5 (by simp; omega) (fun q hq => by have := (HO.out.lt q hq).1; omega)); have HO5 := hid hown5; clear hown5 hgrow5 hgrow5' hat5 hlt5; have c5 := (Box.three KP5.out).2.2; have f5 := KP5.out.free; have z5 := KP5.out.lt))
      all_goals (go_wp2_with fail)
      all_goals (go_roundg (m - (k + 1)))
      all_goals (first | (case measure => omega) | skip)
      all_goals (first | (case rel => exact ⟨k + 1, .slice (some ⟨gg, 0, none⟩) (k + 1) cap, by omega, by go_num, rfl, hid (HST.out ▸ own_setbQ HO5.out KP5.out (by decide) 2 _), hid (Box.putL KP5.out), hid (Below.setCell HB5.out (Nat.le_refl _) _)⟩) | skip)
    · obtain rfl : k = m := by omega
      obtain ⟨A9, c9, rfl⟩ := own_form HO.out
      have HO2 : Hid (wr.ownsRow (pb + 1) 2 1 (.slice A9 k c9) k (vals ((byteL V).map kdF))) := hid (by have h := HO.out; rw [List.take_of_length_le (by rw [HLL.out]; exact Nat.le_refl _)] at h; exact h)
      have HBW := hid (Below.trans HB4.out (HB.out.mono hz4))
      have KR := hid (show Box wr w.heap.size 39 #[.int .i64 0, .int .i64 0, .slice none 0 0] from (HB.out.block _ hr4).trans KR4.out)
      have HNN : Hid (l5W s = W ∧ l5H s = H ∧ l5N s = k ∧ l5Z s = (byteL V).map kdF ∧ l5B s = (b1 && b2)) := hid ⟨HYE.out.1, HYE.out.2.1, HYE.out.2.2.1.trans (by rw [List.length_map, HLL.out]), HYE.out.2.2.2.1, HYE.out.2.2.2.2⟩
      obtain ⟨Ra, Rb, Rc⟩ := KR.out.three
      have Rz := KR.out.lt
      have Rf := KR.out.free
      have hpw : w.heap.size ≤ pb + 1 := by omega
      clear HO
      cases b1
      · go_wp2_with fail
        have hE := HBW.out
        have ho := HO2.out
        refine bodyPost_ret (v := .tuple #[.agg #[.int .i64 W, .int .i64 H, .slice A9 k c9], .bool false]) (by simp [results, Try.results78, go_sem, *]) rfl ⟨⟨A9, c9, by rw [HNN.out.1, HNN.out.2.1, HNN.out.2.2.1, HNN.out.2.2.2.2]; rfl, ?_⟩, ?_⟩
        · rw [HNN.out.2.2.1, HNN.out.2.2.2.1]
          refine Go.Joins.ownsRow_le (base := pb + 1) ?_ hpw
          repeat (refine ownsRow_setCell_below ?_ (by simp; omega) _)
          exact ho
        · repeat (refine Below.setCell ?_ (by simp) _)
          exact hE
      · go_wp2_with fail
        have hE := HBW.out
        have ho := HO2.out
        refine bodyPost_ret (v := .tuple #[.agg #[.int .i64 W, .int .i64 H, .slice A9 k c9], .bool b2]) (by simp [results, Try.results78, go_sem, *]) rfl ⟨⟨A9, c9, by rw [HNN.out.1, HNN.out.2.1, HNN.out.2.2.1, HNN.out.2.2.2.2]; simp, ?_⟩, ?_⟩
        · rw [HNN.out.2.2.1, HNN.out.2.2.2.1]
          refine Go.Joins.ownsRow_le (base := pb + 1) ?_ hpw
          repeat (refine ownsRow_setCell_below ?_ (by simp; omega) _)
          exact ho
        · repeat (refine Below.setCell ?_ (by simp) _)
          exact hE
set_option maxRecDepth 100000 in
set_option maxHeartbeats 4000000 in
theorem specReadPanel_any (s : ByteArray) (w : World) (hs : s.size ≤ 1048576) :
    Calls Try.prog 33 #[.string s] w fun e w' => (∃ A' c', e = .returned (.tuple #[.agg #[.int .i64 (pnW s), .int .i64 (pnH s), .slice A' (pnN s) c'], .bool (pnO s)]) ∧ w'.ownsRow w.heap.size 2 1 (.slice A' (pnN s) c') (pnN s) (vals (pnL s))) ∧ Below w.heap.size w w' := by
  have HS := hid hs
  have KR0 := hid (Box.new w 39 #[.int .i64 0, .int .i64 0, .slice none 0 0])
  have HB0 : Hid (Below w.heap.size w (w.alloc (.cells #[.int .i64 0, .int .i64 0, .slice none 0 0] 39))) := hid (bal (Below.refl _ _) _)
  have HNO : Hid (pnO s = false → pnW s = 0 ∧ pnH s = 0 ∧ pnN s = 0 ∧ pnL s = [] ∧ pnO s = false) := hid (fun h => by simp [pnW, pnH, pnN, pnL, h])
  have HPO : Hid (l5B s = true → pnO s = validB (l5W s) (l5H s) (l5Z s)) := hid (fun h => by
    have hg : prG s = true := by unfold l5B at h; simp at h; exact h.1
    obtain ⟨e1, e2, _, e4, e5⟩ := l5_yes hg
    rw [e1, e2, e4]
    rw [e5] at h
    unfold pnO
    rw [hg, h]
    rfl)
  have HPY : Hid (l5B s = true → pnO s = true → pnW s = l5W s ∧ pnH s = l5H s ∧ pnN s = l5N s ∧ pnL s = l5Z s) := hid (fun h hp => by
    have hg : prG s = true := by unfold l5B at h; simp at h; exact h.1
    obtain ⟨e1, e2, e3, e4, _⟩ := l5_yes hg
    unfold pnN pnW pnH pnL
    rw [e1, e2, e3, e4, hp]
    exact ⟨rfl, rfl, rfl, rfl⟩)
  have HPF : Hid (l5B s = false → pnO s = false) := hid (fun h => by
    unfold l5B at h
    unfold pnO
    rw [h]
    rfl)
  have HLN : Hid ((l5Z s).length = l5N s) := hid rfl
  have hln : l5N s ≤ 1048576 := by
    unfold l5N l5Z
    split
    · exact Nat.le_trans (prZ_len s) hs
    · simp
  have HRD := hid (fun wx => l05Read_any s wx hs)
  obtain ⟨W, hW⟩ : ∃ W, l5W s = W := ⟨_, rfl⟩
  obtain ⟨H, hH⟩ : ∃ H, l5H s = H := ⟨_, rfl⟩
  obtain ⟨n, hn⟩ : ∃ n, l5N s = n := ⟨_, rfl⟩
  obtain ⟨zs, hzs⟩ : ∃ z, l5Z s = z := ⟨_, rfl⟩
  obtain ⟨bk, hbk⟩ : ∃ b, l5B s = b := ⟨_, rfl⟩
  rw [hW, hH, hzs] at HPO
  rw [hW, hH, hn, hzs] at HPY HRD
  rw [hbk] at HPO HPY HPF HRD
  rw [hn] at hln
  rw [hzs, hn] at HLN
  have hzl := HLN.out
  subst hzl
  obtain ⟨bv, hbv⟩ : ∃ b, validB W H zs = b := ⟨_, rfl⟩
  have HBV := hid hbv
  clear hs hW hH hn hzs hbk hbv
  go_enter Try.func33, Try.ntmps33
  go_wp2_with fail
  refine (HRD.out _).mono ?_
  rintro e w1 ⟨⟨A1, c1, rfl, ho1⟩, hb1⟩
  have KR1 := hid (Box.keep KR0.out hb1)
  have HB1 := hid (bbl HB0.out hb1)
  have HO1 := hid ho1
  clear hb1 ho1
  cases bk with
  | false =>
    have HV := hid (HNO.out (HPF.out rfl))
    have KR2 := hid (Box.alloc KR1.out (.cells #[.int .i64 W, .int .i64 H, .slice A1 zs.length c1] 39))
    have HB2 := hid (bal HB1.out (.cells #[.int .i64 W, .int .i64 H, .slice A1 zs.length c1] 39))
    obtain ⟨Ra, Rb, Rc⟩ := KR2.out.three
    have Rz := KR2.out.lt
    have Rf := KR2.out.free
    go_wp2_with fail
    have hE := HB2.out
    refine bodyPost_ret (v := .tuple #[.agg #[.int .i64 0, .int .i64 0, .slice none 0 0], .bool false]) (by simp [results, Try.results33, go_sem, *]) rfl ⟨⟨none, 0, by rw [HV.out.1, HV.out.2.1, HV.out.2.2.1, HV.out.2.2.2.2], by rw [HV.out.2.2.1, HV.out.2.2.2.1]; exact World.ownsRow_nil _ _ _ _⟩, ?_⟩
    repeat (refine Below.setCell ?_ (by simp) _)
    exact hE
  | true =>
    go_wp2_with fail
    refine (calls_bool (l02Ok_any w1.heap.size W H A1 c1 zs (w1.alloc (.cells #[.int .i64 W, .int .i64 H, .slice A1 zs.length c1] 39)) w1.heap.size (Box.new w1 _ _) ((ints_of HO1.out).below (bal (Below.refl _ _) _)) (by unfold maxLen; omega)) HBV.out).mono ?_
    rintro e w2 ⟨rfl, mm, rfl⟩
    have KR2 := hid (Box.drewN (Box.alloc KR1.out (.cells #[.int .i64 W, .int .i64 H, .slice A1 zs.length c1] 39)) mm)
    have KP2 := hid (Box.drewN (Box.new w1 39 #[.int .i64 W, .int .i64 H, .slice A1 zs.length c1]) mm)
    have HB2 := hid (below_drewN (bal HB1.out (.cells #[.int .i64 W, .int .i64 H, .slice A1 zs.length c1] 39)) mm)
    obtain ⟨w3, hw3⟩ : ∃ zz : World, zz = (w1.alloc (.cells #[.int .i64 W, .int .i64 H, .slice A1 zs.length c1] 39)).drewN mm := ⟨_, rfl⟩
    have HO2 : Hid (w3.ownsRow (w.heap.size + 1) 2 1 (.slice A1 zs.length c1) zs.length (vals zs)) := hid (by rw [hw3]; exact Go.Joins.ownsRow_le (HO1.out.alloc _) (by simp))
    rw [← hw3] at KR2 KP2 HB2 ⊢
    clear hw3 KR1 HB1 HO1
    obtain ⟨Pa, Pb, Pc⟩ := KP2.out.three
    have Pz := KP2.out.lt
    cases bv with
    | false =>
      have HV := hid (HNO.out ((HPO.out (by simp)).trans HBV.out))
      obtain ⟨Ra, Rb, Rc⟩ := KR2.out.three
      have Rz := KR2.out.lt
      have Rf := KR2.out.free
      go_wp2_with fail
      have hE := HB2.out
      refine bodyPost_ret (v := .tuple #[.agg #[.int .i64 0, .int .i64 0, .slice none 0 0], .bool false]) (by simp [results, Try.results33, go_sem, *]) rfl ⟨⟨none, 0, by rw [HV.out.1, HV.out.2.1, HV.out.2.2.1, HV.out.2.2.2.2], by rw [HV.out.2.2.1, HV.out.2.2.2.1]; exact World.ownsRow_nil _ _ _ _⟩, ?_⟩
      repeat (refine Below.setCell ?_ (by simp) _)
      exact hE
    | true =>
      have HOK := hid ((HPO.out (by simp)).trans HBV.out)
      have HV := hid (HPY.out (by simp) HOK.out)
      obtain ⟨Ra, Rb, Rc⟩ := KR2.out.three
      have Rz := KR2.out.lt
      have Rf := KR2.out.free
      go_wp2_with fail
      have hE := HB2.out
      have ho := HO2.out
      refine bodyPost_ret (v := .tuple #[.agg #[.int .i64 W, .int .i64 H, .slice A1 zs.length c1], .bool true]) (by simp [results, Try.results33, go_sem, *]) rfl ⟨⟨A1, c1, by rw [HV.out.1, HV.out.2.1, HV.out.2.2.1, HOK.out], ?_⟩, ?_⟩
      · rw [HV.out.2.2.1, HV.out.2.2.2]
        refine Go.Joins.ownsRow_le (base := w.heap.size + 1) ?_ (by omega)
        repeat (refine ownsRow_setCell_below ?_ (by simp) _)
        exact ho
      · repeat (refine Below.setCell ?_ (by simp) _)
        exact hE
end Go.Proofs.Ytgcgaoblbhojnaa

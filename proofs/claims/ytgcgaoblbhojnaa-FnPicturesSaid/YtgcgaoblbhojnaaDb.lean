/- Draws: panels that may be bent. -/
import Derived.Test.YtgcgaoblbhojnaaDw
import Derived.Test.YtgcgaoblbhojnaaSz
import Derived.Test.YtgcgaoblbhojnaaQm
import Derived.Lib.SmallJoins
namespace Go.Proofs.Ytgcgaoblbhojnaa
set_option linter.unusedSimpArgs false
set_option linter.unusedVariables false
open Go.ChangeShapes Go.WideShapes Go.ChangeAt Go.RowKit
theorem src_bytes {w w' : World} {b B : Nat} {A : Option Addr} {bs : List Int} (h : BytesR w B A bs) (hg : w.grownBy w' (some b)) (hB : B ≤ b) (hw : b < w.heap.size) : BytesR w' B A bs := fun j z hj => by
  obtain ⟨h0, bb, off, e, hlt, hc⟩ := h j z hj
  refine ⟨h0, bb, off, e, hlt, ?_⟩
  have h1 := hg.block bb (by omega) (by intro e2; injection e2 with e2; omega)
  unfold World.cell? at hc ⊢
  rw [h1]
  exact hc
theorem SrcP.drew {w : World} {b K n c : Nat} {A : Option Addr} (h : SrcP w b K A n c) : SrcP w.drew b K A n c := h.keep (below_refl_drew _ _)
theorem own_drewD {w : World} {lo s n : Nat} {T : TypeId} {v : Value} {cs : List Value} (h : w.ownsRow lo T s v n cs) : w.drew.ownsRow lo T s v n cs := h
theorem own_boxQ9 {w : World} {lo s n b : Nat} {T T' : TypeId} {v : Value} {cs : List Value} {ds : Array Value} (h : w.ownsRow lo T s v n cs) (hb : Box w b T' ds) (hT : T ≠ T') : ∀ q, v.ownBlock = some q → b ≠ q := by
  rintro q hq rfl
  obtain ⟨c, f, h1⟩ := Go.Lib.ownsRow_kind h _ hq
  have h2 : w.heap[b]? = _ := hb
  rw [h1] at h2
  injection h2 with h2
  injection h2 with _ h2 _
  exact hT h2
theorem lit_keep {w w3 : World} {b : Nat} {T : TypeId} {cs : Array Value} (hg : (w.alloc (.cells cs T)).drew.grownBy w3 (some b)) (hb : b < w.heap.size) : Box w3 w.heap.size T cs :=
  Box.grew (Box.drew (Box.new w T cs)) hg (fun q hq => by injection hq with hq; subst hq; omega)
theorem own_put39 {w : World} {lo sz n p : Nat} {v x y z : Value} {T T' : TypeId} {cs : List Value} {ds : Array Value} (h : w.ownsRow lo T sz v n cs) (hb : Box w p T' ds) (hT : T ≠ T') : (((w.setCell ⟨p, 0, none⟩ x).setCell ⟨p, 1, none⟩ y).setCell ⟨p, 2, none⟩ z).ownsRow lo T sz v n cs :=
  own_setother (own_setother (own_setother h hb hT 0 x) (hb.put 0 x) hT 1 y) ((hb.put 0 x).put 1 y) hT 2 z
theorem box_past9 {w w' : World} {lo sz n b : Nat} {T T' : TypeId} {v : Value} {cs : List Value} {ds : Array Value} {o : Obj} (hb : Box w b T' ds) (h : w.ownsRow lo T sz v n cs) (hg : (w.alloc o).grownBy w' v.ownBlock) (hT : T ≠ T') : Box w' b T' ds :=
  Box.grew (Box.alloc hb o) hg (own_boxQ9 (h.alloc o) (Box.alloc hb o) hT)
theorem SrcP.grew9 {w w' : World} {b K n c : Nat} {A : Option Addr} {r : Option Nat} (h : SrcP w b K A n c) (hg : w.grownBy w' r) (hne : ∀ q, r = some q → b ≠ q) : SrcP w' b K A n c := by
  obtain ⟨i, s, h1, h2, h3⟩ := h
  exact ⟨i, s, h1, h2, Box.grew h3 hg hne⟩
theorem grown_join9 {w w1 w2 : World} {b : Nat} {r : Option Nat} (h : w.grownBy w1 (some b)) (hg : w1.grownBy w2 r) (hr : ∀ q, r = some q → w.heap.size ≤ q) : w.grownBy w2 (some b) :=
  ⟨hg.os.trans h.os, hg.tape.trans h.tape, hg.output.trans h.output, Nat.le_trans h.size hg.size, fun k hk hne => (hg.block k (Nat.lt_of_lt_of_le hk h.size) (fun e => by have := hr k e.symm; omega)).trans (h.block k hk hne)⟩
set_option maxHeartbeats 1000000 in
theorem among_any (b K : Nat) (A : Option Addr) (n c B : Nat) (bs : List Int) (g cl m : Nat) (ls : List Int) (w : World) (hn : bs.length = n) (h : SrcP w b K A n c) (hb : BytesR w B A bs) (hB : B ≤ b) (hK : K ≤ 1000000) (hnl : n ≤ 5000) (hm : ls.length = m) (hm1 : 1 ≤ m) (hm2 : m ≤ 200) (hgb : b < g) (hc : ∀ (i : Nat) z, ls[i]? = some z → w.cell? ⟨g, i, none⟩ = some (.int .i64 z)) :
    Calls Try.prog 119 #[.pointer (some ⟨b, 0, none⟩), .slice (some ⟨g, 0, none⟩) m cl] w fun e w' => (∃ x, x ∈ ls ∧ e = .returned (.int .i64 x)) ∧ SrcP w' b (K + 1) A n c ∧ w.grownBy w' (some b) := by
  have HN := hid hn
  have HS := hid h
  have HBY := hid hb
  have HC := hid hc
  have HM := hid hm
  clear hn h hb hc hm
  go_enter Try.func119, Try.ntmps119
  go_wp2_with fail
  refine (pick_any b K A n c B bs (m : Int) _ HN.out HS.out HBY.out hB hK hnl (by omega) (by omega)).mono ?_
  rintro e w1 ⟨⟨x, ⟨x1, x2⟩, rfl⟩, hs1, hg1⟩
  have HS1 := hid hs1
  have HG1 := hid hg1
  obtain ⟨i, rfl⟩ : ∃ i : Nat, x = (i : Int) := ⟨x.toNat, by omega⟩
  have him : i < m := by omega
  obtain ⟨z, hz⟩ : ∃ z, ls[i]? = some z := ⟨_, List.getElem?_eq_getElem (by have := HM.out; omega)⟩
  have hc0 := HC.out i z hz
  have hgz : g < w.heap.size := World.block_lt_of_cell? w _ hc0
  have hcc : w1.cell? ⟨g, i, none⟩ = some (.int .i64 z) := by
    have h1 := hg1.block g hgz (by intro e2; injection e2 with e2; omega)
    unfold World.cell? at hc0 ⊢
    rw [h1]
    exact hc0
  have hgz1 : g < w1.heap.size := Nat.lt_of_lt_of_le hgz hg1.size
  have HZ := hid (List.mem_of_getElem? hz)
  clear hs1 hg1 hc0 hz x1 x2
  go_wp2_with fail
  go_ret
  exact ⟨⟨z, HZ.out, rfl⟩, HS1.out, HG1.out⟩
theorem lit_cells {w : World} {g : Nat} {T : TypeId} {ls : List Int} {cs : Array Value} (h : Box w g T cs) (e : cs = (ls.map (Value.int .i64)).toArray) : ∀ (i : Nat) z, ls[i]? = some z → w.cell? ⟨g, i, none⟩ = some (.int .i64 z) := by
  intro i z hz
  subst e
  have hi : i < ls.length := (List.getElem?_eq_some_iff.1 hz).1
  rw [cell_of_row w g i _ _ _ h]
  simp [hz]
/-- What a bent draw hands back: some panel of few breaks, in memory of its own. -/
def BentP (w : World) (b K : Nat) (A : Option Addr) (n c : Nat) (e : Ending) (w' : World) : Prop :=
  (∃ (W H : Int) (zs : List Int) (A' : Option Addr) (c' : Nat), ((Lit.int .i64 W).wf = true ∧ (Lit.int .i64 H).wf = true ∧ zs.length ≤ 200) ∧ e = .returned (.agg #[.int .i64 W, .int .i64 H, .slice A' zs.length c']) ∧ w'.ownsRow w.heap.size 2 1 (.slice A' zs.length c') zs.length (vals zs)) ∧ SrcP w' b (K + 303) A n c ∧ w.grownBy w' (some b)
theorem wf64B {z : Int} (h1 : -9223372036854775808 ≤ z) (h2 : z ≤ 9223372036854775807) : (Lit.int .i64 z).wf = true := by
  simp [Lit.wf, IntKind.min, IntKind.max, IntKind.bits, IntKind.signed]; omega
theorem infoIB : (Try.prog.info? 2).map (fun i => (i.zero, i.size, i.bytes)) = some (some (.int .i64 0), 1, 8) := by kernel_rfl
set_option maxRecDepth 100000 in
set_option maxHeartbeats 30000000 in
theorem l02Bent_any (b K : Nat) (A : Option Addr) (n c B : Nat) (bs : List Int) (w : World) (hn : bs.length = n) (h : SrcP w b K A n c) (hb : BytesR w B A bs) (hB : B ≤ b) (hK : K ≤ 800000) (hnl : n ≤ 5000) :
    Calls Try.prog 91 #[.pointer (some ⟨b, 0, none⟩)] w (BentP w b K A n c) := by
  have hbl := h.lt
  have HN := hid hn
  have HS := hid h
  have HBY := hid hb
  obtain ⟨i0, hi0, hz0, hz1, hz2⟩ := info_parts infoIB
  clear hn h hb
  go_enter Try.func91, Try.ntmps91
  go_wp2_with fail
  refine (l02Draw_any b K A n c B bs 5 _ HN.out (HS.out.keep (bal (Below.refl _ _) _)) (HBY.out.below ((Below.refl _ _).alloc (by omega) _)) hB (by omega) hnl (by omega) (by omega)).mono ?_
  rintro e w1 ⟨⟨W, H, zs, A1, c1, ⟨hv, hW5, hH5⟩, rfl, ho1⟩, hs1, hg1⟩
  have HS1 := hid hs1
  have KR1 := hid (Box.grew (Box.new w 39 #[.int .i64 0, .int .i64 0, .slice none 0 0]) hg1 (fun q hq => by injection hq with hq; omega))
  have HG1 := hid (grown_trans' (grown_of_below (bal (Below.refl _ _) (.cells #[.int .i64 0, .int .i64 0, .slice none 0 0] 39)) (some b)) hg1)
  have HO1 : Hid (w1.ownsRow (w.heap.size + 1) 2 1 (.slice A1 zs.length c1) zs.length (vals zs)) := hid (by simpa using ho1)
  have hzl : zs.length ≤ 112 := by
    have h1 := valid_len hv
    have h2 := inner_le (valid_sides hv).1 (valid_sides hv).2
    omega
  have hWb := side_bd (valid_sides hv).1
  have hHb := side_bd (valid_sides hv).2
  have HWF : Hid ((Lit.int .i64 W).wf = true ∧ (Lit.int .i64 H).wf = true) := hid ⟨wf64B (by omega) (by omega), wf64B (by omega) (by omega)⟩
  have hzR : w.heap.size + 1 ≤ w1.heap.size := by have := hg1.size; simpa using this
  clear hs1 hg1 ho1 hv
  go_wp2_with fail
  refine (pick_any b (K + 300) A n c B bs 20 _ HN.out (HS1.out.alloc _) ((src_bytes HBY.out HG1.out hB hbl).below ((Below.refl B w1).alloc (by omega) _)) hB (by omega) hnl (by omega) (by omega)).mono ?_
  rintro e w2 ⟨⟨v0, ⟨v01, v02⟩, rfl⟩, hs2, hg2⟩
  have HS2 := hid hs2
  have KR2 := hid (Box.grew (Box.alloc KR1.out _) hg2 (fun q hq => by injection hq with hq; omega))
  have KP2 := hid (Box.grew (Box.new w1 39 #[.int .i64 W, .int .i64 H, .slice A1 zs.length c1]) hg2 (fun q hq => by injection hq with hq; omega))
  have HO2 := hid (srow_kept (HO1.out.alloc _) hg2 (show b < w.heap.size + 1 by omega))
  have HG2 := hid (grown_trans' HG1.out (grown_trans' (grown_of_below (bal (Below.refl _ _) _) (some b)) hg2))
  have hz2w : w1.heap.size + 1 ≤ w2.heap.size := by have := hg2.size; simpa using this
  clear hs2 hg2 KR1 HO1 HS1
  by_cases e0 : v0 = 0
  · subst e0
    go_wp2_with fail
    have KL := hid (Box.new w2 2 #[.int .i64 0, .int .i64 8, .int .i64 9, .int .i64 (-9223372036854775808)])
    refine (among_any b (K + 301) A n c B bs w2.heap.size 4 4 [0, 8, 9, -9223372036854775808] _ HN.out (HS2.out.alloc _) ((src_bytes HBY.out HG2.out hB hbl).below ((Below.refl B w2).alloc (by omega) _)) hB (by omega) hnl rfl (by omega) (by omega) (by omega) (lit_cells KL.out rfl)).mono ?_
    rintro e w3 ⟨⟨x, hx, rfl⟩, hs3, hg3⟩
    have HXF : Hid ((Lit.int .i64 x).wf = true) := hid (by
      simp only [List.mem_cons, List.not_mem_nil, or_false] at hx
      rcases hx with rfl | rfl | rfl | rfl <;> decide)
    have HS3 := hid hs3
    have KR3 := hid (Box.grew (Box.alloc KR2.out _) hg3 (fun q hq => by injection hq with hq; omega))
    have KP3 := hid (Box.grew (Box.alloc KP2.out _) hg3 (fun q hq => by injection hq with hq; omega))
    have HO3 := hid (srow_kept (HO2.out.alloc _) hg3 (show b < w.heap.size + 1 by omega))
    have HG3 := hid (grown_trans' HG2.out (grown_trans' (grown_of_below (bal (Below.refl _ _) _) (some b)) hg3))
    have hz3 : w2.heap.size + 1 ≤ w3.heap.size := by have := hg3.size; simpa using this
    clear hs3 hg3 hx KL KR2 KP2 HO2 HS2
    obtain ⟨Pa, Pb, Pc⟩ := KP3.out.three
    have Pz := KP3.out.lt
    have Pf := KP3.out.free
    obtain ⟨Ra, Rb, Rc⟩ := KR3.out.three
    have Rz := KR3.out.lt
    have Rf := KR3.out.free
    go_wp2_with fail
    have hE := HG3.out
    refine bodyPost_ret (v := .agg #[.int .i64 x, .int .i64 H, .slice A1 zs.length c1]) (by simp [results, Try.results91, go_sem, *]) rfl ⟨⟨x, H, zs, A1, c1, ⟨HXF.out, HWF.out.2, by omega⟩, by first | rfl | simp, ?_⟩, ?_, ?_⟩
    · refine Go.Joins.ownsRow_le (base := w.heap.size + 1) ?_ (by omega)
      iterate 3 (refine ownsRow_setCell_below ?_ (by simp) _)
      exact own_setother HO3.out KP3.out (by decide) _ _
    · repeat (refine SrcP.set ?_ (by simp <;> omega) _)
      exact HS3.out.more (by omega)
    · repeat (refine grown_set ?_ (by simp <;> omega) _)
      exact hE
  by_cases e1 : v0 = 1
  · subst e1
    clear e0
    obtain ⟨Pa, Pb, Pc⟩ := KP2.out.three
    have Pz := KP2.out.lt
    go_wp2_with (at_builtin; (refine wpList_append_own _ rfl _ _ 34 rfl (w.heap.size + 1) 2 i0 (.int .i64 0) 1 8 Try.underlying34 hi0 hz0 hz1 hz2 rfl (by decide) _ zs.length (vals zs) rfl (HO2.out.alloc _) ⟨w2.heap.size, 0, none⟩ 1 1 [.int .i64 0] rfl rfl (World.news_of_block (cs := #[.int .i64 0]) (t := 2) (fr := (0, 0)) (heap_alloc_new w2 _)) (by simp [Value.oneCell']) (by unfold maxLen; omega) (by omega) (by simp; omega) ?_; intro v' w3 ho3 hgr3 _; obtain ⟨g3, c3, rfl⟩ := Go.Joins.ownsRow_form ho3 (by omega); have HHa := hid (And.intro ho3 hgr3); have KR3 := hid (box_past9 KR2.out HO2.out hgr3 (by decide)); have KP3 := hid (box_past9 KP2.out HO2.out hgr3 (by decide)); have HS3 := hid (SrcP.grew9 (HS2.out.alloc _) hgr3 (fun q hq => by have := (HO2.out.lt q hq).1; omega)); have HG3 := hid (grown_join9 (grown_trans' HG2.out (grown_of_below (bal (Below.refl _ _) _) (some b))) hgr3 (fun q hq => by have := (HO2.out.lt q hq).1; omega)); have hz3 : w2.heap.size + 1 ≤ w3.heap.size := by (have := hgr3.size; simpa using this)); clear ho3 hgr3 Pa Pb Pc Pz; obtain ⟨Pa, Pb, Pc⟩ := KP3.out.three; have Pz := KP3.out.lt; have Pf := KP3.out.free; obtain ⟨Ra, Rb, Rc⟩ := KR3.out.three; have Rz := KR3.out.lt; have Rf := KR3.out.free)
    have hE := HG3.out
    refine bodyPost_ret (v := .agg #[.int .i64 W, .int .i64 H, .slice (some ⟨g3, 0, none⟩) (zs.length + 1) c3]) (by simp [results, Try.results91, go_sem, *]) rfl ⟨⟨W, H, zs ++ [0], some ⟨g3, 0, none⟩, c3, ⟨HWF.out.1, HWF.out.2, by simp; omega⟩, by simp, ?_⟩, ?_, ?_⟩
    · refine Go.Joins.ownsRow_le (base := w.heap.size + 1) ?_ (by omega)
      iterate 3 (refine ownsRow_setCell_below ?_ (by simp) _)
      refine own_setother ?_ KP3.out (by decide) _ _
      have h := HHa.out.1
      simpa [vals] using h
    · repeat (refine SrcP.set ?_ (by simp <;> omega) _)
      exact HS3.out.more (by omega)
    · repeat (refine grown_set ?_ (by simp <;> omega) _)
      exact hE
  by_cases e2 : v0 = 2
  · subst e2
    clear e0 e1
    obtain ⟨Pa, Pb, Pc⟩ := KP2.out.three
    have Pz := KP2.out.lt
    by_cases hz0' : zs.length = 0
    · have hzi : ((zs.length : Nat) : Int) = 0 := by omega
      have Pf := KP2.out.free
      obtain ⟨Ra, Rb, Rc⟩ := KR2.out.three
      have Rz := KR2.out.lt
      have Rf := KR2.out.free
      go_wp2_with fail
      have hE := HG2.out
      refine bodyPost_ret (v := .agg #[.int .i64 W, .int .i64 H, .slice A1 zs.length c1]) (by simp [results, Try.results91, go_sem, *]) rfl ⟨⟨W, H, zs, A1, c1, ⟨HWF.out.1, HWF.out.2, by omega⟩, by first | rfl | simp, ?_⟩, ?_, ?_⟩
      · refine Go.Joins.ownsRow_le (base := w.heap.size + 1) ?_ (by omega)
        iterate 3 (refine ownsRow_setCell_below ?_ (by simp) _)
        exact HO2.out
      · repeat (refine SrcP.set ?_ (by simp <;> omega) _)
        exact HS2.out.more (by omega)
      · repeat (refine grown_set ?_ (by simp <;> omega) _)
        exact hE
    · have hzp : 0 < zs.length := by omega
      have hzpi : (0 : Int) < (zs.length : Int) := by omega
      rcases Go.Joins.ownsRow_forms HO2.out with ⟨_, hn0⟩ | ⟨g3, cp, ep⟩
      · exact absurd hn0 hz0'
      simp only [Value.slice.injEq] at ep
      obtain ⟨rfl, -, rfl⟩ := ep
      have hg3 := (HO2.out.lt g3 rfl)
      obtain ⟨g31, g32⟩ := hg3
      have hbg : b < w2.heap.size := HS2.out.lt
      go_wp2_with fail
      have BYT : Hid (∀ w' : World, w.grownBy w' (some b) → BytesR w' B A bs) := hid (fun w' hg => src_bytes HBY.out hg hB hbl)
      go_region_held3 (fun zz => zz.cell? ⟨w1.heap.size, 2, none⟩ = some (.slice (some ⟨g3, 0, none⟩) zs.length c1))
        (first | (with_reducible exact (Box.three KP4.out).2.2) | (with_reducible exact (Box.three (own_setbox KP4.out HO4.out (by decide) _ _)).2.2) | (with_reducible exact (Box.three KP3.out).2.2) | (with_reducible exact (Box.three (Box.alloc KP3.out _)).2.2) | (with_reducible exact (Box.three (Box.drew KP2.out)).2.2) | (with_reducible exact (Box.three (Box.drew (Box.alloc KP2.out _))).2.2) | exact (Box.three KP2.out).2.2)
        (first | (go_at_call 98; refine (pick_any b (K + 301) A n c B bs (zs.length : Int) _ HN.out (by with_reducible first | exact SrcP.drew HS2.out | exact SrcP.drew (SrcP.alloc HS2.out _)) (BYT.out _ (by with_reducible first | exact gb_drewR HG2.out | exact gb_drewR (grown_trans' HG2.out (grown_of_below (bal (Below.refl _ _) _) (some b))))) hB (by omega) hnl (by omega) (by omega)).mono ?_; rintro e w3 ⟨⟨x, ⟨x1, x2⟩, rfl⟩, hs3, hg3⟩; have HS3 := hid hs3; have KR3 := hid (Box.grew (by with_reducible first | exact Box.drew KR2.out | exact Box.drew (Box.alloc KR2.out _)) hg3 (fun q hq => by injection hq with hq; omega)); have KP3 := hid (Box.grew (by with_reducible first | exact Box.drew KP2.out | exact Box.drew (Box.alloc KP2.out _)) hg3 (fun q hq => by injection hq with hq; omega)); (first | (have KL3 := hid (lit_keep hg3 hbg)) | skip); have HO3 := hid (srow_kept (by with_reducible first | exact own_drewD HO2.out | exact own_drewD (World.ownsRow.alloc HO2.out _)) hg3 (show b < w.heap.size + 1 by omega)); have HG3 := hid (grown_trans' (by with_reducible first | exact gb_drewR HG2.out | exact gb_drewR (grown_trans' HG2.out (grown_of_below (bal (Below.refl _ _) _) (some b)))) hg3); have hz3 : w2.heap.size ≤ w3.heap.size := Nat.le_trans (by simp) hg3.size; obtain ⟨i, hi⟩ : ∃ i : Nat, x = (i : Int) := ⟨x.toNat, by omega⟩; subst hi; have hi1 : (i : Int) < (zs.length : Int) := (by omega); clear hs3 hg3) | (go_at_call 119; refine (among_any b (K + 302) A n c B bs _ 3 3 [-1, 2, 3] _ HN.out (by with_reducible first | exact HS3.out | exact SrcP.alloc HS3.out _) (BYT.out _ (by with_reducible first | exact HG3.out | exact grown_trans' HG3.out (grown_of_below (bal (Below.refl _ _) _) (some b)))) hB (by omega) hnl rfl (by omega) (by omega) (by first | omega | (show b < w2.heap.size; omega)) (by first | exact lit_cells KL3.out rfl | exact lit_cells (Box.new w3 2 #[.int .i64 (-1), .int .i64 2, .int .i64 3]) rfl)).mono ?_; rintro e w4 ⟨⟨y, hy, rfl⟩, hs4, hg4⟩; have HS4 := hid hs4; have KR4 := hid (Box.grew (by with_reducible first | exact KR3.out | exact Box.alloc KR3.out _) hg4 (fun q hq => by injection hq with hq; omega)); have KP4 := hid (Box.grew (by with_reducible first | exact KP3.out | exact Box.alloc KP3.out _) hg4 (fun q hq => by injection hq with hq; omega)); have HO4 := hid (srow_kept (by with_reducible first | exact HO3.out | exact World.ownsRow.alloc HO3.out _) hg4 (show b < w.heap.size + 1 by omega)); have HG4 := hid (grown_trans' (by with_reducible first | exact HG3.out | exact grown_trans' HG3.out (grown_of_below (bal (Below.refl _ _) _) (some b))) hg4); have hz4 : w3.heap.size ≤ w4.heap.size := Nat.le_trans (by simp) hg4.size; clear hs4 hg4 hy; obtain ⟨zi, hzi⟩ : ∃ z, zs[i]? = some z := ⟨_, List.getElem?_eq_getElem (by omega)⟩; have hcell : w4.cell? ⟨g3, i, none⟩ = some (.int .i64 zi) := (World.ownsRow.cellAt HO4.out i (by omega)).trans (by simp [vals, hzi]); have hfro := World.ownsRow.frozenAt HO4.out i; have g4z : g3 < w4.heap.size := (HO4.out.lt g3 rfl).2; clear hzi))
      all_goals
        clear Pa Pb Pc Pz
        have hst := World.ownsRow.stored HO4.out i (.int .i64 y)
        have KP5 := hid (own_setbox KP4.out HO4.out (by decide) i (.int .i64 y))
        have KR5 := hid (own_setbox KR4.out HO4.out (by decide) i (.int .i64 y))
        have HS5 := hid (HS4.out.set (a := ⟨g3, i, none⟩) (by show b ≠ g3; omega) (.int .i64 y))
        have HG5 := hid (grown_set HG4.out (a := ⟨g3, i, none⟩) (by show w.heap.size ≤ g3; omega) (.int .i64 y))
        have HO5 : Hid ((w4.setCell ⟨g3, i, none⟩ (.int .i64 y)).ownsRow (w.heap.size + 1) 2 1 (.slice (some ⟨g3, 0, none⟩) zs.length c1) zs.length (vals (zs.set i y))) := hid (by have h := hst.1; rw [show (vals zs).set i (.int .i64 y) = vals (zs.set i y) by simp [vals]] at h; exact h)
        obtain ⟨w5, hw5⟩ : ∃ zz, zz = w4.setCell ⟨g3, i, none⟩ (.int .i64 y) := ⟨_, rfl⟩
        rw [← hw5] at KP5 KR5 HS5 HG5 HO5 ⊢
        clear hst hw5 hcell hfro g4z
        obtain ⟨Pa, Pb, Pc⟩ := KP5.out.three
        have Pz := KP5.out.lt
        have Pf := KP5.out.free
        obtain ⟨Ra, Rb, Rc⟩ := KR5.out.three
        have Rz := KR5.out.lt
        have Rf := KR5.out.free
        go_wp2_with fail
        have hE := HG5.out
        refine bodyPost_ret (v := .agg #[.int .i64 W, .int .i64 H, .slice (some ⟨g3, 0, none⟩) zs.length c1]) (by simp [results, Try.results91, go_sem, *]) rfl ⟨⟨W, H, (zs.set i y), (some ⟨g3, 0, none⟩), c1, ⟨HWF.out.1, HWF.out.2, by simp; omega⟩, by simp, ?_⟩, ?_, ?_⟩
        · refine Go.Joins.ownsRow_le (base := w.heap.size + 1) ?_ (by omega)
          iterate 3 (refine ownsRow_setCell_below ?_ (by simp) _)
          simp only [List.length_set]
          exact HO5.out
        · repeat (refine SrcP.set ?_ (by simp <;> omega) _)
          exact HS5.out.more (by omega)
        · repeat (refine grown_set ?_ (by simp <;> omega) _)
          exact hE
  by_cases e3 : v0 = 3
  · subst e3
    clear e0 e1 e2
    go_wp2_with fail
    refine (l02New_any 8 8 _ (by decide) (by decide)).mono ?_
    rintro e w3 ⟨⟨A3, c3, rfl, ho3⟩, hb3⟩
    have HS3 := hid (HS2.out.keep hb3)
    have KR3 := hid (Box.keep KR2.out hb3)
    have KP3 := hid (Box.keep KP2.out hb3)
    have HG3 := hid (grown_trans' HG2.out (grown_of_below hb3 (some b)))
    obtain ⟨n3, hin⟩ : ∃ m, (inner 8 8).toNat = m := ⟨_, rfl⟩
    have hn3 : n3 ≤ 200 := by rw [← hin]; decide
    rw [hin] at ho3 ⊢
    obtain ⟨z3, hz3l⟩ : ∃ z : List Int, z = List.replicate n3 0 := ⟨_, rfl⟩
    rw [← hz3l] at ho3
    have hl3 : z3.length = n3 := by rw [hz3l]; simp
    have HO3 := hid (Go.Joins.ownsRow_le ho3 (show w.heap.size + 1 ≤ w2.heap.size by omega) : w3.ownsRow (w.heap.size + 1) 2 1 _ _ _)
    subst hl3
    clear hz3l
    have hz3 := hb3.size
    clear hb3 ho3 hin
    obtain ⟨Pa, Pb, Pc⟩ := KP3.out.three
    have Pz := KP3.out.lt
    have Pf := KP3.out.free
    obtain ⟨Ra, Rb, Rc⟩ := KR3.out.three
    have Rz := KR3.out.lt
    have Rf := KR3.out.free
    go_wp2_with fail
    have hE := HG3.out
    refine bodyPost_ret (v := .agg #[.int .i64 8, .int .i64 8, .slice A3 z3.length c3]) (by simp [results, Try.results91, go_sem, *]) rfl ⟨⟨8, 8, z3, A3, c3, ⟨by decide, by decide, hn3⟩, by simp, ?_⟩, ?_, ?_⟩
    · refine Go.Joins.ownsRow_le (base := w.heap.size + 1) ?_ (by omega)
      iterate 3 (refine ownsRow_setCell_below ?_ (by simp) _)
      exact own_put39 HO3.out KP3.out (by decide)
    · repeat (refine SrcP.set ?_ (by simp <;> omega) _)
      exact HS3.out.more (by omega)
    · repeat (refine grown_set ?_ (by simp <;> omega) _)
      exact hE
  have n0 : (v0 == 0) = false := by simp [e0]
  have n1 : (v0 == 1) = false := by simp [e1]
  have n2 : (v0 == 2) = false := by simp [e2]
  have n3 : (v0 == 3) = false := by simp [e3]
  obtain ⟨Pa, Pb, Pc⟩ := KP2.out.three
  have Pz := KP2.out.lt
  have Pf := KP2.out.free
  obtain ⟨Ra, Rb, Rc⟩ := KR2.out.three
  have Rz := KR2.out.lt
  have Rf := KR2.out.free
  go_wp2_with fail
  have hE := HG2.out
  refine bodyPost_ret (v := .agg #[.int .i64 W, .int .i64 H, .slice A1 zs.length c1]) (by simp [results, Try.results91, go_sem, *]) rfl ⟨⟨W, H, zs, A1, c1, ⟨HWF.out.1, HWF.out.2, by omega⟩, by first | rfl | simp, ?_⟩, ?_, ?_⟩
  · refine Go.Joins.ownsRow_le (base := w.heap.size + 1) ?_ (by omega)
    iterate 3 (refine ownsRow_setCell_below ?_ (by simp) _)
    exact HO2.out
  · repeat (refine SrcP.set ?_ (by simp <;> omega) _)
    exact HS2.out.more (by omega)
  · repeat (refine grown_set ?_ (by simp <;> omega) _)
    exact hE
end Go.Proofs.Ytgcgaoblbhojnaa

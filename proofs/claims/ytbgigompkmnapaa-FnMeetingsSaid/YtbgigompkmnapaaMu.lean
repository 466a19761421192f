/- CurvesThrough: contracts. -/
import Derived.Test.YtbgigompkmnapaaMt
import Derived.Test.YtbgigompkmnapaaCu
namespace Go.Proofs.Ytbgigompkmnapaa
set_option linter.unusedSimpArgs false
set_option linter.unusedVariables false
open Go.ChangeShapes Go.WideShapes Go.ChangeAt Go.RowKit
theorem quiet_addL {P : Program} {f : FuncId} {args : Array Value} {w : World} {a n : Nat} {v : Value}
    (h : Calls P f args (w.drewN (a + n)) fun e w' => e = .returned v ∧ w.drewN (a + n) = w') :
    Calls P f args (w.drewN (a + n)) fun e w'' => e = .returned v ∧ ∃ m, w'' = w.drewN (a + m) :=
  h.mono fun _ _ ⟨he, hm⟩ => ⟨he, n, hm.symm⟩
theorem quiet_leftM {P : Program} {f : FuncId} {args : Array Value} {w : World} {n : Nat} {v : Value}
    (h : Calls P f args (w.drewN n) fun e w' => e = .returned v ∧ w.drewN n = w') : Calls P f args (w.drewN n) fun e w'' => e = .returned v ∧ ∃ m, w'' = w.drewN m :=
  h.mono fun _ _ ⟨he, hm⟩ => ⟨he, n, hm.symm⟩
theorem code_valid {W H : Int} {zs : List Int} {x y : Int} (h : (codeP W H zs x y == 0) = true) : validB W H zs = true := by
  unfold codeP at h
  cases hv : validB W H zs
  · simp [hv] at h
  · rfl
/-- The owners of the segments. -/
def owL (W H : Int) (zs : List Int) : List Int := (trS W H zs (4 * W * H).toNat).2
theorem owL_len {W H : Int} {zs : List Int} (hv : validB W H zs = true) : (owL W H zs).length = (4 * W * H).toNat := tr_len hv
theorem owL_inv {W H : Int} {zs : List Int} (hv : validB W H zs = true) : ∀ s, okS W H s → (owL W H zs)[segN H s]? = (owL W H zs)[segN H (stepW W H zs s)]? := (trS_inv hv (4 * W * H).toNat (Nat.le_refl _)).inv
/-- What CurvesThrough answers. -/
def thL (W H : Int) (zs : List Int) (x y : Int) : List Int := if codeP W H zs x y == 0 then ctF H (owL W H zs) x y else []
def thN (W H : Int) (zs : List Int) (x y : Int) : Nat := (thL W H zs x y).length
theorem ct_two {W H : Int} {zs : List Int} {x y : Int} (h : (codeP W H zs x y == 0) = true) : ∃ p q : Int, ow H (owL W H zs) x y (-1) (-1) = p ∧ ((brkA W zs x y = 0 ∧ ow H (owL W H zs) x y (-1) 1 = q ∧ ow H (owL W H zs) x y 1 (-1) = q ∧ ow H (owL W H zs) x y 1 1 = p) ∨ (brkA W zs x y = 1 ∧ ow H (owL W H zs) x y (-1) 1 = p ∧ ow H (owL W H zs) x y 1 (-1) = q ∧ ow H (owL W H zs) x y 1 1 = q) ∨ (brkA W zs x y = 2 ∧ ow H (owL W H zs) x y (-1) 1 = q ∧ ow H (owL W H zs) x y 1 (-1) = p ∧ ow H (owL W H zs) x y 1 1 = q)) ∧ ctF H (owL W H zs) x y = ctL p q := by
  have hv := code_valid h
  obtain ⟨p, q, h1, h2⟩ := meet4 hv h (owL_len hv) (owL_inv hv)
  exact ⟨p, q, h1, h2, soc4 (by rw [h1]) h2⟩
theorem ct_lohi {W H : Int} {zs : List Int} {x y m0 m1 m2 m3 : Int} (h : (codeP W H zs x y == 0) = true) (h0 : ow H (owL W H zs) x y (-1) (-1) = m0) (h1 : ow H (owL W H zs) x y 1 (-1) = m1) (h2 : ow H (owL W H zs) x y (-1) 1 = m2) (h3 : ow H (owL W H zs) x y 1 1 = m3) :
    ctF H (owL W H zs) x y = if min (min m0 m3) (min m1 m2) = max (max m0 m3) (max m1 m2) then [min (min m0 m3) (min m1 m2)] else [min (min m0 m3) (min m1 m2), max (max m0 m3) (max m1 m2)] := by
  obtain ⟨p, q, k0, k1, k2⟩ := ct_two h
  rw [k2]
  unfold ctL
  rw [h0] at k0
  rw [h1, h2, h3] at k1
  have e1 : min (min m0 m3) (min m1 m2) = min p q := by omega
  have e2 : max (max m0 m3) (max m1 m2) = max p q := by omega
  rw [e1, e2]
  by_cases e : p = q
  · subst e; simp
  · rw [if_neg e, if_neg (by omega)]
theorem thN_le (W H : Int) (zs : List Int) (x y : Int) : thN W H zs x y ≤ 2 := by
  unfold thN thL
  cases h : codeP W H zs x y == 0
  · simp
  · obtain ⟨p, q, _, _, e⟩ := ct_two h
    simp only [if_true, e]
    unfold ctL
    split <;> simp
theorem l00Min_any (a b : Int) (w : World) : Calls Try.prog 64 #[.int .i64 a, .int .i64 b] w fun e w' => e = .returned (.int .i64 (min a b)) ∧ w = w' := by
  by_cases h : a < b
  · have HV : Hid (min a b = a) := hid (by omega)
    go_enter Try.func64, Try.ntmps64
    go_wp2
    go_ret
    exact ⟨ret_int HV.out.symm, rfl⟩
  · have HV : Hid (min a b = b) := hid (by omega)
    go_enter Try.func64, Try.ntmps64
    go_wp2
    go_ret
    exact ⟨ret_int HV.out.symm, rfl⟩
theorem l00Max_any (a b : Int) (w : World) : Calls Try.prog 65 #[.int .i64 a, .int .i64 b] w fun e w' => e = .returned (.int .i64 (max a b)) ∧ w = w' := by
  by_cases h : b < a
  · have HV : Hid (max a b = a) := hid (by omega)
    go_enter Try.func65, Try.ntmps65
    go_wp2
    go_ret
    exact ⟨ret_int HV.out.symm, rfl⟩
  · have HV : Hid (max a b = b) := hid (by omega)
    go_enter Try.func65, Try.ntmps65
    go_wp2
    go_ret
    exact ⟨ret_int HV.out.symm, rfl⟩
set_option maxRecDepth 100000 in
set_option maxHeartbeats 4000000 in
theorem implCurvesThrough_any (W H : Int) (A : Option Addr) (c : Nat) (zs : List Int) (x y : Int) (w : World) (hz : Ints w w.heap.size A zs) (hl : zs.length ≤ maxLen) (wx : (Lit.int .i64 x).wf = true) (wy : (Lit.int .i64 y).wf = true) :
    Calls Try.prog 15 #[.agg #[.int .i64 W, .int .i64 H, .slice A zs.length c], .agg #[.int .i64 x, .int .i64 y]] w fun e w' => (∃ A' c', e = .returned (.tuple #[.slice A' (thN W H zs x y) c', .int .i64 (codeP W H zs x y)]) ∧ w'.ownsRow w.heap.size 2 1 (.slice A' (thN W H zs x y) c') (thN W H zs x y) (vals (thL W H zs x y))) ∧ Below w.heap.size w w' := by
  clear wx wy
  obtain ⟨cc, hcc⟩ : ∃ cc, codeP W H zs x y = cc := ⟨_, rfl⟩
  have HC := hid hcc
  cases h : cc == 0
  · have HN : Hid (thN W H zs x y = 0 ∧ thL W H zs x y = []) := hid (by unfold thN thL; rw [hcc, h]; exact ⟨rfl, rfl⟩)
    have hne : (cc != 0) = true := by simp at h ⊢; exact h
    rw [hcc]
    clear hcc h
    go_enter Try.func15, Try.ntmps15
    go_wp2_with fail
    refine (calls_int0 (innerCode_any W H A c zs x y _ ((hz.below (bal (bal (Below.refl _ _) _) _)).more (bal (bal (Below.refl _ _) _) _).size) hl) HC.out).mono ?_
    rintro e w1 ⟨rfl, hb1⟩
    have KP1 : Hid (Box w1 w.heap.size 30 #[.int .i64 W, .int .i64 H, .slice A zs.length c]) := hid (Box.keep (Box.alloc (Box.new' _ _ _ _ (by simp)) _) hb1)
    have KQ1 : Hid (Box w1 (w.heap.size + 1) 32 #[.int .i64 x, .int .i64 y]) := hid (Box.keep (Box.new' _ _ _ _ (by simp)) hb1)
    have HB1 : Hid (Below w.heap.size w w1) := hid (bstep (bal (bal (Below.refl _ _) _) _) hb1)
    clear hb1
    obtain ⟨Pa, Pb, Pc⟩ := KP1.out.three
    have Pz := KP1.out.lt
    obtain ⟨Qa, Qb⟩ := KQ1.out.two
    have Qz := KQ1.out.lt
    go_wp2_with fail
    go_ret2
    exact ⟨⟨none, 0, by rw [HN.out.1]; rfl, by rw [HN.out.1, HN.out.2]; exact World.ownsRow_nil _ _ _ _⟩, HB1.out⟩
  · have h' : (codeP W H zs x y == 0) = true := by rw [hcc]; exact h
    have hv := code_valid h'
    obtain ⟨nb, nb2, nb3⟩ := nn_bd hv
    have hfew := tr_few hv
    have HN : Hid (thN W H zs x y = (ctF H (owL W H zs) x y).length ∧ thL W H zs x y = ctF H (owL W H zs) x y) := hid (by unfold thN thL; rw [h']; exact ⟨rfl, rfl⟩)
    have hne : (cc != 0) = false := by simp at h ⊢; exact h
    have hc0 : cc = 0 := by simpa using h
    have HH := hid h'
    have HV := hid hv
    rw [hcc]
    have HC0 := hid hc0
    clear hcc h h' hv hc0 nb3
    go_enter Try.func15, Try.ntmps15
    go_wp2_with fail
    refine (calls_int0 (innerCode_any W H A c zs x y _ ((hz.below (bal (bal (Below.refl _ _) _) _)).more (bal (bal (Below.refl _ _) _) _).size) hl) HC.out).mono ?_
    rintro e w1 ⟨rfl, hb1⟩
    have KP1 : Hid (Box w1 w.heap.size 30 #[.int .i64 W, .int .i64 H, .slice A zs.length c]) := hid (Box.keep (Box.alloc (Box.new' _ _ _ _ (by simp)) _) hb1)
    have KQ1 : Hid (Box w1 (w.heap.size + 1) 32 #[.int .i64 x, .int .i64 y]) := hid (Box.keep (Box.new' _ _ _ _ (by simp)) hb1)
    have HB1 : Hid (Below w.heap.size w w1) := hid (bstep (bal (bal (Below.refl _ _) _) _) hb1)
    clear hb1
    obtain ⟨Pa, Pb, Pc⟩ := KP1.out.three
    have Pz := KP1.out.lt
    obtain ⟨Qa, Qb⟩ := KQ1.out.two
    have Qz := KQ1.out.lt
    go_wp2_with fail
    refine (trace_any W H A c zs _ ((hz.below HB1.out).more HB1.out.size) hl HV.out).mono ?_
    rintro e w2 ⟨⟨E1, d1, E2, d2, rfl, hne2, ho2⟩, hb2⟩
    clear hne2
    clear Pa Pb Pc Pz Qa Qb Qz
    have KP2 := hid (Box.keep KP1.out hb2)
    have KQ2 := hid (Box.keep KQ1.out hb2)
    have HB2 := hid (bbl HB1.out hb2)
    have HO2 := hid ho2
    clear hb2 ho2
    obtain ⟨Pa, Pb, Pc⟩ := KP2.out.three
    have Pz := KP2.out.lt
    obtain ⟨Qa, Qb⟩ := KQ2.out.two
    have Qz := KQ2.out.lt
    rcases Go.Joins.ownsRow_forms HO2.out with ⟨_, hn0⟩ | ⟨go, co, e7⟩
    · exact absurd hn0 (by omega)
    simp only [Value.slice.injEq] at e7
    obtain ⟨rfl, -, rfl⟩ := e7
    go_wp2_with fail
    refine (curvesAt_any W H x y A c zs _ HH.out HV.out _ _ _ (owL W H zs) (owL_len HV.out) HO2.out).mono ?_
    rintro e w3 ⟨⟨A9, c9, rfl, ho3⟩, hb3⟩
    clear Pa Pb Pc Pz Qa Qb Qz
    have KP3 := hid (Box.keep KP2.out hb3)
    have KQ3 := hid (Box.keep KQ2.out hb3)
    have HB3 := hid (bbl HB2.out hb3)
    have HO3 := hid ho3
    clear hb3 ho3
    obtain ⟨Pa, Pb, Pc⟩ := KP3.out.three
    have Pz := KP3.out.lt
    obtain ⟨Qa, Qb⟩ := KQ3.out.two
    have Qz := KQ3.out.lt
    go_wp2_with fail
    go_ret2
    exact ⟨⟨A9, c9, by rw [HN.out.1, HC0.out]; rfl, by rw [HN.out.1, HN.out.2]; exact Go.Joins.ownsRow_le HO3.out HB2.out.size⟩, HB3.out⟩
set_option maxRecDepth 100000 in
set_option maxHeartbeats 4000000 in
theorem specCurvesThrough_any (W H : Int) (A : Option Addr) (c : Nat) (zs : List Int) (x y : Int) (w : World) (hz : Ints w w.heap.size A zs) (hl : zs.length ≤ maxLen) (wx : (Lit.int .i64 x).wf = true) (wy : (Lit.int .i64 y).wf = true) :
    Calls Try.prog 12 #[.agg #[.int .i64 W, .int .i64 H, .slice A zs.length c], .agg #[.int .i64 x, .int .i64 y]] w fun e w' => (∃ A' c', e = .returned (.tuple #[.slice A' (thN W H zs x y) c', .int .i64 (codeP W H zs x y)]) ∧ w'.ownsRow w.heap.size 2 1 (.slice A' (thN W H zs x y) c') (thN W H zs x y) (vals (thL W H zs x y))) ∧ Below w.heap.size w w' := by
  clear wx wy
  obtain ⟨cc, hcc⟩ : ∃ cc, codeP W H zs x y = cc := ⟨_, rfl⟩
  have HC := hid hcc
  cases h : cc == 0
  · have HN : Hid (thN W H zs x y = 0 ∧ thL W H zs x y = []) := hid (by unfold thN thL; rw [hcc, h]; exact ⟨rfl, rfl⟩)
    have hne : (cc != 0) = true := by simp at h ⊢; exact h
    rw [hcc]
    clear hcc h
    go_enter Try.func12, Try.ntmps12
    go_wp2_with fail
    refine (calls_int0 (l02Code_any _ W H A c zs x y _ w.heap.size (bal (bal (Below.refl _ _) _) _).size (Box.alloc (Box.new' _ _ _ _ (by simp)) _) (hz.below (bal (bal (Below.refl _ _) _) _)) hl) HC.out).mono ?_
    rintro e w1 ⟨rfl, hb1⟩
    have KP1 : Hid (Box w1 w.heap.size 30 #[.int .i64 W, .int .i64 H, .slice A zs.length c]) := hid (Box.keep (Box.alloc (Box.new' _ _ _ _ (by simp)) _) hb1)
    have KQ1 : Hid (Box w1 (w.heap.size + 1) 32 #[.int .i64 x, .int .i64 y]) := hid (Box.keep (Box.new' _ _ _ _ (by simp)) hb1)
    have HB1 : Hid (Below w.heap.size w w1) := hid (bstep (bal (bal (Below.refl _ _) _) _) hb1)
    clear hb1
    obtain ⟨Pa, Pb, Pc⟩ := KP1.out.three
    have Pz := KP1.out.lt
    obtain ⟨Qa, Qb⟩ := KQ1.out.two
    have Qz := KQ1.out.lt
    go_wp2_with fail
    go_ret2
    exact ⟨⟨none, 0, by rw [HN.out.1]; rfl, by rw [HN.out.1, HN.out.2]; exact World.ownsRow_nil _ _ _ _⟩, HB1.out⟩
  · have h' : (codeP W H zs x y == 0) = true := by rw [hcc]; exact h
    have hv := code_valid h'
    obtain ⟨nb, nb2, nb3⟩ := nn_bd hv
    have hfew := tr_few hv
    have HN : Hid (thN W H zs x y = (ctF H (owL W H zs) x y).length ∧ thL W H zs x y = ctF H (owL W H zs) x y) := hid (by unfold thN thL; rw [h']; exact ⟨rfl, rfl⟩)
    have hne : (cc != 0) = false := by simp at h ⊢; exact h
    have hc0 : cc = 0 := by simpa using h
    have HH := hid h'
    have HV := hid hv
    rw [hcc]
    have HC0 := hid hc0
    clear hcc h h' hv hc0 nb3
    go_enter Try.func12, Try.ntmps12
    go_wp2_with fail
    refine (calls_int0 (l02Code_any _ W H A c zs x y _ w.heap.size (bal (bal (Below.refl _ _) _) _).size (Box.alloc (Box.new' _ _ _ _ (by simp)) _) (hz.below (bal (bal (Below.refl _ _) _) _)) hl) HC.out).mono ?_
    rintro e w1 ⟨rfl, hb1⟩
    have KP1 : Hid (Box w1 w.heap.size 30 #[.int .i64 W, .int .i64 H, .slice A zs.length c]) := hid (Box.keep (Box.alloc (Box.new' _ _ _ _ (by simp)) _) hb1)
    have KQ1 : Hid (Box w1 (w.heap.size + 1) 32 #[.int .i64 x, .int .i64 y]) := hid (Box.keep (Box.new' _ _ _ _ (by simp)) hb1)
    have HB1 : Hid (Below w.heap.size w w1) := hid (bstep (bal (bal (Below.refl _ _) _) _) hb1)
    clear hb1
    obtain ⟨Pa, Pb, Pc⟩ := KP1.out.three
    have Pz := KP1.out.lt
    obtain ⟨Qa, Qb⟩ := KQ1.out.two
    have Qz := KQ1.out.lt
    go_wp2_with fail
    refine (l04All_any _ W H A c zs _ w.heap.size HB1.out.size KP1.out (hz.below HB1.out) hl HV.out).mono ?_
    rintro e w2 ⟨⟨E1, d1, E2, d2, rfl, hne2, ho2⟩, hb2⟩
    clear hne2
    clear Pa Pb Pc Pz Qa Qb Qz
    have KP2 := hid (Box.keep KP1.out hb2)
    have KQ2 := hid (Box.keep KQ1.out hb2)
    have HB2 := hid (bbl HB1.out hb2)
    have HO2 := hid ho2
    clear hb2 ho2
    obtain ⟨Pa, Pb, Pc⟩ := KP2.out.three
    have Pz := KP2.out.lt
    obtain ⟨Qa, Qb⟩ := KQ2.out.two
    have Qz := KQ2.out.lt
    rcases Go.Joins.ownsRow_forms HO2.out with ⟨_, hn0⟩ | ⟨go, co, e7⟩
    · exact absurd hn0 (by omega)
    simp only [Value.slice.injEq] at e7
    obtain ⟨rfl, -, rfl⟩ := e7
    go_wp2_with fail
    obtain ⟨m0, hm0⟩ : ∃ m, ow H (owL W H zs) x y (-1) (-1) = m := ⟨_, rfl⟩
    obtain ⟨m1, hm1⟩ : ∃ m, ow H (owL W H zs) x y (1) (-1) = m := ⟨_, rfl⟩
    obtain ⟨m2, hm2⟩ : ∃ m, ow H (owL W H zs) x y (-1) (1) = m := ⟨_, rfl⟩
    obtain ⟨m3, hm3⟩ : ∃ m, ow H (owL W H zs) x y (1) (1) = m := ⟨_, rfl⟩
    have HLH := hid (ct_lohi HH.out hm0 hm1 hm2 hm3)
    have HM0 := hid hm0
    have HM1 := hid hm1
    have HM2 := hid hm2
    have HM3 := hid hm3
    clear hm0 hm1 hm2 hm3
    refine (l04Meet_any _ W H x y _ zs _ KP2.out HH.out HV.out _ _ _ (owL W H zs) (owL_len HV.out) HO2.out).mono ?_
    rintro e w3 ⟨⟨g9, c9, rfl, ho3⟩, hb3⟩
    clear Pa Pb Pc Pz Qa Qb Qz
    have KP3 := hid (Box.keep KP2.out hb3)
    have KQ3 := hid (Box.keep KQ2.out hb3)
    have HB3 := hid (bbl HB2.out hb3)
    rw [HM0.out, HM1.out, HM2.out, HM3.out] at ho3
    have HO3 := hid ho3
    clear hb3 ho3
    have hc0 : w3.cell? ⟨g9, 0, none⟩ = some (.int .i64 m0) := (World.ownsRow.cellAt HO3.out 0 (by decide)).trans rfl
    have hc1 : w3.cell? ⟨g9, 1, none⟩ = some (.int .i64 m1) := (World.ownsRow.cellAt HO3.out 1 (by decide)).trans rfl
    have hc2 : w3.cell? ⟨g9, 2, none⟩ = some (.int .i64 m2) := (World.ownsRow.cellAt HO3.out 2 (by decide)).trans rfl
    have hc3 : w3.cell? ⟨g9, 3, none⟩ = some (.int .i64 m3) := (World.ownsRow.cellAt HO3.out 3 (by decide)).trans rfl
    obtain ⟨Pa, Pb, Pc⟩ := KP3.out.three
    have Pz := KP3.out.lt
    obtain ⟨Qa, Qb⟩ := KQ3.out.two
    have Qz := KQ3.out.lt
    go_wp2_with fail
    go_quiet ((first | (go_at_call 64; first | exact quiet_leftM (l00Min_any _ _ _) | exact quiet_addL (l00Min_any _ _ _)) | (go_at_call 65; first | exact quiet_leftM (l00Max_any _ _ _) | exact quiet_addL (l00Max_any _ _ _))))
    go_wp2_with fail
    go_quiet ((first | (go_at_call 64; first | exact quiet_leftM (l00Min_any _ _ _) | exact quiet_addL (l00Min_any _ _ _)) | (go_at_call 65; first | exact quiet_leftM (l00Max_any _ _ _) | exact quiet_addL (l00Max_any _ _ _))))
    go_wp2_with fail
    obtain ⟨u1, hu1⟩ : ∃ u, min m0 m3 = u := ⟨_, rfl⟩
    obtain ⟨u2, hu2⟩ : ∃ u, max m0 m3 = u := ⟨_, rfl⟩
    simp only [hu1, hu2]
    have HU1 := hid hu1
    have HU2 := hid hu2
    rw [hu1, hu2] at HLH
    clear hu1 hu2
    go_quiet ((first | (go_at_call 64; first | exact quiet_leftM (l00Min_any _ _ _) | exact quiet_addL (l00Min_any _ _ _)) | (go_at_call 65; first | exact quiet_leftM (l00Max_any _ _ _) | exact quiet_addL (l00Max_any _ _ _))))
    go_wp2_with fail
    go_quiet ((first | (go_at_call 64; first | exact quiet_leftM (l00Min_any _ _ _) | exact quiet_addL (l00Min_any _ _ _)) | (go_at_call 65; first | exact quiet_leftM (l00Max_any _ _ _) | exact quiet_addL (l00Max_any _ _ _))))
    obtain ⟨lo, hlo⟩ : ∃ u, min u1 (min m1 m2) = u := ⟨_, rfl⟩
    obtain ⟨hi, hhi⟩ : ∃ u, max u2 (max m1 m2) = u := ⟨_, rfl⟩
    simp only [hlo, hhi]
    rw [hlo, hhi] at HLH
    clear hlo hhi
    by_cases he : lo = hi
    · have HE : Hid (ctF H (owL W H zs) x y = [lo]) := hid (by rw [HLH.out, if_pos he])
      have hb : (lo == hi) = true := by simp [he]
      clear he
      go_wp2_with fail
      go_ret2
      refine ⟨⟨_, _, by rw [HN.out.1, HE.out, HC0.out]; rfl, ?_⟩, bal (below_drewN HB3.out _) _⟩
      rw [HN.out.1, HN.out.2, HE.out]
      exact World.ownsRow_lit (e := 2) (size := 1) _ #[.int .i64 lo] 1 HB3.out.size (by decide) rfl
    · have HE : Hid (ctF H (owL W H zs) x y = [lo, hi]) := hid (by rw [HLH.out, if_neg he])
      have hb : (lo == hi) = false := by simp [he]
      clear he
      go_wp2_with fail
      go_ret2
      refine ⟨⟨_, _, by rw [HN.out.1, HE.out, HC0.out]; rfl, ?_⟩, bal (below_drewN HB3.out _) _⟩
      rw [HN.out.1, HN.out.2, HE.out]
      exact World.ownsRow_lit (e := 2) (size := 1) _ #[.int .i64 lo, .int .i64 hi] 2 HB3.out.size (by decide) rfl
end Go.Proofs.Ytbgigompkmnapaa

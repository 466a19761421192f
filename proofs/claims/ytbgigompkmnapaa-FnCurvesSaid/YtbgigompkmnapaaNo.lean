/- NumberOf, BreakAt. -/
import Derived.Test.YtbgigompkmnapaaNu
import Derived.Test.YtbgigompkmnapaaCs
namespace Go.Proofs.Ytbgigompkmnapaa
set_option linter.unusedSimpArgs false
set_option linter.unusedVariables false
open Go.ChangeShapes Go.WideShapes Go.ChangeAt Go.RowKit
/-- What NumberOf and BreakAt answer. -/
def nuR (W H : Int) (zs : List Int) (x y : Int) : Int := if codeP W H zs x y == 0 then numF W x y else 0
def brkA (W : Int) (zs : List Int) (x y : Int) : Int := zs[(numF W x y).toNat]?.getD 0
def brR (W H : Int) (zs : List Int) (x y : Int) : Int := if codeP W H zs x y == 0 then brkA W zs x y else 0
theorem valid_len {W H : Int} {zs : List Int} (h : validB W H zs = true) : (zs.length : Int) = inner W H := by
  simp only [validB, Bool.and_eq_true, decide_eq_true_eq] at h
  exact h.1.2
theorem codeP_parts {W H : Int} {zs : List Int} {x y : Int} (h : (codeP W H zs x y == 0) = true) : side W = true ∧ side H = true ∧ (zs.length : Int) = inner W H ∧ 1 ≤ x ∧ x ≤ 2 * W - 1 ∧ 1 ≤ y ∧ y ≤ 2 * H - 1 ∧ (x + y) % 2 = 1 := by
  unfold codeP at h
  cases hv : validB W H zs
  · simp [hv] at h
  cases hh : hasP W H x y
  · simp [hv, hh] at h
  cases he : edgeP W H x y
  · exact ⟨(valid_sides hv).1, (valid_sides hv).2, valid_len hv, inner_of hh he⟩
  · simp [hv, hh, he] at h
theorem Ints.at {w : World} {B b off : Nat} {zs : List Int} (h : Ints w B (some ⟨b, off, none⟩) zs) {j : Nat} {z : Int} (hj : zs[j]? = some z) : b < B ∧ w.cell? ⟨b, off + j, none⟩ = some (.int .i64 z) := by
  obtain ⟨b', off', e, hb, hc⟩ := h j z hj
  cases e
  exact ⟨hb, hc⟩
theorem Ints.isSome {w : World} {B : Nat} {A : Option Addr} {zs : List Int} (h : Ints w B A zs) {j : Nat} {z : Int} (hj : zs[j]? = some z) : ∃ b off, A = some ⟨b, off, none⟩ := by
  obtain ⟨b', off', e, hb, hc⟩ := h j z hj
  exact ⟨b', off', e⟩
/-- An inner point's number, and what stands there. -/
theorem brk_at {W H : Int} {zs : List Int} {x y : Int} (h : (zs.length : Int) = inner W H) (n1 : 0 ≤ numF W x y) (n2 : numF W x y < inner W H) : ∃ k : Nat, numF W x y = (k : Int) ∧ k < zs.length ∧ zs[k]? = some (brkA W zs x y) := by
  obtain ⟨k, hk⟩ := Int.eq_ofNat_of_zero_le n1
  have hkl : k < zs.length := by omega
  refine ⟨k, hk, hkl, ?_⟩
  simp [brkA, hk, hkl]
theorem ret_two' {a b c d : Int} (h : a = c) (k : b = d) : Ending.returned (.tuple #[.int .i64 a, .int .i64 b]) = .returned (.tuple #[.int .i64 c, .int .i64 d]) := by rw [h, k]

theorem calls_int0 {p : Program} {f : Nat} {args : Array Value} {w : World} {P : World → Prop} {a b : Int} (h : Calls p f args w fun e w' => e = .returned (.int .i64 a) ∧ P w') (k : a = b) : Calls p f args w fun e w' => e = .returned (.int .i64 b) ∧ P w' := k ▸ h
set_option maxHeartbeats 2000000 in
theorem implNumberOf_any (W H : Int) (A : Option Addr) (c : Nat) (zs : List Int) (x y : Int) (w : World) (hz : Ints w w.heap.size A zs) (hl : zs.length ≤ maxLen) (_ : (Lit.int .i64 x).wf = true) (_ : (Lit.int .i64 y).wf = true) :
    Calls Try.prog 42 #[.agg #[.int .i64 W, .int .i64 H, .slice A zs.length c], .agg #[.int .i64 x, .int .i64 y]] w fun e w' => e = .returned (.tuple #[.int .i64 (nuR W H zs x y), .int .i64 (codeP W H zs x y)]) ∧ Below w.heap.size w w' := by
  have hl' := hl
  unfold maxLen at hl'
  cases hv : (codeP W H zs x y == 0)
  · have HV : Hid (nuR W H zs x y = 0) := hid (by simp [nuR, hv])
    go_enter Try.func42, Try.ntmps42
    go_wp2_with fail
    refine (innerCode_any W H A c zs x y _ ((hz.below (bal (bal (Below.refl _ _) _) _)).more (bal (bal (Below.refl _ _) _) _).size) hl).mono ?_
    rintro e w1 ⟨rfl, hb1⟩
    have KP1 : Hid (Box w1 (w.heap.size) 30 #[.int .i64 W, .int .i64 H, .slice A zs.length c]) := hid (Box.keep (Box.alloc (Box.new' _ _ _ _ (by simp)) _) hb1)
    have KQ1 : Hid (Box w1 (w.heap.size + 1) 32 #[.int .i64 x, .int .i64 y]) := hid (Box.keep (Box.new' _ _ _ _ (by simp)) hb1)
    have HB1 : Hid (Below w.heap.size w w1) := hid (bstep (bal (bal (Below.refl _ _) _) _) hb1)
    clear hb1
    obtain ⟨Pa, Pb, Pc⟩ := KP1.out.three
    have Pz := KP1.out.lt
    obtain ⟨Qa, Qb⟩ := KQ1.out.two
    have Qz := KQ1.out.lt
    go_wp2_with fail
    go_ret2
    exact ⟨ret_two' HV.out.symm rfl, (HB1.out)⟩
  · obtain ⟨s1, s2, s3, x1, x2, y1, y2, hp⟩ := codeP_parts hv
    obtain ⟨n1, n2⟩ := numF_bd s1 s2 x1 x2 y1 y2 hp
    have HV : Hid (nuR W H zs x y = numF W x y) := hid (by simp [nuR, hv])
    have Hs := hid (And.intro s1 (And.intro s2 hp))
    clear s1 s2 hp s3
    have HC : Hid (codeP W H zs x y = 0) := hid (by simpa using hv)
    go_enter Try.func42, Try.ntmps42
    go_wp2_with fail
    refine (calls_int0 (innerCode_any W H A c zs x y _ ((hz.below (bal (bal (Below.refl _ _) _) _)).more (bal (bal (Below.refl _ _) _) _).size) hl) HC.out).mono ?_
    rintro e w1 ⟨rfl, hb1⟩
    have KP1 : Hid (Box w1 (w.heap.size) 30 #[.int .i64 W, .int .i64 H, .slice A zs.length c]) := hid (Box.keep (Box.alloc (Box.new' _ _ _ _ (by simp)) _) hb1)
    have KQ1 : Hid (Box w1 (w.heap.size + 1) 32 #[.int .i64 x, .int .i64 y]) := hid (Box.keep (Box.new' _ _ _ _ (by simp)) hb1)
    have HB1 : Hid (Below w.heap.size w w1) := hid (bstep (bal (bal (Below.refl _ _) _) _) hb1)
    clear hb1
    obtain ⟨Pa, Pb, Pc⟩ := KP1.out.three
    have Pz := KP1.out.lt
    obtain ⟨Qa, Qb⟩ := KQ1.out.two
    have Qz := KQ1.out.lt
    go_wp2_with fail
    refine (number_any W H x y _ _ _ _ Hs.out.1 Hs.out.2.1 x1 x2 y1 y2 Hs.out.2.2).mono ?_
    rintro e w2 ⟨rfl, hb2⟩
    clear Pa Pb Pc Pz Qa Qb Qz
    have KP2 : Hid (Box w2 (w.heap.size) 30 #[.int .i64 W, .int .i64 H, .slice A zs.length c]) := hid (Box.keep (KP1.out) hb2)
    have KQ2 : Hid (Box w2 (w.heap.size + 1) 32 #[.int .i64 x, .int .i64 y]) := hid (Box.keep (KQ1.out) hb2)
    have HB2 : Hid (Below w.heap.size w w2) := hid (bstep (HB1.out) hb2)
    clear hb2
    obtain ⟨Pa, Pb, Pc⟩ := KP2.out.three
    have Pz := KP2.out.lt
    obtain ⟨Qa, Qb⟩ := KQ2.out.two
    have Qz := KQ2.out.lt
    go_wp2_with fail
    go_ret2
    exact ⟨ret_two' HV.out.symm HC.out.symm, (HB2.out)⟩
set_option maxHeartbeats 2000000 in
theorem implBreakAt_any (W H : Int) (A : Option Addr) (c : Nat) (zs : List Int) (x y : Int) (w : World) (hz : Ints w w.heap.size A zs) (hl : zs.length ≤ maxLen) (_ : (Lit.int .i64 x).wf = true) (_ : (Lit.int .i64 y).wf = true) :
    Calls Try.prog 43 #[.agg #[.int .i64 W, .int .i64 H, .slice A zs.length c], .agg #[.int .i64 x, .int .i64 y]] w fun e w' => e = .returned (.tuple #[.int .i64 (brR W H zs x y), .int .i64 (codeP W H zs x y)]) ∧ Below w.heap.size w w' := by
  have hl' := hl
  unfold maxLen at hl'
  cases hv : (codeP W H zs x y == 0)
  · have HV : Hid (brR W H zs x y = 0) := hid (by simp [brR, hv])
    go_enter Try.func43, Try.ntmps43
    go_wp2_with fail
    refine (innerCode_any W H A c zs x y _ ((hz.below (bal (bal (Below.refl _ _) _) _)).more (bal (bal (Below.refl _ _) _) _).size) hl).mono ?_
    rintro e w1 ⟨rfl, hb1⟩
    have KP1 : Hid (Box w1 (w.heap.size) 30 #[.int .i64 W, .int .i64 H, .slice A zs.length c]) := hid (Box.keep (Box.alloc (Box.new' _ _ _ _ (by simp)) _) hb1)
    have KQ1 : Hid (Box w1 (w.heap.size + 1) 32 #[.int .i64 x, .int .i64 y]) := hid (Box.keep (Box.new' _ _ _ _ (by simp)) hb1)
    have HB1 : Hid (Below w.heap.size w w1) := hid (bstep (bal (bal (Below.refl _ _) _) _) hb1)
    clear hb1
    obtain ⟨Pa, Pb, Pc⟩ := KP1.out.three
    have Pz := KP1.out.lt
    obtain ⟨Qa, Qb⟩ := KQ1.out.two
    have Qz := KQ1.out.lt
    go_wp2_with fail
    go_ret2
    exact ⟨ret_two' HV.out.symm rfl, (HB1.out)⟩
  · obtain ⟨s1, s2, s3, x1, x2, y1, y2, hp⟩ := codeP_parts hv
    obtain ⟨n1, n2⟩ := numF_bd s1 s2 x1 x2 y1 y2 hp
    obtain ⟨k, hk, hkl, hkz⟩ := brk_at s3 n1 n2
    obtain ⟨bb, off, rfl⟩ := hz.isSome hkz
    have HZ := hid hkz
    have HV : Hid (brR W H zs x y = brkA W zs x y) := hid (by simp [brR, hv])
    clear hkz
    have HN := hid hk
    have e0 : (numF W x y).toNat = k := by omega
    have Hs := hid (And.intro s1 (And.intro s2 hp))
    clear s1 s2 hp s3
    have HC : Hid (codeP W H zs x y = 0) := hid (by simpa using hv)
    go_enter Try.func43, Try.ntmps43
    go_wp2_with fail
    refine (calls_int0 (innerCode_any W H _ c zs x y _ ((hz.below (bal (bal (Below.refl _ _) _) _)).more (bal (bal (Below.refl _ _) _) _).size) hl) HC.out).mono ?_
    rintro e w1 ⟨rfl, hb1⟩
    have KP1 : Hid (Box w1 (w.heap.size) 30 #[.int .i64 W, .int .i64 H, .slice (some ⟨bb, off, none⟩) zs.length c]) := hid (Box.keep (Box.alloc (Box.new' _ _ _ _ (by simp)) _) hb1)
    have KQ1 : Hid (Box w1 (w.heap.size + 1) 32 #[.int .i64 x, .int .i64 y]) := hid (Box.keep (Box.new' _ _ _ _ (by simp)) hb1)
    have HB1 : Hid (Below w.heap.size w w1) := hid (bstep (bal (bal (Below.refl _ _) _) _) hb1)
    clear hb1
    obtain ⟨Pa, Pb, Pc⟩ := KP1.out.three
    have Pz := KP1.out.lt
    obtain ⟨Qa, Qb⟩ := KQ1.out.two
    have Qz := KQ1.out.lt
    go_wp2_with fail
    obtain ⟨hbb, hcc⟩ := (hz.below (HB1.out)).at HZ.out
    have bbz : bb < w1.heap.size := by have := (HB1.out).size; omega
    clear hk e0 hv
    refine wp_region_mix (w1.heap.size) (by kernel_rfl) (by kernel_rfl) ?_
    repeat (any_goals (go_big_quiet_step ((first | (go_at_call 98; exact mix_call (by simp) (calls_int0 (number_any W H x y _ _ _ _ Hs.out.1 Hs.out.2.1 x1 x2 y1 y2 Hs.out.2.2) HN.out))))))
    refine wpQuiet_nil ?_
    intro w2 hx2
    have hb2 : Below _ _ w2 := mix_ex hx2
    clear hx2
    clear Pa Pb Pc Pz Qa Qb Qz
    have KP2 : Hid (Box w2 (w.heap.size) 30 #[.int .i64 W, .int .i64 H, .slice (some ⟨bb, off, none⟩) zs.length c]) := hid (Box.keep (KP1.out) hb2)
    have KQ2 : Hid (Box w2 (w.heap.size + 1) 32 #[.int .i64 x, .int .i64 y]) := hid (Box.keep (KQ1.out) hb2)
    have HB2 : Hid (Below w.heap.size w w2) := hid (bstep (HB1.out) hb2)
    clear hb2
    obtain ⟨Pa, Pb, Pc⟩ := KP2.out.three
    have Pz := KP2.out.lt
    obtain ⟨Qa, Qb⟩ := KQ2.out.two
    have Qz := KQ2.out.lt
    go_wp2_with fail
    go_ret2
    exact ⟨ret_two' HV.out.symm HC.out.symm, (HB2.out)⟩
end Go.Proofs.Ytbgigompkmnapaa

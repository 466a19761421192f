/- SetBreak. -/
import Derived.Test.YtbgigompkmnapaaNo
import Derived.Test.YtbgigompkmnapaaNs
import Derived.Test.YtbgigompkmnapaaPe
import Derived.Test.YtbgigompkmnapaaIb
import Derived.Test.YtbgigompkmnapaaAu
import Derived.OwnWalk
import Derived.Lib.SmallJoins
import Derived.Lib.SliceRun
namespace Go.Proofs.Ytbgigompkmnapaa
set_option linter.unusedSimpArgs false
set_option linter.unusedVariables false
open Go.ChangeShapes Go.WideShapes Go.ChangeAt Go.RowKit
set_option maxRecDepth 100000 in
set_option maxHeartbeats 1000000 in
theorem clone_any (b off c : Nat) (zs : List Int) (w : World) (B : Nat) (hB : B ≤ w.heap.size) (hz : Ints w B (some ⟨b, off, none⟩) zs) (h0 : 0 < zs.length) (hl : zs.length ≤ 1048576) :
    Calls Try.prog 122 #[.slice (some ⟨b, off, none⟩) zs.length c] w fun e w' => (∃ A' c', e = .returned (.slice A' zs.length c') ∧ w'.ownsRow w.heap.size 2 1 (.slice A' zs.length c') zs.length (vals zs)) ∧ Below w.heap.size w w' := by
  obtain ⟨i0, hi, hz0, hz1, hz2⟩ := info_parts infoI
  have ho1 := World.ownsRow_lit (base := w.heap.size) (e := 2) (size := 1) w #[] 0 (Nat.le_refl _) (Nat.zero_le _) rfl
  have HO1 := hid ho1
  have HNW : Hid (∀ j u, (vals zs)[j]? = some u → (w.alloc (.cells #[] 2)).cell? ((⟨b, off, none⟩ : Addr).add j) = some u) := hid (by
    intro j u hu
    have hadd : (⟨b, off, none⟩ : Addr).add j = ⟨b, off + j, none⟩ := by unfold Addr.add; split <;> simp_all
    rw [hadd]
    obtain ⟨z, hzj, rfl⟩ : ∃ z, zs[j]? = some z ∧ Value.int .i64 z = u := by simpa [vals] using hu
    obtain ⟨hb, hc⟩ := (hz.below ((Below.refl B w).alloc hB (.cells #[] 2))).at hzj
    exact hc)
  clear ho1 hz
  have q22 := Go.Lib.run_eql_slice_nil (P := Try.prog) w 22 2 (some ⟨b, off, none⟩) zs.length c 0 0 Try.underlying22
  go_enter Try.func122, Try.ntmps122
  go_wp2_with (at_builtin; (refine wpList_append_own _ rfl _ _ 22 rfl w.heap.size 2 i0 (.int .i64 0) 1 8 Try.underlying22 hi hz0 hz1 hz2 rfl (by decide) _ 0 [] rfl HO1.out ⟨b, off, none⟩ zs.length c (vals zs) rfl (by simp [vals]) HNW.out (by simp [vals, Value.oneCell']) (by unfold maxLen; omega) (by omega) (by simp) ?_; intro v' wz ho2 hgr _))
  rw [Nat.zero_add, List.nil_append] at ho2
  have HH := hid (And.intro ho2 hgr)
  clear hgr
  obtain ⟨g, cap, rfl⟩ := Go.Joins.ownsRow_form ho2 h0
  clear ho2
  go_wp2_with fail
  go_ret
  exact ⟨⟨_, _, rfl, HH.out.1⟩, bgrew (lo := w.heap.size) (bal (Below.refl _ _) _) HH.out.2 (fun q hq => by have := own_blk hq; omega) (Nat.le_refl _)⟩


set_option maxHeartbeats 1000000 in
theorem clonePanel_any (W H : Int) (b off c : Nat) (zs : List Int) (w : World) (B : Nat) (hB : B ≤ w.heap.size) (hz : Ints w B (some ⟨b, off, none⟩) zs) (h0 : 0 < zs.length) (hl : zs.length ≤ 1048576) :
    Calls Try.prog 103 #[.agg #[.int .i64 W, .int .i64 H, .slice (some ⟨b, off, none⟩) zs.length c]] w fun e w' => (∃ A' c', e = .returned (.agg #[.int .i64 W, .int .i64 H, .slice A' zs.length c']) ∧ w'.ownsRow w.heap.size 2 1 (.slice A' zs.length c') zs.length (vals zs)) ∧ Below w.heap.size w w' := by
  go_enter Try.func103, Try.ntmps103
  go_wp2_with fail
  refine (clone_any b off c zs _ B (Nat.le_trans hB (bal (bal (Below.refl _ _) _) _).size) (hz.below (Below.mono (bal (bal (Below.refl _ _) _) _) hB)) h0 hl).mono ?_
  rintro e w1 ⟨⟨A1, c1, rfl, ho1⟩, hb1⟩
  have KP := hid (Box.keep (Box.alloc (Box.new w _ _) _) hb1)
  have KR := hid (Box.keep (Box.new' _ _ _ (w.heap.size + 1) (by simp)) hb1)
  have HB := hid (bstep (bal (bal (Below.refl _ _) _) _) hb1)
  have HO := hid ho1
  clear ho1 hb1
  obtain ⟨Pa, Pb, Pc⟩ := KP.out.three
  have Pz := KP.out.lt
  have Pf := KP.out.free
  obtain ⟨Ra, Rb, Rc⟩ := KR.out.three
  have Rz := KR.out.lt
  have Rf := KR.out.free
  go_wp2_with fail
  have hbE := HB.out
  refine bodyPost_ret (v := .agg #[.int .i64 W, .int .i64 H, .slice A1 zs.length c1]) (by simp [results, Try.results103, go_sem, *]) rfl ⟨⟨A1, c1, rfl, ?_⟩, ?_⟩
  · refine Go.Joins.ownsRow_le (base := w.heap.size + 2) ?_ (by omega)
    repeat (refine ownsRow_setCell_below ?_ (by simp) _)
    simpa using HO.out
  · repeat (refine Below.setCell ?_ (by simp) _)
    exact hbE

/-- What SetBreak answers. -/
def sbC (W H : Int) (zs : List Int) (x y k : Int) : Int := if validB W H zs then (if hasP W H x y then (if kindOk k then (if edgeP W H x y then 6 else 0) else 2) else 2) else 1
def sbO (W H : Int) (zs : List Int) (x y k : Int) : Bool := sbC W H zs x y k == 0
def sbW (W H : Int) (zs : List Int) (x y k : Int) : Int := if sbO W H zs x y k then W else 0
def sbH (W H : Int) (zs : List Int) (x y k : Int) : Int := if sbO W H zs x y k then H else 0
def sbN (W H : Int) (zs : List Int) (x y k : Int) : Nat := if sbO W H zs x y k then zs.length else 0
def sbL (W H : Int) (zs : List Int) (x y k : Int) : List Int := if sbO W H zs x y k then zs.set (numF W x y).toNat k else []
theorem sbN_le (W H : Int) (zs : List Int) (x y k : Int) : sbN W H zs x y k ≤ 112 := by
  unfold sbN
  cases h : sbO W H zs x y k
  · simp
  · simp only [if_true]
    unfold sbO sbC at h
    cases hv : validB W H zs
    · simp [hv] at h
    · have h1 := valid_len hv
      have h2 := inner_bd (valid_sides hv).1 (valid_sides hv).2
      unfold inner at h1
      omega
theorem vals_set (zs : List Int) (j : Nat) (z : Int) : (vals zs).set j (.int .i64 z) = vals (zs.set j z) := by simp [vals]

set_option maxRecDepth 100000 in
set_option maxHeartbeats 4000000 in
theorem implSetBreak_any (W H : Int) (A : Option Addr) (c : Nat) (zs : List Int) (x y k : Int) (w : World) (hz : Ints w w.heap.size A zs) (hl : zs.length ≤ maxLen) (_ : (Lit.int .i64 x).wf = true) (_ : (Lit.int .i64 y).wf = true) (_ : (Lit.int .i64 k).wf = true) :
    Calls Try.prog 47 #[.agg #[.int .i64 W, .int .i64 H, .slice A zs.length c], .agg #[.int .i64 x, .int .i64 y], .int .i64 k] w fun e w' => (∃ A' c', e = .returned (.tuple #[.agg #[.int .i64 (sbW W H zs x y k), .int .i64 (sbH W H zs x y k), .slice A' (sbN W H zs x y k) c'], .int .i64 (sbC W H zs x y k)]) ∧ w'.ownsRow w.heap.size 2 1 (.slice A' (sbN W H zs x y k) c') (sbN W H zs x y k) (vals (sbL W H zs x y k))) ∧ Below w.heap.size w w' := by
  have hl' := hl
  unfold maxLen at hl'
  cases hv : validB W H zs
  · have HV : Hid (sbW W H zs x y k = 0 ∧ sbH W H zs x y k = 0 ∧ sbN W H zs x y k = 0 ∧ sbL W H zs x y k = [] ∧ sbC W H zs x y k = 1) := hid (by simp [sbW, sbH, sbN, sbL, sbO, sbC, hv])
    have HC : Hid (codeP W H zs x y = 1) := hid (by simp [codeP, hv])
    have Hv := hid hv
    clear hv
    go_enter Try.func47, Try.ntmps47
    go_wp2_with fail
    refine (calls_int0 (innerCode_any W H A c zs x y _ ((hz.below (bal (bal (bal (Below.refl _ _) _) _) _)).more (bal (bal (bal (Below.refl _ _) _) _) _).size) hl) HC.out).mono ?_
    rintro e w1 ⟨rfl, hb1⟩
    have KP1 : Hid (Box w1 (w.heap.size) 30 #[.int .i64 W, .int .i64 H, .slice A zs.length c]) := hid (Box.keep (Box.alloc (Box.alloc (Box.new' _ _ _ _ (by simp)) _) _) hb1)
    have KQ1 : Hid (Box w1 (w.heap.size + 1) 32 #[.int .i64 x, .int .i64 y]) := hid (Box.keep (Box.alloc (Box.new' _ _ _ _ (by simp)) _) hb1)
    have KR1 : Hid (Box w1 (w.heap.size + 2) 30 #[.int .i64 0, .int .i64 0, .slice none 0 0]) := hid (Box.keep (Box.new' _ _ _ _ (by simp)) hb1)
    have HB1 : Hid (Below w.heap.size w w1) := hid (bstep (bal (bal (bal (Below.refl _ _) _) _) _) hb1)
    clear hb1
    obtain ⟨Pa, Pb, Pc⟩ := KP1.out.three
    have Pz := KP1.out.lt
    have Pf := KP1.out.free
    obtain ⟨Qa, Qb⟩ := KQ1.out.two
    have Qz := KQ1.out.lt
    have Qf := KQ1.out.free
    obtain ⟨Ra, Rb, Rc⟩ := KR1.out.three
    have Rz := KR1.out.lt
    have Rf := KR1.out.free
    go_wp2_with fail
    have hbE := (HB1.out)
    refine bodyPost_ret (v := .tuple #[.agg #[.int .i64 0, .int .i64 0, .slice none 0 0], .int .i64 1]) (by simp [results, Try.results47, go_sem, *]) rfl ⟨⟨none, 0, by rw [HV.out.1, HV.out.2.1, HV.out.2.2.1, HV.out.2.2.2.2] <;> rfl, by rw [HV.out.2.2.1, HV.out.2.2.2.1]; exact World.ownsRow_nil _ _ _ _⟩, (by (repeat (with_reducible first | exact Below.refl _ _ | assumption | refine below_drewN ?_ _ | refine Below.drew ?_ | refine Below.alloc ?_ ?_ _ | refine Below.setCell ?_ ?_ _)); all_goals (first | omega | (simp only [size_drewN, World.size_alloc, World.size_setCell, World.size_drew] at *; omega) | (simp; done) | (simp; omega)))⟩
  · cases hh : hasP W H x y
    · have HV : Hid (sbW W H zs x y k = 0 ∧ sbH W H zs x y k = 0 ∧ sbN W H zs x y k = 0 ∧ sbL W H zs x y k = [] ∧ sbC W H zs x y k = 2) := hid (by simp [sbW, sbH, sbN, sbL, sbO, sbC, hv, hh])
      have HC : Hid (codeP W H zs x y = 2) := hid (by simp [codeP, hv, hh])
      have Hs := hid (valid_sides hv)
      have Hv := hid hv
      have Hh := hid hh
      clear hv hh
      go_enter Try.func47, Try.ntmps47
      go_wp2_with fail
      refine (calls_int0 (innerCode_any W H A c zs x y _ ((hz.below (bal (bal (bal (Below.refl _ _) _) _) _)).more (bal (bal (bal (Below.refl _ _) _) _) _).size) hl) HC.out).mono ?_
      rintro e w1 ⟨rfl, hb1⟩
      have KP1 : Hid (Box w1 (w.heap.size) 30 #[.int .i64 W, .int .i64 H, .slice A zs.length c]) := hid (Box.keep (Box.alloc (Box.alloc (Box.new' _ _ _ _ (by simp)) _) _) hb1)
      have KQ1 : Hid (Box w1 (w.heap.size + 1) 32 #[.int .i64 x, .int .i64 y]) := hid (Box.keep (Box.alloc (Box.new' _ _ _ _ (by simp)) _) hb1)
      have KR1 : Hid (Box w1 (w.heap.size + 2) 30 #[.int .i64 0, .int .i64 0, .slice none 0 0]) := hid (Box.keep (Box.new' _ _ _ _ (by simp)) hb1)
      have HB1 : Hid (Below w.heap.size w w1) := hid (bstep (bal (bal (bal (Below.refl _ _) _) _) _) hb1)
      clear hb1
      obtain ⟨Pa, Pb, Pc⟩ := KP1.out.three
      have Pz := KP1.out.lt
      have Pf := KP1.out.free
      obtain ⟨Qa, Qb⟩ := KQ1.out.two
      have Qz := KQ1.out.lt
      have Qf := KQ1.out.free
      obtain ⟨Ra, Rb, Rc⟩ := KR1.out.three
      have Rz := KR1.out.lt
      have Rf := KR1.out.free
      go_wp2_with fail
      have hbE := (HB1.out)
      refine bodyPost_ret (v := .tuple #[.agg #[.int .i64 0, .int .i64 0, .slice none 0 0], .int .i64 2]) (by simp [results, Try.results47, go_sem, *]) rfl ⟨⟨none, 0, by rw [HV.out.1, HV.out.2.1, HV.out.2.2.1, HV.out.2.2.2.2] <;> rfl, by rw [HV.out.2.2.1, HV.out.2.2.2.1]; exact World.ownsRow_nil _ _ _ _⟩, (by (repeat (with_reducible first | exact Below.refl _ _ | assumption | refine below_drewN ?_ _ | refine Below.drew ?_ | refine Below.alloc ?_ ?_ _ | refine Below.setCell ?_ ?_ _)); all_goals (first | omega | (simp only [size_drewN, World.size_alloc, World.size_setCell, World.size_drew] at *; omega) | (simp; done) | (simp; omega)))⟩
    · cases hk : kindOk k
      · cases he : edgeP W H x y
        · have HV : Hid (sbW W H zs x y k = 0 ∧ sbH W H zs x y k = 0 ∧ sbN W H zs x y k = 0 ∧ sbL W H zs x y k = [] ∧ sbC W H zs x y k = 2) := hid (by simp [sbW, sbH, sbN, sbL, sbO, sbC, hv, hh, hk])
          have HC : Hid (codeP W H zs x y = 0) := hid (by simp [codeP, hv, hh, he])
          have Hv := hid hv
          have Hh := hid hh
          have HK := hid hk
          clear hv hh hk he
          go_enter Try.func47, Try.ntmps47
          go_wp2_with fail
          refine (calls_int0 (innerCode_any W H A c zs x y _ ((hz.below (bal (bal (bal (Below.refl _ _) _) _) _)).more (bal (bal (bal (Below.refl _ _) _) _) _).size) hl) HC.out).mono ?_
          rintro e w1 ⟨rfl, hb1⟩
          have KP1 : Hid (Box w1 (w.heap.size) 30 #[.int .i64 W, .int .i64 H, .slice A zs.length c]) := hid (Box.keep (Box.alloc (Box.alloc (Box.new' _ _ _ _ (by simp)) _) _) hb1)
          have KQ1 : Hid (Box w1 (w.heap.size + 1) 32 #[.int .i64 x, .int .i64 y]) := hid (Box.keep (Box.alloc (Box.new' _ _ _ _ (by simp)) _) hb1)
          have KR1 : Hid (Box w1 (w.heap.size + 2) 30 #[.int .i64 0, .int .i64 0, .slice none 0 0]) := hid (Box.keep (Box.new' _ _ _ _ (by simp)) hb1)
          have HB1 : Hid (Below w.heap.size w w1) := hid (bstep (bal (bal (bal (Below.refl _ _) _) _) _) hb1)
          clear hb1
          obtain ⟨Pa, Pb, Pc⟩ := KP1.out.three
          have Pz := KP1.out.lt
          have Pf := KP1.out.free
          obtain ⟨Qa, Qb⟩ := KQ1.out.two
          have Qz := KQ1.out.lt
          have Qf := KQ1.out.free
          obtain ⟨Ra, Rb, Rc⟩ := KR1.out.three
          have Rz := KR1.out.lt
          have Rf := KR1.out.free
          go_wp2_with fail
          refine (calls_bool (validBreak_any _ _) HK.out).mono ?_
          rintro e w' ⟨rfl, rfl⟩
          go_wp2_with fail
          have hbE := (HB1.out)
          refine bodyPost_ret (v := .tuple #[.agg #[.int .i64 0, .int .i64 0, .slice none 0 0], .int .i64 2]) (by simp [results, Try.results47, go_sem, *]) rfl ⟨⟨none, 0, by rw [HV.out.1, HV.out.2.1, HV.out.2.2.1, HV.out.2.2.2.2] <;> rfl, by rw [HV.out.2.2.1, HV.out.2.2.2.1]; exact World.ownsRow_nil _ _ _ _⟩, (by (repeat (with_reducible first | exact Below.refl _ _ | assumption | refine below_drewN ?_ _ | refine Below.drew ?_ | refine Below.alloc ?_ ?_ _ | refine Below.setCell ?_ ?_ _)); all_goals (first | omega | (simp only [size_drewN, World.size_alloc, World.size_setCell, World.size_drew] at *; omega) | (simp; done) | (simp; omega)))⟩
        · have HV : Hid (sbW W H zs x y k = 0 ∧ sbH W H zs x y k = 0 ∧ sbN W H zs x y k = 0 ∧ sbL W H zs x y k = [] ∧ sbC W H zs x y k = 2) := hid (by simp [sbW, sbH, sbN, sbL, sbO, sbC, hv, hh, hk])
          have HC : Hid (codeP W H zs x y = 6) := hid (by simp [codeP, hv, hh, he])
          have Hv := hid hv
          have Hh := hid hh
          have HK := hid hk
          clear hv hh hk he
          go_enter Try.func47, Try.ntmps47
          go_wp2_with fail
          refine (calls_int0 (innerCode_any W H A c zs x y _ ((hz.below (bal (bal (bal (Below.refl _ _) _) _) _)).more (bal (bal (bal (Below.refl _ _) _) _) _).size) hl) HC.out).mono ?_
          rintro e w1 ⟨rfl, hb1⟩
          have KP1 : Hid (Box w1 (w.heap.size) 30 #[.int .i64 W, .int .i64 H, .slice A zs.length c]) := hid (Box.keep (Box.alloc (Box.alloc (Box.new' _ _ _ _ (by simp)) _) _) hb1)
          have KQ1 : Hid (Box w1 (w.heap.size + 1) 32 #[.int .i64 x, .int .i64 y]) := hid (Box.keep (Box.alloc (Box.new' _ _ _ _ (by simp)) _) hb1)
          have KR1 : Hid (Box w1 (w.heap.size + 2) 30 #[.int .i64 0, .int .i64 0, .slice none 0 0]) := hid (Box.keep (Box.new' _ _ _ _ (by simp)) hb1)
          have HB1 : Hid (Below w.heap.size w w1) := hid (bstep (bal (bal (bal (Below.refl _ _) _) _) _) hb1)
          clear hb1
          obtain ⟨Pa, Pb, Pc⟩ := KP1.out.three
          have Pz := KP1.out.lt
          have Pf := KP1.out.free
          obtain ⟨Qa, Qb⟩ := KQ1.out.two
          have Qz := KQ1.out.lt
          have Qf := KQ1.out.free
          obtain ⟨Ra, Rb, Rc⟩ := KR1.out.three
          have Rz := KR1.out.lt
          have Rf := KR1.out.free
          go_wp2_with fail
          refine (calls_bool (validBreak_any _ _) HK.out).mono ?_
          rintro e w' ⟨rfl, rfl⟩
          go_wp2_with fail
          have hbE := (HB1.out)
          refine bodyPost_ret (v := .tuple #[.agg #[.int .i64 0, .int .i64 0, .slice none 0 0], .int .i64 2]) (by simp [results, Try.results47, go_sem, *]) rfl ⟨⟨none, 0, by rw [HV.out.1, HV.out.2.1, HV.out.2.2.1, HV.out.2.2.2.2] <;> rfl, by rw [HV.out.2.2.1, HV.out.2.2.2.1]; exact World.ownsRow_nil _ _ _ _⟩, (by (repeat (with_reducible first | exact Below.refl _ _ | assumption | refine below_drewN ?_ _ | refine Below.drew ?_ | refine Below.alloc ?_ ?_ _ | refine Below.setCell ?_ ?_ _)); all_goals (first | omega | (simp only [size_drewN, World.size_alloc, World.size_setCell, World.size_drew] at *; omega) | (simp; done) | (simp; omega)))⟩
      · cases he : edgeP W H x y
        · have hc0 : (codeP W H zs x y == 0) = true := by simp [codeP, hv, hh, he]
          obtain ⟨s1, s2, s3, x1, x2, y1, y2, hp⟩ := codeP_parts hc0
          obtain ⟨n1, n2⟩ := numF_bd s1 s2 x1 x2 y1 y2 hp
          obtain ⟨j, hj, hjl, hjz⟩ := brk_at s3 n1 n2
          obtain ⟨bb, off, rfl⟩ := hz.isSome hjz
          have hib := inner_bd s1 s2
          have hl112 : zs.length ≤ 112 := by unfold inner at s3; omega
          have HN := hid hj
          have HJ : Hid ((numF W x y).toNat = j) := hid (by omega)
          have HV : Hid (sbW W H zs x y k = W ∧ sbH W H zs x y k = H ∧ sbN W H zs x y k = zs.length ∧ sbL W H zs x y k = zs.set j k ∧ sbC W H zs x y k = 0) := hid (by simp [sbW, sbH, sbN, sbL, sbO, sbC, hv, hh, hk, he, HJ.out])
          have HC : Hid (codeP W H zs x y = 0) := hid (by simpa using hc0)
          have Hs := hid (And.intro s1 s2)
          have HPp := hid hp
          have Hv := hid hv
          have Hh := hid hh
          have HK := hid hk
          clear hv hh hk he hc0 s1 s2 s3 hp hj hjz n1 n2 hib
          go_enter Try.func47, Try.ntmps47
          go_wp2_with fail
          refine (calls_int0 (innerCode_any W H _ c zs x y _ ((hz.below (bal (bal (bal (Below.refl _ _) _) _) _)).more (bal (bal (bal (Below.refl _ _) _) _) _).size) hl) HC.out).mono ?_
          rintro e w1 ⟨rfl, hb1⟩
          have KP1 : Hid (Box w1 (w.heap.size) 30 #[.int .i64 W, .int .i64 H, .slice (some ⟨bb, off, none⟩) zs.length c]) := hid (Box.keep (Box.alloc (Box.alloc (Box.new' _ _ _ _ (by simp)) _) _) hb1)
          have KQ1 : Hid (Box w1 (w.heap.size + 1) 32 #[.int .i64 x, .int .i64 y]) := hid (Box.keep (Box.alloc (Box.new' _ _ _ _ (by simp)) _) hb1)
          have KR1 : Hid (Box w1 (w.heap.size + 2) 30 #[.int .i64 0, .int .i64 0, .slice none 0 0]) := hid (Box.keep (Box.new' _ _ _ _ (by simp)) hb1)
          have HB1 : Hid (Below w.heap.size w w1) := hid (bstep (bal (bal (bal (Below.refl _ _) _) _) _) hb1)
          clear hb1
          obtain ⟨Pa, Pb, Pc⟩ := KP1.out.three
          have Pz := KP1.out.lt
          have Pf := KP1.out.free
          obtain ⟨Qa, Qb⟩ := KQ1.out.two
          have Qz := KQ1.out.lt
          have Qf := KQ1.out.free
          obtain ⟨Ra, Rb, Rc⟩ := KR1.out.three
          have Rz := KR1.out.lt
          have Rf := KR1.out.free
          go_wp2_with fail
          refine (calls_bool (validBreak_any _ _) HK.out).mono ?_
          rintro e w' ⟨rfl, rfl⟩
          go_wp2_with fail
          have bs0 := ((HB1.out)).size
          have hR0 := KR1.out.lt
          refine (clonePanel_any W H bb off c zs _ w.heap.size (HB1.out).size (hz.below (HB1.out)) (by omega) (by omega)).mono ?_
          rintro e w2 ⟨⟨A5, c5, rfl, ho5⟩, hb2⟩
          have HO5 := hid (Go.Joins.ownsRow_le (base' := w.heap.size + 3) ho5 (by omega))
          clear ho5
          clear Pa Pb Pc Pz Pf Qa Qb Qz Qf Ra Rb Rc Rz Rf
          have KP2 : Hid (Box w2 (w.heap.size) 30 #[.int .i64 W, .int .i64 H, .slice (some ⟨bb, off, none⟩) zs.length c]) := hid (Box.keep (KP1.out) hb2)
          have KQ2 : Hid (Box w2 (w.heap.size + 1) 32 #[.int .i64 x, .int .i64 y]) := hid (Box.keep (KQ1.out) hb2)
          have KR2 : Hid (Box w2 (w.heap.size + 2) 30 #[.int .i64 0, .int .i64 0, .slice none 0 0]) := hid (Box.keep (KR1.out) hb2)
          have HB2 : Hid (Below w.heap.size w w2) := hid (bstep (HB1.out) hb2)
          clear hb2
          obtain ⟨Pa, Pb, Pc⟩ := KP2.out.three
          have Pz := KP2.out.lt
          have Pf := KP2.out.free
          obtain ⟨Qa, Qb⟩ := KQ2.out.two
          have Qz := KQ2.out.lt
          have Qf := KQ2.out.free
          obtain ⟨Ra, Rb, Rc⟩ := KR2.out.three
          have Rz := KR2.out.lt
          have Rf := KR2.out.free
          obtain ⟨gq, cap, he⟩ := Go.Joins.ownsRow_form HO5.out (by omega)
          simp only [Value.slice.injEq] at he
          obtain ⟨rfl, -, rfl⟩ := he
          have hgq := HO5.out.lt gq rfl
          go_wp2_with fail
          have POy3 : ¬ ((w2.heap.size : Nat) = w.heap.size) := by have h := KP2.out.lt; omega
          have POx3 : ¬ ((w.heap.size : Nat) = w2.heap.size) := by have h := KP2.out.lt; omega
          have QOy3 : ¬ ((w2.heap.size : Nat) = w.heap.size + 1) := by have h := KQ2.out.lt; omega
          have QOx3 : ¬ ((w.heap.size + 1 : Nat) = w2.heap.size) := by have h := KQ2.out.lt; omega
          have ROy3 : ¬ ((w2.heap.size : Nat) = w.heap.size + 2) := by have h := KR2.out.lt; omega
          have ROx3 : ¬ ((w.heap.size + 2 : Nat) = w2.heap.size) := by have h := KR2.out.lt; omega
          clear Pa Pb Pc Pz Pf Qa Qb Qz Qf Ra Rb Rc Rz Rf
          obtain ⟨w3, hw3⟩ : ∃ zz : World, zz = (w2.alloc (.cells #[.int .i64 W, .int .i64 H, .slice (some ⟨gq, 0, none⟩) zs.length c5] 30)) := ⟨_, rfl⟩
          have hb3 : Below ((w2.alloc (.cells #[.int .i64 W, .int .i64 H, .slice (some ⟨gq, 0, none⟩) zs.length c5] 30))).heap.size ((w2.alloc (.cells #[.int .i64 W, .int .i64 H, .slice (some ⟨gq, 0, none⟩) zs.length c5] 30))) w3 := hw3 ▸ Below.refl _ _
          rw [← hw3]
          have KP3 : Hid (Box w3 (w.heap.size) 30 #[.int .i64 W, .int .i64 H, .slice (some ⟨bb, off, none⟩) zs.length c]) := hid (Box.keep (Box.alloc (KP2.out) _) hb3)
          have KQ3 : Hid (Box w3 (w.heap.size + 1) 32 #[.int .i64 x, .int .i64 y]) := hid (Box.keep (Box.alloc (KQ2.out) _) hb3)
          have KR3 : Hid (Box w3 (w.heap.size + 2) 30 #[.int .i64 0, .int .i64 0, .slice none 0 0]) := hid (Box.keep (Box.alloc (KR2.out) _) hb3)
          have KO3 : Hid (Box w3 (w2.heap.size) 30 #[.int .i64 W, .int .i64 H, .slice (some ⟨gq, 0, none⟩) zs.length c5]) := hid (Box.keep (Box.new' _ _ _ _ (by simp)) hb3)
          have HB3 : Hid (Below w.heap.size w w3) := hid (bstep (bal (HB2.out) _) hb3)
          have hwz6 : w2.heap.size < w3.heap.size := by have h := hb3.size; simp only [World.size_alloc] at h; omega
          have HO6 := hid (own_keep (HO5.out.alloc _) hb3)
          clear hb3 hw3
          obtain ⟨Pa, Pb, Pc⟩ := KP3.out.three
          have Pz := KP3.out.lt
          have Pf := KP3.out.free
          obtain ⟨Qa, Qb⟩ := KQ3.out.two
          have Qz := KQ3.out.lt
          have Qf := KQ3.out.free
          obtain ⟨Ra, Rb, Rc⟩ := KR3.out.three
          have Rz := KR3.out.lt
          have Rf := KR3.out.free
          obtain ⟨Oa, Ob, Oc⟩ := KO3.out.three
          have Oz := KO3.out.lt
          have nP : ¬ (w.heap.size = gq) := by omega
          have mP : ¬ (gq = w.heap.size) := by omega
          have nQ : ¬ (w.heap.size + 1 = gq) := by omega
          have mQ : ¬ (gq = w.heap.size + 1) := by omega
          have nR : ¬ (w.heap.size + 2 = gq) := by omega
          have mR : ¬ (gq = w.heap.size + 2) := by omega
          have nO : ¬ (w2.heap.size = gq) := by omega
          have mO : ¬ (gq = w2.heap.size) := by omega
          go_region_held3 (fun zz => zz.cell? ⟨w2.heap.size, 0, none⟩ = some (.int .i64 W) ∧ zz.cell? ⟨w2.heap.size, 1, none⟩ = some (.int .i64 H) ∧ zz.cell? ⟨w2.heap.size, 2, none⟩ = some (.slice (some ⟨gq, 0, none⟩) zs.length c5) ∧ zz.cell? ⟨w.heap.size, 0, none⟩ = some (.int .i64 W) ∧ zz.cell? ⟨w.heap.size, 1, none⟩ = some (.int .i64 H) ∧ zz.cell? ⟨w.heap.size, 2, none⟩ = some (.slice (some ⟨bb, off, none⟩) zs.length c) ∧ zz.cell? ⟨w.heap.size + 1, 0, none⟩ = some (.int .i64 x) ∧ zz.cell? ⟨w.heap.size + 1, 1, none⟩ = some (.int .i64 y))
            (first | (with_reducible exact ⟨(Box.three KO4.out).1, (Box.three KO4.out).2.1, (Box.three KO4.out).2.2, (Box.three KP4.out).1, (Box.three KP4.out).2.1, (Box.three KP4.out).2.2, (Box.two KQ4.out).1, (Box.two KQ4.out).2⟩) | (with_reducible exact ⟨(Box.three (Box.set KO4.out nO _)).1, (Box.three (Box.set KO4.out nO _)).2.1, (Box.three (Box.set KO4.out nO _)).2.2, (Box.three (Box.set KP4.out nP _)).1, (Box.three (Box.set KP4.out nP _)).2.1, (Box.three (Box.set KP4.out nP _)).2.2, (Box.two (Box.set KQ4.out nQ _)).1, (Box.two (Box.set KQ4.out nQ _)).2⟩) | exact ⟨(Box.three KO3.out).1, (Box.three KO3.out).2.1, (Box.three KO3.out).2.2, (Box.three KP3.out).1, (Box.three KP3.out).2.1, (Box.three KP3.out).2.2, (Box.two KQ3.out).1, (Box.two KQ3.out).2⟩)
            (first | (go_at_call 98; refine (calls_int0 (number_any W H x y _ _ _ _ Hs.out.1 Hs.out.2 x1 x2 y1 y2 HPp.out) HN.out).mono ?_; rintro e w4 ⟨rfl, hb4⟩; have hc4 := Below.trans (below_refl_drew _ _) hb4; have KP4 := hid (Box.keep KP3.out hc4); have KQ4 := hid (Box.keep KQ3.out hc4); have KR4 := hid (Box.keep KR3.out hc4); have KO4 := hid (Box.keep KO3.out hc4); have HO4x := hid (own_keep HO6.out hc4); have HB4x := hid (bstep HB3.out hc4); obtain ⟨uq, huq⟩ : ∃ u, (vals zs)[j]? = some u := ⟨_, List.getElem?_eq_getElem (by simp [vals]; omega)⟩; have cq := (World.ownsRow.cellAt HO4x.out j (by omega)).trans huq; have fq := World.ownsRow.frozenAt HO4x.out j; clear huq hb4 hc4))
          clear Pa Pb Pc Pz Pf Qa Qb Qz Qf Ra Rb Rc Rz Rf Oa Ob Oc Oz
          have st := World.ownsRow.stored HO4x.out j (.int .i64 k)
          rw [vals_set] at st
          obtain ⟨w9, hw9⟩ : ∃ zz : World, zz = w4.setCell ⟨gq, j, none⟩ (.int .i64 k) := ⟨_, rfl⟩
          rw [← hw9] at st ⊢
          have KR9 := hid (Box.grew KR4.out st.2 (fun q hq => by injection hq with hq; omega))
          have KO9 := hid (Box.grew KO4.out st.2 (fun q hq => by injection hq with hq; omega))
          have HO9 := hid st.1
          have HB9 := hid (bgrew (lo := w.heap.size + 3) HB4x.out st.2 (fun q hq => by injection hq with hq; omega) (by omega))
          clear st hw9 cq fq
          obtain ⟨Oa, Ob, Oc⟩ := KO9.out.three
          have Oz := KO9.out.lt
          obtain ⟨Ra, Rb, Rc⟩ := KR9.out.three
          have Rz := KR9.out.lt
          have Rf := KR9.out.free
          go_wp2_with fail
          have hbE := HB9.out
          refine bodyPost_ret (v := .tuple #[.agg #[.int .i64 W, .int .i64 H, .slice (some ⟨gq, 0, none⟩) zs.length c5], .int .i64 0]) (by simp [results, Try.results47, go_sem, *]) rfl ⟨⟨_, c5, by rw [HV.out.1, HV.out.2.1, HV.out.2.2.1, HV.out.2.2.2.2] <;> rfl, ?_⟩, ?_⟩
          · rw [HV.out.2.2.1, HV.out.2.2.2.1]
            refine Go.Joins.ownsRow_le (base := w.heap.size + 3) ?_ (by omega)
            repeat (refine ownsRow_setCell_below ?_ (by simp) _)
            exact HO9.out
          · repeat (refine Below.setCell ?_ (by simp <;> omega) _)
            exact hbE
        · have HV : Hid (sbW W H zs x y k = 0 ∧ sbH W H zs x y k = 0 ∧ sbN W H zs x y k = 0 ∧ sbL W H zs x y k = [] ∧ sbC W H zs x y k = 6) := hid (by simp [sbW, sbH, sbN, sbL, sbO, sbC, hv, hh, hk, he])
          have HC : Hid (codeP W H zs x y = 6) := hid (by simp [codeP, hv, hh, he])
          have Hs := hid (valid_sides hv)
          have Hv := hid hv
          have Hh := hid hh
          have HK := hid hk
          clear hv hh hk he
          go_enter Try.func47, Try.ntmps47
          go_wp2_with fail
          refine (calls_int0 (innerCode_any W H A c zs x y _ ((hz.below (bal (bal (bal (Below.refl _ _) _) _) _)).more (bal (bal (bal (Below.refl _ _) _) _) _).size) hl) HC.out).mono ?_
          rintro e w1 ⟨rfl, hb1⟩
          have KP1 : Hid (Box w1 (w.heap.size) 30 #[.int .i64 W, .int .i64 H, .slice A zs.length c]) := hid (Box.keep (Box.alloc (Box.alloc (Box.new' _ _ _ _ (by simp)) _) _) hb1)
          have KQ1 : Hid (Box w1 (w.heap.size + 1) 32 #[.int .i64 x, .int .i64 y]) := hid (Box.keep (Box.alloc (Box.new' _ _ _ _ (by simp)) _) hb1)
          have KR1 : Hid (Box w1 (w.heap.size + 2) 30 #[.int .i64 0, .int .i64 0, .slice none 0 0]) := hid (Box.keep (Box.new' _ _ _ _ (by simp)) hb1)
          have HB1 : Hid (Below w.heap.size w w1) := hid (bstep (bal (bal (bal (Below.refl _ _) _) _) _) hb1)
          clear hb1
          obtain ⟨Pa, Pb, Pc⟩ := KP1.out.three
          have Pz := KP1.out.lt
          have Pf := KP1.out.free
          obtain ⟨Qa, Qb⟩ := KQ1.out.two
          have Qz := KQ1.out.lt
          have Qf := KQ1.out.free
          obtain ⟨Ra, Rb, Rc⟩ := KR1.out.three
          have Rz := KR1.out.lt
          have Rf := KR1.out.free
          go_wp2_with fail
          refine (calls_bool (validBreak_any _ _) HK.out).mono ?_
          rintro e w' ⟨rfl, rfl⟩
          go_wp2_with fail
          have hbE := (HB1.out)
          refine bodyPost_ret (v := .tuple #[.agg #[.int .i64 0, .int .i64 0, .slice none 0 0], .int .i64 6]) (by simp [results, Try.results47, go_sem, *]) rfl ⟨⟨none, 0, by rw [HV.out.1, HV.out.2.1, HV.out.2.2.1, HV.out.2.2.2.2] <;> rfl, by rw [HV.out.2.2.1, HV.out.2.2.2.1]; exact World.ownsRow_nil _ _ _ _⟩, (by (repeat (with_reducible first | exact Below.refl _ _ | assumption | refine below_drewN ?_ _ | refine Below.drew ?_ | refine Below.alloc ?_ ?_ _ | refine Below.setCell ?_ ?_ _)); all_goals (first | omega | (simp only [size_drewN, World.size_alloc, World.size_setCell, World.size_drew] at *; omega) | (simp; done) | (simp; omega)))⟩
end Go.Proofs.Ytbgigompkmnapaa

/- Plain: what FnCurves meets. -/
import Derived.Test.YtbgigompkmnapaaTq
import Derived.Test.YtbgigompkmnapaaFt
import Derived.Test.YtbgigompkmnapaaSf
import Derived.Test.YtbgigompkmnapaaTo
import Derived.Lib.OwnKind
namespace Go.Proofs.Ytbgigompkmnapaa
set_option linter.unusedSimpArgs false
set_option linter.unusedVariables false
open Go.ChangeShapes Go.WideShapes Go.ChangeAt Go.RowKit
def cntO (o : List Int) : Nat := o.countP fun y => decide (0 ≤ y)
theorem cntO_put {W H : Int} {zs : List Int} (hv : validB W H zs = true) {o : List Int} {s : Wkr} (h : okS W H s) (hl : o.length = (4 * W * H).toNat) (hi : ∀ s, okS W H s → o[segN H s]? = o[segN H (stepW W H zs s)]?) (h0 : o[segN H s]? = some (-1)) {c : Int} (hc : 0 ≤ c) :
    ∀ i, i ≤ per W H zs s → cntO (putAll o (segsI W H zs s i) c) = cntO o + i := by
  intro i
  induction i with
  | zero => intro _; rfl
  | succ i ih =>
    intro hp
    have h1 := ih (by omega)
    have ho := owner_at hv h hi h0 (i := i) (by omega) c
    obtain ⟨hlt, hat⟩ := List.getElem?_eq_some_iff.1 ho
    rw [segsI_succ, putAll_snoc]
    unfold cntO at h1 ⊢
    rw [List.countP_set hlt, hat, h1]
    simp [hc]
    omega
theorem sum_snoc (l : List Nat) (a : Nat) : (l ++ [a]).sum = l.sum + a := by simp
theorem trS_sum {W H : Int} {zs : List Int} (hv : validB W H zs = true) : ∀ k, k ≤ (4 * W * H).toNat → ((trS W H zs k).1.map List.length).sum = cntO (trS W H zs k).2 := by
  intro k
  induction k with
  | zero => intro _; simp [trS, cntO, List.countP_replicate]
  | succ k ih =>
    intro hk
    have I := trS_inv hv k (by omega)
    have h1 := ih (by omega)
    rw [trS]
    have hkl : k < (trS W H zs k).2.length := by rw [I.len]; omega
    obtain ⟨y, hy⟩ : ∃ y, (trS W H zs k).2[k]? = some y := ⟨_, List.getElem?_eq_getElem hkl⟩
    have hyd : (trS W H zs k).2.getD k 0 = y := by rw [List.getD_eq_getElem?_getD, hy]; rfl
    rw [hyd]
    split
    · exact h1
    · rename_i h0
      have ym : y = -1 := by rcases I.val k 0 y hy with h | h <;> omega
      subst ym
      have hW := (valid_sides hv).1
      have hH := (valid_sides hv).2
      have hkN : (k : Int) < 4 * W * H := by have := segs_bd hW hH; omega
      have hs := wkS_ok hW hH hkN
      have hsg : segN H (wkS H k) = k := by unfold segN; rw [wkS_seg hW hH hkN]; exact Int.toNat_natCast k
      rw [List.map_append, List.map_cons, List.map_nil, sum_snoc, h1, cntO_put hv hs I.len I.inv (by rw [hsg]; exact hy) (Int.natCast_nonneg _) _ (Nat.le_refl _)]
      simp [curS]
/-- The lengths of all curves make the number of segments. -/
theorem lens_sum {W H : Int} {zs : List Int} (hv : validB W H zs = true) : ((trS W H zs (4 * W * H).toNat).1.map List.length).sum = (4 * W * H).toNat := by
  have I := trS_inv hv _ (Nat.le_refl (4 * W * H).toNat)
  rw [trS_sum hv _ (Nat.le_refl _)]
  refine Eq.trans ?_ I.len
  unfold cntO
  rw [List.countP_eq_length]
  intro y hy
  obtain ⟨g, hg⟩ := List.mem_iff_getElem?.1 hy
  have hgl := (List.getElem?_eq_some_iff.1 hg).1
  obtain ⟨z, hz, h0⟩ := I.done g (by rw [← I.len]; exact hgl)
  rw [hg] at hz
  injection hz with hz
  subst hz
  simpa using h0
/-- A curve has four points at least. -/
theorem per_four {W H : Int} {zs : List Int} (hv : validB W H zs = true) {s : Wkr} (h : okS W H s) : 4 ≤ per W H zs s := by
  obtain ⟨p1, _, p3, _⟩ := per_spec hv h
  have key : ∀ n s, okS W H s → ((itW W H zs n s).1 - s.1 - n) % 2 = 0 := by
    intro n
    induction n with
    | zero => intro s _; simp [itW]
    | succ n ih =>
      intro s hs
      have h1 := ih s hs
      obtain ⟨d, _⟩ := walk_parts (okS_it hv hs n)
      have e : (itW W H zs (n + 1) s).1 = (itW W H zs n s).1 + (itW W H zs n s).2.2.1 := rfl
      rw [e]
      push_cast
      omega
  have h2 := key (per W H zs s) s h
  rw [p3] at h2
  have hne : per W H zs s ≠ 2 := by
    intro e2
    rw [e2] at p3
    obtain ⟨x, y, u, v⟩ := s
    have hn := not_round hv h
    apply hn
    have a1 := congrArg (fun z => z.1) p3
    have a2 := congrArg (fun z => z.2.1) p3
    obtain ⟨x1, y1, u1, v1, hst⟩ : ∃ a b c d, stepW W H zs (x, y, u, v) = (a, b, c, d) := ⟨_, _, _, _, rfl⟩
    have hst' := hst
    simp only [stepW, Prod.mk.injEq] at hst'
    have a3 : (itW W H zs 2 (x, y, u, v)) = stepW W H zs (stepW W H zs (x, y, u, v)) := rfl
    rw [a3, hst] at a1 a2
    simp only [stepW] at a1 a2
    rw [hst]
    simp only [backS, Prod.mk.injEq]
    omega
  omega
/-- What is met at point k of curve j. -/
def CrvP (W H : Int) (zs : List Int) (N : Nat) (o : List Int) (j : Nat) (cj : List Wkr) : Prop :=
    (4 ≤ cj.length ∧ cj.length ≤ 256) ∧ (∀ (k q : Nat) (s t : Wkr), q < k → cj[q]? = some s → cj[k]? = some t → segN H s ≠ segN H t) ∧
    ∀ k, k < cj.length → ∃ x y u v x1 y1 u1 v1 : Int, cj[k]? = some (x, y, u, v) ∧ cj[(k + 1) % cj.length]? = some (x1, y1, u1, v1) ∧ x1 - x = u ∧ y1 - y = v ∧
      (0 ≤ x ∧ x ≤ 16 ∧ 0 ≤ y ∧ y ≤ 16 ∧ -1 ≤ u ∧ u ≤ 1 ∧ -1 ≤ v ∧ v ≤ 1) ∧ (0 ≤ x1 ∧ x1 ≤ 16 ∧ 0 ≤ y1 ∧ y1 ≤ 16) ∧
      (sgR W H zs x y u v = (segN H (x, y, u, v) : Nat) ∧ codeW W H zs x y u v = 0) ∧ segN H (x, y, u, v) < N ∧ o[segN H (x, y, u, v)]? = some (j : Int) ∧ isBorderB W H zs x y = edgeP W H x y
theorem crv_facts {W H : Int} {zs : List Int} (hv : validB W H zs = true) {j : Nat} {cj : List Wkr} (hc : (trS W H zs (4 * W * H).toNat).1[j]? = some cj) : CrvP W H zs (4 * W * H).toNat (trS W H zs (4 * W * H).toNat).2 j cj := by
  obtain ⟨s, hs, rfl, ho⟩ := (trS_inv hv _ (Nat.le_refl _)).cur j cj hc
  obtain ⟨p1, p2, p3, _⟩ := per_spec hv hs
  have hlen : (curS W H zs s).length = per W H zs s := by simp [curS]
  have hat : ∀ i, i < per W H zs s → (curS W H zs s)[i]? = some (itW W H zs i s) := by intro i hi; simp [curS, hi]
  refine ⟨by rw [hlen]; exact ⟨per_four hv hs, p2⟩, ?_, ?_⟩
  · intro k q a b hqk ha hb
    have hk : k < per W H zs s := by rw [← hlen]; exact (List.getElem?_eq_some_iff.1 hb).1
    rw [hat q (by omega)] at ha
    rw [hat k hk] at hb
    injection ha with ha
    injection hb with hb
    subst ha hb
    intro e
    have b1 := segS_bd hv (okS_it hv hs q)
    have b2 := segS_bd hv (okS_it hv hs k)
    unfold segN at e
    exact per_seg hv hs hqk hk (by omega)
  · intro k hk
    rw [hlen] at hk ⊢
    have hnx : (curS W H zs s)[(k + 1) % per W H zs s]? = some (stepW W H zs (itW W H zs k s)) := by
      by_cases e : k + 1 < per W H zs s
      · rw [Nat.mod_eq_of_lt e, hat _ e]; rfl
      · have e2 : k + 1 = per W H zs s := by omega
        rw [e2, Nat.mod_self, hat 0 (by omega)]
        have e3 : itW W H zs (k + 1) s = s := by rw [e2]; exact p3
        exact congrArg some e3.symm
    have hok := okS_it hv hs k
    have hok2 := okS_step hv hok
    have hseg := ho k
    have hsl := segN_lt hv hok
    have hsb := segS_bd hv hok
    obtain ⟨x, y, u, v, hst⟩ : ∃ a b c d, itW W H zs k s = (a, b, c, d) := ⟨_, _, _, _, rfl⟩
    rw [hst] at hnx hok hok2 hseg hsl hsb
    obtain ⟨x1, y1, u1, v1, hst1⟩ : ∃ a b c d, stepW W H zs (x, y, u, v) = (a, b, c, d) := ⟨_, _, _, _, rfl⟩
    rw [hst1] at hnx hok2
    have hst1' := hst1
    simp only [stepW, Prod.mk.injEq] at hst1'
    have vw := ok_wb hv hok
    have hb := ok_bd hv hok
    have hb1 := ok_bd hv hok2
    obtain ⟨_, _, hp3, _⟩ := walk_parts hok
    refine ⟨x, y, u, v, x1, y1, u1, v1, by rw [hat k hk, hst], hnx, by omega, by omega, hb, ⟨hb1.1, hb1.2.1, hb1.2.2.1, hb1.2.2.2.1⟩, ⟨?_, by simp [codeW, vw]⟩, hsl, hseg, by simp only [isBorderB, isPointB, hv, Bool.true_and]; rw [show hasP W H x y = true from hp3]; rfl⟩
    have e : sgR W H zs x y u v = segS H (x, y, u, v) := by simp [sgR, vw, segS]
    rw [e]
    unfold segN
    omega
/-- What the walk of FnCurves needs to know of a drawn panel. -/
def CurvesP (W H : Int) (zs : List Int) (N : Nat) (cs : List (List Wkr)) (o : List Int) : Prop :=
  (clN W H zs = cs.length ∧ ccC W H zs = 0 ∧ (coL W H zs).map vals = curP cs ∧ clL W H zs = lensL cs ∧ scN W H zs = N ∧ scL W H zs = o ∧ ccR W H zs = cs.length ∧ siB W H zs = ((cs.length : Int) == 1)) ∧
  ((cs.map List.length).sum = N ∧ o.length = N ∧ cs.length ≤ 256) ∧ (∀ j cj, cs[j]? = some cj → CrvP W H zs N o j cj ∧ tcR W H zs j = (tcn W H cj : Nat) ∧ tcC W H zs j = 0)
theorem curves_facts {W H : Int} {zs : List Int} (hv : validB W H zs = true) : CurvesP W H zs (4 * W * H).toNat (trS W H zs (4 * W * H).toNat).1 (trS W H zs (4 * W * H).toNat).2 := by
  refine ⟨⟨by simp [clN, hv], by simp [ccC, hv], by rw [curP_map]; simp [coL, hv], by simp [clL, hv], by simp [scN, hv], by simp [scL, hv], by simp [ccR, hv], by simp [siB, hv]⟩, ⟨lens_sum hv, (trS_inv hv _ (Nat.le_refl _)).len, tr_few hv⟩, fun j cj hc => ⟨crv_facts hv hc, ?_⟩⟩
  have hl : j < (trS W H zs (4 * W * H).toNat).1.length := (List.getElem?_eq_some_iff.1 hc).1
  have hr : inR j 0 (((trS W H zs (4 * W * H).toNat).1.length : Int) - 1) = true := by simp [inR]; omega
  exact ⟨by simp [tcR, hv, hr, List.getD_eq_getElem?_getD, hc], by simp [tcC, hv, hr]⟩
/-- The segments seen before point k of curve j. -/
def SeenP (H : Int) (o : List Int) (cj : List Wkr) (j k : Nat) (bl : List Bool) : Prop := ∀ g : Nat, bl[g]? = some true → (∃ z : Nat, o[g]? = some (z : Int) ∧ z < j) ∨ ∃ q s, q < k ∧ cj[q]? = some s ∧ segN H s = g
theorem seen_not {W H : Int} {zs : List Int} {N j k : Nat} {o : List Int} {cj : List Wkr} {bl : List Bool} (hs : SeenP H o cj j k bl) (hc : CrvP W H zs N o j cj) {s : Wkr} (hk : cj[k]? = some s) (ho : o[segN H s]? = some (j : Int)) {b : Bool} (hb : bl[segN H s]? = some b) : b = false := by
  cases b
  · rfl
  · rcases hs _ hb with ⟨z, h1, h2⟩ | ⟨q, t, h1, h2, h3⟩
    · rw [ho] at h1; injection h1 with h1; omega
    · exact absurd h3 (hc.2.1 k q t s h1 h2 hk)
theorem seen_put {H : Int} {o : List Int} {cj : List Wkr} {j k : Nat} {bl : List Bool} (hs : SeenP H o cj j k bl) {s : Wkr} (hk : cj[k]? = some s) : SeenP H o cj j (k + 1) (bl.set (segN H s) true) := by
  intro g hg
  by_cases e : segN H s = g
  · exact .inr ⟨k, s, by omega, hk, e⟩
  · rw [List.getElem?_set_ne e] at hg
    rcases hs g hg with h | ⟨q, t, h1, h2, h3⟩
    · exact .inl h
    · exact .inr ⟨q, t, by omega, h2, h3⟩
theorem seen_next {W H : Int} {zs : List Int} {N j : Nat} {o : List Int} {cj cj' : List Wkr} {bl : List Bool} (hs : SeenP H o cj j cj.length bl) (hc : CrvP W H zs N o j cj) : SeenP H o cj' (j + 1) 0 bl := by
  intro g hg
  rcases hs g hg with ⟨z, h1, h2⟩ | ⟨q, t, h1, h2, h3⟩
  · exact .inl ⟨z, h1, by omega⟩
  · obtain ⟨x, y, u, v, _, _, _, _, e1, _, _, _, _, _, _, _, e2, _⟩ := hc.2.2 q h1
    rw [h2] at e1
    injection e1 with e1
    subst e1
    rw [h3] at e2
    exact .inl ⟨j, e2, by omega⟩
theorem own_setbox' {w : World} {lo n g cap p : Nat} {T T' : TypeId} {cs : List Value} {ds : Array Value} (hb : Box w p T' ds) (h : w.ownsRow lo T 1 (.slice (some ⟨g, 0, none⟩) n cap) n cs) (hT : T ≠ T') (i : Nat) (v : Value) : Box (w.setCell ⟨g, i, none⟩ v) p T' ds := by
  refine Box.set hb (fun e => ?_) v
  have e' : p = g := e
  subst e'
  obtain ⟨c, f, h1⟩ := Go.Lib.ownsRow_kind h p rfl
  have h2 : w.heap[p]? = _ := hb
  rw [h1] at h2
  injection h2 with h2
  injection h2 with _ h2 _
  exact hT h2
theorem own_aside {w w' : World} {lo lo' s s' n n' : Nat} {T T' : TypeId} {v v' : Value} {cs cs' : List Value} (h : w.ownsRow lo T s v n cs) (h' : w.ownsRow lo' T' s' v' n' cs') (hg : w.grownBy w' v'.ownBlock) (hT : T ≠ T') : w'.ownsRow lo T s v n cs := World.ownsRow.kept h hg (own_ne h h' hT)
theorem own_drewF {w : World} {lo s n : Nat} {T : TypeId} {v : Value} {cs : List Value} (h : w.ownsRow lo T s v n cs) : w.drew.ownsRow lo T s v n cs := h
theorem nest_drewF {w : World} {lo hi s : Nat} {TO TI : TypeId} {v : Value} {css : List (List Value)} (h : Nest w lo hi TO TI s v css) : Nest w.drew lo hi TO TI s v css := h
set_option maxHeartbeats 1000000 in
theorem a2Sum_any (A : Option Addr) (c : Nat) (ns : List Nat) (w : World) (hz : Ints w w.heap.size A (ns.map fun (n : Nat) => (n : Int))) (hb : ns.sum ≤ 100000) (hl : ns.length ≤ 1000) :
    Calls Try.prog 52 #[.slice A ns.length c] w fun e w' => e = .returned (.int .i64 (ns.sum : Nat)) ∧ w = w' := by
  go_enter Try.func52, Try.ntmps52
  go_wp2_with fail
  go_loopg [3, 4] ns.length (fun g m i wr => ∃ k : Nat, k ≤ ns.length ∧ m = .int .i64 ((ns.take k).sum : Nat) ∧ i = .int .i64 k ∧ g = ns.length - k ∧ w = wr)
  case atStart => exact ⟨0, Nat.zero_le _, rfl, rfl, rfl, rfl⟩
  case round =>
    obtain ⟨k, hk, rfl, rfl, hg, rfl⟩ := hrel
    have hs := sum_take_le ns k
    by_cases hlt : k < ns.length
    · obtain ⟨z, hzk⟩ : ∃ z, ns[k]? = some z := ⟨_, List.getElem?_eq_getElem hlt⟩
      obtain ⟨b, off, rfl, hbb, hc⟩ := hz k (z : Int) (by simp [hzk])
      have hs1 := sum_take_le ns (k + 1)
      have e : (ns.take (k + 1)).sum = (ns.take k).sum + z := by rw [List.take_add_one, hzk, List.sum_append]; simp
      have HE := hid e
      have hz1 : z ≤ 100000 := by omega
      clear hzk e hs1
      go_wp2_with fail
      go_roundg (ns.length - (k + 1))
      case measure => omega
      case rel => exact ⟨k + 1, by omega, by rw [HE.out]; go_num, by go_num, rfl, rfl⟩
    · obtain rfl : k = ns.length := by omega
      have HE : Hid ((ns.take ns.length).sum = ns.sum) := hid (by rw [List.take_length])
      go_wp2_with fail
      go_ret
      exact ⟨ret_int (by rw [HE.out]), rfl⟩
theorem sum_cs {w : World} {lo cL N : Nat} {AL : Option Addr} {cs : List (List Wkr)} (h : w.ownsRow lo 2 1 (.slice AL cs.length cL) cs.length (vals (lensL cs))) (hs : (cs.map List.length).sum = N) (hN : N ≤ 256) (hl : cs.length ≤ 256) :
    Calls Try.prog 52 #[.slice AL cs.length cL] w fun e w' => e = .returned (.int .i64 (N : Nat)) ∧ w = w' := by
  have e : (cs.map List.length).map (fun (n : Nat) => (n : Int)) = lensL cs := by simp [lensL]
  have hh : (lensL cs).length = cs.length := by simp [lensL]
  have hi : Ints w w.heap.size AL ((cs.map List.length).map fun (n : Nat) => (n : Int)) := by
    rw [e]
    exact OwnI.ints (B := lo) (n := cs.length) (c := cL) (by unfold OwnI; rw [hh]; exact h)
  have k := a2Sum_any AL cL (cs.map List.length) w hi (by omega) (by simp; omega)
  rw [hs, List.length_map] at k
  exact k
end Go.Proofs.Ytbgigompkmnapaa

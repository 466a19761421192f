/- Rows of rows of points: compared, marked, held. -/
import Derived.Test.YtmhilafcgjgcoaaNs
import Derived.Test.YtmhilafcgjgcoaaEp
namespace Go.Proofs.Ytmhilafcgjgcoaa
set_option linter.unusedSimpArgs false
set_option linter.unusedVariables false
open Go.ChangeShapes Go.WideShapes Go.ChangeAt Go.RowKit
/-- A nest whose outer row, too, lies before block hi. -/
def NestR (w : World) (lo hi : Nat) (TO TI : TypeId) (s : Nat) (v : Value) (css : List (List Value)) : Prop := Nest w lo hi TO TI s v css ∧ ∀ k, v.ownBlock = some k → k < hi
section
variable {w w' : World} {lo hi : Nat} {TO TI T : TypeId} {s : Nat} {v : Value} {css : List (List Value)}
theorem NestR.of {B hi' : Nat} (h : Nest w B hi' TO TI s v css) (e : lo = B) (e1 : hi' = w.heap.size) (e2 : hi = w.heap.size) : NestR w lo hi TO TI s v css := by
  subst e e1 e2; exact ⟨h, fun k hk => (h.lt k hk).2⟩
theorem NestR.chg {l2 h2 : Nat} (h : NestR w lo hi TO TI s v css) (k : Chg w w' l2 h2) (hd : hi ≤ l2 ∨ h2 ≤ lo) : NestR w' lo hi TO TI s v css := by
  obtain ⟨⟨vs, h1, h3, h4⟩, hu⟩ := h
  refine ⟨⟨vs, (Rgn.chg (⟨h1, hu⟩ : Rgn w lo hi TO 1 v css.length vs) k hd).1, fun i cs hc => ?_, h4⟩, hu⟩
  obtain ⟨vi, n, e, hr⟩ := h3 i cs hc
  exact ⟨vi, n, e, hr.chg k hd⟩
theorem NestR.keep (h : NestR w lo hi TO TI s v css) (k : Below w.heap.size w w') : NestR w' lo hi TO TI s v css := h.chg (l2 := hi) (h2 := hi) (Chg.of_below k _ _) (.inl (Nat.le_refl _))
theorem NestR.alloc (h : NestR w lo hi TO TI s v css) (o : Obj) : NestR (w.alloc o) lo hi TO TI s v css := h.keep ((Below.refl _ _).alloc (Nat.le_refl _) o)
/-- A row told by its own block alone. -/
theorem tight {n : Nat} {cs : List Value} (h : w.ownsRow lo T s v n cs) : ∃ a b, Rgn w a b T s v n cs ∧ (∀ k, a ≤ k → k < b → v.ownBlock = some k) ∧ (v.ownBlock = none ∨ lo ≤ a) := by
  rcases h.2 with ⟨rfl, h0⟩ | ⟨g, cap, cur, rfl, hb, rest⟩
  · exact ⟨0, 0, ⟨⟨h.1, .inl ⟨rfl, h0⟩⟩, fun k hk => by simp [Value.ownBlock] at hk⟩, fun k _ hk => by omega, .inl rfl⟩
  · refine ⟨g, g + 1, ⟨⟨h.1, .inr ⟨g, cap, cur, rfl, Nat.le_refl _, rest⟩⟩, fun k hk => by have := own_blk hk; omega⟩, fun k h1 h2 => ?_, .inr hb⟩
    have : k = g := by omega
    subst this
    rfl
/-- One inner row is written. -/
theorem Nest.upd {j a b n : Nat} {vs : List Value} {vi : Value} {cs' : List Value} (hT : TI ≠ TO) (hO : w.ownsRow lo TO 1 v css.length vs) (hI : ∀ (i : Nat) cs, css[i]? = some cs → ∃ vi n, vs[i]? = some vi ∧ Rgn w lo hi TI s vi n cs)
    (hD : ∀ (i j : Nat) vi vj, i < j → vs[i]? = some vi → vs[j]? = some vj → vi.ownBlock = none ∨ vi.ownBlock ≠ vj.ownBlock)
    (hj : vs[j]? = some vi) {T' : Nat} {cs : List Value} (hr : Rgn w lo hi TI s vi n cs) (ht : ∀ k, a ≤ k → k < b → vi.ownBlock = some k) (hc : Chg w w' a b) (hr' : Rgn w' a b TI s vi n cs') (hla : vi.ownBlock = none ∨ lo ≤ a) :
    Nest w' lo hi TO TI s v (css.set j cs') := by
  have keepo : ∀ {T2 : TypeId} {s2 n2 : Nat} {u : Value} {ds : List Value}, w.ownsRow lo T2 s2 u n2 ds → (u.ownBlock = none ∨ u.ownBlock ≠ vi.ownBlock) → w'.ownsRow lo T2 s2 u n2 ds := by
    intro T2 s2 n2 u ds h hne
    refine ⟨h.1, ?_⟩
    rcases h.2 with hn | ⟨g, cap, cur, rfl, hb, hg, rest⟩
    · exact .inl hn
    · refine .inr ⟨g, cap, cur, rfl, hb, ?_, rest⟩
      rw [hc.block g (Array.getElem?_eq_some_iff.1 hg).1 ?_]
      · exact hg
      · rcases Nat.lt_or_ge g a with h1 | h1
        · exact .inl h1
        · rcases Nat.lt_or_ge g b with h2 | h2
          · have e := ht g h1 h2
            rcases hne with h3 | h3
            · simp [Value.ownBlock] at h3
            · exact absurd e.symm h3
          · exact .inr h2
  refine ⟨vs, by rw [List.length_set]; exact keepo hO (own_ne hO hr.1 (fun e => hT e.symm)), fun i c hi' => ?_, hD⟩
  by_cases hij : j = i
  · subst hij
    have hjl : j < css.length := by have := (List.getElem?_eq_some_iff.1 hi').1; rwa [List.length_set] at this
    rw [List.getElem?_set_self hjl] at hi'
    injection hi' with hi'
    subst hi'
    refine ⟨vi, n, hj, ?_, hr.2⟩
    rcases hr'.1.2 with hn | ⟨g, cap, cur, rfl, hb, rest⟩
    · exact ⟨hr'.1.1, .inl hn⟩
    · exact ⟨hr'.1.1, .inr ⟨g, cap, cur, rfl, (hr.1.lt g rfl).1, rest⟩⟩
  · rw [List.getElem?_set_ne hij] at hi'
    obtain ⟨vk, m, e, hk⟩ := hI i c hi'
    refine ⟨vk, m, e, keepo hk.1 ?_, hk.2⟩
    rcases Nat.lt_or_ge i j with h1 | h1
    · exact hD i j vk vi h1 e hj
    · have h2 := hD j i vi vk (by omega) hj e
      rcases h2 with h2 | h2
      · rw [h2]
        cases vk.ownBlock <;> simp
      · exact .inr (fun e => h2 e.symm)
end
theorem ret_int' {a b : Int} (h : a = b) : Value.int .i64 a = .int .i64 b := by rw [h]
/-- Rows of marks, of ns points each. -/
def mss : Nat → List Nat → List (List Value)
  | _, [] => []
  | k, n :: ns => vals (marks k (2 * n)) :: mss (k + 2 * n) ns
theorem mss_length (ns : List Nat) : ∀ k, (mss k ns).length = ns.length := by
  induction ns with
  | nil => intro k; rfl
  | cons n ns ih => intro k; simp [mss, ih]
def sumN (ns : List Nat) (j : Nat) : Nat := 2 * (ns.take j).sum
theorem sumN_succ (ns : List Nat) (j n : Nat) (h : ns[j]? = some n) : sumN ns (j + 1) = sumN ns j + 2 * n := by
  unfold sumN
  rw [List.take_add_one, h]
  simp [List.sum_append]
  omega
theorem mss_at (ns : List Nat) : ∀ (k j n : Nat), ns[j]? = some n → (mss k ns)[j]? = some (vals (marks (k + sumN ns j) (2 * n))) := by
  induction ns with
  | nil => intro k j n h; simp at h
  | cons m ns ih =>
    intro k j n h
    cases j with
    | zero => simp at h; subst h; simp [mss, sumN]
    | succ j =>
      simp only [List.getElem?_cons_succ] at h
      simp only [mss, List.getElem?_cons_succ]
      rw [ih (k + 2 * m) j n h]
      have : k + 2 * m + sumN ns j = k + sumN (m :: ns) (j + 1) := by simp [sumN]; omega
      rw [this]
/-- The first j rows are marked. -/
def mixS (css : List (List Value)) (k : Nat) (ns : List Nat) (j : Nat) : List (List Value) := (mss k ns).take j ++ css.drop j
theorem mixS_zero (css : List (List Value)) (k : Nat) (ns : List Nat) : mixS css k ns 0 = css := by simp [mixS]
theorem mixS_length (css : List (List Value)) (k : Nat) (ns : List Nat) (j : Nat) (h : css.length = ns.length) : (mixS css k ns j).length = css.length := by
  simp [mixS, mss_length]
  omega
theorem mixS_full (css : List (List Value)) (k : Nat) (ns : List Nat) (h : css.length = ns.length) : mixS css k ns ns.length = mss k ns := by
  unfold mixS
  rw [List.take_of_length_le (by rw [mss_length]; exact Nat.le_refl _), List.drop_of_length_le (by omega)]
  simp
theorem mixS_at (css : List (List Value)) (k : Nat) (ns : List Nat) (j : Nat) (h : css.length = ns.length) (hj : j ≤ ns.length) : (mixS css k ns j)[j]? = css[j]? := by
  unfold mixS
  have hl : ((mss k ns).take j).length = j := by rw [List.length_take, mss_length]; omega
  rw [List.getElem?_append_right (by omega), hl, Nat.sub_self, List.getElem?_drop, Nat.add_zero]
theorem mixS_set (css : List (List Value)) (k : Nat) (ns : List Nat) (j n : Nat) (h : css.length = ns.length) (hn : ns[j]? = some n) : (mixS css k ns j).set j (vals (marks (k + sumN ns j) (2 * n))) = mixS css k ns (j + 1) := by
  have hj : j < ns.length := (List.getElem?_eq_some_iff.1 hn).1
  have hl : ((mss k ns).take j).length = j := by rw [List.length_take, mss_length]; omega
  unfold mixS
  rw [List.set_append_right _ _ (by omega), hl, Nat.sub_self, List.drop_eq_getElem_cons (show j < css.length by omega), List.set_cons_zero, List.take_add_one, mss_at ns k j n hn]
  simp
set_option maxRecDepth 100000 in
set_option maxHeartbeats 2000000 in
theorem eqPointSS_any (v1 v2 : Value) (css : List (List Int)) (n lo1 hi1 lo2 hi2 : Nat) (w : World) (h1 : Nest w lo1 hi1 49 51 2 v1 (css.map vals)) (h2 : Nest w lo2 hi2 49 51 2 v2 (css.map vals)) (hl : css.length = n) (hn : n ≤ maxLen) :
    Calls Try.prog 53 #[v1, v2] w fun e w' => e = .returned (.bool true) ∧ Below w.heap.size w w' := by
  unfold maxLen at hn
  obtain ⟨vs1, hO1⟩ := h1.outer
  obtain ⟨vs2, hO2⟩ := h2.outer
  rw [List.length_map, hl] at hO1 hO2
  have HL := hid hl
  clear hl
  rcases Nat.eq_zero_or_pos n with h0 | hp
  · subst h0
    obtain ⟨A1, c1, rfl⟩ := own_form hO1
    obtain ⟨A2, c2, rfl⟩ := own_form hO2
    clear h1 h2 hO1 hO2
    go_enter Try.func53, Try.ntmps53
    go_wp2_with fail
    refine wp_loop_rounds 1 ?_
    rw [rounds_succ]
    go_wp2_with fail
    go_ret
    exact ⟨rfl, Below.refl _ _⟩
  · obtain ⟨g1, p1, rfl⟩ := Go.Joins.ownsRow_form hO1 hp
    obtain ⟨g2, p2, rfl⟩ := Go.Joins.ownsRow_form hO2 hp
    clear hO1 hO2
    have H1 := hid h1
    have H2 := hid h2
    clear h1 h2
    go_enter Try.func53, Try.ntmps53
    go_wp2_with fail
    go_loopg [5] n (fun g i wr => ∃ j : Nat, j ≤ n ∧ i = .int .i64 j ∧ g = n - j ∧ Hid (Below w.heap.size w wr))
    case atStart => exact ⟨0, Nat.zero_le _, rfl, rfl, hid (Below.refl _ _)⟩
    case round =>
      obtain ⟨j, hj, rfl, hg, HB⟩ := hrel
      by_cases hlt : j < n
      · obtain ⟨zs, hzs⟩ : ∃ zs, css[j]? = some zs := ⟨_, List.getElem?_eq_getElem (by have := HL.out; omega)⟩
        obtain ⟨us1, q1, i1, -⟩ := H1.out.keep HB.out
        obtain ⟨us2, q2, i2, -⟩ := H2.out.keep HB.out
        rw [List.length_map, HL.out] at q1 q2
        obtain ⟨x1, n1, e1, r1⟩ := i1 j (vals zs) (by simp [hzs])
        obtain ⟨x2, n2, e2, r2⟩ := i2 j (vals zs) (by simp [hzs])
        have en : n1 = n2 := by have a := r1.1.1; have b := r2.1.1; omega
        subst en
        have c1 : wr.cell? ⟨g1, j, none⟩ = some x1 := (World.ownsRow.cellAt q1 j (by omega)).trans e1
        have c2 : wr.cell? ⟨g2, j, none⟩ = some x2 := (World.ownsRow.cellAt q2 j (by omega)).trans e2
        have b1 : g1 < wr.heap.size := (q1.lt g1 rfl).2
        have b2 : g2 < wr.heap.size := (q2.lt g2 rfl).2
        have HR := hid (And.intro r1.1 r2.1)
        have HM := hid (own_max r1.1)
        obtain ⟨Y1, d1, rfl⟩ := own_form r1.1
        obtain ⟨Y2, d2, rfl⟩ := own_form r2.1
        clear q1 q2 i1 i2 e1 e2 r1 r2 hzs
        go_wp2_with fail
        refine wp_region_mix wr.heap.size (by kernel_rfl) (by kernel_rfl) ?_
        repeat (any_goals (go_big_quiet_step ((go_at_call 94; exact mix_call (Nat.le_refl _) (eqPointS_any _ _ zs n1 lo1 lo2 _ (own_keep HR.out.1 (mix_below _ _ _)) (own_keep HR.out.2 (mix_below _ _ _)) HM.out)))))
        refine wpQuiet_nil ?_
        intro w5 hx5
        have hb5 : Below _ _ w5 := mix_ex hx5
        clear hx5
        have HB5 := hid (bstep HB.out hb5)
        clear hb5 c1 c2 b1 b2
        go_wp2_with fail
        go_roundg (n - (j + 1))
        case measure => omega
        case rel => exact ⟨j + 1, by omega, by go_num, rfl, HB5⟩
      · have hkl : j = n := by omega
        subst hkl
        go_wp2_with fail
        go_ret
        exact ⟨rfl, HB.out⟩
set_option maxRecDepth 100000 in
set_option maxHeartbeats 2000000 in
theorem markPointSS_any (v : Value) (css : List (List Int)) (ns : List Nat) (n k lo hi : Nat) (w : World) (h : NestR w lo hi 49 51 2 v (css.map vals)) (hl : css.length = n) (hns : ns.length = n) (hnn : ∀ (i : Nat) cs m, css[i]? = some cs → ns[i]? = some m → cs.length = 2 * m) (hk : k + sumN ns n ≤ 4611686018427387904) (hmn : ∀ j, sumN ns j ≤ sumN ns n) :
    Calls Try.prog 54 #[v, .int .i64 k] w fun e w' => e = .returned (.int .i64 ((k + sumN ns n : Nat) : Int)) ∧ NestR w' lo hi 49 51 2 v (mss k ns) ∧ Chg w w' lo hi := by
  obtain ⟨vs1, hO1⟩ := h.1.outer
  rw [List.length_map, hl] at hO1
  have HL := hid hl
  have HLS := hid hns
  have HU := hid h.2
  have HNN := hid hnn
  have HMN := hid hmn
  clear hl hns hnn hmn
  rcases Nat.eq_zero_or_pos n with h0 | hp
  · subst h0
    obtain ⟨A1, c1, rfl⟩ := own_form hO1
    have hcs : css = [] := List.eq_nil_of_length_eq_zero HL.out
    have hnss : ns = [] := List.eq_nil_of_length_eq_zero HLS.out
    subst hcs hnss
    have HO := hid h
    clear h hO1
    go_enter Try.func54, Try.ntmps54
    go_wp2_with fail
    refine wp_loop_rounds 1 ?_
    rw [rounds_succ]
    go_wp2_with fail
    go_ret
    exact ⟨by simp [sumN], by simpa [mss] using HO.out, Chg.refl _ _ _⟩
  · obtain ⟨g1, p1, rfl⟩ := Go.Joins.ownsRow_form hO1 hp
    have hnm := own_max hO1
    unfold maxLen at hnm
    clear hO1
    have H1 := hid h.1
    clear h
    go_enter Try.func54, Try.ntmps54
    go_wp2_with fail
    go_loopg [1, 5] n (fun g q i wr => ∃ j : Nat, j ≤ n ∧ q = .int .i64 ((k + sumN ns j : Nat) : Int) ∧ i = .int .i64 j ∧ g = n - j ∧ Hid (Nest wr lo hi 49 51 2 (.slice (some ⟨g1, 0, none⟩) n p1) (mixS (css.map vals) k ns j)) ∧ Hid (Chg w wr lo hi))
    case atStart => exact ⟨0, Nat.zero_le _, by simp [sumN], rfl, rfl, by rw [mixS_zero]; exact H1, hid (Chg.refl _ _ _)⟩
    case round =>
      obtain ⟨j, hj, rfl, rfl, hg, HN, HC⟩ := hrel
      have HCL : Hid ((css.map vals).length = ns.length) := hid (by rw [List.length_map, HL.out, HLS.out])
      by_cases hlt : j < n
      · obtain ⟨zs, hzs⟩ : ∃ zs, css[j]? = some zs := ⟨_, List.getElem?_eq_getElem (by have := HL.out; omega)⟩
        obtain ⟨m, hm⟩ : ∃ m, ns[j]? = some m := ⟨_, List.getElem?_eq_getElem (by have := HLS.out; omega)⟩
        have hzl := HNN.out j zs m hzs hm
        obtain ⟨vs, hO, hI, hD⟩ := HN.out
        obtain ⟨vi, ni, e1, r1⟩ := hI j (vals zs) (by rw [mixS_at _ _ _ _ HCL.out (by have := HLS.out; omega)]; simp [hzs])
        have hni : ni = m := by have a := r1.1.1; simp [vals] at a; omega
        subst hni
        obtain ⟨a, b, ra, ta, la⟩ := tight r1.1
        have hO' := hO
        rw [mixS_length _ _ _ _ HCL.out, List.length_map, HL.out] at hO'
        have ca : wr.cell? ⟨g1, j, none⟩ = some vi := (World.ownsRow.cellAt hO' j (by omega)).trans e1
        have HS := hid (sumN_succ ns j ni hm)
        have HMJ := HMN.out (j + 1)
        have HP := hid (And.intro hO (And.intro hI (And.intro hD (And.intro e1 (And.intro r1 (And.intro ta la))))))
        have HA := hid ra
        have HSET := hid (mixS_set (css.map vals) k ns j ni HCL.out hm)
        have hs2 : k + sumN ns j + 2 * ni ≤ 4611686018427387904 := by have := HS.out; omega
        obtain ⟨Y1, d1, rfl⟩ := own_form r1.1
        clear hO hO' hI hD e1 r1 ra ta la hzs hm hzl HMJ
        go_wp2_with fail
        refine (markPointS_any _ zs ni (k + sumN ns j) a b _ HA.out (by omega)).mono ?_
        rintro e w5 ⟨rfl, hr5, hc5⟩
        have HN5 := hid (Nest.upd (T' := 0) (by decide) HP.out.1 HP.out.2.1 HP.out.2.2.1 HP.out.2.2.2.1 HP.out.2.2.2.2.1 HP.out.2.2.2.2.2.1 hc5 hr5 HP.out.2.2.2.2.2.2)
        have HC5 : Hid (Chg wr w5 lo hi) := hid ⟨hc5.os, hc5.tape, hc5.output, hc5.size, fun i hi' hd => hc5.block i hi' (by
          rcases Nat.lt_or_ge i a with h1 | h1
          · exact .inl h1
          · rcases Nat.lt_or_ge i b with h2 | h2
            · have e := HP.out.2.2.2.2.2.1 i h1 h2
              have := HP.out.2.2.2.2.1.row i e
              omega
            · exact .inr h2)⟩
        clear hr5 hc5 ca
        go_wp2_with fail
        go_roundg (n - (j + 1))
        case measure => omega
        case rel => exact ⟨j + 1, by omega, ret_int' (by rw [HS.out]; push_cast; omega), by go_num, rfl, by rw [← HSET.out]; exact HN5, hid (HC.out.trans HC5.out)⟩
      · have hkl : j = n := by omega
        subst hkl
        have HF : Hid (mixS (css.map vals) k ns j = mss k ns) := hid (by have := mixS_full (css.map vals) k ns HCL.out; rwa [HLS.out] at this)
        rw [HF.out] at HN
        go_wp2_with fail
        go_ret
        exact ⟨rfl, ⟨HN.out, HU.out⟩, HC.out⟩
set_option maxRecDepth 100000 in
set_option maxHeartbeats 2000000 in
theorem heldPointSS_any (v : Value) (ns : List Nat) (n k lo hi : Nat) (w : World) (h : NestR w lo hi 49 51 2 v (mss k ns)) (hns : ns.length = n) (hk : k + sumN ns n ≤ 4611686018427387904) (hmn : ∀ j, sumN ns j ≤ sumN ns n) :
    Calls Try.prog 55 #[v, .int .i64 k] w fun e w' => e = .returned (.int .i64 ((k + sumN ns n : Nat) : Int)) ∧ Below w.heap.size w w' := by
  obtain ⟨vs1, hO1⟩ := h.1.outer
  rw [mss_length, hns] at hO1
  have HLS := hid hns
  have HMN := hid hmn
  clear hns hmn
  rcases Nat.eq_zero_or_pos n with h0 | hp
  · subst h0
    obtain ⟨A1, c1, rfl⟩ := own_form hO1
    have hnss : ns = [] := List.eq_nil_of_length_eq_zero HLS.out
    subst hnss
    clear h hO1
    go_enter Try.func55, Try.ntmps55
    go_wp2_with fail
    refine wp_loop_rounds 1 ?_
    rw [rounds_succ]
    go_wp2_with fail
    go_ret
    exact ⟨by simp [sumN], Below.refl _ _⟩
  · obtain ⟨g1, p1, rfl⟩ := Go.Joins.ownsRow_form hO1 hp
    have hnm := own_max hO1
    unfold maxLen at hnm
    clear hO1
    have H1 := hid h.1
    clear h
    go_enter Try.func55, Try.ntmps55
    go_wp2_with fail
    go_loopg [1, 5] n (fun g q i wr => ∃ j : Nat, j ≤ n ∧ q = .int .i64 ((k + sumN ns j : Nat) : Int) ∧ i = .int .i64 j ∧ g = n - j ∧ Hid (Below w.heap.size w wr))
    case atStart => exact ⟨0, Nat.zero_le _, by simp [sumN], rfl, rfl, hid (Below.refl _ _)⟩
    case round =>
      obtain ⟨j, hj, rfl, rfl, hg, HB⟩ := hrel
      by_cases hlt : j < n
      · obtain ⟨m, hm⟩ : ∃ m, ns[j]? = some m := ⟨_, List.getElem?_eq_getElem (by have := HLS.out; omega)⟩
        obtain ⟨vs, hO, hI, -⟩ := H1.out.keep HB.out
        obtain ⟨vi, ni, e1, r1⟩ := hI j _ (mss_at ns k j m hm)
        have hni : ni = m := by have a := r1.1.1; simp [vals, marks_length] at a; omega
        subst hni
        rw [mss_length, HLS.out] at hO
        have ca : wr.cell? ⟨g1, j, none⟩ = some vi := (World.ownsRow.cellAt hO j (by omega)).trans e1
        have HS := hid (sumN_succ ns j ni hm)
        have hmj := HMN.out (j + 1)
        have hs2 : k + sumN ns j + 2 * ni ≤ 4611686018427387904 := by have := HS.out; omega
        have HA := hid r1
        obtain ⟨Y1, d1, rfl⟩ := own_form r1.1
        have hneg : ¬ (((k + sumN ns j + 2 * ni : Nat) : Int) < 0) := by omega
        clear hO hI e1 r1 hm hmj
        go_wp2_with fail
        refine (heldPointS_any _ ni (k + sumN ns j) lo hi _ HA.out (by omega)).mono ?_
        rintro e w5 ⟨rfl, hb5⟩
        have HB5 := hid (bstep HB.out hb5)
        clear hb5 ca
        go_wp2_with fail
        go_roundg (n - (j + 1))
        case measure => omega
        case rel => exact ⟨j + 1, by omega, ret_int' (by rw [HS.out]; push_cast; omega), by go_num, rfl, HB5⟩
      · have hkl : j = n := by omega
        subst hkl
        go_wp2_with fail
        go_ret
        exact ⟨rfl, HB.out⟩
end Go.Proofs.Ytmhilafcgjgcoaa

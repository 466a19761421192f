/- ReadPanel: contracts. -/
import Derived.Test.YtgcgaoblbhojnaaPl
import Derived.Test.YtgcgaoblbhojnaaNp
import Derived.Deep.RegionLaw
import Derived.Deep.AppendLies
import Derived.BigRegion
import Derived.RegionTactic
import Derived.Lib.OwnKind
namespace Go.Proofs.Ytgcgaoblbhojnaa
set_option linter.unusedSimpArgs false
set_option linter.unusedVariables false
open Go.ChangeShapes Go.WideShapes Go.ChangeAt Go.RowKit
theorem idx_is {l : List Int} {b : Int} {k : Nat} (h0 : ∀ j, j < k → l[j]? ≠ some b) (h : l[k]? = some b) : l.idxOf b = k := by
  have hm : l.count b ≠ 0 := fun hc => List.count_eq_zero.1 hc (List.mem_of_getElem? h)
  obtain ⟨h1, h2, h3⟩ := idx_first hm
  rcases Nat.lt_trichotomy (l.idxOf b) k with hlt | he | hgt
  · exact absurd h2 (h0 _ hlt)
  · exact he
  · exact absurd h (h3 k hgt)
theorem idx_none {l : List Int} {b : Int} (h0 : ∀ j, j < l.length → l[j]? ≠ some b) : l.idxOf b = l.length := by
  refine List.idxOf_eq_length fun hm => ?_
  obtain ⟨i, hi, e⟩ := List.getElem_of_mem hm
  exact h0 i hi (by rw [List.getElem?_eq_getElem hi, e])
set_option maxHeartbeats 1000000 in
theorem placeOf_any (s : ByteArray) (b : Int) (w : World) (hs : s.size ≤ 1048576) : Calls Try.prog 79 #[.string s, .int .u8 b, .int .i64 0] w fun e w' => e = .returned (.int .i64 (plI s b)) ∧ w = w' := by
  obtain ⟨n, hn⟩ : ∃ n, s.size = n := ⟨_, rfl⟩
  have hn20 : n ≤ 1048576 := by omega
  go_enter Try.func79, Try.ntmps79
  go_wp2_with fail
  go_loopg [7] n (fun g i wr => ∃ k : Nat, k ≤ n ∧ i = .int .i64 k ∧ g = n - k ∧ Hid (∀ j, j < k → (byteL s)[j]? ≠ some b) ∧ w = wr)
  case atStart => exact ⟨0, Nat.zero_le _, rfl, rfl, hid (fun j hj => by omega), rfl⟩
  case round =>
    obtain ⟨k, hk, rfl, hg, HN, rfl⟩ := hrel
    by_cases hlt : k < n
    · have hks : k < s.size := by omega
      obtain ⟨c, hc⟩ : ∃ c : Int, ((s[k]'hks).toNat : Int) = c := ⟨_, rfl⟩
      have HBY : Hid ((byteL s)[k]? = some c) := hid (by rw [byte_at s k hks, hc])
      by_cases he : c = b
      · have hbb : (c == b) = true := by simp [he]
        have HE : Hid (plI s b = (k : Int)) := hid (by
          have := idx_is HN.out (by rw [HBY.out, he])
          unfold plI
          rw [this, if_pos hks])
        clear he
        go_wp2_with fail
        go_ret
        exact ⟨ret_int HE.out.symm, rfl⟩
      · have hbb : (c == b) = false := by simp [he]
        have HE : Hid (∀ j, j < k + 1 → (byteL s)[j]? ≠ some b) := hid (fun j hj => by
          rcases Nat.lt_or_ge j k with h | h
          · exact HN.out j h
          · obtain rfl : j = k := by omega
            rw [HBY.out]
            intro h
            injection h with h
            exact he h)
        clear he
        go_wp2_with fail
        go_roundg (n - (k + 1))
        case measure => omega
        case rel => exact ⟨k + 1, by omega, by go_num, rfl, HE, rfl⟩
    · obtain rfl : k = n := by omega
      have HE : Hid (plI s b = -1) := hid (by
        have h1 : (byteL s).idxOf b = (byteL s).length := idx_none (fun j hj => HN.out j (by rw [byteL_length] at hj; omega))
        unfold plI
        rw [h1, byteL_length, if_neg (by omega)])
      go_wp2_with fail
      go_ret
      exact ⟨ret_int HE.out.symm, rfl⟩
theorem own_boxQ {w : World} {lo s n b : Nat} {T T' : TypeId} {v : Value} {cs : List Value} {ds : Array Value} (h : w.ownsRow lo T s v n cs) (hb : Box w b T' ds) (hT : T ≠ T') : ∀ q, v.ownBlock = some q → b ≠ q := by
  rintro q hq rfl
  obtain ⟨c, f, h1⟩ := Go.Lib.ownsRow_kind h _ hq
  have h2 : w.heap[b]? = _ := hb
  rw [h1] at h2
  injection h2 with h2
  injection h2 with _ h2 _
  exact hT h2
theorem gb_drewQ {w w' : World} {r : Option Nat} (h : w.drew.grownBy w' r) : w.grownBy w' r := ⟨h.os, h.tape, h.output, h.size, h.block⟩
theorem own_setbQ {w : World} {lo n p : Nat} {T T' : TypeId} {sz : Nat} {v : Value} {cs : List Value} {ds : Array Value} (h : w.ownsRow lo T sz v n cs) (hb : Box w p T' ds) (hT : T ≠ T') (i : Nat) (u : Value) : (w.setCell ⟨p, i, none⟩ u).ownsRow lo T sz v n cs :=
  h.kept (row := some p) ⟨rfl, rfl, rfl, by simp, fun k _ hk => Below.heap_setCell _ _ _ _ (fun e => hk (by rw [e]))⟩ (by
    cases hv : v.ownBlock with
    | none => exact .inl rfl
    | some q => exact .inr (fun e => own_boxQ h hb hT q hv (by injection e with e; exact e.symm)))
theorem Box.putL {w : World} {b : Nat} {T : TypeId} {x y z u : Value} (h : Box w b T #[x, y, z]) : Box (w.setCell ⟨b, 2, none⟩ u) b T #[x, y, u] := h.put 2 u
theorem ints_of {w : World} {lo n c : Nat} {A : Option Addr} {zs : List Int} (h : w.ownsRow lo 2 1 (.slice A n c) n (vals zs)) : Ints w w.heap.size A zs := by
  have hl : zs.length = n := by simpa [vals] using h.1
  subst hl
  exact Rgn.ints (Rgn.of h rfl rfl)
theorem imZ_at {l : List Int} {i : Nat} {z : Int} (h : l[i]? = some z) : vals ((l.take (i + 1)).map kdF) = vals ((l.take i).map kdF) ++ [.int .i64 (kdF z)] := by
  rw [List.take_add_one, h, List.map_append, vals, List.map_append]
  rfl
set_option maxRecDepth 100000 in
set_option maxHeartbeats 4000000 in
theorem implReadPanel_any (s : ByteArray) (w : World) (hs : s.size ≤ 1048576) :
    Calls Try.prog 34 #[.string s] w fun e w' => (∃ A' c', e = .returned (.tuple #[.agg #[.int .i64 (pnW s), .int .i64 (pnH s), .slice A' (pnN s) c'], .bool (pnO s)]) ∧ w'.ownsRow w.heap.size 2 1 (.slice A' (pnN s) c') (pnN s) (vals (pnL s))) ∧ Below w.heap.size w w' := by
  obtain ⟨i0, hi0, hz0, hz1, hz2⟩ := info_parts infoI
  obtain ⟨n, hn⟩ : ∃ n, s.size = n := ⟨_, rfl⟩
  have hn20 : n ≤ 1048576 := by omega
  have HNO : Hid (pnO s = false → pnW s = 0 ∧ pnH s = 0 ∧ pnN s = 0 ∧ pnL s = [] ∧ pnO s = false) := hid (fun h => by simp [pnW, pnH, pnN, pnL, h])
  have hxb : -1 ≤ plI s 120 ∧ plI s 120 < n := by unfold plI; split <;> omega
  have hcb : -1 ≤ plI s 58 ∧ plI s 58 < n ∨ n = 0 := by unfold plI; split <;> omega
  have HPX := hid (placeOf_any s 120 · hs)
  have HPC := hid (placeOf_any s 58 · hs)
  obtain ⟨X, hX⟩ : ∃ X, plI s 120 = X := ⟨_, rfl⟩
  obtain ⟨C, hC⟩ : ∃ C, plI s 58 = C := ⟨_, rfl⟩
  have hcb2 : -1 ≤ C ∧ C ≤ n := by rw [← hC]; unfold plI; split <;> omega
  rw [hX] at hxb HPX
  rw [hC] at HPC
  have HX := hid hX
  have HC := hid hC
  have HS := hid hs
  have HNN := hid hn
  obtain ⟨hxb1, hxb2⟩ := hxb
  obtain ⟨hcb1, hcb2⟩ := hcb2
  have tsub : IntKind.i64.wrap ((n : Int) - C) = (n : Int) - C := IntWalk.i64_in _ (by omega)
  have tsub2 : wrap64 ((n : Int) - C) = (n : Int) - C := IntWalk.wrap64_in _ (by omega)
  clear hX hC hs hcb
  have KR0 := hid (Box.new w 39 #[.int .i64 0, .int .i64 0, .slice none 0 0])
  have HB0 : Hid (Below w.heap.size w (w.alloc (.cells #[.int .i64 0, .int .i64 0, .slice none 0 0] 39))) := hid (bal (Below.refl _ _) _)
  by_cases hpre : ¬ (0 ≤ X ∧ X ≤ C ∧ (n : Int) - C ≤ 129)
  · have HV := hid (HNO.out (by
      cases h : pnO s
      · rfl
      · obtain ⟨⟨p1, p2, p3⟩, _⟩ := im_of_pn h
        rw [HX.out] at p1 p2
        rw [HC.out] at p2 p3
        rw [HNN.out] at p3
        exact absurd ⟨p1, p2, p3⟩ hpre))
    by_cases h1 : X < 0
    · clear hpre
      go_enter Try.func34, Try.ntmps34
      go_wp2_with fail
      refine (HPX.out _).mono ?_
      rintro e w' ⟨rfl, rfl⟩
      go_wp2_with fail
      refine (HPC.out _).mono ?_
      rintro e w' ⟨rfl, rfl⟩
      obtain ⟨Ra, Rb, Rc⟩ := KR0.out.three
      have Rz := KR0.out.lt
      have Rf := KR0.out.free
      go_wp2_with fail
      have hE := HB0.out
      refine bodyPost_ret (v := .tuple #[.agg #[.int .i64 0, .int .i64 0, .slice none 0 0], .bool false]) (by simp [results, Try.results34, go_sem, *]) rfl ⟨⟨none, 0, by rw [HV.out.1, HV.out.2.1, HV.out.2.2.1, HV.out.2.2.2.2], by rw [HV.out.2.2.1, HV.out.2.2.2.1]; exact World.ownsRow_nil _ _ _ _⟩, ?_⟩
      repeat (refine Below.setCell ?_ (by simp) _)
      exact hE
    by_cases h2 : C < X
    · clear hpre
      go_enter Try.func34, Try.ntmps34
      go_wp2_with fail
      refine (HPX.out _).mono ?_
      rintro e w' ⟨rfl, rfl⟩
      go_wp2_with fail
      refine (HPC.out _).mono ?_
      rintro e w' ⟨rfl, rfl⟩
      obtain ⟨Ra, Rb, Rc⟩ := KR0.out.three
      have Rz := KR0.out.lt
      have Rf := KR0.out.free
      go_wp2_with fail
      have hE := HB0.out
      refine bodyPost_ret (v := .tuple #[.agg #[.int .i64 0, .int .i64 0, .slice none 0 0], .bool false]) (by simp [results, Try.results34, go_sem, *]) rfl ⟨⟨none, 0, by rw [HV.out.1, HV.out.2.1, HV.out.2.2.1, HV.out.2.2.2.2], by rw [HV.out.2.2.1, HV.out.2.2.2.1]; exact World.ownsRow_nil _ _ _ _⟩, ?_⟩
      repeat (refine Below.setCell ?_ (by simp) _)
      exact hE
    have h3 : (129 : Int) < (n : Int) - C := by omega
    clear hpre
    go_enter Try.func34, Try.ntmps34
    go_wp2_with fail
    refine (HPX.out _).mono ?_
    rintro e w' ⟨rfl, rfl⟩
    go_wp2_with fail
    refine (HPC.out _).mono ?_
    rintro e w' ⟨rfl, rfl⟩
    obtain ⟨Ra, Rb, Rc⟩ := KR0.out.three
    have Rz := KR0.out.lt
    have Rf := KR0.out.free
    go_wp2_with fail
    have hE := HB0.out
    refine bodyPost_ret (v := .tuple #[.agg #[.int .i64 0, .int .i64 0, .slice none 0 0], .bool false]) (by simp [results, Try.results34, go_sem, *]) rfl ⟨⟨none, 0, by rw [HV.out.1, HV.out.2.1, HV.out.2.2.1, HV.out.2.2.2.2], by rw [HV.out.2.2.1, HV.out.2.2.2.1]; exact World.ownsRow_nil _ _ _ _⟩, ?_⟩
    repeat (refine Below.setCell ?_ (by simp) _)
    exact hE
  have hpre' : 0 ≤ X ∧ X ≤ C ∧ (n : Int) - C ≤ 129 := Decidable.not_not.1 hpre
  clear hpre
  obtain ⟨x, rfl⟩ : ∃ x : Nat, X = (x : Int) := ⟨X.toNat, by omega⟩
  obtain ⟨c, rfl⟩ : ∃ c : Nat, C = (c : Int) := ⟨C.toNat, by omega⟩
  obtain ⟨q1, q2, q3⟩ := hpre'
  have hcn : c < n := by
    have h := HC.out
    unfold plI at h
    split at h <;> omega
  have hxc : x < c := by
    have h1 := HX.out
    have h2 := HC.out
    unfold plI at h1 h2
    split at h1
    · split at h2
      · rename_i e1 e2
        obtain ⟨_, a1, _⟩ := idx_first (l := byteL s) (b := 58) (fun h0 => by have := List.idxOf_eq_length (List.count_eq_zero.1 h0); rw [byteL_length] at this; omega)
        obtain ⟨_, a2, _⟩ := idx_first (l := byteL s) (b := 120) (fun h0 => by have := List.idxOf_eq_length (List.count_eq_zero.1 h0); rw [byteL_length] at this; omega)
        have e3 : (byteL s).idxOf 58 = c := by omega
        have e4 : (byteL s).idxOf 120 = x := by omega
        rw [e3] at a1
        rw [e4] at a2
        have : x ≠ c := fun e => by rw [e, a1] at a2; injection a2 with a2; omega
        omega
      · omega
    · omega
  have HP : Hid (imP s) := hid ⟨by rw [HX.out]; omega, by rw [HX.out, HC.out]; omega, by rw [HC.out, HNN.out]; omega⟩
  have hA : imA s = s.extract 0 x := by unfold imA; rw [HX.out, Int.toNat_natCast]
  have hB : imB s = s.extract (x + 1) c := by unfold imB; rw [HX.out, HC.out, Int.toNat_natCast, Int.toNat_natCast]
  have hZ : imZ s = ((byteL s).drop (c + 1)).map kdF := by unfold imZ; rw [HC.out, Int.toNat_natCast]
  have HIA := hid (And.intro hA (And.intro hB hZ))
  clear hA hB hZ
  obtain ⟨W, hW⟩ : ∃ W, rdR (s.extract 0 x) = W := ⟨_, rfl⟩
  obtain ⟨b1, hb1⟩ : ∃ b, rdB (s.extract 0 x) = b := ⟨_, rfl⟩
  obtain ⟨H, hH⟩ : ∃ H, rdR (s.extract (x + 1) c) = H := ⟨_, rfl⟩
  obtain ⟨b2, hb2⟩ : ∃ b, rdB (s.extract (x + 1) c) = b := ⟨_, rfl⟩
  have HR1 := hid (And.intro hW hb1)
  have HR2 := hid (And.intro hH hb2)
  have HSZ1 : Hid ((s.extract 0 x).size ≤ 1048576) := hid (by rw [ByteArray.size_extract]; have := HNN.out; omega)
  have HSZ2 : Hid ((s.extract (x + 1) c).size ≤ 1048576) := hid (by rw [ByteArray.size_extract]; have := HNN.out; omega)
  obtain ⟨m, hm⟩ : ∃ m, n = c + 1 + m := ⟨n - (c + 1), by omega⟩
  have hm128 : m ≤ 128 := by omega
  obtain ⟨L, hL⟩ : ∃ L, (byteL s).drop (c + 1) = L := ⟨_, rfl⟩
  have HLL : Hid (L.length = m) := hid (by rw [← hL, List.length_drop, byteL_length]; have := HNN.out; omega)
  have HLE := hid hL
  rw [hL] at HIA
  have t1 : IntKind.i64.wrap ((x : Int) + 1) = (x : Int) + 1 := IntWalk.i64_in _ (by omega)
  have t2 : IntKind.i64.wrap ((c : Int) + 1) = (c : Int) + 1 := IntWalk.i64_in _ (by omega)
  have g1 : ¬ ((x : Int) < 0) := by omega
  have g2 : ¬ ((c : Int) < (x : Int)) := by omega
  have g3 : ¬ ((129 : Int) < (n : Int) - (c : Int)) := by omega
  clear hW hb1 hH hb2 hL
  go_enter Try.func34, Try.ntmps34
  go_wp2_with fail
  refine (HPX.out _).mono ?_
  rintro e w' ⟨rfl, rfl⟩
  go_wp2_with fail
  refine (HPC.out _).mono ?_
  rintro e w' ⟨rfl, rfl⟩
  go_wp2_with fail
  refine (implReadDecimal_any (s.extract 0 x) _ HSZ1.out).mono ?_
  rintro e w1 ⟨he, hb1⟩
  rw [HR1.out.1, HR1.out.2] at he
  subst he
  have KR1 := hid (Box.keep KR0.out hb1)
  have HB1 := hid (bbl HB0.out hb1)
  clear hb1
  go_wp2_with fail
  refine (implReadDecimal_any (s.extract (x + 1) c) _ HSZ2.out).mono ?_
  rintro e w2 ⟨he, hb2⟩
  rw [HR2.out.1, HR2.out.2] at he
  subst he
  have KR2 := hid (Box.keep KR1.out hb2)
  have HB2 := hid (bbl HB1.out hb2)
  clear hb2 KR1 HB1
  go_wp2_with fail
  obtain ⟨w3, hw3⟩ : ∃ zz : World, zz = w2.alloc (.cells #[.int .i64 W, .int .i64 H, .slice none 0 0] 39) := ⟨_, rfl⟩
  rw [← hw3]
  have KR3 := hid (show Box w3 w.heap.size 39 #[.int .i64 0, .int .i64 0, .slice none 0 0] by rw [hw3]; exact Box.alloc KR2.out _)
  have KP3 := hid (show Box w3 w2.heap.size 39 #[.int .i64 W, .int .i64 H, .slice none 0 0] by rw [hw3]; exact Box.new _ _ _)
  have HB3 := hid (show Below w.heap.size w w3 by rw [hw3]; exact bal HB2.out _)
  have hwp := KR2.out.lt
  obtain ⟨pb, hpb⟩ : ∃ b, b = w2.heap.size := ⟨_, rfl⟩
  rw [← hpb] at hwp KP3 ⊢
  clear hw3 hpb KR2 HB2
  go_loopg [11] m (fun g i wr => ∃ (k : Nat) (v : Value), k ≤ m ∧ i = .int .i64 (c + 1 + k : Nat) ∧ g = m - k ∧ Hid (wr.ownsRow (w.heap.size + 1) 2 1 v k (vals ((L.take k).map kdF))) ∧ Hid (Box wr pb 39 #[.int .i64 W, .int .i64 H, v]) ∧ Hid (Box wr w.heap.size 39 #[.int .i64 0, .int .i64 0, .slice none 0 0]) ∧ Hid (Below w.heap.size w wr))
  case atStart => exact ⟨0, .slice none 0 0, Nat.zero_le _, by go_num, rfl, hid (World.ownsRow_nil _ _ _ _), KP3, KR3, HB3⟩
  case round =>
    clear KP3 KR3 HB3
    obtain ⟨k, v, hk, rfl, hg, HO, KP, KR, HB⟩ := hrel
    obtain ⟨Pa, Pb, Pc⟩ := KP.out.three
    have Pz := KP.out.lt
    have Pf := KP.out.free
    have hwz := HB.out.size
    by_cases hlt : k < m
    · obtain ⟨j, hj⟩ : ∃ j, c + 1 + k = j := ⟨_, rfl⟩
      have hjs : j < s.size := by omega
      obtain ⟨z, hz⟩ : ∃ q : Int, ((s[j]'hjs).toNat : Int) = q := ⟨_, rfl⟩
      have HLZ : Hid (L[k]? = some z) := hid (by rw [← HLE.out, List.getElem?_drop, hj, byte_at s j hjs, hz])
      have HST := hid (imZ_at HLZ.out)
      have HJ := hid hj
      rw [hj]
      have hjn : j < n := by omega
      clear hj
      go_wp2_with fail
      go_region_law (first | (go_simp; go_at_call 64; refine (markKind_any z _).mono ?_; rintro e w' ⟨rfl, rfl⟩) | (refine step_append_lies _ (by rfl) (.tmp 59) (.tmp 64) 34 (by rfl) (w.heap.size + 1) 2 i0 (.int .i64 0) 1 8 Try.underlying34 hi0 hz0 hz1 hz2 rfl (by omega) v k (vals ((L.take k).map kdF)) (by rfl) (HO.out.alloc _) ⟨wr.heap.size, 0, none⟩ 1 1 [.int .i64 (kdF z)] (by rfl) rfl (World.news_of_block (cs := #[.int .i64 (kdF z)]) (t := 2) (fr := (0, 0)) (heap_alloc_new wr _)) (by simp [Value.oneCell']) (by omega) (by unfold maxLen; omega) (by omega) (by simp; omega) (wr.heap.size + 1) (by simp) ?_; intro gg cap w5 hown5 hgrow5' hat5 hlt5; have hgrow5 := gb_drewQ hgrow5'; have KP5 := hid (Box.grew (Box.alloc KP.out (.cells #[.int .i64 (kdF z)] 2)) hgrow5 (own_boxQ (HO.out.alloc (.cells #[.int .i64 (kdF z)] 2)) (Box.alloc KP.out (.cells #[.int .i64 (kdF z)] 2)) (by decide))); have KR5 := hid (Box.grew (Box.alloc KR.out (.cells #[.int .i64 (kdF z)] 2)) hgrow5 (own_boxQ (HO.out.alloc (.cells #[.int .i64 (kdF z)] 2)) (Box.alloc KR.out (.cells #[.int .i64 (kdF z)] 2)) (by decide))); have HB5 := hid (bgrew (lo := w.heap.size + 1) (bal HB.out (.cells #[.int .i64 (kdF z)] 2)) hgrow5 (fun q hq => (HO.out.lt q hq).1) (by omega)); have HO5 := hid hown5; clear hown5 hgrow5 hgrow5' hat5 hlt5; have c5 := (Box.three KP5.out).2.2; have f5 := KP5.out.free; have z5 := KP5.out.lt))
      all_goals (go_wp2_with fail)
      all_goals (go_roundg (m - (k + 1)))
      all_goals (first | (case measure => omega) | skip)
      all_goals (first | (case rel => exact ⟨k + 1, .slice (some ⟨gg, 0, none⟩) (k + 1) cap, by omega, congrArg (Value.int .i64) (by have := HJ.out; omega), rfl, hid (HST.out ▸ own_setbQ HO5.out KP5.out (by decide) 2 _), hid (Box.putL KP5.out), hid (Box.set KR5.out (by show w.heap.size ≠ pb; omega) _), hid (Below.setCell HB5.out (by show w.heap.size ≤ pb; omega) _)⟩) | skip)
    · obtain rfl : k = m := by omega
      obtain ⟨A9, c9, rfl⟩ := own_form HO.out
      obtain ⟨zs, hzs⟩ : ∃ zs, L.map kdF = zs := ⟨_, rfl⟩
      have hzl : zs.length = k := by rw [← hzs, List.length_map, HLL.out]
      have HO2 : Hid (wr.ownsRow (w.heap.size + 1) 2 1 (.slice A9 k c9) k (vals zs)) := hid (by have h := HO.out; rw [List.take_of_length_le (by rw [HLL.out]; exact Nat.le_refl _), hzs] at h; exact h)
      have HZS := hid hzs
      have HVP : Hid (∀ wx, Ints wx wx.heap.size A9 zs → Calls Try.prog 69 #[.agg #[.int .i64 W, .int .i64 H, .slice A9 k c9]] wx fun e w' => e = .returned (.bool (validB W H zs)) ∧ Below wx.heap.size wx w') := hid (fun wx hz => by have h := validPanel_any W H A9 c9 zs wx hz (by rw [hzl]; unfold maxLen; omega); rw [hzl] at h; exact h)
      have HTX : Hid (∀ wx, Ints wx wx.heap.size A9 zs → validB W H zs = true → Calls Try.prog 70 #[.agg #[.int .i64 W, .int .i64 H, .slice A9 k c9]] wx fun e w' => e = .returned (.string (txS W H zs)) ∧ Below wx.heap.size wx w') := hid (fun wx hz hv => by have h := panelText_any W H A9 c9 zs wx hz hv; rw [hzl] at h; exact h)
      have HIZ : Hid (imZ s = zs) := hid (by rw [HIA.out.2.2, hzs])
      have HZL := hid hzl
      clear HO hzs hzl
      obtain ⟨Ra, Rb, Rc⟩ := KR.out.three
      have Rz := KR.out.lt
      have Rf := KR.out.free
      cases b1 with
      | false =>
        have HV := hid (HNO.out (by
          cases h : pnO s
          · rfl
          · obtain ⟨_, ⟨q, _⟩, _⟩ := im_of_pn h
            rw [HIA.out.1, HR1.out.2] at q
            cases q))
        go_wp2_with fail
        have hE := HB.out
        refine bodyPost_ret (v := .tuple #[.agg #[.int .i64 0, .int .i64 0, .slice none 0 0], .bool false]) (by simp [results, Try.results34, go_sem, *]) rfl ⟨⟨none, 0, by rw [HV.out.1, HV.out.2.1, HV.out.2.2.1, HV.out.2.2.2.2], by rw [HV.out.2.2.1, HV.out.2.2.2.1]; exact World.ownsRow_nil _ _ _ _⟩, ?_⟩
        repeat (refine Below.setCell ?_ (by simp) _)
        exact hE
      | true =>
        cases b2 with
        | false =>
          have HV := hid (HNO.out (by
            cases h : pnO s
            · rfl
            · obtain ⟨_, ⟨_, q, _⟩, _⟩ := im_of_pn h
              rw [HIA.out.2.1, HR2.out.2] at q
              cases q))
          go_wp2_with fail
          have hE := HB.out
          refine bodyPost_ret (v := .tuple #[.agg #[.int .i64 0, .int .i64 0, .slice none 0 0], .bool false]) (by simp [results, Try.results34, go_sem, *]) rfl ⟨⟨none, 0, by rw [HV.out.1, HV.out.2.1, HV.out.2.2.1, HV.out.2.2.2.2], by rw [HV.out.2.2.1, HV.out.2.2.2.1]; exact World.ownsRow_nil _ _ _ _⟩, ?_⟩
          repeat (refine Below.setCell ?_ (by simp) _)
          exact hE
        | true =>
          obtain ⟨bv, hbv⟩ : ∃ b, validB W H zs = b := ⟨_, rfl⟩
          rw [hbv] at HVP HTX
          have HBV := hid hbv
          clear hbv
          go_wp2_with fail
          refine (HVP.out _ (ints_of HO2.out)).mono ?_
          rintro e w6 ⟨rfl, hb6⟩
          have KP6 := hid (Box.keep KP.out hb6)
          have KR6 := hid (Box.keep KR.out hb6)
          have HB6 := hid (bbl HB.out hb6)
          have HO6 := hid (own_keep HO2.out hb6)
          clear hb6 Pa Pb Pc Pz Pf Ra Rb Rc Rz Rf KP KR HB HO2
          obtain ⟨Pa, Pb, Pc⟩ := KP6.out.three
          have Pz := KP6.out.lt
          cases bv with
          | false =>
            have HV := hid (HNO.out (by
              cases h : pnO s
              · rfl
              · obtain ⟨_, ⟨_, _, q, _⟩, _⟩ := im_of_pn h
                rw [HIA.out.1, HIA.out.2.1, HR1.out.1, HR2.out.1, HIZ.out, HBV.out] at q
                cases q))
            obtain ⟨Ra, Rb, Rc⟩ := KR6.out.three
            have Rz := KR6.out.lt
            have Rf := KR6.out.free
            go_wp2_with fail
            have hE := HB6.out
            refine bodyPost_ret (v := .tuple #[.agg #[.int .i64 0, .int .i64 0, .slice none 0 0], .bool false]) (by simp [results, Try.results34, go_sem, *]) rfl ⟨⟨none, 0, by rw [HV.out.1, HV.out.2.1, HV.out.2.2.1, HV.out.2.2.2.2], by rw [HV.out.2.2.1, HV.out.2.2.2.1]; exact World.ownsRow_nil _ _ _ _⟩, ?_⟩
            repeat (refine Below.setCell ?_ (by simp) _)
            exact hE
          | true =>
            obtain ⟨TS, hTS⟩ : ∃ t, txS W H zs = t := ⟨_, rfl⟩
            rw [hTS] at HTX
            have HTS := hid hTS
            clear hTS
            go_wp2_with fail
            refine (HTX.out _ (ints_of HO6.out) trivial).mono ?_
            rintro e w7 ⟨rfl, hb7⟩
            have KP7 := hid (Box.keep KP6.out hb7)
            have KR7 := hid (Box.keep KR6.out hb7)
            have HB7 := hid (bbl HB6.out hb7)
            have HO7 := hid (own_keep HO6.out hb7)
            clear hb7 Pa Pb Pc Pz KP6 KR6 HB6 HO6
            obtain ⟨Pa, Pb, Pc⟩ := KP7.out.three
            have Pz := KP7.out.lt
            obtain ⟨Ra, Rb, Rc⟩ := KR7.out.three
            have Rz := KR7.out.lt
            have Rf := KR7.out.free
            by_cases heq : TS = s
            · have hbq := beq_of_eq heq
              have hOK : pnO s = true := pn_of_im HP.out ⟨by rw [HIA.out.1, HR1.out.2], by rw [HIA.out.2.1, HR2.out.2], by rw [HIA.out.1, HIA.out.2.1, HR1.out.1, HR2.out.1, HIZ.out, HBV.out], by rw [HIA.out.1, HIA.out.2.1, HR1.out.1, HR2.out.1, HIZ.out, HTS.out, heq]⟩
              have HV : Hid (pnW s = W ∧ pnH s = H ∧ pnN s = k ∧ pnL s = zs ∧ pnO s = true) := hid (by
                obtain ⟨_, _, e1, e2, e3⟩ := im_of_pn hOK
                rw [HIZ.out] at e3
                unfold pnN pnW pnH pnL
                rw [hOK, ← e1, ← e2, ← e3, HIA.out.1, HIA.out.2.1, HR1.out.1, HR2.out.1]
                exact ⟨rfl, rfl, HZL.out, rfl, rfl⟩)
              clear heq hOK
              go_wp2_with fail
              have hE := HB7.out
              have ho := HO7.out
              refine bodyPost_ret (v := .tuple #[.agg #[.int .i64 W, .int .i64 H, .slice A9 k c9], .bool true]) (by simp [results, Try.results34, go_sem, *]) rfl ⟨⟨A9, c9, by rw [HV.out.1, HV.out.2.1, HV.out.2.2.1, HV.out.2.2.2.2], ?_⟩, ?_⟩
              · rw [HV.out.2.2.1, HV.out.2.2.2.1]
                refine Go.Joins.ownsRow_le (base := w.heap.size + 1) ?_ (by omega)
                repeat (refine ownsRow_setCell_below ?_ (by simp) _)
                exact ho
              · repeat (refine Below.setCell ?_ (by simp) _)
                exact hE
            · have hbq := beq_of_ne heq
              have HV := hid (HNO.out (by
                cases h : pnO s
                · rfl
                · obtain ⟨_, ⟨_, _, _, q⟩, _⟩ := im_of_pn h
                  rw [HIA.out.1, HIA.out.2.1, HR1.out.1, HR2.out.1, HIZ.out, HTS.out] at q
                  exact absurd q heq))
              clear heq
              go_wp2_with fail
              have hE := HB7.out
              refine bodyPost_ret (v := .tuple #[.agg #[.int .i64 0, .int .i64 0, .slice none 0 0], .bool false]) (by simp [results, Try.results34, go_sem, *]) rfl ⟨⟨none, 0, by rw [HV.out.1, HV.out.2.1, HV.out.2.2.1, HV.out.2.2.2.2], by rw [HV.out.2.2.1, HV.out.2.2.2.1]; exact World.ownsRow_nil _ _ _ _⟩, ?_⟩
              repeat (refine Below.setCell ?_ (by simp) _)
              exact hE
end Go.Proofs.Ytgcgaoblbhojnaa

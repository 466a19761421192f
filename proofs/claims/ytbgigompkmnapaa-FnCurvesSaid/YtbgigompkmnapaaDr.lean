/- Drawing: the source of choices. -/
import Derived.Test.YtbgigompkmnapaaNp
import Derived.Test.YtbgigompkmnapaaAu
import Derived.Deep.RegionHeld3
import Derived.Lib.OwnKind
namespace Go.Proofs.Ytbgigompkmnapaa
set_option linter.unusedSimpArgs false
set_option linter.unusedVariables false
open Go.ChangeShapes Go.WideShapes Go.ChangeAt Go.RowKit
/-- A slice's bytes can be read below block B. -/
def BytesR (w : World) (B : Nat) (A : Option Addr) (bs : List Int) : Prop := ∀ (j : Nat) z, bs[j]? = some z → (0 ≤ z ∧ z ≤ 255) ∧ ∃ b off, A = some ⟨b, off, none⟩ ∧ b < B ∧ w.cell? ⟨b, off + j, none⟩ = some (.int .u8 z)
theorem BytesR.below {w w' : World} {B : Nat} {A : Option Addr} {bs : List Int} (h : BytesR w B A bs) (hb : Below B w w') : BytesR w' B A bs := fun j s hj => by
  obtain ⟨h0, b, off, e, hlt, hc⟩ := h j s hj
  exact ⟨h0, b, off, e, hlt, (hb.cell (p := ⟨b, off + j, none⟩) hlt).trans hc⟩
theorem BytesR.more {w : World} {B B' : Nat} {A : Option Addr} {bs : List Int} (h : BytesR w B A bs) (hB : B ≤ B') : BytesR w B' A bs := fun j s hj => by
  obtain ⟨h0, b, off, e, hlt, hc⟩ := h j s hj
  exact ⟨h0, b, off, e, by omega, hc⟩
/-- The source in block b, at most K steps on. -/
def SrcP (w : World) (b K : Nat) (A : Option Addr) (n c : Nat) : Prop := ∃ (i : Nat) (s : Int), i ≤ K ∧ (0 ≤ s ∧ s ≤ 18446744073709551615) ∧ Box w b 132 #[.slice A n c, .int .i64 i, .int .u64 s]
theorem SrcP.keep {w w' : World} {b K n c : Nat} {A : Option Addr} (h : SrcP w b K A n c) (hb : Below w.heap.size w w') : SrcP w' b K A n c := by
  obtain ⟨i, s, h1, h2, h3⟩ := h
  exact ⟨i, s, h1, h2, h3.keep hb⟩
theorem SrcP.more {w : World} {b K K' n c : Nat} {A : Option Addr} (h : SrcP w b K A n c) (e : K ≤ K') : SrcP w b K' A n c := by
  obtain ⟨i, s, h1, h2, h3⟩ := h
  exact ⟨i, s, by omega, h2, h3⟩
theorem SrcP.lt {w : World} {b K n c : Nat} {A : Option Addr} (h : SrcP w b K A n c) : b < w.heap.size := by obtain ⟨i, s, h1, h2, h3⟩ := h; exact h3.lt
/-- The call answers a number from lo to hi, and the source goes on. -/
def Draws (w : World) (b K : Nat) (A : Option Addr) (n c : Nat) (lo hi : Int) (e : Ending) (w' : World) : Prop := (∃ x : Int, (lo ≤ x ∧ x ≤ hi) ∧ e = .returned (.int .i64 x)) ∧ SrcP w' b K A n c ∧ w.grownBy w' (some b)
theorem u64_bd (x : Int) : 0 ≤ IntKind.u64.wrap x ∧ IntKind.u64.wrap x ≤ 18446744073709551615 := by rw [IntKind.wrap_u64]; omega
theorem u64_63 (n : Int) (h₀ : 0 ≤ n) (h₁ : n < 2 ^ 63) : IntKind.u64.wrap n = n := by rw [IntKind.wrap_u64]; omega
theorem mask_bd {x : Int} (h : 0 ≤ x ∧ x ≤ 18446744073709551615) : 0 ≤ wrap64 (bits BinOp.and IntKind.u64 (x / 1099511627776) 255) ∧ wrap64 (bits BinOp.and IntKind.u64 (x / 1099511627776) 255) ≤ 255 := by
  have h1 := bits_mask .u64 63 (by decide) u64_63 8 (by decide) (x / 1099511627776) (by omega) (by omega)
  have e : ((2 : Int) ^ 8 - 1) = 255 := by decide
  have e2 : ((2 : Int) ^ 8) = 256 := by decide
  rw [e, e2] at h1
  rw [h1]
  have h2 : 0 ≤ x / 1099511627776 % 256 ∧ x / 1099511627776 % 256 ≤ 255 := by omega
  have h3 : wrap64 (x / 1099511627776 % 256) = x / 1099511627776 % 256 := IntWalk.wrap64_in _ (by omega)
  rw [h3]
  exact h2
theorem hid3 {p : Prop} (h : p) : p := h
theorem grown_two (w : World) (n m : Nat) (b : Nat) {i j : Nat} (u v : Value) : w.grownBy (((w.drewN n).setCell ⟨b, i, none⟩ u).setCell ⟨b, j, none⟩ v |>.drewN m) (some b) :=
  ⟨rfl, rfl, rfl, by simp, fun k hk hne => by
    have h : k ≠ b := fun e => hne (by rw [e])
    show ((((w.drewN n).setCell ⟨b, i, none⟩ u).setCell ⟨b, j, none⟩ v)).heap[k]? = _
    rw [Below.heap_setCell _ _ _ k h, Below.heap_setCell _ _ _ k h]
    rfl⟩
set_option maxRecDepth 100000 in
set_option maxHeartbeats 4000000 in
theorem next_any' (b K : Nat) (A : Option Addr) (n c B : Nat) (bs : List Int) (w : World) (hn : bs.length = n) (h : SrcP w b K A n c) (hb : BytesR w B A bs) (hB : B ≤ b) (hK : K ≤ 1000000) (hnl : n ≤ 5000) :
    Calls Try.prog 120 #[.pointer (some ⟨b, 0, none⟩)] w (Draws w b (K + 1) A n c 0 255) := by
  obtain ⟨i, s, h1, ⟨h2, h3⟩, h4⟩ := h
  have HN := hid hn
  have HX := hid h4
  obtain ⟨Sa, Sb, Sc⟩ := h4.three
  have Sz := h4.lt
  have Sf := h4.free
  clear hn h4
  by_cases hlt : i < n
  · obtain ⟨z, hz⟩ : ∃ z, bs[i]? = some z := ⟨_, List.getElem?_eq_getElem (by have := HN.out; omega)⟩
    obtain ⟨⟨z0, z1⟩, bb, off, rfl, hbb, hcc⟩ := hb i z hz
    clear hz
    go_enter Try.func120, Try.ntmps120
    go_wp2_with fail
    go_quiet (fail)
    go_wp2_with fail
    go_quiet (fail)
    go_wp2_with fail
    go_quiet (fail)
    go_wp2_with fail
    go_ret
    exact ⟨⟨_, ⟨z0, z1⟩, rfl⟩, ⟨i + 1, _, by omega, u64_bd _, hid3 ((HX.out.put 1 _).put 2 _)⟩, grown_two _ _ _ _ _ _⟩
  · go_enter Try.func120, Try.ntmps120
    go_wp2_with fail
    go_quiet (fail)
    go_wp2_with fail
    go_quiet (fail)
    go_wp2_with fail
    go_ret
    exact ⟨⟨_, mask_bd (u64_bd _), rfl⟩, ⟨i + 1, _, by omega, u64_bd _, hid3 ((HX.out.put 1 _).put 2 _)⟩, grown_two _ _ _ _ _ _⟩
theorem grown_refl (w : World) (b : Option Nat) : w.grownBy w b := ⟨rfl, rfl, rfl, Nat.le_refl _, fun _ _ _ => rfl⟩
theorem srow_kept {w w' : World} {lo b : Nat} {T : TypeId} {s : Nat} {v : Value} {n : Nat} {cs : List Value} (h : w.ownsRow lo T s v n cs) (hg : w.grownBy w' (some b)) (hb : b < lo) : w'.ownsRow lo T s v n cs := by
  refine World.ownsRow.kept h hg ?_
  cases e : v.ownBlock with
  | none => exact .inl rfl
  | some g =>
    right
    intro he
    have h2 : g = b := by injection he
    have h1 := (h.lt g e).1
    omega
set_option maxHeartbeats 1000000 in
theorem pick_any (b K : Nat) (A : Option Addr) (n c B : Nat) (bs : List Int) (m : Int) (w : World) (hn : bs.length = n) (h : SrcP w b K A n c) (hb : BytesR w B A bs) (hB : B ≤ b) (hK : K ≤ 1000000) (hnl : n ≤ 5000) (hm : 1 ≤ m) (hm2 : m ≤ 200) :
    Calls Try.prog 89 #[.pointer (some ⟨b, 0, none⟩), .int .i64 m] w (Draws w b (K + 1) A n c 0 (m - 1)) := by
  by_cases h1 : m ≤ 1
  · obtain rfl : m = 1 := by omega
    go_enter Try.func89, Try.ntmps89
    go_wp2_with fail
    go_ret
    exact ⟨⟨0, ⟨by omega, by omega⟩, rfl⟩, h.more (by omega), grown_refl _ _⟩
  · have HN := hid hn
    have HS := hid h
    have HBY := hid hb
    clear hn h hb
    go_enter Try.func89, Try.ntmps89
    go_wp2_with fail
    refine (next_any' b K A n c B bs _ HN.out HS.out HBY.out hB hK hnl).mono ?_
    rintro e w1 ⟨⟨x, ⟨x1, x2⟩, rfl⟩, hs1, hg1⟩
    have HS1 := hid hs1
    have HG1 := hid hg1
    clear hs1 hg1
    have hmod : 0 ≤ x % m ∧ x % m ≤ m - 1 := ⟨Int.emod_nonneg _ (by omega), by have := Int.emod_lt_of_pos x (show 0 < m by omega); omega⟩
    obtain ⟨r, hr⟩ : ∃ r, x % m = r := ⟨_, rfl⟩
    have hr2 : Int.tmod x m = r := by rw [Int.tmod_eq_emod_of_nonneg x1]; exact hr
    rw [hr] at hmod
    obtain ⟨r1, r2⟩ := hmod
    have hm0 : ¬ (m = 0) := by omega
    go_wp2_with fail
    go_ret
    exact ⟨⟨r, ⟨r1, r2⟩, rfl⟩, HS1.out, HG1.out⟩
/-- What l02Draw hands back: a valid panel of small sides, in memory of its own. -/
def DrawnP (w : World) (b K : Nat) (A : Option Addr) (n c : Nat) (most : Int) (e : Ending) (w' : World) : Prop :=
  (∃ (W H : Int) (zs : List Int) (A' : Option Addr) (c' : Nat), (validB W H zs = true ∧ W ≤ most ∧ H ≤ most) ∧ e = .returned (.agg #[.int .i64 W, .int .i64 H, .slice A' zs.length c']) ∧ w'.ownsRow w.heap.size 2 1 (.slice A' zs.length c') zs.length (vals zs)) ∧ SrcP w' b (K + 300) A n c ∧ w.grownBy w' (some b)
def kindsOk (zs : List Int) : Prop := ∀ z ∈ zs, 0 ≤ z ∧ z ≤ 2
theorem gb_drew {w w' : World} {r : Option Nat} (h : w.drew.grownBy w' r) : w.grownBy w' r := ⟨h.os, h.tape, h.output, h.size, h.block⟩
theorem gb_drewR {w w' : World} {r : Option Nat} (h : w.grownBy w' r) : w.grownBy w'.drew r := ⟨h.os, h.tape, h.output, h.size, h.block⟩
theorem grown_set {w w' : World} {r : Option Nat} (h : w.grownBy w' r) {a : Addr} (ha : w.heap.size ≤ a.block) (v : Value) : w.grownBy (w'.setCell a v) r :=
  ⟨h.os, h.tape, h.output, by simpa using h.size, fun k hk hne => (Below.heap_setCell _ _ _ k (by omega)).trans (h.block k hk hne)⟩
theorem SrcP.set {w : World} {b K n c : Nat} {A : Option Addr} (h : SrcP w b K A n c) {a : Addr} (ha : b ≠ a.block) (v : Value) : SrcP (w.setCell a v) b K A n c := by
  obtain ⟨i, s, h1, h2, h3⟩ := h
  exact ⟨i, s, h1, h2, h3.set ha v⟩
theorem SrcP.alloc {w : World} {b K n c : Nat} {A : Option Addr} (h : SrcP w b K A n c) (o : Obj) : SrcP (w.alloc o) b K A n c := h.keep (bal (Below.refl _ _) o)
theorem kinds_set {zs : List Int} {i : Nat} {z : Int} (h : kindsOk zs) (hz : 0 ≤ z ∧ z ≤ 2) : kindsOk (zs.set i z) := by
  intro y hy
  rcases List.mem_or_eq_of_mem_set hy with h1 | h1
  · exact h y h1
  · subst h1; exact hz
theorem kinds_valid {W H : Int} {zs : List Int} (hW : side W = true) (hH : side H = true) (hl : (zs.length : Int) = inner W H) (h : kindsOk zs) : validB W H zs = true := by
  simp only [validB, hW, hH, Bool.true_and, Bool.and_eq_true, decide_eq_true_eq, List.all_eq_true]
  refine ⟨hl, fun z hz => ?_⟩
  have := h z hz
  simp only [kindOk, inR, decide_eq_true_eq]
  omega
theorem own_setbox {w : World} {lo n g cap p : Nat} {cs : List Value} {ds : Array Value} {T' : TypeId} (hb : Box w p T' ds) (h : w.ownsRow lo 2 1 (.slice (some ⟨g, 0, none⟩) n cap) n cs) (hT : 2 ≠ T') (i : Nat) (v : Value) : Box (w.setCell ⟨g, i, none⟩ v) p T' ds := by
  refine Box.set hb (fun e => ?_) v
  have e' : p = g := e
  subst e'
  obtain ⟨c, f, h1⟩ := Go.Lib.ownsRow_kind h p rfl
  have h2 : w.heap[p]? = _ := hb
  rw [h1] at h2
  injection h2 with h2
  injection h2 with _ h2 _
  exact hT h2
set_option maxRecDepth 100000 in
set_option maxHeartbeats 8000000 in
theorem l02Draw_any (b K : Nat) (A : Option Addr) (n c B : Nat) (bs : List Int) (most : Int) (w : World) (hn : bs.length = n) (h : SrcP w b K A n c) (hb : BytesR w B A bs) (hB : B ≤ b) (hK : K ≤ 900000) (hnl : n ≤ 5000) (hm : 1 ≤ most) (hm2 : most ≤ 8) :
    Calls Try.prog 75 #[.pointer (some ⟨b, 0, none⟩), .int .i64 most] w (DrawnP w b K A n c most) := by
  have hbl := h.lt
  have HN := hid hn
  have HS := hid h
  have HBY := hid hb
  clear hn h hb
  have hby : ∀ w' : World, w.grownBy w' (some b) → BytesR w' B A bs := fun w' hg j z hj => by
    obtain ⟨h0, bb, off, e, hlt, hc⟩ := HBY.out j z hj
    refine ⟨h0, bb, off, e, hlt, ?_⟩
    have h1 := hg.block bb (by omega) (by intro e2; injection e2 with e2; omega)
    unfold World.cell? at hc ⊢
    rw [h1]
    exact hc
  have HBYg := hid hby
  clear hby
  go_enter Try.func75, Try.ntmps75
  go_wp2_with fail
  refine (pick_any b K A n c B bs most _ HN.out (HS.out.keep (bal (Below.refl _ _) _)) (HBY.out.below ((Below.refl _ _).alloc (by omega) _)) hB (by omega) hnl hm (by omega)).mono ?_
  rintro e w1 ⟨⟨x, ⟨x1, x2⟩, rfl⟩, hs1, hg1⟩
  have HS1 := hid hs1
  have KR1 := hid (Box.grew (Box.new w 30 #[.int .i64 0, .int .i64 0, .slice none 0 0]) hg1 (fun q hq => by injection hq with hq; omega))
  have HG1 := hid (grown_trans' (grown_of_below (bal (Below.refl _ _) (.cells #[.int .i64 0, .int .i64 0, .slice none 0 0] 30)) (some b)) hg1)
  clear hs1 hg1
  go_wp2_with fail
  refine (pick_any b (K + 1) A n c B bs most _ HN.out HS1.out (HBYg.out _ HG1.out) hB (by omega) hnl hm (by omega)).mono ?_
  rintro e w2 ⟨⟨y, ⟨y1, y2⟩, rfl⟩, hs2, hg2⟩
  have HS2 := hid hs2
  have KR2 := hid (Box.grew KR1.out hg2 (fun q hq => by injection hq with hq; omega))
  have HG2 := hid (grown_trans' HG1.out hg2)
  clear hs2 hg2
  obtain ⟨Wd, hWd⟩ : ∃ q, 1 + x = q := ⟨_, rfl⟩
  obtain ⟨Hd, hHd⟩ : ∃ q, 1 + y = q := ⟨_, rfl⟩
  have w1' : 1 ≤ Wd ∧ Wd ≤ most := by omega
  have h1' : 1 ≤ Hd ∧ Hd ≤ most := by omega
  obtain ⟨W1, W2⟩ := w1'
  obtain ⟨H1, H2⟩ := h1'
  have HSW : Hid (side Wd = true) := hid (by simp [side, inR]; omega)
  have HSH : Hid (side Hd = true) := hid (by simp [side, inR]; omega)
  go_wp2_with fail
  refine (l02New_any Wd Hd _ HSW.out HSH.out).mono ?_
  rintro e w3 ⟨⟨A3, c3, rfl, ho3⟩, hb3⟩
  have HS3 := hid (HS2.out.keep hb3)
  have KR3 := hid (Box.keep KR2.out hb3)
  have HG3 := hid (grown_trans' HG2.out (grown_of_below hb3 (some b)))
  have hbd := inner_bd HSW.out HSH.out
  have hN : ∃ N : Nat, inner Wd Hd = N ∧ N ≤ 112 := ⟨(inner Wd Hd).toNat, by unfold inner; omega, by unfold inner; omega⟩
  obtain ⟨N, hN, hN112⟩ := hN
  have hNN : (inner Wd Hd).toNat = N := by omega
  rw [hNN] at ho3 ⊢
  have HIN := hid hN
  have hz2 := HG2.out.size
  have HO3 := hid (Go.Joins.ownsRow_le ho3 (show w.heap.size + 1 ≤ w2.heap.size from KR2.out.lt) : w3.ownsRow (w.heap.size + 1) 2 1 _ _ _)
  have hz3 := HG3.out.size
  have hz4 := hb3.size
  clear hb3 ho3 hbd hN hNN hWd hHd x1 x2 y1 y2
  obtain ⟨Ra, Rb, Rc⟩ := KR3.out.three
  have Rz := KR3.out.lt
  have Rf := KR3.out.free
  go_wp2_with fail
  refine (pick_any b (K + 1 + 1) A n c B bs 4 _ HN.out (HS3.out.alloc _) ((HBYg.out _ HG3.out).below ((Below.refl B w3).alloc (by omega) _)) hB (by omega) hnl (by omega) (by omega)).mono ?_
  rintro e w4 ⟨⟨sm, ⟨m1, m2⟩, rfl⟩, hs4, hg4⟩
  have HS4 := hid hs4
  have KR4 := hid (Box.grew (Box.alloc KR3.out _) hg4 (fun q hq => by injection hq with hq; omega))
  have KP4 := hid (Box.grew (Box.new w3 30 #[.int .i64 Wd, .int .i64 Hd, .slice A3 N c3]) hg4 (fun q hq => by injection hq with hq; omega))
  have HO4 := hid (srow_kept (HO3.out.alloc _) hg4 (show b < w.heap.size + 1 by omega))
  have HG4 := hid (grown_trans' HG3.out (grown_trans' (grown_of_below (bal (Below.refl _ _) _) (some b)) hg4))
  clear hs4 hg4 Ra Rb Rc Rz Rf
  go_wp2_with fail
  go_loopg [8] N (fun g i wr => ∃ (k : Nat) (zs : List Int), k ≤ N ∧ i = .int .i64 k ∧ g = N - k ∧ Hid (zs.length = N ∧ kindsOk zs) ∧ Hid (wr.ownsRow (w.heap.size + 1) 2 1 (.slice A3 N c3) N (vals zs)) ∧ Hid (Box wr w.heap.size 30 #[.int .i64 0, .int .i64 0, .slice none 0 0]) ∧ Hid (Box wr w3.heap.size 30 #[.int .i64 Wd, .int .i64 Hd, .slice A3 N c3]) ∧ Hid (SrcP wr b (K + 4 + 2 * k) A n c) ∧ Hid (w.grownBy wr (some b)))
  case atStart => exact ⟨0, List.replicate N 0, Nat.zero_le _, rfl, rfl, hid ⟨by simp, fun z hz => by have := (List.mem_replicate.1 hz).2; omega⟩, HO4, KR4, KP4, hid (HS4.out.more (by omega)), HG4⟩
  case round =>
    obtain ⟨k, zs, hk, rfl, hg, HZ, HO, KR, KP, HSr, HG⟩ := hrel
    obtain ⟨Pa, Pb, Pc⟩ := KP.out.three
    have Pz := KP.out.lt
    have hwz := HG.out.size
    by_cases hlt : k < N
    · obtain ⟨zk, hzk⟩ : ∃ z, zs[k]? = some z := ⟨_, List.getElem?_eq_getElem (by have := HZ.out.1; omega)⟩
      have HZK := hid hzk
      rcases Go.Joins.ownsRow_forms HO.out with ⟨_, hn0⟩ | ⟨g3, cp, ep⟩
      · exact absurd hlt (by omega)
      simp only [Value.slice.injEq] at ep
      obtain ⟨rfl, -, rfl⟩ := ep
      have hg3 := HO.out.lt g3 rfl
      obtain ⟨g31, g32⟩ := hg3
      clear hzk
      go_wp2_with fail
      refine (pick_any b (K + 4 + 2 * k) A n c B bs 4 _ HN.out HSr.out (HBYg.out _ HG.out) hB (by omega) hnl (by omega) (by omega)).mono ?_
      rintro e w5 ⟨⟨v1, ⟨v11, v12⟩, rfl⟩, hs5, hg5⟩
      have HS5 := hid hs5
      have KR5 := hid (Box.grew KR.out hg5 (fun q hq => by injection hq with hq; omega))
      have KP5 := hid (Box.grew KP.out hg5 (fun q hq => by injection hq with hq; omega))
      have HO5 := hid (srow_kept HO.out hg5 (show b < w.heap.size + 1 by omega))
      have HG5 := hid (grown_trans' HG.out hg5)
      have hz5 := hid hg5.size
      clear hs5 hg5 Pa Pb Pc
      by_cases hvs : v1 < sm
      · go_wp2_with fail
        have z5 := hz5.out
        go_region_held3 (fun zz => zz.cell? ⟨w3.heap.size, 2, none⟩ = some (.slice (some ⟨g3, 0, none⟩) N c3))
          (first | (with_reducible exact (Box.three KP6.out).2.2) | (with_reducible exact (Box.three (own_setbox KP6.out HO6.out (by decide) _ _)).2.2) | exact (Box.three KP5.out).2.2)
          (first | (go_at_call 89; refine (pick_any b (K + 4 + 2 * k + 1) A n c B bs 2 w5.drew HN.out HS5.out (HBYg.out _ (gb_drewR HG5.out)) hB (by omega) hnl (by omega) (by omega)).mono ?_; rintro e w6 ⟨⟨v2, ⟨v21, v22⟩, rfl⟩, hs6, hg6'⟩; have hg6 := gb_drew hg6'; have HS6 := hid hs6; have KR6 := hid (Box.grew KR5.out hg6 (fun q hq => by injection hq with hq; omega)); have KP6 := hid (Box.grew KP5.out hg6 (fun q hq => by injection hq with hq; omega)); have HO6 := hid (srow_kept HO5.out hg6 (show b < w.heap.size + 1 by omega)); have HG6 := hid (grown_trans' HG5.out hg6); have hz6 := hid hg6.size; have z6 : w5.heap.size ≤ w6.heap.size := hg6.size; clear hs6 hg6 hg6'; have hcell : w6.cell? ⟨g3, k, none⟩ = some (.int .i64 zk) := (World.ownsRow.cellAt HO6.out k (by omega)).trans (by simp [vals, HZK.out]); have hfro := World.ownsRow.frozenAt HO6.out k; have g6z : g3 < w6.heap.size := (HO6.out.lt g3 rfl).2; have HVB : Hid (0 ≤ 1 + v2 ∧ 1 + v2 ≤ 2) := hid (by omega); have tw : IntKind.i64.wrap (1 + v2) = 1 + v2 := IntWalk.i64_in _ (by omega)))
        go_wp2_with fail
        go_roundg (N - (k + 1))
        case measure => omega
        case rel =>
          have hst := World.ownsRow.stored HO6.out k (.int .i64 (1 + v2))
          exact ⟨k + 1, zs.set k (1 + v2), by omega, by go_num, rfl, hid ⟨by simp [HZ.out.1], kinds_set HZ.out.2 HVB.out⟩, hid (by have h := hst.1; rw [show (vals zs).set k (.int .i64 (1 + v2)) = vals (zs.set k (1 + v2)) by simp [vals]] at h; exact h), hid (Box.set KR6.out (by simp <;> omega) _), hid (own_setbox KP6.out HO6.out (by decide) _ _), hid ((HS6.out.more (by omega)).set (by simp <;> omega) _), hid (grown_set HG6.out (by simp <;> omega) _)⟩
      · go_wp2_with fail
        go_roundg (N - (k + 1))
        case measure => omega
        case rel => exact ⟨k + 1, zs, by omega, by go_num, rfl, HZ, HO5, KR5, KP5, hid (HS5.out.more (by omega)), HG5⟩
    · obtain rfl : k = N := by omega
      obtain ⟨Ra, Rb, Rc⟩ := KR.out.three
      have Rz := KR.out.lt
      have Rf := KR.out.free
      go_wp2_with fail
      have hE := HG.out
      refine bodyPost_ret (v := .agg #[.int .i64 Wd, .int .i64 Hd, .slice A3 k c3]) (by simp [results, Try.results75, go_sem, *]) rfl ⟨⟨Wd, Hd, zs, A3, c3, ⟨kinds_valid HSW.out HSH.out (by rw [HZ.out.1]; exact HIN.out.symm) HZ.out.2, W2, H2⟩, by rw [HZ.out.1], ?_⟩, ?_, ?_⟩
      · rw [HZ.out.1]
        refine Go.Joins.ownsRow_le (base := w.heap.size + 1) ?_ (by omega)
        repeat (refine ownsRow_setCell_below ?_ (by simp) _)
        exact HO.out
      · repeat (refine SrcP.set ?_ (by simp <;> omega) _)
        exact HSr.out.more (by omega)
      · repeat (refine grown_set ?_ (by simp) _)
        exact hE
end Go.Proofs.Ytbgigompkmnapaa

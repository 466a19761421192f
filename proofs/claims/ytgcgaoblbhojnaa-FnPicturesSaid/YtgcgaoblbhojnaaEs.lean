/- Rows of strings: compared, marked, held. -/
import Derived.Test.YtgcgaoblbhojnaaRg
import Derived.Laws.BytesArg
import Derived.Laws.Concat
import Derived.Lib.SmallJoins
import Derived.Deep.AppendLies
import Derived.Deep.RegionHeld3
namespace Go.Proofs.Ytgcgaoblbhojnaa
set_option linter.unusedSimpArgs false
set_option linter.unusedVariables false
open Go.ChangeShapes Go.WideShapes Go.ChangeAt Go.RowKit
theorem beq_str (x : ByteArray) : (x == x) = true := by
  first
  | simp
  | (cases x with | mk d => show (d == d) = true; simp)
theorem bne_str (x : ByteArray) : (x != x) = false := by simp [bne, beq_str]
abbrev strs (ss : List ByteArray) : List Value := ss.map Value.string
theorem row_formS {w : World} {B s n : Nat} {T : TypeId} {v : Value} {cs : List Value} (h : w.ownsRow B T s v n cs) : ∃ A c, v = .slice A n c := by
  rcases h.2 with ⟨rfl, h0⟩ | ⟨g, cap, cur, rfl, _⟩
  · exact ⟨none, 0, by rw [h0]⟩
  · exact ⟨_, _, rfl⟩
set_option maxRecDepth 100000 in
set_option maxHeartbeats 1000000 in
theorem eqStringS_any (v1 v2 : Value) (ss : List ByteArray) (n B1 B2 : Nat) (w : World) (h1 : w.ownsRow B1 9 1 v1 n (strs ss)) (h2 : w.ownsRow B2 9 1 v2 n (strs ss)) (hn : n ≤ maxLen) :
    Calls Try.prog 22 #[v1, v2] w fun e w' => e = .returned (.bool true) ∧ Below w.heap.size w w' := by
  have hzl : ss.length = n := by simpa [strs] using h1.1
  unfold maxLen at hn
  rcases Nat.eq_zero_or_pos n with h0 | hp
  · subst h0
    obtain ⟨A1, c1, rfl⟩ := row_formS h1
    obtain ⟨A2, c2, rfl⟩ := row_formS h2
    clear h1 h2 hzl
    go_enter Try.func22, Try.ntmps22
    go_wp2_with fail
    refine wp_loop_rounds 1 ?_
    rw [rounds_succ]
    go_wp2_with fail
    go_ret
    exact ⟨rfl, Below.refl _ _⟩
  · obtain ⟨g1, p1, rfl⟩ := Go.Joins.ownsRow_form h1 hp
    obtain ⟨g2, p2, rfl⟩ := Go.Joins.ownsRow_form h2 hp
    have H1 := hid h1
    have H2 := hid h2
    clear h1 h2
    go_enter Try.func22, Try.ntmps22
    go_wp2_with fail
    go_loopg [5] n (fun g i wr => ∃ j : Nat, j ≤ n ∧ i = .int .i64 j ∧ g = n - j ∧ ∃ m, wr = w.drewN m)
    case atStart => exact ⟨0, Nat.zero_le _, rfl, rfl, 0, rfl⟩
    case round =>
      obtain ⟨j, hj, rfl, hg, m, rfl⟩ := hrel
      by_cases hlt : j < n
      · obtain ⟨x, hx⟩ : ∃ z, ss[j]? = some z := ⟨_, List.getElem?_eq_getElem (by omega)⟩
        have c1 : w.cell? ⟨g1, j, none⟩ = some (.string x) := (World.ownsRow.cellAt H1.out j (by omega)).trans (by simp [strs, hx])
        have c2 : w.cell? ⟨g2, j, none⟩ = some (.string x) := (World.ownsRow.cellAt H2.out j (by omega)).trans (by simp [strs, hx])
        clear hx
        have hb : (x != x) = false := bne_str x
        go_wp2_with fail
        go_quiet (fail)
        go_wp2_with fail
        go_roundg (n - (j + 1))
        case measure => omega
        case rel => exact ⟨j + 1, by omega, by go_num, rfl, _, rfl⟩
      · have hkl : j = n := by omega
        subst hkl
        go_wp2_with fail
        go_ret
        exact ⟨rfl, below_drewN (Below.refl _ _) m⟩
def mtF : Nat → Nat → ByteArray → ByteArray
  | 0, _, out => out
  | f + 1, k, out => if k = 0 then out else mtF f (k / 10) (strOfNums [48 + (k : Int) % 10] ++ out)
/-- The text of a mark. -/
def markTx (k : Nat) : ByteArray := ⟨#[109]⟩ ++ mtF 19 k ⟨#[]⟩
theorem conv1 (w : World) (d : Int) : (convert 54 9 (.slice (some ⟨w.heap.size, 0, none⟩) 1 1)).run Try.prog (w.alloc (.cells #[.int .u8 d] 5)) = .ok (.string (strOfNums [d])) (w.alloc (.cells #[.int .u8 d] 5)) := by
  refine run_convert_bytes_arg (P := Try.prog) _ 54 5 Try.underlying54 Try.underlying5 w.heap.size 0 1 1 [d] rfl ?_ 9 Try.underlying9
  intro i hi
  obtain rfl : i = 0 := by omega
  rw [(Box.new w _ _).cell 0]
  rfl
set_option maxRecDepth 100000 in
set_option maxHeartbeats 1000000 in
theorem markText_any (k : Nat) (w : World) (h0 : 0 < k) (hk : k ≤ 9223372036854775807) :
    Calls Try.prog 77 #[.int .i64 k] w fun e w' => e = .returned (.string (markTx k)) ∧ Below w.heap.size w w' := by
  go_enter Try.func77, Try.ntmps77
  go_wp2_with fail
  go_loopg [0, 3] 19 (fun f a out wr => ∃ (q : Nat) (o : ByteArray), a = .int .i64 q ∧ out = .string o ∧ q ≤ 9223372036854775807 ∧ q < 10 ^ f ∧ Hid (mtF f q o = mtF 19 k ⟨#[]⟩) ∧ o.size + f ≤ 19 ∧ Hid (Below w.heap.size w wr))
  case atStart => exact ⟨k, ⟨#[]⟩, rfl, rfl, hk, by omega, hid rfl, Nat.le_refl 19, hid (Below.refl _ _)⟩
  case round =>
    obtain ⟨q, o, rfl, rfl, hq, hqf, HM, ho, HB⟩ := hrel
    by_cases hz : q = 0
    · subst hz
      have HE : Hid (o = mtF 19 k ⟨#[]⟩) := hid (by rw [← HM.out]; cases gk <;> rfl)
      have hs : ¬ (9223372036854775807 < (⟨#[109]⟩ : ByteArray).size + o.size) := by rw [show (⟨#[109]⟩ : ByteArray).size = 1 from rfl]; omega
      clear hqf
      go_wp2_with fail
      go_ret
      exact ⟨by rw [HE.out]; rfl, HB.out⟩
    · obtain ⟨m, rfl⟩ : ∃ m, gk = m + 1 := by
        cases gk with
        | zero => simp at hqf; omega
        | succ m => exact ⟨m, rfl⟩
      have HM2 : Hid (mtF m (q / 10) (strOfNums [48 + (q : Int) % 10] ++ o) = mtF 19 k ⟨#[]⟩) := hid (by rw [← HM.out, mtF, if_neg hz])
      have HQ : Hid (q / 10 < 10 ^ m) := hid (by rw [Nat.pow_succ] at hqf; omega)
      have tw : IntKind.u8.wrap (48 + (q : Int) % 10) = 48 + (q : Int) % 10 := IntWalk.u8_in _ (by omega)
      have hs1 : (strOfNums [48 + (q : Int) % 10]).size = 1 := strOfNums_size _
      have hs : ¬ (9223372036854775807 < (strOfNums [48 + (q : Int) % 10]).size + o.size) := by rw [hs1]; omega
      have HS : Hid ((strOfNums [48 + (q : Int) % 10] ++ o).size + m ≤ 19) := hid (by rw [ByteArray.size_append, hs1]; omega)
      have kc := conv1 wr (48 + (q : Int) % 10)
      clear hqf hs1
      have hpos : (0 : Int) < q := by omega
      go_wp2_with fail
      go_roundg m
      case measure => omega
      case rel => exact ⟨q / 10, _, by go_num, rfl, by omega, HQ.out, HM2, HS.out, hid (bal HB.out _)⟩
/-- n marks from k on; a row of which j are marked. -/
def markTs (k n : Nat) : List ByteArray := (List.range n).map fun i => markTx (k + i)
theorem markTs_length (k n : Nat) : (markTs k n).length = n := by simp [markTs]
theorem markTs_at {k n i : Nat} (h : i < n) : (markTs k n)[i]? = some (markTx (k + i)) := by simp [markTs, h]
def markedS (ss : List ByteArray) (k j : Nat) : List ByteArray := markTs k j ++ ss.drop j
theorem markedS_zero (ss : List ByteArray) (k : Nat) : markedS ss k 0 = ss := by simp [markedS, markTs]
theorem markedS_full (ss : List ByteArray) (k : Nat) : markedS ss k ss.length = markTs k ss.length := by simp [markedS]
theorem markedS_set (ss : List ByteArray) (k j : Nat) (h : j < ss.length) : (strs (markedS ss k j)).set j (.string (markTx (k + j))) = strs (markedS ss k (j + 1)) := by
  have : (markedS ss k j).set j (markTx (k + j)) = markedS ss k (j + 1) := by
    unfold markedS
    rw [List.set_append_right _ _ (by simp [markTs]), markTs_length, Nat.sub_self, List.drop_eq_getElem_cons h, List.set_cons_zero]
    simp [markTs, List.range_succ]
  rw [← this]; simp [strs]
set_option maxRecDepth 100000 in
set_option maxHeartbeats 1000000 in
theorem markStringS_any (v : Value) (ss : List ByteArray) (n k lo hi : Nat) (w : World) (h : Rgn w lo hi 9 1 v n (strs ss)) (h0 : 0 < k) (hk : k + n ≤ 4611686018427387904) :
    Calls Try.prog 31 #[v, .int .i64 k] w fun e w' => e = .returned (.int .i64 ((k + n : Nat) : Int)) ∧ Rgn w' lo hi 9 1 v n (strs (markTs k n)) ∧ Chg w w' lo hi := by
  have hzl : ss.length = n := by simpa [strs] using h.1.1
  rcases Nat.eq_zero_or_pos n with h0' | hp
  · subst h0'
    obtain ⟨A1, c1, rfl⟩ := row_formS h.1
    obtain rfl : ss = [] := List.eq_nil_of_length_eq_zero (by omega)
    have HO := hid h
    clear h hzl
    go_enter Try.func31, Try.ntmps31
    go_wp2_with fail
    refine wp_loop_rounds 1 ?_
    rw [rounds_succ]
    go_wp2_with fail
    go_ret
    exact ⟨by simp, by simpa [markTs] using HO.out, Chg.refl _ _ _⟩
  · obtain ⟨g, cap, rfl⟩ := Go.Joins.ownsRow_form h.1 hp
    have HR := hid h.row
    have HU := hid h.2
    have HL := hid h
    clear h
    go_enter Try.func31, Try.ntmps31
    go_wp2_with fail
    go_loopg [1, 5] n (fun r q i wr => ∃ j : Nat, j ≤ n ∧ q = .int .i64 ((k + j : Nat) : Int) ∧ i = .int .i64 j ∧ r = n - j ∧ Hid (Rgn wr lo hi 9 1 (.slice (some ⟨g, 0, none⟩) n cap) n (strs (markedS ss k j))) ∧ Hid (Chg w wr lo hi))
    case atStart => exact ⟨0, Nat.zero_le _, by simp, rfl, rfl, by rw [markedS_zero]; exact HL, hid (Chg.refl _ _ _)⟩
    case round =>
      obtain ⟨j, hj, rfl, rfl, hr, HO, HG⟩ := hrel
      by_cases hlt : j < n
      · go_wp2_with fail
        refine (markText_any (k + j) _ (by omega) (by omega)).mono ?_
        rintro e w5 ⟨rfl, hb5⟩
        have ho5 := HO.out.keep hb5
        obtain ⟨u, hu⟩ : ∃ u, (strs (markedS ss k j))[j]? = some u := ⟨_, List.getElem?_eq_getElem (by have := HO.out.1.1; omega)⟩
        have ca : w5.cell? ⟨g, j, none⟩ = some u := (World.ownsRow.cellAt ho5.1 j (by omega)).trans hu
        have fa := World.ownsRow.frozenAt ho5.1 j
        have st := World.ownsRow.stored ho5.1 j (.string (markTx (k + j)))
        rw [markedS_set ss k j (by omega)] at st
        have HST := hid st
        have HG5 := hid (HG.out.trans ((Chg.of_below hb5 lo hi).trans (Chg.of_grown st.2 HR.out)))
        clear hu st hb5 ho5
        go_wp2_with fail
        go_roundg (n - (j + 1))
        case measure => omega
        case rel => exact ⟨j + 1, by omega, by go_num, by go_num, rfl, hid ⟨by simpa using HST.out.1, HU.out⟩, by simpa using HG5⟩
      · have hkl : j = n := by omega
        subst hkl
        have HO2 : Hid (Rgn wr lo hi 9 1 (.slice (some ⟨g, 0, none⟩) j cap) j (strs (markTs k j))) := hid (by have := HO.out; rw [← hzl] at this ⊢; rwa [markedS_full] at this)
        go_wp2_with fail
        go_ret
        exact ⟨rfl, HO2.out, HG.out⟩
set_option maxRecDepth 100000 in
set_option maxHeartbeats 1000000 in
theorem heldStringS_any (v : Value) (n k lo hi : Nat) (w : World) (h : Rgn w lo hi 9 1 v n (strs (markTs k n))) (h0 : 0 < k) (hk : k + n ≤ 4611686018427387904) :
    Calls Try.prog 32 #[v, .int .i64 k] w fun e w' => e = .returned (.int .i64 ((k + n : Nat) : Int)) ∧ Below w.heap.size w w' := by
  rcases Nat.eq_zero_or_pos n with h0' | hp
  · subst h0'
    obtain ⟨A1, c1, rfl⟩ := row_formS h.1
    clear h
    go_enter Try.func32, Try.ntmps32
    go_wp2_with fail
    refine wp_loop_rounds 1 ?_
    rw [rounds_succ]
    go_wp2_with fail
    go_ret
    exact ⟨by simp, Below.refl _ _⟩
  · obtain ⟨g, cap, rfl⟩ := Go.Joins.ownsRow_form h.1 hp
    have HL := hid h
    clear h
    go_enter Try.func32, Try.ntmps32
    go_wp2_with fail
    go_loopg [1, 5] n (fun r q i wr => ∃ j : Nat, j ≤ n ∧ q = .int .i64 ((k + j : Nat) : Int) ∧ i = .int .i64 j ∧ r = n - j ∧ Hid (Below w.heap.size w wr))
    case atStart => exact ⟨0, Nat.zero_le _, by simp, rfl, rfl, hid (Below.refl _ _)⟩
    case round =>
      obtain ⟨j, hj, rfl, rfl, hr, HB⟩ := hrel
      by_cases hlt : j < n
      · have R1 := hid (HL.out.keep HB.out)
        have ca : wr.cell? ⟨g, j, none⟩ = some (.string (markTx (k + j))) := (World.ownsRow.cellAt R1.out.1 j (by omega)).trans (by simp [strs, markTs_at hlt])
        have b1 : g < wr.heap.size := (R1.out.1.lt g rfl).2
        have hb : (markTx (k + j) != markTx (k + j)) = false := bne_str _
        go_wp2_with fail
        go_region_held3 (fun zz => zz.cell? ⟨g, j, none⟩ = some (.string (markTx (k + j))))
          (first | (with_reducible exact R5.out) | exact ca)
          (first | (go_at_call 77; refine (markText_any (k + j) _ (by omega) (by omega)).mono ?_; rintro e w5 ⟨rfl, hb5⟩; have hc5 := Below.trans (below_refl_drew _ _) hb5; have R5 : Hid (w5.cell? ⟨g, j, none⟩ = some (.string (markTx (k + j)))) := hid ((hc5.cell (p := ⟨g, j, none⟩) b1).trans ca); have HB5 := hid (bstep HB.out hc5); clear hb5 hc5))
        go_wp2_with fail
        go_roundg (n - (j + 1))
        case measure => omega
        case rel => exact ⟨j + 1, by omega, by go_num, by go_num, rfl, HB5⟩
      · have hkl : j = n := by omega
        subst hkl
        go_wp2_with fail
        go_ret
        exact ⟨rfl, HB.out⟩
end Go.Proofs.Ytgcgaoblbhojnaa

/- SplitWords: the parts of a text. -/
import Derived.Test.YtgcgaoblbhojnaaNm
import Derived.Test.YtgcgaoblbhojnaaEs
import Derived.Test.YtgcgaoblbhojnaaNs
import Derived.OwnWalk
import Derived.Laws.Strings3
namespace Go.Proofs.Ytgcgaoblbhojnaa
set_option linter.unusedSimpArgs false
set_option linter.unusedVariables false
open Go.ChangeShapes Go.WideShapes Go.ChangeAt Go.RowKit
theorem infoStr2 : (Try.prog.info? 9).map (fun i => (i.zero, i.size, i.bytes)) = some (some (.string ⟨#[]⟩), 1, 16) := by kernel_rfl
/-- The parts that end before byte k, and where the next begins. -/
def spS (s : ByteArray) (b : Int) : Nat → List ByteArray × Nat
  | 0 => ([], 0)
  | k + 1 => if (byteL s)[k]? = some b then ((spS s b k).1 ++ [s.extract (spS s b k).2 k], k + 1) else spS s b k
def spL (s : ByteArray) (b : Int) : List ByteArray := (spS s b s.size).1 ++ [s.extract (spS s b s.size).2 s.size]
theorem spS_bd (s : ByteArray) (b : Int) : ∀ k, (spS s b k).1.length ≤ k ∧ (spS s b k).2 ≤ k := by
  intro k
  induction k with
  | zero => exact ⟨Nat.le_refl _, Nat.le_refl _⟩
  | succ k ih =>
    rw [spS]
    split
    · simp; omega
    · omega
theorem spL_len (s : ByteArray) (b : Int) : (spL s b).length ≤ s.size + 1 := by
  have := (spS_bd s b s.size).1
  simp [spL]
  omega
def full (x : ByteArray) : Bool := !x.toList.isEmpty
def swL (s : ByteArray) : List ByteArray := (spL s 32).filter full
theorem swL_len (s : ByteArray) : (swL s).length ≤ s.size + 1 := Nat.le_trans (List.length_filter_le _ _) (spL_len s 32)
theorem filter_take (ss : List ByteArray) (j : Nat) (x : ByteArray) (h : ss[j]? = some x) : (ss.take (j + 1)).filter full = (ss.take j).filter full ++ (if full x then [x] else []) := by
  rw [List.take_add_one, h, List.filter_append]
  cases hx : full x <;> simp [hx]
theorem filter_len (ss : List ByteArray) (j : Nat) : ((ss.take j).filter full).length ≤ j := Nat.le_trans (List.length_filter_le _ _) (by simp; omega)
set_option maxRecDepth 100000 in
set_option maxHeartbeats 2000000 in
theorem l01Split_any (s : ByteArray) (b : Int) (w : World) (hs : s.size ≤ 1048576) (hb0 : 0 ≤ b ∧ b ≤ 255) :
    Calls Try.prog 110 #[.string s, .int .u8 b] w fun e w' => (∃ A' c', e = .returned (.slice A' (spL s b).length c') ∧ w'.ownsRow w.heap.size 9 1 (.slice A' (spL s b).length c') (spL s b).length (strs (spL s b))) ∧ Below w.heap.size w w' := by
  obtain ⟨us, his, hs0, hs1, hs2⟩ := info_parts infoStr2
  obtain ⟨n, hn⟩ : ∃ n, s.size = n := ⟨_, rfl⟩
  have hn20 : n ≤ 1048576 := by omega
  have HL : Hid (spL s b = (spS s b n).1 ++ [s.extract (spS s b n).2 n]) := hid (by unfold spL; rw [hn])
  have ho1 := World.ownsRow_lit (base := w.heap.size) (e := 9) (size := 1) w #[] 0 (Nat.le_refl _) (Nat.zero_le _) rfl
  have HO1 := hid ho1
  clear ho1
  go_enter Try.func110, Try.ntmps110
  go_wp2_with fail
  go_loopg [5, 6, 7] n (fun g v f i wr => ∃ k : Nat, k ≤ n ∧ f = .int .i64 ((spS s b k).2 : Nat) ∧ i = .int .i64 k ∧ g = n - k ∧ Hid (wr.ownsRow w.heap.size 9 1 v (spS s b k).1.length (strs (spS s b k).1)) ∧ Hid (Below w.heap.size w wr))
  case atStart => exact ⟨0, Nat.zero_le _, rfl, rfl, rfl, HO1, hid (bal (Below.refl _ _) _)⟩
  case round =>
    obtain ⟨k, hk, rfl, rfl, hg, HO, HB⟩ := hrel
    obtain ⟨p1, p2⟩ := spS_bd s b k
    obtain ⟨ps, hps⟩ : ∃ ps, spS s b k = ps := ⟨_, rfl⟩
    have HPS := hid hps
    rw [hps] at HO p1 p2
    simp only [hps]
    clear hps
    obtain ⟨os, fr⟩ := ps
    dsimp only at HO p1 p2 ⊢
    have hz := HB.out.size
    by_cases hlt : k < n
    · have hks : k < s.size := by omega
      obtain ⟨c, hc⟩ : ∃ c : Int, ((s[k]'hks).toNat : Int) = c := ⟨_, rfl⟩
      have HBY : Hid ((byteL s)[k]? = some c) := hid (by rw [byte_at s k hks, hc])
      by_cases he : c = b
      · have hbb : (c == b) = true := by simp [he]
        have HE : Hid (spS s b (k + 1) = (os ++ [s.extract fr k], k + 1)) := hid (by rw [spS, HBY.out, if_pos (by rw [he]), HPS.out])
        clear he
        go_wp2_with (at_builtin; (refine wpList_append_own _ rfl _ _ 27 rfl w.heap.size 9 us (.string ⟨#[]⟩) 1 16 Try.underlying27 his hs0 hs1 hs2 rfl (by decide) _ (os.length) (strs os) rfl (HO.out.alloc _) ⟨wr.heap.size, 0, none⟩ 1 1 [.string (s.extract fr k)] rfl rfl (World.news_of_block (cs := #[.string (s.extract fr k)]) (t := 9) (fr := (0, 0)) (heap_alloc_new wr _)) (by simp [Value.oneCell']) (by unfold maxLen; omega) (by omega) (by simp; omega) ?_; intro v' wz ho2 hgr _))
        have HH := hid (And.intro ho2 hgr)
        clear ho2 hgr
        go_roundg (n - (k + 1))
        case measure => omega
        case rel => exact ⟨k + 1, by omega, by rw [HE.out]; go_num, by go_num, rfl, by rw [HE.out]; exact hid (by simpa [strs] using HH.out.1), hid (bgrew (lo := w.heap.size) (bal HB.out _) HH.out.2 (fun q hq => (HO.out.lt q hq).1) (Nat.le_refl _))⟩
      · have hbb : (c == b) = false := by simp [he]
        have HE : Hid (spS s b (k + 1) = (os, fr)) := hid (by rw [spS, HBY.out, if_neg (by intro h; injection h with h; exact he h), HPS.out])
        clear he
        go_wp2_with fail
        go_roundg (n - (k + 1))
        case measure => omega
        case rel => exact ⟨k + 1, by omega, by rw [HE.out], by go_num, rfl, by rw [HE.out]; exact HO, HB⟩
    · obtain rfl : k = n := by omega
      have HLL : Hid (spL s b = os ++ [s.extract fr k]) := hid (by rw [HL.out, HPS.out])
      go_wp2_with (at_builtin; (refine wpList_append_own _ rfl _ _ 27 rfl w.heap.size 9 us (.string ⟨#[]⟩) 1 16 Try.underlying27 his hs0 hs1 hs2 rfl (by decide) _ (os.length) (strs os) rfl (HO.out.alloc _) ⟨wr.heap.size, 0, none⟩ 1 1 [.string (s.extract fr k)] rfl rfl (World.news_of_block (cs := #[.string (s.extract fr k)]) (t := 9) (fr := (0, 0)) (heap_alloc_new wr _)) (by simp [Value.oneCell']) (by unfold maxLen; omega) (by omega) (by simp; omega) ?_; intro v' wz ho2 hgr _))
      have HH := hid (And.intro ho2 hgr)
      clear hgr
      obtain ⟨A9, c9, rfl⟩ := own_form ho2
      clear ho2
      go_wp2_with fail
      go_ret
      refine ⟨⟨A9, c9, by rw [HLL.out]; simp, ?_⟩, bgrew (lo := w.heap.size) (bal HB.out _) HH.out.2 (fun q hq => (HO.out.lt q hq).1) (Nat.le_refl _)⟩
      rw [HLL.out]
      simpa [strs] using HH.out.1
end Go.Proofs.Ytgcgaoblbhojnaa

/- Opening the arguments of the laws: points, walkers. -/
import Derived.Test.YtffiigfkmdgaaaaRk
namespace Go.Proofs.Ytffiigfkmdgaaaa
set_option linter.unusedSimpArgs false
set_option linter.unusedVariables false
open Go.ChangeShapes Go.WideShapes Go.ChangeAt Go.RowKit Go.Joins
section
variable {H : Type} {enc : TypeId × Value → H} {W : World} {base : Nat} {sp : Nat → Bool} {held : Bool}
theorem cellsQ : Try.prog.cellsOf 26 = 2 := by kernel_rfl
theorem honeQ : Go.Deep.oneCellFields Try.prog #[{ name := "X", type := 2, offset := 0, embedded := false, tag := "", pkgPath := "", byteOffset := 0 }, { name := "Y", type := 2, offset := 1, embedded := false, tag := "", pkgPath := "", byteOffset := 8 }] = true := by kernel_rfl
set_option maxRecDepth 100000 in
theorem point_open {b0 : Nat} {r : Reach} {v : Value} {d : DataW H} {ps : List MemPlace} (hv : Value.okWide Try.prog W r b0 26 v) (h : DataW.Trod enc Try.prog W base sp held 26 v d ps) :
    ∃ x y, v = .agg #[.int .i64 x, .int .i64 y] ∧ (Lit.int .i64 x).wf = true ∧ (Lit.int .i64 y).wf = true := by
  obtain ⟨c0, c1, y0, y1, m, rfl, rfl, rfl, hy0, hy1⟩ := open_agg2 Try.underlying26 honeQ cellsQ hv h
  obtain ⟨a, e0, _, wa⟩ := DataW.trod_int Try.underlying2 hy0
  obtain ⟨b, e1, _, wb⟩ := DataW.trod_int Try.underlying2 hy1
  simp at e0 e1
  subst e0 e1
  exact ⟨a, b, rfl, wa, wb⟩
theorem cellsR : Try.prog.cellsOf 52 = 4 := by kernel_rfl
set_option maxRecDepth 100000 in
theorem walker_open {b0 : Nat} {r : Reach} {v : Value} {d : DataW H} {ps : List MemPlace} (hv : Value.okWide Try.prog W r b0 52 v) (h : DataW.Trod enc Try.prog W base sp held 52 v d ps) :
    ∃ x y dx dy, v = .agg #[.int .i64 x, .int .i64 y, .int .i64 dx, .int .i64 dy] ∧ (Lit.int .i64 x).wf = true ∧ (Lit.int .i64 y).wf = true ∧ (Lit.int .i64 dx).wf = true ∧ (Lit.int .i64 dy).wf = true := by
  obtain ⟨cs, rfl, hsz⟩ := okWide_struct Try.underlying52 hv
  obtain ⟨c0, c1, c2, c3, rfl⟩ := array4 (hsz.trans cellsR)
  obtain ⟨fuel, hf⟩ := h
  obtain ⟨xs, n, _, hx, _, hlen, hg⟩ := DataW.trod_struct Try.underlying52 hf
  match xs, hlen with
  | [y0, y1, y2], _ =>
    have g0 : DataW.trod enc Try.prog W base sp held n 26 [c0, c1] = some y0 := by
      have h := hg 0 _ rfl
      simpa [cellsQ, Value.cells] using h
    have g1 : DataW.trod enc Try.prog W base sp held n 2 [c2] = some y1 := by
      have h := hg 1 _ rfl
      simpa [cellsI, Value.cells] using h
    have g2 : DataW.trod enc Try.prog W base sp held n 2 [c3] = some y2 := by
      have h := hg 2 _ rfl
      simpa [cellsI, Value.cells] using h
    obtain ⟨zs, m, _, hz, _, hzl, hzg⟩ := DataW.trod_struct Try.underlying26 g0
    match zs, hzl with
    | [u0, u1], _ =>
      have k0 : DataW.trod enc Try.prog W base sp held m 2 [c0] = some u0 := by
        have h := hzg 0 _ rfl
        simpa [cellsI] using h
      have k1 : DataW.trod enc Try.prog W base sp held m 2 [c1] = some u1 := by
        have h := hzg 1 _ rfl
        simpa [cellsI] using h
      obtain ⟨a, e0, _, wa⟩ := DataW.trod_int Try.underlying2 k0
      obtain ⟨b, e1, _, wb⟩ := DataW.trod_int Try.underlying2 k1
      obtain ⟨c, e2, _, wc⟩ := DataW.trod_int Try.underlying2 g1
      obtain ⟨d, e3, _, wd⟩ := DataW.trod_int Try.underlying2 g2
      simp at e0 e1 e2 e3
      subst e0 e1 e2 e3
      exact ⟨a, b, c, d, rfl, wa, wb, wc, wd⟩
end
end Go.Proofs.Ytffiigfkmdgaaaa

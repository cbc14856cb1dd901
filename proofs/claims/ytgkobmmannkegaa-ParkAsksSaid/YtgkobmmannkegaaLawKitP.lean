/-
  Two numbers in a struct, as they are handed in.
-/
import Derived.Test.YtgkobmmannkegaaLawKitW
namespace Go.Proofs.Ytgkobmmannkegaa
open Go.ChangeShapes Go.WideShapes Go.ChangeAt Go.RowKit
set_option linter.unusedVariables false
section
variable {H : Type} {enc : TypeId × Value → H} {W : World} {r : Reach} {b0 base : Nat} {spare : Nat → Bool} {held : Bool}
set_option maxRecDepth 100000
theorem open_pair {v : Value} {d : DataW H} {p : List MemPlace} (hv : Value.okWide Try.prog W r b0 52 v) (h : DataW.Trod enc Try.prog W base spare held 52 v d p) :
    ∃ x y, v = .agg #[.int .i64 x, .int .i64 y] := by
  have hs : ∃ cs, v = .agg cs ∧ cs.size = Try.prog.cellsOf 52 := by
    simp only [Value.okWide, Try.underlying52] at hv
    obtain ⟨cs, h1, h2, _⟩ := hv
    exact ⟨cs, h1, h2⟩
  obtain ⟨cs, rfl, hsz⟩ := hs
  obtain ⟨c0, c1, rfl⟩ := Go.Joins.array2 (hsz.trans (by kernel_rfl))
  obtain ⟨fuel, hf⟩ := h
  obtain ⟨xs, m, _, _, _, hl, hg⟩ := DataW.trod_array Try.underlying52 hf
  have c3 : Try.prog.cellsOf 3 = 1 := by kernel_rfl
  obtain ⟨y0, y1, rfl⟩ : ∃ y0 y1, xs = [y0, y1] := by
    match xs, hl with
    | [y0, y1], _ => exact ⟨y0, y1, rfl⟩
  have h0 := hg 0 (by decide)
  have h1 := hg 1 (by decide)
  rw [c3] at h0 h1
  simp only [Value.cells] at h0 h1
  obtain ⟨x, rfl⟩ := trod_num (k := .i64) Try.underlying3 h0
  obtain ⟨y, rfl⟩ := trod_num (k := .i64) Try.underlying3 h1
  exact ⟨x, y, rfl⟩
end
end Go.Proofs.Ytgkobmmannkegaa

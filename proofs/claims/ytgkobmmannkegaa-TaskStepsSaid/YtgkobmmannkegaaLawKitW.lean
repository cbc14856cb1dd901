/-
  A plan as it is handed in: its numbers are numbers of their kinds.
-/
import Derived.Test.YtgkobmmannkegaaLawKit
namespace Go.Proofs.Ytgkobmmannkegaa
open Go.ChangeShapes Go.WideShapes Go.ChangeAt Go.RowKit
set_option linter.unusedVariables false
section
variable {H : Type} {enc : TypeId × Value → H} {W : World} {r : Reach} {b0 base : Nat} {spare : Nat → Bool} {held : Bool}
set_option maxRecDepth 100000
theorem trod_numW {t : TypeId} {k : IntKind} {n : Nat} {v : Value} {y : DataW H × List MemPlace} (ht : Try.prog.underlying t = some (.int k)) (h : DataW.trod enc Try.prog W base spare held n t [v] = some y) : ∃ m, v = .int k m ∧ (Lit.int k m).wf = true := by
  obtain ⟨m, e, _, hw⟩ := DataW.trod_int ht h
  exact ⟨m, by simpa using e, hw⟩
theorem open_planW {v : Value} {d : DataW H} {p : List MemPlace} (hv : Value.okWide Try.prog W r b0 24 v) (h : DataW.Trod enc Try.prog W base spare held 24 v d p) :
    ∃ T S L G, v = planV T S L G ∧ (Lit.int .i64 T).wf = true ∧ (Lit.int .i64 S).wf = true ∧ (Lit.int .i64 L).wf = true ∧ (Lit.int .u64 G).wf = true := by
  obtain ⟨v0, v1, v2, v3, y0, y1, y2, y3, n, rfl, _, _, h0, h1, h2, h3⟩ := Go.Joins.open_agg4 Try.underlying24 (by kernel_rfl) (by kernel_rfl) hv h
  obtain ⟨T, rfl, w0⟩ := trod_numW (k := .i64) (by kernel_rfl) h0
  obtain ⟨S, rfl, w1⟩ := trod_numW (k := .i64) (by kernel_rfl) h1
  obtain ⟨L, rfl, w2⟩ := trod_numW (k := .i64) (by kernel_rfl) h2
  obtain ⟨G, rfl, w3⟩ := trod_numW (k := .u64) (by kernel_rfl) h3
  exact ⟨T, S, L, G, rfl, w0, w1, w2, w3⟩
end
end Go.Proofs.Ytgkobmmannkegaa

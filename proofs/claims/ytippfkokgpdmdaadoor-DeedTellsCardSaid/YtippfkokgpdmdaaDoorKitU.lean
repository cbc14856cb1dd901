/-
  A deed as it is handed in, with the bounds of its fields.
-/
import Derived.Test.YtippfkokgpdmdaaDoorKitE
import Derived.Test.YtippfkokgpdmdaaDoorKitT
namespace Go.Proofs.YtippfkokgpdmdaaDoor
open Go.ChangeShapes Go.WideShapes Go.ChangeAt Go.RowKit Go.Deep
set_option linter.unusedVariables false
section
variable {H : Type} {enc : TypeId × Value → H} {W : World} {r : Reach} {b0 base : Nat} {spare : Nat → Bool} {held : Bool}
set_option maxRecDepth 100000
theorem open_deedW {v : Value} {d : DataW H} {p : List MemPlace} (hv : Value.okWide Tryd.prog W r b0 48 v) (h : DataW.Trod enc Tryd.prog W base spare held 48 v d p) :
    ∃ k at_ a b by_, v = .agg #[.int .i64 k, .int .i64 at_, .int .u64 a, .int .u64 b, .int .u64 by_] ∧ (Lit.int .i64 at_).wf = true ∧ (Lit.int .u64 a).wf = true ∧ (Lit.int .u64 b).wf = true ∧ (Lit.int .u64 by_).wf = true := by
  obtain ⟨cs, rfl, hsz⟩ := okWide_struct Tryd.underlying48 hv
  obtain ⟨c0, c1, c2, c3, c4, rfl⟩ := array5 (hsz.trans (by kernel_rfl))
  obtain ⟨fuel, hf⟩ := h
  obtain ⟨ys, n, _, _, hlen, hyl, hF⟩ := DataW.trod_struct Tryd.underlying48 hf
  have key : ∀ (j : Nat) (u : Value) (k : IntKind), ((Tryd.prog.fieldsOf 48)[j]?.map fun f => Tryd.prog.underlying f.type) = some (some (.int k)) → [c0, c1, c2, c3, c4][j]? = some u → ∃ x, u = .int k x ∧ (Lit.int k x).wf = true := by
    intro j u k hk0 hu
    obtain ⟨f, hj⟩ : ∃ f, (Tryd.prog.fieldsOf 48)[j]? = some f := by
      cases hy : (Tryd.prog.fieldsOf 48)[j]? with
      | none => rw [hy] at hk0; cases hk0
      | some f => exact ⟨f, rfl⟩
    have hk := field_kind hj hk0
    obtain ⟨ho, hc⟩ := hone_of (P := Tryd.prog) (fs := Tryd.prog.fieldsOf 48) (by kernel_rfl) j f hj
    have h1 := hF j f hj
    rw [ho, hc] at h1
    have h2 : ((Value.agg #[c0, c1, c2, c3, c4]).cells.toList.drop j).take 1 = [u] := drop_one (by simpa [Value.cells] using hu)
    rw [h2] at h1
    have hj2 : j < ys.length := by rw [hyl]; exact (Array.getElem?_eq_some_iff.1 hj).1
    rw [List.getElem?_eq_getElem hj2] at h1
    obtain ⟨x, rfl, hw⟩ := trod_numW hk h1
    exact ⟨x, rfl, hw⟩
  obtain ⟨k, rfl, wk⟩ := key 0 c0 .i64 (by kernel_rfl) rfl
  obtain ⟨at_, rfl, wat⟩ := key 1 c1 .i64 (by kernel_rfl) rfl
  obtain ⟨a, rfl, wa⟩ := key 2 c2 .u64 (by kernel_rfl) rfl
  obtain ⟨b, rfl, wb⟩ := key 3 c3 .u64 (by kernel_rfl) rfl
  obtain ⟨by_, rfl, wby⟩ := key 4 c4 .u64 (by kernel_rfl) rfl
  exact ⟨k, at_, a, b, by_, rfl, wat, wa, wb, wby⟩
end
end Go.Proofs.YtippfkokgpdmdaaDoor

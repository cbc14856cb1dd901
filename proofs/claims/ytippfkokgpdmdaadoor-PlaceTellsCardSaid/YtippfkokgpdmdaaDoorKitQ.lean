/-
  A plan and a spot as they are handed in, with the bounds of a spot's fields.
-/
import Derived.Deep.Fields
import Derived.Test.YtippfkokgpdmdaaDoorKitT
namespace Go.Proofs.YtippfkokgpdmdaaDoor
open Go.ChangeShapes Go.WideShapes Go.ChangeAt Go.RowKit Go.Deep
set_option linter.unusedVariables false
theorem field_kindQ {fs : Array Field} {j : Nat} {f : Field} {k : IntKind} (hf : fs[j]? = some f) (h : fs[j]?.map (fun f => Tryd.prog.underlying f.type) = some (some (.int k))) : Tryd.prog.underlying f.type = some (.int k) := by
  rw [hf] at h; simpa using h
theorem drop_oneQ {α : Type} {l : List α} {j : Nat} {v : α} (h : l[j]? = some v) : (l.drop j).take 1 = [v] := by
  obtain ⟨hj, rfl⟩ := List.getElem?_eq_some_iff.1 h
  rw [List.drop_eq_getElem_cons hj]
  rfl
theorem array3 {α : Type} {cs : Array α} (h : cs.size = 3) : ∃ c0 c1 c2, cs = #[c0, c1, c2] := by
  obtain ⟨l⟩ := cs
  match l, h with
  | [c0, c1, c2], _ => exact ⟨c0, c1, c2, rfl⟩
theorem array4 {α : Type} {cs : Array α} (h : cs.size = 4) : ∃ c0 c1 c2 c3, cs = #[c0, c1, c2, c3] := by
  obtain ⟨l⟩ := cs
  match l, h with
  | [c0, c1, c2, c3], _ => exact ⟨c0, c1, c2, c3, rfl⟩
section
variable {H : Type} {enc : TypeId × Value → H} {W : World} {r : Reach} {b0 base : Nat} {spare : Nat → Bool} {held : Bool}
set_option maxRecDepth 100000
theorem open_planV {v : Value} {d : DataW H} {p : List MemPlace} (hv : Value.okWide Tryd.prog W r b0 34 v) (h : DataW.Trod enc Tryd.prog W base spare held 34 v d p) :
    ∃ T S L G, v = .agg #[.int .i64 T, .int .i64 S, .int .i64 L, .int .u64 G] := by
  obtain ⟨cs, rfl, hsz⟩ := okWide_struct Tryd.underlying34 hv
  obtain ⟨c0, c1, c2, c3, rfl⟩ := array4 (hsz.trans (by kernel_rfl))
  obtain ⟨fuel, hf⟩ := h
  obtain ⟨ys, n, _, _, hlen, hyl, hF⟩ := DataW.trod_struct Tryd.underlying34 hf
  have key : ∀ (j : Nat) (u : Value) (k : IntKind), ((Tryd.prog.fieldsOf 34)[j]?.map fun f => Tryd.prog.underlying f.type) = some (some (.int k)) → [c0, c1, c2, c3][j]? = some u → ∃ x, u = .int k x ∧ (Lit.int k x).wf = true := by
    intro j u k hk0 hu
    obtain ⟨f, hj⟩ : ∃ f, (Tryd.prog.fieldsOf 34)[j]? = some f := by
      cases hy : (Tryd.prog.fieldsOf 34)[j]? with
      | none => rw [hy] at hk0; cases hk0
      | some f => exact ⟨f, rfl⟩
    have hk := field_kindQ hj hk0
    obtain ⟨ho, hc⟩ := hone_of (P := Tryd.prog) (fs := Tryd.prog.fieldsOf 34) (by kernel_rfl) j f hj
    have h1 := hF j f hj
    rw [ho, hc] at h1
    have h2 : ((Value.agg #[c0, c1, c2, c3]).cells.toList.drop j).take 1 = [u] := drop_oneQ (by simpa [Value.cells] using hu)
    rw [h2] at h1
    have hj2 : j < ys.length := by rw [hyl]; exact (Array.getElem?_eq_some_iff.1 hj).1
    rw [List.getElem?_eq_getElem hj2] at h1
    obtain ⟨x, rfl, hw⟩ := trod_numW hk h1
    exact ⟨x, rfl, hw⟩
  obtain ⟨T, rfl, _⟩ := key 0 c0 .i64 (by kernel_rfl) rfl
  obtain ⟨S, rfl, _⟩ := key 1 c1 .i64 (by kernel_rfl) rfl
  obtain ⟨L, rfl, _⟩ := key 2 c2 .i64 (by kernel_rfl) rfl
  obtain ⟨G, rfl, _⟩ := key 3 c3 .u64 (by kernel_rfl) rfl
  exact ⟨T, S, L, G, rfl⟩
theorem open_spotW {v : Value} {d : DataW H} {p : List MemPlace} (hv : Value.okWide Tryd.prog W r b0 36 v) (h : DataW.Trod enc Tryd.prog W base spare held 36 v d p) :
    ∃ k o l, v = .agg #[.int .i64 k, .int .i64 o, .int .i64 l] ∧ (Lit.int .i64 o).wf = true ∧ (Lit.int .i64 l).wf = true := by
  obtain ⟨cs, rfl, hsz⟩ := okWide_struct Tryd.underlying36 hv
  obtain ⟨c0, c1, c2, rfl⟩ := array3 (hsz.trans (by kernel_rfl))
  obtain ⟨fuel, hf⟩ := h
  obtain ⟨ys, n, _, _, hlen, hyl, hF⟩ := DataW.trod_struct Tryd.underlying36 hf
  have key : ∀ (j : Nat) (u : Value) (k : IntKind), ((Tryd.prog.fieldsOf 36)[j]?.map fun f => Tryd.prog.underlying f.type) = some (some (.int k)) → [c0, c1, c2][j]? = some u → ∃ x, u = .int k x ∧ (Lit.int k x).wf = true := by
    intro j u k hk0 hu
    obtain ⟨f, hj⟩ : ∃ f, (Tryd.prog.fieldsOf 36)[j]? = some f := by
      cases hy : (Tryd.prog.fieldsOf 36)[j]? with
      | none => rw [hy] at hk0; cases hk0
      | some f => exact ⟨f, rfl⟩
    have hk := field_kindQ hj hk0
    obtain ⟨ho, hc⟩ := hone_of (P := Tryd.prog) (fs := Tryd.prog.fieldsOf 36) (by kernel_rfl) j f hj
    have h1 := hF j f hj
    rw [ho, hc] at h1
    have h2 : ((Value.agg #[c0, c1, c2]).cells.toList.drop j).take 1 = [u] := drop_oneQ (by simpa [Value.cells] using hu)
    rw [h2] at h1
    have hj2 : j < ys.length := by rw [hyl]; exact (Array.getElem?_eq_some_iff.1 hj).1
    rw [List.getElem?_eq_getElem hj2] at h1
    obtain ⟨x, rfl, hw⟩ := trod_numW hk h1
    exact ⟨x, rfl, hw⟩
  obtain ⟨k, rfl, _⟩ := key 0 c0 .i64 (by kernel_rfl) rfl
  obtain ⟨o, rfl, wo⟩ := key 1 c1 .i64 (by kernel_rfl) rfl
  obtain ⟨l, rfl, wl⟩ := key 2 c2 .i64 (by kernel_rfl) rfl
  exact ⟨k, o, l, rfl, wo, wl⟩
end
end Go.Proofs.YtippfkokgpdmdaaDoor

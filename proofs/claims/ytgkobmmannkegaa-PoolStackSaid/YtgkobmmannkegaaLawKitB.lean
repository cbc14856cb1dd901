/-
  A list of truths as it is handed in.
-/
import Derived.Test.YtgkobmmannkegaaLawKitW
import Derived.Test.YtgkobmmannkegaaPoolStack
import Derived.Deep.Grids
namespace Go.Proofs.Ytgkobmmannkegaa
open Go.ChangeShapes Go.WideShapes Go.ChangeAt Go.RowKit Go.Deep
set_option linter.unusedVariables false
section
variable {H : Type} {enc : TypeId × Value → H} {W : World} {r : Reach} {b0 base : Nat} {held : Bool}
set_option maxRecDepth 100000
theorem bools_of (w : World) (a : Addr) (c n cap : Nat) (B : Nat → Bool) (hn : n ≤ cap) (h : ∀ i, i < cap → w.cell? (a.add i) = some (.bool (B i))) : BoolsR w w.heap.size (.slice (some a) n c) n := by
  refine ⟨some a, c, rfl, fun h0 => ?_⟩
  obtain ⟨b, off, spot⟩ := a
  have c0 := h 0 (by omega)
  rw [show Addr.add ⟨b, off, spot⟩ 0 = ⟨b, off, spot⟩ by simp [Addr.add]] at c0
  have hs : spot = none := by
    cases spot with
    | none => rfl
    | some s =>
      unfold World.cell? at c0
      split at c0 <;> simp at c0
  subst hs
  refine ⟨b, off, rfl, World.block_lt_of_cell? w _ c0, fun j hj => ⟨B j, ?_⟩⟩
  have := h j (by omega)
  rw [show Addr.add ⟨b, off, none⟩ j = ⟨b, off + j, none⟩ by unfold Addr.add; split <;> simp_all] at this
  exact this
theorem open_takes {v : Value} {d : DataW H} {p : List MemPlace} (hv : Value.okWide Try.prog W r b0 51 v) (h : DataW.Trod enc Try.prog W base (fun _ => true) held 51 v d p) : ∃ a n c, v = .slice a n c ∧ BoolsR W W.heap.size v n := by
  obtain ⟨a, n, c, rfl⟩ := okWide_slice Try.underlying51 hv
  refine ⟨a, n, c, rfl, ?_⟩
  obtain ⟨fuel, hf⟩ := h
  rcases open_bools Try.underlying51 Try.underlying4 (by kernel_rfl) hf with ⟨h1, _⟩ | ⟨a', len, cap, B, h1, _, hl, _, _, hc⟩
  · simp only [Value.cells, List.cons.injEq, Value.slice.injEq] at h1
    obtain ⟨⟨rfl, rfl, rfl⟩, _⟩ := h1
    exact ⟨none, 0, rfl, fun h0 => by omega⟩
  · simp only [Value.cells, List.cons.injEq, Value.slice.injEq] at h1
    obtain ⟨⟨rfl, rfl, rfl⟩, _⟩ := h1
    exact bools_of W a' c n c B hl hc
end
end Go.Proofs.Ytgkobmmannkegaa

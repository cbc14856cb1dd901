/-
  A list of numbers (int) as it is handed in.
-/
import Derived.Test.YtgkobmmannkegaaLawKitW
import Derived.Test.YtgkobmmannkegaaLimboOnce
namespace Go.Proofs.Ytgkobmmannkegaa
open Go.ChangeShapes Go.WideShapes Go.ChangeAt Go.RowKit
set_option linter.unusedVariables false
section
variable {H : Type} {enc : TypeId × Value → H} {W : World} {r : Reach} {b0 base : Nat} {held : Bool}
set_option maxRecDepth 100000
theorem i64s_of (w : World) (a : Addr) (n cap : Nat) (f : Nat → Int) (h : ∀ i, i < n → w.cell? (a.add i) = some (.int .i64 (f i))) :
    I64s w w.heap.size (.slice (some a) n cap) n := by
  refine ⟨some a, cap, rfl, fun h0 => ?_⟩
  obtain ⟨b, off, spot⟩ := a
  have c0 := h 0 h0
  rw [show Addr.add ⟨b, off, spot⟩ 0 = ⟨b, off, spot⟩ by simp [Addr.add]] at c0
  have hs : spot = none := by
    cases spot with
    | none => rfl
    | some s =>
      unfold World.cell? at c0
      split at c0 <;> simp at c0
  subst hs
  refine ⟨b, off, rfl, World.block_lt_of_cell? w _ c0, fun j hj => ⟨f j, ?_⟩⟩
  have := h j hj
  rw [show Addr.add ⟨b, off, none⟩ j = ⟨b, off + j, none⟩ by unfold Addr.add; split <;> simp_all] at this
  exact this
theorem open_inums {v : Value} {d : DataW H} {p : List MemPlace} (hv : Value.okWide Try.prog W r b0 49 v) (h : DataW.Trod enc Try.prog W base (fun _ => true) held 49 v d p) :
    ∃ a n c, v = .slice a n c ∧ I64s W W.heap.size v n := by
  obtain ⟨a, n, c, rfl⟩ := okWide_slice Try.underlying49 hv
  refine ⟨a, n, c, rfl, ?_⟩
  obtain ⟨fuel, hf⟩ := h
  rcases open_ints (k := .i64) Try.underlying49 (by kernel_rfl) (by kernel_rfl) hf with ⟨h1, _⟩ | ⟨a', len, cap, zs, h1, _, hl, _, hz, _, hc, _⟩
  · simp only [Value.cells, List.cons.injEq, Value.slice.injEq] at h1
    obtain ⟨⟨rfl, rfl, rfl⟩, _⟩ := h1
    exact ⟨none, 0, rfl, fun h0 => absurd h0 (by simp)⟩
  · simp only [Value.cells, List.cons.injEq, Value.slice.injEq] at h1
    obtain ⟨⟨rfl, rfl, rfl⟩, _⟩ := h1
    have hn : n ≤ zs.length := by rw [hz]; split <;> omega
    exact i64s_of W a' n c (fun i => zs.getD i 0) fun i hi => hc i (by omega)
end
end Go.Proofs.Ytgkobmmannkegaa

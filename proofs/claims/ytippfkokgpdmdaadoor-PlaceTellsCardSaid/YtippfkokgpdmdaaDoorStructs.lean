/-
  A slice of structs of numbers, as it is handed in.
-/
import Derived.Test.YtippfkokgpdmdaaDoorCellsDo
namespace Go.Proofs.YtippfkokgpdmdaaDoor
open Go Go.RowKit
set_option linter.unusedVariables false

/-- A slice of n structs of size numbers each, of the kinds ks; its cells lie below block hi. -/
structure NumsR (w : World) (hi : Nat) (ks : List IntKind) (size : Nat) (v : Value) (n : Nat) : Prop where
  ex : ∃ (a : Option Addr) (c : Nat), v = .slice a n c ∧ n ≤ c ∧ (0 < n → ∃ b off, a = some ⟨b, off, none⟩ ∧ b < hi ∧ ∀ i, i < n → ∀ j, j < size → ∃ k x, ks[j]? = some k ∧ w.cell? ⟨b, off + (i * size + j), none⟩ = some (.int k x) ∧ (Lit.int k x).wf = true)
theorem nums_of (w : World) (a : Addr) (c n size : Nat) (ks : List IntKind) (h0 : 0 < size) (hnc : n ≤ c) (h : ∀ i, i < n → ∀ j, j < size → ∃ k x, ks[j]? = some k ∧ w.cell? (a.add (i * size + j)) = some (.int k x) ∧ (Lit.int k x).wf = true) :
    NumsR w w.heap.size ks size (.slice (some a) n c) n := by
  refine ⟨some a, c, rfl, hnc, fun hn => ?_⟩
  obtain ⟨b, off, spot⟩ := a
  obtain ⟨k0, x0, _, c0, _⟩ := h 0 hn 0 h0
  rw [show Addr.add ⟨b, off, spot⟩ (0 * size + 0) = ⟨b, off, spot⟩ by simp [Addr.add]] at c0
  have hs : spot = none := by
    cases spot with
    | none => rfl
    | some s =>
      unfold World.cell? at c0
      split at c0 <;> simp at c0
  subst hs
  refine ⟨b, off, rfl, World.block_lt_of_cell? w _ c0, fun i hi j hj => ?_⟩
  obtain ⟨k, x, hk, hc, hw⟩ := h i hi j hj
  rw [show Addr.add ⟨b, off, none⟩ (i * size + j) = ⟨b, off + (i * size + j), none⟩ by unfold Addr.add; split <;> simp_all] at hc
  exact ⟨k, x, hk, hc, hw⟩
theorem NumsR.mod {w w' : World} {hi : Nat} {ks : List IntKind} {size : Nat} {v : Value} {n : Nat} {S : Nat → Prop} (h : NumsR w hi ks size v n) (hm : Mod S w w') (hS : ∀ k, k < hi → ¬ S k) : NumsR w' hi ks size v n := by
  obtain ⟨a, c, hv, hnc, hc⟩ := h.ex
  refine ⟨a, c, hv, hnc, fun h0 => ?_⟩
  obtain ⟨b, off, ha, hb, hcs⟩ := hc h0
  refine ⟨b, off, ha, hb, fun i hi j hj => ?_⟩
  obtain ⟨k, x, hk, hx, hw⟩ := hcs i hi j hj
  refine ⟨k, x, hk, ?_, hw⟩
  rw [← hx]
  exact hm.cell (a := ⟨b, off + (i * size + j), none⟩) (World.block_lt_of_cell? w _ hx) (hS b hb)
theorem NumsR.below {w w' : World} {hi : Nat} {ks : List IntKind} {size : Nat} {v : Value} {n : Nat} (h : NumsR w hi ks size v n) (hm : Below w.heap.size w w') : NumsR w' hi ks size v n := h.mod (Mod.of_below (S := fun _ => False) hm) (fun _ _ => id)
end Go.Proofs.YtippfkokgpdmdaaDoor

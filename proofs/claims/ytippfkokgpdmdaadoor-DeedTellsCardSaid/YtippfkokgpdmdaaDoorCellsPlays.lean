/-
  The law CellsPlays, walked.
-/
import Derived.Test.YtippfkokgpdmdaaDoorStructs
namespace Go.Proofs.YtippfkokgpdmdaaDoor
open Go Go.RowKit
set_option linter.unusedVariables false
theorem cells_of_no (a : Option Addr) (n c : Nat) (w : World) (hn : 4096 < n) : Calls Tryd.prog 45 #[.slice a n c] w fun e w' => e = .returned (.tuple #[.pointer none, .int .i64 2]) ∧ Below w.heap.size w w' := by
  go_enter Tryd.func45, Tryd.ntmps45
  go_wp2_with fail
  refine (cells_new_no _ (.inr (by omega)) _).mono ?_
  rintro e w1 ⟨rfl, hb⟩
  go_wp2_with fail
  go_ret2
  exact ⟨rfl, hb⟩
/-- The four numbers of an access, in a later world. -/
theorem ops_four {w : World} {hi n c : Nat} {a : Option Addr} (h : NumsR w hi [.i64, .i64, .u64, .u64] 4 (.slice a n c) n) (h0 : 0 < n) :
    ∃ b off, a = some ⟨b, off, none⟩ ∧ b < hi ∧ ∀ i, i < n → ∃ k at_ x y, w.cell? ⟨b, off + i * 4, none⟩ = some (.int .i64 k) ∧ w.cell? ⟨b, off + i * 4 + 1, none⟩ = some (.int .i64 at_) ∧ w.cell? ⟨b, off + i * 4 + 2, none⟩ = some (.int .u64 x) ∧ w.cell? ⟨b, off + i * 4 + 3, none⟩ = some (.int .u64 y) := by
  obtain ⟨_, _, hv, _, hc⟩ := h.ex
  cases hv
  obtain ⟨b, off, rfl, hb, hcs⟩ := hc h0
  refine ⟨b, off, rfl, hb, fun i hi => ?_⟩
  obtain ⟨_, k, e0, c0, _⟩ := hcs i hi 0 (by omega)
  obtain ⟨_, at_, e1, c1, _⟩ := hcs i hi 1 (by omega)
  obtain ⟨_, x, e2, c2, _⟩ := hcs i hi 2 (by omega)
  obtain ⟨_, y, e3, c3, _⟩ := hcs i hi 3 (by omega)
  cases e0; cases e1; cases e2; cases e3
  exact ⟨k, at_, x, y, c0, c1, c2, c3⟩
theorem U64s.modA {w w' : World} {hi g : Nat} {va : Option Addr} {n c : Nat} {ws : List Int} (h : U64s w hi (.slice va n c) ws) (hm : Mod (fun k => k = g) w w') (hne : 0 < ws.length → ∀ b off, va = some ⟨b, off, none⟩ → b ≠ g) : U64s w' hi (.slice va n c) ws := by
  obtain ⟨a, cap, hv, hc⟩ := h.ex
  refine ⟨a, cap, hv, fun h0 => ?_⟩
  obtain ⟨b, off, ha, hb, hcs⟩ := hc h0
  cases hv
  refine ⟨b, off, ha, hb, fun j hj => ?_⟩
  rw [← hcs j hj]
  exact hm.cell (a := ⟨b, off + j, none⟩) (World.block_lt_of_cell? w _ (hcs j hj)) (hne h0 b off ha)
end Go.Proofs.YtippfkokgpdmdaaDoor

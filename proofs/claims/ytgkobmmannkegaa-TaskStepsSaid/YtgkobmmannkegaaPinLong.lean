/-
  The laws PinAsks and PinLeaves, of any length of the list: beyond 300 the fixed course is run.
-/
import Derived.Test.YtgkobmmannkegaaPinClaims
namespace Go.Proofs.Ytgkobmmannkegaa
open Go Go.RowKit
set_option linter.unusedVariables false

theorem pinLeaves_long (T S L G th : Int) (a : Option Addr) (n c : Nat) (w : World) (hn : 300 < n) :
    Calls Try.prog 9 #[planV T S L G, .int .i64 th, .slice a n c] w fun e w' => e = .returned (.bool true) ∧ Below w.heap.size w w' := by
  go_enter Try.func9, Try.ntmps9
  go_wp2_with fail
  refine (pin_awake _).mono ?_
  rintro e w1 ⟨rfl, hb⟩
  go_wp2_with fail
  go_ret
  exact ⟨rfl, Below.step _ hb⟩
theorem pinAsks_long (T S L G th : Int) (a : Option Addr) (n c : Nat) (w : World) (hn : 300 < n) :
    Calls Try.prog 7 #[planV T S L G, .int .i64 th, .slice a n c] w fun e w' => e = .returned (.bool true) ∧ Below w.heap.size w w' := by
  go_enter Try.func7, Try.ntmps7
  go_wp2_with fail
  refine (pin_awake _).mono ?_
  rintro e w1 ⟨rfl, hb⟩
  go_wp2_with fail
  go_ret
  exact ⟨rfl, Below.step _ hb⟩
/-- A list of numbers as it is handed in: its cells lie where they lie. -/
theorem u64s_of (w : World) (a : Addr) (cap : Nat) (zs : List Int) (h : ∀ i, i < zs.length → w.cell? (a.add i) = some (.int .u64 (zs.getD i 0))) :
    U64s w w.heap.size (.slice (some a) zs.length cap) zs := by
  refine ⟨some a, cap, rfl, fun h0 => ?_⟩
  obtain ⟨b, off, spot⟩ := a
  have c0 := h 0 h0
  rw [show Addr.add ⟨b, off, spot⟩ 0 = ⟨b, off, spot⟩ by simp [Addr.add]] at c0
  have hs : spot = none := by
    cases spot with
    | none => rfl
    | some s =>
      unfold World.cell? at c0
      split at c0 <;> simp at c0
  subst hs
  refine ⟨b, off, rfl, World.block_lt_of_cell? w _ c0, fun j hj => ?_⟩
  have := h j hj
  rw [show Addr.add ⟨b, off, none⟩ j = ⟨b, off + j, none⟩ by unfold Addr.add; split <;> simp_all] at this
  rw [this]; simp [List.getD, hj]
end Go.Proofs.Ytgkobmmannkegaa

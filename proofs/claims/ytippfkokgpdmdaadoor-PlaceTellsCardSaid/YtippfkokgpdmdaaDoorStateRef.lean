/-
  Chapter 4 by the document: Of, Gen, Status, Is, Next.
-/
import Derived.Test.YtippfkokgpdmdaaDoorState
namespace Go.Proofs.YtippfkokgpdmdaaDoor
open Go Go.RowKit
set_option linter.unusedVariables false

theorem rpair_calls (g s : Int) (h0 : 0 ≤ g) (h2 : 0 ≤ s) (w : World) : Calls Tryd.prog 51 #[.int .u64 g, .int .u64 s] w fun e w' => e = .returned (.int .u64 (pairP g s)) ∧ w' = w := by
  have HR : Hid (∀ a b : Int, a = g.tmod 4294967296 → b = s.tmod 4294967296 → IntKind.u64.wrap (IntKind.u64.wrap (a * 4294967296) + b) = pairP g s ∧ IntKind.u64.wrap (a * 4294967296 + b) = pairP g s ∧ a * 4294967296 + b = pairP g s) := by
    rintro a b rfl rfl
    rw [Int.tmod_eq_emod_of_nonneg h0, Int.tmod_eq_emod_of_nonneg h2]
    have h1 : IntKind.u64.wrap (g % 4294967296 * 4294967296) = g % 4294967296 * 4294967296 := by rw [swrapu]; omega
    rw [h1, swrapu]
    unfold pairP
    omega
  go_enter Tryd.func51, Tryd.ntmps51
  go_wp2_with fail
  go_ret
  exact ⟨sret_u64 (by first | exact (HR.out _ _ rfl rfl).1 | exact (HR.out _ _ rfl rfl).2.1 | exact (HR.out _ _ rfl rfl).2.2 | (unfold pairP; rfl)), rfl⟩
theorem rof_calls (g s : Int) (h0 : 0 ≤ g) (w : World) : Calls Tryd.prog 13 #[.int .u64 g, .int .i64 s] w fun e w' => e = .returned (.int .u64 (pairP g s)) ∧ w' = w := by
  have hs : 0 ≤ IntKind.u64.wrap s ∧ IntKind.u64.wrap s < 18446744073709551616 := by rw [swrapu]; omega
  have e : pairP g (IntKind.u64.wrap s) = pairP g s := by unfold pairP; rw [swrapu]; omega
  obtain ⟨u, hu⟩ : ∃ u, IntKind.u64.wrap s = u := ⟨_, rfl⟩
  rw [hu] at hs e
  have HU := Lib.hid hu
  have R := Lib.hid (rpair_calls g u h0 hs.1)
  clear hu
  go_enter Tryd.func13, Tryd.ntmps13
  go_wp2_with fail
  try rw [HU.out]
  refine (R.out _).mono ?_
  rintro e w' ⟨rfl, rfl⟩
  go_wp2_with fail
  go_ret
  exact ⟨sret_u64 (by first | rfl | assumption), rfl⟩
theorem rgen_calls (x : Int) (w : World) (h0 : 0 ≤ x) (h1 : x < 18446744073709551616) : Calls Tryd.prog 15 #[.int .u64 x] w fun e w' => e = .returned (.int .u64 (x / 4294967296)) ∧ w' = w := by
  have HR : Hid (IntKind.u64.wrap (x / 4294967296) = x / 4294967296 ∧ x.tdiv 4294967296 = x / 4294967296) := ⟨by rw [swrapu]; omega, Int.tdiv_eq_ediv_of_nonneg h0⟩
  go_enter Tryd.func15, Tryd.ntmps15
  go_wp2_with fail
  go_ret
  exact ⟨sret_u64 (by first | rfl | exact HR.out.1 | exact HR.out.2), rfl⟩
theorem rstatus_calls (x : Int) (h0 : 0 ≤ x) (h1 : x < 18446744073709551616) (w : World) : Calls Tryd.prog 17 #[.int .u64 x] w fun e w' => e = .returned (.int .i64 (x % 4294967296)) ∧ w' = w := by
  have HR : Hid (IntKind.i64.wrap (x.tmod 4294967296) = x % 4294967296 ∧ IntKind.i64.wrap (x % 4294967296) = x % 4294967296 ∧ x.tmod 4294967296 = x % 4294967296) := by
    have : x.tmod 4294967296 = x % 4294967296 := Int.tmod_eq_emod_of_nonneg h0
    refine ⟨by rw [this, IntKind.wrap_i64]; omega, by rw [IntKind.wrap_i64]; omega, this⟩
  go_enter Tryd.func17, Tryd.ntmps17
  go_wp2_with fail
  go_ret
  exact ⟨sret_i64 (by first | rfl | exact HR.out.1 | exact HR.out.2.1 | exact HR.out.2.2), rfl⟩
end Go.Proofs.YtippfkokgpdmdaaDoor

/-
  Words made of two halves, of any numbers: field.Low, field.Pair, the head of the free slots with another top.
-/
import Derived.Test.YtgkobmmannkegaaField
namespace Go.Proofs.Ytgkobmmannkegaa
open Go Go.RowKit
set_option linter.unusedVariables false

theorem and_low' (x : Int) : bits .and .u64 x 4294967295 = x % 4294967296 := by
  have h : bits .and .u64 x 4294967295 = bits .and .u64 (x % 18446744073709551616) 4294967295 := by
    unfold bits
    have e : BitVec.ofInt IntKind.u64.bits x = BitVec.ofInt IntKind.u64.bits (x % 18446744073709551616) := by
      apply BitVec.eq_of_toNat_eq
      rw [BitVec.toNat_ofInt, BitVec.toNat_ofInt]
      congr 1
      rw [show ((2 ^ IntKind.u64.bits : Nat) : Int) = 18446744073709551616 by rfl]
      omega
    rw [e]
  rw [h, and_low _ (by omega) (by omega)]
  omega
theorem or_pair' (h l : Int) : bits .or .u64 (IntKind.u64.wrap (h * 4294967296)) (l % 4294967296) = pairP h l := by
  have e : IntKind.u64.wrap (h * 4294967296) = IntKind.u64.wrap (h % 4294967296 * 4294967296) := by rw [wrapu, wrapu]; omega
  rw [e, show l % 4294967296 = l % 4294967296 % 4294967296 by omega, or_pair _ _ (by omega) (by omega)]
  unfold pairP
  omega
theorem low_any (x : Int) (w : World) : Calls Try.prog 176 #[.int .u64 x] w fun e w' => e = .returned (.int .u64 (x % 4294967296)) ∧ w = w' := by
  go_enter Try.func176, Try.ntmps176
  go_wp2_with fail
  go_ret
  exact ⟨ret_u64 (and_low' x), rfl⟩
theorem pair_any (h l : Int) (w : World) : Calls Try.prog 175 #[.int .u64 h, .int .u64 l] w fun e w' => e = .returned (.int .u64 (pairP h l)) ∧ w = w' := by
  go_enter Try.func175, Try.ntmps175
  go_wp2_with fail
  refine (low_any _ _).mono ?_
  rintro e w' ⟨rfl, rfl⟩
  go_wp2_with fail
  go_ret
  exact ⟨ret_u64 (or_pair' h l), rfl⟩
/-- The head with another top slot. -/
def turnedP (h t : Int) : Int := pairP (IntKind.u64.wrap (h / 4294967296 + 1)) t
end Go.Proofs.Ytgkobmmannkegaa

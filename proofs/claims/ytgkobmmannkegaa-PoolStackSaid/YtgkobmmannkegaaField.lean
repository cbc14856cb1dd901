/-
  Words made of two halves (field.Pair, field.Low, field.High; sundialref01; state.Of): as numbers.
-/
import Derived.Test.YtgkobmmannkegaaWords
import Derived.Test.YtgkobmmannkegaaPlan
import Derived.Laws.BitsAllLaws
namespace Go.Proofs.Ytgkobmmannkegaa
open Go Go.RowKit
set_option linter.unusedVariables false

theorem and_low (x : Int) (h0 : 0 ≤ x) (h1 : x < 18446744073709551616) : bits .and .u64 x 4294967295 = x % 4294967296 := by
  obtain ⟨n, rfl⟩ : ∃ n : Nat, x = n := ⟨x.toNat, by omega⟩
  have h := u64_and_nat n 4294967295 (by omega) (by omega)
  have e : n &&& 4294967295 = n % 4294967296 := Nat.and_two_pow_sub_one_eq_mod n 32
  rw [e] at h
  rw [show (4294967295 : Int) = ((4294967295 : Nat) : Int) from rfl, h]
  omega
theorem or_pair (h l : Int) (h0 : 0 ≤ h) (l0 : 0 ≤ l) : bits .or .u64 (IntKind.u64.wrap (h * 4294967296)) (l % 4294967296) = h % 4294967296 * 4294967296 + l % 4294967296 := by
  have e : IntKind.u64.wrap (h * 4294967296) = h % 4294967296 * 4294967296 := by rw [wrapu]; omega
  rw [e]
  obtain ⟨a, ha⟩ : ∃ a : Nat, h % 4294967296 = a := ⟨(h % 4294967296).toNat, by omega⟩
  obtain ⟨b, hb⟩ : ∃ b : Nat, l % 4294967296 = b := ⟨(l % 4294967296).toNat, by omega⟩
  rw [ha, hb]
  have ha2 : a < 4294967296 := by omega
  have hb2 : b < 4294967296 := by omega
  have hr := u64_or_nat (a * 4294967296) b (by omega) (by omega)
  rw [nat_join 32 (a * 4294967296) b (by omega) (by omega)] at hr
  rw [show (a : Int) * 4294967296 = ((a * 4294967296 : Nat) : Int) by omega, hr]
  omega
theorem low_calls (x : Int) (h0 : 0 ≤ x) (h1 : x < 18446744073709551616) (w : World) : Calls Try.prog 176 #[.int .u64 x] w fun e w' => e = .returned (.int .u64 (x % 4294967296)) ∧ w = w' := by
  go_enter Try.func176, Try.ntmps176
  go_wp2_with fail
  go_ret
  exact ⟨ret_u64 (and_low x h0 h1), rfl⟩
/-- Two halves. -/
def pairP (h l : Int) : Int := h % 4294967296 * 4294967296 + l % 4294967296
theorem pairP_bd (h l : Int) : 0 ≤ pairP h l ∧ pairP h l < 18446744073709551616 := by unfold pairP; omega
theorem pair_calls (h l : Int) (h0 : 0 ≤ h) (l0 : 0 ≤ l) (l1 : l < 18446744073709551616) (w : World) : Calls Try.prog 175 #[.int .u64 h, .int .u64 l] w fun e w' => e = .returned (.int .u64 (pairP h l)) ∧ w = w' := by
  go_enter Try.func175, Try.ntmps175
  go_wp2_with fail
  refine (low_calls _ l0 l1 _).mono ?_
  rintro e w' ⟨rfl, rfl⟩
  go_wp2_with fail
  go_ret
  exact ⟨ret_u64 (or_pair h l h0 l0), rfl⟩
theorem high_calls (x : Int) (w : World) : Calls Try.prog 195 #[.int .u64 x] w fun e w' => e = .returned (.int .u64 (x / 4294967296)) ∧ w = w' := by
  go_enter Try.func195, Try.ntmps195
  go_wp2_with fail
  go_ret
  exact ⟨rfl, rfl⟩
theorem rhigh_calls (x : Int) (h0 : 0 ≤ x) (h1 : x < 18446744073709551616) (w : World) : Calls Try.prog 186 #[.int .u64 x] w fun e w' => e = .returned (.int .u64 (x / 4294967296)) ∧ w = w' := by
  go_enter Try.func186, Try.ntmps186
  go_wp2_with fail
  go_ret
  exact ⟨ret_u64 (by first | rfl | (rw [wrapu, Int.tdiv_eq_ediv_of_nonneg h0]; omega)), rfl⟩
theorem rpair_calls (h l : Int) (h0 : 0 ≤ h) (l0 : 0 ≤ l) (w : World) : Calls Try.prog 185 #[.int .u64 h, .int .u64 l] w fun e w' => e = .returned (.int .u64 (pairP h l)) ∧ w = w' := by
  go_enter Try.func185, Try.ntmps185
  go_wp2_with fail
  go_ret
  exact ⟨ret_u64 (by unfold pairP; (repeat rw [wrapu]); (try rw [Int.tmod_eq_emod_of_nonneg h0, Int.tmod_eq_emod_of_nonneg l0]); omega), rfl⟩
theorem stateOf_calls (g s : Int) (h0 : 0 ≤ g) (s0 : 0 ≤ s) (s1 : s < 4294967296) (w : World) : Calls Try.prog 174 #[.int .u64 g, .int .i64 s] w fun e w' => e = .returned (.int .u64 (pairP g s)) ∧ w = w' := by
  go_enter Try.func174, Try.ntmps174
  go_wp2_with fail
  refine (pair_calls g s h0 s0 (by omega) _).mono ?_
  rintro e w' ⟨rfl, rfl⟩
  go_wp2_with fail
  go_ret
  exact ⟨rfl, rfl⟩
theorem rstateOf_calls (g s : Int) (h0 : 0 ≤ g) (s0 : 0 ≤ s) (s1 : s < 4294967296) (w : World) : Calls Try.prog 180 #[.int .u64 g, .int .i64 s] w fun e w' => e = .returned (.int .u64 (pairP g s)) ∧ w = w' := by
  go_enter Try.func180, Try.ntmps180
  go_wp2_with fail
  refine (rpair_calls g s h0 s0 _).mono ?_
  rintro e w' ⟨rfl, rfl⟩
  go_wp2_with fail
  go_ret
  exact ⟨rfl, rfl⟩
end Go.Proofs.Ytgkobmmannkegaa

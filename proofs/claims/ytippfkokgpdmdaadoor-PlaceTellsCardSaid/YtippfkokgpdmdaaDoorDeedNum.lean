/-
  sundialref07.Number: a number's digits, by the document.
-/
import Derived.Test.YtippfkokgpdmdaaDoorStateText
import Derived.Lib.ItoaLen
namespace Go.Proofs.YtippfkokgpdmdaaDoor
open Go Go.RowKit
set_option linter.unusedVariables false

def numS (n : Int) : ByteArray := ⟨(Lib.itoa n).toArray⟩
theorem numS_small (n : Int) (h0 : -9223372036854775808 ≤ n) (h1 : n ≤ 9223372036854775807) : (numS n).size ≤ 21 := by
  show (Lib.itoa n).toArray.size ≤ 21
  rw [List.size_toArray]
  exact Lib.itoa_length_le n h0 h1
theorem numS_nonneg (n : Int) (h : 0 ≤ n) : numS n = digS n := by
  obtain ⟨u, rfl⟩ : ∃ u : Nat, n = u := ⟨n.toNat, by omega⟩
  unfold numS digS
  rw [Lib.itoa_nonneg]
  simp
theorem numS_neg (n : Int) (h : n < 0) : numS n = (⟨#[45]⟩ : ByteArray) ++ digS (-n) := by
  obtain ⟨u, rfl⟩ : ∃ u : Nat, n = -(u : Int) := ⟨(-n).toNat, by omega⟩
  unfold numS digS
  rw [Lib.itoa_neg u (by omega)]
  apply ByteArray.ext
  simp
theorem digS_calls (u : Int) (h0 : 0 ≤ u) (h1 : u < 18446744073709551616) (w : World) : Calls Tryd.prog 56 #[.int .u64 u] w fun e w' => e = .returned (.string (digS u)) ∧ Below w.heap.size w w' := by
  have D := digits_calls u.toNat (by omega) w
  rw [Int.toNat_of_nonneg h0] at D
  exact D
theorem number_calls (n : Int) (h0 : -9223372036854775808 ≤ n) (h1 : n ≤ 9223372036854775807) (w : World) :
    Calls Tryd.prog 60 #[.int .i64 n] w fun e w' => e = .returned (.string (numS n)) ∧ Below w.heap.size w w' := by
  by_cases h : n < 0
  · have e1 : decide (n < 0) = true := decide_eq_true h
    have HN := Lib.hid (numS_neg n h)
    have z := digS_small (-n) (by omega)
    have D := Lib.hid (digS_calls (-n) (by omega) (by omega))
    have HX : Hid (IntKind.u64.wrap (IntKind.u64.wrap (wrap64 (-wrap64 (n + 1))) + 1) = -n) := by
      show _ = _
      have i1 : wrap64 (n + 1) = n + 1 := by unfold wrap64; omega
      rw [i1]
      have i2 : wrap64 (-(n + 1)) = -(n + 1) := by unfold wrap64; omega
      rw [i2]
      have i3 : IntKind.u64.wrap (-(n + 1)) = -(n + 1) := by rw [swrapu]; omega
      rw [i3]
      rw [swrapu]; omega
    generalize numS n = v at *
    generalize digS (-n) = V at *
    have n1 : ¬ 9223372036854775807 < 1 + V.size := by omega
    clear h z h0 h1
    go_enter Tryd.func60, Tryd.ntmps60
    go_wp2_with fail
    rw [HX.out]
    refine (D.out _).mono ?_
    rintro e w' ⟨rfl, hb⟩
    go_wp2_with fail
    go_ret
    exact ⟨(show Ending.returned (Value.string ((⟨#[45]⟩ : ByteArray) ++ V)) = _ by rw [HN.out]), hb⟩
  · have e1 : decide (n < 0) = false := decide_eq_false h
    have HN := Lib.hid (numS_nonneg n (by omega))
    have D := Lib.hid (digS_calls n (by omega) (by omega))
    have hw : IntKind.u64.wrap n = n := by rw [swrapu]; omega
    generalize numS n = v at *
    generalize digS n = V at *
    clear h h0 h1
    go_enter Tryd.func60, Tryd.ntmps60
    go_wp2_with fail
    try rw [hw]
    refine (D.out _).mono ?_
    rintro e w' ⟨rfl, hb⟩
    go_wp2_with fail
    go_ret
    exact ⟨(show Ending.returned (Value.string V) = _ by rw [HN.out]), hb⟩
end Go.Proofs.YtippfkokgpdmdaaDoor

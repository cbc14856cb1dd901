/-
  The clock (chapter 39): the word at place 1.
-/
import Derived.Test.YtgkobmmannkegaaCells
import Derived.Test.YtgkobmmannkegaaPlan
namespace Go.Proofs.Ytgkobmmannkegaa
open Go Go.RowKit
set_option linter.unusedVariables false

theorem chold_calls (n lo hi : Int) (w : World) : Calls Try.prog 157 #[.int .i64 n, .int .i64 lo, .int .i64 hi] w fun e w' => e = .returned (.int .i64 (min (max n lo) hi)) ∧ w = w' := by
  go_enter Try.func157, Try.ntmps157
  go_wp2_with fail
  all_goals
    go_ret
    exact ⟨ret_i64 (by omega), rfl⟩
theorem choldu_calls (n lo hi : Int) (w : World) : Calls Try.prog 158 #[.int .u64 n, .int .u64 lo, .int .u64 hi] w fun e w' => e = .returned (.int .u64 (min (max n lo) hi)) ∧ w = w' := by
  go_enter Try.func158, Try.ntmps158
  go_wp2_with fail
  all_goals
    go_ret
    exact ⟨ret_u64 (by omega), rfl⟩
theorem now_calls (w : World) (b g : Nat) (ws : List Int) (h : CellsAt w b g ws) : Calls Try.prog 101 #[.pointer (some ⟨b, 0, none⟩)] w fun e w' => e = .returned (.int .i64 (wrap64 (wget ws 1))) ∧ w = w' := by
  have H := Lib.hid h
  clear h
  go_enter Try.func101, Try.ntmps101
  go_wp2_with fail
  refine (cells_load _ _ _ _ H.out _).mono ?_
  rintro e w' ⟨rfl, rfl⟩
  go_wp2_with fail
  go_ret
  exact ⟨rfl, rfl⟩
theorem blk_u64s {w : World} {b : Nat} {ws : List Int} (h : Blk w b (u64s ws) 22) : U64s w (b + 1) (.slice (some ⟨b, 0, none⟩) ws.length ws.length) ws :=
  ⟨_, _, rfl, fun hn => ⟨b, 0, rfl, by omega, fun j hj => by rw [h.cell, Nat.zero_add, u64s_get ws j hj]⟩⟩
theorem at_calls (w : World) (now : Int) : Calls Try.prog 81 #[.int .i64 now] w (NewCells w [7, now % 18446744073709551616, 9] fun b => .pointer (some ⟨b, 0, none⟩)) := by
  have hU := blk_u64s (ws := [7, now % 18446744073709551616, 9]) (Blk.new w [.int .u64 7, .int .u64 (now % 18446744073709551616), .int .u64 9] 22)
  have HU := Lib.hid hU
  clear hU
  go_enter Try.func81, Try.ntmps81
  go_wp2_with fail
  refine (cells_of _ _ _ _ HU.out (by simp)).mono ?_
  rintro e w1 ⟨b, g, rfl, hC, hb, hg, hb1⟩
  go_wp2_with fail
  go_ret
  exact ⟨b, g, rfl, hC, by simp at hb; omega, by simp at hg; omega, Below.step _ hb1⟩
/-- A time, held between 0 and 2^60. -/
def tHold (n : Int) : Int := min (max n 0) 1152921504606846976
def tTick (now n : Int) : Int := tHold now + min (max n 0) (1152921504606846976 - tHold now)
theorem tHold_bd (n : Int) : 0 ≤ tHold n ∧ tHold n ≤ 1152921504606846976 := by unfold tHold; omega
theorem tTick_bd (now n : Int) : 0 ≤ tTick now n ∧ tTick now n ≤ 1152921504606846976 := by have := tHold_bd now; unfold tTick; omega
theorem tick_no (w : World) (p : Value) (n : Int) (hn : n < 0) : Calls Try.prog 82 #[p, .int .i64 n] w fun e w' => e = .returned (.tuple #[.int .i64 0, .int .i64 2]) ∧ w = w' := by
  go_enter Try.func82, Try.ntmps82
  go_wp2_with fail
  go_ret2
  exact ⟨rfl, rfl⟩
theorem tick_calls (w : World) (b g : Nat) (ws : List Int) (h : CellsAt w b g ws) (now n : Int) (hnow : wrap64 (wget ws 1) = now) (hn : 0 ≤ n) :
    Calls Try.prog 82 #[.pointer (some ⟨b, 0, none⟩), .int .i64 n] w fun e w' => e = .returned (.tuple #[.int .i64 (tTick now n), .int .i64 0]) ∧ CellsAt w' b g (wset ws 1 (tTick now n)) ∧ Mod (fun k => k = g) w w' := by
  have H := Lib.hid h
  have HN := Lib.hid hnow
  have h1 := tHold_bd now
  have h2 := tTick_bd now n
  clear h hnow
  go_enter Try.func82, Try.ntmps82
  go_wp2_with fail
  refine (now_calls _ _ _ _ H.out).mono ?_
  rintro e w' ⟨rfl, rfl⟩
  rw [HN.out]
  go_wp2_with fail
  refine (chold_calls _ _ _ _).mono ?_
  rintro e w' ⟨rfl, rfl⟩
  rw [show min (max now 0) 1152921504606846976 = tHold now from rfl]
  go_wp2_with fail
  refine (chold_calls _ _ _ _).mono ?_
  rintro e w' ⟨rfl, rfl⟩
  rw [show min (max n 0) (1152921504606846976 - tHold now) = tTick now n - tHold now by unfold tTick; omega]
  have e1 : tHold now + (tTick now n - tHold now) = tTick now n := by omega
  have e2 : tTick now n % 18446744073709551616 = tTick now n := by omega
  have E1 := Lib.hid e1
  have E2 := Lib.hid e2
  go_wp2_with fail
  refine (cells_store _ _ _ _ H.out _ _).mono ?_
  rintro e w' ⟨rfl, hC, hM⟩
  go_wp2_with fail
  go_ret2
  exact ⟨rfl, hC, hM⟩
theorem wrapu (n : Int) : IntKind.u64.wrap n = n % 18446744073709551616 := by simp [IntKind.wrap, IntKind.bits, IntKind.signed]
/-- How long it is till a deadline. -/
def tLeft (now d : Int) : Int := if d ≤ now then 0 else min (d - now) 9223372036854775807
theorem left_calls (w : World) (b g : Nat) (ws : List Int) (h : CellsAt w b g ws) (now d : Int) (hnow : wrap64 (wget ws 1) = now) (h1 : -9223372036854775808 ≤ now) (h2 : now ≤ 9223372036854775807) (h3 : -9223372036854775808 ≤ d) (h4 : d ≤ 9223372036854775807) :
    Calls Try.prog 83 #[.pointer (some ⟨b, 0, none⟩), .int .i64 d] w fun e w' => e = .returned (.int .i64 (tLeft now d)) ∧ w = w' := by
  have H := Lib.hid h
  have HN := Lib.hid hnow
  clear h hnow
  by_cases hd : d ≤ now
  · have e : tLeft now d = 0 := if_pos hd
    rw [e]
    have hdd : decide (d ≤ now) = true := by simpa using hd
    go_enter Try.func83, Try.ntmps83
    go_wp2_with fail
    refine (now_calls _ _ _ _ H.out).mono ?_
    rintro e w' ⟨rfl, rfl⟩
    rw [HN.out]
    go_wp2_with fail
    go_ret
    exact ⟨rfl, rfl⟩
  · have e : tLeft now d = min (d - now) 9223372036854775807 := if_neg hd
    rw [e]
    have E := Lib.hid e
    have hdd : decide (d ≤ now) = false := by simpa using hd
    clear e
    go_enter Try.func83, Try.ntmps83
    go_wp2_with fail
    refine (now_calls _ _ _ _ H.out).mono ?_
    rintro e w' ⟨rfl, rfl⟩
    rw [HN.out]
    go_wp2_with fail
    refine (choldu_calls _ _ _ _).mono ?_
    rintro e w' ⟨rfl, rfl⟩
    rw [show min (max (IntKind.u64.wrap (IntKind.u64.wrap d - IntKind.u64.wrap now)) 0) 9223372036854775807 = min (d - now) 9223372036854775807 by rw [wrapu, wrapu, wrapu]; omega]
    have hm : 0 ≤ min (d - now) 9223372036854775807 ∧ min (d - now) 9223372036854775807 ≤ 9223372036854775807 := by omega
    go_wp2_with fail
    go_ret
    exact ⟨rfl, rfl⟩
theorem rhold_calls (n : Int) (w : World) : Calls Try.prog 166 #[.int .i64 n] w fun e w' => e = .returned (.int .i64 (tHold n)) ∧ w = w' := by
  go_enter Try.func166, Try.ntmps166
  go_wp2_with fail
  all_goals
    go_ret
    exact ⟨ret_i64 (by unfold tHold; omega), rfl⟩
theorem rtick_calls (now n : Int) (hn : 0 ≤ n) (w : World) : Calls Try.prog 103 #[.int .i64 now, .int .i64 n] w fun e w' => e = .returned (.int .i64 (tTick now n)) ∧ w = w' := by
  have h1 := tHold_bd now
  have e0 : tTick now n = tHold now + min (max n 0) (1152921504606846976 - tHold now) := rfl
  have E0 := Lib.hid e0
  clear e0
  go_enter Try.func103, Try.ntmps103
  go_wp2_with fail
  refine (rhold_calls _ _).mono ?_
  rintro e w' ⟨rfl, rfl⟩
  go_wp2_with fail
  all_goals
    go_ret
    refine ⟨ret_i64 ?_, rfl⟩
    rw [E0.out]
    omega
theorem rleft_calls (now d : Int) (h1 : -9223372036854775808 ≤ now) (h2 : now ≤ 9223372036854775807) (h3 : -9223372036854775808 ≤ d) (h4 : d ≤ 9223372036854775807) (w : World) :
    Calls Try.prog 102 #[.int .i64 now, .int .i64 d] w fun e w' => e = .returned (.int .i64 (tLeft now d)) ∧ w = w' := by
  by_cases hd : d ≤ now
  · have e : tLeft now d = 0 := if_pos hd
    rw [e]
    go_enter Try.func102, Try.ntmps102
    go_wp2_with fail
    go_ret
    exact ⟨rfl, rfl⟩
  · have e : tLeft now d = min (d - now) 9223372036854775807 := if_neg hd
    rw [e]
    clear e
    by_cases hn : now < 0
    · go_enter Try.func102, Try.ntmps102
      go_wp2_with fail
      all_goals
        go_ret
        refine ⟨ret_i64 ?_, rfl⟩
        omega
    · go_enter Try.func102, Try.ntmps102
      go_wp2_with fail
      go_ret
      refine ⟨ret_i64 ?_, rfl⟩
      omega
end Go.Proofs.Ytgkobmmannkegaa

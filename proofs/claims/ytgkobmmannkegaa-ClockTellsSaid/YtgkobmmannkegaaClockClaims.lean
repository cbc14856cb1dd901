/-
  The laws of the clock, walked.
-/
import Derived.Test.YtgkobmmannkegaaClock
namespace Go.Proofs.Ytgkobmmannkegaa
open Go Go.RowKit
set_option linter.unusedVariables false

theorem wget3 (x : Int) : wget [7, x, 9] 1 = x := by simp [wget]
theorem wset3 (x y : Int) : wset [7, x, 9] 1 y = [7, y, 9] := by simp [wset]
theorem wrap64_of (x : Int) (h1 : -9223372036854775808 ≤ x) (h2 : x ≤ 9223372036854775807) : wrap64 (x % 18446744073709551616) = x := by rw [wrap64_def]; omega
theorem wrap64_same (x : Int) (h1 : -9223372036854775808 ≤ x) (h2 : x ≤ 9223372036854775807) : wrap64 x = x := by rw [wrap64_def]; omega
theorem clock_awake : Gives 80 #[] (.bool true) := by
  intro w
  go_enter Try.func80, Try.ntmps80
  go_wp2_with fail
  refine (at_calls _ _).mono ?_
  rintro e w1 ⟨b, g, rfl, hC1, hb, hg, hb1⟩
  have C1 := Lib.hid hC1
  clear hC1
  go_wp2_with fail
  refine (tick_calls _ _ _ _ C1.out 5 3 (by rw [wget3, wrap64_def]; decide) (by omega)).mono ?_
  rw [wset3]
  rintro e w2 ⟨rfl, hC2, hM2⟩
  have C2 := Lib.hid hC2
  have W2 := below_mod hb1 hM2 hb1.size (fun k hk e => by omega)
  clear hC2 hM2
  go_wp2_with fail
  refine (tick_calls _ _ _ _ C2.out 8 4611686018427387904 (by rw [wget3, wrap64_def]; decide) (by omega)).mono ?_
  rw [wset3]
  rintro e w3 ⟨rfl, hC3, hM3⟩
  have C3 := Lib.hid hC3
  have W3 := below_mod W2 hM3 W2.size (fun k hk e => by omega)
  clear hC3 hM3
  rw [show tTick 5 3 = 8 by decide, show tTick 8 4611686018427387904 = 1152921504606846976 by decide] at *
  go_wp2_with fail
  refine (now_calls _ _ _ _ C3.out).mono ?_
  rintro e w4 ⟨rfl, rfl⟩
  rw [wget3, show wrap64 1152921504606846976 = 1152921504606846976 by rw [wrap64_def]; decide]
  go_wp2_with fail
  go_ret
  exact ⟨rfl, W3⟩
set_option maxHeartbeats 1000000 in
theorem clockTells_walk (now n d : Int) (a1 : -9223372036854775808 ≤ now) (a2 : now ≤ 9223372036854775807) (b1 : -9223372036854775808 ≤ n) (b2 : n ≤ 9223372036854775807) (d1 : -9223372036854775808 ≤ d) (d2 : d ≤ 9223372036854775807) (w : World) :
    Calls Try.prog 15 #[.int .i64 now, .int .i64 n, .int .i64 d] w fun e w' => e = .returned (.bool true) ∧ Below w.heap.size w w' := by
  have hw0 : wrap64 (wget [7, now % 18446744073709551616, 9] 1) = now := by rw [wget3]; exact wrap64_of now a1 a2
  have HW0 := Lib.hid hw0
  clear hw0
  go_enter Try.func15, Try.ntmps15
  go_wp2_with fail
  refine (at_calls _ _).mono ?_
  rintro e w1 ⟨b, g, rfl, hC1, hb, hg, hb1⟩
  have C1 := Lib.hid hC1
  clear hC1
  go_wp2_with fail
  refine (now_calls _ _ _ _ C1.out).mono ?_
  rintro e w2 ⟨rfl, rfl⟩
  rw [HW0.out]
  go_wp2_with fail
  refine (left_calls _ _ _ _ C1.out now d HW0.out a1 a2 d1 d2).mono ?_
  rintro e w2 ⟨rfl, rfl⟩
  go_wp2_with fail
  refine (rleft_calls now d a1 a2 d1 d2 _).mono ?_
  rintro e w2 ⟨rfl, rfl⟩
  by_cases hn : n < 0
  · go_wp2_with fail
    refine (tick_no _ _ _ hn).mono ?_
    rintro e w2 ⟨rfl, rfl⟩
    go_wp2_with fail
    refine (cells_words _ _ _ _ C1.out).mono ?_
    rintro e w2 ⟨va, vc, g', rfl, hR, hg', hl, hb2⟩
    obtain ⟨c', hv, _⟩ := hR.addr (by simp)
    cases hv
    have R0 := hR.cell 0 (by simp)
    have R2 := hR.cell 2 (by simp)
    simp only [List.getElem_cons_zero, List.getElem_cons_succ] at R0 R2
    have C2 := Lib.hid (C1.out.below hb2)
    have W2 := hb1.trans (hb2.mono hb1.size)
    clear hR hb2
    go_wp2_with fail
    refine (now_calls _ _ _ _ C2.out).mono ?_
    rintro e w3 ⟨rfl, rfl⟩
    rw [HW0.out]
    go_wp2_with fail
    refine (clock_awake _).mono ?_
    rintro e w3 ⟨rfl, hb3⟩
    go_wp2_with fail
    go_ret
    exact ⟨rfl, W2.trans (hb3.mono W2.size)⟩
  · have hn' : 0 ≤ n := by omega
    go_wp2_with fail
    refine (tick_calls _ _ _ _ C1.out now n HW0.out hn').mono ?_
    rw [wset3]
    rintro e w2 ⟨rfl, hC2, hM2⟩
    have C2 := Lib.hid hC2
    have W2 := below_mod hb1 hM2 hb1.size (fun k hk e => by omega)
    have htb := tTick_bd now n
    clear hC2 hM2
    generalize ht : tTick now n = t at *
    have HT := Lib.hid ht
    clear ht
    go_wp2_with fail
    refine (cells_words _ _ _ _ C2.out).mono ?_
    rintro e w3 ⟨va, vc, g', rfl, hR, hg', hl, hb3⟩
    obtain ⟨c', hv, _⟩ := hR.addr (by simp)
    cases hv
    have R0 := hR.cell 0 (by simp)
    have R2 := hR.cell 2 (by simp)
    simp only [List.getElem_cons_zero, List.getElem_cons_succ] at R0 R2
    have C3 := Lib.hid (C2.out.below hb3)
    have W3 := W2.trans (hb3.mono W2.size)
    clear hR hb3
    go_wp2_with fail
    refine (rtick_calls now n hn' _).mono ?_
    rw [HT.out]
    rintro e w4 ⟨rfl, rfl⟩
    go_wp2_with fail
    refine (now_calls _ _ _ _ C3.out).mono ?_
    rintro e w4 ⟨rfl, rfl⟩
    rw [wget3, wrap64_same t (by omega) (by omega)]
    go_wp2_with fail
    refine (clock_awake _).mono ?_
    rintro e w4 ⟨rfl, hb4⟩
    go_wp2_with fail
    go_ret
    exact ⟨rfl, W3.trans (hb4.mono W3.size)⟩

theorem clockTwice_out (now a b : Int) (h : now < 0 ∨ 1152921504606846976 < now ∨ a < 0 ∨ b < 0 ∨ 1152921504606846976 < a ∨ 1152921504606846976 < b) (w : World) :
    Calls Try.prog 10 #[.int .i64 now, .int .i64 a, .int .i64 b] w fun e w' => e = .returned (.bool true) ∧ Below w.heap.size w w' := by
  have HA := Lib.hid clock_awake
  by_cases h1 : now < 0
  · clear h
    go_enter Try.func10, Try.ntmps10
    go_wp2_with fail
    refine (HA.out _).mono ?_
    rintro e w1 ⟨rfl, hb⟩
    go_wp2_with fail
    go_ret
    exact ⟨rfl, hb⟩
  by_cases h2 : 1152921504606846976 < now
  · clear h
    go_enter Try.func10, Try.ntmps10
    go_wp2_with fail
    refine (HA.out _).mono ?_
    rintro e w1 ⟨rfl, hb⟩
    go_wp2_with fail
    go_ret
    exact ⟨rfl, hb⟩
  by_cases h3 : a < 0
  · clear h
    go_enter Try.func10, Try.ntmps10
    go_wp2_with fail
    refine (HA.out _).mono ?_
    rintro e w1 ⟨rfl, hb⟩
    go_wp2_with fail
    go_ret
    exact ⟨rfl, hb⟩
  by_cases h4 : b < 0
  · clear h
    go_enter Try.func10, Try.ntmps10
    go_wp2_with fail
    refine (HA.out _).mono ?_
    rintro e w1 ⟨rfl, hb⟩
    go_wp2_with fail
    go_ret
    exact ⟨rfl, hb⟩
  by_cases h5 : 1152921504606846976 < a
  · clear h
    go_enter Try.func10, Try.ntmps10
    go_wp2_with fail
    refine (HA.out _).mono ?_
    rintro e w1 ⟨rfl, hb⟩
    go_wp2_with fail
    go_ret
    exact ⟨rfl, hb⟩
  have h6 : 1152921504606846976 < b := by omega
  clear h
  go_enter Try.func10, Try.ntmps10
  go_wp2_with fail
  refine (HA.out _).mono ?_
  rintro e w1 ⟨rfl, hb⟩
  go_wp2_with fail
  go_ret
  exact ⟨rfl, hb⟩
theorem tTick_twice (now a b : Int) (h1 : 0 ≤ now) (h2 : now ≤ 1152921504606846976) (h3 : 0 ≤ a) (h4 : 0 ≤ b) : tTick (tTick now a) b = tTick now (a + b) ∧ now ≤ tTick now a ∧ tTick now a ≤ tTick (tTick now a) b := by
  unfold tTick tHold; omega
set_option maxHeartbeats 1000000 in
theorem clockTwice_in (now a b : Int) (h1 : 0 ≤ now) (h2 : now ≤ 1152921504606846976) (h3 : 0 ≤ a) (h4 : 0 ≤ b) (h5 : a ≤ 1152921504606846976) (h6 : b ≤ 1152921504606846976) (w : World) :
    Calls Try.prog 10 #[.int .i64 now, .int .i64 a, .int .i64 b] w fun e w' => e = .returned (.bool true) ∧ Below w.heap.size w w' := by
  have hw0 : wrap64 (wget [7, now % 18446744073709551616, 9] 1) = now := by rw [wget3]; exact wrap64_of now (by omega) (by omega)
  have HW0 := Lib.hid hw0
  clear hw0
  go_enter Try.func10, Try.ntmps10
  go_wp2_with fail
  refine (at_calls _ _).mono ?_
  rintro e w1 ⟨p, g, rfl, hC1, hp, hg, hb1⟩
  have C1 := Lib.hid hC1
  clear hC1
  go_wp2_with fail
  refine (at_calls _ _).mono ?_
  rintro e w2 ⟨p', g', rfl, hD2, hp', hg', hb2⟩
  have D2 := Lib.hid hD2
  have C2 := Lib.hid (C1.out.below hb2)
  have W2 := hb1.trans (hb2.mono hb1.size)
  have l1 := C1.out.lt
  clear hD2 hb2
  go_wp2_with fail
  refine (tick_calls _ _ _ _ C2.out now a HW0.out h3).mono ?_
  rw [wset3]
  rintro e w3 ⟨rfl, hC3, hM3⟩
  have C3 := Lib.hid hC3
  have D3 := Lib.hid (D2.out.mod hM3 (by omega) (by omega))
  have W3 := below_mod W2 hM3 W2.size (fun k hk e => by omega)
  have l2 := D2.out.lt
  have t1 := tTick_bd now a
  obtain ⟨q1, q2, q3⟩ := tTick_twice now a b h1 h2 h3 h4
  have q4 := tTick_bd (tTick now a) b
  have Q1 := Lib.hid q1
  clear hC3 hM3 q1
  generalize hx : tTick now a = x at *
  clear hx
  go_wp2_with fail
  refine (tick_calls _ _ _ _ C3.out x b (by rw [wget3, wrap64_same x (by omega) (by omega)]) h4).mono ?_
  rw [wset3]
  rintro e w4 ⟨rfl, hC4, hM4⟩
  have C4 := Lib.hid hC4
  have D4 := Lib.hid (D3.out.mod hM4 (by omega) (by omega))
  have W4 := below_mod W3 hM4 W3.size (fun k hk e => by omega)
  clear hC4 hM4
  go_wp2_with fail
  refine (tick_calls _ _ _ _ D4.out now (a + b) HW0.out (by omega)).mono ?_
  rw [wset3, ← Q1.out]
  generalize hy : tTick x b = y at *
  rintro e w5 ⟨rfl, hD5, hM5⟩
  have C5 := Lib.hid (C4.out.mod hM5 (by omega) (by omega))
  have W5 := below_mod W4 hM5 W4.size (fun k hk e => by omega)
  clear hD5 hM5 hy Q1
  go_wp2_with fail
  refine (left_calls _ _ _ _ C5.out y y (by rw [wget3, wrap64_same y (by omega) (by omega)]) (by omega) (by omega) (by omega) (by omega)).mono ?_
  rw [show tLeft y y = 0 from if_pos (Int.le_refl _)]
  rintro e w6 ⟨rfl, rfl⟩
  go_wp2_with fail
  refine (clock_awake _).mono ?_
  rintro e w6 ⟨rfl, hb6⟩
  go_wp2_with fail
  go_ret
  exact ⟨rfl, W5.trans (hb6.mono W5.size)⟩
end Go.Proofs.Ytgkobmmannkegaa

/-
  The laws StateBack and StateOnce, walked.
-/
import Derived.Test.YtippfkokgpdmdaaDoorState
namespace Go.Proofs.YtippfkokgpdmdaaDoor
open Go Go.RowKit
set_option linter.unusedVariables false

theorem isP_pair (g s : Int) (h : g ≤ 4294967295) (h0 : 0 ≤ s) (h1 : s ≤ 4) : isP (pairP g s) g s = true := by simp [isP, h, h0, h1]
theorem pair_high (g s : Int) (h : g ≤ 4294967295) (h0 : 0 ≤ g) : pairP g s / 4294967296 = g := by unfold pairP; omega
theorem pair_low (g s : Int) (h0 : 0 ≤ s) (h1 : s ≤ 4) : pairP g s % 4294967296 = s := by unfold pairP; omega
theorem isP_other (g s g' s' : Int) (hg : 0 ≤ g) (h : g ≤ 4294967295) (h0 : 0 ≤ s) (h1 : s ≤ 4) (hg' : 0 ≤ g') : isP (pairP g s) g' s' = (decide (g = g') && decide (s = s')) := by
  rw [Bool.eq_iff_iff]
  simp only [isP, decide_eq_true_eq, Bool.and_eq_true]
  constructor
  · rintro ⟨a, b, c, d⟩
    unfold pairP at d
    omega
  · rintro ⟨rfl, rfl⟩
    exact ⟨h, h0, h1, rfl⟩
theorem stateBack_no (g s g' s' : Int) (hg : 0 ≤ g) (h : 4294967295 < g ∨ s < 0 ∨ 4 < s) (w : World) :
    Calls Tryd.prog 4 #[.int .u64 g, .int .i64 s, .agg #[.int .u64 g', .int .i64 s']] w fun e w' => e = .returned (.bool true) ∧ Below w.heap.size w w' := by
  have O := Lib.hid (of_calls g s hg)
  have hf : isP (pairP g s) g s = false := by
    simp only [isP, decide_eq_false_iff_not]
    omega
  have I := Lib.hid (is_calls (pairP g s) g s hg)
  rw [hf] at I
  have HA := Lib.hid (fun w => state_awake w)
  have b1 : Below w.heap.size w (w.alloc (.cells #[.int .u64 g', .int .i64 s'] 30)) := (Below.refl _ _).alloc (Nat.le_refl _) _
  generalize pairP g s = p at *
  by_cases h1 : 4294967295 < g
  · have d1 : decide (4294967295 < g) = true := decide_eq_true h1
    clear h hf
    go_enter Tryd.func4, Tryd.ntmps4
    go_wp2_with fail
    refine (O.out _).mono ?_
    rintro e w1 ⟨rfl, rfl⟩
    go_wp2_with fail
    refine (I.out _).mono ?_
    rintro e w1 ⟨rfl, rfl⟩
    go_wp2_with fail
    refine (HA.out _).mono ?_
    rintro e w1 ⟨rfl, hb⟩
    go_wp2_with fail
    go_ret
    exact ⟨rfl, b1.trans (hb.mono b1.size)⟩
  · by_cases h2 : s < 0
    · have d1 : decide (4294967295 < g) = false := decide_eq_false h1
      have d2 : decide (s < 0) = true := decide_eq_true h2
      clear h hf
      go_enter Tryd.func4, Tryd.ntmps4
      go_wp2_with fail
      refine (O.out _).mono ?_
      rintro e w1 ⟨rfl, rfl⟩
      go_wp2_with fail
      refine (I.out _).mono ?_
      rintro e w1 ⟨rfl, rfl⟩
      go_wp2_with fail
      refine (HA.out _).mono ?_
      rintro e w1 ⟨rfl, hb⟩
      go_wp2_with fail
      go_ret
      exact ⟨rfl, b1.trans (hb.mono b1.size)⟩
    · have d1 : decide (4294967295 < g) = false := decide_eq_false h1
      have d2 : decide (s < 0) = false := decide_eq_false h2
      have d3 : decide (4 < s) = true := decide_eq_true (by omega)
      clear h hf
      go_enter Tryd.func4, Tryd.ntmps4
      go_wp2_with fail
      refine (O.out _).mono ?_
      rintro e w1 ⟨rfl, rfl⟩
      go_wp2_with fail
      refine (I.out _).mono ?_
      rintro e w1 ⟨rfl, rfl⟩
      go_wp2_with fail
      refine (HA.out _).mono ?_
      rintro e w1 ⟨rfl, hb⟩
      go_wp2_with fail
      go_ret
      exact ⟨rfl, b1.trans (hb.mono b1.size)⟩
set_option maxHeartbeats 2000000 in
theorem stateBack_yes (g s g' s' : Int) (hg : 0 ≤ g) (hg' : 0 ≤ g') (h1 : g ≤ 4294967295) (h2 : 0 ≤ s) (h3 : s ≤ 4) (w : World) :
    Calls Tryd.prog 4 #[.int .u64 g, .int .i64 s, .agg #[.int .u64 g', .int .i64 s']] w fun e w' => e = .returned (.bool true) ∧ Below w.heap.size w w' := by
  have O := Lib.hid (of_calls g s hg)
  have hb := pairP_bd g s
  have I := Lib.hid (is_calls (pairP g s) g s hg)
  rw [isP_pair g s h1 h2 h3] at I
  have G := Lib.hid (gen_calls (pairP g s))
  rw [pair_high g s h1 hg] at G
  have S := Lib.hid (status_calls (pairP g s) hb.1 hb.2)
  rw [pair_low g s h2 h3] at S
  have I2 := Lib.hid (is_calls (pairP g s) g' s' hg')
  rw [isP_other g s g' s' hg h1 h2 h3 hg'] at I2
  have HA := Lib.hid (fun w => state_awake w)
  have b1 : Below w.heap.size w (w.alloc (.cells #[.int .u64 g', .int .i64 s'] 30)) := (Below.refl _ _).alloc (Nat.le_refl _) _
  have B1 := Blk.new w [.int .u64 g', .int .i64 s'] 30
  have C1 := B1.cell
  generalize pairP g s = p at *
  clear hb
  have d1 : decide (4294967295 < g) = false := decide_eq_false (by omega)
  have d2 : decide (s < 0) = false := decide_eq_false (by omega)
  have d3 : decide (4 < s) = false := decide_eq_false (by omega)
  have hc : g ≠ g' ∨ (g = g' ∧ s ≠ s') ∨ (g = g' ∧ s = s') := by omega
  rcases hc with hne | ⟨rfl, hne⟩ | ⟨rfl, rfl⟩
  · rw [decide_eq_false hne, Bool.false_and] at I2
    have hq : (g == g') = false := by simpa using hne
    have J := Lib.hid (fun w => (I2.out w).mono (R' := fun e w' => e = _ ∧ Below w.heap.size w w') (fun e w' h => ⟨h.1, h.2 ▸ Below.refl _ _⟩))
    go_enter Tryd.func4, Tryd.ntmps4
    go_wp2_with fail
    refine (O.out _).mono ?_
    rintro e w1 ⟨rfl, rfl⟩
    go_wp2_with fail
    refine (G.out _).mono ?_
    rintro e w1 ⟨rfl, rfl⟩
    go_wp2_with fail
    refine (S.out _).mono ?_
    rintro e w1 ⟨rfl, rfl⟩
    go_wp2_with fail
    refine (I.out _).mono ?_
    rintro e w1 ⟨rfl, rfl⟩
    go_wp2_with fail
    refine wp_region_reads (by kernel_rfl) (by kernel_rfl) ?_
    repeat (quiet_step (first | (go_at_call 18; exact calls_later (J.out _)) | (go_at_call 24; exact calls_later (HA.out _))))
    refine wpQuiet_nil ?_
    intro w4 hb4
    go_wp2_with fail
    go_ret
    exact ⟨rfl, b1.trans (hb4.mono b1.size)⟩
  · rw [decide_eq_false hne, Bool.and_false] at I2
    have hq : (s == s') = false := by simpa using hne
    have J := Lib.hid (fun w => (I2.out w).mono (R' := fun e w' => e = _ ∧ Below w.heap.size w w') (fun e w' h => ⟨h.1, h.2 ▸ Below.refl _ _⟩))
    go_enter Tryd.func4, Tryd.ntmps4
    go_wp2_with fail
    refine (O.out _).mono ?_
    rintro e w1 ⟨rfl, rfl⟩
    go_wp2_with fail
    refine (G.out _).mono ?_
    rintro e w1 ⟨rfl, rfl⟩
    go_wp2_with fail
    refine (S.out _).mono ?_
    rintro e w1 ⟨rfl, rfl⟩
    go_wp2_with fail
    refine (I.out _).mono ?_
    rintro e w1 ⟨rfl, rfl⟩
    go_wp2_with fail
    refine wp_region_reads (by kernel_rfl) (by kernel_rfl) ?_
    repeat (quiet_step (first | (go_at_call 18; exact calls_later (J.out _)) | (go_at_call 24; exact calls_later (HA.out _))))
    refine wpQuiet_nil ?_
    intro w4 hb4
    go_wp2_with fail
    go_ret
    exact ⟨rfl, b1.trans (hb4.mono b1.size)⟩
  · rw [decide_eq_true rfl, decide_eq_true rfl, Bool.and_true] at I2
    have J := Lib.hid (fun w => (I2.out w).mono (R' := fun e w' => e = _ ∧ Below w.heap.size w w') (fun e w' h => ⟨h.1, h.2 ▸ Below.refl _ _⟩))
    go_enter Tryd.func4, Tryd.ntmps4
    go_wp2_with fail
    refine (O.out _).mono ?_
    rintro e w1 ⟨rfl, rfl⟩
    go_wp2_with fail
    refine (G.out _).mono ?_
    rintro e w1 ⟨rfl, rfl⟩
    go_wp2_with fail
    refine (S.out _).mono ?_
    rintro e w1 ⟨rfl, rfl⟩
    go_wp2_with fail
    refine (I.out _).mono ?_
    rintro e w1 ⟨rfl, rfl⟩
    go_wp2_with fail
    refine wp_region_reads (by kernel_rfl) (by kernel_rfl) ?_
    repeat (quiet_step (first | (go_at_call 18; exact calls_later (J.out _)) | (go_at_call 24; exact calls_later (HA.out _))))
    refine wpQuiet_nil ?_
    intro w4 hb4
    go_wp2_with fail
    go_ret
    exact ⟨rfl, b1.trans (hb4.mono b1.size)⟩
theorem nextP_max (x : Int) (h : x / 4294967296 = 4294967295) : nextP x = 18446744069414584324 := by unfold nextP; rw [if_neg (by omega)]; rfl
theorem nextP_less (x : Int) (h0 : 0 ≤ x) (h1 : x < 18446744073709551616) (h : x / 4294967296 ≠ 4294967295) : nextP x / 4294967296 = x / 4294967296 + 1 ∧ nextP x % 4294967296 = 0 ∧ 0 ≤ nextP x ∧ nextP x < 18446744073709551616 := by
  unfold nextP
  rw [if_pos (by omega)]
  unfold pairP
  omega
set_option maxHeartbeats 2000000 in
theorem stateOnce_walk (x t : Int) (h0 : 0 ≤ x) (h1 : x < 18446744073709551616) (w : World) : Calls Tryd.prog 5 #[.int .u64 x, .int .i64 t] w fun e w' => e = .returned (.bool true) ∧ Below w.heap.size w w' := by
  have HA := Lib.hid (fun w => state_awake w)
  have X0 : Hid (0 ≤ x ∧ x < 18446744073709551616) := ⟨h0, h1⟩
  clear h0 h1
  go_enter Tryd.func5, Tryd.ntmps5
  go_wp2_with fail
  go_loopw [0, 5] (fun v i wr => ∃ (y : Int) (k : Nat), v = .int .u64 y ∧ i = .int .i64 k ∧ k ≤ 20 ∧ Hid (0 ≤ y ∧ y < 18446744073709551616) ∧ wr = w) (fun _ i _ => 20 - (intOf i).toNat)
  case atStart => exact ⟨x, 0, rfl, rfl, by omega, X0, rfl⟩
  case round =>
    obtain ⟨y, k, rfl, rfl, hk, hy, rfl⟩ := hrel
    have N := Lib.hid (next_calls y hy.out.1 hy.out.2)
    have G := Lib.hid (gen_calls y)
    by_cases hgo : (k : Int) < t ∧ k < 20
    · have d1 : decide ((k : Int) < t) = true := decide_eq_true hgo.1
      have d2 : decide ((k : Int) < 20) = true := decide_eq_true (by omega)
      by_cases hmax : y / 4294967296 = 4294967295
      · rw [hmax] at G
        rw [nextP_max y hmax] at N
        have I : Hid (∀ w, Calls Tryd.prog 18 #[.int .u64 18446744069414584324, .int .u64 4294967295, .int .i64 4] w fun e w' => e = .returned (.bool true) ∧ w = w') := fun w => is_calls 18446744069414584324 4294967295 4 (by omega) w
        have N2 : Hid (∀ w, Calls Tryd.prog 20 #[.int .u64 18446744069414584324] w fun e w' => e = .returned (.int .u64 18446744069414584324) ∧ w = w') := fun w => next_calls 18446744069414584324 (by omega) (by omega) w
        clear hgo hmax
        go_wp2_with fail
        refine (N.out _).mono ?_
        rintro e w1 ⟨rfl, rfl⟩
        go_wp2_with fail
        refine (G.out _).mono ?_
        rintro e w1 ⟨rfl, rfl⟩
        go_wp2_with fail
        refine (I.out _).mono ?_
        rintro e w1 ⟨rfl, rfl⟩
        go_wp2_with fail
        refine (N2.out _).mono ?_
        rintro e w1 ⟨rfl, rfl⟩
        go_wp2_with fail
        refine (HA.out _).mono ?_
        rintro e w1 ⟨rfl, hb⟩
        go_wp2_with fail
        go_ret
        exact ⟨rfl, hb⟩
      · obtain ⟨e1, e2, e3, e4⟩ := nextP_less y hy.out.1 hy.out.2 hmax
        have G2 := Lib.hid (gen_calls (nextP y))
        have S2 := Lib.hid (status_calls (nextP y) e3 e4)
        rw [e1] at G2
        rw [e2] at S2
        have hg0 : 0 ≤ y / 4294967296 ∧ y / 4294967296 < 4294967295 := by
          have := hy.out
          omega
        have Y2 : Hid (0 ≤ nextP y ∧ nextP y < 18446744073709551616) := ⟨e3, e4⟩
        have hk20 : k < 20 := hgo.2
        clear e1 e2 e3 e4 hgo
        generalize nextP y = z at *
        obtain ⟨u, hu⟩ : ∃ u, y / 4294967296 = u := ⟨_, rfl⟩
        rw [hu] at G G2 hg0 hmax
        clear hu
        have hw : IntKind.u64.wrap (u + 1) = u + 1 := by rw [wrapu]; omega
        have hq : (u == 4294967295) = false := by simpa using hmax
        clear hmax
        go_wp2_with fail
        refine (N.out _).mono ?_
        rintro e w1 ⟨rfl, rfl⟩
        go_wp2_with fail
        refine (G.out _).mono ?_
        rintro e w1 ⟨rfl, rfl⟩
        go_wp2_with fail
        refine (G2.out _).mono ?_
        rintro e w1 ⟨rfl, rfl⟩
        go_wp2_with fail
        refine (G.out _).mono ?_
        rintro e w1 ⟨rfl, rfl⟩
        go_wp2_with fail
        refine (S2.out _).mono ?_
        rintro e w1 ⟨rfl, rfl⟩
        go_wp2_with fail
        go_roundw
        case rel => exact ⟨z, k + 1, rfl, by first | go_num | trivial, by omega, Y2, by first | rfl | trivial⟩
        case measure => simp [intOf]; omega
    · by_cases hkt : (k : Int) < t
      · have d1 : decide ((k : Int) < t) = true := decide_eq_true hkt
        have d2 : decide ((k : Int) < 20) = false := decide_eq_false (by omega)
        clear hgo
        go_wp2_with fail
        refine (HA.out _).mono ?_
        rintro e w1 ⟨rfl, hb⟩
        go_wp2_with fail
        go_ret
        exact ⟨rfl, hb⟩
      · have d1 : decide ((k : Int) < t) = false := decide_eq_false hkt
        clear hgo
        go_wp2_with fail
        refine (HA.out _).mono ?_
        rintro e w1 ⟨rfl, hb⟩
        go_wp2_with fail
        go_ret
        exact ⟨rfl, hb⟩
end Go.Proofs.YtippfkokgpdmdaaDoor

/-
  Chapter 4 by the document: Is, Next.
-/
import Derived.Test.YtippfkokgpdmdaaDoorStateRef
namespace Go.Proofs.YtippfkokgpdmdaaDoor
open Go Go.RowKit
set_option linter.unusedVariables false

theorem isP_parts (x g s : Int) (h0 : 0 ≤ x) (h1 : x < 18446744073709551616) (hg : 0 ≤ g) (a : g ≤ 4294967295) (b : 0 ≤ s) (c : s ≤ 4) :
    isP x g s = ((x / 4294967296 == g) && (x % 4294967296 == s)) := by
  rw [Bool.eq_iff_iff]
  simp only [isP, decide_eq_true_eq, Bool.and_eq_true, beq_iff_eq]
  unfold pairP
  omega
theorem isP_no (x g s : Int) (h : ¬ (g ≤ 4294967295 ∧ 0 ≤ s ∧ s ≤ 4)) : isP x g s = false := by
  simp only [isP, decide_eq_false_iff_not]
  intro ⟨a, b, c, d⟩
  exact h ⟨a, b, c⟩
theorem ris_calls (x g s : Int) (h0 : 0 ≤ x) (h1 : x < 18446744073709551616) (hg : 0 ≤ g) (w : World) :
    Calls Tryd.prog 19 #[.int .u64 x, .int .u64 g, .int .i64 s] w fun e w' => e = .returned (.bool (isP x g s)) ∧ w' = w := by
  have G := Lib.hid (rgen_calls x w h0 h1)
  have S := Lib.hid (rstatus_calls x h0 h1 w)
  by_cases d1 : g ≤ 4294967295
  · by_cases d2 : 0 ≤ s
    · by_cases d3 : s ≤ 4
      · have HI := Lib.hid (isP_parts x g s h0 h1 hg d1 d2 d3)
        generalize isP x g s = r at *
        clear h0 h1 hg
        have e1 : decide (g ≤ 4294967295) = true := decide_eq_true d1
        have e2 : decide (0 ≤ s) = true := decide_eq_true d2
        have e3 : decide (s ≤ 4) = true := decide_eq_true d3
        clear d1 d2 d3
        generalize x / 4294967296 = a at *
        generalize x % 4294967296 = b at *
        by_cases q : a = g
        · have q1 : (a == g) = true := by simpa using q
          rw [q1] at HI
          go_enter Tryd.func19, Tryd.ntmps19
          go_wp2_with fail
          refine G.out.mono ?_
          rintro e w1 ⟨rfl, rfl⟩
          go_wp2_with fail
          refine S.out.mono ?_
          rintro e w1 ⟨rfl, rfl⟩
          go_wp2_with fail
          go_ret
          refine ⟨ret_bool ?_, rfl⟩
          rw [HI.out]; simp
        · have q1 : (a == g) = false := by simpa using q
          rw [q1] at HI
          go_enter Tryd.func19, Tryd.ntmps19
          go_wp2_with fail
          refine G.out.mono ?_
          rintro e w1 ⟨rfl, rfl⟩
          go_wp2_with fail
          go_ret
          refine ⟨ret_bool ?_, rfl⟩
          rw [HI.out]; simp
      · have HI := Lib.hid (isP_no x g s (by omega))
        generalize isP x g s = r at *
        have e1 : decide (g ≤ 4294967295) = true := decide_eq_true d1
        have e2 : decide (0 ≤ s) = true := decide_eq_true d2
        have e3 : decide (s ≤ 4) = false := decide_eq_false d3
        go_enter Tryd.func19, Tryd.ntmps19
        go_wp2_with fail
        go_ret
        exact ⟨ret_bool HI.out.symm, rfl⟩
    · have HI := Lib.hid (isP_no x g s (by omega))
      generalize isP x g s = r at *
      have e1 : decide (g ≤ 4294967295) = true := decide_eq_true d1
      have e2 : decide (0 ≤ s) = false := decide_eq_false d2
      go_enter Tryd.func19, Tryd.ntmps19
      go_wp2_with fail
      go_ret
      exact ⟨ret_bool HI.out.symm, rfl⟩
  · have HI := Lib.hid (isP_no x g s (by omega))
    generalize isP x g s = r at *
    have e1 : decide (g ≤ 4294967295) = false := decide_eq_false d1
    go_enter Tryd.func19, Tryd.ntmps19
    go_wp2_with fail
    go_ret
    exact ⟨ret_bool HI.out.symm, rfl⟩
theorem rnext_calls (x : Int) (h0 : 0 ≤ x) (h1 : x < 18446744073709551616) (w : World) : Calls Tryd.prog 21 #[.int .u64 x] w fun e w' => e = .returned (.int .u64 (nextP x)) ∧ w' = w := by
  have hw : IntKind.u64.wrap (x / 4294967296 + 1) = x / 4294967296 + 1 := by rw [wrapu]; omega
  have hg : 0 ≤ x / 4294967296 := by omega
  have hg1 : x / 4294967296 ≤ 4294967295 := by omega
  have G := Lib.hid (rgen_calls x w h0 h1)
  have HN : Hid (nextP x = if x / 4294967296 < 4294967295 then pairP (x / 4294967296 + 1) 0 else pairP 4294967295 4) := rfl
  generalize nextP x = r at *
  obtain ⟨u, hu⟩ : ∃ u, x / 4294967296 = u := ⟨_, rfl⟩
  rw [hu] at hw G HN hg hg1
  clear hu h0 h1
  by_cases h : u < 4294967295
  · have HR : Hid (r = pairP (u + 1) 0) := by show _ = _; rw [HN.out, if_pos h]
    have q : (u == 4294967295) = false := by simp; omega
    go_enter Tryd.func21, Tryd.ntmps21
    go_wp2_with fail
    refine G.out.mono ?_
    rintro e w' ⟨rfl, rfl⟩
    go_wp2_with fail
    refine G.out.mono ?_
    rintro e w' ⟨rfl, rfl⟩
    go_wp2_with fail
    try rw [hw]
    refine (rof_calls (u + 1) 0 (by omega) _).mono ?_
    rintro e w' ⟨rfl, rfl⟩
    go_wp2_with fail
    go_ret
    exact ⟨ret_u64 HR.out.symm, rfl⟩
  · have HR : Hid (r = pairP 4294967295 4) := by show _ = _; rw [HN.out, if_neg h]
    have q : (u == 4294967295) = true := by simp; omega
    go_enter Tryd.func21, Tryd.ntmps21
    go_wp2_with fail
    refine G.out.mono ?_
    rintro e w' ⟨rfl, rfl⟩
    go_wp2_with fail
    refine (rof_calls 4294967295 4 (by omega) _).mono ?_
    rintro e w' ⟨rfl, rfl⟩
    go_wp2_with fail
    go_ret
    exact ⟨ret_u64 HR.out.symm, rfl⟩
end Go.Proofs.YtippfkokgpdmdaaDoor

/-
  A slot's state (chapter 4): the two halves of a word; state.Of, Gen, Status, Is, Next, and the text of the example.
-/
import Derived.Test.YtippfkokgpdmdaaDoorProg
import Derived.Test.YtippfkokgpdmdaaDoorLib
import Derived.Laws.BitsAllLaws
namespace Go.Proofs.YtippfkokgpdmdaaDoor
open Go Go.RowKit
set_option linter.unusedVariables false

theorem sret_u64 {a b : Int} (h : a = b) : Ending.returned (.int .u64 a) = .returned (.int .u64 b) := by rw [h]
theorem sret_i64 {a b : Int} (h : a = b) : Ending.returned (.int .i64 a) = .returned (.int .i64 b) := by rw [h]
theorem sret_bool {a b : Bool} (h : a = b) : Ending.returned (.bool a) = .returned (.bool b) := by rw [h]
theorem swrapu (x : Int) : IntKind.u64.wrap x = x % 18446744073709551616 := by rw [IntKind.wrap_u64]
theorem nat_join (n a b : Nat) (ha : 2 ^ n ∣ a) (hb : b < 2 ^ n) : a ||| b = a + b := by
  obtain ⟨c, rfl⟩ := ha
  exact (Nat.two_pow_add_eq_or_of_lt hb c).symm
theorem and_low (x : Int) (h0 : 0 ≤ x) (h1 : x < 18446744073709551616) : bits .and .u64 x 4294967295 = x % 4294967296 := by
  obtain ⟨n, rfl⟩ : ∃ n : Nat, x = n := ⟨x.toNat, by omega⟩
  have h := u64_and_nat n 4294967295 (by omega) (by omega)
  have e : n &&& 4294967295 = n % 4294967296 := Nat.and_two_pow_sub_one_eq_mod n 32
  rw [e] at h
  rw [show (4294967295 : Int) = ((4294967295 : Nat) : Int) from rfl, h]
  omega
theorem or_pair (h l : Int) (h0 : 0 ≤ h) (l0 : 0 ≤ l) : bits .or .u64 (IntKind.u64.wrap (h * 4294967296)) (l % 4294967296) = h % 4294967296 * 4294967296 + l % 4294967296 := by
  have e : IntKind.u64.wrap (h * 4294967296) = h % 4294967296 * 4294967296 := by rw [swrapu]; omega
  rw [e]
  obtain ⟨a, ha⟩ : ∃ a : Nat, h % 4294967296 = a := ⟨(h % 4294967296).toNat, by omega⟩
  obtain ⟨b, hb⟩ : ∃ b : Nat, l % 4294967296 = b := ⟨(l % 4294967296).toNat, by omega⟩
  rw [ha, hb]
  have ha2 : a < 4294967296 := by omega
  have hb2 : b < 4294967296 := by omega
  have hr := u64_or_nat (a * 4294967296) b (by omega) (by omega)
  rw [nat_join 32 (a * 4294967296) b ⟨a, by omega⟩ (by omega)] at hr
  rw [show (a : Int) * 4294967296 = ((a * 4294967296 : Nat) : Int) by omega, hr]
  omega
/-- Two halves. -/
def pairP (h l : Int) : Int := h % 4294967296 * 4294967296 + l % 4294967296
theorem pairP_bd (h l : Int) : 0 ≤ pairP h l ∧ pairP h l < 18446744073709551616 := by unfold pairP; omega
theorem low_calls (x : Int) (h0 : 0 ≤ x) (h1 : x < 18446744073709551616) (w : World) : Calls Tryd.prog 53 #[.int .u64 x] w fun e w' => e = .returned (.int .u64 (x % 4294967296)) ∧ w = w' := by
  go_enter Tryd.func53, Tryd.ntmps53
  go_wp2_with fail
  go_ret
  exact ⟨sret_u64 (and_low x h0 h1), rfl⟩
theorem pair_calls (h l : Int) (h0 : 0 ≤ h) (l0 : 0 ≤ l) (l1 : l < 18446744073709551616) (w : World) : Calls Tryd.prog 50 #[.int .u64 h, .int .u64 l] w fun e w' => e = .returned (.int .u64 (pairP h l)) ∧ w = w' := by
  go_enter Tryd.func50, Tryd.ntmps50
  go_wp2_with fail
  refine (low_calls _ l0 l1 _).mono ?_
  rintro e w' ⟨rfl, rfl⟩
  go_wp2_with fail
  go_ret
  exact ⟨sret_u64 (or_pair h l h0 l0), rfl⟩
theorem high_calls (x : Int) (w : World) : Calls Tryd.prog 52 #[.int .u64 x] w fun e w' => e = .returned (.int .u64 (x / 4294967296)) ∧ w = w' := by
  go_enter Tryd.func52, Tryd.ntmps52
  go_wp2_with fail
  go_ret
  exact ⟨rfl, rfl⟩
/-- state.Of. -/
theorem of_calls (g s : Int) (h0 : 0 ≤ g) (w : World) : Calls Tryd.prog 12 #[.int .u64 g, .int .i64 s] w fun e w' => e = .returned (.int .u64 (pairP g s)) ∧ w = w' := by
  have hs : 0 ≤ IntKind.u64.wrap s ∧ IntKind.u64.wrap s < 18446744073709551616 := by rw [swrapu]; omega
  have e : pairP g (IntKind.u64.wrap s) = pairP g s := by unfold pairP; rw [swrapu]; omega
  obtain ⟨u, hu⟩ : ∃ u, IntKind.u64.wrap s = u := ⟨_, rfl⟩
  rw [hu] at hs e
  have HU := Lib.hid hu
  clear hu
  go_enter Tryd.func12, Tryd.ntmps12
  go_wp2_with fail
  try rw [HU.out]
  refine (pair_calls _ _ h0 hs.1 hs.2 _).mono ?_
  rintro e w' ⟨rfl, rfl⟩
  go_wp2_with fail
  go_ret
  exact ⟨sret_u64 (by first | rfl | assumption), rfl⟩
/-- state.Gen. -/
theorem gen_calls (x : Int) (w : World) : Calls Tryd.prog 14 #[.int .u64 x] w fun e w' => e = .returned (.int .u64 (x / 4294967296)) ∧ w = w' := by
  go_enter Tryd.func14, Tryd.ntmps14
  go_wp2_with fail
  refine (high_calls _ _).mono ?_
  rintro e w' ⟨rfl, rfl⟩
  go_wp2_with fail
  go_ret
  exact ⟨rfl, rfl⟩
/-- state.Status. -/
theorem status_calls (x : Int) (h0 : 0 ≤ x) (h1 : x < 18446744073709551616) (w : World) : Calls Tryd.prog 16 #[.int .u64 x] w fun e w' => e = .returned (.int .i64 (x % 4294967296)) ∧ w = w' := by
  have hw : IntKind.i64.wrap (x % 4294967296) = x % 4294967296 := by rw [IntKind.wrap_i64]; omega
  obtain ⟨u, hu⟩ : ∃ u, x % 4294967296 = u := ⟨_, rfl⟩
  have L := Lib.hid (low_calls x h0 h1 w)
  rw [hu] at hw L ⊢
  clear hu
  go_enter Tryd.func16, Tryd.ntmps16
  go_wp2_with fail
  refine L.out.mono ?_
  rintro e w' ⟨rfl, rfl⟩
  go_wp2_with fail
  go_ret
  exact ⟨sret_i64 (by first | rfl | exact hw), rfl⟩
/-- state.Is. -/
def isP (x g s : Int) : Bool := decide (g ≤ 4294967295 ∧ 0 ≤ s ∧ s ≤ 4 ∧ x = pairP g s)
theorem is_calls (x g s : Int) (h0 : 0 ≤ g) (w : World) : Calls Tryd.prog 18 #[.int .u64 x, .int .u64 g, .int .i64 s] w fun e w' => e = .returned (.bool (isP x g s)) ∧ w = w' := by
  have O := Lib.hid (of_calls g s h0)
  have HI : Hid (isP x g s = (decide (g ≤ 4294967295) && (decide (0 ≤ s) && (decide (s ≤ 4) && (x == pairP g s))))) := by
    show _ = _
    unfold isP
    rw [Bool.eq_iff_iff]
    simp
  generalize isP x g s = r at *
  by_cases h1 : g ≤ 4294967295
  · by_cases h2 : 0 ≤ s
    · by_cases h3 : s ≤ 4
      · have d1 : decide (g ≤ 4294967295) = true := decide_eq_true h1
        have d2 : decide (0 ≤ s) = true := decide_eq_true h2
        have d3 : decide (s ≤ 4) = true := decide_eq_true h3
        go_enter Tryd.func18, Tryd.ntmps18
        go_wp2_with fail
        refine (O.out _).mono ?_
        rintro e w' ⟨rfl, rfl⟩
        go_wp2_with fail
        go_ret
        refine ⟨sret_bool ?_, rfl⟩
        rw [HI.out, d1, d2, d3]
        simp
      · have d1 : decide (g ≤ 4294967295) = true := decide_eq_true h1
        have d2 : decide (0 ≤ s) = true := decide_eq_true h2
        have d3 : decide (s ≤ 4) = false := decide_eq_false h3
        go_enter Tryd.func18, Tryd.ntmps18
        go_wp2_with fail
        go_ret
        refine ⟨sret_bool ?_, rfl⟩
        rw [HI.out, d1, d2, d3]
        simp
    · have d1 : decide (g ≤ 4294967295) = true := decide_eq_true h1
      have d2 : decide (0 ≤ s) = false := decide_eq_false h2
      go_enter Tryd.func18, Tryd.ntmps18
      go_wp2_with fail
      go_ret
      refine ⟨sret_bool ?_, rfl⟩
      rw [HI.out, d1, d2]
      simp
  · have d1 : decide (g ≤ 4294967295) = false := decide_eq_false h1
    go_enter Tryd.func18, Tryd.ntmps18
    go_wp2_with fail
    go_ret
    refine ⟨sret_bool ?_, rfl⟩
    rw [HI.out, d1]
    simp
/-- state.Next. -/
def snextP (x : Int) : Int := if x / 4294967296 < 4294967295 then pairP (x / 4294967296 + 1) 0 else pairP 4294967295 4
theorem snext_calls (x : Int) (h0 : 0 ≤ x) (h1 : x < 18446744073709551616) (w : World) : Calls Tryd.prog 20 #[.int .u64 x] w fun e w' => e = .returned (.int .u64 (snextP x)) ∧ w = w' := by
  have hw : IntKind.u64.wrap (x / 4294967296 + 1) = x / 4294967296 + 1 := by rw [swrapu]; omega
  have hg : 0 ≤ x / 4294967296 := by omega
  have G := Lib.hid (gen_calls x)
  have HN : Hid (snextP x = if x / 4294967296 < 4294967295 then pairP (x / 4294967296 + 1) 0 else pairP 4294967295 4) := rfl
  generalize snextP x = r at *
  obtain ⟨u, hu⟩ : ∃ u, x / 4294967296 = u := ⟨_, rfl⟩
  rw [hu] at hw G HN hg
  clear hu
  by_cases h : u < 4294967295
  · have HR : Hid (r = pairP (u + 1) 0) := by show _ = _; rw [HN.out, if_pos h]
    go_enter Tryd.func20, Tryd.ntmps20
    go_wp2_with fail
    refine (G.out _).mono ?_
    rintro e w' ⟨rfl, rfl⟩
    go_wp2_with fail
    try rw [hw]
    refine (of_calls (u + 1) 0 (by omega) _).mono ?_
    rintro e w' ⟨rfl, rfl⟩
    go_wp2_with fail
    go_ret
    exact ⟨sret_u64 HR.out.symm, rfl⟩
  · have HR : Hid (r = pairP 4294967295 4) := by show _ = _; rw [HN.out, if_neg h]
    go_enter Tryd.func20, Tryd.ntmps20
    go_wp2_with fail
    refine (G.out _).mono ?_
    rintro e w' ⟨rfl, rfl⟩
    go_wp2_with fail
    refine (of_calls 4294967295 4 (by omega) _).mono ?_
    rintro e w' ⟨rfl, rfl⟩
    go_wp2_with fail
    go_ret
    exact ⟨sret_u64 HR.out.symm, rfl⟩
def fiveS : ByteArray := { data := #[53] }
def liveS : ByteArray := { data := #[108, 105, 118, 101] }
def fiveLive : ByteArray := { data := #[53, 32, 108, 105, 118, 101] }
theorem small_five (w : World) : Calls Tryd.prog 88 #[.int .i64 5] w fun e w' => e = .returned (.string fiveS) ∧ w = w' := by
  go_enter Tryd.func88, Tryd.ntmps88
  go_wp2_with fail
  go_ret
  exact ⟨by kernel_rfl, rfl⟩
theorem format_five (w : World) : Calls Tryd.prog 71 #[.int .u64 5, .int .i64 10] w fun e w' => e = .returned (.string fiveS) ∧ w = w' := by
  go_enter Tryd.func71, Tryd.ntmps71
  go_wp2_with fail
  refine (small_five _).mono ?_
  rintro e w' ⟨rfl, rfl⟩
  go_wp2_with fail
  go_ret
  exact ⟨rfl, rfl⟩
theorem formatUint_five (w : World) : Calls Tryd.prog 54 #[.int .u64 5, .int .i64 10] w fun e w' => e = .returned (.string fiveS) ∧ w = w' := by
  go_enter Tryd.func54, Tryd.ntmps54
  go_wp2_with fail
  refine (format_five _).mono ?_
  rintro e w' ⟨rfl, rfl⟩
  go_wp2_with fail
  go_ret
  exact ⟨rfl, rfl⟩
theorem word_two (w : World) : Calls Tryd.prog 55 #[.int .i64 2] w fun e w' => e = .returned (.string liveS) ∧ Below w.heap.size w w' := by
  go_enter Tryd.func55, Tryd.ntmps55
  go_wp2_with fail
  go_ret
  exact ⟨rfl, (Below.refl _ _).alloc (Nat.le_refl _) _⟩
theorem text_live (w : World) : Calls Tryd.prog 22 #[.int .u64 21474836482] w fun e w' => e = .returned (.string fiveLive) ∧ Below w.heap.size w w' := by
  have G : Hid (∀ w, Calls Tryd.prog 14 #[.int .u64 21474836482] w fun e w' => e = .returned (.int .u64 5) ∧ w = w') := fun w => gen_calls 21474836482 w
  have S : Hid (∀ w, Calls Tryd.prog 16 #[.int .u64 21474836482] w fun e w' => e = .returned (.int .i64 2) ∧ w = w') := fun w => status_calls 21474836482 (by omega) (by omega) w
  go_enter Tryd.func22, Tryd.ntmps22
  go_wp2_with fail
  refine (G.out _).mono ?_
  rintro e w1 ⟨rfl, rfl⟩
  go_wp2_with fail
  refine (formatUint_five _).mono ?_
  rintro e w1 ⟨rfl, rfl⟩
  go_wp2_with fail
  refine (S.out _).mono ?_
  rintro e w1 ⟨rfl, rfl⟩
  go_wp2_with fail
  refine (word_two _).mono ?_
  rintro e w1 ⟨rfl, hb⟩
  go_wp2_with fail
  go_ret
  exact ⟨by kernel_rfl, hb⟩
theorem state_awake (w : World) : Calls Tryd.prog 24 #[] w fun e w' => e = .returned (.bool true) ∧ Below w.heap.size w w' := by
  have O1 : Hid (∀ w, Calls Tryd.prog 12 #[.int .u64 5, .int .i64 2] w fun e w' => e = .returned (.int .u64 21474836482) ∧ w = w') := fun w => of_calls 5 2 (by omega) w
  have O2 : Hid (∀ w, Calls Tryd.prog 12 #[.int .u64 6, .int .i64 0] w fun e w' => e = .returned (.int .u64 25769803776) ∧ w = w') := fun w => of_calls 6 0 (by omega) w
  have N : Hid (∀ w, Calls Tryd.prog 20 #[.int .u64 21474836482] w fun e w' => e = .returned (.int .u64 25769803776) ∧ w = w') := fun w => snext_calls 21474836482 (by omega) (by omega) w
  have I1 : Hid (∀ w, Calls Tryd.prog 18 #[.int .u64 21474836482, .int .u64 5, .int .i64 2] w fun e w' => e = .returned (.bool true) ∧ w = w') := fun w => is_calls 21474836482 5 2 (by omega) w
  have I2 : Hid (∀ w, Calls Tryd.prog 18 #[.int .u64 21474836482, .int .u64 5, .int .i64 0] w fun e w' => e = .returned (.bool false) ∧ w = w') := fun w => is_calls 21474836482 5 0 (by omega) w
  have T := Lib.hid (fun w => text_live w)
  go_enter Tryd.func24, Tryd.ntmps24
  go_wp2_with fail
  refine (O1.out _).mono ?_
  rintro e w1 ⟨rfl, rfl⟩
  go_wp2_with fail
  refine (T.out _).mono ?_
  rintro e w1 ⟨rfl, hb⟩
  unfold fiveLive
  go_wp2_with fail
  refine (N.out _).mono ?_
  rintro e w2 ⟨rfl, rfl⟩
  go_wp2_with fail
  refine (O2.out _).mono ?_
  rintro e w2 ⟨rfl, rfl⟩
  go_wp2_with fail
  refine (I1.out _).mono ?_
  rintro e w2 ⟨rfl, rfl⟩
  go_wp2_with fail
  refine (I2.out _).mono ?_
  rintro e w2 ⟨rfl, rfl⟩
  go_wp2_with fail
  go_ret
  exact ⟨rfl, hb⟩
end Go.Proofs.YtippfkokgpdmdaaDoor

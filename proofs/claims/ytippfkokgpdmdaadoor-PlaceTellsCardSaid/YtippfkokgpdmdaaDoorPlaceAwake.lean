/-
  Chapter 9's examples.
-/
import Derived.Test.YtippfkokgpdmdaaDoorPlaceWhere
import Derived.Test.YtippfkokgpdmdaaDoorPlaceText
namespace Go.Proofs.YtippfkokgpdmdaaDoor
open Go Go.RowKit
set_option linter.unusedVariables false

theorem numS_one (n : Nat) (h : n < 10) : numS (n : Int) = ⟨#[UInt8.ofNat (48 + n)]⟩ := by
  rw [numS_nonneg _ (by omega)]
  unfold digS
  rw [Int.toNat_natCast, Lib.decDigits_one h]
set_option maxRecDepth 100000 in
set_option maxHeartbeats 4000000 in
theorem place_awake (w : World) (ht : Tab w) : Calls Tryd.prog 31 #[] w fun e w' => e = .returned (.bool true) ∧ Below w.heap.size w w' := by
  have Q1 : Hid (∀ w, Calls Tryd.prog 25 #[.agg #[.int .i64 2, .int .i64 3, .int .i64 4, .int .u64 0], .int .i64 11] w fun e w' => e = .returned (.agg #[.int .i64 8, .int .i64 0, .int .i64 1]) ∧ Below w.heap.size w w') := fun w => by
    have := what_calls 2 3 4 0 11 w
    rw [show whatP 2 3 4 0 11 = (8, 0, 1) by decide +kernel] at this
    exact this
  have Q2 : Hid (∀ w, Calls Tryd.prog 25 #[.agg #[.int .i64 2, .int .i64 3, .int .i64 4, .int .u64 0], .int .i64 24] w fun e w' => e = .returned (.agg #[.int .i64 9, .int .i64 2, .int .i64 0]) ∧ Below w.heap.size w w') := fun w => by
    have := what_calls 2 3 4 0 24 w
    rw [show whatP 2 3 4 0 24 = (9, 2, 0) by decide +kernel] at this
    exact this
  have Q3 : Hid (∀ w, Calls Tryd.prog 25 #[.agg #[.int .i64 2, .int .i64 3, .int .i64 4, .int .u64 0], .int .i64 43] w fun e w' => e = .returned (.agg #[.int .i64 15, .int .i64 3, .int .i64 3]) ∧ Below w.heap.size w w') := fun w => by
    have := what_calls 2 3 4 0 43 w
    rw [show whatP 2 3 4 0 43 = (15, 3, 3) by decide +kernel] at this
    exact this
  have Q4 : Hid (∀ w, Calls Tryd.prog 25 #[.agg #[.int .i64 2, .int .i64 3, .int .i64 4, .int .u64 0], .int .i64 44] w fun e w' => e = .returned (.agg #[.int .i64 0, .int .i64 0, .int .i64 0]) ∧ Below w.heap.size w w') := fun w => by
    have := what_calls 2 3 4 0 44 w
    rw [show whatP 2 3 4 0 44 = (0, 0, 0) by decide +kernel] at this
    exact this
  have Q5 : Hid (∀ w, Calls Tryd.prog 27 #[.agg #[.int .i64 2, .int .i64 3, .int .i64 4, .int .u64 0], .agg #[.int .i64 8, .int .i64 0, .int .i64 1]] w fun e w' => e = .returned (.int .i64 11) ∧ Below w.heap.size w w') := fun w => by
    have := where_calls 2 3 4 0 8 0 1 w
    rw [show whereP 2 3 4 0 (8, 0, 1) = 11 by decide +kernel] at this
    exact this
  have T1 : Hid (∀ W, Below w.heap.size w W → Calls Tryd.prog 29 #[.agg #[.int .i64 8, .int .i64 0, .int .i64 1]] W fun e w' => e = .returned (.string ⟨#[104, 101, 97, 100, 32, 49]⟩) ∧ Below W.heap.size W w') := fun W hW => by
    have := ptext_calls 8 0 1 (by omega) (by omega) (by omega) (by omega) W (ht.below hW)
    rw [show numS 1 = ⟨#[49]⟩ from numS_one 1 (by omega), show textP 8 (numS 0) ⟨#[49]⟩ = ⟨#[104, 101, 97, 100, 32, 49]⟩ from rfl] at this
    exact this
  have T2 : Hid (∀ W, Below w.heap.size w W → Calls Tryd.prog 29 #[.agg #[.int .i64 9, .int .i64 2, .int .i64 0]] W fun e w' => e = .returned (.string ⟨#[115, 108, 111, 116, 32, 50, 32, 115, 116, 97, 116, 101]⟩) ∧ Below W.heap.size W w') := fun W hW => by
    have := ptext_calls 9 2 0 (by omega) (by omega) (by omega) (by omega) W (ht.below hW)
    rw [show numS 2 = ⟨#[50]⟩ from numS_one 2 (by omega), show textP 9 ⟨#[50]⟩ (numS 0) = ⟨#[115, 108, 111, 116, 32, 50, 32, 115, 116, 97, 116, 101]⟩ from rfl] at this
    exact this
  have T3 : Hid (∀ W, Below w.heap.size w W → Calls Tryd.prog 29 #[.agg #[.int .i64 15, .int .i64 3, .int .i64 3]] W fun e w' => e = .returned (.string ⟨#[115, 108, 111, 116, 32, 51, 32, 110, 101, 120, 116, 32, 51]⟩) ∧ Below W.heap.size W w') := fun W hW => by
    have := ptext_calls 15 3 3 (by omega) (by omega) (by omega) (by omega) W (ht.below hW)
    rw [show numS 3 = ⟨#[51]⟩ from numS_one 3 (by omega), show textP 15 ⟨#[51]⟩ ⟨#[51]⟩ = ⟨#[115, 108, 111, 116, 32, 51, 32, 110, 101, 120, 116, 32, 51]⟩ from rfl] at this
    exact this
  have b0 : Below w.heap.size w (w.alloc (.cells #[.int .i64 2, .int .i64 3, .int .i64 4, .int .u64 0] 34)) := (Below.refl _ _).alloc (Nat.le_refl _) _
  have D0 := Blk.new w [.int .i64 2, .int .i64 3, .int .i64 4, .int .u64 0] 34
  have C0 := D0.cell
  clear ht
  go_enter Tryd.func31, Tryd.ntmps31
  go_wp2_with fail
  refine (Q1.out _).mono ?_
  rintro e w1 ⟨rfl, hb1⟩
  have W1 := b0.trans (hb1.mono b0.size)
  have D1 := D0.below' hb1
  have C1 := D1.cell
  clear D0 C0 b0 hb1
  go_wp2_with fail
  refine (T1.out _ W1).mono ?_
  rintro e w2 ⟨rfl, hb2⟩
  have W2 := W1.trans (hb2.mono W1.size)
  have D2 := D1.below' hb2
  have C2 := D2.cell
  clear D1 C1 W1 hb2
  go_wp2_with fail
  refine (Q2.out _).mono ?_
  rintro e w3 ⟨rfl, hb3⟩
  have W3 := W2.trans (hb3.mono W2.size)
  have D3 := D2.below' hb3
  have C3 := D3.cell
  clear D2 C2 W2 hb3
  go_wp2_with fail
  refine (T2.out _ W3).mono ?_
  rintro e w4 ⟨rfl, hb4⟩
  have W4 := W3.trans (hb4.mono W3.size)
  have D4 := D3.below' hb4
  have C4 := D4.cell
  clear D3 C3 W3 hb4
  go_wp2_with fail
  refine (Q3.out _).mono ?_
  rintro e w5 ⟨rfl, hb5⟩
  have W5 := W4.trans (hb5.mono W4.size)
  have D5 := D4.below' hb5
  have C5 := D5.cell
  clear D4 C4 W4 hb5
  go_wp2_with fail
  refine (T3.out _ W5).mono ?_
  rintro e w6 ⟨rfl, hb6⟩
  have W6 := W5.trans (hb6.mono W5.size)
  have D6 := D5.below' hb6
  have C6 := D6.cell
  clear D5 C5 W5 hb6
  go_wp2_with fail
  refine (Q4.out _).mono ?_
  rintro e w7 ⟨rfl, hb7⟩
  have W7 := W6.trans (hb7.mono W6.size)
  have D7 := D6.below' hb7
  have C7 := D7.cell
  have se : spotEq 0 0 0 0 0 0 = true := rfl
  clear D6 C6 W6 hb7
  go_wp2_with fail
  refine (Q5.out _).mono ?_
  rintro e w8 ⟨rfl, hb8⟩
  go_wp2_with fail
  go_ret
  exact ⟨rfl, W7.trans (hb8.mono W7.size)⟩
end Go.Proofs.YtippfkokgpdmdaaDoor

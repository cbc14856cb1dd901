/-
  Chapter 7: a deed's text, by the document.
-/
import Derived.Test.YtippfkokgpdmdaaDoorDeedNum
import Derived.Test.YtippfkokgpdmdaaDoorDeedAwake
namespace Go.Proofs.YtippfkokgpdmdaaDoor
open Go Go.RowKit
set_option linter.unusedVariables false

def byS : ByteArray := ⟨#[98, 121]⟩
def deedL (kw N A B Y : ByteArray) (m : Nat) (hb : Bool) : List ByteArray := (([kw, N] ++ [A, B].take m) ++ (if hb then [byS, Y] else []))
def joinS (l : List ByteArray) : ByteArray := ⟨(Lib.join (l.map (·.data.toList)) [32]).toArray⟩
theorem str_eq {a b : ByteArray} (h : a.data = b.data) : Ending.returned (Value.string a) = .returned (Value.string b) := by
  rw [ByteArray.ext h]
theorem join_nil (s : List UInt8) : Lib.join [] s = [] := rfl
set_option maxHeartbeats 4000000 in
theorem rtext_1 (at_ a b y : Int) (h0 : -9223372036854775808 ≤ at_) (h1 : at_ ≤ 9223372036854775807) (ha0 : 0 ≤ a) (ha1 : a < 18446744073709551616) (hb0 : 0 ≤ b) (hb1 : b < 18446744073709551616) (hy0 : 0 ≤ y) (hy1 : y < 18446744073709551616) (w : World) : Calls Tryd.prog 43 #[.agg #[.int .i64 1, .int .i64 at_, .int .u64 a, .int .u64 b, .int .u64 y]] w fun e w' => e = .returned (.string (joinS (deedL (kindWord 1) (numS at_) (digS a) (digS b) (digS y) 0 (!(y == 0))))) ∧ Below w.heap.size w w' := by
  have DA := Lib.hid (digS_calls a ha0 ha1)
  have DY := Lib.hid (digS_calls y hy0 hy1)
  have NU := Lib.hid (number_calls at_ h0 h1)
  have b1 : Below w.heap.size w (w.alloc (.cells #[.int .i64 1, .int .i64 at_, .int .u64 a, .int .u64 b, .int .u64 y] 48)) := (Below.refl _ _).alloc (Nat.le_refl _) _
  have D1 := Blk.new w [.int .i64 1, .int .i64 at_, .int .u64 a, .int .u64 b, .int .u64 y] 48
  have C1 := D1.cell
  have z1 := digS_small a ha1
  have z2 := digS_small y hy1
  have z3 := numS_small at_ h0 h1
  generalize digS a = A at *
  generalize digS b = B at *
  generalize digS y = Y at *
  generalize numS at_ = N at *
  have n1 : ¬ 9223372036854775807 < 1 + A.size := by omega
  have n2 : ¬ 9223372036854775807 < 5 + N.size := by omega
  have n3 : ¬ 9223372036854775807 < 5 + N.size + 4 := by omega
  have n4 : ¬ 9223372036854775807 < 5 + N.size + 4 + Y.size := by omega
  clear z1 z2 z3 h0 h1 ha0 ha1 hb0 hb1 hy0 hy1
  by_cases hy : y = 0
  · subst hy
    go_enter Tryd.func43, Tryd.ntmps43
    go_wp2_with fail
    refine (DA.out _).mono ?_
    rintro e w1 ⟨rfl, hb1⟩
    have D2 := D1.below' hb1
    have C2 := D2.cell
    have W1 := b1.trans (hb1.mono b1.size)
    clear D1 C1 b1 hb1
    go_wp2_with fail
    refine (NU.out _).mono ?_
    rintro e w2 ⟨rfl, hb2⟩
    have D3 := D2.below' hb2
    have C3 := D3.cell
    have W2 := W1.trans (hb2.mono W1.size)
    clear D2 C2 W1 hb2
    go_wp2_with fail
    go_ret
    refine ⟨?_, W2⟩
    refine str_eq ?_
    simp [joinS, deedL, kindWord, Lib.join, List.intercalate, List.intersperse]
  · have q : (y == 0) = false := by simpa using hy
    clear hy
    rw [q]
    go_enter Tryd.func43, Tryd.ntmps43
    go_wp2_with fail
    refine (DA.out _).mono ?_
    rintro e w1 ⟨rfl, hb1⟩
    have D2 := D1.below' hb1
    have C2 := D2.cell
    have W1 := b1.trans (hb1.mono b1.size)
    clear D1 C1 b1 hb1
    go_wp2_with fail
    refine (NU.out _).mono ?_
    rintro e w2 ⟨rfl, hb2⟩
    have D3 := D2.below' hb2
    have C3 := D3.cell
    have W2 := W1.trans (hb2.mono W1.size)
    clear D2 C2 W1 hb2
    go_wp2_with fail
    refine (DY.out _).mono ?_
    rintro e w4 ⟨rfl, hb4⟩
    have W4 := W2.trans (hb4.mono W2.size)
    go_wp2_with fail
    go_ret
    refine ⟨?_, W4⟩
    refine str_eq ?_
    simp [joinS, deedL, byS, kindWord, Lib.join, List.intercalate, List.intersperse]
set_option maxHeartbeats 4000000 in
theorem rtext_2 (at_ a b y : Int) (h0 : -9223372036854775808 ≤ at_) (h1 : at_ ≤ 9223372036854775807) (ha0 : 0 ≤ a) (ha1 : a < 18446744073709551616) (hb0 : 0 ≤ b) (hb1 : b < 18446744073709551616) (hy0 : 0 ≤ y) (hy1 : y < 18446744073709551616) (w : World) : Calls Tryd.prog 43 #[.agg #[.int .i64 2, .int .i64 at_, .int .u64 a, .int .u64 b, .int .u64 y]] w fun e w' => e = .returned (.string (joinS (deedL (kindWord 2) (numS at_) (digS a) (digS b) (digS y) 1 (!(y == 0))))) ∧ Below w.heap.size w w' := by
  have DA := Lib.hid (digS_calls a ha0 ha1)
  have DY := Lib.hid (digS_calls y hy0 hy1)
  have NU := Lib.hid (number_calls at_ h0 h1)
  have b1 : Below w.heap.size w (w.alloc (.cells #[.int .i64 2, .int .i64 at_, .int .u64 a, .int .u64 b, .int .u64 y] 48)) := (Below.refl _ _).alloc (Nat.le_refl _) _
  have D1 := Blk.new w [.int .i64 2, .int .i64 at_, .int .u64 a, .int .u64 b, .int .u64 y] 48
  have C1 := D1.cell
  have z1 := digS_small a ha1
  have z2 := digS_small y hy1
  have z3 := numS_small at_ h0 h1
  generalize digS a = A at *
  generalize digS b = B at *
  generalize digS y = Y at *
  generalize numS at_ = N at *
  have n1 : ¬ 9223372036854775807 < 1 + A.size := by omega
  have n2 : ¬ 9223372036854775807 < 6 + N.size := by omega
  have n3 : ¬ 9223372036854775807 < 6 + N.size + (1 + A.size) := by omega
  have n4 : ¬ 9223372036854775807 < 6 + N.size + (1 + A.size) + 4 := by omega
  have n5 : ¬ 9223372036854775807 < 6 + N.size + (1 + A.size) + 4 + Y.size := by omega
  clear z1 z2 z3 h0 h1 ha0 ha1 hb0 hb1 hy0 hy1
  by_cases hy : y = 0
  · subst hy
    go_enter Tryd.func43, Tryd.ntmps43
    go_wp2_with fail
    refine (DA.out _).mono ?_
    rintro e w1 ⟨rfl, hb1⟩
    have D2 := D1.below' hb1
    have C2 := D2.cell
    have W1 := b1.trans (hb1.mono b1.size)
    clear D1 C1 b1 hb1
    go_wp2_with fail
    refine (NU.out _).mono ?_
    rintro e w2 ⟨rfl, hb2⟩
    have D3 := D2.below' hb2
    have C3 := D3.cell
    have W2 := W1.trans (hb2.mono W1.size)
    clear D2 C2 W1 hb2
    go_wp2_with fail
    go_ret
    refine ⟨?_, W2⟩
    refine str_eq ?_
    simp [joinS, deedL, kindWord, Lib.join, List.intercalate, List.intersperse]
  · have q : (y == 0) = false := by simpa using hy
    clear hy
    rw [q]
    go_enter Tryd.func43, Tryd.ntmps43
    go_wp2_with fail
    refine (DA.out _).mono ?_
    rintro e w1 ⟨rfl, hb1⟩
    have D2 := D1.below' hb1
    have C2 := D2.cell
    have W1 := b1.trans (hb1.mono b1.size)
    clear D1 C1 b1 hb1
    go_wp2_with fail
    refine (NU.out _).mono ?_
    rintro e w2 ⟨rfl, hb2⟩
    have D3 := D2.below' hb2
    have C3 := D3.cell
    have W2 := W1.trans (hb2.mono W1.size)
    clear D2 C2 W1 hb2
    go_wp2_with fail
    refine (DY.out _).mono ?_
    rintro e w4 ⟨rfl, hb4⟩
    have W4 := W2.trans (hb4.mono W2.size)
    go_wp2_with fail
    go_ret
    refine ⟨?_, W4⟩
    refine str_eq ?_
    simp [joinS, deedL, byS, kindWord, Lib.join, List.intercalate, List.intersperse]
set_option maxHeartbeats 4000000 in
theorem rtext_3 (at_ a b y : Int) (h0 : -9223372036854775808 ≤ at_) (h1 : at_ ≤ 9223372036854775807) (ha0 : 0 ≤ a) (ha1 : a < 18446744073709551616) (hb0 : 0 ≤ b) (hb1 : b < 18446744073709551616) (hy0 : 0 ≤ y) (hy1 : y < 18446744073709551616) (w : World) : Calls Tryd.prog 43 #[.agg #[.int .i64 3, .int .i64 at_, .int .u64 a, .int .u64 b, .int .u64 y]] w fun e w' => e = .returned (.string (joinS (deedL (kindWord 3) (numS at_) (digS a) (digS b) (digS y) 2 (!(y == 0))))) ∧ Below w.heap.size w w' := by
  have DA := Lib.hid (digS_calls a ha0 ha1)
  have DB := Lib.hid (digS_calls b hb0 hb1)
  have DY := Lib.hid (digS_calls y hy0 hy1)
  have NU := Lib.hid (number_calls at_ h0 h1)
  have b1 : Below w.heap.size w (w.alloc (.cells #[.int .i64 3, .int .i64 at_, .int .u64 a, .int .u64 b, .int .u64 y] 48)) := (Below.refl _ _).alloc (Nat.le_refl _) _
  have D1 := Blk.new w [.int .i64 3, .int .i64 at_, .int .u64 a, .int .u64 b, .int .u64 y] 48
  have C1 := D1.cell
  have z1 := digS_small a ha1
  have z2 := digS_small y hy1
  have z4 := digS_small b hb1
  have z3 := numS_small at_ h0 h1
  generalize digS a = A at *
  generalize digS b = B at *
  generalize digS y = Y at *
  generalize numS at_ = N at *
  have n1 : ¬ 9223372036854775807 < 1 + A.size := by omega
  have n2 : ¬ 9223372036854775807 < 5 + N.size := by omega
  have n3 : ¬ 9223372036854775807 < 5 + N.size + (1 + A.size) := by omega
  have n4 : ¬ 9223372036854775807 < 5 + N.size + (1 + A.size) + 1 := by omega
  have n5 : ¬ 9223372036854775807 < 5 + N.size + (1 + A.size) + 1 + B.size := by omega
  have n6 : ¬ 9223372036854775807 < 5 + N.size + (1 + A.size) + 1 + B.size + 4 := by omega
  have n7 : ¬ 9223372036854775807 < 5 + N.size + (1 + A.size) + 1 + B.size + 4 + Y.size := by omega
  clear z1 z2 z3 z4 h0 h1 ha0 ha1 hb0 hb1 hy0 hy1
  by_cases hy : y = 0
  · subst hy
    go_enter Tryd.func43, Tryd.ntmps43
    go_wp2_with fail
    refine (DA.out _).mono ?_
    rintro e w1 ⟨rfl, hb1⟩
    have D2 := D1.below' hb1
    have C2 := D2.cell
    have W1 := b1.trans (hb1.mono b1.size)
    clear D1 C1 b1 hb1
    go_upto_region 10 with fail
    refine wp_region_reads (by kernel_rfl) (by kernel_rfl) ?_
    repeat (quiet_step (first | (go_at_call 60; exact calls_later (NU.out _)) | (go_at_call 56; exact calls_later (DB.out _))))
    refine wpQuiet_nil ?_
    intro w2 hb2
    have D3 := D2.below' hb2
    have C3 := D3.cell
    have W2 := W1.trans (hb2.mono W1.size)
    clear D2 C2 W1 hb2
    go_wp2_with fail
    go_ret
    refine ⟨?_, W2⟩
    refine str_eq ?_
    simp [joinS, deedL, kindWord, Lib.join, List.intercalate, List.intersperse]
  · have q : (y == 0) = false := by simpa using hy
    clear hy
    rw [q]
    go_enter Tryd.func43, Tryd.ntmps43
    go_wp2_with fail
    refine (DA.out _).mono ?_
    rintro e w1 ⟨rfl, hb1⟩
    have D2 := D1.below' hb1
    have C2 := D2.cell
    have W1 := b1.trans (hb1.mono b1.size)
    clear D1 C1 b1 hb1
    go_upto_region 10 with fail
    refine wp_region_reads (by kernel_rfl) (by kernel_rfl) ?_
    repeat (quiet_step (first | (go_at_call 60; exact calls_later (NU.out _)) | (go_at_call 56; exact calls_later (DB.out _))))
    refine wpQuiet_nil ?_
    intro w2 hb2
    have D3 := D2.below' hb2
    have C3 := D3.cell
    have W2 := W1.trans (hb2.mono W1.size)
    clear D2 C2 W1 hb2
    go_wp2_with fail
    refine (DY.out _).mono ?_
    rintro e w4 ⟨rfl, hb4⟩
    have W4 := W2.trans (hb4.mono W2.size)
    go_wp2_with fail
    go_ret
    refine ⟨?_, W4⟩
    refine str_eq ?_
    simp [joinS, deedL, byS, kindWord, Lib.join, List.intercalate, List.intersperse]
set_option maxHeartbeats 4000000 in
theorem rtext_4 (at_ a b y : Int) (h0 : -9223372036854775808 ≤ at_) (h1 : at_ ≤ 9223372036854775807) (ha0 : 0 ≤ a) (ha1 : a < 18446744073709551616) (hb0 : 0 ≤ b) (hb1 : b < 18446744073709551616) (hy0 : 0 ≤ y) (hy1 : y < 18446744073709551616) (w : World) : Calls Tryd.prog 43 #[.agg #[.int .i64 4, .int .i64 at_, .int .u64 a, .int .u64 b, .int .u64 y]] w fun e w' => e = .returned (.string (joinS (deedL (kindWord 4) (numS at_) (digS a) (digS b) (digS y) 1 (!(y == 0))))) ∧ Below w.heap.size w w' := by
  have DA := Lib.hid (digS_calls a ha0 ha1)
  have DY := Lib.hid (digS_calls y hy0 hy1)
  have NU := Lib.hid (number_calls at_ h0 h1)
  have b1 : Below w.heap.size w (w.alloc (.cells #[.int .i64 4, .int .i64 at_, .int .u64 a, .int .u64 b, .int .u64 y] 48)) := (Below.refl _ _).alloc (Nat.le_refl _) _
  have D1 := Blk.new w [.int .i64 4, .int .i64 at_, .int .u64 a, .int .u64 b, .int .u64 y] 48
  have C1 := D1.cell
  have z1 := digS_small a ha1
  have z2 := digS_small y hy1
  have z3 := numS_small at_ h0 h1
  generalize digS a = A at *
  generalize digS b = B at *
  generalize digS y = Y at *
  generalize numS at_ = N at *
  have n1 : ¬ 9223372036854775807 < 1 + A.size := by omega
  have n2 : ¬ 9223372036854775807 < 4 + N.size := by omega
  have n3 : ¬ 9223372036854775807 < 4 + N.size + (1 + A.size) := by omega
  have n4 : ¬ 9223372036854775807 < 4 + N.size + (1 + A.size) + 4 := by omega
  have n5 : ¬ 9223372036854775807 < 4 + N.size + (1 + A.size) + 4 + Y.size := by omega
  clear z1 z2 z3 h0 h1 ha0 ha1 hb0 hb1 hy0 hy1
  by_cases hy : y = 0
  · subst hy
    go_enter Tryd.func43, Tryd.ntmps43
    go_wp2_with fail
    refine (DA.out _).mono ?_
    rintro e w1 ⟨rfl, hb1⟩
    have D2 := D1.below' hb1
    have C2 := D2.cell
    have W1 := b1.trans (hb1.mono b1.size)
    clear D1 C1 b1 hb1
    go_wp2_with fail
    refine (NU.out _).mono ?_
    rintro e w2 ⟨rfl, hb2⟩
    have D3 := D2.below' hb2
    have C3 := D3.cell
    have W2 := W1.trans (hb2.mono W1.size)
    clear D2 C2 W1 hb2
    go_wp2_with fail
    go_ret
    refine ⟨?_, W2⟩
    refine str_eq ?_
    simp [joinS, deedL, kindWord, Lib.join, List.intercalate, List.intersperse]
  · have q : (y == 0) = false := by simpa using hy
    clear hy
    rw [q]
    go_enter Tryd.func43, Tryd.ntmps43
    go_wp2_with fail
    refine (DA.out _).mono ?_
    rintro e w1 ⟨rfl, hb1⟩
    have D2 := D1.below' hb1
    have C2 := D2.cell
    have W1 := b1.trans (hb1.mono b1.size)
    clear D1 C1 b1 hb1
    go_wp2_with fail
    refine (NU.out _).mono ?_
    rintro e w2 ⟨rfl, hb2⟩
    have D3 := D2.below' hb2
    have C3 := D3.cell
    have W2 := W1.trans (hb2.mono W1.size)
    clear D2 C2 W1 hb2
    go_wp2_with fail
    refine (DY.out _).mono ?_
    rintro e w4 ⟨rfl, hb4⟩
    have W4 := W2.trans (hb4.mono W2.size)
    go_wp2_with fail
    go_ret
    refine ⟨?_, W4⟩
    refine str_eq ?_
    simp [joinS, deedL, byS, kindWord, Lib.join, List.intercalate, List.intersperse]
end Go.Proofs.YtippfkokgpdmdaaDoor

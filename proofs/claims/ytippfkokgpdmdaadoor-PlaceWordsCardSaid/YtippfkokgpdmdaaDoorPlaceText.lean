/-
  A spot's text (chapter 9), by the program (place.Text) and by the document.
-/
import Derived.Test.YtippfkokgpdmdaaDoorDeedRText
namespace Go.Proofs.YtippfkokgpdmdaaDoor
open Go Go.RowKit
set_option linter.unusedVariables false

def textP (k : Int) (O L : ByteArray) : ByteArray :=
  if k = 1 then ⟨#[101, 112, 111, 99, 104]⟩ else
  if k = 2 then ⟨#[99, 108, 111, 99, 107]⟩ else
  if k = 3 then ⟨#[115, 101, 114, 105, 97, 108]⟩ else
  if k = 4 then ⟨#[102, 114, 101, 101]⟩ else
  if k = 5 then ⟨#[112, 105, 110, 32]⟩ ++ O else
  if k = 6 then ⟨#[115, 108, 101, 101, 112, 32]⟩ ++ O else
  if k = 7 then ⟨#[115, 101, 109, 32]⟩ ++ O else
  if k = 8 then ⟨#[104, 101, 97, 100, 32]⟩ ++ L else
  if k = 15 then ⟨#[115, 108, 111, 116, 32]⟩ ++ O ++ ⟨#[32, 110, 101, 120, 116, 32]⟩ ++ L else
  if k = 9 then ⟨#[115, 108, 111, 116, 32]⟩ ++ O ++ ⟨#[32]⟩ ++ ⟨#[115, 116, 97, 116, 101]⟩ else
  if k = 10 then ⟨#[115, 108, 111, 116, 32]⟩ ++ O ++ ⟨#[32]⟩ ++ ⟨#[100, 101, 97, 100]⟩ else
  if k = 11 then ⟨#[115, 108, 111, 116, 32]⟩ ++ O ++ ⟨#[32]⟩ ++ ⟨#[115, 101, 113]⟩ else
  if k = 12 then ⟨#[115, 108, 111, 116, 32]⟩ ++ O ++ ⟨#[32]⟩ ++ ⟨#[116, 97, 108, 108]⟩ else
  if k = 13 then ⟨#[115, 108, 111, 116, 32]⟩ ++ O ++ ⟨#[32]⟩ ++ ⟨#[104, 111, 108, 100]⟩ else
  if k = 14 then ⟨#[115, 108, 111, 116, 32]⟩ ++ O ++ ⟨#[32]⟩ ++ ⟨#[115, 117, 99, 99]⟩ else
  ⟨#[110, 111, 110, 101]⟩
theorem str_eq2 {a b : ByteArray} (h : a.data = b.data) : Ending.returned (Value.string a) = .returned (Value.string b) := by
  rw [ByteArray.ext h]
set_option maxHeartbeats 2000000 in
set_option maxRecDepth 100000 in
theorem ptext_1 (o l : Int) (ho0 : -9223372036854775808 ≤ o) (ho1 : o ≤ 9223372036854775807) (hl0 : -9223372036854775808 ≤ l) (hl1 : l ≤ 9223372036854775807) (w : World) (ht : Tab w) : Calls Tryd.prog 29 #[.agg #[.int .i64 1, .int .i64 o, .int .i64 l]] w fun e w' => e = .returned (.string (textP 1 (numS o) (numS l))) ∧ Below w.heap.size w w' := by
  have D1 := Blk.new w [.int .i64 1, .int .i64 o, .int .i64 l] 36
  have C1 := D1.cell
  have b1 : Below w.heap.size w (w.alloc (.cells #[.int .i64 1, .int .i64 o, .int .i64 l] 36)) := (Below.refl _ _).alloc (Nat.le_refl _) _
  have KO : Hid (∀ W, Below w.heap.size w W → Calls Tryd.prog 59 #[.int .i64 o] W fun e w' => e = .returned (.string (numS o)) ∧ Below W.heap.size W w') := fun W hW => itoa_calls o ho0 ho1 W (ht.below hW)
  have IL : Hid (∀ W, Below w.heap.size w W → Calls Tryd.prog 59 #[.int .i64 l] W fun e w' => e = .returned (.string (numS l)) ∧ Below W.heap.size W w') := fun W hW => itoa_calls l hl0 hl1 W (ht.below hW)
  have z1 := numS_small o ho0 ho1
  have z2 := numS_small l hl0 hl1
  generalize numS o = O at *
  generalize numS l = L at *
  have n0 : ¬ 9223372036854775807 < 4 + O.size := by omega
  have n1 : ¬ 9223372036854775807 < 5 + O.size := by omega
  have n2 : ¬ 9223372036854775807 < 6 + O.size := by omega
  have n3 : ¬ 9223372036854775807 < 5 + L.size := by omega
  have n4 : ¬ 9223372036854775807 < 5 + O.size + 6 := by omega
  have n5 : ¬ 9223372036854775807 < 5 + O.size + 6 + L.size := by omega
  have n6 : ¬ 9223372036854775807 < 5 + O.size + 1 := by omega
  have n7 : ¬ 9223372036854775807 < 5 + O.size + 1 + 3 := by omega
  have n8 : ¬ 9223372036854775807 < 5 + O.size + 1 + 4 := by omega
  have n9 : ¬ 9223372036854775807 < 5 + O.size + 1 + 5 := by omega
  have n10 : ¬ 9223372036854775807 < 5 + O.size + 1 + 5 + L.size := by omega
  clear z1 z2 ho0 ho1 hl0 hl1 ht
  go_enter Tryd.func29, Tryd.ntmps29
  go_upto_region 1 with fail
  refine wp_region_reads (by kernel_rfl) (by kernel_rfl) ?_
  repeat (quiet_step (first | (go_at_call 59; exact calls_later (KO.out _ (b1.trans ((later_below _ _).mono b1.size)))) | (go_at_call 59; exact calls_later (IL.out _ (b1.trans ((later_below _ _).mono b1.size))))))
  refine wpQuiet_nil ?_
  intro w2 hb2
  have D2 := D1.below' hb2
  have C2 := D2.cell
  have W2 := b1.trans (hb2.mono b1.size)
  clear D1 C1 b1 hb2
  go_wp2_with fail
  go_ret
  refine ⟨?_, W2⟩
  exact str_eq2 (by simp [textP])
set_option maxHeartbeats 2000000 in
set_option maxRecDepth 100000 in
theorem ptext_2 (o l : Int) (ho0 : -9223372036854775808 ≤ o) (ho1 : o ≤ 9223372036854775807) (hl0 : -9223372036854775808 ≤ l) (hl1 : l ≤ 9223372036854775807) (w : World) (ht : Tab w) : Calls Tryd.prog 29 #[.agg #[.int .i64 2, .int .i64 o, .int .i64 l]] w fun e w' => e = .returned (.string (textP 2 (numS o) (numS l))) ∧ Below w.heap.size w w' := by
  have D1 := Blk.new w [.int .i64 2, .int .i64 o, .int .i64 l] 36
  have C1 := D1.cell
  have b1 : Below w.heap.size w (w.alloc (.cells #[.int .i64 2, .int .i64 o, .int .i64 l] 36)) := (Below.refl _ _).alloc (Nat.le_refl _) _
  have KO : Hid (∀ W, Below w.heap.size w W → Calls Tryd.prog 59 #[.int .i64 o] W fun e w' => e = .returned (.string (numS o)) ∧ Below W.heap.size W w') := fun W hW => itoa_calls o ho0 ho1 W (ht.below hW)
  have IL : Hid (∀ W, Below w.heap.size w W → Calls Tryd.prog 59 #[.int .i64 l] W fun e w' => e = .returned (.string (numS l)) ∧ Below W.heap.size W w') := fun W hW => itoa_calls l hl0 hl1 W (ht.below hW)
  have z1 := numS_small o ho0 ho1
  have z2 := numS_small l hl0 hl1
  generalize numS o = O at *
  generalize numS l = L at *
  have n0 : ¬ 9223372036854775807 < 4 + O.size := by omega
  have n1 : ¬ 9223372036854775807 < 5 + O.size := by omega
  have n2 : ¬ 9223372036854775807 < 6 + O.size := by omega
  have n3 : ¬ 9223372036854775807 < 5 + L.size := by omega
  have n4 : ¬ 9223372036854775807 < 5 + O.size + 6 := by omega
  have n5 : ¬ 9223372036854775807 < 5 + O.size + 6 + L.size := by omega
  have n6 : ¬ 9223372036854775807 < 5 + O.size + 1 := by omega
  have n7 : ¬ 9223372036854775807 < 5 + O.size + 1 + 3 := by omega
  have n8 : ¬ 9223372036854775807 < 5 + O.size + 1 + 4 := by omega
  have n9 : ¬ 9223372036854775807 < 5 + O.size + 1 + 5 := by omega
  have n10 : ¬ 9223372036854775807 < 5 + O.size + 1 + 5 + L.size := by omega
  clear z1 z2 ho0 ho1 hl0 hl1 ht
  go_enter Tryd.func29, Tryd.ntmps29
  go_upto_region 1 with fail
  refine wp_region_reads (by kernel_rfl) (by kernel_rfl) ?_
  repeat (quiet_step (first | (go_at_call 59; exact calls_later (KO.out _ (b1.trans ((later_below _ _).mono b1.size)))) | (go_at_call 59; exact calls_later (IL.out _ (b1.trans ((later_below _ _).mono b1.size))))))
  refine wpQuiet_nil ?_
  intro w2 hb2
  have D2 := D1.below' hb2
  have C2 := D2.cell
  have W2 := b1.trans (hb2.mono b1.size)
  clear D1 C1 b1 hb2
  go_wp2_with fail
  go_ret
  refine ⟨?_, W2⟩
  exact str_eq2 (by simp [textP])
set_option maxHeartbeats 2000000 in
set_option maxRecDepth 100000 in
theorem ptext_3 (o l : Int) (ho0 : -9223372036854775808 ≤ o) (ho1 : o ≤ 9223372036854775807) (hl0 : -9223372036854775808 ≤ l) (hl1 : l ≤ 9223372036854775807) (w : World) (ht : Tab w) : Calls Tryd.prog 29 #[.agg #[.int .i64 3, .int .i64 o, .int .i64 l]] w fun e w' => e = .returned (.string (textP 3 (numS o) (numS l))) ∧ Below w.heap.size w w' := by
  have D1 := Blk.new w [.int .i64 3, .int .i64 o, .int .i64 l] 36
  have C1 := D1.cell
  have b1 : Below w.heap.size w (w.alloc (.cells #[.int .i64 3, .int .i64 o, .int .i64 l] 36)) := (Below.refl _ _).alloc (Nat.le_refl _) _
  have KO : Hid (∀ W, Below w.heap.size w W → Calls Tryd.prog 59 #[.int .i64 o] W fun e w' => e = .returned (.string (numS o)) ∧ Below W.heap.size W w') := fun W hW => itoa_calls o ho0 ho1 W (ht.below hW)
  have IL : Hid (∀ W, Below w.heap.size w W → Calls Tryd.prog 59 #[.int .i64 l] W fun e w' => e = .returned (.string (numS l)) ∧ Below W.heap.size W w') := fun W hW => itoa_calls l hl0 hl1 W (ht.below hW)
  have z1 := numS_small o ho0 ho1
  have z2 := numS_small l hl0 hl1
  generalize numS o = O at *
  generalize numS l = L at *
  have n0 : ¬ 9223372036854775807 < 4 + O.size := by omega
  have n1 : ¬ 9223372036854775807 < 5 + O.size := by omega
  have n2 : ¬ 9223372036854775807 < 6 + O.size := by omega
  have n3 : ¬ 9223372036854775807 < 5 + L.size := by omega
  have n4 : ¬ 9223372036854775807 < 5 + O.size + 6 := by omega
  have n5 : ¬ 9223372036854775807 < 5 + O.size + 6 + L.size := by omega
  have n6 : ¬ 9223372036854775807 < 5 + O.size + 1 := by omega
  have n7 : ¬ 9223372036854775807 < 5 + O.size + 1 + 3 := by omega
  have n8 : ¬ 9223372036854775807 < 5 + O.size + 1 + 4 := by omega
  have n9 : ¬ 9223372036854775807 < 5 + O.size + 1 + 5 := by omega
  have n10 : ¬ 9223372036854775807 < 5 + O.size + 1 + 5 + L.size := by omega
  clear z1 z2 ho0 ho1 hl0 hl1 ht
  go_enter Tryd.func29, Tryd.ntmps29
  go_upto_region 1 with fail
  refine wp_region_reads (by kernel_rfl) (by kernel_rfl) ?_
  repeat (quiet_step (first | (go_at_call 59; exact calls_later (KO.out _ (b1.trans ((later_below _ _).mono b1.size)))) | (go_at_call 59; exact calls_later (IL.out _ (b1.trans ((later_below _ _).mono b1.size))))))
  refine wpQuiet_nil ?_
  intro w2 hb2
  have D2 := D1.below' hb2
  have C2 := D2.cell
  have W2 := b1.trans (hb2.mono b1.size)
  clear D1 C1 b1 hb2
  go_wp2_with fail
  go_ret
  refine ⟨?_, W2⟩
  exact str_eq2 (by simp [textP])
set_option maxHeartbeats 2000000 in
set_option maxRecDepth 100000 in
theorem ptext_4 (o l : Int) (ho0 : -9223372036854775808 ≤ o) (ho1 : o ≤ 9223372036854775807) (hl0 : -9223372036854775808 ≤ l) (hl1 : l ≤ 9223372036854775807) (w : World) (ht : Tab w) : Calls Tryd.prog 29 #[.agg #[.int .i64 4, .int .i64 o, .int .i64 l]] w fun e w' => e = .returned (.string (textP 4 (numS o) (numS l))) ∧ Below w.heap.size w w' := by
  have D1 := Blk.new w [.int .i64 4, .int .i64 o, .int .i64 l] 36
  have C1 := D1.cell
  have b1 : Below w.heap.size w (w.alloc (.cells #[.int .i64 4, .int .i64 o, .int .i64 l] 36)) := (Below.refl _ _).alloc (Nat.le_refl _) _
  have KO : Hid (∀ W, Below w.heap.size w W → Calls Tryd.prog 59 #[.int .i64 o] W fun e w' => e = .returned (.string (numS o)) ∧ Below W.heap.size W w') := fun W hW => itoa_calls o ho0 ho1 W (ht.below hW)
  have IL : Hid (∀ W, Below w.heap.size w W → Calls Tryd.prog 59 #[.int .i64 l] W fun e w' => e = .returned (.string (numS l)) ∧ Below W.heap.size W w') := fun W hW => itoa_calls l hl0 hl1 W (ht.below hW)
  have z1 := numS_small o ho0 ho1
  have z2 := numS_small l hl0 hl1
  generalize numS o = O at *
  generalize numS l = L at *
  have n0 : ¬ 9223372036854775807 < 4 + O.size := by omega
  have n1 : ¬ 9223372036854775807 < 5 + O.size := by omega
  have n2 : ¬ 9223372036854775807 < 6 + O.size := by omega
  have n3 : ¬ 9223372036854775807 < 5 + L.size := by omega
  have n4 : ¬ 9223372036854775807 < 5 + O.size + 6 := by omega
  have n5 : ¬ 9223372036854775807 < 5 + O.size + 6 + L.size := by omega
  have n6 : ¬ 9223372036854775807 < 5 + O.size + 1 := by omega
  have n7 : ¬ 9223372036854775807 < 5 + O.size + 1 + 3 := by omega
  have n8 : ¬ 9223372036854775807 < 5 + O.size + 1 + 4 := by omega
  have n9 : ¬ 9223372036854775807 < 5 + O.size + 1 + 5 := by omega
  have n10 : ¬ 9223372036854775807 < 5 + O.size + 1 + 5 + L.size := by omega
  clear z1 z2 ho0 ho1 hl0 hl1 ht
  go_enter Tryd.func29, Tryd.ntmps29
  go_upto_region 1 with fail
  refine wp_region_reads (by kernel_rfl) (by kernel_rfl) ?_
  repeat (quiet_step (first | (go_at_call 59; exact calls_later (KO.out _ (b1.trans ((later_below _ _).mono b1.size)))) | (go_at_call 59; exact calls_later (IL.out _ (b1.trans ((later_below _ _).mono b1.size))))))
  refine wpQuiet_nil ?_
  intro w2 hb2
  have D2 := D1.below' hb2
  have C2 := D2.cell
  have W2 := b1.trans (hb2.mono b1.size)
  clear D1 C1 b1 hb2
  go_wp2_with fail
  go_ret
  refine ⟨?_, W2⟩
  exact str_eq2 (by simp [textP])
set_option maxHeartbeats 2000000 in
set_option maxRecDepth 100000 in
theorem ptext_5 (o l : Int) (ho0 : -9223372036854775808 ≤ o) (ho1 : o ≤ 9223372036854775807) (hl0 : -9223372036854775808 ≤ l) (hl1 : l ≤ 9223372036854775807) (w : World) (ht : Tab w) : Calls Tryd.prog 29 #[.agg #[.int .i64 5, .int .i64 o, .int .i64 l]] w fun e w' => e = .returned (.string (textP 5 (numS o) (numS l))) ∧ Below w.heap.size w w' := by
  have D1 := Blk.new w [.int .i64 5, .int .i64 o, .int .i64 l] 36
  have C1 := D1.cell
  have b1 : Below w.heap.size w (w.alloc (.cells #[.int .i64 5, .int .i64 o, .int .i64 l] 36)) := (Below.refl _ _).alloc (Nat.le_refl _) _
  have KO : Hid (∀ W, Below w.heap.size w W → Calls Tryd.prog 59 #[.int .i64 o] W fun e w' => e = .returned (.string (numS o)) ∧ Below W.heap.size W w') := fun W hW => itoa_calls o ho0 ho1 W (ht.below hW)
  have IL : Hid (∀ W, Below w.heap.size w W → Calls Tryd.prog 59 #[.int .i64 l] W fun e w' => e = .returned (.string (numS l)) ∧ Below W.heap.size W w') := fun W hW => itoa_calls l hl0 hl1 W (ht.below hW)
  have z1 := numS_small o ho0 ho1
  have z2 := numS_small l hl0 hl1
  generalize numS o = O at *
  generalize numS l = L at *
  have n0 : ¬ 9223372036854775807 < 4 + O.size := by omega
  have n1 : ¬ 9223372036854775807 < 5 + O.size := by omega
  have n2 : ¬ 9223372036854775807 < 6 + O.size := by omega
  have n3 : ¬ 9223372036854775807 < 5 + L.size := by omega
  have n4 : ¬ 9223372036854775807 < 5 + O.size + 6 := by omega
  have n5 : ¬ 9223372036854775807 < 5 + O.size + 6 + L.size := by omega
  have n6 : ¬ 9223372036854775807 < 5 + O.size + 1 := by omega
  have n7 : ¬ 9223372036854775807 < 5 + O.size + 1 + 3 := by omega
  have n8 : ¬ 9223372036854775807 < 5 + O.size + 1 + 4 := by omega
  have n9 : ¬ 9223372036854775807 < 5 + O.size + 1 + 5 := by omega
  have n10 : ¬ 9223372036854775807 < 5 + O.size + 1 + 5 + L.size := by omega
  clear z1 z2 ho0 ho1 hl0 hl1 ht
  go_enter Tryd.func29, Tryd.ntmps29
  go_upto_region 1 with fail
  refine wp_region_reads (by kernel_rfl) (by kernel_rfl) ?_
  repeat (quiet_step (first | (go_at_call 59; exact calls_later (KO.out _ (b1.trans ((later_below _ _).mono b1.size)))) | (go_at_call 59; exact calls_later (IL.out _ (b1.trans ((later_below _ _).mono b1.size))))))
  refine wpQuiet_nil ?_
  intro w2 hb2
  have D2 := D1.below' hb2
  have C2 := D2.cell
  have W2 := b1.trans (hb2.mono b1.size)
  clear D1 C1 b1 hb2
  go_wp2_with fail
  go_ret
  refine ⟨?_, W2⟩
  exact str_eq2 (by simp [textP])
set_option maxHeartbeats 2000000 in
set_option maxRecDepth 100000 in
theorem ptext_6 (o l : Int) (ho0 : -9223372036854775808 ≤ o) (ho1 : o ≤ 9223372036854775807) (hl0 : -9223372036854775808 ≤ l) (hl1 : l ≤ 9223372036854775807) (w : World) (ht : Tab w) : Calls Tryd.prog 29 #[.agg #[.int .i64 6, .int .i64 o, .int .i64 l]] w fun e w' => e = .returned (.string (textP 6 (numS o) (numS l))) ∧ Below w.heap.size w w' := by
  have D1 := Blk.new w [.int .i64 6, .int .i64 o, .int .i64 l] 36
  have C1 := D1.cell
  have b1 : Below w.heap.size w (w.alloc (.cells #[.int .i64 6, .int .i64 o, .int .i64 l] 36)) := (Below.refl _ _).alloc (Nat.le_refl _) _
  have KO : Hid (∀ W, Below w.heap.size w W → Calls Tryd.prog 59 #[.int .i64 o] W fun e w' => e = .returned (.string (numS o)) ∧ Below W.heap.size W w') := fun W hW => itoa_calls o ho0 ho1 W (ht.below hW)
  have IL : Hid (∀ W, Below w.heap.size w W → Calls Tryd.prog 59 #[.int .i64 l] W fun e w' => e = .returned (.string (numS l)) ∧ Below W.heap.size W w') := fun W hW => itoa_calls l hl0 hl1 W (ht.below hW)
  have z1 := numS_small o ho0 ho1
  have z2 := numS_small l hl0 hl1
  generalize numS o = O at *
  generalize numS l = L at *
  have n0 : ¬ 9223372036854775807 < 4 + O.size := by omega
  have n1 : ¬ 9223372036854775807 < 5 + O.size := by omega
  have n2 : ¬ 9223372036854775807 < 6 + O.size := by omega
  have n3 : ¬ 9223372036854775807 < 5 + L.size := by omega
  have n4 : ¬ 9223372036854775807 < 5 + O.size + 6 := by omega
  have n5 : ¬ 9223372036854775807 < 5 + O.size + 6 + L.size := by omega
  have n6 : ¬ 9223372036854775807 < 5 + O.size + 1 := by omega
  have n7 : ¬ 9223372036854775807 < 5 + O.size + 1 + 3 := by omega
  have n8 : ¬ 9223372036854775807 < 5 + O.size + 1 + 4 := by omega
  have n9 : ¬ 9223372036854775807 < 5 + O.size + 1 + 5 := by omega
  have n10 : ¬ 9223372036854775807 < 5 + O.size + 1 + 5 + L.size := by omega
  clear z1 z2 ho0 ho1 hl0 hl1 ht
  go_enter Tryd.func29, Tryd.ntmps29
  go_upto_region 1 with fail
  refine wp_region_reads (by kernel_rfl) (by kernel_rfl) ?_
  repeat (quiet_step (first | (go_at_call 59; exact calls_later (KO.out _ (b1.trans ((later_below _ _).mono b1.size)))) | (go_at_call 59; exact calls_later (IL.out _ (b1.trans ((later_below _ _).mono b1.size))))))
  refine wpQuiet_nil ?_
  intro w2 hb2
  have D2 := D1.below' hb2
  have C2 := D2.cell
  have W2 := b1.trans (hb2.mono b1.size)
  clear D1 C1 b1 hb2
  go_wp2_with fail
  go_ret
  refine ⟨?_, W2⟩
  exact str_eq2 (by simp [textP])
set_option maxHeartbeats 2000000 in
set_option maxRecDepth 100000 in
theorem ptext_7 (o l : Int) (ho0 : -9223372036854775808 ≤ o) (ho1 : o ≤ 9223372036854775807) (hl0 : -9223372036854775808 ≤ l) (hl1 : l ≤ 9223372036854775807) (w : World) (ht : Tab w) : Calls Tryd.prog 29 #[.agg #[.int .i64 7, .int .i64 o, .int .i64 l]] w fun e w' => e = .returned (.string (textP 7 (numS o) (numS l))) ∧ Below w.heap.size w w' := by
  have D1 := Blk.new w [.int .i64 7, .int .i64 o, .int .i64 l] 36
  have C1 := D1.cell
  have b1 : Below w.heap.size w (w.alloc (.cells #[.int .i64 7, .int .i64 o, .int .i64 l] 36)) := (Below.refl _ _).alloc (Nat.le_refl _) _
  have KO : Hid (∀ W, Below w.heap.size w W → Calls Tryd.prog 59 #[.int .i64 o] W fun e w' => e = .returned (.string (numS o)) ∧ Below W.heap.size W w') := fun W hW => itoa_calls o ho0 ho1 W (ht.below hW)
  have IL : Hid (∀ W, Below w.heap.size w W → Calls Tryd.prog 59 #[.int .i64 l] W fun e w' => e = .returned (.string (numS l)) ∧ Below W.heap.size W w') := fun W hW => itoa_calls l hl0 hl1 W (ht.below hW)
  have z1 := numS_small o ho0 ho1
  have z2 := numS_small l hl0 hl1
  generalize numS o = O at *
  generalize numS l = L at *
  have n0 : ¬ 9223372036854775807 < 4 + O.size := by omega
  have n1 : ¬ 9223372036854775807 < 5 + O.size := by omega
  have n2 : ¬ 9223372036854775807 < 6 + O.size := by omega
  have n3 : ¬ 9223372036854775807 < 5 + L.size := by omega
  have n4 : ¬ 9223372036854775807 < 5 + O.size + 6 := by omega
  have n5 : ¬ 9223372036854775807 < 5 + O.size + 6 + L.size := by omega
  have n6 : ¬ 9223372036854775807 < 5 + O.size + 1 := by omega
  have n7 : ¬ 9223372036854775807 < 5 + O.size + 1 + 3 := by omega
  have n8 : ¬ 9223372036854775807 < 5 + O.size + 1 + 4 := by omega
  have n9 : ¬ 9223372036854775807 < 5 + O.size + 1 + 5 := by omega
  have n10 : ¬ 9223372036854775807 < 5 + O.size + 1 + 5 + L.size := by omega
  clear z1 z2 ho0 ho1 hl0 hl1 ht
  go_enter Tryd.func29, Tryd.ntmps29
  go_upto_region 1 with fail
  refine wp_region_reads (by kernel_rfl) (by kernel_rfl) ?_
  repeat (quiet_step (first | (go_at_call 59; exact calls_later (KO.out _ (b1.trans ((later_below _ _).mono b1.size)))) | (go_at_call 59; exact calls_later (IL.out _ (b1.trans ((later_below _ _).mono b1.size))))))
  refine wpQuiet_nil ?_
  intro w2 hb2
  have D2 := D1.below' hb2
  have C2 := D2.cell
  have W2 := b1.trans (hb2.mono b1.size)
  clear D1 C1 b1 hb2
  go_wp2_with fail
  go_ret
  refine ⟨?_, W2⟩
  exact str_eq2 (by simp [textP])
set_option maxHeartbeats 2000000 in
set_option maxRecDepth 100000 in
theorem ptext_8 (o l : Int) (ho0 : -9223372036854775808 ≤ o) (ho1 : o ≤ 9223372036854775807) (hl0 : -9223372036854775808 ≤ l) (hl1 : l ≤ 9223372036854775807) (w : World) (ht : Tab w) : Calls Tryd.prog 29 #[.agg #[.int .i64 8, .int .i64 o, .int .i64 l]] w fun e w' => e = .returned (.string (textP 8 (numS o) (numS l))) ∧ Below w.heap.size w w' := by
  have D1 := Blk.new w [.int .i64 8, .int .i64 o, .int .i64 l] 36
  have C1 := D1.cell
  have b1 : Below w.heap.size w (w.alloc (.cells #[.int .i64 8, .int .i64 o, .int .i64 l] 36)) := (Below.refl _ _).alloc (Nat.le_refl _) _
  have KO : Hid (∀ W, Below w.heap.size w W → Calls Tryd.prog 59 #[.int .i64 o] W fun e w' => e = .returned (.string (numS o)) ∧ Below W.heap.size W w') := fun W hW => itoa_calls o ho0 ho1 W (ht.below hW)
  have IL : Hid (∀ W, Below w.heap.size w W → Calls Tryd.prog 59 #[.int .i64 l] W fun e w' => e = .returned (.string (numS l)) ∧ Below W.heap.size W w') := fun W hW => itoa_calls l hl0 hl1 W (ht.below hW)
  have z1 := numS_small o ho0 ho1
  have z2 := numS_small l hl0 hl1
  generalize numS o = O at *
  generalize numS l = L at *
  have n0 : ¬ 9223372036854775807 < 4 + O.size := by omega
  have n1 : ¬ 9223372036854775807 < 5 + O.size := by omega
  have n2 : ¬ 9223372036854775807 < 6 + O.size := by omega
  have n3 : ¬ 9223372036854775807 < 5 + L.size := by omega
  have n4 : ¬ 9223372036854775807 < 5 + O.size + 6 := by omega
  have n5 : ¬ 9223372036854775807 < 5 + O.size + 6 + L.size := by omega
  have n6 : ¬ 9223372036854775807 < 5 + O.size + 1 := by omega
  have n7 : ¬ 9223372036854775807 < 5 + O.size + 1 + 3 := by omega
  have n8 : ¬ 9223372036854775807 < 5 + O.size + 1 + 4 := by omega
  have n9 : ¬ 9223372036854775807 < 5 + O.size + 1 + 5 := by omega
  have n10 : ¬ 9223372036854775807 < 5 + O.size + 1 + 5 + L.size := by omega
  clear z1 z2 ho0 ho1 hl0 hl1 ht
  go_enter Tryd.func29, Tryd.ntmps29
  go_upto_region 1 with fail
  refine wp_region_reads (by kernel_rfl) (by kernel_rfl) ?_
  repeat (quiet_step (first | (go_at_call 59; exact calls_later (KO.out _ (b1.trans ((later_below _ _).mono b1.size)))) | (go_at_call 59; exact calls_later (IL.out _ (b1.trans ((later_below _ _).mono b1.size))))))
  refine wpQuiet_nil ?_
  intro w2 hb2
  have D2 := D1.below' hb2
  have C2 := D2.cell
  have W2 := b1.trans (hb2.mono b1.size)
  clear D1 C1 b1 hb2
  go_wp2_with fail
  go_ret
  refine ⟨?_, W2⟩
  exact str_eq2 (by simp [textP])
set_option maxHeartbeats 2000000 in
set_option maxRecDepth 100000 in
theorem ptext_9 (o l : Int) (ho0 : -9223372036854775808 ≤ o) (ho1 : o ≤ 9223372036854775807) (hl0 : -9223372036854775808 ≤ l) (hl1 : l ≤ 9223372036854775807) (w : World) (ht : Tab w) : Calls Tryd.prog 29 #[.agg #[.int .i64 9, .int .i64 o, .int .i64 l]] w fun e w' => e = .returned (.string (textP 9 (numS o) (numS l))) ∧ Below w.heap.size w w' := by
  have D1 := Blk.new w [.int .i64 9, .int .i64 o, .int .i64 l] 36
  have C1 := D1.cell
  have b1 : Below w.heap.size w (w.alloc (.cells #[.int .i64 9, .int .i64 o, .int .i64 l] 36)) := (Below.refl _ _).alloc (Nat.le_refl _) _
  have KO : Hid (∀ W, Below w.heap.size w W → Calls Tryd.prog 59 #[.int .i64 o] W fun e w' => e = .returned (.string (numS o)) ∧ Below W.heap.size W w') := fun W hW => itoa_calls o ho0 ho1 W (ht.below hW)
  have IL : Hid (∀ W, Below w.heap.size w W → Calls Tryd.prog 59 #[.int .i64 l] W fun e w' => e = .returned (.string (numS l)) ∧ Below W.heap.size W w') := fun W hW => itoa_calls l hl0 hl1 W (ht.below hW)
  have z1 := numS_small o ho0 ho1
  have z2 := numS_small l hl0 hl1
  generalize numS o = O at *
  generalize numS l = L at *
  have n0 : ¬ 9223372036854775807 < 4 + O.size := by omega
  have n1 : ¬ 9223372036854775807 < 5 + O.size := by omega
  have n2 : ¬ 9223372036854775807 < 6 + O.size := by omega
  have n3 : ¬ 9223372036854775807 < 5 + L.size := by omega
  have n4 : ¬ 9223372036854775807 < 5 + O.size + 6 := by omega
  have n5 : ¬ 9223372036854775807 < 5 + O.size + 6 + L.size := by omega
  have n6 : ¬ 9223372036854775807 < 5 + O.size + 1 := by omega
  have n7 : ¬ 9223372036854775807 < 5 + O.size + 1 + 3 := by omega
  have n8 : ¬ 9223372036854775807 < 5 + O.size + 1 + 4 := by omega
  have n9 : ¬ 9223372036854775807 < 5 + O.size + 1 + 5 := by omega
  have n10 : ¬ 9223372036854775807 < 5 + O.size + 1 + 5 + L.size := by omega
  clear z1 z2 ho0 ho1 hl0 hl1 ht
  go_enter Tryd.func29, Tryd.ntmps29
  go_upto_region 1 with fail
  refine wp_region_reads (by kernel_rfl) (by kernel_rfl) ?_
  repeat (quiet_step (first | (go_at_call 59; exact calls_later (KO.out _ (b1.trans ((later_below _ _).mono b1.size)))) | (go_at_call 59; exact calls_later (IL.out _ (b1.trans ((later_below _ _).mono b1.size))))))
  refine wpQuiet_nil ?_
  intro w2 hb2
  have D2 := D1.below' hb2
  have C2 := D2.cell
  have W2 := b1.trans (hb2.mono b1.size)
  clear D1 C1 b1 hb2
  go_wp2_with fail
  go_ret
  refine ⟨?_, W2.alloc W2.size _⟩
  exact str_eq2 (by simp [textP])
set_option maxHeartbeats 2000000 in
set_option maxRecDepth 100000 in
theorem ptext_10 (o l : Int) (ho0 : -9223372036854775808 ≤ o) (ho1 : o ≤ 9223372036854775807) (hl0 : -9223372036854775808 ≤ l) (hl1 : l ≤ 9223372036854775807) (w : World) (ht : Tab w) : Calls Tryd.prog 29 #[.agg #[.int .i64 10, .int .i64 o, .int .i64 l]] w fun e w' => e = .returned (.string (textP 10 (numS o) (numS l))) ∧ Below w.heap.size w w' := by
  have D1 := Blk.new w [.int .i64 10, .int .i64 o, .int .i64 l] 36
  have C1 := D1.cell
  have b1 : Below w.heap.size w (w.alloc (.cells #[.int .i64 10, .int .i64 o, .int .i64 l] 36)) := (Below.refl _ _).alloc (Nat.le_refl _) _
  have KO : Hid (∀ W, Below w.heap.size w W → Calls Tryd.prog 59 #[.int .i64 o] W fun e w' => e = .returned (.string (numS o)) ∧ Below W.heap.size W w') := fun W hW => itoa_calls o ho0 ho1 W (ht.below hW)
  have IL : Hid (∀ W, Below w.heap.size w W → Calls Tryd.prog 59 #[.int .i64 l] W fun e w' => e = .returned (.string (numS l)) ∧ Below W.heap.size W w') := fun W hW => itoa_calls l hl0 hl1 W (ht.below hW)
  have z1 := numS_small o ho0 ho1
  have z2 := numS_small l hl0 hl1
  generalize numS o = O at *
  generalize numS l = L at *
  have n0 : ¬ 9223372036854775807 < 4 + O.size := by omega
  have n1 : ¬ 9223372036854775807 < 5 + O.size := by omega
  have n2 : ¬ 9223372036854775807 < 6 + O.size := by omega
  have n3 : ¬ 9223372036854775807 < 5 + L.size := by omega
  have n4 : ¬ 9223372036854775807 < 5 + O.size + 6 := by omega
  have n5 : ¬ 9223372036854775807 < 5 + O.size + 6 + L.size := by omega
  have n6 : ¬ 9223372036854775807 < 5 + O.size + 1 := by omega
  have n7 : ¬ 9223372036854775807 < 5 + O.size + 1 + 3 := by omega
  have n8 : ¬ 9223372036854775807 < 5 + O.size + 1 + 4 := by omega
  have n9 : ¬ 9223372036854775807 < 5 + O.size + 1 + 5 := by omega
  have n10 : ¬ 9223372036854775807 < 5 + O.size + 1 + 5 + L.size := by omega
  clear z1 z2 ho0 ho1 hl0 hl1 ht
  go_enter Tryd.func29, Tryd.ntmps29
  go_upto_region 1 with fail
  refine wp_region_reads (by kernel_rfl) (by kernel_rfl) ?_
  repeat (quiet_step (first | (go_at_call 59; exact calls_later (KO.out _ (b1.trans ((later_below _ _).mono b1.size)))) | (go_at_call 59; exact calls_later (IL.out _ (b1.trans ((later_below _ _).mono b1.size))))))
  refine wpQuiet_nil ?_
  intro w2 hb2
  have D2 := D1.below' hb2
  have C2 := D2.cell
  have W2 := b1.trans (hb2.mono b1.size)
  clear D1 C1 b1 hb2
  go_wp2_with fail
  go_ret
  refine ⟨?_, W2.alloc W2.size _⟩
  exact str_eq2 (by simp [textP])
set_option maxHeartbeats 2000000 in
set_option maxRecDepth 100000 in
theorem ptext_11 (o l : Int) (ho0 : -9223372036854775808 ≤ o) (ho1 : o ≤ 9223372036854775807) (hl0 : -9223372036854775808 ≤ l) (hl1 : l ≤ 9223372036854775807) (w : World) (ht : Tab w) : Calls Tryd.prog 29 #[.agg #[.int .i64 11, .int .i64 o, .int .i64 l]] w fun e w' => e = .returned (.string (textP 11 (numS o) (numS l))) ∧ Below w.heap.size w w' := by
  have D1 := Blk.new w [.int .i64 11, .int .i64 o, .int .i64 l] 36
  have C1 := D1.cell
  have b1 : Below w.heap.size w (w.alloc (.cells #[.int .i64 11, .int .i64 o, .int .i64 l] 36)) := (Below.refl _ _).alloc (Nat.le_refl _) _
  have KO : Hid (∀ W, Below w.heap.size w W → Calls Tryd.prog 59 #[.int .i64 o] W fun e w' => e = .returned (.string (numS o)) ∧ Below W.heap.size W w') := fun W hW => itoa_calls o ho0 ho1 W (ht.below hW)
  have IL : Hid (∀ W, Below w.heap.size w W → Calls Tryd.prog 59 #[.int .i64 l] W fun e w' => e = .returned (.string (numS l)) ∧ Below W.heap.size W w') := fun W hW => itoa_calls l hl0 hl1 W (ht.below hW)
  have z1 := numS_small o ho0 ho1
  have z2 := numS_small l hl0 hl1
  generalize numS o = O at *
  generalize numS l = L at *
  have n0 : ¬ 9223372036854775807 < 4 + O.size := by omega
  have n1 : ¬ 9223372036854775807 < 5 + O.size := by omega
  have n2 : ¬ 9223372036854775807 < 6 + O.size := by omega
  have n3 : ¬ 9223372036854775807 < 5 + L.size := by omega
  have n4 : ¬ 9223372036854775807 < 5 + O.size + 6 := by omega
  have n5 : ¬ 9223372036854775807 < 5 + O.size + 6 + L.size := by omega
  have n6 : ¬ 9223372036854775807 < 5 + O.size + 1 := by omega
  have n7 : ¬ 9223372036854775807 < 5 + O.size + 1 + 3 := by omega
  have n8 : ¬ 9223372036854775807 < 5 + O.size + 1 + 4 := by omega
  have n9 : ¬ 9223372036854775807 < 5 + O.size + 1 + 5 := by omega
  have n10 : ¬ 9223372036854775807 < 5 + O.size + 1 + 5 + L.size := by omega
  clear z1 z2 ho0 ho1 hl0 hl1 ht
  go_enter Tryd.func29, Tryd.ntmps29
  go_upto_region 1 with fail
  refine wp_region_reads (by kernel_rfl) (by kernel_rfl) ?_
  repeat (quiet_step (first | (go_at_call 59; exact calls_later (KO.out _ (b1.trans ((later_below _ _).mono b1.size)))) | (go_at_call 59; exact calls_later (IL.out _ (b1.trans ((later_below _ _).mono b1.size))))))
  refine wpQuiet_nil ?_
  intro w2 hb2
  have D2 := D1.below' hb2
  have C2 := D2.cell
  have W2 := b1.trans (hb2.mono b1.size)
  clear D1 C1 b1 hb2
  go_wp2_with fail
  go_ret
  refine ⟨?_, W2.alloc W2.size _⟩
  exact str_eq2 (by simp [textP])
set_option maxHeartbeats 2000000 in
set_option maxRecDepth 100000 in
theorem ptext_12 (o l : Int) (ho0 : -9223372036854775808 ≤ o) (ho1 : o ≤ 9223372036854775807) (hl0 : -9223372036854775808 ≤ l) (hl1 : l ≤ 9223372036854775807) (w : World) (ht : Tab w) : Calls Tryd.prog 29 #[.agg #[.int .i64 12, .int .i64 o, .int .i64 l]] w fun e w' => e = .returned (.string (textP 12 (numS o) (numS l))) ∧ Below w.heap.size w w' := by
  have D1 := Blk.new w [.int .i64 12, .int .i64 o, .int .i64 l] 36
  have C1 := D1.cell
  have b1 : Below w.heap.size w (w.alloc (.cells #[.int .i64 12, .int .i64 o, .int .i64 l] 36)) := (Below.refl _ _).alloc (Nat.le_refl _) _
  have KO : Hid (∀ W, Below w.heap.size w W → Calls Tryd.prog 59 #[.int .i64 o] W fun e w' => e = .returned (.string (numS o)) ∧ Below W.heap.size W w') := fun W hW => itoa_calls o ho0 ho1 W (ht.below hW)
  have IL : Hid (∀ W, Below w.heap.size w W → Calls Tryd.prog 59 #[.int .i64 l] W fun e w' => e = .returned (.string (numS l)) ∧ Below W.heap.size W w') := fun W hW => itoa_calls l hl0 hl1 W (ht.below hW)
  have z1 := numS_small o ho0 ho1
  have z2 := numS_small l hl0 hl1
  generalize numS o = O at *
  generalize numS l = L at *
  have n0 : ¬ 9223372036854775807 < 4 + O.size := by omega
  have n1 : ¬ 9223372036854775807 < 5 + O.size := by omega
  have n2 : ¬ 9223372036854775807 < 6 + O.size := by omega
  have n3 : ¬ 9223372036854775807 < 5 + L.size := by omega
  have n4 : ¬ 9223372036854775807 < 5 + O.size + 6 := by omega
  have n5 : ¬ 9223372036854775807 < 5 + O.size + 6 + L.size := by omega
  have n6 : ¬ 9223372036854775807 < 5 + O.size + 1 := by omega
  have n7 : ¬ 9223372036854775807 < 5 + O.size + 1 + 3 := by omega
  have n8 : ¬ 9223372036854775807 < 5 + O.size + 1 + 4 := by omega
  have n9 : ¬ 9223372036854775807 < 5 + O.size + 1 + 5 := by omega
  have n10 : ¬ 9223372036854775807 < 5 + O.size + 1 + 5 + L.size := by omega
  clear z1 z2 ho0 ho1 hl0 hl1 ht
  go_enter Tryd.func29, Tryd.ntmps29
  go_upto_region 1 with fail
  refine wp_region_reads (by kernel_rfl) (by kernel_rfl) ?_
  repeat (quiet_step (first | (go_at_call 59; exact calls_later (KO.out _ (b1.trans ((later_below _ _).mono b1.size)))) | (go_at_call 59; exact calls_later (IL.out _ (b1.trans ((later_below _ _).mono b1.size))))))
  refine wpQuiet_nil ?_
  intro w2 hb2
  have D2 := D1.below' hb2
  have C2 := D2.cell
  have W2 := b1.trans (hb2.mono b1.size)
  clear D1 C1 b1 hb2
  go_wp2_with fail
  go_ret
  refine ⟨?_, W2.alloc W2.size _⟩
  exact str_eq2 (by simp [textP])
set_option maxHeartbeats 2000000 in
set_option maxRecDepth 100000 in
theorem ptext_13 (o l : Int) (ho0 : -9223372036854775808 ≤ o) (ho1 : o ≤ 9223372036854775807) (hl0 : -9223372036854775808 ≤ l) (hl1 : l ≤ 9223372036854775807) (w : World) (ht : Tab w) : Calls Tryd.prog 29 #[.agg #[.int .i64 13, .int .i64 o, .int .i64 l]] w fun e w' => e = .returned (.string (textP 13 (numS o) (numS l))) ∧ Below w.heap.size w w' := by
  have D1 := Blk.new w [.int .i64 13, .int .i64 o, .int .i64 l] 36
  have C1 := D1.cell
  have b1 : Below w.heap.size w (w.alloc (.cells #[.int .i64 13, .int .i64 o, .int .i64 l] 36)) := (Below.refl _ _).alloc (Nat.le_refl _) _
  have KO : Hid (∀ W, Below w.heap.size w W → Calls Tryd.prog 59 #[.int .i64 o] W fun e w' => e = .returned (.string (numS o)) ∧ Below W.heap.size W w') := fun W hW => itoa_calls o ho0 ho1 W (ht.below hW)
  have IL : Hid (∀ W, Below w.heap.size w W → Calls Tryd.prog 59 #[.int .i64 l] W fun e w' => e = .returned (.string (numS l)) ∧ Below W.heap.size W w') := fun W hW => itoa_calls l hl0 hl1 W (ht.below hW)
  have z1 := numS_small o ho0 ho1
  have z2 := numS_small l hl0 hl1
  generalize numS o = O at *
  generalize numS l = L at *
  have n0 : ¬ 9223372036854775807 < 4 + O.size := by omega
  have n1 : ¬ 9223372036854775807 < 5 + O.size := by omega
  have n2 : ¬ 9223372036854775807 < 6 + O.size := by omega
  have n3 : ¬ 9223372036854775807 < 5 + L.size := by omega
  have n4 : ¬ 9223372036854775807 < 5 + O.size + 6 := by omega
  have n5 : ¬ 9223372036854775807 < 5 + O.size + 6 + L.size := by omega
  have n6 : ¬ 9223372036854775807 < 5 + O.size + 1 := by omega
  have n7 : ¬ 9223372036854775807 < 5 + O.size + 1 + 3 := by omega
  have n8 : ¬ 9223372036854775807 < 5 + O.size + 1 + 4 := by omega
  have n9 : ¬ 9223372036854775807 < 5 + O.size + 1 + 5 := by omega
  have n10 : ¬ 9223372036854775807 < 5 + O.size + 1 + 5 + L.size := by omega
  clear z1 z2 ho0 ho1 hl0 hl1 ht
  go_enter Tryd.func29, Tryd.ntmps29
  go_upto_region 1 with fail
  refine wp_region_reads (by kernel_rfl) (by kernel_rfl) ?_
  repeat (quiet_step (first | (go_at_call 59; exact calls_later (KO.out _ (b1.trans ((later_below _ _).mono b1.size)))) | (go_at_call 59; exact calls_later (IL.out _ (b1.trans ((later_below _ _).mono b1.size))))))
  refine wpQuiet_nil ?_
  intro w2 hb2
  have D2 := D1.below' hb2
  have C2 := D2.cell
  have W2 := b1.trans (hb2.mono b1.size)
  clear D1 C1 b1 hb2
  go_wp2_with fail
  go_ret
  refine ⟨?_, W2.alloc W2.size _⟩
  exact str_eq2 (by simp [textP])
set_option maxHeartbeats 2000000 in
set_option maxRecDepth 100000 in
theorem ptext_14 (o l : Int) (ho0 : -9223372036854775808 ≤ o) (ho1 : o ≤ 9223372036854775807) (hl0 : -9223372036854775808 ≤ l) (hl1 : l ≤ 9223372036854775807) (w : World) (ht : Tab w) : Calls Tryd.prog 29 #[.agg #[.int .i64 14, .int .i64 o, .int .i64 l]] w fun e w' => e = .returned (.string (textP 14 (numS o) (numS l))) ∧ Below w.heap.size w w' := by
  have D1 := Blk.new w [.int .i64 14, .int .i64 o, .int .i64 l] 36
  have C1 := D1.cell
  have b1 : Below w.heap.size w (w.alloc (.cells #[.int .i64 14, .int .i64 o, .int .i64 l] 36)) := (Below.refl _ _).alloc (Nat.le_refl _) _
  have KO : Hid (∀ W, Below w.heap.size w W → Calls Tryd.prog 59 #[.int .i64 o] W fun e w' => e = .returned (.string (numS o)) ∧ Below W.heap.size W w') := fun W hW => itoa_calls o ho0 ho1 W (ht.below hW)
  have IL : Hid (∀ W, Below w.heap.size w W → Calls Tryd.prog 59 #[.int .i64 l] W fun e w' => e = .returned (.string (numS l)) ∧ Below W.heap.size W w') := fun W hW => itoa_calls l hl0 hl1 W (ht.below hW)
  have z1 := numS_small o ho0 ho1
  have z2 := numS_small l hl0 hl1
  generalize numS o = O at *
  generalize numS l = L at *
  have n0 : ¬ 9223372036854775807 < 4 + O.size := by omega
  have n1 : ¬ 9223372036854775807 < 5 + O.size := by omega
  have n2 : ¬ 9223372036854775807 < 6 + O.size := by omega
  have n3 : ¬ 9223372036854775807 < 5 + L.size := by omega
  have n4 : ¬ 9223372036854775807 < 5 + O.size + 6 := by omega
  have n5 : ¬ 9223372036854775807 < 5 + O.size + 6 + L.size := by omega
  have n6 : ¬ 9223372036854775807 < 5 + O.size + 1 := by omega
  have n7 : ¬ 9223372036854775807 < 5 + O.size + 1 + 3 := by omega
  have n8 : ¬ 9223372036854775807 < 5 + O.size + 1 + 4 := by omega
  have n9 : ¬ 9223372036854775807 < 5 + O.size + 1 + 5 := by omega
  have n10 : ¬ 9223372036854775807 < 5 + O.size + 1 + 5 + L.size := by omega
  clear z1 z2 ho0 ho1 hl0 hl1 ht
  go_enter Tryd.func29, Tryd.ntmps29
  go_upto_region 1 with fail
  refine wp_region_reads (by kernel_rfl) (by kernel_rfl) ?_
  repeat (quiet_step (first | (go_at_call 59; exact calls_later (KO.out _ (b1.trans ((later_below _ _).mono b1.size)))) | (go_at_call 59; exact calls_later (IL.out _ (b1.trans ((later_below _ _).mono b1.size))))))
  refine wpQuiet_nil ?_
  intro w2 hb2
  have D2 := D1.below' hb2
  have C2 := D2.cell
  have W2 := b1.trans (hb2.mono b1.size)
  clear D1 C1 b1 hb2
  go_wp2_with fail
  go_ret
  refine ⟨?_, W2.alloc W2.size _⟩
  exact str_eq2 (by simp [textP])
set_option maxHeartbeats 2000000 in
set_option maxRecDepth 100000 in
theorem ptext_15 (o l : Int) (ho0 : -9223372036854775808 ≤ o) (ho1 : o ≤ 9223372036854775807) (hl0 : -9223372036854775808 ≤ l) (hl1 : l ≤ 9223372036854775807) (w : World) (ht : Tab w) : Calls Tryd.prog 29 #[.agg #[.int .i64 15, .int .i64 o, .int .i64 l]] w fun e w' => e = .returned (.string (textP 15 (numS o) (numS l))) ∧ Below w.heap.size w w' := by
  have D1 := Blk.new w [.int .i64 15, .int .i64 o, .int .i64 l] 36
  have C1 := D1.cell
  have b1 : Below w.heap.size w (w.alloc (.cells #[.int .i64 15, .int .i64 o, .int .i64 l] 36)) := (Below.refl _ _).alloc (Nat.le_refl _) _
  have KO : Hid (∀ W, Below w.heap.size w W → Calls Tryd.prog 59 #[.int .i64 o] W fun e w' => e = .returned (.string (numS o)) ∧ Below W.heap.size W w') := fun W hW => itoa_calls o ho0 ho1 W (ht.below hW)
  have IL : Hid (∀ W, Below w.heap.size w W → Calls Tryd.prog 59 #[.int .i64 l] W fun e w' => e = .returned (.string (numS l)) ∧ Below W.heap.size W w') := fun W hW => itoa_calls l hl0 hl1 W (ht.below hW)
  have z1 := numS_small o ho0 ho1
  have z2 := numS_small l hl0 hl1
  generalize numS o = O at *
  generalize numS l = L at *
  have n0 : ¬ 9223372036854775807 < 4 + O.size := by omega
  have n1 : ¬ 9223372036854775807 < 5 + O.size := by omega
  have n2 : ¬ 9223372036854775807 < 6 + O.size := by omega
  have n3 : ¬ 9223372036854775807 < 5 + L.size := by omega
  have n4 : ¬ 9223372036854775807 < 5 + O.size + 6 := by omega
  have n5 : ¬ 9223372036854775807 < 5 + O.size + 6 + L.size := by omega
  have n6 : ¬ 9223372036854775807 < 5 + O.size + 1 := by omega
  have n7 : ¬ 9223372036854775807 < 5 + O.size + 1 + 3 := by omega
  have n8 : ¬ 9223372036854775807 < 5 + O.size + 1 + 4 := by omega
  have n9 : ¬ 9223372036854775807 < 5 + O.size + 1 + 5 := by omega
  have n10 : ¬ 9223372036854775807 < 5 + O.size + 1 + 5 + L.size := by omega
  clear z1 z2 ho0 ho1 hl0 hl1 ht
  go_enter Tryd.func29, Tryd.ntmps29
  go_upto_region 1 with fail
  refine wp_region_reads (by kernel_rfl) (by kernel_rfl) ?_
  repeat (quiet_step (first | (go_at_call 59; exact calls_later (KO.out _ (b1.trans ((later_below _ _).mono b1.size)))) | (go_at_call 59; exact calls_later (IL.out _ (b1.trans ((later_below _ _).mono b1.size))))))
  refine wpQuiet_nil ?_
  intro w2 hb2
  have D2 := D1.below' hb2
  have C2 := D2.cell
  have W2 := b1.trans (hb2.mono b1.size)
  clear D1 C1 b1 hb2
  go_wp2_with fail
  go_ret
  refine ⟨?_, W2⟩
  exact str_eq2 (by simp [textP])
set_option maxHeartbeats 2000000 in
set_option maxRecDepth 100000 in
theorem ptext_no (k : Int) (hk : ¬ (1 ≤ k ∧ k ≤ 15)) (o l : Int) (ho0 : -9223372036854775808 ≤ o) (ho1 : o ≤ 9223372036854775807) (hl0 : -9223372036854775808 ≤ l) (hl1 : l ≤ 9223372036854775807) (w : World) (ht : Tab w) : Calls Tryd.prog 29 #[.agg #[.int .i64 k, .int .i64 o, .int .i64 l]] w fun e w' => e = .returned (.string (textP k (numS o) (numS l))) ∧ Below w.heap.size w w' := by
  have D1 := Blk.new w [.int .i64 k, .int .i64 o, .int .i64 l] 36
  have C1 := D1.cell
  have b1 : Below w.heap.size w (w.alloc (.cells #[.int .i64 k, .int .i64 o, .int .i64 l] 36)) := (Below.refl _ _).alloc (Nat.le_refl _) _
  have KO : Hid (∀ W, Below w.heap.size w W → Calls Tryd.prog 59 #[.int .i64 o] W fun e w' => e = .returned (.string (numS o)) ∧ Below W.heap.size W w') := fun W hW => itoa_calls o ho0 ho1 W (ht.below hW)
  have IL : Hid (∀ W, Below w.heap.size w W → Calls Tryd.prog 59 #[.int .i64 l] W fun e w' => e = .returned (.string (numS l)) ∧ Below W.heap.size W w') := fun W hW => itoa_calls l hl0 hl1 W (ht.below hW)
  have z1 := numS_small o ho0 ho1
  have z2 := numS_small l hl0 hl1
  generalize numS o = O at *
  generalize numS l = L at *
  have n0 : ¬ 9223372036854775807 < 4 + O.size := by omega
  have n1 : ¬ 9223372036854775807 < 5 + O.size := by omega
  have n2 : ¬ 9223372036854775807 < 6 + O.size := by omega
  have n3 : ¬ 9223372036854775807 < 5 + L.size := by omega
  have n4 : ¬ 9223372036854775807 < 5 + O.size + 6 := by omega
  have n5 : ¬ 9223372036854775807 < 5 + O.size + 6 + L.size := by omega
  have n6 : ¬ 9223372036854775807 < 5 + O.size + 1 := by omega
  have n7 : ¬ 9223372036854775807 < 5 + O.size + 1 + 3 := by omega
  have n8 : ¬ 9223372036854775807 < 5 + O.size + 1 + 4 := by omega
  have n9 : ¬ 9223372036854775807 < 5 + O.size + 1 + 5 := by omega
  have n10 : ¬ 9223372036854775807 < 5 + O.size + 1 + 5 + L.size := by omega
  clear z1 z2 ho0 ho1 hl0 hl1 ht
  have HT : Hid (textP k O L = ⟨#[110, 111, 110, 101]⟩) := by
    show _ = _
    unfold textP
    rw [if_neg (show ¬ k = 1 by omega), if_neg (show ¬ k = 2 by omega), if_neg (show ¬ k = 3 by omega), if_neg (show ¬ k = 4 by omega), if_neg (show ¬ k = 5 by omega), if_neg (show ¬ k = 6 by omega), if_neg (show ¬ k = 7 by omega), if_neg (show ¬ k = 8 by omega), if_neg (show ¬ k = 15 by omega), if_neg (show ¬ k = 9 by omega), if_neg (show ¬ k = 10 by omega), if_neg (show ¬ k = 11 by omega), if_neg (show ¬ k = 12 by omega), if_neg (show ¬ k = 13 by omega), if_neg (show ¬ k = 14 by omega)]
  have q1 : (k == 1) = false := by simp; omega
  have q2 : (k == 2) = false := by simp; omega
  have q3 : (k == 3) = false := by simp; omega
  have q4 : (k == 4) = false := by simp; omega
  have q5 : (k == 5) = false := by simp; omega
  have q6 : (k == 6) = false := by simp; omega
  have q7 : (k == 7) = false := by simp; omega
  have q8 : (k == 8) = false := by simp; omega
  have q15 : (k == 15) = false := by simp; omega
  generalize textP k O L = t at *
  by_cases h9 : k < 9
  · have d9 : decide (k < 9) = true := decide_eq_true h9
    clear hk h9
    go_enter Tryd.func29, Tryd.ntmps29
    go_upto_region 1 with fail
    refine wp_region_reads (by kernel_rfl) (by kernel_rfl) ?_
    repeat (quiet_step (first | (go_at_call 59; exact calls_later (KO.out _ (b1.trans ((later_below _ _).mono b1.size)))) | (go_at_call 59; exact calls_later (IL.out _ (b1.trans ((later_below _ _).mono b1.size))))))
    refine wpQuiet_nil ?_
    intro w2 hb2
    have D2 := D1.below' hb2
    have C2 := D2.cell
    have W2 := b1.trans (hb2.mono b1.size)
    clear D1 C1 b1 hb2
    go_wp2_with fail
    go_ret
    exact ⟨(show Ending.returned (Value.string ⟨#[110, 111, 110, 101]⟩) = _ by rw [HT.out]), W2.alloc W2.size _⟩
  · have d9 : decide (k < 9) = false := decide_eq_false h9
    have d14 : decide (14 < k) = true := decide_eq_true (by omega)
    clear hk h9
    go_enter Tryd.func29, Tryd.ntmps29
    go_upto_region 1 with fail
    refine wp_region_reads (by kernel_rfl) (by kernel_rfl) ?_
    repeat (quiet_step (first | (go_at_call 59; exact calls_later (KO.out _ (b1.trans ((later_below _ _).mono b1.size)))) | (go_at_call 59; exact calls_later (IL.out _ (b1.trans ((later_below _ _).mono b1.size))))))
    refine wpQuiet_nil ?_
    intro w2 hb2
    have D2 := D1.below' hb2
    have C2 := D2.cell
    have W2 := b1.trans (hb2.mono b1.size)
    clear D1 C1 b1 hb2
    go_wp2_with fail
    go_ret
    exact ⟨(show Ending.returned (Value.string ⟨#[110, 111, 110, 101]⟩) = _ by rw [HT.out]), W2.alloc W2.size _⟩
set_option maxHeartbeats 2000000 in
set_option maxRecDepth 100000 in
theorem rptext_1 (o l : Int) (ho0 : -9223372036854775808 ≤ o) (ho1 : o ≤ 9223372036854775807) (hl0 : -9223372036854775808 ≤ l) (hl1 : l ≤ 9223372036854775807) (w : World) : Calls Tryd.prog 30 #[.agg #[.int .i64 1, .int .i64 o, .int .i64 l]] w fun e w' => e = .returned (.string (textP 1 (numS o) (numS l))) ∧ Below w.heap.size w w' := by
  have D1 := Blk.new w [.int .i64 1, .int .i64 o, .int .i64 l] 36
  have C1 := D1.cell
  have b1 : Below w.heap.size w (w.alloc (.cells #[.int .i64 1, .int .i64 o, .int .i64 l] 36)) := (Below.refl _ _).alloc (Nat.le_refl _) _
  have KO := Lib.hid (number_calls o ho0 ho1)
  have IL := Lib.hid (number_calls l hl0 hl1)
  have z1 := numS_small o ho0 ho1
  have z2 := numS_small l hl0 hl1
  generalize numS o = O at *
  generalize numS l = L at *
  have n0 : ¬ 9223372036854775807 < 4 + O.size := by omega
  have n1 : ¬ 9223372036854775807 < 5 + O.size := by omega
  have n2 : ¬ 9223372036854775807 < 6 + O.size := by omega
  have n3 : ¬ 9223372036854775807 < 5 + L.size := by omega
  have n4 : ¬ 9223372036854775807 < 5 + O.size + 6 := by omega
  have n5 : ¬ 9223372036854775807 < 5 + O.size + 6 + L.size := by omega
  have n6 : ¬ 9223372036854775807 < 5 + O.size + 1 := by omega
  have n7 : ¬ 9223372036854775807 < 5 + O.size + 1 + 3 := by omega
  have n8 : ¬ 9223372036854775807 < 5 + O.size + 1 + 4 := by omega
  have n9 : ¬ 9223372036854775807 < 5 + O.size + 1 + 5 := by omega
  have n10 : ¬ 9223372036854775807 < 5 + O.size + 1 + 5 + L.size := by omega
  clear z1 z2 ho0 ho1 hl0 hl1
  go_enter Tryd.func30, Tryd.ntmps30
  go_wp2_with fail
  go_ret
  refine ⟨?_, b1.alloc b1.size _⟩
  exact str_eq2 (by simp [textP])
set_option maxHeartbeats 2000000 in
set_option maxRecDepth 100000 in
theorem rptext_2 (o l : Int) (ho0 : -9223372036854775808 ≤ o) (ho1 : o ≤ 9223372036854775807) (hl0 : -9223372036854775808 ≤ l) (hl1 : l ≤ 9223372036854775807) (w : World) : Calls Tryd.prog 30 #[.agg #[.int .i64 2, .int .i64 o, .int .i64 l]] w fun e w' => e = .returned (.string (textP 2 (numS o) (numS l))) ∧ Below w.heap.size w w' := by
  have D1 := Blk.new w [.int .i64 2, .int .i64 o, .int .i64 l] 36
  have C1 := D1.cell
  have b1 : Below w.heap.size w (w.alloc (.cells #[.int .i64 2, .int .i64 o, .int .i64 l] 36)) := (Below.refl _ _).alloc (Nat.le_refl _) _
  have KO := Lib.hid (number_calls o ho0 ho1)
  have IL := Lib.hid (number_calls l hl0 hl1)
  have z1 := numS_small o ho0 ho1
  have z2 := numS_small l hl0 hl1
  generalize numS o = O at *
  generalize numS l = L at *
  have n0 : ¬ 9223372036854775807 < 4 + O.size := by omega
  have n1 : ¬ 9223372036854775807 < 5 + O.size := by omega
  have n2 : ¬ 9223372036854775807 < 6 + O.size := by omega
  have n3 : ¬ 9223372036854775807 < 5 + L.size := by omega
  have n4 : ¬ 9223372036854775807 < 5 + O.size + 6 := by omega
  have n5 : ¬ 9223372036854775807 < 5 + O.size + 6 + L.size := by omega
  have n6 : ¬ 9223372036854775807 < 5 + O.size + 1 := by omega
  have n7 : ¬ 9223372036854775807 < 5 + O.size + 1 + 3 := by omega
  have n8 : ¬ 9223372036854775807 < 5 + O.size + 1 + 4 := by omega
  have n9 : ¬ 9223372036854775807 < 5 + O.size + 1 + 5 := by omega
  have n10 : ¬ 9223372036854775807 < 5 + O.size + 1 + 5 + L.size := by omega
  clear z1 z2 ho0 ho1 hl0 hl1
  go_enter Tryd.func30, Tryd.ntmps30
  go_wp2_with fail
  go_ret
  refine ⟨?_, b1.alloc b1.size _⟩
  exact str_eq2 (by simp [textP])
set_option maxHeartbeats 2000000 in
set_option maxRecDepth 100000 in
theorem rptext_3 (o l : Int) (ho0 : -9223372036854775808 ≤ o) (ho1 : o ≤ 9223372036854775807) (hl0 : -9223372036854775808 ≤ l) (hl1 : l ≤ 9223372036854775807) (w : World) : Calls Tryd.prog 30 #[.agg #[.int .i64 3, .int .i64 o, .int .i64 l]] w fun e w' => e = .returned (.string (textP 3 (numS o) (numS l))) ∧ Below w.heap.size w w' := by
  have D1 := Blk.new w [.int .i64 3, .int .i64 o, .int .i64 l] 36
  have C1 := D1.cell
  have b1 : Below w.heap.size w (w.alloc (.cells #[.int .i64 3, .int .i64 o, .int .i64 l] 36)) := (Below.refl _ _).alloc (Nat.le_refl _) _
  have KO := Lib.hid (number_calls o ho0 ho1)
  have IL := Lib.hid (number_calls l hl0 hl1)
  have z1 := numS_small o ho0 ho1
  have z2 := numS_small l hl0 hl1
  generalize numS o = O at *
  generalize numS l = L at *
  have n0 : ¬ 9223372036854775807 < 4 + O.size := by omega
  have n1 : ¬ 9223372036854775807 < 5 + O.size := by omega
  have n2 : ¬ 9223372036854775807 < 6 + O.size := by omega
  have n3 : ¬ 9223372036854775807 < 5 + L.size := by omega
  have n4 : ¬ 9223372036854775807 < 5 + O.size + 6 := by omega
  have n5 : ¬ 9223372036854775807 < 5 + O.size + 6 + L.size := by omega
  have n6 : ¬ 9223372036854775807 < 5 + O.size + 1 := by omega
  have n7 : ¬ 9223372036854775807 < 5 + O.size + 1 + 3 := by omega
  have n8 : ¬ 9223372036854775807 < 5 + O.size + 1 + 4 := by omega
  have n9 : ¬ 9223372036854775807 < 5 + O.size + 1 + 5 := by omega
  have n10 : ¬ 9223372036854775807 < 5 + O.size + 1 + 5 + L.size := by omega
  clear z1 z2 ho0 ho1 hl0 hl1
  go_enter Tryd.func30, Tryd.ntmps30
  go_wp2_with fail
  go_ret
  refine ⟨?_, b1.alloc b1.size _⟩
  exact str_eq2 (by simp [textP])
set_option maxHeartbeats 2000000 in
set_option maxRecDepth 100000 in
theorem rptext_4 (o l : Int) (ho0 : -9223372036854775808 ≤ o) (ho1 : o ≤ 9223372036854775807) (hl0 : -9223372036854775808 ≤ l) (hl1 : l ≤ 9223372036854775807) (w : World) : Calls Tryd.prog 30 #[.agg #[.int .i64 4, .int .i64 o, .int .i64 l]] w fun e w' => e = .returned (.string (textP 4 (numS o) (numS l))) ∧ Below w.heap.size w w' := by
  have D1 := Blk.new w [.int .i64 4, .int .i64 o, .int .i64 l] 36
  have C1 := D1.cell
  have b1 : Below w.heap.size w (w.alloc (.cells #[.int .i64 4, .int .i64 o, .int .i64 l] 36)) := (Below.refl _ _).alloc (Nat.le_refl _) _
  have KO := Lib.hid (number_calls o ho0 ho1)
  have IL := Lib.hid (number_calls l hl0 hl1)
  have z1 := numS_small o ho0 ho1
  have z2 := numS_small l hl0 hl1
  generalize numS o = O at *
  generalize numS l = L at *
  have n0 : ¬ 9223372036854775807 < 4 + O.size := by omega
  have n1 : ¬ 9223372036854775807 < 5 + O.size := by omega
  have n2 : ¬ 9223372036854775807 < 6 + O.size := by omega
  have n3 : ¬ 9223372036854775807 < 5 + L.size := by omega
  have n4 : ¬ 9223372036854775807 < 5 + O.size + 6 := by omega
  have n5 : ¬ 9223372036854775807 < 5 + O.size + 6 + L.size := by omega
  have n6 : ¬ 9223372036854775807 < 5 + O.size + 1 := by omega
  have n7 : ¬ 9223372036854775807 < 5 + O.size + 1 + 3 := by omega
  have n8 : ¬ 9223372036854775807 < 5 + O.size + 1 + 4 := by omega
  have n9 : ¬ 9223372036854775807 < 5 + O.size + 1 + 5 := by omega
  have n10 : ¬ 9223372036854775807 < 5 + O.size + 1 + 5 + L.size := by omega
  clear z1 z2 ho0 ho1 hl0 hl1
  go_enter Tryd.func30, Tryd.ntmps30
  go_wp2_with fail
  go_ret
  refine ⟨?_, b1.alloc b1.size _⟩
  exact str_eq2 (by simp [textP])
set_option maxHeartbeats 2000000 in
set_option maxRecDepth 100000 in
theorem rptext_5 (o l : Int) (ho0 : -9223372036854775808 ≤ o) (ho1 : o ≤ 9223372036854775807) (hl0 : -9223372036854775808 ≤ l) (hl1 : l ≤ 9223372036854775807) (w : World) : Calls Tryd.prog 30 #[.agg #[.int .i64 5, .int .i64 o, .int .i64 l]] w fun e w' => e = .returned (.string (textP 5 (numS o) (numS l))) ∧ Below w.heap.size w w' := by
  have D1 := Blk.new w [.int .i64 5, .int .i64 o, .int .i64 l] 36
  have C1 := D1.cell
  have b1 : Below w.heap.size w (w.alloc (.cells #[.int .i64 5, .int .i64 o, .int .i64 l] 36)) := (Below.refl _ _).alloc (Nat.le_refl _) _
  have KO := Lib.hid (number_calls o ho0 ho1)
  have IL := Lib.hid (number_calls l hl0 hl1)
  have z1 := numS_small o ho0 ho1
  have z2 := numS_small l hl0 hl1
  generalize numS o = O at *
  generalize numS l = L at *
  have n0 : ¬ 9223372036854775807 < 4 + O.size := by omega
  have n1 : ¬ 9223372036854775807 < 5 + O.size := by omega
  have n2 : ¬ 9223372036854775807 < 6 + O.size := by omega
  have n3 : ¬ 9223372036854775807 < 5 + L.size := by omega
  have n4 : ¬ 9223372036854775807 < 5 + O.size + 6 := by omega
  have n5 : ¬ 9223372036854775807 < 5 + O.size + 6 + L.size := by omega
  have n6 : ¬ 9223372036854775807 < 5 + O.size + 1 := by omega
  have n7 : ¬ 9223372036854775807 < 5 + O.size + 1 + 3 := by omega
  have n8 : ¬ 9223372036854775807 < 5 + O.size + 1 + 4 := by omega
  have n9 : ¬ 9223372036854775807 < 5 + O.size + 1 + 5 := by omega
  have n10 : ¬ 9223372036854775807 < 5 + O.size + 1 + 5 + L.size := by omega
  clear z1 z2 ho0 ho1 hl0 hl1
  go_enter Tryd.func30, Tryd.ntmps30
  go_wp2_with fail
  refine (KO.out _).mono ?_
  rintro e w2 ⟨rfl, hb2⟩
  have b2 := (b1.alloc b1.size _).trans (hb2.mono (b1.alloc b1.size _).size)
  have D2 := (D1.alloc _).below' hb2
  have C2 := D2.cell
  clear D1 C1 b1 hb2
  go_wp2_with fail
  go_ret
  refine ⟨?_, b2⟩
  exact str_eq2 (by simp [textP])
set_option maxHeartbeats 2000000 in
set_option maxRecDepth 100000 in
theorem rptext_6 (o l : Int) (ho0 : -9223372036854775808 ≤ o) (ho1 : o ≤ 9223372036854775807) (hl0 : -9223372036854775808 ≤ l) (hl1 : l ≤ 9223372036854775807) (w : World) : Calls Tryd.prog 30 #[.agg #[.int .i64 6, .int .i64 o, .int .i64 l]] w fun e w' => e = .returned (.string (textP 6 (numS o) (numS l))) ∧ Below w.heap.size w w' := by
  have D1 := Blk.new w [.int .i64 6, .int .i64 o, .int .i64 l] 36
  have C1 := D1.cell
  have b1 : Below w.heap.size w (w.alloc (.cells #[.int .i64 6, .int .i64 o, .int .i64 l] 36)) := (Below.refl _ _).alloc (Nat.le_refl _) _
  have KO := Lib.hid (number_calls o ho0 ho1)
  have IL := Lib.hid (number_calls l hl0 hl1)
  have z1 := numS_small o ho0 ho1
  have z2 := numS_small l hl0 hl1
  generalize numS o = O at *
  generalize numS l = L at *
  have n0 : ¬ 9223372036854775807 < 4 + O.size := by omega
  have n1 : ¬ 9223372036854775807 < 5 + O.size := by omega
  have n2 : ¬ 9223372036854775807 < 6 + O.size := by omega
  have n3 : ¬ 9223372036854775807 < 5 + L.size := by omega
  have n4 : ¬ 9223372036854775807 < 5 + O.size + 6 := by omega
  have n5 : ¬ 9223372036854775807 < 5 + O.size + 6 + L.size := by omega
  have n6 : ¬ 9223372036854775807 < 5 + O.size + 1 := by omega
  have n7 : ¬ 9223372036854775807 < 5 + O.size + 1 + 3 := by omega
  have n8 : ¬ 9223372036854775807 < 5 + O.size + 1 + 4 := by omega
  have n9 : ¬ 9223372036854775807 < 5 + O.size + 1 + 5 := by omega
  have n10 : ¬ 9223372036854775807 < 5 + O.size + 1 + 5 + L.size := by omega
  clear z1 z2 ho0 ho1 hl0 hl1
  go_enter Tryd.func30, Tryd.ntmps30
  go_wp2_with fail
  refine (KO.out _).mono ?_
  rintro e w2 ⟨rfl, hb2⟩
  have b2 := (b1.alloc b1.size _).trans (hb2.mono (b1.alloc b1.size _).size)
  have D2 := (D1.alloc _).below' hb2
  have C2 := D2.cell
  clear D1 C1 b1 hb2
  go_wp2_with fail
  go_ret
  refine ⟨?_, b2⟩
  exact str_eq2 (by simp [textP])
set_option maxHeartbeats 2000000 in
set_option maxRecDepth 100000 in
theorem rptext_7 (o l : Int) (ho0 : -9223372036854775808 ≤ o) (ho1 : o ≤ 9223372036854775807) (hl0 : -9223372036854775808 ≤ l) (hl1 : l ≤ 9223372036854775807) (w : World) : Calls Tryd.prog 30 #[.agg #[.int .i64 7, .int .i64 o, .int .i64 l]] w fun e w' => e = .returned (.string (textP 7 (numS o) (numS l))) ∧ Below w.heap.size w w' := by
  have D1 := Blk.new w [.int .i64 7, .int .i64 o, .int .i64 l] 36
  have C1 := D1.cell
  have b1 : Below w.heap.size w (w.alloc (.cells #[.int .i64 7, .int .i64 o, .int .i64 l] 36)) := (Below.refl _ _).alloc (Nat.le_refl _) _
  have KO := Lib.hid (number_calls o ho0 ho1)
  have IL := Lib.hid (number_calls l hl0 hl1)
  have z1 := numS_small o ho0 ho1
  have z2 := numS_small l hl0 hl1
  generalize numS o = O at *
  generalize numS l = L at *
  have n0 : ¬ 9223372036854775807 < 4 + O.size := by omega
  have n1 : ¬ 9223372036854775807 < 5 + O.size := by omega
  have n2 : ¬ 9223372036854775807 < 6 + O.size := by omega
  have n3 : ¬ 9223372036854775807 < 5 + L.size := by omega
  have n4 : ¬ 9223372036854775807 < 5 + O.size + 6 := by omega
  have n5 : ¬ 9223372036854775807 < 5 + O.size + 6 + L.size := by omega
  have n6 : ¬ 9223372036854775807 < 5 + O.size + 1 := by omega
  have n7 : ¬ 9223372036854775807 < 5 + O.size + 1 + 3 := by omega
  have n8 : ¬ 9223372036854775807 < 5 + O.size + 1 + 4 := by omega
  have n9 : ¬ 9223372036854775807 < 5 + O.size + 1 + 5 := by omega
  have n10 : ¬ 9223372036854775807 < 5 + O.size + 1 + 5 + L.size := by omega
  clear z1 z2 ho0 ho1 hl0 hl1
  go_enter Tryd.func30, Tryd.ntmps30
  go_wp2_with fail
  refine (KO.out _).mono ?_
  rintro e w2 ⟨rfl, hb2⟩
  have b2 := (b1.alloc b1.size _).trans (hb2.mono (b1.alloc b1.size _).size)
  have D2 := (D1.alloc _).below' hb2
  have C2 := D2.cell
  clear D1 C1 b1 hb2
  go_wp2_with fail
  go_ret
  refine ⟨?_, b2⟩
  exact str_eq2 (by simp [textP])
set_option maxHeartbeats 2000000 in
set_option maxRecDepth 100000 in
theorem rptext_8 (o l : Int) (ho0 : -9223372036854775808 ≤ o) (ho1 : o ≤ 9223372036854775807) (hl0 : -9223372036854775808 ≤ l) (hl1 : l ≤ 9223372036854775807) (w : World) : Calls Tryd.prog 30 #[.agg #[.int .i64 8, .int .i64 o, .int .i64 l]] w fun e w' => e = .returned (.string (textP 8 (numS o) (numS l))) ∧ Below w.heap.size w w' := by
  have D1 := Blk.new w [.int .i64 8, .int .i64 o, .int .i64 l] 36
  have C1 := D1.cell
  have b1 : Below w.heap.size w (w.alloc (.cells #[.int .i64 8, .int .i64 o, .int .i64 l] 36)) := (Below.refl _ _).alloc (Nat.le_refl _) _
  have KO := Lib.hid (number_calls o ho0 ho1)
  have IL := Lib.hid (number_calls l hl0 hl1)
  have z1 := numS_small o ho0 ho1
  have z2 := numS_small l hl0 hl1
  generalize numS o = O at *
  generalize numS l = L at *
  have n0 : ¬ 9223372036854775807 < 4 + O.size := by omega
  have n1 : ¬ 9223372036854775807 < 5 + O.size := by omega
  have n2 : ¬ 9223372036854775807 < 6 + O.size := by omega
  have n3 : ¬ 9223372036854775807 < 5 + L.size := by omega
  have n4 : ¬ 9223372036854775807 < 5 + O.size + 6 := by omega
  have n5 : ¬ 9223372036854775807 < 5 + O.size + 6 + L.size := by omega
  have n6 : ¬ 9223372036854775807 < 5 + O.size + 1 := by omega
  have n7 : ¬ 9223372036854775807 < 5 + O.size + 1 + 3 := by omega
  have n8 : ¬ 9223372036854775807 < 5 + O.size + 1 + 4 := by omega
  have n9 : ¬ 9223372036854775807 < 5 + O.size + 1 + 5 := by omega
  have n10 : ¬ 9223372036854775807 < 5 + O.size + 1 + 5 + L.size := by omega
  clear z1 z2 ho0 ho1 hl0 hl1
  go_enter Tryd.func30, Tryd.ntmps30
  go_wp2_with fail
  refine (IL.out _).mono ?_
  rintro e w2 ⟨rfl, hb2⟩
  have b2 := (b1.alloc b1.size _).trans (hb2.mono (b1.alloc b1.size _).size)
  have D2 := (D1.alloc _).below' hb2
  have C2 := D2.cell
  clear D1 C1 b1 hb2
  go_wp2_with fail
  go_ret
  refine ⟨?_, b2⟩
  exact str_eq2 (by simp [textP])
set_option maxHeartbeats 2000000 in
set_option maxRecDepth 100000 in
theorem rptext_9 (o l : Int) (ho0 : -9223372036854775808 ≤ o) (ho1 : o ≤ 9223372036854775807) (hl0 : -9223372036854775808 ≤ l) (hl1 : l ≤ 9223372036854775807) (w : World) : Calls Tryd.prog 30 #[.agg #[.int .i64 9, .int .i64 o, .int .i64 l]] w fun e w' => e = .returned (.string (textP 9 (numS o) (numS l))) ∧ Below w.heap.size w w' := by
  have D1 := Blk.new w [.int .i64 9, .int .i64 o, .int .i64 l] 36
  have C1 := D1.cell
  have b1 : Below w.heap.size w (w.alloc (.cells #[.int .i64 9, .int .i64 o, .int .i64 l] 36)) := (Below.refl _ _).alloc (Nat.le_refl _) _
  have KO := Lib.hid (number_calls o ho0 ho1)
  have IL := Lib.hid (number_calls l hl0 hl1)
  have z1 := numS_small o ho0 ho1
  have z2 := numS_small l hl0 hl1
  generalize numS o = O at *
  generalize numS l = L at *
  have n0 : ¬ 9223372036854775807 < 4 + O.size := by omega
  have n1 : ¬ 9223372036854775807 < 5 + O.size := by omega
  have n2 : ¬ 9223372036854775807 < 6 + O.size := by omega
  have n3 : ¬ 9223372036854775807 < 5 + L.size := by omega
  have n4 : ¬ 9223372036854775807 < 5 + O.size + 6 := by omega
  have n5 : ¬ 9223372036854775807 < 5 + O.size + 6 + L.size := by omega
  have n6 : ¬ 9223372036854775807 < 5 + O.size + 1 := by omega
  have n7 : ¬ 9223372036854775807 < 5 + O.size + 1 + 3 := by omega
  have n8 : ¬ 9223372036854775807 < 5 + O.size + 1 + 4 := by omega
  have n9 : ¬ 9223372036854775807 < 5 + O.size + 1 + 5 := by omega
  have n10 : ¬ 9223372036854775807 < 5 + O.size + 1 + 5 + L.size := by omega
  clear z1 z2 ho0 ho1 hl0 hl1
  go_enter Tryd.func30, Tryd.ntmps30
  go_wp2_with fail
  refine (KO.out _).mono ?_
  rintro e w2 ⟨rfl, hb2⟩
  have b2 := (b1.alloc b1.size _).trans (hb2.mono (b1.alloc b1.size _).size)
  have D2 := (D1.alloc _).below' hb2
  have C2 := D2.cell
  clear D1 C1 b1 hb2
  go_wp2_with fail
  go_ret
  refine ⟨?_, b2⟩
  exact str_eq2 (by simp [textP])
set_option maxHeartbeats 2000000 in
set_option maxRecDepth 100000 in
theorem rptext_10 (o l : Int) (ho0 : -9223372036854775808 ≤ o) (ho1 : o ≤ 9223372036854775807) (hl0 : -9223372036854775808 ≤ l) (hl1 : l ≤ 9223372036854775807) (w : World) : Calls Tryd.prog 30 #[.agg #[.int .i64 10, .int .i64 o, .int .i64 l]] w fun e w' => e = .returned (.string (textP 10 (numS o) (numS l))) ∧ Below w.heap.size w w' := by
  have D1 := Blk.new w [.int .i64 10, .int .i64 o, .int .i64 l] 36
  have C1 := D1.cell
  have b1 : Below w.heap.size w (w.alloc (.cells #[.int .i64 10, .int .i64 o, .int .i64 l] 36)) := (Below.refl _ _).alloc (Nat.le_refl _) _
  have KO := Lib.hid (number_calls o ho0 ho1)
  have IL := Lib.hid (number_calls l hl0 hl1)
  have z1 := numS_small o ho0 ho1
  have z2 := numS_small l hl0 hl1
  generalize numS o = O at *
  generalize numS l = L at *
  have n0 : ¬ 9223372036854775807 < 4 + O.size := by omega
  have n1 : ¬ 9223372036854775807 < 5 + O.size := by omega
  have n2 : ¬ 9223372036854775807 < 6 + O.size := by omega
  have n3 : ¬ 9223372036854775807 < 5 + L.size := by omega
  have n4 : ¬ 9223372036854775807 < 5 + O.size + 6 := by omega
  have n5 : ¬ 9223372036854775807 < 5 + O.size + 6 + L.size := by omega
  have n6 : ¬ 9223372036854775807 < 5 + O.size + 1 := by omega
  have n7 : ¬ 9223372036854775807 < 5 + O.size + 1 + 3 := by omega
  have n8 : ¬ 9223372036854775807 < 5 + O.size + 1 + 4 := by omega
  have n9 : ¬ 9223372036854775807 < 5 + O.size + 1 + 5 := by omega
  have n10 : ¬ 9223372036854775807 < 5 + O.size + 1 + 5 + L.size := by omega
  clear z1 z2 ho0 ho1 hl0 hl1
  go_enter Tryd.func30, Tryd.ntmps30
  go_wp2_with fail
  refine (KO.out _).mono ?_
  rintro e w2 ⟨rfl, hb2⟩
  have b2 := (b1.alloc b1.size _).trans (hb2.mono (b1.alloc b1.size _).size)
  have D2 := (D1.alloc _).below' hb2
  have C2 := D2.cell
  clear D1 C1 b1 hb2
  go_wp2_with fail
  go_ret
  refine ⟨?_, b2⟩
  exact str_eq2 (by simp [textP])
set_option maxHeartbeats 2000000 in
set_option maxRecDepth 100000 in
theorem rptext_11 (o l : Int) (ho0 : -9223372036854775808 ≤ o) (ho1 : o ≤ 9223372036854775807) (hl0 : -9223372036854775808 ≤ l) (hl1 : l ≤ 9223372036854775807) (w : World) : Calls Tryd.prog 30 #[.agg #[.int .i64 11, .int .i64 o, .int .i64 l]] w fun e w' => e = .returned (.string (textP 11 (numS o) (numS l))) ∧ Below w.heap.size w w' := by
  have D1 := Blk.new w [.int .i64 11, .int .i64 o, .int .i64 l] 36
  have C1 := D1.cell
  have b1 : Below w.heap.size w (w.alloc (.cells #[.int .i64 11, .int .i64 o, .int .i64 l] 36)) := (Below.refl _ _).alloc (Nat.le_refl _) _
  have KO := Lib.hid (number_calls o ho0 ho1)
  have IL := Lib.hid (number_calls l hl0 hl1)
  have z1 := numS_small o ho0 ho1
  have z2 := numS_small l hl0 hl1
  generalize numS o = O at *
  generalize numS l = L at *
  have n0 : ¬ 9223372036854775807 < 4 + O.size := by omega
  have n1 : ¬ 9223372036854775807 < 5 + O.size := by omega
  have n2 : ¬ 9223372036854775807 < 6 + O.size := by omega
  have n3 : ¬ 9223372036854775807 < 5 + L.size := by omega
  have n4 : ¬ 9223372036854775807 < 5 + O.size + 6 := by omega
  have n5 : ¬ 9223372036854775807 < 5 + O.size + 6 + L.size := by omega
  have n6 : ¬ 9223372036854775807 < 5 + O.size + 1 := by omega
  have n7 : ¬ 9223372036854775807 < 5 + O.size + 1 + 3 := by omega
  have n8 : ¬ 9223372036854775807 < 5 + O.size + 1 + 4 := by omega
  have n9 : ¬ 9223372036854775807 < 5 + O.size + 1 + 5 := by omega
  have n10 : ¬ 9223372036854775807 < 5 + O.size + 1 + 5 + L.size := by omega
  clear z1 z2 ho0 ho1 hl0 hl1
  go_enter Tryd.func30, Tryd.ntmps30
  go_wp2_with fail
  refine (KO.out _).mono ?_
  rintro e w2 ⟨rfl, hb2⟩
  have b2 := (b1.alloc b1.size _).trans (hb2.mono (b1.alloc b1.size _).size)
  have D2 := (D1.alloc _).below' hb2
  have C2 := D2.cell
  clear D1 C1 b1 hb2
  go_wp2_with fail
  go_ret
  refine ⟨?_, b2⟩
  exact str_eq2 (by simp [textP])
set_option maxHeartbeats 2000000 in
set_option maxRecDepth 100000 in
theorem rptext_12 (o l : Int) (ho0 : -9223372036854775808 ≤ o) (ho1 : o ≤ 9223372036854775807) (hl0 : -9223372036854775808 ≤ l) (hl1 : l ≤ 9223372036854775807) (w : World) : Calls Tryd.prog 30 #[.agg #[.int .i64 12, .int .i64 o, .int .i64 l]] w fun e w' => e = .returned (.string (textP 12 (numS o) (numS l))) ∧ Below w.heap.size w w' := by
  have D1 := Blk.new w [.int .i64 12, .int .i64 o, .int .i64 l] 36
  have C1 := D1.cell
  have b1 : Below w.heap.size w (w.alloc (.cells #[.int .i64 12, .int .i64 o, .int .i64 l] 36)) := (Below.refl _ _).alloc (Nat.le_refl _) _
  have KO := Lib.hid (number_calls o ho0 ho1)
  have IL := Lib.hid (number_calls l hl0 hl1)
  have z1 := numS_small o ho0 ho1
  have z2 := numS_small l hl0 hl1
  generalize numS o = O at *
  generalize numS l = L at *
  have n0 : ¬ 9223372036854775807 < 4 + O.size := by omega
  have n1 : ¬ 9223372036854775807 < 5 + O.size := by omega
  have n2 : ¬ 9223372036854775807 < 6 + O.size := by omega
  have n3 : ¬ 9223372036854775807 < 5 + L.size := by omega
  have n4 : ¬ 9223372036854775807 < 5 + O.size + 6 := by omega
  have n5 : ¬ 9223372036854775807 < 5 + O.size + 6 + L.size := by omega
  have n6 : ¬ 9223372036854775807 < 5 + O.size + 1 := by omega
  have n7 : ¬ 9223372036854775807 < 5 + O.size + 1 + 3 := by omega
  have n8 : ¬ 9223372036854775807 < 5 + O.size + 1 + 4 := by omega
  have n9 : ¬ 9223372036854775807 < 5 + O.size + 1 + 5 := by omega
  have n10 : ¬ 9223372036854775807 < 5 + O.size + 1 + 5 + L.size := by omega
  clear z1 z2 ho0 ho1 hl0 hl1
  go_enter Tryd.func30, Tryd.ntmps30
  go_wp2_with fail
  refine (KO.out _).mono ?_
  rintro e w2 ⟨rfl, hb2⟩
  have b2 := (b1.alloc b1.size _).trans (hb2.mono (b1.alloc b1.size _).size)
  have D2 := (D1.alloc _).below' hb2
  have C2 := D2.cell
  clear D1 C1 b1 hb2
  go_wp2_with fail
  go_ret
  refine ⟨?_, b2⟩
  exact str_eq2 (by simp [textP])
set_option maxHeartbeats 2000000 in
set_option maxRecDepth 100000 in
theorem rptext_13 (o l : Int) (ho0 : -9223372036854775808 ≤ o) (ho1 : o ≤ 9223372036854775807) (hl0 : -9223372036854775808 ≤ l) (hl1 : l ≤ 9223372036854775807) (w : World) : Calls Tryd.prog 30 #[.agg #[.int .i64 13, .int .i64 o, .int .i64 l]] w fun e w' => e = .returned (.string (textP 13 (numS o) (numS l))) ∧ Below w.heap.size w w' := by
  have D1 := Blk.new w [.int .i64 13, .int .i64 o, .int .i64 l] 36
  have C1 := D1.cell
  have b1 : Below w.heap.size w (w.alloc (.cells #[.int .i64 13, .int .i64 o, .int .i64 l] 36)) := (Below.refl _ _).alloc (Nat.le_refl _) _
  have KO := Lib.hid (number_calls o ho0 ho1)
  have IL := Lib.hid (number_calls l hl0 hl1)
  have z1 := numS_small o ho0 ho1
  have z2 := numS_small l hl0 hl1
  generalize numS o = O at *
  generalize numS l = L at *
  have n0 : ¬ 9223372036854775807 < 4 + O.size := by omega
  have n1 : ¬ 9223372036854775807 < 5 + O.size := by omega
  have n2 : ¬ 9223372036854775807 < 6 + O.size := by omega
  have n3 : ¬ 9223372036854775807 < 5 + L.size := by omega
  have n4 : ¬ 9223372036854775807 < 5 + O.size + 6 := by omega
  have n5 : ¬ 9223372036854775807 < 5 + O.size + 6 + L.size := by omega
  have n6 : ¬ 9223372036854775807 < 5 + O.size + 1 := by omega
  have n7 : ¬ 9223372036854775807 < 5 + O.size + 1 + 3 := by omega
  have n8 : ¬ 9223372036854775807 < 5 + O.size + 1 + 4 := by omega
  have n9 : ¬ 9223372036854775807 < 5 + O.size + 1 + 5 := by omega
  have n10 : ¬ 9223372036854775807 < 5 + O.size + 1 + 5 + L.size := by omega
  clear z1 z2 ho0 ho1 hl0 hl1
  go_enter Tryd.func30, Tryd.ntmps30
  go_wp2_with fail
  refine (KO.out _).mono ?_
  rintro e w2 ⟨rfl, hb2⟩
  have b2 := (b1.alloc b1.size _).trans (hb2.mono (b1.alloc b1.size _).size)
  have D2 := (D1.alloc _).below' hb2
  have C2 := D2.cell
  clear D1 C1 b1 hb2
  go_wp2_with fail
  go_ret
  refine ⟨?_, b2⟩
  exact str_eq2 (by simp [textP])
set_option maxHeartbeats 2000000 in
set_option maxRecDepth 100000 in
theorem rptext_14 (o l : Int) (ho0 : -9223372036854775808 ≤ o) (ho1 : o ≤ 9223372036854775807) (hl0 : -9223372036854775808 ≤ l) (hl1 : l ≤ 9223372036854775807) (w : World) : Calls Tryd.prog 30 #[.agg #[.int .i64 14, .int .i64 o, .int .i64 l]] w fun e w' => e = .returned (.string (textP 14 (numS o) (numS l))) ∧ Below w.heap.size w w' := by
  have D1 := Blk.new w [.int .i64 14, .int .i64 o, .int .i64 l] 36
  have C1 := D1.cell
  have b1 : Below w.heap.size w (w.alloc (.cells #[.int .i64 14, .int .i64 o, .int .i64 l] 36)) := (Below.refl _ _).alloc (Nat.le_refl _) _
  have KO := Lib.hid (number_calls o ho0 ho1)
  have IL := Lib.hid (number_calls l hl0 hl1)
  have z1 := numS_small o ho0 ho1
  have z2 := numS_small l hl0 hl1
  generalize numS o = O at *
  generalize numS l = L at *
  have n0 : ¬ 9223372036854775807 < 4 + O.size := by omega
  have n1 : ¬ 9223372036854775807 < 5 + O.size := by omega
  have n2 : ¬ 9223372036854775807 < 6 + O.size := by omega
  have n3 : ¬ 9223372036854775807 < 5 + L.size := by omega
  have n4 : ¬ 9223372036854775807 < 5 + O.size + 6 := by omega
  have n5 : ¬ 9223372036854775807 < 5 + O.size + 6 + L.size := by omega
  have n6 : ¬ 9223372036854775807 < 5 + O.size + 1 := by omega
  have n7 : ¬ 9223372036854775807 < 5 + O.size + 1 + 3 := by omega
  have n8 : ¬ 9223372036854775807 < 5 + O.size + 1 + 4 := by omega
  have n9 : ¬ 9223372036854775807 < 5 + O.size + 1 + 5 := by omega
  have n10 : ¬ 9223372036854775807 < 5 + O.size + 1 + 5 + L.size := by omega
  clear z1 z2 ho0 ho1 hl0 hl1
  go_enter Tryd.func30, Tryd.ntmps30
  go_wp2_with fail
  refine (KO.out _).mono ?_
  rintro e w2 ⟨rfl, hb2⟩
  have b2 := (b1.alloc b1.size _).trans (hb2.mono (b1.alloc b1.size _).size)
  have D2 := (D1.alloc _).below' hb2
  have C2 := D2.cell
  clear D1 C1 b1 hb2
  go_wp2_with fail
  go_ret
  refine ⟨?_, b2⟩
  exact str_eq2 (by simp [textP])
set_option maxHeartbeats 2000000 in
set_option maxRecDepth 100000 in
theorem rptext_15 (o l : Int) (ho0 : -9223372036854775808 ≤ o) (ho1 : o ≤ 9223372036854775807) (hl0 : -9223372036854775808 ≤ l) (hl1 : l ≤ 9223372036854775807) (w : World) : Calls Tryd.prog 30 #[.agg #[.int .i64 15, .int .i64 o, .int .i64 l]] w fun e w' => e = .returned (.string (textP 15 (numS o) (numS l))) ∧ Below w.heap.size w w' := by
  have D1 := Blk.new w [.int .i64 15, .int .i64 o, .int .i64 l] 36
  have C1 := D1.cell
  have b1 : Below w.heap.size w (w.alloc (.cells #[.int .i64 15, .int .i64 o, .int .i64 l] 36)) := (Below.refl _ _).alloc (Nat.le_refl _) _
  have KO := Lib.hid (number_calls o ho0 ho1)
  have IL := Lib.hid (number_calls l hl0 hl1)
  have z1 := numS_small o ho0 ho1
  have z2 := numS_small l hl0 hl1
  generalize numS o = O at *
  generalize numS l = L at *
  have n0 : ¬ 9223372036854775807 < 4 + O.size := by omega
  have n1 : ¬ 9223372036854775807 < 5 + O.size := by omega
  have n2 : ¬ 9223372036854775807 < 6 + O.size := by omega
  have n3 : ¬ 9223372036854775807 < 5 + L.size := by omega
  have n4 : ¬ 9223372036854775807 < 5 + O.size + 6 := by omega
  have n5 : ¬ 9223372036854775807 < 5 + O.size + 6 + L.size := by omega
  have n6 : ¬ 9223372036854775807 < 5 + O.size + 1 := by omega
  have n7 : ¬ 9223372036854775807 < 5 + O.size + 1 + 3 := by omega
  have n8 : ¬ 9223372036854775807 < 5 + O.size + 1 + 4 := by omega
  have n9 : ¬ 9223372036854775807 < 5 + O.size + 1 + 5 := by omega
  have n10 : ¬ 9223372036854775807 < 5 + O.size + 1 + 5 + L.size := by omega
  clear z1 z2 ho0 ho1 hl0 hl1
  go_enter Tryd.func30, Tryd.ntmps30
  go_wp2_with fail
  refine (KO.out _).mono ?_
  rintro e w2 ⟨rfl, hb2⟩
  have b2 := (b1.alloc b1.size _).trans (hb2.mono (b1.alloc b1.size _).size)
  have D2 := (D1.alloc _).below' hb2
  have C2 := D2.cell
  clear D1 C1 b1 hb2
  go_wp2_with fail
  refine (IL.out _).mono ?_
  rintro e w3 ⟨rfl, hb3⟩
  go_wp2_with fail
  go_ret
  refine ⟨?_, b2.trans (hb3.mono b2.size)⟩
  exact str_eq2 (by simp [textP])
set_option maxHeartbeats 2000000 in
set_option maxRecDepth 100000 in
theorem rptext_no (k : Int) (hk : ¬ (1 ≤ k ∧ k ≤ 15)) (o l : Int) (ho0 : -9223372036854775808 ≤ o) (ho1 : o ≤ 9223372036854775807) (hl0 : -9223372036854775808 ≤ l) (hl1 : l ≤ 9223372036854775807) (w : World) : Calls Tryd.prog 30 #[.agg #[.int .i64 k, .int .i64 o, .int .i64 l]] w fun e w' => e = .returned (.string (textP k (numS o) (numS l))) ∧ Below w.heap.size w w' := by
  have D1 := Blk.new w [.int .i64 k, .int .i64 o, .int .i64 l] 36
  have C1 := D1.cell
  have b1 : Below w.heap.size w (w.alloc (.cells #[.int .i64 k, .int .i64 o, .int .i64 l] 36)) := (Below.refl _ _).alloc (Nat.le_refl _) _
  have KO := Lib.hid (number_calls o ho0 ho1)
  have IL := Lib.hid (number_calls l hl0 hl1)
  have z1 := numS_small o ho0 ho1
  have z2 := numS_small l hl0 hl1
  generalize numS o = O at *
  generalize numS l = L at *
  have n0 : ¬ 9223372036854775807 < 4 + O.size := by omega
  have n1 : ¬ 9223372036854775807 < 5 + O.size := by omega
  have n2 : ¬ 9223372036854775807 < 6 + O.size := by omega
  have n3 : ¬ 9223372036854775807 < 5 + L.size := by omega
  have n4 : ¬ 9223372036854775807 < 5 + O.size + 6 := by omega
  have n5 : ¬ 9223372036854775807 < 5 + O.size + 6 + L.size := by omega
  have n6 : ¬ 9223372036854775807 < 5 + O.size + 1 := by omega
  have n7 : ¬ 9223372036854775807 < 5 + O.size + 1 + 3 := by omega
  have n8 : ¬ 9223372036854775807 < 5 + O.size + 1 + 4 := by omega
  have n9 : ¬ 9223372036854775807 < 5 + O.size + 1 + 5 := by omega
  have n10 : ¬ 9223372036854775807 < 5 + O.size + 1 + 5 + L.size := by omega
  clear z1 z2 ho0 ho1 hl0 hl1
  have HT : Hid (textP k O L = ⟨#[110, 111, 110, 101]⟩) := by
    show _ = _
    unfold textP
    rw [if_neg (show ¬ k = 1 by omega), if_neg (show ¬ k = 2 by omega), if_neg (show ¬ k = 3 by omega), if_neg (show ¬ k = 4 by omega), if_neg (show ¬ k = 5 by omega), if_neg (show ¬ k = 6 by omega), if_neg (show ¬ k = 7 by omega), if_neg (show ¬ k = 8 by omega), if_neg (show ¬ k = 15 by omega), if_neg (show ¬ k = 9 by omega), if_neg (show ¬ k = 10 by omega), if_neg (show ¬ k = 11 by omega), if_neg (show ¬ k = 12 by omega), if_neg (show ¬ k = 13 by omega), if_neg (show ¬ k = 14 by omega)]
  generalize textP k O L = t at *
  by_cases h0 : k = 0
  · subst h0
    clear hk
    go_enter Tryd.func30, Tryd.ntmps30
    go_wp2_with fail
    go_ret
    exact ⟨(show Ending.returned (Value.string ⟨#[110, 111, 110, 101]⟩) = _ by rw [HT.out]), b1.alloc b1.size _⟩
  · by_cases h1 : k < 0
    · have d1 : decide (k < 0) = true := decide_eq_true h1
      clear hk h0 h1
      go_enter Tryd.func30, Tryd.ntmps30
      go_wp2_with fail
      go_ret
      exact ⟨(show Ending.returned (Value.string ⟨#[110, 111, 110, 101]⟩) = _ by rw [HT.out]), b1.alloc b1.size _⟩
    · have d1 : decide (k < 0) = false := decide_eq_false h1
      have d2 : decide (15 < k) = true := decide_eq_true (by omega)
      clear hk h0 h1
      go_enter Tryd.func30, Tryd.ntmps30
      go_wp2_with fail
      go_ret
      exact ⟨(show Ending.returned (Value.string ⟨#[110, 111, 110, 101]⟩) = _ by rw [HT.out]), b1.alloc b1.size _⟩
theorem ptext_calls (k o l : Int) (ho0 : -9223372036854775808 ≤ o) (ho1 : o ≤ 9223372036854775807) (hl0 : -9223372036854775808 ≤ l) (hl1 : l ≤ 9223372036854775807) (w : World) (ht : Tab w) : Calls Tryd.prog 29 #[.agg #[.int .i64 k, .int .i64 o, .int .i64 l]] w fun e w' => e = .returned (.string (textP k (numS o) (numS l))) ∧ Below w.heap.size w w' := by
  by_cases hk : 1 ≤ k ∧ k ≤ 15
  · have h15 : k = 1 ∨ k = 2 ∨ k = 3 ∨ k = 4 ∨ k = 5 ∨ k = 6 ∨ k = 7 ∨ k = 8 ∨ k = 9 ∨ k = 10 ∨ k = 11 ∨ k = 12 ∨ k = 13 ∨ k = 14 ∨ k = 15 := by omega
    rcases h15 with rfl | rfl | rfl | rfl | rfl | rfl | rfl | rfl | rfl | rfl | rfl | rfl | rfl | rfl | rfl
    · exact ptext_1 o l ho0 ho1 hl0 hl1 w ht
    · exact ptext_2 o l ho0 ho1 hl0 hl1 w ht
    · exact ptext_3 o l ho0 ho1 hl0 hl1 w ht
    · exact ptext_4 o l ho0 ho1 hl0 hl1 w ht
    · exact ptext_5 o l ho0 ho1 hl0 hl1 w ht
    · exact ptext_6 o l ho0 ho1 hl0 hl1 w ht
    · exact ptext_7 o l ho0 ho1 hl0 hl1 w ht
    · exact ptext_8 o l ho0 ho1 hl0 hl1 w ht
    · exact ptext_9 o l ho0 ho1 hl0 hl1 w ht
    · exact ptext_10 o l ho0 ho1 hl0 hl1 w ht
    · exact ptext_11 o l ho0 ho1 hl0 hl1 w ht
    · exact ptext_12 o l ho0 ho1 hl0 hl1 w ht
    · exact ptext_13 o l ho0 ho1 hl0 hl1 w ht
    · exact ptext_14 o l ho0 ho1 hl0 hl1 w ht
    · exact ptext_15 o l ho0 ho1 hl0 hl1 w ht
  · exact ptext_no k hk o l ho0 ho1 hl0 hl1 w ht
theorem rptext_calls (k o l : Int) (ho0 : -9223372036854775808 ≤ o) (ho1 : o ≤ 9223372036854775807) (hl0 : -9223372036854775808 ≤ l) (hl1 : l ≤ 9223372036854775807) (w : World) : Calls Tryd.prog 30 #[.agg #[.int .i64 k, .int .i64 o, .int .i64 l]] w fun e w' => e = .returned (.string (textP k (numS o) (numS l))) ∧ Below w.heap.size w w' := by
  by_cases hk : 1 ≤ k ∧ k ≤ 15
  · have h15 : k = 1 ∨ k = 2 ∨ k = 3 ∨ k = 4 ∨ k = 5 ∨ k = 6 ∨ k = 7 ∨ k = 8 ∨ k = 9 ∨ k = 10 ∨ k = 11 ∨ k = 12 ∨ k = 13 ∨ k = 14 ∨ k = 15 := by omega
    rcases h15 with rfl | rfl | rfl | rfl | rfl | rfl | rfl | rfl | rfl | rfl | rfl | rfl | rfl | rfl | rfl
    · exact rptext_1 o l ho0 ho1 hl0 hl1 w
    · exact rptext_2 o l ho0 ho1 hl0 hl1 w
    · exact rptext_3 o l ho0 ho1 hl0 hl1 w
    · exact rptext_4 o l ho0 ho1 hl0 hl1 w
    · exact rptext_5 o l ho0 ho1 hl0 hl1 w
    · exact rptext_6 o l ho0 ho1 hl0 hl1 w
    · exact rptext_7 o l ho0 ho1 hl0 hl1 w
    · exact rptext_8 o l ho0 ho1 hl0 hl1 w
    · exact rptext_9 o l ho0 ho1 hl0 hl1 w
    · exact rptext_10 o l ho0 ho1 hl0 hl1 w
    · exact rptext_11 o l ho0 ho1 hl0 hl1 w
    · exact rptext_12 o l ho0 ho1 hl0 hl1 w
    · exact rptext_13 o l ho0 ho1 hl0 hl1 w
    · exact rptext_14 o l ho0 ho1 hl0 hl1 w
    · exact rptext_15 o l ho0 ho1 hl0 hl1 w
  · exact rptext_no k hk o l ho0 ho1 hl0 hl1 w
end Go.Proofs.YtippfkokgpdmdaaDoor

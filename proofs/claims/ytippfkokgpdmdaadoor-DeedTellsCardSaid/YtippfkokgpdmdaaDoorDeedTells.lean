/-
  The law DeedTells, walked.
-/
import Derived.Test.YtippfkokgpdmdaaDoorDeedText
namespace Go.Proofs.YtippfkokgpdmdaaDoor
open Go Go.RowKit
set_option linter.unusedVariables false

theorem rafter_calls (x : Int) (d : D) (w : World) : Calls Tryd.prog 40 #[.int .u64 x, .agg #[.int .i64 d.k, .int .i64 d.at_, .int .u64 d.a, .int .u64 d.b, .int .u64 d.by_]] w fun e w' => e = .returned (.int .u64 (afterP x d)) ∧ Below w.heap.size w w' := by
  obtain ⟨k, at_, a, b, by_⟩ := d
  have b1 : Below w.heap.size w (w.alloc (.cells #[.int .i64 k, .int .i64 at_, .int .u64 a, .int .u64 b, .int .u64 by_] 48)) := (Below.refl _ _).alloc (Nat.le_refl _) _
  have C1 := (Blk.new w [.int .i64 k, .int .i64 at_, .int .u64 a, .int .u64 b, .int .u64 by_] 48).cell
  have HP : Hid (afterP x ⟨k, at_, a, b, by_⟩ = if k = 2 then a else if k = 3 ∧ x = a then b else if k = 4 then (x + a) % 18446744073709551616 else x) := rfl
  generalize afterP x ⟨k, at_, a, b, by_⟩ = r at *
  by_cases h2 : k = 2
  · subst h2
    have HR : Hid (r = a) := by show _ = _; rw [HP.out, if_pos rfl]
    go_enter Tryd.func40, Tryd.ntmps40
    go_wp2_with fail
    go_ret
    exact ⟨ret_u64 HR.out.symm, b1⟩
  · have q2 : (k == 2) = false := by simpa using h2
    by_cases h3 : k = 3
    · subst h3
      by_cases hx : x = a
      · subst hx
        have HR : Hid (r = b) := by show _ = _; rw [HP.out, if_neg (by omega), if_pos ⟨rfl, rfl⟩]
        go_enter Tryd.func40, Tryd.ntmps40
        go_wp2_with fail
        go_ret
        exact ⟨ret_u64 HR.out.symm, b1⟩
      · have qx : (x == a) = false := by simpa using hx
        have HR : Hid (r = x) := by show _ = _; rw [HP.out, if_neg (by omega), if_neg (by simp [hx]), if_neg (by omega)]
        go_enter Tryd.func40, Tryd.ntmps40
        go_wp2_with fail
        go_ret
        exact ⟨ret_u64 HR.out.symm, b1⟩
    · have q3 : (k == 3) = false := by simpa using h3
      by_cases h4 : k = 4
      · subst h4
        have HR : Hid (r = (x + a) % 18446744073709551616) := by show _ = _; rw [HP.out, if_neg (by omega), if_neg (by simp), if_pos rfl]
        go_enter Tryd.func40, Tryd.ntmps40
        go_wp2_with fail
        go_ret
        exact ⟨ret_u64 (by rw [HR.out]; first | rfl | (rw [IntKind.wrap_u64])), b1⟩
      · have q4 : (k == 4) = false := by simpa using h4
        have HR : Hid (r = x) := by show _ = _; rw [HP.out, if_neg h2, if_neg (by simp [h3]), if_neg h4]
        go_enter Tryd.func40, Tryd.ntmps40
        go_wp2_with fail
        go_ret
        exact ⟨ret_u64 HR.out.symm, b1⟩
theorem texts (k at_ a b y : Int) (h0 : -9223372036854775808 ≤ at_) (h1 : at_ ≤ 9223372036854775807) (ha0 : 0 ≤ a) (ha1 : a < 18446744073709551616) (hb0 : 0 ≤ b) (hb1 : b < 18446744073709551616) (hy0 : 0 ≤ y) (hy1 : y < 18446744073709551616) (w : World) (ht : Tab w) :
    ∃ s, (∀ W, Below w.heap.size w W → Calls Tryd.prog 42 #[.agg #[.int .i64 k, .int .i64 at_, .int .u64 a, .int .u64 b, .int .u64 y]] W fun e w' => e = .returned (.string s) ∧ Below W.heap.size W w') ∧
      ∀ W, Calls Tryd.prog 43 #[.agg #[.int .i64 k, .int .i64 at_, .int .u64 a, .int .u64 b, .int .u64 y]] W fun e w' => e = .returned (.string s) ∧ Below W.heap.size W w' := by
  by_cases hk : 1 ≤ k ∧ k ≤ 4
  · have h4 : k = 1 ∨ k = 2 ∨ k = 3 ∨ k = 4 := by omega
    rcases h4 with rfl | rfl | rfl | rfl
    · exact ⟨_, fun W hW => text_kind 1 0 (by omega) (kindWord 1) (by decide) 77 of_1 at_ a b y h0 h1 ha0 ha1 hb0 hb1 hy0 hy1 W (ht.below hW), fun W => rtext_1 at_ a b y h0 h1 ha0 ha1 hb0 hb1 hy0 hy1 W⟩
    · exact ⟨_, fun W hW => text_kind 2 1 (by omega) (kindWord 2) (by decide) 79 of_2 at_ a b y h0 h1 ha0 ha1 hb0 hb1 hy0 hy1 W (ht.below hW), fun W => rtext_2 at_ a b y h0 h1 ha0 ha1 hb0 hb1 hy0 hy1 W⟩
    · exact ⟨_, fun W hW => text_kind 3 2 (by omega) (kindWord 3) (by decide) 81 of_3 at_ a b y h0 h1 ha0 ha1 hb0 hb1 hy0 hy1 W (ht.below hW), fun W => rtext_3 at_ a b y h0 h1 ha0 ha1 hb0 hb1 hy0 hy1 W⟩
    · exact ⟨_, fun W hW => text_kind 4 1 (by omega) (kindWord 4) (by decide) 83 of_4 at_ a b y h0 h1 ha0 ha1 hb0 hb1 hy0 hy1 W (ht.below hW), fun W => rtext_4 at_ a b y h0 h1 ha0 ha1 hb0 hb1 hy0 hy1 W⟩
  · exact ⟨noneS, fun W _ => text_no k at_ a b y hk W, fun W => rtext_no k at_ a b y hk ha0 ha1 W⟩
set_option maxHeartbeats 4000000 in
theorem deedTells_walk (x k at_ a b y : Int) (h0 : -9223372036854775808 ≤ at_) (h1 : at_ ≤ 9223372036854775807) (ha0 : 0 ≤ a) (ha1 : a < 18446744073709551616) (hb0 : 0 ≤ b) (hb1 : b < 18446744073709551616) (hy0 : 0 ≤ y) (hy1 : y < 18446744073709551616) (w : World) (ht : Tab w) :
    Calls Tryd.prog 9 #[.int .u64 x, .agg #[.int .i64 k, .int .i64 at_, .int .u64 a, .int .u64 b, .int .u64 y]] w fun e w' => e = .returned (.bool true) ∧ Below w.heap.size w w' := by
  obtain ⟨s, T1, T2⟩ := texts k at_ a b y h0 h1 ha0 ha1 hb0 hb1 hy0 hy1 w ht
  have T1H := Lib.hid T1
  have T2H := Lib.hid T2
  have A1 : Hid (∀ w, Calls Tryd.prog 39 #[.int .u64 x, .agg #[.int .i64 k, .int .i64 at_, .int .u64 a, .int .u64 b, .int .u64 y]] w fun e w' => e = .returned (.int .u64 (afterP x ⟨k, at_, a, b, y⟩)) ∧ Below w.heap.size w w') := fun w => after_calls x ⟨k, at_, a, b, y⟩ w
  have A2 : Hid (∀ w, Calls Tryd.prog 40 #[.int .u64 x, .agg #[.int .i64 k, .int .i64 at_, .int .u64 a, .int .u64 b, .int .u64 y]] w fun e w' => e = .returned (.int .u64 (afterP x ⟨k, at_, a, b, y⟩)) ∧ Below w.heap.size w w') := fun w => rafter_calls x ⟨k, at_, a, b, y⟩ w
  have A3 : Hid (∀ w, Calls Tryd.prog 41 #[.int .u64 x, .agg #[.int .i64 k, .int .i64 at_, .int .u64 a, .int .u64 b, .int .u64 y]] w fun e w' => e = .returned (.bool (!(afterP x ⟨k, at_, a, b, y⟩ == x))) ∧ Below w.heap.size w w') := fun w => changes_calls x ⟨k, at_, a, b, y⟩ w
  have HA := Lib.hid (fun w => deed_awake w)
  generalize afterP x ⟨k, at_, a, b, y⟩ = r at *
  have b1 : Below w.heap.size w (w.alloc (.cells #[.int .i64 k, .int .i64 at_, .int .u64 a, .int .u64 b, .int .u64 y] 48)) := (Below.refl _ _).alloc (Nat.le_refl _) _
  have D1 := Blk.new w [.int .i64 k, .int .i64 at_, .int .u64 a, .int .u64 b, .int .u64 y] 48
  have C1 := D1.cell
  clear T1 T2 h0 h1 ha0 ha1 hb0 hb1 hy0 hy1 ht
  by_cases hq : r = x
  · have q : (r == x) = true := by simpa using hq
    have q' : (r != x) = false := by simpa using hq
    clear hq
    rw [q, Bool.not_true] at A3
    go_enter Tryd.func9, Tryd.ntmps9
    go_upto_region 1 with fail
    refine wp_region_reads (by kernel_rfl) (by kernel_rfl) ?_
    repeat (quiet_step (first | (go_at_call 39; exact calls_later (A1.out _)) | (go_at_call 40; exact calls_later (A2.out _)) | (go_at_call 41; exact calls_later (A3.out _)) | (go_at_call 42; exact calls_later (T1H.out _ (b1.trans ((later_below _ _).mono b1.size)))) | (go_at_call 43; exact calls_later (T2H.out _)) | (go_at_call 44; exact calls_later (HA.out _))))
    refine wpQuiet_nil ?_
    intro w2 hb2
    go_wp2_with fail
    go_ret
    exact ⟨rfl, b1.trans (hb2.mono b1.size)⟩
  · have q : (r == x) = false := by simpa using hq
    have q' : (r != x) = true := by simpa using hq
    clear hq
    rw [q, Bool.not_false] at A3
    go_enter Tryd.func9, Tryd.ntmps9
    go_upto_region 1 with fail
    refine wp_region_reads (by kernel_rfl) (by kernel_rfl) ?_
    repeat (quiet_step (first | (go_at_call 39; exact calls_later (A1.out _)) | (go_at_call 40; exact calls_later (A2.out _)) | (go_at_call 41; exact calls_later (A3.out _)) | (go_at_call 42; exact calls_later (T1H.out _ (b1.trans ((later_below _ _).mono b1.size)))) | (go_at_call 43; exact calls_later (T2H.out _)) | (go_at_call 44; exact calls_later (HA.out _))))
    refine wpQuiet_nil ?_
    intro w2 hb2
    go_wp2_with fail
    go_ret
    exact ⟨rfl, b1.trans (hb2.mono b1.size)⟩
end Go.Proofs.YtippfkokgpdmdaaDoor

/-
  The law PlaceWords, walked.
-/
import Derived.Test.YtippfkokgpdmdaaDoorPlaceAwake
import Derived.Test.YtippfkokgpdmdaaDoorPlaceFacts
namespace Go.Proofs.YtippfkokgpdmdaaDoor
open Go Go.RowKit
set_option linter.unusedVariables false

@[go_sem] theorem match_undefW (h1 : Bool → Option Bool) (h2 : Option Value → Option Bool) : Go.yielded.match_1 (motive := fun _ => Option Bool) (some undef) h1 h2 = h2 (some undef) := rfl
theorem spotEq_self (a b c : Int) : spotEq a b c a b c = true := by simp [spotEq]
set_option maxHeartbeats 4000000 in
set_option maxRecDepth 100000 in
theorem placeWords_no (T S L G of lv : Int) (h : ¬ (PRight T S L G ∧ 1 ≤ of ∧ of ≤ S ∧ 0 ≤ lv ∧ lv < L)) (w : World) (ht : Tab w) :
    Calls Tryd.prog 8 #[planV T S L G, .int .i64 of, .int .i64 lv] w fun e w' => e = .returned (.bool true) ∧ Below w.heap.size w w' := by
  have D1 := Blk.new w [.int .i64 T, .int .i64 S, .int .i64 L, .int .u64 G] 34
  have C1 := D1.cell
  have b1 : Below w.heap.size w (w.alloc (.cells #[.int .i64 T, .int .i64 S, .int .i64 L, .int .u64 G] 34)) := (Below.refl _ _).alloc (Nat.le_refl _) _
  have HA : Hid (∀ W, Below w.heap.size w W → Calls Tryd.prog 31 #[] W fun e w' => e = .returned (.bool true) ∧ Below W.heap.size W w') := fun W hW => place_awake W (ht.below hW)
  have Q : Hid (∀ w, Calls Tryd.prog 25 #[.agg #[.int .i64 T, .int .i64 S, .int .i64 L, .int .u64 G], .int .i64 (-1)] w fun e w' => e = .returned (.agg #[.int .i64 0, .int .i64 0, .int .i64 0]) ∧ Below w.heap.size w w') := fun w => by
    have := what_calls T S L G (-1) w
    rw [show whatP T S L G (-1) = (0, 0, 0) by unfold whatP; rw [if_neg (by omega)]] at this
    exact this
  have se : spotEq 0 0 0 0 0 0 = true := rfl
  clear ht
  by_cases hp : PRight T S L G
  · have R := Lib.hid (right_yes _ _ _ _ hp)
    have h' : of < 1 ∨ (1 ≤ of ∧ S < of) ∨ (1 ≤ of ∧ of ≤ S ∧ lv < 0) ∨ (1 ≤ of ∧ of ≤ S ∧ 0 ≤ lv ∧ L ≤ lv) := by
      by_cases h1 : 1 ≤ of
      · by_cases h2 : of ≤ S
        · by_cases h3 : 0 ≤ lv
          · by_cases h4 : lv < L
            · exact absurd ⟨hp, h1, h2, h3, h4⟩ h
            · omega
          · omega
        · omega
      · omega
    clear h hp
    rcases h' with h | ⟨h1, h⟩ | ⟨h1, h2, h⟩ | ⟨h1, h2, h3, h⟩
    · have d1 : decide (of < 1) = true := decide_eq_true h
      clear h
      go_enter Tryd.func8, Tryd.ntmps8
      go_wp2_with fail
      refine (R.out _).mono ?_
      rintro e w1 ⟨rfl, hb1⟩
      have W1 := b1.trans (hb1.mono b1.size)
      have D2 := D1.below' hb1
      have C2 := D2.cell
      clear D1 C1 b1 hb1 R
      go_wp2_with fail
      refine (Q.out _).mono ?_
      rintro e w3 ⟨rfl, hb3⟩
      have W3 := W1.trans (hb3.mono W1.size)
      clear W1 hb3 D2 C2
      go_wp2_with fail
      refine (HA.out _ W3).mono ?_
      rintro e w4 ⟨rfl, hb4⟩
      go_wp2_with fail
      go_ret
      exact ⟨rfl, W3.trans (hb4.mono W3.size)⟩
    · have d1 : decide (of < 1) = false := decide_eq_false (by omega)
      have d2 : decide (S < of) = true := decide_eq_true h
      clear h h1
      go_enter Tryd.func8, Tryd.ntmps8
      go_wp2_with fail
      refine (R.out _).mono ?_
      rintro e w1 ⟨rfl, hb1⟩
      have W1 := b1.trans (hb1.mono b1.size)
      have D2 := D1.below' hb1
      have C2 := D2.cell
      clear D1 C1 b1 hb1 R
      go_wp2_with fail
      refine (Q.out _).mono ?_
      rintro e w3 ⟨rfl, hb3⟩
      have W3 := W1.trans (hb3.mono W1.size)
      clear W1 hb3 D2 C2
      go_wp2_with fail
      refine (HA.out _ W3).mono ?_
      rintro e w4 ⟨rfl, hb4⟩
      go_wp2_with fail
      go_ret
      exact ⟨rfl, W3.trans (hb4.mono W3.size)⟩
    · have d1 : decide (of < 1) = false := decide_eq_false (by omega)
      have d2 : decide (S < of) = false := decide_eq_false (by omega)
      have d3 : decide (lv < 0) = true := decide_eq_true h
      clear h h1 h2
      go_enter Tryd.func8, Tryd.ntmps8
      go_wp2_with fail
      refine (R.out _).mono ?_
      rintro e w1 ⟨rfl, hb1⟩
      have W1 := b1.trans (hb1.mono b1.size)
      have D2 := D1.below' hb1
      have C2 := D2.cell
      clear D1 C1 b1 hb1 R
      go_wp2_with fail
      refine (Q.out _).mono ?_
      rintro e w3 ⟨rfl, hb3⟩
      have W3 := W1.trans (hb3.mono W1.size)
      clear W1 hb3 D2 C2
      go_wp2_with fail
      refine (HA.out _ W3).mono ?_
      rintro e w4 ⟨rfl, hb4⟩
      go_wp2_with fail
      go_ret
      exact ⟨rfl, W3.trans (hb4.mono W3.size)⟩
    · have d1 : decide (of < 1) = false := decide_eq_false (by omega)
      have d2 : decide (S < of) = false := decide_eq_false (by omega)
      have d3 : decide (lv < 0) = false := decide_eq_false (by omega)
      have d4 : decide (L ≤ lv) = true := decide_eq_true h
      clear h h1 h2 h3
      go_enter Tryd.func8, Tryd.ntmps8
      go_wp2_with fail
      refine (R.out _).mono ?_
      rintro e w1 ⟨rfl, hb1⟩
      have W1 := b1.trans (hb1.mono b1.size)
      have D2 := D1.below' hb1
      have C2 := D2.cell
      clear D1 C1 b1 hb1 R
      go_wp2_with fail
      refine (Q.out _).mono ?_
      rintro e w3 ⟨rfl, hb3⟩
      have W3 := W1.trans (hb3.mono W1.size)
      clear W1 hb3 D2 C2
      go_wp2_with fail
      refine (HA.out _ W3).mono ?_
      rintro e w4 ⟨rfl, hb4⟩
      go_wp2_with fail
      go_ret
      exact ⟨rfl, W3.trans (hb4.mono W3.size)⟩
  · have R := Lib.hid (right_no _ _ _ _ hp)
    clear h hp
    go_enter Tryd.func8, Tryd.ntmps8
    go_wp2_with fail
    refine (R.out _).mono ?_
    rintro e w1 ⟨rfl, hb1⟩
    have W1 := b1.trans (hb1.mono b1.size)
    have D2 := D1.below' hb1
    have C2 := D2.cell
    clear D1 C1 b1 hb1 R
    go_wp2_with fail
    refine (Q.out _).mono ?_
    rintro e w3 ⟨rfl, hb3⟩
    have W3 := W1.trans (hb3.mono W1.size)
    clear W1 hb3 D2 C2
    go_wp2_with fail
    refine (HA.out _ W3).mono ?_
    rintro e w4 ⟨rfl, hb4⟩
    go_wp2_with fail
    go_ret
    exact ⟨rfl, W3.trans (hb4.mono W3.size)⟩
set_option maxHeartbeats 8000000 in
set_option maxRecDepth 100000 in
theorem placeWords_yes (T S L : Nat) (G of lv : Int) (hp : PRight T S L G) (hT : 1 ≤ T ∧ T ≤ 8) (hS : 1 ≤ S ∧ S ≤ 64) (hL : 1 ≤ L ∧ L ≤ 8) (h1 : 1 ≤ of) (h2 : of ≤ S) (h3 : 0 ≤ lv) (h4 : lv < L) (w : World) (ht : Tab w) :
    Calls Tryd.prog 8 #[planV T S L G, .int .i64 of, .int .i64 lv] w fun e w' => e = .returned (.bool true) ∧ Below w.heap.size w w' := by
  have D1 := Blk.new w [.int .i64 T, .int .i64 S, .int .i64 L, .int .u64 G] 34
  have C1 := D1.cell
  have b1 : Below w.heap.size w (w.alloc (.cells #[.int .i64 T, .int .i64 S, .int .i64 L, .int .u64 G] 34)) := (Below.refl _ _).alloc (Nat.le_refl _) _
  have HA : Hid (∀ W, Below w.heap.size w W → Calls Tryd.prog 31 #[] W fun e w' => e = .returned (.bool true) ∧ Below W.heap.size W w') := fun W hW => place_awake W (ht.below hW)
  have R := Lib.hid (right_yes _ _ _ _ hp)
  have d1 : decide (of < 1) = false := decide_eq_false (by omega)
  have d2 : decide ((S : Int) < of) = false := decide_eq_false (by omega)
  have d3 : decide (lv < 0) = false := decide_eq_false (by omega)
  have d4 : decide ((L : Int) ≤ lv) = false := decide_eq_false (by omega)
  have P1 := Lib.hid (state_calls T S L G of)
  have P2 := Lib.hid (hold_calls T S L G of)
  have P3 := Lib.hid (next_calls T S L G of lv)
  have P4 := Lib.hid (next_calls T S L G 0 lv)
  have P6 := Lib.hid (succ_calls T S L G of)
  have A1 := Lib.hid (fun w => what_calls T S L G (slotP T L of 0) w)
  have A2 := Lib.hid (fun w => what_calls T S L G (slotP T L of 4) w)
  have A3 := Lib.hid (fun w => what_calls T S L G (nextP T L of lv) w)
  have A4 := Lib.hid (fun w => what_calls T S L G (nextP T L 0 lv) w)
  have A6 := Lib.hid (fun w => where_calls T S L G 14 of 0 w)
  rw [fact_state hp hT hS hL h1 h2] at A1
  rw [fact_hold hp hT hS hL h1 h2] at A2
  rw [fact_next hp hT hS hL h1 h2 h3 h4] at A3
  rw [fact_head hp hT hS hL h3 h4] at A4
  rw [fact_succ hp hT hS hL h1 h2] at A6
  have em : wrap64 (of - 1) = of - 1 := by rw [wrap64_def]; omega
  have em2 : IntKind.i64.wrap (of - 1) = of - 1 := by rw [IntWalk.i64_left]; exact em
  have P5 := Lib.hid (sem_calls T S L G (of - 1))
  have A5 := Lib.hid (fun w => what_calls T S L G (wrap64 (4 + 2 * T + (of - 1))) w)
  have hA5 : of ≤ T → whatP T S L G (wrap64 (4 + 2 * T + (of - 1))) = (7, of - 1, 0) := fun h5 => fact_sem hp hT hS hL h1 h5
  generalize slotP T L of 0 = n1 at *
  generalize slotP T L of 4 = n2 at *
  generalize nextP T L of lv = n3 at *
  generalize nextP T L 0 lv = n4 at *
  generalize slotP T L of 5 = n6 at *
  generalize wrap64 (4 + 2 * (T : Int) + (of - 1)) = n5 at *
  have q1 := spotEq_self 9 of 0
  have q2 := spotEq_self 13 of 0
  have q3 := spotEq_self 15 of lv
  have q4 := spotEq_self 8 0 lv
  have q5 := spotEq_self 7 (of - 1) 0
  dsimp only [spotV] at A1 A2 A3 A4
  clear ht hp
  by_cases h5 : of ≤ T
  · have d5 : decide ((T : Int) < of) = false := decide_eq_false (by omega)
    rw [hA5 h5] at A5
    dsimp only [spotV] at A5
    clear hA5 hT hS hL h1 h2 h3 h4 h5
    go_enter Tryd.func8, Tryd.ntmps8
    go_wp2_with fail
    refine (R.out _).mono ?_
    rintro e w1 ⟨rfl, hb1⟩
    have W1 := b1.trans (hb1.mono b1.size)
    have D2 := D1.below' hb1
    have C2 := D2.cell
    clear D1 C1 b1 hb1 R
    go_upto_region 3 with fail
    refine wp_region_reads (by kernel_rfl) (by kernel_rfl) ?_
    repeat (with_reducible refine wpQuiet_step (fun K hK => ?_); go_simp; first | (refine hK _ ?_; clear hK K) | (apply Exists.intro; refine ⟨fun _ => ?_, hK _ ?_⟩; (first | (go_at_call 34; exact calls_later (P1.out _)) | (go_at_call 35; exact calls_later (P2.out _)) | (go_at_call 36; first | with_reducible exact calls_later (P3.out _) | with_reducible exact calls_later (P4.out _)) | (go_at_call 25; first | with_reducible exact calls_later (A1.out _) | with_reducible exact calls_later (A2.out _) | with_reducible exact calls_later (A3.out _) | with_reducible exact calls_later (A4.out _))); clear hK K))
    refine wpQuiet_nil ?_
    intro w3 hb3
    have W3 := W1.trans (hb3.mono W1.size)
    have D3 := D2.below' hb3
    have C3 := D3.cell
    clear D2 C2 W1 hb3
    go_upto_region 5 with fail
    refine wp_region_reads (by kernel_rfl) (by kernel_rfl) ?_
    repeat (with_reducible refine wpQuiet_step (fun K hK => ?_); go_simp; first | (refine hK _ ?_; clear hK K) | (apply Exists.intro; refine ⟨fun _ => ?_, hK _ ?_⟩; (first | (go_at_call 37; exact calls_later (P5.out _)) | (go_at_call 38; exact calls_later (P6.out _)) | (go_at_call 25; exact calls_later (A5.out _)) | (go_at_call 27; exact calls_later (A6.out _)) | (go_at_call 31; exact calls_later (HA.out _ (W3.trans ((later_below _ _).mono W3.size))))); clear hK K))
    refine wpQuiet_nil ?_
    intro w4 hb4
    go_wp2_with fail
    go_ret
    exact ⟨rfl, W3.trans (hb4.mono W3.size)⟩
  · have d5 : decide ((T : Int) < of) = true := decide_eq_true (by omega)
    clear hA5 A5 P5 hT hS hL h1 h2 h3 h4 h5
    go_enter Tryd.func8, Tryd.ntmps8
    go_wp2_with fail
    refine (R.out _).mono ?_
    rintro e w1 ⟨rfl, hb1⟩
    have W1 := b1.trans (hb1.mono b1.size)
    have D2 := D1.below' hb1
    have C2 := D2.cell
    clear D1 C1 b1 hb1 R
    go_upto_region 3 with fail
    refine wp_region_reads (by kernel_rfl) (by kernel_rfl) ?_
    repeat (with_reducible refine wpQuiet_step (fun K hK => ?_); go_simp; first | (refine hK _ ?_; clear hK K) | (apply Exists.intro; refine ⟨fun _ => ?_, hK _ ?_⟩; (first | (go_at_call 34; exact calls_later (P1.out _)) | (go_at_call 35; exact calls_later (P2.out _)) | (go_at_call 36; first | with_reducible exact calls_later (P3.out _) | with_reducible exact calls_later (P4.out _)) | (go_at_call 25; first | with_reducible exact calls_later (A1.out _) | with_reducible exact calls_later (A2.out _) | with_reducible exact calls_later (A3.out _) | with_reducible exact calls_later (A4.out _))); clear hK K))
    refine wpQuiet_nil ?_
    intro w3 hb3
    have W3 := W1.trans (hb3.mono W1.size)
    have D3 := D2.below' hb3
    have C3 := D3.cell
    clear D2 C2 W1 hb3
    go_upto_region 5 with fail
    refine wp_region_reads (by kernel_rfl) (by kernel_rfl) ?_
    repeat (with_reducible refine wpQuiet_step (fun K hK => ?_); go_simp; first | (refine hK _ ?_; clear hK K) | (apply Exists.intro; refine ⟨fun _ => ?_, hK _ ?_⟩; (first | (go_at_call 37; exact calls_later (P5.out _)) | (go_at_call 38; exact calls_later (P6.out _)) | (go_at_call 25; exact calls_later (A5.out _)) | (go_at_call 27; exact calls_later (A6.out _)) | (go_at_call 31; exact calls_later (HA.out _ (W3.trans ((later_below _ _).mono W3.size))))); clear hK K))
    refine wpQuiet_nil ?_
    intro w4 hb4
    go_wp2_with fail
    go_ret
    exact ⟨rfl, W3.trans (hb4.mono W3.size)⟩
theorem placeWords_walk (T S L G of lv : Int) (w : World) (ht : Tab w) : Calls Tryd.prog 8 #[planV T S L G, .int .i64 of, .int .i64 lv] w fun e w' => e = .returned (.bool true) ∧ Below w.heap.size w w' := by
  by_cases h : PRight T S L G ∧ 1 ≤ of ∧ of ≤ S ∧ 0 ≤ lv ∧ lv < L
  · obtain ⟨hp, h1, h2, h3, h4⟩ := h
    obtain ⟨t, s, l, rfl, rfl, rfl, hT, hS, hL⟩ := right_nat hp
    exact placeWords_yes t s l G of lv hp hT hS hL h1 h2 h3 h4 w ht
  · exact placeWords_no T S L G of lv h w ht
end Go.Proofs.YtippfkokgpdmdaaDoor

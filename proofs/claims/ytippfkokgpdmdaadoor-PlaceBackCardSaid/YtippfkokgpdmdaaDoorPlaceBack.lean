/-
  The law PlaceBack, walked.
-/
import Derived.Test.YtippfkokgpdmdaaDoorPlaceAwake
import Derived.Test.YtippfkokgpdmdaaDoorPlaceFacts
namespace Go.Proofs.YtippfkokgpdmdaaDoor
open Go Go.RowKit
set_option linter.unusedVariables false

@[go_sem] theorem match_undef (h1 : Bool → Option Bool) (h2 : Option Value → Option Bool) : Go.yielded.match_1 (motive := fun _ => Option Bool) (some undef) h1 h2 = h2 (some undef) := rfl
theorem spotEq_self' (a b c : Int) : spotEq a b c a b c = true := by simp [spotEq]
/-- What the law rests on at any input. -/
structure BackI (T S L G at_ x0 x1 x2 s0 s1 s2 k : Int) : Prop where
  what : ∀ w, Calls Tryd.prog 25 #[.agg #[.int .i64 T, .int .i64 S, .int .i64 L, .int .u64 G], .int .i64 at_] w fun e w' => e = .returned (.agg #[.int .i64 x0, .int .i64 x1, .int .i64 x2]) ∧ Below w.heap.size w w'
  wher : ∀ w, Calls Tryd.prog 27 #[.agg #[.int .i64 T, .int .i64 S, .int .i64 L, .int .u64 G], .agg #[.int .i64 s0, .int .i64 s1, .int .i64 s2]] w fun e w' => e = .returned (.int .i64 k) ∧ Below w.heap.size w w'
  back : k = -1 ∨ (0 ≤ k ∧ ∀ w, Calls Tryd.prog 25 #[.agg #[.int .i64 T, .int .i64 S, .int .i64 L, .int .u64 G], .int .i64 k] w fun e w' => e = .returned (.agg #[.int .i64 s0, .int .i64 s1, .int .i64 s2]) ∧ Below w.heap.size w w')
theorem back_facts (T S L G at_ s0 s1 s2 : Int) : BackI T S L G at_ (whatP T S L G at_).1 (whatP T S L G at_).2.1 (whatP T S L G at_).2.2 s0 s1 s2 (whereP T S L G (s0, s1, s2)) := by
  refine ⟨fun w => what_calls T S L G at_ w, fun w => where_calls T S L G s0 s1 s2 w, ?_⟩
  by_cases hp : PRight T S L G
  · obtain ⟨t, s, l, rfl, rfl, rfl, hT, hS, hL⟩ := right_nat hp
    rcases fact_back hp hT hS hL (s0, s1, s2) with h | ⟨n, h1, h2⟩
    · exact .inl h
    · refine .inr ⟨by rw [h1]; omega, fun w => ?_⟩
      have := what_calls t s l G n w
      rw [h2] at this
      rw [h1]
      exact this
  · exact .inl (where_wrong hp _)
section
variable (T S L G at_ x0 x1 x2 s0 s1 s2 k : Int) (H : BackI T S L G at_ x0 x1 x2 s0 s1 s2 k) (w : World) (ht : Tab w)
include H ht
set_option maxHeartbeats 8000000 in
set_option maxRecDepth 100000 in
theorem back_there (hp : PRight T S L G) (N : Int) (hN : ∀ w, Calls Tryd.prog 33 #[.agg #[.int .i64 T, .int .i64 S, .int .i64 L, .int .u64 G]] w fun e w' => e = .returned (.int .i64 N) ∧ Below w.heap.size w w')
    (h0 : 0 ≤ at_) (h1 : at_ < N) (hx : 1 ≤ x0) (hw : ∀ w, Calls Tryd.prog 27 #[.agg #[.int .i64 T, .int .i64 S, .int .i64 L, .int .u64 G], .agg #[.int .i64 x0, .int .i64 x1, .int .i64 x2]] w fun e w' => e = .returned (.int .i64 at_) ∧ Below w.heap.size w w') :
    Calls Tryd.prog 7 #[planV T S L G, .int .i64 at_, .agg #[.int .i64 s0, .int .i64 s1, .int .i64 s2]] w fun e w' => e = .returned (.bool true) ∧ Below w.heap.size w w' := by
  have DP := (Blk.new w [.int .i64 T, .int .i64 S, .int .i64 L, .int .u64 G] 34).alloc (.cells #[.int .i64 s0, .int .i64 s1, .int .i64 s2] 36)
  have DS := Blk.new2 w (.cells #[.int .i64 T, .int .i64 S, .int .i64 L, .int .u64 G] 34) [.int .i64 s0, .int .i64 s1, .int .i64 s2] 36
  have WW : Below w.heap.size w ((w.alloc (.cells #[.int .i64 T, .int .i64 S, .int .i64 L, .int .u64 G] 34)).alloc (.cells #[.int .i64 s0, .int .i64 s1, .int .i64 s2] 36)) := ((Below.refl _ _).alloc (Nat.le_refl _) _).alloc (by simp) _
  have CP := DP.cell
  have CS := DS.cell
  have HA : Hid (∀ W, Below w.heap.size w W → Calls Tryd.prog 31 #[] W fun e w' => e = .returned (.bool true) ∧ Below W.heap.size W w') := fun W hW => place_awake W (ht.below hW)
  have A1 := Lib.hid H.what
  have A3 := Lib.hid H.wher
  have AK := Lib.hid H.back
  have R := Lib.hid (right_yes _ _ _ _ hp)
  have AN := Lib.hid hN
  have AW := Lib.hid hw
  have d0 : decide (0 ≤ at_) = true := decide_eq_true h0
  have d1 : decide (at_ < N) = true := decide_eq_true h1
  have dx : (x0 == 0) = false := by simp; omega
  have dx2 : (x0 != 0) = true := by simp; omega
  have qs := spotEq_self' s0 s1 s2
  clear ht hp hN h0 h1 hx hw H
  go_enter Tryd.func7, Tryd.ntmps7
  go_wp2_with fail
  refine (A1.out _).mono ?_
  rintro e u ⟨rfl, hb⟩
  replace DP := (DP.below' hb).alloc (.cells #[.int .i64 x0, .int .i64 x1, .int .i64 x2] 36)
  replace DS := (DS.below' hb).alloc (.cells #[.int .i64 x0, .int .i64 x1, .int .i64 x2] 36)
  replace WW := (WW.trans (hb.mono WW.size)).alloc (WW.trans (hb.mono WW.size)).size (.cells #[.int .i64 x0, .int .i64 x1, .int .i64 x2] 36)
  have DX := Blk.new u [.int .i64 x0, .int .i64 x1, .int .i64 x2] 36
  clear CP CS hb A1
  have CP := DP.cell
  have CS := DS.cell
  have CX := DX.cell
  go_wp2_with fail
  refine (R.out _).mono ?_
  rintro e u ⟨rfl, hb⟩
  replace DP := DP.below' hb
  replace DS := DS.below' hb
  replace DX := DX.below' hb
  replace WW := WW.trans (hb.mono WW.size)
  clear hb CP CS CX
  have CP := DP.cell
  have CS := DS.cell
  have CX := DX.cell
  go_wp2_with fail
  refine (AN.out _).mono ?_
  rintro e u ⟨rfl, hb⟩
  replace DP := DP.below' hb
  replace DS := DS.below' hb
  replace DX := DX.below' hb
  replace WW := WW.trans (hb.mono WW.size)
  clear hb CP CS CX
  have CP := DP.cell
  have CS := DS.cell
  have CX := DX.cell
  go_wp2_with fail
  refine (AW.out _).mono ?_
  rintro e u ⟨rfl, hb⟩
  replace DP := DP.below' hb
  replace DS := DS.below' hb
  replace DX := DX.below' hb
  replace WW := WW.trans (hb.mono WW.size)
  clear hb CP CS CX
  have CP := DP.cell
  have CS := DS.cell
  have CX := DX.cell
  go_wp2_with fail
  rcases AK.out with hk | ⟨hk, A4⟩
  · subst hk
    clear AK
    refine (A3.out _).mono ?_
    rintro e u ⟨rfl, hb⟩
    replace DP := DP.below' hb
    replace DS := DS.below' hb
    replace WW := WW.trans (hb.mono WW.size)
    clear hb CP CS CX DX
    have CP := DP.cell
    have CS := DS.cell
    go_upto_region 6 with fail
    refine wp_region_reads (by kernel_rfl) (by kernel_rfl) ?_
    repeat (with_reducible refine wpQuiet_step (fun K hK => ?_); go_simp; first | (refine hK _ ?_; clear hK K) | (apply Exists.intro; refine ⟨fun _ => ?_, hK _ ?_⟩; (first | (go_at_call 25; exact calls_later (A4.out _)) | (go_at_call 31; exact calls_later (HA.out _ (WW.trans ((later_below _ _).mono WW.size))))); clear hK K))
    refine wpQuiet_nil ?_
    intro w6 hb6
    go_wp2_with fail
    go_ret
    exact ⟨rfl, WW.trans (hb6.mono WW.size)⟩
  · have k0 : (k == -1) = false := by simp; omega
    have k1 : decide (0 ≤ k) = true := decide_eq_true hk
    replace A4 := Lib.hid A4
    clear AK hk
    refine (A3.out _).mono ?_
    rintro e u ⟨rfl, hb⟩
    replace DP := DP.below' hb
    replace DS := DS.below' hb
    replace WW := WW.trans (hb.mono WW.size)
    clear hb CP CS CX DX
    have CP := DP.cell
    have CS := DS.cell
    go_upto_region 6 with fail
    refine wp_region_reads (by kernel_rfl) (by kernel_rfl) ?_
    repeat (with_reducible refine wpQuiet_step (fun K hK => ?_); go_simp; first | (refine hK _ ?_; clear hK K) | (apply Exists.intro; refine ⟨fun _ => ?_, hK _ ?_⟩; (first | (go_at_call 25; exact calls_later (A4.out _)) | (go_at_call 31; exact calls_later (HA.out _ (WW.trans ((later_below _ _).mono WW.size))))); clear hK K))
    refine wpQuiet_nil ?_
    intro w6 hb6
    go_wp2_with fail
    go_ret
    exact ⟨rfl, WW.trans (hb6.mono WW.size)⟩
end
section
variable (T S L G at_ s0 s1 s2 k : Int) (H : BackI T S L G at_ 0 0 0 s0 s1 s2 k) (w : World) (ht : Tab w)
include H ht
set_option maxHeartbeats 8000000 in
set_option maxRecDepth 100000 in
theorem back_low (hp : PRight T S L G) (h0 : at_ < 0) :
    Calls Tryd.prog 7 #[planV T S L G, .int .i64 at_, .agg #[.int .i64 s0, .int .i64 s1, .int .i64 s2]] w fun e w' => e = .returned (.bool true) ∧ Below w.heap.size w w' := by
  have DP := (Blk.new w [.int .i64 T, .int .i64 S, .int .i64 L, .int .u64 G] 34).alloc (.cells #[.int .i64 s0, .int .i64 s1, .int .i64 s2] 36)
  have DS := Blk.new2 w (.cells #[.int .i64 T, .int .i64 S, .int .i64 L, .int .u64 G] 34) [.int .i64 s0, .int .i64 s1, .int .i64 s2] 36
  have WW : Below w.heap.size w ((w.alloc (.cells #[.int .i64 T, .int .i64 S, .int .i64 L, .int .u64 G] 34)).alloc (.cells #[.int .i64 s0, .int .i64 s1, .int .i64 s2] 36)) := ((Below.refl _ _).alloc (Nat.le_refl _) _).alloc (by simp) _
  have CP := DP.cell
  have CS := DS.cell
  have HA : Hid (∀ W, Below w.heap.size w W → Calls Tryd.prog 31 #[] W fun e w' => e = .returned (.bool true) ∧ Below W.heap.size W w') := fun W hW => place_awake W (ht.below hW)
  have A1 := Lib.hid H.what
  have A3 := Lib.hid H.wher
  have AK := Lib.hid H.back
  have R := Lib.hid (right_yes _ _ _ _ hp)
  have d0 : decide (0 ≤ at_) = false := decide_eq_false (by omega)
  have q0 : spotEq 0 0 0 0 0 0 = true := rfl
  have qs := spotEq_self' s0 s1 s2
  clear ht hp h0 H
  go_enter Tryd.func7, Tryd.ntmps7
  go_wp2_with fail
  refine (A1.out _).mono ?_
  rintro e u ⟨rfl, hb⟩
  replace DP := (DP.below' hb).alloc (.cells #[.int .i64 0, .int .i64 0, .int .i64 0] 36)
  replace DS := (DS.below' hb).alloc (.cells #[.int .i64 0, .int .i64 0, .int .i64 0] 36)
  replace WW := (WW.trans (hb.mono WW.size)).alloc (WW.trans (hb.mono WW.size)).size (.cells #[.int .i64 0, .int .i64 0, .int .i64 0] 36)
  have DX := Blk.new u [.int .i64 0, .int .i64 0, .int .i64 0] 36
  clear CP CS hb A1
  have CP := DP.cell
  have CS := DS.cell
  have CX := DX.cell
  go_wp2_with fail
  refine (R.out _).mono ?_
  rintro e u ⟨rfl, hb⟩
  replace DP := DP.below' hb
  replace DS := DS.below' hb
  replace DX := DX.below' hb
  replace WW := WW.trans (hb.mono WW.size)
  clear hb CP CS CX
  have CP := DP.cell
  have CS := DS.cell
  have CX := DX.cell
  go_wp2_with fail
  rcases AK.out with hk | ⟨hk, A4⟩
  · subst hk
    clear AK
    refine (A3.out _).mono ?_
    rintro e u ⟨rfl, hb⟩
    replace DP := DP.below' hb
    replace DS := DS.below' hb
    replace WW := WW.trans (hb.mono WW.size)
    clear hb CP CS CX DX
    have CP := DP.cell
    have CS := DS.cell
    go_upto_region 6 with fail
    refine wp_region_reads (by kernel_rfl) (by kernel_rfl) ?_
    repeat (with_reducible refine wpQuiet_step (fun K hK => ?_); go_simp; first | (refine hK _ ?_; clear hK K) | (apply Exists.intro; refine ⟨fun _ => ?_, hK _ ?_⟩; (first | (go_at_call 25; exact calls_later (A4.out _)) | (go_at_call 31; exact calls_later (HA.out _ (WW.trans ((later_below _ _).mono WW.size))))); clear hK K))
    refine wpQuiet_nil ?_
    intro w6 hb6
    go_wp2_with fail
    go_ret
    exact ⟨rfl, WW.trans (hb6.mono WW.size)⟩
  · have k0 : (k == -1) = false := by simp; omega
    have k1 : decide (0 ≤ k) = true := decide_eq_true hk
    replace A4 := Lib.hid A4
    clear AK hk
    refine (A3.out _).mono ?_
    rintro e u ⟨rfl, hb⟩
    replace DP := DP.below' hb
    replace DS := DS.below' hb
    replace WW := WW.trans (hb.mono WW.size)
    clear hb CP CS CX DX
    have CP := DP.cell
    have CS := DS.cell
    go_upto_region 6 with fail
    refine wp_region_reads (by kernel_rfl) (by kernel_rfl) ?_
    repeat (with_reducible refine wpQuiet_step (fun K hK => ?_); go_simp; first | (refine hK _ ?_; clear hK K) | (apply Exists.intro; refine ⟨fun _ => ?_, hK _ ?_⟩; (first | (go_at_call 25; exact calls_later (A4.out _)) | (go_at_call 31; exact calls_later (HA.out _ (WW.trans ((later_below _ _).mono WW.size))))); clear hK K))
    refine wpQuiet_nil ?_
    intro w6 hb6
    go_wp2_with fail
    go_ret
    exact ⟨rfl, WW.trans (hb6.mono WW.size)⟩
set_option maxHeartbeats 8000000 in
set_option maxRecDepth 100000 in
theorem back_high (hp : PRight T S L G) (N : Int) (hN : ∀ w, Calls Tryd.prog 33 #[.agg #[.int .i64 T, .int .i64 S, .int .i64 L, .int .u64 G]] w fun e w' => e = .returned (.int .i64 N) ∧ Below w.heap.size w w') (h0 : 0 ≤ at_) (h1 : N ≤ at_) :
    Calls Tryd.prog 7 #[planV T S L G, .int .i64 at_, .agg #[.int .i64 s0, .int .i64 s1, .int .i64 s2]] w fun e w' => e = .returned (.bool true) ∧ Below w.heap.size w w' := by
  have DP := (Blk.new w [.int .i64 T, .int .i64 S, .int .i64 L, .int .u64 G] 34).alloc (.cells #[.int .i64 s0, .int .i64 s1, .int .i64 s2] 36)
  have DS := Blk.new2 w (.cells #[.int .i64 T, .int .i64 S, .int .i64 L, .int .u64 G] 34) [.int .i64 s0, .int .i64 s1, .int .i64 s2] 36
  have WW : Below w.heap.size w ((w.alloc (.cells #[.int .i64 T, .int .i64 S, .int .i64 L, .int .u64 G] 34)).alloc (.cells #[.int .i64 s0, .int .i64 s1, .int .i64 s2] 36)) := ((Below.refl _ _).alloc (Nat.le_refl _) _).alloc (by simp) _
  have CP := DP.cell
  have CS := DS.cell
  have HA : Hid (∀ W, Below w.heap.size w W → Calls Tryd.prog 31 #[] W fun e w' => e = .returned (.bool true) ∧ Below W.heap.size W w') := fun W hW => place_awake W (ht.below hW)
  have A1 := Lib.hid H.what
  have A3 := Lib.hid H.wher
  have AK := Lib.hid H.back
  have R := Lib.hid (right_yes _ _ _ _ hp)
  have AN := Lib.hid hN
  have d0 : decide (0 ≤ at_) = true := decide_eq_true h0
  have d1 : decide (at_ < N) = false := decide_eq_false (by omega)
  have q0 : spotEq 0 0 0 0 0 0 = true := rfl
  have qs := spotEq_self' s0 s1 s2
  clear ht hp hN h0 h1 H
  go_enter Tryd.func7, Tryd.ntmps7
  go_wp2_with fail
  refine (A1.out _).mono ?_
  rintro e u ⟨rfl, hb⟩
  replace DP := (DP.below' hb).alloc (.cells #[.int .i64 0, .int .i64 0, .int .i64 0] 36)
  replace DS := (DS.below' hb).alloc (.cells #[.int .i64 0, .int .i64 0, .int .i64 0] 36)
  replace WW := (WW.trans (hb.mono WW.size)).alloc (WW.trans (hb.mono WW.size)).size (.cells #[.int .i64 0, .int .i64 0, .int .i64 0] 36)
  have DX := Blk.new u [.int .i64 0, .int .i64 0, .int .i64 0] 36
  clear CP CS hb A1
  have CP := DP.cell
  have CS := DS.cell
  have CX := DX.cell
  go_wp2_with fail
  refine (R.out _).mono ?_
  rintro e u ⟨rfl, hb⟩
  replace DP := DP.below' hb
  replace DS := DS.below' hb
  replace DX := DX.below' hb
  replace WW := WW.trans (hb.mono WW.size)
  clear hb CP CS CX
  have CP := DP.cell
  have CS := DS.cell
  have CX := DX.cell
  go_wp2_with fail
  refine (AN.out _).mono ?_
  rintro e u ⟨rfl, hb⟩
  replace DP := DP.below' hb
  replace DS := DS.below' hb
  replace DX := DX.below' hb
  replace WW := WW.trans (hb.mono WW.size)
  clear hb CP CS CX
  have CP := DP.cell
  have CS := DS.cell
  have CX := DX.cell
  go_wp2_with fail
  rcases AK.out with hk | ⟨hk, A4⟩
  · subst hk
    clear AK
    refine (A3.out _).mono ?_
    rintro e u ⟨rfl, hb⟩
    replace DP := DP.below' hb
    replace DS := DS.below' hb
    replace WW := WW.trans (hb.mono WW.size)
    clear hb CP CS CX DX
    have CP := DP.cell
    have CS := DS.cell
    go_upto_region 6 with fail
    refine wp_region_reads (by kernel_rfl) (by kernel_rfl) ?_
    repeat (with_reducible refine wpQuiet_step (fun K hK => ?_); go_simp; first | (refine hK _ ?_; clear hK K) | (apply Exists.intro; refine ⟨fun _ => ?_, hK _ ?_⟩; (first | (go_at_call 25; exact calls_later (A4.out _)) | (go_at_call 31; exact calls_later (HA.out _ (WW.trans ((later_below _ _).mono WW.size))))); clear hK K))
    refine wpQuiet_nil ?_
    intro w6 hb6
    go_wp2_with fail
    go_ret
    exact ⟨rfl, WW.trans (hb6.mono WW.size)⟩
  · have k0 : (k == -1) = false := by simp; omega
    have k1 : decide (0 ≤ k) = true := decide_eq_true hk
    replace A4 := Lib.hid A4
    clear AK hk
    refine (A3.out _).mono ?_
    rintro e u ⟨rfl, hb⟩
    replace DP := DP.below' hb
    replace DS := DS.below' hb
    replace WW := WW.trans (hb.mono WW.size)
    clear hb CP CS CX DX
    have CP := DP.cell
    have CS := DS.cell
    go_upto_region 6 with fail
    refine wp_region_reads (by kernel_rfl) (by kernel_rfl) ?_
    repeat (with_reducible refine wpQuiet_step (fun K hK => ?_); go_simp; first | (refine hK _ ?_; clear hK K) | (apply Exists.intro; refine ⟨fun _ => ?_, hK _ ?_⟩; (first | (go_at_call 25; exact calls_later (A4.out _)) | (go_at_call 31; exact calls_later (HA.out _ (WW.trans ((later_below _ _).mono WW.size))))); clear hK K))
    refine wpQuiet_nil ?_
    intro w6 hb6
    go_wp2_with fail
    go_ret
    exact ⟨rfl, WW.trans (hb6.mono WW.size)⟩
set_option maxHeartbeats 8000000 in
set_option maxRecDepth 100000 in
theorem back_wrong (hp : ¬ PRight T S L G) :
    Calls Tryd.prog 7 #[planV T S L G, .int .i64 at_, .agg #[.int .i64 s0, .int .i64 s1, .int .i64 s2]] w fun e w' => e = .returned (.bool true) ∧ Below w.heap.size w w' := by
  have DP := (Blk.new w [.int .i64 T, .int .i64 S, .int .i64 L, .int .u64 G] 34).alloc (.cells #[.int .i64 s0, .int .i64 s1, .int .i64 s2] 36)
  have DS := Blk.new2 w (.cells #[.int .i64 T, .int .i64 S, .int .i64 L, .int .u64 G] 34) [.int .i64 s0, .int .i64 s1, .int .i64 s2] 36
  have WW : Below w.heap.size w ((w.alloc (.cells #[.int .i64 T, .int .i64 S, .int .i64 L, .int .u64 G] 34)).alloc (.cells #[.int .i64 s0, .int .i64 s1, .int .i64 s2] 36)) := ((Below.refl _ _).alloc (Nat.le_refl _) _).alloc (by simp) _
  have CP := DP.cell
  have CS := DS.cell
  have HA : Hid (∀ W, Below w.heap.size w W → Calls Tryd.prog 31 #[] W fun e w' => e = .returned (.bool true) ∧ Below W.heap.size W w') := fun W hW => place_awake W (ht.below hW)
  have A1 := Lib.hid H.what
  have A3 := Lib.hid H.wher
  have AK := Lib.hid H.back
  have R := Lib.hid (right_no _ _ _ _ hp)
  have q0 : spotEq 0 0 0 0 0 0 = true := rfl
  have qs := spotEq_self' s0 s1 s2
  clear ht hp H
  go_enter Tryd.func7, Tryd.ntmps7
  go_wp2_with fail
  refine (A1.out _).mono ?_
  rintro e u ⟨rfl, hb⟩
  replace DP := (DP.below' hb).alloc (.cells #[.int .i64 0, .int .i64 0, .int .i64 0] 36)
  replace DS := (DS.below' hb).alloc (.cells #[.int .i64 0, .int .i64 0, .int .i64 0] 36)
  replace WW := (WW.trans (hb.mono WW.size)).alloc (WW.trans (hb.mono WW.size)).size (.cells #[.int .i64 0, .int .i64 0, .int .i64 0] 36)
  have DX := Blk.new u [.int .i64 0, .int .i64 0, .int .i64 0] 36
  clear CP CS hb A1
  have CP := DP.cell
  have CS := DS.cell
  have CX := DX.cell
  go_wp2_with fail
  refine (R.out _).mono ?_
  rintro e u ⟨rfl, hb⟩
  replace DP := DP.below' hb
  replace DS := DS.below' hb
  replace DX := DX.below' hb
  replace WW := WW.trans (hb.mono WW.size)
  clear hb CP CS CX
  have CP := DP.cell
  have CS := DS.cell
  have CX := DX.cell
  go_wp2_with fail
  rcases AK.out with hk | ⟨hk, A4⟩
  · subst hk
    clear AK
    refine (A3.out _).mono ?_
    rintro e u ⟨rfl, hb⟩
    replace DP := DP.below' hb
    replace DS := DS.below' hb
    replace WW := WW.trans (hb.mono WW.size)
    clear hb CP CS CX DX
    have CP := DP.cell
    have CS := DS.cell
    go_upto_region 6 with fail
    refine wp_region_reads (by kernel_rfl) (by kernel_rfl) ?_
    repeat (with_reducible refine wpQuiet_step (fun K hK => ?_); go_simp; first | (refine hK _ ?_; clear hK K) | (apply Exists.intro; refine ⟨fun _ => ?_, hK _ ?_⟩; (first | (go_at_call 25; exact calls_later (A4.out _)) | (go_at_call 31; exact calls_later (HA.out _ (WW.trans ((later_below _ _).mono WW.size))))); clear hK K))
    refine wpQuiet_nil ?_
    intro w6 hb6
    go_wp2_with fail
    go_ret
    exact ⟨rfl, WW.trans (hb6.mono WW.size)⟩
  · have k0 : (k == -1) = false := by simp; omega
    have k1 : decide (0 ≤ k) = true := decide_eq_true hk
    replace A4 := Lib.hid A4
    clear AK hk
    refine (A3.out _).mono ?_
    rintro e u ⟨rfl, hb⟩
    replace DP := DP.below' hb
    replace DS := DS.below' hb
    replace WW := WW.trans (hb.mono WW.size)
    clear hb CP CS CX DX
    have CP := DP.cell
    have CS := DS.cell
    go_upto_region 6 with fail
    refine wp_region_reads (by kernel_rfl) (by kernel_rfl) ?_
    repeat (with_reducible refine wpQuiet_step (fun K hK => ?_); go_simp; first | (refine hK _ ?_; clear hK K) | (apply Exists.intro; refine ⟨fun _ => ?_, hK _ ?_⟩; (first | (go_at_call 25; exact calls_later (A4.out _)) | (go_at_call 31; exact calls_later (HA.out _ (WW.trans ((later_below _ _).mono WW.size))))); clear hK K))
    refine wpQuiet_nil ?_
    intro w6 hb6
    go_wp2_with fail
    go_ret
    exact ⟨rfl, WW.trans (hb6.mono WW.size)⟩
end
theorem placeBack_walk (T S L G at_ s0 s1 s2 : Int) (w : World) (ht : Tab w) : Calls Tryd.prog 7 #[planV T S L G, .int .i64 at_, .agg #[.int .i64 s0, .int .i64 s1, .int .i64 s2]] w fun e w' => e = .returned (.bool true) ∧ Below w.heap.size w w' := by
  have H := back_facts T S L G at_ s0 s1 s2
  by_cases hp : PRight T S L G
  · obtain ⟨t, s, l, rfl, rfl, rfl, hT, hS, hL⟩ := right_nat hp
    have hN := words_calls t s l G
    rw [words_eq hT.2 hS.2 hL.2] at hN
    by_cases h0 : 0 ≤ at_
    · by_cases h1 : at_ < lenP t s l
      · obtain ⟨f1, f2⟩ := fact_there hp hT hS hL h0 h1
        refine back_there _ _ _ _ _ _ _ _ _ _ _ _ H w ht hp _ hN h0 h1 f2 (fun w => ?_)
        have := where_calls t s l G (whatP t s l G at_).1 (whatP t s l G at_).2.1 (whatP t s l G at_).2.2 w
        rw [show ((whatP t s l G at_).1, (whatP t s l G at_).2.1, (whatP t s l G at_).2.2) = whatP t s l G at_ from rfl, f1] at this
        exact this
      · have e : whatP t s l G at_ = (0, 0, 0) := what_out (fun h => h1 h.2.2)
        rw [e] at H
        exact back_high _ _ _ _ _ _ _ _ _ H w ht hp _ hN h0 (by omega)
    · have e : whatP t s l G at_ = (0, 0, 0) := what_out (fun h => h0 h.2.1)
      rw [e] at H
      exact back_low _ _ _ _ _ _ _ _ _ H w ht hp (by omega)
  · rw [what_wrong hp] at H
    exact back_wrong _ _ _ _ _ _ _ _ _ H w ht hp
end Go.Proofs.YtippfkokgpdmdaaDoor

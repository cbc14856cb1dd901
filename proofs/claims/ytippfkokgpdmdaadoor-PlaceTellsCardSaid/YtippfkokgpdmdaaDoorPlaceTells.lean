/-
  The law PlaceTells, walked.
-/
import Derived.Test.YtippfkokgpdmdaaDoorPlaceAwake
import Derived.Test.YtippfkokgpdmdaaDoorSpotRef
namespace Go.Proofs.YtippfkokgpdmdaaDoor
open Go Go.RowKit
set_option linter.unusedVariables false

theorem spotEq_same (a b c : Int) : spotEq a b c a b c = true := by simp [spotEq]
set_option maxHeartbeats 4000000 in
set_option maxRecDepth 100000 in
theorem placeTells_walk (T S L G at_ sk so sl : Int) (ho0 : -9223372036854775808 ≤ so) (ho1 : so ≤ 9223372036854775807) (hl0 : -9223372036854775808 ≤ sl) (hl1 : sl ≤ 9223372036854775807) (w : World) (ht : Tab w) :
    Calls Tryd.prog 6 #[planV T S L G, .int .i64 at_, .agg #[.int .i64 sk, .int .i64 so, .int .i64 sl]] w fun e w' => e = .returned (.bool true) ∧ Below w.heap.size w w' := by
  have DP := (Blk.new w [.int .i64 T, .int .i64 S, .int .i64 L, .int .u64 G] 34).alloc (.cells #[.int .i64 sk, .int .i64 so, .int .i64 sl] 36)
  have DS := Blk.new2 w (.cells #[.int .i64 T, .int .i64 S, .int .i64 L, .int .u64 G] 34) [.int .i64 sk, .int .i64 so, .int .i64 sl] 36
  have WW : Below w.heap.size w ((w.alloc (.cells #[.int .i64 T, .int .i64 S, .int .i64 L, .int .u64 G] 34)).alloc (.cells #[.int .i64 sk, .int .i64 so, .int .i64 sl] 36)) := ((Below.refl _ _).alloc (Nat.le_refl _) _).alloc (by simp) _
  have CP := DP.cell
  have CS := DS.cell
  have HA : Hid (∀ W, Below w.heap.size w W → Calls Tryd.prog 31 #[] W fun e w' => e = .returned (.bool true) ∧ Below W.heap.size W w') := fun W hW => place_awake W (ht.below hW)
  have T1 : Hid (∀ W, Below w.heap.size w W → Calls Tryd.prog 29 #[.agg #[.int .i64 sk, .int .i64 so, .int .i64 sl]] W fun e w' => e = .returned (.string (textP sk (numS so) (numS sl))) ∧ Below W.heap.size W w') := fun W hW => ptext_calls sk so sl ho0 ho1 hl0 hl1 W (ht.below hW)
  have T2 : Hid (∀ W, Calls Tryd.prog 30 #[.agg #[.int .i64 sk, .int .i64 so, .int .i64 sl]] W fun e w' => e = .returned (.string (textP sk (numS so) (numS sl))) ∧ Below W.heap.size W w') := fun W => rptext_calls sk so sl ho0 ho1 hl0 hl1 W
  have A1 := Lib.hid (fun w => what_calls T S L G at_ w)
  have A2 := Lib.hid (fun w => rwhat_calls T S L G at_ w)
  have A3 := Lib.hid (fun w => where_calls T S L G sk so sl w)
  have A4 := Lib.hid (fun w => rwhere_calls T S L G sk so sl w)
  generalize textP sk (numS so) (numS sl) = tx at *
  generalize whatP T S L G at_ = x at *
  generalize whereP T S L G (sk, so, sl) = k at *
  obtain ⟨x0, x1, x2⟩ := x
  dsimp only [spotV] at A1 A2
  have q := spotEq_same x0 x1 x2
  clear ht ho0 ho1 hl0 hl1
  go_enter Tryd.func6, Tryd.ntmps6
  go_upto_region 1 with fail
  refine wp_region_reads (by kernel_rfl) (by kernel_rfl) ?_
  repeat (with_reducible refine wpQuiet_step (fun K hK => ?_); go_simp; first | (refine hK _ ?_; clear hK K) | (apply Exists.intro; refine ⟨fun _ => ?_, hK _ ?_⟩; (first | (go_at_call 25; exact calls_later (A1.out _)) | (go_at_call 26; exact calls_later (A2.out _)) | (go_at_call 27; exact calls_later (A3.out _)) | (go_at_call 28; exact calls_later (A4.out _)) | (go_at_call 29; exact calls_later (T1.out _ (WW.trans ((later_below _ _).mono WW.size)))) | (go_at_call 30; exact calls_later (T2.out _)) | (go_at_call 31; exact calls_later (HA.out _ (WW.trans ((later_below _ _).mono WW.size))))); clear hK K))
  refine wpQuiet_nil ?_
  intro w6 hb6
  go_wp2_with fail
  go_ret
  exact ⟨rfl, WW.trans (hb6.mono WW.size)⟩
end Go.Proofs.YtippfkokgpdmdaaDoor

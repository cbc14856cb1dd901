/-
  The law StateTells, walked.
-/
import Derived.Test.YtippfkokgpdmdaaDoorStateIs
import Derived.Test.YtippfkokgpdmdaaDoorStateText
namespace Go.Proofs.YtippfkokgpdmdaaDoor
open Go Go.RowKit
set_option linter.unusedVariables false

set_option maxHeartbeats 4000000 in
theorem stateTells_walk (x g s : Int) (h0 : 0 ≤ x) (h1 : x < 18446744073709551616) (hg : 0 ≤ g) (w : World) (ht : Tab w) :
    Calls Tryd.prog 3 #[.int .u64 x, .int .u64 g, .int .i64 s] w fun e w' => e = .returned (.bool true) ∧ Below w.heap.size w w' := by
  have A1 := Lib.hid (fun w => of_calls g s hg w)
  have A2 := Lib.hid (fun w => rof_calls g s hg w)
  have B1 := Lib.hid (fun w => gen_calls x w)
  have B2 := Lib.hid (fun w => rgen_calls x w h0 h1)
  have C1 := Lib.hid (fun w => status_calls x h0 h1 w)
  have C2 := Lib.hid (fun w => rstatus_calls x h0 h1 w)
  have D1 := Lib.hid (fun w => is_calls x g s hg w)
  have D2 := Lib.hid (fun w => ris_calls x g s h0 h1 hg w)
  have E1 := Lib.hid (fun w => next_calls x h0 h1 w)
  have E2 := Lib.hid (fun w => rnext_calls x h0 h1 w)
  have F1 := Lib.hid (text_calls x h0 h1 w ht)
  have F2 := Lib.hid (fun w => rtext_calls x h0 h1 w)
  have HA := Lib.hid (fun w => state_awake w)
  generalize pairP g s = a at *
  generalize x / 4294967296 = b at *
  generalize x % 4294967296 = c at *
  generalize isP x g s = d at *
  generalize nextP x = f at *
  generalize textS x = t at *
  clear h0 h1 hg ht
  go_enter Tryd.func3, Tryd.ntmps3
  go_wp2_with fail
  refine (A1.out _).mono ?_
  rintro e w1 ⟨rfl, rfl⟩
  go_wp2_with fail
  refine (A2.out _).mono ?_
  rintro e w1 ⟨rfl, rfl⟩
  go_wp2_with fail
  refine (B1.out _).mono ?_
  rintro e w1 ⟨rfl, rfl⟩
  go_wp2_with fail
  refine (B2.out _).mono ?_
  rintro e w1 ⟨rfl, rfl⟩
  go_wp2_with fail
  refine (C1.out _).mono ?_
  rintro e w1 ⟨rfl, rfl⟩
  go_wp2_with fail
  refine (C2.out _).mono ?_
  rintro e w1 ⟨rfl, rfl⟩
  go_wp2_with fail
  refine (D1.out _).mono ?_
  rintro e w1 ⟨rfl, rfl⟩
  go_wp2_with fail
  refine (D2.out _).mono ?_
  rintro e w1 ⟨rfl, rfl⟩
  go_wp2_with fail
  refine (E1.out _).mono ?_
  rintro e w1 ⟨rfl, rfl⟩
  go_wp2_with fail
  refine (E2.out _).mono ?_
  rintro e w1 ⟨rfl, rfl⟩
  go_wp2_with fail
  refine F1.out.mono ?_
  rintro e w1 ⟨rfl, hb1⟩
  go_wp2_with fail
  refine (F2.out _).mono ?_
  rintro e w2 ⟨rfl, hb2⟩
  go_wp2_with fail
  refine (HA.out _).mono ?_
  rintro e w3 ⟨rfl, hb3⟩
  go_wp2_with fail
  go_ret
  have b2 := hb1.trans (hb2.mono hb1.size)
  exact ⟨rfl, b2.trans (hb3.mono b2.size)⟩
end Go.Proofs.YtippfkokgpdmdaaDoor

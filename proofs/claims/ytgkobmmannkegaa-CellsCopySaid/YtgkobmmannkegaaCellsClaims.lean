/-
  The laws of the memory's words, walked.
-/
import Derived.Test.YtgkobmmannkegaaCellsDo
namespace Go.Proofs.Ytgkobmmannkegaa
open Go Go.RowKit
set_option linter.unusedVariables false

theorem wset_wset (ws : List Int) (at_ x y : Int) : wset (wset ws at_ x) at_ y = wset ws at_ y := by
  by_cases h : 0 ≤ at_ ∧ at_ < ws.length
  · simp [wset, h]
  · rw [wset_out _ h, wset_out _ h]
theorem cellsCopy_long (a : Option Addr) (n c : Nat) (at_ x : Int) (w : World) (hn : 300 < n) : Calls Try.prog 14 #[.slice a n c, .int .i64 at_, .int .u64 x] w fun e w' => e = .returned (.bool true) ∧ Below w.heap.size w w' := by
  go_enter Try.func14, Try.ntmps14
  go_wp2_with fail
  refine (cells_awake _).mono ?_
  rintro e w1 ⟨rfl, hb⟩
  go_wp2_with fail
  go_ret
  exact ⟨rfl, hb⟩
set_option maxHeartbeats 4000000 in
set_option maxRecDepth 100000 in
theorem cellsCopy_walk (v : Value) (ws : List Int) (at_ x : Int) (w : World) (hU : U64s w w.heap.size v ws) (hn : ws.length ≤ 300) (x0 : 0 ≤ x) (x1 : x < 18446744073709551616) :
    Calls Try.prog 14 #[v, .int .i64 at_, .int .u64 x] w fun e w' => e = .returned (.bool true) ∧ Below w.heap.size w w' := by
  have hx := hU
  obtain ⟨av, c, rfl, _⟩ := hx.ex
  have U0 := Lib.hid hU
  clear hU hx
  go_enter Try.func14, Try.ntmps14
  go_wp2_with fail
  refine (cells_of _ _ _ _ U0.out (by omega)).mono ?_
  rintro e w1 ⟨b, g, rfl, hC, hb, hg, hb1⟩
  have C1 := Lib.hid hC
  have W1 := hb1
  clear hC hb1
  go_wp2_with fail
  refine (cells_copy _ _ _ _ C1.out).mono ?_
  rintro e w2 ⟨b', g', rfl, hD, hb', hg', hb2⟩
  have C2 := Lib.hid (C1.out.below hb2)
  have D2 := Lib.hid hD
  have W2 := W1.trans (hb2.mono W1.size)
  have l1 := C1.out.lt
  have l2 := D2.out.lt
  clear hD hb2 W1
  go_wp2_with fail
  refine (cells_words _ _ _ _ C2.out).mono ?_
  rintro e w3 ⟨va, vc, g3, rfl, hR, hg3, hl3, hb3⟩
  have U3 := Lib.hid (hR.reads (hi := w3.heap.size) (fun h => hl3 h))
  have C3 := Lib.hid (C2.out.below hb3)
  have D3 := Lib.hid (D2.out.below hb3)
  have W3 := W2.trans (hb3.mono W2.size)
  clear hR hb3 W2 hl3 hg3
  go_wp2_with fail
  refine (cells_words _ _ _ _ D3.out).mono ?_
  rintro e w4 ⟨va4, vc4, g4, rfl, hR, hg4, hl4, hb4⟩
  have U4 := Lib.hid (hR.reads (hi := w4.heap.size) (fun h => hl4 h))
  have U3' := Lib.hid ((U3.out.below hb4).mono hb4.size)
  have C4 := Lib.hid (C3.out.below hb4)
  have D4 := Lib.hid (D3.out.below hb4)
  have W4 := W3.trans (hb4.mono W3.size)
  clear hR hb4 W3 hl4 hg4 U3
  go_wp2_with fail
  refine (same64_true _ _ _ _ _ ws U3'.out U4.out (by omega)).mono ?_
  rintro e w5 ⟨rfl, hb5⟩
  have C5 := Lib.hid (C4.out.below hb5)
  have D5 := Lib.hid (D4.out.below hb5)
  have W5 := W4.trans (hb5.mono W4.size)
  clear hb5 W4 U3' U4
  go_wp2_with fail
  refine (cells_words _ _ _ _ C5.out).mono ?_
  rintro e w6 ⟨va6, vc6, g6, rfl, hR, hg6, hl6, hb6⟩
  have U6 := Lib.hid (hR.reads (hi := w6.heap.size) (fun h => hl6 h))
  have R6 := Lib.hid hR
  have HL6 := Lib.hid hl6
  have C6 := Lib.hid (C5.out.below hb6)
  have D6 := Lib.hid (D5.out.below hb6)
  have W6 := W5.trans (hb6.mono W5.size)
  have z6 := hb6.size
  have l5 := C5.out.lt
  clear hR hb6 W5 hl6
  go_wp2_with fail
  refine (cells_load _ _ _ _ C6.out _).mono ?_
  rintro e w7 ⟨rfl, rfl⟩
  go_wp2_with fail
  refine (cells_store _ _ _ _ C6.out _ _).mono ?_
  rintro e w7 ⟨rfl, hC, hM⟩
  have C7 := Lib.hid hC
  have D7 := Lib.hid (D6.out.mod hM (by omega) (by omega))
  have R7 := Lib.hid (R6.out.mod hM (by omega))
  have W7 := below_mod W6 hM W6.size (fun k hk e => by omega)
  have z7 := hM.size
  clear hC hM W6 U6 D6
  go_wp2_with fail
  refine (cells_load _ _ _ _ D7.out _).mono ?_
  rintro e w8 ⟨rfl, rfl⟩
  go_wp2_with fail
  refine (cells_words _ _ _ _ D7.out).mono ?_
  rintro e w8 ⟨va8, vc8, g8, rfl, hR, hg8, hl8, hb8⟩
  have U8 := Lib.hid (hR.reads (hi := w8.heap.size) (fun h => hl8 h))
  have T8 := Lib.hid ((R7.out.below hb8).reads (hi := w8.heap.size) (fun h => by have := HL6.out h; have := hb8.size; omega))
  have C8 := Lib.hid (C7.out.below hb8)
  have R8 := Lib.hid (R7.out.below hb8)
  have W8 := W7.trans (hb8.mono W7.size)
  have z8 := hb8.size
  clear hR hb8 W7 hl8 hg8 R7
  go_wp2_with fail
  refine (same64_true _ _ _ _ _ ws T8.out U8.out (by omega)).mono ?_
  rintro e w9 ⟨rfl, hb9⟩
  have C9 := Lib.hid (C8.out.below hb9)
  have T9 := Lib.hid ((T8.out.below hb9).mono hb9.size)
  have W9 := W8.trans (hb9.mono W8.size)
  have U9 := Lib.hid (U0.out.mod (Mod.of_below (S := fun _ => False) ⟨W9.os, W9.tape, W9.output, W9.size, W9.block⟩) (fun _ _ => id))
  clear hb9 W8 U8 T8 C8 R8
  go_wp2_with fail
  refine (same64_true _ _ _ _ _ ws U9.out T9.out (by omega)).mono ?_
  rintro e w10 ⟨rfl, hb10⟩
  have C10 := Lib.hid (C9.out.below hb10)
  have W10 := W9.trans (hb10.mono W9.size)
  clear hb10 W9 U9 T9 C9
  by_cases hat : 0 ≤ at_ ∧ at_ < ws.length
  · have h1 : decide (0 ≤ at_) = true := by simpa using hat.1
    have h2 : decide (at_ < ((ws.length : Nat) : Int)) = true := by simpa using hat.2
    have eg : wget (wset ws at_ x) at_ = x := wget_wset_same x hat
    have es : swp x (IntKind.u64.wrap (x + 1)) 0 = x := by unfold swp; rw [wrapu, if_neg (by omega)]
    have es2 : swp x x (wget ws at_) = wget ws at_ := by unfold swp; rw [if_pos rfl]
    have ew : wset (wset ws at_ x) at_ x = wset ws at_ x := wset_wset _ _ _ _
    have ew2 : wset (wset ws at_ x) at_ (wget ws at_) = ws := by rw [wset_wset, wset_self]
    have EG := Lib.hid eg
    have ES := Lib.hid es
    have ES2 := Lib.hid es2
    have EW := Lib.hid ew
    have EW2 := Lib.hid ew2
    clear eg es es2 ew ew2 hat
    go_wp2_with fail
    refine (cells_load _ _ _ _ C10.out _).mono ?_
    rw [EG.out]
    rintro e w11 ⟨rfl, rfl⟩
    go_wp2_with fail
    refine (cells_swap _ _ _ _ C10.out _ _ _).mono ?_
    unfold Turned
    rw [EG.out, ES.out, EW.out]
    rintro e w11 ⟨rfl, hC, hM⟩
    have C11 := Lib.hid hC
    have W11 := below_mod W10 hM W10.size (fun k hk e => by omega)
    clear hC hM C10 W10
    go_wp2_with fail
    refine (cells_swap _ _ _ _ C11.out _ _ _).mono ?_
    unfold Turned
    rw [EG.out, ES2.out, EW2.out]
    rintro e w12 ⟨rfl, hC, hM⟩
    have C12 := Lib.hid hC
    have W12 := below_mod W11 hM W11.size (fun k hk e => by omega)
    clear hC hM C11 W11
    go_wp2_with fail
    refine (cells_words _ _ _ _ C12.out).mono ?_
    rintro e w13 ⟨va9, vc9, g9, rfl, hR, hg9, hl9, hb13⟩
    have U13 := Lib.hid (hR.reads (hi := w13.heap.size) (fun h => hl9 h))
    have W13 := W12.trans (hb13.mono W12.size)
    have V13 := Lib.hid (U0.out.mod (Mod.of_below (S := fun _ => False) ⟨W13.os, W13.tape, W13.output, W13.size, W13.block⟩) (fun _ _ => id))
    clear hR hb13 W12 hl9 hg9
    go_wp2_with fail
    refine (same64_true _ _ _ _ _ ws U13.out V13.out (by omega)).mono ?_
    rintro e w14 ⟨rfl, hb14⟩
    have W14 := W13.trans (hb14.mono W13.size)
    go_wp2_with fail
    refine (cells_awake _).mono ?_
    rintro e w15 ⟨rfl, hb15⟩
    go_wp2_with fail
    go_ret
    exact ⟨rfl, W14.trans (hb15.mono W14.size)⟩
  · have ew : wset ws at_ x = ws := wset_out x hat
    rw [ew] at C10
    have hd : Hid (¬ (0 ≤ at_ ∧ at_ < ws.length)) := hat
    by_cases h0 : 0 ≤ at_
    · have h2 : decide (at_ < ((ws.length : Nat) : Int)) = false := by simp; omega
      clear hat ew
      go_wp2_with fail
      refine (cells_words _ _ _ _ C10.out).mono ?_
      rintro e w13 ⟨va9, vc9, g9, rfl, hR, hg9, hl9, hb13⟩
      have U13 := Lib.hid (hR.reads (hi := w13.heap.size) (fun h => hl9 h))
      have W13 := W10.trans (hb13.mono W10.size)
      have V13 := Lib.hid (U0.out.mod (Mod.of_below (S := fun _ => False) ⟨W13.os, W13.tape, W13.output, W13.size, W13.block⟩) (fun _ _ => id))
      clear hR hb13 W10 hl9 hg9
      go_wp2_with fail
      refine (same64_true _ _ _ _ _ ws U13.out V13.out (by omega)).mono ?_
      rintro e w14 ⟨rfl, hb14⟩
      have W14 := W13.trans (hb14.mono W13.size)
      go_wp2_with fail
      refine (cells_awake _).mono ?_
      rintro e w15 ⟨rfl, hb15⟩
      go_wp2_with fail
      go_ret
      exact ⟨rfl, W14.trans (hb15.mono W14.size)⟩
    · clear hat ew
      go_wp2_with fail
      refine (cells_words _ _ _ _ C10.out).mono ?_
      rintro e w13 ⟨va9, vc9, g9, rfl, hR, hg9, hl9, hb13⟩
      have U13 := Lib.hid (hR.reads (hi := w13.heap.size) (fun h => hl9 h))
      have W13 := W10.trans (hb13.mono W10.size)
      have V13 := Lib.hid (U0.out.mod (Mod.of_below (S := fun _ => False) ⟨W13.os, W13.tape, W13.output, W13.size, W13.block⟩) (fun _ _ => id))
      clear hR hb13 W10 hl9 hg9
      go_wp2_with fail
      refine (same64_true _ _ _ _ _ ws U13.out V13.out (by omega)).mono ?_
      rintro e w14 ⟨rfl, hb14⟩
      have W14 := W13.trans (hb14.mono W13.size)
      go_wp2_with fail
      refine (cells_awake _).mono ?_
      rintro e w15 ⟨rfl, hb15⟩
      go_wp2_with fail
      go_ret
      exact ⟨rfl, W14.trans (hb15.mono W14.size)⟩
end Go.Proofs.Ytgkobmmannkegaa

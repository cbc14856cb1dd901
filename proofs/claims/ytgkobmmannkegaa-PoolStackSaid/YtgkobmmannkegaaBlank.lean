/-
  The memory at the beginning (chapter 10): blank.Make.
-/
import Derived.Test.YtgkobmmannkegaaBlankPlain
import Derived.Test.YtgkobmmannkegaaApartWalk
namespace Go.Proofs.Ytgkobmmannkegaa
open Go Go.RowKit
set_option linter.unusedVariables false

theorem make_no (T S L G : Int) (h : ¬ PRight T S L G) (w : World) : Calls Try.prog 122 #[planV T S L G] w fun e w' => e = .returned (.tuple #[.pointer none, .int .i64 1]) ∧ Below w.heap.size w w' := by
  have H := Lib.hid h
  clear h
  go_enter Try.func122, Try.ntmps122
  go_wp2_with fail
  refine (right_no T S L G H.out _).mono ?_
  rintro e w1 ⟨rfl, hb⟩
  go_wp2_with fail
  go_ret2
  exact ⟨rfl, Below.step _ hb⟩
/-- What a slot's Succ becomes. -/
def belowP (S k : Nat) : Int := if k < S then ((k + 1 : Nat) : Int) else 0
theorem belowP_bd (S k : Nat) (h : S ≤ 64) : 0 ≤ belowP S k ∧ belowP S k ≤ 64 := by unfold belowP; split <;> omega
theorem pWord_lt (T S L i k : Nat) (hi : 0 < i) (his : i ≤ S) (hk : k < 6 + L) : pWord T L i k < pCount T S L := by
  have h := Nat.mul_le_mul_right (6 + L) (show i - 1 + 1 ≤ S by omega)
  rw [Nat.succ_mul] at h
  unfold pWord pCount
  omega
section
variable (T S L : Nat) (G : Int) (hT : T ≤ 8) (hS : S ≤ 64) (hL : L ≤ 8)
include hT hS hL
set_option maxHeartbeats 2000000 in
set_option maxRecDepth 100000 in
theorem make_calls (h : PRight T S L G) (hG : 0 ≤ G) (w : World) : Calls Try.prog 122 #[planV T S L G] w (NewCells w (blankW T S L G) fun b => .tuple #[.pointer (some ⟨b, 0, none⟩), .int .i64 0]) := by
  have hG2 : G ≤ 4294967295 := h.2.2.2
  have hS1 : 1 ≤ S := by have := h.2.1; omega
  have hT1 : 1 ≤ T := by have := h.1; omega
  have HP := Lib.hid h
  have hwd := words_calls T S L G
  rw [words_eq T S L hT hS hL] at hwd
  have HW := Lib.hid hwd
  have hN := pCount_le T S L hT hS hL
  have hN4 : 5 ≤ pCount T S L := by unfold pCount; omega
  have HSl := Lib.hid (fun i k hi h0 hk => slotP_eq T S L hT hS hL i k hi h0 hk)
  have HLt := Lib.hid (fun i k hi his hk => pWord_lt T S L i k hi his hk)
  have P0 := Blk.new w [.int .i64 T, .int .i64 S, .int .i64 L, .int .u64 G] 24
  clear h hwd
  go_enter Try.func122, Try.ntmps122
  go_wp2_with fail
  refine (right_yes T S L G HP.out _).mono ?_
  rintro e w1 ⟨rfl, hb1⟩
  have P1 := P0.below' hb1
  have C1 := P1.cell
  have W1 := Below.step _ hb1
  clear P0 hb1
  go_wp2_with fail
  refine (HW.out _).mono ?_
  rintro e w2 ⟨rfl, hb2⟩
  have P2 := P1.below' hb2
  have W2 := W1.trans (hb2.mono W1.size)
  clear P1 C1 hb2 W1
  go_wp2_with fail
  refine (cells_new (pCount T S L) (by omega) _).mono ?_
  rintro e w3 ⟨b, g, rfl, hC, hb, hg, hb3⟩
  have P3 := P2.below' hb3
  have W3 := W2.trans (hb3.mono W2.size)
  have z2 := W2.size
  have l2 := P2.lt
  rw [vals_zero] at hC
  have C3 := Lib.hid hC
  clear P2 hb3 W2 hC
  go_wp2_with fail
  refine (cells_store _ _ _ _ C3.out _ _).mono ?_
  unfold Turned
  rw [show wset (vals (pCount T S L) (fun _ => 0)) 0 1 = vals (pCount T S L) (blankF T S L G (fun j => decide (S < j ∧ j ≤ S)) false) by
    have e := vals_wset (pCount T S L) (fun _ => 0) 0 (by omega) 1
    rw [show ((0 : Nat) : Int) = 0 from rfl] at e
    rw [e]
    refine vals_ext (fun p _ => ?_)
    rw [blankF_none T S L G p]
    congr 1
    funext j
    rw [eq_comm, decide_eq_false_iff_not]
    omega]
  rintro e w4 ⟨rfl, hC, hM⟩
  have P4 := hM.blk P3 (by omega)
  have C4 := P4.cell
  have D4 := Lib.hid hC
  have W4 := below_mod W3 hM W3.size (fun q hq e => by omega)
  have eb : Hid (belowP S S = 0) := by show _ = _; simp [belowP]
  clear hC hM P3 W3 C3
  go_wp2_with fail
  go_loopw [7, 8] (fun bv i wr => ∃ (k : Nat), i = .int .i64 k ∧ k ≤ S ∧ bv = .int .i64 (belowP S k) ∧ Hid (CellsAt wr b g (vals (pCount T S L) (blankF T S L G (fun j => decide (k < j ∧ j ≤ S)) false))) ∧
    Blk wr w.heap.size [.int .i64 T, .int .i64 S, .int .i64 L, .int .u64 G] 24 ∧ Below w.heap.size w wr) (fun _ i _ => (intOf i).toNat)
  case atStart => exact ⟨S, rfl, Nat.le_refl _, by rw [eb.out], D4, P4, W4⟩
  case round =>
    obtain ⟨k, rfl, hk, rfl, hC, hP, hW⟩ := hrel
    clear D4 P4 C4 W4
    have CP := hP.cell
    have hbd := belowP_bd S k hS
    by_cases hk0 : 0 < k
    · have q1 := Lib.hid (state_calls T S L G (k : Int))
      rw [show slotP (T : Int) L k 0 = ((pWord T L k 0 : Nat) : Int) from HSl.out k 0 hk hk0 (by omega)] at q1
      have q2 := Lib.hid (succ_calls T S L G (k : Int))
      rw [show slotP (T : Int) L k 5 = ((pWord T L k 5 : Nat) : Int) from HSl.out k 5 hk hk0 (by omega)] at q2
      have t0 := HLt.out k 0 hk0 hk (by omega)
      have t5 := HLt.out k 5 hk0 hk (by omega)
      have HE : Hid (vals (pCount T S L) (upd (upd (blankF T S L G (fun j => decide (k < j ∧ j ≤ S)) false) (pWord T L k 0) (pairP G 0)) (pWord T L k 5) (belowP S k)) = vals (pCount T S L) (blankF T S L G (fun j => decide (k - 1 < j ∧ j ≤ S)) false)) := by
        refine vals_ext (fun p _ => ?_)
        have := blankF_step T S L G (fun j => decide (k < j ∧ j ≤ S)) false k hk0 (by simp) p
        rw [show (if k < S then ((k + 1 : Nat) : Int) else 0) = belowP S k from rfl] at this
        rw [this]
        congr 1
        funext j
        rw [Bool.eq_iff_iff]
        simp only [Bool.or_eq_true, decide_eq_true_eq, beq_iff_eq]
        omega
      have E1 := Lib.hid (vals_wset (pCount T S L) (blankF T S L G (fun j => decide (k < j ∧ j ≤ S)) false) (pWord T L k 0) t0 (pairP G 0))
      have E2 := Lib.hid (vals_wset (pCount T S L) (upd (blankF T S L G (fun j => decide (k < j ∧ j ≤ S)) false) (pWord T L k 0) (pairP G 0)) (pWord T L k 5) t5 (belowP S k))
      have EB : Hid (belowP S (k - 1) = k) := by show _ = _; unfold belowP; rw [if_pos (by omega)]; omega
      have so := Lib.hid (fun W => stateOf_calls G 0 hG (by omega) (by omega) W)
      generalize belowP S k = bl at *
      go_wp2_with fail
      refine wp_region_tail 7 (by kernel_rfl) (by kernel_rfl) ?_
      simp only [List.take_succ_cons, List.take_zero, List.drop_succ_cons, List.drop_zero]
      repeat (quiet_step ((first | (go_at_call 50; exact calls_later (q1.out _)) | (go_at_call 174; exact calls_later ((so.out _).mono fun e w' ⟨he, hw⟩ => ⟨he, hw ▸ Below.refl _ _⟩)))))
      refine wpQuiet_nil ?_
      intro w5 hb5
      have D5 := Lib.hid (hC.out.below hb5)
      have P5 := hP.below' hb5
      have W5 := hW.trans (hb5.mono hW.size)
      clear hC hP hW hb5 CP
      go_wp2_with fail
      refine (cells_store _ _ _ _ D5.out _ _).mono ?_
      unfold Turned
      rw [E1.out]
      rintro e w6 ⟨rfl, hC6, hM6⟩
      have D6 := Lib.hid hC6
      have P6 := hM6.blk P5 (by omega)
      have C6 := P6.cell
      have W6 := below_mod W5 hM6 W5.size (fun q hq e => by omega)
      clear hC6 hM6 D5 P5 W5
      go_wp2_with fail
      refine (q2.out _).mono ?_
      rintro e w7 ⟨rfl, hb7⟩
      have D7 := Lib.hid (D6.out.below hb7)
      have P7 := P6.below' hb7
      have W7 := W6.trans (hb7.mono W6.size)
      clear D6 P6 W6 C6 hb7
      go_wp2_with fail
      refine (cells_store _ _ _ _ D7.out _ _).mono ?_
      unfold Turned
      rw [E2.out, HE.out]
      rintro e w8 ⟨rfl, hC8, hM8⟩
      have D8 := Lib.hid hC8
      have P8 := hM8.blk P7 (by omega)
      have W8 := below_mod W7 hM8 W7.size (fun q hq e => by omega)
      clear hC8 hM8 D7 P7 W7
      go_wp2_with fail
      go_roundw
      case rel => exact ⟨k - 1, by (first | go_num | (rw [show ((k - 1 : Nat) : Int) = (k : Int) - 1 by omega])), by omega, by rw [EB.out], D8, P8, W8⟩
      case measure => simp [intOf]; omega
    · obtain rfl : k = 0 := by omega
      have e1 : belowP S 0 = 1 := by unfold belowP; rw [if_pos (by omega)]; rfl
      rw [e1]
      have E3 : Hid (wset (vals (pCount T S L) (blankF T S L G (fun j => decide (0 < j ∧ j ≤ S)) false)) 3 (pairP 0 1) = blankW T S L G) := by
        show _ = _
        have e := vals_wset (pCount T S L) (blankF T S L G (fun j => decide (0 < j ∧ j ≤ S)) false) 3 (by omega) 1
        rw [show pairP 0 1 = 1 from by unfold pairP; decide, show (3 : Int) = ((3 : Nat) : Int) from rfl, e]
        unfold blankW
        refine vals_ext (fun p _ => ?_)
        rw [blankF_three]
        rfl
      have D4 := hC
      clear hC hbd e1 CP
      go_wp2_with fail
      refine (pair_calls 0 1 (by omega) (by omega) (by omega) _).mono ?_
      rintro e w5 ⟨rfl, rfl⟩
      go_wp2_with fail
      refine (cells_store _ _ _ _ D4.out _ _).mono ?_
      unfold Turned
      rw [E3.out]
      rintro e w6 ⟨rfl, hC6, hM6⟩
      have D6 := Lib.hid hC6
      have W6 := below_mod hW hM6 hW.size (fun q hq e => by omega)
      clear hC6 hM6 D4
      go_wp2_with fail
      go_ret2
      exact ⟨b, g, rfl, D6.out, by omega, by omega, W6⟩
end
end Go.Proofs.Ytgkobmmannkegaa

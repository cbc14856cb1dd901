/-
  The words at the beginning (chapter 10): the document's text, sundialref10.Words.
-/
import Derived.Test.YtgkobmmannkegaaBlankFree
namespace Go.Proofs.Ytgkobmmannkegaa
open Go Go.RowKit
set_option linter.unusedVariables false

section
variable (T S L : Nat) (G : Int)
theorem blankF_last (Q : Nat → Bool) (one3 : Bool) (i : Nat) (hi : 0 < i) (hQ : Q i = false) (hS : ¬ i < S) (p : Nat) :
    upd (blankF T S L G Q one3) (pWord T L i 0) (pairP G 0) p = blankF T S L G (fun j => Q j || j == i) one3 p := by
  have h := blankF_step T S L G Q one3 i hi hQ p
  rw [if_neg hS] at h
  rw [← h]
  have h0 := slot_of T L hi (k := 0) (by omega) rfl
  have h5 := slot_of T L hi (k := 5) (by omega) rfl
  have hb0 : 4 ≤ pBase T L := by unfold pBase; omega
  unfold upd
  by_cases e5 : p = pWord T L i 5
  · have ne : pWord T L i 5 ≠ pWord T L i 0 := by unfold pWord; omega
    subst e5
    rw [if_pos rfl, if_neg ne]
    have n0 : pWord T L i 5 ≠ 0 := by omega
    have n3 : pWord T L i 5 ≠ 3 := by omega
    have nb : ¬ pWord T L i 5 < pBase T L := by omega
    simp only [blankF, n0, n3, nb, h5.1, h5.2.1, if_false]
    simp [hQ]
  · rw [if_neg e5]
theorem blankF_begin (p : Nat) : upd (upd (fun _ => 0) 0 1) 3 1 p = blankF T S L G (fun j => decide (1 ≤ j ∧ j ≤ 0)) true p := by
  rw [← blankF_three]
  unfold upd
  split
  · rfl
  · have := blankF_none T S L G p
    unfold upd at this
    rw [this]
    congr 1
    funext j
    rw [eq_comm, decide_eq_false_iff_not]
    omega
end
section
variable (T S L : Nat) (G : Int) (hT : T ≤ 8) (hS : S ≤ 64) (hL : L ≤ 8)
include hT hS hL
set_option maxHeartbeats 4000000 in
set_option maxRecDepth 100000 in
theorem rblank_words (h : PRight T S L G) (hG : 0 ≤ G) (w : World) : Calls Try.prog 127 #[planV T S L G] w (NewRow w (blankW T S L G)) := by
  have hG2 : G ≤ 4294967295 := h.2.2.2
  have hS1 : 1 ≤ S := by have := h.2.1; omega
  have hT1 : 1 ≤ T := by have := h.1; omega
  have hwd := rwords_calls T S L G
  rw [words_eq T S L hT hS hL] at hwd
  have HW := Lib.hid hwd
  have hN := pCount_le T S L hT hS hL
  have hN4 : 5 ≤ pCount T S L := by unfold pCount; omega
  have HSl := Lib.hid (fun i k hi h0 hk => slotP_eq T S L hT hS hL i k hi h0 hk)
  have HLt := Lib.hid (fun i k hi his hk => pWord_lt T S L i k hi his hk)
  have P0 := Blk.new w [.int .i64 T, .int .i64 S, .int .i64 L, .int .u64 G] 24
  have C0 := P0.cell
  have hmk := fun W => run_mk64 (pCount T S L) (by omega) W
  have W0 : Below w.heap.size w (w.alloc (.cells #[.int .i64 T, .int .i64 S, .int .i64 L, .int .u64 G] 24)) := (Below.refl _ _).alloc (Nat.le_refl _) _
  have hl0 := P0.lt
  clear h hwd
  generalize hNN : pCount T S L = N at *
  have HNN := Lib.hid hNN
  clear hNN
  go_enter Try.func127, Try.ntmps127
  go_upto_region 1 with fail
  go_cut [3] (fun v wx => ∃ g, v = .slice (some ⟨g, 0, none⟩) N N ∧ Hid (Row wx g (.slice (some ⟨g, 0, none⟩) N N) (vals N (fun _ => 0))) ∧
      Blk wx w.heap.size [.int .i64 T, .int .i64 S, .int .i64 L, .int .u64 G] 24 ∧ Below w.heap.size w wx ∧ w.heap.size < g ∧ g < wx.heap.size)
  case first =>
    go_wp2_with fail
    refine (HW.out _).mono ?_
    rintro e w1 ⟨rfl, hb1⟩
    have W1 := W0.trans (hb1.mono W0.size)
    have P1 := P0.below' hb1
    have l1 := P1.lt
    have R1 : Hid (Row (w1.alloc (.cells (u64s (List.replicate N 0)).toArray 22)) w1.heap.size (.slice (some ⟨w1.heap.size, 0, none⟩) N N) (vals N (fun _ => 0))) := by
      have := row_made w1 (vals N (fun _ => 0))
      rw [vals_length] at this
      rw [vals_zero]
      exact this
    go_wp2_with fail
    go_meet
    case rel => exact ⟨w1.heap.size, rfl, (by have := R1.out; simp [u64s] at this; exact Lib.hid this), P1.alloc _, W1.alloc W1.size _, l1, by simp⟩
  case rest =>
    obtain ⟨g, rfl, hR, hP, hW, hg1, hg2⟩ := hcut
    have A0 := hR.out.cell 0 (by rw [vals_length]; omega)
    have A3 := hR.out.cell 3 (by rw [vals_length]; omega)
    have F0 := hR.out.frozen (by rw [vals_length]; omega)
    have R2 : Hid (Row ((wc.setCell ⟨g, 0, none⟩ (.int .u64 1)).setCell ⟨g, 3, none⟩ (.int .u64 1)) g (.slice (some ⟨g, 0, none⟩) N N) (vals N (blankF T S L G (fun j => decide (1 ≤ j ∧ j ≤ 0)) true))) := by
      have h1 := (hR.out.set 0 (by rw [vals_length]; omega) 1).set 3 (by rw [List.length_set, vals_length]; omega) 1
      rw [vals_set _ _ _ (by omega), vals_set _ _ _ (by omega), vals_ext (fun p _ => blankF_begin T S L G p)] at h1
      exact h1
    have M2 : Mod (fun k => k = g) wc ((wc.setCell ⟨g, 0, none⟩ (.int .u64 1)).setCell ⟨g, 3, none⟩ (.int .u64 1)) := ((Mod.refl (fun k => k = g) wc).setCell (a := ⟨g, 0, none⟩) (fun _ => rfl) _).setCell (a := ⟨g, 3, none⟩) (fun _ => rfl) _
    have P2 := M2.blk hP (by omega)
    have W2 := below_mod hW M2 hW.size (fun q hq e => by omega)
    have Z2 := M2.size
    clear P0 C0 W0 hl0 hmk
    go_wp2_with fail
    clear A0 A3 F0
    go_loopw [4] (fun i wr => ∃ (k : Nat), i = .int .i64 ((k : Int) + 1) ∧ k ≤ S ∧ Hid (Row wr g (.slice (some ⟨g, 0, none⟩) N N) (vals N (blankF T S L G (fun j => decide (1 ≤ j ∧ j ≤ k)) true))) ∧
      Blk wr w.heap.size [.int .i64 T, .int .i64 S, .int .i64 L, .int .u64 G] 24 ∧ Below w.heap.size w wr ∧ g < wr.heap.size) (fun i _ => S + 1 - (intOf i).toNat)
    case atStart => exact ⟨0, rfl, by omega, R2, P2, W2, by omega⟩
    case round =>
      obtain ⟨k, rfl, hk, hR, hP, hW, hg⟩ := hrel
      clear R2 P2 W2 M2 Z2 hg2
      have CP := hP.cell
      by_cases hlt : k < S
      · have e1 : wrap64 (4 + 3 * (T : Int) + L + (((k : Int) + 1) - 1) * (6 + L) + 0) = ((pWord T L (k + 1) 0 : Nat) : Int) := by
          have := HSl.out (k + 1) 0 (by omega) (by omega) (by omega)
          unfold slotP at this
          rw [← this]; congr 1
        have e2 : wrap64 (4 + 3 * (T : Int) + L + (((k : Int) + 1) - 1) * (6 + L) + 5) = ((pWord T L (k + 1) 5 : Nat) : Int) := by
          have := HSl.out (k + 1) 5 (by omega) (by omega) (by omega)
          unfold slotP at this
          rw [← this]; congr 1
        have q1' := rslot_calls T S L G ((k : Int) + 1) 0
        have q2' := rslot_calls T S L G ((k : Int) + 1) 5
        rw [e1] at q1'
        rw [e2] at q2'
        have q1 := Lib.hid q1'
        have q2 := Lib.hid q2'
        have t0 := HLt.out (k + 1) 0 (by omega) (by omega) (by omega)
        have t5 := HLt.out (k + 1) 5 (by omega) (by omega) (by omega)
        have so := Lib.hid (fun W => rstateOf_calls G 0 hG (by omega) (by omega) W)
        have QE : ∀ p, blankF T S L G (fun j => decide (1 ≤ j ∧ j ≤ k) || j == k + 1) true p = blankF T S L G (fun j => decide (1 ≤ j ∧ j ≤ k + 1)) true p := fun p => by
          congr 1
          funext j
          rw [Bool.eq_iff_iff]
          simp only [Bool.or_eq_true, decide_eq_true_eq, beq_iff_eq]
          omega
        have RA : ∀ W, Row W g (.slice (some ⟨g, 0, none⟩) N N) (vals N (blankF T S L G (fun j => decide (1 ≤ j ∧ j ≤ k)) true)) → Row (W.setCell ⟨g, pWord T L (k + 1) 0, none⟩ (.int .u64 (pairP G 0))) g (.slice (some ⟨g, 0, none⟩) N N) (vals N (upd (blankF T S L G (fun j => decide (1 ≤ j ∧ j ≤ k)) true) (pWord T L (k + 1) 0) (pairP G 0))) := fun W hr => by
          have := hr.set (pWord T L (k + 1) 0) (by rw [vals_length]; exact t0) (pairP G 0)
          rwa [vals_set _ _ _ t0] at this
        have HRA := Lib.hid RA
        have HQE := Lib.hid QE
        have A1 := hR.out.cell (pWord T L (k + 1) 0) (by rw [vals_length]; exact t0)
        clear q1' q2' RA QE e1 e2
        go_wp2_with fail
        refine wp_region_tail 7 (by kernel_rfl) (by kernel_rfl) ?_
        simp only [List.take_succ_cons, List.take_zero, List.drop_succ_cons, List.drop_zero]
        repeat (quiet_step ((first | (go_at_call 56; exact calls_later (q1.out _)) | (go_at_call 180; exact calls_later ((so.out _).mono fun e w' ⟨he, hw⟩ => ⟨he, hw ▸ Below.refl _ _⟩)))))
        refine wpQuiet_nil ?_
        intro w5 hb5
        have R5 := Lib.hid (hR.out.below hb5)
        have P5 := hP.below' hb5
        have W5 := hW.trans (hb5.mono hW.size)
        have hg5 : g < w5.heap.size := by have := hb5.size; omega
        have A5 := R5.out.cell (pWord T L (k + 1) 0) (by rw [vals_length]; exact t0)
        have F5 := R5.out.frozen (by rw [vals_length]; omega)
        have R6 := Lib.hid (HRA.out _ R5.out)
        have M6 : Mod (fun k => k = g) w5 (w5.setCell ⟨g, pWord T L (k + 1) 0, none⟩ (.int .u64 (pairP G 0))) := (Mod.refl (fun k => k = g) w5).setCell (a := ⟨g, pWord T L (k + 1) 0, none⟩) (fun _ => rfl) _
        have P6 := M6.blk P5 (by omega)
        have W6 := below_mod W5 M6 W5.size (fun q hq e => by omega)
        have Z6 := M6.size
        have C6 := P6.cell
        clear hR hP hW hb5 CP A1
        by_cases hs : k + 1 < S
        · have b1 : (k : Int) + 1 < S := by omega
          have eu : IntKind.u64.wrap ((k : Int) + 1 + 1) = ((k + 1 + 1 : Nat) : Int) := by rw [wrapu]; omega
          have HEU := Lib.hid eu
          have HS : Hid (∀ p, upd (upd (blankF T S L G (fun j => decide (1 ≤ j ∧ j ≤ k)) true) (pWord T L (k + 1) 0) (pairP G 0)) (pWord T L (k + 1) 5) ((k + 1 + 1 : Nat) : Int) p = blankF T S L G (fun j => decide (1 ≤ j ∧ j ≤ k + 1)) true p) := fun p => by
            rw [← HQE.out p, ← blankF_step T S L G (fun j => decide (1 ≤ j ∧ j ≤ k)) true (k + 1) (by omega) (by rw [decide_eq_false_iff_not]; omega) p, if_pos hs]
          have RB : ∀ W, Row W g (.slice (some ⟨g, 0, none⟩) N N) (vals N (upd (blankF T S L G (fun j => decide (1 ≤ j ∧ j ≤ k)) true) (pWord T L (k + 1) 0) (pairP G 0))) → Row (W.setCell ⟨g, pWord T L (k + 1) 5, none⟩ (.int .u64 ((k + 1 + 1 : Nat) : Int))) g (.slice (some ⟨g, 0, none⟩) N N) (vals N (blankF T S L G (fun j => decide (1 ≤ j ∧ j ≤ k + 1)) true)) := fun W hr => by
            have := hr.set (pWord T L (k + 1) 5) (by rw [vals_length]; exact t5) ((k + 1 + 1 : Nat) : Int)
            rw [vals_set _ _ _ t5, vals_ext (fun p _ => HS.out p)] at this
            exact this
          have HRB := Lib.hid RB
          clear eu RB
          go_wp2_with fail
          refine (q2.out _).mono ?_
          rintro e w7 ⟨rfl, hb7⟩
          have R7 := Lib.hid (R6.out.below hb7)
          have P7 := P6.below' hb7
          have W7 := W6.trans (hb7.mono W6.size)
          have hg7 : g < w7.heap.size := by have := hb7.size; omega
          have A7 := R7.out.cell (pWord T L (k + 1) 5) (by rw [vals_length]; exact t5)
          have F7 := R7.out.frozen (by rw [vals_length]; omega)
          have R8 := Lib.hid (HRB.out _ R7.out)
          have M8 : Mod (fun k => k = g) w7 (w7.setCell ⟨g, pWord T L (k + 1) 5, none⟩ (.int .u64 ((k + 1 + 1 : Nat) : Int))) := (Mod.refl (fun k => k = g) w7).setCell (a := ⟨g, pWord T L (k + 1) 5, none⟩) (fun _ => rfl) _
          have P8 := M8.blk P7 (by omega)
          have W8 := below_mod W7 M8 W7.size (fun q hq e => by omega)
          have Z8 := M8.size
          clear hb7 C6 A5 F5
          go_wp2_with fail
          go_roundw
          case rel => exact ⟨k + 1, by go_num, by omega, R8, P8, W8, Nat.lt_of_lt_of_le hg7 Z8⟩
          case measure => simp [intOf]; omega
        · have b1 : (S : Int) ≤ (k : Int) + 1 := by omega
          have R9 : Hid (Row (w5.setCell ⟨g, pWord T L (k + 1) 0, none⟩ (.int .u64 (pairP G 0))) g (.slice (some ⟨g, 0, none⟩) N N) (vals N (blankF T S L G (fun j => decide (1 ≤ j ∧ j ≤ k + 1)) true))) := by
            have := R6.out
            rw [vals_ext (fun p _ => blankF_last T S L G (fun j => decide (1 ≤ j ∧ j ≤ k)) true (k + 1) (by omega) (by rw [decide_eq_false_iff_not]; omega) hs p), vals_ext (fun p _ => HQE.out p)] at this
            exact this
          go_wp2_with fail
          go_roundw
          case rel => exact ⟨k + 1, by go_num, by omega, R9, P6, W6, by omega⟩
          case measure => simp [intOf]; omega
      · obtain rfl : k = S := by omega
        go_wp2_with fail
        go_ret
        have hl : N = (blankW T k L G).length := by rw [blankW_length]; exact HNN.out.symm
        refine ⟨some ⟨g, 0, none⟩, N, g, by rw [← hl]; rfl, ?_, by omega, fun _ => hg, hW⟩
        rw [← hl]
        have := hR.out
        unfold blankW
        rw [HNN.out]
        exact this
end
end Go.Proofs.Ytgkobmmannkegaa

/-
  What and Where by the document (sundialref09), walked.
-/
import Derived.Test.YtippfkokgpdmdaaDoorSpotAll
import Derived.Test.YtippfkokgpdmdaaDoorPlaceWhere
namespace Go.Proofs.YtippfkokgpdmdaaDoor
open Go Go.RowKit
set_option linter.unusedVariables false

set_option maxRecDepth 100000 in
theorem all_no (T S L G : Int) (hp : ¬ PRight T S L G) (w : World) : Calls Tryd.prog 58 #[planV T S L G] w fun e w' => e = .returned (.slice none 0 0) ∧ Below w.heap.size w w' := by
  have R := Lib.hid (rright_no _ _ _ _ hp)
  have W0 : Below w.heap.size w (w.alloc (.cells #[.int .i64 T, .int .i64 S, .int .i64 L, .int .u64 G] 34)) := (Below.refl _ _).alloc (Nat.le_refl _) _
  clear hp
  go_enter Tryd.func58, Tryd.ntmps58
  go_wp2_with fail
  refine (R.out _).mono ?_
  rintro e w1 ⟨rfl, hb1⟩
  go_wp2_with fail
  go_ret
  exact ⟨rfl, W0.trans (hb1.mono W0.size)⟩
/-- The cells of one spot of the row. -/
theorem SL.at_ {w : World} {lo : Nat} {va : Option Addr} {vc T L n : Nat} (h : SL w lo (.slice va n vc) T L n) (hn : 0 < n) : ∃ g, va = some ⟨g, 0, none⟩ ∧ g < w.heap.size ∧
    ∀ j, j < n → w.cell? ⟨g, j * 3, none⟩ = some (.int .i64 (spotAt T L j).1) ∧ w.cell? ⟨g, j * 3 + 1, none⟩ = some (.int .i64 (spotAt T L j).2.1) ∧ w.cell? ⟨g, j * 3 + 2, none⟩ = some (.int .i64 (spotAt T L j).2.2) := by
  have h' := h
  rcases h.2 with ⟨h0, h1⟩ | ⟨g, cap, cur, hv, _⟩
  · omega
  · injection hv with e1 e2 e3
    subst e1
    have hc : ∀ j, j < n → ∀ i, i < 3 → w.cell? ⟨g, j * 3 + i, none⟩ = (spotR.cells (spotAt T L j))[i]? := by
      intro j hj i hi
      have h5 := own_cell (R := spotR) (l := (List.range n).map (spotAt T L)) h' j (by simpa using hj) i hi
      rw [List.getElem_map, List.getElem_range] at h5
      exact h5
    refine ⟨g, rfl, (World.ownsRow.lt h' g rfl).2, fun j hj => ⟨?_, ?_, ?_⟩⟩
    · have := hc j hj 0 (by omega)
      simpa [spotR] using this
    · have := hc j hj 1 (by omega)
      simpa [spotR] using this
    · have := hc j hj 2 (by omega)
      simpa [spotR] using this
set_option maxHeartbeats 4000000 in
set_option maxRecDepth 100000 in
theorem rwhat_yes (T S L : Nat) (G at_ : Int) (hp : PRight T S L G) (hT : 1 ≤ T ∧ T ≤ 8) (hS : 1 ≤ S ∧ S ≤ 64) (hL : 1 ≤ L ∧ L ≤ 8) (w : World) :
    Calls Tryd.prog 26 #[planV T S L G, .int .i64 at_] w fun e w' => e = .returned (spotV (whatP T S L G at_)) ∧ Below w.heap.size w w' := by
  have A := Lib.hid (all_yes T S L G hT hS hL hp)
  have b0 : Below w.heap.size w ((w.alloc (.cells #[.int .i64 T, .int .i64 S, .int .i64 L, .int .u64 G] 34)).alloc (.cells #[.int .i64 0, .int .i64 0, .int .i64 0] 36)) := ((Below.refl _ _).alloc (Nat.le_refl _) _).alloc (by simp) _
  have Z0 := Blk.new2 w (.cells #[.int .i64 T, .int .i64 S, .int .i64 L, .int .u64 G] 34) [.int .i64 0, .int .i64 0, .int .i64 0] 36
  by_cases hin : 0 ≤ at_ ∧ at_ < lenP T S L
  · obtain ⟨j, rfl⟩ : ∃ j : Nat, at_ = j := ⟨at_.toNat, by omega⟩
    have hj : j < lenP T S L := by omega
    have HR := Lib.hid (what_nat hp hj)
    have HJ := Lib.hid hj
    have d1 : decide ((lenP T S L : Int) ≤ (j : Int)) = false := decide_eq_false (by omega)
    have d2 : decide (lenP T S L ≤ j) = false := decide_eq_false (by omega)
    have b4 : (j : Int) < (lenP T S L : Int) := by omega
    generalize lenP T S L = N at *
    obtain ⟨x, hx⟩ : ∃ x, spotAt T L j = x := ⟨_, rfl⟩
    have HX := Lib.hid hx
    rw [HR.out, hx]
    obtain ⟨x0, x1, x2⟩ := x
    clear hp hin hj hT hS hL hx HR
    go_enter Tryd.func26, Tryd.ntmps26
    go_wp2_with fail
    refine (A.out _).mono ?_
    rintro e w1 ⟨va, vc, rfl, hSL, hb1⟩
    have Z1 := Z0.below' hb1
    have W1 := b0.trans (hb1.mono b0.size)
    obtain ⟨g, rfl, hg, hc⟩ := hSL.at_ (by have := HJ.out; omega)
    obtain ⟨c0, c1, c2⟩ := hc j HJ.out
    have C1 := Z1.cell
    have F1 := Z1.frozen
    rw [HX.out] at c0 c1 c2
    dsimp only at c0 c1 c2
    have Z2 := Z1.set3 (.int .i64 x0) (.int .i64 x1) (.int .i64 x2)
    have W2 := ((W1.setCell (p := ⟨w.heap.size + 1, 0, none⟩) (by show w.heap.size ≤ w.heap.size + 1; omega) (.int .i64 x0)).setCell (p := ⟨w.heap.size + 1, 1, none⟩) (by show w.heap.size ≤ w.heap.size + 1; omega) (.int .i64 x1)).setCell (p := ⟨w.heap.size + 1, 2, none⟩) (by show w.heap.size ≤ w.heap.size + 1; omega) (.int .i64 x2)
    clear Z0 b0 hb1 hSL hc HX
    go_wp2_with fail
    refine bodyPost_ret (results_cell_row rfl _ _ _ 36 _ _ _ rfl Z2 Tryd.underlying36 rfl (by kernel_rfl)) rfl ?_
    exact ⟨rfl, W2⟩
  · have HR := Lib.hid (what_out (t := T) (s := S) (l := L) (G := G) (at_ := at_) (fun h => hin h.2))
    generalize whatP T S L G at_ = r at *
    have hr : r = (0, 0, 0) := HR.out
    subst hr
    by_cases h0 : at_ < 0
    · have d1 : decide (at_ < 0) = true := decide_eq_true h0
      clear hp hin hT hS hL h0
      go_enter Tryd.func26, Tryd.ntmps26
      go_wp2_with fail
      refine (A.out _).mono ?_
      rintro e w1 ⟨va, vc, rfl, hSL, hb1⟩
      have Z1 := Z0.below' hb1
      have W1 := b0.trans (hb1.mono b0.size)
      have C1 := Z1.cell
      have F1 := Z1.frozen
      have Z2 := Z1.set3 (.int .i64 0) (.int .i64 0) (.int .i64 0)
      have W2 := ((W1.setCell (p := ⟨w.heap.size + 1, 0, none⟩) (by show w.heap.size ≤ w.heap.size + 1; omega) (.int .i64 0)).setCell (p := ⟨w.heap.size + 1, 1, none⟩) (by show w.heap.size ≤ w.heap.size + 1; omega) (.int .i64 0)).setCell (p := ⟨w.heap.size + 1, 2, none⟩) (by show w.heap.size ≤ w.heap.size + 1; omega) (.int .i64 0)
      clear Z0 b0 hb1 hSL
      go_wp2_with fail
      refine bodyPost_ret (results_cell_row rfl _ _ _ 36 _ _ _ rfl Z2 Tryd.underlying36 rfl (by kernel_rfl)) rfl ?_
      exact ⟨rfl, W2⟩
    · obtain ⟨j, rfl⟩ : ∃ j : Nat, at_ = j := ⟨at_.toNat, by omega⟩
      have hj : lenP T S L ≤ j := by omega
      have d1 : decide ((lenP T S L : Int) ≤ (j : Int)) = true := decide_eq_true (by omega)
      have d2 : decide (lenP T S L ≤ j) = true := decide_eq_true (by omega)
      clear hp hin hT hS hL h0 hj
      go_enter Tryd.func26, Tryd.ntmps26
      go_wp2_with fail
      refine (A.out _).mono ?_
      rintro e w1 ⟨va, vc, rfl, hSL, hb1⟩
      have Z1 := Z0.below' hb1
      have W1 := b0.trans (hb1.mono b0.size)
      have C1 := Z1.cell
      have F1 := Z1.frozen
      have Z2 := Z1.set3 (.int .i64 0) (.int .i64 0) (.int .i64 0)
      have W2 := ((W1.setCell (p := ⟨w.heap.size + 1, 0, none⟩) (by show w.heap.size ≤ w.heap.size + 1; omega) (.int .i64 0)).setCell (p := ⟨w.heap.size + 1, 1, none⟩) (by show w.heap.size ≤ w.heap.size + 1; omega) (.int .i64 0)).setCell (p := ⟨w.heap.size + 1, 2, none⟩) (by show w.heap.size ≤ w.heap.size + 1; omega) (.int .i64 0)
      clear Z0 b0 hb1 hSL
      go_wp2_with fail
      refine bodyPost_ret (results_cell_row rfl _ _ _ 36 _ _ _ rfl Z2 Tryd.underlying36 rfl (by kernel_rfl)) rfl ?_
      exact ⟨rfl, W2⟩
set_option maxHeartbeats 4000000 in
set_option maxRecDepth 100000 in
theorem rwhat_no (T S L G at_ : Int) (hp : ¬ PRight T S L G) (w : World) :
    Calls Tryd.prog 26 #[planV T S L G, .int .i64 at_] w fun e w' => e = .returned (.agg #[.int .i64 0, .int .i64 0, .int .i64 0]) ∧ Below w.heap.size w w' := by
  have A : Hid (∀ w, Calls Tryd.prog 58 #[planV T S L G] w fun e w' => ∃ va vc, e = .returned (.slice va 0 vc) ∧ True ∧ Below w.heap.size w w') := fun w => (all_no T S L G hp w).mono fun e w' ⟨h1, h2⟩ => ⟨_, _, h1, trivial, h2⟩
  have b0 : Below w.heap.size w ((w.alloc (.cells #[.int .i64 T, .int .i64 S, .int .i64 L, .int .u64 G] 34)).alloc (.cells #[.int .i64 0, .int .i64 0, .int .i64 0] 36)) := ((Below.refl _ _).alloc (Nat.le_refl _) _).alloc (by simp) _
  have Z0 := Blk.new2 w (.cells #[.int .i64 T, .int .i64 S, .int .i64 L, .int .u64 G] 34) [.int .i64 0, .int .i64 0, .int .i64 0] 36
  by_cases h0 : at_ < 0
  · have d1 : decide (at_ < 0) = true := decide_eq_true h0
    clear hp h0
    go_enter Tryd.func26, Tryd.ntmps26
    go_wp2_with fail
    refine (A.out _).mono ?_
    rintro e w1 ⟨va, vc, rfl, hSL, hb1⟩
    have Z1 := Z0.below' hb1
    have W1 := b0.trans (hb1.mono b0.size)
    have C1 := Z1.cell
    have F1 := Z1.frozen
    have Z2 := Z1.set3 (.int .i64 0) (.int .i64 0) (.int .i64 0)
    have W2 := ((W1.setCell (p := ⟨w.heap.size + 1, 0, none⟩) (by show w.heap.size ≤ w.heap.size + 1; omega) (.int .i64 0)).setCell (p := ⟨w.heap.size + 1, 1, none⟩) (by show w.heap.size ≤ w.heap.size + 1; omega) (.int .i64 0)).setCell (p := ⟨w.heap.size + 1, 2, none⟩) (by show w.heap.size ≤ w.heap.size + 1; omega) (.int .i64 0)
    clear Z0 b0 hb1 hSL
    go_wp2_with fail
    refine bodyPost_ret (results_cell_row rfl _ _ _ 36 _ _ _ rfl Z2 Tryd.underlying36 rfl (by kernel_rfl)) rfl ?_
    exact ⟨rfl, W2⟩
  · have d0 : decide (at_ < 0) = false := decide_eq_false h0
    have d1 : decide (0 ≤ at_) = true := decide_eq_true (by omega)
    clear hp h0
    go_enter Tryd.func26, Tryd.ntmps26
    go_wp2_with fail
    refine (A.out _).mono ?_
    rintro e w1 ⟨va, vc, rfl, hSL, hb1⟩
    have Z1 := Z0.below' hb1
    have W1 := b0.trans (hb1.mono b0.size)
    have C1 := Z1.cell
    have F1 := Z1.frozen
    have Z2 := Z1.set3 (.int .i64 0) (.int .i64 0) (.int .i64 0)
    have W2 := ((W1.setCell (p := ⟨w.heap.size + 1, 0, none⟩) (by show w.heap.size ≤ w.heap.size + 1; omega) (.int .i64 0)).setCell (p := ⟨w.heap.size + 1, 1, none⟩) (by show w.heap.size ≤ w.heap.size + 1; omega) (.int .i64 0)).setCell (p := ⟨w.heap.size + 1, 2, none⟩) (by show w.heap.size ≤ w.heap.size + 1; omega) (.int .i64 0)
    clear Z0 b0 hb1 hSL
    go_wp2_with fail
    refine bodyPost_ret (results_cell_row rfl _ _ _ 36 _ _ _ rfl Z2 Tryd.underlying36 rfl (by kernel_rfl)) rfl ?_
    exact ⟨rfl, W2⟩
theorem rwhat_calls (T S L G at_ : Int) (w : World) : Calls Tryd.prog 26 #[planV T S L G, .int .i64 at_] w fun e w' => e = .returned (spotV (whatP T S L G at_)) ∧ Below w.heap.size w w' := by
  by_cases hp : PRight T S L G
  · obtain ⟨t, s, l, rfl, rfl, rfl, h1, h2, h3⟩ := right_nat hp
    exact rwhat_yes t s l G at_ hp h1 h2 h3 w
  · rw [what_wrong hp]
    exact rwhat_no T S L G at_ hp w
set_option maxHeartbeats 4000000 in
set_option maxRecDepth 100000 in
theorem rwhere_yes (T S L : Nat) (G sk so sl : Int) (hp : PRight T S L G) (hT : 1 ≤ T ∧ T ≤ 8) (hS : 1 ≤ S ∧ S ≤ 64) (hL : 1 ≤ L ∧ L ≤ 8) (w : World) :
    Calls Tryd.prog 28 #[planV T S L G, .agg #[.int .i64 sk, .int .i64 so, .int .i64 sl]] w fun e w' => e = .returned (.int .i64 (findP T L (sk, so, sl) (List.range (lenP T S L)))) ∧ Below w.heap.size w w' := by
  have A := Lib.hid (all_yes T S L G hT hS hL hp)
  have b0 : Below w.heap.size w ((w.alloc (.cells #[.int .i64 T, .int .i64 S, .int .i64 L, .int .u64 G] 34)).alloc (.cells #[.int .i64 sk, .int .i64 so, .int .i64 sl] 36)) := ((Below.refl _ _).alloc (Nat.le_refl _) _).alloc (by simp) _
  have D0 := Blk.new2 w (.cells #[.int .i64 T, .int .i64 S, .int .i64 L, .int .u64 G] 34) [.int .i64 sk, .int .i64 so, .int .i64 sl] 36
  have HF := Lib.hid (fun n (h : n < lenP T S L) e => find_at (S := S) hT.1 h (sk, so, sl) e)
  have HO := Lib.hid (find_none (T := T) (S := S) (L := L) (sk, so, sl))
  have HN : Hid (0 < lenP T S L) := by show _ < _; unfold lenP; omega
  have HB : Hid (lenP T S L ≤ 932) := lenP_le hT.2 hS.2 hL.2
  generalize findP T L (sk, so, sl) (List.range (lenP T S L)) = res at *
  generalize lenP T S L = N at *
  clear hp hT hS hL
  go_enter Tryd.func28, Tryd.ntmps28
  go_wp2_with fail
  refine (A.out _).mono ?_
  rintro e w1 ⟨va, vc, rfl, hSL, hb1⟩
  have D1 := D0.below' hb1
  have W1 := b0.trans (hb1.mono b0.size)
  obtain ⟨g, rfl, hg, hc⟩ := hSL.at_ HN.out
  have HC := Lib.hid hc
  clear D0 b0 hb1 hSL hc A
  go_wp2_with fail
  go_loopw [6] (fun i wr => ∃ j : Nat, i = .int .i64 j ∧ j ≤ N ∧ Hid (∀ m, m < j → spotAt T L m ≠ (sk, so, sl)) ∧ Below w1.heap.size w1 wr) (fun i _ => N - (intOf i).toNat)
  case atStart => exact ⟨0, rfl, by omega, fun m hm => by omega, Below.refl _ _⟩
  case round =>
    obtain ⟨j, rfl, hj, hno, hb⟩ := hrel
    by_cases hlt : j < N
    · obtain ⟨c0, c1, c2⟩ := HC.out j hlt
      have p0 := (hb.cell (p := ⟨g, j * 3, none⟩) hg).trans c0
      have p1 := (hb.cell (p := ⟨g, j * 3 + 1, none⟩) hg).trans c1
      have p2 := (hb.cell (p := ⟨g, j * 3 + 2, none⟩) hg).trans c2
      have D2 := D1.below' hb
      have C2 := D2.cell
      have b4 : (j : Int) < (N : Int) := by omega
      have hB := HB.out
      have HX : Hid (∃ x, spotAt T L j = x) := ⟨_, rfl⟩
      obtain ⟨⟨x0, x1, x2⟩, hx⟩ := HX.out
      rw [hx] at p0 p1 p2
      have hq := spotEq_iff x0 x1 x2 sk so sl
      rw [← hx] at hq
      dsimp only at p0 p1 p2
      clear c0 c1 c2 HX
      by_cases he : spotAt T L j = (sk, so, sl)
      · have q : spotEq x0 x1 x2 sk so sl = true := by rw [hq]; simpa using he
        have HR := Lib.hid (HF.out j hlt he)
        clear hq hx he hno
        go_wp2_with fail
        refine wp_region_reads (by kernel_rfl) (by kernel_rfl) ?_
        repeat (quiet_step (fail))
        refine wpQuiet_nil ?_
        intro w3 hb3
        go_wp2_with fail
        go_ret
        exact ⟨ret_i64 HR.out.symm, (W1.trans (hb.mono W1.size)).trans (hb3.mono (Nat.le_trans W1.size hb.size))⟩
      · have q : spotEq x0 x1 x2 sk so sl = false := by rw [hq]; simpa using he
        have HNO : Hid (∀ m, m < j + 1 → spotAt T L m ≠ (sk, so, sl)) := fun m hm => by
          by_cases e : m = j
          · rw [e]; exact he
          · exact hno.out m (by omega)
        clear hq hx he hno
        go_wp2_with fail
        refine wp_region_reads (by kernel_rfl) (by kernel_rfl) ?_
        repeat (quiet_step (fail))
        refine wpQuiet_nil ?_
        intro w3 hb3
        go_wp2_with fail
        go_roundw
        case rel => exact ⟨j + 1, by go_num, by omega, HNO, hb.trans (hb3.mono hb.size)⟩
        case measure => simp [intOf]; omega
    · obtain rfl : N = j := by omega
      have HR := Lib.hid (HO.out hno.out)
      clear hno
      go_wp2_with fail
      go_ret
      exact ⟨ret_i64 HR.out.symm, W1.trans (hb.mono W1.size)⟩
set_option maxHeartbeats 4000000 in
set_option maxRecDepth 100000 in
theorem rwhere_no (T S L G sk so sl : Int) (hp : ¬ PRight T S L G) (w : World) :
    Calls Tryd.prog 28 #[planV T S L G, .agg #[.int .i64 sk, .int .i64 so, .int .i64 sl]] w fun e w' => e = .returned (.int .i64 (-1)) ∧ Below w.heap.size w w' := by
  have A := Lib.hid (all_no T S L G hp)
  have b0 : Below w.heap.size w ((w.alloc (.cells #[.int .i64 T, .int .i64 S, .int .i64 L, .int .u64 G] 34)).alloc (.cells #[.int .i64 sk, .int .i64 so, .int .i64 sl] 36)) := ((Below.refl _ _).alloc (Nat.le_refl _) _).alloc (by simp) _
  clear hp
  go_enter Tryd.func28, Tryd.ntmps28
  go_wp2_with fail
  refine (A.out _).mono ?_
  rintro e w1 ⟨rfl, hb1⟩
  have W1 := b0.trans (hb1.mono b0.size)
  clear b0 hb1
  go_wp2_with fail
  go_loopw [6] (fun i wr => i = .int .i64 0 ∧ wr = w1) (fun i _ => 0)
  case atStart => exact ⟨rfl, rfl⟩
  case round =>
    obtain ⟨rfl, rfl⟩ := hrel
    go_wp2_with fail
    go_ret
    exact ⟨rfl, W1⟩
theorem rwhere_calls (T S L G sk so sl : Int) (w : World) : Calls Tryd.prog 28 #[planV T S L G, .agg #[.int .i64 sk, .int .i64 so, .int .i64 sl]] w fun e w' => e = .returned (.int .i64 (whereP T S L G (sk, so, sl))) ∧ Below w.heap.size w w' := by
  by_cases hp : PRight T S L G
  · obtain ⟨t, s, l, rfl, rfl, rfl, h1, h2, h3⟩ := right_nat hp
    have e : whereP t s l G (sk, so, sl) = findP t l (sk, so, sl) (List.range (lenP t s l)) := by
      unfold whereP
      simp [hp]
    rw [e]
    exact rwhere_yes t s l G sk so sl hp h1 h2 h3 w
  · rw [where_wrong hp]
    exact rwhere_no T S L G sk so sl hp w
end Go.Proofs.YtippfkokgpdmdaaDoor

/-
  The law DeedOne, walked.
-/
import Derived.Test.YtippfkokgpdmdaaDoorDeedRef
import Derived.Test.YtippfkokgpdmdaaDoorDeedAwake
import Derived.BigQuiet
namespace Go.Proofs.YtippfkokgpdmdaaDoor
open Go Go.RowKit
set_option linter.unusedVariables false

theorem dDo_at (ws : List Int) (d : D) (i : Nat) (h : i < ws.length) (ha : d.at_ = i) (hk : 1 ≤ d.k ∧ d.k ≤ 4) (h' : i < (dDo ws d).length) : (dDo ws d)[i] = afterP ws[i] d := by
  have e : dDo ws d = ws.set i (opNew d.k ws[i] d.a d.b) := by
    unfold dDo opDo
    rw [if_pos hk, ha, wset_nat h, wget_nat h]
  have : (dDo ws d)[i] = opNew d.k ws[i] d.a d.b := by
    simp only [e, List.getElem_set_self]
  rw [this]
  unfold opNew afterP swp
  split
  · rfl
  · split
    · rename_i h1
      by_cases hx : ws[i] = d.a
      · simp [h1, hx]
      · rw [if_neg hx, if_neg (fun h => hx h.2), if_neg (by omega)]
    · rename_i h1
      by_cases h4 : d.k = 4
      · simp [h4]
      · simp [h1, h4]
theorem dDo_other (ws : List Int) (d : D) (i : Nat) (h : i < ws.length) (ha : d.at_ ≠ i) (h' : i < (dDo ws d).length) : (dDo ws d)[i] = ws[i] := by
  have e : ∀ x, wset ws d.at_ x = ws ∨ (wset ws d.at_ x = ws.set d.at_.toNat x ∧ d.at_.toNat ≠ i) := by
    intro x
    unfold wset
    split
    · exact .inr ⟨rfl, by omega⟩
    · exact .inl rfl
  have : dDo ws d = ws ∨ ∃ x, dDo ws d = ws.set d.at_.toNat x ∧ d.at_.toNat ≠ i := by
    unfold dDo opDo
    split
    · rcases e (opNew d.k (wget ws d.at_) d.a d.b) with h1 | h1
      · exact .inl h1
      · exact .inr ⟨_, h1⟩
    · exact .inl rfl
  rcases this with h1 | ⟨x, h1, h2⟩
  · simp only [h1]
  · simp only [h1]
    rw [List.getElem_set_ne h2]
theorem deedOne_skip (a : Option Addr) (n c : Nat) (d : D) (h : 300 < n ∨ d.k < 1 ∨ 4 < d.k) (w : World) : Calls Tryd.prog 11 #[.slice a n c, d.val] w fun e w' => e = .returned (.bool true) ∧ Below w.heap.size w w' := by
  obtain ⟨k, at_, x, y, by_⟩ := d
  have HA := Lib.hid (fun w => deed_awake w)
  have b1 : Below w.heap.size w (w.alloc (.cells #[.int .i64 k, .int .i64 at_, .int .u64 x, .int .u64 y, .int .u64 by_] 48)) := (Below.refl _ _).alloc (Nat.le_refl _) _
  have C1 := (Blk.new w [.int .i64 k, .int .i64 at_, .int .u64 x, .int .u64 y, .int .u64 by_] 48).cell
  simp only at h
  by_cases h0 : 300 < n
  · clear h
    go_enter Tryd.func11, Tryd.ntmps11
    go_wp2_with fail
    refine (HA.out _).mono ?_
    rintro e w1 ⟨rfl, hb⟩
    go_wp2_with fail
    go_ret
    exact ⟨rfl, b1.trans (hb.mono b1.size)⟩
  · have m1 : decide ((300 : Int) < (n : Int)) = false := by simp; omega
    by_cases h1 : k < 1
    · clear h
      go_enter Tryd.func11, Tryd.ntmps11
      go_wp2_with fail
      refine (HA.out _).mono ?_
      rintro e w1 ⟨rfl, hb⟩
      go_wp2_with fail
      go_ret
      exact ⟨rfl, b1.trans (hb.mono b1.size)⟩
    · have h2 : decide (k < 1) = false := by simp; omega
      have h3 : decide ((4 : Int) < k) = true := by simp; omega
      clear h
      go_enter Tryd.func11, Tryd.ntmps11
      go_wp2_with fail
      refine (HA.out _).mono ?_
      rintro e w1 ⟨rfl, hb⟩
      go_wp2_with fail
      go_ret
      exact ⟨rfl, b1.trans (hb.mono b1.size)⟩
set_option maxHeartbeats 4000000 in
set_option maxRecDepth 100000 in
theorem deedOne_walk (a : Option Addr) (L c : Nat) (ws : List Int) (hL : ws.length = L) (d : D) (w : World) (hI : U64s w w.heap.size (.slice a L c) ws) (n1 : L ≤ 300) (hk : 1 ≤ d.k ∧ d.k ≤ 4) :
    Calls Tryd.prog 11 #[.slice a L c, d.val] w fun e w' => e = .returned (.bool true) ∧ Below w.heap.size w w' := by
  have HAF := Lib.hid (fun (x : Int) w => after_calls x d w)
  have HDO := Lib.hid (fun w b g (h : CellsAt w b g ws) => deed_do w b g ws h d)
  have HAT := Lib.hid (fun (i : Nat) (h : i < ws.length) (ha : d.at_ = i) (h' : i < (dDo ws d).length) => dDo_at ws d i h ha hk h')
  have HOT := Lib.hid (fun (i : Nat) (h : i < ws.length) (ha : d.at_ ≠ i) (h' : i < (dDo ws d).length) => dDo_other ws d i h ha h')
  have HLD := Lib.hid ((dDo_length ws d).trans hL)
  have HG0 : Hid (¬ (0 ≤ d.at_ ∧ d.at_ < ws.length) → dGet ws d = 0) := fun h => by
    unfold dGet
    rw [if_pos hk, wget_out h]
  have HG1 : Hid (∀ (i : Nat) (h : i < ws.length), d.at_ = i → dGet ws d = ws[i]) := fun i h ha => by
    unfold dGet
    rw [if_pos hk, ha, wget_nat h]
  obtain ⟨k, at_, x, y, by_⟩ := d
  have HI := Lib.hid hI
  have HA := Lib.hid (fun w => deed_awake w)
  have HL := Lib.hid hL
  have P1 := Blk.new w [.int .i64 k, .int .i64 at_, .int .u64 x, .int .u64 y, .int .u64 by_] 48
  have b1 : Below w.heap.size w (w.alloc (.cells #[.int .i64 k, .int .i64 at_, .int .u64 x, .int .u64 y, .int .u64 by_] 48)) := (Below.refl _ _).alloc (Nat.le_refl _) _
  have U0 := Lib.hid ((HI.out.below b1).mono b1.size)
  have C1 := P1.cell
  have m1 : decide ((300 : Int) < (L : Int)) = false := by simp; omega
  have m2 : decide (k < 1) = false := by simp at hk; simp; omega
  have m3 : decide ((4 : Int) < k) = false := by simp at hk; simp; omega
  clear hI hL hk
  go_enter Tryd.func11, Tryd.ntmps11
  go_wp2_with fail
  refine (cells_of _ _ _ _ U0.out (by rw [HL.out]; omega)).mono ?_
  rintro e w1 ⟨b, g, rfl, hC, hb, hg, hb1⟩
  have C2 := Lib.hid hC
  have U1 := Lib.hid ((U0.out.below hb1).mono hb1.size)
  have A1 : Hid (0 < L → ∀ b off, a = some ⟨b, off, none⟩ → b ≠ g) := fun h0 bb off h => by
    have := U0.out.blk_lt (by rw [HL.out]; exact h0) bb off h
    omega
  have W1 := b1.trans (hb1.mono b1.size)
  have P2 := P1.below' hb1
  have zz := P1.lt
  clear hC hb1 m1 m2 m3 U0 b1 P1 C1
  have C1 := P2.cell
  go_wp2_with fail
  refine (HDO.out _ _ _ C2.out).mono ?_
  rintro e w3 ⟨rfl, hC3, hM3⟩
  generalize dDo ws ⟨k, at_, x, y, by_⟩ = wn at *
  generalize dGet ws ⟨k, at_, x, y, by_⟩ = r at *
  have C3 := Lib.hid hC3
  have U3 := Lib.hid ((U1.out.modA hM3 (fun h0 => A1.out (by rw [HL.out] at h0; exact h0))).mono hM3.size)
  have W3 := below_mod W1 hM3 W1.size (fun q hq e => by omega)
  have P3 := hM3.blk P2 (by omega)
  clear hC3 hM3 U1 C2 W1 P2 C1
  have C1 := P3.cell
  dsimp only
  go_wp2_with fail
  refine (cells_words _ _ _ _ C3.out).mono ?_
  rintro e w4 ⟨xa, xc, g2, rfl, hR, _, hl2, hb4⟩
  have R4 := Lib.hid (hR.reads (hi := w4.heap.size) (fun h => hl2 h))
  have U4 := Lib.hid ((U3.out.below hb4).mono hb4.size)
  have W4 := W3.trans (hb4.mono W3.size)
  have P4 := P3.below' hb4
  clear hR hb4 C3 U3 W3 P3 C1
  have C1 := P4.cell
  have R5 : Hid (U64s w4 w4.heap.size (.slice xa L xc) wn) := by
    have h := R4.out
    rw [HLD.out] at h
    exact h
  have U5 := Lib.hid U4.out
  rw [HLD.out]
  clear R4 U4
  have HC : (0 ≤ at_ ∧ at_ < (L : Int)) ∨ (at_ < 0 ∧ (r != 0) = false) ∨ (0 ≤ at_ ∧ (L : Int) ≤ at_ ∧ (r != 0) = false) := by
    have e0 := HL.out
    by_cases h1 : 0 ≤ at_
    · by_cases h2 : at_ < (L : Int)
      · exact .inl ⟨h1, h2⟩
      · exact .inr (.inr ⟨h1, by omega, by rw [HG0.out (by omega)]; rfl⟩)
    · exact .inr (.inl ⟨by omega, by rw [HG0.out (by omega)]; rfl⟩)
  rcases HC with ⟨hc1, hc2⟩ | ⟨hc1, hc3⟩ | ⟨hc1, hc2, hc3⟩
  all_goals (
    go_wp2_with fail
    go_loopw [9] (fun i wr => ∃ (j : Nat), i = .int .i64 j ∧ j ≤ L ∧ Hid (U64s wr wr.heap.size (.slice xa L xc) wn) ∧ Hid (U64s wr wr.heap.size (.slice a L c) ws) ∧ Blk wr w.heap.size [.int .i64 k, .int .i64 at_, .int .u64 x, .int .u64 y, .int .u64 by_] 48 ∧ Below w.heap.size w wr) (fun i _ => L - (intOf i).toNat)
    case atStart => exact ⟨0, rfl, by omega, R5, U5, P4, W4⟩
    case round =>
      obtain ⟨j, rfl, hj, hR, hU, hP, hW⟩ := hrel
      clear R5 U5 P4 W4 C1
      have C1 := hP.cell
      by_cases hlt : j < L
      · obtain ⟨a', c', hv, hcs⟩ := hR.out.ex
        obtain ⟨a'', c'', hv2, hcs2⟩ := hU.out.ex
        have eL := HL.out
        have eN := HLD.out
        rw [eN] at hv
        rw [eL] at hv2
        cases hv
        cases hv2
        obtain ⟨b1, o1, e1, _, f1⟩ := hcs (by omega)
        obtain ⟨b2, o2, e2, _, f2⟩ := hcs2 (by omega)
        subst e1 e2
        have g1 := f1 j (by omega)
        have g2 := f2 j (by omega)
        have HB : (at_ = (j : Int) ∧ wn[j]'(by omega) = afterP (ws[j]'(by omega)) ⟨k, at_, x, y, by_⟩ ∧ r = ws[j]'(by omega)) ∨ (at_ ≠ (j : Int) ∧ wn[j]'(by omega) = ws[j]'(by omega)) := by
          by_cases h : at_ = (j : Int)
          · exact .inl ⟨h, HAT.out j (by omega) h (by omega), HG1.out j (by omega) h⟩
          · exact .inr ⟨h, HOT.out j (by omega) h (by omega)⟩
        generalize ws[j]'(by omega) = u at *
        generalize wn[j]'(by omega) = v at *
        have bj : (j : Int) < (L : Int) := by omega
        have HV : Hid (∀ w, at_ = (j : Int) → Calls Tryd.prog 39 #[.int .u64 u, .agg #[.int .i64 k, .int .i64 at_, .int .u64 x, .int .u64 y, .int .u64 by_]] w fun e w' => e = .returned (.int .u64 v) ∧ Below w.heap.size w w') := fun w h => by
          rcases HB with ⟨_, h2, _⟩ | ⟨h1, _⟩
          · rw [h2]; exact HAF.out u w
          · exact absurd h h1
        clear hcs hcs2 f1 f2 eL eN HAF
        rcases HB with ⟨h1, _, rfl⟩ | ⟨h1, rfl⟩
        · have q1 : ((j : Int) == at_) = true := by simp [h1]
          have q2 : ((j : Int) != at_) = false := by simp [h1]
          have HV2 := Lib.hid (fun w => HV.out w h1)
          clear HV h1 hc1
          try clear hc2
          try clear hc3
          go_wp2_with fail
          refine wp_region_reads (by kernel_rfl) (by kernel_rfl) ?_
          repeat (go_big_quiet_step (first | (go_at_call 39; exact calls_later (HV2.out _))))
          refine wpQuiet_nil ?_
          intro w5 hb5
          have R6 := Lib.hid ((hR.out.below hb5).mono hb5.size)
          have U6 := Lib.hid ((hU.out.below hb5).mono hb5.size)
          have P6 := hP.below' hb5
          have W6 := hW.trans (hb5.mono hW.size)
          clear hR hU hP hW hb5 C1 g1 g2
          go_wp2_with fail
          go_roundw
          case rel => exact ⟨j + 1, by go_num, by omega, R6, U6, P6, W6⟩
          case measure => simp [intOf]; omega
        · have q1 : ((j : Int) == at_) = false := by simp; omega
          have q2 : ((j : Int) != at_) = true := by simp; omega
          clear HV h1
          go_wp2_with fail
          refine wp_region_reads (by kernel_rfl) (by kernel_rfl) ?_
          repeat (go_big_quiet_step (fail))
          refine wpQuiet_nil ?_
          intro w5 hb5
          have R6 := Lib.hid ((hR.out.below hb5).mono hb5.size)
          have U6 := Lib.hid ((hU.out.below hb5).mono hb5.size)
          have P6 := hP.below' hb5
          have W6 := hW.trans (hb5.mono hW.size)
          clear hR hU hP hW hb5 C1 g1 g2
          go_wp2_with fail
          go_roundw
          case rel => exact ⟨j + 1, by go_num, by omega, R6, U6, P6, W6⟩
          case measure => simp [intOf]; omega
      · obtain rfl : j = L := by omega
        have W6 := Lib.hid hW
        go_wp2_with fail
        refine (HA.out _).mono ?_
        rintro e w6 ⟨rfl, hb6⟩
        go_wp2_with fail
        go_ret
        exact ⟨rfl, W6.out.trans (hb6.mono W6.out.size)⟩)
end Go.Proofs.YtippfkokgpdmdaaDoor

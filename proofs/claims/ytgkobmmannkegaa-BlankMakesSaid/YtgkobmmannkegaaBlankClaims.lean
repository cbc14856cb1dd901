/-
  BlankAll (chapter 10), walked.
-/
import Derived.Test.YtgkobmmannkegaaBlankAll
import Derived.WalkMore
namespace Go.Proofs.Ytgkobmmannkegaa
open Go Go.RowKit
set_option linter.unusedVariables false

theorem two_rec (w : World) : RecB natR (w.alloc (.cells #[.int .i64 1, .int .i64 2] 3)) w.heap.size (.slice (some ⟨w.heap.size, 0, none⟩) 2 2) [1, 2] := by
  have C := (Blk.new w [.int .i64 1, .int .i64 2] 3).cell
  refine ⟨_, 2, rfl, Nat.le_refl _, fun _ => ⟨0, rfl, fun j hj i hi => ?_⟩⟩
  have hi0 : i = 0 := by simp [natR] at hi; omega
  subst hi0
  have hj2 : j < 2 := hj
  rw [show natR.size = 1 from rfl, C]
  rcases j with _ | _ | j
  · rfl
  · rfl
  · omega
theorem right121 : PRight ((1 : Nat) : Int) ((2 : Nat) : Int) ((1 : Nat) : Int) 0 := by decide
theorem make121 (w : World) : Calls Try.prog 122 #[.agg #[.int .i64 1, .int .i64 2, .int .i64 1, .int .u64 0]] w (NewCells w (blankW 1 2 1 0) fun b => .tuple #[.pointer (some ⟨b, 0, none⟩), .int .i64 0]) :=
  make_calls 1 2 1 0 (by omega) (by omega) (by omega) right121 (by omega) w
theorem all121 (b g : Nat) (w : World) (hC : CellsAt w b g (blankW 1 2 1 0)) : Calls Try.prog 123 #[.pointer (some ⟨b, 0, none⟩), .agg #[.int .i64 1, .int .i64 2, .int .i64 1, .int .u64 0]] w fun e w' =>
    ∃ va vc r, e = .returned (.slice va 2 vc) ∧ RowOf natR 3 w' 0 r (.slice va 2 vc) [1, 2] ∧ Below w.heap.size w w' :=
  blank_all 1 2 1 0 (by omega) (by omega) (by omega) right121 (by omega) b g w hC
set_option maxHeartbeats 4000000 in
set_option maxRecDepth 100000 in
theorem bl_awake : Gives 124 #[] (.bool true) := by
  intro w
  have B0 := Blk.new w [.int .i64 1, .int .i64 2, .int .i64 1, .int .u64 0] 24
  have C0 := B0.cell
  have V0 : Below w.heap.size w (w.alloc (.cells #[.int .i64 1, .int .i64 2, .int .i64 1, .int .u64 0] 24)) := (Below.refl _ _).alloc (Nat.le_refl _) _
  go_enter Try.func124, Try.ntmps124
  go_wp2_with fail
  refine (make121 _).mono ?_
  rintro e w1 ⟨b, g, rfl, hC, hb, hg, hb1⟩
  have B1 := B0.below' hb1
  have C1 := B1.cell
  have D1 := Lib.hid hC
  have V1 := V0.trans (hb1.mono V0.size)
  clear B0 C0 hC hb1 V0
  dsimp only
  go_wp2_with fail
  refine (all121 _ _ _ D1.out).mono ?_
  rintro e w2 ⟨va, vc, r, rfl, hR, hb2⟩
  have R2 := Lib.hid (hR.recB.below ((Below.refl _ _).alloc (Nat.le_refl _) (.cells #[.int .i64 1, .int .i64 2] 3)))
  have V2 := V1.trans (hb2.mono V1.size)
  clear B1 C1 D1 hb2 V1 hR
  dsimp only
  go_wp2_with fail
  refine (same_nats _ _ _ _ _ _ _ [1, 2] R2.out (two_rec _) (by simp)).mono ?_
  rintro e w3 ⟨rfl, hb3⟩
  have V3 := V2.trans (((Below.refl _ _).alloc (Nat.le_refl _) _).trans (hb3.mono (by simp)) |>.mono V2.size)
  dsimp only
  go_wp2_with fail
  go_ret
  exact ⟨rfl, V3⟩
theorem blankAll_no (T S L G : Int) (h : ¬ PRight T S L G) (w : World) : Calls Try.prog 20 #[planV T S L G] w fun e w' => e = .returned (.bool true) ∧ Below w.heap.size w w' := by
  have H := Lib.hid h
  have B0 := Blk.new w [.int .i64 T, .int .i64 S, .int .i64 L, .int .u64 G] 24
  have C0 := B0.cell
  have V0 : Below w.heap.size w (w.alloc (.cells #[.int .i64 T, .int .i64 S, .int .i64 L, .int .u64 G] 24)) := (Below.refl _ _).alloc (Nat.le_refl _) _
  clear h
  go_enter Try.func20, Try.ntmps20
  go_wp2_with fail
  refine (make_no T S L G H.out _).mono ?_
  rintro e w1 ⟨rfl, hb1⟩
  have B1 := B0.below' hb1
  have C1 := B1.cell
  have V1 := V0.trans (hb1.mono V0.size)
  clear B0 C0 hb1 V0
  dsimp only
  go_wp2_with fail
  refine (free_no T S L G H.out _ _).mono ?_
  rintro e w2 ⟨rfl, hb2⟩
  have V2 := V1.trans (hb2.mono V1.size)
  clear B1 C1 hb2 V1
  dsimp only
  go_wp2_with fail
  refine (bl_awake _).mono ?_
  rintro e w3 ⟨rfl, hb3⟩
  have V3 := V2.trans (hb3.mono V2.size)
  dsimp only
  go_wp2_with fail
  go_ret
  exact ⟨rfl, V3⟩
section
variable (T S L : Nat) (G : Int) (hT : T ≤ 8) (hS : S ≤ 64) (hL : L ≤ 8)
include hT hS hL
set_option maxHeartbeats 4000000 in
set_option maxRecDepth 100000 in
theorem blankAll_yes (hP : PRight T S L G) (hG : 0 ≤ G) (w : World) : Calls Try.prog 20 #[planV T S L G] w fun e w' => e = .returned (.bool true) ∧ Below w.heap.size w w' := by
  have HP := Lib.hid hP
  have B0 := Blk.new w [.int .i64 T, .int .i64 S, .int .i64 L, .int .u64 G] 24
  have C0 := B0.cell
  have V0 : Below w.heap.size w (w.alloc (.cells #[.int .i64 T, .int .i64 S, .int .i64 L, .int .u64 G] 24)) := (Below.refl _ _).alloc (Nat.le_refl _) _
  clear hP
  go_enter Try.func20, Try.ntmps20
  go_wp2_with fail
  refine (make_calls T S L G hT hS hL HP.out hG _).mono ?_
  rintro e w1 ⟨b, g, rfl, hC, hb, hg, hb1⟩
  have B1 := B0.below' hb1
  have C1 := B1.cell
  have D1 := Lib.hid hC
  have V1 := V0.trans (hb1.mono V0.size)
  clear B0 C0 hC hb1 V0
  dsimp only
  go_wp2_with fail
  refine (blank_all T S L G hT hS hL HP.out hG _ _ _ D1.out).mono ?_
  rintro e w2 ⟨va, vc, r, rfl, hR, hb2⟩
  have R2 := Lib.hid hR.recB
  have B2 := B1.below' hb2
  have C2 := B2.cell
  have V2 := V1.trans (hb2.mono V1.size)
  clear B1 C1 D1 hb2 V1 hR
  dsimp only
  go_wp2_with fail
  go_loop [6] (fun t => ∃ k : Nat, k ≤ S ∧ t = .int .i64 k) (fun t => S - (intOf t).toNat)
  case atStart => exact ⟨0, by omega, rfl⟩
  case round =>
    obtain ⟨k, hk, rfl⟩ := hrel
    by_cases hlt : k < S
    · obtain ⟨o1, rfl, q1⟩ := nat_cell R2.out (Below.refl _ _) (by rw [List.length_range']; omega)
      have p0 := q1 k (by rw [List.length_range']; omega)
      rw [List.getElem_range'] at p0
      rw [show ((1 + 1 * k : Nat) : Int) = (k : Int) + 1 by omega] at p0
      clear q1
      have e1 : wrap64 ((k : Int) + 1) = (k : Int) + 1 := by rw [wrap64_def]; omega
      go_wp2_with fail
      go_round
      case rel => exact ⟨k + 1, by omega, by go_num⟩
      case measure => simp [intOf]; omega
    · have hge : k = S := by omega
      go_wp2_with fail
      refine (bl_awake _).mono ?_
      rintro e w3 ⟨rfl, hb3⟩
      have V3 := V2.trans (hb3.mono V2.size)
      dsimp only
      go_wp2_with fail
      go_ret
      exact ⟨rfl, V3⟩
end
theorem blankAll_walk (T S L G : Int) (hG : 0 ≤ G) (w : World) : Calls Try.prog 20 #[planV T S L G] w fun e w' => e = .returned (.bool true) ∧ Below w.heap.size w w' := by
  by_cases h : PRight T S L G
  · have h' := h
    obtain ⟨⟨a, b⟩, ⟨c, d⟩, ⟨e, f⟩, _⟩ := h'
    obtain ⟨T, rfl⟩ : ∃ m : Nat, T = m := ⟨T.toNat, by omega⟩
    obtain ⟨S, rfl⟩ : ∃ m : Nat, S = m := ⟨S.toNat, by omega⟩
    obtain ⟨L, rfl⟩ : ∃ m : Nat, L = m := ⟨L.toNat, by omega⟩
    exact blankAll_yes T S L G (by omega) (by omega) (by omega) h hG w
  · exact blankAll_no T S L G h w
end Go.Proofs.Ytgkobmmannkegaa

/-
  Taking and giving a slot, done alone (chapter 12): sundiallaw12.pop and push; the fixed course.
-/
import Derived.Test.YtgkobmmannkegaaPool
import Derived.Test.YtgkobmmannkegaaDeed
import Derived.Test.YtgkobmmannkegaaBlankAll
namespace Go.Proofs.Ytgkobmmannkegaa
open Go Go.RowKit
set_option linter.unusedVariables false

theorem Mod.away {w w1 w2 : World} {g t : Nat} (h : Mod (fun k => k = g) w w1) (h2 : Mod (fun k => k = t) w1 w2) (ht : w.heap.size ≤ t) : Mod (fun k => k = g) w w2 := h.trans h2 (fun k hk e => by omega)
set_option maxHeartbeats 4000000 in
set_option maxRecDepth 100000 in
theorem pop_do (T S L G : Int) (w : World) (b g : Nat) (ws : List Int) (hC : CellsAt w b g ws) (st : PopS) (ws' : List Int) (hr : runs (popM T L) 19 pop0 ws = (st, ws')) (hd : (popM T L).more st = false) :
    Calls Try.prog 142 #[.pointer (some ⟨b, 0, none⟩), planV T S L G] w fun e w' => e = .returned (.int .i64 (popIndex st)) ∧ CellsAt w' b g ws' ∧ Mod (fun k => k = g) w w' := by
  have B0 := Blk.new w [.int .i64 T, .int .i64 S, .int .i64 L, .int .u64 G] 24
  have C0 := B0.cell
  have V0 : Mod (fun k => k = g) w (w.alloc (.cells #[.int .i64 T, .int .i64 S, .int .i64 L, .int .u64 G] 24)) := (Mod.refl _ _).alloc _
  have D0 := Lib.hid (hC.below ((Below.refl _ _).alloc (Nat.le_refl _) (.cells #[.int .i64 T, .int .i64 S, .int .i64 L, .int .u64 G] 24)))
  have lt0 := hC.lt
  have L0 := Lib.hid (Left.start (popM T L) 19 pop0 ws)
  rw [hr] at L0
  have HD := Lib.hid hd
  have hbt := B0.lt
  clear hC hr hd
  go_enter Try.func142, Try.ntmps142
  go_wp2_with fail
  refine (pop_new T S L G _).mono ?_
  rintro e w1 ⟨t, rfl, ht1, ht2, hT, hb1⟩
  have T1 := Lib.hid hT
  have D1 := Lib.hid (D0.out.below hb1)
  have V1 := V0.thenBelow hb1
  have htt : w.heap.size ≤ t ∧ b < t ∧ g < t := by omega
  clear hT B0 C0 V0 D0 hb1 ht1 ht2 hbt
  dsimp only
  go_wp2_with fail
  go_loopw [6] (fun i wr => ∃ (k : Nat) (s : PopS) (cur : List Int), k ≤ 19 ∧ i = .int .i64 k ∧ Hid (Left (popM T L) 19 k s cur (st, ws')) ∧ Hid (CellsAt wr b g cur) ∧ Hid (Blk wr t (popCells T S L G s) 210) ∧ Mod (fun k => k = g) w wr) (fun i _ => 20 - (intOf i).toNat)
  case atStart => exact ⟨0, _, _, by omega, rfl, L0, D1, T1, V1⟩
  case round =>
    obtain ⟨k, s, cur, hk, rfl, hLf, hC, hT, hW⟩ := hrel
    clear L0 D1 T1 V1
    cases hm : (popM T L).more s with
    | true =>
      have HMO := Lib.hid hm
      have hk2 : k < 19 := by
        by_cases h : k < 19
        · exact h
        · have e1 := hLf.out.out (by omega)
          rw [Prod.mk.injEq] at e1
          have := HD.out
          rw [e1.1, hm] at this
          cases this
      clear hm
      go_wp2_with fail
      refine (pop_nextY T S L G wr t s hT.out HMO.out).mono ?_
      rintro e w5 ⟨rfl, hb5⟩
      have T5 : Hid (Blk w5 t (popCells T S L G s) 210) := hT.out.below' hb5
      have D5 := Lib.hid (hC.out.below hb5)
      have W5 := hW.thenBelow hb5
      have D6 := Lib.hid (D5.out.below ((Below.refl _ _).alloc (Nat.le_refl _) (.cells ((popM T L).deed s).cells.toArray 31)))
      clear hC hT hW hb5
      dsimp only
      go_wp2_with fail
      refine (deed_do _ b g _ D6.out ((popM T L).deed s)).mono ?_
      rintro e w6 ⟨rfl, hC6, hM6⟩
      have M6 : Mod (fun k => k = g) w5 w6 := ((Mod.refl _ _).alloc _).trans' hM6
      have T6 := Lib.hid (M6.blk T5.out (by omega))
      have D7 := Lib.hid hC6
      have W6 := W5.trans' M6
      have LN := Lib.hid (hLf.out.step hk2 HMO.out)
      clear T5 D5 W5 D6 hC6 hM6 M6 hLf
      dsimp only
      go_wp2_with fail
      refine (pop_tell T S L G w6 t s _ T6.out).mono ?_
      rintro e w7 ⟨rfl, hT7, hM7⟩
      have T7 := Lib.hid hT7
      have D8 := Lib.hid (D7.out.mod hM7 (by omega) (by omega))
      have W7 := W6.away hM7 htt.1
      clear T6 D7 W6 hT7 hM7
      dsimp only
      go_wp2_with fail
      go_roundw
      case rel => exact ⟨k + 1, _, _, by omega, by go_num, LN, D8, T7, W7⟩
      case measure => simp [intOf]; omega
    | false =>
      have HMO := Lib.hid hm
      have e1 := hLf.out.stop hm
      rw [Prod.mk.injEq] at e1
      obtain ⟨e1, e2⟩ := e1
      subst e1
      have HE2 := Lib.hid e2
      clear e2 hm
      go_wp2_with fail
      refine (pop_nextN T S L G wr t _ hT.out HMO.out).mono ?_
      rintro e w5 ⟨rfl, hb5⟩
      have hb6 := hb5.alloc hb5.size (.cells #[.int .i64 0, .int .i64 0, .int .u64 0, .int .u64 0, .int .u64 0] 31)
      have T6 : Hid (Blk _ t (popCells T S L G st) 210) := hT.out.below' hb6
      have D6 := Lib.hid (hC.out.below hb6)
      have W6 := hW.thenBelow hb6
      dsimp only
      go_wp2_with fail
      refine (pop_index T S L G _ t st T6.out).mono ?_
      rintro e w7 ⟨rfl, hb7⟩
      dsimp only
      go_wp2_with fail
      go_ret
      exact ⟨rfl, by rw [HE2.out]; exact D6.out.below hb7, W6.thenBelow hb7⟩
set_option maxHeartbeats 4000000 in
set_option maxRecDepth 100000 in
theorem push_do (T S L G i : Int) (w : World) (b g : Nat) (ws : List Int) (hC : CellsAt w b g ws) (st : PushS) (ws' : List Int) (hr : runs (pushM T L i) 19 push0 ws = (st, ws')) (hd : (pushM T L i).more st = false) :
    Calls Try.prog 143 #[.pointer (some ⟨b, 0, none⟩), planV T S L G, .int .i64 i] w fun e w' => e = .returned (.bool true) ∧ CellsAt w' b g ws' ∧ Mod (fun k => k = g) w w' := by
  have B0 := Blk.new w [.int .i64 T, .int .i64 S, .int .i64 L, .int .u64 G] 24
  have C0 := B0.cell
  have V0 : Mod (fun k => k = g) w (w.alloc (.cells #[.int .i64 T, .int .i64 S, .int .i64 L, .int .u64 G] 24)) := (Mod.refl _ _).alloc _
  have D0 := Lib.hid (hC.below ((Below.refl _ _).alloc (Nat.le_refl _) (.cells #[.int .i64 T, .int .i64 S, .int .i64 L, .int .u64 G] 24)))
  have lt0 := hC.lt
  have L0 := Lib.hid (Left.start (pushM T L i) 19 push0 ws)
  rw [hr] at L0
  have HD := Lib.hid hd
  have hbt := B0.lt
  clear hC hr hd
  go_enter Try.func143, Try.ntmps143
  go_wp2_with fail
  refine (push_new T S L G i _).mono ?_
  rintro e w1 ⟨t, rfl, ht1, ht2, hT, hb1⟩
  have T1 := Lib.hid hT
  have D1 := Lib.hid (D0.out.below hb1)
  have V1 := V0.thenBelow hb1
  have htt : w.heap.size ≤ t ∧ b < t ∧ g < t := by omega
  clear hT B0 C0 V0 D0 hb1 ht1 ht2 hbt
  dsimp only
  go_wp2_with fail
  go_loopw [8] (fun i' wr => ∃ (k : Nat) (s : PushS) (cur : List Int), k ≤ 19 ∧ i' = .int .i64 k ∧ Hid (Left (pushM T L i) 19 k s cur (st, ws')) ∧ Hid (CellsAt wr b g cur) ∧ Hid (Blk wr t (pushCells T S L G i s) 212) ∧ Mod (fun k => k = g) w wr) (fun i _ => 20 - (intOf i).toNat)
  case atStart => exact ⟨0, _, _, by omega, rfl, L0, D1, T1, V1⟩
  case round =>
    obtain ⟨k, s, cur, hk, rfl, hLf, hC, hT, hW⟩ := hrel
    clear L0 D1 T1 V1
    cases hm : (pushM T L i).more s with
    | true =>
      have HMO := Lib.hid hm
      have hk2 : k < 19 := by
        by_cases h : k < 19
        · exact h
        · have e1 := hLf.out.out (by omega)
          rw [Prod.mk.injEq] at e1
          have := HD.out
          rw [e1.1, hm] at this
          cases this
      clear hm
      go_wp2_with fail
      refine (push_nextY T S L G i wr t s hT.out HMO.out).mono ?_
      rintro e w5 ⟨rfl, hb5⟩
      have T5 : Hid (Blk w5 t (pushCells T S L G i s) 212) := hT.out.below' hb5
      have D5 := Lib.hid (hC.out.below hb5)
      have W5 := hW.thenBelow hb5
      have D6 := Lib.hid (D5.out.below ((Below.refl _ _).alloc (Nat.le_refl _) (.cells ((pushM T L i).deed s).cells.toArray 31)))
      clear hC hT hW hb5
      dsimp only
      go_wp2_with fail
      refine (deed_do _ b g _ D6.out ((pushM T L i).deed s)).mono ?_
      rintro e w6 ⟨rfl, hC6, hM6⟩
      have M6 : Mod (fun k => k = g) w5 w6 := ((Mod.refl _ _).alloc _).trans' hM6
      have T6 := Lib.hid (M6.blk T5.out (by omega))
      have D7 := Lib.hid hC6
      have W6 := W5.trans' M6
      have LN := Lib.hid (hLf.out.step hk2 HMO.out)
      clear T5 D5 W5 D6 hC6 hM6 M6 hLf
      dsimp only
      go_wp2_with fail
      refine (push_tell T S L G i w6 t s _ T6.out).mono ?_
      rintro e w7 ⟨rfl, hT7, hM7⟩
      have T7 := Lib.hid hT7
      have D8 := Lib.hid (D7.out.mod hM7 (by omega) (by omega))
      have W7 := W6.away hM7 htt.1
      clear T6 D7 W6 hT7 hM7
      dsimp only
      go_wp2_with fail
      go_roundw
      case rel => exact ⟨k + 1, _, _, by omega, by go_num, LN, D8, T7, W7⟩
      case measure => simp [intOf]; omega
    | false =>
      have HMO := Lib.hid hm
      have e1 := hLf.out.stop hm
      rw [Prod.mk.injEq] at e1
      obtain ⟨e1, e2⟩ := e1
      subst e1
      have HE2 := Lib.hid e2
      clear e2 hm
      go_wp2_with fail
      refine (push_nextN T S L G i wr t _ hT.out HMO.out).mono ?_
      rintro e w5 ⟨rfl, hb5⟩
      have hb6 := hb5.alloc hb5.size (.cells #[.int .i64 0, .int .i64 0, .int .u64 0, .int .u64 0, .int .u64 0] 31)
      have D6 := Lib.hid (hC.out.below hb6)
      have W6 := hW.thenBelow hb6
      dsimp only
      go_wp2_with fail
      go_ret
      exact ⟨rfl, by rw [HE2.out]; exact D6.out, W6⟩
/-- The fixed course: the words behind each step. -/
def pc1 : PopS × List Int := runs (popM 1 1) 19 pop0 (blankW 1 3 1 0)
def pc2 : PopS × List Int := runs (popM 1 1) 19 pop0 pc1.2
def pc3 : PushS × List Int := runs (pushM 1 1 1) 19 push0 pc2.2
def pc4 : PopS × List Int := runs (popM 1 1) 19 pop0 pc3.2
theorem pc_ok : ((popM 1 1).more pc1.1 = false ∧ popIndex pc1.1 = 1) ∧ ((popM 1 1).more pc2.1 = false ∧ popIndex pc2.1 = 2) ∧ (pushM 1 1 1).more pc3.1 = false ∧ (popM 1 1).more pc4.1 = false ∧ popIndex pc4.1 = 1 := by decide +kernel
theorem right132 : PRight ((1 : Nat) : Int) ((3 : Nat) : Int) ((1 : Nat) : Int) 0 := by decide
theorem make132 (w : World) : Calls Try.prog 122 #[.agg #[.int .i64 1, .int .i64 3, .int .i64 1, .int .u64 0]] w (NewCells w (blankW 1 3 1 0) fun b => .tuple #[.pointer (some ⟨b, 0, none⟩), .int .i64 0]) :=
  make_calls 1 3 1 0 (by omega) (by omega) (by omega) right132 (by omega) w
abbrev plan132 : Value := .agg #[.int .i64 1, .int .i64 3, .int .i64 1, .int .u64 0]
theorem pop132a (w : World) (b g : Nat) (hC : CellsAt w b g (blankW 1 3 1 0)) : Calls Try.prog 142 #[.pointer (some ⟨b, 0, none⟩), plan132] w fun e w' => e = .returned (.int .i64 1) ∧ CellsAt w' b g pc1.2 ∧ Mod (fun k => k = g) w w' := by
  have := pop_do 1 3 1 0 w b g _ hC pc1.1 pc1.2 rfl pc_ok.1.1
  rw [pc_ok.1.2] at this
  exact this
theorem pop132b (w : World) (b g : Nat) (hC : CellsAt w b g pc1.2) : Calls Try.prog 142 #[.pointer (some ⟨b, 0, none⟩), plan132] w fun e w' => e = .returned (.int .i64 2) ∧ CellsAt w' b g pc2.2 ∧ Mod (fun k => k = g) w w' := by
  have := pop_do 1 3 1 0 w b g _ hC pc2.1 pc2.2 rfl pc_ok.2.1.1
  rw [pc_ok.2.1.2] at this
  exact this
theorem push132 (w : World) (b g : Nat) (hC : CellsAt w b g pc2.2) : Calls Try.prog 143 #[.pointer (some ⟨b, 0, none⟩), plan132, .int .i64 1] w fun e w' => e = .returned (.bool true) ∧ CellsAt w' b g pc3.2 ∧ Mod (fun k => k = g) w w' :=
  push_do 1 3 1 0 1 w b g _ hC pc3.1 pc3.2 rfl pc_ok.2.2.1
theorem pop132c (w : World) (b g : Nat) (hC : CellsAt w b g pc3.2) : Calls Try.prog 142 #[.pointer (some ⟨b, 0, none⟩), plan132] w fun e w' => e = .returned (.int .i64 1) ∧ CellsAt w' b g pc4.2 ∧ Mod (fun k => k = g) w w' := by
  have := pop_do 1 3 1 0 w b g _ hC pc4.1 pc4.2 rfl pc_ok.2.2.2.1
  rw [pc_ok.2.2.2.2] at this
  exact this
set_option maxHeartbeats 4000000 in
set_option maxRecDepth 100000 in
theorem pool_awake : Gives 132 #[] (.bool true) := by
  intro w
  have B0 := Blk.new w [.int .i64 1, .int .i64 3, .int .i64 1, .int .u64 0] 24
  have C0 := B0.cell
  have V0 : Below w.heap.size w (w.alloc (.cells #[.int .i64 1, .int .i64 3, .int .i64 1, .int .u64 0] 24)) := (Below.refl _ _).alloc (Nat.le_refl _) _
  go_enter Try.func132, Try.ntmps132
  go_wp2_with fail
  refine (make132 _).mono ?_
  rintro e w1 ⟨b, g, rfl, hC, hb, hg, hb1⟩
  have B1 := B0.below' hb1
  have C1 := B1.cell
  have D1 := Lib.hid hC
  have V1 := V0.trans (hb1.mono V0.size)
  have hbg : w.heap.size < b ∧ w.heap.size < g := by have := B0.lt; omega
  clear B0 C0 hC hb1 V0 hb hg
  dsimp only
  go_wp2_with fail
  refine (pop132a _ _ _ D1.out).mono ?_
  rintro e w2 ⟨rfl, hC, hM⟩
  have B2 := hM.blk B1 (by omega)
  have C2 := B2.cell
  have D2 := Lib.hid hC
  have V2 := below_mod V1 hM V1.size (fun q hq e => by omega)
  clear B1 C1 hC hM V1 D1
  dsimp only
  go_wp2_with fail
  refine (pop132b _ _ _ D2.out).mono ?_
  rintro e w3 ⟨rfl, hC, hM⟩
  have B3 := hM.blk B2 (by omega)
  have C3 := B3.cell
  have D3 := Lib.hid hC
  have V3 := below_mod V2 hM V2.size (fun q hq e => by omega)
  clear B2 C2 hC hM V2 D2
  dsimp only
  go_wp2_with fail
  refine (push132 _ _ _ D3.out).mono ?_
  rintro e w4 ⟨rfl, hC, hM⟩
  have B4 := hM.blk B3 (by omega)
  have C4 := B4.cell
  have D4 := Lib.hid hC
  have V4 := below_mod V3 hM V3.size (fun q hq e => by omega)
  clear B3 C3 hC hM V3 D3
  dsimp only
  go_wp2_with fail
  refine (pop132c _ _ _ D4.out).mono ?_
  rintro e w5 ⟨rfl, hC, hM⟩
  have V5 := below_mod V4 hM V4.size (fun q hq e => by omega)
  dsimp only
  go_wp2_with fail
  go_ret
  exact ⟨rfl, V5⟩
end Go.Proofs.Ytgkobmmannkegaa

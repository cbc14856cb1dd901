/-
  The law PinHolds (chapter 13), walked.
-/
import Derived.Test.YtgkobmmannkegaaDeed
import Derived.Test.YtgkobmmannkegaaPinClaims
import Derived.Test.YtgkobmmannkegaaBlankAll
import Derived.Test.YtgkobmmannkegaaAlonePlain
namespace Go.Proofs.Ytgkobmmannkegaa
open Go Go.RowKit
set_option linter.unusedVariables false

/-- Pinning, done alone: the task behind k deeds; the words. -/
def phS (wh e : Int) : Nat → PinS
  | 0 => ⟨1, wh, 0⟩
  | 1 => ⟨2, wh, e⟩
  | _ => ⟨0, wh, e⟩
def phW (ws : List Int) (wh e : Int) : Nat → List Int
  | 0 => ws
  | 1 => ws
  | _ => wset ws wh e
theorem ph_step (ws : List Int) (wh e : Int) (h0 : wget ws 0 = e) (k : Nat) (hk : k < 2) : pinM.more (phS wh e k) = true ∧ pinM.tell (phS wh e k) (dGet (phW ws wh e k) (pinM.deed (phS wh e k))) = phS wh e (k + 1) ∧ dDo (phW ws wh e k) (pinM.deed (phS wh e k)) = phW ws wh e (k + 1) := by
  have h : k = 0 ∨ k = 1 := by omega
  rcases h with rfl | rfl
  · have hd : pinM.deed (phS wh e 0) = ⟨1, 0, 0, 0, 0⟩ := by simp [pinM, pinDeed, phS]
    rw [hd, dGet_load, dDo_load]
    refine ⟨by simp [pinM, phS], ?_, rfl⟩
    simp [pinM, pinTell, phS, phW, h0]
  · have hd : pinM.deed (phS wh e 1) = ⟨2, wh, e, 0, 0⟩ := by simp [pinM, pinDeed, phS]
    rw [hd, dGet_store, dDo_store]
    refine ⟨by simp [pinM, phS], ?_, rfl⟩
    simp [pinM, pinTell, phS]
theorem pinHolds_no (T S L G th ep : Int) (h : ¬ PRight T S L G) (w : World) : Calls Try.prog 26 #[planV T S L G, .int .i64 th, .int .u64 ep] w fun e w' => e = .returned (.bool true) ∧ Below w.heap.size w w' := by
  have H := Lib.hid h
  have B0 := Blk.new w [.int .i64 T, .int .i64 S, .int .i64 L, .int .u64 G] 24
  have C0 := B0.cell
  have V0 : Below w.heap.size w (w.alloc (.cells #[.int .i64 T, .int .i64 S, .int .i64 L, .int .u64 G] 24)) := (Below.refl _ _).alloc (Nat.le_refl _) _
  clear h
  go_enter Try.func26, Try.ntmps26
  go_wp2_with fail
  refine (make_no T S L G H.out _).mono ?_
  rintro e w1 ⟨rfl, hb1⟩
  have V1 := V0.trans (hb1.mono V0.size)
  dsimp only
  go_wp2_with fail
  refine (pin_awake _).mono ?_
  rintro e w3 ⟨rfl, hb3⟩
  have V3 := V1.trans (hb3.mono V1.size)
  dsimp only
  go_wp2_with fail
  go_ret
  exact ⟨rfl, V3⟩
section
variable (T S L : Nat) (G : Int) (hT : T ≤ 8) (hS : S ≤ 64) (hL : L ≤ 8)
include hT hS hL
set_option maxHeartbeats 1000000 in
set_option maxRecDepth 100000 in
theorem pinHolds_out (hP : PRight T S L G) (hG : 0 ≤ G) (th ep : Int) (ht : th < 0 ∨ (T : Int) ≤ th) (w : World) : Calls Try.prog 26 #[planV T S L G, .int .i64 th, .int .u64 ep] w fun e w' => e = .returned (.bool true) ∧ Below w.heap.size w w' := by
  have HP := Lib.hid hP
  have B0 := Blk.new w [.int .i64 T, .int .i64 S, .int .i64 L, .int .u64 G] 24
  have C0 := B0.cell
  have V0 : Below w.heap.size w (w.alloc (.cells #[.int .i64 T, .int .i64 S, .int .i64 L, .int .u64 G] 24)) := (Below.refl _ _).alloc (Nat.le_refl _) _
  clear hP
  rcases ht with ht | ht
  all_goals
    go_enter Try.func26, Try.ntmps26
    go_wp2_with fail
    refine (make_calls T S L G hT hS hL HP.out hG _).mono ?_
    rintro e w1 ⟨b, g, rfl, hC, hb, hg, hb1⟩
    have B1 := B0.below' hb1
    have C1 := B1.cell
    have V1 := V0.trans (hb1.mono V0.size)
    clear B0 C0 hC hb1 V0 hb hg
    dsimp only
    go_wp2_with fail
    refine (pin_awake _).mono ?_
    rintro e w3 ⟨rfl, hb3⟩
    have V3 := V1.trans (hb3.mono V1.size)
    dsimp only
    go_wp2_with fail
    go_ret
    exact ⟨rfl, V3⟩
/-- The words behind pinning. -/
def phWs (th : Nat) (ep : Int) : List Int := wset (wset (blankW T S L G) 0 ep) (4 + (th : Int)) ep
omit hT hS hL in
theorem phWs_get (hP : PRight T S L G) (th : Nat) (ep : Int) (ht : th < T) (k : Nat) (hk : k < T) : wget (phWs T S L G th ep) (4 + (k : Int)) = if k = th then ep else 0 := by
  have hN : 4 + T < pCount T S L := by
    have := hP.1; have := hP.2.1
    unfold pCount
    have : 1 * 6 ≤ S * (6 + L) := Nat.mul_le_mul (by omega) (by omega)
    omega
  unfold phWs blankW
  rw [show (4 + (th : Int)) = ((4 + th : Nat) : Int) by omega, show (4 + (k : Int)) = ((4 + k : Nat) : Int) by omega, show (0 : Int) = ((0 : Nat) : Int) from rfl, vals_wset _ _ _ (by omega), vals_wset _ _ _ (by omega), vals_wget _ _ _ (by omega)]
  unfold upd blankF pBase
  by_cases e : k = th
  · subst e; simp
  · rw [if_neg (by omega), if_neg (by omega), if_neg (by omega), if_neg (by omega), if_pos (by omega), if_neg e]; rfl
omit hT hS hL in
theorem phWs_zero (hP : PRight T S L G) (th : Nat) (ep x : Int) (ht : th < T) : wget (wset (phWs T S L G th ep) (4 + (th : Int)) x) 0 = ep ∧ wget (wset (phWs T S L G th ep) (4 + (th : Int)) x) (4 + (th : Int)) = x ∧ wget (wset (blankW T S L G) 0 ep) 0 = ep := by
  have hN : 4 + T < pCount T S L := by
    have := hP.1; have := hP.2.1
    unfold pCount
    have : 1 * 6 ≤ S * (6 + L) := Nat.mul_le_mul (by omega) (by omega)
    omega
  have hl := blankW_length T S L G
  refine ⟨?_, ?_, ?_⟩
  · unfold phWs
    rw [wget_wset_other _ (by omega), wget_wset_other _ (by omega), wget_wset_same _ (by rw [hl]; omega)]
  · rw [wget_wset_same]
    unfold phWs
    rw [wset_length, wset_length, hl]; omega
  · rw [wget_wset_same _ (by rw [hl]; omega)]
set_option maxHeartbeats 4000000 in
set_option maxRecDepth 100000 in
theorem pinHolds_in (hP : PRight T S L G) (hG : 0 ≤ G) (th : Nat) (ep : Int) (ht : th < T) (w : World) : Calls Try.prog 26 #[planV T S L G, .int .i64 (th : Int), .int .u64 ep] w fun e w' => e = .returned (.bool true) ∧ Below w.heap.size w w' := by
  have HP := Lib.hid hP
  have B0 := Blk.new w [.int .i64 T, .int .i64 S, .int .i64 L, .int .u64 G] 24
  have C0 := B0.cell
  have V0 : Below w.heap.size w (w.alloc (.cells #[.int .i64 T, .int .i64 S, .int .i64 L, .int .u64 G] 24)) := (Below.refl _ _).alloc (Nat.le_refl _) _
  have GE := Lib.hid (fun k hk => phWs_get T S L G hP th ep ht k hk)
  have Z := Lib.hid (phWs_zero T S L G hP th ep 0 ht)
  have hwh := wrap_lo (4 + (th : Int)) (by omega) (by omega)
  have HWH : Hid (wrap64 (4 + (th : Int)) = (4 + (th : Int))) := hwh
  have PK : Hid (∀ k : Nat, k < T → Gives 42 #[planV T S L G, .int .i64 (k : Int)] (.int .i64 (4 + (k : Int)))) := fun k hk => by
    have := pin_calls T S L G (k : Int)
    rw [wrap_lo _ (by omega) (by omega)] at this
    exact this
  clear hP hwh
  go_enter Try.func26, Try.ntmps26
  go_wp2_with fail
  refine (make_calls T S L G hT hS hL HP.out hG _).mono ?_
  rintro e w1 ⟨b, g, rfl, hC, hb, hg, hb1⟩
  have B1 := B0.below' hb1
  have C1 := B1.cell
  have D1 := Lib.hid hC
  have V1 := V0.trans (hb1.mono V0.size)
  have hbg : w.heap.size < b ∧ w.heap.size < g := by simp at hb hg; omega
  clear B0 C0 hC hb1 V0 hb hg
  dsimp only
  go_wp2_with fail
  refine (cells_store _ _ _ _ D1.out _ _).mono ?_
  rintro e w2 ⟨rfl, hC, hM⟩
  have B2 := hM.blk B1 (by omega)
  have C2 := B2.cell
  have D2 := Lib.hid hC
  have V2 := below_mod V1 hM V1.size (fun q hq e => by omega)
  clear B1 C1 D1 V1 hC hM
  dsimp only
  go_wp2_with fail
  refine (pinner_new T S L G th (w2.heap.size - 1) w2 (by have := B2.lt; omega)).mono ?_
  rw [HWH.out]
  rintro e w3 ⟨t, rfl, htl, hT3, hb3⟩
  have lt2 := D2.out.lt
  have l2 := B2.lt
  have B3 := B2.below' hb3
  have C3 := B3.cell
  have D3 := Lib.hid (D2.out.below hb3)
  have T3 := Lib.hid hT3
  have V3 := V2.trans (hb3.mono V2.size)
  have h3 := hb3.size
  generalize hlo : w2.heap.size - 1 = lo at *
  have hlo' : b ≤ lo ∧ g ≤ lo ∧ w.heap.size ≤ lo := by omega
  clear B2 C2 D2 V2 hb3 hT3 hlo lt2 l2 h3
  dsimp only
  go_wp2_with fail
  go_loopw [10] (fun i wr => ∃ k : Nat, k ≤ 2 ∧ i = .int .i64 k ∧ Hid (pinnerAt lo t wr (phS (4 + (th : Int)) ep k)) ∧ Hid (CellsAt wr b g (phW (wset (blankW T S L G) 0 ep) (4 + (th : Int)) ep k)) ∧
    Blk wr w.heap.size [.int .i64 T, .int .i64 S, .int .i64 L, .int .u64 G] 24 ∧ Below w.heap.size w wr) (fun i _ => 2 - (intOf i).toNat)
  case atStart => exact ⟨0, by omega, rfl, T3, D3, B3, V3⟩
  case round =>
    obtain ⟨k, hk, rfl, hR, hC, hP, hW⟩ := hrel
    clear T3 D3 B3 V3 C3
    have CP := hP.cell
    by_cases hlt : k < 2
    · have HS := Lib.hid (ph_step (wset (blankW T S L G) 0 ep) (4 + (th : Int)) ep Z.out.2.2 k hlt)
      go_wp2_with fail
      refine (pinner_nextY lo wr t _ hR.out HS.out.1).mono ?_
      rintro e w5 ⟨rfl, hb5⟩
      have R5 : Hid (pinnerAt lo t w5 _) := (pinner_rep lo t).keep _ _ _ (fun _ => False) hR.out (Mod.of_below hb5) (fun _ _ => id)
      have D5 := Lib.hid (hC.out.below hb5)
      have P5 := hP.below' hb5
      have W5 := hW.trans (hb5.mono hW.size)
      have D6 := Lib.hid (D5.out.below ((Below.refl _ _).alloc (Nat.le_refl _) (.cells (pinM.deed (phS (4 + (th : Int)) ep k)).cells.toArray 31)))
      have Q6 := Blk.new w5 (pinM.deed (phS (4 + (th : Int)) ep k)).cells 31
      clear hR hC hP hW hb5 CP
      dsimp only
      go_wp2_with fail
      refine (deed_do _ b g _ D6.out (pinM.deed (phS (4 + (th : Int)) ep k))).mono ?_
      rintro e w6 ⟨rfl, hC6, hM6⟩
      have M6 : Mod (fun k => k = g) w5 w6 := ((Mod.refl _ _).alloc _).trans' hM6
      have R6 : Hid (pinnerAt lo t w6 _) := (pinner_rep lo t).keep _ _ _ _ R5.out M6 (fun q hq e => by omega)
      rw [HS.out.2.2] at hC6
      have D7 := Lib.hid hC6
      have P6 := M6.blk P5 (by omega)
      have W6 := below_mod W5 M6 W5.size (fun q hq e => by omega)
      clear R5 D5 P5 W5 D6 Q6 hC6 hM6 M6
      dsimp only
      go_wp2_with fail
      refine (pinner_tell lo w6 t _ _ R6.out).mono ?_
      rw [HS.out.2.1]
      rintro e w7 ⟨rfl, hR7, hM7⟩
      have R7 := Lib.hid hR7
      have D8 := Lib.hid (D7.out.mod hM7 (by omega) (by omega))
      have P7 := hM7.blk P6 (by omega)
      have W7 := below_mod W6 hM7 W6.size (fun q hq e => by omega)
      clear R6 D7 P6 W6 hR7 hM7
      dsimp only
      go_wp2_with fail
      go_roundw
      case rel => exact ⟨k + 1, by omega, by go_num, R7, D8, P7, W7⟩
      case measure => simp [intOf]; omega
    · obtain rfl : k = 2 := by omega
      have D4 : Hid (CellsAt wr b g (phWs T S L G th ep)) := hC
      clear hC hR
      go_wp2_with fail
      go_loopw [13, 14] (fun i _ wx => ∃ k : Nat, k ≤ T ∧ i = .int .i64 k ∧ Hid (CellsAt wx b g (phWs T S L G th ep)) ∧
        Blk wx w.heap.size [.int .i64 T, .int .i64 S, .int .i64 L, .int .u64 G] 24 ∧ Below w.heap.size w wx) (fun i _ _ => T - (intOf i).toNat)
      case atStart => exact ⟨0, by omega, rfl, D4, hP, hW⟩
      case round =>
        obtain ⟨k, hk, rfl, hC, hP, hW⟩ := hrel
        clear D4 CP
        have CP := hP.cell
        by_cases hlt : k < T
        · have hx := GE.out k hlt
          have q := Lib.hid (PK.out k hlt)
          by_cases he : k = th
          · subst he
            rw [if_pos rfl] at hx
            have HX := Lib.hid hx
            clear hx
            go_wp2_with fail
            refine (q.out _).mono ?_
            rintro e w5 ⟨rfl, hb5⟩
            have D5 := Lib.hid (hC.out.below hb5)
            have P5 := hP.below' hb5
            have W5 := hW.trans (hb5.mono hW.size)
            clear hC hP hW hb5 CP
            dsimp only
            go_wp2_with fail
            refine (cells_load _ _ _ _ D5.out _).mono ?_
            rw [HX.out]
            rintro e w6 ⟨rfl, rfl⟩
            dsimp only
            go_wp2_with fail
            go_roundw
            case rel => exact ⟨k + 1, by omega, by go_num, D5, P5, W5⟩
            case measure => simp [intOf]; omega
          · rw [if_neg he] at hx
            have HX := Lib.hid hx
            have e1 : ((k : Int) == (th : Int)) = false := by simp; omega
            have e2 : ((k : Int) != (th : Int)) = true := by simp; omega
            clear hx he
            go_wp2_with fail
            refine (q.out _).mono ?_
            rintro e w5 ⟨rfl, hb5⟩
            have D5 := Lib.hid (hC.out.below hb5)
            have P5 := hP.below' hb5
            have W5 := hW.trans (hb5.mono hW.size)
            clear hC hP hW hb5 CP
            dsimp only
            go_wp2_with fail
            refine (cells_load _ _ _ _ D5.out _).mono ?_
            rw [HX.out]
            rintro e w6 ⟨rfl, rfl⟩
            dsimp only
            go_wp2_with fail
            go_roundw
            case rel => exact ⟨k + 1, by omega, by go_num, D5, P5, W5⟩
            case measure => simp [intOf]; omega
        · obtain rfl : T = k := by omega
          go_wp2_with fail
          have l2 := hP.lt
          have lt2 := hC.out.lt
          refine (unpinner_new T S L G th (wr.heap.size - 1) wr (by omega)).mono ?_
          rw [HWH.out]
          rintro e w3 ⟨u, rfl, hul, hT3, hb3⟩
          have B3 := hP.below' hb3
          have C3 := B3.cell
          have D3 := Lib.hid (hC.out.below hb3)
          have T3 := Lib.hid hT3
          have V3 := hW.trans (hb3.mono hW.size)
          generalize hlo2 : wr.heap.size - 1 = lo2 at *
          have hlo3 : b ≤ lo2 ∧ g ≤ lo2 ∧ w.heap.size ≤ lo2 := by omega
          clear hC hP hW CP hb3 hT3 hlo2 lt2 l2
          dsimp only
          go_wp2_with fail
          refine (unpinner_nextY lo2 _ u _ T3.out (by simp [pinM])).mono ?_
          rw [show pinM.deed ⟨2, 4 + (th : Int), 0⟩ = ⟨2, 4 + (th : Int), 0, 0, 0⟩ by simp [pinM, pinDeed]]
          rintro e w5 ⟨rfl, hb5⟩
          have R5 : Hid (unpinnerAt lo2 u w5 _) := (unpinner_rep lo2 u).keep _ _ _ (fun _ => False) T3.out (Mod.of_below hb5) (fun _ _ => id)
          have D5 := Lib.hid (D3.out.below hb5)
          have P5 := B3.below' hb5
          have W5 := V3.trans (hb5.mono V3.size)
          have D6 := Lib.hid (D5.out.below ((Below.refl _ _).alloc (Nat.le_refl _) (.cells #[.int .i64 2, .int .i64 (4 + (th : Int)), .int .u64 0, .int .u64 0, .int .u64 0] 31)))
          have ZD := dDo_store (phWs T S L G th ep) (4 + (th : Int)) 0 0 0
          have HZD := Lib.hid ZD
          clear D3 T3 B3 V3 C3 hb5 ZD
          dsimp only
          go_wp2_with fail
          refine (deed_do _ b g _ D6.out ⟨2, 4 + (th : Int), 0, 0, 0⟩).mono ?_
          rintro e w6 ⟨rfl, hC6, hM6⟩
          have M6 : Mod (fun k => k = g) w5 w6 := ((Mod.refl _ _).alloc _).trans' hM6
          have R6 : Hid (unpinnerAt lo2 u w6 _) := (unpinner_rep lo2 u).keep _ _ _ _ R5.out M6 (fun q hq e => by omega)
          rw [HZD.out] at hC6
          have D7 := Lib.hid hC6
          have P6 := M6.blk P5 (by omega)
          have W6 := below_mod W5 M6 W5.size (fun q hq e => by omega)
          clear R5 D5 P5 W5 D6 hC6 hM6 M6
          dsimp only
          go_wp2_with fail
          refine (unpinner_tell lo2 w6 u _ _ R6.out).mono ?_
          rw [show ∀ x, pinM.tell ⟨2, 4 + (th : Int), 0⟩ x = ⟨0, 4 + (th : Int), 0⟩ from fun x => by simp [pinM, pinTell]]
          rintro e w7 ⟨rfl, hR7, hM7⟩
          have R7 := Lib.hid hR7
          have D8 := Lib.hid (D7.out.mod hM7 (by omega) (by omega))
          have P7 := hM7.blk P6 (by omega)
          have W7 := below_mod W6 hM7 W6.size (fun q hq e => by omega)
          clear R6 D7 P6 W6 hR7 hM7
          dsimp only
          go_wp2_with fail
          refine (unpinner_nextN lo2 _ u _ R7.out (by simp [pinM])).mono ?_
          rintro e w8 ⟨rfl, hb8⟩
          have P8 := (P7.below' hb8).alloc (.cells #[.int .i64 0, .int .i64 0, .int .u64 0, .int .u64 0, .int .u64 0] 31)
          have C8 := P8.cell
          have W8 := W7.trans (hb8.mono W7.size) |>.alloc (by have := W7.size; have := hb8.size; omega) (.cells #[.int .i64 0, .int .i64 0, .int .u64 0, .int .u64 0, .int .u64 0] 31)
          have D9 := Lib.hid ((D8.out.below hb8).below ((Below.refl _ _).alloc (Nat.le_refl _) (.cells #[.int .i64 0, .int .i64 0, .int .u64 0, .int .u64 0, .int .u64 0] 31)))
          clear R7 D8 P7 W7 hb8
          dsimp only
          go_wp2_with fail
          refine (PK.out th ht _).mono ?_
          rintro e w9 ⟨rfl, hb9⟩
          have W9 := W8.trans (hb9.mono W8.size)
          have D10 := Lib.hid (D9.out.below hb9)
          clear D9 P8 C8 W8 hb9
          dsimp only
          go_wp2_with fail
          refine (cells_load _ _ _ _ D10.out _).mono ?_
          rw [Z.out.2.1]
          rintro e w10 ⟨rfl, rfl⟩
          dsimp only
          go_wp2_with fail
          refine (cells_load _ _ _ _ D10.out _).mono ?_
          rw [Z.out.1]
          rintro e w10 ⟨rfl, rfl⟩
          dsimp only
          go_wp2_with fail
          refine (pin_awake _).mono ?_
          rintro e w11 ⟨rfl, hb11⟩
          have W11 := W9.trans (hb11.mono W9.size)
          dsimp only
          go_wp2_with fail
          go_ret
          exact ⟨rfl, W11⟩
theorem pinHolds_yes (hP : PRight T S L G) (hG : 0 ≤ G) (th ep : Int) (w : World) : Calls Try.prog 26 #[planV T S L G, .int .i64 th, .int .u64 ep] w fun e w' => e = .returned (.bool true) ∧ Below w.heap.size w w' := by
  by_cases h : th < 0 ∨ (T : Int) ≤ th
  · exact pinHolds_out T S L G hT hS hL hP hG th ep h w
  · obtain ⟨th, rfl⟩ : ∃ m : Nat, th = m := ⟨th.toNat, by omega⟩
    exact pinHolds_in T S L G hT hS hL hP hG th ep (by omega) w
end
theorem pinHolds_walk (T S L G th ep : Int) (hG : 0 ≤ G) (w : World) : Calls Try.prog 26 #[planV T S L G, .int .i64 th, .int .u64 ep] w fun e w' => e = .returned (.bool true) ∧ Below w.heap.size w w' := by
  by_cases h : PRight T S L G
  · have h' := h
    obtain ⟨⟨a, b⟩, ⟨c, d⟩, ⟨e, f⟩, _⟩ := h'
    obtain ⟨T, rfl⟩ : ∃ m : Nat, T = m := ⟨T.toNat, by omega⟩
    obtain ⟨S, rfl⟩ : ∃ m : Nat, S = m := ⟨S.toNat, by omega⟩
    obtain ⟨L, rfl⟩ : ∃ m : Nat, L = m := ⟨L.toNat, by omega⟩
    exact pinHolds_yes T S L G (by omega) (by omega) (by omega) h hG th ep w
  · exact pinHolds_no T S L G th ep h w
end Go.Proofs.Ytgkobmmannkegaa

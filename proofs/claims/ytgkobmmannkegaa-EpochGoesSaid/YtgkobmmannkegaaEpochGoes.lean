/-
  The law EpochGoes (chapter 14), walked.
-/
import Derived.Test.YtgkobmmannkegaaDeed
import Derived.Test.YtgkobmmannkegaaEpochClaims
import Derived.Test.YtgkobmmannkegaaBlankAll
import Derived.Test.YtgkobmmannkegaaAlonePlain
namespace Go.Proofs.Ytgkobmmannkegaa
open Go Go.RowKit
set_option linter.unusedVariables false

/-- The words where the epoch is e and the first k threads are pinned. -/
def pinF (f : Nat → Int) (P : Nat → Int) (e : Int) (k p : Nat) : Int := if p = 0 then e else if 4 ≤ p ∧ p < 4 + k then P (p - 4) else f p
theorem pinF_zero (f P : Nat → Int) (e : Int) (p : Nat) : upd f 0 e p = pinF f P e 0 p := by
  unfold upd pinF
  by_cases h : p = 0
  · simp [h]
  · rw [if_neg h, if_neg h, if_neg (by omega)]
theorem pinF_succ (f P : Nat → Int) (e : Int) (k p : Nat) : upd (pinF f P e k) (4 + k) (P k) p = pinF f P e (k + 1) p := by
  unfold upd pinF
  by_cases h : p = 4 + k
  · subst h
    rw [if_pos rfl, if_neg (by omega), if_pos (by omega), show 4 + k - 4 = k by omega]
  · rw [if_neg h]
    by_cases h0 : p = 0
    · simp [h0]
    · rw [if_neg h0, if_neg h0]
      by_cases h1 : 4 ≤ p ∧ p < 4 + k
      · rw [if_pos h1, if_pos ⟨h1.1, by omega⟩]
      · rw [if_neg h1, if_neg (by omega)]
/-- The words in the end. -/
def epNow (ok : Bool) (ws : List Int) (e : Int) : List Int := if ok then wset ws 0 (epU e) else ws
theorem epNow_length (ok : Bool) (ws : List Int) (e : Int) : (epNow ok ws e).length = ws.length := by unfold epNow; split <;> simp [wset_length]
theorem epNow_get (ok : Bool) (ws : List Int) (e : Int) (k : Nat) (h : 1 ≤ k) : wget (epNow ok ws e) (k : Int) = wget ws (k : Int) := by
  unfold epNow
  split
  · rw [wget_wset_other _ (by omega)]
  · rfl
theorem epNow_true (ws : List Int) (e : Int) (h : 0 < ws.length) : wget (epNow true ws e) ((0 : Nat) : Int) = IntKind.u64.wrap (e + 1) := by
  show wget (wset ws 0 (epU e)) 0 = _
  rw [wget_wset_same _ (by omega)]; rfl
theorem epochGoes_no (T S L G e : Int) (xs : List Int) (hx : xs.length = 8) (h : ¬ PRight T S L G) (w : World) : Calls Try.prog 28 #[planV T S L G, .int .u64 e, .agg (xs.map (.int .u64)).toArray] w fun e w' => e = .returned (.bool true) ∧ Below w.heap.size w w' := by
  have H := Lib.hid h
  have B0 := (Blk.new w [.int .i64 T, .int .i64 S, .int .i64 L, .int .u64 G] 24).alloc (.cells (xs.map (.int .u64)).toArray 147)
  have C0 := B0.cell
  have V0 : Below w.heap.size w ((w.alloc (.cells #[.int .i64 T, .int .i64 S, .int .i64 L, .int .u64 G] 24)).alloc (.cells (xs.map (.int .u64)).toArray 147)) := ((Below.refl _ _).alloc (Nat.le_refl _) _).alloc (by simp) _
  clear h
  go_enter Try.func28, Try.ntmps28
  go_wp2_with fail
  refine (ep_awake _).mono ?_
  rintro e w1 ⟨rfl, hb1⟩
  have B1 := B0.below' hb1
  have C1 := B1.cell
  have V1 := V0.trans (hb1.mono V0.size)
  clear C0 B0 V0 hb1
  dsimp only
  go_wp2_with fail
  refine (make_no T S L G H.out _).mono ?_
  rintro e w2 ⟨rfl, hb2⟩
  have V2 := V1.trans (hb2.mono V1.size)
  dsimp only
  go_wp2_with fail
  refine (ep_awake _).mono ?_
  rintro e w3 ⟨rfl, hb3⟩
  have V3 := V2.trans (hb3.mono V2.size)
  dsimp only
  go_wp2_with fail
  go_ret
  exact ⟨rfl, V3⟩
section
variable (T S L : Nat) (G : Int) (hT : T ≤ 8) (hS : S ≤ 64) (hL : L ≤ 8)
include hT hS hL
set_option maxHeartbeats 4000000 in
set_option maxRecDepth 100000 in
theorem epochGoes_yes (hP : PRight T S L G) (hG : 0 ≤ G) (ep : Int) (xs : List Int) (hx : xs.length = 8) (w : World) : Calls Try.prog 28 #[planV T S L G, .int .u64 ep, .agg (xs.map (.int .u64)).toArray] w fun e w' => e = .returned (.bool true) ∧ Below w.heap.size w w' := by
  obtain ⟨P, hPx⟩ : ∃ P : Nat → Int, ∀ k, k < 8 → (xs.map (Value.int .u64))[k]? = some (.int .u64 (P k)) := ⟨fun k => xs.getD k 0, fun k hk => by simp [List.getD, hx, hk]⟩
  have HPX := Lib.hid hPx
  have HP := Lib.hid hP
  have hN : 4 + T < pCount T S L := by
    have := hP.1; have := hP.2.1
    unfold pCount
    have : 1 * 6 ≤ S * (6 + L) := Nat.mul_le_mul (by omega) (by omega)
    omega
  have hN2 := pCount_le T S L hT hS hL
  have PK : Hid (∀ k : Nat, k < T → Gives 42 #[planV T S L G, .int .i64 (k : Int)] (.int .i64 (4 + (k : Int)))) := fun k hk => by
    have := pin_calls T S L G (k : Int)
    rw [wrap_lo _ (by omega) (by omega)] at this
    exact this
  generalize hf : blankF T S L G (fun j => decide (1 ≤ j ∧ j ≤ S)) true = f
  have hbw : blankW T S L G = vals (pCount T S L) f := by rw [← hf]; rfl
  have HBW := Lib.hid hbw
  have MK : Hid (∀ W, Calls Try.prog 122 #[planV T S L G] W (NewCells W (vals (pCount T S L) f) fun b => .tuple #[.pointer (some ⟨b, 0, none⟩), .int .i64 0])) := fun W => by
    rw [← hbw]; exact make_calls T S L G hT hS hL hP hG W
  generalize hNN : pCount T S L = N at *
  have S0 : Hid (wset (vals N f) 0 ep = vals N (pinF f P ep 0)) := by
    show _ = _
    rw [show (0 : Int) = ((0 : Nat) : Int) from rfl, vals_wset _ _ _ (by omega)]
    exact vals_ext fun p _ => pinF_zero f P ep p
  have S1 : Hid (∀ k : Nat, k < T → wset (vals N (pinF f P ep k)) (4 + (k : Int)) (P k) = vals N (pinF f P ep (k + 1))) := fun k hk => by
    rw [show (4 + (k : Int)) = ((4 + k : Nat) : Int) by omega, vals_wset _ _ _ (by omega)]
    exact vals_ext fun p _ => pinF_succ f P ep k p
  have AL : Hid (∃ st, runs (epM T) 20 ⟨1, 0, 0, false⟩ (vals N (pinF f P ep T)) = (st, epNow (allOk P ep T) (vals N (pinF f P ep T)) ep) ∧ st.won = allOk P ep T ∧ (epM T).more st = false) := by
    refine ep_alone T ep (vals N (pinF f P ep T)) P hT ?_ (fun i hi => ?_)
    · rw [show (0 : Int) = ((0 : Nat) : Int) from rfl, vals_wget _ _ _ (by omega)]; simp [pinF]
    · rw [vals_wget _ _ _ (by omega)]
      unfold pinF
      rw [if_neg (by omega), if_pos (by omega), show 4 + i - 4 = i by omega]
  have W0 : Hid (wget (vals N (pinF f P ep T)) ((0 : Nat) : Int) = ep) := by
    show _ = _
    rw [vals_wget _ _ _ (by omega)]; simp [pinF]
  have B0 := (Blk.new w [.int .i64 T, .int .i64 S, .int .i64 L, .int .u64 G] 24).alloc (.cells (xs.map (.int .u64)).toArray 147)
  have C0 := B0.cell
  have X0 := Blk.new2 w (.cells #[.int .i64 T, .int .i64 S, .int .i64 L, .int .u64 G] 24) (xs.map (.int .u64)) 147
  have V0 : Below w.heap.size w ((w.alloc (.cells #[.int .i64 T, .int .i64 S, .int .i64 L, .int .u64 G] 24)).alloc (.cells (xs.map (.int .u64)).toArray 147)) := ((Below.refl _ _).alloc (Nat.le_refl _) _).alloc (by simp) _
  clear hP hPx hf hbw hNN
  go_enter Try.func28, Try.ntmps28
  go_wp2_with fail
  refine (ep_awake _).mono ?_
  rintro e w1 ⟨rfl, hb1⟩
  have B1 := B0.below' hb1
  have X1 := X0.below' hb1
  have C1 := B1.cell
  have V1 := V0.trans (hb1.mono V0.size)
  clear C0 B0 V0 hb1 X0
  dsimp only
  go_wp2_with fail
  refine (MK.out _).mono ?_
  rintro e w2 ⟨b, g, rfl, hC, hb, hg, hb2⟩
  have B2 := B1.below' hb2
  have X2 := X1.below' hb2
  have C2 := B2.cell
  have D2 := Lib.hid hC
  have V2 := V1.trans (hb2.mono V1.size)
  have hbg : w.heap.size + 1 < b ∧ w.heap.size + 1 < g := by have := X1.lt; omega
  clear C1 B1 V1 hb2 X1 hC hb hg
  dsimp only
  go_wp2_with fail
  refine (cells_store _ _ _ _ D2.out _ _).mono ?_
  unfold Turned
  rw [S0.out]
  rintro e w3 ⟨rfl, hC, hM⟩
  have B3 := hM.blk B2 (by omega)
  have X3 := hM.blk X2 (by omega)
  have C3 := B3.cell
  have D3 := Lib.hid hC
  have V3 := below_mod V2 hM V2.size (fun q hq e => by omega)
  clear C2 B2 V2 D2 X2 hC hM
  dsimp only
  go_wp2_with fail
  go_loopw [9, 10] (fun a i wr => ∃ k : Nat, k ≤ T ∧ i = .int .i64 k ∧ a = .bool (allOk P ep k) ∧ Hid (CellsAt wr b g (vals N (pinF f P ep k))) ∧ Blk wr w.heap.size [.int .i64 T, .int .i64 S, .int .i64 L, .int .u64 G] 24 ∧ Blk wr (w.heap.size + 1) (xs.map (.int .u64)) 147 ∧ Below w.heap.size w wr) (fun _ i _ => T - (intOf i).toNat)
  case atStart => exact ⟨0, by omega, rfl, by rw [allOk_zero], D3, B3, X3, V3⟩
  case round =>
    obtain ⟨k, hk, rfl, rfl, hC, hB, hX, hW⟩ := hrel
    clear D3 B3 X3 V3 C3
    have CB := hB.cell
    by_cases hlt : k < T
    · have q := Lib.hid (PK.out k hlt)
      have A := (hX.cell k).trans (HPX.out k (by omega))
      have s1 := Lib.hid (S1.out k hlt)
      have OK := Lib.hid (allOk_succ P ep k)
      have hk8 : (k : Int) < 8 := by omega
      generalize P k = y at *
      go_wp2_with fail
      refine wp_region_tail 7 (by kernel_rfl) (by kernel_rfl) ?_
      simp only [List.take_succ_cons, List.take_zero, List.drop_succ_cons, List.drop_zero]
      repeat (quiet_step ((go_at_call 42; exact calls_later (q.out _))))
      refine wpQuiet_nil ?_
      intro w5 hb5
      have D5 := Lib.hid (hC.out.below hb5)
      have B5 := hB.below' hb5
      have X5 := hX.below' hb5
      have A5 := (hb5.cell (p := ⟨w.heap.size + 1, k, none⟩) hX.lt).trans A
      have W5 := hW.trans (hb5.mono hW.size)
      clear hC hB hX hW hb5 CB A
      go_wp2_with fail
      refine (cells_store _ _ _ _ D5.out _ _).mono ?_
      unfold Turned
      rw [s1.out]
      rintro e w6 ⟨rfl, hC, hM⟩
      have B6 := hM.blk B5 (by omega)
      have X6 := hM.blk X5 (by omega)
      have A6 := (hM.cell (a := ⟨w.heap.size + 1, k, none⟩) X5.lt (show ¬ (w.heap.size + 1 = g) by omega)).trans A5
      have D6 := Lib.hid hC
      have W6 := below_mod W5 hM W5.size (fun q hq e => by omega)
      clear B5 X5 A5 W5 D5 hC hM
      dsimp only
      cases ha : allOk P ep k with
      | false =>
        rw [ha] at OK
        have HO := Lib.hid OK.out
        clear ha OK
        go_wp2_with fail
        go_roundw
        case rel => exact ⟨k + 1, by omega, by go_num, by rw [HO.out]; rfl, D6, B6, X6, W6⟩
        case measure => simp [intOf]; omega
      | true =>
        rw [ha] at OK
        have HO := Lib.hid OK.out
        clear ha OK
        by_cases h0 : y = 0
        · subst h0
          go_wp2_with fail
          go_roundw
          case rel => exact ⟨k + 1, by omega, by go_num, by rw [HO.out]; rfl, D6, B6, X6, W6⟩
          case measure => simp [intOf]; omega
        · have e0 : (y == 0) = false := by simpa using h0
          have HO2 : Hid (allOk P ep (k + 1) = (y == ep)) := by show _ = _; rw [HO.out, e0]; simp
          clear HO h0
          go_wp2_with fail
          go_roundw
          case rel => exact ⟨k + 1, by omega, by go_num, by rw [HO2.out], D6, B6, X6, W6⟩
          case measure => simp [intOf]; omega
    · obtain rfl : T = k := by omega
      clear hX
      generalize hws : vals N (pinF f P ep T) = ws at *
      have hwl : ws.length = N := by rw [← hws, vals_length]
      have HWL := Lib.hid hwl
      clear hws hwl S0 S1
      generalize hok : allOk P ep T = ok at *
      obtain ⟨st, hst, hwon, hdone⟩ := AL.out
      have HD := Lib.hid hdone
      clear AL hok hdone HPX
      subst hwon
      go_wp2_with fail
      have K0 : Hid (Calls Try.prog 94 #[.pointer (some ⟨b, 0, none⟩)] wr fun e w' => ∃ va vc gw, e = .returned (.slice va N vc) ∧ Row w' gw (.slice va N vc) ws ∧ wr.heap.size ≤ gw ∧ (0 < ws.length → gw < w'.heap.size) ∧ Below wr.heap.size wr w') :=
        (cells_words _ _ _ _ hC.out).mono fun e w' ⟨va, vc, gw, he, hr, h1, h2, h3⟩ => ⟨va, vc, gw, by rw [he, HWL.out], by rw [HWL.out] at hr; exact hr, h1, h2, h3⟩
      refine K0.out.mono ?_
      rintro e w2 ⟨va, vc, gw, rfl, hR2, hg2, hl2, hb2⟩
      have B2 := hB.below' hb2
      have C2 := B2.cell
      have D2 := Lib.hid (hC.out.below hb2)
      have R2 := Lib.hid hR2
      have V2 := hW.trans (hb2.mono hW.size)
      have lgw : gw < w2.heap.size := hl2 (by rw [HWL.out]; omega)
      have nhd : b < wr.heap.size ∧ g < wr.heap.size := hC.out.lt
      have nsz := hW.size
      have hgw : w.heap.size < gw ∧ b < gw ∧ g < gw := by have := hB.lt; omega
      clear hB hC hW hb2 hR2 CB hl2 hg2 nhd nsz K0
      dsimp only
      go_wp2_with fail
      refine (ep_new T S L G _).mono ?_
      rintro e w3 ⟨t, rfl, ht1, ht2, hT3, hb3⟩
      have B3 := B2.below' hb3
      have C3 := B3.cell
      have D3 := Lib.hid (D2.out.below hb3)
      have R3 := Lib.hid (R2.out.below hb3)
      have T3 := Lib.hid hT3
      have V3 := V2.trans (hb3.mono V2.size)
      have htt : gw < t := by omega
      clear B2 C2 D2 R2 V2 hb3 hT3 ht1 ht2 lgw
      have L3 := Lib.hid (Left.start (epM T) 20 ⟨1, 0, 0, false⟩ ws)
      rw [hst] at L3
      clear hst
      dsimp only
      go_upto_block 2 with fail
      go_cut [13] (fun v wx => Hid (CellsAt wx b g (epNow st.won ws ep)) ∧ Hid (Blk wx t (epCells T S L G st) 172) ∧ Hid (Row wx gw (.slice va N vc) ws) ∧ Blk wx w.heap.size [.int .i64 T, .int .i64 S, .int .i64 L, .int .u64 G] 24 ∧ Below w.heap.size w wx)
      case first =>
        go_wp2_with fail
        go_loopw [13] (fun i wr => ∃ (k : Nat) (s : EpS) (cur : List Int), k ≤ 20 ∧ i = .int .i64 k ∧ Hid (Left (epM T) 20 k s cur (st, epNow st.won ws ep)) ∧ Hid (CellsAt wr b g cur) ∧ Hid (Blk wr t (epCells T S L G s) 172) ∧ Hid (Row wr gw (.slice va N vc) ws) ∧
          Blk wr w.heap.size [.int .i64 T, .int .i64 S, .int .i64 L, .int .u64 G] 24 ∧ Below w.heap.size w wr) (fun i _ => 20 - (intOf i).toNat)
        case atStart => exact ⟨0, _, _, by omega, rfl, L3, D3, T3, R3, B3, V3⟩
        case round =>
          obtain ⟨k, s, cur, hk, rfl, hLf, hC, hT, hR, hB, hW⟩ := hrel
          clear L3 D3 T3 R3 B3 V3 C3
          have CB := hB.cell
          by_cases hlt : k < 20
          · cases hm : (epM (T : Int)).more s with
            | true =>
              have HMO := Lib.hid hm
              clear hm
              go_wp2_with fail
              refine (ep_nextY T S L G wr t s hT.out HMO.out).mono ?_
              rintro e w5 ⟨rfl, hb5⟩
              have R5 := Lib.hid (hR.out.below hb5)
              have T5 : Hid (Blk w5 t (epCells T S L G s) 172) := hT.out.below' hb5
              have D5 := Lib.hid (hC.out.below hb5)
              have P5 := hB.below' hb5
              have W5 := hW.trans (hb5.mono hW.size)
              have D6 := Lib.hid (D5.out.below ((Below.refl _ _).alloc (Nat.le_refl _) (.cells ((epM (T : Int)).deed s).cells.toArray 31)))
              clear hR hC hT hB hW hb5 CB
              dsimp only
              go_wp2_with fail
              refine (deed_do _ b g _ D6.out ((epM (T : Int)).deed s)).mono ?_
              rintro e w6 ⟨rfl, hC6, hM6⟩
              have M6 : Mod (fun k => k = g) w5 w6 := ((Mod.refl _ _).alloc _).trans' hM6
              have R6 := Lib.hid (R5.out.mod M6 (by omega))
              have T6 := Lib.hid (M6.blk T5.out (by omega))
              have D7 := Lib.hid hC6
              have P6 := M6.blk P5 (by omega)
              have W6 := below_mod W5 M6 W5.size (fun q hq e => by omega)
              have LN := Lib.hid (hLf.out.step hlt HMO.out)
              clear R5 T5 D5 P5 W5 D6 hC6 hM6 M6 hLf
              dsimp only
              go_wp2_with fail
              refine (ep_tell T S L G w6 t s _ T6.out).mono ?_
              rintro e w7 ⟨rfl, hT7, hM7⟩
              have T7 := Lib.hid hT7
              have D8 := Lib.hid (D7.out.mod hM7 (by omega) (by omega))
              have R7 := Lib.hid (R6.out.mod hM7 (by omega))
              have P7 := hM7.blk P6 (by omega)
              have W7 := below_mod W6 hM7 W6.size (fun q hq e => by omega)
              clear R6 T6 D7 P6 W6 hT7 hM7
              dsimp only
              go_wp2_with fail
              go_roundw
              case rel => exact ⟨k + 1, _, _, by omega, by go_num, LN, D8, T7, R7, P7, W7⟩
              case measure => simp [intOf]; omega
            | false =>
              have HMO := Lib.hid hm
              clear hm
              have e1 := hLf.out.stop HMO.out
              rw [Prod.mk.injEq] at e1
              obtain ⟨e1, e2⟩ := e1
              subst e1
              have HE2 := Lib.hid e2
              clear e2
              go_wp2_with fail
              refine (ep_nextN T S L G wr t _ hT.out HMO.out).mono ?_
              rintro e w5 ⟨rfl, hb5⟩
              have hb6 := hb5.alloc hb5.size (.cells #[.int .i64 0, .int .i64 0, .int .u64 0, .int .u64 0, .int .u64 0] 31)
              dsimp only
              go_wp2_with fail
              go_meet
              case rel =>
                rw [HE2.out]
                exact ⟨hC.out.below hb6, hT.out.below' hb6, hR.out.below hb6, hB.below' hb6, hW.trans (hb6.mono hW.size)⟩
          · have e1 := hLf.out.out (by omega)
            rw [Prod.mk.injEq] at e1
            obtain ⟨e1, e2⟩ := e1
            subst e1
            have HE2 := Lib.hid e2
            clear e2
            go_wp2_with fail
            go_meet
            case rel =>
              rw [HE2.out]
              exact ⟨hC, hT, hR, hB, hW⟩
      case rest =>
        obtain ⟨hC, hT, hR, hB, hW⟩ := hcut
        clear L3 D3 T3 R3 B3 V3 C3
        have CB := hB.cell
        have hpos : 0 < ws.length := by rw [HWL.out]; omega
        have hmax : ws.length ≤ 932 := by rw [HWL.out]; omega
        have K2 : Hid (Calls Try.prog 94 #[.pointer (some ⟨b, 0, none⟩)] wc fun e w' => ∃ va2 vc2 g2, e = .returned (.slice va2 N vc2) ∧ Row w' g2 (.slice va2 N vc2) (epNow st.won ws ep) ∧ Below wc.heap.size wc w') :=
          (cells_words _ _ _ _ hC.out).mono fun e w' ⟨va2, vc2, g2, he, hr, _, _, hb⟩ => ⟨va2, vc2, g2, by rw [he, epNow_length, HWL.out], by rw [epNow_length, HWL.out] at hr; exact hr, hb⟩
        have NG : Hid (∀ k : Nat, 1 ≤ k → wget (epNow st.won ws ep) (k : Int) = wget ws (k : Int)) := fun k hk => epNow_get _ _ _ k hk
        have NL := Lib.hid (epNow_length st.won ws ep)
        have N0 : Hid (wget (epNow st.won ws ep) ((0 : Nat) : Int) = if st.won then IntKind.u64.wrap (ep + 1) else ep) := by
          show _ = _
          cases st.won with
          | true => exact epNow_true ws ep hpos
          | false => exact W0.out
        clear hC
        generalize epNow st.won ws ep = nl at *
        go_wp2_with fail
        refine K2.out.mono ?_
        rintro e w5 ⟨va2, vc2, g2, rfl, hR2, hb5⟩
        have R5 := Lib.hid (hR.out.below hb5)
        have N5 := Lib.hid hR2
        have T5 : Hid (Blk w5 t (epCells T S L G st) 172) := hT.out.below' hb5
        have W5 := hW.trans (hb5.mono hW.size)
        have e0 : ((N : Int) == 0) = false := by rw [beq_eq_false_iff_ne]; omega
        obtain ⟨c3, hv3, _⟩ := R5.out.addr hpos
        obtain ⟨c4, hv4, _⟩ := N5.out.addr (by rw [NL.out]; exact hpos)
        injection hv3 with hv3 q1 q2
        injection hv4 with hv4 q3 q4
        clear q1 q2 q3 q4
        subst hv3 hv4
        clear K2 hR hT hB hW CB hR2 hb5
        dsimp only
        go_wp2_with fail
        go_loopw [17] (fun i wr => ∃ k : Nat, 1 ≤ k ∧ k ≤ N ∧ i = .int .i64 k ∧ Below w5.heap.size w5 wr) (fun i _ => N - (intOf i).toNat)
        case atStart => exact ⟨1, by omega, by omega, rfl, Below.refl _ _⟩
        case round =>
          obtain ⟨k, hk1, hk, rfl, hb⟩ := hrel
          by_cases hlt : k < N
          · have p0 := (R5.out.below hb).cell k (by rw [HWL.out]; exact hlt)
            have r0 := (N5.out.below hb).cell k (by rw [NL.out, HWL.out]; exact hlt)
            rw [← wget_nat] at p0 r0
            rw [NG.out k hk1] at r0
            have hk8 : (k : Int) < N := by omega
            generalize wget ws (k : Int) = y at *
            go_wp2_with fail
            refine wp_region_reads (by kernel_rfl) (by kernel_rfl) ?_
            repeat (quiet_step (fail))
            refine wpQuiet_nil ?_
            intro w6 hb6
            go_wp2_with fail
            go_roundw
            case rel => exact ⟨k + 1, by omega, by omega, by go_num, hb.trans (hb6.mono hb.size)⟩
            case measure => simp [intOf]; omega
          · have T6 := Lib.hid (T5.out.below' hb)
            have W6 := W5.trans (hb.mono W5.size)
            have N6 := Lib.hid (N5.out.below hb)
            clear N5 T5 W5 hb R5
            go_wp2_with fail
            refine (ep_nextN T S L G wr t _ T6.out HD.out).mono ?_
            rintro e w7 ⟨rfl, hb7⟩
            have hb8 := hb7.alloc hb7.size (.cells #[.int .i64 0, .int .i64 0, .int .u64 0, .int .u64 0, .int .u64 0] 31)
            have T8 : Hid (Blk _ t (epCells T S L G st) 172) := T6.out.below' hb8
            have W8 := W6.trans (hb8.mono W6.size)
            have N8 := Lib.hid (N6.out.below hb8)
            clear T6 W6 N6 hb7 hb8
            dsimp only
            go_wp2_with fail
            refine (ep_won T S L G _ t _ T8.out).mono ?_
            rintro e w9 ⟨rfl, hb9⟩
            have W9 := W8.trans (hb9.mono W8.size)
            have p0 := (N8.out.below hb9).cell 0 (by rw [NL.out]; exact hpos)
            rw [← wget_nat, N0.out] at p0
            clear T8 W8 N8 hb9
            dsimp only
            cases hw : st.won with
            | true =>
              rw [hw, if_pos rfl] at p0
              clear hw
              go_wp2_with fail
              refine (ep_awake _).mono ?_
              rintro e w10 ⟨rfl, hb10⟩
              have W10 := W9.trans (hb10.mono W9.size)
              dsimp only
              go_wp2_with fail
              go_ret
              exact ⟨rfl, W10⟩
            | false =>
              rw [hw, if_neg (by simp)] at p0
              clear hw
              go_wp2_with fail
              refine (ep_awake _).mono ?_
              rintro e w10 ⟨rfl, hb10⟩
              have W10 := W9.trans (hb10.mono W9.size)
              dsimp only
              go_wp2_with fail
              go_ret
              exact ⟨rfl, W10⟩
end
theorem epochGoes_walk (T S L G ep : Int) (xs : List Int) (hx : xs.length = 8) (hG : 0 ≤ G) (w : World) : Calls Try.prog 28 #[planV T S L G, .int .u64 ep, .agg (xs.map (.int .u64)).toArray] w fun e w' => e = .returned (.bool true) ∧ Below w.heap.size w w' := by
  by_cases h : PRight T S L G
  · have h' := h
    obtain ⟨⟨a, b⟩, ⟨c, d⟩, ⟨e, f⟩, _⟩ := h'
    obtain ⟨T, rfl⟩ : ∃ m : Nat, T = m := ⟨T.toNat, by omega⟩
    obtain ⟨S, rfl⟩ : ∃ m : Nat, S = m := ⟨S.toNat, by omega⟩
    obtain ⟨L, rfl⟩ : ∃ m : Nat, L = m := ⟨L.toNat, by omega⟩
    exact epochGoes_yes T S L G (by omega) (by omega) (by omega) h hG ep xs hx w
  · exact epochGoes_no T S L G ep xs hx h w
end Go.Proofs.Ytgkobmmannkegaa

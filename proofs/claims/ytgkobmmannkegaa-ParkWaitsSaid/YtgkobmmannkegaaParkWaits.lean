/-
  The law ParkWaits (chapter 29), walked.
-/
import Derived.Test.YtgkobmmannkegaaDeed
import Derived.Test.YtgkobmmannkegaaParkClaims
import Derived.Test.YtgkobmmannkegaaBlankAll
import Derived.Test.YtgkobmmannkegaaAlonePlain
namespace Go.Proofs.Ytgkobmmannkegaa
open Go Go.RowKit
set_option linter.unusedVariables false

theorem list3 {l : List Int} (h : l.length = 3) : ∃ a b c, l = [a, b, c] := by
  match l, h with
  | [a, b, c], _ => exact ⟨a, b, c, rfl⟩
abbrev askV (th un now : Int) : Value := .agg #[.int .i64 th, .int .i64 un, .int .i64 now]
/-- What waiting comes to, done alone. -/
theorem pk_alone (sem un now : Int) (ws : List Int) (sm : Int) (h1 : wget ws sem = sm) (h2 : wget ws 1 = now) (h3 : 0 ≤ now) (h4 : now < 9223372036854775808) :
    ∃ st ws' c, runs (pkM sem un) 20 (pkLook sem) ws = (st, ws') ∧ runN (pkM sem un) 20 (pkLook sem) ws = c ∧
      ((sm ≠ 0 ∧ c = 2 ∧ ws' = wset ws sem ((sm + 18446744073709551615) % 18446744073709551616)) ∨ (sm = 0 ∧ ws' = ws ∧ ((un ≤ now ∧ c = 2) ∨ (now < un ∧ c = 20)))) := by
  by_cases h : sm = 0
  · subst h
    have e : wrap64 now = now := wrap_lo _ h3 h4
    by_cases hu : un ≤ now
    · have := pk_alone_time sem un now ws h1 h2 (by rw [e]; exact hu)
      exact ⟨_, _, _, this.1, this.2, .inr ⟨rfl, rfl, .inl ⟨hu, rfl⟩⟩⟩
    · have := pk_alone_wait sem un now ws h1 h2 (by rw [e]; exact hu) 10
      exact ⟨_, _, _, this.1, this.2, .inr ⟨rfl, rfl, .inr ⟨by omega, rfl⟩⟩⟩
  · have := pk_alone_yes sem un ws (by rw [h1]; exact h)
    rw [h1] at this
    exact ⟨_, _, _, this.1, this.2, .inl ⟨h, rfl, rfl⟩⟩
theorem parkWaits_no (T S L G th un now sm : Int) (h : ¬ PRight T S L G) (w : World) : Calls Try.prog 25 #[planV T S L G, askV th un now, .int .u64 sm] w fun e w' => e = .returned (.bool true) ∧ Below w.heap.size w w' := by
  have H := Lib.hid h
  have B0 := (Blk.new w [.int .i64 T, .int .i64 S, .int .i64 L, .int .u64 G] 24).alloc (.cells #[.int .i64 th, .int .i64 un, .int .i64 now] 141)
  have X0 := Blk.new2 w (.cells #[.int .i64 T, .int .i64 S, .int .i64 L, .int .u64 G] 24) [.int .i64 th, .int .i64 un, .int .i64 now] 141
  have V0 : Below w.heap.size w ((w.alloc (.cells #[.int .i64 T, .int .i64 S, .int .i64 L, .int .u64 G] 24)).alloc (.cells #[.int .i64 th, .int .i64 un, .int .i64 now] 141)) := ((Below.refl _ _).alloc (Nat.le_refl _) _).alloc (by simp) _
  clear h
  go_enter Try.func25, Try.ntmps25
  go_wp2_with fail
  refine (pk_awake _).mono ?_
  rintro e w1 ⟨rfl, hb1⟩
  have B1 := B0.below' hb1
  have X1 := X0.below' hb1
  have C1 := B1.cell
  have V1 := V0.trans (hb1.mono V0.size)
  clear B0 V0 hb1 X0
  dsimp only
  go_wp2_with fail
  refine (make_no T S L G H.out _).mono ?_
  rintro e w2 ⟨rfl, hb2⟩
  have V2 := V1.trans (hb2.mono V1.size)
  have X2 := X1.below' hb2
  have C2 := X2.cell
  clear C1 B1 X1
  dsimp only
  go_wp2_with fail
  refine wp_region_reads (by kernel_rfl) (by kernel_rfl) ?_
  repeat (quiet_step (fail))
  refine wpQuiet_nil ?_
  intro w4 hb4
  have V4 := V2.trans (hb4.mono V2.size)
  go_wp2_with fail
  refine (pk_awake _).mono ?_
  rintro e w3 ⟨rfl, hb3⟩
  have V3 := V4.trans (hb3.mono V4.size)
  dsimp only
  go_wp2_with fail
  go_ret
  exact ⟨rfl, V3⟩
section
variable (T S L : Nat) (G : Int) (hT : T ≤ 8) (hS : S ≤ 64) (hL : L ≤ 8)
include hT hS hL
set_option maxHeartbeats 1000000 in
set_option maxRecDepth 100000 in
theorem parkWaits_out (hP : PRight T S L G) (hG : 0 ≤ G) (th un now sm : Int) (ht : th < 0 ∨ (0 ≤ th ∧ (T : Int) ≤ th) ∨ (0 ≤ th ∧ th < T ∧ now < 0)) (w : World) : Calls Try.prog 25 #[planV T S L G, askV th un now, .int .u64 sm] w fun e w' => e = .returned (.bool true) ∧ Below w.heap.size w w' := by
  have HP := Lib.hid hP
  have B0 := (Blk.new w [.int .i64 T, .int .i64 S, .int .i64 L, .int .u64 G] 24).alloc (.cells #[.int .i64 th, .int .i64 un, .int .i64 now] 141)
  have X0 := Blk.new2 w (.cells #[.int .i64 T, .int .i64 S, .int .i64 L, .int .u64 G] 24) [.int .i64 th, .int .i64 un, .int .i64 now] 141
  have V0 : Below w.heap.size w ((w.alloc (.cells #[.int .i64 T, .int .i64 S, .int .i64 L, .int .u64 G] 24)).alloc (.cells #[.int .i64 th, .int .i64 un, .int .i64 now] 141)) := ((Below.refl _ _).alloc (Nat.le_refl _) _).alloc (by simp) _
  clear hP
  go_enter Try.func25, Try.ntmps25
  go_wp2_with fail
  refine (pk_awake _).mono ?_
  rintro e w1 ⟨rfl, hb1⟩
  have B1 := B0.below' hb1
  have X1 := X0.below' hb1
  have C1 := B1.cell
  have V1 := V0.trans (hb1.mono V0.size)
  clear B0 V0 hb1 X0
  dsimp only
  go_wp2_with fail
  refine (make_calls T S L G hT hS hL HP.out hG _).mono ?_
  rintro e w2 ⟨b, g, rfl, hC, hb, hg, hb2⟩
  have V2 := V1.trans (hb2.mono V1.size)
  have X2 := X1.below' hb2
  have C2 := X2.cell
  have B2 := B1.below' hb2
  clear C1 B1 X1 hC hb hg
  dsimp only
  go_wp2_with fail
  refine wp_region_reads (by kernel_rfl) (by kernel_rfl) ?_
  repeat (quiet_step (fail))
  refine wpQuiet_nil ?_
  intro w4 hb4
  have V4 := V2.trans (hb4.mono V2.size)
  have B4 := B2.below' hb4
  have C4 := B4.cell
  clear C2 B2 X2
  rcases ht with ht | ⟨ht0, ht⟩ | ⟨ht0, ht1, ht⟩
  all_goals
    go_wp2_with fail
    refine (pk_awake _).mono ?_
    rintro e w3 ⟨rfl, hb3⟩
    have V3 := V4.trans (hb3.mono V4.size)
    dsimp only
    go_wp2_with fail
    go_ret
    exact ⟨rfl, V3⟩
set_option maxHeartbeats 4000000 in
set_option maxRecDepth 100000 in
theorem parkWaits_in (hP : PRight T S L G) (hG : 0 ≤ G) (th : Nat) (un now sm : Int) (ht : th < T) (hn0 : 0 ≤ now) (hn1 : now < 9223372036854775808) (hs0 : 0 ≤ sm) (hs1 : sm < 18446744073709551616) (w : World) : Calls Try.prog 25 #[planV T S L G, askV th un now, .int .u64 sm] w fun e w' => e = .returned (.bool true) ∧ Below w.heap.size w w' := by
  have hN : 4 + 3 * T < pCount T S L := by
    have := hP.1; have := hP.2.1
    unfold pCount
    have : 1 * 6 ≤ S * (6 + L) := Nat.mul_le_mul (by omega) (by omega)
    omega
  have hN2 := pCount_le T S L hT hS hL
  have HP := Lib.hid hP
  have hsem := sem_calls T S L G (th : Int)
  rw [wrap_lo _ (by omega) (by omega)] at hsem
  have SEM := Lib.hid hsem
  have WU : Hid (IntKind.u64.wrap now = now) := by show _ = _; rw [wrapu]; omega
  have WL : Hid (wrap64 (4 + 2 * (T : Int) + th) = 4 + 2 * (T : Int) + th) := wrap_lo _ (by omega) (by omega)
  obtain ⟨at_, hat⟩ : ∃ a : Nat, a = 4 + 2 * T + th := ⟨_, rfl⟩
  have hat2 : 4 + 2 * (T : Int) + th = (at_ : Int) := by omega
  rw [hat2] at hsem SEM WL
  have HAT := Lib.hid hat2
  generalize hws : wset (wset (blankW T S L G) (at_ : Int) sm) 1 now = ws
  have hwl : ws.length = pCount T S L := by rw [← hws, wset_length, wset_length, blankW_length]
  have hbl := blankW_length T S L G
  have AL := Lib.hid (pk_alone (at_ : Int) un now ws sm (by rw [← hws, wget_wset_other _ (by omega), wget_wset_same _ (by rw [hbl]; omega)]) (by rw [← hws, wget_wset_same _ (by rw [wset_length, hbl]; omega)]) hn0 hn1)
  have HWS := Lib.hid hws
  have WG : Hid (wget ws (at_ : Int) = sm) := by show _ = _; rw [← hws, wget_wset_other _ (by omega), wget_wset_same _ (by rw [hbl]; omega)]
  generalize hNN : pCount T S L = N at *
  have HWL := Lib.hid hwl
  have hatN : at_ < N := by omega
  have B0 := (Blk.new w [.int .i64 T, .int .i64 S, .int .i64 L, .int .u64 G] 24).alloc (.cells #[.int .i64 th, .int .i64 un, .int .i64 now] 141)
  have X0 := Blk.new2 w (.cells #[.int .i64 T, .int .i64 S, .int .i64 L, .int .u64 G] 24) [.int .i64 th, .int .i64 un, .int .i64 now] 141
  have V0 : Below w.heap.size w ((w.alloc (.cells #[.int .i64 T, .int .i64 S, .int .i64 L, .int .u64 G] 24)).alloc (.cells #[.int .i64 th, .int .i64 un, .int .i64 now] 141)) := ((Below.refl _ _).alloc (Nat.le_refl _) _).alloc (by simp) _
  have HH := Lib.hid (And.intro hs0 hs1)
  clear hP hat2 hat hsem hws hwl hbl hNN hs0 hs1
  go_enter Try.func25, Try.ntmps25
  go_wp2_with fail
  refine (pk_awake _).mono ?_
  rintro e w1 ⟨rfl, hb1⟩
  have B1 := B0.below' hb1
  have X1 := X0.below' hb1
  have C1 := B1.cell
  have V1 := V0.trans (hb1.mono V0.size)
  clear B0 V0 hb1 X0
  dsimp only
  go_wp2_with fail
  refine (make_calls T S L G hT hS hL HP.out hG _).mono ?_
  rintro e w2 ⟨b, g, rfl, hC, hb, hg, hb2⟩
  have V2 := V1.trans (hb2.mono V1.size)
  have X2 := X1.below' hb2
  have C2 := X2.cell
  have B2 := B1.below' hb2
  have D2 := Lib.hid hC
  have hbg : w.heap.size + 1 < b ∧ w.heap.size + 1 < g := by have := X1.lt; omega
  clear C1 B1 X1 hC hb hg V1 hb2
  dsimp only
  go_wp2_with fail
  refine wp_region_reads (by kernel_rfl) (by kernel_rfl) ?_
  repeat (quiet_step (fail))
  refine wpQuiet_nil ?_
  intro w4 hb4
  have V4 := V2.trans (hb4.mono V2.size)
  have B4 := B2.below' hb4
  have C4 := B4.cell
  have D4 := Lib.hid (D2.out.below hb4)
  clear C2 B2 X2 D2 V2 hb4
  go_wp2_with fail
  refine (SEM.out _).mono ?_
  rintro e w5 ⟨rfl, hb5⟩
  have V5 := V4.trans (hb5.mono V4.size)
  have B5 := B4.below' hb5
  have D5 := Lib.hid (D4.out.below hb5)
  clear B4 C4 D4 V4 hb5
  dsimp only
  go_wp2_with fail
  refine (cells_store _ _ _ _ D5.out _ _).mono ?_
  rintro e w6 ⟨rfl, hC, hM⟩
  have B6 := hM.blk B5 (by omega)
  have C6 := B6.cell
  have D6 := Lib.hid hC
  have V6 := below_mod V5 hM V5.size (fun q hq e => by omega)
  clear B5 D5 V5 hC hM
  dsimp only
  go_wp2_with fail
  (try rw [WU.out])
  refine (cells_store _ _ _ _ D6.out 1 now).mono ?_
  unfold Turned
  rw [HWS.out]
  rintro e w7 ⟨rfl, hC, hM⟩
  have B7 := hM.blk B6 (by omega)
  have C7 := B7.cell
  have D7 := Lib.hid hC
  have V7 := below_mod V6 hM V6.size (fun q hq e => by omega)
  clear B6 C6 D6 V6 hC hM
  dsimp only
  have K0 : Hid (Calls Try.prog 94 #[.pointer (some ⟨b, 0, none⟩)] w7 fun e w' => ∃ va vc gw, e = .returned (.slice va N vc) ∧ Row w' gw (.slice va N vc) ws ∧ w7.heap.size ≤ gw ∧ (0 < ws.length → gw < w'.heap.size) ∧ Below w7.heap.size w7 w') :=
    (cells_words _ _ _ _ D7.out).mono fun e w' ⟨va, vc, gw, he, hr, h1, h2, h3⟩ => ⟨va, vc, gw, by rw [he, HWL.out], by rw [HWL.out] at hr; exact hr, h1, h2, h3⟩
  go_wp2_with fail
  refine K0.out.mono ?_
  rintro e w8 ⟨va, vc, gw, rfl, hR2, hg2, hl2, hb2⟩
  have B8 := B7.below' hb2
  have C8 := B8.cell
  have D8 := Lib.hid (D7.out.below hb2)
  have R8 := Lib.hid hR2
  have V8 := V7.trans (hb2.mono V7.size)
  have lgw : gw < w8.heap.size := hl2 (by rw [HWL.out]; omega)
  have nhd : b < w7.heap.size ∧ g < w7.heap.size := D7.out.lt
  have hgw : w.heap.size < gw ∧ b < gw ∧ g < gw := by have := B7.lt; omega
  have hd1 : (at_ : Int) < N := by omega
  clear B7 C7 V7 hb2 hR2 hl2 hg2 nhd D7 K0
  dsimp only
  go_wp2_with fail
  refine (pk_new T S L G th un 0 _ (Nat.zero_le _)).mono ?_
  rw [show 4 + 2 * (T : Int) + (th : Int) = (at_ : Int) from HAT.out, WL.out]
  rintro e w3 ⟨t, rfl, ht1, ht2, hT3, hb3⟩
  have B3 := B8.below' hb3
  have C3 := B3.cell
  have D3 := Lib.hid (D8.out.below hb3)
  have R3 := Lib.hid (R8.out.below hb3)
  have T3 := Lib.hid hT3
  have V3 := V8.trans (hb3.mono V8.size)
  have htt : gw < t := by omega
  clear B8 C8 D8 R8 V8 hb3 hT3 ht1 ht2 lgw
  obtain ⟨st, ws', c, hst, hc, hcase⟩ := AL.out
  have L3 := Lib.hid (Left.start (pkM (at_ : Int) un) 20 (pkLook (at_ : Int)) ws)
  have N3 := Lib.hid (LeftN.start (pkM (at_ : Int) un) 20 (pkLook (at_ : Int)) ws)
  rw [hst] at L3
  rw [hc] at N3
  have HCase := Lib.hid hcase
  clear hst hc hcase AL
  dsimp only
  go_upto_block 0 with fail
  go_cut [15, 16] (fun v _ wx => v = .int .i64 c ∧ Hid (CellsAt wx b g ws') ∧ Hid (Row wx gw (.slice va N vc) ws) ∧ Blk wx w.heap.size [.int .i64 T, .int .i64 S, .int .i64 L, .int .u64 G] 24 ∧ Below w.heap.size w wx)
  case first =>
    go_wp2_with fail
    go_loopw [15, 16] (fun v i wr => ∃ (k : Nat) (s : PkS) (cur : List Int), k ≤ 20 ∧ v = .int .i64 k ∧ i = .int .i64 k ∧ Hid (Left (pkM (at_ : Int) un) 20 k s cur (st, ws')) ∧ Hid (LeftN (pkM (at_ : Int) un) 20 k s cur c) ∧ Hid (CellsAt wr b g cur) ∧ Hid (pkAt at_ un 0 t wr s) ∧ Hid (Row wr gw (.slice va N vc) ws) ∧
      Blk wr w.heap.size [.int .i64 T, .int .i64 S, .int .i64 L, .int .u64 G] 24 ∧ Below w.heap.size w wr) (fun _ i _ => 20 - (intOf i).toNat)
    case atStart => exact ⟨0, _, _, by omega, rfl, rfl, L3, N3, D3, T3, R3, B3, V3⟩
    case round =>
      obtain ⟨k, s, cur, hk, rfl, rfl, hLf, hLn, hC, hT, hR, hB, hW⟩ := hrel
      clear L3 N3 D3 T3 R3 B3 V3 C3
      have CB := hB.cell
      by_cases hlt : k < 20
      · cases hm : (pkM (at_ : Int) un).more s with
        | true =>
          have HMO := Lib.hid hm
          clear hm
          go_wp2_with fail
          refine (pk_nextY at_ un 0 wr t s hT.out HMO.out).mono ?_
          rintro e w5 ⟨rfl, hb5⟩
          have R5 := Lib.hid (hR.out.below hb5)
          have T5 : Hid (pkAt at_ un 0 t w5 s) := (pk_rep at_ un 0 t).keep _ _ _ (fun _ => False) hT.out (Mod.of_below hb5) (fun _ _ => id)
          have D5 := Lib.hid (hC.out.below hb5)
          have P5 := hB.below' hb5
          have W5 := hW.trans (hb5.mono hW.size)
          have D6 := Lib.hid (D5.out.below ((Below.refl _ _).alloc (Nat.le_refl _) (.cells ((pkM (at_ : Int) un).deed s).cells.toArray 31)))
          clear hR hC hT hB hW hb5 CB
          dsimp only
          go_wp2_with fail
          refine (deed_do _ b g _ D6.out ((pkM (at_ : Int) un).deed s)).mono ?_
          rintro e w6 ⟨rfl, hC6, hM6⟩
          have M6 : Mod (fun k => k = g) w5 w6 := ((Mod.refl _ _).alloc _).trans' hM6
          have R6 := Lib.hid (R5.out.mod M6 (by omega))
          have T6 : Hid (pkAt at_ un 0 t w6 s) := (pk_rep at_ un 0 t).keep _ _ _ _ T5.out M6 (fun q hq e => by omega)
          have D7 := Lib.hid hC6
          have P6 := M6.blk P5 (by omega)
          have W6 := below_mod W5 M6 W5.size (fun q hq e => by omega)
          have LN := Lib.hid (hLf.out.step hlt HMO.out)
          have LM := Lib.hid (hLn.out.step hlt HMO.out)
          clear R5 T5 D5 P5 W5 D6 hC6 hM6 M6 hLf hLn
          dsimp only
          go_wp2_with fail
          refine (pk_tell at_ un 0 w6 t s _ T6.out).mono ?_
          rintro e w7 ⟨rfl, hT7, hM7⟩
          have T7 := Lib.hid hT7
          have D8 := Lib.hid (D7.out.mod hM7 (by omega) (by omega))
          have R7 := Lib.hid (R6.out.mod hM7 (by omega))
          have P7 := hM7.blk P6 (by omega)
          have W7 := below_mod W6 hM7 W6.size (fun q hq e => by omega)
          clear R6 T6 D7 P6 W6 hT7 hM7
          dsimp only
          go_wp2_with fail
          go_roundw
          case rel => exact ⟨k + 1, _, _, by omega, by go_num, by go_num, LN, LM, D8, T7, R7, P7, W7⟩
          case measure => simp [intOf]; omega
        | false =>
          have HMO := Lib.hid hm
          clear hm
          have e1 := hLf.out.stop HMO.out
          rw [Prod.mk.injEq] at e1
          obtain ⟨e1, e2⟩ := e1
          have HE2 := Lib.hid e2
          have HE3 := Lib.hid (hLn.out.stop HMO.out)
          clear e1 e2
          go_wp2_with fail
          refine (pk_nextN at_ un 0 wr t _ hT.out HMO.out).mono ?_
          rintro e w5 ⟨rfl, hb5⟩
          have hb6 := hb5.alloc hb5.size (.cells #[.int .i64 0, .int .i64 0, .int .u64 0, .int .u64 0, .int .u64 0] 31)
          dsimp only
          go_wp2_with fail
          go_meet
          case rel =>
            rw [HE2.out, HE3.out]
            exact ⟨rfl, hC.out.below hb6, hR.out.below hb6, hB.below' hb6, hW.trans (hb6.mono hW.size)⟩
      · have e1 := hLf.out.out (by omega)
        rw [Prod.mk.injEq] at e1
        obtain ⟨e1, e2⟩ := e1
        have HE2 := Lib.hid e2
        have HE3 := Lib.hid (hLn.out.out (by omega))
        clear e1 e2
        go_wp2_with fail
        go_meet
        case rel =>
          rw [HE2.out, HE3.out]
          exact ⟨rfl, hC, hR, hB, hW⟩
  case rest =>
    obtain ⟨rfl, hC, hR, hB, hW⟩ := hcut
    clear L3 N3 D3 T3 R3 B3 V3 C3
    have hpos : 0 < N := by omega
    obtain ⟨c3, hv3, _⟩ := hR.out.addr (by rw [HWL.out]; exact hpos)
    injection hv3 with hv3 q1 q2
    clear q1 q2
    subst hv3
    rcases HCase.out with ⟨hs, rfl, hw'⟩ | ⟨rfl, rfl, hu⟩
    · have e0 : (sm != 0) = true := by simpa using hs
      have A0 := hR.out.cell at_ (by rw [HWL.out]; exact hatN)
      rw [← wget_nat, WG.out] at A0
      have F0 := hR.out.frozen (by rw [HWL.out]; exact hpos) at_
      have R1 := hR.out.set at_ (by rw [HWL.out]; exact hatN) (IntKind.u64.wrap (sm - 1))
      have hw2 : ws' = ws.set at_ (IntKind.u64.wrap (sm - 1)) := by
        have h1 := HH.out
        rw [hw', wset_nat (by rw [HWL.out]; exact hatN), wrapu]
        congr 1
        omega
      rw [← hw2] at R1
      have R2 := Lib.hid R1
      have M1 : Mod (fun k => k = gw) wc (wc.setCell ⟨gw, at_, none⟩ (.int .u64 (IntKind.u64.wrap (sm - 1)))) := (Mod.refl (fun k => k = gw) wc).setCell (a := ⟨gw, at_, none⟩) (fun _ => rfl) _
      have D1 := Lib.hid (hC.out.mod M1 (by omega) (by omega))
      have V1 := below_mod hW M1 hW.size (fun q hq e => by omega)
      have hl1 : ws'.length = N := by rw [hw2, List.length_set]; exact HWL.out
      have HL1 := Lib.hid hl1
      have lg := M1.size
      have lg1 := hR.out.lt (by rw [HWL.out]; exact hpos)
      have HSM := Lib.hid hs
      clear hw' hw2 hC hR hB hW M1 R1 hl1 hs HCase
      go_wp2_with fail
      refine (cells_words _ _ _ _ D1.out).mono ?_
      rintro e w9 ⟨va2, vc2, g2, rfl, hR9, hg9, hl9, hb9⟩
      have R9 := Lib.hid hR9
      have R10 := Lib.hid (R2.out.below hb9)
      have V9 := V1.trans (hb9.mono V1.size)
      have z9 := hb9.size
      dsimp only
      go_wp2_with fail
      refine (same64_true _ w9.heap.size w9.heap.size _ _ ws' (R9.out.reads (fun h => hl9 h)) (R10.out.reads (fun h => by omega)) (by rw [HL1.out]; omega)).mono ?_
      rintro e w10 ⟨rfl, hb10⟩
      have V10 := V9.trans (hb10.mono V9.size)
      dsimp only
      go_wp2_with fail
      refine (pk_awake _).mono ?_
      rintro e w11 ⟨rfl, hb11⟩
      have V11 := V10.trans (hb11.mono V10.size)
      dsimp only
      go_wp2_with fail
      go_ret
      exact ⟨rfl, V11⟩
    · have lg1 := hR.out.lt (by rw [HWL.out]; exact hpos)
      rcases hu with ⟨hu, rfl⟩ | ⟨hu, rfl⟩
      all_goals
        clear HCase
        go_wp2_with fail
        refine (cells_words _ _ _ _ hC.out).mono ?_
        rintro e w9 ⟨va2, vc2, g2, rfl, hR9, hg9, hl9, hb9⟩
        have R9 := Lib.hid hR9
        have R10 := Lib.hid (hR.out.below hb9)
        have V9 := hW.trans (hb9.mono hW.size)
        have z9 := hb9.size
        dsimp only
        go_wp2_with fail
        refine (same64_true _ w9.heap.size w9.heap.size _ _ _ (R9.out.reads (fun h => hl9 h)) (R10.out.reads (fun h => by omega)) (by rw [HWL.out]; omega)).mono ?_
        rintro e w10 ⟨rfl, hb10⟩
        have V10 := V9.trans (hb10.mono V9.size)
        dsimp only
        go_wp2_with fail
        refine (pk_awake _).mono ?_
        rintro e w11 ⟨rfl, hb11⟩
        have V11 := V10.trans (hb11.mono V10.size)
        dsimp only
        go_wp2_with fail
        go_ret
        first | exact ⟨rfl, V11⟩ | exact ⟨ret_bool (by simp; omega), V11⟩
end
theorem parkWaits_walk (T S L G th un now sm : Int) (hG : 0 ≤ G) (hn1 : now < 9223372036854775808) (hs0 : 0 ≤ sm) (hs1 : sm < 18446744073709551616) (w : World) : Calls Try.prog 25 #[planV T S L G, askV th un now, .int .u64 sm] w fun e w' => e = .returned (.bool true) ∧ Below w.heap.size w w' := by
  by_cases h : PRight T S L G
  · have h' := h
    obtain ⟨⟨a, b⟩, ⟨c, d⟩, ⟨e, f⟩, _⟩ := h'
    obtain ⟨T, rfl⟩ : ∃ m : Nat, T = m := ⟨T.toNat, by omega⟩
    obtain ⟨S, rfl⟩ : ∃ m : Nat, S = m := ⟨S.toNat, by omega⟩
    obtain ⟨L, rfl⟩ : ∃ m : Nat, L = m := ⟨L.toNat, by omega⟩
    by_cases ho : th < 0 ∨ (0 ≤ th ∧ (T : Int) ≤ th) ∨ (0 ≤ th ∧ th < T ∧ now < 0)
    · exact parkWaits_out T S L G (by omega) (by omega) (by omega) h hG th un now sm ho w
    · obtain ⟨th, rfl⟩ : ∃ m : Nat, th = m := ⟨th.toNat, by omega⟩
      exact parkWaits_in T S L G (by omega) (by omega) (by omega) h hG th un now sm (by omega) (by omega) hn1 hs0 hs1 w
  · exact parkWaits_no T S L G th un now sm h w
end Go.Proofs.Ytgkobmmannkegaa

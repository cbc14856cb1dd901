/-
  The law WakeJust (chapter 28), walked.
-/
import Derived.Test.YtgkobmmannkegaaDeed
import Derived.Test.YtgkobmmannkegaaWakeClaims
import Derived.Test.YtgkobmmannkegaaBlankAll
import Derived.Test.YtgkobmmannkegaaAlonePlain
namespace Go.Proofs.Ytgkobmmannkegaa
open Go Go.RowKit
set_option linter.unusedVariables false

/-- The words where the first k threads sleep, who may. -/
def sleepF (f sl : Nat → Int) (T k p : Nat) : Int := if 4 + T ≤ p ∧ p < 4 + T + k ∧ 0 ≤ sl (p - (4 + T)) ∧ sl (p - (4 + T)) ≤ 1152921504606846977 then sl (p - (4 + T)) + 1 else f p
theorem sleepF_zero (f sl : Nat → Int) (T p : Nat) : f p = sleepF f sl T 0 p := by unfold sleepF; rw [if_neg (by omega)]
theorem sleepF_take (f sl : Nat → Int) (T k p : Nat) (h0 : 0 ≤ sl k) (h1 : sl k ≤ 1152921504606846977) : upd (sleepF f sl T k) (4 + T + k) (sl k + 1) p = sleepF f sl T (k + 1) p := by
  unfold upd sleepF
  by_cases e : p = 4 + T + k
  · subst e
    rw [if_pos rfl, show 4 + T + k - (4 + T) = k by omega, if_pos ⟨by omega, by omega, h0, h1⟩]
  · rw [if_neg e]
    have : (4 + T ≤ p ∧ p < 4 + T + k ∧ 0 ≤ sl (p - (4 + T)) ∧ sl (p - (4 + T)) ≤ 1152921504606846977) ↔ (4 + T ≤ p ∧ p < 4 + T + (k + 1) ∧ 0 ≤ sl (p - (4 + T)) ∧ sl (p - (4 + T)) ≤ 1152921504606846977) := ⟨fun h => ⟨h.1, by omega, h.2.2⟩, fun h => ⟨h.1, by omega, h.2.2⟩⟩
    simp only [this]
theorem sleepF_skip (f sl : Nat → Int) (T k p : Nat) (h : ¬ (0 ≤ sl k ∧ sl k ≤ 1152921504606846977)) : sleepF f sl T k p = sleepF f sl T (k + 1) p := by
  unfold sleepF
  by_cases e : p = 4 + T + k
  · subst e
    rw [show 4 + T + k - (4 + T) = k by omega, if_neg (by omega), if_neg (fun hh => h hh.2.2)]
  · have : (4 + T ≤ p ∧ p < 4 + T + k ∧ 0 ≤ sl (p - (4 + T)) ∧ sl (p - (4 + T)) ≤ 1152921504606846977) ↔ (4 + T ≤ p ∧ p < 4 + T + (k + 1) ∧ 0 ≤ sl (p - (4 + T)) ∧ sl (p - (4 + T)) ≤ 1152921504606846977) := ⟨fun h => ⟨h.1, by omega, h.2.2⟩, fun h => ⟨h.1, by omega, h.2.2⟩⟩
    simp only [this]
theorem late_is (f sl : Nat → Int) (T : Nat) (d : Int) (d0 : 0 ≤ d) (d1 : d ≤ 1152921504606846976) (i : Nat) (hi : i < T) (h0 : f (4 + T + i) = 0) : isLate T (sleepF f sl T T) (IntKind.u64.wrap d) i = decide (d < sl i ∧ sl i ≤ 1152921504606846977) := by
  unfold isLate
  have e : IntKind.u64.wrap (IntKind.u64.wrap d + 1) = d + 1 := by rw [wrapu, wrapu]; omega
  rw [e, decide_eq_decide]
  unfold sleepF
  rw [show 4 + T + i - (4 + T) = i by omega, h0]
  split <;> omega
theorem wakeJust_no (T S L G d : Int) (xs : List Int) (hx : xs.length = 8) (h : ¬ PRight T S L G) (w : World) : Calls Try.prog 23 #[planV T S L G, .int .i64 d, .agg (xs.map (.int .i64)).toArray] w fun e w' => e = .returned (.bool true) ∧ Below w.heap.size w w' := by
  have H := Lib.hid h
  have B0 := (Blk.new w [.int .i64 T, .int .i64 S, .int .i64 L, .int .u64 G] 24).alloc (.cells (xs.map (.int .i64)).toArray 134)
  have V0 : Below w.heap.size w ((w.alloc (.cells #[.int .i64 T, .int .i64 S, .int .i64 L, .int .u64 G] 24)).alloc (.cells (xs.map (.int .i64)).toArray 134)) := ((Below.refl _ _).alloc (Nat.le_refl _) _).alloc (by simp) _
  clear h
  go_enter Try.func23, Try.ntmps23
  go_wp2_with fail
  refine (wk_awake _).mono ?_
  rintro e w1 ⟨rfl, hb1⟩
  have B1 := B0.below' hb1
  have C1 := B1.cell
  have V1 := V0.trans (hb1.mono V0.size)
  clear B0 V0 hb1
  dsimp only
  go_wp2_with fail
  refine (make_no T S L G H.out _).mono ?_
  rintro e w2 ⟨rfl, hb2⟩
  have V2 := V1.trans (hb2.mono V1.size)
  dsimp only
  go_wp2_with fail
  refine (wk_awake _).mono ?_
  rintro e w3 ⟨rfl, hb3⟩
  have V3 := V2.trans (hb3.mono V2.size)
  dsimp only
  go_wp2_with fail
  go_ret
  exact ⟨rfl, V3⟩
section
variable (T S L : Nat) (G : Int) (hT : T ≤ 8) (hS : S ≤ 64) (hL : L ≤ 8)
include hT hS hL
set_option maxHeartbeats 1000000 in
set_option maxRecDepth 100000 in
theorem wakeJust_out (hP : PRight T S L G) (hG : 0 ≤ G) (d : Int) (xs : List Int) (hx : xs.length = 8) (hd : d < 0 ∨ 1152921504606846976 < d) (w : World) : Calls Try.prog 23 #[planV T S L G, .int .i64 d, .agg (xs.map (.int .i64)).toArray] w fun e w' => e = .returned (.bool true) ∧ Below w.heap.size w w' := by
  have HP := Lib.hid hP
  have B0 := (Blk.new w [.int .i64 T, .int .i64 S, .int .i64 L, .int .u64 G] 24).alloc (.cells (xs.map (.int .i64)).toArray 134)
  have V0 : Below w.heap.size w ((w.alloc (.cells #[.int .i64 T, .int .i64 S, .int .i64 L, .int .u64 G] 24)).alloc (.cells (xs.map (.int .i64)).toArray 134)) := ((Below.refl _ _).alloc (Nat.le_refl _) _).alloc (by simp) _
  clear hP
  go_enter Try.func23, Try.ntmps23
  go_wp2_with fail
  refine (wk_awake _).mono ?_
  rintro e w1 ⟨rfl, hb1⟩
  have B1 := B0.below' hb1
  have C1 := B1.cell
  have V1 := V0.trans (hb1.mono V0.size)
  clear B0 V0 hb1
  dsimp only
  go_wp2_with fail
  refine (make_calls T S L G hT hS hL HP.out hG _).mono ?_
  rintro e w2 ⟨b, g, rfl, hC, hb, hg, hb2⟩
  have V2 := V1.trans (hb2.mono V1.size)
  clear hC hb hg hb2
  dsimp only
  rcases hd with hd | hd
  all_goals
    go_wp2_with fail
    refine (wk_awake _).mono ?_
    rintro e w3 ⟨rfl, hb3⟩
    have V3 := V2.trans (hb3.mono V2.size)
    dsimp only
    go_wp2_with fail
    go_ret
    exact ⟨rfl, V3⟩
set_option maxHeartbeats 4000000 in
set_option maxRecDepth 100000 in
theorem wakeJust_in (hP : PRight T S L G) (hG : 0 ≤ G) (d : Int) (xs : List Int) (hx : xs.length = 8) (d0 : 0 ≤ d) (d1 : d ≤ 1152921504606846976) (w : World) : Calls Try.prog 23 #[planV T S L G, .int .i64 d, .agg (xs.map (.int .i64)).toArray] w fun e w' => e = .returned (.bool true) ∧ Below w.heap.size w w' := by
  obtain ⟨sl, hPx⟩ : ∃ sl : Nat → Int, ∀ k, k < 8 → (xs.map (Value.int .i64))[k]? = some (.int .i64 (sl k)) := ⟨fun k => xs.getD k 0, fun k hk => by simp [List.getD, hx, hk]⟩
  have HPX := Lib.hid hPx
  have hN : 4 + 3 * T < pCount T S L := by
    have := hP.1; have := hP.2.1
    unfold pCount
    have : 1 * 6 ≤ S * (6 + L) := Nat.mul_le_mul (by omega) (by omega)
    omega
  have hN2 := pCount_le T S L hT hS hL
  have SK : Hid (∀ k : Nat, k < T → Gives 44 #[planV T S L G, .int .i64 (k : Int)] (.int .i64 (4 + (T : Int) + (k : Int)))) := fun k hk => by
    have := sleep_calls T S L G (k : Int)
    rw [wrap_lo _ (by omega) (by omega)] at this
    exact this
  have MKK : Hid (∀ k : Nat, k ≤ T → Gives 46 #[planV T S L G, .int .i64 (k : Int)] (.int .i64 (4 + 2 * (T : Int) + (k : Int)))) := fun k hk => by
    have := sem_calls T S L G (k : Int)
    rw [wrap_lo _ (by omega) (by omega)] at this
    exact this
  generalize hf : blankF T S L G (fun j => decide (1 ≤ j ∧ j ≤ S)) true = f
  have hbw : blankW T S L G = vals (pCount T S L) f := by rw [← hf]; rfl
  have hf0 : ∀ i, i < T → f (4 + T + i) = 0 := fun i hi => by
    rw [← hf]; unfold blankF pBase
    rw [if_neg (by omega), if_neg (by omega), if_pos (by omega)]
  have MK : Hid (∀ W, Calls Try.prog 122 #[planV T S L G] W (NewCells W (vals (pCount T S L) f) fun b => .tuple #[.pointer (some ⟨b, 0, none⟩), .int .i64 0])) := fun W => by
    rw [← hbw]; exact make_calls T S L G hT hS hL hP hG W
  generalize hNN : pCount T S L = N at *
  have S1 : Hid (∀ k : Nat, k < T → 0 ≤ sl k → sl k ≤ 1152921504606846977 → wset (vals N (sleepF f sl T k)) (4 + (T : Int) + (k : Int)) (sl k + 1) = vals N (sleepF f sl T (k + 1))) := fun k hk h0 h1 => by
    rw [show (4 + (T : Int) + (k : Int)) = ((4 + T + k : Nat) : Int) by omega, vals_wset _ _ _ (by omega)]
    exact vals_ext fun p _ => sleepF_take f sl T k p h0 h1
  have S2 : Hid (∀ k : Nat, ¬ (0 ≤ sl k ∧ sl k ≤ 1152921504606846977) → vals N (sleepF f sl T k) = vals N (sleepF f sl T (k + 1))) := fun k h =>
    vals_ext fun p _ => sleepF_skip f sl T k p h
  have S0 : Hid (vals N f = vals N (sleepF f sl T 0)) := vals_ext fun p _ => sleepF_zero f sl T p
  have LT : Hid (∀ i, i < T → isLate T (sleepF f sl T T) (IntKind.u64.wrap d) i = decide (d < sl i ∧ sl i ≤ 1152921504606846977)) := fun i hi => late_is f sl T d d0 d1 i hi (hf0 i hi)
  generalize hlate : isLate T (sleepF f sl T T) (IntKind.u64.wrap d) = late
  have AL : Hid (runs (wkM T (IntKind.u64.wrap d)) 30 ⟨0, false⟩ (vals N (sleepF f sl T T)) = (⟨T, false⟩, vals N (bump T late (sleepF f sl T T) T))) := by
    show _ = _
    rw [← hlate]
    exact wk_alone T N (IntKind.u64.wrap d) (sleepF f sl T T) hT (by omega)
  rw [hlate] at LT
  have B0 := (Blk.new w [.int .i64 T, .int .i64 S, .int .i64 L, .int .u64 G] 24).alloc (.cells (xs.map (.int .i64)).toArray 134)
  have X0 := Blk.new2 w (.cells #[.int .i64 T, .int .i64 S, .int .i64 L, .int .u64 G] 24) (xs.map (.int .i64)) 134
  have V0 : Below w.heap.size w ((w.alloc (.cells #[.int .i64 T, .int .i64 S, .int .i64 L, .int .u64 G] 24)).alloc (.cells (xs.map (.int .i64)).toArray 134)) := ((Below.refl _ _).alloc (Nat.le_refl _) _).alloc (by simp) _
  clear hP hPx hf hbw hNN hlate hf0
  go_enter Try.func23, Try.ntmps23
  go_wp2_with fail
  refine (wk_awake _).mono ?_
  rintro e w1 ⟨rfl, hb1⟩
  have B1 := B0.below' hb1
  have X1 := X0.below' hb1
  have C1 := B1.cell
  have V1 := V0.trans (hb1.mono V0.size)
  clear B0 V0 hb1 X0
  dsimp only
  go_wp2_with fail
  refine (MK.out _).mono ?_
  rintro e w2 ⟨b, g, rfl, hC, hb, hg, hb2⟩
  have B2 := B1.below' hb2
  have X2 := X1.below' hb2
  have C2 := B2.cell
  rw [S0.out] at hC
  have D2 := Lib.hid hC
  have V2 := V1.trans (hb2.mono V1.size)
  have hbg : w.heap.size + 1 < b ∧ w.heap.size + 1 < g := by have := X1.lt; omega
  clear C1 B1 V1 hb2 X1 hC hb hg
  dsimp only
  go_wp2_with fail
  go_loopw [9] (fun i wr => ∃ k : Nat, k ≤ T ∧ i = .int .i64 k ∧ Hid (CellsAt wr b g (vals N (sleepF f sl T k))) ∧ Blk wr w.heap.size [.int .i64 T, .int .i64 S, .int .i64 L, .int .u64 G] 24 ∧ Blk wr (w.heap.size + 1) (xs.map (.int .i64)) 134 ∧ Below w.heap.size w wr) (fun i _ => T - (intOf i).toNat)
  case atStart => exact ⟨0, by omega, rfl, D2, B2, X2, V2⟩
  case round =>
    obtain ⟨k, hk, rfl, hC, hB, hX, hW⟩ := hrel
    clear D2 B2 X2 V2 C2
    have CB := hB.cell
    by_cases hlt : k < T
    · have q := Lib.hid (SK.out k hlt)
      have A := (hX.cell k).trans (HPX.out k (by omega))
      have hk8 : (k : Int) < 8 := by omega
      by_cases hy : 0 ≤ sl k ∧ sl k ≤ 1152921504606846977
      · obtain ⟨y0, y1⟩ := hy
        have s1 := Lib.hid (S1.out k hlt y0 y1)
        generalize sl k = y at *
        have WE : Hid (IntKind.u64.wrap (IntKind.u64.wrap y + 1) = y + 1) := by show _ = _; rw [wrapu, wrapu]; omega
        go_wp2_with fail
        refine wp_region_tail 9 (by kernel_rfl) (by kernel_rfl) ?_
        simp only [List.take_succ_cons, List.take_zero, List.drop_succ_cons, List.drop_zero]
        repeat (quiet_step ((go_at_call 44; exact calls_later (q.out _))))
        refine wpQuiet_nil ?_
        intro w5 hb5
        have D5 := Lib.hid (hC.out.below hb5)
        have B5 := hB.below' hb5
        have X5 := hX.below' hb5
        have W5 := hW.trans (hb5.mono hW.size)
        clear hC hB hX hW hb5 CB A
        go_wp2_with fail
        (try rw [WE.out])
        refine (cells_store _ _ _ _ D5.out _ (y + 1)).mono ?_
        unfold Turned
        rw [s1.out]
        rintro e w6 ⟨rfl, hC, hM⟩
        have B6 := hM.blk B5 (by omega)
        have X6 := hM.blk X5 (by omega)
        have D6 := Lib.hid hC
        have W6 := below_mod W5 hM W5.size (fun q hq e => by omega)
        clear B5 X5 W5 D5 hC hM
        dsimp only
        go_wp2_with fail
        go_roundw
        case rel => exact ⟨k + 1, by omega, by go_num, D6, B6, X6, W6⟩
        case measure => simp [intOf]; omega
      · have s2 := Lib.hid (S2.out k hy)
        have D6 := Lib.hid (s2.out ▸ hC.out)
        by_cases y0 : 0 ≤ sl k
        · have y1 : 1152921504606846977 < sl k := by omega
          generalize sl k = y at *
          clear hy
          go_wp2_with fail
          go_roundw
          case rel => exact ⟨k + 1, by omega, by go_num, D6, hB, hX, hW⟩
          case measure => simp [intOf]; omega
        · have y1 : sl k < 0 := by omega
          generalize sl k = y at *
          clear hy y0
          go_wp2_with fail
          go_roundw
          case rel => exact ⟨k + 1, by omega, by go_num, D6, hB, hX, hW⟩
          case measure => simp [intOf]; omega
    · obtain rfl : T = k := by omega
      generalize hws : vals N (sleepF f sl T T) = ws at *
      have hwl : ws.length = N := by rw [← hws, vals_length]
      have HWL := Lib.hid hwl
      have HWS := Lib.hid hws
      have BZ : Hid (ws = vals N (bump T late (sleepF f sl T T) 0)) := by
        show _ = _
        rw [← hws]; exact vals_ext fun p _ => (bump_zero T late (sleepF f sl T T) p).symm
      generalize hff : sleepF f sl T T = ff at *
      have BT : Hid (∀ k, k < T → late k = true → (vals N (bump T late ff k)).set (4 + 2 * T + k) (IntKind.u64.wrap (ff (4 + 2 * T + k) + 1)) = vals N (bump T late ff (k + 1))) := fun k hk h => by
        rw [vals_set _ _ _ (by omega), wrapu]
        exact vals_ext fun p _ => (bump_take T late ff k p h).symm
      have BS : Hid (∀ k, late k = false → vals N (bump T late ff k) = vals N (bump T late ff (k + 1))) := fun k h => vals_ext fun p _ => (bump_skip T late ff k p h).symm
      have BG : Hid (∀ k (hk : k < T), wget (vals N (bump T late ff k)) ((4 + 2 * T + k : Nat) : Int) = ff (4 + 2 * T + k)) := fun k hk => by rw [vals_wget _ _ _ (by omega), bump_at]
      clear hws hwl S1 S2 S0 hff
      go_wp2_with fail
      have K0 : Hid (Calls Try.prog 94 #[.pointer (some ⟨b, 0, none⟩)] wr fun e w' => ∃ va vc gw, e = .returned (.slice va N vc) ∧ Row w' gw (.slice va N vc) ws ∧ wr.heap.size ≤ gw ∧ (0 < ws.length → gw < w'.heap.size) ∧ Below wr.heap.size wr w') :=
        (cells_words _ _ _ _ hC.out).mono fun e w' ⟨va, vc, gw, he, hr, h1, h2, h3⟩ => ⟨va, vc, gw, by rw [he, HWL.out], by rw [HWL.out] at hr; exact hr, h1, h2, h3⟩
      refine K0.out.mono ?_
      rintro e w2 ⟨va, vc, gw, rfl, hR2, hg2, hl2, hb2⟩
      have hpos : 0 < N := by omega
      obtain ⟨c3, hv3, _⟩ := hR2.addr (by rw [HWL.out]; exact hpos)
      injection hv3 with hv3 q1 q2
      clear q1 q2
      subst hv3
      have B2 := hB.below' hb2
      have X2 := hX.below' hb2
      have C2 := B2.cell
      have D2 := Lib.hid (hC.out.below hb2)
      have R2 := Lib.hid hR2
      have V2 := hW.trans (hb2.mono hW.size)
      have lgw : gw < w2.heap.size := hl2 (by rw [HWL.out]; omega)
      have nhd : b < wr.heap.size ∧ g < wr.heap.size := hC.out.lt
      have hgw : w.heap.size + 1 < gw ∧ b < gw ∧ g < gw := by have := hX.lt; omega
      clear hB hC hW hb2 hR2 CB hl2 hg2 nhd K0 hX
      dsimp only
      go_wp2_with fail
      refine (MKK.out T (Nat.le_refl _) _).mono ?_
      rintro e w3 ⟨rfl, hb3⟩
      have B3 := B2.below' hb3
      have X3 := X2.below' hb3
      have C3 := B3.cell
      have D3 := Lib.hid (D2.out.below hb3)
      have R3 := Lib.hid (R2.out.below hb3)
      have V3 := V2.trans (hb3.mono V2.size)
      have lgw3 : gw < w3.heap.size := by have := hb3.size; omega
      have hnl : 4 + 2 * (T : Int) + T < N := by omega
      clear B2 X2 C2 D2 R2 V2 hb3 lgw
      dsimp only
      go_wp2_with fail
      refine (wk_new T S L G d _).mono ?_
      rintro e w4 ⟨t, rfl, ht1, ht2, hT4, hb4⟩
      have B4 := B3.below' hb4
      have X4 := X3.below' hb4
      have C4 := B4.cell
      have D4 := Lib.hid (D3.out.below hb4)
      have R4 := Lib.hid (R3.out.below hb4)
      have T4 := Lib.hid hT4
      have V4 := V3.trans (hb4.mono V3.size)
      have htt : gw < t := by omega
      clear B3 C3 D3 R3 V3 hb4 hT4 ht1 ht2 lgw3 X3
      have L4 := Lib.hid (Left.start (wkM T (IntKind.u64.wrap d)) 30 ⟨0, false⟩ ws)
      rw [AL.out] at L4
      generalize IntKind.u64.wrap d = dl at *
      have HM : Hid ((wkM (T : Int) dl).more ⟨T, false⟩ = false) := by show _ = _; simp [wkM]
      generalize hst : (⟨(T : Int), false⟩ : WkS) = st at *
      clear hst
      generalize hfin : vals N (bump T late ff T) = fin at *
      have HFin := Lib.hid hfin
      clear hfin AL
      dsimp only
      go_upto_block 2 with fail
      go_cut [12] (fun v wx => Hid (CellsAt wx b g fin) ∧ Hid (Blk wx t (wkCells T S L G dl st) 160) ∧ Hid (Row wx gw (.slice (some ⟨gw, 0, none⟩) N vc) ws) ∧ Blk wx w.heap.size [.int .i64 T, .int .i64 S, .int .i64 L, .int .u64 G] 24 ∧ Blk wx (w.heap.size + 1) (xs.map (.int .i64)) 134 ∧ Below w.heap.size w wx)
      case first =>
        go_wp2_with fail
        go_loopw [12] (fun i wr => ∃ (k : Nat) (s : WkS) (cur : List Int), k ≤ 30 ∧ i = .int .i64 k ∧ Hid (Left (wkM T dl) 30 k s cur (st, fin)) ∧ Hid (CellsAt wr b g cur) ∧ Hid (Blk wr t (wkCells T S L G dl s) 160) ∧ Hid (Row wr gw (.slice (some ⟨gw, 0, none⟩) N vc) ws) ∧
          Blk wr w.heap.size [.int .i64 T, .int .i64 S, .int .i64 L, .int .u64 G] 24 ∧ Blk wr (w.heap.size + 1) (xs.map (.int .i64)) 134 ∧ Below w.heap.size w wr) (fun i _ => 30 - (intOf i).toNat)
        case atStart => exact ⟨0, _, _, by omega, rfl, L4, D4, T4, R4, B4, X4, V4⟩
        case round =>
          obtain ⟨k, s, cur, hk, rfl, hLf, hC, hT, hR, hB, hX, hW⟩ := hrel
          clear L4 D4 T4 R4 B4 V4 C4 X4
          have CB := hB.cell
          by_cases hlt : k < 30
          · cases hm : (wkM (T : Int) dl).more s with
            | true =>
              have HMO := Lib.hid hm
              clear hm
              go_wp2_with fail
              refine (wk_nextY T S L G dl wr t s hT.out HMO.out).mono ?_
              rintro e w5 ⟨rfl, hb5⟩
              have R5 := Lib.hid (hR.out.below hb5)
              have T5 : Hid (Blk w5 t (wkCells T S L G dl s) 160) := hT.out.below' hb5
              have D5 := Lib.hid (hC.out.below hb5)
              have P5 := hB.below' hb5
              have X5 := hX.below' hb5
              have W5 := hW.trans (hb5.mono hW.size)
              have D6 := Lib.hid (D5.out.below ((Below.refl _ _).alloc (Nat.le_refl _) (.cells ((wkM (T : Int) dl).deed s).cells.toArray 31)))
              clear hR hC hT hB hW hb5 CB hX
              dsimp only
              go_wp2_with fail
              refine (deed_do _ b g _ D6.out ((wkM (T : Int) dl).deed s)).mono ?_
              rintro e w6 ⟨rfl, hC6, hM6⟩
              have M6 : Mod (fun k => k = g) w5 w6 := ((Mod.refl _ _).alloc _).trans' hM6
              have R6 := Lib.hid (R5.out.mod M6 (by omega))
              have T6 := Lib.hid (M6.blk T5.out (by omega))
              have D7 := Lib.hid hC6
              have P6 := M6.blk P5 (by omega)
              have X6 := M6.blk X5 (by omega)
              have W6 := below_mod W5 M6 W5.size (fun q hq e => by omega)
              have LN := Lib.hid (hLf.out.step hlt HMO.out)
              clear R5 T5 D5 P5 W5 D6 hC6 hM6 M6 hLf X5
              dsimp only
              go_wp2_with fail
              refine (wk_tell T S L G dl w6 t s _ T6.out).mono ?_
              rintro e w7 ⟨rfl, hT7, hM7⟩
              have T7 := Lib.hid hT7
              have D8 := Lib.hid (D7.out.mod hM7 (by omega) (by omega))
              have R7 := Lib.hid (R6.out.mod hM7 (by omega))
              have P7 := hM7.blk P6 (by omega)
              have X7 := hM7.blk X6 (by omega)
              have W7 := below_mod W6 hM7 W6.size (fun q hq e => by omega)
              clear R6 T6 D7 P6 W6 hT7 hM7 X6
              dsimp only
              go_wp2_with fail
              go_roundw
              case rel => exact ⟨k + 1, _, _, by omega, by go_num, LN, D8, T7, R7, P7, X7, W7⟩
              case measure => simp [intOf]; omega
            | false =>
              have HMO := Lib.hid hm
              clear hm
              have e1 := hLf.out.stop HMO.out
              rw [Prod.mk.injEq] at e1
              obtain ⟨e1, e2⟩ := e1
              subst e1
              have HE2 := Lib.hid e2
              clear e2
              go_wp2_with fail
              refine (wk_nextN T S L G dl wr t _ hT.out HMO.out).mono ?_
              rintro e w5 ⟨rfl, hb5⟩
              have hb6 := hb5.alloc hb5.size (.cells #[.int .i64 0, .int .i64 0, .int .u64 0, .int .u64 0, .int .u64 0] 31)
              dsimp only
              go_wp2_with fail
              go_meet
              case rel =>
                rw [HE2.out]
                exact ⟨hC.out.below hb6, hT.out.below' hb6, hR.out.below hb6, hB.below' hb6, hX.below' hb6, hW.trans (hb6.mono hW.size)⟩
          · have e1 := hLf.out.out (by omega)
            rw [Prod.mk.injEq] at e1
            obtain ⟨e1, e2⟩ := e1
            subst e1
            have HE2 := Lib.hid e2
            clear e2
            go_wp2_with fail
            go_meet
            case rel =>
              rw [HE2.out]
              exact ⟨hC, hT, hR, hB, hX, hW⟩
      case rest =>
        obtain ⟨hC, hT, hR, hB, hX, hW⟩ := hcut
        rw [BZ.out] at hR
        clear L4 D4 T4 R4 B4 V4 C4 X4
        go_wp2_with fail
        go_loopw [15] (fun i wr => ∃ k : Nat, k ≤ T ∧ i = .int .i64 k ∧ Hid (CellsAt wr b g fin) ∧ Hid (Blk wr t (wkCells T S L G dl st) 160) ∧ Hid (Row wr gw (.slice (some ⟨gw, 0, none⟩) N vc) (vals N (bump T late ff k))) ∧ Blk wr w.heap.size [.int .i64 T, .int .i64 S, .int .i64 L, .int .u64 G] 24 ∧ Blk wr (w.heap.size + 1) (xs.map (.int .i64)) 134 ∧ Below w.heap.size w wr) (fun i _ => T - (intOf i).toNat)
        case atStart => exact ⟨0, by omega, rfl, hC, hT, hR, hB, hX, hW⟩
        case round =>
          clear hC hT hR hB hX hW
          obtain ⟨k, hk, rfl, hC, hT, hR, hB, hX, hW⟩ := hrel
          have CB := hB.cell
          by_cases hlt : k < T
          · have q := Lib.hid (MKK.out k hk)
            have A := (hX.cell k).trans (HPX.out k (by omega))
            have hk8 : (k : Int) < 8 := by omega
            have lt := Lib.hid (LT.out k hlt)
            by_cases hy : d < sl k ∧ sl k ≤ 1152921504606846977
            · have hl : late k = true := by rw [lt.out, decide_eq_true hy]
              have bt := Lib.hid (BT.out k hlt hl)
              have bg := Lib.hid (BG.out k hlt)
              obtain ⟨y0, y1⟩ := hy
              clear lt hl
              generalize sl k = y at *
              generalize ff (4 + 2 * T + k) = z at *
              obtain ⟨m, hm⟩ : ∃ m : Nat, m = 4 + 2 * T + k := ⟨_, rfl⟩
              rw [show 4 + 2 * (T : Int) + (k : Int) = (m : Int) by omega] at q
              rw [← hm] at bt bg
              have hmN : m < N := by omega
              have hmI : (m : Int) < N := by omega
              clear hm
              go_wp2_with fail
              refine (q.out _).mono ?_
              rintro e w5 ⟨rfl, hb5⟩
              have D5 := Lib.hid (hC.out.below hb5)
              have B5 := hB.below' hb5
              have X5 := hX.below' hb5
              have T5 : Hid (Blk w5 t (wkCells T S L G dl st) 160) := hT.out.below' hb5
              have W5 := hW.trans (hb5.mono hW.size)
              have R5 := Lib.hid (hR.out.below hb5)
              have A5 := R5.out.cell m (by rw [vals_length]; exact hmN)
              rw [← wget_nat, bg.out] at A5
              have F5 := R5.out.frozen (by rw [vals_length]; exact hpos) m
              have R6 := R5.out.set m (by rw [vals_length]; exact hmN) (IntKind.u64.wrap (z + 1))
              rw [bt.out] at R6
              have R7 := Lib.hid R6
              have M6 : Mod (fun k => k = gw) w5 (w5.setCell ⟨gw, m, none⟩ (.int .u64 (IntKind.u64.wrap (z + 1)))) := (Mod.refl (fun k => k = gw) w5).setCell (a := ⟨gw, m, none⟩) (fun _ => rfl) _
              have D6 := Lib.hid (D5.out.mod M6 (by omega) (by omega))
              have B6 := M6.blk B5 (by omega)
              have X6 := M6.blk X5 (by omega)
              have T6 := Lib.hid (M6.blk T5.out (by omega))
              have W6 := below_mod W5 M6 W5.size (fun q hq e => by omega)
              clear hC hT hR hB hX hW CB hb5 R6 R5 D5 B5 X5 T5 W5 A
              dsimp only
              go_wp2_with fail
              go_roundw
              case rel => exact ⟨k + 1, by omega, by go_num, D6, T6, R7, B6, X6, W6⟩
              case measure => simp [intOf]; omega
            · have hl : late k = false := by rw [lt.out, decide_eq_false hy]
              have bs := BS.out k hl
              rw [bs] at hR
              clear lt hl bs
              by_cases y0 : d < sl k
              · have y1 : 1152921504606846977 < sl k := by omega
                generalize sl k = y at *
                clear hy
                go_wp2_with fail
                go_roundw
                case rel => exact ⟨k + 1, by omega, by go_num, hC, hT, hR, hB, hX, hW⟩
                case measure => simp [intOf]; omega
              · have y1 : sl k ≤ d := by omega
                generalize sl k = y at *
                clear hy y0
                go_wp2_with fail
                go_roundw
                case rel => exact ⟨k + 1, by omega, by go_num, hC, hT, hR, hB, hX, hW⟩
                case measure => simp [intOf]; omega
          · have ek : k = T := by omega
            rw [ek, HFin.out] at hR
            have hfl : fin.length = N := by rw [← HFin.out, vals_length]
            have HFL := Lib.hid hfl
            clear hfl
            have K2 : Hid (Calls Try.prog 94 #[.pointer (some ⟨b, 0, none⟩)] wr fun e w' => ∃ va2 vc2 g2, e = .returned (.slice va2 N vc2) ∧ Row w' g2 (.slice va2 N vc2) fin ∧ Below wr.heap.size wr w') :=
              (cells_words _ _ _ _ hC.out).mono fun e w' ⟨va2, vc2, g2, he, hr, _, _, hb⟩ => ⟨va2, vc2, g2, by rw [he, HFL.out], by rw [HFL.out] at hr; exact hr, hb⟩
            have DE := Lib.hid ek
            clear hC ek
            go_wp2_with fail
            refine K2.out.mono ?_
            rintro e w5 ⟨va2, vc2, g2, rfl, hR2, hb5⟩
            have R5 := Lib.hid (hR.out.below hb5)
            have N5 := Lib.hid hR2
            have T5 : Hid (Blk w5 t (wkCells T S L G dl st) 160) := hT.out.below' hb5
            have W5 := hW.trans (hb5.mono hW.size)
            obtain ⟨c4, hv4, _⟩ := N5.out.addr (by rw [HFL.out]; exact hpos)
            injection hv4 with hv4 q3 q4
            clear q3 q4
            subst hv4
            clear K2 hR hT hB hW CB hR2 hb5 hX
            dsimp only
            go_wp2_with fail
            go_loopw [17] (fun i wr => ∃ k : Nat, k ≤ N ∧ i = .int .i64 k ∧ Below w5.heap.size w5 wr) (fun i _ => N - (intOf i).toNat)
            case atStart => exact ⟨0, by omega, rfl, Below.refl _ _⟩
            case round =>
              obtain ⟨j, hj, rfl, hb⟩ := hrel
              by_cases hlt : j < N
              · have p0 := (R5.out.below hb).cell j (by rw [HFL.out]; exact hlt)
                have r0 := (N5.out.below hb).cell j (by rw [HFL.out]; exact hlt)
                have hk8 : (j : Int) < N := by omega
                generalize fin[j]'(by rw [HFL.out]; exact hlt) = y at *
                go_wp2_with fail
                refine wp_region_reads (by kernel_rfl) (by kernel_rfl) ?_
                repeat (quiet_step (fail))
                refine wpQuiet_nil ?_
                intro w6 hb6
                go_wp2_with fail
                go_roundw
                case rel => exact ⟨j + 1, by omega, by go_num, hb.trans (hb6.mono hb.size)⟩
                case measure => simp [intOf]; omega
              · have T6 := Lib.hid (T5.out.below' hb)
                have W6 := W5.trans (hb.mono W5.size)
                clear N5 T5 W5 hb R5
                go_wp2_with fail
                refine (wk_nextN T S L G dl wr t _ T6.out HM.out).mono ?_
                rintro e w7 ⟨rfl, hb7⟩
                have hb8 := hb7.alloc hb7.size (.cells #[.int .i64 0, .int .i64 0, .int .u64 0, .int .u64 0, .int .u64 0] 31)
                have W8 := W6.trans (hb8.mono W6.size)
                clear T6 W6 hb7 hb8
                dsimp only
                go_wp2_with fail
                refine (wk_awake _).mono ?_
                rintro e w10 ⟨rfl, hb10⟩
                have W10 := W8.trans (hb10.mono W8.size)
                dsimp only
                go_wp2_with fail
                go_ret
                exact ⟨rfl, W10⟩
theorem wakeJust_yes (hP : PRight T S L G) (hG : 0 ≤ G) (d : Int) (xs : List Int) (hx : xs.length = 8) (w : World) : Calls Try.prog 23 #[planV T S L G, .int .i64 d, .agg (xs.map (.int .i64)).toArray] w fun e w' => e = .returned (.bool true) ∧ Below w.heap.size w w' := by
  by_cases h : d < 0 ∨ 1152921504606846976 < d
  · exact wakeJust_out T S L G hT hS hL hP hG d xs hx h w
  · exact wakeJust_in T S L G hT hS hL hP hG d xs hx (by omega) (by omega) w
end
theorem wakeJust_walk (T S L G d : Int) (xs : List Int) (hx : xs.length = 8) (hG : 0 ≤ G) (w : World) : Calls Try.prog 23 #[planV T S L G, .int .i64 d, .agg (xs.map (.int .i64)).toArray] w fun e w' => e = .returned (.bool true) ∧ Below w.heap.size w w' := by
  by_cases h : PRight T S L G
  · have h' := h
    obtain ⟨⟨a, b⟩, ⟨c, d'⟩, ⟨e, f⟩, _⟩ := h'
    obtain ⟨T, rfl⟩ : ∃ m : Nat, T = m := ⟨T.toNat, by omega⟩
    obtain ⟨S, rfl⟩ : ∃ m : Nat, S = m := ⟨S.toNat, by omega⟩
    obtain ⟨L, rfl⟩ : ∃ m : Nat, L = m := ⟨L.toNat, by omega⟩
    exact wakeJust_yes T S L G (by omega) (by omega) (by omega) h hG d xs hx w
  · exact wakeJust_no T S L G d xs hx h w
end Go.Proofs.Ytgkobmmannkegaa

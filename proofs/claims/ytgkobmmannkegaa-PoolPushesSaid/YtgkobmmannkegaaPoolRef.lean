/-
  The pool's tasks: the document's text over a tape.
-/
import Derived.Test.YtgkobmmannkegaaPool
import Derived.Test.YtgkobmmannkegaaDPoolPops
import Derived.Test.YtgkobmmannkegaaDPoolPushes
import Derived.Test.YtgkobmmannkegaaParkRef
import Derived.Test.YtgkobmmannkegaaFree
namespace Go.Proofs.Ytgkobmmannkegaa
open Go Go.RowKit
set_option linter.unusedVariables false

theorem rhigh_any (x : Int) (h0 : 0 ≤ x) (h1 : x < 18446744073709551616) (w : World) : Calls Try.prog 186 #[.int .u64 x] w fun e w' => e = .returned (.int .u64 (x / 4294967296)) ∧ w = w' := rhigh_calls x h0 h1 w
set_option maxHeartbeats 4000000 in
set_option maxRecDepth 100000 in
theorem pop_ref (T S L G : Int) (w : World) (x lo : Nat) (inV : Value) (ins : List Int) (hWd : Wide ins) (hF : FreshTape w x inV ins) (hlo : w.heap.size = lo) (hn : ins.length ≤ 300) :
    TapeCalls 136 #[.pointer (some ⟨x, 0, none⟩), planV T S L G] w x lo inV (.int .i64 (popOut T L ins)) (popEnd T L ins) := by
  subst hlo
  have HF := Lib.hid hF
  have hx := hF.blk.lt
  have FEW : Hid (∀ s, PopLoop T L ins s → s.out.length ≤ 4096) := fun s h => pop_few h (by omega)
  have WD : Hid (∀ v, (v = 0 ∨ v ∈ ins) → 0 ≤ v ∧ v < 18446744073709551616) := fun v h => by
    rcases h with rfl | h
    · omega
    · exact hWd v h
  have B0 := Blk.new w [.int .i64 T, .int .i64 S, .int .i64 L, .int .u64 G] 24
  have T1 := Lib.hid (HF.out.alloc (.cells #[.int .i64 T, .int .i64 S, .int .i64 L, .int .u64 G] 24)).tape
  have M0 : Hid (Mod (fun _ => False) w (w.alloc (.cells #[.int .i64 T, .int .i64 S, .int .i64 L, .int .u64 G] 24))) := Lib.hid ((Mod.refl _ _).alloc _)
  have l0 := B0.lt
  have HL : Hid (PopLoop T L ins ⟨[], false⟩) := PopLoop.start
  clear hF hWd
  go_enter Try.func136, Try.ntmps136
  go_wp2_with fail
  generalize hw0 : w.alloc (.cells #[.int .i64 T, .int .i64 S, .int .i64 L, .int .u64 G] 24) = w0 at *
  clear hw0
  go_loopw [5, 6, 7] (fun a b c wr => ∃ (s : TapeS), Hid (PopLoop T L ins s) ∧ Hid (TapeIn wr x w0.heap.size inV ins s) ∧ Hid (Mod (TapeMod x w0.heap.size) w0 wr) ∧ Blk wr w.heap.size [.int .i64 T, .int .i64 S, .int .i64 L, .int .u64 G] 24) (fun _ _ _ wr => tapeLeft ins.length x wr)
  case atStart => exact ⟨⟨[], false⟩, HL, T1, Mod.refl _ _, B0⟩
  case round =>
    obtain ⟨s, hL, hT, hM, hP⟩ := hrel
    clear HL T1 B0
    have CP := hP.cell
    have hleft := tapeLeft_eq ins.length hT.out
    obtain ⟨_, _, vo, hB, _⟩ := hT.out.tape
    have CB := hB.cell
    have HLe := Lib.hid hleft
    clear hleft
    obtain ⟨so, sb⟩ := s
    cases sb with
    | true =>
      have g3 := Lib.hid (pop_stopped hL.out rfl)
      go_wp2_with fail
      go_ret
      exact ⟨by rw [g3.out.2]; rfl, g3.out.1 ▸ hT.out.tape.lower (by omega) hx, TapeMod.lower hM.out M0.out (by omega)⟩
    | false =>
      obtain ⟨hso, v, s1, g1, gl, gv, g2⟩ := pop_round hL.out rfl
      have G1 := Lib.hid g1
      have G2 := Lib.hid g2
      have hv := WD.out v gv
      clear g1 g2 gv
      go_wp2_with fail
      refine (tape_load_eq hT.out G1.out).mono ?_
      rintro e w3 ⟨rfl, ht3, hM3⟩
      have M3 := Lib.hid (hM.out.trans' hM3)
      have T3 := Lib.hid (hT.out.step ht3 hM3 (by omega))
      have P3 := hM3.blk hP (by unfold TapeMod; omega)
      have CP3 := P3.cell
      obtain ⟨_, _, vo3, hB3, _⟩ := ht3
      have C3 := hB3.cell
      clear hM3 CB hB hP CP
      obtain ⟨o1, b1⟩ := s1
      rcases G2.out with ⟨ha, he, ho, hv0⟩ | ⟨hb1, hnz, y, s2, hd, hl2, hy, z, s3, hd3, hl3, hcase⟩
      · have hz : v % 4294967296 = 0 := by
          rcases ha with h | h
          · rw [hv0 h]; rfl
          · exact h
        have HE := Lib.hid he
        have HO := Lib.hid ho
        clear ha he ho hv0 G2
        go_wp2_with fail
        go_ret
        exact ⟨by rw [HO.out]; rfl, HE.out ▸ T3.out.tape.lower (by omega) hx, TapeMod.lower M3.out M0.out (by omega)⟩
      · simp only at hb1
        subst hb1
        have HD := Lib.hid hd
        have HD3 := Lib.hid hd3
        have HC := Lib.hid hcase
        have hyb := WD.out y hy
        obtain ⟨q, hq⟩ : ∃ q, v / 4294967296 = q := ⟨_, rfl⟩
        have RH : Hid (∀ W, Calls Try.prog 186 #[.int .u64 v] W fun e w' => e = .returned (.int .u64 q) ∧ W = w') := fun W => by
          have := rhigh_calls v hv.1 hv.2 W
          rw [hq] at this
          exact this
        have TQ : Hid (turnedP v y = pairP (IntKind.u64.wrap (q + 1)) y) := by show _ = _; unfold turnedP; rw [hq]
        rw [TQ.out] at HD3
        have y0 : 0 ≤ v % 4294967296 := by omega
        have y1 : v % 4294967296 < 4294967296 := by omega
        have yn : (v % 4294967296 == 0) = false := by simpa using hnz
        have RS : Hid (Gives 56 #[planV T S L G, .int .i64 (v % 4294967296), .int .i64 5] (.int .i64 (slotP T L (v % 4294967296) 5))) := rslot_calls T S L G (v % 4294967296) 5
        clear hd hd3 hcase hy hq hnz G2
        go_wp2_with fail
        refine (RS.out _).mono ?_
        rintro e w4 ⟨rfl, hb4⟩
        have T4 : Hid (TapeIn w4 x w0.heap.size inV ins ⟨o1, false⟩) := ⟨T3.out.tape.below hb4, T3.out.reads.below hb4, T3.out.few, T3.out.short⟩
        have P4 := P3.below' hb4
        have M4 := Lib.hid (M3.out.thenBelow hb4)
        clear T3 P3 M3 hb4 CP3 C3 hB3
        dsimp only
        go_wp2_with fail
        refine (tape_load_eq T4.out HD.out).mono ?_
        rintro e w5 ⟨rfl, ht5, hM5⟩
        have M5 := Lib.hid (M4.out.trans' hM5)
        have T5 := Lib.hid (T4.out.step ht5 hM5 (by omega))
        have P5 := hM5.blk P4 (by unfold TapeMod; omega)
        have CP5 := P5.cell
        clear hM5 T4 P4 M4 ht5
        dsimp only
        have HV := Lib.hid hv
        clear hv
        go_wp2_with fail
        refine (RH.out _).mono ?_
        rintro e w6 ⟨rfl, rfl⟩
        dsimp only
        go_wp2_with fail
        refine (rpair_calls _ _ (by rw [wrapu]; omega) hyb.1 _).mono ?_
        rintro e w6 ⟨rfl, rfl⟩
        dsimp only
        go_wp2_with fail
        refine (tape_swap_eq T5.out HD3.out).mono ?_
        rintro e w6 ⟨rfl, ht6, hM6⟩
        have M6 := Lib.hid (M5.out.trans' hM6)
        have T6 := Lib.hid (T5.out.step ht6 hM6 (by omega))
        have P6 := hM6.blk P5 (by unfold TapeMod; omega)
        have HL6 := Lib.hid (tapeLeft_eq ins.length T6.out)
        clear hM6 T5 P5 M5 ht6 CP5
        obtain ⟨o3, b3⟩ := s3
        rcases HC.out with ⟨hb3, hz, he, ho⟩ | ⟨hb3, hn2⟩ | ⟨hb3, hz, hn2, hlt⟩
        · simp only at hb3
          subst hb3
          subst hz
          have HE := Lib.hid he
          have HO := Lib.hid ho
          clear he ho HC
          go_wp2_with fail
          go_ret
          exact ⟨by rw [HO.out]; rfl, HE.out ▸ T6.out.tape.lower (by omega) hx, TapeMod.lower M6.out M0.out (by omega)⟩
        · simp only at hb3
          subst hb3
          have HN := Lib.hid hn2
          clear hn2 HC
          go_wp2_with fail
          go_roundw
          case rel => exact ⟨⟨o3, true⟩, HN, T6, M6, P6⟩
          case measure => rw [HLe.out, HL6.out]; simp; omega
        · simp only at hb3
          subst hb3
          have HN := Lib.hid hn2
          have bz : (z == v) = false := by simpa using hz
          clear hn2 HC hz
          go_wp2_with fail
          go_roundw
          case rel => exact ⟨⟨o3, false⟩, HN, T6, M6, P6⟩
          case measure => rw [HLe.out, HL6.out]; simp at hlt hso ⊢; omega
set_option maxHeartbeats 4000000 in
set_option maxRecDepth 100000 in
theorem push_ref (T S L G i : Int) (w : World) (x lo : Nat) (inV : Value) (ins : List Int) (hWd : Wide ins) (hF : FreshTape w x inV ins) (hlo : w.heap.size = lo) (hn : ins.length ≤ 300) :
    TapeCalls 141 #[.pointer (some ⟨x, 0, none⟩), planV T S L G, .int .i64 i] w x lo inV (.tuple #[]) (pushEnd T L i ins) := by
  subst hlo
  have HF := Lib.hid hF
  have hx := hF.blk.lt
  have FEW : Hid (∀ s, PushLoop T L i ins s → s.out.length ≤ 4096) := fun s h => push_few h (by omega)
  have WD : Hid (∀ v, (v = 0 ∨ v ∈ ins) → 0 ≤ v ∧ v < 18446744073709551616) := fun v h => by
    rcases h with rfl | h
    · omega
    · exact hWd v h
  have B0 := Blk.new w [.int .i64 T, .int .i64 S, .int .i64 L, .int .u64 G] 24
  have T1 := Lib.hid (HF.out.alloc (.cells #[.int .i64 T, .int .i64 S, .int .i64 L, .int .u64 G] 24)).tape
  have M0 : Hid (Mod (fun _ => False) w (w.alloc (.cells #[.int .i64 T, .int .i64 S, .int .i64 L, .int .u64 G] 24))) := Lib.hid ((Mod.refl _ _).alloc _)
  have l0 := B0.lt
  have HL : Hid (PushLoop T L i ins ⟨[], false⟩) := PushLoop.start
  have RS : Hid (Gives 56 #[planV T S L G, .int .i64 i, .int .i64 5] (.int .i64 (slotP T L i 5))) := rslot_calls T S L G i 5
  have iu : 0 ≤ IntKind.u64.wrap i := by rw [wrapu]; omega
  have HI := Lib.hid iu
  clear hF hWd iu
  go_enter Try.func141, Try.ntmps141
  go_wp2_with fail
  generalize hw0 : w.alloc (.cells #[.int .i64 T, .int .i64 S, .int .i64 L, .int .u64 G] 24) = w0 at *
  clear hw0
  go_loopw [6] (fun a wr => ∃ (s : TapeS), Hid (PushLoop T L i ins s) ∧ Hid (TapeIn wr x w0.heap.size inV ins s) ∧ Hid (Mod (TapeMod x w0.heap.size) w0 wr) ∧ Blk wr w.heap.size [.int .i64 T, .int .i64 S, .int .i64 L, .int .u64 G] 24) (fun _ wr => tapeLeft ins.length x wr)
  case atStart => exact ⟨⟨[], false⟩, HL, T1, Mod.refl _ _, B0⟩
  case round =>
    obtain ⟨s, hL, hT, hM, hP⟩ := hrel
    clear HL T1 B0
    have CP := hP.cell
    have hleft := tapeLeft_eq ins.length hT.out
    obtain ⟨_, _, vo, hB, _⟩ := hT.out.tape
    have CB := hB.cell
    have HLe := Lib.hid hleft
    clear hleft
    obtain ⟨so, sb⟩ := s
    cases sb with
    | true =>
      have g3 := Lib.hid (push_stopped hL.out rfl)
      go_wp2_with fail
      go_returns
      exact ⟨rfl, g3.out ▸ hT.out.tape.lower (by omega) hx, TapeMod.lower hM.out M0.out (by omega)⟩
    | false =>
      obtain ⟨hso, v, s1, g1, gl, gv, y, s2, hd, hl2, z, s3, hd3, hl3, hcase⟩ := push_round hL.out rfl
      have G1 := Lib.hid g1
      have HD := Lib.hid hd
      have HC := Lib.hid hcase
      have hv := WD.out v gv
      obtain ⟨q, hq⟩ : ∃ q, v / 4294967296 = q := ⟨_, rfl⟩
      have RH : Hid (∀ W, Calls Try.prog 186 #[.int .u64 v] W fun e w' => e = .returned (.int .u64 q) ∧ W = w') := fun W => by
        have := rhigh_calls v hv.1 hv.2 W
        rw [hq] at this
        exact this
      have TQ : Hid (turnedP v (IntKind.u64.wrap i) = pairP (IntKind.u64.wrap (q + 1)) (IntKind.u64.wrap i)) := by show _ = _; unfold turnedP; rw [hq]
      rw [TQ.out] at hd3
      have HD3 := Lib.hid hd3
      clear g1 gv hd hd3 hcase hq
      go_wp2_with fail
      refine (tape_load_eq hT.out G1.out).mono ?_
      rintro e w3 ⟨rfl, ht3, hM3⟩
      have M3 := Lib.hid (hM.out.trans' hM3)
      have T3 := Lib.hid (hT.out.step ht3 hM3 (by omega))
      have P3 := hM3.blk hP (by unfold TapeMod; omega)
      have CP3 := P3.cell
      clear hM3 CB hB hP CP ht3
      dsimp only
      go_wp2_with fail
      refine (RS.out _).mono ?_
      rintro e w4 ⟨rfl, hb4⟩
      have T4 : Hid (TapeIn w4 x w0.heap.size inV ins s1) := ⟨T3.out.tape.below hb4, T3.out.reads.below hb4, T3.out.few, T3.out.short⟩
      have P4 := P3.below' hb4
      have M4 := Lib.hid (M3.out.thenBelow hb4)
      clear T3 P3 M3 hb4 CP3
      dsimp only
      go_wp2_with fail
      refine (tape_store_eq T4.out HD.out).mono ?_
      rintro e w5 ⟨rfl, ht5, hM5⟩
      have M5 := Lib.hid (M4.out.trans' hM5)
      have T5 := Lib.hid (T4.out.step ht5 hM5 (by omega))
      have P5 := hM5.blk P4 (by unfold TapeMod; omega)
      have CP5 := P5.cell
      clear hM5 T4 P4 M4 ht5
      dsimp only
      have HV := Lib.hid hv
      clear hv
      go_wp2_with fail
      refine (RH.out _).mono ?_
      rintro e w6 ⟨rfl, rfl⟩
      dsimp only
      go_wp2_with fail
      refine (rpair_calls _ _ (by rw [wrapu]; omega) HI.out _).mono ?_
      rintro e w6 ⟨rfl, rfl⟩
      dsimp only
      go_wp2_with fail
      refine (tape_swap_eq T5.out HD3.out).mono ?_
      rintro e w6 ⟨rfl, ht6, hM6⟩
      have M6 := Lib.hid (M5.out.trans' hM6)
      have T6 := Lib.hid (T5.out.step ht6 hM6 (by omega))
      have P6 := hM6.blk P5 (by unfold TapeMod; omega)
      have HL6 := Lib.hid (tapeLeft_eq ins.length T6.out)
      clear hM6 T5 P5 M5 ht6 CP5
      obtain ⟨o3, b3⟩ := s3
      rcases HC.out with ⟨hb3, hz, he⟩ | ⟨hb3, hn2⟩ | ⟨hb3, hz, hn2, hlt⟩
      · simp only at hb3
        subst hb3
        subst hz
        have HE := Lib.hid he
        clear he HC
        go_wp2_with fail
        go_returns
        exact ⟨rfl, HE.out ▸ T6.out.tape.lower (by omega) hx, TapeMod.lower M6.out M0.out (by omega)⟩
      · simp only at hb3
        subst hb3
        have HN := Lib.hid hn2
        clear hn2 HC
        go_wp2_with fail
        go_roundw
        case rel => exact ⟨⟨o3, true⟩, HN, T6, M6, P6⟩
        case measure => rw [HLe.out, HL6.out]; simp; omega
      · simp only at hb3
        subst hb3
        have HN := Lib.hid hn2
        have bz : (z == v) = false := by simpa using hz
        clear hn2 HC hz
        go_wp2_with fail
        go_roundw
        case rel => exact ⟨⟨o3, false⟩, HN, T6, M6, P6⟩
        case measure => rw [HLe.out, HL6.out]; simp at hlt hso ⊢; omega
end Go.Proofs.Ytgkobmmannkegaa

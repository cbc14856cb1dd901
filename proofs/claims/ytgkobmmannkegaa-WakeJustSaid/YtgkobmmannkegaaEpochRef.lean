/-
  Advancing the epoch: the document's text over a tape, and the fixed course.
-/
import Derived.Test.YtgkobmmannkegaaEpoch
import Derived.Test.YtgkobmmannkegaaDEpochAsks
import Derived.Test.YtgkobmmannkegaaPin
namespace Go.Proofs.Ytgkobmmannkegaa
open Go Go.RowKit
set_option linter.unusedVariables false

/-- Where the task stands at index i of its loop. -/
def epHead (T i e : Int) : EpS := ⟨if T ≤ i then 3 else 2, i, e, false⟩
theorem ep_head0 (T i e x : Int) : (epM T).tell ⟨1, i, e, false⟩ x = epHead T i x := by
  simp only [epM, epTell, epHead]; by_cases h : T ≤ i <;> simp [h]
theorem ep_head_next (T i e x : Int) (hi : i < T) (hx : x = 0 ∨ x = e) : (epM T).tell (epHead T i e) x = epHead T (wrap64 (i + 1)) e := by
  have h : ¬ T ≤ i := by omega
  simp only [epM, epTell, epHead, h]; by_cases h2 : T ≤ wrap64 (i + 1) <;> simp [hx, h2]
theorem ep_head_bad (T i e x : Int) (hi : i < T) (hx : ¬ (x = 0 ∨ x = e)) : (epM T).tell (epHead T i e) x = ⟨0, wrap64 (i + 1), e, false⟩ := by
  have h : ¬ T ≤ i := by omega
  simp only [epM, epTell, epHead, h]; simp [hx]
theorem ep_head_more (T i e : Int) : (epM T).more (epHead T i e) = true := by
  simp only [epM, epHead]; split <;> simp
theorem ep_head_deed (T i e : Int) (hi : i < T) : (epM T).deed (epHead T i e) = ⟨1, wrap64 (4 + i), 0, 0, 0⟩ := by
  have h : ¬ T ≤ i := by omega
  simp [epM, epDeed, epHead, h]
theorem ep_head_deed3 (T i e : Int) (hi : T ≤ i) : (epM T).deed (epHead T i e) = ⟨3, 0, e, epU e, 0⟩ := by
  simp [epM, epDeed, epHead, hi]
theorem ep_head_tell3 (T i e x : Int) (hi : T ≤ i) : (epM T).tell (epHead T i e) x = ⟨0, i, e, decide (x = e)⟩ := by
  simp [epM, epTell, epHead, hi]

/-- The loop's state: side by side with the task, or stopped. -/
def EpLoop (T : Int) (ins : List Int) (i e : Int) (s : TapeS) : Prop :=
  Sync (epM T) ins ⟨1, 0, 0, false⟩ (epHead T i e) s ∨ ∃ st : EpS, st.won = false ∧ Fin (epM T) ins ⟨1, 0, 0, false⟩ st s
theorem ep_last {T : Int} {ins : List Int} {i e : Int} {s : TapeS} (hL : EpLoop T ins i e s) (hi : T ≤ i ∨ s.stop = true) : ∃ v' s', tdo ins s ⟨3, 0, e, epU e, 0⟩ = (v', s') ∧
    (v' == e && !s'.stop) = (drive (epM T) ins ⟨1, 0, 0, false⟩).2.won ∧ s' = ⟨(drive (epM T) ins ⟨1, 0, 0, false⟩).1, (epM T).more (drive (epM T) ins ⟨1, 0, 0, false⟩).2⟩ := by
  rcases hL with h | ⟨st, hw, h⟩
  · have hi : T ≤ i := by
      rcases hi with hi | hi
      · exact hi
      · rw [h.1] at hi; cases hi
    rcases h.ask (ep_head_more _ _ _) _ (ep_head_deed3 T i e hi) with ⟨v', h1, _, h3⟩ | ⟨h1, h3⟩
    · rw [ep_head_tell3 T i e v' hi] at h3
      have hd := h3.done (by simp [epM])
      rw [h1] at hd
      refine ⟨v', _, h1, ?_, hd.1⟩
      rw [hd.2]; rw [Bool.eq_iff_iff]; simp
    · have hd := h3.done
      rw [h1] at hd
      refine ⟨0, _, h1, ?_, hd.1⟩
      rw [hd.2]; simp [epHead]
  · have hd := h.done
    refine ⟨0, s, h.ask _, ?_, hd.1⟩
    have hs : s.stop = true := by rw [h.1]
    rw [hd.2, hw, hs]; simp
/-- One more reading in the loop. -/
theorem ep_read {T : Int} {ins : List Int} {i e : Int} {s : TapeS} (hL : EpLoop T ins i e s) (hi : i < T) (hs : s.stop = false) : ∃ x s', tdo ins s ⟨1, wrap64 (4 + i), 0, 0, 0⟩ = (x, s') ∧
    ((x = 0 ∨ x = e) ∧ EpLoop T ins (wrap64 (i + 1)) e s' ∨
     (¬ (x = 0 ∨ x = e) ∧ false = (drive (epM T) ins ⟨1, 0, 0, false⟩).2.won ∧ s' = ⟨(drive (epM T) ins ⟨1, 0, 0, false⟩).1, (epM T).more (drive (epM T) ins ⟨1, 0, 0, false⟩).2⟩ ∧ s'.out.length ≤ ins.length + 1)) := by
  rcases hL with h | ⟨st, hw, h⟩
  · rcases h.ask (ep_head_more _ _ _) _ (ep_head_deed T i e hi) with ⟨x, h1, _, h3⟩ | ⟨h1, h3⟩
    · refine ⟨x, _, h1, ?_⟩
      rw [h1] at h3
      by_cases hx : x = 0 ∨ x = e
      · rw [ep_head_next T i e x hi hx] at h3
        exact .inl ⟨hx, .inl h3⟩
      · rw [ep_head_bad T i e x hi hx] at h3
        have hd := h3.done (by simp [epM])
        refine .inr ⟨hx, by rw [hd.2], hd.1, ?_⟩
        exact Nat.le_succ_of_le h3.2.1
    · refine ⟨0, _, h1, .inl ⟨.inl rfl, .inr ⟨epHead T i e, rfl, ?_⟩⟩⟩
      rw [h1] at h3; exact h3
  · have : s.stop = true := by rw [h.1]
    rw [this] at hs; cases hs
set_option maxHeartbeats 4000000 in
theorem ep_ref (T S L G : Int) (w : World) (x lo : Nat) (inV : Value) (ins : List Int) (hF : FreshTape w x inV ins) (hlo : w.heap.size = lo) (hn : ins.length ≤ 300) (hTb : T < 9223372036854775808) :
    TapeCalls 74 #[.pointer (some ⟨x, 0, none⟩), planV T S L G] w x lo inV (.bool (drive (epM T) ins ⟨1, 0, 0, false⟩).2.won) ⟨(drive (epM T) ins ⟨1, 0, 0, false⟩).1, (epM T).more (drive (epM T) ins ⟨1, 0, 0, false⟩).2⟩ := by
  subst hlo
  have HF := Lib.hid hF
  have hx := hF.blk.lt
  clear hF
  have T0 := Lib.hid (HF.out.alloc (.cells #[.int .i64 T, .int .i64 S, .int .i64 L, .int .u64 G] 24)).tape
  have hs : ∃ v s1, tdo ins ⟨[], false⟩ ⟨1, 0, 0, 0, 0⟩ = (v, s1) ∧ EpLoop T ins 0 v s1 := by
    rcases (Sync.start (epM T) ins ⟨1, 0, 0, false⟩).ask (by simp [epM]) ⟨1, 0, 0, 0, 0⟩ (by simp [epM, epDeed]) with ⟨v, h1, _, h3⟩ | ⟨h1, h3⟩
    · refine ⟨v, _, h1, .inl ?_⟩
      rw [h1, ep_head0] at h3; exact h3
    · refine ⟨0, _, h1, .inr ⟨⟨1, 0, 0, false⟩, rfl, ?_⟩⟩
      rw [h1] at h3; exact h3
  obtain ⟨v, s1, hv, hL⟩ := hs
  have HV := Lib.hid hv
  have HL := Lib.hid hL
  have few : ∀ i e s, EpLoop T ins i e s → s.out.length ≤ 4096 := by
    rintro i e s (h | ⟨st, _, h⟩)
    · exact h.few (by omega)
    · exact h.few (by omega)
  have FEW := Lib.hid few
  clear hv hL few
  go_enter Try.func74, Try.ntmps74
  go_wp2_with fail
  refine (tape_load_eq T0.out HV.out).mono ?_
  rintro e w1 ⟨rfl, ht1, hM1⟩
  have T1 := Lib.hid (T0.out.step ht1 hM1 (FEW.out _ _ _ HL.out))
  have P1 := hM1.blk (Blk.new _ _ _) (by unfold TapeMod; simp; omega)
  have M1 : Mod (TapeMod x (w.heap.size + 1)) (w.alloc (.cells #[.int .i64 T, .int .i64 S, .int .i64 L, .int .u64 G] 24)) w1 := by simpa using hM1
  have N1 := Lib.hid M1
  clear ht1 hM1 M1
  go_wp2_with fail
  go_loopw [6, 7] (fun iv xv wr => ∃ (i : Int) (s : TapeS), iv = .int .i64 i ∧ 0 ≤ i ∧ (i = 0 ∨ i ≤ T) ∧ Hid (EpLoop T ins i v s) ∧ Hid (TapeIn wr x (w.heap.size + 1) inV ins s) ∧ Blk wr w.heap.size [.int .i64 T, .int .i64 S, .int .i64 L, .int .u64 G] 24 ∧
    Hid (Mod (TapeMod x (w.heap.size + 1)) (w.alloc (.cells #[.int .i64 T, .int .i64 S, .int .i64 L, .int .u64 G] 24)) wr)) (fun iv _ _ => (T - intOf iv).toNat)
  case atStart => exact ⟨0, s1, rfl, by omega, .inl rfl, HL, by simpa using T1, P1, N1⟩
  case round =>
    obtain ⟨i, s, rfl, h0, hiT, hL, hT, hP, hM⟩ := hrel
    obtain ⟨_, _, vo, hB, _⟩ := hT.out.tape
    have CB := hB.cell
    have CP := hP.cell
    by_cases hi : i < T
    · have hi64 : wrap64 (i + 1) = i + 1 := by rw [wrap64_def]; omega
      obtain ⟨so, sb⟩ := s
      cases sb with
      | false =>
        obtain ⟨xv, s', g1, g2⟩ := ep_read hL.out hi rfl
        have G1 := Lib.hid g1
        have G2 := Lib.hid g2
        clear g1 g2
        go_wp2_with fail
        refine (rpin_calls T S L G _ _).mono ?_
        rintro e w2 ⟨rfl, hb2⟩
        have T2 : Hid (TapeIn w2 x _ inV ins ⟨so, false⟩) := ⟨hT.out.tape.below hb2, hT.out.reads.below hb2, hT.out.few, hT.out.short⟩
        have P2 := hP.below' hb2
        have M2 := Lib.hid (hM.out.thenBelow hb2)
        clear CB CP hB hT hP hM hb2
        go_wp2_with fail
        refine (tape_load_eq T2.out G1.out).mono ?_
        rintro e w3 ⟨rfl, ht3, hM3⟩
        have HT3 := Lib.hid ht3
        have P3 := hM3.blk P2 (by unfold TapeMod; omega)
        have M3 := Lib.hid (M2.out.trans' hM3)
        have S3 := Lib.hid hM3
        clear ht3 hM3
        rcases G2.out with ⟨hx0, hn0⟩ | ⟨hx0, hw0, hs0, hl0⟩
        · rw [hi64] at hn0
          have HN := Lib.hid hn0
          have T3 := Lib.hid (T2.out.step HT3.out S3.out (FEW.out _ _ _ HN.out))
          clear hn0
          rcases hx0 with rfl | rfl
          · go_wp2_with fail
            go_roundw
            case rel => exact ⟨i + 1, s', by go_num, by omega, .inr (by omega), HN, T3, P3, M3⟩
            case measure => simp [intOf]; omega
          · by_cases hv0 : xv = 0
            · subst hv0
              go_wp2_with fail
              go_roundw
              case rel => exact ⟨i + 1, s', by go_num, by omega, .inr (by omega), HN, T3, P3, M3⟩
              case measure => simp [intOf]; omega
            · have hv1 : (xv != 0) = true := by simpa using hv0
              go_wp2_with fail
              go_roundw
              case rel => exact ⟨i + 1, s', by go_num, by omega, .inr (by omega), HN, T3, P3, M3⟩
              case measure => simp [intOf]; omega
        · have hx1 : (xv != 0) = true := by simp; omega
          have hx2 : (xv != v) = true := by simp; omega
          have HW := Lib.hid hw0
          have HS := Lib.hid hs0
          clear hx0 hw0 hs0
          go_wp2_with fail
          go_ret
          have z : Mod (fun _ => False) w (w.alloc (.cells #[.int .i64 T, .int .i64 S, .int .i64 L, .int .u64 G] 24)) := (Mod.refl _ _).alloc _
          refine ⟨ret_bool HW.out, ?_, TapeMod.lower M3.out z (by simp)⟩
          rw [← HS.out]; exact HT3.out.lower (by simp) hx
      | true =>
        have z : Mod (fun _ => False) w (w.alloc (.cells #[.int .i64 T, .int .i64 S, .int .i64 L, .int .u64 G] 24)) := (Mod.refl _ _).alloc _
        obtain ⟨v', s', g1, g2, g3⟩ := ep_last hL.out (.inr rfl)
        have G1 := Lib.hid g1
        have G2 := Lib.hid g2
        have G3 := Lib.hid g3
        clear g1 g2 g3
        go_wp2_with fail
        refine (tape_swap_eq hT.out G1.out).mono ?_
        rintro e w2 ⟨rfl, ht2, hM2⟩
        go_wp2_with fail
        go_ret
        have g3 := G3.out
        refine ⟨ret_bool G2.out, ?_, TapeMod.lower (hM.out.trans' hM2) z (by simp)⟩
        rw [← g3]; exact ht2.lower (by simp) hx
    · have hTi : T ≤ i := by omega
      have z : Mod (fun _ => False) w (w.alloc (.cells #[.int .i64 T, .int .i64 S, .int .i64 L, .int .u64 G] 24)) := (Mod.refl _ _).alloc _
      obtain ⟨v', s', g1, g2, g3⟩ := ep_last hL.out (.inl hTi)
      have G1 := Lib.hid g1
      have G2 := Lib.hid g2
      have G3 := Lib.hid g3
      clear g1 g2 g3
      go_wp2_with fail
      refine (tape_swap_eq hT.out G1.out).mono ?_
      rintro e w2 ⟨rfl, ht2, hM2⟩
      go_wp2_with fail
      go_ret
      have g3 := G3.out
      refine ⟨ret_bool G2.out, ?_, TapeMod.lower (hM.out.trans' hM2) z (by simp)⟩
      rw [← g3]; exact ht2.lower (by simp) hx
end Go.Proofs.Ytgkobmmannkegaa

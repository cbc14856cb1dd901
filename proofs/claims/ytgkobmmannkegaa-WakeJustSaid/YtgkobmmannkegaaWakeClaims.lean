/-
  The law WakeAsks: the document's text over a tape, the fixed course, any length of the list; joined with the driver's walk.
-/
import Derived.Test.YtgkobmmannkegaaWake
import Derived.Test.YtgkobmmannkegaaDWakeAsks
import Derived.Test.YtgkobmmannkegaaPin
namespace Go.Proofs.Ytgkobmmannkegaa
open Go Go.RowKit
set_option linter.unusedVariables false

/-- The loop's state: side by side with the task, or stopped. -/
def WkLoop (T dl : Int) (ins : List Int) (i : Int) (s : TapeS) : Prop := Sync (wkM T dl) ins ⟨0, false⟩ ⟨i, false⟩ s ∨ ∃ st : WkS, Fin (wkM T dl) ins ⟨0, false⟩ st s
theorem wk_last {T dl : Int} {ins : List Int} {i : Int} {s : TapeS} (hL : WkLoop T dl ins i s) (hi : T ≤ i ∨ s.stop = true) : s = ⟨(drive (wkM T dl) ins ⟨0, false⟩).1, (wkM T dl).more (drive (wkM T dl) ins ⟨0, false⟩).2⟩ := by
  rcases hL with h | ⟨st, h⟩
  · have hi : T ≤ i := by
      rcases hi with hi | hi
      · exact hi
      · rw [h.1] at hi; cases hi
    exact (h.done (by simp [wkM]; omega)).1
  · exact h.done.1
/-- One round: a reading; and one more deed, if what was read asks for it. -/
theorem wk_read {T dl : Int} {ins : List Int} {i : Int} {s : TapeS} (hL : WkLoop T dl ins i s) (hi : i < T) (hs : s.stop = false) : ∃ x s', tdo ins s ⟨1, wrap64 (4 + T + i), 0, 0, 0⟩ = (x, s') ∧ s'.out.length ≤ ins.length + 1 ∧
    (¬ (x ≠ 0 ∧ IntKind.u64.wrap (dl + 1) < x) ∧ WkLoop T dl ins (wrap64 (i + 1)) s' ∨
     (x ≠ 0 ∧ IntKind.u64.wrap (dl + 1) < x) ∧ ∃ y s2, tdo ins s' ⟨4, wrap64 (4 + 2 * T + i), 1, 0, 0⟩ = (y, s2) ∧ WkLoop T dl ins (wrap64 (i + 1)) s2) := by
  have hT : ¬ T ≤ i := by omega
  rcases hL with h | ⟨st, h⟩
  · rcases h.ask (by simp [wkM]; omega) ⟨1, wrap64 (4 + T + i), 0, 0, 0⟩ (by simp [wkM, wkDeed]) with ⟨x, h1, _, h3⟩ | ⟨h1, h3⟩
    · rw [h1] at h3
      refine ⟨x, _, h1, Nat.le_succ_of_le h3.2.1, ?_⟩
      by_cases hx : x ≠ 0 ∧ IntKind.u64.wrap (dl + 1) < x
      · have e : (wkM T dl).tell ⟨i, false⟩ x = ⟨i, true⟩ := by simp [wkM, wkTell, hT, hx]
        rw [e] at h3
        refine .inr ⟨hx, ?_⟩
        rcases h3.ask (by simp [wkM]; omega) ⟨4, wrap64 (4 + 2 * T + i), 1, 0, 0⟩ (by simp [wkM, wkDeed]) with ⟨y, g1, _, g3⟩ | ⟨g1, g3⟩
        · have e2 : (wkM T dl).tell ⟨i, true⟩ y = ⟨wrap64 (i + 1), false⟩ := by simp [wkM, wkTell, hT]
          refine ⟨y, _, g1, .inl ?_⟩
          rw [g1, e2] at g3; exact g3
        · refine ⟨0, _, g1, .inr ⟨⟨i, true⟩, ?_⟩⟩
          rw [g1] at g3; exact g3
      · have e : (wkM T dl).tell ⟨i, false⟩ x = ⟨wrap64 (i + 1), false⟩ := by
          simp [wkM, wkTell, hT]; intro h1; exact Int.not_lt.1 (fun h2 => hx ⟨h1, h2⟩)
        rw [e] at h3
        exact .inl ⟨hx, .inl h3⟩
    · rw [h1] at h3
      refine ⟨0, _, h1, ?_, .inl ⟨by simp, .inr ⟨⟨i, false⟩, h3⟩⟩⟩
      have := h.2.1; simp; omega
  · have : s.stop = true := by rw [h.1]
    rw [this] at hs; cases hs
set_option maxHeartbeats 4000000 in
theorem wk_ref (T S L G dl a : Int) (hdl : IntKind.u64.wrap a = dl) (w : World) (x lo : Nat) (inV : Value) (ins : List Int) (hF : FreshTape w x inV ins) (hlo : w.heap.size = lo) (hn : ins.length ≤ 300) (hTb : T < 9223372036854775808) :
    TapeCalls 36 #[.pointer (some ⟨x, 0, none⟩), planV T S L G, .int .i64 a] w x lo inV (.tuple #[]) ⟨(drive (wkM T dl) ins ⟨0, false⟩).1, (wkM T dl).more (drive (wkM T dl) ins ⟨0, false⟩).2⟩ := by
  subst hlo
  subst hdl
  have HF := Lib.hid hF
  have hx := hF.blk.lt
  clear hF
  have T0 : Hid (TapeIn (w.alloc (.cells #[.int .i64 T, .int .i64 S, .int .i64 L, .int .u64 G] 24)) x (w.heap.size + 1) inV ins ⟨[], false⟩) := by
    have := (HF.out.alloc (.cells #[.int .i64 T, .int .i64 S, .int .i64 L, .int .u64 G] 24)).tape; exact Lib.hid (by simpa using this)
  have HL : Hid (WkLoop T (IntKind.u64.wrap a) ins 0 ⟨[], false⟩) := .inl (Sync.start _ _ _)
  have few : ∀ i s, WkLoop T (IntKind.u64.wrap a) ins i s → s.out.length ≤ 4096 := by
    rintro i s (h | ⟨st, h⟩)
    · exact h.few (by omega)
    · exact h.few (by omega)
  have FEW := Lib.hid few
  clear few
  go_enter Try.func36, Try.ntmps36
  go_wp2_with fail
  go_loopw [6, 7] (fun iv xv wr => ∃ (i : Int) (s : TapeS), iv = .int .i64 i ∧ 0 ≤ i ∧ (i = 0 ∨ i ≤ T) ∧ Hid (WkLoop T (IntKind.u64.wrap a) ins i s) ∧ Hid (TapeIn wr x (w.heap.size + 1) inV ins s) ∧ Blk wr w.heap.size [.int .i64 T, .int .i64 S, .int .i64 L, .int .u64 G] 24 ∧
    Hid (Mod (TapeMod x (w.heap.size + 1)) (w.alloc (.cells #[.int .i64 T, .int .i64 S, .int .i64 L, .int .u64 G] 24)) wr)) (fun iv _ _ => (T - intOf iv).toNat)
  case atStart => exact ⟨0, ⟨[], false⟩, rfl, by omega, .inl rfl, HL, T0, Blk.new _ _ _, Mod.refl _ _⟩
  case round =>
    obtain ⟨i, s, rfl, h0, hiT, hL, hT, hP, hM⟩ := hrel
    obtain ⟨_, _, vo, hB, _⟩ := hT.out.tape
    have CB := hB.cell
    have CP := hP.cell
    have z : Mod (fun _ => False) w (w.alloc (.cells #[.int .i64 T, .int .i64 S, .int .i64 L, .int .u64 G] 24)) := (Mod.refl _ _).alloc _
    have Z := Lib.hid z
    clear z
    by_cases hi : i < T
    · have hi64 : wrap64 (i + 1) = i + 1 := by rw [wrap64_def]; omega
      obtain ⟨so, sb⟩ := s
      cases sb with
      | false =>
        obtain ⟨xv, s', g1, gl, g2⟩ := wk_read hL.out hi rfl
        rw [hi64] at g2
        have G1 := Lib.hid g1
        have G2 := Lib.hid g2
        clear g1 g2
        go_wp2_with fail
        refine (rsleep_calls T S L G _ _).mono ?_
        rintro e w2 ⟨rfl, hb2⟩
        have T2 : Hid (TapeIn w2 x _ inV ins ⟨so, false⟩) := ⟨hT.out.tape.below hb2, hT.out.reads.below hb2, hT.out.few, hT.out.short⟩
        have P2 := hP.below' hb2
        have M2 := Lib.hid (hM.out.thenBelow hb2)
        clear CB CP hB hT hP hM hb2
        go_wp2_with fail
        refine (tape_load_eq T2.out G1.out).mono ?_
        rintro e w3 ⟨rfl, ht3, hM3⟩
        have P3 := hM3.blk P2 (by unfold TapeMod; omega)
        have M3 := Lib.hid (M2.out.trans' hM3)
        have T3 := Lib.hid (T2.out.step ht3 hM3 (by omega))
        have C3 := P3.cell
        clear ht3 hM3 P2
        rcases G2.out with ⟨hx0, hn0⟩ | ⟨⟨hx0, hx1⟩, y, s2, hd, hn0⟩
        · have HN := Lib.hid hn0
          clear hn0
          by_cases hz0 : xv = 0
          · subst hz0
            clear hx0
            go_wp2_with fail
            go_roundw
            case rel => exact ⟨i + 1, s', by go_num, by omega, .inr (by omega), HN, T3, P3, M3⟩
            case measure => simp [intOf]; omega
          · have e0 : (xv != 0) = true := by simpa using hz0
            have hx1 : xv ≤ IntKind.u64.wrap (IntKind.u64.wrap a + 1) := by
              rcases Int.lt_or_le (IntKind.u64.wrap (IntKind.u64.wrap a + 1)) xv with h | h
              · exact absurd ⟨hz0, h⟩ hx0
              · exact h
            clear hx0 hz0
            go_wp2_with fail
            go_roundw
            case rel => exact ⟨i + 1, s', by go_num, by omega, .inr (by omega), HN, T3, P3, M3⟩
            case measure => simp [intOf]; omega
        · have HN := Lib.hid hn0
          have HD := Lib.hid hd
          have e0 : (xv != 0) = true := by simpa using hx0
          clear hn0 hd hx0
          go_wp2_with fail
          refine (rsem_calls T S L G _ _).mono ?_
          rintro e w4 ⟨rfl, hb4⟩
          have T4 : Hid (TapeIn w4 x _ inV ins s') := ⟨T3.out.tape.below hb4, T3.out.reads.below hb4, T3.out.few, T3.out.short⟩
          have P4 := P3.below' hb4
          have M4 := Lib.hid (M3.out.thenBelow hb4)
          clear C3 P3 hb4
          go_wp2_with fail
          refine (tape_do_eq T4.out HD.out).mono ?_
          rintro e w5 ⟨rfl, ht5, hM5⟩
          have P5 := hM5.blk P4 (by unfold TapeMod; omega)
          have M5 := Lib.hid (M4.out.trans' hM5)
          have T5 := Lib.hid (T4.out.step ht5 hM5 (FEW.out _ _ HN.out))
          clear ht5 hM5 P4
          go_wp2_with fail
          go_roundw
          case rel => exact ⟨i + 1, s2, by go_num, by omega, .inr (by omega), HN, T5, P5, M5⟩
          case measure => simp [intOf]; omega
      | true =>
        have g3 := Lib.hid (wk_last hL.out (.inr rfl))
        go_wp2_with fail
        go_returns
        refine ⟨rfl, ?_, TapeMod.lower hM.out Z.out (by simp)⟩
        rw [← g3.out]; exact hT.out.tape.lower (by simp) hx
    · have hTi : T ≤ i := by omega
      have g3 := Lib.hid (wk_last hL.out (.inl hTi))
      go_wp2_with fail
      go_returns
      refine ⟨rfl, ?_, TapeMod.lower hM.out Z.out (by simp)⟩
      rw [← g3.out]; exact hT.out.tape.lower (by simp) hx
set_option maxHeartbeats 2000000 in
theorem wk_awake : Gives 32 #[] (.bool true) := by
  intro w
  have w5 : IntKind.u64.wrap 5 = 5 := by decide
  go_enter Try.func32, Try.ntmps32
  go_wp2_with fail
  refine (wk_new 2 1 1 0 5 _).mono ?_
  rw [w5]
  rintro e w1 ⟨b, rfl, hlo, hbl, hR, hb1⟩
  rw [World.size_alloc] at hlo
  have R1 := Lib.hid hR
  have Q1 := (Blk.new w [.int .i64 2, .int .i64 1, .int .i64 1, .int .u64 0] 24).below' hb1
  have V1 := Below.step _ hb1
  clear hR hb1
  go_wp2_with fail
  refine (wk_tell 2 1 1 0 5 _ _ _ 10 R1.out).mono ?_
  rw [show (wkM 2 5).tell ⟨0, false⟩ 10 = ⟨0, true⟩ by simp [wkM, wkTell]; decide]
  rintro e w2 ⟨rfl, hR2, hM2⟩
  have R2 := Lib.hid hR2
  have Q2 := hM2.blk Q1 (by omega)
  clear hR2 Q1
  go_wp2_with fail
  refine (wk_nextY 2 1 1 0 5 _ _ _ R2.out (by simp [wkM])).mono ?_
  rw [show (wkM 2 5).deed ⟨0, true⟩ = ⟨4, 8, 1, 0, 0⟩ by simp [wkM, wkDeed]; rw [wrap64_def]; decide]
  rintro e w3 ⟨rfl, hb3⟩
  have R3 : Hid (Blk w3 b (wkCells 2 1 1 0 5 ⟨0, true⟩) 160) := R2.out.below' hb3
  have Q3 := (Q2.below' hb3).alloc (.cells #[.int .i64 4, .int .i64 8, .int .u64 1, .int .u64 0, .int .u64 0] 31)
  have W3 := below_mod (below_mod V1 hM2 V1.size (fun q hq => by omega)) (Mod.of_below (S := fun _ => False) hb3) (by have := V1.size; have := hM2.size; omega) (fun _ _ => id)
  have z3 : b < w3.heap.size := by have := hM2.size; have := hb3.size; omega
  clear hM2 hb3 R2 R1 Q2
  go_wp2_with fail
  refine (wk_tell 2 1 1 0 5 _ _ _ 0 (R3.out.alloc _)).mono ?_
  rw [show (wkM 2 5).tell ⟨0, true⟩ 0 = ⟨1, false⟩ by simp [wkM, wkTell]; rw [wrap64_def]; decide]
  rintro e w4 ⟨rfl, hR4, hM4⟩
  have PB := hM4.blk (Blk.new w3 _ 31) (by omega)
  have Q4 := hM4.blk Q3 (by omega)
  have R4 := Lib.hid hR4
  have W4 := below_mod (W3.alloc (by have := W3.size; omega) _) hM4 (by have := W3.size; simp; omega) (fun q hq => by omega)
  clear hR4 hM4 Q3
  go_wp2_with fail
  refine (wk_tell 2 1 1 0 5 _ _ _ 4 R4.out).mono ?_
  rw [show (wkM 2 5).tell ⟨1, false⟩ 4 = ⟨2, false⟩ by simp [wkM, wkTell]; rw [show wrap64 2 = 2 by rw [wrap64_def]; decide, if_neg (by decide)]]
  rintro e w5 ⟨rfl, hR5, hM5⟩
  have PB5 := hM5.blk PB (by omega)
  have Q5 := hM5.blk Q4 (by omega)
  have R5 := Lib.hid hR5
  have W5 := below_mod W4 hM5 W4.size (fun q hq => by omega)
  clear hR5 hM5 PB Q4
  go_wp2_with fail
  refine (wk_nextN 2 1 1 0 5 _ _ _ R5.out (by simp [wkM])).mono ?_
  rintro e w6 ⟨rfl, hb6⟩
  have C6 := ((PB5.below' hb6).alloc (.cells #[.int .i64 0, .int .i64 0, .int .u64 0, .int .u64 0, .int .u64 0] 31)).cell
  have Q6 := ((Q5.below' hb6).alloc (.cells #[.int .i64 0, .int .i64 0, .int .u64 0, .int .u64 0, .int .u64 0] 31)).cell
  have W6 := (below_mod W5 (Mod.of_below (S := fun _ => False) hb6) W5.size (fun _ _ => id))
  have W7 := W6.alloc W6.size (.cells #[.int .i64 0, .int .i64 0, .int .u64 0, .int .u64 0, .int .u64 0] 31)
  clear hb6
  go_wp2_with fail
  refine wp_region_reads (by kernel_rfl) (by kernel_rfl) ?_
  repeat (quiet_step ((go_at_call 46; exact calls_later (sem_calls _ _ _ _ _ _))))
  refine wpQuiet_nil ?_
  intro w8 hb8
  go_wp2_with fail
  go_ret
  exact ⟨by simp [wrap64_def, deedEq], below_mod W7 (Mod.of_below (S := fun _ => False) hb8) W7.size (fun _ _ => id)⟩
theorem wakeAsks_walk (T S L G a : Int) (hTb : T < 9223372036854775808) (inV : Value) (ins : List Int) (w : World) (hI : U64s w w.heap.size inV ins) (hn : ins.length ≤ 300) :
    Calls Try.prog 3 #[planV T S L G, .int .i64 a, inV] w fun e w' => e = .returned (.bool true) ∧ Below w.heap.size w w' :=
  WakeAsks_drive T S L G a inV ins w hI hn ⟨0, false⟩ (fun b w1 s => w.heap.size < b ∧ Blk w1 b (wkCells T S L G (IntKind.u64.wrap a) s) 160) (fun b k => k = b ∧ w.heap.size < k) (fun b k h => by omega)
    (mach_block w.heap.size (fun w b s => wk_nextY T S L G _ w b s) (fun w b s => wk_nextN T S L G _ w b s) (fun w b s x => wk_tell T S L G _ w b s x))
    (fun w1 h1 => (wk_new T S L G a w1).mono fun e w' ⟨b, he, h2, h3, h4, h5⟩ => ⟨b, he, h3, ⟨by omega, h4⟩, h5⟩)
    (fun w1 x lo hF hlo => wk_ref T S L G _ a rfl w1 x lo inV ins hF hlo hn hTb) wk_awake
theorem wakeAsks_long (T S L G d : Int) (a : Option Addr) (n c : Nat) (w : World) (hn : 300 < n) :
    Calls Try.prog 3 #[planV T S L G, .int .i64 d, .slice a n c] w fun e w' => e = .returned (.bool true) ∧ Below w.heap.size w w' := by
  go_enter Try.func3, Try.ntmps3
  go_wp2_with fail
  refine (wk_awake _).mono ?_
  rintro e w1 ⟨rfl, hb⟩
  go_wp2_with fail
  go_ret
  exact ⟨rfl, Below.step _ hb⟩
end Go.Proofs.Ytgkobmmannkegaa
